/- The walk of the law LifePlays: it answers true at every list of lists of events, and leaves old memory as it was. -/
import Derived.Test.YtipllcmiemdamaaLf
namespace Go.Proofs.Ytipllcmiemdamaa
open Go.RowKit

/-- A slice of slices of whole numbers that reads as xss. -/
def Rows2 (w : World) (A : Option Addr) (xss : List (List Int)) : Prop :=
  xss.length ≤ maxLen ∧ (xss = [] ∨ ∃ b off, A = some ⟨b, off, none⟩ ∧ ∀ r, r < xss.length → ∃ Ar Cr, w.cell? ⟨b, off + r, none⟩ = some (.slice Ar (xss.getD r []).length Cr) ∧ Ints w Ar (xss.getD r []))
theorem Rows2.at_ {w : World} {A : Option Addr} {xss : List (List Int)} (h : Rows2 w A xss) (r : Nat) (hr : r < xss.length) :
    ∃ b off Ar Cr, A = some ⟨b, off, none⟩ ∧ w.cell? ⟨b, off + r, none⟩ = some (.slice Ar (xss.getD r []).length Cr) ∧ Ints w Ar (xss.getD r []) := by
  obtain ⟨_, rfl | ⟨b, off, rfl, hc⟩⟩ := h
  · simp at hr
  · obtain ⟨Ar, Cr, h1, h2⟩ := hc r hr
    exact ⟨b, off, Ar, Cr, rfl, h1, h2⟩
theorem Rows2.below {w w' : World} {A : Option Addr} {xss : List (List Int)} (h : Rows2 w A xss) (k : Below w.heap.size w w') : Rows2 w' A xss := by
  obtain ⟨h1, h2⟩ := h
  refine ⟨h1, ?_⟩
  rcases h2 with h2 | ⟨b, off, rfl, hc⟩
  · exact .inl h2
  · refine .inr ⟨b, off, rfl, fun r hr => ?_⟩
    obtain ⟨Ar, Cr, h3, h4⟩ := hc r hr
    exact ⟨Ar, Cr, (Keep.of_below k).cell h3 (fun h => h), h4.below k⟩
theorem nxt_false (s e t : Int) (h : (t, false) = nxt s e) : t = s := by
  unfold nxt at h
  repeat' split at h
  all_goals first | (injection h with h1 h2; exact absurd h2 (by simp)) | (injection h)

set_option maxHeartbeats 2000000 in
set_option maxRecDepth 100000 in
theorem lifePlays_calls (zero : Bool) (xss : List (List Int)) (A : Option Addr) (cap : Nat) (w : World) (R : Ending → World → Prop) (HI : Rows2 w A xss) (hR : ∀ w', Below w.heap.size w w' → R (.returned (.bool true)) w') :
    Calls Try.prog 6 #[.bool zero, .slice A xss.length cap] w R := by
  by_cases hl : 100 < xss.length
  · go_enter Try.func6, Try.ntmps6
    go_wp2_with (fail)
    refine alive_calls w _ ?_
    intro w1 hb1
    go_wp2_with (fail)
    exact hb1
  have hlen : xss.length ≤ 100 := by omega
  clear hl
  go_enter Try.func6, Try.ntmps6
  go_wp2_with (fail)
  refine new_calls w _ ?_
  cases zero
  case' false =>
    obtain ⟨g, hg⟩ : ∃ g, g = w.heap.size := ⟨_, rfl⟩
    obtain ⟨W, hW⟩ : ∃ W, W = w.alloc (.cells #[.int .i64 0, .int .i64 0] 38) := ⟨_, rfl⟩
    have hLW : IsLife W g 0 0 := by subst hW; subst hg; exact blk_new _ _
    have hbW : Below w.heap.size w W := by subst hW; exact below_allocs (Below.refl _ _) _
    have HGE : Hid (w.heap.size ≤ g) := Hid.mk (by omega)
    go_wp2_with (fail)
    rw [← hW, ← hg]
    clear hW hg
  case' true =>
    obtain ⟨g, hg⟩ : ∃ g, g = w.heap.size + 1 := ⟨_, rfl⟩
    obtain ⟨W, hW⟩ : ∃ W, W = (w.alloc (.cells #[.int .i64 0, .int .i64 0] 38)).alloc (.cells #[.int .i64 0, .int .i64 0] 38) := ⟨_, rfl⟩
    have hLW : IsLife W g 0 0 := by
      subst hW; subst hg
      have := blk_new (w.alloc (.cells #[.int .i64 0, .int .i64 0] 38)) (.cells #[.int .i64 0, .int .i64 0] 38)
      rw [World.size_alloc] at this
      exact this
    have hbW : Below w.heap.size w W := by subst hW; exact below_allocs (below_allocs (Below.refl _ _) _) _
    have HGE : Hid (w.heap.size ≤ g) := Hid.mk (by omega)
    go_wp2_with (fail)
    rw [← hW, ← hg]
    clear hW hg
  all_goals
    go_loopg [6, 7, 8, 9, 10, 11, 12] (xss.length) (fun gg s dn i n kk t ok wr => ∃ (k : Nat) (st d : Int), k ≤ xss.length ∧ i = .int .i64 k ∧ s = .int .i64 st ∧ dn = .int .i64 d ∧ 0 ≤ d ∧ d ≤ 100 * k ∧ IsLife wr g st d ∧ Hid (gg = xss.length - k) ∧ Below w.heap.size w wr)
    case atStart => exact ⟨0, 0, 0, Nat.zero_le _, rfl, rfl, rfl, by omega, by omega, hLW, Hid.mk rfl, hbW⟩
    case round =>
      obtain ⟨k, st, d, hk, rfl, rfl, rfl, hd0, hdk, HL, HG, HB⟩ := hrel
      clear hLW hbW
      by_cases hlt : k < xss.length
      · obtain ⟨b, off, Ar, Cr, rfl, hck, hrow⟩ := (HI.below HB).at_ k hlt
        have hrow0 : Ints w Ar (xss.getD k []) := by
          obtain ⟨_, _, Ar', _, e1, hck', hrow'⟩ := HI.at_ k hlt
          injection e1 with e1
          injection e1 with e1 e2
          subst e1; subst e2
          have := (Keep.of_below HB).cell hck' (fun h => h)
          rw [this] at hck
          injection hck with hck
          injection hck with h1 h2
          subst h1
          exact hrow'
        obtain ⟨xs, hxs⟩ : ∃ xs, xs = xss.getD k [] := ⟨_, rfl⟩
        rw [← hxs] at hck hrow hrow0
        have hneA : Hid (∀ b off, Ar = some ⟨b, off, none⟩ → 0 < xs.length → b ≠ g) := Hid.mk (by
          intro b' off' hA hx
          obtain ⟨b'', off'', hA', hc⟩ := hrow0.at_ 0 hx
          rw [hA] at hA'
          injection hA' with hA'
          injection hA' with hb _
          have := World.block_lt_of_cell? _ _ hc
          have := HGE.out
          subst hb
          simp only at *
          omega)
        clear hxs hrow0
        have HI2 := Hid.mk HI
        clear HI
        by_cases hlong : 100 < xs.length
        · go_wp2_with (fail)
          exact HB
        · have hshort : xs.length ≤ 100 := by omega
          clear hlong
          obtain ⟨wo, rfl⟩ : ∃ wo : World, wo = wr := ⟨_, rfl⟩
          go_wp2_with (fail)
          go_loopg [6, 9, 10, 11, 12] (xs.length) (fun gj s n i2 t ok wr2 => ∃ (j m : Nat) (s2 : Int), j ≤ xs.length ∧ m ≤ j ∧ i2 = .int .i64 j ∧ s = .int .i64 s2 ∧ n = .int .i64 m ∧ Hid (play st (xs.take j) = (s2, m)) ∧ Hid (gj = xs.length - j) ∧ wr2 = wo)
          case atStart => exact ⟨0, 0, st, Nat.zero_le _, Nat.zero_le _, rfl, rfl, rfl, Hid.mk rfl, Hid.mk rfl, rfl⟩
          case round =>
            obtain ⟨j, m, s2, hj, hm, rfl, rfl, rfl, HP, HGJ, rfl⟩ := hrel
            by_cases hjt : j < xs.length
            · obtain ⟨b2, off2, rfl, hck2⟩ := hrow.at_ j hjt
              obtain ⟨x, hx⟩ : ∃ x, x = xs.getD j 0 := ⟨_, rfl⟩
              rw [← hx] at hck2
              have HX := Hid.mk hx
              obtain ⟨q, hq⟩ : ∃ q, q = nxt s2 x := ⟨_, rfl⟩
              obtain ⟨s3, is⟩ := q
              have HQ := Hid.mk hq
              have HS : Hid (play st (xs.take (j + 1)) = play1 (s2, m) x) := Hid.mk (by rw [take_snoc _ _ hjt, play_snoc, HP.out, ← HX.out])
              clear hx hq hrow HI2
              cases is
              · have hs3 := nxt_false s2 x s3 HQ.out
                subst hs3
                go_wp2_with (fail)
                refine rnext_calls s3 x _ _ ?_
                rw [← HQ.out]
                go_wp2_with (fail)
                go_roundg (xs.length - (j + 1))
                case measure => rw [HGJ.out]; omega
                case rel => exact ⟨j + 1, m, s3, by omega, by omega, by go_num, rfl, rfl, Hid.mk (by rw [HS.out]; unfold play1; simp only [← HQ.out]; rfl), Hid.mk rfl, rfl⟩
              · go_wp2_with (fail)
                refine rnext_calls s2 x _ _ ?_
                rw [← HQ.out]
                go_wp2_with (fail)
                go_roundg (xs.length - (j + 1))
                case measure => rw [HGJ.out]; omega
                case rel => exact ⟨j + 1, m + 1, s3, by omega, by omega, by go_num, rfl, by go_num, Hid.mk (by rw [HS.out]; unfold play1; simp only [← HQ.out]; rfl), Hid.mk rfl, rfl⟩
            · have HF : Hid (play st xs = (s2, m)) := Hid.mk (by have := HP.out; rwa [List.take_of_length_le (by omega)] at this)
              have hm' : m ≤ 100 := by omega
              clear HP hm
              go_wp2_with (fail)
              refine do_calls g st d xs Ar Cr _ _ HL (by omega) (by omega) hrow hneA.out ?_
              rw [HF.out]
              intro w1 hk1 hl1
              have hmin : min (d + ((s2, m) : Int × Nat).2) 4611686018427387904 = d + m := by simp; omega
              rw [hmin] at hl1
              have hgw := HGE.out
              have hb1 : Below w.heap.size w w1 := HB.trans ⟨hk1.os, hk1.tape, hk1.output, hk1.size, fun i hi => hk1.block i (Nat.lt_of_lt_of_le hi HB.size) (fun e => by have : i = g := e; omega)⟩
              clear hk1 HB HL hrow hneA hck hmin
              go_wp2_with (fail)
              refine state_calls g s2 (d + m) _ _ hl1 ?_
              go_wp2_with (fail)
              refine done_calls g s2 (d + m) _ _ hl1 ?_
              go_wp2_with (fail)
              go_roundg (xss.length - (k + 1))
              case measure => rw [HG.out]; omega
              case rel => exact ⟨k + 1, s2, d + m, by omega, by go_num, rfl, rfl, by omega, by omega, hl1, Hid.mk rfl, hb1⟩
      · go_wp2_with (fail)
        refine alive_calls wr _ ?_
        intro w1 hb1
        go_wp2_with (fail)
        refine do_nil _ _ _ ?_
        go_wp2_with (fail)
        refine state_nil _ _ ?_
        go_wp2_with (fail)
        refine done_nil _ _ ?_
        go_wp2_with (fail)
        exact below_allocs (below_then HB hb1) _
end Go.Proofs.Ytipllcmiemdamaa
