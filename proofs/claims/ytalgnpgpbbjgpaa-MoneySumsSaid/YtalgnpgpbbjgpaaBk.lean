/- The walk of the reference's Acc.Sum. -/
import Derived.Test.YtalgnpgpbbjgpaaBj
namespace Go.Proofs.Ytalgnpgpbbjgpaa
open Go.RowKit

theorem six_two (w : World) : ∃ W g h, W = (w.alloc (.cells #[.int .i64 0, .int .i64 0, .int .i64 0, .int .i64 0, .int .i64 0, .int .i64 0] 54)).alloc (.cells #[.int .i64 0, .int .i64 0, .int .i64 0, .int .i64 0, .int .i64 0, .int .i64 0] 54) ∧ g = w.heap.size ∧ h = w.heap.size + 1 ∧
    Six W g (dg 0) ∧ Six W h (dg 0) ∧ Below w.heap.size w W := by
  refine ⟨_, _, _, rfl, rfl, rfl, ?_, ?_, below_allocs (below_allocs (Below.refl _ _) _) _⟩
  · have h1 : Six ((w.alloc (.cells #[.int .i64 0, .int .i64 0, .int .i64 0, .int .i64 0, .int .i64 0, .int .i64 0] 54)).alloc (.cells #[.int .i64 0, .int .i64 0, .int .i64 0, .int .i64 0, .int .i64 0, .int .i64 0] 54)) w.heap.size (fun _ => 0) := blk_alloc (six_new w) _
    exact six_congr h1 (fun j _ => by unfold dg; rw [Nat.zero_div])
  · have := six_new (w.alloc (.cells #[.int .i64 0, .int .i64 0, .int .i64 0, .int .i64 0, .int .i64 0, .int .i64 0] 54))
    rw [World.size_alloc] at this
    exact six_congr this (fun j _ => by unfold dg; rw [Nat.zero_div])

/-- Another big number, when one is written whole. -/
theorem six_far {w : World} {g h : Nat} {f : Nat → Nat} (hs : Six w h f) (hne : h ≠ g) (d : Nat → Nat) :
    Six ((((((w.setCell ⟨g, 0, none⟩ (.int .i64 (d 0 : Int))).setCell ⟨g, 1, none⟩ (.int .i64 (d 1 : Int))).setCell ⟨g, 2, none⟩ (.int .i64 (d 2 : Int))).setCell ⟨g, 3, none⟩ (.int .i64 (d 3 : Int))).setCell ⟨g, 4, none⟩ (.int .i64 (d 4 : Int))).setCell ⟨g, 5, none⟩ (.int .i64 (d 5 : Int))) h f :=
  blk_far (p := ⟨g, 5, none⟩) (blk_far (p := ⟨g, 4, none⟩) (blk_far (p := ⟨g, 3, none⟩) (blk_far (p := ⟨g, 2, none⟩) (blk_far (p := ⟨g, 1, none⟩) (blk_far (p := ⟨g, 0, none⟩) hs hne _) hne _) hne _) hne _) hne _) hne _

/-- Two sums of magnitudes. -/
def Ups (xs : List Int) (k U D : Nat) : Prop := (U : Int) - (D : Int) = sumL (xs.take k) ∧ U + D ≤ k * 9223372036854775808

theorem ups_up {xs : List Int} {k U D m : Nat} {x : Int} (h : Ups xs k U D) (hs : sumL (xs.take (k + 1)) = sumL (xs.take k) + x) (hm : m = x.natAbs) (hx : false = decide (x < 0)) (hl : m ≤ 9223372036854775808) : Ups xs (k + 1) (U + m) D := by
  obtain ⟨h1, h2⟩ := h
  have hx' : ¬ x < 0 := by simpa using hx.symm
  refine ⟨by rw [hs, ← h1]; omega, by omega⟩
theorem ups_down {xs : List Int} {k U D m : Nat} {x : Int} (h : Ups xs k U D) (hs : sumL (xs.take (k + 1)) = sumL (xs.take k) + x) (hm : m = x.natAbs) (hx : true = decide (x < 0)) (hl : m ≤ 9223372036854775808) : Ups xs (k + 1) U (D + m) := by
  obtain ⟨h1, h2⟩ := h
  have hx' : x < 0 := by simpa using hx.symm
  refine ⟨by rw [hs, ← h1]; omega, by omega⟩

theorem ups_pw {xs : List Int} {k U D : Nat} (h : Ups xs k U D) (hk : k ≤ 2000) (m : Nat) (hm : m ≤ 9223372036854775808) : U + m < pw 6 ∧ D + m < pw 6 := by
  have := pw6_big
  obtain ⟨_, h2⟩ := h
  constructor <;> omega

/-- What holds while the difference is found bit by bit. -/
def Steps (hi lo v st : Nat) : Prop := (st = 0 ∧ lo + v = hi) ∨ (∃ e, st = 2 ^ e ∧ lo + v ≤ hi ∧ hi < lo + v + 2 * st)
theorem steps_start {hi lo : Nat} (h1 : lo ≤ hi) (h2 : ¬ lo + 1152921504606846976 < hi) : Steps hi lo 0 1152921504606846976 := .inr ⟨60, by decide, by omega, by omega⟩
theorem steps_end {hi lo v : Nat} (h : Steps hi lo v 0) : lo + v = hi := by
  rcases h with ⟨_, h⟩ | ⟨e, h, _⟩
  · exact h
  · have := Nat.pow_pos (n := e) (show 0 < 2 by omega)
    omega
theorem steps_half {hi lo v v' st : Nat} (h : Steps hi lo v st) (h0 : st ≠ 0) (h1 : lo + v' ≤ hi) (h2 : hi < lo + v' + st) : Steps hi lo v' (st / 2) := by
  rcases h with ⟨h, _⟩ | ⟨e, h, _⟩
  · exact absurd h h0
  · cases e with
    | zero =>
      have : st = 1 := h
      subst this
      exact .inl ⟨rfl, by omega⟩
    | succ e =>
      have he : st = 2 ^ e * 2 := by rw [h, Nat.pow_succ]
      have hq : st / 2 = 2 ^ e := by omega
      exact .inr ⟨e, hq, h1, by omega⟩
theorem steps_yes {hi lo v st : Nat} (h : Steps hi lo v st) (h0 : st ≠ 0) (hle : lo + (v + st) ≤ hi) : Steps hi lo (v + st) (st / 2) := by
  refine steps_half h h0 hle ?_
  rcases h with ⟨h, _⟩ | ⟨e, _, _, h⟩
  · exact absurd h h0
  · omega
theorem steps_no {hi lo v st : Nat} (h : Steps hi lo v st) (h0 : st ≠ 0) (hle : ¬ lo + (v + st) ≤ hi) : Steps hi lo v (st / 2) := by
  refine steps_half h h0 ?_ (by omega)
  rcases h with ⟨h, _⟩ | ⟨e, _, h, _⟩
  · exact absurd h h0
  · exact h

set_option maxHeartbeats 2000000 in
theorem sum_calls (g : Nat) (o : Bool) (xs : List Int) (A : Option Addr) (cap : Nat) (w : World) (R : Ending → World → Prop) (h : RAccAt w g o) (HI : Ints w A xs) (hl : xs.length ≤ 2000)
    (hx : ∀ x ∈ xs, -9223372036854775808 ≤ x ∧ x ≤ 9223372036854775807)
    (hR : ∀ w', Keep (fun i => i = g) w w' → RAccAt w' g (o || (clamp (sumL xs)).2) → R (.returned (.int .i64 (clamp (sumL xs)).1)) w') :
    Calls Try.prog 24 #[.pointer (some ⟨g, 0, none⟩), .slice A xs.length cap] w R := by
  obtain ⟨W, gu, gd, hW, hgu, hgd, hu, hd, hbW⟩ := six_two w
  have HR := Hid.mk hR
  have HA := Hid.mk h
  have HX := Hid.mk hx
  have HG : Hid (w.heap.size ≤ gu ∧ w.heap.size ≤ gd ∧ gu ≠ gd) := Hid.mk (by omega)
  have HIH := Hid.mk HI
  have hli : (xs.length : Int) ≤ 2000 := by omega
  clear hR h hx HI
  go_enter Try.func24, Try.ntmps24
  go_wp2_with (fail)
  rw [← hW, ← hgd, ← hgu]
  clear hW hgu hgd
  go_loopg [7, 8, 9] (xs.length) (fun gg vi v8 v9 wr => ∃ (k U D : Nat), k ≤ xs.length ∧ vi = .int .i64 k ∧ Hid (Ups xs k U D) ∧ Six wr gu (dg U) ∧ Six wr gd (dg D) ∧ Hid (gg = xs.length - k) ∧ Below w.heap.size w wr)
  case atStart => exact ⟨0, 0, 0, Nat.zero_le _, rfl, Hid.mk ⟨by simp [sumL], by omega⟩, hu, hd, Hid.mk rfl, hbW⟩
  case round =>
    obtain ⟨k, U, D, hk, rfl, HU, hu, hd, HGG, HB⟩ := hrel
    clear hbW
    by_cases hlt : k < xs.length
    · obtain ⟨x, hx⟩ : ∃ x, x = xs.getD k 0 := ⟨_, rfl⟩
      obtain ⟨b, off, rfl, hck⟩ := (HIH.out.below HB).at_ k hlt
      rw [← hx] at hck
      have hxb : I64 x := by rw [hx]; exact HX.out _ (by simp [List.getD_eq_getElem?_getD, hlt])
      have HSX : Hid (sumL (xs.take (k + 1)) = sumL (xs.take k) + x) := Hid.mk (by rw [take_snoc _ _ hlt, sumL_snoc, ← hx])
      obtain ⟨m, hm⟩ : ∃ m, m = x.natAbs := ⟨_, rfl⟩
      obtain ⟨p, hp⟩ : ∃ p, p = decide (x < 0) := ⟨_, rfl⟩
      have hml : m ≤ 9223372036854775808 := by obtain ⟨_, _⟩ := hxb; omega
      have HM := Hid.mk (And.intro hm (And.intro hp (And.intro hxb hml)))
      clear hx hm hp hxb hml
      go_wp2_with (fail)
      refine magnitude_calls x _ _ HM.out.2.2.1 ?_
      rw [← HM.out.1, ← HM.out.2.1]
      intro w1 hb1
      have hu1 := six_below hu hb1
      have hd1 := six_below hd hb1
      replace hb1 := below_then HB hb1
      clear HB hu hd hck
      unfold bigV
      go_upto_if 27 with (fail)
      obtain ⟨gm, hgm⟩ : ∃ g, g = w1.heap.size := ⟨_, rfl⟩
      obtain ⟨W1, hW1⟩ : ∃ W, W = w1.alloc (.cells #[.int .i64 (dg m 0 : Int), .int .i64 (dg m 1 : Int), .int .i64 (dg m 2 : Int), .int .i64 (dg m 3 : Int), .int .i64 (dg m 4 : Int), .int .i64 (dg m 5 : Int)] 54) := ⟨_, rfl⟩
      have hm2 : Six W1 gm (dg m) := by subst hW1; subst hgm; exact blk_new _ _
      have hu2 : Six W1 gu (dg U) := by subst hW1; exact blk_alloc hu1 _
      have hd2 : Six W1 gd (dg D) := by subst hW1; exact blk_alloc hd1 _
      have hb2 : Below w.heap.size w W1 := by subst hW1; exact below_allocs hb1 _
      rw [← hW1, ← hgm]
      clear hW1 hgm hu1 hd1 hb1
      obtain ⟨c0, c1, c2, c3, c4, c5, _⟩ := free6 hm2
      have hpw := Hid.mk (ups_pw HU.out (show k ≤ 2000 by omega) m HM.out.2.2.2)
      cases p
      · obtain ⟨a0, a1, a2, a3, a4, a5, _⟩ := free6 hu2
        have HU2 := Hid.mk hu2
        have HD2 := Hid.mk hd2
        have HM2 := Hid.mk hm2
        clear hu2 hd2 hm2
        go_wp2_with (fail)
        refine badd_calls U m _ _ hpw.out.1 ?_
        intro w2 hb3
        have hu3 := six_below HU2.out hb3
        have hd3 := six_below HD2.out hb3
        replace hb3 := below_then hb2 hb3
        clear hb2 a0 a1 a2 a3 a4 a5 c0 c1 c2 c3 c4 c5
        obtain ⟨a0, a1, a2, a3, a4, a5, hf⟩ := free6 hu3
        unfold bigV
        go_wp2_with (fail)
        go_roundg (xs.length - (k + 1))
        case measure => rw [HGG.out]; omega
        case rel => exact ⟨k + 1, U + m, D, by omega, by go_num, Hid.mk (ups_up HU.out HSX.out HM.out.1 HM.out.2.1 HM.out.2.2.2), six_all hu3 (dg (U + m)), six_far hd3 (Ne.symm HG.out.2.2) _, Hid.mk rfl, below_all hb3 HG.out.1 _⟩
      · obtain ⟨a0, a1, a2, a3, a4, a5, _⟩ := free6 hd2
        have HU2 := Hid.mk hu2
        have HD2 := Hid.mk hd2
        have HM2 := Hid.mk hm2
        clear hu2 hd2 hm2
        go_wp2_with (fail)
        refine badd_calls D m _ _ hpw.out.2 ?_
        intro w2 hb3
        have hu3 := six_below HU2.out hb3
        have hd3 := six_below HD2.out hb3
        replace hb3 := below_then hb2 hb3
        clear hb2 a0 a1 a2 a3 a4 a5 c0 c1 c2 c3 c4 c5
        obtain ⟨a0, a1, a2, a3, a4, a5, hf⟩ := free6 hd3
        unfold bigV
        go_wp2_with (fail)
        go_roundg (xs.length - (k + 1))
        case measure => rw [HGG.out]; omega
        case rel => exact ⟨k + 1, U, D + m, by omega, by go_num, Hid.mk (ups_down HU.out HSX.out HM.out.1 HM.out.2.1 HM.out.2.2.2), six_far hu3 HG.out.2.2 _, six_all hd3 (dg (D + m)), Hid.mk rfl, below_all hb3 HG.out.2.1 _⟩
    · obtain rfl : k = xs.length := by omega
      obtain ⟨S, hS⟩ : ∃ S, S = sumL xs := ⟨_, rfl⟩
      have hU := HU.out
      unfold Ups at hU
      rw [List.take_length, ← hS] at hU
      rw [← hS] at HR
      have hUD : U ≤ 18446744073709551616000 ∧ D ≤ 18446744073709551616000 := by obtain ⟨_, h2⟩ := hU; omega
      have hUp : U + 9223372036854775808 < pw 6 ∧ D + 9223372036854775808 < pw 6 := by have := pw6_big; omega
      have HP := Hid.mk hUp
      have HU2 := Hid.mk hU.1
      clear hS hU hUD hUp HU
      obtain ⟨a0, a1, a2, a3, a4, a5, fa⟩ := free6 hu
      obtain ⟨c0, c1, c2, c3, c4, c5, fc⟩ := free6 hd
      have HUS := Hid.mk hu
      have HDS := Hid.mk hd
      clear hu hd
      go_wp2_with (fail)
      refine cmp_calls U D _ _ (by have := HP.out; omega) (by have := HP.out; omega) ?_
      intro w1 hb1
      have hu1 := six_below HUS.out hb1
      have hd1 := six_below HDS.out hb1
      replace hb1 := below_then HB hb1
      clear HB HUS HDS a0 a1 a2 a3 a4 a5 fa c0 c1 c2 c3 c4 c5 fc
      obtain ⟨minus, hi, lo, hminus, hhi, hS⟩ : ∃ (minus : Bool) (hi lo : Nat), minus = decide (U < D) ∧ ((minus = true ∧ hi = D ∧ lo = U) ∨ (minus = false ∧ hi = U ∧ lo = D)) ∧ lo ≤ hi ∧ S = (if minus then -((hi : Int) - lo) else (hi : Int) - lo) ∧ hi < pw 6 ∧ lo + 9223372036854775808 < pw 6 := by
        have h1 := HP.out
        have h2 := HU2.out
        by_cases h : U < D
        · exact ⟨true, D, U, by simp [h], .inl ⟨rfl, rfl, rfl⟩, by omega, by simp only [if_true]; omega, by omega, by omega⟩
        · exact ⟨false, U, D, by simp [h], .inr ⟨rfl, rfl, rfl⟩, by omega, by simp only [Bool.false_eq_true, if_false]; omega, by omega, by omega⟩
      have HS := Hid.mk hS
      have HMI : Hid (decide (cmpN U D < 0) = minus) := Hid.mk (by rw [hminus, decide_eq_decide.2 cmp_neg])
      clear hS hminus
      go_upto_if 38 with (fail)
      rw [HMI.out]
      go_cut [] (fun wc => Six wc gu (dg hi) ∧ Six wc gd (dg lo) ∧ Below w.heap.size w wc)
      case first =>
        rcases hhi with ⟨rfl, rfl, rfl⟩ | ⟨rfl, rfl, rfl⟩
        · obtain ⟨a0, a1, a2, a3, a4, a5, fa⟩ := free6 hu1
          obtain ⟨c0, c1, c2, c3, c4, c5, fc⟩ := free6 hd1
          have HUS := Hid.mk hu1
          have HDS := Hid.mk hd1
          clear hu1 hd1
          have hne1 : ¬ gu = gd := HG.out.2.2
          have hne2 : ¬ gd = gu := Ne.symm HG.out.2.2
          go_wp2_with (fail)
          go_meet
          case rel =>
            clear a0 a1 a2 a3 a4 a5 c0 c1 c2 c3 c4 c5 fa fc HX HR HIH
            have k1 := six_all HUS.out (dg hi)
            have k2 := six_far HDS.out (Ne.symm HG.out.2.2) (dg hi)
            have k3 := six_far k1 HG.out.2.2 (dg lo)
            have k4 := six_all k2 (dg lo)
            have k5 := below_all hb1 HG.out.1 (dg hi)
            have k6 := below_all k5 HG.out.2.1 (dg lo)
            exact ⟨k3, k4, k6⟩
        · go_wp2_with (fail)
          go_meet
          case rel => exact ⟨hu1, hd1, hb1⟩
      case rest =>
        obtain ⟨hu, hd, hb⟩ := hcut
        clear hu1 hd1 hb1 HMI hhi HP HU2
        go_upto_region 12 with (fail)
        have HS12 : Hid (∀ w', Below wc.heap.size wc w' → Twelve gu gd (dg hi) (dg lo) w') := Hid.mk (fun w' hb => twelve (six_below hu hb) (six_below hd hb))
        obtain ⟨a0, a1, a2, a3, a4, a5, c0, c1, c2, c3, c4, c5⟩ := HS12.out wc (Below.refl _ _)
        have HV : Hid ((1152921504606846976 : Nat) ≤ 9223372036854775807 ∧ lo + 1152921504606846976 < pw 6 ∧ hi < pw 6) := Hid.mk (by have := HS.out.2.2; omega)
        go_region_held3 (fun w' => w'.cell? ⟨gu, 0, none⟩ = some (.int .i64 (dg hi 0)) ∧ w'.cell? ⟨gu, 1, none⟩ = some (.int .i64 (dg hi 1)) ∧ w'.cell? ⟨gu, 2, none⟩ = some (.int .i64 (dg hi 2)) ∧ w'.cell? ⟨gu, 3, none⟩ = some (.int .i64 (dg hi 3)) ∧ w'.cell? ⟨gu, 4, none⟩ = some (.int .i64 (dg hi 4)) ∧ w'.cell? ⟨gu, 5, none⟩ = some (.int .i64 (dg hi 5)) ∧ w'.cell? ⟨gd, 0, none⟩ = some (.int .i64 (dg lo 0)) ∧ w'.cell? ⟨gd, 1, none⟩ = some (.int .i64 (dg lo 1)) ∧ w'.cell? ⟨gd, 2, none⟩ = some (.int .i64 (dg lo 2)) ∧ w'.cell? ⟨gd, 3, none⟩ = some (.int .i64 (dg lo 3)) ∧ w'.cell? ⟨gd, 4, none⟩ = some (.int .i64 (dg lo 4)) ∧ w'.cell? ⟨gd, 5, none⟩ = some (.int .i64 (dg lo 5))) (first | exact HS12.out _ HB3 | exact HS12.out _ HB2 | exact HS12.out _ HB1 | exact ⟨a0, a1, a2, a3, a4, a5, c0, c1, c2, c3, c4, c5⟩) (first
          | (go_at_call 38
             refine of_calls (1152921504606846976) _ _ ?_ ?_
             · exact HV.out.1
             intro w4 hb4
             have HB1 : Below wc.heap.size wc w4 := after_draw hb4)
          | (go_at_call 43
             refine badd_calls lo (1152921504606846976) _ _ ?_ ?_
             · exact HV.out.2.1
             intro w5 hb5
             have HB2 : Below wc.heap.size wc w5 := below_then HB1 hb5)
          | (go_at_call 44
             refine cmp_calls (lo + (1152921504606846976)) hi _ _ ?_ ?_ ?_
             · exact HV.out.2.1
             · exact HV.out.2.2
             intro w6 hb6
             have HB3 : Below wc.heap.size wc w6 := below_then HB2 hb6))
        have hu1 := six_below hu HB3
        have hd1 := six_below hd HB3
        replace hb := below_then hb HB3
        have HUS := Hid.mk hu1
        have HDS := Hid.mk hd1
        clear hu hd hu1 hd1 HS12 a0 a1 a2 a3 a4 a5 c0 c1 c2 c3 c4 c5 HB1 HB2 HB3 hb4 hb5 hb6
        by_cases hbig : lo + 1152921504606846976 < hi
        · have hcm : cmpN (lo + 1152921504606846976) hi < 0 := cmp_neg.2 hbig
          have hA := RAccAt.below HA.out hb
          have hc : clamp S = ((if minus then -1152921504606846976 else 1152921504606846976), true) := by
            have h1 := HS.out.2.1
            unfold clamp
            cases minus
            · simp only [Bool.false_eq_true, if_false] at h1 ⊢
              rw [if_pos (by omega)]
            · simp only [if_true] at h1 ⊢
              rw [if_neg (by omega), if_pos (by omega)]
          have hR2 := HR.out _ ((keep_g (g := g) hb).setCell (p := ⟨g, 0, none⟩) (.inl rfl) (.bool true)) (by rw [hc, Bool.or_true]; exact hA.set true)
          rw [hc] at hR2
          have HR2 := Hid.mk hR2
          clear hbig hc hR2 HR HS HV
          go_wp2_with (fail)
          refine end_calls g o minus _ _ hA ?_
          cases minus
          all_goals
            go_wp2_with (fail)
            exact HR2.out
        · have hcm : 0 ≤ cmpN (lo + 1152921504606846976) hi := by
            have := mt cmp_neg.1 hbig
            omega
          have hc : clamp S = (S, false) := by
            have h1 := HS.out.2.1
            unfold clamp
            cases minus
            · simp only [Bool.false_eq_true, if_false] at h1
              have := HS.out.1
              rw [if_neg (by omega), if_neg (by omega)]
            · simp only [if_true] at h1
              have := HS.out.1
              rw [if_neg (by omega), if_neg (by omega)]
          have HC := Hid.mk hc
          have HBG := Hid.mk hbig
          clear hbig hc HV
          go_wp2_with (fail)
          clear hcm
          go_loopg [11, 12] 1152921504606846976 (fun gg vv vs wr => ∃ (v st : Nat), vv = .int .i64 v ∧ vs = .int .i64 st ∧ (v : Int) ≤ 1152921504606846976 ∧ (st : Int) ≤ 1152921504606846976 ∧ Hid (Steps hi lo v st) ∧ Six wr gu (dg hi) ∧ Six wr gd (dg lo) ∧ Hid (gg = st) ∧ Below w.heap.size w wr)
          case atStart => exact ⟨0, 1152921504606846976, rfl, rfl, by omega, by omega, Hid.mk (steps_start HS.out.1 HBG.out), HUS.out, HDS.out, Hid.mk rfl, hb⟩
          case round =>
            obtain ⟨v, st, rfl, rfl, hv, hst, HT, hu, hd, HGS, HB⟩ := hrel
            clear hb HUS HDS
            by_cases h0 : st = 0
            · subst h0
              have hend := steps_end HT.out
              have hval : S = if minus = true then -(v : Int) else (v : Int) := by
                rw [HS.out.2.1]
                cases minus
                · simp only [Bool.false_eq_true, if_false]; omega
                · simp only [if_true]; omega
              have hc := HC.out
              have hR2 := HR.out wr (keep_g HB) (by rw [hc, Bool.or_false]; exact RAccAt.below HA.out HB)
              rw [hc, hval] at hR2
              have HR2 := Hid.mk hR2
              have e1 : IntKind.i64.wrap (-(v : Int)) = -(v : Int) := by rw [IntKind.wrap_i64]; omega
              clear hend hval hc hR2 HR HS HC
              cases minus
              all_goals
                go_wp2_with (fail)
                exact HR2.out
            · have hst0 : (0 : Int) < (st : Int) := by omega
              obtain ⟨z, hz⟩ : ∃ z, z = v + st := ⟨_, rfl⟩
              have e1 : (v : Int) + (st : Int) = (z : Int) := by omega
              have e2 : IntKind.i64.wrap ((v : Int) + (st : Int)) = (z : Int) := by rw [e1, IntKind.wrap_i64]; omega
              have hz2 : (z : Int) ≤ 2305843009213693952 := by omega
              have e3 : IntKind.i64.wrap (z : Int) = (z : Int) := by rw [IntKind.wrap_i64]; omega
              have HV : Hid (z ≤ 9223372036854775807 ∧ lo + z < pw 6 ∧ hi < pw 6) := Hid.mk (by have := HS.out.2.2; omega)
              have HZ := Hid.mk hz
              have H0 := Hid.mk h0
              clear hz h0
              have HS12 : Hid (∀ w', Below wr.heap.size wr w' → Twelve gu gd (dg hi) (dg lo) w') := Hid.mk (fun w' hb => twelve (six_below hu hb) (six_below hd hb))
              obtain ⟨a0, a1, a2, a3, a4, a5, c0, c1, c2, c3, c4, c5⟩ := HS12.out wr (Below.refl _ _)
              go_wp2_with (fail)
              go_region_held3 (fun w' => w'.cell? ⟨gu, 0, none⟩ = some (.int .i64 (dg hi 0)) ∧ w'.cell? ⟨gu, 1, none⟩ = some (.int .i64 (dg hi 1)) ∧ w'.cell? ⟨gu, 2, none⟩ = some (.int .i64 (dg hi 2)) ∧ w'.cell? ⟨gu, 3, none⟩ = some (.int .i64 (dg hi 3)) ∧ w'.cell? ⟨gu, 4, none⟩ = some (.int .i64 (dg hi 4)) ∧ w'.cell? ⟨gu, 5, none⟩ = some (.int .i64 (dg hi 5)) ∧ w'.cell? ⟨gd, 0, none⟩ = some (.int .i64 (dg lo 0)) ∧ w'.cell? ⟨gd, 1, none⟩ = some (.int .i64 (dg lo 1)) ∧ w'.cell? ⟨gd, 2, none⟩ = some (.int .i64 (dg lo 2)) ∧ w'.cell? ⟨gd, 3, none⟩ = some (.int .i64 (dg lo 3)) ∧ w'.cell? ⟨gd, 4, none⟩ = some (.int .i64 (dg lo 4)) ∧ w'.cell? ⟨gd, 5, none⟩ = some (.int .i64 (dg lo 5))) (first | exact HS12.out _ HB3 | exact HS12.out _ HB2 | exact HS12.out _ HB1 | exact ⟨a0, a1, a2, a3, a4, a5, c0, c1, c2, c3, c4, c5⟩) (first
                | (go_at_call 38
                   refine of_calls (z) _ _ ?_ ?_
                   · exact HV.out.1
                   intro w4 hb4
                   have HB1 : Below wr.heap.size wr w4 := after_draw hb4)
                | (go_at_call 43
                   refine badd_calls lo (z) _ _ ?_ ?_
                   · exact HV.out.2.1
                   intro w5 hb5
                   have HB2 : Below wr.heap.size wr w5 := below_then HB1 hb5)
                | (go_at_call 44
                   refine cmp_calls (lo + (z)) hi _ _ ?_ ?_ ?_
                   · exact HV.out.2.1
                   · exact HV.out.2.2
                   intro w6 hb6
                   have HB3 : Below wr.heap.size wr w6 := below_then HB2 hb6))
              have hu1 := six_below hu HB3
              have hd1 := six_below hd HB3
              replace HB := below_then HB HB3
              have HUS := Hid.mk hu1
              have HDS := Hid.mk hd1
              clear hu hd hu1 hd1 HS12 a0 a1 a2 a3 a4 a5 c0 c1 c2 c3 c4 c5 HB1 HB2 HB3 hb4 hb5 hb6 HV
              by_cases hle : lo + z ≤ hi
              · have hcm : cmpN (lo + z) hi ≤ 0 := cmp_le.2 hle
                have HT2 : Hid (Steps hi lo z (st / 2)) := Hid.mk (by rw [HZ.out]; exact steps_yes HT.out H0.out (by rw [← HZ.out]; exact hle))
                have hz3 : z ≤ 1152921504606846976 := by have := HBG.out; omega
                clear hle HT
                go_wp2_with (fail)
                go_roundg (st / 2)
                case measure => rw [HGS.out]; omega
                case rel => exact ⟨z, st / 2, rfl, by go_num, by omega, by omega, HT2, HUS.out, HDS.out, Hid.mk rfl, HB⟩
              · have hcm : 0 < cmpN (lo + z) hi := cmp_pos.2 (by omega)
                have HT2 : Hid (Steps hi lo v (st / 2)) := Hid.mk (steps_no HT.out H0.out (by rw [← HZ.out]; exact hle))
                clear hle HT
                go_wp2_with (fail)
                go_roundg (st / 2)
                case measure => rw [HGS.out]; omega
                case rel => exact ⟨v, st / 2, rfl, by go_num, by omega, by omega, HT2, HUS.out, HDS.out, Hid.mk rfl, HB⟩
end Go.Proofs.Ytalgnpgpbbjgpaa
