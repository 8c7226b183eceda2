/- The walk of the law LifeEnds: it answers true at every list of events, and leaves old memory as it was. -/
import Derived.Test.YtipllcmiemdamaaLe
namespace Go.Proofs.Ytipllcmiemdamaa
open Go.RowKit

/-- What a round leaves: the state, how often matched, how often settled. -/
def Good (st m t : Int) : Prop := (st = 0 ∧ m = 0 ∧ t = 0) ∨ ((st = 1 ∨ st = 2) ∧ m = 1 ∧ t = 0) ∨ (3 ≤ st ∧ st ≤ 5 ∧ 0 ≤ t ∧ t ≤ m ∧ m ≤ 1)
theorem good_step (st m t x : Int) (h : Good st m t) :
    (nxt st x).2 = true → st ≤ 2 ∧ Good (nxt st x).1 (m + if x = 0 then 1 else 0) (t + if x = 2 then 1 else 0) := by
  intro hn
  unfold Good at h
  unfold nxt at *
  by_cases c0 : x = 0 ∧ st = 0
  · rw [if_pos c0]; obtain ⟨rfl, hs⟩ := c0; show st ≤ 2 ∧ Good 1 (m + 1) (t + 0); unfold Good; omega
  rw [if_neg c0] at hn ⊢
  by_cases c1 : x = 1 ∧ (st = 1 ∨ st = 2)
  · rw [if_pos c1]; obtain ⟨rfl, hs⟩ := c1; show st ≤ 2 ∧ Good 2 (m + 0) (t + 0); unfold Good; omega
  rw [if_neg c1] at hn ⊢
  by_cases c2 : x = 2 ∧ (st = 1 ∨ st = 2)
  · rw [if_pos c2]; obtain ⟨rfl, hs⟩ := c2; show st ≤ 2 ∧ Good 3 (m + 0) (t + 1); unfold Good; omega
  rw [if_neg c2] at hn ⊢
  by_cases c3 : x = 3 ∧ 0 ≤ st ∧ st ≤ 2
  · rw [if_pos c3]; obtain ⟨rfl, hs⟩ := c3; show st ≤ 2 ∧ Good 4 (m + 0) (t + 0); unfold Good; omega
  rw [if_neg c3] at hn ⊢
  by_cases c4 : x = 4 ∧ 0 ≤ st ∧ st ≤ 2
  · rw [if_pos c4]; obtain ⟨rfl, hs⟩ := c4; show st ≤ 2 ∧ Good 5 (m + 0) (t + 0); unfold Good; omega
  rw [if_neg c4] at hn
  exact absurd hn (by simp)
theorem play_one_yes (st x s2 : Int) (h : (s2, true) = nxt st x) : play st [x] = (s2, 1) := by simp [play, play1, ← h]
theorem play_one_no (st x s2 : Int) (h : (s2, false) = nxt st x) : play st [x] = (st, 0) := by simp [play, play1, ← h]

set_option maxHeartbeats 2000000 in
theorem lifeEnds_calls (xs : List Int) (A : Option Addr) (cap : Nat) (w : World) (R : Ending → World → Prop) (HI : Ints w A xs) (_ : xs.length * 8 ≤ 140737488351232) (_ : ∀ x ∈ xs, -9223372036854775808 ≤ x ∧ x ≤ 9223372036854775807) (hR : ∀ w', Below w.heap.size w w' → R (.returned (.bool true)) w') :
    Calls Try.prog 4 #[.slice A xs.length cap] w R := by
  by_cases hl : 300 < xs.length
  · go_enter Try.func4, Try.ntmps4
    go_wp2_with (fail)
    refine alive_calls w _ ?_
    intro w1 hb1
    go_wp2_with (fail)
    exact hb1
  have hlen : xs.length ≤ 300 := by omega
  clear hl
  obtain ⟨g, hg⟩ : ∃ g, g = w.heap.size := ⟨_, rfl⟩
  obtain ⟨W, hW⟩ : ∃ W, W = w.alloc (.cells #[.int .i64 0, .int .i64 0] 38) := ⟨_, rfl⟩
  have hLW : IsLife W g 0 0 := by subst hW; subst hg; exact blk_new _ _
  have hbW : Below w.heap.size w W := by subst hW; exact below_allocs (Below.refl _ _) _
  have HI1 := HI.below hbW
  have HWE := Hid.mk hW
  have HGE := Hid.mk hg
  have hgA : Hid (∀ b off, A = some ⟨b, off, none⟩ → xs ≠ [] → b < w.heap.size) := Hid.mk (by
    intro b off hA hx
    obtain ⟨b', off', hA', hc⟩ := HI.at_ 0 (by cases xs with | nil => exact absurd rfl hx | cons => simp)
    rw [hA] at hA'
    injection hA' with hA'
    injection hA' with hb _
    rw [hb]
    exact World.block_lt_of_cell? _ _ hc)
  clear hW hg
  go_enter Try.func4, Try.ntmps4
  go_wp2_with (fail)
  refine new_calls w _ ?_
  rw [← HWE.out, ← HGE.out]
  go_wp2_with (fail)
  go_loopg [4, 5, 6, 7, 8] (xs.length) (fun gg m t o i n wr => ∃ (k : Nat) (st d mm tt : Int), k ≤ xs.length ∧ i = .int .i64 k ∧ m = .int .i64 mm ∧ t = .int .i64 tt ∧ o = .bool (decide (3 ≤ st)) ∧ 0 ≤ d ∧ d ≤ k ∧ Good st mm tt ∧ IsLife wr g st d ∧ Hid (gg = xs.length - k) ∧ Below w.heap.size w wr)
  case atStart => exact ⟨0, 0, 0, 0, 0, Nat.zero_le _, rfl, rfl, rfl, rfl, by omega, by omega, .inl ⟨rfl, rfl, rfl⟩, hLW, Hid.mk rfl, hbW⟩
  case round =>
    obtain ⟨k, st, d, mm, tt, hk, rfl, rfl, rfl, rfl, hd0, hdk, hGd, HL, HG, HB⟩ := hrel
    by_cases hlt : k < xs.length
    · obtain ⟨x, hx⟩ : ∃ x, x = xs.getD k 0 := ⟨_, rfl⟩
      obtain ⟨b, off, rfl, hck⟩ := (HI.below HB).at_ k hlt
      rw [← hx] at hck
      have hbw : b < w.heap.size := hgA.out b off rfl (by intro e; subst e; simp at hlt)
      obtain ⟨q, hq⟩ : ∃ q, q = nxt st x := ⟨_, rfl⟩
      obtain ⟨s2, is⟩ := q
      have HX := Hid.mk hx
      have hne : b ≠ g := by rw [HGE.out]; omega
      have hgw : w.heap.size ≤ g := by rw [HGE.out]; omega
      clear hx HWE HGE
      go_wp2_with (fail)
      have hi1 : Ints (wr.alloc (.cells #[.int .i64 x] 3)) (some ⟨wr.heap.size, 0, none⟩) [x] := Ints.new wr [x] 3 (by simp [maxLen])
      refine do_calls g st d [x] (some ⟨wr.heap.size, 0, none⟩) 1 _ _ (blk_alloc HL _) (by omega) (by simp) hi1 (fun b' off' h _ => by have := blk_lt HL; simp at h; omega) ?_
      clear hi1
      intro w1 hk1 hl1
      have hb1 : Below w.heap.size w w1 := (below_allocs HB _).trans ⟨hk1.os, hk1.tape, hk1.output, hk1.size, fun i hi => hk1.block i (Nat.lt_of_lt_of_le hi (below_allocs HB _).size) (fun e => by have : i = g := e; omega)⟩
      have hck1 : w1.cell? ⟨b, off + k, none⟩ = some (.int .i64 x) := hk1.cell (Below.cell (below_allocs (Below.refl _ _) _) (World.block_lt_of_cell? _ _ hck) ▸ hck) hne
      clear hk1 hck HI HB HL hgA
      cases is
      · rw [play_one_no st x s2 hq] at hl1 ⊢
        have hmin : min (d + ((st, 0) : Int × Nat).2) 4611686018427387904 = d := by simp; omega
        rw [hmin] at hl1
        clear hmin
        have HQ := Hid.mk hq
        clear hq
        have hb := hGd
        unfold Good at hb
        have HGd := Hid.mk hGd
        clear hGd
        by_cases h3 : 3 ≤ st
        · have E1 : Hid ((decide (0 ≤ st) && decide (st ≤ 2)) = false) := Hid.mk (by simp; omega)
          have E2 : Hid ((decide (3 ≤ st) && decide (st ≤ 5)) = true) := Hid.mk (by simp; omega)
          have E3 : Hid (decide (3 ≤ st) = true) := Hid.mk (by simpa using h3)
          have m1 : mm ≤ 1 := by omega
          have m2 : tt ≤ 1 := by omega
          have m3 : tt ≤ mm := by omega
          clear hb
          go_wp2_with (fail)
          refine state_calls g st d w1 _ hl1 ?_
          go_wp2_with (fail)
          refine over_at st _ w1 _ (by simp) ?_
          rw [E2.out]
          go_wp2_with (fail)
          refine state_calls g st d _ _ (blk_alloc hl1 _) ?_
          go_wp2_with (fail)
          refine open_at st _ _ _ (by simp) ?_
          rw [E1.out]
          go_wp2_with (fail)
          go_roundg (xs.length - (k + 1))
          case measure => rw [HG.out]; omega
          case rel => exact ⟨k + 1, st, d, _, _, by omega, by go_num, rfl, rfl, by rw [E3.out], by omega, by omega, HGd.out, blk_alloc (blk_alloc hl1 _) _, Hid.mk rfl, below_allocs (below_allocs hb1 _) _⟩
        · have E1 : Hid ((decide (0 ≤ st) && decide (st ≤ 2)) = true) := Hid.mk (by simp; omega)
          have E2 : Hid ((decide (3 ≤ st) && decide (st ≤ 5)) = false) := Hid.mk (by simp; omega)
          have E3 : Hid (decide (3 ≤ st) = false) := Hid.mk (by simpa using h3)
          have m1 : mm ≤ 1 := by omega
          have m2 : tt ≤ 1 := by omega
          have m3 : tt ≤ mm := by omega
          clear hb
          go_wp2_with (fail)
          refine state_calls g st d w1 _ hl1 ?_
          go_wp2_with (fail)
          refine over_at st _ w1 _ (by simp) ?_
          rw [E2.out]
          go_wp2_with (fail)
          refine state_calls g st d _ _ (blk_alloc hl1 _) ?_
          go_wp2_with (fail)
          refine open_at st _ _ _ (by simp) ?_
          rw [E1.out]
          go_wp2_with (fail)
          go_roundg (xs.length - (k + 1))
          case measure => rw [HG.out]; omega
          case rel => exact ⟨k + 1, st, d, _, _, by omega, by go_num, rfl, rfl, by rw [E3.out], by omega, by omega, HGd.out, blk_alloc (blk_alloc hl1 _) _, Hid.mk rfl, below_allocs (below_allocs hb1 _) _⟩
      · have hgs := good_step st mm tt x hGd (by rw [← hq])
        rw [play_one_yes st x s2 hq] at hl1 ⊢
        have hmin : min (d + ((s2, 1) : Int × Nat).2) 4611686018427387904 = d + 1 := by simp; omega
        rw [hmin] at hl1
        rw [← hq] at hgs
        have HQ := Hid.mk hq
        clear hq hmin
        obtain ⟨hst2, hgd2⟩ := hgs
        have h3 : ¬ 3 ≤ st := by omega
        obtain ⟨mm2, hm2⟩ : ∃ y, y = mm + (if x = 0 then 1 else 0) := ⟨_, rfl⟩
        obtain ⟨tt2, ht2⟩ : ∃ y, y = tt + (if x = 2 then 1 else 0) := ⟨_, rfl⟩
        rw [← hm2, ← ht2] at hgd2
        have hb := hgd2
        unfold Good at hb hGd
        have HGd := Hid.mk hgd2
        have bm : 0 ≤ mm ∧ mm ≤ 1 ∧ 0 ≤ tt ∧ tt ≤ 1 := by omega
        obtain ⟨bm1, bm2, bm3, bm4⟩ := bm
        have m1 : mm2 ≤ 1 := by omega
        have m2 : tt2 ≤ 1 := by omega
        have m3 : tt2 ≤ mm2 := by omega
        have m4 : 0 ≤ s2 ∧ s2 ≤ 5 := by omega
        obtain ⟨m4, m5⟩ := m4
        clear hb hGd hgd2
        by_cases h0 : x = 0
        · subst h0
          simp only [reduceIte, Int.reduceEq, Int.add_zero] at hm2 ht2
          subst hm2 ht2
          have h3d : Hid (decide (3 ≤ st) = false) := Hid.mk (by simpa using h3)
          by_cases h4 : 3 ≤ s2
          · have E1 : Hid ((decide (0 ≤ s2) && decide (s2 ≤ 2)) = false) := Hid.mk (by simp; omega)
            have E2 : Hid ((decide (3 ≤ s2) && decide (s2 ≤ 5)) = true) := Hid.mk (by simp; omega)
            have E3 : Hid (decide (3 ≤ s2) = true) := Hid.mk (by simpa using h4)
            go_wp2_with (fail)
            refine state_calls g s2 (d + 1) w1 _ hl1 ?_
            go_wp2_with (fail)
            refine over_at s2 _ w1 _ (by simp) ?_
            rw [E2.out]
            go_wp2_with (fail)
            refine state_calls g s2 (d + 1) _ _ (blk_alloc hl1 _) ?_
            go_wp2_with (fail)
            refine open_at s2 _ _ _ (by simp) ?_
            rw [E1.out]
            go_wp2_with (fail)
            go_roundg (xs.length - (k + 1))
            case measure => rw [HG.out]; omega
            case rel => exact ⟨k + 1, s2, (d + 1), _, _, by omega, by go_num, rfl, rfl, by rw [E3.out], by omega, by omega, HGd.out, blk_alloc (blk_alloc hl1 _) _, Hid.mk rfl, below_allocs (below_allocs hb1 _) _⟩
          · have E1 : Hid ((decide (0 ≤ s2) && decide (s2 ≤ 2)) = true) := Hid.mk (by simp; omega)
            have E2 : Hid ((decide (3 ≤ s2) && decide (s2 ≤ 5)) = false) := Hid.mk (by simp; omega)
            have E3 : Hid (decide (3 ≤ s2) = false) := Hid.mk (by simpa using h4)
            go_wp2_with (fail)
            refine state_calls g s2 (d + 1) w1 _ hl1 ?_
            go_wp2_with (fail)
            refine over_at s2 _ w1 _ (by simp) ?_
            rw [E2.out]
            go_wp2_with (fail)
            refine state_calls g s2 (d + 1) _ _ (blk_alloc hl1 _) ?_
            go_wp2_with (fail)
            refine open_at s2 _ _ _ (by simp) ?_
            rw [E1.out]
            go_wp2_with (fail)
            go_roundg (xs.length - (k + 1))
            case measure => rw [HG.out]; omega
            case rel => exact ⟨k + 1, s2, (d + 1), _, _, by omega, by go_num, rfl, rfl, by rw [E3.out], by omega, by omega, HGd.out, blk_alloc (blk_alloc hl1 _) _, Hid.mk rfl, below_allocs (below_allocs hb1 _) _⟩
        · by_cases h2 : x = 2
          · subst h2
            simp only [reduceIte, Int.reduceEq, Int.add_zero] at hm2 ht2
            subst hm2 ht2
            have h3d : Hid (decide (3 ≤ st) = false) := Hid.mk (by simpa using h3)
            by_cases h4 : 3 ≤ s2
            · have E1 : Hid ((decide (0 ≤ s2) && decide (s2 ≤ 2)) = false) := Hid.mk (by simp; omega)
              have E2 : Hid ((decide (3 ≤ s2) && decide (s2 ≤ 5)) = true) := Hid.mk (by simp; omega)
              have E3 : Hid (decide (3 ≤ s2) = true) := Hid.mk (by simpa using h4)
              go_wp2_with (fail)
              refine state_calls g s2 (d + 1) w1 _ hl1 ?_
              go_wp2_with (fail)
              refine over_at s2 _ w1 _ (by simp) ?_
              rw [E2.out]
              go_wp2_with (fail)
              refine state_calls g s2 (d + 1) _ _ (blk_alloc hl1 _) ?_
              go_wp2_with (fail)
              refine open_at s2 _ _ _ (by simp) ?_
              rw [E1.out]
              go_wp2_with (fail)
              go_roundg (xs.length - (k + 1))
              case measure => rw [HG.out]; omega
              case rel => exact ⟨k + 1, s2, (d + 1), _, _, by omega, by go_num, rfl, rfl, by rw [E3.out], by omega, by omega, HGd.out, blk_alloc (blk_alloc hl1 _) _, Hid.mk rfl, below_allocs (below_allocs hb1 _) _⟩
            · have E1 : Hid ((decide (0 ≤ s2) && decide (s2 ≤ 2)) = true) := Hid.mk (by simp; omega)
              have E2 : Hid ((decide (3 ≤ s2) && decide (s2 ≤ 5)) = false) := Hid.mk (by simp; omega)
              have E3 : Hid (decide (3 ≤ s2) = false) := Hid.mk (by simpa using h4)
              go_wp2_with (fail)
              refine state_calls g s2 (d + 1) w1 _ hl1 ?_
              go_wp2_with (fail)
              refine over_at s2 _ w1 _ (by simp) ?_
              rw [E2.out]
              go_wp2_with (fail)
              refine state_calls g s2 (d + 1) _ _ (blk_alloc hl1 _) ?_
              go_wp2_with (fail)
              refine open_at s2 _ _ _ (by simp) ?_
              rw [E1.out]
              go_wp2_with (fail)
              go_roundg (xs.length - (k + 1))
              case measure => rw [HG.out]; omega
              case rel => exact ⟨k + 1, s2, (d + 1), _, _, by omega, by go_num, rfl, rfl, by rw [E3.out], by omega, by omega, HGd.out, blk_alloc (blk_alloc hl1 _) _, Hid.mk rfl, below_allocs (below_allocs hb1 _) _⟩
          · rw [if_neg h0, Int.add_zero] at hm2
            rw [if_neg h2, Int.add_zero] at ht2
            subst hm2 ht2
            have x0 : (x == 0) = false := by simpa using h0
            have x2 : (x == 2) = false := by simpa using h2
            have h3d : Hid (decide (3 ≤ st) = false) := Hid.mk (by simpa using h3)
            by_cases h4 : 3 ≤ s2
            · have E1 : Hid ((decide (0 ≤ s2) && decide (s2 ≤ 2)) = false) := Hid.mk (by simp; omega)
              have E2 : Hid ((decide (3 ≤ s2) && decide (s2 ≤ 5)) = true) := Hid.mk (by simp; omega)
              have E3 : Hid (decide (3 ≤ s2) = true) := Hid.mk (by simpa using h4)
              go_wp2_with (fail)
              refine state_calls g s2 (d + 1) w1 _ hl1 ?_
              go_wp2_with (fail)
              refine over_at s2 _ w1 _ (by simp) ?_
              rw [E2.out]
              go_wp2_with (fail)
              refine state_calls g s2 (d + 1) _ _ (blk_alloc hl1 _) ?_
              go_wp2_with (fail)
              refine open_at s2 _ _ _ (by simp) ?_
              rw [E1.out]
              go_wp2_with (fail)
              go_roundg (xs.length - (k + 1))
              case measure => rw [HG.out]; omega
              case rel => exact ⟨k + 1, s2, (d + 1), _, _, by omega, by go_num, rfl, rfl, by rw [E3.out], by omega, by omega, HGd.out, blk_alloc (blk_alloc hl1 _) _, Hid.mk rfl, below_allocs (below_allocs hb1 _) _⟩
            · have E1 : Hid ((decide (0 ≤ s2) && decide (s2 ≤ 2)) = true) := Hid.mk (by simp; omega)
              have E2 : Hid ((decide (3 ≤ s2) && decide (s2 ≤ 5)) = false) := Hid.mk (by simp; omega)
              have E3 : Hid (decide (3 ≤ s2) = false) := Hid.mk (by simpa using h4)
              go_wp2_with (fail)
              refine state_calls g s2 (d + 1) w1 _ hl1 ?_
              go_wp2_with (fail)
              refine over_at s2 _ w1 _ (by simp) ?_
              rw [E2.out]
              go_wp2_with (fail)
              refine state_calls g s2 (d + 1) _ _ (blk_alloc hl1 _) ?_
              go_wp2_with (fail)
              refine open_at s2 _ _ _ (by simp) ?_
              rw [E1.out]
              go_wp2_with (fail)
              go_roundg (xs.length - (k + 1))
              case measure => rw [HG.out]; omega
              case rel => exact ⟨k + 1, s2, (d + 1), _, _, by omega, by go_num, rfl, rfl, by rw [E3.out], by omega, by omega, HGd.out, blk_alloc (blk_alloc hl1 _) _, Hid.mk rfl, below_allocs (below_allocs hb1 _) _⟩
    · go_wp2_with (fail)
      refine alive_calls wr _ ?_
      intro w1 hb1
      go_wp2_with (fail)
      exact below_then HB hb1
end Go.Proofs.Ytipllcmiemdamaa
