/- The walk of the law BookBoth: it answers true, at every input. No condition. -/
import Derived.Test.YteecekijekegdaaKv
namespace Go.Proofs.Yteecekijekegdaa
open Go.RowKit

def L0b : List InstD := [xP 1 2 0 0 9 false, xQ 2 1 1 0 0 9 false, xQ 3 4 0 0 0 0 false]
def L1b (first : Bool) : List InstD := if first then cancelL L0b sP 1 else L0b
def L2b (first keeps : Bool) : List InstD := if keeps then keepL (L1b first) sP 1 else L1b first
def L3b (first keeps second : Bool) : List InstD := if second then cancelL (L2b first keeps) sQ 2 else L2b first keeps
theorem b1 : addL [xP 0 0 0 0 0 false, xQ 2 0 0 0 0 0 false] tQ 1 false false = [xP 0 0 0 0 0 false, xQ 2 0 0 0 0 0 false, xQ 3 0 0 0 0 0 false] := by rfl
theorem b2 : pairL [xP 0 0 0 0 0 false, xQ 2 0 0 0 0 0 false, xQ 3 0 0 0 0 0 false] 1 2 9 = [xP 1 2 0 0 9 false, xQ 2 1 1 0 0 9 false, xQ 3 0 0 0 0 0 false] := by rfl
theorem b3 : cancelL [xP 1 2 0 0 9 false, xQ 2 1 1 0 0 9 false, xQ 3 0 0 0 0 0 false] sP 2 = [xP 1 2 0 0 9 false, xQ 2 1 1 0 0 9 false, xQ 3 0 0 0 0 0 false] := by rfl
theorem b4 : cancelL [xP 1 2 0 0 9 false, xQ 2 1 1 0 0 9 false, xQ 3 0 0 0 0 0 false] sQ 3 = L0b := by rfl
theorem b5 : mayE [xP 1 2 0 0 9 false, xQ 2 1 1 0 0 9 false, xQ 3 0 0 0 0 0 false] sP 2 = 22 := by rfl
theorem b6 : mayE [xP 1 2 0 0 9 false, xQ 2 1 1 0 0 9 false, xQ 3 0 0 0 0 0 false] sQ 3 = 0 := by rfl
theorem b7 (f k s : Bool) : (getX (L3b f k s) 1).state = (if f && !k && s then 4 else 1) ∧ (getX (L3b f k s) 2).state = (if f && !k && s then 4 else 1) ∧ (getX (L3b f k s) 3).state = 4 := by
  cases f <;> cases k <;> cases s <;> exact ⟨rfl, rfl, rfl⟩

set_option maxRecDepth 100000 in
set_option maxHeartbeats 1000000 in
theorem both_calls (f k s : Bool) (w : World) (R : Ending → World → Prop) (hR : ∀ w', Below w.heap.size w w' → R (.returned (.bool true)) w') :
    Calls Try.prog 5 #[.bool f, .bool k, .bool s] w R := by
  have HR := Hid.mk hR
  clear hR
  obtain ⟨gb, hgb⟩ : ∃ gb, gb = w.heap.size := ⟨_, rfl⟩
  have HGB := Hid.mk hgb
  clear hgb
  go_enter Try.func5, Try.ntmps5
  go_wp2_with (fail)
  refine new_calls _ _ ?_
  intro w1 hn1 hb1
  have H1 : Hid (Old w w1 gb (.slice none 0 0) []) := Hid.mk (by rw [HGB.out]; exact ⟨hn1.start, hb1⟩)
  rw [← HGB.out]
  clear hn1 hb1
  go_wp2_with (fail)
  refine add_calls w.heap.size gb _ [] tP 1 false false _ _ H1.out.book H1.out.old.size fitP ?_
  rw [a1]
  intro w2 v2 hb2 hk2 _
  have H2 := Hid.mk (H1.out.add hb2 hk2)
  clear hb2 hk2
  go_wp2_with (fail)
  refine add_calls w.heap.size gb v2 _ tQ 1 false false _ _ H2.out.book H2.out.old.size fitQ ?_
  rw [a2]
  intro w3 v3 hb3 hk3 _
  have H3 := Hid.mk (H2.out.add hb3 hk3)
  clear hb3 hk3
  go_wp2_with (fail)
  refine add_calls w.heap.size gb v3 _ tQ 1 false false _ _ H3.out.book H3.out.old.size fitQ ?_
  rw [b1]
  intro w4 v4 hb4 hk4 _
  have H4 := Hid.mk (H3.out.add hb4 hk4)
  clear hb4 hk4
  go_wp2_with (fail)
  refine pair_calls w.heap.size gb v4 _ 1 2 9 _ _ H4.out.book ?_
  rw [b2]
  intro w5 hb5 hk5
  have H5 := Hid.mk (H4.out.step hb5 hk5)
  clear hb5 hk5
  rw [show pairE [xP 0 0 0 0 0 false, xQ 2 0 0 0 0 0 false, xQ 3 0 0 0 0 0 false] 1 2 9 = 0 from rfl]
  go_wp2_with (fail)
  refine cancel_calls w.heap.size gb v4 _ sP 2 _ _ H5.out.book ?_
  rw [b3, b5]
  intro w6 hb6 hk6
  have H6 := Hid.mk (H5.out.step hb6 hk6)
  clear hb6 hk6
  go_wp2_with (fail)
  refine cancel_calls w.heap.size gb v4 _ sQ 3 _ _ H6.out.book ?_
  rw [b4, b6]
  intro w7 hb7 hk7
  have H7 := Hid.mk (H6.out.step hb7 hk7)
  clear hb7 hk7
  go_upto_if 40 with (fail)
  go_cut [40] (fun v40 wc => v40 = .bool f ∧ Hid (Old w wc gb v4 (L1b f)))
  case first =>
    cases f with
    | false =>
      go_wp2_with (fail)
      go_meet
      case rel => exact ⟨rfl, H7⟩
    | true =>
      go_wp2_with (fail)
      refine cancel_calls w.heap.size gb v4 _ sP 1 _ _ H7.out.book ?_
      intro w8 hb8 hk8
      have H8 : Hid (Old w w8 gb v4 (L1b true)) := Hid.mk (H7.out.step hb8 hk8)
      clear hb8 hk8
      go_wp2_with (fail)
      go_meet
      case rel => exact ⟨rfl, H8⟩
  case rest =>
  obtain ⟨rfl, H8⟩ := hcut
  go_upto_if 43 with (fail)
  go_cut [43] (fun v43 wd => v43 = .bool k ∧ Hid (Old w wd gb v4 (L2b f k)))
  case first =>
    cases k with
    | false =>
      go_wp2_with (fail)
      go_meet
      case rel => exact ⟨rfl, H8⟩
    | true =>
      go_wp2_with (fail)
      refine keep_calls w.heap.size gb v4 _ sP 1 _ _ H8.out.book ?_
      intro w9 hb9 hk9
      have H9 : Hid (Old w w9 gb v4 (L2b f true)) := Hid.mk (H8.out.step hb9 hk9)
      clear hb9 hk9
      go_wp2_with (fail)
      go_meet
      case rel => exact ⟨rfl, H9⟩
  case rest =>
  obtain ⟨rfl, H9⟩ := hcut
  go_upto_if 46 with (fail)
  go_cut [46] (fun v46 we => v46 = .bool s ∧ Hid (Old w we gb v4 (L3b f k s)))
  case first =>
    cases s with
    | false =>
      go_wp2_with (fail)
      go_meet
      case rel => exact ⟨rfl, H9⟩
    | true =>
      go_wp2_with (fail)
      refine cancel_calls w.heap.size gb v4 _ sQ 2 _ _ H9.out.book ?_
      intro w10 hb10 hk10
      have H10 : Hid (Old w w10 gb v4 (L3b f k true)) := Hid.mk (H9.out.step hb10 hk10)
      clear hb10 hk10
      go_wp2_with (fail)
      go_meet
      case rel => exact ⟨rfl, H10⟩
  case rest =>
  obtain ⟨rfl, H10⟩ := hcut
  clear H1 H2 H3 H4 H5 H6 H7 H8 H9
  go_wp2_with (fail)
  refine get_calls w.heap.size gb v4 _ 1 _ _ H10.out.book ?_
  intro w11 hb11
  have H11 := Hid.mk (H10.out.below hb11)
  clear hb11
  obtain ⟨z1, hz1⟩ : ∃ z, z = getX (L3b f k s) 1 := ⟨_, rfl⟩
  obtain ⟨z2, hz2⟩ : ∃ z, z = getX (L3b f k s) 2 := ⟨_, rfl⟩
  obtain ⟨z3, hz3⟩ : ∃ z, z = getX (L3b f k s) 3 := ⟨_, rfl⟩
  have HZ := b7 f k s
  rw [← hz1, ← hz2, ← hz3] at HZ
  have HS := Hid.mk HZ
  clear HZ
  rw [← hz1]
  have HZ2 := Hid.mk hz2
  have HZ3 := Hid.mk hz3
  clear hz1 hz2 hz3
  obtain ⟨g1, hg1⟩ : ∃ g, g = w11.heap.size := ⟨_, rfl⟩
  have HG1 := Hid.mk hg1
  clear hg1
  go_upto_region 16 with (refine wpList_var (op := ⟨none, .store 32 (.tmp 8) (.tmp 52), _, _, _, _⟩) rfl (.tmp 8) (.tmp 52) rfl rfl z1 rfl rfl rfl ?_; intro w12 hi12 hb12; have HI1 : Hid (InstAt w12 g1 z1) := Hid.mk (by rw [HG1.out]; exact hi12); have H12 := Hid.mk (H11.out.below hb12); rw [← HG1.out]; clear hi12 hb12)
  go_wp2_with (fail)
  refine get_calls w.heap.size gb v4 _ 2 _ _ H12.out.book ?_
  intro w13 hb13
  have H13 := Hid.mk (H12.out.below hb13)
  have HI1b := Hid.mk (HI1.out.below hb13)
  clear hb13
  rw [← HZ2.out]
  obtain ⟨g2, hg2⟩ : ∃ g, g = w13.heap.size := ⟨_, rfl⟩
  have HG2 := Hid.mk hg2
  clear hg2
  go_upto_region 17 with (refine wpList_var (op := ⟨none, .store 32 (.tmp 10) (.tmp 57), _, _, _, _⟩) rfl (.tmp 10) (.tmp 57) rfl rfl z2 rfl rfl rfl ?_; intro w14 hi14 hb14; have HI2 : Hid (InstAt w14 g2 z2) := Hid.mk (by rw [HG2.out]; exact hi14); have H14 := Hid.mk (H13.out.below hb14); have HI1c := Hid.mk (HI1b.out.below hb14); rw [← HG2.out]; clear hi14 hb14)
  go_wp2_with (fail)
  refine get_calls w.heap.size gb v4 _ 3 _ _ H14.out.book ?_
  intro w15 hb15
  have H15 := Hid.mk (H14.out.below hb15)
  have HI1d := Hid.mk (HI1c.out.below hb15)
  have HI2b := Hid.mk (HI2.out.below hb15)
  clear hb15
  rw [← HZ3.out]
  obtain ⟨g3, hg3⟩ : ∃ g, g = w15.heap.size := ⟨_, rfl⟩
  have HG3 := Hid.mk hg3
  clear hg3
  go_upto_region 18 with (refine wpList_var (op := ⟨none, .store 32 (.tmp 12) (.tmp 62), _, _, _, _⟩) rfl (.tmp 12) (.tmp 62) rfl rfl z3 rfl rfl rfl ?_; intro w16 hi16 hb16; have HI3 : Hid (InstAt w16 g3 z3) := Hid.mk (by rw [HG3.out]; exact hi16); have H16 := Hid.mk (H15.out.below hb16); have HI1e := Hid.mk (HI1d.out.below hb16); have HI2c := Hid.mk (HI2b.out.below hb16); rw [← HG3.out]; clear hi16 hb16)
  cases f <;> cases k <;> cases s
  all_goals
    go_wp2_with (fail)
    refine alive_calls _ _ ?_
    intro w17 hb17
    have H17 := Hid.mk (H16.out.below hb17)
    have c1 : w17.cell? ⟨g1, 17, none⟩ = some (.int .i64 z1.state) := by rw [(HI1e.out.below hb17).cell]; rfl
    have c2 : w17.cell? ⟨g2, 17, none⟩ = some (.int .i64 z2.state) := by rw [(HI2c.out.below hb17).cell]; rfl
    have c3 : w17.cell? ⟨g3, 17, none⟩ = some (.int .i64 z3.state) := by rw [(HI3.out.below hb17).cell]; rfl
    rw [HS.out.1] at c1
    rw [HS.out.2.1] at c2
    rw [HS.out.2.2] at c3
    simp only [Bool.and_self, Bool.and_true, Bool.and_false, Bool.not_true, Bool.not_false, Bool.false_eq_true, if_true, if_false] at c1 c2
    clear hb17
    go_wp2_with (fail)
    exact HR.out _ H17.out.old
end Go.Proofs.Yteecekijekegdaa
