/- The walk of the law LifeNames: it answers true at every two numbers, and leaves old memory as it was. -/
import Derived.Test.YtipllcmiemdamaaLd
namespace Go.Proofs.Ytipllcmiemdamaa
open Go.RowKit

theorem name_none (s : Int) (h : ¬ (0 ≤ s ∧ s ≤ 5)) : nameOf s = ⟨#[]⟩ := by
  unfold nameOf
  rw [if_neg (by omega), if_neg (by omega), if_neg (by omega), if_neg (by omega), if_neg (by omega), if_neg (by omega)]
theorem name_cases (s : Int) (h : 0 ≤ s ∧ s ≤ 5) : s = 0 ∨ s = 1 ∨ s = 2 ∨ s = 3 ∨ s = 4 ∨ s = 5 := by omega
theorem name_some (s : Int) (h : 0 ≤ s ∧ s ≤ 5) : nameOf s ≠ ⟨#[]⟩ := by
  rcases name_cases s h with rfl | rfl | rfl | rfl | rfl | rfl <;> exact fun h => by simp [nameOf] at h
theorem name_inj (a b : Int) (ha : 0 ≤ a ∧ a ≤ 5) (h : nameOf a = nameOf b) : a = b := by
  by_cases hb : 0 ≤ b ∧ b ≤ 5
  · rcases name_cases a ha with rfl | rfl | rfl | rfl | rfl | rfl <;> rcases name_cases b hb with rfl | rfl | rfl | rfl | rfl | rfl <;> first | rfl | exact absurd h (by simp [nameOf])
  · rw [name_none b hb] at h; exact absurd h (name_some a ha)

theorem open_at (s : Int) (n : Nat) (w : World) (R : Ending → World → Prop) (hn : n = w.heap.size) (hR : R (.returned (.bool (decide (0 ≤ s) && decide (s ≤ 2)))) (w.alloc (.cells #[.int .i64 s] 3))) :
    Calls Try.prog 14 #[.slice (some ⟨n, 0, none⟩) 1 1] (w.alloc (.cells #[.int .i64 s] 3)) R := by subst hn; exact open_one s w R hR
theorem over_at (s : Int) (n : Nat) (w : World) (R : Ending → World → Prop) (hn : n = w.heap.size) (hR : R (.returned (.bool (decide (3 ≤ s) && decide (s ≤ 5)))) (w.alloc (.cells #[.int .i64 s] 3))) :
    Calls Try.prog 15 #[.slice (some ⟨n, 0, none⟩) 1 1] (w.alloc (.cells #[.int .i64 s] 3)) R := by subst hn; exact over_one s w R hR
theorem open_none (w : World) (R : Ending → World → Prop) (hR : R (.returned (.bool true)) w) : Calls Try.prog 14 #[.slice none 0 0] w R := open_calls [] none 0 w R ⟨by simp [maxLen], .inl rfl⟩ hR
theorem over_none (w : World) (R : Ending → World → Prop) (hR : R (.returned (.bool true)) w) : Calls Try.prog 15 #[.slice none 0 0] w R := over_calls [] none 0 w R ⟨by simp [maxLen], .inl rfl⟩ hR
theorem toList_inj {s t : ByteArray} (h : s.toList = t.toList) : s = t := by
  rw [ByteArray.toList_eq, ByteArray.toList_eq] at h
  exact ByteArray.ext (Array.toList_inj.1 h)
theorem emptyB (s : ByteArray) : s.toList.isEmpty = decide (s = ⟨#[]⟩) := by
  by_cases h : s = ⟨#[]⟩
  · subst h; rw [ByteArray.toList_eq]; simp
  · rw [decide_eq_false h]
    cases he : s.toList.isEmpty
    · rfl
    · exact absurd (toList_inj (by rw [List.isEmpty_iff.1 he, ByteArray.toList_eq])) h
theorem eqB (s t : ByteArray) : (s.toList == t.toList) = decide (s = t) := by
  by_cases h : s = t
  · subst h; simp
  · rw [decide_eq_false h]
    cases he : (s.toList == t.toList)
    · rfl
    · exact absurd (toList_inj (by simpa using he)) h

set_option maxHeartbeats 1000000 in
theorem lifeNames_is (a b : Int) (w : World) (R : Ending → World → Prop) (h : 0 ≤ a ∧ a ≤ 5) (hR : ∀ w', Below w.heap.size w w' → R (.returned (.bool true)) w') :
    Calls Try.prog 5 #[.int .i64 a, .int .i64 b] w R := by
  obtain ⟨x, hx⟩ : ∃ x, x = nameOf a := ⟨_, rfl⟩
  obtain ⟨y, hy⟩ : ∃ y, y = nameOf b := ⟨_, rfl⟩
  have HX := Hid.mk hx
  have HY := Hid.mk hy
  have e1 : x.toList.isEmpty = false := by rw [emptyB, hx]; exact decide_eq_false (name_some a h)
  have E2 : Hid ((x.toList == y.toList) = (a == b)) := Hid.mk (by
    rw [eqB, hx, hy]
    by_cases hab : a = b
    · subst hab; simp
    · rw [decide_eq_false (fun e => hab (name_inj a b h e))]; simpa using hab)
  clear hx hy
  obtain ⟨h1, h2⟩ := h
  go_enter Try.func5, Try.ntmps5
  go_wp2_with (fail)
  refine name_calls a w _ ?_
  intro w1 hb1
  rw [← HX.out]
  go_wp2_with (fail)
  refine name_calls b w1 _ ?_
  intro w2 hb2
  rw [← HY.out]
  go_wp2_with (fail)
  refine alive_calls w2 _ ?_
  intro w3 hb3
  have e2 := E2.out
  have hb := below_then hb1 (below_then hb2 hb3)
  clear hb1 hb2 hb3
  by_cases hc : a ≤ 2
  all_goals
    have e3 : (decide (0 ≤ a) && decide (a ≤ 2)) = decide (a ≤ 2) := by simp [h1]
    have e4 : (decide (3 ≤ a) && decide (a ≤ 5)) = !decide (a ≤ 2) := by
      rw [decide_eq_true h2, Bool.and_true]
      by_cases h3 : 3 ≤ a
      · rw [decide_eq_true h3, decide_eq_false (by omega)]; rfl
      · rw [decide_eq_false h3, decide_eq_true (by omega)]; rfl
    have E3 := Hid.mk e3
    have E4 := Hid.mk e4
    clear e3 e4
    cases hab : (a == b)
    all_goals
      rw [hab] at e2
      go_wp2_with (fail)
      refine open_at a _ w3 _ (by simp) ?_
      rw [E3.out]
      go_wp2_with (fail)
      refine over_at a _ _ _ (by simp) ?_
      rw [E4.out]
      go_wp2_with (fail)
      refine open_none _ _ ?_
      go_wp2_with (fail)
      refine over_none _ _ ?_
      go_wp2_with (fail)
      exact below_then hb (below_allocs (below_allocs (Below.refl _ _) _) _)

set_option maxHeartbeats 1000000 in
theorem lifeNames_not (a b : Int) (w : World) (R : Ending → World → Prop) (h : ¬ (0 ≤ a ∧ a ≤ 5)) (hR : ∀ w', Below w.heap.size w w' → R (.returned (.bool true)) w') :
    Calls Try.prog 5 #[.int .i64 a, .int .i64 b] w R := by
  obtain ⟨y, hy⟩ : ∃ y, y = nameOf b := ⟨_, rfl⟩
  have HX := Hid.mk (name_none a h)
  have HY := Hid.mk hy
  clear hy
  have E3 : Hid ((decide (0 ≤ a) && decide (a ≤ 2)) = false) := Hid.mk (by simp; omega)
  have E4 : Hid ((decide (3 ≤ a) && decide (a ≤ 5)) = false) := Hid.mk (by simp; omega)
  have h' : (0 ≤ a ∧ ¬ a ≤ 5) ∨ ¬ 0 ≤ a := by omega
  clear h
  rcases h' with ⟨h1, h2⟩ | h1
  all_goals
    go_enter Try.func5, Try.ntmps5
    go_wp2_with (fail)
    refine name_calls a w _ ?_
    intro w1 hb1
    rw [HX.out]
    go_wp2_with (fail)
    refine name_calls b w1 _ ?_
    intro w2 hb2
    rw [← HY.out]
    go_wp2_with (fail)
    refine alive_calls w2 _ ?_
    intro w3 hb3
    have hb := below_then hb1 (below_then hb2 hb3)
    clear hb1 hb2 hb3
    go_wp2_with (fail)
    refine open_at a _ w3 _ (by simp) ?_
    rw [E3.out]
    go_wp2_with (fail)
    refine over_at a _ _ _ (by simp) ?_
    rw [E4.out]
    go_wp2_with (fail)
    refine open_at a _ _ _ (by simp) ?_
    rw [E3.out]
    go_wp2_with (fail)
    refine over_at a _ _ _ (by simp) ?_
    rw [E4.out]
    go_wp2_with (fail)
    refine open_none _ _ ?_
    go_wp2_with (fail)
    refine over_none _ _ ?_
    go_wp2_with (fail)
    exact below_then hb (below_allocs (below_allocs (below_allocs (below_allocs (Below.refl _ _) _) _) _) _)

theorem lifeNames_calls (a b : Int) (w : World) (R : Ending → World → Prop) (_ : -9223372036854775808 ≤ a ∧ a ≤ 9223372036854775807) (_ : -9223372036854775808 ≤ b ∧ b ≤ 9223372036854775807) (hR : ∀ w', Below w.heap.size w w' → R (.returned (.bool true)) w') :
    Calls Try.prog 5 #[.int .i64 a, .int .i64 b] w R := by
  by_cases h : 0 ≤ a ∧ a ≤ 5
  · exact lifeNames_is a b w R h hR
  · exact lifeNames_not a b w R h hR
end Go.Proofs.Ytipllcmiemdamaa
