/- The walks of package life (as the life seat's): all, Open, Next. Plain contracts, no conditions but those that each names. -/
import Derived.Test.YteecekijekegdaaBase
namespace Go.Proofs.Yteecekijekegdaa
open Go.RowKit

def allB (xs : List Int) (lo hi : Int) : Bool := xs.all fun s => decide (lo ≤ s) && decide (s ≤ hi)
theorem allB_nil (lo hi : Int) : allB [] lo hi = true := rfl
theorem allB_snoc (xs : List Int) (x lo hi : Int) : allB (xs ++ [x]) lo hi = (allB xs lo hi && (decide (lo ≤ x) && decide (x ≤ hi))) := by simp [allB]
theorem take_snoc (xs : List Int) (k : Nat) (h : k < xs.length) : xs.take (k + 1) = xs.take k ++ [xs.getD k 0] := by
  rw [List.take_succ_eq_append_getElem h]; simp [List.getD_eq_getElem?_getD, h]
theorem allB_bad (xs : List Int) (lo hi : Int) (k : Nat) (h : k < xs.length) (hx : ¬ (lo ≤ xs.getD k 0 ∧ xs.getD k 0 ≤ hi)) : allB xs lo hi = false := by
  unfold allB
  rw [List.all_eq_false]
  refine ⟨xs.getD k 0, by simp [List.getD_eq_getElem?_getD, h], by simpa using hx⟩

set_option maxHeartbeats 400000 in
theorem all_some (xs : List Int) (b off cap : Nat) (lo hi : Int) (w : World) (R : Ending → World → Prop) (hlen : xs.length ≤ maxLen)
   (hc : ∀ j, j < xs.length → w.cell? ⟨b, off + j, none⟩ = some (.int .i64 (xs.getD j 0))) (hR : R (.returned (.bool (allB xs lo hi))) w) :
    Calls Try.prog 32 #[.slice (some ⟨b, off, none⟩) xs.length cap, .int .i64 lo, .int .i64 hi] w R := by
  unfold maxLen at hlen
  go_enter Try.func32, Try.ntmps32
  go_wp2
  go_loopg [6, 8, 11] (xs.length) (fun g r s i wr => ∃ k : Nat, k ≤ xs.length ∧ i = .int .i64 k ∧ Hid (allB (xs.take k) lo hi = true) ∧ Hid (g = xs.length - k) ∧ wr = w)
  case atStart => exact ⟨0, Nat.zero_le _, rfl, Hid.mk rfl, Hid.mk rfl, rfl⟩
  case round =>
    obtain ⟨k, hk, rfl, HB, HG, rfl⟩ := hrel
    by_cases hlt : k < xs.length
    · obtain ⟨x, hx⟩ : ∃ x, x = xs.getD k 0 := ⟨_, rfl⟩
      have hck := hc k hlt
      rw [← hx] at hck
      have HX := Hid.mk hx
      clear hx hc
      by_cases h1 : x < lo
      · go_wp2
        have : allB xs lo hi = false := allB_bad _ _ _ k hlt (by rw [← HX.out]; omega)
        rw [this] at hR; exact hR
      · by_cases h2 : hi < x
        · go_wp2
          have : allB xs lo hi = false := allB_bad _ _ _ k hlt (by rw [← HX.out]; omega)
          rw [this] at hR; exact hR
        · go_wp2
          go_roundg (xs.length - (k + 1))
          case measure => rw [HG.out]; omega
          case rel => exact ⟨k + 1, by omega, by go_num, Hid.mk (by rw [take_snoc _ _ hlt, allB_snoc, HB.out, ← HX.out]; simp; omega), Hid.mk rfl, rfl⟩
    · go_wp2
      have : allB xs lo hi = true := by have := HB.out; rwa [List.take_of_length_le (by omega)] at this
      rw [this] at hR; exact hR


theorem all_nil (a : Option Addr) (cap : Nat) (lo hi : Int) (w : World) (R : Ending → World → Prop) (hR : R (.returned (.bool true)) w) :
    Calls Try.prog 32 #[.slice a 0 cap, .int .i64 lo, .int .i64 hi] w R := by
  go_enter Try.func32, Try.ntmps32
  go_wp2
  refine wp_loop_rounds 1 ?_
  rw [rounds_succ]
  go_wp2
  exact hR

theorem all_calls (xs : List Int) (A : Option Addr) (cap : Nat) (lo hi : Int) (w : World) (R : Ending → World → Prop) (h : Ints w A xs) (hR : R (.returned (.bool (allB xs lo hi))) w) :
    Calls Try.prog 32 #[.slice A xs.length cap, .int .i64 lo, .int .i64 hi] w R := by
  obtain ⟨hl, rfl | ⟨b, off, rfl, hc⟩⟩ := h
  · exact all_nil A cap lo hi w R hR
  · exact all_some xs b off cap lo hi w R hl hc hR

theorem open_calls (xs : List Int) (A : Option Addr) (cap : Nat) (w : World) (R : Ending → World → Prop) (h : Ints w A xs) (hR : R (.returned (.bool (allB xs 0 2))) w) :
    Calls Try.prog 23 #[.slice A xs.length cap] w R := by
  go_enter Try.func23, Try.ntmps23
  go_wp2_with (go_at_call 32; refine all_calls xs A cap 0 2 w _ h ?_)
  exact hR

/-- One number in a slice literal: life.Open(s) as other code calls it. -/
theorem open_one (s : Int) (w : World) (R : Ending → World → Prop) (hR : R (.returned (.bool (decide (0 ≤ s) && decide (s ≤ 2)))) (w.alloc (.cells #[.int .i64 s] 3))) :
    Calls Try.prog 23 #[.slice (some ⟨w.heap.size, 0, none⟩) 1 1] (w.alloc (.cells #[.int .i64 s] 3)) R :=
  open_calls [s] _ 1 _ R (Ints.new w [s] 3 (by simp [maxLen])) (by simpa [allB] using hR)
/-- The table of the document: the next state, and whether there is one. -/
def nxt (s e : Int) : Int × Bool :=
  if e = 0 ∧ s = 0 then (1, true) else if e = 1 ∧ (s = 1 ∨ s = 2) then (2, true) else if e = 2 ∧ (s = 1 ∨ s = 2) then (3, true)
  else if e = 3 ∧ 0 ≤ s ∧ s ≤ 2 then (4, true) else if e = 4 ∧ 0 ≤ s ∧ s ≤ 2 then (5, true) else (s, false)

theorem next_closed (s e : Int) (w : World) (R : Ending → World → Prop) (h : ¬ (0 ≤ s ∧ s ≤ 2)) (hR : R (.returned (.tuple #[.int .i64 s, .bool false])) (w.alloc (.cells #[.int .i64 s] 3))) :
    Calls Try.prog 35 #[.int .i64 s, .int .i64 e] w R := by
  have hb : (decide (0 ≤ s) && decide (s ≤ 2)) = false := by simp; omega
  go_enter Try.func35, Try.ntmps35
  go_wp2_with (go_at_call 23; refine open_one s w _ ?_; rw [hb])
  exact hR

theorem nxt_closed (s e : Int) (h : ¬ (0 ≤ s ∧ s ≤ 2)) : nxt s e = (s, false) := by
  unfold nxt
  rw [if_neg (by omega), if_neg (by omega), if_neg (by omega), if_neg (by omega), if_neg (by omega)]

theorem next_s0 (e : Int) (w : World) (R : Ending → World → Prop) (hR : R (.returned (.tuple #[.int .i64 (nxt 0 e).1, .bool (nxt 0 e).2])) (w.alloc (.cells #[.int .i64 0] 3))) :
    Calls Try.prog 35 #[.int .i64 0, .int .i64 e] w R := by
  by_cases h0 : e = 0
  · subst h0
    go_enter Try.func35, Try.ntmps35
    go_wp2_with (go_at_call 23; refine open_one 0 w _ ?_)
    exact hR
  by_cases h1 : e = 1
  · subst h1
    go_enter Try.func35, Try.ntmps35
    go_wp2_with (go_at_call 23; refine open_one 0 w _ ?_)
    exact hR
  by_cases h2 : e = 2
  · subst h2
    go_enter Try.func35, Try.ntmps35
    go_wp2_with (go_at_call 23; refine open_one 0 w _ ?_)
    exact hR
  by_cases h3 : e = 3
  · subst h3
    go_enter Try.func35, Try.ntmps35
    go_wp2_with (go_at_call 23; refine open_one 0 w _ ?_)
    exact hR
  by_cases h4 : e = 4
  · subst h4
    go_enter Try.func35, Try.ntmps35
    go_wp2_with (go_at_call 23; refine open_one 0 w _ ?_)
    exact hR
  have e0 : (e == 0) = false := by simpa using h0
  have e1 : (e == 1) = false := by simpa using h1
  have e2 : (e == 2) = false := by simpa using h2
  have e3 : (e == 3) = false := by simpa using h3
  have e4 : (e == 4) = false := by simpa using h4
  have hn : nxt 0 e = (0, false) := by unfold nxt; simp [h0, h1, h2, h3, h4]
  rw [hn] at hR
  clear hn h0 h1 h2 h3 h4
  go_enter Try.func35, Try.ntmps35
  go_wp2_with (go_at_call 23; refine open_one 0 w _ ?_)
  exact hR

theorem next_s1 (e : Int) (w : World) (R : Ending → World → Prop) (hR : R (.returned (.tuple #[.int .i64 (nxt 1 e).1, .bool (nxt 1 e).2])) (w.alloc (.cells #[.int .i64 1] 3))) :
    Calls Try.prog 35 #[.int .i64 1, .int .i64 e] w R := by
  by_cases h0 : e = 0
  · subst h0
    go_enter Try.func35, Try.ntmps35
    go_wp2_with (go_at_call 23; refine open_one 1 w _ ?_)
    exact hR
  by_cases h1 : e = 1
  · subst h1
    go_enter Try.func35, Try.ntmps35
    go_wp2_with (go_at_call 23; refine open_one 1 w _ ?_)
    exact hR
  by_cases h2 : e = 2
  · subst h2
    go_enter Try.func35, Try.ntmps35
    go_wp2_with (go_at_call 23; refine open_one 1 w _ ?_)
    exact hR
  by_cases h3 : e = 3
  · subst h3
    go_enter Try.func35, Try.ntmps35
    go_wp2_with (go_at_call 23; refine open_one 1 w _ ?_)
    exact hR
  by_cases h4 : e = 4
  · subst h4
    go_enter Try.func35, Try.ntmps35
    go_wp2_with (go_at_call 23; refine open_one 1 w _ ?_)
    exact hR
  have e0 : (e == 0) = false := by simpa using h0
  have e1 : (e == 1) = false := by simpa using h1
  have e2 : (e == 2) = false := by simpa using h2
  have e3 : (e == 3) = false := by simpa using h3
  have e4 : (e == 4) = false := by simpa using h4
  have hn : nxt 1 e = (1, false) := by unfold nxt; simp [h0, h1, h2, h3, h4]
  rw [hn] at hR
  clear hn h0 h1 h2 h3 h4
  go_enter Try.func35, Try.ntmps35
  go_wp2_with (go_at_call 23; refine open_one 1 w _ ?_)
  exact hR

theorem next_s2 (e : Int) (w : World) (R : Ending → World → Prop) (hR : R (.returned (.tuple #[.int .i64 (nxt 2 e).1, .bool (nxt 2 e).2])) (w.alloc (.cells #[.int .i64 2] 3))) :
    Calls Try.prog 35 #[.int .i64 2, .int .i64 e] w R := by
  by_cases h0 : e = 0
  · subst h0
    go_enter Try.func35, Try.ntmps35
    go_wp2_with (go_at_call 23; refine open_one 2 w _ ?_)
    exact hR
  by_cases h1 : e = 1
  · subst h1
    go_enter Try.func35, Try.ntmps35
    go_wp2_with (go_at_call 23; refine open_one 2 w _ ?_)
    exact hR
  by_cases h2 : e = 2
  · subst h2
    go_enter Try.func35, Try.ntmps35
    go_wp2_with (go_at_call 23; refine open_one 2 w _ ?_)
    exact hR
  by_cases h3 : e = 3
  · subst h3
    go_enter Try.func35, Try.ntmps35
    go_wp2_with (go_at_call 23; refine open_one 2 w _ ?_)
    exact hR
  by_cases h4 : e = 4
  · subst h4
    go_enter Try.func35, Try.ntmps35
    go_wp2_with (go_at_call 23; refine open_one 2 w _ ?_)
    exact hR
  have e0 : (e == 0) = false := by simpa using h0
  have e1 : (e == 1) = false := by simpa using h1
  have e2 : (e == 2) = false := by simpa using h2
  have e3 : (e == 3) = false := by simpa using h3
  have e4 : (e == 4) = false := by simpa using h4
  have hn : nxt 2 e = (2, false) := by unfold nxt; simp [h0, h1, h2, h3, h4]
  rw [hn] at hR
  clear hn h0 h1 h2 h3 h4
  go_enter Try.func35, Try.ntmps35
  go_wp2_with (go_at_call 23; refine open_one 2 w _ ?_)
  exact hR

theorem next_calls (s e : Int) (w : World) (R : Ending → World → Prop) (hR : R (.returned (.tuple #[.int .i64 (nxt s e).1, .bool (nxt s e).2])) (w.alloc (.cells #[.int .i64 s] 3))) :
    Calls Try.prog 35 #[.int .i64 s, .int .i64 e] w R := by
  by_cases h0 : s = 0
  · subst h0; exact next_s0 e w R hR
  by_cases h1 : s = 1
  · subst h1; exact next_s1 e w R hR
  by_cases h2 : s = 2
  · subst h2; exact next_s2 e w R hR
  have h : ¬ (0 ≤ s ∧ s ≤ 2) := by omega
  rw [nxt_closed s e h] at hR
  exact next_closed s e w R h hR

end Go.Proofs.Yteecekijekegdaa
