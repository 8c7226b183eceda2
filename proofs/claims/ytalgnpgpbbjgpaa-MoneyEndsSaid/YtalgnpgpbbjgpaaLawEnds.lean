/- The walk of the law MoneyEnds: it answers true at every list, and leaves old memory as it was. -/
import Derived.Test.YtalgnpgpbbjgpaaMh
namespace Go.Proofs.Ytalgnpgpbbjgpaa
open Go.RowKit

theorem minOf_le (xs : List Int) : ∀ k, k < xs.length → Lib.minOf xs ≤ xs.getD k 0 := by
  suffices h : ∀ (n : Nat), n ≤ xs.length → 0 < n → ∀ k, k < n → Lib.minOf (xs.take n) ≤ xs.getD k 0 by
    intro k hk
    have := h xs.length (Nat.le_refl _) (by omega) k hk
    rwa [List.take_length] at this
  intro n
  induction n with
  | zero => intro _ h; omega
  | succ n ih =>
    intro hn _ k hk
    by_cases h0 : n = 0
    · subst h0
      obtain rfl : k = 0 := by omega
      rw [Lib.minOf_one]
      exact Int.le_refl _
    · rw [Lib.minOf_step xs n (by omega) (by omega)]
      by_cases hkn : k = n
      · subst hkn; exact Int.min_le_right _ _
      · exact Int.le_trans (Int.min_le_left _ _) (ih (by omega) (by omega) k (by omega))
theorem le_maxOf (xs : List Int) : ∀ k, k < xs.length → xs.getD k 0 ≤ Lib.maxOf xs := by
  suffices h : ∀ (n : Nat), n ≤ xs.length → 0 < n → ∀ k, k < n → xs.getD k 0 ≤ Lib.maxOf (xs.take n) by
    intro k hk
    have := h xs.length (Nat.le_refl _) (by omega) k hk
    rwa [List.take_length] at this
  intro n
  induction n with
  | zero => intro _ h; omega
  | succ n ih =>
    intro hn _ k hk
    by_cases h0 : n = 0
    · subst h0
      obtain rfl : k = 0 := by omega
      rw [Lib.maxOf_one]
      exact Int.le_refl _
    · rw [Lib.maxOf_step xs n (by omega) (by omega)]
      by_cases hkn : k = n
      · subst hkn; exact Int.le_max_right _ _
      · exact Int.le_trans (ih (by omega) (by omega) k (by omega)) (Int.le_max_left _ _)
theorem minOf_mem (xs : List Int) (h : 0 < xs.length) : ∃ k, k < xs.length ∧ xs.getD k 0 = Lib.minOf xs := by
  suffices h : ∀ (n : Nat), n ≤ xs.length → 0 < n → ∃ k, k < n ∧ xs.getD k 0 = Lib.minOf (xs.take n) by
    have := h xs.length (Nat.le_refl _) (by omega)
    rwa [List.take_length] at this
  intro n
  induction n with
  | zero => intro _ h; omega
  | succ n ih =>
    intro hn _
    by_cases h0 : n = 0
    · subst h0; exact ⟨0, by omega, (Lib.minOf_one xs).symm⟩
    · rw [Lib.minOf_step xs n (by omega) (by omega)]
      obtain ⟨k, hk, e⟩ := ih (by omega) (by omega)
      by_cases hle : Lib.minOf (xs.take n) ≤ xs.getD n 0
      · exact ⟨k, by omega, by rw [Int.min_eq_left hle]; exact e⟩
      · exact ⟨n, by omega, by rw [Int.min_eq_right (by omega)]⟩
theorem maxOf_mem (xs : List Int) (h : 0 < xs.length) : ∃ k, k < xs.length ∧ xs.getD k 0 = Lib.maxOf xs := by
  suffices h : ∀ (n : Nat), n ≤ xs.length → 0 < n → ∃ k, k < n ∧ xs.getD k 0 = Lib.maxOf (xs.take n) by
    have := h xs.length (Nat.le_refl _) (by omega)
    rwa [List.take_length] at this
  intro n
  induction n with
  | zero => intro _ h; omega
  | succ n ih =>
    intro hn _
    by_cases h0 : n = 0
    · subst h0; exact ⟨0, by omega, (Lib.maxOf_one xs).symm⟩
    · rw [Lib.maxOf_step xs n (by omega) (by omega)]
      obtain ⟨k, hk, e⟩ := ih (by omega) (by omega)
      by_cases hle : xs.getD n 0 ≤ Lib.maxOf (xs.take n)
      · exact ⟨k, by omega, by rw [Int.max_eq_left hle]; exact e⟩
      · exact ⟨n, by omega, by rw [Int.max_eq_right (by omega)]⟩

/-- Has one of the first k the value m? -/
def met (xs : List Int) (k : Nat) (m : Int) : Bool := (xs.take k).any (· == m)
theorem met_snoc (xs : List Int) (k : Nat) (m : Int) (h : k < xs.length) : met xs (k + 1) m = (met xs k m || (xs.getD k 0 == m)) := by
  unfold met; rw [take_snoc xs k h, List.any_append]; simp
theorem met_all (xs : List Int) (m : Int) (h : ∃ k, k < xs.length ∧ xs.getD k 0 = m) : met xs xs.length m = true := by
  obtain ⟨k, hk, e⟩ := h
  unfold met
  rw [List.take_length, List.any_eq_true]
  exact ⟨xs.getD k 0, by simp [List.getD_eq_getElem?_getD, hk], by simpa using e⟩

set_option maxHeartbeats 2000000 in
theorem moneyEnds_calls (xs : List Int) (A : Option Addr) (cap : Nat) (w : World) (R : Ending → World → Prop) (HI : Ints w A xs) (_ : xs.length * 8 ≤ 140737488351232)
    (_ : ∀ x ∈ xs, -9223372036854775808 ≤ x ∧ x ≤ 9223372036854775807) (hR : ∀ w', Below w.heap.size w w' → R (.returned (.bool true)) w') :
    Calls Try.prog 11 #[.slice A xs.length cap] w R := by
  have HR := Hid.mk hR
  clear hR
  by_cases hoff : xs.length = 0 ∨ 300 < xs.length
  · go_enter Try.func11, Try.ntmps11
    go_upto_region 1 with (fail)
    go_cut [15] (fun v15 wc => v15 = .bool true ∧ wc = w)
    case first =>
      by_cases h0 : xs.length = 0
      · have e0 : ((xs.length : Int) == 0) = true := by simpa using h0
        clear hoff h0
        go_wp2_with (fail)
        go_meet
        case rel => exact ⟨rfl, rfl⟩
      · have e0 : ((xs.length : Int) == 0) = false := by simpa using h0
        have e1 : 300 < (xs.length : Int) := by omega
        clear hoff h0
        go_wp2_with (fail)
        go_meet
        case rel => exact ⟨rfl, rfl⟩
    case rest =>
      obtain ⟨rfl, rfl⟩ := hcut
      have H0 : Ints wc none [] := ⟨by simp [maxLen], .inl rfl⟩
      clear hoff
      go_wp2_with (fail)
      refine alive_calls _ _ ?_
      intro w1 hb1
      go_wp2_with (fail)
      refine least_calls [] none 0 w1 _ (H0.below hb1) ?_
      rw [show Lib.minOf [] = 0 from rfl]
      go_wp2_with (fail)
      refine most_calls [] none 0 w1 _ (H0.below hb1) ?_
      rw [show Lib.maxOf [] = 0 from rfl]
      go_wp2_with (fail)
      exact HR.out _ hb1
  · have hl0 : 0 < xs.length := by omega
    have hl1 : (xs.length : Int) ≤ 300 := by omega
    have e0 : ((xs.length : Int) == 0) = false := by rw [beq_eq_false_iff_ne]; omega
    obtain ⟨lo, hlo⟩ : ∃ lo, lo = Lib.minOf xs := ⟨_, rfl⟩
    obtain ⟨hi, hhi⟩ : ∃ hi, hi = Lib.maxOf xs := ⟨_, rfl⟩
    have hmin := minOf_le xs
    have hmax := le_maxOf xs
    have hm1 := met_all xs _ (minOf_mem xs hl0)
    have hm2 := met_all xs _ (maxOf_mem xs hl0)
    rw [← hlo] at hmin hm1
    rw [← hhi] at hmax hm2
    have HM := Hid.mk (And.intro hmin (And.intro hmax (And.intro hm1 hm2)))
    have HL := Hid.mk hlo
    have HH := Hid.mk hhi
    clear hoff hlo hhi hmin hmax hm1 hm2
    go_enter Try.func11, Try.ntmps11
    go_wp2_with (fail)
    refine least_calls xs A cap w _ HI ?_
    rw [← HL.out]
    go_wp2_with (fail)
    refine most_calls xs A cap w _ HI ?_
    rw [← HH.out]
    go_wp2_with (fail)
    go_loopg [5, 6, 7] (xs.length) (fun g va vb vi wr => ∃ (k : Nat) (p q : Bool), k ≤ xs.length ∧ vi = .int .i64 k ∧ va = .bool p ∧ vb = .bool q ∧ Hid (p = met xs k lo) ∧ Hid (q = met xs k hi) ∧ Hid (g = xs.length - k) ∧ Below w.heap.size w wr)
    case atStart => exact ⟨0, false, false, Nat.zero_le _, rfl, rfl, rfl, Hid.mk rfl, Hid.mk rfl, Hid.mk rfl, Below.refl _ _⟩
    case round =>
      obtain ⟨k, p, q, hk, rfl, rfl, rfl, HP, HQ, HG, HB⟩ := hrel
      by_cases hlt : k < xs.length
      · obtain ⟨x, hx⟩ : ∃ x, x = xs.getD k 0 := ⟨_, rfl⟩
        obtain ⟨b, off, rfl, hck⟩ := (HI.below HB).at_ k hlt
        rw [← hx] at hck
        have hx1 := HM.out.1 k hlt
        have hx2 := HM.out.2.1 k hlt
        rw [← hx] at hx1 hx2
        have HP2 : Hid ((p || (x == lo)) = met xs (k + 1) lo) := Hid.mk (by rw [met_snoc _ _ _ hlt, ← HP.out, ← hx])
        have HQ2 : Hid ((q || (x == hi)) = met xs (k + 1) hi) := Hid.mk (by rw [met_snoc _ _ _ hlt, ← HQ.out, ← hx])
        have HIH := Hid.mk HI
        clear hx HI HP HQ
        cases p <;> cases q
        all_goals
          go_wp2_with (fail)
          go_quiet (fail)
          go_wp2_with (fail)
          go_roundg (xs.length - (k + 1))
          case measure => rw [HG.out]; omega
          case rel => exact ⟨k + 1, _, _, by omega, by go_num, rfl, rfl, HP2, HQ2, Hid.mk rfl, below_then HB (below_drewN (Below.refl _ _) _)⟩
      · obtain rfl : k = xs.length := by omega
        have hp : p = true := by rw [HP.out]; exact HM.out.2.2.1
        have hq : q = true := by rw [HQ.out]; exact HM.out.2.2.2
        subst hp hq
        go_wp2_with (fail)
        refine alive_calls _ _ ?_
        intro w3 hb3
        go_wp2_with (fail)
        exact HR.out _ (below_then HB hb3)
end Go.Proofs.Ytalgnpgpbbjgpaa
