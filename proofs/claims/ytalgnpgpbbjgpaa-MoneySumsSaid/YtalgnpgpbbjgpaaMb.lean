/- The walks of package money's Acc (size, over, Mul), of wrong and of Worth: what they answer at every input. -/
import Derived.Test.YtalgnpgpbbjgpaaMa
namespace Go.Proofs.Ytalgnpgpbbjgpaa
open Go.RowKit

theorem size_calls (x : Int) (w : World) (R : Ending → World → Prop) (hx : I64 x) (hR : R (.returned (.int .u64 (x.natAbs : Int))) w) : Calls Try.prog 47 #[.int .i64 x] w R := by
  obtain ⟨h1, h2⟩ := hx
  by_cases h : x < 0
  · obtain ⟨n, hn⟩ : ∃ n, n = x.natAbs := ⟨_, rfl⟩
    have e1 : IntKind.u64.wrap x = 18446744073709551616 - (n : Int) := by rw [IntKind.wrap_u64]; omega
    have e2 : IntKind.u64.wrap (-(18446744073709551616 - (n : Int))) = (n : Int) := by rw [IntKind.wrap_u64]; omega
    rw [← hn] at hR
    clear hn
    go_enter Try.func47, Try.ntmps47
    go_wp2_with (fail)
    exact hR
  · obtain ⟨n, rfl⟩ := Int.eq_ofNat_of_zero_le (show 0 ≤ x by omega)
    have e : ((n : Int).natAbs : Int) = (n : Int) := by simp
    rw [e] at hR
    clear e
    go_enter Try.func47, Try.ntmps47
    go_wp2_with (fail)
    exact hR

/-- An Acc at block g. -/
def AccAt (w : World) (g : Nat) (o : Bool) : Prop := w.heap[g]? = some (.cells #[.bool o] 30 (0, 0))
theorem AccAt.set {w : World} {g : Nat} {o : Bool} (h : AccAt w g o) (u : Bool) : AccAt (w.setCell ⟨g, 0, none⟩ (.bool u)) g u := blk_set h 0 (.bool u)

theorem over_nil (b : Bool) (w : World) (R : Ending → World → Prop) (hR : R (.returned (.int .i64 (if b then -1152921504606846976 else 1152921504606846976))) w) : Calls Try.prog 41 #[.pointer none, .bool b] w R := by
  cases b
  all_goals
    go_enter Try.func41, Try.ntmps41
    go_wp2_with (fail)
    exact hR
theorem over_some (g : Nat) (o b : Bool) (w : World) (R : Ending → World → Prop) (h : AccAt w g o) (hR : R (.returned (.int .i64 (if b then -1152921504606846976 else 1152921504606846976))) (w.setCell ⟨g, 0, none⟩ (.bool true))) :
    Calls Try.prog 41 #[.pointer (some ⟨g, 0, none⟩), .bool b] w R := by
  have c0 := blk_cell h 0
  simp only [List.getElem?_toArray, List.getElem?_cons_zero] at c0
  have f0 := blk_frozen h 0
  cases b
  all_goals
    go_enter Try.func41, Try.ntmps41
    go_wp2_with (fail)
    exact hR

/-- The document's product: what it becomes, and whether it lay beyond an end. -/
def prod (x y : Int) : Int × Bool := if 1152921504606846976 < x * y then (1152921504606846976, true) else if x * y < -1152921504606846976 then (-1152921504606846976, true) else (x * y, false)

/-- The facts of a product, as the machine reckons them. -/
structure Mags (x y : Int) (m n : Nat) (b : Bool) : Prop where
  ml : m ≤ 9223372036854775808
  nl : n ≤ 9223372036854775808
  big : 1152921504606846976 < m * n → (prod x y).1 = (if b then -1152921504606846976 else 1152921504606846976) ∧ (prod x y).2 = true
  small : m * n ≤ 1152921504606846976 → (prod x y).1 = (if b then -((m * n : Nat) : Int) else ((m * n : Nat) : Int)) ∧ (prod x y).2 = false

theorem mags (x y : Int) (hx : I64 x) (hy : I64 y) : Mags x y x.natAbs y.natAbs (!(decide (x < 0) == decide (y < 0))) := by
  obtain ⟨h1, h2⟩ := hx
  obtain ⟨h3, h4⟩ := hy
  have hmn : ((x.natAbs * y.natAbs : Nat) : Int) = (if (!(decide (x < 0) == decide (y < 0))) = true then -(x * y) else x * y) := by
    rw [Int.natCast_mul]
    by_cases hx : x < 0 <;> by_cases hy : y < 0
    · have e1 : (x.natAbs : Int) = -x := by omega
      have e2 : (y.natAbs : Int) = -y := by omega
      rw [e1, e2]; simp [hx, hy, Int.neg_mul, Int.mul_neg]
    · have e1 : (x.natAbs : Int) = -x := by omega
      have e2 : (y.natAbs : Int) = y := by omega
      rw [e1, e2]; simp [hx, hy, Int.neg_mul]
    · have e1 : (x.natAbs : Int) = x := by omega
      have e2 : (y.natAbs : Int) = -y := by omega
      rw [e1, e2]; simp [hx, hy, Int.mul_neg]
    · have e1 : (x.natAbs : Int) = x := by omega
      have e2 : (y.natAbs : Int) = y := by omega
      rw [e1, e2]; simp [hx, hy]
  generalize (!(decide (x < 0) == decide (y < 0))) = b at hmn ⊢
  refine ⟨by omega, by omega, fun h => ?_, fun h => ?_⟩
  · unfold prod
    cases b
    · simp only [Bool.false_eq_true, ↓reduceIte] at hmn ⊢
      rw [if_pos (by omega)]
      exact ⟨rfl, rfl⟩
    · simp only [↓reduceIte] at hmn ⊢
      rw [if_neg (by omega), if_pos (by omega)]
      exact ⟨rfl, rfl⟩
  · unfold prod
    cases b
    · simp only [Bool.false_eq_true, ↓reduceIte] at hmn ⊢
      rw [if_neg (by omega), if_neg (by omega)]
      exact ⟨hmn.symm, rfl⟩
    · simp only [↓reduceIte] at hmn ⊢
      rw [if_neg (by omega), if_neg (by omega)]
      exact ⟨by omega, rfl⟩

set_option maxHeartbeats 1000000 in
theorem mul_some (g : Nat) (o : Bool) (x y : Int) (w : World) (R : Ending → World → Prop) (h : AccAt w g o) (hx : I64 x) (hy : I64 y)
    (hR : ∀ w', Keep (fun i => i = g) w w' → AccAt w' g (o || (prod x y).2) → R (.returned (.int .i64 (prod x y).1)) w') :
    Calls Try.prog 26 #[.pointer (some ⟨g, 0, none⟩), .int .i64 x, .int .i64 y] w R := by
  have HM := Hid.mk (mags x y hx hy)
  obtain ⟨b, hb⟩ : ∃ b, b = (!(decide (x < 0) == decide (y < 0))) := ⟨_, rfl⟩
  obtain ⟨m, hm⟩ : ∃ m, m = x.natAbs := ⟨_, rfl⟩
  obtain ⟨n, hn⟩ : ∃ n, n = y.natAbs := ⟨_, rfl⟩
  rw [← hb, ← hm, ← hn] at HM
  have hml := HM.out.ml
  have hnl := HM.out.nl
  have HE := Hid.mk (And.intro hb (And.intro hm hn))
  clear hb hm hn
  obtain ⟨hi, hhi⟩ : ∃ hi, hi = m * n / 18446744073709551616 := ⟨_, rfl⟩
  obtain ⟨lo, hlo⟩ : ∃ lo, lo = m * n % 18446744073709551616 := ⟨_, rfl⟩
  have hlol : lo < 18446744073709551616 := by omega
  have hab : m * n = hi * 18446744073709551616 + lo := by omega
  have HH := Hid.mk (And.intro hhi hlo)
  have HAB := Hid.mk hab
  have HX := Hid.mk (And.intro hx hy)
  clear hhi hlo hx hy hab
  go_enter Try.func26, Try.ntmps26
  go_wp2_with (fail)
  refine size_calls x _ _ HX.out.1 ?_
  rw [← HE.out.2.1]
  go_wp2_with (fail)
  refine size_calls y _ _ HX.out.2 ?_
  rw [← HE.out.2.2]
  go_wp2_with (fail)
  refine (Try.bits_Mul64 m n (by omega) (by omega) w).mono ?_
  rintro e w' ⟨rfl, rfl⟩
  rw [← HH.out.1, ← HH.out.2]
  have e1 : (!(decide (x < 0) == decide (y < 0))) = b := HE.out.1.symm
  by_cases h0 : hi = 0
  · subst h0
    by_cases hbig : 1152921504606846976 < lo
    · have hp := HM.out.big (by rw [HAB.out]; omega)
      rw [hp.1, hp.2, Bool.or_true] at hR
      clear hp
      have HR := Hid.mk hR
      clear hR
      cases b
      all_goals
        go_wp2_with (fail)
        refine over_some g o _ _ _ h ?_
        go_wp2_with (fail)
        exact HR.out _ ((Keep.refl (fun i => i = g) _).setCell (.inl rfl) _) (h.set true)
    · have hp := HM.out.small (by rw [HAB.out]; omega)
      rw [hp.1, hp.2, Bool.or_false] at hR
      rw [HAB.out, Nat.zero_mul, Nat.zero_add] at hR
      clear hp
      have HR := Hid.mk hR
      clear hR
      cases b
      all_goals
        go_wp2_with (fail)
        exact HR.out _ (Keep.refl (fun i => i = g) _) h
  · have hp := HM.out.big (by rw [HAB.out]; omega)
    rw [hp.1, hp.2, Bool.or_true] at hR
    have h0' : ((hi : Int) == 0) = false := by simpa using h0
    have h0'' : ((hi : Int) != 0) = true := by simpa using h0
    clear h0 hp
    have HR := Hid.mk hR
    clear hR
    cases b
    all_goals
      go_wp2_with (fail)
      refine over_some g o _ _ _ h ?_
      go_wp2_with (fail)
      exact HR.out _ ((Keep.refl (fun i => i = g) _).setCell (.inl rfl) _) (h.set true)
set_option maxHeartbeats 1000000 in
theorem mul_nil (x y : Int) (w : World) (R : Ending → World → Prop) (hx : I64 x) (hy : I64 y)
    (hR : R (.returned (.int .i64 (prod x y).1)) w) :
    Calls Try.prog 26 #[.pointer none, .int .i64 x, .int .i64 y] w R := by
  have HM := Hid.mk (mags x y hx hy)
  obtain ⟨b, hb⟩ : ∃ b, b = (!(decide (x < 0) == decide (y < 0))) := ⟨_, rfl⟩
  obtain ⟨m, hm⟩ : ∃ m, m = x.natAbs := ⟨_, rfl⟩
  obtain ⟨n, hn⟩ : ∃ n, n = y.natAbs := ⟨_, rfl⟩
  rw [← hb, ← hm, ← hn] at HM
  have hml := HM.out.ml
  have hnl := HM.out.nl
  have HE := Hid.mk (And.intro hb (And.intro hm hn))
  clear hb hm hn
  obtain ⟨hi, hhi⟩ : ∃ hi, hi = m * n / 18446744073709551616 := ⟨_, rfl⟩
  obtain ⟨lo, hlo⟩ : ∃ lo, lo = m * n % 18446744073709551616 := ⟨_, rfl⟩
  have hlol : lo < 18446744073709551616 := by omega
  have hab : m * n = hi * 18446744073709551616 + lo := by omega
  have HH := Hid.mk (And.intro hhi hlo)
  have HAB := Hid.mk hab
  have HX := Hid.mk (And.intro hx hy)
  clear hhi hlo hx hy hab
  go_enter Try.func26, Try.ntmps26
  go_wp2_with (fail)
  refine size_calls x _ _ HX.out.1 ?_
  rw [← HE.out.2.1]
  go_wp2_with (fail)
  refine size_calls y _ _ HX.out.2 ?_
  rw [← HE.out.2.2]
  go_wp2_with (fail)
  refine (Try.bits_Mul64 m n (by omega) (by omega) w).mono ?_
  rintro e w' ⟨rfl, rfl⟩
  rw [← HH.out.1, ← HH.out.2]
  have e1 : (!(decide (x < 0) == decide (y < 0))) = b := HE.out.1.symm
  by_cases h0 : hi = 0
  · subst h0
    by_cases hbig : 1152921504606846976 < lo
    · have hp := HM.out.big (by rw [HAB.out]; omega)
      rw [hp.1] at hR
      clear hp
      have HR := Hid.mk hR
      clear hR
      cases b
      all_goals
        go_wp2_with (fail)
        refine over_nil _ _ _ ?_
        go_wp2_with (fail)
        exact HR.out
    · have hp := HM.out.small (by rw [HAB.out]; omega)
      rw [hp.1] at hR
      rw [HAB.out, Nat.zero_mul, Nat.zero_add] at hR
      clear hp
      have HR := Hid.mk hR
      clear hR
      cases b
      all_goals
        go_wp2_with (fail)
        exact HR.out
  · have hp := HM.out.big (by rw [HAB.out]; omega)
    rw [hp.1] at hR
    have h0' : ((hi : Int) == 0) = false := by simpa using h0
    have h0'' : ((hi : Int) != 0) = true := by simpa using h0
    clear h0 hp
    have HR := Hid.mk hR
    clear hR
    cases b
    all_goals
      go_wp2_with (fail)
      refine over_nil _ _ _ ?_
      go_wp2_with (fail)
      exact HR.out
end Go.Proofs.Ytalgnpgpbbjgpaa
