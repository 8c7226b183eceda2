/- The walks of package money's MulDiv and Share: what they answer at every input. -/
import Derived.Test.YtalgnpgpbbjgpaaDivW
namespace Go.Proofs.Ytalgnpgpbbjgpaa
open Go.RowKit

/-- A whole number that an int can be. -/
def I64 (x : Int) : Prop := -9223372036854775808 ≤ x ∧ x ≤ 9223372036854775807

/-- The document's MulDiv. -/
def mulDiv (a b c : Int) : Int × Int := if a < 0 ∨ b < 0 ∨ c < 1 then (0, 1) else if 1152921504606846976 < a * b / c then (0, 12) else (a * b / c, 0)

theorem mulDiv_bad (a b c : Int) (w : World) (R : Ending → World → Prop) (h : a < 0 ∨ b < 0 ∨ c < 1) (hR : R (.returned (.tuple #[.int .i64 0, .int .i64 1])) w) :
    Calls Try.prog 13 #[.int .i64 a, .int .i64 b, .int .i64 c] w R := by
  by_cases ha : a < 0
  · clear h
    go_enter Try.func13, Try.ntmps13
    go_wp2_with (fail)
    exact hR
  by_cases hb : b < 0
  · clear h
    go_enter Try.func13, Try.ntmps13
    go_wp2_with (fail)
    exact hR
  have hc : c < 1 := by omega
  clear h
  go_enter Try.func13, Try.ntmps13
  go_wp2_with (fail)
  exact hR

set_option maxHeartbeats 1000000 in
theorem mulDiv_good (a b c : Nat) (w : World) (R : Ending → World → Prop) (ha : a ≤ 9223372036854775807) (hb : b ≤ 9223372036854775807) (hc : c ≤ 9223372036854775807) (hc1 : 1 ≤ c)
    (hR : ∀ w', Below w.heap.size w w' → R (.returned (.tuple #[.int .i64 (if 1152921504606846976 < a * b / c then 0 else ((a * b / c : Nat) : Int)), .int .i64 (if 1152921504606846976 < a * b / c then 12 else 0)])) w') :
    Calls Try.prog 13 #[.int .i64 a, .int .i64 b, .int .i64 c] w R := by
  have a0 : ¬ ((a : Int) < 0) := by omega
  have b0 : ¬ ((b : Int) < 0) := by omega
  have c0 : ¬ ((c : Int) < 1) := by omega
  obtain ⟨hi, hhi⟩ : ∃ hi, hi = a * b / 18446744073709551616 := ⟨_, rfl⟩
  obtain ⟨lo, hlo⟩ : ∃ lo, lo = a * b % 18446744073709551616 := ⟨_, rfl⟩
  have hlol : lo < 18446744073709551616 := by omega
  have hab : a * b = hi * 18446744073709551616 + lo := by omega
  have hhil : hi < 9223372036854775807 := by
    have h1 : a * b ≤ 9223372036854775807 * 9223372036854775807 := Nat.mul_le_mul ha hb
    omega
  obtain ⟨q, hq⟩ : ∃ q, q = a * b / c := ⟨_, rfl⟩
  rw [← hq] at hR
  have HAB := Hid.mk hab
  have HQ := Hid.mk hq
  have HH := Hid.mk (And.intro hhi hlo)
  clear hhi hlo hab hq
  go_enter Try.func13, Try.ntmps13
  go_wp2_with (fail)
  refine (Try.bits_Mul64 a b (by omega) (by omega) w).mono ?_
  rintro e w' ⟨rfl, rfl⟩
  rw [← HH.out.1, ← HH.out.2]
  by_cases hge : c ≤ hi
  · have hbig : 1152921504606846976 < q := by
      rw [HQ.out, HAB.out]
      have h1 : c * 18446744073709551616 ≤ hi * 18446744073709551616 + lo := by omega
      have h2 := (Nat.le_div_iff_mul_le (show 0 < c by omega)).2 (show 18446744073709551616 * c ≤ hi * 18446744073709551616 + lo by omega)
      omega
    rw [if_pos hbig, if_pos hbig] at hR
    have HB := Hid.mk hbig
    clear hbig
    go_wp2_with (fail)
    exact Below.refl _ _
  · have hlt : hi < c := by omega
    clear hge
    go_wp2_with (fail)
    refine div64_calls hi lo c _ _ hlt (by omega) hlol ?_
    intro r w1 hb1
    rw [← HAB.out, ← HQ.out]
    have hq64 : q < 18446744073709551616 := by
      rw [HQ.out, HAB.out]
      refine (Nat.div_lt_iff_lt_mul (show 0 < c by omega)).2 ?_
      have : (hi + 1) * 18446744073709551616 ≤ c * 18446744073709551616 := Nat.mul_le_mul hlt (Nat.le_refl _)
      omega
    by_cases hbig : 1152921504606846976 < q
    · rw [if_pos hbig, if_pos hbig] at hR
      go_wp2_with (fail)
      exact hb1
    · rw [if_neg hbig, if_neg hbig] at hR
      go_wp2_with (fail)
      exact hb1

theorem mulDiv_calls (a b c : Int) (w : World) (R : Ending → World → Prop) (ha : I64 a) (hb : I64 b) (hc : I64 c)
    (hR : ∀ w', Below w.heap.size w w' → R (.returned (.tuple #[.int .i64 (mulDiv a b c).1, .int .i64 (mulDiv a b c).2])) w') :
    Calls Try.prog 13 #[.int .i64 a, .int .i64 b, .int .i64 c] w R := by
  by_cases h : a < 0 ∨ b < 0 ∨ c < 1
  · have e : mulDiv a b c = (0, 1) := if_pos h
    rw [e] at hR
    exact mulDiv_bad a b c w R h (hR w (Below.refl _ _))
  · have e : mulDiv a b c = if 1152921504606846976 < a * b / c then (0, 12) else (a * b / c, 0) := if_neg h
    rw [e] at hR
    obtain ⟨a, rfl⟩ := Int.eq_ofNat_of_zero_le (show 0 ≤ a by omega)
    obtain ⟨b, rfl⟩ := Int.eq_ofNat_of_zero_le (show 0 ≤ b by omega)
    obtain ⟨c, rfl⟩ := Int.eq_ofNat_of_zero_le (show 0 ≤ c by omega)
    obtain ⟨_, ha⟩ := ha
    obtain ⟨_, hb⟩ := hb
    obtain ⟨_, hc⟩ := hc
    refine mulDiv_good a b c w R (by omega) (by omega) (by omega) (by omega) ?_
    intro w' hb'
    have := hR w' hb'
    have e2 : (a : Int) * (b : Int) / (c : Int) = ((a * b / c : Nat) : Int) := by rw [Int.natCast_ediv, Int.natCast_mul]
    rw [e2] at this
    by_cases h2 : 1152921504606846976 < a * b / c
    · rw [if_pos h2, if_pos h2]
      rw [if_pos (by omega)] at this
      exact this
    · rw [if_neg h2, if_neg h2]
      rw [if_neg (by omega)] at this
      exact this

/-- The document's Share. -/
def share (amount done of : Int) : Int × Int := if done < 0 ∨ of < done then (0, 1) else mulDiv amount done of

theorem share_calls (a d o : Int) (w : World) (R : Ending → World → Prop) (ha : I64 a) (hb : I64 d) (hc : I64 o)
    (hR : ∀ w', Below w.heap.size w w' → R (.returned (.tuple #[.int .i64 (share a d o).1, .int .i64 (share a d o).2])) w') :
    Calls Try.prog 15 #[.int .i64 a, .int .i64 d, .int .i64 o] w R := by
  by_cases h : d < 0 ∨ o < d
  · have e : share a d o = (0, 1) := if_pos h
    rw [e] at hR
    by_cases h1 : d < 0
    · clear h ha hb hc e
      go_enter Try.func15, Try.ntmps15
      go_wp2_with (fail)
      exact Below.refl _ _
    · have h2 : o < d := by omega
      clear h ha hb hc e
      go_enter Try.func15, Try.ntmps15
      go_wp2_with (fail)
      exact Below.refl _ _
  · have e : share a d o = mulDiv a d o := if_neg h
    rw [e] at hR
    have h1 : ¬ d < 0 := by omega
    have h2 : ¬ o < d := by omega
    have HA := Hid.mk (And.intro ha (And.intro hb hc))
    clear h ha hb hc e
    go_enter Try.func15, Try.ntmps15
    go_wp2_with (fail)
    refine mulDiv_calls a d o _ _ HA.out.1 HA.out.2.1 HA.out.2.2 ?_
    intro w1 hb1
    go_wp2_with (fail)
    exact hb1
end Go.Proofs.Ytalgnpgpbbjgpaa
