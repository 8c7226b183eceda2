/- The walk of the law MoneyDivides: it answers true at every three ints, and leaves old memory as it was. -/
import Derived.Test.YtalgnpgpbbjgpaaMh
namespace Go.Proofs.Ytalgnpgpbbjgpaa
open Go.RowKit

theorem mulDiv_comm (a b c : Int) : mulDiv b a c = mulDiv a b c := by
  unfold mulDiv
  rw [Int.mul_comm b a]
  by_cases h : a < 0 ∨ b < 0 ∨ c < 1
  · rw [if_pos h, if_pos (by omega)]
  · rw [if_neg h, if_neg (by omega)]

set_option maxHeartbeats 1000000 in
theorem moneyDivides_calls (a b c : Int) (w : World) (R : Ending → World → Prop) (ha : I64 a) (hb : I64 b) (hc : I64 c) (hR : ∀ w', Below w.heap.size w w' → R (.returned (.bool true)) w') :
    Calls Try.prog 6 #[.int .i64 a, .int .i64 b, .int .i64 c] w R := by
  obtain ⟨r, hr⟩ : ∃ r, r = mulDiv a b c := ⟨_, rfl⟩
  obtain ⟨v, e⟩ := r
  have HV := Hid.mk hr
  have HA := Hid.mk (And.intro ha (And.intro hb hc))
  have HR := Hid.mk hR
  clear hr ha hb hc hR
  go_enter Try.func6, Try.ntmps6
  go_wp2_with (fail)
  refine mulDiv_calls a b c _ _ HA.out.1 HA.out.2.1 HA.out.2.2 ?_
  rw [← HV.out]
  intro w1 hb1
  go_wp2_with (fail)
  refine mulDiv_calls b a c _ _ HA.out.2.1 HA.out.1 HA.out.2.2 ?_
  rw [mulDiv_comm, ← HV.out]
  intro w2 hb2
  replace hb2 := below_then hb1 hb2
  clear hb1
  by_cases he : e = 0
  · subst he
    have hv := HV.out
    unfold mulDiv at hv
    by_cases hbad : a < 0 ∨ b < 0 ∨ c < 1
    · rw [if_pos hbad] at hv
      injection hv with _ h2
      exact absurd h2 (by decide)
    rw [if_neg hbad] at hv
    by_cases hbig : 1152921504606846976 < a * b / c
    · rw [if_pos hbig] at hv
      injection hv with _ h2
      exact absurd h2 (by decide)
    rw [if_neg hbig] at hv
    injection hv with hv _
    by_cases h1 : 1073741824 < a
    · clear hv hbad hbig
      go_wp2_with (fail)
      refine alive_calls _ _ ?_
      intro w3 hb3
      go_wp2_with (fail)
      exact HR.out _ (below_then hb2 hb3)
    by_cases h2 : 1073741824 < b
    · clear hv hbad hbig
      go_wp2_with (fail)
      refine alive_calls _ _ ?_
      intro w3 hb3
      go_wp2_with (fail)
      exact HR.out _ (below_then hb2 hb3)
    by_cases h3 : 1152921504606846976 < c
    · clear hv hbad hbig
      go_wp2_with (fail)
      refine alive_calls _ _ ?_
      intro w3 hb3
      go_wp2_with (fail)
      exact HR.out _ (below_then hb2 hb3)
    obtain ⟨p, hp⟩ : ∃ p, p = a * b := ⟨_, rfl⟩
    obtain ⟨q, hq⟩ : ∃ q, q = v * c := ⟨_, rfl⟩
    rw [← hp] at hv
    have p0 : 0 ≤ p := by rw [hp]; exact Int.mul_nonneg (by omega) (by omega)
    have p1 : p ≤ 1152921504606846976 := by
      rw [hp]
      have t1 : a * b ≤ 1073741824 * b := Int.mul_le_mul_of_nonneg_right (by omega) (by omega)
      omega
    have hdm := Int.mul_ediv_add_emod p c
    have hm0 := Int.emod_nonneg p (show c ≠ 0 by omega)
    have hm1 := Int.emod_lt_of_pos p (show 0 < c by omega)
    rw [← hv, Int.mul_comm, ← hq] at hdm
    have q1 : q ≤ p := by omega
    have q2 : p - q < c := by omega
    have q0 : -1152921504606846976 ≤ q := by omega
    have e1 : IntKind.i64.wrap (a * b) = p := by rw [← hp, IntKind.wrap_i64]; omega
    have e2 : IntKind.i64.wrap (v * c) = q := by rw [← hq, IntKind.wrap_i64]; omega
    have h1' : decide (1073741824 < a) = false := decide_eq_false h1
    have h2' : decide (1073741824 < b) = false := decide_eq_false h2
    have h3' : decide (1152921504606846976 < c) = false := decide_eq_false h3
    clear hv hbad hbig hp hq hdm hm0 hm1 h1 h2 h3
    go_wp2_with (fail)
    refine alive_calls _ _ ?_
    intro w3 hb3
    go_wp2_with (fail)
    exact HR.out _ (below_then hb2 hb3)
  · have he' : (e == 0) = false := by simpa using he
    have he2 : (e != 0) = true := by simpa using he
    clear he
    go_wp2_with (fail)
    refine alive_calls _ _ ?_
    intro w3 hb3
    go_wp2_with (fail)
    exact HR.out _ (below_then hb2 hb3)
end Go.Proofs.Ytalgnpgpbbjgpaa
