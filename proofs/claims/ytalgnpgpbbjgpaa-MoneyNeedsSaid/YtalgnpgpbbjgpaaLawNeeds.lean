/- The walk of the law MoneyNeeds: it answers true at every three ints, and leaves old memory as it was. -/
import Derived.Test.YtalgnpgpbbjgpaaMh
namespace Go.Proofs.Ytalgnpgpbbjgpaa
open Go.RowKit

set_option maxHeartbeats 2000000 in
set_option maxRecDepth 100000 in
theorem moneyNeeds_calls (v p c : Int) (w : World) (R : Ending → World → Prop) (hv : I64 v) (hp : I64 p) (hc : I64 c) (hR : ∀ w', Below w.heap.size w w' → R (.returned (.bool true)) w') :
    Calls Try.prog 12 #[.int .i64 v, .int .i64 p, .int .i64 c] w R := by
  have HR := Hid.mk hR
  have HA := Hid.mk (And.intro hv (And.intro hp hc))
  clear hv hp hc hR
  go_enter Try.func12, Try.ntmps12
  go_wp2_with (fail)
  refine need_calls v p c _ _ HA.out.1 HA.out.2.1 HA.out.2.2 ?_
  intro r w1 hr hb1
  obtain ⟨q, e⟩ := r
  rcases hr with ⟨h, h1⟩ | ⟨h, h1, h2, h3, h4, h5⟩ | ⟨h, h1, h2⟩
  · injection h1 with h1 h2
    subst h1 h2
    go_wp2_with (fail)
    refine alive_calls _ _ ?_
    intro w2 hb2
    go_wp2_with (fail)
    exact HR.out _ (below_then hb1 hb2)
  · simp only at h1 h2 h3 h4 h5
    subst h1
    have h' := h
    unfold Wrong at h'
    have hp0 : 0 ≤ p := by omega
    have hc0 : 0 ≤ c ∧ c ≤ 10000 := by omega
    have hm := (most_bounds p hp0).2
    have HW := Hid.mk (worth_in q p c hp0 hc0 h2 h3)
    obtain ⟨f, hf⟩ : ∃ f, f = wf q p c := ⟨_, rfl⟩
    have hfv : v ≤ f := by rw [hf]; exact h4
    have hf0 : 0 ≤ f := by omega
    have hfl : f ≤ 1152921504606846976 := by
      rw [hf]
      have t1 := most_mul q p hp0 h3
      have t0 : 0 ≤ q * p := Int.mul_nonneg h2 hp0
      have t2 : q * p * (10000 - c) ≤ q * p * 10000 := Int.mul_le_mul_of_nonneg_left (by omega) t0
      unfold wf
      omega
    have hq2 : q ≤ 1152921504606846976 := by omega
    have HH := Hid.mk (And.intro h (And.intro h3 (And.intro h5 (And.intro hp0 hc0))))
    have HF := Hid.mk hf
    have hve : (0 : Int) ≤ v := by omega
    rw [← hf] at HW
    clear h h' hp0 hc0 hm h3 h4 h5 hf
    go_wp2_with (fail)
    refine worth_calls q p c _ _ ⟨by omega, by omega⟩ HA.out.2.1 HA.out.2.2 ?_
    rw [HW.out]
    intro w2 hb2
    replace hb2 := below_then hb1 hb2
    clear hb1
    by_cases hq0 : q = 0
    · subst hq0
      have hv0 : v ≤ 0 := by
        have : wf 0 p c = 0 := by unfold wf; simp
        have := HF.out
        omega
      go_wp2_with (fail)
      refine alive_calls _ _ ?_
      intro w3 hb3
      go_wp2_with (fail)
      exact HR.out _ (below_then hb2 hb3)
    · have hq1 : (q == 0) = false := by simpa using hq0
      have HX := Hid.mk (worth_in (q - 1) p c HH.out.2.2.2.1 HH.out.2.2.2.2 (by omega) (by have := HH.out.2.1; omega))
      obtain ⟨x, hx⟩ : ∃ x, x = wf (q - 1) p c := ⟨_, rfl⟩
      have hxv : x < v := by rw [hx]; exact HH.out.2.2.1 (q - 1) (by omega) (by omega)
      rw [← hx] at HX
      clear hx
      have hqp : 1 ≤ q := by omega
      clear hq0
      go_wp2_with (fail)
      refine worth_calls (q - 1) p c _ _ ⟨by omega, by omega⟩ HA.out.2.1 HA.out.2.2 ?_
      rw [HX.out]
      intro w3 hb3
      replace hb3 := below_then hb2 hb3
      clear hb2
      go_wp2_with (fail)
      refine need_calls f p c _ _ ⟨by omega, by omega⟩ HA.out.2.1 HA.out.2.2 ?_
      intro s w4 hs hb4
      replace hb4 := below_then hb3 hb4
      clear hb3
      obtain ⟨n, e⟩ := s
      have hnw : ¬ Wrong f p c := by
        have := HH.out.1
        unfold Wrong at this ⊢
        omega
      have hne : e = 0 ∧ n ≤ q := by
        rcases hs with ⟨k, k1⟩ | ⟨k, k1, k2, k3, k4, k5⟩ | ⟨k, k1, k2⟩
        · exact absurd k hnw
        · simp only at k1 k2 k3 k4 k5
          refine ⟨k1, ?_⟩
          by_cases hlt : q < n
          · have := k5 q (by omega) hlt
            have := HF.out
            omega
          · omega
        · have := k2 q (by omega) HH.out.2.1
          have := HF.out
          omega
      obtain ⟨rfl, hnq⟩ := hne
      clear hs hnw
      go_wp2_with (fail)
      refine alive_calls _ _ ?_
      intro w5 hb5
      go_wp2_with (fail)
      exact HR.out _ (below_then hb4 hb5)
  · injection h1 with h1 h3
    subst h1 h3
    clear h2
    go_wp2_with (fail)
    refine alive_calls _ _ ?_
    intro w2 hb2
    go_wp2_with (fail)
    exact HR.out _ (below_then hb1 hb2)
end Go.Proofs.Ytalgnpgpbbjgpaa
