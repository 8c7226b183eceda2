/- The walks of package money's wrong, Worth and Need: what they answer at every input. -/
import Derived.Test.YtalgnpgpbbjgpaaMb
namespace Go.Proofs.Ytalgnpgpbbjgpaa
open Go.RowKit

def Wrong (n p c : Int) : Prop := n < 0 ∨ p < 0 ∨ c < 0 ∨ 10000 < c

theorem wrong_yes (n p c : Int) (w : World) (R : Ending → World → Prop) (h : Wrong n p c) (hR : R (.returned (.bool true)) w) : Calls Try.prog 39 #[.int .i64 n, .int .i64 p, .int .i64 c] w R := by
  unfold Wrong at h
  by_cases h1 : n < 0
  · clear h
    go_enter Try.func39, Try.ntmps39
    go_wp2_with (fail)
    exact hR
  by_cases h2 : p < 0
  · clear h
    go_enter Try.func39, Try.ntmps39
    go_wp2_with (fail)
    exact hR
  by_cases h3 : c < 0
  · clear h
    go_enter Try.func39, Try.ntmps39
    go_wp2_with (fail)
    exact hR
  have h4 : 10000 < c := by omega
  clear h
  go_enter Try.func39, Try.ntmps39
  go_wp2_with (fail)
  exact hR
theorem wrong_no (n p c : Int) (w : World) (R : Ending → World → Prop) (h : ¬ Wrong n p c) (hR : R (.returned (.bool false)) w) : Calls Try.prog 39 #[.int .i64 n, .int .i64 p, .int .i64 c] w R := by
  unfold Wrong at h
  have h1 : ¬ n < 0 := by omega
  have h2 : ¬ p < 0 := by omega
  have h3 : ¬ c < 0 := by omega
  have h4 : ¬ 10000 < c := by omega
  clear h
  go_enter Try.func39, Try.ntmps39
  go_wp2_with (fail)
  exact hR

/-- The document's Worth. -/
def worth (q p c : Int) : Int × Int := if q < 0 ∨ p < 0 ∨ c < 0 ∨ 10000 < c then (0, 1) else if 1152921504606846976 < q * p then (0, 12) else (q * p * (10000 - c) / 10000, 0)

theorem mulDiv_cut (n c : Int) (h0 : 0 ≤ n) (h1 : n ≤ 1152921504606846976) (h2 : 0 ≤ c) (h3 : c ≤ 10000) : mulDiv n (10000 - c) 10000 = (n * (10000 - c) / 10000, 0) := by
  unfold mulDiv
  rw [if_neg (by omega), if_neg]
  have : n * (10000 - c) ≤ n * 10000 := Int.mul_le_mul_of_nonneg_left (by omega) h0
  omega

set_option maxHeartbeats 1000000 in
theorem worth_calls (q p c : Int) (w : World) (R : Ending → World → Prop) (hq : I64 q) (hp : I64 p) (hc : I64 c)
    (hR : ∀ w', Below w.heap.size w w' → R (.returned (.tuple #[.int .i64 (worth q p c).1, .int .i64 (worth q p c).2])) w') :
    Calls Try.prog 17 #[.int .i64 q, .int .i64 p, .int .i64 c] w R := by
  by_cases h : Wrong q p c
  · have e : worth q p c = (0, 1) := if_pos h
    rw [e] at hR
    clear e hq hp hc
    go_enter Try.func17, Try.ntmps17
    go_wp2_with (fail)
    refine wrong_yes q p c _ _ h ?_
    go_wp2_with (fail)
    exact Below.refl _ _
  · have e : worth q p c = if 1152921504606846976 < q * p then (0, 12) else (q * p * (10000 - c) / 10000, 0) := if_neg h
    rw [e] at hR
    clear e
    have h' := h
    unfold Wrong at h'
    have hpos : 0 ≤ q * p := Int.mul_nonneg (by omega) (by omega)
    have HH := Hid.mk (And.intro hq (And.intro hp (And.intro hc (And.intro h (And.intro h' hpos)))))
    have hc' : 0 ≤ c ∧ c ≤ 10000 := by omega
    obtain ⟨hc1, hc2⟩ := hc'
    clear hq hp hc h h' hpos
    have HR := Hid.mk hR
    clear hR
    go_enter Try.func17, Try.ntmps17
    go_wp2_with (fail)
    refine wrong_no q p c _ _ HH.out.2.2.2.1 ?_
    go_wp2_with (fail)
    have ha : AccAt (w.alloc (.cells #[.bool false] 30)) w.heap.size false := blk_new _ _
    refine mul_some w.heap.size false q p _ _ ha HH.out.1 HH.out.2.1 ?_
    intro w1 hk1 ha1
    have hb1 : Below w.heap.size w w1 := (below_allocs (Below.refl w.heap.size w) _).trans ⟨hk1.os, hk1.tape, hk1.output, hk1.size, fun i hi => hk1.block i (by simp; omega) (fun e => by have : i = w.heap.size := e; omega)⟩
    clear hk1 ha
    rw [Bool.false_or] at ha1
    have c0 := blk_cell ha1 0
    simp only [List.getElem?_toArray, List.getElem?_cons_zero] at c0
    have hpos := HH.out.2.2.2.2.2
    by_cases hbig : 1152921504606846976 < q * p
    · have e : prod q p = (1152921504606846976, true) := by unfold prod; rw [if_pos hbig]
      have HR2 := HR.out
      rw [if_pos hbig] at HR2
      clear HR hbig hpos
      rw [e] at ha1 c0 ⊢
      clear e
      go_wp2_with (fail)
      exact hb1
    · have e : prod q p = (q * p, false) := by unfold prod; rw [if_neg hbig, if_neg (by omega)]
      have HR2 := HR.out
      rw [if_neg hbig] at HR2
      obtain ⟨n, hn⟩ : ∃ n, n = q * p := ⟨_, rfl⟩
      rw [← hn] at e hbig hpos HR2
      have hm := mulDiv_cut n c hpos (by omega) hc1 hc2
      have HM := Hid.mk hm
      have hn2 : n ≤ 1152921504606846976 := by omega
      have hI : I64 n := ⟨by omega, by omega⟩
      clear HR hbig hm hn
      rw [e] at ha1 c0 ⊢
      clear e
      go_wp2_with (fail)
      refine mulDiv_calls n (10000 - c) 10000 _ _ hI ⟨by omega, by omega⟩ ⟨by omega, by omega⟩ ?_
      rw [HM.out]
      intro w2 hb2
      go_wp2_with (fail)
      exact below_then hb1 hb2
end Go.Proofs.Ytalgnpgpbbjgpaa
