/- The walk of the law MoneyWorths: it answers true at every four ints, and leaves old memory as it was. -/
import Derived.Test.YtalgnpgpbbjgpaaMh
namespace Go.Proofs.Ytalgnpgpbbjgpaa
open Go.RowKit

def OffW (q p c m : Int) : Prop := q < 0 ∨ p < 0 ∨ c < 0 ∨ 10000 < c ∨ m < 0 ∨ 268435456 < q ∨ 268435456 < p ∨ 268435456 < m

theorem worth_small (q p c : Int) (hq : 0 ≤ q ∧ q ≤ 536870912) (hp : 0 ≤ p ∧ p ≤ 536870912) (hc : 0 ≤ c ∧ c ≤ 10000) : worth q p c = (wf q p c, 0) := by
  unfold worth
  have t1 : q * p ≤ 536870912 * p := Int.mul_le_mul_of_nonneg_right (by omega) (by omega)
  rw [if_neg (by omega), if_neg (by omega)]
  rfl
theorem wf_mono2 (q p r c : Int) (hq : 0 ≤ q) (hc : c ≤ 10000) (h : p ≤ r) : wf q p c ≤ wf q r c := by
  unfold wf
  refine Int.ediv_le_ediv (by omega) ?_
  exact Int.mul_le_mul_of_nonneg_right (Int.mul_le_mul_of_nonneg_left h hq) (by omega)
theorem wf_cut0 (q p : Int) : wf q p 0 = q * p := by unfold wf; rw [show (10000 - 0 : Int) = 10000 from rfl]; omega
theorem wf_cut1 (q p : Int) : wf q p 10000 = 0 := by unfold wf; simp
theorem wf_le (q p c : Int) (h : 0 ≤ q * p) (hc : 0 ≤ c) : wf q p c ≤ q * p := by
  have : wf q p c ≤ wf q p 0 := by
    unfold wf
    refine Int.ediv_le_ediv (by omega) ?_
    exact Int.mul_le_mul_of_nonneg_left (by omega) h
  rwa [wf_cut0] at this

set_option maxHeartbeats 2000000 in
set_option maxRecDepth 100000 in
theorem moneyWorths_calls (q p c m : Int) (w : World) (R : Ending → World → Prop) (_ : I64 q) (_ : I64 p) (_ : I64 c) (_ : I64 m) (hR : ∀ w', Below w.heap.size w w' → R (.returned (.bool true)) w') :
    Calls Try.prog 7 #[.int .i64 q, .int .i64 p, .int .i64 c, .int .i64 m] w R := by
  have HR := Hid.mk hR
  clear hR
  by_cases hoff : OffW q p c m
  · go_enter Try.func7, Try.ntmps7
    go_upto_region 1 with (fail)
    go_cut [48] (fun v48 wc => v48 = .bool true ∧ wc = w)
    case first =>
      unfold OffW at hoff
      by_cases h1 : q < 0
      · clear hoff
        go_wp2_with (fail)
        go_meet
        case rel => exact ⟨rfl, rfl⟩
      by_cases h2 : p < 0
      · clear hoff
        go_wp2_with (fail)
        go_meet
        case rel => exact ⟨rfl, rfl⟩
      by_cases h3 : c < 0
      · clear hoff
        go_wp2_with (fail)
        go_meet
        case rel => exact ⟨rfl, rfl⟩
      by_cases h4 : 10000 < c
      · clear hoff
        go_wp2_with (fail)
        go_meet
        case rel => exact ⟨rfl, rfl⟩
      by_cases h5 : m < 0
      · clear hoff
        go_wp2_with (fail)
        go_meet
        case rel => exact ⟨rfl, rfl⟩
      by_cases h6 : 268435456 < q
      · clear hoff
        go_wp2_with (fail)
        go_meet
        case rel => exact ⟨rfl, rfl⟩
      by_cases h7 : 268435456 < p
      · clear hoff
        go_wp2_with (fail)
        go_meet
        case rel => exact ⟨rfl, rfl⟩
      have h8 : 268435456 < m := by omega
      clear hoff
      go_wp2_with (fail)
      go_meet
      case rel => exact ⟨rfl, rfl⟩
    case rest =>
      obtain ⟨rfl, rfl⟩ := hcut
      go_wp2_with (fail)
      refine alive_calls _ _ ?_
      intro w3 hb3
      go_wp2_with (fail)
      exact HR.out _ hb3
  · have HO := Hid.mk hoff
    unfold OffW at hoff
    have q0 : 0 ≤ q := by omega
    have q1 : q ≤ 268435456 := by omega
    have p0 : 0 ≤ p := by omega
    have p1 : p ≤ 268435456 := by omega
    have c0 : 0 ≤ c := by omega
    have c1 : c ≤ 10000 := by omega
    have m0 : 0 ≤ m := by omega
    have m1 : m ≤ 268435456 := by omega
    have hx0 : 0 ≤ q * p := Int.mul_nonneg q0 p0
    have hx1 : q * p ≤ 268435456 * p := Int.mul_le_mul_of_nonneg_right q1 p0
    obtain ⟨x, hx⟩ : ∃ x, x = q * p := ⟨_, rfl⟩
    rw [← hx] at hx0 hx1
    have HA := Hid.mk (worth_small q p c ⟨q0, by omega⟩ ⟨p0, by omega⟩ ⟨c0, c1⟩)
    have HB := Hid.mk (worth_small (q + m) p c ⟨by omega, by omega⟩ ⟨p0, by omega⟩ ⟨c0, c1⟩)
    have HC := Hid.mk (worth_small q (p + m) c ⟨q0, by omega⟩ ⟨by omega, by omega⟩ ⟨c0, c1⟩)
    have HD := Hid.mk (worth_small q p 10000 ⟨q0, by omega⟩ ⟨p0, by omega⟩ ⟨by omega, by omega⟩)
    have HE := Hid.mk (worth_small q p 0 ⟨q0, by omega⟩ ⟨p0, by omega⟩ ⟨by omega, by omega⟩)
    have hab := wf_mono q (q + m) p c p0 c1 (by omega)
    have hac := wf_mono2 q p (p + m) c q0 c1 (by omega)
    have hax := wf_le q p c (by rw [← hx]; exact hx0) c0
    obtain ⟨fa, hfa⟩ : ∃ fa, fa = wf q p c := ⟨_, rfl⟩
    obtain ⟨fb, hfb⟩ : ∃ fb, fb = wf (q + m) p c := ⟨_, rfl⟩
    obtain ⟨fc, hfc⟩ : ∃ fc, fc = wf q (p + m) c := ⟨_, rfl⟩
    rw [← hfa, ← hfb] at hab
    rw [← hfa, ← hfc] at hac
    rw [← hfa, ← hx] at hax
    rw [wf_cut1] at HD
    rw [wf_cut0, ← hx] at HE
    rw [← hfa] at HA
    rw [← hfb] at HB
    rw [← hfc] at HC
    have e1 : IntKind.i64.wrap (q * p) = x := by rw [← hx, IntKind.wrap_i64]; omega
    clear hoff hx hfa hfb hfc
    go_enter Try.func7, Try.ntmps7
    go_upto_region 1 with (fail)
    go_cut [48] (fun v48 wc => v48 = .bool false ∧ wc = w)
    case first =>
      go_wp2_with (fail)
      go_meet
      case rel => exact ⟨by simp; omega, rfl⟩
    case rest =>
      obtain ⟨rfl, rfl⟩ := hcut
      go_wp2_with (fail)
      refine worth_calls q p c _ _ ⟨by omega, by omega⟩ ⟨by omega, by omega⟩ ⟨by omega, by omega⟩ ?_
      rw [HA.out]
      intro w1 hb1
      go_wp2_with (fail)
      refine worth_calls (q + m) p c _ _ ⟨by omega, by omega⟩ ⟨by omega, by omega⟩ ⟨by omega, by omega⟩ ?_
      rw [HB.out]
      intro w2 hb2
      replace hb2 := below_then hb1 hb2
      clear hb1
      go_wp2_with (fail)
      refine worth_calls q (p + m) c _ _ ⟨by omega, by omega⟩ ⟨by omega, by omega⟩ ⟨by omega, by omega⟩ ?_
      rw [HC.out]
      intro w3 hb3
      replace hb3 := below_then hb2 hb3
      clear hb2
      go_wp2_with (fail)
      refine worth_calls q p 10000 _ _ ⟨by omega, by omega⟩ ⟨by omega, by omega⟩ ⟨by omega, by omega⟩ ?_
      rw [HD.out]
      intro w4 hb4
      replace hb4 := below_then hb3 hb4
      clear hb3
      go_wp2_with (fail)
      refine worth_calls q p 0 _ _ ⟨by omega, by omega⟩ ⟨by omega, by omega⟩ ⟨by omega, by omega⟩ ?_
      rw [HE.out]
      intro w5 hb5
      replace hb5 := below_then hb4 hb5
      clear hb4
      go_wp2_with (fail)
      refine alive_calls _ _ ?_
      intro w6 hb6
      replace hb6 := below_then hb5 hb6
      clear hb5
      go_wp2_with (fail)
      exact HR.out _ hb6
end Go.Proofs.Ytalgnpgpbbjgpaa
