/- The walk of package money's Need: the least quantity that is worth so much, or none. -/
import Derived.Test.YtalgnpgpbbjgpaaMc
namespace Go.Proofs.Ytalgnpgpbbjgpaa
open Go.RowKit

def wf (q p c : Int) : Int := q * p * (10000 - c) / 10000
def most (p : Int) : Int := if 0 < p then 1152921504606846976 / p else 1152921504606846976

theorem most_bounds (p : Int) (hp : 0 ≤ p) : 0 ≤ most p ∧ most p ≤ 1152921504606846976 := by
  unfold most
  by_cases h : 0 < p
  · rw [if_pos h]
    refine ⟨Int.ediv_nonneg (by omega) hp, ?_⟩
    exact Int.ediv_le_self _ (by omega)
  · rw [if_neg h]; omega
theorem most_mul (q p : Int) (hp : 0 ≤ p) (h : q ≤ most p) : q * p ≤ 1152921504606846976 := by
  unfold most at h
  by_cases h1 : 0 < p
  · rw [if_pos h1] at h
    exact Int.le_trans (Int.mul_le_mul_of_nonneg_right h hp) (Int.ediv_mul_le _ (by omega))
  · obtain rfl : p = 0 := by omega
    omega
theorem wf_mono (q r p c : Int) (hp : 0 ≤ p) (hc : c ≤ 10000) (h : q ≤ r) : wf q p c ≤ wf r p c := by
  unfold wf
  refine Int.ediv_le_ediv (by omega) ?_
  exact Int.mul_le_mul_of_nonneg_right (Int.mul_le_mul_of_nonneg_right h hp) (by omega)
theorem worth_in (q p c : Int) (hp : 0 ≤ p) (hc : 0 ≤ c ∧ c ≤ 10000) (h0 : 0 ≤ q) (h : q ≤ most p) : worth q p c = (wf q p c, 0) := by
  unfold worth
  have := most_mul q p hp h
  rw [if_neg (by omega), if_neg (by omega)]
  rfl

/-- What Need answers. -/
def NeedIs (v p c : Int) (r : Int × Int) : Prop :=
  (Wrong v p c ∧ r = (0, 1)) ∨
  (¬ Wrong v p c ∧ r.2 = 0 ∧ 0 ≤ r.1 ∧ r.1 ≤ most p ∧ v ≤ wf r.1 p c ∧ ∀ q, 0 ≤ q → q < r.1 → wf q p c < v) ∨
  (¬ Wrong v p c ∧ r = (0, 32) ∧ ∀ q, 0 ≤ q → q ≤ most p → wf q p c < v)

theorem needIs_unique (v p c : Int) (r s : Int × Int) (hr : NeedIs v p c r) (hs : NeedIs v p c s) : r = s := by
  obtain ⟨r1, r2⟩ := r
  obtain ⟨s1, s2⟩ := s
  rcases hr with ⟨h, h1⟩ | ⟨h, h1, h2, h3, h4, h5⟩ | ⟨h, h1, h2⟩ <;> rcases hs with ⟨k, k1⟩ | ⟨k, k1, k2, k3, k4, k5⟩ | ⟨k, k1, k2⟩
  · rw [h1, k1]
  · exact absurd h k
  · exact absurd h k
  · exact absurd k h
  · simp only at *
    have e1 : ¬ r1 < s1 := fun hlt => by have := k5 r1 h2 hlt; omega
    have e2 : ¬ s1 < r1 := fun hlt => by have := h5 s1 k2 hlt; omega
    have : r1 = s1 := by omega
    rw [this, h1, k1]
  · simp only at *
    have := k2 r1 h2 h3
    omega
  · exact absurd k h
  · simp only at *
    have := h2 s1 k2 k3
    omega
  · rw [h1, k1]

set_option maxHeartbeats 1000000 in
theorem need_calls (v p c : Int) (w : World) (R : Ending → World → Prop) (hv : I64 v) (hp : I64 p) (hc : I64 c)
    (hR : ∀ r w', NeedIs v p c r → Below w.heap.size w w' → R (.returned (.tuple #[.int .i64 r.1, .int .i64 r.2])) w') :
    Calls Try.prog 19 #[.int .i64 v, .int .i64 p, .int .i64 c] w R := by
  by_cases h : Wrong v p c
  · have hR := hR (0, 1) w (.inl ⟨h, rfl⟩) (Below.refl _ _)
    clear hv hp hc
    go_enter Try.func19, Try.ntmps19
    go_wp2_with (fail)
    refine wrong_yes v p c _ _ h ?_
    go_wp2_with (fail)
    exact hR
  · have h' := h
    unfold Wrong at h'
    have hv0 : 0 ≤ v := by omega
    have hp0 : 0 ≤ p := by omega
    have hc0 : 0 ≤ c := by omega
    have hc1 : c ≤ 10000 := by omega
    have HH := Hid.mk (And.intro hv (And.intro hp (And.intro hc h)))
    obtain ⟨hp1, hp2⟩ := hp
    have HR := Hid.mk hR
    clear hv hc h h' hR
    obtain ⟨mm, hmm⟩ : ∃ mm, mm = most p := ⟨_, rfl⟩
    have hmb := most_bounds p hp0
    rw [← hmm] at hmb
    obtain ⟨hm0, hm1⟩ := hmb
    have HM := Hid.mk hmm
    have hdiv : 0 < p → (1152921504606846976 : Int) / p = mm := fun hp => by rw [hmm]; unfold most; rw [if_pos hp]
    have hdiv0 : p ≤ 0 → mm = 1152921504606846976 := fun hp => by rw [hmm]; unfold most; rw [if_neg (by omega)]
    have HD := Hid.mk (And.intro hdiv hdiv0)
    clear hmm hdiv hdiv0
    go_enter Try.func19, Try.ntmps19
    go_wp2_with (fail)
    refine wrong_no v p c _ _ HH.out.2.2.2 ?_
    go_upto_if 19 with (fail)
    go_cut [8] (fun v8 wc => v8 = .int .i64 mm ∧ wc = w)
    case first =>
      by_cases hpp : 0 < p
      · have e := HD.out.1 hpp
        go_wp2_with (fail)
        go_meet
        case rel => exact ⟨by rw [e], rfl⟩
      · have E := Hid.mk (HD.out.2 (by omega))
        go_wp2_with (fail)
        go_meet
        case rel => exact ⟨by rw [E.out], rfl⟩
    case rest =>
      obtain ⟨rfl, rfl⟩ := hcut
      have HW : ∀ q r, q ≤ r → wf q p c ≤ wf r p c := fun q r h => wf_mono q r p c hp0 hc1 h
      have HWH := Hid.mk HW
      clear HW HD
      go_wp2_with (fail)
      go_loopg [9, 10, 11, 12, 13] (mm + 1).toNat (fun g vl vh v1 v2 v3 wr => ∃ lo hi : Int, vl = .int .i64 lo ∧ vh = .int .i64 hi ∧ 0 ≤ lo ∧ lo ≤ hi ∧ hi ≤ mm + 1 ∧ Hid (∀ q, 0 ≤ q → q < lo → wf q p c < v) ∧ Hid (∀ q, hi ≤ q → q ≤ mm → v ≤ wf q p c) ∧ Hid (g = (hi - lo).toNat) ∧ Below wc.heap.size wc wr)
      case atStart => exact ⟨0, mm + 1, rfl, rfl, by omega, by omega, by omega, Hid.mk (fun q _ _ => by omega), Hid.mk (fun q _ _ => by omega), Hid.mk (by simp), Below.refl _ _⟩
      case round =>
        obtain ⟨lo, hi, rfl, rfl, h0, h1, h2, HL, HU, HG, HB⟩ := hrel
        by_cases hlt : lo < hi
        · obtain ⟨mid, hmid⟩ : ∃ mid, mid = lo + (hi - lo) / 2 := ⟨_, rfl⟩
          have hml : lo ≤ mid := by omega
          have hmh : mid < hi := by omega
          have emid : lo + (hi - lo) / 2 = mid := hmid.symm
          have hw := worth_in mid p c hp0 ⟨hc0, hc1⟩ (by omega) (by rw [← HM.out]; omega)
          have HWO := Hid.mk hw
          clear hmid hw
          go_wp2_with (fail)
          refine worth_calls mid p c _ _ ⟨by omega, by omega⟩ HH.out.2.1 HH.out.2.2.1 ?_
          rw [HWO.out]
          intro w1 hb1
          obtain ⟨f, hf⟩ : ∃ f, f = wf mid p c := ⟨_, rfl⟩
          rw [← hf]
          have HF := Hid.mk hf
          clear hf
          by_cases hge : v ≤ f
          · go_wp2_with (fail)
            go_roundg (mid - lo).toNat
            case measure => rw [HG.out]; omega
            case rel => exact ⟨lo, mid, rfl, rfl, by omega, by omega, by omega, HL, Hid.mk (fun q hq hq2 => by have := HWH.out mid q hq; have := HF.out; omega), Hid.mk rfl, below_then HB hb1⟩
          · go_wp2_with (fail)
            go_roundg (hi - (mid + 1)).toNat
            case measure => rw [HG.out]; omega
            case rel => exact ⟨mid + 1, hi, rfl, rfl, by omega, by omega, by omega, Hid.mk (fun q hq hq2 => by have := HWH.out q mid (by omega); have := HF.out; omega), HU, Hid.mk rfl, below_then HB hb1⟩
        · by_cases hend : mm < lo
          · have hR := HR.out (0, 32) wr (.inr (.inr ⟨HH.out.2.2.2, rfl, fun q hq hq2 => HL.out q hq (by have := HM.out; omega)⟩)) HB
            clear HR
            go_wp2_with (fail)
            exact hR
          · have hR := HR.out (lo, 0) wr (.inr (.inl ⟨HH.out.2.2.2, rfl, h0, by have := HM.out; simp only; omega, HU.out lo (by omega) (by omega), HL.out⟩)) HB
            clear HR
            go_wp2_with (fail)
            exact hR
end Go.Proofs.Ytalgnpgpbbjgpaa
