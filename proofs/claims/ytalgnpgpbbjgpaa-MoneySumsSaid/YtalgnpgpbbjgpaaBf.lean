/- The walks of the reference's MulDiv, Share, Worth and Need: they answer as package money's. -/
import Derived.Test.YtalgnpgpbbjgpaaBe
namespace Go.Proofs.Ytalgnpgpbbjgpaa
open Go.RowKit

theorem most_div {a c n v : Nat} (h : Most a c n v) (hc : 1 ≤ c) : v = if n < a / c then n else a / c := by
  obtain ⟨h1, h2, h3⟩ := h
  have h4 : v ≤ a / c := (Nat.le_div_iff_mul_le (by omega)).2 h2
  by_cases h : n < a / c
  · rw [if_pos h]
    have := h3 n (Nat.le_refl _) (Nat.le_trans (Nat.mul_le_mul_right _ (Nat.le_of_lt h)) (Nat.div_mul_le_self a c))
    omega
  · rw [if_neg h]
    have := h3 (a / c) (by omega) (Nat.div_mul_le_self a c)
    omega

theorem rmulDiv_bad (a b c : Int) (w : World) (R : Ending → World → Prop) (h : a < 0 ∨ b < 0 ∨ c < 1) (hR : R (.returned (.tuple #[.int .i64 0, .int .i64 1])) w) :
    Calls Try.prog 14 #[.int .i64 a, .int .i64 b, .int .i64 c] w R := by
  by_cases ha : a < 0
  · clear h
    go_enter Try.func14, Try.ntmps14
    go_wp2_with (fail)
    exact hR
  by_cases hb : b < 0
  · clear h
    go_enter Try.func14, Try.ntmps14
    go_wp2_with (fail)
    exact hR
  have hc : c < 1 := by omega
  clear h
  go_enter Try.func14, Try.ntmps14
  go_wp2_with (fail)
  exact hR

theorem pw6_big : 158456325028528675187087900672 ≤ pw 6 := by
  have h2 : pw 4 ≤ pw 6 := by unfold pw; exact Nat.pow_le_pow_right (by omega) (by omega)
  have h3 : pw 4 = 1329227995784915872903807060280344576 := rfl
  omega
theorem pw6_prod {a b : Nat} (ha : a ≤ 9223372036854775807) (hb : b ≤ 9223372036854775807) : a * b < pw 6 := by
  have h2 : pw 5 ≤ pw 6 := by unfold pw; exact Nat.pow_le_pow_right (by omega) (by omega)
  have h3 : pw 5 = 1427247692705959881058285969449495136382746624 := rfl
  have h1 : a * b ≤ 9223372036854775807 * 9223372036854775807 := Nat.mul_le_mul ha hb
  omega
theorem pw6_lt {a : Nat} (ha : a ≤ 9223372036854775807) : a < pw 6 := by have := pw6_big; omega

set_option maxHeartbeats 1000000 in
theorem rmulDiv_good (a b c : Nat) (w : World) (R : Ending → World → Prop) (ha : a ≤ 9223372036854775807) (hb : b ≤ 9223372036854775807) (hc : c ≤ 9223372036854775807) (hc1 : 1 ≤ c)
    (hR : ∀ w', Below w.heap.size w w' → R (.returned (.tuple #[.int .i64 (if 1152921504606846976 < a * b / c then 0 else ((a * b / c : Nat) : Int)), .int .i64 (if 1152921504606846976 < a * b / c then 12 else 0)])) w') :
    Calls Try.prog 14 #[.int .i64 a, .int .i64 b, .int .i64 c] w R := by
  have a0 : ¬ ((a : Int) < 0) := by omega
  have b0 : ¬ ((b : Int) < 0) := by omega
  have c0 : ¬ ((c : Int) < 1) := by omega
  have HA := Hid.mk (And.intro ha (And.intro hb (And.intro hc hc1)))
  have HR := Hid.mk hR
  clear ha hb hc hc1 hR
  go_enter Try.func14, Try.ntmps14
  go_wp2_with (fail)
  refine of_calls a _ _ HA.out.1 ?_
  intro w1 hb1
  go_wp2_with (fail)
  refine of_calls b _ _ HA.out.2.1 ?_
  intro w2 hb2
  replace hb2 := below_then hb1 hb2
  clear hb1
  go_wp2_with (fail)
  refine bmul_calls a b _ _ (pw6_lt HA.out.1) (pw6_prod HA.out.1 HA.out.2.1) ?_
  intro w3 hb3
  replace hb3 := below_then hb2 hb3
  clear hb2
  go_wp2_with (fail)
  refine of_calls c _ _ HA.out.2.2.1 ?_
  intro w4 hb4
  replace hb4 := below_then hb3 hb4
  clear hb3
  go_wp2_with (fail)
  refine rmost_calls (a * b) c 1152921504606846977 _ _ (pw6_prod HA.out.1 HA.out.2.1) (pw6_lt HA.out.2.2.1) (by omega) (pw6_prod (by omega) HA.out.2.2.1) ?_
  intro v w5 hv hb5
  replace hb5 := below_then hb4 hb5
  clear hb4
  have hv := most_div hv HA.out.2.2.2
  have HR := HR.out w5 hb5
  by_cases hbig : 1152921504606846976 < a * b / c
  · rw [if_pos hbig, if_pos hbig] at HR
    have hv1 : (1152921504606846976 : Int) < (v : Int) := by rw [hv]; split <;> omega
    clear hbig hv
    have HR := Hid.mk HR
    go_wp2_with (fail)
    exact HR.out
  · rw [if_neg hbig, if_neg hbig] at HR
    rw [if_neg (by omega)] at hv
    rw [← hv] at HR
    have hv1 : ¬ (1152921504606846976 : Int) < (v : Int) := by omega
    clear hbig hv
    have HR := Hid.mk HR
    go_wp2_with (fail)
    exact HR.out

theorem rmulDiv_calls (a b c : Int) (w : World) (R : Ending → World → Prop) (ha : I64 a) (hb : I64 b) (hc : I64 c)
    (hR : ∀ w', Below w.heap.size w w' → R (.returned (.tuple #[.int .i64 (mulDiv a b c).1, .int .i64 (mulDiv a b c).2])) w') :
    Calls Try.prog 14 #[.int .i64 a, .int .i64 b, .int .i64 c] w R := by
  by_cases h : a < 0 ∨ b < 0 ∨ c < 1
  · have e : mulDiv a b c = (0, 1) := if_pos h
    rw [e] at hR
    exact rmulDiv_bad a b c w R h (hR w (Below.refl _ _))
  · have e : mulDiv a b c = if 1152921504606846976 < a * b / c then (0, 12) else (a * b / c, 0) := if_neg h
    rw [e] at hR
    obtain ⟨a, rfl⟩ := Int.eq_ofNat_of_zero_le (show 0 ≤ a by omega)
    obtain ⟨b, rfl⟩ := Int.eq_ofNat_of_zero_le (show 0 ≤ b by omega)
    obtain ⟨c, rfl⟩ := Int.eq_ofNat_of_zero_le (show 0 ≤ c by omega)
    obtain ⟨_, ha⟩ := ha
    obtain ⟨_, hb⟩ := hb
    obtain ⟨_, hc⟩ := hc
    refine rmulDiv_good a b c w R (by omega) (by omega) (by omega) (by omega) ?_
    intro w' hb'
    have := hR w' hb'
    have e2 : (a : Int) * (b : Int) / (c : Int) = ((a * b / c : Nat) : Int) := by rw [Int.natCast_ediv, Int.natCast_mul]
    rw [e2] at this
    by_cases h2 : 1152921504606846976 < a * b / c
    · rw [if_pos h2, if_pos h2]
      rw [if_pos (by omega)] at this
      exact this
    · rw [if_neg h2, if_neg h2]
      rw [if_neg (by omega)] at this
      exact this

theorem rshare_calls (a d o : Int) (w : World) (R : Ending → World → Prop) (ha : I64 a) (hb : I64 d) (hc : I64 o)
    (hR : ∀ w', Below w.heap.size w w' → R (.returned (.tuple #[.int .i64 (share a d o).1, .int .i64 (share a d o).2])) w') :
    Calls Try.prog 16 #[.int .i64 a, .int .i64 d, .int .i64 o] w R := by
  by_cases h : d < 0 ∨ o < d
  · have e : share a d o = (0, 1) := if_pos h
    rw [e] at hR
    by_cases h1 : d < 0
    · clear h ha hb hc e
      go_enter Try.func16, Try.ntmps16
      go_wp2_with (fail)
      exact Below.refl _ _
    · have h2 : o < d := by omega
      clear h ha hb hc e
      go_enter Try.func16, Try.ntmps16
      go_wp2_with (fail)
      exact Below.refl _ _
  · have e : share a d o = mulDiv a d o := if_neg h
    rw [e] at hR
    have h1 : ¬ d < 0 := by omega
    have h2 : ¬ o < d := by omega
    have HA := Hid.mk (And.intro ha (And.intro hb hc))
    clear h ha hb hc e
    go_enter Try.func16, Try.ntmps16
    go_wp2_with (fail)
    refine rmulDiv_calls a d o _ _ HA.out.1 HA.out.2.1 HA.out.2.2 ?_
    intro w1 hb1
    go_wp2_with (fail)
    exact hb1

theorem mulDiv_one (q p : Int) (hq : 0 ≤ q) (hp : 0 ≤ p) : mulDiv q p 1 = if 1152921504606846976 < q * p then (0, 12) else (q * p, 0) := by
  unfold mulDiv
  rw [if_neg (by omega), Int.ediv_one]

set_option maxHeartbeats 1000000 in
theorem rworth_calls (q p c : Int) (w : World) (R : Ending → World → Prop) (hq : I64 q) (hp : I64 p) (hc : I64 c)
    (hR : ∀ w', Below w.heap.size w w' → R (.returned (.tuple #[.int .i64 (worth q p c).1, .int .i64 (worth q p c).2])) w') :
    Calls Try.prog 18 #[.int .i64 q, .int .i64 p, .int .i64 c] w R := by
  by_cases h : Wrong q p c
  · have e : worth q p c = (0, 1) := if_pos h
    rw [e] at hR
    have HR := Hid.mk (hR w (Below.refl _ _))
    clear e hq hp hc hR
    unfold Wrong at h
    by_cases h1 : q < 0
    · clear h
      go_enter Try.func18, Try.ntmps18
      go_wp2_with (fail)
      exact HR.out
    by_cases h2 : p < 0
    · clear h
      go_enter Try.func18, Try.ntmps18
      go_wp2_with (fail)
      exact HR.out
    by_cases h3 : c < 0
    · clear h
      go_enter Try.func18, Try.ntmps18
      go_wp2_with (fail)
      exact HR.out
    have h4 : 10000 < c := by omega
    clear h
    go_enter Try.func18, Try.ntmps18
    go_wp2_with (fail)
    exact HR.out
  · have e : worth q p c = if 1152921504606846976 < q * p then (0, 12) else (q * p * (10000 - c) / 10000, 0) := if_neg h
    rw [e] at hR
    clear e
    unfold Wrong at h
    have q0 : 0 ≤ q := by omega
    have p0 : 0 ≤ p := by omega
    have c0 : 0 ≤ c := by omega
    have c1 : c ≤ 10000 := by omega
    have hpos : 0 ≤ q * p := Int.mul_nonneg (by omega) (by omega)
    have HM := Hid.mk (mulDiv_one q p q0 p0)
    have HH := Hid.mk (And.intro hq (And.intro hp (And.intro hc hpos)))
    clear hq hp hc h hpos
    have HR := Hid.mk hR
    clear hR
    go_enter Try.func18, Try.ntmps18
    go_wp2_with (fail)
    refine rmulDiv_calls q p 1 _ _ HH.out.1 HH.out.2.1 ⟨by omega, by omega⟩ ?_
    rw [HM.out]
    intro w1 hb1
    have hpos := HH.out.2.2.2
    by_cases hbig : 1152921504606846976 < q * p
    · have HR2 := HR.out
      rw [if_pos hbig] at HR2 ⊢
      replace HR2 := Hid.mk (HR2 _ hb1)
      clear HR hbig hpos
      go_wp2_with (fail)
      exact HR2.out
    · have HR2 := HR.out
      rw [if_neg hbig] at HR2 ⊢
      obtain ⟨n, hn⟩ : ∃ n, n = q * p := ⟨_, rfl⟩
      rw [← hn] at hbig hpos HR2 ⊢
      have hm := mulDiv_cut n c hpos (by omega) c0 c1
      have HM := Hid.mk hm
      have hn2 : n ≤ 1152921504606846976 := by omega
      have hI : I64 n := ⟨by omega, by omega⟩
      replace HR2 := Hid.mk HR2
      clear HR hbig hm hn
      go_wp2_with (fail)
      refine rmulDiv_calls n (10000 - c) 10000 _ _ hI ⟨by omega, by omega⟩ ⟨by omega, by omega⟩ ?_
      rw [HM.out]
      intro w2 hb2
      go_wp2_with (fail)
      exact HR2.out _ (below_then hb1 hb2)

set_option maxHeartbeats 1000000 in
theorem rneed_bad (v p c : Int) (w : World) (R : Ending → World → Prop) (h : Wrong v p c) (hR : R (.returned (.tuple #[.int .i64 0, .int .i64 1])) w) :
    Calls Try.prog 20 #[.int .i64 v, .int .i64 p, .int .i64 c] w R := by
  have HR := Hid.mk hR
  clear hR
  unfold Wrong at h
  by_cases h1 : v < 0
  · clear h
    go_enter Try.func20, Try.ntmps20
    go_wp2_with (fail)
    exact HR.out
  by_cases h2 : p < 0
  · clear h
    go_enter Try.func20, Try.ntmps20
    go_wp2_with (fail)
    exact HR.out
  by_cases h3 : c < 0
  · clear h
    go_enter Try.func20, Try.ntmps20
    go_wp2_with (fail)
    exact HR.out
  have h4 : 10000 < c := by omega
  clear h
  go_enter Try.func20, Try.ntmps20
  go_wp2_with (fail)
  exact HR.out

set_option maxHeartbeats 1000000 in
theorem rneed_calls (v p c : Int) (w : World) (R : Ending → World → Prop) (hv : I64 v) (hp : I64 p) (hc : I64 c)
    (hR : ∀ r w', NeedIs v p c r → Below w.heap.size w w' → R (.returned (.tuple #[.int .i64 r.1, .int .i64 r.2])) w') :
    Calls Try.prog 20 #[.int .i64 v, .int .i64 p, .int .i64 c] w R := by
  by_cases h : Wrong v p c
  · exact rneed_bad v p c w R h (hR (0, 1) w (.inl ⟨h, rfl⟩) (Below.refl _ _))
  · have h' := h
    unfold Wrong at h'
    have hv0 : 0 ≤ v := by omega
    have hp0 : 0 ≤ p := by omega
    have hc0 : 0 ≤ c := by omega
    have hc1 : c ≤ 10000 := by omega
    have HH := Hid.mk (And.intro hv (And.intro hp (And.intro hc h)))
    obtain ⟨hp1, hp2⟩ := hp
    have HR := Hid.mk hR
    clear hv hc h h' hR
    obtain ⟨mm, hmm⟩ : ∃ mm, mm = most p := ⟨_, rfl⟩
    have hmb := most_bounds p hp0
    rw [← hmm] at hmb
    obtain ⟨hm0, hm1⟩ := hmb
    have HM := Hid.mk hmm
    have hdiv : 1 < p → (1152921504606846976 : Int) / p = mm := fun hp => by rw [hmm]; unfold most; rw [if_pos (by omega)]
    have hdiv0 : p ≤ 1 → mm = 1152921504606846976 := fun hp => by
      rw [hmm]; unfold most
      by_cases h0 : 0 < p
      · obtain rfl : p = 1 := by omega
        rw [if_pos h0]; rfl
      · rw [if_neg h0]
    have HD := Hid.mk (And.intro hdiv hdiv0)
    clear hmm hdiv hdiv0
    go_enter Try.func20, Try.ntmps20
    go_upto_if 31 with (fail)
    go_cut [8] (fun v8 wc => v8 = .int .i64 mm ∧ wc = w)
    case first =>
      by_cases hpp : 1 < p
      · have e := HD.out.1 hpp
        go_wp2_with (fail)
        go_meet
        case rel => exact ⟨by rw [e], rfl⟩
      · have E := Hid.mk (HD.out.2 (by omega))
        go_wp2_with (fail)
        go_meet
        case rel => exact ⟨by rw [E.out], rfl⟩
    case rest =>
      obtain ⟨rfl, rfl⟩ := hcut
      have HW : ∀ q r, q ≤ r → wf q p c ≤ wf r p c := fun q r h => wf_mono q r p c hp0 hc1 h
      have HWH := Hid.mk HW
      have HX := Hid.mk (worth_in mm p c hp0 ⟨hc0, hc1⟩ hm0 (by rw [← HM.out]; omega))
      clear HW HD
      go_wp2_with (fail)
      refine rworth_calls mm p c _ _ ⟨by omega, by omega⟩ HH.out.2.1 HH.out.2.2.1 ?_
      rw [HX.out]
      intro w1 hb1
      obtain ⟨f, hf⟩ : ∃ f, f = wf mm p c := ⟨_, rfl⟩
      rw [← hf]
      have HF := Hid.mk hf
      clear hf
      by_cases hlow : f < v
      · have hR := Hid.mk (HR.out (0, 32) w1 (.inr (.inr ⟨HH.out.2.2.2, rfl, fun q hq hq2 => by have := HWH.out q mm (by have := HM.out; omega); have := HF.out; omega⟩)) hb1)
        clear HR
        go_wp2_with (fail)
        exact hR.out
      have hlow' : Hid (v ≤ f) := Hid.mk (by omega)
      go_wp2_with (fail)
      go_loopg [11, 12, 13, 14, 15] mm.toNat (fun g vl vh v1 v2 v3 wr => ∃ lo hi : Int, vl = .int .i64 lo ∧ vh = .int .i64 hi ∧ 0 ≤ lo ∧ lo ≤ hi ∧ hi ≤ mm ∧ Hid (∀ q, 0 ≤ q → q < lo → wf q p c < v) ∧ Hid (∀ q, hi ≤ q → q ≤ mm → v ≤ wf q p c) ∧ Hid (g = (hi - lo).toNat) ∧ Below wc.heap.size wc wr)
      case atStart => exact ⟨0, mm, rfl, rfl, by omega, by omega, by omega, Hid.mk (fun q _ _ => by omega), Hid.mk (fun q h1 h2 => by rw [show q = mm by omega, ← HF.out]; exact hlow'.out), Hid.mk (by simp), hb1⟩
      case round =>
        obtain ⟨lo, hi, rfl, rfl, h0, h1, h2, HL, HU, HG, HB⟩ := hrel
        clear hb1
        by_cases hlt : lo < hi
        · obtain ⟨mid, hmid⟩ : ∃ mid, mid = lo + (hi - lo) / 2 := ⟨_, rfl⟩
          have hml : lo ≤ mid := by omega
          have hmh : mid < hi := by omega
          have emid : lo + (hi - lo) / 2 = mid := hmid.symm
          have hw := worth_in mid p c hp0 ⟨hc0, hc1⟩ (by omega) (by rw [← HM.out]; omega)
          have HWO := Hid.mk hw
          clear hmid hw
          go_wp2_with (fail)
          refine rworth_calls mid p c _ _ ⟨by omega, by omega⟩ HH.out.2.1 HH.out.2.2.1 ?_
          rw [HWO.out]
          intro w2 hb2
          obtain ⟨k, hk⟩ : ∃ k, k = wf mid p c := ⟨_, rfl⟩
          rw [← hk]
          have HK := Hid.mk hk
          clear hk
          by_cases hge : v ≤ k
          · go_wp2_with (fail)
            go_roundg (mid - lo).toNat
            case measure => rw [HG.out]; omega
            case rel => exact ⟨lo, mid, rfl, rfl, by omega, by omega, by omega, HL, Hid.mk (fun q hq hq2 => by have := HWH.out mid q hq; have := HK.out; omega), Hid.mk rfl, below_then HB hb2⟩
          · go_wp2_with (fail)
            go_roundg (hi - (mid + 1)).toNat
            case measure => rw [HG.out]; omega
            case rel => exact ⟨mid + 1, hi, rfl, rfl, by omega, by omega, by omega, Hid.mk (fun q hq hq2 => by have := HWH.out q mid (by omega); have := HK.out; omega), HU, Hid.mk rfl, below_then HB hb2⟩
        · obtain rfl : lo = hi := by omega
          have hR := Hid.mk (HR.out (lo, 0) wr (.inr (.inl ⟨HH.out.2.2.2, rfl, h0, by have := HM.out; simp only; omega, HU.out lo (by omega) (by omega), HL.out⟩)) HB)
          clear HR
          go_wp2_with (fail)
          exact hR.out
end Go.Proofs.Ytalgnpgpbbjgpaa
