/- The walk of math/bits.Div64: where the upper part is below the divisor it answers the quotient, and some rest. -/
import Derived.Test.YtalgnpgpbbjgpaaBase
import Derived.Test.YtalgnpgpbbjgpaaShelf
import Derived.Test.YtalgnpgpbbjgpaaDivFacts
namespace Go.Proofs.Ytalgnpgpbbjgpaa
open Go.RowKit

theorem below_drewN {B : Nat} {w W : World} (h : Below B w W) (n : Nat) : Below B w (W.drewN n) := ⟨h.os, h.tape, h.output, h.size, h.block⟩

theorem div64_zero (lo y : Nat) (w : World) (R : Ending → World → Prop) (h1 : 0 < y) (h2 : y < 18446744073709551616) (h3 : lo < 18446744073709551616)
    (hR : ∀ (r : Int) w', Below w.heap.size w w' → R (.returned (.tuple #[.int .u64 ((lo / y : Nat) : Int), .int .u64 r])) w') :
    Calls Try.prog 35 #[.int .u64 0, .int .u64 lo, .int .u64 y] w R := by
  have hy0 : ((y : Int) == 0) = false := by simp; omega
  have hle : ¬ ((y : Int) ≤ 0) := by omega
  obtain ⟨q, hq⟩ : ∃ q, q = lo / y := ⟨_, rfl⟩
  have e1 : (lo : Int) / (y : Int) = (q : Int) := by rw [hq, Int.natCast_ediv]
  have hql : q < 18446744073709551616 := by rw [hq]; exact Nat.lt_of_le_of_lt (Nat.div_le_self _ _) h3
  rw [← hq] at hR
  have HQ := Hid.mk hq
  clear hq
  go_enter Try.func35, Try.ntmps35
  go_wp2_with (fail)
  go_quiet (fail)
  go_wp2_with (fail)
  exact below_drewN (Below.refl _ _) nq

set_option maxHeartbeats 1000000 in
set_option maxRecDepth 100000 in
theorem div64_some (hi lo y : Nat) (w : World) (R : Ending → World → Prop) (h0 : 0 < hi) (h1 : hi < y) (h2 : y < 18446744073709551616) (h3 : lo < 18446744073709551616)
    (hR : ∀ r : Int, R (.returned (.tuple #[.int .u64 (((hi * 18446744073709551616 + lo) / y : Nat) : Int), .int .u64 r])) w) :
    Calls Try.prog 35 #[.int .u64 hi, .int .u64 lo, .int .u64 y] w R := by
  have hy0 : ((y : Int) == 0) = false := by simp; omega
  have hh0 : ((hi : Int) == 0) = false := by simp; omega
  have hle : ¬ ((y : Int) ≤ (hi : Int)) := by omega
  obtain ⟨s, Y, z, o, u, l, d1, d0, hs, hp⟩ := Div.pre_exists hi lo y h0 h1 h2 h3
  obtain ⟨q1, hq1⟩ : ∃ q1, q1 = (u * 4294967296 + d1) / Y := ⟨_, rfl⟩
  have HS := Hid.mk hs
  have HP := Hid.mk hp
  have HQ := Hid.mk hq1
  obtain ⟨s64, Ylt, zge, zlt, Yeq, olt, ult, d1lt, d0lt, leq, whole, e1, e2, e3, e6, e7, e8, e9⟩ := hp
  have z0 : ((z : Int) == 0) = false := by simp; omega
  obtain ⟨qi, hqi⟩ : ∃ qi, qi = u / z := ⟨_, rfl⟩
  obtain ⟨ri, hri⟩ : ∃ ri, ri = u % z := ⟨_, rfl⟩
  have hI := Div.inv_init zge Yeq olt ult d1lt
  rw [← hqi, ← hri] at hI
  have HI := Hid.mk hI
  have HY := Hid.mk Yeq
  obtain ⟨m1, hm1⟩ : ∃ m1, m1 = qi * z := ⟨_, rfl⟩
  have hmr : m1 + ri = u := by rw [hm1]; exact hI.eq
  have f1 : (u : Int) / (z : Int) = (qi : Int) := by rw [hqi, Int.natCast_ediv]
  have f2 : IntKind.u64.wrap ((qi : Int) * (z : Int)) = (m1 : Int) := by
    rw [hm1, ← Int.natCast_mul]; exact Div.wrap64_nat _ (by omega)
  have hqil := hI.le
  have hmu : m1 ≤ u := by omega
  have f3 : (u : Int) - (m1 : Int) = (ri : Int) := by omega
  have hril : ri < 4294967296 := by rw [hri]; have := Nat.mod_lt u (show 0 < z by omega); omega
  clear leq whole hs hq1 hI hm1 hqi hri hmr Yeq
  go_enter Try.func35, Try.ntmps35
  go_wp2_with (fail)
  refine (Try.bits_LeadingZeros64 y w (by omega) (by omega)).mono ?_
  rintro e w' ⟨rfl, rfl⟩
  rw [Int.toNat_natCast, HS.out]
  go_upto_block 0 with (fail)
  clear e1 e2 e3 e6 e7 e8 e9 f1 f2 f3
  go_cut [15, 16] (fun v15 v16 wc => v15 = .int .u64 q1 ∧ wc = w')
  case first =>
    go_wp2_with (fail)
    go_loopg [15, 16] (4294967296 - ri) (fun g vq vr wr => ∃ q r : Nat, vq = .int .u64 q ∧ vr = .int .u64 r ∧ r < 4294967296 ∧ q ≤ 4294967297 ∧ Hid (Div.Inv u d1 Y z q r) ∧ Hid (g = 4294967296 - r) ∧ wr = w')
    case atStart => exact ⟨qi, ri, rfl, rfl, hril, hqil, HI, Hid.mk rfl, rfl⟩
    case round =>
      obtain ⟨q, r, rfl, rfl, hr, hq, HJ, HG, rfl⟩ := hrel
      have HR := Hid.mk hr
      have HQL := Hid.mk hq
      have hr' : (r : Int) < 4294967296 := by omega
      have hq' : (q : Int) ≤ 4294967297 := by omega
      have hr0 : 0 ≤ (r : Int) := by omega
      have hq0 : 0 ≤ (q : Int) := by omega
      clear hr hq
      by_cases hA : 4294967296 ≤ q
      · have HS' := Hid.mk (Div.inv_step HJ.out HY.out ult d1lt (.inl hA))
        have HA := Hid.mk hA
        have hA' : (4294967296 : Int) ≤ (q : Int) := by omega
        clear hA
        by_cases hB : 4294967296 ≤ r + z
        · have HB := Hid.mk hB
          have hB' : (4294967296 : Int) ≤ (r : Int) + (z : Int) := by omega
          clear hB
          go_wp2_with (fail)
          go_meet
          case rel =>
            have hb := Div.inv_break HS'.out.2 (by have := HQL.out; omega) HY.out olt (by omega) HB.out
            exact ⟨by rw [HQ.out, ← hb]; congr 1; omega, rfl⟩
        · have HB := Hid.mk hB
          have hB' : decide ((4294967296 : Int) ≤ (r : Int) + (z : Int)) = false := decide_eq_false (by omega)
          clear hB
          go_wp2_with (fail)
          go_roundg (4294967296 - (r + z))
          case measure => rw [HG.out]; omega
          case rel => exact ⟨q - 1, r + z, by congr 1; omega, by go_num, by have := HB.out; omega, by have := HQL.out; omega, Hid.mk HS'.out.2, Hid.mk rfl, rfl⟩
      · have HA := Hid.mk hA
        have hA' : decide ((4294967296 : Int) ≤ (q : Int)) = false := decide_eq_false (by omega)
        clear hA
        obtain ⟨P, hP⟩ : ∃ P, P = q * o := ⟨_, rfl⟩
        have hPl : P < 18446744073709551616 := by
          rw [hP]
          have t1 : q * o ≤ 4294967296 * o := Nat.mul_le_mul_right _ (by have := HA.out; omega)
          omega
        have g1 : IntKind.u64.wrap ((q : Int) * (o : Int)) = (P : Int) := by rw [hP, ← Int.natCast_mul]; exact Div.wrap64_nat _ (by rw [← hP]; exact hPl)
        have HPE := Hid.mk hP
        clear hP
        have hP0 : 0 ≤ (P : Int) := by omega
        have hP1 : (P : Int) < 18446744073709551616 := by omega
        clear hPl
        by_cases hC : 4294967296 * r + d1 < P
        · have HS' := Hid.mk (Div.inv_step HJ.out HY.out ult d1lt (.inr (by rw [← HPE.out]; exact hC)))
          have q1' : 1 ≤ q := HS'.out.1
          have hC2 : 4294967296 * (r : Int) + (d1 : Int) < (P : Int) := by omega
          have HC := Hid.mk hC
          clear hC
          by_cases hB : 4294967296 ≤ r + z
          · have HB := Hid.mk hB
            have hB' : (4294967296 : Int) ≤ (r : Int) + (z : Int) := by omega
            clear hB
            go_wp2_with (fail)
            go_meet
            case rel =>
              have hb := Div.inv_break HS'.out.2 (by have := HQL.out; omega) HY.out olt (by omega) HB.out
              exact ⟨by rw [HQ.out, ← hb]; congr 1; omega, rfl⟩
          · have HB := Hid.mk hB
            have hB' : decide ((4294967296 : Int) ≤ (r : Int) + (z : Int)) = false := decide_eq_false (by omega)
            clear hB
            go_wp2_with (fail)
            go_roundg (4294967296 - (r + z))
            case measure => rw [HG.out]; omega
            case rel => exact ⟨q - 1, r + z, by congr 1; omega, by go_num, by have := HB.out; omega, by have := HQL.out; omega, Hid.mk HS'.out.2, Hid.mk rfl, rfl⟩
        · have hC2 : decide (4294967296 * (r : Int) + (d1 : Int) < (P : Int)) = false := decide_eq_false (by omega)
          have HC := Hid.mk hC
          clear hC
          go_wp2_with (fail)
          go_meet
          case rel =>
            have hb := Div.inv_stop HJ.out HY.out (by omega) (by rw [← HPE.out]; have := HC.out; omega)
            exact ⟨by rw [HQ.out, ← hb], rfl⟩
  case rest =>
    obtain ⟨rfl, rfl⟩ := hcut
    obtain ⟨r1, hr1⟩ : ∃ r1, r1 = (u * 4294967296 + d1) % Y := ⟨_, rfl⟩
    have hY0 : 0 < Y := by omega
    have hr1l : r1 < Y := by rw [hr1]; exact Nat.mod_lt _ hY0
    have hq1l : q1 < 4294967296 := by rw [HQ.out]; exact Div.quot_lt ult d1lt
    have k1 : IntKind.u64.wrap (IntKind.u64.wrap (IntKind.u64.wrap ((u : Int) * 4294967296) + (d1 : Int)) - IntKind.u64.wrap ((q1 : Int) * (Y : Int))) = (r1 : Int) := by
      rw [hr1, HQ.out]; exact Div.rest_wrap u d1 Y Ylt hY0
    obtain ⟨qj, hqj⟩ : ∃ qj, qj = r1 / z := ⟨_, rfl⟩
    obtain ⟨rj, hrj⟩ : ∃ rj, rj = r1 % z := ⟨_, rfl⟩
    have hJ := Div.inv_init zge HY.out olt hr1l d0lt
    rw [← hqj, ← hrj] at hJ
    have HI2 := Hid.mk hJ
    obtain ⟨m2, hm2⟩ : ∃ m2, m2 = qj * z := ⟨_, rfl⟩
    have hmr2 : m2 + rj = r1 := by rw [hm2]; exact hJ.eq
    have k2 : (r1 : Int) / (z : Int) = (qj : Int) := by rw [hqj, Int.natCast_ediv]
    have k3 : IntKind.u64.wrap ((qj : Int) * (z : Int)) = (m2 : Int) := by
      rw [hm2, ← Int.natCast_mul]; exact Div.wrap64_nat _ (by omega)
    have hqjl := hJ.le
    have hmu2 : m2 ≤ r1 := by omega
    have k4 : (r1 : Int) - (m2 : Int) = (rj : Int) := by omega
    have hrjl : rj < 4294967296 := by rw [hrj]; have := Nat.mod_lt r1 (show 0 < z by omega); omega
    obtain ⟨q2, hq2⟩ : ∃ q2, q2 = (r1 * 4294967296 + d0) / Y := ⟨_, rfl⟩
    have hq2l : q2 < 4294967296 := by rw [hq2]; exact Div.quot_lt hr1l d0lt
    have HQ2 := Hid.mk hq2
    have HW : Hid (q1 * 4294967296 + q2 = (hi * 18446744073709551616 + lo) / y) := Hid.mk (by
      rw [HQ.out, hq2, hr1, Div.two_digits hY0]; exact HP.out.whole)
    clear hr1 hqj hrj hJ hm2 hmr2 hq2
    go_upto_block 2 with (fail)
    clear k1 k2 k3 k4
    go_cut [18, 16] (fun v18 v16 wc2 => v18 = .int .u64 q2 ∧ wc2 = wc)
    case first =>
      go_wp2_with (fail)
      go_loopg [18, 16] (4294967296 - rj) (fun g vq vr wr => ∃ q r : Nat, vq = .int .u64 q ∧ vr = .int .u64 r ∧ r < 4294967296 ∧ q ≤ 4294967297 ∧ Hid (Div.Inv r1 d0 Y z q r) ∧ Hid (g = 4294967296 - r) ∧ wr = wc)
      case atStart => exact ⟨qj, rj, rfl, rfl, hrjl, hqjl, HI2, Hid.mk rfl, rfl⟩
      case round =>
        obtain ⟨q, r, rfl, rfl, hr, hq, HJ, HG, rfl⟩ := hrel
        have HR := Hid.mk hr
        have HQL := Hid.mk hq
        have hr' : (r : Int) < 4294967296 := by omega
        have hq' : (q : Int) ≤ 4294967297 := by omega
        have hr0 : 0 ≤ (r : Int) := by omega
        have hq0 : 0 ≤ (q : Int) := by omega
        clear hr hq
        by_cases hA : 4294967296 ≤ q
        · have HS' := Hid.mk (Div.inv_step HJ.out HY.out hr1l d0lt (.inl hA))
          have HA := Hid.mk hA
          have hA' : (4294967296 : Int) ≤ (q : Int) := by omega
          clear hA
          by_cases hB : 4294967296 ≤ r + z
          · have HB := Hid.mk hB
            have hB' : (4294967296 : Int) ≤ (r : Int) + (z : Int) := by omega
            clear hB
            go_wp2_with (fail)
            go_meet
            case rel =>
              have hb := Div.inv_break HS'.out.2 (by have := HQL.out; omega) HY.out olt (by omega) HB.out
              exact ⟨by rw [HQ2.out, ← hb]; congr 1; omega, rfl⟩
          · have HB := Hid.mk hB
            have hB' : decide ((4294967296 : Int) ≤ (r : Int) + (z : Int)) = false := decide_eq_false (by omega)
            clear hB
            go_wp2_with (fail)
            go_roundg (4294967296 - (r + z))
            case measure => rw [HG.out]; omega
            case rel => exact ⟨q - 1, r + z, by congr 1; omega, by go_num, by have := HB.out; omega, by have := HQL.out; omega, Hid.mk HS'.out.2, Hid.mk rfl, rfl⟩
        · have HA := Hid.mk hA
          have hA' : decide ((4294967296 : Int) ≤ (q : Int)) = false := decide_eq_false (by omega)
          clear hA
          obtain ⟨P, hP⟩ : ∃ P, P = q * o := ⟨_, rfl⟩
          have hPl : P < 18446744073709551616 := by
            rw [hP]
            have t1 : q * o ≤ 4294967296 * o := Nat.mul_le_mul_right _ (by have := HA.out; omega)
            omega
          have g1 : IntKind.u64.wrap ((q : Int) * (o : Int)) = (P : Int) := by rw [hP, ← Int.natCast_mul]; exact Div.wrap64_nat _ (by rw [← hP]; exact hPl)
          have HPE := Hid.mk hP
          clear hP
          have hP0 : 0 ≤ (P : Int) := by omega
          have hP1 : (P : Int) < 18446744073709551616 := by omega
          clear hPl
          by_cases hC : 4294967296 * r + d0 < P
          · have HS' := Hid.mk (Div.inv_step HJ.out HY.out hr1l d0lt (.inr (by rw [← HPE.out]; exact hC)))
            have q1' : 1 ≤ q := HS'.out.1
            have hC2 : 4294967296 * (r : Int) + (d0 : Int) < (P : Int) := by omega
            have HC := Hid.mk hC
            clear hC
            by_cases hB : 4294967296 ≤ r + z
            · have HB := Hid.mk hB
              have hB' : (4294967296 : Int) ≤ (r : Int) + (z : Int) := by omega
              clear hB
              go_wp2_with (fail)
              go_meet
              case rel =>
                have hb := Div.inv_break HS'.out.2 (by have := HQL.out; omega) HY.out olt (by omega) HB.out
                exact ⟨by rw [HQ2.out, ← hb]; congr 1; omega, rfl⟩
            · have HB := Hid.mk hB
              have hB' : decide ((4294967296 : Int) ≤ (r : Int) + (z : Int)) = false := decide_eq_false (by omega)
              clear hB
              go_wp2_with (fail)
              go_roundg (4294967296 - (r + z))
              case measure => rw [HG.out]; omega
              case rel => exact ⟨q - 1, r + z, by congr 1; omega, by go_num, by have := HB.out; omega, by have := HQL.out; omega, Hid.mk HS'.out.2, Hid.mk rfl, rfl⟩
          · have hC2 : decide (4294967296 * (r : Int) + (d0 : Int) < (P : Int)) = false := decide_eq_false (by omega)
            have HC := Hid.mk hC
            clear hC
            go_wp2_with (fail)
            go_meet
            case rel =>
              have hb := Div.inv_stop HJ.out HY.out (by omega) (by rw [← HPE.out]; have := HC.out; omega)
              exact ⟨by rw [HQ2.out, ← hb], rfl⟩

    case rest =>
      obtain ⟨rfl, rfl⟩ := hcut
      have e : (((hi * 18446744073709551616 + lo) / y : Nat) : Int) = (q1 : Int) * 4294967296 + (q2 : Int) := by rw [← HW.out]; omega
      rw [e] at hR
      clear e
      go_wp2_with (fail)
      exact hR _

/-- Div64: the quotient, and some rest; memory stays. -/
theorem div64_calls (hi lo y : Nat) (w : World) (R : Ending → World → Prop) (h1 : hi < y) (h2 : y < 18446744073709551616) (h3 : lo < 18446744073709551616)
    (hR : ∀ (r : Int) w', Below w.heap.size w w' → R (.returned (.tuple #[.int .u64 (((hi * 18446744073709551616 + lo) / y : Nat) : Int), .int .u64 r])) w') :
    Calls Try.prog 35 #[.int .u64 hi, .int .u64 lo, .int .u64 y] w R := by
  by_cases h0 : hi = 0
  · subst h0
    rw [Nat.zero_mul, Nat.zero_add] at hR
    exact div64_zero lo y w R (by omega) h2 h3 hR
  · exact div64_some hi lo y w R (by omega) h1 h2 h3 (fun r => hR r w (Below.refl _ _))
end Go.Proofs.Ytalgnpgpbbjgpaa
