/- The walk of package money's Acc.Add: the exact sum, or the end that it lies beyond. -/
import Derived.Test.YtalgnpgpbbjgpaaMd
import Derived.Laws.Externs
namespace Go.Proofs.Ytalgnpgpbbjgpaa
open Go.RowKit

theorem add64_run (x y c : Nat) (hc : c ≤ 1) (w : World) :
    (callFunc 40 #[.int .u64 x, .int .u64 y, .int .u64 c]).run Try.prog w =
      .ok (.value (.tuple #[.int .u64 (((x + y + c) % 18446744073709551616 : Nat) : Int), .int .u64 (((x + y + c) / 18446744073709551616 : Nat) : Int)])) w := by
  rw [run_callFunc_extern Try.func40 (by kernel_rfl) (by kernel_rfl) (by kernel_rfl) (e := add64Entry) (by kernel_rfl), run_add64 x y c (by omega) (by omega) (by omega) (by omega)]
  simp only [Result.andThen]
  congr 5 <;> omega

def sumL (xs : List Int) : Int := xs.foldl (· + ·) 0
theorem sumL_snoc (xs : List Int) (x : Int) : sumL (xs ++ [x]) = sumL xs + x := by simp [sumL, List.foldl_append]
theorem take_snoc (xs : List Int) (k : Nat) (h : k < xs.length) : xs.take (k + 1) = xs.take k ++ [xs.getD k 0] := by
  rw [List.take_succ_eq_append_getElem h]; simp [List.getD_eq_getElem?_getD, h]

/-- The sum, or the end that it lies beyond. -/
def clamp (s : Int) : Int × Bool := if 1152921504606846976 < s then (1152921504606846976, true) else if s < -1152921504606846976 then (-1152921504606846976, true) else (s, false)

/-- 128 bits that hold a sum. -/
def Bits (s : Int) (hi lo : Nat) : Prop := hi < 18446744073709551616 ∧ lo < 18446744073709551616 ∧ s % 340282366920938463463374607431768211456 = (hi : Int) * 18446744073709551616 + (lo : Int)

theorem bits_neg {s x : Int} {hi lo : Nat} (h : Bits s hi lo) (hx : -9223372036854775808 ≤ x ∧ x < 0) :
    Bits (s + x) ((hi + 18446744073709551615 + (lo + (x + 18446744073709551616).toNat + 0) / 18446744073709551616) % 18446744073709551616) ((lo + (x + 18446744073709551616).toNat + 0) % 18446744073709551616) := by
  obtain ⟨h1, h2, h3⟩ := h
  refine ⟨by omega, by omega, ?_⟩
  omega
theorem bits_pos {s x : Int} {hi lo : Nat} (h : Bits s hi lo) (hx : 0 ≤ x ∧ x ≤ 9223372036854775807) :
    Bits (s + x) ((hi + 0 + (lo + x.toNat + 0) / 18446744073709551616) % 18446744073709551616) ((lo + x.toNat + 0) % 18446744073709551616) := by
  obtain ⟨h1, h2, h3⟩ := h
  refine ⟨by omega, by omega, ?_⟩
  omega
theorem sumL_bound (xs : List Int) (hx : ∀ x ∈ xs, -9223372036854775808 ≤ x ∧ x ≤ 9223372036854775807) (hl : xs.length ≤ 17592186044416) :
    -162259276829213363391578010288128 ≤ sumL xs ∧ sumL xs ≤ 162259276829213363391578010288128 := by
  suffices h : ∀ (n : Nat), n ≤ xs.length → -9223372036854775808 * (n : Int) ≤ sumL (xs.take n) ∧ sumL (xs.take n) ≤ 9223372036854775808 * (n : Int) by
    have := h xs.length (Nat.le_refl _)
    rw [List.take_length] at this
    omega
  intro n
  induction n with
  | zero => intro _; simp [sumL]
  | succ n ih =>
    intro hn
    have h1 := ih (by omega)
    rw [take_snoc xs n (by omega), sumL_snoc]
    have h2 : xs.getD n 0 ∈ xs := by simp [List.getD_eq_getElem?_getD, show n < xs.length by omega]
    have h3 := hx _ h2
    omega

set_option maxHeartbeats 1000000 in
theorem add_gen (p : Value) (xs : List Int) (A : Option Addr) (cap : Nat) (w w1 : World) (R : Ending → World → Prop) (HI : Ints w A xs) (hl : xs.length ≤ 17592186044416)
    (hx : ∀ x ∈ xs, -9223372036854775808 ≤ x ∧ x ≤ 9223372036854775807)
    (H : ∀ (b : Bool) (R' : Ending → World → Prop), R' (.returned (.int .i64 (if b then -1152921504606846976 else 1152921504606846976))) w1 → Calls Try.prog 41 #[p, .bool b] w R')
    (hR1 : (clamp (sumL xs)).2 = true → R (.returned (.int .i64 (clamp (sumL xs)).1)) w1) (hR2 : (clamp (sumL xs)).2 = false → R (.returned (.int .i64 (clamp (sumL xs)).1)) w) :
    Calls Try.prog 23 #[p, .slice A xs.length cap] w R := by
  have HSB := Hid.mk (sumL_bound xs hx hl)
  have HX := Hid.mk hx
  have HO := Hid.mk H
  have HR := Hid.mk (And.intro hR1 hR2)
  clear hx H hR1 hR2
  go_enter Try.func23, Try.ntmps23
  go_wp2_with (fail)
  go_loopg [5, 6, 8, 9, 10, 15] (xs.length) (fun g vh vl v8 v9 v10 vi wr => ∃ (k hi lo : Nat), k ≤ xs.length ∧ vi = .int .i64 k ∧ vh = .int .u64 hi ∧ vl = .int .u64 lo ∧ hi < 18446744073709551616 ∧ lo < 18446744073709551616 ∧ Hid (Bits (sumL (xs.take k)) hi lo) ∧ Hid (g = xs.length - k) ∧ wr = w)
  case atStart => exact ⟨0, 0, 0, Nat.zero_le _, rfl, rfl, rfl, by omega, by omega, Hid.mk ⟨by omega, by omega, by simp [sumL]⟩, Hid.mk rfl, rfl⟩
  case round =>
    obtain ⟨k, hi, lo, hk, rfl, rfl, rfl, hhi, hlo, HB, HG, rfl⟩ := hrel
    by_cases hlt : k < xs.length
    · obtain ⟨x, hx⟩ : ∃ x, x = xs.getD k 0 := ⟨_, rfl⟩
      obtain ⟨b, off, rfl, hck⟩ := HI.at_ k hlt
      rw [← hx] at hck
      have hxb : -9223372036854775808 ≤ x ∧ x ≤ 9223372036854775807 := by rw [hx]; exact HX.out _ (by simp [List.getD_eq_getElem?_getD, hlt])
      obtain ⟨hx1, hx2⟩ := hxb
      have HSX : Hid (sumL (xs.take (k + 1)) = sumL (xs.take k) + x) := Hid.mk (by rw [take_snoc _ _ hlt, sumL_snoc, ← hx])
      clear hx HI
      by_cases hneg : x < 0
      · obtain ⟨ux, hux⟩ : ∃ ux, ux = (x + 18446744073709551616).toNat := ⟨_, rfl⟩
        obtain ⟨lo2, hlo2⟩ : ∃ lo2, lo2 = (lo + ux + 0) % 18446744073709551616 := ⟨_, rfl⟩
        obtain ⟨cy, hcy⟩ : ∃ cy, cy = (lo + ux + 0) / 18446744073709551616 := ⟨_, rfl⟩
        obtain ⟨hi2, hhi2⟩ : ∃ hi2, hi2 = (hi + 18446744073709551615 + cy) % 18446744073709551616 := ⟨_, rfl⟩
        have hb := bits_neg HB.out ⟨hx1, hneg⟩
        rw [← hux, ← hcy, ← hlo2, ← hhi2, ← HSX.out] at hb
        have r1 := add64_run lo ux 0 (by omega) wr
        have r2 := add64_run hi 18446744073709551615 cy (by omega) wr
        rw [← hlo2, ← hcy] at r1
        rw [← hhi2] at r2
        have e1 : x / 9223372036854775808 = -1 := by omega
        have e2 : IntKind.u64.wrap x = (ux : Int) := by rw [IntKind.wrap_u64]; omega
        have HB2 := Hid.mk hb
        have hb1 : hi2 < 18446744073709551616 := hb.1
        have hb2 : lo2 < 18446744073709551616 := hb.2.1
        clear hux hlo2 hcy hhi2 hb
        simp only [Int.natCast_zero] at r1
        rw [show ((18446744073709551615 : Nat) : Int) = 18446744073709551615 from rfl] at r2
        have e3 : IntKind.u64.wrap (-1) = 18446744073709551615 := by rw [IntKind.wrap_u64]; omega
        go_wp2_with (fail)
        go_roundg (xs.length - (k + 1))
        case measure => rw [HG.out]; omega
        case rel => exact ⟨k + 1, hi2, lo2, by omega, by go_num, rfl, rfl, hb1, hb2, HB2, Hid.mk rfl, rfl⟩
      · obtain ⟨ux, rfl⟩ := Int.eq_ofNat_of_zero_le (show 0 ≤ x by omega)
        obtain ⟨lo2, hlo2⟩ : ∃ lo2, lo2 = (lo + ux + 0) % 18446744073709551616 := ⟨_, rfl⟩
        obtain ⟨cy, hcy⟩ : ∃ cy, cy = (lo + ux + 0) / 18446744073709551616 := ⟨_, rfl⟩
        obtain ⟨hi2, hhi2⟩ : ∃ hi2, hi2 = (hi + 0 + cy) % 18446744073709551616 := ⟨_, rfl⟩
        have hb := bits_pos HB.out ⟨by omega, hx2⟩
        rw [Int.toNat_natCast, ← hcy, ← hlo2, ← hhi2, ← HSX.out] at hb
        have r1 := add64_run lo ux 0 (by omega) wr
        have r2 := add64_run hi 0 cy (by omega) wr
        rw [← hlo2, ← hcy] at r1
        rw [← hhi2] at r2
        have e1 : (ux : Int) / 9223372036854775808 = 0 := by omega
        have HB2 := Hid.mk hb
        have hb1 : hi2 < 18446744073709551616 := hb.1
        have hb2 : lo2 < 18446744073709551616 := hb.2.1
        clear hlo2 hcy hhi2 hb
        simp only [Int.natCast_zero] at r1 r2
        go_wp2_with (fail)
        go_roundg (xs.length - (k + 1))
        case measure => rw [HG.out]; omega
        case rel => exact ⟨k + 1, hi2, lo2, by omega, by go_num, rfl, rfl, hb1, hb2, HB2, Hid.mk rfl, rfl⟩
    · obtain ⟨S, hS⟩ : ∃ S, S = sumL xs := ⟨_, rfl⟩
      have hB := HB.out
      rw [List.take_of_length_le (by omega), ← hS] at hB
      have hb := HSB.out
      rw [← hS] at hb
      have HR' := HR.out
      rw [← hS] at HR'
      obtain ⟨hR1, hR2⟩ := HR'
      have HR1 := Hid.mk hR1
      have HR2 := Hid.mk hR2
      obtain ⟨_, _, hval⟩ := hB
      have HV := Hid.mk hval
      have HSB2 := Hid.mk hb
      clear hS hb hR1 hR2 HR HB HSB HX
      have hv := HV.out
      have hsb := HSB2.out
      by_cases hl63 : lo < 9223372036854775808
      · have e1 : (lo : Int) / 9223372036854775808 = 0 := by omega
        by_cases hneg : S < 0
        · have e2 : (hi : Int) / 9223372036854775808 = 1 := by omega
          have e3 : ((hi : Int) == 0) = false := by simp; omega
          have hc : clamp S = (-1152921504606846976, true) := by unfold clamp; rw [if_neg (by omega), if_pos (by omega)]
          have HC := Hid.mk (HR1.out (by rw [hc]))
          rw [hc] at HC
          clear hc HR1 HR2
          clear hv hsb hneg
          go_wp2_with (fail)
          refine HO.out true _ ?_
          go_wp2_with (fail)
          exact HC.out
        · have e2 : (hi : Int) / 9223372036854775808 = 0 := by omega
          by_cases h0 : hi = 0
          · subst h0
            have hSl : S = (lo : Int) := by omega
            by_cases hbig : 1152921504606846976 < (lo : Int)
            · have hc : clamp S = (1152921504606846976, true) := by unfold clamp; rw [if_pos (by omega)]
              have HC := Hid.mk (HR1.out (by rw [hc]))
              rw [hc] at HC
              clear hc HR1 HR2
              have g1 : ¬ ((lo : Int) ≤ 1152921504606846976) := by omega
              have g2 : -1152921504606846976 ≤ (lo : Int) := by omega
              clear hv hsb hneg hSl hbig
              go_wp2_with (fail)
              refine HO.out false _ ?_
              go_wp2_with (fail)
              exact HC.out
            · have hc : clamp S = (S, false) := by unfold clamp; rw [if_neg (by omega), if_neg (by omega)]
              have HC := Hid.mk (HR2.out (by rw [hc]))
              rw [hc] at HC
              clear hc HR1 HR2
              have g1 : (lo : Int) ≤ 1152921504606846976 := by omega
              have g2 : -1152921504606846976 ≤ (lo : Int) := by omega
              rw [hSl] at HC
              clear hv hsb hneg hSl hbig
              go_wp2_with (fail)
              exact HC.out
          · have e3 : ((hi : Int) == 0) = false := by simpa using h0
            have hc : clamp S = (1152921504606846976, true) := by unfold clamp; rw [if_pos (by omega)]
            have HC := Hid.mk (HR1.out (by rw [hc]))
            rw [hc] at HC
            clear hc HR1 HR2
            clear hv hsb hneg h0
            go_wp2_with (fail)
            refine HO.out false _ ?_
            go_wp2_with (fail)
            exact HC.out
      · obtain ⟨T, hT⟩ : ∃ T, T = (lo : Int) - 18446744073709551616 := ⟨_, rfl⟩
        have t1 : IntKind.i64.wrap (lo : Int) = T := by rw [IntKind.wrap_i64]; omega
        have t2 : T / 9223372036854775808 = -1 := by omega
        have t3 : IntKind.u64.wrap (-1) = 18446744073709551615 := by rw [IntKind.wrap_u64]; omega
        have t4 : T < 0 := by omega
        have t5 : T ≤ 1152921504606846976 := by omega
        by_cases hneg : S < 0
        · have e2 : (hi : Int) / 9223372036854775808 = 1 := by omega
          by_cases h0 : hi = 18446744073709551615
          · have hST : S = T := by omega
            have e3 : ((hi : Int) == 18446744073709551615) = true := by simp; omega
            by_cases hbig : S < -1152921504606846976
            · have hc : clamp S = (-1152921504606846976, true) := by unfold clamp; rw [if_neg (by omega), if_pos (by omega)]
              have HC := Hid.mk (HR1.out (by rw [hc]))
              rw [hc] at HC
              clear hc HR1 HR2
              have g1 : ¬ (-1152921504606846976 ≤ T) := by omega
              clear hv hsb hneg hST hbig hT h0
              go_wp2_with (fail)
              refine HO.out true _ ?_
              go_wp2_with (fail)
              exact HC.out
            · have hc : clamp S = (S, false) := by unfold clamp; rw [if_neg (by omega), if_neg (by omega)]
              have HC := Hid.mk (HR2.out (by rw [hc]))
              rw [hc] at HC
              clear hc HR1 HR2
              have g1 : -1152921504606846976 ≤ T := by omega
              rw [hST] at HC
              clear hv hsb hneg hST hbig hT h0
              go_wp2_with (fail)
              exact HC.out
          · have e3 : ((hi : Int) == 18446744073709551615) = false := by simp; omega
            have hc : clamp S = (-1152921504606846976, true) := by unfold clamp; rw [if_neg (by omega), if_pos (by omega)]
            have HC := Hid.mk (HR1.out (by rw [hc]))
            rw [hc] at HC
            clear hc HR1 HR2
            clear hv hsb hneg h0 hT
            go_wp2_with (fail)
            refine HO.out true _ ?_
            go_wp2_with (fail)
            exact HC.out
        · have e2 : (hi : Int) / 9223372036854775808 = 0 := by omega
          have e3 : ((hi : Int) == 18446744073709551615) = false := by simp; omega
          have hc : clamp S = (1152921504606846976, true) := by unfold clamp; rw [if_pos (by omega)]
          have HC := Hid.mk (HR1.out (by rw [hc]))
          rw [hc] at HC
          clear hc HR1 HR2
          clear hv hsb hneg hT
          go_wp2_with (fail)
          refine HO.out false _ ?_
          go_wp2_with (fail)
          exact HC.out

theorem add_some (g : Nat) (o : Bool) (xs : List Int) (A : Option Addr) (cap : Nat) (w : World) (R : Ending → World → Prop) (h : AccAt w g o) (HI : Ints w A xs) (hl : xs.length ≤ 17592186044416)
    (hx : ∀ x ∈ xs, -9223372036854775808 ≤ x ∧ x ≤ 9223372036854775807)
    (hR : ∀ w', Keep (fun i => i = g) w w' → AccAt w' g (o || (clamp (sumL xs)).2) → R (.returned (.int .i64 (clamp (sumL xs)).1)) w') :
    Calls Try.prog 23 #[.pointer (some ⟨g, 0, none⟩), .slice A xs.length cap] w R := by
  refine add_gen (.pointer (some ⟨g, 0, none⟩)) xs A cap w (w.setCell ⟨g, 0, none⟩ (.bool true)) R HI hl hx (fun b R' h' => over_some g o b w R' h h') (fun hc => ?_) (fun hc => ?_)
  · refine hR _ ((Keep.refl (fun i => i = g) _).setCell (.inl rfl) _) ?_
    rw [hc, Bool.or_true]; exact h.set true
  · refine hR _ (Keep.refl _ _) ?_
    rw [hc, Bool.or_false]; exact h
theorem add_nil (xs : List Int) (A : Option Addr) (cap : Nat) (w : World) (R : Ending → World → Prop) (HI : Ints w A xs) (hl : xs.length ≤ 17592186044416)
    (hx : ∀ x ∈ xs, -9223372036854775808 ≤ x ∧ x ≤ 9223372036854775807) (hR : R (.returned (.int .i64 (clamp (sumL xs)).1)) w) :
    Calls Try.prog 23 #[.pointer none, .slice A xs.length cap] w R :=
  add_gen (.pointer none) xs A cap w w R HI hl hx (fun b R' h' => over_nil b w R' h') (fun _ => hR) (fun _ => hR)
end Go.Proofs.Ytalgnpgpbbjgpaa
