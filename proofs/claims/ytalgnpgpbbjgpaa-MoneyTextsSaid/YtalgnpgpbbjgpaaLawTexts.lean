/- The walk of the law MoneyTexts: it answers true at every int, text and list, and leaves old memory as it was. -/
import Derived.Test.YtalgnpgpbbjgpaaMh
import Derived.Test.YtalgnpgpbbjgpaaBh
namespace Go.Proofs.Ytalgnpgpbbjgpaa
open Go.RowKit

/-- The least (the greatest) of the first k. -/
def lowTo (xs : List Int) (k : Nat) : Int := Lib.minOf (xs.take k)
def highTo (xs : List Int) (k : Nat) : Int := Lib.maxOf (xs.take k)
theorem lowTo_zero (xs : List Int) : lowTo xs 0 = 0 := by unfold lowTo; rfl
theorem highTo_zero (xs : List Int) : highTo xs 0 = 0 := by unfold highTo; rfl
theorem lowTo_one (xs : List Int) : lowTo xs 1 = xs.getD 0 0 := by unfold lowTo; rw [Lib.minOf_one]
theorem highTo_one (xs : List Int) : highTo xs 1 = xs.getD 0 0 := by unfold highTo; rw [Lib.maxOf_one]
theorem lowTo_step (xs : List Int) (k : Nat) (h : 0 < k) (hk : k < xs.length) : lowTo xs (k + 1) = min (lowTo xs k) (xs.getD k 0) := by unfold lowTo; rw [Lib.minOf_step xs k h hk]
theorem highTo_step (xs : List Int) (k : Nat) (h : 0 < k) (hk : k < xs.length) : highTo xs (k + 1) = max (highTo xs k) (xs.getD k 0) := by unfold highTo; rw [Lib.maxOf_step xs k h hk]

set_option maxHeartbeats 2000000 in
set_option maxRecDepth 100000 in
theorem moneyTexts_calls (v : Int) (s : ByteArray) (xs : List Int) (A : Option Addr) (cap : Nat) (w : World) (R : Ending → World → Prop) (hv : I64 v) (hs : s.size ≤ 140737488351232) (HI : Ints w A xs) (_ : xs.length * 8 ≤ 140737488351232)
    (_ : ∀ x ∈ xs, -9223372036854775808 ≤ x ∧ x ≤ 9223372036854775807) (hR : ∀ w', Below w.heap.size w w' → R (.returned (.bool true)) w') :
    Calls Try.prog 10 #[.int .i64 v, .string s, .slice A xs.length cap] w R := by
  have HR := Hid.mk hR
  have HV := Hid.mk hv
  obtain ⟨t, rfl⟩ : ∃ t : List UInt8, s = ⟨t.toArray⟩ := ⟨s.data.toList, rfl⟩
  have HS : Hid (t.length ≤ 140737488351232) := Hid.mk (by simpa [ByteArray.size] using hs)
  clear hR hs hv
  by_cases hoff : 3000 < t.length ∨ 2000 < xs.length
  · by_cases h1 : 3000 < (t.length : Int)
    · clear hoff
      go_enter Try.func10, Try.ntmps10
      go_wp2_with (fail)
      refine alive_calls _ _ ?_
      intro w3 hb3
      go_wp2_with (fail)
      exact HR.out _ hb3
    · have h2 : 2000 < (xs.length : Int) := by omega
      clear hoff
      go_enter Try.func10, Try.ntmps10
      go_wp2_with (fail)
      refine alive_calls _ _ ?_
      intro w3 hb3
      go_wp2_with (fail)
      exact HR.out _ hb3
  · have h1 : (t.length : Int) ≤ 3000 := by omega
    have h2 : (xs.length : Int) ≤ 2000 := by omega
    clear hoff
    go_enter Try.func10, Try.ntmps10
    go_wp2_with (fail)
    refine number_calls _ _ _ (by simp [ByteArray.size]; exact HS.out) ?_
    rw [show (ByteArray.mk t.toArray).data.toList = t from rfl]
    go_wp2_with (fail)
    refine rnumber_calls t _ _ HS.out ?_
    generalize (number t).1 = n1
    generalize (number t).2 = n2
    go_wp2_with (fail)
    go_loopg [11, 12, 13] (xs.length) (fun g va vb vi wr => ∃ (k : Nat) (lo hi : Int), k ≤ xs.length ∧ vi = .int .i64 k ∧ va = .int .i64 lo ∧ vb = .int .i64 hi ∧ Hid (lo = lowTo xs k) ∧ Hid (hi = highTo xs k) ∧ Hid (g = xs.length - k) ∧ wr = w)
    case atStart => exact ⟨0, 0, 0, Nat.zero_le _, rfl, rfl, rfl, Hid.mk rfl, Hid.mk rfl, Hid.mk rfl, rfl⟩
    case round =>
      obtain ⟨k, lo, hi, hk, rfl, rfl, rfl, HP, HQ, HG, rfl⟩ := hrel
      by_cases hlt : k < xs.length
      · obtain ⟨x, hx⟩ : ∃ x, x = xs.getD k 0 := ⟨_, rfl⟩
        obtain ⟨b, off, rfl, hck⟩ := HI.at_ k hlt
        rw [← hx] at hck
        have HX := Hid.mk hx
        have HIH := Hid.mk HI
        clear hx HI
        by_cases hk0 : k = 0
        · subst hk0
          rw [Nat.add_zero] at hck
          go_wp2_with (fail)
          go_roundg (xs.length - (0 + 1))
          case measure => rw [HG.out]; omega
          case rel => exact ⟨1, x, x, by omega, by go_num, rfl, rfl, Hid.mk (by rw [lowTo_one, HX.out]), Hid.mk (by rw [highTo_one, HX.out]), Hid.mk rfl, rfl⟩
        · have hk0' : ((k : Int) == 0) = false := by rw [beq_eq_false_iff_ne]; omega
          have HP2 : Hid (lowTo xs (k + 1) = min lo x) := Hid.mk (by rw [lowTo_step _ _ (by omega) hlt, ← HP.out, ← HX.out])
          have HQ2 : Hid (highTo xs (k + 1) = max hi x) := Hid.mk (by rw [highTo_step _ _ (by omega) hlt, ← HQ.out, ← HX.out])
          have hkk : 1 ≤ k := by omega
          clear hk0
          by_cases hlo : x < lo <;> by_cases hhi : hi < x
          all_goals
            go_wp2_with (fail)
            go_roundg (xs.length - (k + 1))
            case measure => rw [HG.out]; omega
            case rel => exact ⟨k + 1, _, _, by omega, by go_num, rfl, rfl, Hid.mk (by rw [HP2.out]; omega), Hid.mk (by rw [HQ2.out]; omega), Hid.mk rfl, rfl⟩
      · obtain rfl : k = xs.length := by omega
        have hp : lo = Lib.minOf xs := by have := HP.out; unfold lowTo at this; rwa [List.take_length] at this
        have hq : hi = Lib.maxOf xs := by have := HQ.out; unfold highTo at this; rwa [List.take_length] at this
        have HPQ := Hid.mk (And.intro hp hq)
        clear hp hq
        obtain ⟨D, hD⟩ : ∃ D, D = digits v := ⟨_, rfl⟩
        have HD := Hid.mk hD
        clear hD
        go_wp2_with (fail)
        refine alive_calls _ _ ?_
        intro w1 hb1
        have HI1 := HI.below hb1
        go_wp2_with (fail)
        refine digits_calls v _ _ HV.out ?_
        rw [← HD.out]
        intro w2 hb2
        have HI2 := HI1.below hb2
        replace hb2 := below_then hb1 hb2
        clear hb1 HI1
        go_wp2_with (fail)
        refine rdigits_calls v _ _ HV.out ?_
        rw [← HD.out]
        intro w3 hb3
        have HI3 := HI2.below hb3
        replace hb3 := below_then hb2 hb3
        clear hb2 HI2
        go_wp2_with (fail)
        refine least_calls xs A cap w3 _ HI3 ?_
        rw [← HPQ.out.1]
        go_wp2_with (fail)
        refine most_calls xs A cap w3 _ HI3 ?_
        rw [← HPQ.out.2]
        go_wp2_with (fail)
        exact HR.out _ hb3
end Go.Proofs.Ytalgnpgpbbjgpaa
