/- The walks of package money's Least and Most, and of the laws' first call. -/
import Derived.Test.YtalgnpgpbbjgpaaMg
namespace Go.Proofs.Ytalgnpgpbbjgpaa
open Go.RowKit

theorem least_calls (xs : List Int) (A : Option Addr) (cap : Nat) (w : World) (R : Ending → World → Prop) (HI : Ints w A xs) (hR : R (.returned (.int .i64 (Lib.minOf xs))) w) :
    Calls Try.prog 32 #[.slice A xs.length cap] w R := by
  obtain ⟨hl, rfl | ⟨b, off, rfl, hc⟩⟩ := HI
  · go_enter Try.func32, Try.ntmps32
    go_wp2_with (fail)
    exact hR
  · unfold maxLen at hl
    by_cases h0 : xs.length = 0
    · obtain rfl : xs = [] := List.eq_nil_of_length_eq_zero h0
      clear hc
      go_enter Try.func32, Try.ntmps32
      go_wp2_with (fail)
      exact hR
    · have h1 : ((xs.length : Int) == 0) = false := by simpa using h0
      have hp : 0 < xs.length := by omega
      have HC := Hid.mk hc
      have HR := Hid.mk hR
      clear hc hR h0
      go_enter Try.func32, Try.ntmps32
      go_wp2_with (fail)
      refine (Try.slices_Min_int b off xs.length cap xs w hp (Nat.le_refl _) (by omega) HC.out).mono ?_
      rintro e w' ⟨rfl, rfl⟩
      rw [List.take_length]
      go_wp2_with (fail)
      exact HR.out
theorem most_calls (xs : List Int) (A : Option Addr) (cap : Nat) (w : World) (R : Ending → World → Prop) (HI : Ints w A xs) (hR : R (.returned (.int .i64 (Lib.maxOf xs))) w) :
    Calls Try.prog 33 #[.slice A xs.length cap] w R := by
  obtain ⟨hl, rfl | ⟨b, off, rfl, hc⟩⟩ := HI
  · go_enter Try.func33, Try.ntmps33
    go_wp2_with (fail)
    exact hR
  · unfold maxLen at hl
    by_cases h0 : xs.length = 0
    · obtain rfl : xs = [] := List.eq_nil_of_length_eq_zero h0
      clear hc
      go_enter Try.func33, Try.ntmps33
      go_wp2_with (fail)
      exact hR
    · have h1 : ((xs.length : Int) == 0) = false := by simpa using h0
      have hp : 0 < xs.length := by omega
      have HC := Hid.mk hc
      have HR := Hid.mk hR
      clear hc hR h0
      go_enter Try.func33, Try.ntmps33
      go_wp2_with (fail)
      refine (Try.slices_Max_int b off xs.length cap xs w hp (Nat.le_refl _) (by omega) HC.out).mono ?_
      rintro e w' ⟨rfl, rfl⟩
      rw [List.take_length]
      go_wp2_with (fail)
      exact HR.out

theorem Keep.old {w w1 w2 : World} {g : Nat} (h : Below w.heap.size w w1) (k : Keep (fun i => i = g) w1 w2) (hg : w.heap.size ≤ g) : Below w.heap.size w w2 :=
  h.trans ⟨k.os, k.tape, k.output, k.size, fun i hi => k.block i (Nat.lt_of_lt_of_le hi h.size) (fun e => by have : i = g := e; omega)⟩
theorem AccAt.below {w w' : World} {g : Nat} {o : Bool} (h : AccAt w g o) (k : Below w.heap.size w w') : AccAt w' g o := (Keep.of_below k).heap h (fun h => h)

set_option maxHeartbeats 1000000 in
theorem alive_calls (w : World) (R : Ending → World → Prop) (hR : ∀ w', Below w.heap.size w w' → R (.returned (.bool true)) w') : Calls Try.prog 21 #[] w R := by
  obtain ⟨g, hg⟩ : ∃ g, g = w.heap.size := ⟨_, rfl⟩
  obtain ⟨W, hW⟩ : ∃ W, W = w.alloc (.cells #[.bool false] 30) := ⟨_, rfl⟩
  have ha : AccAt W g false := by subst hW; subst hg; exact blk_new _ _
  have hbW : Below w.heap.size w W := by subst hW; exact below_allocs (Below.refl _ _) _
  have HR := Hid.mk hR
  have HG : Hid (w.heap.size ≤ g) := Hid.mk (by omega)
  clear hR
  go_enter Try.func21, Try.ntmps21
  go_wp2_with (fail)
  rw [← hW, ← hg]
  clear hW hg
  refine mulDiv_calls 7 3 2 _ _ ⟨by omega, by omega⟩ ⟨by omega, by omega⟩ ⟨by omega, by omega⟩ ?_
  rw [show mulDiv 7 3 2 = (10, 0) from rfl]
  intro w1 hb1
  have ha1 := ha.below hb1
  replace hb1 := below_then hbW hb1
  clear ha hbW
  go_wp2_with (fail)
  refine worth_calls 3 5 2500 _ _ ⟨by omega, by omega⟩ ⟨by omega, by omega⟩ ⟨by omega, by omega⟩ ?_
  rw [show worth 3 5 2500 = (11, 0) from rfl]
  intro w2 hb2
  have ha2 := ha1.below hb2
  replace hb2 := below_then hb1 hb2
  clear ha1 hb1
  go_wp2_with (fail)
  refine number_calls ⟨#[45, 49, 50]⟩ _ _ (by decide) ?_
  rw [show number (ByteArray.mk #[45, 49, 50]).data.toList = (-12, 0) from rfl]
  go_wp2_with (fail)
  have hi : Ints (w2.alloc (.cells #[.int .i64 1, .int .i64 2, .int .i64 3] 3)) (some ⟨w2.heap.size, 0, none⟩) [1, 2, 3] := Ints.new w2 [1, 2, 3] 3 (by simp [maxLen])
  refine add_some g false [1, 2, 3] (some ⟨w2.heap.size, 0, none⟩) 3 _ _ (blk_alloc ha2 _) hi (by simp) (by simp) ?_
  rw [show clamp (sumL [1, 2, 3]) = (6, false) from rfl]
  intro w3 hk3 ha3
  rw [show (false || ((6, false) : Int × Bool).2) = false from rfl] at ha3
  have hb3 := Keep.old (below_allocs hb2 _) hk3 HG.out
  clear hi hk3 hb2 ha2
  go_wp2_with (fail)
  refine mul_some g false (-2) 3 _ _ ha3 ⟨by omega, by omega⟩ ⟨by omega, by omega⟩ ?_
  rw [show prod (-2) 3 = (-6, false) from rfl]
  intro w4 hk4 ha4
  rw [show (false || ((-6, false) : Int × Bool).2) = false from rfl] at ha4
  have hb4 := Keep.old hb3 hk4 HG.out
  clear hk4 hb3 ha3
  have c0 := blk_cell ha4 0
  simp only [List.getElem?_toArray, List.getElem?_cons_zero] at c0
  go_wp2_with (fail)
  refine digits_calls (-7) _ _ ⟨by omega, by omega⟩ ?_
  intro w5 hb5
  have hd : digits (-7) = [45, 55] := by simp [digits, dig_small]
  rw [hd]
  replace hb5 := below_then hb4 hb5
  clear hd hb4 ha4 c0
  go_wp2_with (fail)
  have hi : Ints (w5.alloc (.cells #[.int .i64 1, .int .i64 3, .int .i64 2] 3)) (some ⟨w5.heap.size, 0, none⟩) [1, 3, 2] := Ints.new w5 [1, 3, 2] 3 (by simp [maxLen])
  refine most_calls [1, 3, 2] (some ⟨w5.heap.size, 0, none⟩) 3 _ _ hi ?_
  rw [show Lib.maxOf [1, 3, 2] = 3 from rfl]
  go_wp2_with (fail)
  exact HR.out _ (below_allocs hb5 _)
end Go.Proofs.Ytalgnpgpbbjgpaa
