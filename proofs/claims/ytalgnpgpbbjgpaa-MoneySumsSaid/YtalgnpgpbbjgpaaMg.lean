/- The walk of package money's Digits: the decimal digits of any int. -/
import Derived.Test.YtalgnpgpbbjgpaaMf
import Derived.Laws.BytesArg
import Derived.WideLaws
namespace Go.Proofs.Ytalgnpgpbbjgpaa
open Go.RowKit

/-- The decimal digits of a number from 0 on. -/
def dig (n : Nat) : List UInt8 := if n < 10 then [UInt8.ofNat (48 + n)] else dig (n / 10) ++ [UInt8.ofNat (48 + n % 10)]
/-- The document's Digits. -/
def digits (v : Int) : List UInt8 := if v < 0 then 45 :: dig v.natAbs else dig v.natAbs

theorem dig_small (n : Nat) (h : n < 10) : dig n = [UInt8.ofNat (48 + n)] := by rw [dig, if_pos h]
theorem dig_big (n : Nat) (h : ¬ n < 10) : dig n = dig (n / 10) ++ [UInt8.ofNat (48 + n % 10)] := by rw [dig, if_neg h]
theorem dig_pos (n : Nat) : 0 < (dig n).length := by
  by_cases h : n < 10
  · rw [dig_small n h]; simp
  · rw [dig_big n h]; simp
theorem dig_le (k : Nat) : ∀ n, n < 10 ^ (k + 1) → (dig n).length ≤ k + 1 := by
  induction k with
  | zero => intro n h; rw [dig_small n (by simpa using h)]; simp
  | succ k ih =>
    intro n h
    by_cases h10 : n < 10
    · rw [dig_small n h10]; simp
    · rw [dig_big n h10, List.length_append]
      have := ih (n / 10) (by rw [Nat.pow_succ] at h; omega)
      simp only [List.length_cons, List.length_nil]
      omega
theorem dig_19 (n : Nat) (h : n ≤ 9223372036854775808) : (dig n).length ≤ 19 := dig_le 18 n (by omega)

/-- The bytes at the end of the array, once so many digits stand. -/
def Tail (w : World) (g j : Nat) (tail : List UInt8) : Prop :=
  ∃ arr : Array Value, w.heap[g]? = some (.cells arr 65 (0, 0)) ∧ arr.size = 21 ∧ j + tail.length = 21 ∧ ∀ q, q < tail.length → arr[j + q]? = some (.int .u8 ((tail.getD q 0).toNat : Int))

theorem Tail.put {w : World} {g j : Nat} {tail : List UInt8} (h : Tail w g (j + 1) tail) (c : UInt8) : Tail (w.setCell ⟨g, j, none⟩ (.int .u8 (c.toNat : Int))) g j (c :: tail) := by
  obtain ⟨arr, h1, h2, h3, h4⟩ := h
  refine ⟨arr.setIfInBounds j (.int .u8 (c.toNat : Int)), blk_set h1 j _, by simpa using h2, by rw [List.length_cons]; omega, fun q hq => ?_⟩
  cases q with
  | zero =>
    rw [Nat.add_zero, Array.getElem?_setIfInBounds, if_pos rfl, if_pos (by omega)]
    rfl
  | succ q =>
    have h5 := h4 q (by simpa using hq)
    rw [Array.getElem?_setIfInBounds, if_neg (by omega), List.getD_cons_succ, ← h5]
    congr 1
    omega
theorem Tail.has {w : World} {g j : Nat} {tail : List UInt8} (h : Tail w g (j + 1) tail) : (∃ u, w.cell? ⟨g, j, none⟩ = some u) ∧ w.frozen? ⟨g, j, none⟩ = false := by
  obtain ⟨arr, h1, h2, h3, h4⟩ := h
  refine ⟨?_, blk_frozen h1 j⟩
  rw [blk_cell h1 j]
  exact ⟨arr[j], Array.getElem?_eq_getElem (by omega)⟩
theorem Tail.reads {w : World} {g j : Nat} {tail : List UInt8} (h : Tail w g j tail) : ∀ q, q < tail.length → w.cell? ⟨g, j + q, none⟩ = some (.int .u8 ((tail.getD q 0).toNat : Int)) := by
  obtain ⟨arr, h1, h2, h3, h4⟩ := h
  intro q hq
  rw [blk_cell h1]
  exact h4 q hq

theorem slice_arr (g k : Nat) (hk : k ≤ 21) (W : World) : (Instr.sliceAt 65 (.pointer (some ⟨g, 0, none⟩)) (some (.int .i64 (k : Int))) none none).run Try.prog W = .ok (.slice (some (if 21 = k then ⟨g, 0, none⟩ else ⟨g, k, none⟩)) (21 - k) (21 - k)) W := by
  have hlen : Try.prog.arrayLen 65 = 21 := by kernel_rfl
  rw [run_sliceAt_array_l W 65 ⟨g, 0, none⟩ (by kernel_rfl) .i64 (k : Int) (by omega) (by rw [hlen]; omega)]
  rw [hlen]
  have hs : (sizeOf (Try.prog.elem 65)).run Try.prog W = .ok 1 W := by kernel_rfl
  rw [hs]
  simp only [Result.andThen, slicedAt, Int.toNat_natCast]
  congr 3
  split
  · rfl
  · rw [Go.WideShapes.add_plain]; simp
theorem conv_tail {W : World} {g k : Nat} {tail : List UInt8} (h : Tail W g k tail) : (convert 66 9 (.slice (some ⟨g, k, none⟩) (21 - k) (21 - k))).run Try.prog W = .ok (.string ⟨tail.toArray⟩) W := by
  have h0 := h
  obtain ⟨_, _, _, hl, _⟩ := h0
  have hr := h.reads
  have := run_convert_bytes_arg (P := Try.prog) W 66 5 Try.underlying66 Try.underlying5 g k (21 - k) (21 - k) (tail.map fun c => (c.toNat : Int)) (by simp; omega)
    (fun i hi => by rw [hr i (by omega)]; simp [List.getD_eq_getElem?_getD, show i < tail.length by omega]) 9 Try.underlying9
  rw [this]
  congr 2
  unfold strOfNums
  rw [List.map_map]
  congr 2
  conv => rhs; rw [← List.map_id tail]
  exact List.map_congr_left fun c _ => by simp
set_option maxHeartbeats 1000000 in
theorem digits_calls (v : Int) (w : World) (R : Ending → World → Prop) (hv : I64 v) (hR : ∀ w', Below w.heap.size w w' → R (.returned (.string ⟨(digits v).toArray⟩)) w') :
    Calls Try.prog 29 #[.int .i64 v] w R := by
  obtain ⟨n, hn⟩ : ∃ n, n = v.natAbs := ⟨_, rfl⟩
  have hnl : n ≤ 9223372036854775808 := by obtain ⟨h1, h2⟩ := hv; omega
  have h19 := dig_19 n hnl
  have HN := Hid.mk hn
  have HV := Hid.mk hv
  have HR := Hid.mk hR
  clear hn hv hR
  go_enter Try.func29, Try.ntmps29
  go_wp2_with (fail)
  refine size_calls v _ _ HV.out ?_
  rw [← HN.out]
  obtain ⟨g, hg⟩ : ∃ g, g = w.heap.size := ⟨_, rfl⟩
  obtain ⟨W, hW⟩ : ∃ W, W = w.alloc (.cells #[.int .u8 0, .int .u8 0, .int .u8 0, .int .u8 0, .int .u8 0, .int .u8 0, .int .u8 0, .int .u8 0, .int .u8 0, .int .u8 0, .int .u8 0, .int .u8 0, .int .u8 0, .int .u8 0, .int .u8 0, .int .u8 0, .int .u8 0, .int .u8 0, .int .u8 0, .int .u8 0, .int .u8 0] 65) := ⟨_, rfl⟩
  have hT : Tail W g 21 [] := by
    subst hW; subst hg
    exact ⟨_, blk_new _ _, rfl, rfl, fun q hq => by simp at hq⟩
  have hbW : Below w.heap.size w W := by subst hW; exact below_allocs (Below.refl _ _) _
  go_wp2_with (fail)
  rw [← hW, ← hg]
  have HG := Hid.mk hg
  clear hW hg
  go_loopg [3, 5] n (fun gg vm vj wr => ∃ (m j : Nat) (tail : List UInt8), vm = .int .u64 m ∧ vj = .int .i64 j ∧ m ≤ n ∧ Hid (dig n = dig m ++ tail) ∧ Tail wr g j tail ∧ Hid (gg = m) ∧ Below w.heap.size w wr)
  case atStart => exact ⟨n, 21, [], rfl, rfl, Nat.le_refl _, Hid.mk (by simp), hT, Hid.mk rfl, hbW⟩
  case round =>
    obtain ⟨m, j, tail, rfl, rfl, hmn, HD, HT, HGG, HB⟩ := hrel
    have hjt : j + tail.length = 21 := by obtain ⟨_, _, _, h, _⟩ := HT; exact h
    have htl : tail.length ≤ 18 := by
      have h1 := dig_pos m
      have h2 := congrArg List.length HD.out
      rw [List.length_append] at h2
      omega
    obtain ⟨i, rfl⟩ : ∃ i, j = i + 1 := ⟨j - 1, by omega⟩
    obtain ⟨⟨u, hu⟩, hf⟩ := HT.has
    have hi : (i : Int) ≤ 20 := by omega
    have hi2 : 2 ≤ (i : Int) := by omega
    obtain ⟨c, hc⟩ : ∃ c : UInt8, c = UInt8.ofNat (48 + m % 10) := ⟨_, rfl⟩
    have hcn : (c.toNat : Int) = 48 + (m : Int) % 10 := by
      rw [hc]
      have : (UInt8.ofNat (48 + m % 10)).toNat = 48 + m % 10 := by
        rw [UInt8.toNat_ofNat']; omega
      rw [this]; omega
    have HC := Hid.mk hcn
    have HCE := Hid.mk hc
    have HT2 := HT.put c
    rw [hcn] at HT2
    have hmn' : (m : Int) ≤ (n : Int) := by omega
    have HJT := Hid.mk hjt
    have HTL := Hid.mk htl
    have hnl' : (n : Int) ≤ 9223372036854775808 := by omega
    clear hT hbW hc hcn hjt htl
    by_cases hend : m < 10
    · have e1 : (((m : Int) / 10) == 0) = true := by simp; omega
      have hdn : dig n = c :: tail := by rw [HD.out, dig_small m hend, HCE.out, Nat.mod_eq_of_lt hend]; rfl
      have HDN := Hid.mk hdn
      have HB2 := HB.setCell (p := ⟨g, i, none⟩) (show w.heap.size ≤ g by have := HG.out; omega) (.int .u8 (48 + (m : Int) % 10))
      clear hend hdn HT
      by_cases hneg : v < 0
      · obtain ⟨k, rfl⟩ : ∃ k, i = k + 1 := ⟨i - 1, by omega⟩
        obtain ⟨⟨u2, hu2⟩, hf2⟩ := HT2.has
        have HT3 := HT2.put 45
        have e2 := slice_arr g k (by omega) (((wr.setCell ⟨g, k + 1, none⟩ (.int .u8 (48 + (m : Int) % 10)))).setCell ⟨g, k, none⟩ (.int .u8 45))
        rw [if_neg (by omega)] at e2
        have e3 := conv_tail HT3
        rw [show ((45 : UInt8).toNat : Int) = 45 from rfl] at HT3 e3
        have HR2 := HR.out _ (HB2.setCell (p := ⟨g, k, none⟩) (show w.heap.size ≤ g by have := HG.out; omega) (.int .u8 45))
        have hdg : digits v = 45 :: c :: tail := by unfold digits; rw [if_pos hneg, ← HN.out, HDN.out]
        rw [hdg] at HR2
        clear hdg HR HT2 HT3 HB2 HB
        go_wp2_with (fail)
        exact HR2
      · have e2 := slice_arr g i (by omega) (wr.setCell ⟨g, i, none⟩ (.int .u8 (48 + (m : Int) % 10)))
        rw [if_neg (by omega)] at e2
        have e3 := conv_tail HT2
        have HR2 := HR.out _ HB2
        have hdg : digits v = c :: tail := by unfold digits; rw [if_neg hneg, ← HN.out, HDN.out]
        rw [hdg] at HR2
        clear hdg HR HT2 HB2 HB
        go_wp2_with (fail)
        exact HR2
    · have e1 : (((m : Int) / 10) == 0) = false := by simp; omega
      have hd : dig n = dig (m / 10) ++ (c :: tail) := by rw [HD.out, dig_big m hend, HCE.out]; simp
      have HDN := Hid.mk hd
      have HE := Hid.mk hend
      have HB2 := HB.setCell (p := ⟨g, i, none⟩) (show w.heap.size ≤ g by have := HG.out; omega) (.int .u8 (48 + (m : Int) % 10))
      clear hend hd HT HB
      go_wp2_with (fail)
      go_roundg (m / 10)
      case measure => rw [HGG.out]; have := HE.out; omega
      case rel => exact ⟨m / 10, i, c :: tail, by congr 1, rfl, by omega, HDN, HT2, Hid.mk rfl, HB2⟩
end Go.Proofs.Ytalgnpgpbbjgpaa
