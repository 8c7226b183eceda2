/- Plain laws on digits: what is written is read as it was; two numbers have the same digits just if they are the same. No program here. -/
import Derived.Test.YtalgnpgpbbjgpaaMg
namespace Go.Proofs.Ytalgnpgpbbjgpaa

theorem dig_ind {P : Nat → Prop} (h1 : ∀ n, n < 10 → P n) (h2 : ∀ n, ¬ n < 10 → P (n / 10) → P n) : ∀ n, P n := by
  intro n
  induction n using Nat.strongRecOn with
  | _ n ih =>
    by_cases h : n < 10
    · exact h1 n h
    · exact h2 n h (ih _ (by omega))
theorem ofNat_toNat (k : Nat) (h : k < 10) : (UInt8.ofNat (48 + k)).toNat = 48 + k := by rw [UInt8.toNat_ofNat']; omega
theorem dig_all : ∀ n, (dig n).all isDig = true := by
  refine dig_ind (fun n h => ?_) (fun n h ih => ?_)
  · rw [dig_small n h]
    simp only [List.all_cons, List.all_nil, Bool.and_true, isDig]
    rw [ofNat_toNat n h]
    simp; omega
  · rw [dig_big n h, List.all_append, ih]
    simp only [List.all_cons, List.all_nil, Bool.and_true, Bool.true_and, isDig]
    rw [ofNat_toNat _ (by omega)]
    simp; omega
theorem valD_dig : ∀ n, valD (dig n) = n := by
  refine dig_ind (fun n h => ?_) (fun n h ih => ?_)
  · rw [dig_small n h]
    simp only [valD, List.foldl_cons, List.foldl_nil]
    rw [ofNat_toNat n h]
    omega
  · rw [dig_big n h, valD_snoc, ih, ofNat_toNat _ (by omega)]
    omega
theorem dig_head : ∀ n, n ≠ 0 → (dig n).head? ≠ some 48 := by
  refine dig_ind (fun n h h0 => ?_) (fun n h ih _ => ?_)
  · rw [dig_small n h]
    simp only [List.head?_cons, ne_eq, Option.some.injEq]
    intro e
    have := congrArg UInt8.toNat e
    rw [ofNat_toNat n h] at this
    have : (48 : UInt8).toNat = 48 := rfl
    omega
  · rw [dig_big n h]
    have h1 := ih (by omega)
    have h2 := dig_pos (n / 10)
    cases hd : dig (n / 10) with
    | nil => rw [hd] at h2; simp at h2
    | cons c t => rw [hd] at h1; simpa using h1
theorem dig_head45 (n : Nat) : (dig n).head? ≠ some 45 := by
  intro h
  have h1 := List.all_eq_true.1 (dig_all n) 45 (List.mem_of_mem_head? h)
  exact absurd h1 (by decide)
theorem dig_ge (k : Nat) : ∀ n, 10 ^ k ≤ n → k + 1 ≤ (dig n).length := by
  induction k with
  | zero => intro n _; exact dig_pos n
  | succ k ih =>
    intro n h
    have h10 : ¬ n < 10 := by
      have : 10 ^ 1 ≤ 10 ^ (k + 1) := Nat.pow_le_pow_right (by omega) (by omega)
      omega
    rw [dig_big n h10, List.length_append]
    have := ih (n / 10) (by rw [Nat.pow_succ] at h; omega)
    simp only [List.length_cons, List.length_nil]
    omega
theorem dig_inj (a b : Nat) (h : dig a = dig b) : a = b := by rw [← valD_dig a, h, valD_dig b]

theorem hasPrefix_cons (l : List UInt8) : Lib.hasPrefix (45 :: l) [45] = true := by simp [Lib.hasPrefix]
theorem digits_inj (a b : Int) (h : digits a = digits b) : a = b := by
  unfold digits at h
  by_cases ha : a < 0 <;> by_cases hb : b < 0
  · rw [if_pos ha, if_pos hb] at h
    have := dig_inj _ _ (List.cons.inj h).2
    omega
  · rw [if_pos ha, if_neg hb] at h
    exact absurd (by rw [← h]; rfl) (dig_head45 b.natAbs)
  · rw [if_neg ha, if_pos hb] at h
    exact absurd (by rw [h]; rfl) (dig_head45 a.natAbs)
  · rw [if_neg ha, if_neg hb] at h
    have := dig_inj _ _ h
    omega
theorem split_neg (a : Int) (h : a < 0) : number (digits a) = numD true (dig a.natAbs) := by
  unfold number digits
  rw [if_pos h]
  simp [Lib.hasPrefix, Lib.trimPrefix]
theorem split_pos (a : Int) (h : ¬ a < 0) : number (digits a) = numD false (dig a.natAbs) := by
  unfold number digits
  rw [if_neg h]
  have h1 := dig_head45 a.natAbs
  have h2 : Lib.hasPrefix (dig a.natAbs) [45] = false := by
    cases hd : dig a.natAbs with
    | nil => simp [Lib.hasPrefix]
    | cons c t => rw [hd] at h1; simp only [List.head?_cons, ne_eq, Option.some.injEq] at h1; simp only [Lib.hasPrefix, List.isPrefixOf, Bool.and_true, beq_eq_false_iff_ne, ne_eq]; exact fun e => h1 (Eq.symm e)
  rw [h2]
  simp [Lib.trimPrefix, h2]
theorem number_digits (a : Int) : number (digits a) = if -1000000000000000000 < a ∧ a < 1000000000000000000 then (a, 0) else (0, 1) := by
  have hbadlong : ∀ b, ¬ (-1000000000000000000 < a ∧ a < 1000000000000000000) → numD b (dig a.natAbs) = (0, 1) := by
    intro b hf
    have := dig_ge 18 a.natAbs (by omega)
    unfold numD badD
    rw [if_pos]
    rw [decide_eq_true (show 18 < (dig a.natAbs).length by omega)]
    simp
  have hshort : (-1000000000000000000 < a ∧ a < 1000000000000000000) → (dig a.natAbs).length ≤ 18 := fun hf => dig_le 17 _ (by omega)
  have hne : (dig a.natAbs).isEmpty = false := by
    have := dig_pos a.natAbs
    cases hd : dig a.natAbs with
    | nil => rw [hd] at this; simp at this
    | cons => rfl
  by_cases h : a < 0
  · rw [split_neg a h]
    by_cases hf : -1000000000000000000 < a ∧ a < 1000000000000000000
    · rw [if_pos hf]
      have hl := hshort hf
      unfold numD
      rw [if_neg, dig_all, if_pos rfl, if_pos rfl, valD_dig]
      · congr 1; omega
      · unfold badD
        rw [hne, decide_eq_false (show ¬ 18 < (dig a.natAbs).length by omega), decide_eq_false (dig_head _ (by omega))]
        simp
    · rw [if_neg hf, hbadlong _ hf]
  · rw [split_pos a h]
    by_cases hf : -1000000000000000000 < a ∧ a < 1000000000000000000
    · rw [if_pos hf]
      have hl := hshort hf
      unfold numD
      rw [if_neg, dig_all, if_pos rfl, if_neg (by simp), valD_dig]
      · congr 1; omega
      · unfold badD
        rw [hne, decide_eq_false (show ¬ 18 < (dig a.natAbs).length by omega)]
        by_cases h0 : a.natAbs = 0
        · rw [h0, dig_small 0 (by omega)]; simp
        · rw [decide_eq_false (dig_head _ h0)]; simp
    · rw [if_neg hf, hbadlong _ hf]
end Go.Proofs.Ytalgnpgpbbjgpaa
