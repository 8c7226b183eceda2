/- Plain arithmetic for math/bits.Div64: the division of two digits by one, digit by digit. No program; plain lemmas on natural numbers. -/
namespace Go.Proofs.Ytalgnpgpbbjgpaa.Div

/-- What holds of a guessed digit q and its rest r: u is what is divided (its upper part), z the upper digit of the divisor. -/
structure Inv (u d y z : Nat) (q r : Nat) : Prop where
  eq : q * z + r = u
  ge : (u * 4294967296 + d) / y ≤ q
  le : q ≤ 4294967297

variable {u d y z o q r : Nat}

theorem inv_init (hz : 2147483648 ≤ z) (hy : y = z * 4294967296 + o) (ho : o < 4294967296) (hu : u < y) (hd : d < 4294967296) : Inv u d y z (u / z) (u % z) := by
  have hz0 : 0 < z := by omega
  refine ⟨by rw [Nat.mul_comm]; exact Nat.div_add_mod u z, ?_, ?_⟩
  · have h1 : u < (u / z + 1) * z := by
      have := Nat.div_add_mod u z
      have h2 := Nat.mod_lt u hz0
      rw [Nat.add_mul, Nat.one_mul, Nat.mul_comm]
      omega
    have h3 : u * 4294967296 + d < (u / z + 1) * y := by
      have h1' : u + 1 ≤ (u / z + 1) * z := h1
      have h4 : (u + 1) * 4294967296 ≤ (u / z + 1) * z * 4294967296 := Nat.mul_le_mul h1' (Nat.le_refl _)
      have h5 : (u / z + 1) * z * 4294967296 ≤ (u / z + 1) * y := by
        rw [Nat.mul_assoc]
        have h6 : z * 4294967296 ≤ y := by rw [hy]; exact Nat.le_add_right _ _
        exact Nat.mul_le_mul_left _ h6
      omega
    have hy0 : 0 < y := by omega
    have := (Nat.div_lt_iff_lt_mul hy0).2 h3
    omega
  · have h1 : u < z * 4294967298 := by omega
    exact Nat.le_of_lt_succ (Nat.div_lt_of_lt_mul h1)

theorem inv_stop (h : Inv u d y z q r) (hy : y = z * 4294967296 + o) (hy0 : 0 < y) (h2 : q * o ≤ 4294967296 * r + d) : q = (u * 4294967296 + d) / y := by
  have h3 : q * y ≤ u * 4294967296 + d := by
    rw [hy, Nat.mul_add, ← Nat.mul_assoc, ← h.eq, Nat.add_mul]
    omega
  have := (Nat.le_div_iff_mul_le hy0).2 h3
  have := h.ge
  omega

theorem quot_lt (hu : u < y) (hd : d < 4294967296) : (u * 4294967296 + d) / y < 4294967296 := by
  have hy0 : 0 < y := by omega
  refine (Nat.div_lt_iff_lt_mul hy0).2 ?_
  have : (u + 1) * 4294967296 ≤ y * 4294967296 := Nat.mul_le_mul_right _ hu
  rw [Nat.mul_comm 4294967296 y]
  omega

theorem inv_step (h : Inv u d y z q r) (hy : y = z * 4294967296 + o) (hu : u < y) (hd : d < 4294967296) (h2 : 4294967296 ≤ q ∨ 4294967296 * r + d < q * o) :
    1 ≤ q ∧ Inv u d y z (q - 1) (r + z) := by
  have hy0 : 0 < y := by omega
  have hlt : (u * 4294967296 + d) / y < q := by
    rcases h2 with h2 | h2
    · have := quot_lt hu hd
      omega
    · refine (Nat.div_lt_iff_lt_mul hy0).2 ?_
      rw [hy, Nat.mul_add, ← Nat.mul_assoc, ← h.eq, Nat.add_mul]
      omega
  have h1 : 1 ≤ q := Nat.lt_of_le_of_lt (Nat.zero_le _) hlt
  refine ⟨h1, ?_, by omega, by have := h.le; omega⟩
  have := h.eq
  have e : q * z = (q - 1) * z + z := by
    obtain ⟨k, rfl⟩ : ∃ k, q = k + 1 := ⟨q - 1, by omega⟩
    rw [Nat.add_sub_cancel, Nat.add_mul, Nat.one_mul]
  omega

theorem inv_break (h : Inv u d y z q r) (hq : q ≤ 4294967296) (hy : y = z * 4294967296 + o) (ho : o < 4294967296) (hy0 : 0 < y) (h2 : 4294967296 ≤ r) : q = (u * 4294967296 + d) / y := by
  refine inv_stop h hy hy0 ?_
  have h3 : q * o ≤ 4294967296 * o := Nat.mul_le_mul_right _ hq
  omega

/-- The rest behind a digit. -/
theorem rest_lt (hy0 : 0 < y) : u * 4294967296 + d - (u * 4294967296 + d) / y * y < y := by
  have h1 := Nat.div_add_mod (u * 4294967296 + d) y
  have h2 := Nat.mod_lt (u * 4294967296 + d) hy0
  rw [Nat.mul_comm] at h1
  omega
theorem rest_mod : u * 4294967296 + d - (u * 4294967296 + d) / y * y = (u * 4294967296 + d) % y := by
  have h1 := Nat.div_add_mod (u * 4294967296 + d) y
  rw [Nat.mul_comm] at h1
  omega

/-- Two digits in a row are the whole quotient. -/
theorem two_digits (hy0 : 0 < y) (a d0 : Nat) :
    a / y * 4294967296 + (a % y * 4294967296 + d0) / y = (a * 4294967296 + d0) / y := by
  have h1 := Nat.div_add_mod a y
  have e : a * 4294967296 + d0 = y * (a / y * 4294967296) + (a % y * 4294967296 + d0) := by
    have h2 := congrArg (fun t => t * 4294967296) h1
    simp only [Nat.add_mul, Nat.mul_assoc] at h2
    omega
  rw [e, Nat.mul_add_div hy0]
end Go.Proofs.Ytalgnpgpbbjgpaa.Div
