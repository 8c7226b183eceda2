/- What math/bits.Div64 reckons before its two digits: the shift that makes the divisor great. Plain lemmas on numbers, in the walk's own spelling. -/
import Derived.Test.YtalgnpgpbbjgpaaDiv
import Derived.Lib.ItoaNum
import Derived.Laws.BitsAllLaws
import Derived.Laws.Bits64
namespace Go.Proofs.Ytalgnpgpbbjgpaa.Div
open Go

theorem wrap64_nat (n : Nat) (h : n < 18446744073709551616) : IntKind.u64.wrap (n : Int) = (n : Int) := by rw [IntKind.wrap_u64]; omega

/-- All that is known ahead of the digits. -/
structure Pre (hi lo y s Y z o u l d1 d0 : Nat) : Prop where
  s64 : s < 64
  Ylt : Y < 18446744073709551616
  zge : 2147483648 ≤ z
  zlt : z < 4294967296
  Yeq : Y = z * 4294967296 + o
  olt : o < 4294967296
  ult : u < Y
  d1lt : d1 < 4294967296
  d0lt : d0 < 4294967296
  leq : l = d1 * 4294967296 + d0
  whole : ((u * 4294967296 + d1) * 4294967296 + d0) / Y = (hi * 18446744073709551616 + lo) / y
  e1 : IntKind.u64.wrap ((y : Int) * 2 ^ s) = (Y : Int)
  e2 : (Y : Int) / 4294967296 = (z : Int)
  e3 : bits .and .u64 (Y : Int) 4294967295 = (o : Int)
  e6 : bits .or .u64 (IntKind.u64.wrap ((hi : Int) * 2 ^ s)) ((lo : Int) / 2 ^ (64 - s)) = (u : Int)
  e7 : IntKind.u64.wrap ((lo : Int) * 2 ^ s) = (l : Int)
  e8 : (l : Int) / 4294967296 = (d1 : Int)
  e9 : bits .and .u64 (l : Int) 4294967295 = (d0 : Int)

theorem mask32 (x : Nat) (h : x < 18446744073709551616) : bits .and .u64 (x : Int) 4294967295 = ((x % 4294967296 : Nat) : Int) := by
  have := u64_and_nat x 4294967295 h (by omega)
  rw [show ((4294967295 : Nat) : Int) = 4294967295 from rfl] at this
  rw [this, show x &&& 4294967295 = x % 4294967296 from Nat.and_two_pow_sub_one_eq_mod x 32]

theorem joined (U L : Nat) : (U * 4294967296 + L / 4294967296) * 4294967296 + L % 4294967296 = U * 18446744073709551616 + L := by
  have h := Nat.div_add_mod L 4294967296
  rw [Nat.add_mul, Nat.mul_assoc, show (4294967296 : Nat) * 4294967296 = 18446744073709551616 from rfl, Nat.add_assoc, Nat.mul_comm (L / 4294967296), h]

theorem pre_exists (hi lo y : Nat) (h0 : 0 < hi) (h1 : hi < y) (h2 : y < 18446744073709551616) (h3 : lo < 18446744073709551616) :
    ∃ (s Y z o u l d1 d0 : Nat), (64 - (Lib.bitLen y : Int)) = (s : Int) ∧ Pre hi lo y s Y z o u l d1 d0 := by
  obtain ⟨hb1, hb2, hb3⟩ := Lib.bitLenAux_bounds 64 y (by simpa using h2) (by omega)
  have hbl : Lib.bitLenAux 64 y = Lib.bitLen y := rfl
  rw [hbl] at hb1 hb2 hb3
  have hb64 : Lib.bitLen y ≤ 64 := Lib.bitLen_le y 64 (by omega) (by simpa using h2)
  obtain ⟨n, hn⟩ : ∃ n, n = Lib.bitLen y := ⟨_, rfl⟩
  rw [← hn] at hb1 hb2 hb3 hb64 ⊢
  clear hn hbl
  obtain ⟨s, hs⟩ : ∃ s, s = 64 - n := ⟨_, rfl⟩
  have hns : n = 64 - s := by omega
  have hs64 : s < 64 := by omega
  have hpow : 2 ^ s * 2 ^ (64 - s) = 18446744073709551616 := by rw [← Nat.pow_add, show s + (64 - s) = 64 by omega]
  have hpow1 : 2 ^ s * 2 ^ (64 - s - 1) = 9223372036854775808 := by rw [← Nat.pow_add, show s + (64 - s - 1) = 63 by omega]
  rw [hns] at hb2 hb3
  obtain ⟨p, hp⟩ : ∃ p, p = 2 ^ s := ⟨_, rfl⟩
  obtain ⟨t, ht⟩ : ∃ t, t = 2 ^ (64 - s) := ⟨_, rfl⟩
  have hp0 : 0 < p := by rw [hp]; exact Nat.two_pow_pos s
  have ht0 : 0 < t := by rw [ht]; exact Nat.two_pow_pos _
  rw [← hp, ← ht] at hpow
  rw [← hp] at hpow1
  rw [← ht] at hb3
  have hYlt : y * p < 18446744073709551616 := by
    rw [← hpow, Nat.mul_comm]
    exact Nat.mul_lt_mul_of_pos_left hb3 hp0
  have hYge : 9223372036854775808 ≤ y * p := by
    rw [← hpow1, Nat.mul_comm y p]
    exact Nat.mul_le_mul_left _ hb2
  have hlot : lo / t < p := by
    refine Nat.div_lt_of_lt_mul ?_
    rw [Nat.mul_comm, hpow]
    exact h3
  have hhi : hi * p + p ≤ y * p := by
    have := Nat.mul_le_mul_right p (show hi + 1 ≤ y from h1)
    rw [Nat.add_mul, Nat.one_mul] at this
    exact this
  have hu : hi * p + lo / t < y * p := by omega
  have hlomod : lo = t * (lo / t) + lo % t := (Nat.div_add_mod lo t).symm
  -- the lower half, shifted
  have hl : lo * p % 18446744073709551616 = lo % t * p := by
    have hlt : lo % t * p < 18446744073709551616 := by
      rw [← hpow, Nat.mul_comm]
      exact Nat.mul_lt_mul_of_pos_left (Nat.mod_lt _ ht0) hp0
    have e : lo * p = 18446744073709551616 * (lo / t) + lo % t * p := by
      rw [← hpow]
      have := congrArg (fun x => x * p) hlomod
      simp only [Nat.add_mul] at this
      rw [this, Nat.mul_comm p t, Nat.mul_right_comm]
    rw [e, Nat.mul_add_mod, Nat.mod_eq_of_lt hlt]
  have hwhole : (hi * p + lo / t) * 18446744073709551616 + lo % t * p = (hi * 18446744073709551616 + lo) * p := by
    have e : lo * p = 18446744073709551616 * (lo / t) + lo % t * p := by
      rw [← hpow]
      have := congrArg (fun x => x * p) hlomod
      simp only [Nat.add_mul] at this
      rw [this, Nat.mul_comm p t, Nat.mul_right_comm]
    rw [Nat.add_mul (hi * 18446744073709551616), e, Nat.add_mul, Nat.mul_right_comm hi p]
    omega
  have hcast : ∀ a : Nat, ((a : Int) * 2 ^ s) = ((a * p : Nat) : Int) := fun a => by rw [hp]; push_cast; rfl
  have hdiv : ((lo : Int) / 2 ^ (64 - s)) = ((lo / t : Nat) : Int) := by
    rw [Int.natCast_ediv, ht, Int.natCast_pow]
    rfl
  refine ⟨s, y * p, y * p / 4294967296, y * p % 4294967296, hi * p + lo / t, lo % t * p, lo % t * p / 4294967296, lo % t * p % 4294967296, by omega, ?_⟩
  have hllt : lo % t * p < 18446744073709551616 := by rw [← hl]; exact Nat.mod_lt _ (by omega)
  obtain ⟨Y, hY⟩ : ∃ Y, Y = y * p := ⟨_, rfl⟩
  obtain ⟨L, hL⟩ : ∃ L, L = lo % t * p := ⟨_, rfl⟩
  obtain ⟨U, hU⟩ : ∃ U, U = hi * p + lo / t := ⟨_, rfl⟩
  rw [← hL] at hl hllt hwhole ⊢
  rw [← hU] at hu hwhole ⊢
  rw [← hY] at hYlt hYge hu hhi ⊢
  constructor
  · exact hs64
  · exact hYlt
  · omega
  · omega
  · omega
  · omega
  · exact hu
  · omega
  · omega
  · omega
  · rw [joined, hwhole, hY]
    exact Nat.mul_div_mul_right _ _ hp0
  · rw [hcast, ← hY]; exact wrap64_nat _ hYlt
  · omega
  · exact mask32 _ hYlt
  · have q1 : hi * p < 18446744073709551616 := Nat.lt_of_le_of_lt (Nat.le_trans (Nat.le_add_right _ _) hhi) hYlt
    have q2 : lo / t < 18446744073709551616 := Nat.lt_of_le_of_lt (Nat.div_le_self _ _) h3
    rw [hcast, wrap64_nat _ q1, hdiv, u64_or_nat _ _ q1 q2]
    have hor := Nat.shiftLeft_add_eq_or_of_lt (i := s) (b := lo / t) (by rw [← hp]; exact hlot) hi
    rw [Nat.shiftLeft_eq, ← hp] at hor
    rw [← hor, hU]
  · rw [hcast, IntKind.wrap_u64]; omega
  · omega
  · exact mask32 _ hllt

/-- The rest behind a digit, as the machine reckons it (each step wraps). -/
theorem rest_wrap (u d Y : Nat) (hY : Y < 18446744073709551616) (h0 : 0 < Y) :
    IntKind.u64.wrap (IntKind.u64.wrap (IntKind.u64.wrap ((u : Int) * 4294967296) + (d : Int)) - IntKind.u64.wrap ((((u * 4294967296 + d) / Y : Nat) : Int) * (Y : Int))) = (((u * 4294967296 + d) % Y : Nat) : Int) := by
  have h1 := Nat.div_add_mod (u * 4294967296 + d) Y
  have h2 := Nat.mod_lt (u * 4294967296 + d) h0
  rw [Nat.mul_comm] at h1
  obtain ⟨m, hm⟩ : ∃ m, m = (u * 4294967296 + d) / Y * Y := ⟨_, rfl⟩
  obtain ⟨r, hr⟩ : ∃ r, r = (u * 4294967296 + d) % Y := ⟨_, rfl⟩
  rw [← Int.natCast_mul, ← hm, ← hr]
  rw [← hm, ← hr] at h1
  rw [← hr] at h2
  simp only [IntKind.wrap_u64]
  omega
end Go.Proofs.Ytalgnpgpbbjgpaa.Div
