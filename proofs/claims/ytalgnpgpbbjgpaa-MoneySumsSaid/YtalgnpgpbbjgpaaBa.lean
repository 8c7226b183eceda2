/- The reference's big numbers: digits of 2^30 in memory, and the walk of Of. -/
import Derived.Test.YtalgnpgpbbjgpaaMh
namespace Go.Proofs.Ytalgnpgpbbjgpaa
open Go.RowKit

/-- 2^30 to the j-th. -/
def pw (j : Nat) : Nat := 1073741824 ^ j
/-- The j-th digit of n, of 2^30. -/
def dg (n j : Nat) : Nat := n / pw j % 1073741824
theorem pw_pos (j : Nat) : 0 < pw j := Nat.pow_pos (by omega)
theorem pw_succ (j : Nat) : pw (j + 1) = pw j * 1073741824 := Nat.pow_succ ..
theorem pw_zero : pw 0 = 1 := rfl
theorem pw_add (i j : Nat) : pw (i + j) = pw i * pw j := Nat.pow_add ..
theorem dg_lt (n j : Nat) : dg n j < 1073741824 := Nat.mod_lt _ (by omega)
theorem dg_div (n j : Nat) : n / pw j = n / pw (j + 1) * 1073741824 + dg n j := by
  unfold dg
  rw [pw_succ, ← Nat.div_div_eq_div_mul]
  omega
theorem dg_mod (n j : Nat) : n % pw (j + 1) = n % pw j + dg n j * pw j := by
  have h := Nat.mod_mul (x := n) (a := pw j) (b := 1073741824)
  rw [← pw_succ] at h
  rw [h, Nat.mul_comm (dg n j)]
  rfl
theorem dg_low (L x m j : Nat) (h : j < m) : dg (L + x * pw m) j = dg L j := by
  unfold dg
  obtain ⟨d, rfl⟩ : ∃ d, m = j + (d + 1) := ⟨m - j - 1, by omega⟩
  rw [pw_add, pw_succ, show x * (pw j * (pw d * 1073741824)) = pw j * (x * pw d * 1073741824) by grind, Nat.add_mul_div_left _ _ (pw_pos j)]
  omega
theorem dg_top (L x m : Nat) (h : L < pw m) (hx : x < 1073741824) : dg (L + x * pw m) m = x := by
  unfold dg
  rw [Nat.mul_comm x, Nat.add_mul_div_left _ _ (pw_pos m), Nat.div_eq_of_lt h, Nat.zero_add]
  exact Nat.mod_eq_of_lt hx
theorem low_lt (L x m : Nat) (h : L < pw m) (hx : x < 1073741824) : L + x * pw m < pw (m + 1) := by
  rw [pw_succ]
  have : (x + 1) * pw m ≤ 1073741824 * pw m := Nat.mul_le_mul_right _ hx
  rw [Nat.add_mul, Nat.one_mul] at this
  rw [Nat.mul_comm (pw m)]
  omega

/-- Six digits at block g. -/
def Six (w : World) (g : Nat) (f : Nat → Nat) : Prop :=
  w.heap[g]? = some (.cells #[.int .i64 (f 0 : Int), .int .i64 (f 1 : Int), .int .i64 (f 2 : Int), .int .i64 (f 3 : Int), .int .i64 (f 4 : Int), .int .i64 (f 5 : Int)] 54 (0, 0))
theorem six_at {w : World} {g : Nat} {f : Nat → Nat} (h : Six w g f) (i : Nat) (hi : i < 6) : w.cell? ⟨g, i, none⟩ = some (.int .i64 (f i : Int)) := by
  rw [blk_cell h i]
  have : i = 0 ∨ i = 1 ∨ i = 2 ∨ i = 3 ∨ i = 4 ∨ i = 5 := by omega
  rcases this with rfl | rfl | rfl | rfl | rfl | rfl <;> rfl
theorem six_set {w : World} {g : Nat} {f : Nat → Nat} (h : Six w g f) (i : Nat) (hi : i < 6) (x : Nat) : Six (w.setCell ⟨g, i, none⟩ (.int .i64 (x : Int))) g (fun j => if j = i then x else f j) := by
  have h2 := blk_set h i (.int .i64 (x : Int))
  have : i = 0 ∨ i = 1 ∨ i = 2 ∨ i = 3 ∨ i = 4 ∨ i = 5 := by omega
  rcases this with rfl | rfl | rfl | rfl | rfl | rfl <;> exact h2
theorem six_congr {w : World} {g : Nat} {f f' : Nat → Nat} (h : Six w g f) (e : ∀ j, j < 6 → f j = f' j) : Six w g f' := by
  unfold Six at *
  rw [← e 0 (by omega), ← e 1 (by omega), ← e 2 (by omega), ← e 3 (by omega), ← e 4 (by omega), ← e 5 (by omega)]
  exact h

/-- The whole of it written. -/
theorem six_all {w : World} {g : Nat} {f : Nat → Nat} (h : Six w g f) (d : Nat → Nat) :
    Six ((((((w.setCell ⟨g, 0, none⟩ (.int .i64 (d 0 : Int))).setCell ⟨g, 1, none⟩ (.int .i64 (d 1 : Int))).setCell ⟨g, 2, none⟩ (.int .i64 (d 2 : Int))).setCell ⟨g, 3, none⟩ (.int .i64 (d 3 : Int))).setCell ⟨g, 4, none⟩ (.int .i64 (d 4 : Int))).setCell ⟨g, 5, none⟩ (.int .i64 (d 5 : Int))) g d := by
  have := six_set (six_set (six_set (six_set (six_set (six_set h 0 (by omega) (d 0)) 1 (by omega) (d 1)) 2 (by omega) (d 2)) 3 (by omega) (d 3)) 4 (by omega) (d 4)) 5 (by omega) (d 5)
  exact this
theorem below_all {w w1 : World} {g : Nat} (h : Below w.heap.size w w1) (hg : w.heap.size ≤ g) (d : Nat → Nat) :
    Below w.heap.size w ((((((w1.setCell ⟨g, 0, none⟩ (.int .i64 (d 0 : Int))).setCell ⟨g, 1, none⟩ (.int .i64 (d 1 : Int))).setCell ⟨g, 2, none⟩ (.int .i64 (d 2 : Int))).setCell ⟨g, 3, none⟩ (.int .i64 (d 3 : Int))).setCell ⟨g, 4, none⟩ (.int .i64 (d 4 : Int))).setCell ⟨g, 5, none⟩ (.int .i64 (d 5 : Int))) :=
  (((((h.setCell (p := ⟨g, 0, none⟩) hg _).setCell (p := ⟨g, 1, none⟩) hg _).setCell (p := ⟨g, 2, none⟩) hg _).setCell (p := ⟨g, 3, none⟩) hg _).setCell (p := ⟨g, 4, none⟩) hg _).setCell (p := ⟨g, 5, none⟩) hg _

/-- A big number's value. -/
def bigV (n : Nat) : Value := .agg #[.int .i64 (dg n 0 : Int), .int .i64 (dg n 1 : Int), .int .i64 (dg n 2 : Int), .int .i64 (dg n 3 : Int), .int .i64 (dg n 4 : Int), .int .i64 (dg n 5 : Int)]

theorem ret_big {fn : Func} {t : Tmp} {tmps : Array Value} {w : World} {g : Nat} {n : Nat} (hr : fn.results = #[.cell t 54]) (ht : tmps.getD t undef = .pointer (some ⟨g, 0, none⟩)) (h : Six w g (dg n)) :
    (results fn tmps).run Try.prog w = .ok (bigV n) w := by
  have c0 := six_at h 0 (by omega)
  have c1 := six_at h 1 (by omega)
  have c2 := six_at h 2 (by omega)
  have c3 := six_at h 3 (by omega)
  have c4 := six_at h 4 (by omega)
  have c5 := six_at h 5 (by omega)
  have ht' : (tmps[t]?).getD undef = .pointer (some ⟨g, 0, none⟩) := by simpa using ht
  unfold bigV
  simp [results, hr, ht', go_sem, c0, c1, c2, c3, c4, c5]

set_option maxHeartbeats 1000000 in
theorem of_calls (n : Nat) (w : World) (R : Ending → World → Prop) (hn : n ≤ 9223372036854775807) (hR : ∀ w', Below w.heap.size w w' → R (.returned (bigV n)) w') :
    Calls Try.prog 38 #[.int .i64 n] w R := by
  obtain ⟨g0, hg0⟩ : ∃ g0, g0 = w.heap.size := ⟨_, rfl⟩
  obtain ⟨g, hg⟩ : ∃ g, g = w.heap.size + 1 := ⟨_, rfl⟩
  obtain ⟨W, hW⟩ : ∃ W, W = (w.alloc (.cells #[.int .i64 0, .int .i64 0, .int .i64 0, .int .i64 0, .int .i64 0, .int .i64 0] 54)).alloc (.cells #[.int .i64 0, .int .i64 0, .int .i64 0, .int .i64 0, .int .i64 0, .int .i64 0] 54) := ⟨_, rfl⟩
  have hs0 : Six W g0 (fun _ => 0) := by subst hW; subst hg0; exact blk_alloc (blk_new _ _) _
  have hs : Six W g (fun _ => 0) := by
    subst hW; subst hg
    have := blk_new (w.alloc (.cells #[.int .i64 0, .int .i64 0, .int .i64 0, .int .i64 0, .int .i64 0, .int .i64 0] 54)) (.cells #[.int .i64 0, .int .i64 0, .int .i64 0, .int .i64 0, .int .i64 0, .int .i64 0] 54)
    rw [World.size_alloc] at this
    exact this
  have hbW : Below w.heap.size w W := by subst hW; exact below_allocs (below_allocs (Below.refl _ _) _) _
  have HG : Hid (w.heap.size ≤ g0 ∧ w.heap.size ≤ g ∧ g0 ≠ g) := Hid.mk (by omega)
  have HR := Hid.mk hR
  clear hR
  go_enter Try.func38, Try.ntmps38
  go_wp2_with (fail)
  rw [← hW, ← hg, ← hg0]
  clear hW hg hg0
  go_loopg [0, 4] 6 (fun gg vv vi wr => ∃ (k v : Nat), k ≤ 6 ∧ vi = .int .i64 k ∧ vv = .int .i64 v ∧ v ≤ 9223372036854775807 ∧ Hid (v = n / pw k) ∧ Six wr g (fun j => if j < k then dg n j else 0) ∧ Six wr g0 (fun _ => 0) ∧ Hid (gg = 6 - k) ∧ Below w.heap.size w wr)
  case atStart => exact ⟨0, n, by omega, rfl, rfl, hn, Hid.mk (by rw [pw_zero, Nat.div_one]), hs, hs0, Hid.mk rfl, hbW⟩
  case round =>
    obtain ⟨k, v, hk, rfl, rfl, hv, HV, HS, HS0, HGG, HB⟩ := hrel
    clear hs hs0 hbW
    by_cases hlt : k < 6
    · have hc := six_at HS k hlt
      have hf := blk_frozen HS k
      have hv' : (v : Int) ≤ 9223372036854775807 := by omega
      go_wp2_with (fail)
      go_roundg (6 - (k + 1))
      case measure => rw [HGG.out]; omega
      case rel =>
        have h1 := six_set HS k hlt (v % 1073741824)
        refine ⟨k + 1, v / 1073741824, by omega, by go_num, by go_num, by omega, Hid.mk (by rw [HV.out, pw_succ, Nat.div_div_eq_div_mul]), ?_, ?_, Hid.mk rfl, HB.setCell (show w.heap.size ≤ g from HG.out.2.1) _⟩
        · refine six_congr h1 (fun j hj => ?_)
          by_cases e : j = k
          · subst e; simp only [if_true]; rw [if_pos (by omega), HV.out]; rfl
          · simp only [if_neg e]
            by_cases h : j < k
            · rw [if_pos h, if_pos (by omega)]
            · rw [if_neg h, if_neg (by omega)]
        · exact blk_far HS0 HG.out.2.2 _
    · obtain rfl : k = 6 := by omega
      have HS' : Six wr g (dg n) := six_congr HS (fun j hj => if_pos hj)
      have c0 := six_at HS' 0 (by omega)
      have c1 := six_at HS' 1 (by omega)
      have c2 := six_at HS' 2 (by omega)
      have c3 := six_at HS' 3 (by omega)
      have c4 := six_at HS' 4 (by omega)
      have c5 := six_at HS' 5 (by omega)
      have z0 := six_at HS0 0 (by omega)
      have z1 := six_at HS0 1 (by omega)
      have z2 := six_at HS0 2 (by omega)
      have z3 := six_at HS0 3 (by omega)
      have z4 := six_at HS0 4 (by omega)
      have z5 := six_at HS0 5 (by omega)
      have fz := fun j => blk_frozen HS0 j
      clear HS HS'
      go_wp2_with (fail)
      refine bodyPost_ret (v := bigV n) (ret_big rfl rfl (six_all HS0 (dg n))) rfl ?_
      exact HR.out _ (below_all HB HG.out.1 _)
end Go.Proofs.Ytalgnpgpbbjgpaa
