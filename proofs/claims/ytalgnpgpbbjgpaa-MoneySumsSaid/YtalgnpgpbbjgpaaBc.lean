/- The walk of the reference's Add on big numbers: the sum, below 2^180. -/
import Derived.Test.YtalgnpgpbbjgpaaBb
namespace Go.Proofs.Ytalgnpgpbbjgpaa
open Go.RowKit

/-- Three blocks: two big numbers that are handed in, and the result's. -/
theorem boxes3 (a b : Nat) (w : World) : ∃ W g h r, W = ((w.alloc (.cells #[.int .i64 (dg a 0 : Int), .int .i64 (dg a 1 : Int), .int .i64 (dg a 2 : Int), .int .i64 (dg a 3 : Int), .int .i64 (dg a 4 : Int), .int .i64 (dg a 5 : Int)] 54)).alloc (.cells #[.int .i64 (dg b 0 : Int), .int .i64 (dg b 1 : Int), .int .i64 (dg b 2 : Int), .int .i64 (dg b 3 : Int), .int .i64 (dg b 4 : Int), .int .i64 (dg b 5 : Int)] 54)).alloc (.cells #[.int .i64 0, .int .i64 0, .int .i64 0, .int .i64 0, .int .i64 0, .int .i64 0] 54) ∧
    g = w.heap.size ∧ h = w.heap.size + 1 ∧ r = w.heap.size + 1 + 1 ∧ Six W g (dg a) ∧ Six W h (dg b) ∧ Six W r (fun _ => 0) ∧ Below w.heap.size w W := by
  obtain ⟨W0, g, h, hW, hg, hh, h1, h2, h3⟩ := boxes a b w
  refine ⟨_, g, h, _, rfl, hg, hh, rfl, ?_, ?_, ?_, ?_⟩
  · rw [← hW]; exact blk_alloc h1 _
  · rw [← hW]; exact blk_alloc h2 _
  · rw [← hW]
    have := blk_new W0 (.cells #[.int .i64 0, .int .i64 0, .int .i64 0, .int .i64 0, .int .i64 0, .int .i64 0] 54)
    have hs : W0.heap.size = w.heap.size + 1 + 1 := by rw [hW, World.size_alloc, World.size_alloc]
    rw [hs] at this
    exact this
  · rw [← hW]; exact below_allocs h3 _

/-- One digit of a sum. -/
theorem add_step {L over a b m s : Nat} (h : L + over * pw m + a / pw m * pw m = a + b % pw m) (hs : s = over + dg a m + dg b m) :
    (L + s % 1073741824 * pw m) + s / 1073741824 * pw (m + 1) + a / pw (m + 1) * pw (m + 1) = a + b % pw (m + 1) := by
  have h1 := dg_div a m
  have h2 := dg_mod b m
  have h3 := Nat.div_add_mod s 1073741824
  rw [h2]
  rw [h1] at h
  generalize a / pw (m + 1) = z at *
  rw [pw_succ]
  generalize dg a m = x at *
  generalize dg b m = y at *
  generalize pw m = p at *
  generalize s / 1073741824 = q at *
  generalize s % 1073741824 = r at *
  generalize b % p = c at *
  clear h1 h2
  subst hs
  grind

/-- What a round of Add hands on (behind a name: the walk need not look at the numerals). -/
def AddNext (L over a b m s x y : Nat) : Prop := x = dg a m ∧ y = dg b m ∧ s = over + x + y ∧ (L + s % 1073741824 * pw m) + s / 1073741824 * pw (m + 1) + a / pw (m + 1) * pw (m + 1) = a + b % pw (m + 1)

set_option maxHeartbeats 1000000 in
theorem badd_calls (a b : Nat) (w : World) (R : Ending → World → Prop) (hab : a + b < pw 6) (hR : ∀ w', Below w.heap.size w w' → R (.returned (bigV (a + b))) w') :
    Calls Try.prog 43 #[bigV a, bigV b] w R := by
  obtain ⟨W, g, h, r, hW, hg, hh, hr, ha6, hb6, hr6, hbW⟩ := boxes3 a b w
  have HR := Hid.mk hR
  have HAB := Hid.mk hab
  have HG : Hid (w.heap.size ≤ g ∧ w.heap.size ≤ h ∧ w.heap.size ≤ r ∧ h ≠ g ∧ r ≠ g ∧ r ≠ h) := Hid.mk (by omega)
  clear hR hab
  unfold bigV
  go_enter Try.func43, Try.ntmps43
  go_wp2_with (fail)
  rw [← hW, ← hr, ← hh, ← hg]
  clear hW hg hh hr
  go_loopg [5, 6] 6 (fun gg vo vi wr => ∃ (m over L : Nat), m ≤ 6 ∧ vi = .int .i64 m ∧ vo = .int .i64 over ∧ over ≤ 1 ∧ Hid (L < pw m) ∧ Hid (L + over * pw m + a / pw m * pw m = a + b % pw m) ∧ Six wr g (fun j => if j < m then dg L j else dg a j) ∧ Six wr h (dg b) ∧ Six wr r (fun _ => 0) ∧ Hid (gg = 6 - m) ∧ Below w.heap.size w wr)
  case atStart => exact ⟨0, 0, 0, by omega, rfl, rfl, by omega, Hid.mk (pw_pos 0), Hid.mk (by rw [pw_zero, Nat.div_one, Nat.mod_one]; omega), ha6, hb6, hr6, Hid.mk rfl, hbW⟩
  case round =>
    obtain ⟨m, over, L, hm, rfl, rfl, ho, HL, HE, ha6, hb6, hr6, HGG, HB⟩ := hrel
    clear hbW
    by_cases hlt : m < 6
    · have ca := six_at ha6 m hlt
      have fa := blk_frozen ha6 m
      have cb := six_at hb6 m hlt
      rw [if_neg (by omega)] at ca
      obtain ⟨x, hx⟩ : ∃ x, x = dg a m := ⟨_, rfl⟩
      obtain ⟨y, hy⟩ : ∃ y, y = dg b m := ⟨_, rfl⟩
      have hxl : (x : Int) ≤ 1073741823 := by have := dg_lt a m; omega
      have hyl : (y : Int) ≤ 1073741823 := by have := dg_lt b m; omega
      rw [← hx] at ca
      rw [← hy] at cb
      obtain ⟨s, hs⟩ : ∃ s, s = over + x + y := ⟨_, rfl⟩
      have hst := add_step (s := s) HE.out (by rw [hs, hx, hy])
      have es : (over : Int) + (x : Int) + (y : Int) = (s : Int) := by omega
      have hsl : (s : Int) ≤ 2147483647 := by omega
      have HX : AddNext L over a b m s x y := ⟨hx, hy, hs, hst⟩
      have ho' : (over : Int) ≤ 1 := by omega
      clear hx hy hs hst
      go_wp2_with (fail)
      go_quiet (fail)
      go_wp2_with (fail)
      go_roundg (6 - (m + 1))
      case measure => rw [HGG.out]; omega
      case rel =>
        have hdr := six_set (show Six (wr.drewN nq) g (fun j => if j < m then dg L j else dg a j) from ha6) m hlt (s % 1073741824)
        have hrr : s % 1073741824 < 1073741824 := Nat.mod_lt _ (by omega)
        refine ⟨m + 1, s / 1073741824, L + s % 1073741824 * pw m, by omega, by go_num, by go_num, by omega, Hid.mk (low_lt _ _ _ HL.out hrr), Hid.mk HX.2.2.2, ?_, blk_far (w := wr.drewN nq) (p := ⟨g, m, none⟩) hb6 HG.out.2.2.2.1 _, blk_far (w := wr.drewN nq) (p := ⟨g, m, none⟩) hr6 HG.out.2.2.2.2.1 _, Hid.mk rfl, (below_drewN HB _).setCell (show w.heap.size ≤ g from HG.out.1) _⟩
        refine six_congr hdr (fun j hj => ?_)
        by_cases e : j = m
        · subst e; simp only [if_true]; rw [if_pos (by omega), dg_top _ _ _ HL.out hrr]
        · simp only [if_neg e]
          by_cases h : j < m
          · rw [if_pos h, if_pos (by omega), dg_low _ _ _ _ h]
          · rw [if_neg h, if_neg (by omega)]
    · obtain rfl : m = 6 := by omega
      have hsum : L = a + b := by
        have h1 := HE.out
        have h2 := HAB.out
        have h3 : a < pw 6 := by omega
        have h4 : b < pw 6 := by omega
        rw [Nat.div_eq_of_lt h3, Nat.mod_eq_of_lt h4, Nat.zero_mul, Nat.add_zero] at h1
        have h5 : over = 0 := by
          rcases Nat.eq_zero_or_pos over with h | h
          · exact h
          · have : 1 * pw 6 ≤ over * pw 6 := Nat.mul_le_mul_right _ h
            omega
        rw [h5] at h1
        omega
      subst hsum
      have HS' : Six wr g (dg (a + b)) := six_congr ha6 (fun j hj => if_pos hj)
      have c0 := six_at HS' 0 (by omega)
      have c1 := six_at HS' 1 (by omega)
      have c2 := six_at HS' 2 (by omega)
      have c3 := six_at HS' 3 (by omega)
      have c4 := six_at HS' 4 (by omega)
      have c5 := six_at HS' 5 (by omega)
      have z0 := six_at hr6 0 (by omega)
      have z1 := six_at hr6 1 (by omega)
      have z2 := six_at hr6 2 (by omega)
      have z3 := six_at hr6 3 (by omega)
      have z4 := six_at hr6 4 (by omega)
      have z5 := six_at hr6 5 (by omega)
      have fz := fun j => blk_frozen hr6 j
      clear ha6 HS' HL HE
      go_wp2_with (fail)
      refine bodyPost_ret (v := bigV (a + b)) (ret_big rfl rfl (six_all hr6 (dg (a + b)))) rfl ?_
      exact HR.out _ (below_all HB HG.out.2.2.1 _)
end Go.Proofs.Ytalgnpgpbbjgpaa
