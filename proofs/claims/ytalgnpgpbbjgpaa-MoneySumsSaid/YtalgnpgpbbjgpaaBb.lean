/- The walk of the reference's Cmp: it compares big numbers. -/
import Derived.Test.YtalgnpgpbbjgpaaBa
namespace Go.Proofs.Ytalgnpgpbbjgpaa
open Go.RowKit

def cmpN (a b : Nat) : Int := if a < b then -1 else if b < a then 1 else 0

theorem dg_less {a b i : Nat} (h : a / pw (i + 1) = b / pw (i + 1)) (hl : dg a i < dg b i) : a < b := by
  have h1 := dg_div a i
  have h2 := dg_div b i
  rw [h] at h1
  have h3 : a / pw i < b / pw i := by omega
  have h4 := Nat.div_add_mod a (pw i)
  have h5 := Nat.div_add_mod b (pw i)
  have h6 := Nat.mod_lt a (pw_pos i)
  have h7 : pw i * (a / pw i + 1) ≤ pw i * (b / pw i) := Nat.mul_le_mul_left _ h3
  rw [Nat.mul_add, Nat.mul_one] at h7
  omega

/-- Two big numbers that are handed in lie in two new blocks. -/
theorem boxes (a b : Nat) (w : World) : ∃ W g h, W = (w.alloc (.cells #[.int .i64 (dg a 0 : Int), .int .i64 (dg a 1 : Int), .int .i64 (dg a 2 : Int), .int .i64 (dg a 3 : Int), .int .i64 (dg a 4 : Int), .int .i64 (dg a 5 : Int)] 54)).alloc (.cells #[.int .i64 (dg b 0 : Int), .int .i64 (dg b 1 : Int), .int .i64 (dg b 2 : Int), .int .i64 (dg b 3 : Int), .int .i64 (dg b 4 : Int), .int .i64 (dg b 5 : Int)] 54) ∧
    g = w.heap.size ∧ h = w.heap.size + 1 ∧ Six W g (dg a) ∧ Six W h (dg b) ∧ Below w.heap.size w W := by
  refine ⟨_, _, _, rfl, rfl, rfl, blk_alloc (blk_new _ _) _, ?_, below_allocs (below_allocs (Below.refl _ _) _) _⟩
  have := blk_new (w.alloc (.cells #[.int .i64 (dg a 0 : Int), .int .i64 (dg a 1 : Int), .int .i64 (dg a 2 : Int), .int .i64 (dg a 3 : Int), .int .i64 (dg a 4 : Int), .int .i64 (dg a 5 : Int)] 54)) (.cells #[.int .i64 (dg b 0 : Int), .int .i64 (dg b 1 : Int), .int .i64 (dg b 2 : Int), .int .i64 (dg b 3 : Int), .int .i64 (dg b 4 : Int), .int .i64 (dg b 5 : Int)] 54)
  rw [World.size_alloc] at this
  exact this

set_option maxHeartbeats 1000000 in
theorem cmp_calls (a b : Nat) (w : World) (R : Ending → World → Prop) (ha : a < pw 6) (hb : b < pw 6) (hR : ∀ w', Below w.heap.size w w' → R (.returned (.int .i64 (cmpN a b))) w') :
    Calls Try.prog 44 #[bigV a, bigV b] w R := by
  obtain ⟨W, g, h, hW, hg, hh, ha6, hb6, hbW⟩ := boxes a b w
  have HR := Hid.mk hR
  have H6 : Hid (a / pw 6 = b / pw 6) := Hid.mk (by rw [Nat.div_eq_of_lt ha, Nat.div_eq_of_lt hb])
  clear hR ha hb
  unfold bigV
  go_enter Try.func44, Try.ntmps44
  go_wp2_with (fail)
  rw [← hW, ← hh, ← hg]
  clear hW hg hh
  go_loopg [5] 6 (fun gg vi wr => ((∃ i : Nat, i < 6 ∧ vi = .int .i64 i ∧ Hid (a / pw (i + 1) = b / pw (i + 1)) ∧ Hid (gg = i + 1)) ∨ (vi = .int .i64 (-1) ∧ Hid (a = b))) ∧ Six wr g (dg a) ∧ Six wr h (dg b) ∧ Below w.heap.size w wr)
  case atStart => exact ⟨.inl ⟨5, by omega, rfl, H6, Hid.mk rfl⟩, ha6, hb6, hbW⟩
  case round =>
    obtain ⟨hi, ha6, hb6, HB⟩ := hrel
    clear hbW H6
    rcases hi with ⟨i, hi, rfl, HE, HG⟩ | ⟨rfl, HE⟩
    · have ca := six_at ha6 i hi
      have cb := six_at hb6 i hi
      obtain ⟨x, hx⟩ : ∃ x, x = dg a i := ⟨_, rfl⟩
      obtain ⟨y, hy⟩ : ∃ y, y = dg b i := ⟨_, rfl⟩
      rw [← hx] at ca
      rw [← hy] at cb
      have HX := Hid.mk (And.intro hx hy)
      clear hx hy
      have hi5 : (i : Int) ≤ 5 := by omega
      by_cases h1 : x < y
      · have hc : cmpN a b = -1 := by unfold cmpN; rw [if_pos (dg_less HE.out (by rw [← HX.out.1, ← HX.out.2]; exact h1))]
        have h1' : (x : Int) < (y : Int) := by omega
        go_wp2_with (fail)
        go_quiet (fail)
        go_wp2_with (fail)
        rw [hc] at HR
        exact HR.out _ (below_drewN HB _)
      by_cases h2 : y < x
      · have hlt := dg_less HE.out.symm (by rw [← HX.out.1, ← HX.out.2]; exact h2)
        have hc : cmpN a b = 1 := by unfold cmpN; rw [if_neg (by omega), if_pos hlt]
        have h1' : ¬ (x : Int) < (y : Int) := by omega
        have h2' : (y : Int) < (x : Int) := by omega
        have HC := Hid.mk hc
        clear hlt hc
        go_wp2_with (fail)
        go_quiet (fail)
        go_wp2_with (fail)
        go_quiet (fail)
        go_wp2_with (fail)
        rw [HC.out] at HR
        exact HR.out _ (below_drewN (below_drewN HB _) _)
      · obtain rfl : x = y := by omega
        have HE2 : Hid (a / pw i = b / pw i) := Hid.mk (by rw [dg_div a i, dg_div b i, HE.out, ← HX.out.1, ← HX.out.2])
        have h1' : ¬ (x : Int) < (x : Int) := by omega
        go_wp2_with (fail)
        go_quiet (fail)
        go_wp2_with (fail)
        go_quiet (fail)
        go_wp2_with (fail)
        go_roundg i
        case measure => rw [HG.out]; omega
        case rel =>
          refine ⟨?_, ha6, hb6, below_drewN HB _⟩
          cases i with
          | zero => exact .inr ⟨rfl, Hid.mk (by have := HE2.out; rwa [pw_zero, Nat.div_one, Nat.div_one] at this)⟩
          | succ i => exact .inl ⟨i, by omega, by congr 1; omega, HE2, Hid.mk rfl⟩
    · have hc : cmpN a b = 0 := by unfold cmpN; rw [if_neg (by have := HE.out; omega), if_neg (by have := HE.out; omega)]
      rw [hc] at HR
      clear hc HE
      go_wp2_with (fail)
      exact HR.out _ HB
end Go.Proofs.Ytalgnpgpbbjgpaa
