/- The walk of the reference's Mul on big numbers: the product, below 2^180. -/
import Derived.Test.YtalgnpgpbbjgpaaBc
namespace Go.Proofs.Ytalgnpgpbbjgpaa
open Go.RowKit

/-- Four blocks: two big numbers that are handed in, the result's, and one more. -/
theorem boxes4 (a b : Nat) (w : World) : ∃ W g h r o, W = (((w.alloc (.cells #[.int .i64 (dg a 0 : Int), .int .i64 (dg a 1 : Int), .int .i64 (dg a 2 : Int), .int .i64 (dg a 3 : Int), .int .i64 (dg a 4 : Int), .int .i64 (dg a 5 : Int)] 54)).alloc (.cells #[.int .i64 (dg b 0 : Int), .int .i64 (dg b 1 : Int), .int .i64 (dg b 2 : Int), .int .i64 (dg b 3 : Int), .int .i64 (dg b 4 : Int), .int .i64 (dg b 5 : Int)] 54)).alloc (.cells #[.int .i64 0, .int .i64 0, .int .i64 0, .int .i64 0, .int .i64 0, .int .i64 0] 54)).alloc (.cells #[.int .i64 0, .int .i64 0, .int .i64 0, .int .i64 0, .int .i64 0, .int .i64 0] 54) ∧
    g = w.heap.size ∧ h = w.heap.size + 1 ∧ r = w.heap.size + 1 + 1 ∧ o = w.heap.size + 1 + 1 + 1 ∧ Six W g (dg a) ∧ Six W h (dg b) ∧ Six W r (fun _ => 0) ∧ Six W o (fun _ => 0) ∧ Below w.heap.size w W := by
  obtain ⟨W0, g, h, r, hW, hg, hh, hr, h1, h2, h3, h4⟩ := boxes3 a b w
  refine ⟨_, g, h, r, _, rfl, hg, hh, hr, rfl, ?_, ?_, ?_, ?_, ?_⟩
  · rw [← hW]; exact blk_alloc h1 _
  · rw [← hW]; exact blk_alloc h2 _
  · rw [← hW]; exact blk_alloc h3 _
  · rw [← hW]
    have := blk_new W0 (.cells #[.int .i64 0, .int .i64 0, .int .i64 0, .int .i64 0, .int .i64 0, .int .i64 0] 54)
    have hs : W0.heap.size = w.heap.size + 1 + 1 + 1 := by rw [hW, World.size_alloc, World.size_alloc, World.size_alloc]
    rw [hs] at this
    exact this
  · rw [← hW]; exact below_allocs h4 _

/-- What holds inside a row of the product. -/
structure MulInv (T a b i k over L : Nat) : Prop where
  lt : L < pw (i + k)
  ov : over < 1073741824
  eq : L + over * pw (i + k) + T / pw (i + k) * pw (i + k) = T + dg a i * pw i * (b % pw k)

theorem mul_step {T a b i k over L s : Nat} (h : MulInv T a b i k over L) (hs : s = over + dg T (i + k) + dg a i * dg b k) :
    MulInv T a b i (k + 1) (s / 1073741824) (L + s % 1073741824 * pw (i + k)) := by
  have hr : s % 1073741824 < 1073741824 := Nat.mod_lt _ (by omega)
  refine ⟨low_lt _ _ _ h.lt hr, ?_, ?_⟩
  · have h1 := dg_lt T (i + k)
    have h2 := dg_lt a i
    have h3 := dg_lt b k
    have h4 := h.ov
    have h5 : dg a i * dg b k ≤ 1073741823 * 1073741823 := Nat.mul_le_mul (by omega) (by omega)
    omega
  · have h1 := dg_div T (i + k)
    have h2 := dg_mod b k
    have h3 := Nat.div_add_mod s 1073741824
    have h4 := pw_add i k
    have he := h.eq
    rw [h2, show i + (k + 1) = i + k + 1 from rfl]
    rw [h1] at he
    generalize T / pw (i + k + 1) = z at *
    rw [pw_succ]
    rw [h4] at he ⊢
    generalize dg T (i + k) = x at *
    generalize dg a i = y at *
    generalize dg b k = v at *
    generalize pw i = p at *
    generalize b % pw k = c at *
    generalize pw k = q at *
    generalize s / 1073741824 = t at *
    generalize s % 1073741824 = r at *
    clear h1 h2 h h4 hr
    subst hs
    grind

theorem mul_row {T a b i k over L : Nat} (h : MulInv T a b i k over L) (hik : i + k = 6) (hT : T = (a % pw i * b) % pw 6) : L = (a % pw (i + 1) * b) % pw 6 := by
  have he := h.eq
  have hl := h.lt
  have h4 := pw_add i k
  rw [hik] at he hl h4
  have hTl : T < pw 6 := by rw [hT]; exact Nat.mod_lt _ (pw_pos 6)
  rw [Nat.div_eq_of_lt hTl, Nat.zero_mul, Nat.add_zero] at he
  have h5 := Nat.div_add_mod b (pw k)
  have h6 := Nat.div_add_mod (a % pw i * b) (pw 6)
  rw [← hT] at h6
  have h7 : a % pw (i + 1) * b = L + pw 6 * (over + a % pw i * b / pw 6 + dg a i * (b / pw k)) := by
    rw [dg_mod a i]
    generalize a % pw i * b / pw 6 = u at *
    generalize hz : b / pw k = z at *
    generalize hc : b % pw k = c at *
    generalize dg a i = y at *
    generalize a % pw i = v at *
    rw [h4] at he h6 ⊢
    generalize pw i = p at *
    generalize pw k = q at *
    clear hT hTl hl h hz hc h4 hik
    grind
  rw [h7, Nat.add_mul_mod_self_left]
  exact (Nat.mod_eq_of_lt hl).symm

/-- A name that keeps the numerals out of sight. -/
def MulNext (T a b i k over s x y p : Nat) : Prop := x = dg T (i + k) ∧ y = dg a i ∧ p = dg a i * dg b k ∧ s = over + x + p
def MulRow (T a b i : Nat) : Prop := T = (a % pw i * b) % pw 6

set_option maxHeartbeats 2000000 in
theorem bmul_calls (a b : Nat) (w : World) (R : Ending → World → Prop) (ha : a < pw 6) (hab : a * b < pw 6) (hR : ∀ w', Below w.heap.size w w' → R (.returned (bigV (a * b))) w') :
    Calls Try.prog 37 #[bigV a, bigV b] w R := by
  obtain ⟨W, g, h, r, o, hW, hg, hh, hr, ho, ha6, hb6, hr6, ho6, hbW⟩ := boxes4 a b w
  have HR := Hid.mk hR
  have HAB := Hid.mk (And.intro ha hab)
  have HG : Hid (w.heap.size ≤ r ∧ w.heap.size ≤ o ∧ g ≠ o ∧ h ≠ o ∧ r ≠ o) := Hid.mk (by omega)
  have ho0 : Six W o (dg 0) := six_congr ho6 (fun j hj => by unfold dg; rw [Nat.zero_div])
  clear hR hab ha ho6
  unfold bigV
  go_enter Try.func37, Try.ntmps37
  go_wp2_with (fail)
  rw [← hW, ← ho, ← hr, ← hh, ← hg]
  clear hW hg hh hr ho
  go_loopg [6, 7, 8] 6 (fun gg vi v7 v8 wr => ∃ (i T : Nat), i ≤ 6 ∧ vi = .int .i64 i ∧ MulRow T a b i ∧ Six wr g (dg a) ∧ Six wr h (dg b) ∧ Six wr r (fun _ => 0) ∧ Six wr o (dg T) ∧ Hid (gg = 6 - i) ∧ Below w.heap.size w wr)
  case atStart => exact ⟨0, 0, by omega, rfl, by unfold MulRow; rw [pw_zero, Nat.mod_one, Nat.zero_mul, Nat.zero_mod], ha6, hb6, hr6, ho0, Hid.mk rfl, hbW⟩
  case round =>
    obtain ⟨i, T, hi, rfl, HT, ha6, hb6, hr6, ho6, HGG, HB⟩ := hrel
    clear hbW ho0
    obtain ⟨wo, rfl⟩ : ∃ wo : World, wo = wr := ⟨_, rfl⟩
    obtain ⟨go, rfl⟩ : ∃ go : Nat, go = gk := ⟨_, rfl⟩
    by_cases hlt : i < 6
    · go_wp2_with (fail)
      go_loopg [7, 8] 6 (fun gj vo vk wr2 => ∃ (k over L : Nat), i + k ≤ 6 ∧ vk = .int .i64 k ∧ vo = .int .i64 over ∧ (over : Int) ≤ 1073741823 ∧ Hid (MulInv T a b i k over L) ∧ Six wr2 g (dg a) ∧ Six wr2 h (dg b) ∧ Six wr2 r (fun _ => 0) ∧ Six wr2 o (fun j => if j < i + k then dg L j else dg T j) ∧ Hid (gj = 6 - k) ∧ Below w.heap.size w wr2)
      case atStart =>
        refine ⟨0, 0, T % pw i, by omega, rfl, rfl, by omega, Hid.mk ⟨Nat.mod_lt _ (pw_pos i), by omega, ?_⟩, ha6, hb6, hr6, six_congr ho6 (fun j hj => ?_), Hid.mk rfl, HB⟩
        · rw [pw_zero, Nat.mod_one, Nat.mul_zero, Nat.zero_mul, Nat.add_zero, Nat.add_zero, Nat.add_zero]
          have := Nat.div_add_mod T (pw i)
          rw [Nat.mul_comm] at this
          omega
        · by_cases hj2 : j < i + 0
          · rw [if_pos hj2]
            have := dg_low (T % pw i) (T / pw i) i j (by omega)
            rw [← this]
            congr 1
            have := Nat.div_add_mod T (pw i)
            rw [Nat.mul_comm] at this
            omega
          · rw [if_neg hj2]
      case round =>
        obtain ⟨k, over, L, hk, rfl, rfl, hov, HM, ha6, hb6, hr6, ho6, HGJ, HB⟩ := hrel
        by_cases hkt : i + k < 6
        · obtain ⟨m, hm⟩ : ∃ m, m = i + k := ⟨_, rfl⟩
          have cT := six_at ho6 (i + k) hkt
          have fT := blk_frozen ho6 (i + k)
          have ca := six_at ha6 i hlt
          have cb := six_at hb6 k (by omega)
          rw [if_neg (by omega), ← hm] at cT
          rw [← hm] at fT
          obtain ⟨x, hx⟩ : ∃ x, x = dg T (i + k) := ⟨_, rfl⟩
          obtain ⟨y, hy⟩ : ∃ y, y = dg a i := ⟨_, rfl⟩
          obtain ⟨v, hv⟩ : ∃ v, v = dg b k := ⟨_, rfl⟩
          obtain ⟨p, hp⟩ : ∃ p, p = y * v := ⟨_, rfl⟩
          have hxl : (x : Int) ≤ 1073741823 := by have := dg_lt T (i + k); omega
          have hyl : y ≤ 1073741823 := by have := dg_lt a i; omega
          have hvl : v ≤ 1073741823 := by have := dg_lt b k; omega
          have hpl : (p : Int) ≤ 1152921502459363329 := by
            have : y * v ≤ 1073741823 * 1073741823 := Nat.mul_le_mul hyl hvl
            omega
          rw [hm] at cT
          rw [← hx, ← hm] at cT
          rw [← hy] at ca
          rw [← hv] at cb
          obtain ⟨s, hs⟩ : ∃ s, s = over + x + p := ⟨_, rfl⟩
          have hnext := Hid.mk (mul_step (s := s) HM.out (by rw [hs, hp, hx, hy, hv]))
          have e1 : IntKind.i64.wrap ((y : Int) * (v : Int)) = (p : Int) := by rw [hp, ← Int.natCast_mul, IntKind.wrap_i64]; omega
          have e2 : (i : Int) + (k : Int) = (m : Int) := by omega
          have e3 : (over : Int) + (x : Int) + (p : Int) = (s : Int) := by omega
          have hsl : (s : Int) ≤ 1152921504606846975 := by omega
          have e4 : IntKind.i64.wrap ((i : Int) + (k : Int)) = (m : Int) := by rw [e2, IntKind.wrap_i64]; omega
          have e5 : IntKind.i64.wrap ((over : Int) + (x : Int)) = (over : Int) + (x : Int) := by rw [IntKind.wrap_i64]; omega
          have e6 : IntKind.i64.wrap ((over : Int) + (x : Int) + (p : Int)) = (s : Int) := by rw [e3, IntKind.wrap_i64]; omega
          have hm5 : (m : Int) ≤ 5 := by omega
          have hi5 : (i : Int) ≤ 5 := by omega
          have hk5 : (k : Int) ≤ 5 := by omega
          have HM1 := Hid.mk hm
          have ho6' := ho6
          rw [← hm] at ho6'
          have HLM : Hid (L < pw m) := Hid.mk (by rw [hm]; exact HM.out.lt)
          clear hx hy hv hp hs hyl hvl hm HM ho6
          go_wp2_with (fail)
          go_quiet (fail)
          go_wp2_with (fail)
          go_roundg (6 - (k + 1))
          case measure => rw [HGJ.out]; omega
          case rel =>
            have hme := HM1.out
            have hdr := six_set (show Six (wr.drewN nq) o (fun j => if j < m then dg L j else dg T j) from ho6') m (by omega) (s % 1073741824)
            have hrr : s % 1073741824 < 1073741824 := Nat.mod_lt _ (by omega)
            have hlow := hnext.out
            have hL : L < pw m := HLM.out
            refine ⟨k + 1, s / 1073741824, L + s % 1073741824 * pw (i + k), by omega, by go_num, by go_num, by have := hnext.out.ov; omega, hnext, blk_far (w := wr.drewN nq) (p := ⟨o, m, none⟩) ha6 HG.out.2.2.1 _, blk_far (w := wr.drewN nq) (p := ⟨o, m, none⟩) hb6 HG.out.2.2.2.1 _, blk_far (w := wr.drewN nq) (p := ⟨o, m, none⟩) hr6 HG.out.2.2.2.2 _, ?_, Hid.mk rfl, (below_drewN HB _).setCell (show w.heap.size ≤ o from HG.out.2.1) _⟩
            refine six_congr hdr (fun j hj => ?_)
            rw [← hme]
            by_cases e : j = m
            · subst e; simp only [if_true]; rw [if_pos (by omega), dg_top _ _ _ hL hrr]
            · simp only [if_neg e]
              by_cases h : j < m
              · rw [if_pos h, if_pos (by omega), dg_low _ _ _ _ h]
              · rw [if_neg h, if_neg (by omega)]
        · have hik : i + k = 6 := by omega
          have hrow : MulRow L a b (i + 1) := mul_row HM.out hik HT
          have hkt' : ¬ ((i : Int) + (k : Int) < 6) := by omega
          have HS' : Six wr o (dg L) := six_congr ho6 (fun j hj => if_pos (by omega))
          have HIK := Hid.mk hik
          clear ho6 HM hik hkt HT
          go_wp2_with (fail)
          go_roundg (6 - (i + 1))
          case measure => rw [HGG.out]; omega
          case rel => exact ⟨i + 1, L, by omega, by go_num, hrow, ha6, hb6, hr6, HS', Hid.mk rfl, HB⟩
    · obtain rfl : i = 6 := by omega
      have hT : T = a * b := by
        unfold MulRow at HT
        rw [HT, Nat.mod_eq_of_lt HAB.out.1, Nat.mod_eq_of_lt HAB.out.2]
      subst hT
      have c0 := six_at ho6 0 (by omega)
      have c1 := six_at ho6 1 (by omega)
      have c2 := six_at ho6 2 (by omega)
      have c3 := six_at ho6 3 (by omega)
      have c4 := six_at ho6 4 (by omega)
      have c5 := six_at ho6 5 (by omega)
      have z0 := six_at hr6 0 (by omega)
      have z1 := six_at hr6 1 (by omega)
      have z2 := six_at hr6 2 (by omega)
      have z3 := six_at hr6 3 (by omega)
      have z4 := six_at hr6 4 (by omega)
      have z5 := six_at hr6 5 (by omega)
      have fz := fun j => blk_frozen hr6 j
      clear ha6 hb6 ho6 HT
      go_wp2_with (fail)
      refine bodyPost_ret (v := bigV (a * b)) (ret_big rfl rfl (six_all hr6 (dg (a * b)))) rfl ?_
      exact HR.out _ (below_all HB HG.out.1 _)
end Go.Proofs.Ytalgnpgpbbjgpaa
