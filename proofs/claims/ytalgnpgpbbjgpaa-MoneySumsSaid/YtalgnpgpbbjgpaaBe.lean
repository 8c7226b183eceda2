/- The walk of the reference's most: the greatest number up to a bound whose product with c is not above a. -/
import Derived.Test.YtalgnpgpbbjgpaaBd
import Derived.Deep.RegionHeld3
namespace Go.Proofs.Ytalgnpgpbbjgpaa
open Go.RowKit

/-- The greatest number up to a bound whose product with c is not above a. -/
def Most (a c n v : Nat) : Prop := v ≤ n ∧ v * c ≤ a ∧ ∀ u, u ≤ n → u * c ≤ a → u ≤ v

theorem six_below {w w' : World} {g : Nat} {f : Nat → Nat} (h : Six w g f) (hb : Below w.heap.size w w') : Six w' g f := by
  unfold Six at *
  rw [hb.block g (blk_lt h)]; exact h

theorem after_draw {w w' : World} (h : Below w.drew.heap.size w.drew w') : Below w.heap.size w w' := ⟨h.os, h.tape, h.output, h.size, h.block⟩

def Twelve (g h : Nat) (x y : Nat → Nat) (w : World) : Prop :=
  w.cell? ⟨g, 0, none⟩ = some (.int .i64 (x 0)) ∧ w.cell? ⟨g, 1, none⟩ = some (.int .i64 (x 1)) ∧ w.cell? ⟨g, 2, none⟩ = some (.int .i64 (x 2)) ∧ w.cell? ⟨g, 3, none⟩ = some (.int .i64 (x 3)) ∧ w.cell? ⟨g, 4, none⟩ = some (.int .i64 (x 4)) ∧ w.cell? ⟨g, 5, none⟩ = some (.int .i64 (x 5)) ∧
  w.cell? ⟨h, 0, none⟩ = some (.int .i64 (y 0)) ∧ w.cell? ⟨h, 1, none⟩ = some (.int .i64 (y 1)) ∧ w.cell? ⟨h, 2, none⟩ = some (.int .i64 (y 2)) ∧ w.cell? ⟨h, 3, none⟩ = some (.int .i64 (y 3)) ∧ w.cell? ⟨h, 4, none⟩ = some (.int .i64 (y 4)) ∧ w.cell? ⟨h, 5, none⟩ = some (.int .i64 (y 5))

theorem twelve {w : World} {g h : Nat} {x y : Nat → Nat} (hx : Six w g x) (hy : Six w h y) : Twelve g h x y w :=
  ⟨six_at hx 0 (by omega), six_at hx 1 (by omega), six_at hx 2 (by omega), six_at hx 3 (by omega), six_at hx 4 (by omega), six_at hx 5 (by omega),
   six_at hy 0 (by omega), six_at hy 1 (by omega), six_at hy 2 (by omega), six_at hy 3 (by omega), six_at hy 4 (by omega), six_at hy 5 (by omega)⟩

set_option maxHeartbeats 2000000 in
theorem rmost_calls (a c n : Nat) (w : World) (R : Ending → World → Prop) (ha : a < pw 6) (hc : c < pw 6) (hn : n ≤ 2305843009213693951) (hnc : n * c < pw 6)
    (hR : ∀ v w', Most a c n v → Below w.heap.size w w' → R (.returned (.int .i64 (v : Nat))) w') :
    Calls Try.prog 36 #[bigV a, bigV c, .int .i64 (n : Nat)] w R := by
  obtain ⟨W, g, h, hW, hg, hh, ha6, hc6, hbW⟩ := boxes a c w
  have HR := Hid.mk hR
  have HC := Hid.mk (And.intro ha (And.intro hc hnc))
  clear hR ha hc hnc
  unfold bigV
  go_enter Try.func36, Try.ntmps36
  go_wp2_with (fail)
  rw [← hW, ← hh, ← hg]
  have HG : Hid (w.heap.size ≤ g ∧ w.heap.size ≤ h) := Hid.mk (by omega)
  clear hW hg hh
  go_loopg [7, 8] n (fun gg vl vh wr => ∃ (lo hi : Nat), lo ≤ hi ∧ hi ≤ n ∧ vl = .int .i64 lo ∧ vh = .int .i64 hi ∧ Hid (lo * c ≤ a) ∧ Hid (∀ u, u ≤ n → u * c ≤ a → u ≤ hi) ∧ Six wr g (dg a) ∧ Six wr h (dg c) ∧ Hid (gg = hi - lo) ∧ Below w.heap.size w wr)
  case atStart => exact ⟨0, n, by omega, by omega, rfl, rfl, Hid.mk (by omega), Hid.mk (fun u h _ => h), ha6, hc6, Hid.mk (by omega), hbW⟩
  case round =>
    obtain ⟨lo, hi, hle, hin, rfl, rfl, HL, HH, ha6, hc6, HGG, HB⟩ := hrel
    clear hbW
    by_cases hlt : lo < hi
    · obtain ⟨mid, hmid⟩ : ∃ mid, mid = lo + (hi - lo) / 2 + (hi - lo) % 2 := ⟨_, rfl⟩
      obtain ⟨d, hd⟩ : ∃ d, d = hi - lo := ⟨_, rfl⟩
      have e1 : (hi : Int) - (lo : Int) = (d : Int) := by omega
      have e2 : IntKind.i64.wrap ((hi : Int) - (lo : Int)) = (d : Int) := by rw [e1, IntKind.wrap_i64]; omega
      have e3 : IntKind.i64.wrap ((lo : Int) + (d : Int) / 2) = (lo : Int) + (d : Int) / 2 := by rw [IntKind.wrap_i64]; omega
      have e4 : (lo : Int) + (d : Int) / 2 + (d : Int) % 2 = (mid : Int) := by omega
      have e5 : IntKind.i64.wrap ((lo : Int) + (d : Int) / 2 + (d : Int) % 2) = (mid : Int) := by rw [e4, IntKind.wrap_i64]; omega
      have hm1 : mid ≤ hi := by omega
      have hm2 : lo < mid := by omega
      have hlt' : (lo : Int) < (hi : Int) := by omega
      have hdi : (d : Int) ≤ 2305843009213693951 := by omega
      have hmi : (mid : Int) ≤ 2305843009213693951 := by omega
      have HM : Hid (mid < pw 6 ∧ mid * c < pw 6) := Hid.mk (by
        have h1 : mid * c ≤ n * c := Nat.mul_le_mul_right _ (by omega)
        have h2 : pw 3 ≤ pw 6 := by unfold pw; exact Nat.pow_le_pow_right (by omega) (by omega)
        have h3 : pw 3 = 1237940039285380274899124224 := rfl
        exact ⟨by omega, by have := HC.out.2.2; omega⟩)
      clear hmid hd
      go_upto_region 4 with (fail)
      have HS : Hid (∀ w', Below wr.heap.size wr w' → Twelve g h (dg a) (dg c) w') := Hid.mk (fun w' hb => twelve (six_below ha6 hb) (six_below hc6 hb))
      have hT := HS.out wr (Below.refl _ _)
      obtain ⟨a0, a1, a2, a3, a4, a5, c0, c1, c2, c3, c4, c5⟩ := hT
      go_region_held3 (fun w' => w'.cell? ⟨g, 0, none⟩ = some (.int .i64 (dg a 0)) ∧ w'.cell? ⟨g, 1, none⟩ = some (.int .i64 (dg a 1)) ∧ w'.cell? ⟨g, 2, none⟩ = some (.int .i64 (dg a 2)) ∧ w'.cell? ⟨g, 3, none⟩ = some (.int .i64 (dg a 3)) ∧ w'.cell? ⟨g, 4, none⟩ = some (.int .i64 (dg a 4)) ∧ w'.cell? ⟨g, 5, none⟩ = some (.int .i64 (dg a 5)) ∧ w'.cell? ⟨h, 0, none⟩ = some (.int .i64 (dg c 0)) ∧ w'.cell? ⟨h, 1, none⟩ = some (.int .i64 (dg c 1)) ∧ w'.cell? ⟨h, 2, none⟩ = some (.int .i64 (dg c 2)) ∧ w'.cell? ⟨h, 3, none⟩ = some (.int .i64 (dg c 3)) ∧ w'.cell? ⟨h, 4, none⟩ = some (.int .i64 (dg c 4)) ∧ w'.cell? ⟨h, 5, none⟩ = some (.int .i64 (dg c 5))) (first | exact HS.out _ HB3 | exact HS.out _ HB2 | exact HS.out _ HB1 | exact ⟨a0, a1, a2, a3, a4, a5, c0, c1, c2, c3, c4, c5⟩) (first
        | (go_at_call 38
           refine of_calls mid _ _ ?_ ?_
           · omega
           intro w1 hb1
           have HB1 : Below wr.heap.size wr w1 := after_draw hb1)
        | (go_at_call 37
           refine bmul_calls mid c _ _ ?_ ?_ ?_
           · exact HM.out.1
           · exact HM.out.2
           intro w2 hb2
           have HB2 : Below wr.heap.size wr w2 := below_then HB1 hb2)
        | (go_at_call 44
           refine cmp_calls (mid * c) a _ _ ?_ ?_ ?_
           · exact HM.out.2
           · exact HC.out.1
           intro w3 hb3
           have HB3 : Below wr.heap.size wr w3 := below_then HB2 hb3))
      by_cases hq : mid * c ≤ a
      · have hcm : cmpN (mid * c) a ≤ 0 := by unfold cmpN; split <;> (try split) <;> omega
        have hdec : decide (cmpN (mid * c) a ≤ 0) = true := decide_eq_true hcm
        have HQ := Hid.mk hq
        clear hq
        go_wp2_with (fail)
        go_roundg (hi - mid)
        case measure => rw [HGG.out]; omega
        case rel => exact ⟨mid, hi, hm1, hin, rfl, rfl, HQ, HH, six_below ha6 HB3, six_below hc6 HB3, Hid.mk rfl, below_then HB HB3⟩
      · have hcm : ¬ cmpN (mid * c) a ≤ 0 := by unfold cmpN; split <;> (try split) <;> omega
        have hdec : decide (cmpN (mid * c) a ≤ 0) = false := decide_eq_false hcm
        have HQ := Hid.mk hq
        have e6 : IntKind.i64.wrap ((mid : Int) - 1) = (mid : Int) - 1 := by rw [IntKind.wrap_i64]; omega
        clear hq
        go_wp2_with (fail)
        go_roundg (mid - 1 - lo)
        case measure => rw [HGG.out]; omega
        case rel =>
          refine ⟨lo, mid - 1, by omega, by omega, rfl, by go_num, HL, Hid.mk (fun u hu hua => ?_), six_below ha6 HB3, six_below hc6 HB3, Hid.mk rfl, below_then HB HB3⟩
          have h1 := HQ.out
          by_cases h : u ≤ mid - 1
          · exact h
          · exfalso
            have : mid * c ≤ u * c := Nat.mul_le_mul_right _ (by omega)
            omega
    · obtain rfl : lo = hi := by omega
      have hlt' : ¬ (lo : Int) < (lo : Int) := by omega
      go_wp2_with (fail)
      exact HR.out lo _ ⟨hin, HL.out, HH.out⟩ HB
end Go.Proofs.Ytalgnpgpbbjgpaa
