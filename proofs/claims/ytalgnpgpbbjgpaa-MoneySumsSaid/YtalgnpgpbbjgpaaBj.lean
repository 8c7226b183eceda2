/- The walk of the reference's Acc.Product. -/
import Derived.Test.YtalgnpgpbbjgpaaBi
namespace Go.Proofs.Ytalgnpgpbbjgpaa
open Go.RowKit

theorem pw6_prod2 {a b : Nat} (ha : a ≤ 9223372036854775808) (hb : b ≤ 9223372036854775808) : a * b < pw 6 := by
  have h2 : pw 5 ≤ pw 6 := by unfold pw; exact Nat.pow_le_pow_right (by omega) (by omega)
  have h3 : pw 5 = 1427247692705959881058285969449495136382746624 := rfl
  have h1 : a * b ≤ 9223372036854775808 * 9223372036854775808 := Nat.mul_le_mul ha hb
  omega

theorem cmp_pos {a b : Nat} : 0 < cmpN a b ↔ b < a := by unfold cmpN; split <;> (try split) <;> omega
theorem cmp_neg {a b : Nat} : cmpN a b < 0 ↔ a < b := by unfold cmpN; split <;> (try split) <;> omega
theorem cmp_le {a b : Nat} : cmpN a b ≤ 0 ↔ a ≤ b := by unfold cmpN; split <;> (try split) <;> omega

def Six6 (w : World) (g : Nat) (f : Nat → Nat) : Prop :=
  w.cell? ⟨g, 0, none⟩ = some (.int .i64 (f 0)) ∧ w.cell? ⟨g, 1, none⟩ = some (.int .i64 (f 1)) ∧ w.cell? ⟨g, 2, none⟩ = some (.int .i64 (f 2)) ∧ w.cell? ⟨g, 3, none⟩ = some (.int .i64 (f 3)) ∧ w.cell? ⟨g, 4, none⟩ = some (.int .i64 (f 4)) ∧ w.cell? ⟨g, 5, none⟩ = some (.int .i64 (f 5))
theorem six6 {w : World} {g : Nat} {f : Nat → Nat} (h : Six w g f) : Six6 w g f :=
  ⟨six_at h 0 (by omega), six_at h 1 (by omega), six_at h 2 (by omega), six_at h 3 (by omega), six_at h 4 (by omega), six_at h 5 (by omega)⟩

theorem keep_g {w w1 : World} {g : Nat} (h : Below w.heap.size w w1) : Keep (fun i => i = g) w w1 := (Keep.of_below h).none

set_option maxHeartbeats 2000000 in
theorem product_calls (g : Nat) (o : Bool) (x y : Int) (w : World) (R : Ending → World → Prop) (h : RAccAt w g o) (hx : I64 x) (hy : I64 y)
    (hR : ∀ w', Keep (fun i => i = g) w w' → RAccAt w' g (o || (prod x y).2) → R (.returned (.int .i64 (prod x y).1)) w') :
    Calls Try.prog 27 #[.pointer (some ⟨g, 0, none⟩), .int .i64 x, .int .i64 y] w R := by
  have HM := Hid.mk (mags x y hx hy)
  obtain ⟨p, hp⟩ : ∃ p, p = decide (x < 0) := ⟨_, rfl⟩
  obtain ⟨q, hq⟩ : ∃ q, q = decide (y < 0) := ⟨_, rfl⟩
  obtain ⟨m, hm⟩ : ∃ m, m = x.natAbs := ⟨_, rfl⟩
  obtain ⟨n, hn⟩ : ∃ n, n = y.natAbs := ⟨_, rfl⟩
  rw [← hm, ← hn, ← hp, ← hq] at HM
  have HE := Hid.mk (And.intro hp (And.intro hq (And.intro hm hn)))
  have HX := Hid.mk (And.intro hx hy)
  have HA := Hid.mk h
  have HR := Hid.mk hR
  clear hp hq hm hn hx hy h hR
  have HMN := Hid.mk (pw6_prod2 HM.out.ml HM.out.nl)
  go_enter Try.func27, Try.ntmps27
  go_wp2_with (fail)
  refine magnitude_calls x _ _ HX.out.1 ?_
  rw [← HE.out.1, ← HE.out.2.2.1]
  intro w1 hb1
  unfold bigV
  go_wp2_with (fail)
  obtain ⟨g1, hg1⟩ : ∃ g, g = w1.heap.size := ⟨_, rfl⟩
  obtain ⟨W1, hW1⟩ : ∃ W, W = w1.alloc (.cells #[.int .i64 (dg m 0 : Int), .int .i64 (dg m 1 : Int), .int .i64 (dg m 2 : Int), .int .i64 (dg m 3 : Int), .int .i64 (dg m 4 : Int), .int .i64 (dg m 5 : Int)] 54) := ⟨_, rfl⟩
  have hS1 : Six W1 g1 (dg m) := by subst hW1; subst hg1; exact blk_new _ _
  replace hb1 : Below w.heap.size w W1 := by subst hW1; exact below_allocs hb1 _
  rw [← hW1, ← hg1]
  clear hW1 hg1
  refine magnitude_calls y _ _ HX.out.2 ?_
  rw [← HE.out.2.1, ← HE.out.2.2.2]
  intro w2 hb2
  have hS2 := six_below hS1 hb2
  replace hb2 := below_then hb1 hb2
  clear hS1 hb1
  unfold bigV
  go_upto_region 3 with (fail)
  obtain ⟨g2, hg2⟩ : ∃ g, g = w2.heap.size := ⟨_, rfl⟩
  obtain ⟨W2, hW2⟩ : ∃ W, W = w2.alloc (.cells #[.int .i64 (dg n 0 : Int), .int .i64 (dg n 1 : Int), .int .i64 (dg n 2 : Int), .int .i64 (dg n 3 : Int), .int .i64 (dg n 4 : Int), .int .i64 (dg n 5 : Int)] 54) := ⟨_, rfl⟩
  have hS3 : Six W2 g2 (dg n) := by subst hW2; subst hg2; exact blk_new _ _
  have hS4 : Six W2 g1 (dg m) := by subst hW2; exact blk_alloc hS2 _
  replace hb2 : Below w.heap.size w W2 := by subst hW2; exact below_allocs hb2 _
  rw [← hW2, ← hg2]
  clear hW2 hg2 hS2
  obtain ⟨a0, a1, a2, a3, a4, a5, _⟩ := free6 hS3
  obtain ⟨c0, c1, c2, c3, c4, c5, _⟩ := free6 hS4
  clear hS3 hS4
  go_wp2_with (fail)
  refine bmul_calls m n _ _ (Nat.lt_of_le_of_lt (by have := HM.out.ml; omega) (Nat.lt_of_lt_of_le (show 9223372036854775808 < 158456325028528675187087900672 by omega) pw6_big)) HMN.out ?_
  intro w3 hb3
  replace hb3 := below_then hb2 hb3
  clear hb2 c0 c1 c2 c3 c4 c5 a0 a1 a2 a3 a4 a5
  obtain ⟨k, hk⟩ : ∃ k, k = m * n := ⟨_, rfl⟩
  have HK := Hid.mk hk
  rw [← hk] at HMN ⊢
  clear hk
  unfold bigV
  go_upto_region 4 with (fail)
  obtain ⟨g3, hg3⟩ : ∃ g, g = w3.heap.size := ⟨_, rfl⟩
  obtain ⟨W3, hW3⟩ : ∃ W, W = w3.alloc (.cells #[.int .i64 (dg k 0 : Int), .int .i64 (dg k 1 : Int), .int .i64 (dg k 2 : Int), .int .i64 (dg k 3 : Int), .int .i64 (dg k 4 : Int), .int .i64 (dg k 5 : Int)] 54) := ⟨_, rfl⟩
  have hS5 : Six W3 g3 (dg k) := by subst hW3; subst hg3; exact blk_new _ _
  replace hb3 : Below w.heap.size w W3 := by subst hW3; exact below_allocs hb3 _
  rw [← hW3, ← hg3]
  clear hW3 hg3
  have HS : Hid (∀ w', Below W3.heap.size W3 w' → Six6 w' g3 (dg k)) := Hid.mk (fun w' hb => six6 (six_below hS5 hb))
  have H60 : Hid ((1152921504606846976 : Nat) < pw 6) := Hid.mk (pw6_lt (by omega))
  obtain ⟨a0, a1, a2, a3, a4, a5⟩ := six6 hS5
  clear hS5
  go_region_held3 (fun w' => w'.cell? ⟨g3, 0, none⟩ = some (.int .i64 (dg k 0)) ∧ w'.cell? ⟨g3, 1, none⟩ = some (.int .i64 (dg k 1)) ∧ w'.cell? ⟨g3, 2, none⟩ = some (.int .i64 (dg k 2)) ∧ w'.cell? ⟨g3, 3, none⟩ = some (.int .i64 (dg k 3)) ∧ w'.cell? ⟨g3, 4, none⟩ = some (.int .i64 (dg k 4)) ∧ w'.cell? ⟨g3, 5, none⟩ = some (.int .i64 (dg k 5))) (first | exact HS.out _ HB2 | exact HS.out _ HB1 | exact ⟨a0, a1, a2, a3, a4, a5⟩) (first
      | (go_at_call 38
         refine of_calls 1152921504606846976 _ _ ?_ ?_
         · omega
         intro w4 hb4
         have HB1 : Below W3.heap.size W3 w4 := after_draw hb4)
      | (go_at_call 44
         refine cmp_calls k 1152921504606846976 _ _ ?_ ?_ ?_
         · exact HMN.out
         · exact H60.out
         intro w5 hb5
         have HB2 : Below W3.heap.size W3 w5 := below_then HB1 hb5))
  by_cases hbig : 1152921504606846976 < k
  · have hcm : 0 < cmpN k 1152921504606846976 := cmp_pos.2 hbig
    have hp := HM.out.big (by rw [← HK.out]; exact hbig)
    have hA := RAccAt.below HA.out (below_then hb3 HB2)
    have HP := Hid.mk hp
    clear hbig hp
    go_wp2_with (fail)
    obtain ⟨b, hb⟩ : ∃ b, b = (!(p == q)) := ⟨_, rfl⟩
    rw [← hb] at HP
    rw [← hb]
    clear hb
    refine end_calls g o b _ _ hA ?_
    have hR2 := HR.out _ ((keep_g (g := g) (below_then hb3 HB2)).setCell (.inl rfl) _) (by rw [HP.out.2, Bool.or_true]; exact hA.set true)
    rw [HP.out.1] at hR2
    have HR2 := Hid.mk hR2
    clear hR2
    cases b
    all_goals
      go_wp2_with (fail)
      exact HR2.out
  · have hcm : cmpN k 1152921504606846976 ≤ 0 := cmp_le.2 (by omega)
    have hp := HM.out.small (by rw [← HK.out]; omega)
    have hA := RAccAt.below HA.out (below_then hb3 HB2)
    have hpr : x * y = (prod x y).1 := by
      have h2 := hp.2
      unfold prod at h2 ⊢
      by_cases h3 : 1152921504606846976 < x * y
      · rw [if_pos h3] at h2; cases h2
      · rw [if_neg h3] at h2 ⊢
        by_cases h4 : x * y < -1152921504606846976
        · rw [if_pos h4] at h2; cases h2
        · rw [if_neg h4]
    have hlo : -1152921504606846976 ≤ x * y ∧ x * y ≤ 1152921504606846976 := by
      have h2 := hp.2
      unfold prod at h2
      by_cases h3 : 1152921504606846976 < x * y
      · rw [if_pos h3] at h2; cases h2
      · rw [if_neg h3] at h2
        by_cases h4 : x * y < -1152921504606846976
        · rw [if_pos h4] at h2; cases h2
        · omega
    have HP := Hid.mk (And.intro hp.2 hpr)
    have e1 : IntKind.i64.wrap (x * y) = (prod x y).1 := by rw [← hpr, IntKind.wrap_i64]; omega
    clear hbig hp hpr hlo
    go_wp2_with (fail)
    exact HR.out _ (keep_g (below_then hb3 HB2)) (by rw [HP.out.1, Bool.or_false]; exact hA)
end Go.Proofs.Ytalgnpgpbbjgpaa
