/- The walk of the law MoneyStays: it answers true at every list and every two ints, and leaves old memory as it was. -/
import Derived.Test.YtalgnpgpbbjgpaaMh
namespace Go.Proofs.Ytalgnpgpbbjgpaa
open Go.RowKit

theorem prod_bound (x y : Int) : (prod x y).1 ≤ 1152921504606846976 ∧ -1152921504606846976 ≤ (prod x y).1 ∧ ((prod x y).2 = false → (prod x y).1 = x * y) := by
  unfold prod
  split
  · exact ⟨by simp, by simp, by simp⟩
  · split
    · exact ⟨by simp, by simp, by simp⟩
    · exact ⟨by simp; omega, by simp; omega, fun _ => rfl⟩

set_option maxHeartbeats 2000000 in
set_option maxRecDepth 100000 in
theorem moneyStays_calls (xs : List Int) (A : Option Addr) (cap : Nat) (x y : Int) (w : World) (R : Ending → World → Prop) (HI : Ints w A xs) (_ : xs.length * 8 ≤ 140737488351232)
    (hx : ∀ x ∈ xs, -9223372036854775808 ≤ x ∧ x ≤ 9223372036854775807) (hxx : I64 x) (hyy : I64 y) (hR : ∀ w', Below w.heap.size w w' → R (.returned (.bool true)) w') :
    Calls Try.prog 8 #[.slice A xs.length cap, .int .i64 x, .int .i64 y] w R := by
  have HR := Hid.mk hR
  have HX := Hid.mk hx
  have HXY := Hid.mk (And.intro hxx hyy)
  clear hR hx hxx hyy
  by_cases hl : 100 < (xs.length : Int)
  · go_enter Try.func8, Try.ntmps8
    go_wp2_with (fail)
    refine alive_calls _ _ ?_
    intro w3 hb3
    go_wp2_with (fail)
    exact HR.out _ hb3
  have hlen : (xs.length : Int) ≤ 100 := by omega
  clear hl
  obtain ⟨g, hg⟩ : ∃ g, g = w.heap.size := ⟨_, rfl⟩
  obtain ⟨h, hh⟩ : ∃ h, h = w.heap.size + 1 := ⟨_, rfl⟩
  obtain ⟨W, hW⟩ : ∃ W, W = (w.alloc (.cells #[.bool false] 30)).alloc (.cells #[.bool false] 30) := ⟨_, rfl⟩
  have ha : AccAt W g false := by subst hW; subst hg; exact blk_alloc (blk_new _ _) _
  have hb : AccAt W h false := by
    subst hW; subst hh
    have := blk_new (w.alloc (.cells #[.bool false] 30)) (.cells #[.bool false] 30)
    rw [World.size_alloc] at this
    exact this
  have hbW : Below w.heap.size w W := by subst hW; exact below_allocs (below_allocs (Below.refl _ _) _) _
  have HII := HI.below hbW
  have HG : Hid (w.heap.size ≤ g ∧ w.heap.size ≤ h ∧ g ≠ h) := Hid.mk (by omega)
  go_enter Try.func8, Try.ntmps8
  go_wp2_with (fail)
  rw [← hW, ← hh, ← hg]
  have HIW := Hid.mk HI
  clear hW hg hh HI
  go_loopg [9, 10] (xs.length) (fun gg vn vi wr => ∃ (k : Nat) (n : Int), k ≤ xs.length ∧ vi = .int .i64 k ∧ vn = .int .i64 n ∧ -112589990684262400 ≤ n ∧ n ≤ 112589990684262400 ∧ Hid (n = sumL (xs.take k)) ∧ Hid (-1125899906842624 * (k : Int) ≤ n ∧ n ≤ 1125899906842624 * (k : Int)) ∧ Hid (gg = xs.length - k) ∧ wr = W)
  case atStart => exact ⟨0, 0, Nat.zero_le _, rfl, rfl, by omega, by omega, Hid.mk rfl, Hid.mk (by omega), Hid.mk rfl, rfl⟩
  case round =>
    obtain ⟨k, n, hk, rfl, rfl, hn0, hn1, HS, HN, HGG, rfl⟩ := hrel
    by_cases hlt : k < xs.length
    · obtain ⟨z, hz⟩ : ∃ z, z = xs.getD k 0 := ⟨_, rfl⟩
      obtain ⟨b, off, rfl, hck⟩ := HII.at_ k hlt
      rw [← hz] at hck
      have HZ := Hid.mk hz
      have HIH := Hid.mk HII
      clear hz HII ha hb
      by_cases h1 : 1125899906842624 < z
      · go_wp2_with (fail)
        refine alive_calls _ _ ?_
        intro w3 hb3
        go_wp2_with (fail)
        exact HR.out _ (below_then hbW hb3)
      by_cases h2 : z < -1125899906842624
      · go_wp2_with (fail)
        refine alive_calls _ _ ?_
        intro w3 hb3
        go_wp2_with (fail)
        exact HR.out _ (below_then hbW hb3)
      have hnz : -112589990684262400 ≤ n + z ∧ n + z ≤ 112589990684262400 := by have := HN.out; omega
      obtain ⟨hnz1, hnz2⟩ := hnz
      go_wp2_with (fail)
      go_roundg (xs.length - (k + 1))
      case measure => rw [HGG.out]; omega
      case rel => exact ⟨k + 1, n + z, by omega, by go_num, rfl, hnz1, hnz2, Hid.mk (by rw [take_snoc _ _ hlt, sumL_snoc, ← HS.out, ← HZ.out]), Hid.mk (by have := HN.out; omega), Hid.mk rfl, rfl⟩
    · have hsum : sumL xs = n := by have := HS.out; rw [List.take_of_length_le (by omega)] at this; exact this.symm
      have hc : clamp (sumL xs) = (n, false) := by rw [hsum]; unfold clamp; rw [if_neg (by omega), if_neg (by omega)]
      have HC := Hid.mk hc
      clear hsum hc
      go_wp2_with (fail)
      refine add_some g false xs A cap _ _ ha HII (by omega) HX.out ?_
      rw [HC.out]
      intro w1 hk1 ha1
      rw [show (false || ((n, false) : Int × Bool).2) = false from rfl] at ha1
      have hb1 := hk1.heap hb (fun e => HG.out.2.2 e.symm)
      have hB1 := Keep.old hbW hk1 HG.out.1
      clear hk1 ha hb
      have c0 := blk_cell ha1 0
      simp only [List.getElem?_toArray, List.getElem?_cons_zero] at c0
      go_wp2_with (fail)
      have hi : Ints (w1.alloc (.cells #[.int .i64 1152921504606846976, .int .i64 1] 3)) (some ⟨w1.heap.size, 0, none⟩) [1152921504606846976, 1] := Ints.new w1 [1152921504606846976, 1] 3 (by simp [maxLen])
      refine add_some h false [1152921504606846976, 1] (some ⟨w1.heap.size, 0, none⟩) 2 _ _ (blk_alloc hb1 _) hi (by simp) (by simp) ?_
      rw [show clamp (sumL [1152921504606846976, 1]) = (1152921504606846976, true) from rfl]
      intro w2 hk2 hb2
      rw [show (false || ((1152921504606846976, true) : Int × Bool).2) = true from rfl] at hb2
      have ha2 := hk2.heap (blk_alloc ha1 (.cells #[.int .i64 1152921504606846976, .int .i64 1] 3)) HG.out.2.2
      have hB2 := Keep.old (below_allocs hB1 _) hk2 HG.out.2.1
      clear hk2 ha1 hb1 c0 hi hB1
      have c0 := blk_cell hb2 0
      simp only [List.getElem?_toArray, List.getElem?_cons_zero] at c0
      go_wp2_with (fail)
      refine add_some h true xs A cap _ _ hb2 (HIW.out.below hB2) (by omega) HX.out ?_
      rw [HC.out]
      intro w3 hk3 hb3
      rw [Bool.true_or] at hb3
      have ha3 := hk3.heap ha2 HG.out.2.2
      have hB3 := Keep.old hB2 hk3 HG.out.2.1
      clear hk3 ha2 hb2 c0 hB2
      go_wp2_with (fail)
      refine mul_some g false x y _ _ ha3 HXY.out.1 HXY.out.2 ?_
      intro w4 hk4 ha4
      have hb4 := hk4.heap hb3 (fun e => HG.out.2.2 e.symm)
      have hB4 := Keep.old hB3 hk4 HG.out.1
      clear hk4 ha3 hb3 hB3
      obtain ⟨p, hp⟩ : ∃ p, p = prod x y := ⟨_, rfl⟩
      have hpb := prod_bound x y
      rw [← hp] at hpb ha4 ⊢
      obtain ⟨p, po⟩ := p
      obtain ⟨pb1, pb2, pb3⟩ := hpb
      simp only [Bool.false_or] at pb1 pb2 pb3 ha4 ⊢
      clear hp
      go_wp2_with (fail)
      refine alive_calls _ _ ?_
      intro w5 hb5
      have hB5 := below_then hB4 hb5
      have c1 := blk_cell ((AccAt.below ha4 hb5 : AccAt w5 g po)) 0
      have c2 := blk_cell ((AccAt.below hb4 hb5 : AccAt w5 h true)) 0
      simp only [List.getElem?_toArray, List.getElem?_cons_zero] at c1 c2
      cases po
      · have e1 : IntKind.i64.wrap (x * y) = p := by have := pb3 rfl; rw [← this, IntKind.wrap_i64]; omega
        clear pb3 hB4 hb5 ha4 hb4
        go_wp2_with (fail)
        exact HR.out _ hB5
      · clear pb3 hB4 hb5 ha4 hb4
        go_wp2_with (fail)
        exact HR.out _ hB5
end Go.Proofs.Ytalgnpgpbbjgpaa
