/- The walks of the reference's Acc.end, magnitude and Acc.Product. -/
import Derived.Test.YtalgnpgpbbjgpaaBf
namespace Go.Proofs.Ytalgnpgpbbjgpaa
open Go.RowKit

/-- The reference's Acc at block g. -/
def RAccAt (w : World) (g : Nat) (o : Bool) : Prop := w.heap[g]? = some (.cells #[.bool o] 32 (0, 0))
theorem RAccAt.set {w : World} {g : Nat} {o : Bool} (h : RAccAt w g o) (u : Bool) : RAccAt (w.setCell ⟨g, 0, none⟩ (.bool u)) g u := blk_set h 0 (.bool u)
theorem RAccAt.below {w w' : World} {g : Nat} {o : Bool} (h : RAccAt w g o) (k : Below w.heap.size w w') : RAccAt w' g o := (Keep.of_below k).heap h (fun h => h)

theorem end_calls (g : Nat) (o b : Bool) (w : World) (R : Ending → World → Prop) (h : RAccAt w g o) (hR : R (.returned (.int .i64 (if b then -1152921504606846976 else 1152921504606846976))) (w.setCell ⟨g, 0, none⟩ (.bool true))) :
    Calls Try.prog 45 #[.pointer (some ⟨g, 0, none⟩), .bool b] w R := by
  have c0 := blk_cell h 0
  simp only [List.getElem?_toArray, List.getElem?_cons_zero] at c0
  have f0 := blk_frozen h 0
  cases b
  all_goals
    go_enter Try.func45, Try.ntmps45
    go_wp2_with (fail)
    exact hR

theorem ret_bigb {fn : Func} {t s : Tmp} {tmps : Array Value} {w : World} {g : Nat} {n : Nat} {b : Bool} (hr : fn.results = #[.cell t 54, .tmp s]) (ht : tmps.getD t undef = .pointer (some ⟨g, 0, none⟩)) (hs : tmps.getD s undef = .bool b) (h : Six w g (dg n)) :
    (results fn tmps).run Try.prog w = .ok (.tuple #[bigV n, .bool b]) w := by
  have c0 := six_at h 0 (by omega)
  have c1 := six_at h 1 (by omega)
  have c2 := six_at h 2 (by omega)
  have c3 := six_at h 3 (by omega)
  have c4 := six_at h 4 (by omega)
  have c5 := six_at h 5 (by omega)
  have ht' : (tmps[t]?).getD undef = .pointer (some ⟨g, 0, none⟩) := by simpa using ht
  have hs' : (tmps[s]?).getD undef = .bool b := by simpa using hs
  unfold bigV
  simp [results, hr, ht', hs', go_sem, c0, c1, c2, c3, c4, c5]

/-- What the walk asks of a big number's block that is overwritten. -/
def Free6 (w : World) (g : Nat) (f : Nat → Nat) : Prop :=
  w.cell? ⟨g, 0, none⟩ = some (.int .i64 (f 0)) ∧ w.cell? ⟨g, 1, none⟩ = some (.int .i64 (f 1)) ∧ w.cell? ⟨g, 2, none⟩ = some (.int .i64 (f 2)) ∧ w.cell? ⟨g, 3, none⟩ = some (.int .i64 (f 3)) ∧ w.cell? ⟨g, 4, none⟩ = some (.int .i64 (f 4)) ∧ w.cell? ⟨g, 5, none⟩ = some (.int .i64 (f 5)) ∧ (∀ j, w.frozen? ⟨g, j, none⟩ = false)
theorem free6 {w : World} {g : Nat} {f : Nat → Nat} (h : Six w g f) : Free6 w g f :=
  ⟨six_at h 0 (by omega), six_at h 1 (by omega), six_at h 2 (by omega), six_at h 3 (by omega), six_at h 4 (by omega), six_at h 5 (by omega), fun j => blk_frozen h j⟩

theorem six_new (w : World) : Six (w.alloc (.cells #[.int .i64 0, .int .i64 0, .int .i64 0, .int .i64 0, .int .i64 0, .int .i64 0] 54)) w.heap.size (fun _ => 0) := blk_new _ _

set_option maxHeartbeats 1000000 in
theorem magnitude_calls (x : Int) (w : World) (R : Ending → World → Prop) (hx : I64 x) (hR : ∀ w', Below w.heap.size w w' → R (.returned (.tuple #[bigV x.natAbs, .bool (decide (x < 0))])) w') :
    Calls Try.prog 42 #[.int .i64 x] w R := by
  have HR := Hid.mk hR
  obtain ⟨hx1, hx2⟩ := hx
  obtain ⟨g, hg⟩ : ∃ g, g = w.heap.size := ⟨_, rfl⟩
  obtain ⟨W, hW⟩ : ∃ W, W = w.alloc (.cells #[.int .i64 0, .int .i64 0, .int .i64 0, .int .i64 0, .int .i64 0, .int .i64 0] 54) := ⟨_, rfl⟩
  have hS : Six W g (fun _ => 0) := by subst hW; subst hg; exact six_new w
  have hbW : Below w.heap.size w W := by subst hW; exact below_allocs (Below.refl _ _) _
  have HG := Hid.mk (show w.heap.size ≤ g by omega)
  clear hR
  by_cases hmin : x = -9223372036854775808
  · subst hmin
    have HN : Hid ((-9223372036854775808 : Int).natAbs = 4611686018427387904 + 4611686018427387904 ∧ decide ((-9223372036854775808 : Int) < 0) = true) := Hid.mk ⟨rfl, rfl⟩
    rw [HN.out.1, HN.out.2] at HR
    go_enter Try.func42, Try.ntmps42
    go_wp2_with (fail)
    rw [← hW, ← hg]
    clear hW hg
    refine of_calls 4611686018427387904 _ _ (by omega) ?_
    intro w1 hb1
    have hS1 := six_below hS hb1
    replace hb1 := below_then hbW hb1
    clear hS hbW
    unfold bigV
    go_wp2_with (fail)
    have hS2 : Six (w1.alloc (.cells #[.int .i64 (dg 4611686018427387904 0 : Int), .int .i64 (dg 4611686018427387904 1 : Int), .int .i64 (dg 4611686018427387904 2 : Int), .int .i64 (dg 4611686018427387904 3 : Int), .int .i64 (dg 4611686018427387904 4 : Int), .int .i64 (dg 4611686018427387904 5 : Int)] 54)) g (fun _ => 0) := blk_alloc hS1 _
    refine badd_calls 4611686018427387904 4611686018427387904 _ _ (Nat.lt_of_lt_of_le (by omega) pw6_big) ?_
    intro w2 hb2
    have hS3 := six_below hS2 hb2
    replace hb2 := below_then (below_allocs hb1 _) hb2
    clear hS1 hS2 hb1 hx1 hx2 HN
    have HN : Hid (4611686018427387904 + 4611686018427387904 = 9223372036854775808) := Hid.mk rfl
    obtain ⟨n, hn⟩ : ∃ n, n = 4611686018427387904 + 4611686018427387904 := ⟨_, rfl⟩
    rw [← hn] at HR ⊢
    clear hn HN
    obtain ⟨c0, c1, c2, c3, c4, c5, hf⟩ := free6 hS3
    unfold bigV
    go_wp2_with (fail)
    refine bodyPost_ret (v := .tuple #[bigV n, .bool true]) (ret_bigb rfl rfl rfl (six_all hS3 (dg n))) rfl ?_
    exact HR.out _ (below_all hb2 HG.out _)
  · have h1 : (x == -9223372036854775808) = false := by simpa using hmin
    by_cases hneg : x < 0
    · obtain ⟨n, hn⟩ : ∃ n, n = x.natAbs := ⟨_, rfl⟩
      have e1 : -x = (n : Int) := by omega
      rw [← hn, decide_eq_true hneg] at HR
      have hn2 : n ≤ 9223372036854775807 := by omega
      have e2 : IntKind.i64.wrap (-x) = (n : Int) := by rw [IntKind.wrap_i64]; omega
      clear hmin hn
      go_enter Try.func42, Try.ntmps42
      go_wp2_with (fail)
      rw [← hW, ← hg]
      clear hW hg
      refine of_calls n _ _ hn2 ?_
      intro w1 hb1
      have hS1 := six_below hS hb1
      replace hb1 := below_then hbW hb1
      clear hS hbW
      obtain ⟨c0, c1, c2, c3, c4, c5, hf⟩ := free6 hS1
      unfold bigV
      go_wp2_with (fail)
      refine bodyPost_ret (v := .tuple #[bigV n, .bool true]) (ret_bigb rfl rfl rfl (six_all hS1 (dg n))) rfl ?_
      exact HR.out _ (below_all hb1 HG.out _)
    · obtain ⟨n, rfl⟩ := Int.eq_ofNat_of_zero_le (show 0 ≤ x by omega)
      rw [Int.natAbs_natCast, decide_eq_false hneg] at HR
      have hn2 : n ≤ 9223372036854775807 := by omega
      clear hmin
      go_enter Try.func42, Try.ntmps42
      go_wp2_with (fail)
      rw [← hW, ← hg]
      clear hW hg
      refine of_calls n _ _ hn2 ?_
      intro w1 hb1
      have hS1 := six_below hS hb1
      replace hb1 := below_then hbW hb1
      clear hS hbW
      obtain ⟨c0, c1, c2, c3, c4, c5, hf⟩ := free6 hS1
      unfold bigV
      go_wp2_with (fail)
      refine bodyPost_ret (v := .tuple #[bigV n, .bool false]) (ret_bigb rfl rfl rfl (six_all hS1 (dg n))) rfl ?_
      exact HR.out _ (below_all hb1 HG.out _)
end Go.Proofs.Ytalgnpgpbbjgpaa
