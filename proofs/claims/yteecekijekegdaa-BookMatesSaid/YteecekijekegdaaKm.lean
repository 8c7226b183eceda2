/- The walk of a store's Pair. Plain contracts, no conditions but those that each names. -/
import Derived.Test.YteecekijekegdaaKl
namespace Go.Proofs.Yteecekijekegdaa
open Go.RowKit

/-- Why two can't be paired. -/
def pairX (i j : Nat) (x y : InstD) (a : Int) : Int :=
  if x.state ≠ 0 ∨ y.state ≠ 0 then 20 else if i = j ∨ x.t.deliver = false ∨ y.t.deliver = true ∨ x.t.qty ≠ y.t.qty ∨ a < 0 ∨ 1125899906842624 < a then 1 else 0
def pairE (L : List InstD) (d r a : Int) : Int :=
  if d < 1 ∨ (L.length : Int) < d ∨ r < 1 ∨ (L.length : Int) < r then 3 else match L[(d - 1).toNat]?, L[(r - 1).toNat]? with
  | some x, some y => pairX (d - 1).toNat (r - 1).toNat x y a
  | _, _ => 3
def mated (x : InstD) (m a : Int) : InstD := { x with mate := m, t := { x.t with amount := a } }
def pairL (L : List InstD) (d r a : Int) : List InstD :=
  if pairE L d r a = 0 then match L[(d - 1).toNat]?, L[(r - 1).toNat]? with
  | some x, some y => (doL 0 ((L.set (d - 1).toNat (mated x r a)).set (r - 1).toNat (mated y d a)) [some (d - 1).toNat, some (r - 1).toNat]).1
  | _, _ => L else L
theorem pairE_none (L : List InstD) (d r a : Int) (h : (d < 1 ∨ (L.length : Int) < d) ∨ (r < 1 ∨ (L.length : Int) < r)) : pairE L d r a = 3 := by
  unfold pairE
  rw [if_pos (by omega)]
theorem pairE_some (L : List InstD) (i j : Nat) (x y : InstD) (a : Int) (hx : L[i]? = some x) (hy : L[j]? = some y) : pairE L ((i : Int) + 1) ((j : Int) + 1) a = pairX i j x y a := by
  have hi := (List.getElem?_eq_some_iff.1 hx).1
  have hj := (List.getElem?_eq_some_iff.1 hy).1
  unfold pairE
  rw [if_neg (by omega), show ((i : Int) + 1 - 1).toNat = i by omega, show ((j : Int) + 1 - 1).toNat = j by omega, hx, hy]
theorem pairL_bad (L : List InstD) (d r a : Int) (h : pairE L d r a ≠ 0) : pairL L d r a = L := by unfold pairL; rw [if_neg h]
theorem pairL_good (L : List InstD) (i j : Nat) (x y : InstD) (a : Int) (hx : L[i]? = some x) (hy : L[j]? = some y) (h : pairE L ((i : Int) + 1) ((j : Int) + 1) a = 0) :
    pairL L ((i : Int) + 1) ((j : Int) + 1) a = (doL 0 ((L.set i (mated x ((j : Int) + 1) a)).set j (mated y ((i : Int) + 1) a)) [some i, some j]).1 := by
  unfold pairL
  rw [if_pos h, show ((i : Int) + 1 - 1).toNat = i by omega, show ((j : Int) + 1 - 1).toNat = j by omega, hx, hy]
theorem BookS.drewN {B : Nat} {w : World} {gb : Nat} {v : Value} {L : List InstD} (h : BookS B w gb v L) (n : Nat) : BookS B (w.drewN n) gb v L := ⟨h.cell, h.base, h.own⟩

/-- A pair's post: why not, or the new state. -/
def PairPost (B : Nat) (gb : Nat) (v : Value) (L : List InstD) (d r a : Int) (w : World) (R : Ending → World → Prop) : Prop :=
  ∀ w', BookS B w' gb v (pairL L d r a) → Keep (fun i => v.ownBlock = some i) w w' → R (.returned (.int .i64 (pairE L d r a))) w'
theorem PairPost.bad {B : Nat} {gb : Nat} {v : Value} {L : List InstD} {d r a : Int} {w : World} {R : Ending → World → Prop} (h : PairPost B gb v L d r a w R) (e : Int) (he : pairE L d r a = e) (h0 : e ≠ 0) :
    ∀ w', BookS B w' gb v L → Keep (fun i => v.ownBlock = some i) w w' → R (.returned (.int .i64 e)) w' := by
  intro w' h1 h2
  have := h w' (by rw [pairL_bad _ _ _ _ (by rw [he]; exact h0)]; exact h1) h2
  rwa [he] at this

theorem pair_none (B : Nat) (gb : Nat) (v : Value) (L : List InstD) (d r a : Int) (w : World) (R : Ending → World → Prop) (hB : BookS B w gb v L)
    (hn : (d < 1 ∨ (L.length : Int) < d) ∨ (r < 1 ∨ (L.length : Int) < r)) (hR : R (.returned (.int .i64 3)) w) :
    Calls Try.prog 20 #[.pointer (some ⟨gb, 0, none⟩), .int .i64 d, .int .i64 r, .int .i64 a] w R := by
  have HR := Hid.mk hR
  have HB := Hid.mk hB
  clear hR hB
  rcases pick L d with hd | ⟨i, x, rfl, hx, hi⟩
  · have HD := Hid.mk hd
    clear hd hn
    rcases pick L r with hr | ⟨j, y, rfl, hy, hj⟩
    · have HQ := Hid.mk hr
      clear hr
      go_enter Try.func20, Try.ntmps20
      go_wp2_with (fail)
      refine at_none B gb v L d _ _ HB.out HD.out ?_
      go_wp2_with (fail)
      refine at_none B gb v L r _ _ HB.out HQ.out ?_
      go_wp2_with (fail)
      exact HR.out
    · rcases HB.out.form with ⟨rfl, rfl⟩ | ⟨g, hg, _⟩
      · simp at hj
      have HJ := Hid.mk hj
      have HG := Hid.mk hg
      clear hj hg hy
      go_enter Try.func20, Try.ntmps20
      go_wp2_with (fail)
      refine at_none B gb v L d _ _ HB.out HD.out ?_
      go_wp2_with (fail)
      refine at_some B gb v L j g _ _ HB.out HJ.out HG.out ?_
      go_wp2_with (fail)
      exact HR.out
  · have hr : r < 1 ∨ (L.length : Int) < r := by omega
    rcases HB.out.form with ⟨rfl, rfl⟩ | ⟨g, hg, _⟩
    · simp at hi
    have HQ := Hid.mk hr
    have HI := Hid.mk hi
    have HG := Hid.mk hg
    clear hi hg hx hr hn
    go_enter Try.func20, Try.ntmps20
    go_wp2_with (fail)
    refine at_some B gb v L i g _ _ HB.out HI.out HG.out ?_
    go_wp2_with (fail)
    refine at_none B gb v L r _ _ HB.out HQ.out ?_
    go_wp2_with (fail)
    exact HR.out

theorem pair_state (B : Nat) (gb : Nat) (v : Value) (L : List InstD) (i j : Nat) (x y : InstD) (a : Int) (w : World) (R : Ending → World → Prop) (hB : BookS B w gb v L)
    (hx : L[i]? = some x) (hy : L[j]? = some y) (hs : x.state ≠ 0 ∨ y.state ≠ 0) (hR : R (.returned (.int .i64 20)) w) :
    Calls Try.prog 20 #[.pointer (some ⟨gb, 0, none⟩), .int .i64 ((i : Int) + 1), .int .i64 ((j : Int) + 1), .int .i64 a] w R := by
  have hi := (List.getElem?_eq_some_iff.1 hx).1
  have hj := (List.getElem?_eq_some_iff.1 hy).1
  rcases hB.form with ⟨rfl, rfl⟩ | ⟨g, hg, _⟩
  · simp at hi
  have c1 : w.cell? ⟨g, i * 21 + 17, none⟩ = some (.int .i64 x.state) := by rw [hB.at_ hg hx 17 (by omega)]; rfl
  have c2 : w.cell? ⟨g, j * 21 + 17, none⟩ = some (.int .i64 y.state) := by rw [hB.at_ hg hy 17 (by omega)]; rfl
  have HR := Hid.mk hR
  have HB := Hid.mk hB
  have HI := Hid.mk hi
  have HJ := Hid.mk hj
  have HG := Hid.mk hg
  obtain ⟨s, hs1⟩ : ∃ s, s = x.state := ⟨_, rfl⟩
  obtain ⟨t, ht1⟩ : ∃ s, s = y.state := ⟨_, rfl⟩
  rw [← hs1, ← ht1] at hs
  rw [← hs1] at c1
  rw [← ht1] at c2
  clear hR hB hi hj hg hx hy hs1 ht1
  by_cases h0 : s = 0
  · have h1 : (t == 0) = false := by simp; omega
    subst h0
    clear hs
    go_enter Try.func20, Try.ntmps20
    go_wp2_with (fail)
    refine at_some B gb v L i g _ _ HB.out HI.out HG.out ?_
    go_wp2_with (fail)
    refine at_some B gb v L j g _ _ HB.out HJ.out HG.out ?_
    go_wp2_with (fail)
    exact HR.out
  · have h1 : (s == 0) = false := by simpa using h0
    clear hs h0
    go_enter Try.func20, Try.ntmps20
    go_wp2_with (fail)
    refine at_some B gb v L i g _ _ HB.out HI.out HG.out ?_
    go_wp2_with (fail)
    refine at_some B gb v L j g _ _ HB.out HJ.out HG.out ?_
    go_wp2_with (fail)
    exact HR.out

set_option maxRecDepth 100000 in
theorem pair_self (B : Nat) (gb : Nat) (v : Value) (L : List InstD) (i : Nat) (x : InstD) (a : Int) (w : World) (R : Ending → World → Prop) (hB : BookS B w gb v L)
    (hx : L[i]? = some x) (hs : x.state = 0) (hR : ∀ n, R (.returned (.int .i64 1)) (w.drewN n)) :
    Calls Try.prog 20 #[.pointer (some ⟨gb, 0, none⟩), .int .i64 ((i : Int) + 1), .int .i64 ((i : Int) + 1), .int .i64 a] w R := by
  have hi := (List.getElem?_eq_some_iff.1 hx).1
  rcases hB.form with ⟨rfl, rfl⟩ | ⟨g, hg, _⟩
  · simp at hi
  have c1 : w.cell? ⟨g, i * 21 + 17, none⟩ = some (.int .i64 0) := by rw [hB.at_ hg hx 17 (by omega), ← hs]; rfl
  have hq : ∀ w : World, (binOp .eql 59 (.pointer (some ⟨g, i * 21, none⟩)) (.pointer (some ⟨g, i * 21, none⟩))).run Try.prog w = .ok (.bool true) w := fun w => eq_same w ⟨g, i * 21, none⟩
  have HR := Hid.mk hR
  have HB := Hid.mk hB
  have HI := Hid.mk hi
  have HG := Hid.mk hg
  clear hR hB hi hg hx hs
  go_enter Try.func20, Try.ntmps20
  go_wp2_with (fail)
  refine at_some B gb v L i g _ _ HB.out HI.out HG.out ?_
  go_wp2_with (fail)
  refine at_some B gb v L i g _ _ HB.out HI.out HG.out ?_
  go_wp2_with (fail)
  go_quiet (fail)
  go_wp2_with (fail)
  exact HR.out _

set_option maxRecDepth 100000 in
set_option maxHeartbeats 1000000 in
theorem pair_arg (B : Nat) (gb : Nat) (v : Value) (L : List InstD) (i j : Nat) (x y : InstD) (a : Int) (w : World) (R : Ending → World → Prop) (hB : BookS B w gb v L)
    (hx : L[i]? = some x) (hy : L[j]? = some y) (hsx : x.state = 0) (hsy : y.state = 0) (hij : i ≠ j) (hbad : x.t.deliver = false ∨ y.t.deliver = true ∨ x.t.qty ≠ y.t.qty ∨ a < 0 ∨ 1125899906842624 < a)
    (hR : ∀ n, R (.returned (.int .i64 1)) (w.drewN n)) :
    Calls Try.prog 20 #[.pointer (some ⟨gb, 0, none⟩), .int .i64 ((i : Int) + 1), .int .i64 ((j : Int) + 1), .int .i64 a] w R := by
  have hi := (List.getElem?_eq_some_iff.1 hx).1
  have hj := (List.getElem?_eq_some_iff.1 hy).1
  rcases hB.form with ⟨rfl, rfl⟩ | ⟨g, hg, _⟩
  · simp at hi
  have c1 : w.cell? ⟨g, i * 21 + 17, none⟩ = some (.int .i64 0) := by rw [hB.at_ hg hx 17 (by omega), ← hsx]; rfl
  have c2 : w.cell? ⟨g, j * 21 + 17, none⟩ = some (.int .i64 0) := by rw [hB.at_ hg hy 17 (by omega), ← hsy]; rfl
  have c3 : w.cell? ⟨g, i * 21 + 5, none⟩ = some (.bool x.t.deliver) := by rw [hB.at_ hg hx 5 (by omega)]; rfl
  have c4 : w.cell? ⟨g, j * 21 + 5, none⟩ = some (.bool y.t.deliver) := by rw [hB.at_ hg hy 5 (by omega)]; rfl
  have c5 : w.cell? ⟨g, i * 21 + 9, none⟩ = some (.int .i64 x.t.qty) := by rw [hB.at_ hg hx 9 (by omega)]; rfl
  have c6 : w.cell? ⟨g, j * 21 + 9, none⟩ = some (.int .i64 y.t.qty) := by rw [hB.at_ hg hy 9 (by omega)]; rfl
  have hq : ∀ n, (binOp .eql 59 (.pointer (some ⟨g, i * 21, none⟩)) (.pointer (some ⟨g, j * 21, none⟩))).run Try.prog (w.drewN n) = .ok (.bool false) (w.drewN n) := fun n => eq_other (hB.drewN n) hg i j hij
  have hq0 := eq_other hB hg i j hij
  have HR := Hid.mk hR
  have HB := Hid.mk hB
  have HI := Hid.mk hi
  have HJ := Hid.mk hj
  have HG := Hid.mk hg
  obtain ⟨dx, e1⟩ : ∃ s, s = x.t.deliver := ⟨_, rfl⟩
  obtain ⟨dy, e2⟩ : ∃ s, s = y.t.deliver := ⟨_, rfl⟩
  obtain ⟨qx, e3⟩ : ∃ s, s = x.t.qty := ⟨_, rfl⟩
  obtain ⟨qy, e4⟩ : ∃ s, s = y.t.qty := ⟨_, rfl⟩
  rw [← e1, ← e2, ← e3, ← e4] at hbad
  rw [← e1] at c3
  rw [← e2] at c4
  rw [← e3] at c5
  rw [← e4] at c6
  clear hR hB hi hj hg hx hy hsx hsy e1 e2 e3 e4 hij
  cases dx with
  | false =>
    clear hbad
    go_enter Try.func20, Try.ntmps20
    go_wp2_with (fail)
    refine at_some B gb v L i g _ _ HB.out HI.out HG.out ?_
    go_wp2_with (fail)
    refine at_some B gb v L j g _ _ HB.out HJ.out HG.out ?_
    go_wp2_with (fail)
    go_quiet (fail)
    go_wp2_with (fail)
    exact HR.out _
  | true =>
  cases dy with
  | true =>
    clear hbad
    go_enter Try.func20, Try.ntmps20
    go_wp2_with (fail)
    refine at_some B gb v L i g _ _ HB.out HI.out HG.out ?_
    go_wp2_with (fail)
    refine at_some B gb v L j g _ _ HB.out HJ.out HG.out ?_
    go_wp2_with (fail)
    go_quiet (fail)
    go_wp2_with (fail)
    exact HR.out _
  | false =>
  by_cases h3 : qx = qy
  · subst h3
    by_cases h4 : a < 0
    · have d4 : decide (a < 0) = true := by simpa using h4
      clear hbad h4
      go_enter Try.func20, Try.ntmps20
      go_wp2_with (fail)
      refine at_some B gb v L i g _ _ HB.out HI.out HG.out ?_
      go_wp2_with (fail)
      refine at_some B gb v L j g _ _ HB.out HJ.out HG.out ?_
      go_wp2_with (fail)
      go_quiet (fail)
      go_wp2_with (fail)
      exact HR.out _
    · have d4 : decide (a < 0) = false := by simpa using h4
      have h5 : 1125899906842624 < a := by simpa [h4] using hbad
      have d5 : decide (1125899906842624 < a) = true := by simpa using h5
      clear hbad h4 h5
      go_enter Try.func20, Try.ntmps20
      go_wp2_with (fail)
      refine at_some B gb v L i g _ _ HB.out HI.out HG.out ?_
      go_wp2_with (fail)
      refine at_some B gb v L j g _ _ HB.out HJ.out HG.out ?_
      go_wp2_with (fail)
      go_quiet (fail)
      go_wp2_with (fail)
      exact HR.out _
  · have d3 : (qx == qy) = false := by simpa using h3
    have d6 : (qx != qy) = true := by simpa using h3
    have d7 : decide (qx = qy) = false := by simpa using h3
    clear hbad
    go_enter Try.func20, Try.ntmps20
    go_wp2_with (fail)
    refine at_some B gb v L i g _ _ HB.out HI.out HG.out ?_
    go_wp2_with (fail)
    refine at_some B gb v L j g _ _ HB.out HJ.out HG.out ?_
    go_wp2_with (fail)
    go_quiet (fail)
    go_wp2_with (fail)
    exact HR.out _
end Go.Proofs.Yteecekijekegdaa
