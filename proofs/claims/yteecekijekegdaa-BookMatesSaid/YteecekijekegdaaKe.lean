/- The store's state: a list of records, in a slice of the store's own; what one record's field is. Plain definitions and lemmas, no conditions but those that each names. -/
import Derived.Test.YteecekijekegdaaKd
import Derived.Test.YteecekijekegdaaKi
import Derived.Deep.MidRow
import Derived.Laws.OwnMore
import Derived.Deep.AppendLies
namespace Go.Proofs.Yteecekijekegdaa
open Go.RowKit

/-- An instruction: its twenty-one cells. -/
structure InstD where
  id : Int
  t : TermD
  prio : Int
  part : Bool
  held : Bool
  wish : Bool
  state : Int
  mate : Int
  done : Int
  paid : Int
def InstD.cells (x : InstD) : List Value :=
  [.int .i64 x.id, .string x.t.party, .string x.t.account, .string x.t.money, .string x.t.other, .bool x.t.deliver, .string x.t.asset, .string x.t.ccy, .string x.t.ref, .int .i64 x.t.qty, .int .i64 x.t.amount, .int .i64 x.t.day, .int .i64 x.t.trade,
   .int .i64 x.prio, .bool x.part, .bool x.held, .bool x.wish, .int .i64 x.state, .int .i64 x.mate, .int .i64 x.done, .int .i64 x.paid]
def InstD.val (x : InstD) : Value := .agg x.cells.toArray
theorem InstD.len (x : InstD) : x.cells.length = 21 := rfl
def zeroI : InstD := ⟨0, zeroT, 0, false, false, false, 0, 0, 0, 0⟩

/-- The cells of a list of records. -/
def rows (L : List InstD) : List Value := L.flatMap InstD.cells
theorem rows_len (L : List InstD) : (rows L).length = L.length * 21 := by
  unfold rows
  induction L with
  | nil => rfl
  | cons x L ih => rw [List.flatMap_cons, List.length_append, ih, InstD.len, List.length_cons]; omega
theorem rows_snoc (L : List InstD) (x : InstD) : rows (L ++ [x]) = rows L ++ x.cells := by unfold rows; simp
theorem rows_get (L : List InstD) (k : Nat) (x : InstD) (h : L[k]? = some x) (j : Nat) (hj : j < 21) : (rows L)[k * 21 + j]? = x.cells[j]? := by
  induction L generalizing k with
  | nil => simp at h
  | cons y L ih =>
    have e : rows (y :: L) = y.cells ++ rows L := rfl
    rw [e]
    cases k with
    | zero =>
      simp at h
      subst h
      rw [List.getElem?_append_left (by rw [InstD.len]; omega)]
      simp
    | succ k =>
      rw [List.getElem?_append_right (by rw [InstD.len]; omega), InstD.len]
      rw [← ih k (by simpa using h)]
      congr 1
      omega
theorem rows_set (L : List InstD) (k : Nat) (x y : InstD) (h : L[k]? = some x) (j : Nat) (hj : j < 21) (u : Value) (hy : x.cells.set j u = y.cells) : (rows L).set (k * 21 + j) u = rows (L.set k y) := by
  induction L generalizing k with
  | nil => simp at h
  | cons z L ih =>
    have e : ∀ (z : InstD) (L : List InstD), rows (z :: L) = z.cells ++ rows L := fun _ _ => rfl
    cases k with
    | zero =>
      simp at h
      subst h
      rw [List.set_cons_zero, e, e, List.set_append_left (h := by rw [InstD.len]; omega)]
      simp [hy]
    | succ k =>
      rw [List.set_cons_succ, e, e, List.set_append_right (h := by rw [InstD.len]; omega), InstD.len]
      rw [← ih k (by simpa using h)]
      congr 2
      omega

/-- The store: one block of one cell, its slice; the slice owns the records' cells. -/
structure BookS (B : Nat) (w : World) (gb : Nat) (v : Value) (L : List InstD) : Prop where
  cell : w.heap[gb]? = some (.cells #[v] 56 (0, 0))
  base : B ≤ gb
  own : w.ownsRow B 32 21 v L.length (rows L)

theorem BookS.ne {B : Nat} {w : World} {gb : Nat} {v : Value} {L : List InstD} (h : BookS B w gb v L) : v.ownBlock ≠ some gb := by
  intro e
  rcases h.own.2 with ⟨rfl, _⟩ | ⟨g, cap, cur, rfl, _, hg, _⟩
  · simp [Value.ownBlock] at e
  · have : g = gb := by simpa [Value.ownBlock] using e
    subst this
    have := h.cell
    rw [hg] at this
    injection this with this
    injection this with _ ht
    exact absurd ht (by decide)

/-- Where the records lie. -/
def Value.rowOf (v : Value) (n g : Nat) : Prop := ∃ cap, n ≤ cap ∧ cap ≤ maxLen ∧ v = .slice (some ⟨g, 0, none⟩) n cap
theorem BookS.form {B : Nat} {w : World} {gb : Nat} {v : Value} {L : List InstD} (h : BookS B w gb v L) : (v = .slice none 0 0 ∧ L = []) ∨ ∃ g, Value.rowOf v L.length g ∧ B ≤ g ∧ g < w.heap.size ∧ g ≠ gb ∧ v.ownBlock = some g := by
  have hne := h.ne
  rcases h.own.2 with ⟨hv, h0⟩ | ⟨g, cap, cur, hv, hb, hg, h1, h2, _⟩
  · exact .inl ⟨hv, List.eq_nil_of_length_eq_zero h0⟩
  · subst hv
    refine .inr ⟨g, ⟨cap, h1, h2, rfl⟩, hb, blk_lt hg, ?_, rfl⟩
    rintro rfl
    exact hne rfl
theorem BookS.at_ {B : Nat} {w : World} {gb : Nat} {v : Value} {L : List InstD} (h : BookS B w gb v L) {g : Nat} (hv : Value.rowOf v L.length g) {k : Nat} {x : InstD} (hk : L[k]? = some x) (j : Nat) (hj : j < 21) :
    w.cell? ⟨g, k * 21 + j, none⟩ = x.cells[j]? := by
  obtain ⟨cap, _, _, rfl⟩ := hv
  have hlt : k < L.length := (List.getElem?_eq_some_iff.1 hk).1
  rw [h.own.cellAt _ (by omega), rows_get L k x hk j hj]
theorem BookS.free {B : Nat} {w : World} {gb : Nat} {v : Value} {L : List InstD} (h : BookS B w gb v L) {g : Nat} (hv : Value.rowOf v L.length g) (j : Nat) : w.frozen? ⟨g, j, none⟩ = false := by
  obtain ⟨cap, _, _, rfl⟩ := hv
  exact h.own.frozenAt j
/-- One cell of one record written. -/
theorem BookS.put {B : Nat} {w : World} {gb : Nat} {v : Value} {L : List InstD} (h : BookS B w gb v L) {g : Nat} (hv : Value.rowOf v L.length g) {k : Nat} {x : InstD} (hk : L[k]? = some x) (y : InstD) (j : Nat) (hj : j < 21) (u : Value)
    (hy : x.cells.set j u = y.cells) : BookS B (w.setCell ⟨g, k * 21 + j, none⟩ u) gb v (L.set k y) := by
  have hne := h.ne
  obtain ⟨cap, _, _, rfl⟩ := hv
  obtain ⟨h1, _⟩ := h.own.stored (k * 21 + j) u
  rw [rows_set L k x y hk j hj u hy] at h1
  refine ⟨?_, h.base, by rw [List.length_set]; exact h1⟩
  exact blk_far h.cell (fun e => hne (by rw [show gb = g from e]; rfl)) u
theorem BookS.keep {B : Nat} {w w' : World} {gb : Nat} {v : Value} {L : List InstD} (h : BookS B w gb v L) {S : Nat → Prop} (k : Keep S w w') (hb : ¬ S gb) (hv : ∀ g, v.ownBlock = some g → ¬ S g) : BookS B w' gb v L := by
  refine ⟨k.heap h.cell hb, h.base, ⟨h.own.1, ?_⟩⟩
  rcases h.own.2 with h2 | ⟨g, cap, cur, rfl, h3, hg, h4⟩
  · exact .inl h2
  · exact .inr ⟨g, cap, cur, rfl, h3, k.heap hg (hv g rfl), h4⟩
theorem BookS.below {B : Nat} {w w' : World} {gb : Nat} {v : Value} {L : List InstD} (h : BookS B w gb v L) (k : Below w.heap.size w w') : BookS B w' gb v L := h.keep (Keep.of_below k) (fun h => h) (fun _ _ h => h)
theorem BookS.alloc {B : Nat} {w : World} {gb : Nat} {v : Value} {L : List InstD} (h : BookS B w gb v L) (o : Obj) : BookS B (w.alloc o) gb v L := h.below (below_allocs (Below.refl _ _) _)

theorem at_none (B : Nat) (gb : Nat) (v : Value) (L : List InstD) (n : Int) (w : World) (R : Ending → World → Prop) (hB : BookS B w gb v L) (hn : n < 1 ∨ (L.length : Int) < n) (hR : R (.returned (.pointer none)) w) :
    Calls Try.prog 26 #[.pointer (some ⟨gb, 0, none⟩), .int .i64 n] w R := by
  have HR := Hid.mk hR
  clear hR
  have HB := Hid.mk hB
  have hc : w.cell? ⟨gb, 0, none⟩ = some v := by rw [blk_cell hB.cell]; rfl
  have hf := hB.form
  clear hB
  rcases hn with hn | hn
  · go_enter Try.func26, Try.ntmps26
    go_wp2_with (fail)
    exact HR.out
  · by_cases h1 : n < 1
    · go_enter Try.func26, Try.ntmps26
      go_wp2_with (fail)
      exact HR.out
    · rcases hf with ⟨rfl, rfl⟩ | ⟨g, ⟨cap, h2, h3, rfl⟩, _⟩
      · simp only [List.length_nil, Int.natCast_zero] at hn
        go_enter Try.func26, Try.ntmps26
        go_wp2_with (fail)
        exact HR.out
      · obtain ⟨m, hm⟩ : ∃ m, m = L.length := ⟨_, rfl⟩
        rw [← hm] at hc hn
        clear hm
        go_enter Try.func26, Try.ntmps26
        go_wp2_with (fail)
        exact HR.out

theorem at_some (B : Nat) (gb : Nat) (v : Value) (L : List InstD) (k g : Nat) (w : World) (R : Ending → World → Prop) (hB : BookS B w gb v L) (hk : k < L.length) (hv : Value.rowOf v L.length g)
    (hR : R (.returned (.pointer (some ⟨g, k * 21, none⟩))) w) :
    Calls Try.prog 26 #[.pointer (some ⟨gb, 0, none⟩), .int .i64 ((k : Int) + 1)] w R := by
  have HR := Hid.mk hR
  clear hR
  have hc : w.cell? ⟨gb, 0, none⟩ = some v := by rw [blk_cell hB.cell]; rfl
  clear hB
  obtain ⟨cap, h2, h3, rfl⟩ := hv
  obtain ⟨m, hm⟩ : ∃ m, m = L.length := ⟨_, rfl⟩
  rw [← hm] at hc hk h2
  clear hm
  unfold maxLen at h3
  go_enter Try.func26, Try.ntmps26
  go_wp2_with (fail)
  exact HR.out
end Go.Proofs.Yteecekijekegdaa
