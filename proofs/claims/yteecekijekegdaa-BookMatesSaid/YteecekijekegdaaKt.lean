/- For the walk of a store's Add: a record built, laid and appended, as single operations. Plain lemmas, no conditions but those that each names. -/
import Derived.Test.YteecekijekegdaaKs
namespace Go.Proofs.Yteecekijekegdaa
open Go.RowKit

/-- An instruction as Add enters it. -/
def newX (n : Int) (t : TermD) (prio : Int) (part held : Bool) : InstD := ⟨n, t, prio, part, held, false, 0, 0, 0, 0⟩
theorem info27 : (Try.prog.info? 27).map (·.size) = some 12 := by kernel_rfl
theorem info27z : (Try.prog.info? 27).map (fun i => (i.zero, i.size)) = some (some zeroT.val, 12) := by kernel_rfl
theorem built_new (n : Int) (t : TermD) (prio : Int) (part held : Bool) : Try.prog.built 32 [(0, .int .i64 n), (1, t.val), (2, .int .i64 prio), (3, .bool part), (4, .bool held)] = some (newX n t prio part held).cells.toArray := by
  obtain ⟨i0, hi0, hz0, hz1, hz2⟩ := info_parts info32z
  unfold Program.built
  have hu := Try.underlying32
  obtain ⟨fs, hfs, hu2⟩ : ∃ fs, Try.prog.underlying 32 = some (.struct fs) ∧ fs.toList.mapM (fun f => (Try.prog.info? f.type).map fun i => (f.offset, i.size)) = some [(0, 1), (1, 12), (13, 1), (14, 1), (15, 1), (16, 1), (17, 1), (18, 1), (19, 1), (20, 1)] := ⟨_, hu, by kernel_rfl⟩
  simp only [hi0, hfs, hz0, hu2]
  simp [Instr.fill, InstD.val, InstD.cells, Value.cells, zeroI, zeroT, newX, TermD.val, TermD.cells]

/-- The operation that builds it. -/
theorem exec_build {o : Oper} {a : Act} {w : World} (p q r s u : Operand) (ho : o.op = .build 32 #[(0, p), (1, q), (2, r), (3, s), (4, u)]) (n : Int) (t : TermD) (prio : Int) (part held : Bool)
    (h1 : a.eval p = .int .i64 n) (h2 : a.eval q = t.val) (h3 : a.eval r = .int .i64 prio) (h4 : a.eval s = .bool part) (h5 : a.eval u = .bool held) :
    (execOp a.eval o).run Try.prog w = .ok (.value (newX n t prio part held).val) w := by
  have hb : Try.prog.built 32 (#[(0, p), (1, q), (2, r), (3, s), (4, u)].map fun (i, y) => (i, a.eval y)).toList = some (newX n t prio part held).cells.toArray := by
    have e : (#[(0, p), (1, q), (2, r), (3, s), (4, u)].map fun (i, y) => (i, a.eval y)).toList = [(0, .int .i64 n), (1, t.val), (2, .int .i64 prio), (3, .bool part), (4, .bool held)] := by simp [h1, h2, h3, h4, h5]
    rw [e]
    exact built_new n t prio part held
  unfold execOp
  simp only [ho, Sem.run_bind, run_build w 32 _ _ hb, Result.andThen_ok]
  rfl
/-- A slice literal of one record, at the operation. -/
theorem wp_lit {o : Oper} {a : Act} {w : World} {K : Act → World → Prop} {Q : Exit → Act → World → Prop} (x0 : Operand) (ho : o.op = .buildSlice 40 1 #[(0, x0)])
    (x : InstD) (hx : a.eval x0 = x.val) (h : ∀ gl w', InstAt w' gl x → w.heap.size ≤ gl → Below w.heap.size w w' → K (a.put o.dst (.slice (some ⟨gl, 0, none⟩) 1 1)) w') : o.wp Try.prog a w K Q := by
  obtain ⟨i0, hi0, hz0, hz1, hz2⟩ := info_parts info32z
  refine wp_buildSlice 40 32 1 #[(0, x0)] ho x.cells.toArray i0 zeroI.val Try.underlying40 hi0 hz0 (by rw [hz1]; decide) (by rw [hz1]; decide) ?_ (h _ _ (blk_new _ _) (Nat.le_refl _) (below_allocs (Below.refl _ _) _))
  have e : (#[(0, x0)].map fun (i, y) => (i, a.eval y)).toList = [(0, x.val)] := by simp [hx]
  rw [e, hz1]
  exact fill_inst x
/-- A record appended, at the operation. -/
theorem wp_app {o : Oper} {a : Act} {w : World} {K : Act → World → Prop} {Q : Exit → Act → World → Prop} (s y : Operand)
    (ho : o.op = .call { callee := .builtin .append, args := #[s, y], argTypes := #[40, 40] }) (base : Nat) (v : Value) (L : List InstD) (hs : a.eval s = v) (hown : w.ownsRow base 32 21 v L.length (rows L)) (gl : Nat) (x : InstD)
    (hx : a.eval y = .slice (some ⟨gl, 0, none⟩) 1 1) (hl : InstAt w gl x) (hlen : L.length ≤ 120) (hbase : base ≤ w.heap.size)
    (h : ∀ v' w', w'.ownsRow base 32 21 v' (L ++ [x]).length (rows (L ++ [x])) → Keep (fun i => v.ownBlock = some i) w w' → (∀ g, v'.ownBlock = some g → v.ownBlock = some g ∨ w.heap.size ≤ g) → K (a.put o.dst v') w') : o.wp Try.prog a w K Q := by
  obtain ⟨i0, hi0, hz0, hz1, hz2⟩ := info_parts info32z
  refine wp_append_lies w s y 40 ho base 32 i0 zeroI.val 21 208 Try.underlying40 hi0 hz0 hz1 hz2 rfl (by omega) v L.length (rows L) hs hown ⟨gl, 0, none⟩ 1 1 x.cells hx (InstD.len x) (news_of hl) (oneAll x) (by omega) (by simp only [maxLen]; omega) (by omega) hbase _ rfl ?_
  intro g cap w1 h1 h2 h3 h4
  refine h _ w1 (by rw [List.length_append, rows_snoc]; exact h1) ⟨h2.os, h2.tape, h2.output, h2.size, fun i hi hn => h2.block i hi (fun e => hn e.symm)⟩ ?_
  intro g' hg'
  have : g = g' := by simpa [Value.ownBlock] using hg'
  subst this
  rcases h3 with h3 | h3
  · exact .inl h3
  · exact .inr (by omega)
theorem TermAt.range {w : World} {g : Nat} {t : TermD} (h : TermAt w g t) : w.rangeAt g 0 t.cells.toList := fun j v hv => by
  rw [blk_cell h, Nat.zero_add]; simpa using hv
theorem BookS.slice {B : Nat} {w : World} {gb : Nat} {v : Value} {L : List InstD} (h : BookS B w gb v L) : ∃ A cap, v = .slice A L.length cap := by
  rcases h.form with ⟨rfl, rfl⟩ | ⟨g, ⟨cap, _, _, rfl⟩, _⟩
  · exact ⟨_, _, rfl⟩
  · exact ⟨_, _, rfl⟩

/-- Why an instruction is not entered. -/
def addE (L : List InstD) (prio : Int) : Int := if 1 ≤ prio ∧ prio ≤ 4 then (if 120 ≤ L.length then 10 else 0) else 1
def addL (L : List InstD) (t : TermD) (prio : Int) (part held : Bool) : List InstD := if addE L prio = 0 then L ++ [newX ((L.length : Int) + 1) t prio part held] else L
def addN (L : List InstD) (prio : Int) : Int := if addE L prio = 0 then (L.length : Int) + 1 else 0

theorem add_prio (gb : Nat) (t : TermD) (prio : Int) (part held : Bool) (w : World) (R : Ending → World → Prop) (hp : ¬ (1 ≤ prio ∧ prio ≤ 4))
    (hR : ∀ w', Below w.heap.size w w' → R (.returned (.tuple #[.int .i64 0, .int .i64 1])) w') :
    Calls Try.prog 10 #[.pointer (some ⟨gb, 0, none⟩), t.val, .int .i64 prio, .bool part, .bool held] w R := by
  have HR := Hid.mk hR
  have HP : Hid ((decide (1 ≤ prio) && decide (prio ≤ 4)) = false) := Hid.mk (by simp; omega)
  clear hR hp
  unfold TermD.val TermD.cells
  go_enter Try.func10, Try.ntmps10
  go_wp2_with (fail)
  refine prio_calls prio _ _ ?_
  rw [HP.out]
  go_wp2_with (fail)
  exact HR.out _ (below_allocs (Below.refl _ _) _)

theorem add_full (B : Nat) (gb : Nat) (v : Value) (L : List InstD) (t : TermD) (prio : Int) (part held : Bool) (w : World) (R : Ending → World → Prop) (hB : BookS B w gb v L) (hp : 1 ≤ prio ∧ prio ≤ 4) (hl : 120 ≤ L.length)
    (hR : ∀ w', Below w.heap.size w w' → R (.returned (.tuple #[.int .i64 0, .int .i64 10])) w') :
    Calls Try.prog 10 #[.pointer (some ⟨gb, 0, none⟩), t.val, .int .i64 prio, .bool part, .bool held] w R := by
  have HR := Hid.mk hR
  have HP : Hid ((decide (1 ≤ prio) && decide (prio ≤ 4)) = true) := Hid.mk (by simp; omega)
  obtain ⟨A, cap, rfl⟩ := hB.slice
  obtain ⟨m, hm⟩ : ∃ m, m = L.length := ⟨_, rfl⟩
  have hlt := blk_lt hB.cell
  have hc : w.cell? ⟨gb, 0, none⟩ = some (.slice A m cap) := by rw [blk_cell hB.cell, hm]; rfl
  obtain ⟨W, hW⟩ : ∃ W, W = w.alloc (.cells t.cells 27) := ⟨_, rfl⟩
  have hcW : W.cell? ⟨gb, 0, none⟩ = some (.slice A m cap) := by rw [hW, World.cell?_alloc_lt _ _ _ hlt]; exact hc
  have HBW : Hid (Below w.heap.size w W) := Hid.mk (by rw [hW]; exact below_allocs (Below.refl _ _) _)
  have h120 : (120 : Int) ≤ (m : Int) := by omega
  clear hR hp hB hl hm hlt hc
  unfold TermD.val
  go_enter Try.func10, Try.ntmps10
  go_upto_region 1 with (fail)
  rw [← hW]
  clear hW
  go_wp2_with (fail)
  refine prio_calls prio _ _ ?_
  rw [HP.out]
  go_wp2_with (fail)
  exact HR.out _ HBW.out
end Go.Proofs.Yteecekijekegdaa
