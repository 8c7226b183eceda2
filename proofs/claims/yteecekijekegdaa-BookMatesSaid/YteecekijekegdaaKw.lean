/- Two terms, two instructions compared that are the same. Plain lemmas, no conditions. -/
import Derived.Test.YteecekijekegdaaKv
import Derived.Laws.StructEq
namespace Go.Proofs.Yteecekijekegdaa
open Go.RowKit

theorem fields27 : Try.prog.underlying 27 = some (.struct (Try.prog.fieldsOf 27)) := by kernel_rfl
theorem fields32 : Try.prog.underlying 32 = some (.struct (Try.prog.fieldsOf 32)) := by kernel_rfl
theorem held27 : Try.prog.stoodInHeld 27 = false := by kernel_rfl
theorem held32 : Try.prog.stoodInHeld 32 = false := by kernel_rfl
theorem same_term (d : Nat) (t : TermD) (w : World) : (Op.equalIn (d + 2) 27 t.val t.val).run Try.prog w = .ok true w := by
  unfold TermD.val
  rw [run_equalIn_struct _ _ _ _ _ fields27 held27]
  simp [Program.fieldsOf, go_sem, Try.underlying27, Op.eqFields, TermD.cells]
theorem neq_term (t : TermD) (w : World) : (binOp .neq 27 t.val t.val).run Try.prog w = .ok (.bool false) w := by
  have h := same_term 9998 t w
  unfold TermD.val at h ⊢
  rw [run_neq_struct, h]
  rfl
theorem same_inst (d : Nat) (x : InstD) (w : World) : (Op.equalIn (d + 3) 32 x.val x.val).run Try.prog w = .ok true w := by
  have ht := fun w => same_term d x.t w
  unfold TermD.val TermD.cells at ht
  unfold InstD.val
  rw [run_equalIn_struct _ _ _ _ _ fields32 held32]
  simp [Program.fieldsOf, go_sem, Try.underlying32, Op.eqFields, InstD.cells]
theorem eql_inst (x : InstD) (w : World) : (binOp .eql 32 x.val x.val).run Try.prog w = .ok (.bool true) w := by
  have h := same_inst 9997 x w
  unfold InstD.val at h ⊢
  rw [run_eql_struct, h]
  rfl
theorem wp_run {P : Program} {o : Oper} {a : Act} {w : World} {K : Act → World → Prop} {Q : Exit → Act → World → Prop} {v : Value} (hr : (execOp a.eval o).run P w = .ok (.value v) w) (h : K (a.put o.dst v) w) : o.wp P a w K Q := by
  unfold Oper.wp
  simp only [hr]
  exact h
theorem guard32 : Try.prog.eqGuardType Try.prog.depth 32 = false := by kernel_rfl
theorem guard27 : Try.prog.eqGuardType Try.prog.depth 27 = false := by kernel_rfl
theorem exec_eql32 {o : Oper} {a : Act} {w : World} (p q : Operand) (ho : o.op = .binOp .eql 32 p q 32) (x : InstD) (hp : a.eval p = x.val) (hq : a.eval q = x.val) : (execOp a.eval o).run Try.prog w = .ok (.value (.bool true)) w := by
  have h := eql_inst x w
  unfold execOp
  simp only [ho, hp, hq, Sem.run_bind]
  unfold InstD.val at h ⊢
  rw [run_eqGuard_agg w .eql 32 p q _ _ guard32]
  simp only [Result.andThen_ok, h, Sem.run_pure]
theorem exec_neq27 {o : Oper} {a : Act} {w : World} (p q : Operand) (ho : o.op = .binOp .neq 27 p q 27) (x : TermD) (hp : a.eval p = x.val) (hq : a.eval q = x.val) : (execOp a.eval o).run Try.prog w = .ok (.value (.bool false)) w := by
  have h := neq_term x w
  unfold execOp
  simp only [ho, hp, hq, Sem.run_bind]
  unfold TermD.val at h ⊢
  rw [run_eqGuard_agg w .neq 27 p q _ _ guard27]
  simp only [Result.andThen_ok, h, Sem.run_pure]
theorem built_zero : Try.prog.built 32 [] = some zeroI.cells.toArray := by
  obtain ⟨i0, hi0, hz0, hz1, hz2⟩ := info_parts info32z
  unfold Program.built
  obtain ⟨fs, hfs, hu2⟩ : ∃ fs, Try.prog.underlying 32 = some (.struct fs) ∧ fs.toList.mapM (fun f => (Try.prog.info? f.type).map fun i => (f.offset, i.size)) = some [(0, 1), (1, 12), (13, 1), (14, 1), (15, 1), (16, 1), (17, 1), (18, 1), (19, 1), (20, 1)] := ⟨_, Try.underlying32, by kernel_rfl⟩
  simp only [hi0, hfs, hz0, hu2]
  rfl
theorem exec_zero {o : Oper} {a : Act} {w : World} (ho : o.op = .build 32 #[]) : (execOp a.eval o).run Try.prog w = .ok (.value zeroI.val) w := by
  have hb : Try.prog.built 32 ((#[] : Array (Nat × Operand)).map fun (i, y) => (i, a.eval y)).toList = some zeroI.cells.toArray := by
    rw [Array.map_empty]
    exact built_zero
  unfold execOp
  simp only [ho, Sem.run_bind, run_build w 32 _ _ hb, Result.andThen_ok]
  rfl
end Go.Proofs.Yteecekijekegdaa
