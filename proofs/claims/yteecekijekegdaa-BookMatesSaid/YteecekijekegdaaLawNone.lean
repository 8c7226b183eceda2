/- The walk of the law BookNone: it answers true, at every input. No condition but that the op is one that can be read. -/
import Derived.Test.YteecekijekegdaaKw
import Derived.Test.YteecekijekegdaaRowKit2
namespace Go.Proofs.Yteecekijekegdaa
open Go.RowKit

theorem expire_nil (g : Nat) (w : World) (R : Ending → World → Prop) (hc : w.cell? ⟨g, 0, none⟩ = some (.int .i64 1)) (hR : R (.returned (.int .i64 0)) w) :
    Calls Try.prog 14 #[.pointer none, .slice (some ⟨g, 0, none⟩) 1 1] w R := by
  have HR := Hid.mk hR
  clear hR
  go_enter Try.func14, Try.ntmps14
  go_wp2_with (fail)
  refine wp_loop_rounds 2 ?_
  rw [rounds_succ]
  go_wp2_with (fail)
  refine at_nil 1 _ _ ?_
  go_wp2_with (fail)
  rw [rounds_succ]
  go_wp2_with (fail)
  exact HR.out
/-- An op in a block of its own. -/
def OpIn (w : World) (g : Nat) (o : OpD) : Prop := w.heap[g]? = some (.cells o.cells.toArray 39 (0, 0))
theorem OpIn.cell {w : World} {g : Nat} {o : OpD} (h : OpIn w g o) (j : Nat) : w.cell? ⟨g, j, none⟩ = o.cells[j]? := by rw [blk_cell h]; simp
theorem OpIn.below {w w' : World} {g : Nat} {o : OpD} (h : OpIn w g o) (k : Below w.heap.size w w') : OpIn w' g o := (Keep.of_below k).heap h (fun h => h)
theorem OpIn.term {w : World} {g : Nat} {o : OpD} (h : OpIn w g o) : w.rangeAt g 4 o.t.cells.toList := fun j v hv => by
  rw [h.cell]
  have hj : j < 12 := by have := (List.getElem?_eq_some_iff.1 hv).1; simpa [TermD.cells] using this
  have : j = 0 ∨ j = 1 ∨ j = 2 ∨ j = 3 ∨ j = 4 ∨ j = 5 ∨ j = 6 ∨ j = 7 ∨ j = 8 ∨ j = 9 ∨ j = 10 ∨ j = 11 := by omega
  rcases this with rfl | rfl | rfl | rfl | rfl | rfl | rfl | rfl | rfl | rfl | rfl | rfl <;> exact hv

set_option linter.unusedSimpArgs false in
set_option maxRecDepth 100000 in
set_option maxHeartbeats 2000000 in
theorem none_calls (o : OpD) (w : World) (R : Ending → World → Prop) (_hg : o.Good w) (hR : ∀ w', Below w.heap.size w w' → R (.returned (.bool true)) w') :
    Calls Try.prog 4 #[.agg o.cells.toArray] w R := by
  have HR := Hid.mk hR
  clear hR
  obtain ⟨W, hW⟩ : ∃ W, W = w.alloc (.cells o.cells.toArray 39) := ⟨_, rfl⟩
  obtain ⟨gt, hgt⟩ : ∃ g, g = w.heap.size := ⟨_, rfl⟩
  have hO : OpIn W gt o := by rw [hW, hgt]; exact blk_new _ _
  have HO := Hid.mk hO
  have HB : Hid (Below w.heap.size w W) := Hid.mk (by rw [hW]; exact below_allocs (Below.refl _ _) _)
  have c1 : W.cell? ⟨gt, 1, none⟩ = some (.int .i64 o.a) := by rw [hO.cell]; rfl
  have c16 : W.cell? ⟨gt, 16, none⟩ = some (.bool o.on) := by rw [hO.cell]; rfl
  have c17 : W.cell? ⟨gt, 17, none⟩ = some (.bool o.off) := by rw [hO.cell]; rfl
  have HT := Hid.mk hO.term
  clear hO
  go_enter Try.func4, Try.ntmps4
  go_upto_region 1 with (fail)
  rw [← hW, ← hgt]
  clear hW hgt
  go_wp2_with (refine wpList_load_mid rfl 27 (.tmp 10) rfl gt 4 rfl o.t.cells.toList _ HT.out Try.underlying27 rfl info27 ?_)
  refine add_nil o.t o.a o.on o.off _ _ ?_
  intro w1 hb1
  have HO1 := Hid.mk (HO.out.below hb1)
  have HB1 := Hid.mk (below_then HB.out hb1)
  have c1 : w1.cell? ⟨gt, 1, none⟩ = some (.int .i64 o.a) := by rw [HO1.out.cell]; rfl
  clear hb1 HT HO HB
  go_wp2_with (fail)
  refine get_nil o.a _ _ ?_
  intro w2 hb2
  have HO2 := Hid.mk (HO1.out.below hb2)
  have HB2 := Hid.mk (below_then HB1.out hb2)
  clear hb2 HO1 HB1 c1
  obtain ⟨gz, hgz⟩ : ∃ gz, gz = w2.heap.size := ⟨_, rfl⟩
  have HGZ := Hid.mk hgz
  clear hgz
  go_wp2_with (refine wpList_var (op := ⟨none, .store 32 (.tmp 6) (.tmp 26), _, _, _, _⟩) rfl (.tmp 6) (.tmp 26) rfl rfl zeroI rfl rfl rfl ?_; intro w3 hi3 hb3; have HI3 : Hid (InstAt w3 gz zeroI) := Hid.mk (by rw [HGZ.out]; exact hi3); have HO3 := Hid.mk (HO2.out.below hb3); have HB3 := Hid.mk (below_then HB2.out hb3); rw [← HGZ.out]; clear hi3 hb3)
  rename_i K0 hK0
  refine alive_calls _ _ ?_
  intro w4 hb4
  have HO4 := Hid.mk (HO3.out.below hb4)
  have HI4 := Hid.mk (HI3.out.below hb4)
  have HB4 := Hid.mk (below_then HB3.out hb4)
  clear hb4 HO2 HO3 HB2 HB3 HI3 HGZ
  dsimp only
  refine hK0 _ _ ?_
  clear hK0 K0
  try simp only [Act.put, Array.getInternal_eq_getElem, List.getElem_toArray, List.getElem_cons_zero, List.getElem_cons_succ, List.setIfInBounds_toArray, List.set_cons_zero, List.set_cons_succ]
  refine BigFrame.wpList_want (by rfl) (fun K hK => ?_)
  go_simp
  try (refine hK _ _ ?_; clear hK K)
  try simp only [Act.put, Array.getInternal_eq_getElem, List.getElem_toArray, List.getElem_cons_zero, List.getElem_cons_succ, List.setIfInBounds_toArray, List.set_cons_zero, List.set_cons_succ]
  refine BigFrame.wpList_want (by rfl) (fun K hK => ?_)
  go_simp
  try (refine hK _ _ ?_; clear hK K)
  try simp only [Act.put, Array.getInternal_eq_getElem, List.getElem_toArray, List.getElem_cons_zero, List.getElem_cons_succ, List.setIfInBounds_toArray, List.set_cons_zero, List.set_cons_succ]
  refine BigFrame.wpList_want (by rfl) (fun K hK => ?_)
  go_simp
  try (refine hK _ _ ?_; clear hK K)
  try simp only [Act.put, Array.getInternal_eq_getElem, List.getElem_toArray, List.getElem_cons_zero, List.getElem_cons_succ, List.setIfInBounds_toArray, List.set_cons_zero, List.set_cons_succ]
  refine BigFrame.wpList_want (by rfl) (fun K hK => ?_)
  go_simp
  try (refine hK _ _ ?_; clear hK K)
  try simp only [Act.put, Array.getInternal_eq_getElem, List.getElem_toArray, List.getElem_cons_zero, List.getElem_cons_succ, List.setIfInBounds_toArray, List.set_cons_zero, List.set_cons_succ]
  refine BigFrame.wpList_want (by rfl) (fun K hK => ?_)
  go_simp
  try (refine hK _ _ ?_; clear hK K)
  try simp only [Act.put, Array.getInternal_eq_getElem, List.getElem_toArray, List.getElem_cons_zero, List.getElem_cons_succ, List.setIfInBounds_toArray, List.set_cons_zero, List.set_cons_succ]
  refine BigFrame.wpList_want (by rfl) (fun K hK => ?_)
  go_simp
  try (refine hK _ _ ?_; clear hK K)
  try simp only [Act.put, Array.getInternal_eq_getElem, List.getElem_toArray, List.getElem_cons_zero, List.getElem_cons_succ, List.setIfInBounds_toArray, List.set_cons_zero, List.set_cons_succ]
  refine BigFrame.wpList_want (by rfl) (fun K hK => ?_)
  go_simp
  try (refine hK _ _ ?_; clear hK K)
  try simp only [Act.put, Array.getInternal_eq_getElem, List.getElem_toArray, List.getElem_cons_zero, List.getElem_cons_succ, List.setIfInBounds_toArray, List.set_cons_zero, List.set_cons_succ]
  refine BigFrame.wpList_want (by rfl) (fun K hK => ?_)
  go_simp
  try (refine hK _ _ ?_; clear hK K)
  try simp only [Act.put, Array.getInternal_eq_getElem, List.getElem_toArray, List.getElem_cons_zero, List.getElem_cons_succ, List.setIfInBounds_toArray, List.set_cons_zero, List.set_cons_succ]
  refine BigFrame.wpList_want (by rfl) (fun K hK => ?_)
  go_simp
  try (refine hK _ _ ?_; clear hK K)
  try simp only [Act.put, Array.getInternal_eq_getElem, List.getElem_toArray, List.getElem_cons_zero, List.getElem_cons_succ, List.setIfInBounds_toArray, List.set_cons_zero, List.set_cons_succ]
  refine BigFrame.wpList_want (by rfl) (fun K hK => ?_)
  go_simp
  try (refine hK _ _ ?_; clear hK K)
  try simp only [Act.put, Array.getInternal_eq_getElem, List.getElem_toArray, List.getElem_cons_zero, List.getElem_cons_succ, List.setIfInBounds_toArray, List.set_cons_zero, List.set_cons_succ]
  refine BigFrame.wpList_want (by rfl) (fun K hK => ?_)
  go_simp
  try (refine hK _ _ ?_; clear hK K)
  try simp only [Act.put, Array.getInternal_eq_getElem, List.getElem_toArray, List.getElem_cons_zero, List.getElem_cons_succ, List.setIfInBounds_toArray, List.set_cons_zero, List.set_cons_succ]
  refine BigFrame.wpList_want (by rfl) (fun K hK => ?_)
  go_simp
  try (refine hK _ _ ?_; clear hK K)
  try simp only [Act.put, Array.getInternal_eq_getElem, List.getElem_toArray, List.getElem_cons_zero, List.getElem_cons_succ, List.setIfInBounds_toArray, List.set_cons_zero, List.set_cons_succ]
  refine BigFrame.wpList_want (by rfl) (fun K hK => ?_)
  go_simp
  try (refine hK _ _ ?_; clear hK K)
  try simp only [Act.put, Array.getInternal_eq_getElem, List.getElem_toArray, List.getElem_cons_zero, List.getElem_cons_succ, List.setIfInBounds_toArray, List.set_cons_zero, List.set_cons_succ]
  refine BigFrame.wpList_want (by rfl) (fun K hK => ?_)
  refine wp_load_mid 32 (.tmp 6) rfl gz 0 rfl zeroI.cells _ HI4.out.range Try.underlying32 rfl info32 ?_
  refine hK _ _ ?_
  clear hK K
  try simp only [Act.put, Array.getInternal_eq_getElem, List.getElem_toArray, List.getElem_cons_zero, List.getElem_cons_succ, List.setIfInBounds_toArray, List.set_cons_zero, List.set_cons_succ]
  refine BigFrame.wpList_want (by rfl) (fun K hK => ?_)
  refine wp_run (v := zeroI.val) (exec_zero rfl) ?_
  refine hK _ _ ?_
  clear hK K
  try simp only [Act.put, Array.getInternal_eq_getElem, List.getElem_toArray, List.getElem_cons_zero, List.getElem_cons_succ, List.setIfInBounds_toArray, List.set_cons_zero, List.set_cons_succ]
  refine BigFrame.wpList_want (by rfl) (fun K hK => ?_)
  refine wp_run (v := .bool true) (exec_eql32 (.tmp 42) (.tmp 43) rfl zeroI rfl rfl) ?_
  refine hK _ _ ?_
  clear hK K
  try simp only [Act.put, Array.getInternal_eq_getElem, List.getElem_toArray, List.getElem_cons_zero, List.getElem_cons_succ, List.setIfInBounds_toArray, List.set_cons_zero, List.set_cons_succ]
  have c18 : w4.cell? ⟨gt, 18, none⟩ = some (.string o.party) := by rw [HO4.out.cell]; rfl
  go_wp2_with (go_at_call 13; refine list_nil _ _ _ ?_)
  refine count_nil _ _ ?_
  go_wp2_with (fail)
  have HB5 : Hid (Below w.heap.size w (w4.alloc (.cells #[.int .i64 1] 3))) := Hid.mk (below_allocs HB4.out _)
  have HO5 : Hid (OpIn (w4.alloc (.cells #[.int .i64 1] 3)) gt o) := Hid.mk (HO4.out.below (below_allocs (Below.refl _ _) _))
  have hc1 : (w4.alloc (.cells #[.int .i64 1] 3)).cell? ⟨w4.heap.size, 0, none⟩ = some (.int .i64 1) := by rw [blk_cell (blk_new _ _)]; rfl
  obtain ⟨w5, hw5⟩ : ∃ w5, w5 = w4.alloc (.cells #[.int .i64 1] 3) := ⟨_, rfl⟩
  rw [← hw5] at HB5 HO5 hc1 ⊢
  refine expire_nil _ _ _ hc1 ?_
  have c18 : w5.cell? ⟨gt, 18, none⟩ = some (.string o.party) := by rw [HO5.out.cell]; rfl
  clear hw5 hc1 c18
  have c18 : w5.cell? ⟨gt, 18, none⟩ = some (.string o.party) := by rw [HO5.out.cell]; rfl
  go_wp2_with (fail)
  refine hold_nil o.party true _ _ _ ?_
  have HB6 : Hid (Below w.heap.size w (w5.alloc (.cells #[.int .i64 1] 3))) := Hid.mk (below_allocs HB5.out _)
  have HO6 : Hid (OpIn (w5.alloc (.cells #[.int .i64 1] 3)) gt o) := Hid.mk (HO5.out.below (below_allocs (Below.refl _ _) _))
  obtain ⟨w6, hw6⟩ : ∃ w6, w6 = w5.alloc (.cells #[.int .i64 1] 3) := ⟨_, rfl⟩
  rw [← hw6] at HB6 HO6 ⊢
  clear hw6 c18
  have c18 : w6.cell? ⟨gt, 18, none⟩ = some (.string o.party) := by rw [HO6.out.cell]; rfl
  go_wp2_with (fail)
  refine cancel_nil o.party 1 _ _ ?_
  go_wp2_with (fail)
  refine keep_nil o.party 1 _ _ ?_
  go_wp2_with (fail)
  refine setPrio_nil o.party 1 1 _ _ ?_
  go_wp2_with (fail)
  refine setPart_nil o.party 1 true _ _ ?_
  go_wp2_with (fail)
  refine pair_nil 1 2 0 _ _ ?_
  go_wp2_with (fail)
  refine settle_nil 1 1 0 _ _ ?_
  go_wp2_with (fail)
  exact HR.out _ HB6.out
end Go.Proofs.Yteecekijekegdaa
