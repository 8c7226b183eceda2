/- The walk of a store's Pair, the good one. Plain contracts, no conditions but those that each names. -/
import Derived.Test.YteecekijekegdaaKm
namespace Go.Proofs.Yteecekijekegdaa
open Go.RowKit

theorem info3 : (Try.prog.info? 3).map (·.size) = some 1 := by kernel_rfl
theorem info4 : (Try.prog.info? 4).map (·.size) = some 1 := by kernel_rfl
/-- A value of one cell stored: the world behind it a letter. -/
theorem wpList_put {P : Program} {ops : Array Oper} {rest : List Oper} {op : Oper} {a : Act} {w : World} {Q : Exit → Act → World → Prop} (hgd : op.guard = none) (ty : TypeId) (x y : Operand) (ho : op.op = .store ty x y) (hd : op.dst = none)
    (b o : Nat) (v : Value) (hx : a.eval x = .pointer (some ⟨b, o, none⟩)) (hy : a.eval y = v) (hs : (w.cell? ⟨b, o, none⟩).isSome = true) (hf : w.frozen? ⟨b, o, none⟩ = false) (hi : (P.info? ty).map (·.size) = some 1) (h1 : v.oneCell' = true)
    (h : ∀ w', w' = w.setCell ⟨b, o, none⟩ v → wpList P ops Q rest a w') : wpList P ops Q (op :: rest) a w :=
  wpList_plain hgd fun _ hK => by
    have hr : (storeVar ty ⟨b, o, none⟩ v).run P w = .ok () (w.setCell ⟨b, o, none⟩ v) := by
      have g1 : ∀ j, 0 + j < 0 + [v].length → j = 0 := fun j hj => by simp at hj; exact hj
      have := run_storeCells_cells (P := P) b o [v] 0 w (fun j hj => by rw [g1 j (by simpa using hj)]; simpa using hs)
        (fun j hj => by rw [g1 j (by simpa using hj)]; simpa using hf) (fun u hu => by simp at hu; subst hu; exact h1)
      have hc : v.cells = #[v] := by cases v <;> first | rfl | cases h1
      cases hq : P.info? ty with
      | none => simp [hq] at hi
      | some i =>
        have hsz : i.size = 1 := by simpa [hq] using hi
        simp only [Nat.add_zero, World.setCells] at this
        simp [storeVar, sizeOf, typeInfo, hq, hc, hsz, this]
    unfold Oper.wp execOp
    simp only [ho, hx, hy, Instr.storeAt, Instr.sureAddr, Sem.run_bind, Sem.run_pure, Result.andThen_ok, hr]
    exact hK _ _ (by rw [hd]; exact h _ rfl)
theorem BookS.some_ {B : Nat} {w : World} {gb : Nat} {v : Value} {L : List InstD} (h : BookS B w gb v L) {g : Nat} (hv : Value.rowOf v L.length g) {k : Nat} {x : InstD} (hk : L[k]? = some x) (j : Nat) (hj : j < 21) :
    (w.cell? ⟨g, k * 21 + j, none⟩).isSome = true := by
  rw [h.at_ hv hk j hj, List.getElem?_eq_getElem (by rw [InstD.len]; exact hj)]; rfl

set_option maxRecDepth 100000 in
set_option maxHeartbeats 1000000 in
theorem pair_good (B : Nat) (gb : Nat) (v : Value) (L : List InstD) (i j : Nat) (x y : InstD) (a : Int) (w : World) (R : Ending → World → Prop) (hB : BookS B w gb v L)
    (hx : L[i]? = some x) (hy : L[j]? = some y) (hsx : x.state = 0) (hsy : y.state = 0) (hij : i ≠ j) (h1 : x.t.deliver = true) (h2 : y.t.deliver = false) (h3 : x.t.qty = y.t.qty) (h4 : 0 ≤ a) (h5 : a ≤ 1125899906842624)
    (hR : ∀ w', BookS B w' gb v (doL 0 ((L.set i (mated x ((j : Int) + 1) a)).set j (mated y ((i : Int) + 1) a)) [some i, some j]).1 → Keep (fun i => v.ownBlock = some i) w w' → R (.returned (.int .i64 0)) w') :
    Calls Try.prog 20 #[.pointer (some ⟨gb, 0, none⟩), .int .i64 ((i : Int) + 1), .int .i64 ((j : Int) + 1), .int .i64 a] w R := by
  have hi := (List.getElem?_eq_some_iff.1 hx).1
  have hj := (List.getElem?_eq_some_iff.1 hy).1
  rcases hB.form with ⟨rfl, rfl⟩ | ⟨g, hg, _⟩
  · simp at hi
  have c1 : w.cell? ⟨g, i * 21 + 17, none⟩ = some (.int .i64 0) := by rw [hB.at_ hg hx 17 (by omega), ← hsx]; rfl
  have c2 : w.cell? ⟨g, j * 21 + 17, none⟩ = some (.int .i64 0) := by rw [hB.at_ hg hy 17 (by omega), ← hsy]; rfl
  have c3 : w.cell? ⟨g, i * 21 + 5, none⟩ = some (.bool true) := by rw [hB.at_ hg hx 5 (by omega), ← h1]; rfl
  have c4 : w.cell? ⟨g, j * 21 + 5, none⟩ = some (.bool false) := by rw [hB.at_ hg hy 5 (by omega), ← h2]; rfl
  have c5 : w.cell? ⟨g, i * 21 + 9, none⟩ = some (.int .i64 y.t.qty) := by rw [hB.at_ hg hx 9 (by omega), ← h3]; rfl
  have c6 : w.cell? ⟨g, j * 21 + 9, none⟩ = some (.int .i64 y.t.qty) := by rw [hB.at_ hg hy 9 (by omega)]; rfl
  have hq : ∀ n, (binOp .eql 59 (.pointer (some ⟨g, i * 21, none⟩)) (.pointer (some ⟨g, j * 21, none⟩))).run Try.prog (w.drewN n) = .ok (.bool false) (w.drewN n) := fun n => eq_other (hB.drewN n) hg i j hij
  have hq0 := eq_other hB hg i j hij
  have HR := Hid.mk hR
  have HB := Hid.mk hB
  have HI := Hid.mk hi
  have HJ := Hid.mk hj
  have HX := Hid.mk hx
  have HY := Hid.mk hy
  have HG := Hid.mk hg
  have HIJ := Hid.mk hij
  obtain ⟨q, e3⟩ : ∃ s, s = y.t.qty := ⟨_, rfl⟩
  rw [← e3] at c5 c6
  clear hR hB hi hj hg hx hy hsx hsy e3 h1 h2 h3 hij
  have d4 : decide (a < 0) = false := by simp; omega
  have d5 : decide (1125899906842624 < a) = false := by simp; omega
  clear h4 h5
  go_enter Try.func20, Try.ntmps20
  go_wp2_with (fail)
  refine at_some B gb v L i g _ _ HB.out HI.out HG.out ?_
  go_wp2_with (fail)
  refine at_some B gb v L j g _ _ HB.out HJ.out HG.out ?_
  go_wp2_with (fail)
  go_quiet (fail)
  clear c1 c2 c3 c4 c5 c6 hq hq0 d4 d5
  obtain ⟨W, hW⟩ : ∃ W, W = w.drewN nq := ⟨_, rfl⟩
  have HBW : Hid (BookS B W gb v L) := Hid.mk (by rw [hW]; exact HB.out.drewN nq)
  have HKW : Hid (Keep (fun i => v.ownBlock = some i) w W) := Hid.mk (by rw [hW]; exact (Keep.refl _ _).drewN nq)
  rw [← hW]
  clear hW
  go_upto_region 10 with (fail)
  obtain ⟨x1, hx1⟩ : ∃ z : InstD, z = { x with mate := (j : Int) + 1 } := ⟨_, rfl⟩
  obtain ⟨y1, hy1⟩ : ∃ z : InstD, z = { y with mate := (i : Int) + 1 } := ⟨_, rfl⟩
  obtain ⟨x2, hx2⟩ : ∃ z : InstD, z = mated x ((j : Int) + 1) a := ⟨_, rfl⟩
  obtain ⟨y2, hy2⟩ : ∃ z : InstD, z = mated y ((i : Int) + 1) a := ⟨_, rfl⟩
  rw [← hx2, ← hy2] at HR
  have E1 : Hid (x.cells.set 18 (.int .i64 ((j : Int) + 1)) = x1.cells) := Hid.mk (by rw [hx1]; rfl)
  have E2 : Hid (y.cells.set 18 (.int .i64 ((i : Int) + 1)) = y1.cells) := Hid.mk (by rw [hy1]; rfl)
  have E3 : Hid (x1.cells.set 10 (.int .i64 a) = x2.cells) := Hid.mk (by rw [hx1, hx2]; rfl)
  have E4 : Hid (y1.cells.set 10 (.int .i64 a) = y2.cells) := Hid.mk (by rw [hy1, hy2]; rfl)
  clear hx1 hy1 hx2 hy2
  have Y1 : Hid ((L.set i x1)[j]? = some y) := Hid.mk (by rw [List.getElem?_set_ne HIJ.out]; exact HY.out)
  have X2 : Hid (((L.set i x1).set j y1)[i]? = some x1) := Hid.mk (by rw [List.getElem?_set_ne (Ne.symm HIJ.out)]; simp [HI.out])
  have Y3 : Hid ((((L.set i x1).set j y1).set i x2)[j]? = some y1) := Hid.mk (by rw [List.getElem?_set_ne HIJ.out]; simp [HJ.out])
  have EL : Hid ((((L.set i x1).set j y1).set i x2).set j y2 = (L.set i x2).set j y2) := Hid.mk (by
    rw [List.set_comm _ _ (Ne.symm HIJ.out), List.set_set, List.set_set])
  have G1 : Hid (Value.rowOf v (L.set i x1).length g) := Hid.mk (by simp only [List.length_set]; exact HG.out)
  have G2 : Hid (Value.rowOf v ((L.set i x1).set j y1).length g) := Hid.mk (by simp only [List.length_set]; exact HG.out)
  have G3 : Hid (Value.rowOf v (((L.set i x1).set j y1).set i x2).length g) := Hid.mk (by simp only [List.length_set]; exact HG.out)
  have G4 : Hid (Value.rowOf v ((L.set i x2).set j y2).length g) := Hid.mk (by simp only [List.length_set]; exact HG.out)
  go_wp2_with (first
    | (refine wpList_put rfl 3 (.tmp 88) (.tmp 83) rfl rfl g (i * 21 + 18) (.int .i64 ((j : Int) + 1)) rfl rfl (HBW.out.some_ HG.out HX.out 18 (by omega)) (HBW.out.free HG.out _) info3 rfl ?_
       intro w1 hw1
       have HB1 : Hid (BookS B w1 gb v (L.set i x1)) := Hid.mk (by rw [hw1]; exact HBW.out.put HG.out HX.out x1 18 (by omega) _ E1.out)
       have HK1 : Hid (Keep (fun i => v.ownBlock = some i) w w1) := Hid.mk (by rw [hw1]; exact keep_put HKW.out HG.out _ _)
       clear hw1)
    | (refine wpList_put rfl 3 (.tmp 90) (.tmp 84) rfl rfl g (j * 21 + 18) (.int .i64 ((i : Int) + 1)) rfl rfl (HB1.out.some_ G1.out Y1.out 18 (by omega)) (HB1.out.free G1.out _) info3 rfl ?_
       intro w2 hw2
       have HB2 : Hid (BookS B w2 gb v ((L.set i x1).set j y1)) := Hid.mk (by rw [hw2]; exact HB1.out.put G1.out Y1.out y1 18 (by omega) _ E2.out)
       have HK2 : Hid (Keep (fun i => v.ownBlock = some i) w w2) := Hid.mk (by rw [hw2]; exact keep_put HK1.out HG.out _ _)
       clear hw2)
    | (refine wpList_put rfl 3 (.tmp 93) (.tmp 85) rfl rfl g (i * 21 + 10) (.int .i64 a) rfl rfl (HB2.out.some_ G2.out X2.out 10 (by omega)) (HB2.out.free G2.out _) info3 rfl ?_
       intro w3 hw3
       have HB3 : Hid (BookS B w3 gb v (((L.set i x1).set j y1).set i x2)) := Hid.mk (by rw [hw3]; exact HB2.out.put G2.out X2.out x2 10 (by omega) _ E3.out)
       have HK3 : Hid (Keep (fun i => v.ownBlock = some i) w w3) := Hid.mk (by rw [hw3]; exact keep_put HK2.out HG.out _ _)
       clear hw3)
    | (refine wpList_put rfl 3 (.tmp 96) (.tmp 86) rfl rfl g (j * 21 + 10) (.int .i64 a) rfl rfl (HB3.out.some_ G3.out Y3.out 10 (by omega)) (HB3.out.free G3.out _) info3 rfl ?_
       intro w4 hw4
       have HB4 : Hid (BookS B w4 gb v ((L.set i x2).set j y2)) := Hid.mk (by rw [← EL.out, hw4]; exact HB3.out.put G3.out Y3.out y2 10 (by omega) _ E4.out)
       have HK4 : Hid (Keep (fun i => v.ownBlock = some i) w w4) := Hid.mk (by rw [hw4]; exact keep_put HK3.out HG.out _ _)
       clear hw4))
  refine do_calls B gb v ((L.set i x2).set j y2) g w4.heap.size _ 0 [some i, some j] 2 _ _ (HB4.out.alloc _) G4.out (blk_new _ _) (by have := rowOf_ne HB4.out G4.out; omega) (by simp) (by simp; exact ⟨HI.out, HJ.out⟩) ?_
  intro w5 hb5 hk5
  have HB5 := Hid.mk hb5
  have HK5 := Hid.mk hk5
  clear hb5 hk5
  go_wp2_with (fail)
  exact HR.out _ HB5.out (HK4.out.trans ((Keep.refl _ _).alloc _ |>.trans HK5.out (fun _ _ h => h)) (fun _ _ h => h))

theorem pair_calls (B : Nat) (gb : Nat) (v : Value) (L : List InstD) (d r a : Int) (w : World) (R : Ending → World → Prop) (hB : BookS B w gb v L)
    (hR : ∀ w', BookS B w' gb v (pairL L d r a) → Keep (fun i => v.ownBlock = some i) w w' → R (.returned (.int .i64 (pairE L d r a))) w') :
    Calls Try.prog 20 #[.pointer (some ⟨gb, 0, none⟩), .int .i64 d, .int .i64 r, .int .i64 a] w R := by
  have hbad := PairPost.bad (R := R) (w := w) hR
  rcases pick L d with hd | ⟨i, x, rfl, hx, hi⟩
  · exact pair_none B gb v L d r a w R hB (.inl hd) (hbad 3 (pairE_none L d r a (.inl hd)) (by omega) w hB (Keep.refl _ _))
  rcases pick L r with hr | ⟨j, y, rfl, hy, hj⟩
  · exact pair_none B gb v L _ r a w R hB (.inr hr) (hbad 3 (pairE_none L _ r a (.inr hr)) (by omega) w hB (Keep.refl _ _))
  have hE := pairE_some L i j x y a hx hy
  by_cases hs : x.state ≠ 0 ∨ y.state ≠ 0
  · refine pair_state B gb v L i j x y a w R hB hx hy hs (hbad 20 ?_ (by omega) w hB (Keep.refl _ _))
    rw [hE]; unfold pairX; rw [if_pos hs]
  have hsx : x.state = 0 := by omega
  have hsy : y.state = 0 := by omega
  by_cases hij : i = j
  · subst hij
    refine pair_self B gb v L i x a w R hB hx hsx (fun n => hbad 1 ?_ (by omega) _ (hB.drewN n) ((Keep.refl _ _).drewN n))
    rw [hE]; unfold pairX; rw [if_neg hs, if_pos (.inl rfl)]
  by_cases hb : x.t.deliver = false ∨ y.t.deliver = true ∨ x.t.qty ≠ y.t.qty ∨ a < 0 ∨ 1125899906842624 < a
  · refine pair_arg B gb v L i j x y a w R hB hx hy hsx hsy hij hb (fun n => hbad 1 ?_ (by omega) _ (hB.drewN n) ((Keep.refl _ _).drewN n))
    rw [hE]; unfold pairX; rw [if_neg hs, if_pos (.inr hb)]
  · have h0 : pairX i j x y a = 0 := by unfold pairX; rw [if_neg hs, if_neg (by simp only [not_or]; simp only [not_or] at hb; exact ⟨hij, hb⟩)]
    simp only [not_or, Bool.not_eq_false, Bool.not_eq_true, ne_eq, Decidable.not_not] at hb
    obtain ⟨b1, b2, b3, b4, b5⟩ := hb
    refine pair_good B gb v L i j x y a w R hB hx hy hsx hsy hij b1 b2 b3 (by omega) (by omega) ?_
    intro w' h1 h2
    have := hR w' (by rw [pairL_good L i j x y a hx hy (by rw [hE]; exact h0)]; exact h1) h2
    rwa [hE, h0] at this
end Go.Proofs.Yteecekijekegdaa
