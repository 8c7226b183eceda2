/- The walk of a store's Add, the good one. Plain contracts, no conditions but those that each names. -/
import Derived.Test.YteecekijekegdaaKt
namespace Go.Proofs.Yteecekijekegdaa
open Go.RowKit

theorem own_one {w : World} {B : Nat} {e : TypeId} {size n : Nat} {v : Value} {xs : List Value} (h : w.ownsRow B e size v n xs) : v.oneCell' = true := by
  rcases h.2 with ⟨rfl, _⟩ | ⟨g, cap, cur, rfl, _⟩ <;> rfl
theorem info40 : (Try.prog.info? 40).map (·.size) = some 1 := by kernel_rfl
/-- A value of one cell stored, at the operation. -/
theorem wp_put {P : Program} {op : Oper} {a : Act} {w : World} {K : Act → World → Prop} {Q : Exit → Act → World → Prop} (ty : TypeId) (x y : Operand) (ho : op.op = .store ty x y) (hd : op.dst = none)
    (b o : Nat) (v : Value) (hx : a.eval x = .pointer (some ⟨b, o, none⟩)) (hy : a.eval y = v) (hs : (w.cell? ⟨b, o, none⟩).isSome = true) (hf : w.frozen? ⟨b, o, none⟩ = false) (hi : (P.info? ty).map (·.size) = some 1) (h1 : v.oneCell' = true)
    (h : K a (w.setCell ⟨b, o, none⟩ v)) : op.wp P a w K Q := by
  have hr : (storeVar ty ⟨b, o, none⟩ v).run P w = .ok () (w.setCell ⟨b, o, none⟩ v) := by
    have g1 : ∀ j, 0 + j < 0 + [v].length → j = 0 := fun j hj => by simp at hj; exact hj
    have := run_storeCells_cells (P := P) b o [v] 0 w (fun j hj => by rw [g1 j (by simpa using hj)]; simpa using hs)
      (fun j hj => by rw [g1 j (by simpa using hj)]; simpa using hf) (fun u hu => by simp at hu; subst hu; exact h1)
    have hc : v.cells = #[v] := by cases v <;> first | rfl | cases h1
    cases hq : P.info? ty with
    | none => simp [hq] at hi
    | some i =>
      have hsz : i.size = 1 := by simpa [hq] using hi
      simp only [Nat.add_zero, World.setCells] at this
      simp [storeVar, sizeOf, typeInfo, hq, hc, hsz, this]
  unfold Oper.wp execOp
  simp only [ho, hx, hy, Instr.storeAt, Instr.sureAddr, Sem.run_bind, Sem.run_pure, Result.andThen_ok, hr]
  show K (a.put op.dst undef) _
  rw [hd]
  exact h

/-- What Add leaves. -/
def AddPost (B gb : Nat) (v : Value) (L : List InstD) (w w' : World) : Prop := ∃ v', BookS B w' gb v' L ∧ Keep (fun i => i = gb ∨ v.ownBlock = some i) w w' ∧ ∀ g, v'.ownBlock = some g → v.ownBlock = some g ∨ w.heap.size ≤ g
theorem Keep.widen {S S' : Nat → Prop} {w w' : World} (h : Keep S w w') (hs : ∀ i, S i → S' i) : Keep S' w w' := ⟨h.os, h.tape, h.output, h.size, fun k hk hn => h.block k hk (fun e => hn (hs k e))⟩
theorem add_end {B gb : Nat} {v v' : Value} {L L' : List InstD} {w w2 w3 : World} (h1 : BookS B w2 gb v L) (h2 : Keep (fun i => v.ownBlock = some i) w w2) (h3 : w3.heap[gb]? = some (.cells #[v] 56 (0, 0)))
    (h4 : w3.ownsRow B 32 21 v' L'.length (rows L')) (h5 : Keep (fun i => v.ownBlock = some i) w2 w3) (h6 : ∀ g, v'.ownBlock = some g → v.ownBlock = some g ∨ w2.heap.size ≤ g) : AddPost B gb v L' w (w3.setCell ⟨gb, 0, none⟩ v') := by
  have hk : Keep (fun i => i = gb ∨ v.ownBlock = some i) w (w3.setCell ⟨gb, 0, none⟩ v') := by
    refine Keep.setCell ?_ (p := ⟨gb, 0, none⟩) (.inl (.inl rfl)) v'
    exact (h2.trans h5 (fun _ _ h => h)).widen (fun i h => .inr h)
  have hcell : (w3.setCell ⟨gb, 0, none⟩ v').heap[gb]? = some (.cells #[v'] 56 (0, 0)) := by
    have := blk_set h3 0 v'
    rw [this]
    rfl
  refine ⟨v', ⟨hcell, h1.base, ?_⟩, hk, ?_⟩
  · have hne : v'.ownBlock ≠ some gb := by
      intro e
      rcases h6 gb e with h | h
      · exact h1.ne h
      · have := blk_lt h1.cell; omega
    exact ownsRow_keep (S := fun i => i = gb) h4 (Keep.setCell (S := fun i => i = gb) (Keep.refl _ _) (p := ⟨gb, 0, none⟩) (.inl rfl) v') (fun g hg e => hne (by rw [hg, e]))
  · intro g hg
    rcases h6 g hg with h | h
    · exact .inl h
    · exact .inr (Nat.le_trans h2.size h)

set_option linter.unusedSimpArgs false in
set_option linter.unusedVariables false in
set_option maxRecDepth 100000 in
set_option maxHeartbeats 2000000 in
theorem add_good (B : Nat) (gb : Nat) (v : Value) (L : List InstD) (t : TermD) (prio : Int) (part held : Bool) (w : World) (R : Ending → World → Prop) (hB : BookS B w gb v L) (hbase : B ≤ w.heap.size) (ht : t.Fit) (hp : 1 ≤ prio ∧ prio ≤ 4) (hl : L.length < 120)
    (hR : ∀ w' v', BookS B w' gb v' (L ++ [newX ((L.length : Int) + 1) t prio part held]) → Keep (fun i => i = gb ∨ v.ownBlock = some i) w w' → (∀ g, v'.ownBlock = some g → v.ownBlock = some g ∨ w.heap.size ≤ g) → R (.returned (.tuple #[.int .i64 ((L.length : Int) + 1), .int .i64 0])) w') :
    Calls Try.prog 10 #[.pointer (some ⟨gb, 0, none⟩), t.val, .int .i64 prio, .bool part, .bool held] w R := by
  have HR := Hid.mk hR
  have HP : Hid ((decide (1 ≤ prio) && decide (prio ≤ 4)) = true) := Hid.mk (by simp; omega)
  have HFIT := Hid.mk ht
  obtain ⟨A, cap, rfl⟩ := hB.slice
  obtain ⟨m, hm⟩ : ∃ m, m = L.length := ⟨_, rfl⟩
  have hlt := blk_lt hB.cell
  rw [← hm] at hB hl hR HR
  obtain ⟨W, hW⟩ : ∃ W, W = w.alloc (.cells t.cells 27) := ⟨_, rfl⟩
  obtain ⟨gt, hgt⟩ : ∃ gt, gt = w.heap.size := ⟨_, rfl⟩
  have HT : Hid (TermAt W gt t) := Hid.mk (by rw [hW, hgt]; exact blk_new _ _)
  have HB := Hid.mk (And.intro hB hbase)
  have HBW : Hid (BookS B W gb (.slice A m cap) L) := Hid.mk (by rw [hW]; exact hB.alloc _)
  have HKW : Hid (Keep (fun i => (Value.slice A m cap).ownBlock = some i) w W) := Hid.mk (by rw [hW]; exact (Keep.refl _ _).alloc _)
  have hcW : W.cell? ⟨gb, 0, none⟩ = some (.slice A m cap) := by rw [blk_cell HBW.out.cell]; rfl
  have h120 : (m : Int) ≤ 119 := by omega
  have HM := Hid.mk hm
  have HF : Hid (∀ (v' : Value) (w3 w2 : World), BookS B w2 gb (.slice A m cap) L → Keep (fun i => (Value.slice A m cap).ownBlock = some i) w w2 → w3.heap[gb]? = some (.cells #[.slice A m cap] 56 (0, 0)) →
      w3.ownsRow B 32 21 v' (L ++ [newX ((L.length : Int) + 1) t prio part held]).length (rows (L ++ [newX ((L.length : Int) + 1) t prio part held])) → Keep (fun i => (Value.slice A m cap).ownBlock = some i) w2 w3 →
      (∀ g, v'.ownBlock = some g → (Value.slice A m cap).ownBlock = some g ∨ w2.heap.size ≤ g) → AddPost B gb (.slice A m cap) (L ++ [newX ((m : Int) + 1) t prio part held]) w (w3.setCell ⟨gb, 0, none⟩ v')) := Hid.mk (by
    intro v' w3 w2 h1 h2 h3 h4 h5 h6
    rw [← hm] at h4
    exact add_end h1 h2 h3 (by rw [← hm] at *; exact h4) h5 h6)
  clear hR hp hB hl hm ht hbase hlt
  unfold TermD.val
  go_enter Try.func10, Try.ntmps10
  go_upto_region 1 with (fail)
  rw [← hW, ← hgt]
  clear hW hgt
  go_upto_region 6 with (go_at_call 24; refine prio_calls prio _ _ ?_; rw [HP.out])
  go_cut [47] (fun v47 wc => AddPost B gb (.slice A m cap) (L ++ [newX ((m : Int) + 1) t prio part held]) w wc)
  case first =>
    refine wp_region_noPanic ?_
    refine wp_region_any (by kernel_rfl) ?_
    change wpAny _ _ _ _ _ _ _ (World.drew _)
    refine wpAny_take (i := 0) (v := ?_) rfl (by kernel_rfl) (by kernel_rfl) (by kernel_rfl) (fun _ _ _ h => h) (Or.inl ⟨by rfl, ?_⟩) ?_
    rotate_left
    · intro w; go_simp; try with_reducible rfl
    simp only [Act.put, Array.getInternal_eq_getElem, List.getElem_toArray, List.getElem_cons_zero, List.getElem_cons_succ, List.setIfInBounds_toArray, List.set_cons_zero, List.set_cons_succ]
    refine wpAny_take (i := 1) (v := ?_) rfl (by kernel_rfl) (by kernel_rfl) (by kernel_rfl) (fun _ _ _ h => h) (Or.inl ⟨by rfl, ?_⟩) ?_
    rotate_left
    · intro w; go_simp; try with_reducible rfl
    simp only [Act.put, Array.getInternal_eq_getElem, List.getElem_toArray, List.getElem_cons_zero, List.getElem_cons_succ, List.setIfInBounds_toArray, List.set_cons_zero, List.set_cons_succ]
    refine wpAny_take (i := 2) (v := ?_) rfl (by kernel_rfl) (by kernel_rfl) (by kernel_rfl) (fun _ _ _ h => h) (Or.inl ⟨by rfl, ?_⟩) ?_
    rotate_left
    · intro w; go_simp; try with_reducible rfl
    simp only [Act.put, Array.getInternal_eq_getElem, List.getElem_toArray, List.getElem_cons_zero, List.getElem_cons_succ, List.setIfInBounds_toArray, List.set_cons_zero, List.set_cons_succ]
    refine wpAny_take (i := 3) (v := ?_) rfl (by kernel_rfl) (by kernel_rfl) (by kernel_rfl) (fun _ _ _ h => h) (Or.inl ⟨by rfl, ?_⟩) ?_
    rotate_left
    · intro w; go_simp; try with_reducible rfl
    simp only [Act.put, Array.getInternal_eq_getElem, List.getElem_toArray, List.getElem_cons_zero, List.getElem_cons_succ, List.setIfInBounds_toArray, List.set_cons_zero, List.set_cons_succ]
    refine wpAny_take (i := 5) (v := ?_) rfl (by kernel_rfl) (by kernel_rfl) (by kernel_rfl) (fun _ _ _ h => h) (Or.inl ⟨by rfl, ?_⟩) ?_
    rotate_left
    · intro w; go_simp; try with_reducible rfl
    simp only [Act.put, Array.getInternal_eq_getElem, List.getElem_toArray, List.getElem_cons_zero, List.getElem_cons_succ, List.setIfInBounds_toArray, List.set_cons_zero, List.set_cons_succ]
    refine wpAny_take (i := 8) (v := ?_) rfl (by kernel_rfl) (by kernel_rfl) (by kernel_rfl) (fun _ _ _ h => h) (Or.inl ⟨by rfl, ?_⟩) ?_
    rotate_left
    · intro w; go_simp; try with_reducible rfl
    simp only [Act.put, Array.getInternal_eq_getElem, List.getElem_toArray, List.getElem_cons_zero, List.getElem_cons_succ, List.setIfInBounds_toArray, List.set_cons_zero, List.set_cons_succ]
    refine wpAny_take (i := 9) (v := ?_) rfl (by kernel_rfl) (by kernel_rfl) (by kernel_rfl) (fun _ _ _ h => h) (Or.inl ⟨by rfl, ?_⟩) ?_
    rotate_left
    · intro w; go_simp; try with_reducible rfl
    simp only [Act.put, Array.getInternal_eq_getElem, List.getElem_toArray, List.getElem_cons_zero, List.getElem_cons_succ, List.setIfInBounds_toArray, List.set_cons_zero, List.set_cons_succ]
    refine wpAny_take (i := 10) (v := ?_) rfl (by kernel_rfl) (by kernel_rfl) (by kernel_rfl) (fun _ _ _ h => h) (Or.inl ⟨by rfl, ?_⟩) ?_
    rotate_left
    · intro w; go_simp; try with_reducible rfl
    simp only [Act.put, Array.getInternal_eq_getElem, List.getElem_toArray, List.getElem_cons_zero, List.getElem_cons_succ, List.setIfInBounds_toArray, List.set_cons_zero, List.set_cons_succ]
    refine wpAny_ready (rs := [4, 6]) (by kernel_rfl) (by simp) ?_
    refine AllReady.cons rfl (fun K hK => ?_) (AllReady.cons rfl (fun K hK => ?_) AllReady.nil)
    · go_simp
      try (refine hK _ _ ?_; clear hK K)
      try simp only [Act.put, Array.getInternal_eq_getElem, List.getElem_toArray, List.getElem_cons_zero, List.getElem_cons_succ, List.setIfInBounds_toArray, List.set_cons_zero, List.set_cons_succ]
      refine wpAny_ready (rs := [6]) (by kernel_rfl) (by simp) ?_
      refine AllReady.cons rfl (fun K hK => ?_) AllReady.nil
      rw [if_pos (by rfl)]
      refine wp_load_mid 27 (.tmp 6) rfl gt 0 rfl t.cells.toList _ HT.out.range Try.underlying27 rfl info27 ?_
      refine hK _ _ ?_
      clear hK K
      try simp only [Act.put, Array.getInternal_eq_getElem, List.getElem_toArray, List.getElem_cons_zero, List.getElem_cons_succ, List.setIfInBounds_toArray, List.set_cons_zero, List.set_cons_succ]
      refine wpAny_ready (rs := [7]) (by kernel_rfl) (by simp) ?_
      refine AllReady.cons rfl (fun K hK => ?_) AllReady.nil
      go_simp
      refine owned_calls t _ _ HFIT.out ?_
      intro w1 hb1
      have HB1 : Hid (BookS B w1 gb (.slice A m cap) L) := Hid.mk (HBW.out.below (after_draw hb1))
      have HK1 : Hid (Keep (fun i => (Value.slice A m cap).ownBlock = some i) w w1) := Hid.mk (HKW.out.trans ((Keep.of_below (after_draw hb1)).none) (fun _ _ h => h))
      have cw1 : w1.cell? ⟨gb, 0, none⟩ = some (.slice A m cap) := by rw [blk_cell HB1.out.cell]; rfl
      clear hb1
      dsimp only
      refine hK _ _ ?_
      clear hK K
      try simp only [Act.put, Array.getInternal_eq_getElem, List.getElem_toArray, List.getElem_cons_zero, List.getElem_cons_succ, List.setIfInBounds_toArray, List.set_cons_zero, List.set_cons_succ]
      refine wpAny_take (i := 11) (v := (newX ((L.length : Int) + 1) t prio part held).val) rfl (by kernel_rfl) (by kernel_rfl) (by kernel_rfl) (fun _ _ _ h => h) (Or.inl ⟨by rfl, ?_⟩) ?_
      · intro w; refine exec_build (.tmp 39) (.tmp 41) (.tmp 42) (.tmp 43) (.tmp 44) rfl _ t prio part held ?_ rfl rfl rfl rfl; rw [← HM.out]; rfl
      simp only [Act.put, Array.getInternal_eq_getElem, List.getElem_toArray, List.getElem_cons_zero, List.getElem_cons_succ, List.setIfInBounds_toArray, List.set_cons_zero, List.set_cons_succ]
      refine wpAny_ready (rs := [12]) (by kernel_rfl) (by simp) ?_
      refine AllReady.cons rfl (fun K hK => ?_) AllReady.nil
      rw [if_pos (by rfl)]
      refine wp_lit (.tmp 45) rfl _ rfl ?_
      intro gl w2 hl2 hgl hb2
      have HL2 := Hid.mk hl2
      have HB2 : Hid (BookS B w2 gb (.slice A m cap) L) := Hid.mk (HB1.out.below hb2)
      have HK2 : Hid (Keep (fun i => (Value.slice A m cap).ownBlock = some i) w w2) := Hid.mk (HK1.out.trans ((Keep.of_below hb2).none) (fun _ _ h => h))
      have cw2 : w2.cell? ⟨gb, 0, none⟩ = some (.slice A m cap) := by rw [blk_cell HB2.out.cell]; rfl
      clear hl2 hgl hb2
      refine hK _ _ ?_
      clear hK K
      try simp only [Act.put, Array.getInternal_eq_getElem, List.getElem_toArray, List.getElem_cons_zero, List.getElem_cons_succ, List.setIfInBounds_toArray, List.set_cons_zero, List.set_cons_succ]
      refine wpAny_ready (rs := [13]) (by kernel_rfl) (by simp) ?_
      refine AllReady.cons rfl (fun K hK => ?_) AllReady.nil
      rw [if_pos (by rfl)]
      refine wp_app (.tmp 38) (.tmp 46) rfl B (.slice A m cap) L rfl HB2.out.own gl _ rfl HL2.out (by have := HM.out; omega) (Nat.le_trans HB.out.2 HK2.out.size) ?_
      intro v3 w3 ho3 hk3 hn3
      have HB3 : Hid (w3.heap[gb]? = some (.cells #[.slice A m cap] 56 (0, 0))) := Hid.mk (hk3.heap HB2.out.cell (fun e => HB2.out.ne e))
      have cw3 : w3.cell? ⟨gb, 0, none⟩ = some (.slice A m cap) := by rw [blk_cell HB3.out]; rfl
      have fw3 : w3.frozen? ⟨gb, 0, none⟩ = false := blk_frozen HB3.out 0
      have HO3 := Hid.mk ho3
      have h13 := own_one ho3
      have HN3 := Hid.mk (And.intro hk3 hn3)
      clear ho3 hk3 hn3
      refine hK _ _ ?_
      clear hK K
      try simp only [Act.put, Array.getInternal_eq_getElem, List.getElem_toArray, List.getElem_cons_zero, List.getElem_cons_succ, List.setIfInBounds_toArray, List.set_cons_zero, List.set_cons_succ]
      refine wpAny_take (i := 14) (v := ?_) rfl (by kernel_rfl) (by kernel_rfl) (by kernel_rfl) (fun _ _ _ h => h) (Or.inl ⟨by rfl, ?_⟩) ?_
      rotate_left
      · intro w; go_simp; try with_reducible rfl
      simp only [Act.put, Array.getInternal_eq_getElem, List.getElem_toArray, List.getElem_cons_zero, List.getElem_cons_succ, List.setIfInBounds_toArray, List.set_cons_zero, List.set_cons_succ]
      refine wpAny_take (i := 15) (v := ?_) rfl (by kernel_rfl) (by kernel_rfl) (by kernel_rfl) (fun _ _ _ h => h) (Or.inl ⟨by rfl, ?_⟩) ?_
      rotate_left
      · intro w; go_simp; try with_reducible rfl
      simp only [Act.put, Array.getInternal_eq_getElem, List.getElem_toArray, List.getElem_cons_zero, List.getElem_cons_succ, List.setIfInBounds_toArray, List.set_cons_zero, List.set_cons_succ]
      refine wpAny_ready (rs := [16]) (by kernel_rfl) (by simp) ?_
      refine AllReady.cons rfl (fun K hK => ?_) AllReady.nil
      rw [if_pos (by rfl)]
      refine wp_put 40 (.tmp 49) (.tmp 47) rfl rfl gb 0 v3 rfl rfl (by rw [cw3]; rfl) fw3 info40 h13 ?_
      refine hK _ _ ?_
      clear hK K
      refine wpAny_done (by kernel_rfl) ?_ _
      refine NoPanic.normal ?_
      go_wp2_with (fail)
      go_meet
      case rel => exact HF.out v3 w3 w2 HB2.out HK2.out HB3.out HO3.out HN3.out.1 HN3.out.2
    · rw [if_pos (by rfl)]
      refine wp_load_mid 27 (.tmp 6) rfl gt 0 rfl t.cells.toList _ HT.out.range Try.underlying27 rfl info27 ?_
      refine hK _ _ ?_
      clear hK K
      try simp only [Act.put, Array.getInternal_eq_getElem, List.getElem_toArray, List.getElem_cons_zero, List.getElem_cons_succ, List.setIfInBounds_toArray, List.set_cons_zero, List.set_cons_succ]
      refine wpAny_ready (rs := [4, 7]) (by kernel_rfl) (by simp) ?_
      refine AllReady.cons rfl (fun K hK => ?_) (AllReady.cons rfl (fun K hK => ?_) AllReady.nil)
      · go_simp
        try (refine hK _ _ ?_; clear hK K)
        try simp only [Act.put, Array.getInternal_eq_getElem, List.getElem_toArray, List.getElem_cons_zero, List.getElem_cons_succ, List.setIfInBounds_toArray, List.set_cons_zero, List.set_cons_succ]
        refine wpAny_ready (rs := [7]) (by kernel_rfl) (by simp) ?_
        refine AllReady.cons rfl (fun K hK => ?_) AllReady.nil
        go_simp
        refine owned_calls t _ _ HFIT.out ?_
        intro w1 hb1
        have HB1 : Hid (BookS B w1 gb (.slice A m cap) L) := Hid.mk (HBW.out.below (after_draw hb1))
        have HK1 : Hid (Keep (fun i => (Value.slice A m cap).ownBlock = some i) w w1) := Hid.mk (HKW.out.trans ((Keep.of_below (after_draw hb1)).none) (fun _ _ h => h))
        have cw1 : w1.cell? ⟨gb, 0, none⟩ = some (.slice A m cap) := by rw [blk_cell HB1.out.cell]; rfl
        clear hb1
        dsimp only
        refine hK _ _ ?_
        clear hK K
        try simp only [Act.put, Array.getInternal_eq_getElem, List.getElem_toArray, List.getElem_cons_zero, List.getElem_cons_succ, List.setIfInBounds_toArray, List.set_cons_zero, List.set_cons_succ]
        refine wpAny_take (i := 11) (v := (newX ((L.length : Int) + 1) t prio part held).val) rfl (by kernel_rfl) (by kernel_rfl) (by kernel_rfl) (fun _ _ _ h => h) (Or.inl ⟨by rfl, ?_⟩) ?_
        · intro w; refine exec_build (.tmp 39) (.tmp 41) (.tmp 42) (.tmp 43) (.tmp 44) rfl _ t prio part held ?_ rfl rfl rfl rfl; rw [← HM.out]; rfl
        simp only [Act.put, Array.getInternal_eq_getElem, List.getElem_toArray, List.getElem_cons_zero, List.getElem_cons_succ, List.setIfInBounds_toArray, List.set_cons_zero, List.set_cons_succ]
        refine wpAny_ready (rs := [12]) (by kernel_rfl) (by simp) ?_
        refine AllReady.cons rfl (fun K hK => ?_) AllReady.nil
        rw [if_pos (by rfl)]
        refine wp_lit (.tmp 45) rfl _ rfl ?_
        intro gl w2 hl2 hgl hb2
        have HL2 := Hid.mk hl2
        have HB2 : Hid (BookS B w2 gb (.slice A m cap) L) := Hid.mk (HB1.out.below hb2)
        have HK2 : Hid (Keep (fun i => (Value.slice A m cap).ownBlock = some i) w w2) := Hid.mk (HK1.out.trans ((Keep.of_below hb2).none) (fun _ _ h => h))
        have cw2 : w2.cell? ⟨gb, 0, none⟩ = some (.slice A m cap) := by rw [blk_cell HB2.out.cell]; rfl
        clear hl2 hgl hb2
        refine hK _ _ ?_
        clear hK K
        try simp only [Act.put, Array.getInternal_eq_getElem, List.getElem_toArray, List.getElem_cons_zero, List.getElem_cons_succ, List.setIfInBounds_toArray, List.set_cons_zero, List.set_cons_succ]
        refine wpAny_ready (rs := [13]) (by kernel_rfl) (by simp) ?_
        refine AllReady.cons rfl (fun K hK => ?_) AllReady.nil
        rw [if_pos (by rfl)]
        refine wp_app (.tmp 38) (.tmp 46) rfl B (.slice A m cap) L rfl HB2.out.own gl _ rfl HL2.out (by have := HM.out; omega) (Nat.le_trans HB.out.2 HK2.out.size) ?_
        intro v3 w3 ho3 hk3 hn3
        have HB3 : Hid (w3.heap[gb]? = some (.cells #[.slice A m cap] 56 (0, 0))) := Hid.mk (hk3.heap HB2.out.cell (fun e => HB2.out.ne e))
        have cw3 : w3.cell? ⟨gb, 0, none⟩ = some (.slice A m cap) := by rw [blk_cell HB3.out]; rfl
        have fw3 : w3.frozen? ⟨gb, 0, none⟩ = false := blk_frozen HB3.out 0
        have HO3 := Hid.mk ho3
        have h13 := own_one ho3
        have HN3 := Hid.mk (And.intro hk3 hn3)
        clear ho3 hk3 hn3
        refine hK _ _ ?_
        clear hK K
        try simp only [Act.put, Array.getInternal_eq_getElem, List.getElem_toArray, List.getElem_cons_zero, List.getElem_cons_succ, List.setIfInBounds_toArray, List.set_cons_zero, List.set_cons_succ]
        refine wpAny_take (i := 14) (v := ?_) rfl (by kernel_rfl) (by kernel_rfl) (by kernel_rfl) (fun _ _ _ h => h) (Or.inl ⟨by rfl, ?_⟩) ?_
        rotate_left
        · intro w; go_simp; try with_reducible rfl
        simp only [Act.put, Array.getInternal_eq_getElem, List.getElem_toArray, List.getElem_cons_zero, List.getElem_cons_succ, List.setIfInBounds_toArray, List.set_cons_zero, List.set_cons_succ]
        refine wpAny_take (i := 15) (v := ?_) rfl (by kernel_rfl) (by kernel_rfl) (by kernel_rfl) (fun _ _ _ h => h) (Or.inl ⟨by rfl, ?_⟩) ?_
        rotate_left
        · intro w; go_simp; try with_reducible rfl
        simp only [Act.put, Array.getInternal_eq_getElem, List.getElem_toArray, List.getElem_cons_zero, List.getElem_cons_succ, List.setIfInBounds_toArray, List.set_cons_zero, List.set_cons_succ]
        refine wpAny_ready (rs := [16]) (by kernel_rfl) (by simp) ?_
        refine AllReady.cons rfl (fun K hK => ?_) AllReady.nil
        rw [if_pos (by rfl)]
        refine wp_put 40 (.tmp 49) (.tmp 47) rfl rfl gb 0 v3 rfl rfl (by rw [cw3]; rfl) fw3 info40 h13 ?_
        refine hK _ _ ?_
        clear hK K
        refine wpAny_done (by kernel_rfl) ?_ _
        refine NoPanic.normal ?_
        go_wp2_with (fail)
        go_meet
        case rel => exact HF.out v3 w3 w2 HB2.out HK2.out HB3.out HO3.out HN3.out.1 HN3.out.2
      · go_simp
        refine owned_calls t _ _ HFIT.out ?_
        intro w1 hb1
        have HB1 : Hid (BookS B w1 gb (.slice A m cap) L) := Hid.mk (HBW.out.below (after_draw hb1))
        have HK1 : Hid (Keep (fun i => (Value.slice A m cap).ownBlock = some i) w w1) := Hid.mk (HKW.out.trans ((Keep.of_below (after_draw hb1)).none) (fun _ _ h => h))
        have cw1 : w1.cell? ⟨gb, 0, none⟩ = some (.slice A m cap) := by rw [blk_cell HB1.out.cell]; rfl
        clear hb1
        dsimp only
        refine hK _ _ ?_
        clear hK K
        try simp only [Act.put, Array.getInternal_eq_getElem, List.getElem_toArray, List.getElem_cons_zero, List.getElem_cons_succ, List.setIfInBounds_toArray, List.set_cons_zero, List.set_cons_succ]
        refine wpAny_take (i := 11) (v := (newX ((L.length : Int) + 1) t prio part held).val) rfl (by kernel_rfl) (by kernel_rfl) (by kernel_rfl) (fun _ _ _ h => h) (Or.inl ⟨by rfl, ?_⟩) ?_
        · intro w; refine exec_build (.tmp 39) (.tmp 41) (.tmp 42) (.tmp 43) (.tmp 44) rfl _ t prio part held ?_ rfl rfl rfl rfl; rw [← HM.out]; rfl
        simp only [Act.put, Array.getInternal_eq_getElem, List.getElem_toArray, List.getElem_cons_zero, List.getElem_cons_succ, List.setIfInBounds_toArray, List.set_cons_zero, List.set_cons_succ]
        refine wpAny_ready (rs := [4, 12]) (by kernel_rfl) (by simp) ?_
        refine AllReady.cons rfl (fun K hK => ?_) (AllReady.cons rfl (fun K hK => ?_) AllReady.nil)
        · go_simp
          try (refine hK _ _ ?_; clear hK K)
          try simp only [Act.put, Array.getInternal_eq_getElem, List.getElem_toArray, List.getElem_cons_zero, List.getElem_cons_succ, List.setIfInBounds_toArray, List.set_cons_zero, List.set_cons_succ]
          refine wpAny_ready (rs := [12]) (by kernel_rfl) (by simp) ?_
          refine AllReady.cons rfl (fun K hK => ?_) AllReady.nil
          rw [if_pos (by rfl)]
          refine wp_lit (.tmp 45) rfl _ rfl ?_
          intro gl w2 hl2 hgl hb2
          have HL2 := Hid.mk hl2
          have HB2 : Hid (BookS B w2 gb (.slice A m cap) L) := Hid.mk (HB1.out.below hb2)
          have HK2 : Hid (Keep (fun i => (Value.slice A m cap).ownBlock = some i) w w2) := Hid.mk (HK1.out.trans ((Keep.of_below hb2).none) (fun _ _ h => h))
          have cw2 : w2.cell? ⟨gb, 0, none⟩ = some (.slice A m cap) := by rw [blk_cell HB2.out.cell]; rfl
          clear hl2 hgl hb2
          refine hK _ _ ?_
          clear hK K
          try simp only [Act.put, Array.getInternal_eq_getElem, List.getElem_toArray, List.getElem_cons_zero, List.getElem_cons_succ, List.setIfInBounds_toArray, List.set_cons_zero, List.set_cons_succ]
          refine wpAny_ready (rs := [13]) (by kernel_rfl) (by simp) ?_
          refine AllReady.cons rfl (fun K hK => ?_) AllReady.nil
          rw [if_pos (by rfl)]
          refine wp_app (.tmp 38) (.tmp 46) rfl B (.slice A m cap) L rfl HB2.out.own gl _ rfl HL2.out (by have := HM.out; omega) (Nat.le_trans HB.out.2 HK2.out.size) ?_
          intro v3 w3 ho3 hk3 hn3
          have HB3 : Hid (w3.heap[gb]? = some (.cells #[.slice A m cap] 56 (0, 0))) := Hid.mk (hk3.heap HB2.out.cell (fun e => HB2.out.ne e))
          have cw3 : w3.cell? ⟨gb, 0, none⟩ = some (.slice A m cap) := by rw [blk_cell HB3.out]; rfl
          have fw3 : w3.frozen? ⟨gb, 0, none⟩ = false := blk_frozen HB3.out 0
          have HO3 := Hid.mk ho3
          have h13 := own_one ho3
          have HN3 := Hid.mk (And.intro hk3 hn3)
          clear ho3 hk3 hn3
          refine hK _ _ ?_
          clear hK K
          try simp only [Act.put, Array.getInternal_eq_getElem, List.getElem_toArray, List.getElem_cons_zero, List.getElem_cons_succ, List.setIfInBounds_toArray, List.set_cons_zero, List.set_cons_succ]
          refine wpAny_take (i := 14) (v := ?_) rfl (by kernel_rfl) (by kernel_rfl) (by kernel_rfl) (fun _ _ _ h => h) (Or.inl ⟨by rfl, ?_⟩) ?_
          rotate_left
          · intro w; go_simp; try with_reducible rfl
          simp only [Act.put, Array.getInternal_eq_getElem, List.getElem_toArray, List.getElem_cons_zero, List.getElem_cons_succ, List.setIfInBounds_toArray, List.set_cons_zero, List.set_cons_succ]
          refine wpAny_take (i := 15) (v := ?_) rfl (by kernel_rfl) (by kernel_rfl) (by kernel_rfl) (fun _ _ _ h => h) (Or.inl ⟨by rfl, ?_⟩) ?_
          rotate_left
          · intro w; go_simp; try with_reducible rfl
          simp only [Act.put, Array.getInternal_eq_getElem, List.getElem_toArray, List.getElem_cons_zero, List.getElem_cons_succ, List.setIfInBounds_toArray, List.set_cons_zero, List.set_cons_succ]
          refine wpAny_ready (rs := [16]) (by kernel_rfl) (by simp) ?_
          refine AllReady.cons rfl (fun K hK => ?_) AllReady.nil
          rw [if_pos (by rfl)]
          refine wp_put 40 (.tmp 49) (.tmp 47) rfl rfl gb 0 v3 rfl rfl (by rw [cw3]; rfl) fw3 info40 h13 ?_
          refine hK _ _ ?_
          clear hK K
          refine wpAny_done (by kernel_rfl) ?_ _
          refine NoPanic.normal ?_
          go_wp2_with (fail)
          go_meet
          case rel => exact HF.out v3 w3 w2 HB2.out HK2.out HB3.out HO3.out HN3.out.1 HN3.out.2
        · rw [if_pos (by rfl)]
          refine wp_lit (.tmp 45) rfl _ rfl ?_
          intro gl w2 hl2 hgl hb2
          have HL2 := Hid.mk hl2
          have HB2 : Hid (BookS B w2 gb (.slice A m cap) L) := Hid.mk (HB1.out.below hb2)
          have HK2 : Hid (Keep (fun i => (Value.slice A m cap).ownBlock = some i) w w2) := Hid.mk (HK1.out.trans ((Keep.of_below hb2).none) (fun _ _ h => h))
          have cw2 : w2.cell? ⟨gb, 0, none⟩ = some (.slice A m cap) := by rw [blk_cell HB2.out.cell]; rfl
          clear hl2 hgl hb2
          refine hK _ _ ?_
          clear hK K
          try simp only [Act.put, Array.getInternal_eq_getElem, List.getElem_toArray, List.getElem_cons_zero, List.getElem_cons_succ, List.setIfInBounds_toArray, List.set_cons_zero, List.set_cons_succ]
          refine wpAny_ready (rs := [4]) (by kernel_rfl) (by simp) ?_
          refine AllReady.cons rfl (fun K hK => ?_) AllReady.nil
          go_simp
          try (refine hK _ _ ?_; clear hK K)
          try simp only [Act.put, Array.getInternal_eq_getElem, List.getElem_toArray, List.getElem_cons_zero, List.getElem_cons_succ, List.setIfInBounds_toArray, List.set_cons_zero, List.set_cons_succ]
          refine wpAny_ready (rs := [13]) (by kernel_rfl) (by simp) ?_
          refine AllReady.cons rfl (fun K hK => ?_) AllReady.nil
          rw [if_pos (by rfl)]
          refine wp_app (.tmp 38) (.tmp 46) rfl B (.slice A m cap) L rfl HB2.out.own gl _ rfl HL2.out (by have := HM.out; omega) (Nat.le_trans HB.out.2 HK2.out.size) ?_
          intro v3 w3 ho3 hk3 hn3
          have HB3 : Hid (w3.heap[gb]? = some (.cells #[.slice A m cap] 56 (0, 0))) := Hid.mk (hk3.heap HB2.out.cell (fun e => HB2.out.ne e))
          have cw3 : w3.cell? ⟨gb, 0, none⟩ = some (.slice A m cap) := by rw [blk_cell HB3.out]; rfl
          have fw3 : w3.frozen? ⟨gb, 0, none⟩ = false := blk_frozen HB3.out 0
          have HO3 := Hid.mk ho3
          have h13 := own_one ho3
          have HN3 := Hid.mk (And.intro hk3 hn3)
          clear ho3 hk3 hn3
          refine hK _ _ ?_
          clear hK K
          try simp only [Act.put, Array.getInternal_eq_getElem, List.getElem_toArray, List.getElem_cons_zero, List.getElem_cons_succ, List.setIfInBounds_toArray, List.set_cons_zero, List.set_cons_succ]
          refine wpAny_take (i := 14) (v := ?_) rfl (by kernel_rfl) (by kernel_rfl) (by kernel_rfl) (fun _ _ _ h => h) (Or.inl ⟨by rfl, ?_⟩) ?_
          rotate_left
          · intro w; go_simp; try with_reducible rfl
          simp only [Act.put, Array.getInternal_eq_getElem, List.getElem_toArray, List.getElem_cons_zero, List.getElem_cons_succ, List.setIfInBounds_toArray, List.set_cons_zero, List.set_cons_succ]
          refine wpAny_take (i := 15) (v := ?_) rfl (by kernel_rfl) (by kernel_rfl) (by kernel_rfl) (fun _ _ _ h => h) (Or.inl ⟨by rfl, ?_⟩) ?_
          rotate_left
          · intro w; go_simp; try with_reducible rfl
          simp only [Act.put, Array.getInternal_eq_getElem, List.getElem_toArray, List.getElem_cons_zero, List.getElem_cons_succ, List.setIfInBounds_toArray, List.set_cons_zero, List.set_cons_succ]
          refine wpAny_ready (rs := [16]) (by kernel_rfl) (by simp) ?_
          refine AllReady.cons rfl (fun K hK => ?_) AllReady.nil
          rw [if_pos (by rfl)]
          refine wp_put 40 (.tmp 49) (.tmp 47) rfl rfl gb 0 v3 rfl rfl (by rw [cw3]; rfl) fw3 info40 h13 ?_
          refine hK _ _ ?_
          clear hK K
          refine wpAny_done (by kernel_rfl) ?_ _
          refine NoPanic.normal ?_
          go_wp2_with (fail)
          go_meet
          case rel => exact HF.out v3 w3 w2 HB2.out HK2.out HB3.out HO3.out HN3.out.1 HN3.out.2
  case rest =>
    obtain ⟨v9, h1, h2, h3⟩ := hcut
    have H1 := Hid.mk (And.intro h1 (And.intro h2 h3))
    clear h1 h2 h3
    go_wp2_with (fail)
    exact HR.out _ v9 H1.out.1 H1.out.2.1 H1.out.2.2

theorem add_calls (B : Nat) (gb : Nat) (v : Value) (L : List InstD) (t : TermD) (prio : Int) (part held : Bool) (w : World) (R : Ending → World → Prop) (hB : BookS B w gb v L) (hbase : B ≤ w.heap.size) (ht : t.Fit)
    (hR : ∀ w' v', BookS B w' gb v' (addL L t prio part held) → Keep (fun i => i = gb ∨ v.ownBlock = some i) w w' → (∀ g, v'.ownBlock = some g → v.ownBlock = some g ∨ w.heap.size ≤ g) → R (.returned (.tuple #[.int .i64 (addN L prio), .int .i64 (addE L prio)])) w') :
    Calls Try.prog 10 #[.pointer (some ⟨gb, 0, none⟩), t.val, .int .i64 prio, .bool part, .bool held] w R := by
  by_cases hp : 1 ≤ prio ∧ prio ≤ 4
  · by_cases hl : 120 ≤ L.length
    · have hE : addE L prio = 10 := by unfold addE; rw [if_pos hp, if_pos hl]
      refine add_full B gb v L t prio part held w R hB hp hl (fun w' hb => ?_)
      have := hR w' v (by unfold addL; rw [hE, if_neg (by omega)]; exact hB.below hb) ((Keep.of_below hb).none) (fun g h => .inl h)
      unfold addN at this
      rwa [hE, if_neg (by omega)] at this
    · have hE : addE L prio = 0 := by unfold addE; rw [if_pos hp, if_neg hl]
      refine add_good B gb v L t prio part held w R hB hbase ht hp (by omega) (fun w' v' h1 h2 h3 => ?_)
      have := hR w' v' (by unfold addL; rw [hE, if_pos rfl]; exact h1) h2 h3
      unfold addN at this
      rwa [hE, if_pos rfl] at this
  · have hE : addE L prio = 1 := by unfold addE; rw [if_neg hp]
    refine add_prio gb t prio part held w R hp (fun w' hb => ?_)
    have := hR w' v (by unfold addL; rw [hE, if_neg (by omega)]; exact hB.below hb) ((Keep.of_below hb).none) (fun g h => .inl h)
    unfold addN at this
    rwa [hE, if_neg (by omega)] at this
end Go.Proofs.Yteecekijekegdaa
