/- The walk of the law BookIds: it answers true, at every input that can be read. -/
import Derived.Test.YteecekijekegdaaKw
import Derived.Test.YteecekijekegdaaRowKit2
namespace Go.Proofs.Yteecekijekegdaa
open Go.RowKit

theorem TermsAt.below {w w' : World} {A : Option Addr} {l : List TermD} (h : TermsAt w A l) (k : Below w.heap.size w w') : TermsAt w' A l := by
  refine ⟨h.1, ?_⟩
  rcases h.2 with h2 | ⟨b, off, rfl, h2⟩
  · exact .inl h2
  · refine .inr ⟨b, off, rfl, fun i t hit => ⟨(h2 i t hit).1, fun j hj => ?_⟩⟩
    have hc := (h2 i t hit).2 j hj
    have hj12 : t.cells[j]? ≠ none := by
      have : t.cells.size = 12 := rfl
      rw [Array.getElem?_eq_getElem (by omega)]
      simp
    cases hv : t.cells[j]? with
    | none => exact absurd hv hj12
    | some v =>
      rw [hv] at hc
      exact (Keep.of_below k).cell hc (fun h => h)
theorem TermsAt.range {w : World} {A : Option Addr} {l : List TermD} (h : TermsAt w A l) (i : Nat) (t : TermD) (hi : l[i]? = some t) : t.Fit ∧ ∃ b off, A = some ⟨b, off, none⟩ ∧ w.rangeAt b (off + i * 12) t.cells.toList := by
  rcases h.2 with rfl | ⟨b, off, rfl, h2⟩
  · simp at hi
  · refine ⟨(h2 i t hi).1, b, off, rfl, fun j v hv => ?_⟩
    have hj : j < 12 := by have := (List.getElem?_eq_some_iff.1 hv).1; simpa [TermD.cells] using this
    rw [(h2 i t hi).2 j hj]
    simpa using hv

theorem TermAt.fill {w : World} {g : Nat} {x : TermD} (h : TermAt w g x) (y : TermD) : TermAt (w.setCells g 0 y.cells.toList) g y := by
  obtain ⟨c', h1, h2, h3⟩ := setCells_heap_in w g y.cells.toList 0 _ _ _ h
  have e1 : y.cells.toList.length = 12 := rfl
  have e2 : x.cells.size = 12 := rfl
  have e3 : c' = y.cells := by
   apply Array.ext_getElem?
   intro i
   rw [h3 i]
   by_cases hi : i < 12
   · rw [if_pos (by omega)]; simp
   · rw [if_neg (by omega), Array.getElem?_eq_none (by omega), Array.getElem?_eq_none (by rw [← Array.length_toList, e1]; omega)]
  unfold TermAt
  rw [h1, e3]
theorem TermAt.there {w : World} {g : Nat} {x : TermD} (h : TermAt w g x) : w.there g 0 12 := fun j hj => by
  rw [blk_cell h, Nat.zero_add, Array.getElem?_eq_getElem (show j < x.cells.size from hj)]
  exact ⟨rfl, blk_frozen h j⟩
theorem TermD.one (x : TermD) : x.cells.all (·.oneCell') = true := by simp [TermD.cells, Value.oneCell']
/-- A term stored into a new variable: the world behind it a letter. -/
theorem wpList_varT {ops : Array Oper} {rest : List Oper} {op : Oper} {a : Act} {w W : World} {Q : Exit → Act → World → Prop} (hgd : op.guard = none) (x y : Operand) (ho : op.op = .store 27 x y) (hd : op.dst = none) (z : TermD)
    (hx : a.eval x = .pointer (some ⟨w.heap.size, 0, none⟩)) (hy : a.eval y = z.val) (hW : W = w.alloc (.cells zeroT.cells 27))
    (h : ∀ w', TermAt w' w.heap.size z → Below w.heap.size w w' → wpList Try.prog ops Q rest a w') : wpList Try.prog ops Q (op :: rest) a W := by
  subst hW
  refine wpList_store_mid hgd 27 x y ho w.heap.size 0 z.cells hx hy (TermAt.there (x := zeroT) (blk_new _ _)) info27 z.one ?_
  rw [hd]
  exact h _ (TermAt.fill (x := zeroT) (blk_new _ _) z) (setCells_below (below_allocs (Below.refl _ _) _) (Nat.le_refl _) _ 0)

theorem InstAt.term {w : World} {g : Nat} {x : InstD} (h : InstAt w g x) : w.rangeAt g 1 x.t.cells.toList := fun j v hv => by
  rw [h.cell]
  have hj : j < 12 := by have := (List.getElem?_eq_some_iff.1 hv).1; simpa [TermD.cells] using this
  have : j = 0 ∨ j = 1 ∨ j = 2 ∨ j = 3 ∨ j = 4 ∨ j = 5 ∨ j = 6 ∨ j = 7 ∨ j = 8 ∨ j = 9 ∨ j = 10 ∨ j = 11 := by omega
  rcases this with rfl | rfl | rfl | rfl | rfl | rfl | rfl | rfl | rfl | rfl | rfl | rfl <;> exact hv
theorem Old.far {w0 w : World} {gb : Nat} {v : Value} {L : List InstD} (h : Old w0 w gb v L) {g : Nat} (hg : w.heap.size ≤ g) : ¬ (g = gb ∨ v.ownBlock = some g) := by
  rintro (rfl | e)
  · have := blk_lt h.book.cell; omega
  · have := (h.book.own.lt g e).2; omega

set_option linter.unusedSimpArgs false in
set_option maxRecDepth 100000 in
set_option maxHeartbeats 4000000 in
theorem ids_calls (l : List TermD) (A : Option Addr) (cap : Nat) (n : Int) (w : World) (R : Ending → World → Prop) (h : TermsAt w A l) (_hn : -9223372036854775808 ≤ n ∧ n ≤ 9223372036854775807)
    (hR : ∀ w', Below w.heap.size w w' → R (.returned (.bool true)) w') : Calls Try.prog 3 #[.slice A l.length cap, .int .i64 n] w R := by
  have HR := Hid.mk hR
  have HT := Hid.mk h
  clear hR h
  obtain ⟨gb, hgb⟩ : ∃ gb, gb = w.heap.size := ⟨_, rfl⟩
  have HGB := Hid.mk hgb
  clear hgb
  obtain ⟨m, hm⟩ : ∃ m, m = l.length := ⟨_, rfl⟩
  rw [← hm]
  have HM := Hid.mk hm
  clear hm
  by_cases hg : 1 ≤ m ∧ m ≤ 30 ∧ 0 ≤ n ∧ n ≤ 130
  · obtain ⟨g1, g2, g3, g4⟩ := hg
    obtain ⟨N, rfl⟩ : ∃ N : Nat, n = (N : Int) := ⟨n.toNat, by omega⟩
    have g5 : N ≤ 130 := by omega
    clear g3 g4
    have d0 : ((m : Int) == 0) = false := by simp; omega
    have d1 : decide ((30 : Int) < (m : Int)) = false := by simp; omega
    have d2 : decide ((N : Int) < 0) = false := by simp
    have d3 : decide ((130 : Int) < (N : Int)) = false := by simp; omega
    go_enter Try.func3, Try.ntmps3
    go_wp2_with (fail)
    refine new_calls _ _ ?_
    intro w1 hn1 hb1
    have H1 : Hid (Old w w1 gb (.slice none 0 0) []) := Hid.mk (by rw [HGB.out]; exact ⟨hn1.start, hb1⟩)
    rw [← HGB.out]
    clear hn1 hb1
    go_wp2_with (fail)
    go_loopg [6] N (fun gg vi wr => ∃ (k : Nat) (v : Value) (L : List InstD), k ≤ N ∧ vi = .int .i64 k ∧ Hid (Old w wr gb v L) ∧ Hid (L.length = min k 120) ∧ Hid (gg = N - k))
    case atStart => exact ⟨0, _, [], by omega, rfl, H1, Hid.mk (by simp), Hid.mk rfl⟩
    case round =>
      obtain ⟨k, v, L, hk, rfl, HO, HL, HGG⟩ := hrel
      by_cases hlt : k < N
      · have hm0 : 0 < m := by omega
        have hmod : k % m < m := Nat.mod_lt _ hm0
        obtain ⟨t, ht⟩ : ∃ t, l[k % m]? = some t := ⟨l[k % m]'(by rw [← HM.out]; exact hmod), by simp⟩
        obtain ⟨hfit, b, off, hAe, hrng⟩ := (HT.out.below HO.out.old).range (k % m) t ht
        subst hAe
        have HRG := Hid.mk hrng
        have HFIT := Hid.mk hfit
        clear ht hrng hfit
        go_upto_region 7 with (fail)
        obtain ⟨gt, hgt⟩ : ∃ g, g = wr.heap.size := ⟨_, rfl⟩
        have HGT := Hid.mk hgt
        clear hgt
        go_upto_region 8 with (first
          | (refine wpList_load_mid rfl 27 (.tmp 50) rfl b _ rfl t.cells.toList _ HRG.out Try.underlying27 rfl info27 ?_)
          | (refine wpList_varT (op := ⟨none, .store 27 (.tmp 7) (.tmp 51), _, _, _, _⟩) rfl (.tmp 7) (.tmp 51) rfl rfl t rfl rfl rfl ?_; intro w2 hi2 hb2; have HI2 : Hid (TermAt w2 gt t) := Hid.mk (by rw [HGT.out]; exact hi2); have H2 := Hid.mk (HO.out.below hb2); rw [← HGT.out]; clear hi2 hb2))
        by_cases hk120 : k < 120
        · have hlen : L.length = k := by rw [HL.out]; omega
          go_wp2_with (refine wpList_load_mid rfl 27 (.tmp 7) rfl gt 0 rfl t.cells.toList _ HI2.out.range Try.underlying27 rfl info27 ?_)
          have hp4 : 1 ≤ 1 + (k : Int) % 4 ∧ 1 + (k : Int) % 4 ≤ 4 := by omega
          have hE : addE L (1 + (k : Int) % 4) = 0 := by unfold addE; rw [if_pos hp4, if_neg (by omega)]
          refine add_calls w.heap.size gb v L t (1 + (k : Int) % 4) ((k : Int) % 2 == 0) ((k : Int) % 3 == 0) _ _ H2.out.book H2.out.old.size HFIT.out ?_
          obtain ⟨x, hx⟩ : ∃ x, x = newX ((k : Int) + 1) t (1 + (k : Int) % 4) ((k : Int) % 2 == 0) ((k : Int) % 3 == 0) := ⟨_, rfl⟩
          rw [show addN L (1 + (k : Int) % 4) = (k : Int) + 1 by unfold addN; rw [hE, if_pos rfl, hlen], hE, show addL L t (1 + (k : Int) % 4) ((k : Int) % 2 == 0) ((k : Int) % 3 == 0) = L ++ [x] by unfold addL; rw [hE, if_pos rfl, hlen, hx]]
          intro w3 v3 hb3 hk3 _
          have H3 := Hid.mk (H2.out.add hb3 hk3)
          have HI3 : Hid (TermAt w3 gt t) := Hid.mk (hk3.heap HI2.out (by rw [HGT.out]; exact HO.out.far (Nat.le_refl _)))
          have HX : Hid ((L ++ [x])[k]? = some x) := Hid.mk (by rw [← hlen]; simp)
          have HL3 : Hid ((L ++ [x]).length = min (k + 1) 120) := Hid.mk (by simp; omega)
          have HXX := Hid.mk hx
          have e120 : decide ((120 : Int) ≤ (k : Int)) = false := by simp; omega
          have f120 : decide (120 ≤ k) = false := by simp; omega
          clear hb3 hk3 hE hx hp4 hlen
          have hp4 : 1 ≤ 1 + (k : Int) % 4 ∧ 1 + (k : Int) % 4 ≤ 4 := by omega
          go_wp2_with (fail)
          refine get_some w.heap.size gb v3 (L ++ [x]) k x _ _ H3.out.book HX.out ?_
          intro w4 hb4
          have H4 := Hid.mk (H3.out.below hb4)
          have HI4 := Hid.mk (HI3.out.below hb4)
          clear hb4 HI2 HI3 H2 H3
          obtain ⟨gx, hgx⟩ : ∃ g, g = w4.heap.size := ⟨_, rfl⟩
          have HGX := Hid.mk hgx
          clear hgx
          go_upto_region 13 with (refine wpList_var (op := ⟨none, .store 32 (.tmp 10) (.tmp 79), _, _, _, _⟩) rfl (.tmp 10) (.tmp 79) rfl rfl x rfl rfl rfl ?_; intro w5 hi5 hb5; have HX5 : Hid (InstAt w5 gx x) := Hid.mk (by rw [HGX.out]; exact hi5); have HI5 := Hid.mk (HI4.out.below hb5); have H5 := Hid.mk (H4.out.below hb5); rw [← HGX.out]; clear hi5 hb5)
          have HXT : Hid (w5.rangeAt gx 1 t.cells.toList) := Hid.mk (by have := HX5.out.term; rw [HXX.out] at this; exact this)
          have c13 : w5.cell? ⟨gx, 13, none⟩ = some (.int .i64 (1 + (k : Int) % 4)) := by rw [HX5.out.cell, HXX.out]; rfl
          have c14 : w5.cell? ⟨gx, 14, none⟩ = some (.bool ((k : Int) % 2 == 0)) := by rw [HX5.out.cell, HXX.out]; rfl
          have c15 : w5.cell? ⟨gx, 15, none⟩ = some (.bool ((k : Int) % 3 == 0)) := by rw [HX5.out.cell, HXX.out]; rfl
          have c16 : w5.cell? ⟨gx, 16, none⟩ = some (.bool false) := by rw [HX5.out.cell, HXX.out]; rfl
          have c17 : w5.cell? ⟨gx, 17, none⟩ = some (.int .i64 0) := by rw [HX5.out.cell, HXX.out]; rfl
          have c18 : w5.cell? ⟨gx, 18, none⟩ = some (.int .i64 0) := by rw [HX5.out.cell, HXX.out]; rfl
          have c19 : w5.cell? ⟨gx, 19, none⟩ = some (.int .i64 0) := by rw [HX5.out.cell, HXX.out]; rfl
          have c20 : w5.cell? ⟨gx, 20, none⟩ = some (.int .i64 0) := by rw [HX5.out.cell, HXX.out]; rfl
          have hw := IntWalk.i64_in ((k : Int) + 1) (by omega)
          refine wp_region_lit ?_
          refine BigFrame.wpList_want (by rfl) (fun K hK => ?_)
          go_simp
          try (refine hK _ _ ?_; clear hK K)
          try simp only [Act.put, Array.getInternal_eq_getElem, List.getElem_toArray, List.getElem_cons_zero, List.getElem_cons_succ, List.setIfInBounds_toArray, List.set_cons_zero, List.set_cons_succ]
          refine BigFrame.wpList_want (by rfl) (fun K hK => ?_)
          go_simp
          try (refine hK _ _ ?_; clear hK K)
          try simp only [Act.put, Array.getInternal_eq_getElem, List.getElem_toArray, List.getElem_cons_zero, List.getElem_cons_succ, List.setIfInBounds_toArray, List.set_cons_zero, List.set_cons_succ]
          refine BigFrame.wpList_want (by rfl) (fun K hK => ?_)
          go_simp
          try (refine hK _ _ ?_; clear hK K)
          try simp only [Act.put, Array.getInternal_eq_getElem, List.getElem_toArray, List.getElem_cons_zero, List.getElem_cons_succ, List.setIfInBounds_toArray, List.set_cons_zero, List.set_cons_succ]
          refine BigFrame.wpList_want (by rfl) (fun K hK => ?_)
          go_simp
          try (refine hK _ _ ?_; clear hK K)
          try simp only [Act.put, Array.getInternal_eq_getElem, List.getElem_toArray, List.getElem_cons_zero, List.getElem_cons_succ, List.setIfInBounds_toArray, List.set_cons_zero, List.set_cons_succ]
          refine BigFrame.wpList_want (by rfl) (fun K hK => ?_)
          go_simp
          try (refine hK _ _ ?_; clear hK K)
          try simp only [Act.put, Array.getInternal_eq_getElem, List.getElem_toArray, List.getElem_cons_zero, List.getElem_cons_succ, List.setIfInBounds_toArray, List.set_cons_zero, List.set_cons_succ]
          refine BigFrame.wpList_want (by rfl) (fun K hK => ?_)
          go_simp
          try (refine hK _ _ ?_; clear hK K)
          try simp only [Act.put, Array.getInternal_eq_getElem, List.getElem_toArray, List.getElem_cons_zero, List.getElem_cons_succ, List.setIfInBounds_toArray, List.set_cons_zero, List.set_cons_succ]
          refine BigFrame.wpList_want (by rfl) (fun K hK => ?_)
          go_simp
          try (refine hK _ _ ?_; clear hK K)
          try simp only [Act.put, Array.getInternal_eq_getElem, List.getElem_toArray, List.getElem_cons_zero, List.getElem_cons_succ, List.setIfInBounds_toArray, List.set_cons_zero, List.set_cons_succ]
          refine BigFrame.wpList_want (by rfl) (fun K hK => ?_)
          go_simp
          try (refine hK _ _ ?_; clear hK K)
          try simp only [Act.put, Array.getInternal_eq_getElem, List.getElem_toArray, List.getElem_cons_zero, List.getElem_cons_succ, List.setIfInBounds_toArray, List.set_cons_zero, List.set_cons_succ]
          refine BigFrame.wpList_want (by rfl) (fun K hK => ?_)
          go_simp
          try (refine hK _ _ ?_; clear hK K)
          try simp only [Act.put, Array.getInternal_eq_getElem, List.getElem_toArray, List.getElem_cons_zero, List.getElem_cons_succ, List.setIfInBounds_toArray, List.set_cons_zero, List.set_cons_succ]
          refine BigFrame.wpList_want (by rfl) (fun K hK => ?_)
          go_simp
          try (refine hK _ _ ?_; clear hK K)
          try simp only [Act.put, Array.getInternal_eq_getElem, List.getElem_toArray, List.getElem_cons_zero, List.getElem_cons_succ, List.setIfInBounds_toArray, List.set_cons_zero, List.set_cons_succ]
          refine BigFrame.wpList_want (by rfl) (fun K hK => ?_)
          go_simp
          try (refine hK _ _ ?_; clear hK K)
          try simp only [Act.put, Array.getInternal_eq_getElem, List.getElem_toArray, List.getElem_cons_zero, List.getElem_cons_succ, List.setIfInBounds_toArray, List.set_cons_zero, List.set_cons_succ]
          refine BigFrame.wpList_want (by rfl) (fun K hK => ?_)
          go_simp
          try (refine hK _ _ ?_; clear hK K)
          try simp only [Act.put, Array.getInternal_eq_getElem, List.getElem_toArray, List.getElem_cons_zero, List.getElem_cons_succ, List.setIfInBounds_toArray, List.set_cons_zero, List.set_cons_succ]
          refine BigFrame.wpList_want (by rfl) (fun K hK => ?_)
          go_simp
          try (refine hK _ _ ?_; clear hK K)
          try simp only [Act.put, Array.getInternal_eq_getElem, List.getElem_toArray, List.getElem_cons_zero, List.getElem_cons_succ, List.setIfInBounds_toArray, List.set_cons_zero, List.set_cons_succ]
          refine BigFrame.wpList_want (by rfl) (fun K hK => ?_)
          go_simp
          try (refine hK _ _ ?_; clear hK K)
          try simp only [Act.put, Array.getInternal_eq_getElem, List.getElem_toArray, List.getElem_cons_zero, List.getElem_cons_succ, List.setIfInBounds_toArray, List.set_cons_zero, List.set_cons_succ]
          refine BigFrame.wpList_want (by rfl) (fun K hK => ?_)
          refine wp_load_mid 27 (.tmp 94) rfl gx 1 rfl t.cells.toList _ HXT.out Try.underlying27 rfl info27 ?_
          refine hK _ _ ?_
          clear hK K
          try simp only [Act.put, Array.getInternal_eq_getElem, List.getElem_toArray, List.getElem_cons_zero, List.getElem_cons_succ, List.setIfInBounds_toArray, List.set_cons_zero, List.set_cons_succ]
          refine BigFrame.wpList_want (by rfl) (fun K hK => ?_)
          refine wp_load_mid 27 (.tmp 7) rfl gt 0 rfl t.cells.toList _ HI5.out.range Try.underlying27 rfl info27 ?_
          refine hK _ _ ?_
          clear hK K
          try simp only [Act.put, Array.getInternal_eq_getElem, List.getElem_toArray, List.getElem_cons_zero, List.getElem_cons_succ, List.setIfInBounds_toArray, List.set_cons_zero, List.set_cons_succ]
          refine BigFrame.wpList_want (by rfl) (fun K hK => ?_)
          refine wp_run (v := .bool false) (exec_neq27 (.tmp 95) (.tmp 96) rfl t rfl rfl) ?_
          refine hK _ _ ?_
          clear hK K
          try simp only [Act.put, Array.getInternal_eq_getElem, List.getElem_toArray, List.getElem_cons_zero, List.getElem_cons_succ, List.setIfInBounds_toArray, List.set_cons_zero, List.set_cons_succ]
          clear hw
          go_wp2_with (fail)
          go_roundg (N - (k + 1))
          case measure => rw [HGG.out]; omega
          case rel => exact ⟨k + 1, v3, L ++ [x], by omega, by go_num, H5, HL3, Hid.mk rfl⟩
        · have hlen : L.length = 120 := by rw [HL.out]; omega
          have hp4 : 1 ≤ 1 + (k : Int) % 4 ∧ 1 + (k : Int) % 4 ≤ 4 := by omega
          have hE : addE L (1 + (k : Int) % 4) = 10 := by unfold addE; rw [if_pos hp4, if_pos (by omega)]
          have HLE : Hid (addL L t (1 + (k : Int) % 4) ((k : Int) % 2 == 0) ((k : Int) % 3 == 0) = L) := Hid.mk (by unfold addL; rw [hE, if_neg (by omega)])
          have HNE : Hid (addN L (1 + (k : Int) % 4) = 0) := Hid.mk (by unfold addN; rw [hE, if_neg (by omega)])
          have HEE := Hid.mk hE
          have HL3 : Hid (L.length = min (k + 1) 120) := Hid.mk (by omega)
          have e120 : decide ((120 : Int) ≤ (k : Int)) = true := by simp; omega
          have f120 : decide (120 ≤ k) = true := by simp; omega
          clear hE hlen hp4
          go_wp2_with (refine wpList_load_mid rfl 27 (.tmp 7) rfl gt 0 rfl t.cells.toList _ HI2.out.range Try.underlying27 rfl info27 ?_)
          refine add_calls w.heap.size gb v L t (1 + (k : Int) % 4) ((k : Int) % 2 == 0) ((k : Int) % 3 == 0) _ _ H2.out.book H2.out.old.size HFIT.out ?_
          rw [HNE.out, HEE.out, HLE.out]
          intro w3 v3 hb3 hk3 _
          have H3 := Hid.mk (H2.out.add hb3 hk3)
          clear hb3 hk3
          go_wp2_with (fail)
          go_roundg (N - (k + 1))
          case measure => rw [HGG.out]; omega
          case rel => exact ⟨k + 1, v3, L, by omega, by go_num, H3, HL3, Hid.mk rfl⟩
      · obtain rfl : k = N := by omega
        obtain ⟨q, hq⟩ : ∃ q, q = min k 120 := ⟨_, rfl⟩
        have HQ : Hid (L.length = q) := Hid.mk (by rw [HL.out, hq])
        have hqk : (min (k : Int) 120) = (q : Int) := by omega
        have HQK := Hid.mk hqk
        have hnone : getE L ((k : Int) + 1) = 3 ∧ getX L ((k : Int) + 1) = zeroI := by
          have hle : L.length ≤ k := by rw [HL.out]; omega
          unfold getE getX
          rw [if_neg (by omega), if_neg (by omega), List.getElem?_eq_none (by omega)]
          exact ⟨rfl, rfl⟩
        have HN := Hid.mk hnone
        clear hq hnone hqk
        go_wp2_with (fail)
        refine get_calls w.heap.size gb v L ((k : Int) + 1) _ _ HO.out.book ?_
        rw [HN.out.1, HN.out.2]
        intro w2 hb2
        have H2 := Hid.mk (HO.out.below hb2)
        clear hb2
        go_upto_region 16 with (refine wpList_var (op := ⟨none, .store 32 (.tmp 12) (.tmp 148), _, _, _, _⟩) rfl (.tmp 12) (.tmp 148) rfl rfl zeroI rfl rfl rfl ?_; intro w3 hi3 hb3; have H3 := Hid.mk (H2.out.below hb3); clear hi3 hb3)
        go_wp2_with (fail)
        refine alive_calls _ _ ?_
        intro w4 hb4
        have H4 := Hid.mk (H3.out.below hb4)
        clear hb4
        go_wp2_with (fail)
        refine count_calls w.heap.size gb v L _ _ H4.out.book ?_
        rw [HQ.out]
        have m1 := HQK.out
        go_wp2_with (fail)
        exact HR.out _ H4.out.old
  · by_cases e1 : 30 < m
    · have d1 : decide ((30 : Int) < (m : Int)) = true := by simp; omega
      clear e1 hg
      go_enter Try.func3, Try.ntmps3
      go_wp2_with (fail)
      refine new_calls _ _ ?_
      intro w1 hn1 hb1
      have HB1 := Hid.mk hb1
      rw [← HGB.out]
      clear hn1 hb1
      go_wp2_with (fail)
      refine alive_calls _ _ ?_
      intro w2 hb2
      have HB2 := Hid.mk (below_then HB1.out hb2)
      clear hb2
      go_wp2_with (fail)
      exact HR.out _ HB2.out
    have d1 : decide ((30 : Int) < (m : Int)) = false := by simp; omega
    by_cases e2 : m = 0
    · have d0 : ((m : Int) == 0) = true := by simp; omega
      clear e2 hg e1
      go_enter Try.func3, Try.ntmps3
      go_wp2_with (fail)
      refine new_calls _ _ ?_
      intro w1 hn1 hb1
      have HB1 := Hid.mk hb1
      rw [← HGB.out]
      clear hn1 hb1
      go_wp2_with (fail)
      refine alive_calls _ _ ?_
      intro w2 hb2
      have HB2 := Hid.mk (below_then HB1.out hb2)
      clear hb2
      go_wp2_with (fail)
      exact HR.out _ HB2.out
    have d0 : ((m : Int) == 0) = false := by simp; omega
    by_cases e3 : n < 0
    · have d2 : decide (n < 0) = true := by simpa using e3
      clear e3 hg e1 e2
      go_enter Try.func3, Try.ntmps3
      go_wp2_with (fail)
      refine new_calls _ _ ?_
      intro w1 hn1 hb1
      have HB1 := Hid.mk hb1
      rw [← HGB.out]
      clear hn1 hb1
      go_wp2_with (fail)
      refine alive_calls _ _ ?_
      intro w2 hb2
      have HB2 := Hid.mk (below_then HB1.out hb2)
      clear hb2
      go_wp2_with (fail)
      exact HR.out _ HB2.out
    have d2 : decide (n < 0) = false := by simpa using e3
    have d3 : decide (130 < n) = true := by simp; omega
    clear e3 hg e1 e2
    go_enter Try.func3, Try.ntmps3
    go_wp2_with (fail)
    refine new_calls _ _ ?_
    intro w1 hn1 hb1
    have HB1 := Hid.mk hb1
    rw [← HGB.out]
    clear hn1 hb1
    go_wp2_with (fail)
    refine alive_calls _ _ ?_
    intro w2 hb2
    have HB2 := Hid.mk (below_then HB1.out hb2)
    clear hb2
    go_wp2_with (fail)
    exact HR.out _ HB2.out
end Go.Proofs.Yteecekijekegdaa
