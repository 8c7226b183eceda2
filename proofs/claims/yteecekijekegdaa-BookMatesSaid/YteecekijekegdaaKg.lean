/- The walk of a store's Get: the record, or none. Plain contracts, no conditions but those that each names. -/
import Derived.Test.YteecekijekegdaaKf
namespace Go.Proofs.Yteecekijekegdaa
open Go.RowKit

theorem info32 : (Try.prog.info? 32).map (·.size) = some 21 := by kernel_rfl
theorem InstD.one (x : InstD) : x.cells.toArray.all (·.oneCell') = true := by simp [InstD.cells, Value.oneCell']
/-- A record that lies in a block of its own. -/
def InstAt (w : World) (g : Nat) (x : InstD) : Prop := w.heap[g]? = some (.cells x.cells.toArray 32 (0, 0))
theorem InstAt.there {w : World} {g : Nat} {x : InstD} (h : InstAt w g x) : w.there g 0 21 := fun j hj => by
  rw [blk_cell h, Nat.zero_add, Array.getElem?_eq_getElem (by simpa [InstD.len] using hj)]
  exact ⟨rfl, blk_frozen h j⟩
theorem InstAt.range {w : World} {g : Nat} {x : InstD} (h : InstAt w g x) : w.rangeAt g 0 x.cells := fun j v hv => by
  rw [blk_cell h, Nat.zero_add]; simpa using hv
theorem InstAt.cell {w : World} {g : Nat} {x : InstD} (h : InstAt w g x) (j : Nat) : w.cell? ⟨g, j, none⟩ = x.cells[j]? := by
  rw [blk_cell h]; simp
theorem InstAt.below {w w' : World} {g : Nat} {x : InstD} (h : InstAt w g x) (k : Below w.heap.size w w') : InstAt w' g x := (Keep.of_below k).heap h (fun h => h)
theorem setCells_heap_in (w : World) (g : Nat) (vs : List Value) : ∀ (o : Nat) (c : Array Value) (t : TypeId) (fr : Nat × Nat), w.heap[g]? = some (.cells c t fr) → ∃ c', (w.setCells g o vs).heap[g]? = some (.cells c' t fr) ∧ c'.size = c.size ∧
    ∀ i, c'[i]? = if o ≤ i ∧ i < o + vs.length ∧ i < c.size then vs[i - o]? else c[i]? := by
  induction vs generalizing w with
  | nil => exact fun o c t fr h => ⟨c, h, rfl, fun i => by rw [if_neg (by simp only [List.length_nil]; omega)]⟩
  | cons u r ih =>
    intro o c t fr h
    have h1 := blk_set h o u
    obtain ⟨c', h2, h3, h4⟩ := ih (w.setCell ⟨g, o, none⟩ u) (o + 1) _ t fr h1
    refine ⟨c', h2, by simpa using h3, fun i => ?_⟩
    rw [h4 i]
    simp only [Array.size_setIfInBounds, List.length_cons, Array.getElem?_setIfInBounds]
    by_cases hi : o = i
    · subst hi
      rw [if_neg (by omega), if_pos rfl]
      by_cases hs : o < c.size
      · rw [if_pos hs, if_pos (by omega)]; simp
      · rw [if_neg hs, if_neg (by omega), Array.getElem?_eq_none (by omega)]
    · by_cases hc : o + 1 ≤ i ∧ i < o + 1 + r.length ∧ i < c.size
      · rw [if_pos hc, if_pos (by omega), show i - o = (i - (o + 1)) + 1 by omega, List.getElem?_cons_succ]
      · rw [if_neg hc, if_neg hi, if_neg (by omega)]
theorem InstAt.fill {w : World} {g : Nat} {x : InstD} (h : InstAt w g x) (y : InstD) : InstAt (w.setCells g 0 y.cells) g y := by
  obtain ⟨c', h1, h2, h3⟩ := setCells_heap_in w g y.cells 0 _ _ _ h
  have e1 : y.cells.length = 21 := InstD.len y
  have e2 : x.cells.toArray.size = 21 := by rw [List.size_toArray, InstD.len]
  have e3 : c' = y.cells.toArray := by
   apply Array.ext_getElem?
   intro i
   rw [h3 i]
   by_cases hi : i < 21
   · rw [if_pos (by omega)]; simp
   · rw [if_neg (by omega), Array.getElem?_eq_none (by omega), Array.getElem?_eq_none (by rw [List.size_toArray, e1]; omega)]
  unfold InstAt
  rw [h1, e3]
theorem setCells_below {w W : World} (h : Below w.heap.size w W) {g : Nat} (hg : w.heap.size ≤ g) (vs : List Value) : ∀ (o : Nat), Below w.heap.size w (W.setCells g o vs) := by
  induction vs generalizing W with
  | nil => exact fun _ => h
  | cons u r ih => exact fun o => ih (h.setCell (p := ⟨g, o, none⟩) hg u) (o + 1)

theorem get_ret {tmps : Array Value} {w : World} {gz : Nat} {x : InstD} {e : Int} (h4 : (tmps[4]?).getD undef = .pointer (some ⟨gz, 0, none⟩)) (h5 : (tmps[5]?).getD undef = .int .i64 e) (h : InstAt w gz x) :
    (results Try.f11 tmps).run Try.prog w = .ok (.tuple #[x.val, .int .i64 e]) w := by
  have ha : (asAddr (.pointer (some ⟨gz, 0, none⟩))).run Try.prog w = .ok ⟨gz, 0, none⟩ w := rfl
  have hl : (loadVar 32 ⟨gz, 0, none⟩).run Try.prog w = .ok (.agg x.cells.toArray) w := run_loadVar_mid _ gz 0 32 x.cells _ h.range Try.underlying32 rfl info32
  simp [results, Try.results11, InstD.val, Sem.run_bind, h4, h5, ha, hl]

theorem get_some (B : Nat) (gb : Nat) (v : Value) (L : List InstD) (k : Nat) (x : InstD) (w : World) (R : Ending → World → Prop) (hB : BookS B w gb v L) (hx : L[k]? = some x)
    (hR : ∀ w', Below w.heap.size w w' → R (.returned (.tuple #[x.val, .int .i64 0])) w') :
    Calls Try.prog 11 #[.pointer (some ⟨gb, 0, none⟩), .int .i64 ((k : Int) + 1)] w R := by
  have HR := Hid.mk hR
  clear hR
  have hk : k < L.length := (List.getElem?_eq_some_iff.1 hx).1
  have hf := hB.form
  have HB := Hid.mk hB
  clear hB
  rcases hf with ⟨rfl, rfl⟩ | ⟨g, hg, _⟩
  · simp at hk
  · have HX := Hid.mk hx
    have HK := Hid.mk hk
    have HG := Hid.mk hg
    clear hx hk hg
    go_enter Try.func11, Try.ntmps11
    go_upto_region 1 with (fail)
    obtain ⟨gz, hgz⟩ : ∃ g, g = w.heap.size := ⟨_, rfl⟩
    obtain ⟨W, hW⟩ : ∃ W, W = w.alloc (.cells zeroI.cells.toArray 32) := ⟨_, rfl⟩
    have hz : Hid (InstAt W gz zeroI) := Hid.mk (by subst hW; subst hgz; exact blk_new _ _)
    have hbW : Hid (Below w.heap.size w W) := Hid.mk (by subst hW; exact below_allocs (Below.refl _ _) _)
    unfold InstD.cells zeroI zeroT at hW
    dsimp only at hW
    rw [← hW, ← hgz]
    have hgz2 : Hid (w.heap.size ≤ gz) := Hid.mk (by omega)
    clear hW hgz
    go_wp2_with (fail)
    refine at_some B gb v L k g _ _ (HB.out.below hbW.out) HK.out HG.out ?_
    have hr : W.rangeAt g (k * 21) x.cells := fun j u hu => by
      have hj : j < 21 := by have := (List.getElem?_eq_some_iff.1 hu).1; rwa [InstD.len] at this
      rw [(HB.out.below hbW.out).at_ HG.out HX.out j hj, hu]
    have HRG := Hid.mk hr
    clear hr
    go_upto_region 6 with (fail)
    go_wp2_with (first
      | (refine wpList_load_mid rfl 32 (.tmp 17) rfl g (k * 21) rfl x.cells _ HRG.out Try.underlying32 rfl info32 ?_)
      | (refine wpList_store_mid rfl 32 (.tmp 4) (.tmp 18) rfl gz 0 x.cells.toArray rfl rfl hz.out.there info32 x.one ?_))
    exact bodyPost_ret (get_ret rfl rfl (hz.out.fill x)) rfl (HR.out _ (setCells_below hbW.out hgz2.out _ 0))

theorem get_none (B : Nat) (gb : Nat) (v : Value) (L : List InstD) (n : Int) (w : World) (R : Ending → World → Prop) (hB : BookS B w gb v L) (hn : n < 1 ∨ (L.length : Int) < n)
    (hR : ∀ w', Below w.heap.size w w' → R (.returned (.tuple #[zeroI.val, .int .i64 3])) w') :
    Calls Try.prog 11 #[.pointer (some ⟨gb, 0, none⟩), .int .i64 n] w R := by
  have HR := Hid.mk hR
  clear hR
  have HB := Hid.mk hB
  have HN := Hid.mk hn
  clear hB hn
  go_enter Try.func11, Try.ntmps11
  go_upto_region 1 with (fail)
  obtain ⟨gz, hgz⟩ : ∃ g, g = w.heap.size := ⟨_, rfl⟩
  obtain ⟨W, hW⟩ : ∃ W, W = w.alloc (.cells zeroI.cells.toArray 32) := ⟨_, rfl⟩
  have hz : Hid (InstAt W gz zeroI) := Hid.mk (by subst hW; subst hgz; exact blk_new _ _)
  have hbW : Hid (Below w.heap.size w W) := Hid.mk (by subst hW; exact below_allocs (Below.refl _ _) _)
  unfold InstD.cells zeroI zeroT at hW
  dsimp only at hW
  rw [← hW, ← hgz]
  have hgz2 : Hid (w.heap.size ≤ gz) := Hid.mk (by omega)
  clear hW hgz
  go_wp2_with (fail)
  refine at_none B gb v L n _ _ (HB.out.below hbW.out) HN.out ?_
  go_upto_region 5 with (fail)
  go_wp2_with (refine wpList_store_mid rfl 32 (.tmp 4) (.tmp 15) rfl gz 0 zeroI.cells.toArray rfl rfl hz.out.there info32 zeroI.one ?_)
  exact bodyPost_ret (get_ret rfl rfl (hz.out.fill zeroI)) rfl (HR.out _ (setCells_below hbW.out hgz2.out _ 0))

theorem get_nil (n : Int) (w : World) (R : Ending → World → Prop) (hR : ∀ w', Below w.heap.size w w' → R (.returned (.tuple #[zeroI.val, .int .i64 1])) w') :
    Calls Try.prog 11 #[.pointer none, .int .i64 n] w R := by
  have HR := Hid.mk hR
  clear hR
  go_enter Try.func11, Try.ntmps11
  go_upto_region 1 with (fail)
  obtain ⟨gz, hgz⟩ : ∃ g, g = w.heap.size := ⟨_, rfl⟩
  obtain ⟨W, hW⟩ : ∃ W, W = w.alloc (.cells zeroI.cells.toArray 32) := ⟨_, rfl⟩
  have hz : Hid (InstAt W gz zeroI) := Hid.mk (by subst hW; subst hgz; exact blk_new _ _)
  have hbW : Hid (Below w.heap.size w W) := Hid.mk (by subst hW; exact below_allocs (Below.refl _ _) _)
  unfold InstD.cells zeroI zeroT at hW
  dsimp only at hW
  rw [← hW, ← hgz]
  have hgz2 : Hid (w.heap.size ≤ gz) := Hid.mk (by omega)
  clear hW hgz
  go_upto_region 2 with (fail)
  go_wp2_with (refine wpList_store_mid rfl 32 (.tmp 4) (.tmp 9) rfl gz 0 zeroI.cells.toArray rfl rfl hz.out.there info32 zeroI.one ?_)
  exact bodyPost_ret (get_ret rfl rfl (hz.out.fill zeroI)) rfl (HR.out _ (setCells_below hbW.out hgz2.out _ 0))
end Go.Proofs.Yteecekijekegdaa
