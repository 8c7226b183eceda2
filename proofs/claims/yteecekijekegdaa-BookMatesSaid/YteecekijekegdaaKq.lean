/- The walk of a store's Settle: paid too much, and the good one. Plain contracts, no conditions but those that each names. -/
import Derived.Test.YteecekijekegdaaKp
import Derived.IntWalk
namespace Go.Proofs.Yteecekijekegdaa
open Go.RowKit

theorem below_draw {w : World} : Below w.heap.size w w.drew := ⟨rfl, rfl, rfl, Nat.le_refl _, fun _ _ => rfl⟩

/-- So much more done and paid. -/
def paidX (x : InstD) (q p : Int) : InstD := { x with done := x.done + q, paid := x.paid + p }
/-- Settle: an instruction and its mate. -/
def settleX (L : List InstD) (k : Nat) (x : InstD) (q p : Int) : List InstD :=
  match mateI L k x.mate with
  | none => (doL (if q = leftX x then 2 else 1) (L.set k (paidX x q p)) [some k, none]).1
  | some i => match L[i]? with
    | some y => (doL (if q = leftX x then 2 else 1) ((L.set k (paidX x q p)).set i (paidX y q p)) [some k, some i]).1
    | none => L

set_option linter.unusedSimpArgs false in
set_option maxRecDepth 100000 in
set_option maxHeartbeats 2000000 in
theorem settle_over (B : Nat) (gb : Nat) (v : Value) (L : List InstD) (k : Nat) (x : InstD) (q p : Int) (w : World) (R : Ending → World → Prop) (hB : BookS B w gb v L) (hx : L[k]? = some x) (hs : x.state = 1 ∨ x.state = 2) (hf : FitX x) (hq : 1 ≤ q) (hl : q ≤ leftX x) (hp0 : 0 ≤ p) (hp : x.t.amount - x.paid < p)
    (hR : ∀ w', Below w.heap.size w w' → R (.returned (.int .i64 1)) w') :
    Calls Try.prog 21 #[.pointer (some ⟨gb, 0, none⟩), .int .i64 ((k : Int) + 1), .int .i64 q, .int .i64 p] w R := by
  have hk := (List.getElem?_eq_some_iff.1 hx).1
  rcases hB.form with ⟨rfl, rfl⟩ | ⟨g, hg, _⟩
  · simp at hk
  have c17 : w.cell? ⟨g, k * 21 + 17, none⟩ = some (.int .i64 x.state) := by rw [hB.at_ hg hx 17 (by omega)]; rfl
  obtain ⟨am, ham⟩ : ∃ z, z = x.t.amount := ⟨_, rfl⟩
  obtain ⟨pd, hpd⟩ : ∃ z, z = x.paid := ⟨_, rfl⟩
  have HS : Hid (∀ w', Below w.heap.size w w' → (fun w' => w'.rangeAt g (k * 21) x.cells ∧ w'.cell? ⟨g, k * 21 + 10, none⟩ = some (.int .i64 am) ∧ w'.cell? ⟨g, k * 21 + 20, none⟩ = some (.int .i64 pd)) w') := Hid.mk (fun w' hb => ⟨(hB.below hb).range hg hx, by rw [(hB.below hb).at_ hg hx 10 (by omega), ham]; rfl, by rw [(hB.below hb).at_ hg hx 20 (by omega), hpd]; rfl⟩)
  have HR := Hid.mk hR
  have HB := Hid.mk hB
  have HX := Hid.mk hx
  have HK := Hid.mk hk
  have HG := Hid.mk hg
  have HF := Hid.mk hf
  obtain ⟨l, hl0⟩ : ∃ l, l = leftX x := ⟨_, rfl⟩
  rw [← hl0] at hl
  rw [← ham, ← hpd] at hp
  have d1 : decide (q < 1) = false := by simp; omega
  have d2 : decide (l < q) = false := by simp; omega
  have d3 : decide (p < 0) = false := by simp; omega
  have hw1 : IntKind.i64.wrap (am - pd) = am - pd := by
    have h1 := hf.2.2.2
    rw [← ham, ← hpd] at h1
    exact IntWalk.i64_in _ (by omega)
  have d4 : decide (am - pd < p) = true := by simpa using hp
  clear hq hl hp0 hp
  have HL := Hid.mk hl0
  have HAM := Hid.mk ham
  have HPD := Hid.mk hpd
  obtain ⟨s, hs0⟩ : ∃ s, s = x.state := ⟨_, rfl⟩
  rw [← hs0] at c17 hs
  have HSS := Hid.mk hs0
  clear hR hB hx hk hg hf hl0 hs0 ham hpd
  go_enter Try.func21, Try.ntmps21
  go_wp2_with (fail)
  refine at_some B gb v L k g _ _ HB.out HK.out HG.out ?_
  go_upto_region 6 with (fail)
  go_cut [22] (fun v22 wc => v22 = .bool false ∧ w = wc)
  case first =>
    rcases hs with rfl | rfl
    · go_wp2_with (fail)
      go_meet
      case rel => exact ⟨rfl, rfl⟩
    · go_wp2_with (fail)
      go_meet
      case rel => exact ⟨rfl, rfl⟩
  case rest =>
    obtain ⟨rfl, rfl⟩ := hcut
    clear c17 hs
    go_upto_region 8 with (fail)
    refine wp_region_noPanic ?_
    refine wp_region_held_drew (S := (fun w' => w'.rangeAt g (k * 21) x.cells ∧ w'.cell? ⟨g, k * 21 + 10, none⟩ = some (.int .i64 am) ∧ w'.cell? ⟨g, k * 21 + 20, none⟩ = some (.int .i64 pd))) (by kernel_rfl) (HS.out _ below_draw) (fun hHeld => ?_)
    refine wpAnyH_take (i := 0) (v := ?_) rfl (by kernel_rfl) (by kernel_rfl) (by kernel_rfl) (fun _ _ _ h => h) (Or.inl ⟨by rfl, ?_⟩) hHeld ?_
    rotate_left
    · intro w hSw; obtain ⟨_, s1, s2⟩ := hSw; go_simp; try with_reducible rfl
    simp only [Act.put, Array.getInternal_eq_getElem, List.getElem_toArray, List.getElem_cons_zero, List.getElem_cons_succ, List.setIfInBounds_toArray, List.set_cons_zero, List.set_cons_succ]
    refine wpAnyH_take (i := 1) (v := ?_) rfl (by kernel_rfl) (by kernel_rfl) (by kernel_rfl) (fun _ _ _ h => h) (Or.inl ⟨by rfl, ?_⟩) hHeld ?_
    rotate_left
    · intro w hSw; obtain ⟨_, s1, s2⟩ := hSw; go_simp; try with_reducible rfl
    simp only [Act.put, Array.getInternal_eq_getElem, List.getElem_toArray, List.getElem_cons_zero, List.getElem_cons_succ, List.setIfInBounds_toArray, List.set_cons_zero, List.set_cons_succ]
    refine wpAnyH_take (i := 2) (v := ?_) rfl (by kernel_rfl) (by kernel_rfl) (by kernel_rfl) (fun _ _ _ h => h) (Or.inl ⟨by rfl, ?_⟩) hHeld ?_
    rotate_left
    · intro w hSw; obtain ⟨_, s1, s2⟩ := hSw; go_simp; try with_reducible rfl
    simp only [Act.put, Array.getInternal_eq_getElem, List.getElem_toArray, List.getElem_cons_zero, List.getElem_cons_succ, List.setIfInBounds_toArray, List.set_cons_zero, List.set_cons_succ]
    refine wpAnyH_take (i := 3) (v := ?_) rfl (by kernel_rfl) (by kernel_rfl) (by kernel_rfl) (fun _ _ _ h => h) (Or.inl ⟨by rfl, ?_⟩) hHeld ?_
    rotate_left
    · intro w hSw; obtain ⟨_, s1, s2⟩ := hSw; go_simp; try with_reducible rfl
    simp only [Act.put, Array.getInternal_eq_getElem, List.getElem_toArray, List.getElem_cons_zero, List.getElem_cons_succ, List.setIfInBounds_toArray, List.set_cons_zero, List.set_cons_succ]
    refine wpAnyH_take (i := 4) (v := ?_) rfl (by kernel_rfl) (by kernel_rfl) (by kernel_rfl) (fun _ _ _ h => h) (Or.inl ⟨by rfl, ?_⟩) hHeld ?_
    rotate_left
    · intro w hSw; obtain ⟨_, s1, s2⟩ := hSw; go_simp; try with_reducible rfl
    simp only [Act.put, Array.getInternal_eq_getElem, List.getElem_toArray, List.getElem_cons_zero, List.getElem_cons_succ, List.setIfInBounds_toArray, List.set_cons_zero, List.set_cons_succ]
    refine wpAnyH_take (i := 5) (v := ?_) rfl (by kernel_rfl) (by kernel_rfl) (by kernel_rfl) (fun _ _ _ h => h) (Or.inl ⟨by rfl, ?_⟩) hHeld ?_
    rotate_left
    · intro w hSw; obtain ⟨_, s1, s2⟩ := hSw; go_simp; try with_reducible rfl
    simp only [Act.put, Array.getInternal_eq_getElem, List.getElem_toArray, List.getElem_cons_zero, List.getElem_cons_succ, List.setIfInBounds_toArray, List.set_cons_zero, List.set_cons_succ]
    refine wpAnyH_take (i := 6) (v := .agg x.cells.toArray) rfl (by kernel_rfl) (by kernel_rfl) (by kernel_rfl) (fun _ _ _ h => h) (yieldsIf_load_mid (by rfl) 32 (.tmp 41) rfl g (k * 21) rfl x.cells _ (fun _ h => h.1) Try.underlying32 rfl info32) hHeld ?_
    simp only [Act.put, Array.getInternal_eq_getElem, List.getElem_toArray, List.getElem_cons_zero, List.getElem_cons_succ, List.setIfInBounds_toArray, List.set_cons_zero, List.set_cons_succ]
    refine wpAnyH_ready (rs := [7]) (by kernel_rfl) (by simp) ?_
    refine AllReadyH.cons rfl (fun K hK => ?_) AllReadyH.nil
    go_simp
    go_wp2_with (go_at_call 31; refine left_calls x _ _ HF.out.1 HF.out.2.1 HF.out.2.2.1 ?_; rw [← HL.out]; intro w1 hb1; have HB1 : Hid (Below w.heap.size w w1) := Hid.mk (after_draw hb1); clear hb1)
    refine hK.out _ _ (HS.out _ HB1.out) (fun hHeld => ?_)
    clear hK K
    try simp only [Act.put, Array.getInternal_eq_getElem, List.getElem_toArray, List.getElem_cons_zero, List.getElem_cons_succ, List.setIfInBounds_toArray, List.set_cons_zero, List.set_cons_succ]
    refine wpAnyH_take (i := 8) (v := ?_) rfl (by kernel_rfl) (by kernel_rfl) (by kernel_rfl) (fun _ _ _ h => h) (Or.inl ⟨by rfl, ?_⟩) hHeld ?_
    rotate_left
    · intro w hSw; obtain ⟨_, s1, s2⟩ := hSw; go_simp; try with_reducible rfl
    simp only [Act.put, Array.getInternal_eq_getElem, List.getElem_toArray, List.getElem_cons_zero, List.getElem_cons_succ, List.setIfInBounds_toArray, List.set_cons_zero, List.set_cons_succ]
    refine wpAnyH_take (i := 9) (v := ?_) rfl (by kernel_rfl) (by kernel_rfl) (by kernel_rfl) (fun _ _ _ h => h) (Or.inl ⟨by rfl, ?_⟩) hHeld ?_
    rotate_left
    · intro w hSw; obtain ⟨_, s1, s2⟩ := hSw; go_simp; try with_reducible rfl
    simp only [Act.put, Array.getInternal_eq_getElem, List.getElem_toArray, List.getElem_cons_zero, List.getElem_cons_succ, List.setIfInBounds_toArray, List.set_cons_zero, List.set_cons_succ]
    refine wpAnyH_take (i := 10) (v := ?_) rfl (by kernel_rfl) (by kernel_rfl) (by kernel_rfl) (fun _ _ _ h => h) (Or.inl ⟨by rfl, ?_⟩) hHeld ?_
    rotate_left
    · intro w hSw; obtain ⟨_, s1, s2⟩ := hSw; go_simp; try with_reducible rfl
    simp only [Act.put, Array.getInternal_eq_getElem, List.getElem_toArray, List.getElem_cons_zero, List.getElem_cons_succ, List.setIfInBounds_toArray, List.set_cons_zero, List.set_cons_succ]
    refine wpAnyH_take (i := 11) (v := ?_) rfl (by kernel_rfl) (by kernel_rfl) (by kernel_rfl) (fun _ _ _ h => h) (Or.inl ⟨by rfl, ?_⟩) hHeld ?_
    rotate_left
    · intro w hSw; obtain ⟨_, s1, s2⟩ := hSw; go_simp; try with_reducible rfl
    simp only [Act.put, Array.getInternal_eq_getElem, List.getElem_toArray, List.getElem_cons_zero, List.getElem_cons_succ, List.setIfInBounds_toArray, List.set_cons_zero, List.set_cons_succ]
    refine wpAnyH_take (i := 12) (v := ?_) rfl (by kernel_rfl) (by kernel_rfl) (by kernel_rfl) (fun _ _ _ h => h) (Or.inl ⟨by rfl, ?_⟩) hHeld ?_
    rotate_left
    · intro w hSw; obtain ⟨_, s1, s2⟩ := hSw; go_simp; try with_reducible rfl
    simp only [Act.put, Array.getInternal_eq_getElem, List.getElem_toArray, List.getElem_cons_zero, List.getElem_cons_succ, List.setIfInBounds_toArray, List.set_cons_zero, List.set_cons_succ]
    refine wpAnyH_take (i := 13) (v := ?_) rfl (by kernel_rfl) (by kernel_rfl) (by kernel_rfl) (fun _ _ _ h => h) (Or.inl ⟨by rfl, ?_⟩) hHeld ?_
    rotate_left
    · intro w hSw; obtain ⟨_, s1, s2⟩ := hSw; go_simp; try with_reducible rfl
    simp only [Act.put, Array.getInternal_eq_getElem, List.getElem_toArray, List.getElem_cons_zero, List.getElem_cons_succ, List.setIfInBounds_toArray, List.set_cons_zero, List.set_cons_succ]
    refine wpAnyH_take (i := 14) (v := ?_) rfl (by kernel_rfl) (by kernel_rfl) (by kernel_rfl) (fun _ _ _ h => h) (Or.inl ⟨by rfl, ?_⟩) hHeld ?_
    rotate_left
    · intro w hSw; obtain ⟨_, s1, s2⟩ := hSw; go_simp; try with_reducible rfl
    simp only [Act.put, Array.getInternal_eq_getElem, List.getElem_toArray, List.getElem_cons_zero, List.getElem_cons_succ, List.setIfInBounds_toArray, List.set_cons_zero, List.set_cons_succ]
    refine wpAnyH_take (i := 15) (v := ?_) rfl (by kernel_rfl) (by kernel_rfl) (by kernel_rfl) (fun _ _ _ h => h) (Or.inl ⟨by rfl, ?_⟩) hHeld ?_
    rotate_left
    · intro w hSw; obtain ⟨_, s1, s2⟩ := hSw; go_simp; try with_reducible rfl
    simp only [Act.put, Array.getInternal_eq_getElem, List.getElem_toArray, List.getElem_cons_zero, List.getElem_cons_succ, List.setIfInBounds_toArray, List.set_cons_zero, List.set_cons_succ]
    refine wpAnyH_take (i := 16) (v := ?_) rfl (by kernel_rfl) (by kernel_rfl) (by kernel_rfl) (fun _ _ _ h => h) (Or.inl ⟨by rfl, ?_⟩) hHeld ?_
    rotate_left
    · intro w hSw; obtain ⟨_, s1, s2⟩ := hSw; go_simp; try with_reducible rfl
    simp only [Act.put, Array.getInternal_eq_getElem, List.getElem_toArray, List.getElem_cons_zero, List.getElem_cons_succ, List.setIfInBounds_toArray, List.set_cons_zero, List.set_cons_succ]
    refine wpAnyH_take (i := 17) (v := ?_) rfl (by kernel_rfl) (by kernel_rfl) (by kernel_rfl) (fun _ _ _ h => h) (Or.inl ⟨by rfl, ?_⟩) hHeld ?_
    rotate_left
    · intro w hSw; obtain ⟨_, s1, s2⟩ := hSw; go_simp; try with_reducible rfl
    simp only [Act.put, Array.getInternal_eq_getElem, List.getElem_toArray, List.getElem_cons_zero, List.getElem_cons_succ, List.setIfInBounds_toArray, List.set_cons_zero, List.set_cons_succ]
    refine wpAnyH_take (i := 18) (v := ?_) rfl (by kernel_rfl) (by kernel_rfl) (by kernel_rfl) (fun _ _ _ h => h) (Or.inl ⟨by rfl, ?_⟩) hHeld ?_
    rotate_left
    · intro w hSw; obtain ⟨_, s1, s2⟩ := hSw; go_simp; try with_reducible rfl
    simp only [Act.put, Array.getInternal_eq_getElem, List.getElem_toArray, List.getElem_cons_zero, List.getElem_cons_succ, List.setIfInBounds_toArray, List.set_cons_zero, List.set_cons_succ]
    refine wpAnyH_take (i := 19) (v := ?_) rfl (by kernel_rfl) (by kernel_rfl) (by kernel_rfl) (fun _ _ _ h => h) (Or.inl ⟨by rfl, ?_⟩) hHeld ?_
    rotate_left
    · intro w hSw; obtain ⟨_, s1, s2⟩ := hSw; go_simp; try with_reducible rfl
    simp only [Act.put, Array.getInternal_eq_getElem, List.getElem_toArray, List.getElem_cons_zero, List.getElem_cons_succ, List.setIfInBounds_toArray, List.set_cons_zero, List.set_cons_succ]
    refine wpAnyH_take (i := 20) (v := ?_) rfl (by kernel_rfl) (by kernel_rfl) (by kernel_rfl) (fun _ _ _ h => h) (Or.inl ⟨by rfl, ?_⟩) hHeld ?_
    rotate_left
    · intro w hSw; obtain ⟨_, s1, s2⟩ := hSw; go_simp; try with_reducible rfl
    simp only [Act.put, Array.getInternal_eq_getElem, List.getElem_toArray, List.getElem_cons_zero, List.getElem_cons_succ, List.setIfInBounds_toArray, List.set_cons_zero, List.set_cons_succ]
    refine wpAnyH_take (i := 21) (v := ?_) rfl (by kernel_rfl) (by kernel_rfl) (by kernel_rfl) (fun _ _ _ h => h) (Or.inl ⟨by rfl, ?_⟩) hHeld ?_
    rotate_left
    · intro w hSw; obtain ⟨_, s1, s2⟩ := hSw; go_simp; try with_reducible rfl
    simp only [Act.put, Array.getInternal_eq_getElem, List.getElem_toArray, List.getElem_cons_zero, List.getElem_cons_succ, List.setIfInBounds_toArray, List.set_cons_zero, List.set_cons_succ]
    refine wpAnyH_take (i := 22) (v := ?_) rfl (by kernel_rfl) (by kernel_rfl) (by kernel_rfl) (fun _ _ _ h => h) (Or.inl ⟨by rfl, ?_⟩) hHeld ?_
    rotate_left
    · intro w hSw; obtain ⟨_, s1, s2⟩ := hSw; go_simp; try with_reducible rfl
    simp only [Act.put, Array.getInternal_eq_getElem, List.getElem_toArray, List.getElem_cons_zero, List.getElem_cons_succ, List.setIfInBounds_toArray, List.set_cons_zero, List.set_cons_succ]
    refine wpAnyH_take (i := 23) (v := ?_) rfl (by kernel_rfl) (by kernel_rfl) (by kernel_rfl) (fun _ _ _ h => h) (Or.inl ⟨by rfl, ?_⟩) hHeld ?_
    rotate_left
    · intro w hSw; obtain ⟨_, s1, s2⟩ := hSw; go_simp; try with_reducible rfl
    simp only [Act.put, Array.getInternal_eq_getElem, List.getElem_toArray, List.getElem_cons_zero, List.getElem_cons_succ, List.setIfInBounds_toArray, List.set_cons_zero, List.set_cons_succ]
    refine wpAnyH_take (i := 24) (v := ?_) rfl (by kernel_rfl) (by kernel_rfl) (by kernel_rfl) (fun _ _ _ h => h) (Or.inl ⟨by rfl, ?_⟩) hHeld ?_
    rotate_left
    · intro w hSw; obtain ⟨_, s1, s2⟩ := hSw; go_simp; try with_reducible rfl
    simp only [Act.put, Array.getInternal_eq_getElem, List.getElem_toArray, List.getElem_cons_zero, List.getElem_cons_succ, List.setIfInBounds_toArray, List.set_cons_zero, List.set_cons_succ]
    refine wpAnyH_take (i := 25) (v := ?_) rfl (by kernel_rfl) (by kernel_rfl) (by kernel_rfl) (fun _ _ _ h => h) (Or.inl ⟨by rfl, ?_⟩) hHeld ?_
    rotate_left
    · intro w hSw; obtain ⟨_, s1, s2⟩ := hSw; go_simp; try with_reducible rfl
    simp only [Act.put, Array.getInternal_eq_getElem, List.getElem_toArray, List.getElem_cons_zero, List.getElem_cons_succ, List.setIfInBounds_toArray, List.set_cons_zero, List.set_cons_succ]
    refine wpAnyH_take (i := 26) (v := ?_) rfl (by kernel_rfl) (by kernel_rfl) (by kernel_rfl) (fun _ _ _ h => h) (Or.inl ⟨by rfl, ?_⟩) hHeld ?_
    rotate_left
    · intro w hSw; obtain ⟨_, s1, s2⟩ := hSw; go_simp; try with_reducible rfl
    simp only [Act.put, Array.getInternal_eq_getElem, List.getElem_toArray, List.getElem_cons_zero, List.getElem_cons_succ, List.setIfInBounds_toArray, List.set_cons_zero, List.set_cons_succ]
    refine wpAnyH_take (i := 27) (v := ?_) rfl (by kernel_rfl) (by kernel_rfl) (by kernel_rfl) (fun _ _ _ h => h) (Or.inl ⟨by rfl, ?_⟩) hHeld ?_
    rotate_left
    · intro w hSw; obtain ⟨_, s1, s2⟩ := hSw; go_simp; try with_reducible rfl
    simp only [Act.put, Array.getInternal_eq_getElem, List.getElem_toArray, List.getElem_cons_zero, List.getElem_cons_succ, List.setIfInBounds_toArray, List.set_cons_zero, List.set_cons_succ]
    refine wpAnyH_take (i := 28) (v := ?_) rfl (by kernel_rfl) (by kernel_rfl) (by kernel_rfl) (fun _ _ _ h => h) (Or.inl ⟨by rfl, ?_⟩) hHeld ?_
    rotate_left
    · intro w hSw; obtain ⟨_, s1, s2⟩ := hSw; go_simp; try with_reducible rfl
    simp only [Act.put, Array.getInternal_eq_getElem, List.getElem_toArray, List.getElem_cons_zero, List.getElem_cons_succ, List.setIfInBounds_toArray, List.set_cons_zero, List.set_cons_succ]
    refine wpAnyH_done (by kernel_rfl) ?_ _
    refine NoPanic.normal ?_
    go_wp2_with (fail)
    exact HR.out _ HB1.out

set_option linter.unusedSimpArgs false in
set_option maxRecDepth 100000 in
set_option maxHeartbeats 2000000 in
theorem settle_good (B : Nat) (gb : Nat) (v : Value) (L : List InstD) (k : Nat) (x : InstD) (q p : Int) (w : World) (R : Ending → World → Prop) (hB : BookS B w gb v L) (hx : L[k]? = some x) (hs : x.state = 1 ∨ x.state = 2) (hf : FitX x) (hq : 1 ≤ q) (hl : q ≤ leftX x) (hp0 : 0 ≤ p) (hp : p ≤ x.t.amount - x.paid) (hm : ∀ i y, mateI L k x.mate = some i → L[i]? = some y → FitX y)
    (hR : ∀ w', BookS B w' gb v (settleX L k x q p) → Keep (fun i => v.ownBlock = some i) w w' → R (.returned (.int .i64 0)) w') :
    Calls Try.prog 21 #[.pointer (some ⟨gb, 0, none⟩), .int .i64 ((k : Int) + 1), .int .i64 q, .int .i64 p] w R := by
  have hk := (List.getElem?_eq_some_iff.1 hx).1
  rcases hB.form with ⟨rfl, rfl⟩ | ⟨g, hg, _⟩
  · simp at hk
  have c17 : w.cell? ⟨g, k * 21 + 17, none⟩ = some (.int .i64 x.state) := by rw [hB.at_ hg hx 17 (by omega)]; rfl
  obtain ⟨am, ham⟩ : ∃ z, z = x.t.amount := ⟨_, rfl⟩
  obtain ⟨pd, hpd⟩ : ∃ z, z = x.paid := ⟨_, rfl⟩
  have HS : Hid (∀ w', Below w.heap.size w w' → (fun w' => w'.rangeAt g (k * 21) x.cells ∧ w'.cell? ⟨g, k * 21 + 10, none⟩ = some (.int .i64 am) ∧ w'.cell? ⟨g, k * 21 + 20, none⟩ = some (.int .i64 pd)) w') := Hid.mk (fun w' hb => ⟨(hB.below hb).range hg hx, by rw [(hB.below hb).at_ hg hx 10 (by omega), ham]; rfl, by rw [(hB.below hb).at_ hg hx 20 (by omega), hpd]; rfl⟩)
  have HR := Hid.mk hR
  have HB := Hid.mk hB
  have HX := Hid.mk hx
  have HK := Hid.mk hk
  have HG := Hid.mk hg
  have HF := Hid.mk hf
  obtain ⟨l, hl0⟩ : ∃ l, l = leftX x := ⟨_, rfl⟩
  rw [← hl0] at hl
  rw [← ham, ← hpd] at hp
  have d1 : decide (q < 1) = false := by simp; omega
  have d2 : decide (l < q) = false := by simp; omega
  have d3 : decide (p < 0) = false := by simp; omega
  have hw1 : IntKind.i64.wrap (am - pd) = am - pd := by
    have h1 := hf.2.2.2
    rw [← ham, ← hpd] at h1
    exact IntWalk.i64_in _ (by omega)
  have d4 : decide (am - pd < p) = false := by simp; omega
  have HQ : Hid (q ≤ l ∧ 1 ≤ q ∧ 0 ≤ p ∧ p ≤ am - pd) := Hid.mk ⟨hl, hq, hp0, hp⟩
  have HM := Hid.mk hm
  clear hq hl hp0 hp hm
  have HL := Hid.mk hl0
  have HAM := Hid.mk ham
  have HPD := Hid.mk hpd
  obtain ⟨s, hs0⟩ : ∃ s, s = x.state := ⟨_, rfl⟩
  rw [← hs0] at c17 hs
  have HSS := Hid.mk hs0
  clear hR hB hx hk hg hf hl0 hs0 ham hpd
  go_enter Try.func21, Try.ntmps21
  go_wp2_with (fail)
  refine at_some B gb v L k g _ _ HB.out HK.out HG.out ?_
  go_upto_region 6 with (fail)
  go_cut [22] (fun v22 wc => v22 = .bool false ∧ w = wc)
  case first =>
    rcases hs with rfl | rfl
    · go_wp2_with (fail)
      go_meet
      case rel => exact ⟨rfl, rfl⟩
    · go_wp2_with (fail)
      go_meet
      case rel => exact ⟨rfl, rfl⟩
  case rest =>
    obtain ⟨rfl, rfl⟩ := hcut
    clear c17 hs
    go_upto_region 8 with (fail)
    refine wp_region_noPanic ?_
    refine wp_region_held_drew (S := (fun w' => w'.rangeAt g (k * 21) x.cells ∧ w'.cell? ⟨g, k * 21 + 10, none⟩ = some (.int .i64 am) ∧ w'.cell? ⟨g, k * 21 + 20, none⟩ = some (.int .i64 pd))) (by kernel_rfl) (HS.out _ below_draw) (fun hHeld => ?_)
    refine wpAnyH_take (i := 0) (v := ?_) rfl (by kernel_rfl) (by kernel_rfl) (by kernel_rfl) (fun _ _ _ h => h) (Or.inl ⟨by rfl, ?_⟩) hHeld ?_
    rotate_left
    · intro w hSw; obtain ⟨_, s1, s2⟩ := hSw; go_simp; try with_reducible rfl
    simp only [Act.put, Array.getInternal_eq_getElem, List.getElem_toArray, List.getElem_cons_zero, List.getElem_cons_succ, List.setIfInBounds_toArray, List.set_cons_zero, List.set_cons_succ]
    refine wpAnyH_take (i := 1) (v := ?_) rfl (by kernel_rfl) (by kernel_rfl) (by kernel_rfl) (fun _ _ _ h => h) (Or.inl ⟨by rfl, ?_⟩) hHeld ?_
    rotate_left
    · intro w hSw; obtain ⟨_, s1, s2⟩ := hSw; go_simp; try with_reducible rfl
    simp only [Act.put, Array.getInternal_eq_getElem, List.getElem_toArray, List.getElem_cons_zero, List.getElem_cons_succ, List.setIfInBounds_toArray, List.set_cons_zero, List.set_cons_succ]
    refine wpAnyH_take (i := 2) (v := ?_) rfl (by kernel_rfl) (by kernel_rfl) (by kernel_rfl) (fun _ _ _ h => h) (Or.inl ⟨by rfl, ?_⟩) hHeld ?_
    rotate_left
    · intro w hSw; obtain ⟨_, s1, s2⟩ := hSw; go_simp; try with_reducible rfl
    simp only [Act.put, Array.getInternal_eq_getElem, List.getElem_toArray, List.getElem_cons_zero, List.getElem_cons_succ, List.setIfInBounds_toArray, List.set_cons_zero, List.set_cons_succ]
    refine wpAnyH_take (i := 3) (v := ?_) rfl (by kernel_rfl) (by kernel_rfl) (by kernel_rfl) (fun _ _ _ h => h) (Or.inl ⟨by rfl, ?_⟩) hHeld ?_
    rotate_left
    · intro w hSw; obtain ⟨_, s1, s2⟩ := hSw; go_simp; try with_reducible rfl
    simp only [Act.put, Array.getInternal_eq_getElem, List.getElem_toArray, List.getElem_cons_zero, List.getElem_cons_succ, List.setIfInBounds_toArray, List.set_cons_zero, List.set_cons_succ]
    refine wpAnyH_take (i := 4) (v := ?_) rfl (by kernel_rfl) (by kernel_rfl) (by kernel_rfl) (fun _ _ _ h => h) (Or.inl ⟨by rfl, ?_⟩) hHeld ?_
    rotate_left
    · intro w hSw; obtain ⟨_, s1, s2⟩ := hSw; go_simp; try with_reducible rfl
    simp only [Act.put, Array.getInternal_eq_getElem, List.getElem_toArray, List.getElem_cons_zero, List.getElem_cons_succ, List.setIfInBounds_toArray, List.set_cons_zero, List.set_cons_succ]
    refine wpAnyH_take (i := 5) (v := ?_) rfl (by kernel_rfl) (by kernel_rfl) (by kernel_rfl) (fun _ _ _ h => h) (Or.inl ⟨by rfl, ?_⟩) hHeld ?_
    rotate_left
    · intro w hSw; obtain ⟨_, s1, s2⟩ := hSw; go_simp; try with_reducible rfl
    simp only [Act.put, Array.getInternal_eq_getElem, List.getElem_toArray, List.getElem_cons_zero, List.getElem_cons_succ, List.setIfInBounds_toArray, List.set_cons_zero, List.set_cons_succ]
    refine wpAnyH_take (i := 6) (v := .agg x.cells.toArray) rfl (by kernel_rfl) (by kernel_rfl) (by kernel_rfl) (fun _ _ _ h => h) (yieldsIf_load_mid (by rfl) 32 (.tmp 41) rfl g (k * 21) rfl x.cells _ (fun _ h => h.1) Try.underlying32 rfl info32) hHeld ?_
    simp only [Act.put, Array.getInternal_eq_getElem, List.getElem_toArray, List.getElem_cons_zero, List.getElem_cons_succ, List.setIfInBounds_toArray, List.set_cons_zero, List.set_cons_succ]
    refine wpAnyH_ready (rs := [7]) (by kernel_rfl) (by simp) ?_
    refine AllReadyH.cons rfl (fun K hK => ?_) AllReadyH.nil
    go_simp
    go_wp2_with (go_at_call 31; refine left_calls x _ _ HF.out.1 HF.out.2.1 HF.out.2.2.1 ?_; rw [← HL.out]; intro w1 hb1; have HB1 : Hid (Below w.heap.size w w1) := Hid.mk (after_draw hb1); clear hb1)
    refine hK.out _ _ (HS.out _ HB1.out) (fun hHeld => ?_)
    clear hK K
    try simp only [Act.put, Array.getInternal_eq_getElem, List.getElem_toArray, List.getElem_cons_zero, List.getElem_cons_succ, List.setIfInBounds_toArray, List.set_cons_zero, List.set_cons_succ]
    refine wpAnyH_take (i := 8) (v := ?_) rfl (by kernel_rfl) (by kernel_rfl) (by kernel_rfl) (fun _ _ _ h => h) (Or.inl ⟨by rfl, ?_⟩) hHeld ?_
    rotate_left
    · intro w hSw; obtain ⟨_, s1, s2⟩ := hSw; go_simp; try with_reducible rfl
    simp only [Act.put, Array.getInternal_eq_getElem, List.getElem_toArray, List.getElem_cons_zero, List.getElem_cons_succ, List.setIfInBounds_toArray, List.set_cons_zero, List.set_cons_succ]
    refine wpAnyH_take (i := 9) (v := ?_) rfl (by kernel_rfl) (by kernel_rfl) (by kernel_rfl) (fun _ _ _ h => h) (Or.inl ⟨by rfl, ?_⟩) hHeld ?_
    rotate_left
    · intro w hSw; obtain ⟨_, s1, s2⟩ := hSw; go_simp; try with_reducible rfl
    simp only [Act.put, Array.getInternal_eq_getElem, List.getElem_toArray, List.getElem_cons_zero, List.getElem_cons_succ, List.setIfInBounds_toArray, List.set_cons_zero, List.set_cons_succ]
    refine wpAnyH_take (i := 10) (v := ?_) rfl (by kernel_rfl) (by kernel_rfl) (by kernel_rfl) (fun _ _ _ h => h) (Or.inl ⟨by rfl, ?_⟩) hHeld ?_
    rotate_left
    · intro w hSw; obtain ⟨_, s1, s2⟩ := hSw; go_simp; try with_reducible rfl
    simp only [Act.put, Array.getInternal_eq_getElem, List.getElem_toArray, List.getElem_cons_zero, List.getElem_cons_succ, List.setIfInBounds_toArray, List.set_cons_zero, List.set_cons_succ]
    refine wpAnyH_take (i := 11) (v := ?_) rfl (by kernel_rfl) (by kernel_rfl) (by kernel_rfl) (fun _ _ _ h => h) (Or.inl ⟨by rfl, ?_⟩) hHeld ?_
    rotate_left
    · intro w hSw; obtain ⟨_, s1, s2⟩ := hSw; go_simp; try with_reducible rfl
    simp only [Act.put, Array.getInternal_eq_getElem, List.getElem_toArray, List.getElem_cons_zero, List.getElem_cons_succ, List.setIfInBounds_toArray, List.set_cons_zero, List.set_cons_succ]
    refine wpAnyH_take (i := 12) (v := ?_) rfl (by kernel_rfl) (by kernel_rfl) (by kernel_rfl) (fun _ _ _ h => h) (Or.inl ⟨by rfl, ?_⟩) hHeld ?_
    rotate_left
    · intro w hSw; obtain ⟨_, s1, s2⟩ := hSw; go_simp; try with_reducible rfl
    simp only [Act.put, Array.getInternal_eq_getElem, List.getElem_toArray, List.getElem_cons_zero, List.getElem_cons_succ, List.setIfInBounds_toArray, List.set_cons_zero, List.set_cons_succ]
    refine wpAnyH_take (i := 13) (v := ?_) rfl (by kernel_rfl) (by kernel_rfl) (by kernel_rfl) (fun _ _ _ h => h) (Or.inl ⟨by rfl, ?_⟩) hHeld ?_
    rotate_left
    · intro w hSw; obtain ⟨_, s1, s2⟩ := hSw; go_simp; try with_reducible rfl
    simp only [Act.put, Array.getInternal_eq_getElem, List.getElem_toArray, List.getElem_cons_zero, List.getElem_cons_succ, List.setIfInBounds_toArray, List.set_cons_zero, List.set_cons_succ]
    refine wpAnyH_take (i := 14) (v := ?_) rfl (by kernel_rfl) (by kernel_rfl) (by kernel_rfl) (fun _ _ _ h => h) (Or.inl ⟨by rfl, ?_⟩) hHeld ?_
    rotate_left
    · intro w hSw; obtain ⟨_, s1, s2⟩ := hSw; go_simp; try with_reducible rfl
    simp only [Act.put, Array.getInternal_eq_getElem, List.getElem_toArray, List.getElem_cons_zero, List.getElem_cons_succ, List.setIfInBounds_toArray, List.set_cons_zero, List.set_cons_succ]
    refine wpAnyH_take (i := 15) (v := ?_) rfl (by kernel_rfl) (by kernel_rfl) (by kernel_rfl) (fun _ _ _ h => h) (Or.inl ⟨by rfl, ?_⟩) hHeld ?_
    rotate_left
    · intro w hSw; obtain ⟨_, s1, s2⟩ := hSw; go_simp; try with_reducible rfl
    simp only [Act.put, Array.getInternal_eq_getElem, List.getElem_toArray, List.getElem_cons_zero, List.getElem_cons_succ, List.setIfInBounds_toArray, List.set_cons_zero, List.set_cons_succ]
    refine wpAnyH_take (i := 16) (v := ?_) rfl (by kernel_rfl) (by kernel_rfl) (by kernel_rfl) (fun _ _ _ h => h) (Or.inl ⟨by rfl, ?_⟩) hHeld ?_
    rotate_left
    · intro w hSw; obtain ⟨_, s1, s2⟩ := hSw; go_simp; try with_reducible rfl
    simp only [Act.put, Array.getInternal_eq_getElem, List.getElem_toArray, List.getElem_cons_zero, List.getElem_cons_succ, List.setIfInBounds_toArray, List.set_cons_zero, List.set_cons_succ]
    refine wpAnyH_take (i := 17) (v := ?_) rfl (by kernel_rfl) (by kernel_rfl) (by kernel_rfl) (fun _ _ _ h => h) (Or.inl ⟨by rfl, ?_⟩) hHeld ?_
    rotate_left
    · intro w hSw; obtain ⟨_, s1, s2⟩ := hSw; go_simp; try with_reducible rfl
    simp only [Act.put, Array.getInternal_eq_getElem, List.getElem_toArray, List.getElem_cons_zero, List.getElem_cons_succ, List.setIfInBounds_toArray, List.set_cons_zero, List.set_cons_succ]
    refine wpAnyH_take (i := 18) (v := ?_) rfl (by kernel_rfl) (by kernel_rfl) (by kernel_rfl) (fun _ _ _ h => h) (Or.inl ⟨by rfl, ?_⟩) hHeld ?_
    rotate_left
    · intro w hSw; obtain ⟨_, s1, s2⟩ := hSw; go_simp; try with_reducible rfl
    simp only [Act.put, Array.getInternal_eq_getElem, List.getElem_toArray, List.getElem_cons_zero, List.getElem_cons_succ, List.setIfInBounds_toArray, List.set_cons_zero, List.set_cons_succ]
    refine wpAnyH_take (i := 19) (v := ?_) rfl (by kernel_rfl) (by kernel_rfl) (by kernel_rfl) (fun _ _ _ h => h) (Or.inl ⟨by rfl, ?_⟩) hHeld ?_
    rotate_left
    · intro w hSw; obtain ⟨_, s1, s2⟩ := hSw; go_simp; try with_reducible rfl
    simp only [Act.put, Array.getInternal_eq_getElem, List.getElem_toArray, List.getElem_cons_zero, List.getElem_cons_succ, List.setIfInBounds_toArray, List.set_cons_zero, List.set_cons_succ]
    refine wpAnyH_take (i := 20) (v := ?_) rfl (by kernel_rfl) (by kernel_rfl) (by kernel_rfl) (fun _ _ _ h => h) (Or.inl ⟨by rfl, ?_⟩) hHeld ?_
    rotate_left
    · intro w hSw; obtain ⟨_, s1, s2⟩ := hSw; go_simp; try with_reducible rfl
    simp only [Act.put, Array.getInternal_eq_getElem, List.getElem_toArray, List.getElem_cons_zero, List.getElem_cons_succ, List.setIfInBounds_toArray, List.set_cons_zero, List.set_cons_succ]
    refine wpAnyH_take (i := 21) (v := ?_) rfl (by kernel_rfl) (by kernel_rfl) (by kernel_rfl) (fun _ _ _ h => h) (Or.inl ⟨by rfl, ?_⟩) hHeld ?_
    rotate_left
    · intro w hSw; obtain ⟨_, s1, s2⟩ := hSw; go_simp; try with_reducible rfl
    simp only [Act.put, Array.getInternal_eq_getElem, List.getElem_toArray, List.getElem_cons_zero, List.getElem_cons_succ, List.setIfInBounds_toArray, List.set_cons_zero, List.set_cons_succ]
    refine wpAnyH_take (i := 22) (v := ?_) rfl (by kernel_rfl) (by kernel_rfl) (by kernel_rfl) (fun _ _ _ h => h) (Or.inl ⟨by rfl, ?_⟩) hHeld ?_
    rotate_left
    · intro w hSw; obtain ⟨_, s1, s2⟩ := hSw; go_simp; try with_reducible rfl
    simp only [Act.put, Array.getInternal_eq_getElem, List.getElem_toArray, List.getElem_cons_zero, List.getElem_cons_succ, List.setIfInBounds_toArray, List.set_cons_zero, List.set_cons_succ]
    refine wpAnyH_take (i := 23) (v := ?_) rfl (by kernel_rfl) (by kernel_rfl) (by kernel_rfl) (fun _ _ _ h => h) (Or.inl ⟨by rfl, ?_⟩) hHeld ?_
    rotate_left
    · intro w hSw; obtain ⟨_, s1, s2⟩ := hSw; go_simp; try with_reducible rfl
    simp only [Act.put, Array.getInternal_eq_getElem, List.getElem_toArray, List.getElem_cons_zero, List.getElem_cons_succ, List.setIfInBounds_toArray, List.set_cons_zero, List.set_cons_succ]
    refine wpAnyH_take (i := 24) (v := ?_) rfl (by kernel_rfl) (by kernel_rfl) (by kernel_rfl) (fun _ _ _ h => h) (Or.inl ⟨by rfl, ?_⟩) hHeld ?_
    rotate_left
    · intro w hSw; obtain ⟨_, s1, s2⟩ := hSw; go_simp; try with_reducible rfl
    simp only [Act.put, Array.getInternal_eq_getElem, List.getElem_toArray, List.getElem_cons_zero, List.getElem_cons_succ, List.setIfInBounds_toArray, List.set_cons_zero, List.set_cons_succ]
    refine wpAnyH_take (i := 25) (v := ?_) rfl (by kernel_rfl) (by kernel_rfl) (by kernel_rfl) (fun _ _ _ h => h) (Or.inl ⟨by rfl, ?_⟩) hHeld ?_
    rotate_left
    · intro w hSw; obtain ⟨_, s1, s2⟩ := hSw; go_simp; try with_reducible rfl
    simp only [Act.put, Array.getInternal_eq_getElem, List.getElem_toArray, List.getElem_cons_zero, List.getElem_cons_succ, List.setIfInBounds_toArray, List.set_cons_zero, List.set_cons_succ]
    refine wpAnyH_take (i := 26) (v := ?_) rfl (by kernel_rfl) (by kernel_rfl) (by kernel_rfl) (fun _ _ _ h => h) (Or.inl ⟨by rfl, ?_⟩) hHeld ?_
    rotate_left
    · intro w hSw; obtain ⟨_, s1, s2⟩ := hSw; go_simp; try with_reducible rfl
    simp only [Act.put, Array.getInternal_eq_getElem, List.getElem_toArray, List.getElem_cons_zero, List.getElem_cons_succ, List.setIfInBounds_toArray, List.set_cons_zero, List.set_cons_succ]
    refine wpAnyH_take (i := 27) (v := ?_) rfl (by kernel_rfl) (by kernel_rfl) (by kernel_rfl) (fun _ _ _ h => h) (Or.inl ⟨by rfl, ?_⟩) hHeld ?_
    rotate_left
    · intro w hSw; obtain ⟨_, s1, s2⟩ := hSw; go_simp; try with_reducible rfl
    simp only [Act.put, Array.getInternal_eq_getElem, List.getElem_toArray, List.getElem_cons_zero, List.getElem_cons_succ, List.setIfInBounds_toArray, List.set_cons_zero, List.set_cons_succ]
    refine wpAnyH_take (i := 28) (v := ?_) rfl (by kernel_rfl) (by kernel_rfl) (by kernel_rfl) (fun _ _ _ h => h) (Or.inl ⟨by rfl, ?_⟩) hHeld ?_
    rotate_left
    · intro w hSw; obtain ⟨_, s1, s2⟩ := hSw; go_simp; try with_reducible rfl
    simp only [Act.put, Array.getInternal_eq_getElem, List.getElem_toArray, List.getElem_cons_zero, List.getElem_cons_succ, List.setIfInBounds_toArray, List.set_cons_zero, List.set_cons_succ]
    refine wpAnyH_done (by kernel_rfl) ?_ _
    refine NoPanic.normal ?_
    have HBW : Hid (BookS B w1 gb v L) := Hid.mk (HB.out.below HB1.out)
    have HKW : Hid (Keep (fun i => v.ownBlock = some i) w w1) := Hid.mk (HB.out.keepOf HB1.out)
    have HRG : Hid (w1.rangeAt g (k * 21) x.cells) := Hid.mk (HBW.out.range HG.out HX.out)
    clear HS d1 d2 d3 d4 hw1 hHeld HB1
    go_upto_if 69 with (first
      | (refine wpList_load_mid rfl 32 (.tmp 66) rfl g (k * 21) rfl x.cells _ HRG.out Try.underlying32 rfl info32 ?_)
      | (go_at_call 31
         refine left_calls x _ _ HF.out.1 HF.out.2.1 HF.out.2.2.1 ?_
         rw [← HL.out]
         intro w2 hb2
         have HBW2 : Hid (BookS B w2 gb v L) := Hid.mk (HBW.out.below hb2)
         have HKW2 : Hid (Keep (fun i => v.ownBlock = some i) w w2) := Hid.mk (HKW.out.trans (HBW.out.keepOf hb2) (fun _ _ h => h))
         clear hb2))
    go_cut [10] (fun v10 wc => v10 = .int .i64 (if q = l then 2 else 1) ∧ w2 = wc)
    case first =>
      by_cases hql : q = l
      · subst hql
        go_wp2_with (fail)
        go_meet
        case rel => exact ⟨by simp, rfl⟩
      · have e1 : (q == l) = false := by simpa using hql
        go_wp2_with (fail)
        go_meet
        case rel => exact ⟨by simp [hql], rfl⟩
    case rest =>
      obtain ⟨rfl, hwc⟩ := hcut
      subst hwc
      obtain ⟨ev, hev⟩ : ∃ ev : Int, ev = if q = l then 2 else 1 := ⟨_, rfl⟩
      rw [← hev]
      have HEV := Hid.mk hev
      clear hev
      go_wp2_with (fail)
      refine mate_calls B gb v L k g x _ _ HBW2.out HX.out HG.out ?_
      have HX4 : Hid ((L.set k { x with done := x.done + q })[k]? = some { x with done := x.done + q }) := Hid.mk (by simp [HK.out])
      have HG4 : Hid (Value.rowOf v (L.set k { x with done := x.done + q }).length g) := Hid.mk (by rw [List.length_set]; exact HG.out)
      have HLQ : Hid (l ≤ x.t.qty ∧ 0 ≤ x.done) := Hid.mk (by rw [HL.out]; unfold leftX; have := HF.out; unfold FitX at this; split <;> omega)
      obtain ⟨o, ho⟩ : ∃ o, o = mateI L k x.mate := ⟨_, rfl⟩
      unfold settleX at HR
      rw [← HL.out, ← HEV.out, ← ho] at HR
      rw [← ho]
      have HO := Hid.mk ho
      clear ho
      cases o with
      | none =>
        dsimp only at HR
        simp only [ptr, Option.map_none]
        go_wp2_with (fail)
        obtain ⟨w3, hw3⟩ : ∃ w3, w3 = w2.alloc (.cells #[.pointer (some ⟨g, k * 21, none⟩), .pointer none] 59) := ⟨_, rfl⟩
        obtain ⟨gp, hgp⟩ : ∃ gp, gp = w2.heap.size := ⟨_, rfl⟩
        have HB3 : Hid (BookS B w3 gb v L) := Hid.mk (by rw [hw3]; exact HBW2.out.alloc _)
        have HK3 : Hid (Keep (fun i => v.ownBlock = some i) w w3) := Hid.mk (by rw [hw3]; exact HKW2.out.alloc _)
        have hp : w3.heap[gp]? = some (.cells #[.pointer (some ⟨g, k * 21, none⟩), .pointer none] 59 (0, 0)) := by rw [hw3, hgp]; exact blk_new _ _
        have HPG : Hid (gp ≠ g) := Hid.mk (by have := rowOf_ne HBW2.out HG.out; omega)
        rw [← hw3, ← hgp]
        have HP := Hid.mk hp
        have cp0 : w3.cell? ⟨gp, 0, none⟩ = some (.pointer (some ⟨g, k * 21, none⟩)) := by rw [blk_cell hp]; rfl
        have c19 : w3.cell? ⟨g, k * 21 + 19, none⟩ = some (.int .i64 x.done) := by rw [HB3.out.at_ HG.out HX.out 19 (by omega)]; rfl
        have hd := IntWalk.i64_in (x.done + q) (by obtain ⟨f1, f2, f3, f4, f5, f6, f7⟩ := HF.out; have q1 := HQ.out; have q2 := HLQ.out; omega)
        have hpp := IntWalk.i64_in (x.paid + p) (by obtain ⟨f1, f2, f3, f4, f5, f6, f7⟩ := HF.out; have q1 := HQ.out; have q2 := HLQ.out; have q3 := HAM.out; have q4 := HPD.out; omega)
        clear hw3 hgp hp
        refine wp_loop_rounds 3 ?_
        rw [rounds_succ]
        go_wp2_with (first
          | (refine wpList_put rfl 3 (.tmp 90) (.tmp 88) rfl rfl g (k * 21 + 19) (.int .i64 (x.done + q)) rfl rfl (HB3.out.some_ HG.out HX.out 19 (by omega)) (HB3.out.free HG.out _) info3 rfl ?_
             intro w4 hw4
             have HB4 : Hid (BookS B w4 gb v (L.set k { x with done := x.done + q })) := Hid.mk (by rw [hw4]; exact HB3.out.put HG.out HX.out { x with done := x.done + q } 19 (by omega) _ rfl)
             have HK4 : Hid (Keep (fun i => v.ownBlock = some i) w w4) := Hid.mk (by rw [hw4]; exact keep_put HK3.out HG.out _ _)
             have c20 : w4.cell? ⟨g, k * 21 + 20, none⟩ = some (.int .i64 x.paid) := by rw [HB4.out.at_ HG4.out HX4.out 20 (by omega)]; rfl
             have hp4 : Hid (w4.heap[gp]? = some (.cells #[.pointer (some ⟨g, k * 21, none⟩), .pointer none] 59 (0, 0))) := Hid.mk (by rw [hw4]; exact blk_far HP.out (show gp ≠ g from HPG.out) _)
             clear hw4)
          | (refine wpList_put rfl 3 (.tmp 98) (.tmp 96) rfl rfl g (k * 21 + 20) (.int .i64 (x.paid + p)) rfl rfl (HB4.out.some_ HG4.out HX4.out 20 (by omega)) (HB4.out.free HG4.out _) info3 rfl ?_
             intro w5 hw5
             have HB5 : Hid (BookS B w5 gb v (L.set k (paidX x q p))) := Hid.mk (by rw [hw5, ← List.set_set (a := { x with done := x.done + q })]; exact HB4.out.put HG4.out HX4.out (paidX x q p) 20 (by omega) _ rfl)
             have HK5 : Hid (Keep (fun i => v.ownBlock = some i) w w5) := Hid.mk (by rw [hw5]; exact keep_put HK4.out HG.out _ _)
             have hp5 : w5.heap[gp]? = some (.cells #[.pointer (some ⟨g, k * 21, none⟩), .pointer none] 59 (0, 0)) := by rw [hw5]; exact blk_far hp4.out (show gp ≠ g from HPG.out) _
             have cp1 : w5.cell? ⟨gp, 1, none⟩ = some (.pointer none) := by rw [blk_cell hp5]; rfl
             clear hw5 c20 hp5))
        clear cp0 c19 hd hpp
        rw [rounds_succ]
        go_wp2_with (fail)
        rw [rounds_succ]
        go_wp2_with (fail)
        have HG5 : Hid (Value.rowOf v (L.set k (paidX x q p)).length g) := Hid.mk (by rw [List.length_set]; exact HG.out)
        refine do_calls B gb v (L.set k (paidX x q p)) g w5.heap.size _ ev [some k, none] 2 _ _ (HB5.out.alloc _) HG5.out (blk_new _ _) (by have := rowOf_ne HB5.out HG5.out; omega) (by simp) (by simp; exact HK.out) ?_
        intro w8 hb8 hk8
        have HB8 := Hid.mk hb8
        have HK8 := Hid.mk hk8
        clear hb8 hk8
        go_wp2_with (fail)
        exact HR.out _ HB8.out (HK5.out.trans ((Keep.refl _ _).alloc _ |>.trans HK8.out (fun _ _ h => h)) (fun _ _ h => h))
      | some i =>
        dsimp only at HR
        obtain ⟨hi, hik, -⟩ := mateI_form HO.out.symm
        obtain ⟨y, hy⟩ : ∃ y, L[i]? = some y := ⟨L[i], by simp [hi]⟩
        rw [hy] at HR
        dsimp only at HR
        have HFY := Hid.mk (HM.out i y HO.out.symm hy)
        have HY5 : Hid ((L.set k (paidX x q p))[i]? = some y) := Hid.mk (by rw [List.getElem?_set_ne (by omega)]; exact hy)
        have HY6 : Hid (((L.set k (paidX x q p)).set i { y with done := y.done + q })[i]? = some { y with done := y.done + q }) := Hid.mk (by simp [hi])
        have HG5 : Hid (Value.rowOf v (L.set k (paidX x q p)).length g) := Hid.mk (by rw [List.length_set]; exact HG.out)
        have HG6 : Hid (Value.rowOf v ((L.set k (paidX x q p)).set i { y with done := y.done + q }).length g) := Hid.mk (by simp only [List.length_set]; exact HG.out)
        have HG7 : Hid (Value.rowOf v ((L.set k (paidX x q p)).set i (paidX y q p)).length g) := Hid.mk (by simp only [List.length_set]; exact HG.out)
        have HI := Hid.mk hi
        clear hi hy hik
        simp only [ptr, Option.map_some]
        go_wp2_with (fail)
        obtain ⟨w3, hw3⟩ : ∃ w3, w3 = w2.alloc (.cells #[.pointer (some ⟨g, k * 21, none⟩), .pointer (some ⟨g, i * 21, none⟩)] 59) := ⟨_, rfl⟩
        obtain ⟨gp, hgp⟩ : ∃ gp, gp = w2.heap.size := ⟨_, rfl⟩
        have HB3 : Hid (BookS B w3 gb v L) := Hid.mk (by rw [hw3]; exact HBW2.out.alloc _)
        have HK3 : Hid (Keep (fun i => v.ownBlock = some i) w w3) := Hid.mk (by rw [hw3]; exact HKW2.out.alloc _)
        have hp : w3.heap[gp]? = some (.cells #[.pointer (some ⟨g, k * 21, none⟩), .pointer (some ⟨g, i * 21, none⟩)] 59 (0, 0)) := by rw [hw3, hgp]; exact blk_new _ _
        have HPG : Hid (gp ≠ g) := Hid.mk (by have := rowOf_ne HBW2.out HG.out; omega)
        rw [← hw3, ← hgp]
        have HP := Hid.mk hp
        have cp0 : w3.cell? ⟨gp, 0, none⟩ = some (.pointer (some ⟨g, k * 21, none⟩)) := by rw [blk_cell hp]; rfl
        have c19 : w3.cell? ⟨g, k * 21 + 19, none⟩ = some (.int .i64 x.done) := by rw [HB3.out.at_ HG.out HX.out 19 (by omega)]; rfl
        have hd := IntWalk.i64_in (x.done + q) (by obtain ⟨f1, f2, f3, f4, f5, f6, f7⟩ := HF.out; have q1 := HQ.out; have q2 := HLQ.out; omega)
        have hpp := IntWalk.i64_in (x.paid + p) (by obtain ⟨f1, f2, f3, f4, f5, f6, f7⟩ := HF.out; have q1 := HQ.out; have q2 := HLQ.out; have q3 := HAM.out; have q4 := HPD.out; omega)
        clear hw3 hgp hp
        refine wp_loop_rounds 3 ?_
        rw [rounds_succ]
        go_wp2_with (first
          | (refine wpList_put rfl 3 (.tmp 90) (.tmp 88) rfl rfl g (k * 21 + 19) (.int .i64 (x.done + q)) rfl rfl (HB3.out.some_ HG.out HX.out 19 (by omega)) (HB3.out.free HG.out _) info3 rfl ?_
             intro w4 hw4
             have HB4 : Hid (BookS B w4 gb v (L.set k { x with done := x.done + q })) := Hid.mk (by rw [hw4]; exact HB3.out.put HG.out HX.out { x with done := x.done + q } 19 (by omega) _ rfl)
             have HK4 : Hid (Keep (fun i => v.ownBlock = some i) w w4) := Hid.mk (by rw [hw4]; exact keep_put HK3.out HG.out _ _)
             have c20 : w4.cell? ⟨g, k * 21 + 20, none⟩ = some (.int .i64 x.paid) := by rw [HB4.out.at_ HG4.out HX4.out 20 (by omega)]; rfl
             have hp4 : Hid (w4.heap[gp]? = some (.cells #[.pointer (some ⟨g, k * 21, none⟩), .pointer (some ⟨g, i * 21, none⟩)] 59 (0, 0))) := Hid.mk (by rw [hw4]; exact blk_far HP.out (show gp ≠ g from HPG.out) _)
             clear hw4)
          | (refine wpList_put rfl 3 (.tmp 98) (.tmp 96) rfl rfl g (k * 21 + 20) (.int .i64 (x.paid + p)) rfl rfl (HB4.out.some_ HG4.out HX4.out 20 (by omega)) (HB4.out.free HG4.out _) info3 rfl ?_
             intro w5 hw5
             have HB5 : Hid (BookS B w5 gb v (L.set k (paidX x q p))) := Hid.mk (by rw [hw5, ← List.set_set (a := { x with done := x.done + q })]; exact HB4.out.put HG4.out HX4.out (paidX x q p) 20 (by omega) _ rfl)
             have HK5 : Hid (Keep (fun i => v.ownBlock = some i) w w5) := Hid.mk (by rw [hw5]; exact keep_put HK4.out HG.out _ _)
             have hp5 : w5.heap[gp]? = some (.cells #[.pointer (some ⟨g, k * 21, none⟩), .pointer (some ⟨g, i * 21, none⟩)] 59 (0, 0)) := by rw [hw5]; exact blk_far hp4.out (show gp ≠ g from HPG.out) _
             have cp1 : w5.cell? ⟨gp, 1, none⟩ = some (.pointer (some ⟨g, i * 21, none⟩)) := by rw [blk_cell hp5]; rfl
             clear hw5 c20 hp5))
        clear cp0 c19 hd hpp
        have c19 : w5.cell? ⟨g, i * 21 + 19, none⟩ = some (.int .i64 y.done) := by rw [HB5.out.at_ HG5.out HY5.out 19 (by omega)]; rfl
        have hd := IntWalk.i64_in (y.done + q) (by obtain ⟨f1, f2, f3, f4, f5, f6, f7⟩ := HF.out; obtain ⟨g1, g2, g3, g4, g5, g6, g7⟩ := HFY.out; have q1 := HQ.out; have q2 := HLQ.out; omega)
        have hpp := IntWalk.i64_in (y.paid + p) (by obtain ⟨f1, f2, f3, f4, f5, f6, f7⟩ := HF.out; obtain ⟨g1, g2, g3, g4, g5, g6, g7⟩ := HFY.out; have q1 := HQ.out; have q2 := HLQ.out; have q3 := HAM.out; have q4 := HPD.out; omega)
        rw [rounds_succ]
        go_wp2_with (first
          | (refine wpList_put rfl 3 (.tmp 90) (.tmp 88) rfl rfl g (i * 21 + 19) (.int .i64 (y.done + q)) rfl rfl (HB5.out.some_ HG5.out HY5.out 19 (by omega)) (HB5.out.free HG5.out _) info3 rfl ?_
             intro w6 hw6
             have HB6 : Hid (BookS B w6 gb v ((L.set k (paidX x q p)).set i { y with done := y.done + q })) := Hid.mk (by rw [hw6]; exact HB5.out.put HG5.out HY5.out { y with done := y.done + q } 19 (by omega) _ rfl)
             have HK6 : Hid (Keep (fun i => v.ownBlock = some i) w w6) := Hid.mk (by rw [hw6]; exact keep_put HK5.out HG.out _ _)
             have c20 : w6.cell? ⟨g, i * 21 + 20, none⟩ = some (.int .i64 y.paid) := by rw [HB6.out.at_ HG6.out HY6.out 20 (by omega)]; rfl
             clear hw6)
          | (refine wpList_put rfl 3 (.tmp 98) (.tmp 96) rfl rfl g (i * 21 + 20) (.int .i64 (y.paid + p)) rfl rfl (HB6.out.some_ HG6.out HY6.out 20 (by omega)) (HB6.out.free HG6.out _) info3 rfl ?_
             intro w7 hw7
             have HB7 : Hid (BookS B w7 gb v ((L.set k (paidX x q p)).set i (paidX y q p))) := Hid.mk (by rw [hw7, ← List.set_set (a := { y with done := y.done + q })]; exact HB6.out.put HG6.out HY6.out (paidX y q p) 20 (by omega) _ rfl)
             have HK7 : Hid (Keep (fun i => v.ownBlock = some i) w w7) := Hid.mk (by rw [hw7]; exact keep_put HK6.out HG.out _ _)
             clear hw7 c20))
        rw [rounds_succ]
        go_wp2_with (fail)
        refine do_calls B gb v ((L.set k (paidX x q p)).set i (paidX y q p)) g w7.heap.size _ ev [some k, some i] 2 _ _ (HB7.out.alloc _) HG7.out (blk_new _ _) (by have := rowOf_ne HB7.out HG7.out; omega) (by simp) (by simp; exact ⟨HK.out, HI.out⟩) ?_
        intro w8 hb8 hk8
        have HB8 := Hid.mk hb8
        have HK8 := Hid.mk hk8
        clear hb8 hk8
        go_wp2_with (fail)
        exact HR.out _ HB8.out (HK7.out.trans ((Keep.refl _ _).alloc _ |>.trans HK8.out (fun _ _ h => h)) (fun _ _ h => h))

/-- Why a part can't be settled. -/
def settleE (L : List InstD) (n q p : Int) : Int := if n < 1 then 3 else match L[(n - 1).toNat]? with
  | none => 3
  | some x => if x.state ≠ 1 ∧ x.state ≠ 2 then 20 else if q < 1 ∨ leftX x < q ∨ p < 0 ∨ x.t.amount - x.paid < p then 1 else 0
def settleL (L : List InstD) (n q p : Int) : List InstD := if settleE L n q p = 0 then (match L[(n - 1).toNat]? with
  | none => L
  | some x => settleX L (n - 1).toNat x q p) else L
theorem settle_calls (B : Nat) (gb : Nat) (v : Value) (L : List InstD) (n q p : Int) (w : World) (R : Ending → World → Prop) (hB : BookS B w gb v L) (hf : ∀ (k : Nat) (x : InstD), L[k]? = some x → FitX x)
    (hR : ∀ w', BookS B w' gb v (settleL L n q p) → Keep (fun i => v.ownBlock = some i) w w' → R (.returned (.int .i64 (settleE L n q p))) w') :
    Calls Try.prog 21 #[.pointer (some ⟨gb, 0, none⟩), .int .i64 n, .int .i64 q, .int .i64 p] w R := by
  have hbad : ∀ e, settleE L n q p = e → e ≠ 0 → ∀ w', Below w.heap.size w w' → R (.returned (.int .i64 e)) w' := by
    intro e he h0 w' hb
    have := hR w' (by unfold settleL; rw [he, if_neg h0]; exact hB.below hb) (hB.keepOf hb)
    rwa [he] at this
  rcases pick L n with hn | ⟨k, x, rfl, hx, hk⟩
  · refine settle_none B gb v L n q p w R hB hn (hbad 3 ?_ (by omega) w (Below.refl _ _))
    unfold settleE
    by_cases h1 : n < 1
    · rw [if_pos h1]
    · rw [if_neg h1, List.getElem?_eq_none (by omega)]
  have hE : settleE L ((k : Int) + 1) q p = if x.state ≠ 1 ∧ x.state ≠ 2 then 20 else if q < 1 ∨ leftX x < q ∨ p < 0 ∨ x.t.amount - x.paid < p then 1 else 0 := by
    unfold settleE
    rw [if_neg (by omega), show ((k : Int) + 1 - 1).toNat = k by omega, hx]
  by_cases hs : x.state ≠ 1 ∧ x.state ≠ 2
  · exact settle_state B gb v L k x q p w R hB hx hs (hbad 20 (by rw [hE, if_pos hs]) (by omega) w (Below.refl _ _))
  have hs2 : x.state = 1 ∨ x.state = 2 := by omega
  have hfx := hf k x hx
  by_cases h1 : q < 1
  · exact settle_low B gb v L k x q p w R hB hx hs2 hfx h1 (hbad 1 (by rw [hE, if_neg hs, if_pos (.inl h1)]) (by omega))
  by_cases h2 : leftX x < q
  · exact settle_more B gb v L k x q p w R hB hx hs2 hfx (by omega) h2 (hbad 1 (by rw [hE, if_neg hs, if_pos (.inr (.inl h2))]) (by omega))
  by_cases h3 : p < 0
  · exact settle_neg B gb v L k x q p w R hB hx hs2 hfx (by omega) (by omega) h3 (hbad 1 (by rw [hE, if_neg hs, if_pos (.inr (.inr (.inl h3)))]) (by omega))
  by_cases h4 : x.t.amount - x.paid < p
  · exact settle_over B gb v L k x q p w R hB hx hs2 hfx (by omega) (by omega) (by omega) h4 (hbad 1 (by rw [hE, if_neg hs, if_pos (.inr (.inr (.inr h4)))]) (by omega))
  have h0 : settleE L ((k : Int) + 1) q p = 0 := by rw [hE, if_neg hs, if_neg (by omega)]
  refine settle_good B gb v L k x q p w R hB hx hs2 hfx (by omega) (by omega) (by omega) (by omega) (fun i y _ hy => hf i y hy) ?_
  intro w' h5 h6
  have := hR w' (by unfold settleL; rw [if_pos h0, show ((k : Int) + 1 - 1).toNat = k by omega, hx]; exact h5) h6
  rwa [h0] at this
end Go.Proofs.Yteecekijekegdaa
