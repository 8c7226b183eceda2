/- The walks of a store's mate and of do (events done with instructions). Plain contracts, no conditions but those that each names. -/
import Derived.Test.YteecekijekegdaaKh
import Derived.LaidEqlPtr
namespace Go.Proofs.Yteecekijekegdaa
open Go.RowKit

/-- An instruction's place in memory, or none. -/
def ptr (g : Nat) (o : Option Nat) : Value := .pointer (o.map fun i => ⟨g, i * 21, none⟩)
def mateI (L : List InstD) (k : Nat) (m : Int) : Option Nat := if m < 1 ∨ (L.length : Int) < m then none else if (m - 1).toNat = k then none else some (m - 1).toNat
theorem mateI_none (L : List InstD) (k : Nat) (m : Int) (h : m < 1 ∨ (L.length : Int) < m) : mateI L k m = none := by unfold mateI; rw [if_pos h]
theorem mateI_self (L : List InstD) (k : Nat) : mateI L k ((k : Int) + 1) = none := by
  unfold mateI
  split
  · rfl
  · rw [if_pos (by omega)]
theorem mateI_some (L : List InstD) (k i : Nat) (h : i < L.length) (hn : i ≠ k) : mateI L k ((i : Int) + 1) = some i := by
  unfold mateI
  rw [if_neg (by omega), if_neg (by omega)]
  rw [show ((i : Int) + 1 - 1).toNat = i by omega]

theorem eq_same (w : World) (a : Addr) : (binOp .eql 59 (.pointer (some a)) (.pointer (some a))).run Try.prog w = .ok (.bool true) w := by
  have hi : ∃ j, Try.prog.info? 32 = some j := by
    cases h : Try.prog.info? 32 with
    | none => exact absurd info32 (by rw [h]; simp)
    | some j => exact ⟨j, rfl⟩
  obtain ⟨j, hj⟩ := hi
  exact run_eql_ptr_same w a Try.underlying59 hj
theorem eq_other {w : World} {B gb : Nat} {v : Value} {L : List InstD} (h : BookS B w gb v L) {g : Nat} (hv : Value.rowOf v L.length g) (i k : Nat) (hne : i ≠ k) :
    (binOp .eql 59 (.pointer (some ⟨g, i * 21, none⟩)) (.pointer (some ⟨g, k * 21, none⟩))).run Try.prog w = .ok (.bool false) w := by
  have hi : ∃ j, Try.prog.info? 32 = some j ∧ j.size = 21 := by
    cases h : Try.prog.info? 32 with
    | none => exact absurd info32 (by rw [h]; simp)
    | some j => exact ⟨j, rfl, by have := info32; rw [h] at this; simpa using this⟩
  obtain ⟨j, hj, hs⟩ := hi
  obtain ⟨cap, _, _, rfl⟩ := hv
  rcases h.own.2 with ⟨h', _⟩ | ⟨g', cap', cur, h', hb, hg, _⟩
  · simp at h'
  · simp only [Value.slice.injEq, Option.some.injEq, Addr.mk.injEq, and_true, true_and] at h'
    obtain ⟨rfl, rfl⟩ := h'
    exact run_eql_ptr_other w Try.underlying59 hj (by rw [hs]; omega) (fun e => hne (by simp at e)) hg hg
theorem eq_none (w : World) (a : Addr) : (binOp .eql 59 (.pointer none) (.pointer (some a))).run Try.prog w = .ok (.bool false) w := by
  have h : ∀ d : Nat, (Op.equalIn (d + 1) 59 (.pointer none) (.pointer (some a))).run Try.prog w = .ok false w := fun d => by
    simp [Op.equalIn, run_underlying Try.underlying59]
  simp only [binOp]
  simp [Op.equal, Op.maxDepth, h 9999]

theorem mate_calls (B : Nat) (gb : Nat) (v : Value) (L : List InstD) (k g : Nat) (x : InstD) (w : World) (R : Ending → World → Prop) (hB : BookS B w gb v L) (hx : L[k]? = some x) (hv : Value.rowOf v L.length g)
    (hR : R (.returned (ptr g (mateI L k x.mate))) w) :
    Calls Try.prog 29 #[.pointer (some ⟨gb, 0, none⟩), .pointer (some ⟨g, k * 21, none⟩)] w R := by
  have HR := Hid.mk hR
  have HB := Hid.mk hB
  have HG := Hid.mk hv
  have hk : k < L.length := (List.getElem?_eq_some_iff.1 hx).1
  have c18 : w.cell? ⟨g, k * 21 + 18, none⟩ = some (.int .i64 x.mate) := by rw [hB.at_ hv hx 18 (by omega)]; rfl
  clear hR hB hv hx
  obtain ⟨m, hm⟩ : ∃ m, m = x.mate := ⟨_, rfl⟩
  rw [← hm] at c18 HR
  clear hm
  rcases pick L m with hn | ⟨i, y, rfl, hy, hi⟩
  · rw [mateI_none L k m hn] at HR
    have HN := Hid.mk hn
    have hq := eq_none w ⟨g, k * 21, none⟩
    clear hn
    go_enter Try.func29, Try.ntmps29
    go_wp2_with (fail)
    refine at_none B gb v L m _ _ HB.out HN.out ?_
    go_wp2_with (fail)
    exact HR.out
  · have HI := Hid.mk hi
    clear hi hk hy
    by_cases e : i = k
    · subst e
      rw [mateI_self L i] at HR
      have hq := eq_same w ⟨g, i * 21, none⟩
      go_enter Try.func29, Try.ntmps29
      go_wp2_with (fail)
      refine at_some B gb v L i g _ _ HB.out HI.out HG.out ?_
      go_wp2_with (fail)
      exact HR.out
    · rw [mateI_some L k i HI.out e] at HR
      have hq := eq_other HB.out HG.out i k e
      clear e
      go_enter Try.func29, Try.ntmps29
      go_wp2_with (fail)
      refine at_some B gb v L i g _ _ HB.out HI.out HG.out ?_
      go_wp2_with (fail)
      exact HR.out

/-- An event done with one instruction. -/
def doStep (e : Int) (L : List InstD) (o : Option Nat) : List InstD × Nat := match o with
  | none => (L, 0)
  | some i => match L[i]? with
    | none => (L, 0)
    | some x => if (nxt x.state e).2 then (L.set i { x with state := (nxt x.state e).1 }, 1) else (L, 0)
/-- With some, one by one: and with how many. -/
def doL (e : Int) (L : List InstD) (l : List (Option Nat)) : List InstD × Nat := l.foldl (fun s o => ((doStep e s.1 o).1, s.2 + (doStep e s.1 o).2)) (L, 0)
theorem doL_nil (e : Int) (L : List InstD) : doL e L [] = (L, 0) := rfl
theorem doL_snoc (e : Int) (L : List InstD) (l : List (Option Nat)) (o : Option Nat) : doL e L (l ++ [o]) = ((doStep e (doL e L l).1 o).1, (doL e L l).2 + (doStep e (doL e L l).1 o).2) := by unfold doL; simp
theorem doStep_len (e : Int) (L : List InstD) (o : Option Nat) : (doStep e L o).1.length = L.length := by
  unfold doStep
  split
  · rfl
  · split
    · rfl
    · split <;> simp
theorem doStep_le (e : Int) (L : List InstD) (o : Option Nat) : (doStep e L o).2 ≤ 1 := by
  unfold doStep
  split
  · omega
  · split
    · omega
    · split <;> simp
theorem doStep_none (e : Int) (L : List InstD) : doStep e L none = (L, 0) := rfl
theorem doStep_yes (e : Int) (L : List InstD) (i : Nat) (x : InstD) (hx : L[i]? = some x) (h : (nxt x.state e).2 = true) : doStep e L (some i) = (L.set i { x with state := (nxt x.state e).1 }, 1) := by
  unfold doStep; simp only [hx, h, if_true]
theorem doStep_no (e : Int) (L : List InstD) (i : Nat) (x : InstD) (hx : L[i]? = some x) (h : (nxt x.state e).2 = false) : doStep e L (some i) = (L, 0) := by
  unfold doStep; simp only [hx, h]; simp

theorem do_calls (B : Nat) (gb : Nat) (v : Value) (L : List InstD) (g gp : Nat) (tp : TypeId) (e : Int) (l : List (Option Nat)) (cap : Nat) (w : World) (R : Ending → World → Prop) (hB : BookS B w gb v L) (hv : Value.rowOf v L.length g)
    (hp : w.heap[gp]? = some (.cells (l.map (ptr g)).toArray tp (0, 0))) (hpg : gp ≠ g) (hl : l.length ≤ 2) (hin : ∀ i, some i ∈ l → i < L.length)
    (hR : ∀ w', BookS B w' gb v (doL e L l).1 → Keep (fun i => v.ownBlock = some i) w w' → R (.returned (.int .i64 ((doL e L l).2 : Int))) w') :
    Calls Try.prog 28 #[.int .i64 e, .slice (some ⟨gp, 0, none⟩) l.length cap] w R := by
  have HR := Hid.mk hR
  have HB := Hid.mk hB
  have HG := Hid.mk hv
  have HP := Hid.mk hp
  have HPG := Hid.mk hpg
  have HIN := Hid.mk hin
  clear hR hB hv hp hpg hin
  obtain ⟨m, hm⟩ : ∃ m, m = l.length := ⟨_, rfl⟩
  rw [← hm] at hl
  rw [← hm]
  have HM := Hid.mk hm
  clear hm
  go_enter Try.func28, Try.ntmps28
  go_wp2_with (fail)
  go_loopg [5, 12] m (fun gg vn vi wr => ∃ (k cnt : Nat) (Lk : List InstD), k ≤ m ∧ vi = .int .i64 k ∧ vn = .int .i64 cnt ∧ cnt ≤ k ∧ Hid (doL e L (l.take k) = (Lk, cnt)) ∧ Hid (Lk.length = L.length) ∧ Hid (BookS B wr gb v Lk) ∧ Hid (Keep (fun i => v.ownBlock = some i) w wr) ∧ Hid (gg = m - k))
  case atStart => exact ⟨0, 0, L, by omega, rfl, rfl, by omega, Hid.mk rfl, Hid.mk rfl, HB, Hid.mk (Keep.refl _ _), Hid.mk rfl⟩
  case round =>
    obtain ⟨k, cnt, Lk, hk, rfl, rfl, hcnt, HL, HLen, HBk, HKk, HGG⟩ := hrel
    by_cases hlt : k < m
    · have hgp : Hid (wr.heap[gp]? = some (.cells (l.map (ptr g)).toArray tp (0, 0))) := Hid.mk (HKk.out.heap HP.out (by
        have h := HG.out
        obtain ⟨cap, _, _, rfl⟩ := h
        intro h
        have : g = gp := by simpa [Value.ownBlock] using h
        exact HPG.out this.symm))
      obtain ⟨o, ho⟩ : ∃ o, l[k]? = some o := ⟨l[k]'(by rw [← HM.out]; exact hlt), by simp⟩
      have hc : wr.cell? ⟨gp, k, none⟩ = some (ptr g o) := by rw [blk_cell hgp.out]; simp [ho]
      have hsn : l.take (k + 1) = l.take k ++ [o] := by
        rw [List.take_add_one, ho]; rfl
      have HSN := Hid.mk hsn
      have HO := Hid.mk ho
      clear hsn ho
      cases o with
      | none =>
        simp only [ptr, Option.map_none] at hc
        go_wp2_with (fail)
        go_roundg (m - (k + 1))
        case measure => rw [HGG.out]; omega
        case rel => exact ⟨k + 1, cnt, Lk, by omega, by go_num, rfl, by omega, Hid.mk (by rw [HSN.out, doL_snoc, HL.out]; rfl), HLen, HBk, HKk, Hid.mk rfl⟩
      | some i =>
        simp only [ptr, Option.map_some] at hc
        have hi : i < Lk.length := by rw [HLen.out]; exact HIN.out i (List.mem_of_getElem? HO.out)
        obtain ⟨x, hx⟩ : ∃ x, Lk[i]? = some x := ⟨Lk[i], by simp [hi]⟩
        have hgk : Value.rowOf v Lk.length g := by rw [HLen.out]; exact HG.out
        have c17 : wr.cell? ⟨g, i * 21 + 17, none⟩ = some (.int .i64 x.state) := by rw [HBk.out.at_ hgk hx 17 (by omega)]; rfl
        have HX := Hid.mk hx
        have HGK := Hid.mk hgk
        clear hi hx hgk
        obtain ⟨s, hs⟩ : ∃ s, s = x.state := ⟨_, rfl⟩
        rw [← hs] at c17
        have HS := Hid.mk hs
        clear hs
        go_wp2_with (fail)
        refine next_calls s e _ _ ?_
        have HB2 : Hid (BookS B (wr.alloc (.cells #[.int .i64 s] 3)) gb v Lk) := Hid.mk (HBk.out.alloc _)
        have HK2 : Hid (Keep (fun i => v.ownBlock = some i) w (wr.alloc (.cells #[.int .i64 s] 3))) := Hid.mk (HKk.out.alloc _)
        obtain ⟨W, hW⟩ : ∃ W, W = wr.alloc (.cells #[.int .i64 s] 3) := ⟨_, rfl⟩
        rw [← hW] at HB2 HK2 ⊢
        clear hW c17 hc
        have hst := HS.out
        by_cases hy : (nxt s e).2 = true
        · obtain ⟨q, hq⟩ : ∃ q, q = (nxt s e).1 := ⟨_, rfl⟩
          rw [hy, ← hq]
          have c17 : W.cell? ⟨g, i * 21 + 17, none⟩ = some (.int .i64 s) := by rw [HB2.out.at_ HGK.out HX.out 17 (by omega), HS.out]; rfl
          have f17 : W.frozen? ⟨g, i * 21 + 17, none⟩ = false := HB2.out.free HGK.out _
          have HE := Hid.mk (doStep_yes e Lk i x HX.out (by rw [← HS.out]; exact hy))
          rw [← hst, ← hq] at HE
          have HY := Hid.mk hy
          clear hy hq hst
          go_wp2_with (fail)
          go_roundg (m - (k + 1))
          case measure => rw [HGG.out]; omega
          case rel => exact ⟨k + 1, cnt + 1, Lk.set i { x with state := q }, by omega, by go_num, by go_num, by omega, Hid.mk (by rw [HSN.out, doL_snoc, HL.out, HE.out]), Hid.mk (by rw [List.length_set]; exact HLen.out), Hid.mk (HB2.out.put HGK.out HX.out { x with state := q } 17 (by omega) _ rfl), Hid.mk (keep_put HK2.out HGK.out _ _), Hid.mk rfl⟩
        · have hy : (nxt s e).2 = false := by simpa using hy
          rw [hy]
          have HE := Hid.mk (doStep_no e Lk i x HX.out (by rw [← HS.out]; exact hy))
          clear hy hst
          go_wp2_with (fail)
          go_roundg (m - (k + 1))
          case measure => rw [HGG.out]; omega
          case rel => exact ⟨k + 1, cnt, Lk, by omega, by go_num, rfl, by omega, Hid.mk (by rw [HSN.out, doL_snoc, HL.out, HE.out]; rfl), HLen, HB2, HK2, Hid.mk rfl⟩
    · obtain rfl : k = m := by omega
      have HL2 : Hid (doL e L l = (Lk, cnt)) := Hid.mk (by have := HL.out; rwa [List.take_of_length_le (by rw [HM.out]; omega)] at this)
      rw [HL2.out] at HR
      go_wp2_with (fail)
      exact HR.out _ HBk.out HKk.out
end Go.Proofs.Yteecekijekegdaa
