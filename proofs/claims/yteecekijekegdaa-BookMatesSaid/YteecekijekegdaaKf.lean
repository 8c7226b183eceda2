/- The walks of what a party may do, of Get and of Count of a store. Plain contracts, no conditions but those that each names. -/
import Derived.Test.YteecekijekegdaaKe
namespace Go.Proofs.Yteecekijekegdaa
open Go.RowKit

/-- Why a party may not do something with an instruction. -/
def mayX (x : InstD) (party : ByteArray) : Int := if x.t.party = party then (if 0 ≤ x.state ∧ x.state ≤ 2 then 0 else 20) else 22
def mayE (L : List InstD) (party : ByteArray) (n : Int) : Int := if n < 1 then 3 else match L[(n - 1).toNat]? with
  | none => 3
  | some x => mayX x party
theorem mayE_none (L : List InstD) (party : ByteArray) (n : Int) (h : n < 1 ∨ (L.length : Int) < n) : mayE L party n = 3 := by
  unfold mayE
  by_cases h1 : n < 1
  · rw [if_pos h1]
  · rw [if_neg h1, List.getElem?_eq_none (by omega)]
theorem mayE_some (L : List InstD) (party : ByteArray) (k : Nat) (x : InstD) (h : L[k]? = some x) : mayE L party ((k : Int) + 1) = mayX x party := by
  unfold mayE
  rw [if_neg (by omega), show ((k : Int) + 1 - 1).toNat = k by omega, h]
theorem pick (L : List InstD) (n : Int) : (n < 1 ∨ (L.length : Int) < n) ∨ ∃ (k : Nat) (x : InstD), n = (k : Int) + 1 ∧ L[k]? = some x ∧ k < L.length := by
  by_cases h : n < 1 ∨ (L.length : Int) < n
  · exact .inl h
  · have hk : (n - 1).toNat < L.length := by omega
    exact .inr ⟨(n - 1).toNat, L[(n - 1).toNat], by omega, by simp, hk⟩

theorem bytes_inj {a b : ByteArray} (h : a.toList = b.toList) : a = b := by
  rw [ByteArray.toList_eq, ByteArray.toList_eq] at h
  exact ByteArray.ext (Array.toList_inj.mp h)
theorem bytes_ne {a b : ByteArray} (h : ¬ a = b) : (a.toList == b.toList) = false := by
  rw [beq_eq_false_iff_ne]
  exact fun e => h (bytes_inj e)

theorem may_calls (B : Nat) (gb : Nat) (v : Value) (L : List InstD) (party : ByteArray) (n : Int) (w : World) (R : Ending → World → Prop) (hB : BookS B w gb v L)
    (hR : ∀ w', Below w.heap.size w w' → R (.returned (.int .i64 (mayE L party n))) w') :
    Calls Try.prog 30 #[.pointer (some ⟨gb, 0, none⟩), .string party, .int .i64 n] w R := by
  have HR := Hid.mk hR
  clear hR
  have HB := Hid.mk hB
  clear hB
  rcases pick L n with hn | ⟨k, x, rfl, hx, hk⟩
  · rw [mayE_none L party n hn] at HR
    have HN := Hid.mk hn
    clear hn
    go_enter Try.func30, Try.ntmps30
    go_wp2_with (fail)
    refine at_none B gb v L n _ _ HB.out HN.out ?_
    go_wp2_with (fail)
    exact HR.out _ (Below.refl _ _)
  · rw [mayE_some L party k x hx] at HR
    rcases HB.out.form with ⟨rfl, rfl⟩ | ⟨g, hg, _⟩
    · simp at hk
    · have c1 : w.cell? ⟨g, k * 21 + 1, none⟩ = some (.string x.t.party) := by rw [HB.out.at_ hg hx 1 (by omega)]; rfl
      have c17 : w.cell? ⟨g, k * 21 + 17, none⟩ = some (.int .i64 x.state) := by rw [HB.out.at_ hg hx 17 (by omega)]; rfl
      unfold mayX at HR
      obtain ⟨p, hp⟩ : ∃ p, p = x.t.party := ⟨_, rfl⟩
      obtain ⟨s, hs⟩ : ∃ s, s = x.state := ⟨_, rfl⟩
      rw [← hp] at c1 HR
      rw [← hs] at c17 HR
      have HK := Hid.mk hk
      have HG := Hid.mk hg
      clear hp hs hx hk hg
      by_cases he : p = party
      · subst he
        rw [if_pos rfl] at HR
        by_cases ho : 0 ≤ s ∧ s ≤ 2
        · rw [if_pos ho] at HR
          have hb : (decide (0 ≤ s) && decide (s ≤ 2)) = true := by simp; omega
          clear ho
          go_enter Try.func30, Try.ntmps30
          go_wp2_with (fail)
          refine at_some B gb v L k g _ _ HB.out HK.out HG.out ?_
          go_wp2_with (fail)
          refine open_one s w _ ?_
          rw [hb]
          go_wp2_with (fail)
          exact HR.out _ (below_allocs (Below.refl _ _) _)
        · rw [if_neg ho] at HR
          have hb : (decide (0 ≤ s) && decide (s ≤ 2)) = false := by simp; omega
          clear ho
          go_enter Try.func30, Try.ntmps30
          go_wp2_with (fail)
          refine at_some B gb v L k g _ _ HB.out HK.out HG.out ?_
          go_wp2_with (fail)
          refine open_one s w _ ?_
          rw [hb]
          go_wp2_with (fail)
          exact HR.out _ (below_allocs (Below.refl _ _) _)
      · rw [if_neg he] at HR
        have h1 : (p.toList == party.toList) = false := bytes_ne he
        clear he
        go_enter Try.func30, Try.ntmps30
        go_wp2_with (fail)
        refine at_some B gb v L k g _ _ HB.out HK.out HG.out ?_
        go_wp2_with (fail)
        exact HR.out _ (Below.refl _ _)

theorem count_calls (B : Nat) (gb : Nat) (v : Value) (L : List InstD) (w : World) (R : Ending → World → Prop) (hB : BookS B w gb v L)
    (hR : R (.returned (.int .i64 (L.length : Int))) w) : Calls Try.prog 12 #[.pointer (some ⟨gb, 0, none⟩)] w R := by
  have HR := Hid.mk hR
  clear hR
  have hc : w.cell? ⟨gb, 0, none⟩ = some v := by rw [blk_cell hB.cell]; rfl
  rcases hB.form with ⟨rfl, rfl⟩ | ⟨g, ⟨cap, _, _, rfl⟩, _⟩
  · clear hB
    go_enter Try.func12, Try.ntmps12
    go_wp2_with (fail)
    exact HR.out
  · clear hB
    obtain ⟨m, hm⟩ : ∃ m, m = L.length := ⟨_, rfl⟩
    rw [← hm] at hc HR
    clear hm
    go_enter Try.func12, Try.ntmps12
    go_wp2_with (fail)
    exact HR.out
end Go.Proofs.Yteecekijekegdaa
