/- For the law BookRights: what a party's four calls do, on lists alone. Plain lemmas, no conditions. -/
import Derived.Test.YteecekijekegdaaKx
namespace Go.Proofs.Yteecekijekegdaa
open Go.RowKit

theorem upd_get (L : List InstD) (n : Int) (f : InstD → InstD) (j : Nat) : (upd L n f)[j]? = if j = (n - 1).toNat then (L[j]?).map f else L[j]? := by
  unfold upd
  cases h : L[(n - 1).toNat]? with
  | none =>
    simp only
    by_cases hj : j = (n - 1).toNat
    · rw [if_pos hj, hj, h]; rfl
    · rw [if_neg hj]
  | some x =>
    simp only
    by_cases hj : j = (n - 1).toNat
    · rw [if_pos hj, hj, h]
      have := (List.getElem?_eq_some_iff.1 h).1
      rw [List.getElem?_set_self this]; rfl
    · rw [if_neg hj, List.getElem?_set_ne (fun e => hj e.symm)]
theorem mayE_upd (L : List InstD) (n : Int) (f : InstD → InstD) (p : ByteArray) (a : Int) (hf : ∀ x, (f x).t.party = x.t.party ∧ (f x).state = x.state) : mayE (upd L n f) p a = mayE L p a := by
  unfold mayE
  rw [upd_get]
  by_cases h1 : a < 1
  · rw [if_pos h1, if_pos h1]
  · rw [if_neg h1, if_neg h1]
    by_cases hj : (a - 1).toNat = (n - 1).toNat
    · rw [if_pos hj]
      cases L[(a - 1).toNat]? with
      | none => rfl
      | some x =>
        simp only [Option.map_some]
        unfold mayX
        rw [(hf x).1, (hf x).2]
    · rw [if_neg hj]
theorem holdE_one (L : List InstD) (p : ByteArray) (a : Int) : holdE L p [a] = mayE L p a := by
  unfold holdE
  by_cases h : mayE L p a = 0
  · rw [List.find?_cons_of_neg (by simp [h]), List.find?_nil, h]
  · rw [List.find?_cons_of_pos (by simpa using h)]
def holdF (on : Bool) (x : InstD) : InstD := { x with held := on }
def keepF (x : InstD) : InstD := { x with wish := false }
def prioF (n : Int) (x : InstD) : InstD := { x with prio := n }
def partF (on : Bool) (x : InstD) : InstD := { x with part := on }
theorem holdL_one (L : List InstD) (p : ByteArray) (on : Bool) (a : Int) : holdL L p on [a] = if mayE L p a = 0 then upd L a (holdF on) else L := by
  unfold holdL
  rw [holdE_one]
  rfl
/-- The four calls, one behind the other. -/
def fourL (L : List InstD) (p : ByteArray) (a : Int) (on pt : Bool) : List InstD := setPartL (setPrioL (keepL (holdL L p on [a]) p a) p a 2) p a pt
theorem may1 (L : List InstD) (p : ByteArray) (a : Int) (on : Bool) : mayE (holdL L p on [a]) p a = mayE L p a := by
  rw [holdL_one]
  split
  · exact mayE_upd _ _ _ _ _ (fun x => ⟨rfl, rfl⟩)
  · rfl
theorem may2 (L : List InstD) (p : ByteArray) (a : Int) : mayE (keepL L p a) p a = mayE L p a := by
  unfold keepL
  split
  · exact mayE_upd _ _ _ _ _ (fun x => ⟨rfl, rfl⟩)
  · rfl
theorem may3 (L : List InstD) (p : ByteArray) (a n : Int) : mayE (setPrioL L p a n) p a = mayE L p a := by
  unfold setPrioL
  split
  · exact mayE_upd _ _ _ _ _ (fun x => ⟨rfl, rfl⟩)
  · rfl
theorem four_no (L : List InstD) (p : ByteArray) (a : Int) (on pt : Bool) (h : mayE L p a ≠ 0) : fourL L p a on pt = L := by
  have e1 : holdL L p on [a] = L := by rw [holdL_one, if_neg h]
  unfold fourL
  rw [e1]
  have e2 : keepL L p a = L := by unfold keepL; rw [if_neg h]
  rw [e2]
  have e3 : setPrioL L p a 2 = L := by unfold setPrioL; rw [if_neg h]
  rw [e3]
  unfold setPartL
  rw [if_neg h]
theorem four_yes (L : List InstD) (p : ByteArray) (a : Int) (on pt : Bool) (h : mayE L p a = 0) : getX (fourL L p a on pt) a = { getX L a with held := on, wish := false, prio := 2, part := pt } := by
  obtain ⟨k, x, rfl, hx, hk, -, -, -⟩ := mayE_zero L p a h
  have m1 := may1 L p ((k : Int) + 1) on
  have m2 := may2 (holdL L p on [(k : Int) + 1]) p ((k : Int) + 1)
  have m3 := may3 (keepL (holdL L p on [(k : Int) + 1]) p ((k : Int) + 1)) p ((k : Int) + 1) 2
  rw [m1, h] at m2
  rw [m2] at m3
  have hkk : ((k : Int) + 1 - 1).toNat = k := by omega
  have e1 : (holdL L p on [(k : Int) + 1])[k]? = some (holdF on x) := by rw [holdL_one, if_pos h, upd_get, hkk, if_pos rfl, hx]; rfl
  have e2 : (keepL (holdL L p on [(k : Int) + 1]) p ((k : Int) + 1))[k]? = some (keepF (holdF on x)) := by
    unfold keepL
    rw [if_pos (m1.trans h), upd_get, hkk, if_pos rfl, e1]; rfl
  have e3 : (setPrioL (keepL (holdL L p on [(k : Int) + 1]) p ((k : Int) + 1)) p ((k : Int) + 1) 2)[k]? = some (prioF 2 (keepF (holdF on x))) := by
    unfold setPrioL
    rw [if_pos m2, upd_get, hkk, if_pos rfl, e2]; rfl
  have e4 : (fourL L p ((k : Int) + 1) on pt)[k]? = some (partF pt (prioF 2 (keepF (holdF on x)))) := by
    unfold fourL setPartL
    rw [if_pos m3, upd_get, hkk, if_pos rfl, e3]; rfl
  unfold getX
  rw [if_neg (by omega), if_neg (by omega), hkk, e4, hx]
  rfl
/-- Why a party may not, said by what Get tells. -/
theorem may_cases (L : List InstD) (p : ByteArray) (a : Int) : (getE L a = 3 ∧ mayE L p a = 3) ∨ (getE L a = 0 ∧ (getX L a).t.party ≠ p ∧ mayE L p a = 22) ∨ (getE L a = 0 ∧ (getX L a).t.party = p ∧ ¬ (0 ≤ (getX L a).state ∧ (getX L a).state ≤ 2) ∧ mayE L p a = 20) ∨
    (getE L a = 0 ∧ (getX L a).t.party = p ∧ (0 ≤ (getX L a).state ∧ (getX L a).state ≤ 2) ∧ mayE L p a = 0) := by
  rcases pick L a with hn | ⟨k, x, rfl, hx, hk⟩
  · refine .inl ⟨?_, mayE_none L p a hn⟩
    unfold getE
    by_cases h1 : a < 1
    · rw [if_pos h1]
    · rw [if_neg h1, List.getElem?_eq_none (by omega)]
  · right
    have e1 : getE L ((k : Int) + 1) = 0 := by
      unfold getE
      rw [if_neg (by omega), show ((k : Int) + 1 - 1).toNat = k by omega, hx]
    have e2 : getX L ((k : Int) + 1) = x := by
      unfold getX
      rw [if_neg (by omega), show ((k : Int) + 1 - 1).toNat = k by omega, hx]
    rw [e1, e2, mayE_some L p k x hx]
    unfold mayX
    by_cases h1 : x.t.party = p
    · by_cases h2 : 0 ≤ x.state ∧ x.state ≤ 2
      · exact .inr (.inr ⟨rfl, h1, h2, by rw [if_pos h1, if_pos h2]⟩)
      · exact .inr (.inl ⟨rfl, h1, h2, by rw [if_pos h1, if_neg h2]⟩)
    · exact .inl ⟨rfl, h1, by rw [if_neg h1]⟩
end Go.Proofs.Yteecekijekegdaa
