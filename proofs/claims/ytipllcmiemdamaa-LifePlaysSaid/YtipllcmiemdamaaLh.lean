/- For the row of LifePlays: an argument that is a slice of slices of whole numbers, opened. Plain lemmas, no conditions. -/
import Derived.Test.YtipllcmiemdamaaLg
import Derived.Test.YtipllcmiemdamaaRowKit
import Derived.Deep.Matrix
namespace Go.Proofs.Ytipllcmiemdamaa
open Go.ChangeShapes Go.WideShapes Go.RowKit

theorem open_slice_rows {H : Type} {enc : TypeId × Value → H} {P : Program} {W : World} {base : Nat} {held : Bool} {t e q : TypeId} {a : Option Addr} {len cap : Nat} {d : DataW H} {ps : List MemPlace}
    (ht : P.underlying t = some (.slice e)) (he : P.underlying e = some (.slice q)) (hq : P.underlying q = some (.int .i64)) (ce : P.cellsOf e = 1) (cq : P.cellsOf q = 1)
    (h : DataW.Trod enc P W base (fun _ => true) held t (.slice a len cap) d ps) :
    ∃ xss : List (List Int), xss.length = len ∧ Rows2 W a xss := by
  obtain ⟨fuel, hf⟩ := h
  rcases Go.Deep.open_int_rows ht he hq ce cq hf with ⟨hcs, _⟩ | ⟨x, l, c, A, L, C, Z, hcs, _, hl, hm, hx, hrow⟩
  · simp [Value.cells] at hcs
    obtain ⟨rfl, rfl, rfl⟩ := hcs
    exact ⟨[], rfl, ⟨by simp [maxLen], .inl rfl⟩⟩
  · simp [Value.cells] at hcs
    obtain ⟨rfl, rfl, rfl⟩ := hcs
    refine ⟨(List.range len).map fun r => (Z r).take (L r), by simp, by simp; omega, ?_⟩
    rcases Nat.eq_zero_or_pos len with h0 | h0
    · subst h0; exact .inl rfl
    · right
      obtain ⟨b, off, spot⟩ := x
      have h00 := (hrow 0 (by omega)).1
      have hspot : spot = none := by simpa [Addr.add] using World.cell?_spot h00
      subst hspot
      refine ⟨b, off, rfl, fun r hr => ?_⟩
      have hr' : r < len := by simpa using hr
      obtain ⟨h1, h2, h3, h4, h5, h6, h7⟩ := hrow r (by omega)
      have hget : ((List.range len).map fun r => (Z r).take (L r)).getD r [] = (Z r).take (L r) := by
        simp [List.getD_eq_getElem?_getD, hr']
      have hlen : ((Z r).take (L r)).length = L r := by simp; omega
      rw [hget, hlen]
      refine ⟨A r, C r, by rw [← Go.WideShapes.add_plain]; exact h1, ?_⟩
      cases hA : A r with
      | none =>
        have := h6 hA
        exact ⟨by rw [hlen]; omega, .inl (List.eq_nil_of_length_eq_zero (by rw [hlen]; omega))⟩
      | some a' => exact ints_opened (by omega) h2 h3 (fun i hi => (h7 a' hA).2 i (by omega))
end Go.Proofs.Ytipllcmiemdamaa
