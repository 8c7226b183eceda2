/- For the rows of this seat's laws: an argument that is a slice of whole numbers, opened: it reads as a list, no longer than its weight allows. Plain lemmas, no conditions. -/
import Derived.Test.YteecekijekegdaaBase
import Derived.ProofKit
import Derived.OpenShut
import Derived.SizedLaws
namespace Go.Proofs.Yteecekijekegdaa
open Go.ChangeShapes Go.WideShapes Go.RowKit

theorem ints_opened {W : World} {x : Addr} {l c : Nat} {zs : List Int} (hl : l ≤ zs.length) (hc : l ≤ c) (hm : c ≤ maxLen) (hcell : ∀ i, i < zs.length → W.cell? (x.add i) = some (.int .i64 (zs.getD i 0))) : Ints W (some x) (zs.take l) := by
  have hlen : (zs.take l).length = l := by simp; omega
  refine ⟨by omega, ?_⟩
  rcases Nat.eq_zero_or_pos l with h0 | h0
  · subst h0; exact .inl (by simp)
  · obtain ⟨b, off, rfl, hh⟩ := ints_at hcell (by omega)
    refine .inr ⟨b, off, rfl, fun j hj => ?_⟩
    rw [hh j (by omega)]
    simp only [List.getD_eq_getElem?_getD]
    rw [List.getElem?_take_of_lt (by omega)]

theorem open_slice_ints {H : Type} {enc : TypeId × Value → H} {P : Program} {W : World} {base : Nat} {spare : Nat → Bool} {held : Bool} {t e : TypeId} {a : Option Addr} {len cap : Nat} {d : DataW H} {ps : List MemPlace} {ts : List TypeId} {ds : List (DataW H)} {j : Nat}
    (hsz : (DataW.weightsEach P ts ds).all (· ≤ reachBytes) = true) (ht : ts[j]? = some t) (hd : ds[j]? = some d) (hu : P.underlying t = some (.slice e)) (he : P.underlying e = some (.int .i64)) (hc : P.cellsOf e = 1) (hB : P.bytesOf e = 8)
    (h : DataW.Trod enc P W base spare held t (.slice a len cap) d ps) :
    ∃ zs : List Int, zs.length = len ∧ Ints W a zs ∧ len * 8 ≤ 140737488351232 ∧ ∀ x ∈ zs, -9223372036854775808 ≤ x ∧ x ≤ 9223372036854775807 := by
  obtain ⟨fuel, hf⟩ := h
  rcases open_ints hu he hc hf with ⟨hcs, _⟩ | ⟨x, l, c, zs, hcs, _, hl, hm, hz, hx, hcell, hwf⟩
  · simp [Value.cells] at hcs
    obtain ⟨rfl, rfl, rfl⟩ := hcs
    exact ⟨[], rfl, ⟨by simp [maxLen], .inl rfl⟩, by simp, by simp⟩
  · simp [Value.cells] at hcs
    obtain ⟨rfl, rfl, rfl⟩ := hcs
    obtain ⟨hx, _⟩ := Prod.mk.inj hx
    subst hx
    have z := sized_slice hsz ht hd hu
    rw [hB] at z
    have hl2 : len ≤ zs.length := by
      rw [hz]
      split
      · exact hl
      · exact Nat.le_refl _
    have h1 : (lits (H := H) IntKind.i64 (zs.take len)).length + (lits (H := H) IntKind.i64 (zs.drop len)).length = zs.length := by
      simp [lits]
      omega
    rw [h1] at z
    refine ⟨zs.take len, by simp; omega, ints_opened hl2 hl hm hcell, Nat.le_trans (Nat.mul_le_mul_right _ hl2) z, fun y hy => bounds_i64 (hwf y (List.mem_of_mem_take hy))⟩
end Go.Proofs.Yteecekijekegdaa
