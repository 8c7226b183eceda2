/- The walk of inst.Left: what is left of an instruction. Plain contracts, no conditions but those that each names. -/
import Derived.Test.YteecekijekegdaaKn
namespace Go.Proofs.Yteecekijekegdaa
open Go.RowKit

def leftX (x : InstD) : Int := if x.done < 0 ∨ x.t.qty < x.done then 0 else x.t.qty - x.done
theorem left_calls (x : InstD) (w : World) (R : Ending → World → Prop) (h1 : 0 ≤ x.done) (h2 : x.done ≤ x.t.qty) (h3 : x.t.qty ≤ 36028797018963968) (hR : ∀ w', Below w.heap.size w w' → R (.returned (.int .i64 (leftX x))) w') :
    Calls Try.prog 31 #[x.val] w R := by
  have e : leftX x = x.t.qty - x.done := by unfold leftX; rw [if_neg (by omega)]
  rw [e] at hR
  have HR := Hid.mk hR
  clear hR e
  unfold InstD.val
  obtain ⟨W, hW⟩ : ∃ W, W = w.alloc (.cells x.cells.toArray 32) := ⟨_, rfl⟩
  obtain ⟨g, hg⟩ : ∃ g, g = w.heap.size := ⟨_, rfl⟩
  have hz : InstAt W g x := by subst hW; subst hg; exact blk_new _ _
  have c19 : W.cell? ⟨g, 19, none⟩ = some (.int .i64 x.done) := by rw [hz.cell]; rfl
  have c9 : W.cell? ⟨g, 9, none⟩ = some (.int .i64 x.t.qty) := by rw [hz.cell]; rfl
  obtain ⟨d, hd⟩ : ∃ d, d = x.done := ⟨_, rfl⟩
  obtain ⟨q, hq⟩ : ∃ d, d = x.t.qty := ⟨_, rfl⟩
  rw [← hd, ← hq] at HR
  rw [← hd] at c19 h1 h2
  rw [← hq] at c9 h2 h3
  have hb : Hid (Below w.heap.size w W) := Hid.mk (by subst hW; exact below_allocs (Below.refl _ _) _)
  clear hd hq hz
  go_enter Try.func31, Try.ntmps31
  go_upto_region 1 with (fail)
  rw [← hW, ← hg]
  clear hW hg
  go_wp2_with (fail)
  exact HR.out _ hb.out
end Go.Proofs.Yteecekijekegdaa
