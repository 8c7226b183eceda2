/- The walks of a nil book's Add, and of New. -/
import Derived.Test.YteecekijekegdaaKc
namespace Go.Proofs.Yteecekijekegdaa
open Go.RowKit

theorem add_nil (t : TermD) (n : Int) (o p : Bool) (w : World) (R : Ending → World → Prop) (hR : ∀ w', Below w.heap.size w w' → R (.returned (.tuple #[.int .i64 0, .int .i64 1])) w') :
    Calls Try.prog 10 #[.pointer none, t.val, .int .i64 n, .bool o, .bool p] w R := by
  have HR := Hid.mk hR
  clear hR
  unfold TermD.val TermD.cells
  go_enter Try.func10, Try.ntmps10
  go_wp2_with (fail)
  exact HR.out _ (below_allocs (Below.refl _ _) _)

/-- A book: one cell, its slice. -/
def BookAt (w : World) (g : Nat) (v : Value) : Prop := w.heap[g]? = some (.cells #[v] 56 (0, 0))

theorem new_calls (w : World) (R : Ending → World → Prop) (hR : ∀ w', BookAt w' w.heap.size (.slice none 0 0) → Below w.heap.size w w' → R (.returned (.pointer (some ⟨w.heap.size, 0, none⟩))) w') :
    Calls Try.prog 8 #[] w R := by
  have HR := Hid.mk hR
  clear hR
  go_enter Try.func8, Try.ntmps8
  go_wp2_with (fail)
  exact HR.out _ (blk_new _ _) (below_allocs (Below.refl _ _) _)
end Go.Proofs.Yteecekijekegdaa
