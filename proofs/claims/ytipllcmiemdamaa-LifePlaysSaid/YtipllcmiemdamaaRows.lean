/-
  No cell of these rows narrows 'for every input' (looked for: loops, veiled, ifaces, maps, wideKeys, modest, calm, conditions, laid).
  DERIVED. THE GIVEN ROWS OF THIS SEAT. 4 by the template 'for every input the law returns true; each argument reads behind the call as it read before'; 0 by the template 'total and deterministic' (their statements: YtipllcmiemdamaaTotals.lean).
  GIVEN WITH THE SEED: the statements are not yours to turn. If you find one false, say at which input.
  Laid BY PROGRAM, IN A SANDBOX (cutbox-rows.mjs): the forced cells as the released guide's own fill.sh prints them over the translation 4d917d0e89d3195e… (all of the seat's roots in one cut). By AI agents, Wed Nov 11 2026. No macro, syntax, notation, axiom, sorry.
-/
import Derived.Test.YtipllcmiemdamaaChecked
import GoSem.Claim
import GoSem.ClaimJoined
import GoSem.ClaimMapViews
import Derived.JoinedTies
import Derived.KernelRfl
namespace Go.Proofs.Ytipllcmiemdamaa
/- THE CELL 'sum', in the pinned program and in every row, IS THE sha256 OF THE DUMP (.gsa) THAT YtipllcmiemdamaaProg.lean LOADS. Nothing in Lean hashes anything: it is a label: what it is worth is what the hold of that sum in a sandbox is worth. -/
noncomputable def Try.pinned : Pinned := { name := "ytipllcmiemdamaa", sum := "4d917d0e89d3195e286ed7ab53d2eee9c57d7f73162959c577555a4fa6f41c8a", checked := Try.checked }
namespace Rows
def none {H : Type} : Left H := { results := [], args := [] }

/-- 'complinelaw13.LifeNext': WHATEVER THE INPUT: true; the input reads as it did. -/
def lifeNextSpec : ChangeSpec := { name := "lifeNext", fn := fun _ => fun
  | [d1, d2, d3] => { results := [.lit (.bool true)], args := [d1, d2, d3] }
  | _ => none }
def lifeNextRow : OpenClaim := { program := "ytipllcmiemdamaa", sum := "4d917d0e89d3195e286ed7ab53d2eee9c57d7f73162959c577555a4fa6f41c8a", func := "compline/complinelaw13.LifeNext", spec := "lifeNext", apart := false }
def LifeNextSaid : Prop := lifeNextRow.holds Try.pinned (OpenSpec.ofChange lifeNextSpec)

/-- ITS FALSE NEIGHBOUR: 'it returns false'. Refute it at one input. -/
def lifeNextWrong : ChangeSpec := { name := "lifeNext", fn := fun _ => fun
  | [d1, d2, d3] => { results := [.lit (.bool false)], args := [d1, d2, d3] }
  | _ => none }
def LifeNextWrongFalsely : Prop := lifeNextRow.holds Try.pinned (OpenSpec.ofChange lifeNextWrong)

/-- 'complinelaw13.LifeEnds': WHATEVER THE INPUT: true; the input reads as it did. -/
def lifeEndsSpec : ChangeSpec := { name := "lifeEnds", fn := fun _ => fun
  | [d] => { results := [.lit (.bool true)], args := [d] }
  | _ => none }
def lifeEndsRow : OpenClaim := { program := "ytipllcmiemdamaa", sum := "4d917d0e89d3195e286ed7ab53d2eee9c57d7f73162959c577555a4fa6f41c8a", func := "compline/complinelaw13.LifeEnds", spec := "lifeEnds", apart := false }
def LifeEndsSaid : Prop := lifeEndsRow.holds Try.pinned (OpenSpec.ofChange lifeEndsSpec)

/-- ITS FALSE NEIGHBOUR: 'it returns false'. Refute it at one input. -/
def lifeEndsWrong : ChangeSpec := { name := "lifeEnds", fn := fun _ => fun
  | [d] => { results := [.lit (.bool false)], args := [d] }
  | _ => none }
def LifeEndsWrongFalsely : Prop := lifeEndsRow.holds Try.pinned (OpenSpec.ofChange lifeEndsWrong)

/-- 'complinelaw13.LifeNames': WHATEVER THE INPUT: true; the input reads as it did. -/
def lifeNamesSpec : ChangeSpec := { name := "lifeNames", fn := fun _ => fun
  | [d1, d2] => { results := [.lit (.bool true)], args := [d1, d2] }
  | _ => none }
def lifeNamesRow : OpenClaim := { program := "ytipllcmiemdamaa", sum := "4d917d0e89d3195e286ed7ab53d2eee9c57d7f73162959c577555a4fa6f41c8a", func := "compline/complinelaw13.LifeNames", spec := "lifeNames", apart := false }
def LifeNamesSaid : Prop := lifeNamesRow.holds Try.pinned (OpenSpec.ofChange lifeNamesSpec)

/-- ITS FALSE NEIGHBOUR: 'it returns false'. Refute it at one input. -/
def lifeNamesWrong : ChangeSpec := { name := "lifeNames", fn := fun _ => fun
  | [d1, d2] => { results := [.lit (.bool false)], args := [d1, d2] }
  | _ => none }
def LifeNamesWrongFalsely : Prop := lifeNamesRow.holds Try.pinned (OpenSpec.ofChange lifeNamesWrong)

/-- 'complinelaw13.LifePlays': WHATEVER THE INPUT: true; the input reads as it did. -/
def lifePlaysSpec : ChangeSpec := { name := "lifePlays", fn := fun _ => fun
  | [d1, d2] => { results := [.lit (.bool true)], args := [d1, d2] }
  | _ => none }
def lifePlaysRow : OpenClaim := { program := "ytipllcmiemdamaa", sum := "4d917d0e89d3195e286ed7ab53d2eee9c57d7f73162959c577555a4fa6f41c8a", func := "compline/complinelaw13.LifePlays", spec := "lifePlays", apart := false }
def LifePlaysSaid : Prop := lifePlaysRow.holds Try.pinned (OpenSpec.ofChange lifePlaysSpec)

/-- ITS FALSE NEIGHBOUR: 'it returns false'. Refute it at one input. -/
def lifePlaysWrong : ChangeSpec := { name := "lifePlays", fn := fun _ => fun
  | [d1, d2] => { results := [.lit (.bool false)], args := [d1, d2] }
  | _ => none }
def LifePlaysWrongFalsely : Prop := lifePlaysRow.holds Try.pinned (OpenSpec.ofChange lifePlaysWrong)

/- THE SECOND FORM. 'bulk': how many values and letters a reading holds, each counted each time it is reached (what is shared counts as often as it is met; a slice's spare places count too). A statement '..UptoSaid' is the law's where the arguments, and the package variables that the reading takes, are together of bulk at most 1048576: NARROWER than '..Said'. Prove '..Said' where nothing that the law and all that it calls make is longer than what came in: it says more and counts as full. Else prove '..UptoSaid'. A law counts once. -/
mutual
def uptoBulk {H : Type} : DataW H → Nat
  | .lit (.string bytes) => bytes.length + 1
  | .lit _ => 1
  | .nil => 1
  | .ptr d => uptoBulk d + 1
  | .slice elems spare => uptoBulkAll elems + uptoBulkAll spare + 1
  | .agg parts => uptoBulkAll parts + 1
  | .iface _ d => uptoBulk d + 1
  | .map entries => uptoBulkEntries entries + 1
  | .held _ => 1
def uptoBulkAll {H : Type} : List (DataW H) → Nat
  | [] => 0
  | d :: r => uptoBulk d + uptoBulkAll r
def uptoBulkEntries {H : Type} : List (Lit × DataW H) → Nat
  | [] => 0
  | x :: r => uptoBulkEntry x + uptoBulkEntries r
def uptoBulkEntry {H : Type} : Lit × DataW H → Nat
  | (.string bytes, d) => bytes.length + uptoBulk d + 1
  | (_, d) => uptoBulk d + 1
 end
def uptoSmall : (H : Type) → List (DataW H) → Bool := fun _ ds => decide (uptoBulkAll ds ≤ 1048576)
def OpenSpec.upto (s : _root_.Go.ChangeSpec) : _root_.Go.OpenSpec := { _root_.Go.OpenSpec.ofChange s with cond := some uptoSmall }

/-- 'complinelaw13.LifeNext', WHERE WHAT IT READS IS OF BULK AT MOST 1048576: true; the input reads as it did. -/
def lifeNextUptoRow : OpenClaim := { program := "ytipllcmiemdamaa", sum := "4d917d0e89d3195e286ed7ab53d2eee9c57d7f73162959c577555a4fa6f41c8a", func := "compline/complinelaw13.LifeNext", spec := "lifeNext", apart := false, narrowed := true }
def LifeNextUptoSaid : Prop := lifeNextUptoRow.holds Try.pinned (OpenSpec.upto lifeNextSpec)

/-- 'complinelaw13.LifeEnds', WHERE WHAT IT READS IS OF BULK AT MOST 1048576: true; the input reads as it did. -/
def lifeEndsUptoRow : OpenClaim := { program := "ytipllcmiemdamaa", sum := "4d917d0e89d3195e286ed7ab53d2eee9c57d7f73162959c577555a4fa6f41c8a", func := "compline/complinelaw13.LifeEnds", spec := "lifeEnds", apart := false, narrowed := true }
def LifeEndsUptoSaid : Prop := lifeEndsUptoRow.holds Try.pinned (OpenSpec.upto lifeEndsSpec)

/-- 'complinelaw13.LifeNames', WHERE WHAT IT READS IS OF BULK AT MOST 1048576: true; the input reads as it did. -/
def lifeNamesUptoRow : OpenClaim := { program := "ytipllcmiemdamaa", sum := "4d917d0e89d3195e286ed7ab53d2eee9c57d7f73162959c577555a4fa6f41c8a", func := "compline/complinelaw13.LifeNames", spec := "lifeNames", apart := false, narrowed := true }
def LifeNamesUptoSaid : Prop := lifeNamesUptoRow.holds Try.pinned (OpenSpec.upto lifeNamesSpec)

/-- 'complinelaw13.LifePlays', WHERE WHAT IT READS IS OF BULK AT MOST 1048576: true; the input reads as it did. -/
def lifePlaysUptoRow : OpenClaim := { program := "ytipllcmiemdamaa", sum := "4d917d0e89d3195e286ed7ab53d2eee9c57d7f73162959c577555a4fa6f41c8a", func := "compline/complinelaw13.LifePlays", spec := "lifePlays", apart := false, narrowed := true }
def LifePlaysUptoSaid : Prop := lifePlaysUptoRow.holds Try.pinned (OpenSpec.upto lifePlaysSpec)

end Rows
end Go.Proofs.Ytipllcmiemdamaa
