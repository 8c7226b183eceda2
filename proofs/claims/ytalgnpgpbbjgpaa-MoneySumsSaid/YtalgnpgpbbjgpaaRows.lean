/-
  No cell of these rows narrows 'for every input' (looked for: loops, veiled, ifaces, maps, wideKeys, modest, calm, conditions, laid).
  DERIVED. THE GIVEN ROWS OF THIS SEAT. 10 by the template 'for every input the law returns true; each argument reads behind the call as it read before'; 0 by the template 'total and deterministic' (their statements: YtalgnpgpbbjgpaaTotals.lean).
  GIVEN WITH THE SEED: the statements are not yours to turn. If you find one false, say at which input.
  Laid BY PROGRAM, IN A SANDBOX (cutbox-rows.mjs): the forced cells as the released guide's own fill.sh prints them over the translation 5c1ea79670d9cea3… (all of the seat's roots in one cut). By AI agents, Wed Nov 11 2026. No macro, syntax, notation, axiom, sorry.
-/
import Derived.Test.YtalgnpgpbbjgpaaChecked
import GoSem.Claim
import GoSem.ClaimJoined
import GoSem.ClaimMapViews
import Derived.JoinedTies
import Derived.KernelRfl
namespace Go.Proofs.Ytalgnpgpbbjgpaa
/- THE CELL 'sum', in the pinned program and in every row, IS THE sha256 OF THE DUMP (.gsa) THAT YtalgnpgpbbjgpaaProg.lean LOADS. Nothing in Lean hashes anything: it is a label: what it is worth is what the hold of that sum in a sandbox is worth. -/
noncomputable def Try.pinned : Pinned := { name := "ytalgnpgpbbjgpaa", sum := "5c1ea79670d9cea330961decaafecc867d6fca35803e7d60f9c3efc641249cef", checked := Try.checked }
namespace Rows
def none {H : Type} : Left H := { results := [], args := [] }

/-- 'complinelaw1.MoneyParts': WHATEVER THE INPUT: true; the input reads as it did. -/
def moneyPartsSpec : ChangeSpec := { name := "moneyParts", fn := fun _ => fun
  | [d1, d2, d3] => { results := [.lit (.bool true)], args := [d1, d2, d3] }
  | _ => none }
def moneyPartsRow : OpenClaim := { program := "ytalgnpgpbbjgpaa", sum := "5c1ea79670d9cea330961decaafecc867d6fca35803e7d60f9c3efc641249cef", func := "compline/complinelaw1.MoneyParts", spec := "moneyParts", inPlace := ["math/bits.Add64"], named := ["math/bits.divideError", "math/bits.overflowError"], apart := false }
def MoneyPartsSaid : Prop := moneyPartsRow.holds Try.pinned (OpenSpec.ofChange moneyPartsSpec)

/-- ITS FALSE NEIGHBOUR: 'it returns false'. Refute it at one input. -/
def moneyPartsWrong : ChangeSpec := { name := "moneyParts", fn := fun _ => fun
  | [d1, d2, d3] => { results := [.lit (.bool false)], args := [d1, d2, d3] }
  | _ => none }
def MoneyPartsWrongFalsely : Prop := moneyPartsRow.holds Try.pinned (OpenSpec.ofChange moneyPartsWrong)

/-- 'complinelaw1.MoneySums': WHATEVER THE INPUT: true; the input reads as it did. -/
def moneySumsSpec : ChangeSpec := { name := "moneySums", fn := fun _ => fun
  | [d1, d2, d3, d4] => { results := [.lit (.bool true)], args := [d1, d2, d3, d4] }
  | _ => none }
def moneySumsRow : OpenClaim := { program := "ytalgnpgpbbjgpaa", sum := "5c1ea79670d9cea330961decaafecc867d6fca35803e7d60f9c3efc641249cef", func := "compline/complinelaw1.MoneySums", spec := "moneySums", inPlace := ["math/bits.Add64"], named := ["math/bits.divideError", "math/bits.overflowError"], apart := false }
def MoneySumsSaid : Prop := moneySumsRow.holds Try.pinned (OpenSpec.ofChange moneySumsSpec)

/-- ITS FALSE NEIGHBOUR: 'it returns false'. Refute it at one input. -/
def moneySumsWrong : ChangeSpec := { name := "moneySums", fn := fun _ => fun
  | [d1, d2, d3, d4] => { results := [.lit (.bool false)], args := [d1, d2, d3, d4] }
  | _ => none }
def MoneySumsWrongFalsely : Prop := moneySumsRow.holds Try.pinned (OpenSpec.ofChange moneySumsWrong)

/-- 'complinelaw1.MoneyBack': WHATEVER THE INPUT: true; the input reads as it did. -/
def moneyBackSpec : ChangeSpec := { name := "moneyBack", fn := fun _ => fun
  | [d1, d2] => { results := [.lit (.bool true)], args := [d1, d2] }
  | _ => none }
def moneyBackRow : OpenClaim := { program := "ytalgnpgpbbjgpaa", sum := "5c1ea79670d9cea330961decaafecc867d6fca35803e7d60f9c3efc641249cef", func := "compline/complinelaw1.MoneyBack", spec := "moneyBack", inPlace := ["math/bits.Add64"], named := ["math/bits.divideError", "math/bits.overflowError"], apart := false }
def MoneyBackSaid : Prop := moneyBackRow.holds Try.pinned (OpenSpec.ofChange moneyBackSpec)

/-- ITS FALSE NEIGHBOUR: 'it returns false'. Refute it at one input. -/
def moneyBackWrong : ChangeSpec := { name := "moneyBack", fn := fun _ => fun
  | [d1, d2] => { results := [.lit (.bool false)], args := [d1, d2] }
  | _ => none }
def MoneyBackWrongFalsely : Prop := moneyBackRow.holds Try.pinned (OpenSpec.ofChange moneyBackWrong)

/-- 'complinelaw1.MoneyDivides': WHATEVER THE INPUT: true; the input reads as it did. -/
def moneyDividesSpec : ChangeSpec := { name := "moneyDivides", fn := fun _ => fun
  | [d1, d2, d3] => { results := [.lit (.bool true)], args := [d1, d2, d3] }
  | _ => none }
def moneyDividesRow : OpenClaim := { program := "ytalgnpgpbbjgpaa", sum := "5c1ea79670d9cea330961decaafecc867d6fca35803e7d60f9c3efc641249cef", func := "compline/complinelaw1.MoneyDivides", spec := "moneyDivides", inPlace := ["math/bits.Add64"], named := ["math/bits.divideError", "math/bits.overflowError"], apart := false }
def MoneyDividesSaid : Prop := moneyDividesRow.holds Try.pinned (OpenSpec.ofChange moneyDividesSpec)

/-- ITS FALSE NEIGHBOUR: 'it returns false'. Refute it at one input. -/
def moneyDividesWrong : ChangeSpec := { name := "moneyDivides", fn := fun _ => fun
  | [d1, d2, d3] => { results := [.lit (.bool false)], args := [d1, d2, d3] }
  | _ => none }
def MoneyDividesWrongFalsely : Prop := moneyDividesRow.holds Try.pinned (OpenSpec.ofChange moneyDividesWrong)

/-- 'complinelaw1.MoneyWorths': WHATEVER THE INPUT: true; the input reads as it did. -/
def moneyWorthsSpec : ChangeSpec := { name := "moneyWorths", fn := fun _ => fun
  | [d1, d2, d3, d4] => { results := [.lit (.bool true)], args := [d1, d2, d3, d4] }
  | _ => none }
def moneyWorthsRow : OpenClaim := { program := "ytalgnpgpbbjgpaa", sum := "5c1ea79670d9cea330961decaafecc867d6fca35803e7d60f9c3efc641249cef", func := "compline/complinelaw1.MoneyWorths", spec := "moneyWorths", inPlace := ["math/bits.Add64"], named := ["math/bits.divideError", "math/bits.overflowError"], apart := false }
def MoneyWorthsSaid : Prop := moneyWorthsRow.holds Try.pinned (OpenSpec.ofChange moneyWorthsSpec)

/-- ITS FALSE NEIGHBOUR: 'it returns false'. Refute it at one input. -/
def moneyWorthsWrong : ChangeSpec := { name := "moneyWorths", fn := fun _ => fun
  | [d1, d2, d3, d4] => { results := [.lit (.bool false)], args := [d1, d2, d3, d4] }
  | _ => none }
def MoneyWorthsWrongFalsely : Prop := moneyWorthsRow.holds Try.pinned (OpenSpec.ofChange moneyWorthsWrong)

/-- 'complinelaw1.MoneyStays': WHATEVER THE INPUT: true; the input reads as it did. -/
def moneyStaysSpec : ChangeSpec := { name := "moneyStays", fn := fun _ => fun
  | [d1, d2, d3] => { results := [.lit (.bool true)], args := [d1, d2, d3] }
  | _ => none }
def moneyStaysRow : OpenClaim := { program := "ytalgnpgpbbjgpaa", sum := "5c1ea79670d9cea330961decaafecc867d6fca35803e7d60f9c3efc641249cef", func := "compline/complinelaw1.MoneyStays", spec := "moneyStays", inPlace := ["math/bits.Add64"], named := ["math/bits.divideError", "math/bits.overflowError"], apart := false }
def MoneyStaysSaid : Prop := moneyStaysRow.holds Try.pinned (OpenSpec.ofChange moneyStaysSpec)

/-- ITS FALSE NEIGHBOUR: 'it returns false'. Refute it at one input. -/
def moneyStaysWrong : ChangeSpec := { name := "moneyStays", fn := fun _ => fun
  | [d1, d2, d3] => { results := [.lit (.bool false)], args := [d1, d2, d3] }
  | _ => none }
def MoneyStaysWrongFalsely : Prop := moneyStaysRow.holds Try.pinned (OpenSpec.ofChange moneyStaysWrong)

/-- 'complinelaw1.MoneyShares': WHATEVER THE INPUT: true; the input reads as it did. -/
def moneySharesSpec : ChangeSpec := { name := "moneyShares", fn := fun _ => fun
  | [d1, d2, d3] => { results := [.lit (.bool true)], args := [d1, d2, d3] }
  | _ => none }
def moneySharesRow : OpenClaim := { program := "ytalgnpgpbbjgpaa", sum := "5c1ea79670d9cea330961decaafecc867d6fca35803e7d60f9c3efc641249cef", func := "compline/complinelaw1.MoneyShares", spec := "moneyShares", inPlace := ["math/bits.Add64"], named := ["math/bits.divideError", "math/bits.overflowError"], apart := false }
def MoneySharesSaid : Prop := moneySharesRow.holds Try.pinned (OpenSpec.ofChange moneySharesSpec)

/-- ITS FALSE NEIGHBOUR: 'it returns false'. Refute it at one input. -/
def moneySharesWrong : ChangeSpec := { name := "moneyShares", fn := fun _ => fun
  | [d1, d2, d3] => { results := [.lit (.bool false)], args := [d1, d2, d3] }
  | _ => none }
def MoneySharesWrongFalsely : Prop := moneySharesRow.holds Try.pinned (OpenSpec.ofChange moneySharesWrong)

/-- 'complinelaw1.MoneyTexts': WHATEVER THE INPUT: true; the input reads as it did. -/
def moneyTextsSpec : ChangeSpec := { name := "moneyTexts", fn := fun _ => fun
  | [d1, d2, d3] => { results := [.lit (.bool true)], args := [d1, d2, d3] }
  | _ => none }
def moneyTextsRow : OpenClaim := { program := "ytalgnpgpbbjgpaa", sum := "5c1ea79670d9cea330961decaafecc867d6fca35803e7d60f9c3efc641249cef", func := "compline/complinelaw1.MoneyTexts", spec := "moneyTexts", inPlace := ["math/bits.Add64"], named := ["math/bits.divideError", "math/bits.overflowError"], apart := false }
def MoneyTextsSaid : Prop := moneyTextsRow.holds Try.pinned (OpenSpec.ofChange moneyTextsSpec)

/-- ITS FALSE NEIGHBOUR: 'it returns false'. Refute it at one input. -/
def moneyTextsWrong : ChangeSpec := { name := "moneyTexts", fn := fun _ => fun
  | [d1, d2, d3] => { results := [.lit (.bool false)], args := [d1, d2, d3] }
  | _ => none }
def MoneyTextsWrongFalsely : Prop := moneyTextsRow.holds Try.pinned (OpenSpec.ofChange moneyTextsWrong)

/-- 'complinelaw1.MoneyEnds': WHATEVER THE INPUT: true; the input reads as it did. -/
def moneyEndsSpec : ChangeSpec := { name := "moneyEnds", fn := fun _ => fun
  | [d] => { results := [.lit (.bool true)], args := [d] }
  | _ => none }
def moneyEndsRow : OpenClaim := { program := "ytalgnpgpbbjgpaa", sum := "5c1ea79670d9cea330961decaafecc867d6fca35803e7d60f9c3efc641249cef", func := "compline/complinelaw1.MoneyEnds", spec := "moneyEnds", inPlace := ["math/bits.Add64"], named := ["math/bits.divideError", "math/bits.overflowError"], apart := false }
def MoneyEndsSaid : Prop := moneyEndsRow.holds Try.pinned (OpenSpec.ofChange moneyEndsSpec)

/-- ITS FALSE NEIGHBOUR: 'it returns false'. Refute it at one input. -/
def moneyEndsWrong : ChangeSpec := { name := "moneyEnds", fn := fun _ => fun
  | [d] => { results := [.lit (.bool false)], args := [d] }
  | _ => none }
def MoneyEndsWrongFalsely : Prop := moneyEndsRow.holds Try.pinned (OpenSpec.ofChange moneyEndsWrong)

/-- 'complinelaw1.MoneyNeeds': WHATEVER THE INPUT: true; the input reads as it did. -/
def moneyNeedsSpec : ChangeSpec := { name := "moneyNeeds", fn := fun _ => fun
  | [d1, d2, d3] => { results := [.lit (.bool true)], args := [d1, d2, d3] }
  | _ => none }
def moneyNeedsRow : OpenClaim := { program := "ytalgnpgpbbjgpaa", sum := "5c1ea79670d9cea330961decaafecc867d6fca35803e7d60f9c3efc641249cef", func := "compline/complinelaw1.MoneyNeeds", spec := "moneyNeeds", inPlace := ["math/bits.Add64"], named := ["math/bits.divideError", "math/bits.overflowError"], apart := false }
def MoneyNeedsSaid : Prop := moneyNeedsRow.holds Try.pinned (OpenSpec.ofChange moneyNeedsSpec)

/-- ITS FALSE NEIGHBOUR: 'it returns false'. Refute it at one input. -/
def moneyNeedsWrong : ChangeSpec := { name := "moneyNeeds", fn := fun _ => fun
  | [d1, d2, d3] => { results := [.lit (.bool false)], args := [d1, d2, d3] }
  | _ => none }
def MoneyNeedsWrongFalsely : Prop := moneyNeedsRow.holds Try.pinned (OpenSpec.ofChange moneyNeedsWrong)

/- THE SECOND FORM. 'bulk': how many values and letters a reading holds, each counted each time it is reached (what is shared counts as often as it is met; a slice's spare places count too). A statement '..UptoSaid' is the law's where the arguments, and the package variables that the reading takes, are together of bulk at most 1048576: NARROWER than '..Said'. Prove '..Said' where nothing that the law and all that it calls make is longer than what came in: it says more and counts as full. Else prove '..UptoSaid'. A law counts once. -/
mutual
def uptoBulk {H : Type} : DataW H → Nat
  | .lit (.string bytes) => bytes.length + 1
  | .lit _ => 1
  | .nil => 1
  | .ptr d => uptoBulk d + 1
  | .slice elems spare => uptoBulkAll elems + uptoBulkAll spare + 1
  | .agg parts => uptoBulkAll parts + 1
  | .iface _ d => uptoBulk d + 1
  | .map entries => uptoBulkEntries entries + 1
  | .held _ => 1
def uptoBulkAll {H : Type} : List (DataW H) → Nat
  | [] => 0
  | d :: r => uptoBulk d + uptoBulkAll r
def uptoBulkEntries {H : Type} : List (Lit × DataW H) → Nat
  | [] => 0
  | x :: r => uptoBulkEntry x + uptoBulkEntries r
def uptoBulkEntry {H : Type} : Lit × DataW H → Nat
  | (.string bytes, d) => bytes.length + uptoBulk d + 1
  | (_, d) => uptoBulk d + 1
 end
def uptoSmall : (H : Type) → List (DataW H) → Bool := fun _ ds => decide (uptoBulkAll ds ≤ 1048576)
def OpenSpec.upto (s : _root_.Go.ChangeSpec) : _root_.Go.OpenSpec := { _root_.Go.OpenSpec.ofChange s with cond := some uptoSmall }

/-- 'complinelaw1.MoneyParts', WHERE WHAT IT READS IS OF BULK AT MOST 1048576: true; the input reads as it did. -/
def moneyPartsUptoRow : OpenClaim := { program := "ytalgnpgpbbjgpaa", sum := "5c1ea79670d9cea330961decaafecc867d6fca35803e7d60f9c3efc641249cef", func := "compline/complinelaw1.MoneyParts", spec := "moneyParts", inPlace := ["math/bits.Add64"], named := ["math/bits.divideError", "math/bits.overflowError"], apart := false, narrowed := true }
def MoneyPartsUptoSaid : Prop := moneyPartsUptoRow.holds Try.pinned (OpenSpec.upto moneyPartsSpec)

/-- 'complinelaw1.MoneySums', WHERE WHAT IT READS IS OF BULK AT MOST 1048576: true; the input reads as it did. -/
def moneySumsUptoRow : OpenClaim := { program := "ytalgnpgpbbjgpaa", sum := "5c1ea79670d9cea330961decaafecc867d6fca35803e7d60f9c3efc641249cef", func := "compline/complinelaw1.MoneySums", spec := "moneySums", inPlace := ["math/bits.Add64"], named := ["math/bits.divideError", "math/bits.overflowError"], apart := false, narrowed := true }
def MoneySumsUptoSaid : Prop := moneySumsUptoRow.holds Try.pinned (OpenSpec.upto moneySumsSpec)

/-- 'complinelaw1.MoneyBack', WHERE WHAT IT READS IS OF BULK AT MOST 1048576: true; the input reads as it did. -/
def moneyBackUptoRow : OpenClaim := { program := "ytalgnpgpbbjgpaa", sum := "5c1ea79670d9cea330961decaafecc867d6fca35803e7d60f9c3efc641249cef", func := "compline/complinelaw1.MoneyBack", spec := "moneyBack", inPlace := ["math/bits.Add64"], named := ["math/bits.divideError", "math/bits.overflowError"], apart := false, narrowed := true }
def MoneyBackUptoSaid : Prop := moneyBackUptoRow.holds Try.pinned (OpenSpec.upto moneyBackSpec)

/-- 'complinelaw1.MoneyDivides', WHERE WHAT IT READS IS OF BULK AT MOST 1048576: true; the input reads as it did. -/
def moneyDividesUptoRow : OpenClaim := { program := "ytalgnpgpbbjgpaa", sum := "5c1ea79670d9cea330961decaafecc867d6fca35803e7d60f9c3efc641249cef", func := "compline/complinelaw1.MoneyDivides", spec := "moneyDivides", inPlace := ["math/bits.Add64"], named := ["math/bits.divideError", "math/bits.overflowError"], apart := false, narrowed := true }
def MoneyDividesUptoSaid : Prop := moneyDividesUptoRow.holds Try.pinned (OpenSpec.upto moneyDividesSpec)

/-- 'complinelaw1.MoneyWorths', WHERE WHAT IT READS IS OF BULK AT MOST 1048576: true; the input reads as it did. -/
def moneyWorthsUptoRow : OpenClaim := { program := "ytalgnpgpbbjgpaa", sum := "5c1ea79670d9cea330961decaafecc867d6fca35803e7d60f9c3efc641249cef", func := "compline/complinelaw1.MoneyWorths", spec := "moneyWorths", inPlace := ["math/bits.Add64"], named := ["math/bits.divideError", "math/bits.overflowError"], apart := false, narrowed := true }
def MoneyWorthsUptoSaid : Prop := moneyWorthsUptoRow.holds Try.pinned (OpenSpec.upto moneyWorthsSpec)

/-- 'complinelaw1.MoneyStays', WHERE WHAT IT READS IS OF BULK AT MOST 1048576: true; the input reads as it did. -/
def moneyStaysUptoRow : OpenClaim := { program := "ytalgnpgpbbjgpaa", sum := "5c1ea79670d9cea330961decaafecc867d6fca35803e7d60f9c3efc641249cef", func := "compline/complinelaw1.MoneyStays", spec := "moneyStays", inPlace := ["math/bits.Add64"], named := ["math/bits.divideError", "math/bits.overflowError"], apart := false, narrowed := true }
def MoneyStaysUptoSaid : Prop := moneyStaysUptoRow.holds Try.pinned (OpenSpec.upto moneyStaysSpec)

/-- 'complinelaw1.MoneyShares', WHERE WHAT IT READS IS OF BULK AT MOST 1048576: true; the input reads as it did. -/
def moneySharesUptoRow : OpenClaim := { program := "ytalgnpgpbbjgpaa", sum := "5c1ea79670d9cea330961decaafecc867d6fca35803e7d60f9c3efc641249cef", func := "compline/complinelaw1.MoneyShares", spec := "moneyShares", inPlace := ["math/bits.Add64"], named := ["math/bits.divideError", "math/bits.overflowError"], apart := false, narrowed := true }
def MoneySharesUptoSaid : Prop := moneySharesUptoRow.holds Try.pinned (OpenSpec.upto moneySharesSpec)

/-- 'complinelaw1.MoneyTexts', WHERE WHAT IT READS IS OF BULK AT MOST 1048576: true; the input reads as it did. -/
def moneyTextsUptoRow : OpenClaim := { program := "ytalgnpgpbbjgpaa", sum := "5c1ea79670d9cea330961decaafecc867d6fca35803e7d60f9c3efc641249cef", func := "compline/complinelaw1.MoneyTexts", spec := "moneyTexts", inPlace := ["math/bits.Add64"], named := ["math/bits.divideError", "math/bits.overflowError"], apart := false, narrowed := true }
def MoneyTextsUptoSaid : Prop := moneyTextsUptoRow.holds Try.pinned (OpenSpec.upto moneyTextsSpec)

/-- 'complinelaw1.MoneyEnds', WHERE WHAT IT READS IS OF BULK AT MOST 1048576: true; the input reads as it did. -/
def moneyEndsUptoRow : OpenClaim := { program := "ytalgnpgpbbjgpaa", sum := "5c1ea79670d9cea330961decaafecc867d6fca35803e7d60f9c3efc641249cef", func := "compline/complinelaw1.MoneyEnds", spec := "moneyEnds", inPlace := ["math/bits.Add64"], named := ["math/bits.divideError", "math/bits.overflowError"], apart := false, narrowed := true }
def MoneyEndsUptoSaid : Prop := moneyEndsUptoRow.holds Try.pinned (OpenSpec.upto moneyEndsSpec)

/-- 'complinelaw1.MoneyNeeds', WHERE WHAT IT READS IS OF BULK AT MOST 1048576: true; the input reads as it did. -/
def moneyNeedsUptoRow : OpenClaim := { program := "ytalgnpgpbbjgpaa", sum := "5c1ea79670d9cea330961decaafecc867d6fca35803e7d60f9c3efc641249cef", func := "compline/complinelaw1.MoneyNeeds", spec := "moneyNeeds", inPlace := ["math/bits.Add64"], named := ["math/bits.divideError", "math/bits.overflowError"], apart := false, narrowed := true }
def MoneyNeedsUptoSaid : Prop := moneyNeedsUptoRow.holds Try.pinned (OpenSpec.upto moneyNeedsSpec)

end Rows
end Go.Proofs.Ytalgnpgpbbjgpaa
