/- The walk of the store's owned: a term, its texts anew: it reads as it did. -/
import Derived.Test.YteecekijekegdaaKa
namespace Go.Proofs.Yteecekijekegdaa
open Go.RowKit

/-- A term: its twelve cells. -/
structure TermD where
  party : ByteArray
  account : ByteArray
  money : ByteArray
  other : ByteArray
  deliver : Bool
  asset : ByteArray
  ccy : ByteArray
  ref : ByteArray
  qty : Int
  amount : Int
  day : Int
  trade : Int
def TermD.cells (t : TermD) : Array Value :=
  #[.string t.party, .string t.account, .string t.money, .string t.other, .bool t.deliver, .string t.asset, .string t.ccy, .string t.ref, .int .i64 t.qty, .int .i64 t.amount, .int .i64 t.day, .int .i64 t.trade]
def TermD.val (t : TermD) : Value := .agg t.cells
/-- Its texts are no longer than a text can be. -/
def TermD.Fit (t : TermD) : Prop := t.party.size ≤ 140737488351232 ∧ t.account.size ≤ 140737488351232 ∧ t.money.size ≤ 140737488351232 ∧ t.other.size ≤ 140737488351232 ∧ t.asset.size ≤ 140737488351232 ∧ t.ccy.size ≤ 140737488351232 ∧ t.ref.size ≤ 140737488351232

/-- A term that lies in a block of its own. -/
def TermAt (w : World) (g : Nat) (t : TermD) : Prop := w.heap[g]? = some (.cells t.cells 27 (0, 0))
theorem TermAt.again {w : World} {g j : Nat} {t : TermD} (h : TermAt w g t) (s : ByteArray) (hj : t.cells[j]? = some (.string s)) : TermAt (w.setCell ⟨g, j, none⟩ (.string s)) g t := by
  have h2 := blk_set h j (.string s)
  have e : t.cells.setIfInBounds j (.string s) = t.cells := by
    apply Array.ext_getElem?
    intro i
    rw [Array.getElem?_setIfInBounds]
    by_cases hi : j = i
    · subst hi
      rw [if_pos rfl, hj]
      rw [if_pos (Array.getElem?_eq_some_iff.1 hj).1]
    · rw [if_neg hi]
  rw [e] at h2
  exact h2
theorem TermAt.below {w w' : World} {g : Nat} {t : TermD} (h : TermAt w g t) (k : Below w.heap.size w w') : TermAt w' g t := (Keep.of_below k).heap h (fun h => h)

def zeroT : TermD := ⟨⟨#[]⟩, ⟨#[]⟩, ⟨#[]⟩, ⟨#[]⟩, false, ⟨#[]⟩, ⟨#[]⟩, ⟨#[]⟩, 0, 0, 0, 0⟩

theorem term_all {w : World} {g : Nat} {z : TermD} (h : TermAt w g z) (t : TermD) : TermAt ((((((((((((w.setCell ⟨g, 0, none⟩ (.string t.party)).setCell ⟨g, 1, none⟩ (.string t.account)).setCell ⟨g, 2, none⟩ (.string t.money)).setCell ⟨g, 3, none⟩ (.string t.other)).setCell ⟨g, 4, none⟩ (.bool t.deliver)).setCell ⟨g, 5, none⟩ (.string t.asset)).setCell ⟨g, 6, none⟩ (.string t.ccy)).setCell ⟨g, 7, none⟩ (.string t.ref)).setCell ⟨g, 8, none⟩ (.int .i64 t.qty)).setCell ⟨g, 9, none⟩ (.int .i64 t.amount)).setCell ⟨g, 10, none⟩ (.int .i64 t.day)).setCell ⟨g, 11, none⟩ (.int .i64 t.trade)) g t := by
  have k := (blk_set (blk_set (blk_set (blk_set (blk_set (blk_set (blk_set (blk_set (blk_set (blk_set (blk_set (blk_set h 0 (.string t.party)) 1 (.string t.account)) 2 (.string t.money)) 3 (.string t.other)) 4 (.bool t.deliver)) 5 (.string t.asset)) 6 (.string t.ccy)) 7 (.string t.ref)) 8 (.int .i64 t.qty)) 9 (.int .i64 t.amount)) 10 (.int .i64 t.day)) 11 (.int .i64 t.trade))
  unfold TermAt
  rw [k]
  unfold TermD.cells
  simp only [List.setIfInBounds_toArray, List.set_cons_zero, List.set_cons_succ]
theorem term_below {w w1 : World} {g : Nat} (h : Below w.heap.size w w1) (hg : w.heap.size ≤ g) (t : TermD) : Below w.heap.size w ((((((((((((w1.setCell ⟨g, 0, none⟩ (.string t.party)).setCell ⟨g, 1, none⟩ (.string t.account)).setCell ⟨g, 2, none⟩ (.string t.money)).setCell ⟨g, 3, none⟩ (.string t.other)).setCell ⟨g, 4, none⟩ (.bool t.deliver)).setCell ⟨g, 5, none⟩ (.string t.asset)).setCell ⟨g, 6, none⟩ (.string t.ccy)).setCell ⟨g, 7, none⟩ (.string t.ref)).setCell ⟨g, 8, none⟩ (.int .i64 t.qty)).setCell ⟨g, 9, none⟩ (.int .i64 t.amount)).setCell ⟨g, 10, none⟩ (.int .i64 t.day)).setCell ⟨g, 11, none⟩ (.int .i64 t.trade)) := ((((((((((((h.setCell (p := ⟨g, 0, none⟩) hg (.string t.party)).setCell (p := ⟨g, 1, none⟩) hg (.string t.account)).setCell (p := ⟨g, 2, none⟩) hg (.string t.money)).setCell (p := ⟨g, 3, none⟩) hg (.string t.other)).setCell (p := ⟨g, 4, none⟩) hg (.bool t.deliver)).setCell (p := ⟨g, 5, none⟩) hg (.string t.asset)).setCell (p := ⟨g, 6, none⟩) hg (.string t.ccy)).setCell (p := ⟨g, 7, none⟩) hg (.string t.ref)).setCell (p := ⟨g, 8, none⟩) hg (.int .i64 t.qty)).setCell (p := ⟨g, 9, none⟩) hg (.int .i64 t.amount)).setCell (p := ⟨g, 10, none⟩) hg (.int .i64 t.day)).setCell (p := ⟨g, 11, none⟩) hg (.int .i64 t.trade))
def Cells12 (w : World) (g : Nat) (t : TermD) : Prop := w.cell? ⟨g, 0, none⟩ = some (.string t.party) ∧ w.cell? ⟨g, 1, none⟩ = some (.string t.account) ∧ w.cell? ⟨g, 2, none⟩ = some (.string t.money) ∧ w.cell? ⟨g, 3, none⟩ = some (.string t.other) ∧ w.cell? ⟨g, 4, none⟩ = some (.bool t.deliver) ∧ w.cell? ⟨g, 5, none⟩ = some (.string t.asset) ∧ w.cell? ⟨g, 6, none⟩ = some (.string t.ccy) ∧ w.cell? ⟨g, 7, none⟩ = some (.string t.ref) ∧ w.cell? ⟨g, 8, none⟩ = some (.int .i64 t.qty) ∧ w.cell? ⟨g, 9, none⟩ = some (.int .i64 t.amount) ∧ w.cell? ⟨g, 10, none⟩ = some (.int .i64 t.day) ∧ w.cell? ⟨g, 11, none⟩ = some (.int .i64 t.trade)
theorem cells12 {w : World} {g : Nat} {t : TermD} (h : TermAt w g t) : Cells12 w g t :=
  ⟨by rw [blk_cell h]; rfl, by rw [blk_cell h]; rfl, by rw [blk_cell h]; rfl, by rw [blk_cell h]; rfl, by rw [blk_cell h]; rfl, by rw [blk_cell h]; rfl, by rw [blk_cell h]; rfl, by rw [blk_cell h]; rfl, by rw [blk_cell h]; rfl, by rw [blk_cell h]; rfl, by rw [blk_cell h]; rfl, by rw [blk_cell h]; rfl⟩
theorem ret_term {fn : Func} {u : Tmp} {tmps : Array Value} {w : World} {g : Nat} {t : TermD} (hr : fn.results = #[.cell u 27]) (ht : tmps.getD u undef = .pointer (some ⟨g, 0, none⟩)) (h : TermAt w g t) :
    (results fn tmps).run Try.prog w = .ok t.val w := by
  obtain ⟨c0, c1, c2, c3, c4, c5, c6, c7, c8, c9, c10, c11⟩ := cells12 h
  have ht' : (tmps[u]?).getD undef = .pointer (some ⟨g, 0, none⟩) := by simpa using ht
  unfold TermD.val TermD.cells
  simp [results, hr, ht', go_sem, c0, c1, c2, c3, c4, c5, c6, c7, c8, c9, c10, c11]

/-- The row of pointers to its texts. -/
def rowP (g : Nat) : Array Value := #[.pointer (some ⟨g, 0, none⟩), .pointer (some ⟨g, 1, none⟩), .pointer (some ⟨g, 2, none⟩), .pointer (some ⟨g, 3, none⟩), .pointer (some ⟨g, 5, none⟩), .pointer (some ⟨g, 6, none⟩), .pointer (some ⟨g, 7, none⟩)]

set_option maxHeartbeats 1000000 in
theorem owned_calls (t : TermD) (w : World) (R : Ending → World → Prop) (ht : t.Fit) (hR : ∀ w', Below w.heap.size w w' → R (.returned t.val) w') :
    Calls Try.prog 25 #[t.val] w R := by
  have HR := Hid.mk hR
  have HT := Hid.mk ht
  clear hR ht
  unfold TermD.val TermD.cells
  go_enter Try.func25, Try.ntmps25
  go_wp2_with (fail)
  obtain ⟨g, hg⟩ : ∃ g, g = w.heap.size := ⟨_, rfl⟩
  obtain ⟨gz, hgz⟩ : ∃ g, g = w.heap.size + 1 := ⟨_, rfl⟩
  obtain ⟨gp, hgp⟩ : ∃ g, g = w.heap.size + 1 + 1 := ⟨_, rfl⟩
  obtain ⟨W, hW⟩ : ∃ W, W = ((w.alloc (.cells t.cells 27)).alloc (.cells zeroT.cells 27)).alloc (.cells (rowP w.heap.size) 67) := ⟨_, rfl⟩
  have h1 : TermAt W g t := by subst hW; subst hg; exact blk_alloc (blk_alloc (blk_new _ _) _) _
  have h2 : TermAt W gz zeroT := by
    subst hW; subst hgz
    have := blk_new (w.alloc (.cells t.cells 27)) (.cells zeroT.cells 27)
    rw [World.size_alloc] at this
    exact blk_alloc this _
  have h3 : W.heap[gp]? = some (.cells (rowP g) 67 (0, 0)) := by
    subst hW; subst hgp; subst hg
    have := blk_new ((w.alloc (.cells t.cells 27)).alloc (.cells zeroT.cells 27)) (.cells (rowP w.heap.size) 67)
    rw [World.size_alloc, World.size_alloc] at this
    exact this
  have hbW : Below w.heap.size w W := by subst hW; exact below_allocs (below_allocs (below_allocs (Below.refl _ _) _) _) _
  have HG : Hid (w.heap.size ≤ g ∧ w.heap.size ≤ gz ∧ gp ≠ g ∧ gz ≠ g) := Hid.mk (by omega)
  unfold TermD.cells zeroT rowP at hW
  dsimp only at hW
  rw [← hW, ← hgp, ← hgz, ← hg]
  clear hW hgp hgz hg
  go_loopg [14, 4] 7 (fun gg vi v4 wr => ∃ k : Nat, k ≤ 7 ∧ vi = .int .i64 k ∧ wr.heap[gp]? = some (.cells (rowP g) 67 (0, 0)) ∧ TermAt wr gz zeroT ∧ TermAt wr g t ∧ Hid (gg = 7 - k) ∧ Below w.heap.size w wr)
  case atStart => exact ⟨0, by omega, rfl, h3, h2, h1, Hid.mk rfl, hbW⟩
  case round =>
    obtain ⟨k, hk, rfl, hrow, hzero, hterm, HGG, HB⟩ := hrel
    clear h1 h2 h3 hbW
    by_cases hlt : k < 7
    · have hcases : k = 0 ∨ k = 1 ∨ k = 2 ∨ k = 3 ∨ k = 4 ∨ k = 5 ∨ k = 6 := by omega
      clear hk hlt
      rcases hcases with rfl | rfl | rfl | rfl | rfl | rfl | rfl
      · have hp : wr.cell? ⟨gp, 0, none⟩ = some (.pointer (some ⟨g, 0, none⟩)) := by rw [blk_cell hrow]; rfl
        have hc : wr.cell? ⟨g, 0, none⟩ = some (.string t.party) := by rw [blk_cell hterm]; rfl
        have hf := blk_frozen hterm 0
        have H3 := Hid.mk (And.intro hrow (And.intro hzero hterm))
        clear hrow hzero hterm
        go_wp2_with (fail)
        refine own_calls ⟨g, 0, none⟩ t.party _ _ HT.out.1 hc hf ?_
        intro w1 hb1
        have hterm1 := (TermAt.below H3.out.2.2 hb1).again t.party (j := 0) rfl
        have hrow1 : (w1.setCell ⟨g, 0, none⟩ (.string t.party)).heap[gp]? = some (.cells (rowP g) 67 (0, 0)) := blk_far ((Keep.of_below hb1).heap H3.out.1 (fun h => h)) (show gp ≠ g from HG.out.2.2.1) _
        have hzero1 : TermAt (w1.setCell ⟨g, 0, none⟩ (.string t.party)) gz zeroT := blk_far (TermAt.below H3.out.2.1 hb1) (show gz ≠ g from HG.out.2.2.2) _
        have hB1 : Below w.heap.size w (w1.setCell ⟨g, 0, none⟩ (.string t.party)) := (below_then HB hb1).setCell (show w.heap.size ≤ g from HG.out.1) _
        clear hp hc hf
        go_wp2_with (fail)
        go_roundg 6
        case measure => rw [HGG.out]; omega
        case rel => exact ⟨1, by omega, by go_num, hrow1, hzero1, hterm1, Hid.mk rfl, hB1⟩
      · have hp : wr.cell? ⟨gp, 1, none⟩ = some (.pointer (some ⟨g, 1, none⟩)) := by rw [blk_cell hrow]; rfl
        have hc : wr.cell? ⟨g, 1, none⟩ = some (.string t.account) := by rw [blk_cell hterm]; rfl
        have hf := blk_frozen hterm 1
        have H3 := Hid.mk (And.intro hrow (And.intro hzero hterm))
        clear hrow hzero hterm
        go_wp2_with (fail)
        refine own_calls ⟨g, 1, none⟩ t.account _ _ HT.out.2.1 hc hf ?_
        intro w1 hb1
        have hterm1 := (TermAt.below H3.out.2.2 hb1).again t.account (j := 1) rfl
        have hrow1 : (w1.setCell ⟨g, 1, none⟩ (.string t.account)).heap[gp]? = some (.cells (rowP g) 67 (0, 0)) := blk_far ((Keep.of_below hb1).heap H3.out.1 (fun h => h)) (show gp ≠ g from HG.out.2.2.1) _
        have hzero1 : TermAt (w1.setCell ⟨g, 1, none⟩ (.string t.account)) gz zeroT := blk_far (TermAt.below H3.out.2.1 hb1) (show gz ≠ g from HG.out.2.2.2) _
        have hB1 : Below w.heap.size w (w1.setCell ⟨g, 1, none⟩ (.string t.account)) := (below_then HB hb1).setCell (show w.heap.size ≤ g from HG.out.1) _
        clear hp hc hf
        go_wp2_with (fail)
        go_roundg 5
        case measure => rw [HGG.out]; omega
        case rel => exact ⟨2, by omega, by go_num, hrow1, hzero1, hterm1, Hid.mk rfl, hB1⟩
      · have hp : wr.cell? ⟨gp, 2, none⟩ = some (.pointer (some ⟨g, 2, none⟩)) := by rw [blk_cell hrow]; rfl
        have hc : wr.cell? ⟨g, 2, none⟩ = some (.string t.money) := by rw [blk_cell hterm]; rfl
        have hf := blk_frozen hterm 2
        have H3 := Hid.mk (And.intro hrow (And.intro hzero hterm))
        clear hrow hzero hterm
        go_wp2_with (fail)
        refine own_calls ⟨g, 2, none⟩ t.money _ _ HT.out.2.2.1 hc hf ?_
        intro w1 hb1
        have hterm1 := (TermAt.below H3.out.2.2 hb1).again t.money (j := 2) rfl
        have hrow1 : (w1.setCell ⟨g, 2, none⟩ (.string t.money)).heap[gp]? = some (.cells (rowP g) 67 (0, 0)) := blk_far ((Keep.of_below hb1).heap H3.out.1 (fun h => h)) (show gp ≠ g from HG.out.2.2.1) _
        have hzero1 : TermAt (w1.setCell ⟨g, 2, none⟩ (.string t.money)) gz zeroT := blk_far (TermAt.below H3.out.2.1 hb1) (show gz ≠ g from HG.out.2.2.2) _
        have hB1 : Below w.heap.size w (w1.setCell ⟨g, 2, none⟩ (.string t.money)) := (below_then HB hb1).setCell (show w.heap.size ≤ g from HG.out.1) _
        clear hp hc hf
        go_wp2_with (fail)
        go_roundg 4
        case measure => rw [HGG.out]; omega
        case rel => exact ⟨3, by omega, by go_num, hrow1, hzero1, hterm1, Hid.mk rfl, hB1⟩
      · have hp : wr.cell? ⟨gp, 3, none⟩ = some (.pointer (some ⟨g, 3, none⟩)) := by rw [blk_cell hrow]; rfl
        have hc : wr.cell? ⟨g, 3, none⟩ = some (.string t.other) := by rw [blk_cell hterm]; rfl
        have hf := blk_frozen hterm 3
        have H3 := Hid.mk (And.intro hrow (And.intro hzero hterm))
        clear hrow hzero hterm
        go_wp2_with (fail)
        refine own_calls ⟨g, 3, none⟩ t.other _ _ HT.out.2.2.2.1 hc hf ?_
        intro w1 hb1
        have hterm1 := (TermAt.below H3.out.2.2 hb1).again t.other (j := 3) rfl
        have hrow1 : (w1.setCell ⟨g, 3, none⟩ (.string t.other)).heap[gp]? = some (.cells (rowP g) 67 (0, 0)) := blk_far ((Keep.of_below hb1).heap H3.out.1 (fun h => h)) (show gp ≠ g from HG.out.2.2.1) _
        have hzero1 : TermAt (w1.setCell ⟨g, 3, none⟩ (.string t.other)) gz zeroT := blk_far (TermAt.below H3.out.2.1 hb1) (show gz ≠ g from HG.out.2.2.2) _
        have hB1 : Below w.heap.size w (w1.setCell ⟨g, 3, none⟩ (.string t.other)) := (below_then HB hb1).setCell (show w.heap.size ≤ g from HG.out.1) _
        clear hp hc hf
        go_wp2_with (fail)
        go_roundg 3
        case measure => rw [HGG.out]; omega
        case rel => exact ⟨4, by omega, by go_num, hrow1, hzero1, hterm1, Hid.mk rfl, hB1⟩
      · have hp : wr.cell? ⟨gp, 4, none⟩ = some (.pointer (some ⟨g, 5, none⟩)) := by rw [blk_cell hrow]; rfl
        have hc : wr.cell? ⟨g, 5, none⟩ = some (.string t.asset) := by rw [blk_cell hterm]; rfl
        have hf := blk_frozen hterm 5
        have H3 := Hid.mk (And.intro hrow (And.intro hzero hterm))
        clear hrow hzero hterm
        go_wp2_with (fail)
        refine own_calls ⟨g, 5, none⟩ t.asset _ _ HT.out.2.2.2.2.1 hc hf ?_
        intro w1 hb1
        have hterm1 := (TermAt.below H3.out.2.2 hb1).again t.asset (j := 5) rfl
        have hrow1 : (w1.setCell ⟨g, 5, none⟩ (.string t.asset)).heap[gp]? = some (.cells (rowP g) 67 (0, 0)) := blk_far ((Keep.of_below hb1).heap H3.out.1 (fun h => h)) (show gp ≠ g from HG.out.2.2.1) _
        have hzero1 : TermAt (w1.setCell ⟨g, 5, none⟩ (.string t.asset)) gz zeroT := blk_far (TermAt.below H3.out.2.1 hb1) (show gz ≠ g from HG.out.2.2.2) _
        have hB1 : Below w.heap.size w (w1.setCell ⟨g, 5, none⟩ (.string t.asset)) := (below_then HB hb1).setCell (show w.heap.size ≤ g from HG.out.1) _
        clear hp hc hf
        go_wp2_with (fail)
        go_roundg 2
        case measure => rw [HGG.out]; omega
        case rel => exact ⟨5, by omega, by go_num, hrow1, hzero1, hterm1, Hid.mk rfl, hB1⟩
      · have hp : wr.cell? ⟨gp, 5, none⟩ = some (.pointer (some ⟨g, 6, none⟩)) := by rw [blk_cell hrow]; rfl
        have hc : wr.cell? ⟨g, 6, none⟩ = some (.string t.ccy) := by rw [blk_cell hterm]; rfl
        have hf := blk_frozen hterm 6
        have H3 := Hid.mk (And.intro hrow (And.intro hzero hterm))
        clear hrow hzero hterm
        go_wp2_with (fail)
        refine own_calls ⟨g, 6, none⟩ t.ccy _ _ HT.out.2.2.2.2.2.1 hc hf ?_
        intro w1 hb1
        have hterm1 := (TermAt.below H3.out.2.2 hb1).again t.ccy (j := 6) rfl
        have hrow1 : (w1.setCell ⟨g, 6, none⟩ (.string t.ccy)).heap[gp]? = some (.cells (rowP g) 67 (0, 0)) := blk_far ((Keep.of_below hb1).heap H3.out.1 (fun h => h)) (show gp ≠ g from HG.out.2.2.1) _
        have hzero1 : TermAt (w1.setCell ⟨g, 6, none⟩ (.string t.ccy)) gz zeroT := blk_far (TermAt.below H3.out.2.1 hb1) (show gz ≠ g from HG.out.2.2.2) _
        have hB1 : Below w.heap.size w (w1.setCell ⟨g, 6, none⟩ (.string t.ccy)) := (below_then HB hb1).setCell (show w.heap.size ≤ g from HG.out.1) _
        clear hp hc hf
        go_wp2_with (fail)
        go_roundg 1
        case measure => rw [HGG.out]; omega
        case rel => exact ⟨6, by omega, by go_num, hrow1, hzero1, hterm1, Hid.mk rfl, hB1⟩
      · have hp : wr.cell? ⟨gp, 6, none⟩ = some (.pointer (some ⟨g, 7, none⟩)) := by rw [blk_cell hrow]; rfl
        have hc : wr.cell? ⟨g, 7, none⟩ = some (.string t.ref) := by rw [blk_cell hterm]; rfl
        have hf := blk_frozen hterm 7
        have H3 := Hid.mk (And.intro hrow (And.intro hzero hterm))
        clear hrow hzero hterm
        go_wp2_with (fail)
        refine own_calls ⟨g, 7, none⟩ t.ref _ _ HT.out.2.2.2.2.2.2 hc hf ?_
        intro w1 hb1
        have hterm1 := (TermAt.below H3.out.2.2 hb1).again t.ref (j := 7) rfl
        have hrow1 : (w1.setCell ⟨g, 7, none⟩ (.string t.ref)).heap[gp]? = some (.cells (rowP g) 67 (0, 0)) := blk_far ((Keep.of_below hb1).heap H3.out.1 (fun h => h)) (show gp ≠ g from HG.out.2.2.1) _
        have hzero1 : TermAt (w1.setCell ⟨g, 7, none⟩ (.string t.ref)) gz zeroT := blk_far (TermAt.below H3.out.2.1 hb1) (show gz ≠ g from HG.out.2.2.2) _
        have hB1 : Below w.heap.size w (w1.setCell ⟨g, 7, none⟩ (.string t.ref)) := (below_then HB hb1).setCell (show w.heap.size ≤ g from HG.out.1) _
        clear hp hc hf
        go_wp2_with (fail)
        go_roundg 0
        case measure => rw [HGG.out]; omega
        case rel => exact ⟨7, by omega, by go_num, hrow1, hzero1, hterm1, Hid.mk rfl, hB1⟩
    · obtain rfl : k = 7 := by omega
      obtain ⟨a0, a1, a2, a3, a4, a5, a6, a7, a8, a9, a10, a11⟩ := cells12 hterm
      obtain ⟨c0, c1, c2, c3, c4, c5, c6, c7, c8, c9, c10, c11⟩ := cells12 hzero
      have fz := fun j => blk_frozen hzero j
      have HZ := Hid.mk hzero
      clear hrow hzero hterm
      go_wp2_with (fail)
      refine bodyPost_ret (v := t.val) (ret_term rfl rfl (term_all HZ.out t)) rfl ?_
      exact HR.out _ (term_below HB HG.out.2.1 t)
end Go.Proofs.Yteecekijekegdaa
