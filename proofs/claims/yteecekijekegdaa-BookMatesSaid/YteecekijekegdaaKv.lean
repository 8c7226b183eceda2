/- The walk of alive: a first call whose answer is fixed: it answers true. No condition. -/
import Derived.Test.YteecekijekegdaaKu
namespace Go.Proofs.Yteecekijekegdaa
open Go.RowKit

def getE (L : List InstD) (n : Int) : Int := if n < 1 then 3 else match L[(n - 1).toNat]? with
  | none => 3
  | some _ => 0
def getX (L : List InstD) (n : Int) : InstD := if n < 1 then zeroI else match L[(n - 1).toNat]? with
  | none => zeroI
  | some x => x
theorem get_calls (B : Nat) (gb : Nat) (v : Value) (L : List InstD) (n : Int) (w : World) (R : Ending → World → Prop) (hB : BookS B w gb v L)
    (hR : ∀ w', Below w.heap.size w w' → R (.returned (.tuple #[(getX L n).val, .int .i64 (getE L n)])) w') :
    Calls Try.prog 11 #[.pointer (some ⟨gb, 0, none⟩), .int .i64 n] w R := by
  rcases pick L n with hn | ⟨k, x, rfl, hx, hk⟩
  · have e1 : getE L n = 3 := by
      unfold getE
      by_cases h1 : n < 1
      · rw [if_pos h1]
      · rw [if_neg h1, List.getElem?_eq_none (by omega)]
    have e2 : getX L n = zeroI := by
      unfold getX
      by_cases h1 : n < 1
      · rw [if_pos h1]
      · rw [if_neg h1, List.getElem?_eq_none (by omega)]
    rw [e1, e2] at hR
    exact get_none B gb v L n w R hB hn hR
  · have e1 : getE L ((k : Int) + 1) = 0 := by
      unfold getE
      rw [if_neg (by omega), show ((k : Int) + 1 - 1).toNat = k by omega, hx]
    have e2 : getX L ((k : Int) + 1) = x := by
      unfold getX
      rw [if_neg (by omega), show ((k : Int) + 1 - 1).toNat = k by omega, hx]
    rw [e1, e2] at hR
    exact get_some B gb v L k x w R hB hx hR

def e0 : ByteArray := ⟨#[]⟩
def sP : ByteArray := ⟨#[80]⟩
def sQ : ByteArray := ⟨#[81]⟩
def tP : TermD := ⟨⟨#[80]⟩, ⟨#[]⟩, ⟨#[]⟩, ⟨#[]⟩, true, ⟨#[]⟩, ⟨#[]⟩, ⟨#[]⟩, 3, 0, 0, 0⟩
def tQ : TermD := ⟨⟨#[81]⟩, ⟨#[]⟩, ⟨#[]⟩, ⟨#[]⟩, false, ⟨#[]⟩, ⟨#[]⟩, ⟨#[]⟩, 3, 0, 0, 0⟩
theorem fitP : tP.Fit := by unfold TermD.Fit tP; decide
theorem fitQ : tQ.Fit := by unfold TermD.Fit tQ; decide
def xP (st mate done paid am : Int) (wish : Bool) : InstD := ⟨1, { tP with amount := am }, 1, false, false, wish, st, mate, done, paid⟩
def xQ (n st mate done paid am : Int) (wish : Bool) : InstD := ⟨n, { tQ with amount := am }, 1, false, false, wish, st, mate, done, paid⟩
theorem a1 : addL [] tP 1 false false = [xP 0 0 0 0 0 false] := by rfl
theorem a2 : addL [xP 0 0 0 0 0 false] tQ 1 false false = [xP 0 0 0 0 0 false, xQ 2 0 0 0 0 0 false] := by rfl
theorem a3 : pairL [xP 0 0 0 0 0 false, xQ 2 0 0 0 0 0 false] 1 2 100 = [xP 1 2 0 0 100 false, xQ 2 1 1 0 0 100 false] := by rfl
theorem a4 : settleL [xP 1 2 0 0 100 false, xQ 2 1 1 0 0 100 false] 1 1 33 = [xP 2 2 1 33 100 false, xQ 2 2 1 1 33 100 false] := by rfl
theorem a5 : ∀ (k : Nat) (x : InstD), [xP 1 2 0 0 100 false, xQ 2 1 1 0 0 100 false][k]? = some x → FitX x := by
  intro k x h
  match k, h with
  | 0, h => simp at h; subst h; unfold FitX xP tP; decide
  | 1, h => simp at h; subst h; unfold FitX xQ tQ; decide
  | k + 2, h => simp at h
theorem BookAt.start {w w' : World} (h : BookAt w' w.heap.size (.slice none 0 0)) : BookS w.heap.size w' w.heap.size (.slice none 0 0) [] := ⟨h, Nat.le_refl _, World.ownsRow_nil _ _ _ _⟩
/-- What a step leaves, held against the beginning. -/
structure Old (w0 : World) (w : World) (gb : Nat) (v : Value) (L : List InstD) : Prop where
  book : BookS w0.heap.size w gb v L
  old : Below w0.heap.size w0 w
theorem Old.step {w0 w w' : World} {gb : Nat} {v : Value} {L L' : List InstD} (h : Old w0 w gb v L) (h1 : BookS w0.heap.size w' gb v L') (k : Keep (fun i => v.ownBlock = some i) w w') : Old w0 w' gb v L' :=
  ⟨h1, keep_below h.old k (fun i hi => (h.book.own.lt i hi).1)⟩
theorem Old.add {w0 w w' : World} {gb : Nat} {v v' : Value} {L L' : List InstD} (h : Old w0 w gb v L) (h1 : BookS w0.heap.size w' gb v' L') (k : Keep (fun i => i = gb ∨ v.ownBlock = some i) w w') : Old w0 w' gb v' L' :=
  ⟨h1, keep_below h.old k (fun i hi => by rcases hi with rfl | hi; exact h.book.base; exact (h.book.own.lt i hi).1)⟩
theorem Old.below {w0 w w' : World} {gb : Nat} {v : Value} {L : List InstD} (h : Old w0 w gb v L) (k : Below w.heap.size w w') : Old w0 w' gb v L := ⟨h.book.below k, below_then h.old k⟩

/-- A struct stored into a new variable: the world behind it a letter. -/
theorem wpList_var {ops : Array Oper} {rest : List Oper} {op : Oper} {a : Act} {w W : World} {Q : Exit → Act → World → Prop} (hgd : op.guard = none) (x y : Operand) (ho : op.op = .store 32 x y) (hd : op.dst = none) (z : InstD)
    (hx : a.eval x = .pointer (some ⟨w.heap.size, 0, none⟩)) (hy : a.eval y = z.val) (hW : W = w.alloc (.cells zeroI.cells.toArray 32))
    (h : ∀ w', InstAt w' w.heap.size z → Below w.heap.size w w' → wpList Try.prog ops Q rest a w') : wpList Try.prog ops Q (op :: rest) a W := by
  subst hW
  refine wpList_store_mid hgd 32 x y ho w.heap.size 0 z.cells.toArray hx hy (InstAt.there (x := zeroI) (blk_new _ _)) info32 z.one ?_
  rw [hd]
  exact h _ (InstAt.fill (x := zeroI) (blk_new _ _) z) (setCells_below (below_allocs (Below.refl _ _) _) (Nat.le_refl _) _ 0)

set_option maxHeartbeats 1000000 in
theorem alive_calls (w : World) (R : Ending → World → Prop) (hR : ∀ w', Below w.heap.size w w' → R (.returned (.bool true)) w') : Calls Try.prog 9 #[] w R := by
  have HR := Hid.mk hR
  clear hR
  obtain ⟨gb, hgb⟩ : ∃ gb, gb = w.heap.size := ⟨_, rfl⟩
  have HGB := Hid.mk hgb
  clear hgb
  go_enter Try.func9, Try.ntmps9
  go_wp2_with (fail)
  refine new_calls _ _ ?_
  intro w1 hn1 hb1
  have H1 : Hid (Old w w1 gb (.slice none 0 0) []) := Hid.mk (by rw [HGB.out]; exact ⟨hn1.start, hb1⟩)
  rw [← HGB.out]
  clear hn1 hb1
  go_wp2_with (fail)
  refine add_calls w.heap.size gb _ [] tP 1 false false _ _ H1.out.book H1.out.old.size fitP ?_
  rw [a1]
  intro w2 v2 hb2 hk2 _
  have H2 := Hid.mk (H1.out.add hb2 hk2)
  clear hb2 hk2
  rw [show addN [] 1 = 1 from rfl, show addE [] 1 = 0 from rfl]
  go_wp2_with (fail)
  refine add_calls w.heap.size gb v2 _ tQ 1 false false _ _ H2.out.book H2.out.old.size fitQ ?_
  rw [a2]
  intro w3 v3 hb3 hk3 _
  have H3 := Hid.mk (H2.out.add hb3 hk3)
  clear hb3 hk3
  rw [show addN [xP 0 0 0 0 0 false] 1 = 2 from rfl, show addE [xP 0 0 0 0 0 false] 1 = 0 from rfl]
  go_wp2_with (fail)
  refine pair_calls w.heap.size gb v3 _ 1 2 100 _ _ H3.out.book ?_
  rw [a3]
  intro w4 hb4 hk4
  have H4 := Hid.mk (H3.out.step hb4 hk4)
  clear hb4 hk4
  rw [show pairE [xP 0 0 0 0 0 false, xQ 2 0 0 0 0 0 false] 1 2 100 = 0 from rfl]
  go_wp2_with (fail)
  refine settle_calls w.heap.size gb v3 _ 1 1 33 _ _ H4.out.book a5 ?_
  rw [a4]
  intro w5 hb5 hk5
  have H5 := Hid.mk (H4.out.step hb5 hk5)
  clear hb5 hk5
  rw [show settleE [xP 1 2 0 0 100 false, xQ 2 1 1 0 0 100 false] 1 1 33 = 0 from rfl]
  go_wp2_with (fail)
  refine get_calls w.heap.size gb v3 _ 2 _ _ H5.out.book ?_
  rw [show getX [xP 2 2 1 33 100 false, xQ 2 2 1 1 33 100 false] 2 = xQ 2 2 1 1 33 100 false from rfl, show getE [xP 2 2 1 33 100 false, xQ 2 2 1 1 33 100 false] 2 = 0 from rfl]
  intro w6 hb6
  have H6 := Hid.mk (H5.out.below hb6)
  clear hb6
  obtain ⟨gz, hgz⟩ : ∃ gz, gz = w6.heap.size := ⟨_, rfl⟩
  have HGZ := Hid.mk hgz
  clear hgz
  obtain ⟨z, hz⟩ : ∃ z, z = xQ 2 2 1 1 33 100 false := ⟨_, rfl⟩
  rw [← hz]
  have HZ := Hid.mk hz
  clear hz
  go_upto_region 9 with (refine wpList_var (op := ⟨none, .store 32 (.tmp 6) (.tmp 50), _, _, _, _⟩) rfl (.tmp 6) (.tmp 50) rfl rfl z rfl rfl rfl ?_; intro w7 hi7 hb7; have HI7 : Hid (InstAt w7 gz z) := Hid.mk (by rw [HGZ.out]; exact hi7); have H7 := Hid.mk (H6.out.below hb7); rw [← HGZ.out]; clear hi7 hb7)
  have c17 : w7.cell? ⟨gz, 17, none⟩ = some (.int .i64 2) := by rw [HI7.out.cell, HZ.out]; rfl
  have c19 : w7.cell? ⟨gz, 19, none⟩ = some (.int .i64 1) := by rw [HI7.out.cell, HZ.out]; rfl
  have c20 : w7.cell? ⟨gz, 20, none⟩ = some (.int .i64 33) := by rw [HI7.out.cell, HZ.out]; rfl
  have c18 : w7.cell? ⟨gz, 18, none⟩ = some (.int .i64 1) := by rw [HI7.out.cell, HZ.out]; rfl
  have c10 : w7.cell? ⟨gz, 10, none⟩ = some (.int .i64 100) := by rw [HI7.out.cell, HZ.out]; rfl
  go_wp2_with (fail)
  exact HR.out _ H7.out.old
end Go.Proofs.Yteecekijekegdaa
