/- The walk of a store's List of all. Plain contracts, no conditions but those that each names. -/
import Derived.Test.YteecekijekegdaaKq
import Derived.Test.YteecekijekegdaaKr
import Derived.Great.BuildSlice
namespace Go.Proofs.Yteecekijekegdaa
open Go.RowKit

/-- A struct stored: the world behind it a letter. -/
theorem wpList_store_let {P : Program} {ops : Array Oper} {rest : List Oper} {op : Oper} {a : Act} {w : World} {Q : Exit → Act → World → Prop} (hgd : op.guard = none) (ty : TypeId) (x y : Operand) (ho : op.op = .store ty x y)
    (b o : Nat) (cells : Array Value) (hx : a.eval x = .pointer (some ⟨b, o, none⟩)) (hy : a.eval y = .agg cells)
    (ht : w.there b o cells.size) (hi : (P.info? ty).map (·.size) = some cells.size) (h1 : cells.all (·.oneCell') = true)
    (h : ∀ w', w' = w.setCells b o cells.toList → wpList P ops Q rest (a.put op.dst undef) w') : wpList P ops Q (op :: rest) a w :=
  wpList_store_mid hgd ty x y ho b o cells hx hy ht hi h1 (h _ rfl)
theorem info32z : (Try.prog.info? 32).map (fun i => (i.zero, i.size, i.bytes)) = some (some zeroI.val, 21, 208) := by kernel_rfl
theorem setCells_keep {S : Nat → Prop} {a w : World} (h : Keep S a w) {g : Nat} (hg : S g ∨ a.heap.size ≤ g) (vs : List Value) : ∀ (o : Nat), Keep S a (w.setCells g o vs) := by
  induction vs generalizing w with
  | nil => exact fun _ => h
  | cons u r ih => exact fun o => ih (h.setCell (p := ⟨g, o, none⟩) hg u) (o + 1)
theorem ownsRow_keep {S : Nat → Prop} {w w' : World} {B : Nat} {e : TypeId} {size n : Nat} {v : Value} {xs : List Value} (h : w.ownsRow B e size v n xs) (k : Keep S w w') (hv : ∀ g, v.ownBlock = some g → ¬ S g) : w'.ownsRow B e size v n xs := by
  refine ⟨h.1, ?_⟩
  rcases h.2 with h2 | ⟨g, cap, cur, rfl, h3, hg, h4⟩
  · exact .inl h2
  · exact .inr ⟨g, cap, cur, rfl, h3, k.heap hg (hv g rfl), h4⟩
theorem keep_below {S : Nat → Prop} {w W W' : World} (h : Below w.heap.size w W) (k : Keep S W W') (hs : ∀ i, S i → w.heap.size ≤ i) : Below w.heap.size w W' :=
  ⟨k.os.trans h.os, k.tape.trans h.tape, k.output.trans h.output, Nat.le_trans h.size k.size, fun i hi => (k.block i (Nat.lt_of_lt_of_le hi h.size) (fun e => by have := hs i e; omega)).trans (h.block i hi)⟩
theorem ownsRow_below {w w' : World} {B : Nat} {e : TypeId} {size n : Nat} {v : Value} {xs : List Value} (h : w.ownsRow B e size v n xs) (k : Below w.heap.size w w') : w'.ownsRow B e size v n xs := ownsRow_keep h (Keep.of_below k) (fun _ _ h => h)
theorem rows_take (L : List InstD) (k : Nat) (x : InstD) (h : L[k]? = some x) : rows (L.take (k + 1)) = rows (L.take k) ++ x.cells := by
  rw [List.take_add_one, h]
  exact rows_snoc _ _
theorem news_of {w : World} {g : Nat} {x : InstD} (h : InstAt w g x) : ∀ j u, x.cells[j]? = some u → w.cell? ((⟨g, 0, none⟩ : Addr).add j) = some u := by
  have := World.news_of_block h
  simpa using this
theorem below_grown {w W W' : World} {row : Option Nat} (h : Below w.heap.size w W) (hg : W.grownBy W' row) (hr : ∀ k, row = some k → w.heap.size ≤ k) : Below w.heap.size w W' := h.grown hg h.size hr

theorem base_inst : (Array.range (1 * 21)).map (zeroI.val.cells[· % zeroI.val.cells.size]!) = zeroI.cells.toArray := by kernel_rfl
theorem fill_inst (x : InstD) : Instr.fill (fun i => some (i * 21, 21)) ((Array.range (1 * 21)).map (zeroI.val.cells[· % zeroI.val.cells.size]!)) [(0, x.val)] = some x.cells.toArray := by
  rw [base_inst]
  simp [Instr.fill, InstD.val, InstD.cells, Value.cells, zeroI, zeroT]
/-- A slice literal of one record: the new block a letter. -/
theorem wpList_lit {ops : Array Oper} {rest : List Oper} {o : Oper} {a : Act} {w : World} {Q : Exit → Act → World → Prop} (hg : o.guard = none) (x0 : Operand) (ho : o.op = .buildSlice 40 1 #[(0, x0)])
    (x : InstD) (hx : a.eval x0 = x.val) (h : ∀ gl w', InstAt w' gl x → w.heap.size ≤ gl → Below w.heap.size w w' → wpList Try.prog ops Q rest (a.put o.dst (.slice (some ⟨gl, 0, none⟩) 1 1)) w') : wpList Try.prog ops Q (o :: rest) a w := by
  obtain ⟨i0, hi0, hz0, hz1, hz2⟩ := info_parts info32z
  refine wpList_buildSlice hg 40 32 1 #[(0, x0)] ho x.cells.toArray i0 zeroI.val Try.underlying40 hi0 hz0 (by rw [hz1]; decide) (by rw [hz1]; decide) ?_ (h _ _ (blk_new _ _) (Nat.le_refl _) (below_allocs (Below.refl _ _) _))
  have e : (#[(0, x0)].map fun (i, y) => (i, a.eval y)).toList = [(0, x.val)] := by simp [hx]
  rw [e, hz1]
  exact fill_inst x
theorem oneAll (x : InstD) : ∀ u ∈ x.cells, u.oneCell' = true := fun u hu => (Array.all_eq_true_iff_forall_mem.1 x.one) u (by simpa using hu)
/-- A record appended. -/
theorem wpList_app {ops : Array Oper} {rest : List Oper} {o : Oper} {a : Act} {w : World} {Q : Exit → Act → World → Prop} (hgd : o.guard = none) (s y : Operand)
    (ho : o.op = .call { callee := .builtin .append, args := #[s, y], argTypes := #[40, 40] }) (base : Nat) (v : Value) (L : List InstD) (hs : a.eval s = v) (hown : w.ownsRow base 32 21 v L.length (rows L)) (gl : Nat) (x : InstD)
    (hx : a.eval y = .slice (some ⟨gl, 0, none⟩) 1 1) (hl : InstAt w gl x) (hlen : L.length ≤ 120) (hbase : base ≤ w.heap.size)
    (h : ∀ v' w', w'.ownsRow base 32 21 v' (L ++ [x]).length (rows (L ++ [x])) → Keep (fun i => v.ownBlock = some i) w w' → (∀ g, v'.ownBlock = some g → v.ownBlock = some g ∨ w.heap.size ≤ g) → wpList Try.prog ops Q rest (a.put o.dst v') w') : wpList Try.prog ops Q (o :: rest) a w := by
  obtain ⟨i0, hi0, hz0, hz1, hz2⟩ := info_parts info32z
  refine wpList_append_lies w hgd s y 40 ho base 32 i0 zeroI.val 21 208 Try.underlying40 hi0 hz0 hz1 hz2 rfl (by omega) v L.length (rows L) hs hown ⟨gl, 0, none⟩ 1 1 x.cells hx (InstD.len x) (news_of hl) (oneAll x) (by omega) (by simp only [maxLen]; omega) (by omega) hbase _ rfl ?_
  intro g cap w1 h1 h2 h3 h4
  refine h _ w1 (by rw [List.length_append, rows_snoc]; exact h1) ⟨h2.os, h2.tape, h2.output, h2.size, fun i hi hn => h2.block i hi (fun e => hn e.symm)⟩ ?_
  intro g' hg'
  have : g = g' := by simpa [Value.ownBlock] using hg'
  subst this
  rcases h3 with h3 | h3
  · exact .inl h3
  · exact .inr (by omega)

set_option maxHeartbeats 1000000 in
theorem list_calls (B : Nat) (gb : Nat) (v : Value) (L : List InstD) (w : World) (R : Ending → World → Prop) (hB : BookS B w gb v L) (hl : L.length ≤ 120)
    (hR : ∀ w' u, Below w.heap.size w w' → w'.ownsRow w.heap.size 32 21 u L.length (rows L) → R (.returned u) w') :
    Calls Try.prog 13 #[.pointer (some ⟨gb, 0, none⟩), .slice none 0 0] w R := by
  have HR := Hid.mk hR
  have HB := Hid.mk hB
  have hc : w.cell? ⟨gb, 0, none⟩ = some v := by rw [blk_cell hB.cell]; rfl
  clear hR
  rcases hB.form with ⟨rfl, rfl⟩ | ⟨g, hg, _⟩
  · clear hB
    go_enter Try.func13, Try.ntmps13
    go_wp2_with (fail)
    refine wp_loop_rounds 1 ?_
    rw [rounds_succ]
    go_wp2_with (fail)
    exact HR.out _ _ (Below.refl _ _) (World.ownsRow_nil _ _ _ _)
  · have HG := Hid.mk hg
    obtain ⟨cap, h1, h2, rfl⟩ := hg
    obtain ⟨i0, hi0, hz0, hz1, hz2⟩ := info_parts info32z
    obtain ⟨m, hm⟩ : ∃ m, m = L.length := ⟨_, rfl⟩
    rw [← hm] at hc hl
    have HC : Hid (m ≤ cap ∧ cap ≤ maxLen) := Hid.mk ⟨by omega, h2⟩
    have HM := Hid.mk hm
    have HI0 := Hid.mk (And.intro hi0 (And.intro hz0 (And.intro hz1 hz2)))
    clear hB h1 h2 hm hi0 hz0 hz1 hz2
    go_enter Try.func13, Try.ntmps13
    go_wp2_with (fail)
    go_loopg [5, 15] m (fun gg vv vi wr => ∃ k : Nat, k ≤ m ∧ vi = .int .i64 k ∧ Hid (wr.ownsRow w.heap.size 32 21 vv k (rows (L.take k))) ∧ Hid (Below w.heap.size w wr) ∧ Hid (gg = m - k))
    case atStart => exact ⟨0, by omega, rfl, Hid.mk (World.ownsRow_nil _ _ _ _), Hid.mk (Below.refl _ _), Hid.mk rfl⟩
    case round =>
      obtain ⟨k, hk, rfl, HO, HBe, HGG⟩ := hrel
      by_cases hlt : k < m
      · obtain ⟨x, hx⟩ : ∃ x, L[k]? = some x := ⟨L[k]'(by rw [← HM.out]; exact hlt), by simp⟩
        have HX := Hid.mk hx
        have HRG : Hid (wr.rangeAt g (k * 21) x.cells) := Hid.mk ((HB.out.below HBe.out).range HG.out hx)
        have hcap : k < cap := by have := HC.out.1; omega
        clear hx
        obtain ⟨gz, hgz⟩ : ∃ gz, gz = wr.heap.size := ⟨_, rfl⟩
        have HGZ := Hid.mk hgz
        clear hgz
        go_upto_region 8 with (first
          | (refine wpList_load_mid rfl 32 (.tmp 17) rfl g (k * 21) rfl x.cells _ HRG.out Try.underlying32 rfl info32 ?_)
          | (refine wpList_store_let (op := ⟨none, .store 32 (.tmp 7) (.tmp 18), _, _, _, _⟩) ?s1 32 (.tmp 7) (.tmp 18) ?s2 wr.heap.size 0 x.cells.toArray ?s3 ?s4 ?s5 ?s6 ?s7 ?s8
             case s1 => rfl
             case s2 => rfl
             case s3 => rfl
             case s4 => rfl
             case s5 => exact (InstAt.there (x := zeroI) (blk_new _ _))
             case s6 => exact info32
             case s7 => exact x.one
             intro w1 hw1
             have HZ : Hid (InstAt w1 gz x) := Hid.mk (by rw [hw1, HGZ.out]; exact InstAt.fill (x := zeroI) (blk_new _ _) x)
             have HK1 : Hid (Below wr.heap.size wr w1) := Hid.mk (by rw [hw1]; exact setCells_below (below_allocs (Below.refl _ _) _) (Nat.le_refl _) _ 0)
             have HO1 : Hid (w1.ownsRow w.heap.size 32 21 _ k (rows (L.take k))) := Hid.mk (ownsRow_below HO.out HK1.out)
             have HB1 : Hid (Below w.heap.size w w1) := Hid.mk (below_then HBe.out HK1.out)
             rw [← HGZ.out]
             clear hw1))
        have hlk : (L.take k).length = k := by rw [List.length_take, ← HM.out]; omega
        have HLK := Hid.mk hlk
        have HSN : Hid (L.take (k + 1) = L.take k ++ [x]) := Hid.mk (by rw [List.take_add_one, HX.out]; rfl)
        clear hlk
        go_wp2_with (first
          | (refine wpList_load_mid rfl 32 (.tmp 7) rfl gz 0 rfl x.cells _ HZ.out.range Try.underlying32 rfl info32 ?_)
          | (refine wpList_lit rfl (.tmp 29) rfl x rfl ?_
             intro gl w2 hl2 hgl hb2
             have HL2 := Hid.mk hl2
             have HO2 : Hid (w2.ownsRow w.heap.size 32 21 u5 (L.take k).length (rows (L.take k))) := Hid.mk (by rw [HLK.out]; exact ownsRow_below HO1.out hb2)
             have HB2 : Hid (Below w.heap.size w w2) := Hid.mk (below_then HB1.out hb2)
             clear hl2 hgl hb2)
          | (at_builtin
             refine wpList_app rfl (.tmp 28) (.tmp 30) rfl w.heap.size u5 (L.take k) rfl HO2.out gl x rfl HL2.out (by rw [HLK.out]; omega) HB2.out.size ?_
             intro v3 w3 ho3 hk3 _
             have HO3 : Hid (w3.ownsRow w.heap.size 32 21 v3 (k + 1) (rows (L.take (k + 1)))) := Hid.mk (by rw [HSN.out]; rw [List.length_append, HLK.out] at ho3; exact ho3)
             have HB3 : Hid (Below w.heap.size w w3) := Hid.mk (keep_below HB2.out hk3 (fun i hi => (HO2.out.lt i hi).1))
             clear ho3 hk3))
        go_roundg (m - (k + 1))
        case measure => rw [HGG.out]; omega
        case rel => exact ⟨k + 1, by omega, by go_num, HO3, HB3, Hid.mk rfl⟩
      · obtain rfl : k = m := by omega
        have HOE : Hid (wr.ownsRow w.heap.size 32 21 u5 L.length (rows L)) := Hid.mk (by have := HO.out; rw [List.take_of_length_le (by rw [HM.out]; omega)] at this; rw [← HM.out]; exact this)
        go_wp2_with (fail)
        exact HR.out _ _ HBe.out HOE.out
end Go.Proofs.Yteecekijekegdaa
