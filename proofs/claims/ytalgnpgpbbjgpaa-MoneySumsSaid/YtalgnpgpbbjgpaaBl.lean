/- The walks of the book's LentInts, SameInts and StaysInts. -/
import Derived.Test.YtalgnpgpbbjgpaaMh
import Derived.Laws.AppendOwnNone
namespace Go.Proofs.Ytalgnpgpbbjgpaa
open Go.RowKit

def i64s (l : List Int) : List Value := l.map (Value.int .i64)
theorem info3 : (Try.prog.info? 3).map (fun i => (i.zero, i.size, i.bytes)) = some (some (.int .i64 0), 1, 8) := by kernel_rfl
theorem i64s_one (l : List Int) : ∀ u ∈ i64s l, u.oneCell' = true := by
  intro u hu
  unfold i64s at hu
  obtain ⟨c, _, rfl⟩ := List.mem_map.1 hu
  rfl

theorem append_nothing (w : World) (c : Nat) : (Builtin.append_ #[27, 27] 27 #[.slice none 0 0, .slice none 0 c]).run Try.prog w = .ok (.slice none 0 0) w := by
  obtain ⟨i0, hi, hz0, hz1, hz2⟩ := info_parts info3
  simp [Builtin.append_, run_underlying Try.underlying27, sizeOf, typeInfo, hi, Builtin.lenOf, Builtin.firstCells]

/-- append([]int(nil), l...): a row of the call's own. -/
theorem wpList_copy {ops : Array Oper} {rest : List Oper} {o : Oper} {a : Act} {Q : Exit → Act → World → Prop} (hgd : o.guard = none) (hty : o.type = 27) (s x : Operand)
    (ho : o.op = .call { callee := .builtin .append, args := #[s, x], argTypes := #[27, 27] }) (w : World) (A : Option Addr) (cap : Nat) (xs : List Int)
    (HI : Ints w A xs) (hl : xs.length ≤ 17592186044416)
    (hs : a.eval s = .slice none 0 0) (hx : a.eval x = .slice A xs.length cap)
    (h : ∀ v' w', w'.ownsRow w.heap.size 3 1 v' xs.length (i64s xs) → Below w.heap.size w w' → wpList Try.prog ops Q rest (a.put o.dst v') w') :
    wpList Try.prog ops Q (o :: rest) a w := by
  obtain ⟨i0, hi, hz0, hz1, hz2⟩ := info_parts info3
  have hN := World.ownsRow_nil w w.heap.size 3 1
  obtain ⟨hm, HI⟩ := HI
  have some_case : ∀ ad : Addr, A = some ad → (∀ j u, (i64s xs)[j]? = some u → w.cell? (ad.add j) = some u) → wpList Try.prog ops Q (o :: rest) a w := by
    intro ad hA hn
    subst hA
    refine wpList_append_own _ hgd s x 27 ho w.heap.size 3 i0 (.int .i64 0) 1 8 Try.underlying27 hi hz0 hz1 hz2 rfl (by decide) _ 0 [] hs hN ad xs.length cap (i64s xs) hx (by simp [i64s]) hn (i64s_one xs) (by omega) (by omega) (Nat.le_refl _) ?_
    intro v' w' h1 h2 _
    rw [Nat.zero_add, List.nil_append] at h1
    exact h v' w' h1 ((Below.refl _ _).grown h2 (Nat.le_refl _) (fun k hk => by simp [Value.ownBlock] at hk))
  rcases HI with rfl | ⟨b, off, rfl, hc⟩
  · cases A with
    | some ad => exact some_case ad rfl (fun j u hj => by simp [i64s] at hj)
    | none =>
      refine wpList_plain hgd fun K hK => ?_
      have hrun := append_nothing w cap
      rw [List.length_nil] at hx
      unfold Oper.wp
      simp [execOp, ho, hty, resolve, invoke, builtin, hs, hx, hrun, Result.andThen]
      exact hK _ _ (h _ _ hN (Below.refl _ _))
  · refine some_case _ rfl (fun j u hj => ?_)
    have hj2 : j < xs.length := by
      rcases Nat.lt_or_ge j xs.length with h1 | h1
      · exact h1
      · rw [List.getElem?_eq_none (by simpa [i64s] using h1)] at hj; cases hj
    rw [Go.WideShapes.add_plain, hc j hj2, ← hj]
    simp [i64s, List.getD_eq_getElem?_getD, hj2]

/-- A list that was lent: the mark stands behind it. -/
def LentAt (w : World) (g cap : Nat) (xs : List Int) : Prop :=
  ∃ cur, w.heap[g]? = some (.cells cur 3 (0, 0)) ∧ xs.length + 1 ≤ cap ∧ cap ≤ maxLen ∧ cur.toList.take (xs.length + 1) = i64s (xs ++ [-77])
theorem LentAt.keep {S : Nat → Prop} {w w' : World} {g cap : Nat} {xs : List Int} (h : LentAt w g cap xs) (k : Keep S w w') (hn : ¬ S g) : LentAt w' g cap xs := by
  obtain ⟨cur, h1, h2, h3, h4⟩ := h
  exact ⟨cur, k.heap h1 hn, h2, h3, h4⟩
theorem LentAt.below {w w' : World} {g cap : Nat} {xs : List Int} (h : LentAt w g cap xs) (k : Below w.heap.size w w') : LentAt w' g cap xs := h.keep (Keep.of_below k) (fun h => h)
theorem LentAt.cell {w : World} {g cap : Nat} {xs : List Int} (h : LentAt w g cap xs) (j : Nat) (hj : j < xs.length + 1) : w.cell? ⟨g, j, none⟩ = some (.int .i64 ((xs ++ [-77]).getD j 0)) := by
  obtain ⟨cur, h1, h2, h3, h4⟩ := h
  rw [blk_cell h1]
  have h5 : (cur.toList.take (xs.length + 1))[j]? = (i64s (xs ++ [-77]))[j]? := by rw [h4]
  rw [List.getElem?_take_of_lt hj] at h5
  have hj2 : j < (xs ++ [-77]).length := by simpa using hj
  unfold i64s at h5
  rw [List.getElem?_map, List.getElem?_eq_getElem hj2] at h5
  rw [← Array.getElem?_toList, h5, List.getD_eq_getElem?_getD, List.getElem?_eq_getElem hj2]
  rfl
theorem LentAt.mark {w : World} {g cap : Nat} {xs : List Int} (h : LentAt w g cap xs) : w.cell? ⟨g, xs.length, none⟩ = some (.int .i64 (-77)) := by
  rw [h.cell xs.length (by omega)]
  simp [List.getD_eq_getElem?_getD]
theorem LentAt.ints {w : World} {g cap : Nat} {xs : List Int} (h : LentAt w g cap xs) : Ints w (some ⟨g, 0, none⟩) xs := by
  have h0 := h
  obtain ⟨cur, h1, h2, h3, h4⟩ := h0
  refine ⟨by omega, .inr ⟨g, 0, rfl, fun j hj => ?_⟩⟩
  rw [Nat.zero_add, h.cell j (by omega)]
  simp [List.getD_eq_getElem?_getD, hj, List.getElem?_append_left hj]

/-- append(.., -77): the mark. -/
theorem wpList_mark {ops : Array Oper} {rest : List Oper} {o : Oper} {a : Act} {Q : Exit → Act → World → Prop} (hgd : o.guard = none) (s x : Operand)
    (ho : o.op = .call { callee := .builtin .append, args := #[s, x], argTypes := #[27, 27] }) (w1 : World) (base : Nat) (v1 : Value) (xs : List Int)
    (hO : w1.ownsRow base 3 1 v1 xs.length (i64s xs)) (hb : base ≤ w1.heap.size) (hl : xs.length ≤ 17592186044415)
    (hs : a.eval s = v1) (hx : a.eval x = .slice (some ⟨w1.heap.size, 0, none⟩) 1 1)
    (h : ∀ g c w', LentAt w' g c xs → base ≤ g → xs.length + 1 ≤ c → Below base w1 w' → wpList Try.prog ops Q rest (a.put o.dst (.slice (some ⟨g, 0, none⟩) (xs.length + 1) c)) w') :
    wpList Try.prog ops Q (o :: rest) a (w1.alloc (.cells #[.int .i64 (-77)] 3)) := by
  obtain ⟨i0, hi, hz0, hz1, hz2⟩ := info_parts info3
  have hA : Below base w1 (w1.alloc (.cells #[.int .i64 (-77)] 3)) := (Below.refl base w1).alloc hb _
  refine wpList_append_own _ hgd s x 27 ho base 3 i0 (.int .i64 0) 1 8 Try.underlying27 hi hz0 hz1 hz2 rfl (by decide) v1 xs.length (i64s xs) hs (hO.alloc _) ⟨w1.heap.size, 0, none⟩ 1 1 [.int .i64 (-77)] hx rfl (cell_one_new _ _ _) (by intro u hu; simp at hu; subst hu; rfl) (by unfold maxLen; omega) (by omega) (by simp; omega) ?_
  intro v' w' h1 h2 _
  have hB : Below base w1 w' := hA.grown h2 (by simp; omega) (fun k hk => (hO.lt k hk).1)
  rcases h1.2 with ⟨_, h0⟩ | ⟨g, cap, cur, rfl, hbg, hg, hnc, hm, hsz, ht⟩
  · omega
  · refine h g cap w' ⟨cur, hg, hnc, hm, ?_⟩ hbg hnc hB
    rw [Nat.mul_one] at ht
    rw [ht]
    simp [i64s]

set_option maxHeartbeats 1000000 in
theorem lent_calls (xs : List Int) (A : Option Addr) (cap : Nat) (w : World) (R : Ending → World → Prop) (HI : Ints w A xs) (hl : xs.length ≤ 2000)
    (hR : ∀ g c w', LentAt w' g c xs → w.heap.size ≤ g → Below w.heap.size w w' → R (.returned (.slice (some ⟨g, 0, none⟩) xs.length c)) w') :
    Calls Try.prog 22 #[.slice A xs.length cap] w R := by
  have HR := Hid.mk hR
  have HIH := Hid.mk HI
  obtain ⟨i0, hi, hz0, hz1, hz2⟩ := info_parts info3
  have HINF := Hid.mk (And.intro hi (And.intro hz0 (And.intro hz1 hz2)))
  clear hR HI hi hz0 hz1 hz2
  go_enter Try.func22, Try.ntmps22
  go_upto_region 1 with (fail)
  have hlI : (xs.length : Int) ≤ 2000 := by omega
  go_wp2_with (first
    | (at_builtin; refine wpList_copy rfl rfl (.const (.slice none 0 0)) (.tmp 3) rfl w A cap xs HIH.out (by omega) rfl rfl ?_; intro v1 w1 hO1 hb1)
    | (at_builtin; refine wpList_mark rfl (.tmp 4) (.tmp 5) rfl w1 w.heap.size v1 xs hO1 hb1.size (by omega) rfl rfl ?_; intro g1 cL w2 hL hg1 hcL hb2))
  exact HR.out g1 cL w2 hL hg1 (hb1.trans hb2)

set_option maxHeartbeats 1000000 in
theorem same_calls (xs : List Int) (A B : Option Addr) (cap cap2 : Nat) (w : World) (R : Ending → World → Prop) (HA : Ints w A xs) (HB : Ints w B xs) (hl : xs.length ≤ 2000)
    (hR : ∀ w', Below w.heap.size w w' → R (.returned (.bool true)) w') :
    Calls Try.prog 46 #[.slice A xs.length cap, .slice B xs.length cap2] w R := by
  have HR := Hid.mk hR
  have HIA := Hid.mk HA
  have HIB := Hid.mk HB
  have hl2 : (xs.length : Int) ≤ 2000 := by omega
  clear hR HA HB
  go_enter Try.func46, Try.ntmps46
  go_wp2_with (fail)
  go_loopg [5] (xs.length) (fun g vi wr => ∃ (k : Nat), k ≤ xs.length ∧ vi = .int .i64 k ∧ Hid (g = xs.length - k) ∧ Below w.heap.size w wr)
  case atStart => exact ⟨0, Nat.zero_le _, rfl, Hid.mk rfl, Below.refl _ _⟩
  case round =>
    obtain ⟨k, hk, rfl, HG, HBL⟩ := hrel
    by_cases hlt : k < xs.length
    · obtain ⟨x, hx⟩ : ∃ x, x = xs.getD k 0 := ⟨_, rfl⟩
      obtain ⟨b, off, rfl, hck⟩ := (HIA.out.below HBL).at_ k hlt
      obtain ⟨b2, off2, rfl, hck2⟩ := (HIB.out.below HBL).at_ k hlt
      rw [← hx] at hck hck2
      clear hx
      go_wp2_with (fail)
      go_quiet (fail)
      go_wp2_with (fail)
      go_roundg (xs.length - (k + 1))
      case measure => rw [HG.out]; omega
      case rel => exact ⟨k + 1, by omega, by go_num, Hid.mk rfl, below_drewN HBL _⟩
    · obtain rfl : k = xs.length := by omega
      go_wp2_with (fail)
      exact HR.out _ HBL

set_option maxHeartbeats 1000000 in
theorem stays_calls (xs : List Int) (g c : Nat) (B : Option Addr) (cap2 : Nat) (w : World) (R : Ending → World → Prop) (HA : LentAt w g c xs) (HB : Ints w B xs) (hl : xs.length ≤ 2000)
    (hR : ∀ w', Below w.heap.size w w' → R (.returned (.bool true)) w') :
    Calls Try.prog 25 #[.slice (some ⟨g, 0, none⟩) xs.length c, .slice B xs.length cap2] w R := by
  have HR := Hid.mk hR
  have HIA := Hid.mk HA
  have HIB := Hid.mk HB
  have hc : xs.length + 1 ≤ c ∧ c ≤ maxLen := by obtain ⟨cur, h1, h2, h3, h4⟩ := HA; exact ⟨h2, h3⟩
  obtain ⟨hc1, hc2⟩ := hc
  unfold maxLen at hc2
  have hl2 : (xs.length : Int) ≤ 2000 := by omega
  clear hR HA HB
  go_enter Try.func25, Try.ntmps25
  go_wp2_with (fail)
  refine same_calls xs _ B c cap2 _ _ HIA.out.ints HIB.out hl ?_
  intro w1 hb1
  have hm := (HIA.out.below hb1).mark
  go_wp2_with (fail)
  exact HR.out _ hb1
end Go.Proofs.Ytalgnpgpbbjgpaa
