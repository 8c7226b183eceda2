/- For the laws over ops: an op in a variable of its own; the walk of Light: what it answers, if it answers yes. Plain contracts, no conditions but those that each names. -/
import Derived.Test.YteecekijekegdaaLawNone
namespace Go.Proofs.Yteecekijekegdaa
open Go.RowKit

theorem Ints.belowW {w w' : World} {A : Option Addr} {xs : List Int} (h : Ints w A xs) (k : Below w.heap.size w w') : Ints w' A xs := h.keep (Keep.of_below k) (fun _ _ _ h => h)
theorem OpD.Good.below {o : OpD} {w w' : World} (h : o.Good w) (k : Below w.heap.size w w') : o.Good w' := ⟨h.1, h.2.1, h.2.2.belowW k⟩
theorem OpD.len (o : OpD) : o.cells.length = 20 := rfl
theorem OpsAt.below {w w' : World} {A : Option Addr} {l : List OpD} (h : OpsAt w A l) (k : Below w.heap.size w w') : OpsAt w' A l := by
  refine ⟨h.1, ?_⟩
  rcases h.2 with h2 | ⟨b, off, rfl, h2⟩
  · exact .inl h2
  · refine .inr ⟨b, off, rfl, fun i o hio => ⟨(h2 i o hio).1.below k, fun j hj => ?_⟩⟩
    have hc := (h2 i o hio).2 j hj
    rw [List.getElem?_eq_getElem (by rw [OpD.len]; exact hj)] at hc ⊢
    exact (Keep.of_below k).cell hc (fun h => h)
theorem OpsAt.get {w : World} {A : Option Addr} {l : List OpD} (h : OpsAt w A l) (i : Nat) (o : OpD) (hi : l[i]? = some o) : o.Good w ∧ ∃ b off, A = some ⟨b, off, none⟩ ∧ w.rangeAt b (off + i * 20) o.cells := by
  rcases h.2 with rfl | ⟨b, off, rfl, h2⟩
  · simp at hi
  · refine ⟨(h2 i o hi).1, b, off, rfl, fun j v hv => ?_⟩
    have hj : j < 20 := by have := (List.getElem?_eq_some_iff.1 hv).1; rwa [OpD.len] at this
    rw [(h2 i o hi).2 j hj, hv]
def OpD.val (o : OpD) : Value := .agg o.cells.toArray
def zeroO : OpD := ⟨0, 0, 0, 0, zeroT, false, false, ⟨#[]⟩, [], none, 0⟩
theorem info39 : (Try.prog.info? 39).map (·.size) = some 20 := by kernel_rfl
theorem OpD.one (x : OpD) : x.cells.toArray.all (·.oneCell') = true := by simp [OpD.cells, Value.oneCell']
theorem OpIn.there {w : World} {g : Nat} {x : OpD} (h : OpIn w g x) : w.there g 0 20 := fun j hj => by
  rw [blk_cell h, Nat.zero_add, Array.getElem?_eq_getElem (by simpa [OpD.len] using hj)]
  exact ⟨rfl, blk_frozen h j⟩
theorem OpIn.fill {w : World} {g : Nat} {x : OpD} (h : OpIn w g x) (y : OpD) : OpIn (w.setCells g 0 y.cells) g y := by
  obtain ⟨c', h1, h2, h3⟩ := setCells_heap_in w g y.cells 0 _ _ _ h
  have e1 : y.cells.length = 20 := OpD.len y
  have e2 : x.cells.toArray.size = 20 := by rw [List.size_toArray, OpD.len]
  have e3 : c' = y.cells.toArray := by
   apply Array.ext_getElem?
   intro i
   rw [h3 i]
   by_cases hi : i < 20
   · rw [if_pos (by omega)]; simp
   · rw [if_neg (by omega), Array.getElem?_eq_none (by omega), Array.getElem?_eq_none (by rw [List.size_toArray, e1]; omega)]
  unfold OpIn
  rw [h1, e3]
/-- An op stored into a new variable: the world behind it a letter. -/
theorem wpList_varO {ops : Array Oper} {rest : List Oper} {op : Oper} {a : Act} {w W : World} {Q : Exit → Act → World → Prop} (hgd : op.guard = none) (x y : Operand) (ho : op.op = .store 39 x y) (hd : op.dst = none) (z : OpD)
    (hx : a.eval x = .pointer (some ⟨w.heap.size, 0, none⟩)) (hy : a.eval y = z.val) (hW : W = w.alloc (.cells zeroO.cells.toArray 39))
    (h : ∀ w', OpIn w' w.heap.size z → Below w.heap.size w w' → wpList Try.prog ops Q rest a w') : wpList Try.prog ops Q (op :: rest) a W := by
  subst hW
  refine wpList_store_mid hgd 39 x y ho w.heap.size 0 z.cells.toArray hx hy (OpIn.there (x := zeroO) (blk_new _ _)) info39 z.one ?_
  rw [hd]
  exact h _ (OpIn.fill (x := zeroO) (blk_new _ _) z) (setCells_below (below_allocs (Below.refl _ _) _) (Nat.le_refl _) _ 0)

/-- Few numbers, none beyond its ends. -/
def LightO (o : OpD) : Prop := o.l.length ≤ 60 ∧ o.c ≤ 36028797018963968 ∧ -36028797018963968 ≤ o.c ∧ o.b ≤ 36028797018963968 ∧ -36028797018963968 ≤ o.b ∧ o.t.qty ≤ 36028797018963968 ∧ -36028797018963968 ≤ o.t.qty ∧ o.t.amount ≤ 36028797018963968 ∧ -36028797018963968 ≤ o.t.amount
def LightL (l : List OpD) : Prop := l.length ≤ 200 ∧ ∀ o ∈ l, LightO o

set_option maxRecDepth 100000 in
set_option maxHeartbeats 4000000 in
theorem light_calls (l : List OpD) (A : Option Addr) (cap : Nat) (w : World) (R : Ending → World → Prop) (h : OpsAt w A l)
    (hR : ∀ w' b, Below w.heap.size w w' → (b = true → LightL l) → R (.returned (.bool b)) w') : Calls Try.prog 22 #[.slice A l.length cap] w R := by
  have HR := Hid.mk hR
  have HT := Hid.mk h
  have hl := h.1
  unfold maxLen at hl
  clear hR h
  obtain ⟨m, hm⟩ : ∃ m, m = l.length := ⟨_, rfl⟩
  rw [← hm] at hl
  rw [← hm]
  have HM := Hid.mk hm
  clear hm
  go_enter Try.func22, Try.ntmps22
  go_wp2_with (fail)
  go_loopg [3] m (fun gg vi wr => ∃ k : Nat, k ≤ m ∧ k ≤ 300 ∧ vi = .int .i64 k ∧ Hid (Below w.heap.size w wr) ∧ Hid (∀ j o, j < k → l[j]? = some o → LightO o) ∧ Hid (gg = m - k))
  case atStart => exact ⟨0, by omega, by omega, rfl, Hid.mk (Below.refl _ _), Hid.mk (by omega), Hid.mk rfl⟩
  case round =>
    obtain ⟨k, hk, hk3, rfl, HB, HL, HGG⟩ := hrel
    by_cases hlt : k < m ∧ k < 300
    · obtain ⟨h1, h2⟩ := hlt
      obtain ⟨o, ho⟩ : ∃ o, l[k]? = some o := ⟨l[k]'(by rw [← HM.out]; exact h1), by simp⟩
      obtain ⟨-, b, off, hAe, hrng⟩ := (HT.out.below HB.out).get k o ho
      subst hAe
      have HRG := Hid.mk hrng
      have HO := Hid.mk ho
      clear hrng ho
      obtain ⟨gt, hgt⟩ : ∃ g, g = wr.heap.size := ⟨_, rfl⟩
      have HGT := Hid.mk hgt
      clear hgt
      go_upto_region 5 with (first
        | (refine wpList_load_mid rfl 39 (.tmp 17) rfl b _ rfl o.cells _ HRG.out Try.underlying39 rfl info39 ?_)
        | (refine wpList_varO (op := ⟨none, .store 39 (.tmp 4) (.tmp 18), _, _, _, _⟩) rfl (.tmp 4) (.tmp 18) rfl rfl o rfl rfl rfl ?_; intro w2 hi2 hb2; have HI2 : Hid (OpIn w2 gt o) := Hid.mk (by rw [HGT.out]; exact hi2); have H2 := Hid.mk (below_then HB.out hb2); rw [← HGT.out]; clear hi2 hb2))
      have c19 : w2.cell? ⟨gt, 19, none⟩ = some (.slice o.la o.l.length o.lcap) := by rw [HI2.out.cell]; rfl
      have c3 : w2.cell? ⟨gt, 3, none⟩ = some (.int .i64 o.c) := by rw [HI2.out.cell]; rfl
      have c2 : w2.cell? ⟨gt, 2, none⟩ = some (.int .i64 o.b) := by rw [HI2.out.cell]; rfl
      have c12 : w2.cell? ⟨gt, 12, none⟩ = some (.int .i64 o.t.qty) := by rw [HI2.out.cell]; rfl
      have c13 : w2.cell? ⟨gt, 13, none⟩ = some (.int .i64 o.t.amount) := by rw [HI2.out.cell]; rfl
      obtain ⟨n, hn⟩ : ∃ n, n = o.l.length := ⟨_, rfl⟩
      obtain ⟨oc, hoc⟩ : ∃ n, n = o.c := ⟨_, rfl⟩
      obtain ⟨ob, hob⟩ : ∃ n, n = o.b := ⟨_, rfl⟩
      obtain ⟨oq, hoq⟩ : ∃ n, n = o.t.qty := ⟨_, rfl⟩
      obtain ⟨oa, hoa⟩ : ∃ n, n = o.t.amount := ⟨_, rfl⟩
      rw [← hn] at c19
      rw [← hoc] at c3
      rw [← hob] at c2
      rw [← hoq] at c12
      rw [← hoa] at c13
      have HE := Hid.mk (And.intro hn (And.intro hoc (And.intro hob (And.intro hoq hoa))))
      clear hn hoc hob hoq hoa
      by_cases e0 : 60 < n
      · have d0 : decide ((60 : Int) < (n : Int)) = true := by simp; omega
        clear e0
        go_wp2_with (fail)
        exact HR.out _ false H2.out (fun h => by cases h)
      have d0 : decide ((60 : Int) < (n : Int)) = false := by simp; omega
      by_cases e1 : 36028797018963968 < oc
      · have d1 : decide ((36028797018963968 : Int) < oc) = true := by simp; omega
        clear e0 e1
        go_wp2_with (fail)
        exact HR.out _ false H2.out (fun h => by cases h)
      have d1 : decide ((36028797018963968 : Int) < oc) = false := by simp; omega
      by_cases e2 : oc < -36028797018963968
      · have d2 : decide (oc < -36028797018963968) = true := by simp; omega
        clear e0 e1 e2
        go_wp2_with (fail)
        exact HR.out _ false H2.out (fun h => by cases h)
      have d2 : decide (oc < -36028797018963968) = false := by simp; omega
      by_cases e3 : 36028797018963968 < ob
      · have d3 : decide ((36028797018963968 : Int) < ob) = true := by simp; omega
        clear e0 e1 e2 e3
        go_wp2_with (fail)
        exact HR.out _ false H2.out (fun h => by cases h)
      have d3 : decide ((36028797018963968 : Int) < ob) = false := by simp; omega
      by_cases e4 : ob < -36028797018963968
      · have d4 : decide (ob < -36028797018963968) = true := by simp; omega
        clear e0 e1 e2 e3 e4
        go_wp2_with (fail)
        exact HR.out _ false H2.out (fun h => by cases h)
      have d4 : decide (ob < -36028797018963968) = false := by simp; omega
      by_cases e5 : 36028797018963968 < oq
      · have d5 : decide ((36028797018963968 : Int) < oq) = true := by simp; omega
        clear e0 e1 e2 e3 e4 e5
        go_wp2_with (fail)
        exact HR.out _ false H2.out (fun h => by cases h)
      have d5 : decide ((36028797018963968 : Int) < oq) = false := by simp; omega
      by_cases e6 : oq < -36028797018963968
      · have d6 : decide (oq < -36028797018963968) = true := by simp; omega
        clear e0 e1 e2 e3 e4 e5 e6
        go_wp2_with (fail)
        exact HR.out _ false H2.out (fun h => by cases h)
      have d6 : decide (oq < -36028797018963968) = false := by simp; omega
      by_cases e7 : 36028797018963968 < oa
      · have d7 : decide ((36028797018963968 : Int) < oa) = true := by simp; omega
        clear e0 e1 e2 e3 e4 e5 e6 e7
        go_wp2_with (fail)
        exact HR.out _ false H2.out (fun h => by cases h)
      have d7 : decide ((36028797018963968 : Int) < oa) = false := by simp; omega
      by_cases e8 : oa < -36028797018963968
      · have d8 : decide (oa < -36028797018963968) = true := by simp; omega
        clear e0 e1 e2 e3 e4 e5 e6 e7 e8
        go_wp2_with (fail)
        exact HR.out _ false H2.out (fun h => by cases h)
      have d8 : decide (oa < -36028797018963968) = false := by simp; omega
      have HLO : Hid (LightO o) := Hid.mk (by
        obtain ⟨q1, q2, q3, q4, q5⟩ := HE.out
        unfold LightO
        rw [← q1, ← q2, ← q3, ← q4, ← q5]
        omega)
      clear e0 e1 e2 e3 e4 e5 e6 e7 e8
      go_wp2_with (fail)
      go_roundg (m - (k + 1))
      case measure => rw [HGG.out]; omega
      case rel => exact ⟨k + 1, by omega, by omega, by go_num, H2, Hid.mk (fun j o' hj hjo => by
        rcases Nat.lt_or_ge j k with hh | hh
        · exact HL.out j o' hh hjo
        · obtain rfl : j = k := by omega
          rw [HO.out] at hjo
          injection hjo with hjo
          rw [← hjo]
          exact HLO.out), Hid.mk rfl⟩
    · by_cases h200 : m ≤ 200
      · obtain rfl : k = m := by omega
        have HY : Hid (LightL l) := Hid.mk ⟨by rw [← HM.out]; exact h200, fun o ho => by
          obtain ⟨j, hj, rfl⟩ := List.getElem_of_mem ho
          exact HL.out j _ (by rw [HM.out]; exact hj) (by simp)⟩
        clear hlt
        go_wp2_with (fail)
        exact HR.out _ _ HB.out (fun _ => HY.out)
      · have d200 : decide ((m : Int) ≤ 200) = false := by simp; omega
        have d201 : decide (m ≤ 200) = false := by simp; omega
        by_cases hkm : k < m
        · have e300 : decide ((k : Int) < 300) = false := by simp; omega
          have e301 : decide (k < 300) = false := by simp; omega
          clear hlt h200
          go_wp2_with (fail)
          exact HR.out _ _ HB.out (fun h => by simp at h)
        · clear hlt h200
          go_wp2_with (fail)
          exact HR.out _ _ HB.out (fun h => by simp at h)
end Go.Proofs.Yteecekijekegdaa
