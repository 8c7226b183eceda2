/- The walk of the reference's Digits: the same digits. -/
import Derived.Test.YtalgnpgpbbjgpaaBg
import Derived.Test.YtalgnpgpbbjgpaaPa
import Derived.Laws.AppendOwnNone
namespace Go.Proofs.Ytalgnpgpbbjgpaa
open Go.RowKit

def u8s (l : List UInt8) : List Value := l.map fun c => .int .u8 (c.toNat : Int)

/-- A row of bytes of the call's own, as a string. -/
theorem conv_own {W : World} {base : Nat} {v : Value} {tail : List UInt8} (h : W.ownsRow base 5 1 v tail.length (u8s tail)) (hp : 0 < tail.length) :
    (convert 66 9 v).run Try.prog W = .ok (.string ⟨tail.toArray⟩) W := by
  obtain ⟨_, h | ⟨g, cap, cur, rfl, hb, hg, hc, hm, hs, ht⟩⟩ := h
  · omega
  rw [Nat.mul_one] at ht hs
  have hr : ∀ i, i < tail.length → W.cell? ⟨g, 0 + i, none⟩ = some (.int .u8 ((tail.getD i 0).toNat : Int)) := by
    intro i hi
    rw [blk_cell hg]
    have h1 : (cur.toList.take tail.length)[i]? = (u8s tail)[i]? := by rw [ht]
    rw [List.getElem?_take_of_lt hi] at h1
    unfold u8s at h1
    rw [List.getElem?_map, List.getElem?_eq_getElem hi] at h1
    rw [Nat.zero_add, ← Array.getElem?_toList, h1]
    simp [List.getD_eq_getElem?_getD, hi]
  have := run_convert_bytes_arg (P := Try.prog) W 66 5 Try.underlying66 Try.underlying5 g 0 tail.length cap (tail.map fun c => (c.toNat : Int)) (by simp)
    (fun i hi => by rw [hr i (by omega)]; simp [List.getD_eq_getElem?_getD, show i < tail.length by omega]) 9 Try.underlying9
  rw [this]
  congr 2
  unfold strOfNums
  rw [List.map_map]
  congr 2
  conv => rhs; rw [← List.map_id tail]
  exact List.map_congr_left fun c _ => by simp

theorem info5 : (Try.prog.info? 5).map (fun i => (i.zero, i.size, i.bytes)) = some (some (.int .u8 0), 1, 1) := by kernel_rfl

/-- append([]byte{c}, b...): a row of the call's own. -/
theorem wpList_prepend {ops : Array Oper} {rest : List Oper} {o : Oper} {a : Act} {Q : Exit → Act → World → Prop} (hgd : o.guard = none) (s x : Operand)
    (ho : o.op = .call { callee := .builtin .append, args := #[s, x], argTypes := #[66, 66] }) (wr : World) (base : Nat) (c : Value) (vb : Value) (n : Nat) (ys : List Value)
    (hO : wr.ownsRow base 5 1 vb n ys) (hb : base ≤ wr.heap.size) (hn : n ≤ 100) (hys : ∀ u ∈ ys, u.oneCell' = true)
    (hs : a.eval s = .slice (some ⟨wr.heap.size, 0, none⟩) 1 1) (hx : a.eval x = vb)
    (h : ∀ v' w', w'.ownsRow base 5 1 v' (n + 1) (c :: ys) → Below base wr w' → wpList Try.prog ops Q rest (a.put o.dst v') w') :
    wpList Try.prog ops Q (o :: rest) a (wr.alloc (.cells #[c] 5)) := by
  obtain ⟨i0, hi, hz0, hz1, hz2⟩ := info_parts info5
  have hA : Below base wr (wr.alloc (.cells #[c] 5)) := (Below.refl base wr).alloc hb _
  have hS : (wr.alloc (.cells #[c] 5)).ownsRow base 5 1 (.slice (some ⟨wr.heap.size, 0, none⟩) 1 1) 1 [c] :=
    ⟨rfl, .inr ⟨wr.heap.size, 1, #[c], rfl, hb, heap_alloc_new wr _, Nat.le_refl _, by simp [maxLen], rfl, rfl⟩⟩
  have hO2 := hO
  obtain ⟨hl, ⟨rfl, rfl⟩ | ⟨g, cap, cur, rfl, hbg, hg, hnc, hm, hsz, ht⟩⟩ := hO2
  · obtain rfl : ys = [] := List.eq_nil_of_length_eq_zero (by simpa using hl)
    exact wpList_append_own_none hgd s x 66 ho base 5 i0 1 Try.underlying66 hi _ 1 [c] hs hS hx (by rw [← hs] at hS ⊢; exact h _ _ hS hA)
  · refine wpList_append_own _ hgd s x 66 ho base 5 i0 (.int .u8 0) 1 1 Try.underlying66 hi hz0 hz1 hz2 rfl (by decide) _ 1 [c] hs hS ⟨g, 0, none⟩ n cap ys hx hl ?_ hys (by unfold maxLen; omega) (by omega) (by simp; omega) ?_
    · intro j u hj
      have hlt : g < wr.heap.size := by
        rcases Nat.lt_or_ge g wr.heap.size with h1 | h1
        · exact h1
        · rw [Array.getElem?_eq_none h1] at hg; cases hg
      rw [Go.WideShapes.add_plain]
      have hj2 : j < ys.length := by
        rcases Nat.lt_or_ge j ys.length with h1 | h1
        · exact h1
        · rw [List.getElem?_eq_none h1] at hj; cases hj
      have hg2 : (wr.alloc (.cells #[c] 5)).heap[g]? = some (.cells cur 5 (0, 0)) := by rw [Below.heap_alloc _ _ _ hlt]; exact hg
      rw [blk_cell hg2, Nat.zero_add]
      have h1 : (cur.toList.take (n * 1))[j]? = ys[j]? := by rw [ht]
      rw [List.getElem?_take_of_lt (by omega)] at h1
      rw [← Array.getElem?_toList, h1, hj]
    · intro v' w' h1 h2 _
      refine h v' w' ?_ ?_
      · rw [Nat.add_comm n 1]; exact h1
      · exact hA.grown h2 (by simp; omega) (fun k hk => by simp [Value.ownBlock] at hk; omega)

theorem u8s_one (l : List UInt8) : ∀ u ∈ u8s l, u.oneCell' = true := by
  intro u hu
  unfold u8s at hu
  obtain ⟨c, _, rfl⟩ := List.mem_map.1 hu
  rfl

set_option maxHeartbeats 1000000 in
theorem rdigits_calls (v : Int) (w : World) (R : Ending → World → Prop) (hv : I64 v) (hR : ∀ w', Below w.heap.size w w' → R (.returned (.string ⟨(digits v).toArray⟩)) w') :
    Calls Try.prog 31 #[.int .i64 v] w R := by
  have HR := Hid.mk hR
  obtain ⟨hv1, hv2⟩ := hv
  clear hR
  by_cases h0 : v = 0
  · subst h0
    have HR2 := HR.out w (Below.refl _ _)
    rw [show digits 0 = [48] by simp [digits, dig_small]] at HR2
    replace HR2 := Hid.mk HR2
    clear HR
    go_enter Try.func31, Try.ntmps31
    go_wp2_with (fail)
    exact HR2.out
  · have h0' : (v == 0) = false := by simpa using h0
    have H0 := Hid.mk h0
    clear h0
    go_enter Try.func31, Try.ntmps31
    go_wp2_with (fail)
    go_loopg [3, 4, 5] v.natAbs (fun gg vb vu vd wr => ∃ (u : Int) (tail : List UInt8), vu = .int .i64 u ∧ -9223372036854775808 ≤ u ∧ u ≤ 9223372036854775807 ∧ Hid ((u = 0 ∧ tail = dig v.natAbs) ∨ (u ≠ 0 ∧ dig v.natAbs = dig u.natAbs ++ tail)) ∧ tail.length ≤ 20 ∧ wr.ownsRow w.heap.size 5 1 vb tail.length (u8s tail) ∧ Hid (gg = u.natAbs) ∧ Below w.heap.size w wr)
    case atStart => exact ⟨v, [], rfl, hv1, hv2, Hid.mk (.inr ⟨H0.out, by simp⟩), by simp, World.ownsRow_nil _ _ _ _, Hid.mk rfl, Below.refl _ _⟩
    case round =>
      obtain ⟨u, tail, rfl, hu1, hu2, HD, hlen, HO, HGG, HB⟩ := hrel
      by_cases hu0 : u = 0
      · subst hu0
        have hd : tail = dig v.natAbs := by
          rcases HD.out with ⟨_, h⟩ | ⟨h, _⟩
          · exact h
          · exact absurd rfl h
        have hp : 0 < tail.length := by rw [hd]; exact dig_pos _
        have HDD := Hid.mk hd
        clear HD HGG hd
        by_cases hneg : v < 0
        · have hdg : digits v = 45 :: tail := by unfold digits; rw [if_pos hneg, HDD.out]
          have HDG := Hid.mk hdg
          have hsz := HB.size
          clear hdg hsz
          go_wp2_with (at_builtin; refine wpList_prepend rfl (.tmp 27) (.tmp 28) rfl wr w.heap.size (.int .u8 45) _ tail.length (u8s tail) HO HB.size (by omega) (u8s_one tail) rfl rfl ?_; intro v1 w1 hO1 hb1; have e3 := conv_own (tail := 45 :: tail) hO1 (by simp))
          have HR2 := HR.out _ (HB.trans hb1)
          rw [HDG.out] at HR2
          exact HR2
        · have hdg : digits v = tail := by unfold digits; rw [if_neg hneg, HDD.out]
          have e3 := conv_own HO hp
          have HDG := Hid.mk hdg
          clear hdg
          go_wp2_with (fail)
          have HR2 := HR.out _ HB
          rw [HDG.out] at HR2
          exact HR2
      · have hu0' : (u == 0) = false := by simpa using hu0
        obtain ⟨d, hd⟩ : ∃ d, d = u.natAbs % 10 := ⟨_, rfl⟩
        have hdr : (0 ≤ u ∧ u.tmod 10 = (d : Int)) ∨ (u < 0 ∧ u.tmod 10 = -(d : Int)) := by
          by_cases h : 0 ≤ u
          · left
            refine ⟨h, ?_⟩
            rw [Int.tmod_eq_emod_of_nonneg h, hd]
            omega
          · right
            refine ⟨by omega, ?_⟩
            have e1 : u = -((-u)) := by omega
            rw [e1, Int.neg_tmod, Int.tmod_eq_emod_of_nonneg (by omega), hd]
            omega
        have hdq : (u.tdiv 10).natAbs = u.natAbs / 10 ∧ -9223372036854775808 ≤ u.tdiv 10 ∧ u.tdiv 10 ≤ 9223372036854775807 := by
          have h1 : (u.tdiv 10).natAbs = u.natAbs / 10 := by rw [Int.natAbs_tdiv]; rfl
          exact ⟨h1, by omega, by omega⟩
        have hd9 : d ≤ 9 := by omega
        have hlen18 : tail.length ≤ 18 := by
          rcases HD.out with ⟨h, _⟩ | ⟨_, h⟩
          · exact absurd h hu0
          · have h1 := dig_pos u.natAbs
            have h2 := dig_19 v.natAbs (by omega)
            rw [h, List.length_append] at h2
            omega
        have HDC := Hid.mk hd
        have HQ := Hid.mk hdq
        have HU := Hid.mk hu0
        clear hd hdq hu0
        go_upto_if 16 with (fail)
        go_cut [5] (fun v5 wc => v5 = .int .i64 d ∧ wc = wr)
        case first =>
          rcases hdr with ⟨_, h2⟩ | ⟨_, h2⟩
          · have hr : ¬ u.tmod 10 < 0 := by omega
            go_wp2_with (fail)
            go_meet
            case rel => exact ⟨by first | rfl | (congr 1; done) | (congr 1; omega), rfl⟩
          · by_cases hr : u.tmod 10 < 0
            · have hr3 : IntKind.i64.wrap (-(u.tmod 10)) = -(u.tmod 10) := by rw [IntKind.wrap_i64]; omega
              go_wp2_with (fail)
              go_meet
              case rel => exact ⟨by first | rfl | (congr 1; done) | (congr 1; omega), rfl⟩
            · go_wp2_with (fail)
              go_meet
              case rel => exact ⟨by first | rfl | (congr 1; done) | (congr 1; omega), rfl⟩
        case rest =>
          obtain ⟨rfl, rfl⟩ := hcut
          obtain ⟨c, hc⟩ : ∃ c : UInt8, c = UInt8.ofNat (48 + d) := ⟨_, rfl⟩
          have hcn : (c.toNat : Int) = 48 + (d : Int) := by
            rw [hc]
            have : (UInt8.ofNat (48 + d)).toNat = 48 + d := by
              rw [UInt8.toNat_ofNat']; omega
            rw [this]; omega
          have HC := Hid.mk hcn
          have HCE := Hid.mk hc
          have hd9' : (d : Int) ≤ 9 := by omega
          clear hcn hc hdr
          go_wp2_with (at_builtin; refine wpList_prepend rfl (.tmp 22) (.tmp 23) rfl wc w.heap.size (.int .u8 (48 + (d : Int))) _ tail.length (u8s tail) HO HB.size (by omega) (u8s_one tail) rfl rfl ?_; intro v1 w1 hO1 hb1)
          go_roundg (u.natAbs / 10)
          case measure => rw [HGG.out]; have := HU.out; omega
          case rel =>
            refine ⟨u.tdiv 10, c :: tail, rfl, HQ.out.2.1, HQ.out.2.2, Hid.mk ?_, by simp; omega, ?_, Hid.mk HQ.out.1.symm, HB.trans hb1⟩
            · have hD : dig v.natAbs = dig u.natAbs ++ tail := by
                rcases HD.out with ⟨h, _⟩ | ⟨_, h⟩
                · exact absurd h HU.out
                · exact h
              have hq := HQ.out.1
              by_cases h10 : u.natAbs < 10
              · left
                refine ⟨by omega, ?_⟩
                rw [hD, dig_small _ h10, HCE.out, HDC.out, Nat.mod_eq_of_lt h10]
                rfl
              · right
                refine ⟨by omega, ?_⟩
                rw [hD, dig_big _ h10, hq, HCE.out, HDC.out]
                simp
            · have hcc := HC.out
              rw [← hcc] at hO1
              exact hO1
end Go.Proofs.Ytalgnpgpbbjgpaa
