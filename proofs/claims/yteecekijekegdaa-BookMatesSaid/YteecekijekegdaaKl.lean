/- The walks of a store's SetPrio, SetPart and Hold. Plain contracts, no conditions but those that each names. -/
import Derived.Test.YteecekijekegdaaKk
namespace Go.Proofs.Yteecekijekegdaa
open Go.RowKit

def setPrioL (L : List InstD) (party : ByteArray) (n p : Int) : List InstD := if mayE L party n = 0 then upd L n (fun x => { x with prio := p }) else L
def setPartL (L : List InstD) (party : ByteArray) (n : Int) (on : Bool) : List InstD := if mayE L party n = 0 then upd L n (fun x => { x with part := on }) else L
theorem setPrio_calls (B : Nat) (gb : Nat) (v : Value) (L : List InstD) (party : ByteArray) (n p : Int) (w : World) (R : Ending → World → Prop) (hB : BookS B w gb v L) (hp : 1 ≤ p ∧ p ≤ 4)
    (hR : ∀ w', BookS B w' gb v (setPrioL L party n p) → Keep (fun i => v.ownBlock = some i) w w' → R (.returned (.int .i64 (mayE L party n))) w') :
    Calls Try.prog 18 #[.pointer (some ⟨gb, 0, none⟩), .string party, .int .i64 n, .int .i64 p] w R := by
  have HR := Hid.mk hR
  have HP : Hid ((decide (1 ≤ p) && decide (p ≤ 4)) = true) := Hid.mk (by simp; omega)
  clear hp
  have HB := Hid.mk hB
  clear hR hB
  unfold setPrioL at HR
  obtain ⟨e, he⟩ : ∃ e, e = mayE L party n := ⟨_, rfl⟩
  rw [← he] at HR
  by_cases h0 : e = 0
  · obtain ⟨k, x, rfl, hx, hk, -, -, -⟩ := mayE_zero L party n (by rw [← he]; exact h0)
    rw [if_pos h0, upd_some L k x _ hx] at HR
    rcases HB.out.form with ⟨rfl, rfl⟩ | ⟨g, hg, _⟩
    · simp at hk
    · have HK := Hid.mk hk
      have HX := Hid.mk hx
      have HG := Hid.mk hg
      subst h0
      have HE := Hid.mk he
      clear hk hx hg he
      go_enter Try.func18, Try.ntmps18
      go_wp2_with (fail)
      refine may_calls B gb v L party _ _ _ HB.out ?_
      intro w1 hb1
      rw [← HE.out]
      have HB1 := Hid.mk (HB.out.below hb1)
      have HK1 := Hid.mk (HB.out.keepOf hb1)
      have c13 : w1.cell? ⟨g, k * 21 + 13, none⟩ = some (.int .i64 x.prio) := by rw [HB1.out.at_ HG.out HX.out 13 (by omega)]; rfl
      have f13 : w1.frozen? ⟨g, k * 21 + 13, none⟩ = false := HB1.out.free HG.out _
      clear hb1
      go_wp2_with (fail)
      refine prio_calls p _ _ ?_
      rw [HP.out]
      go_wp2_with (fail)
      refine at_some B gb v L k g _ _ HB1.out HK.out HG.out ?_
      go_wp2_with (fail)
      exact HR.out _ (HB1.out.put HG.out HX.out { x with prio := p } 13 (by omega) _ rfl) (keep_put HK1.out HG.out _ _)
  · rw [if_neg h0] at HR
    have h1 : (e == 0) = false := by simpa using h0
    clear h0
    have HE := Hid.mk he
    clear he
    go_enter Try.func18, Try.ntmps18
    go_wp2_with (fail)
    refine may_calls B gb v L party _ _ _ HB.out ?_
    intro w1 hb1
    rw [← HE.out]
    have HB1 := Hid.mk (HB.out.below hb1)
    have HK1 := Hid.mk (HB.out.keepOf hb1)
    clear hb1
    go_wp2_with (fail)
    exact HR.out _ HB1.out HK1.out
theorem setPart_calls (B : Nat) (gb : Nat) (v : Value) (L : List InstD) (party : ByteArray) (n : Int) (on : Bool) (w : World) (R : Ending → World → Prop) (hB : BookS B w gb v L)
    (hR : ∀ w', BookS B w' gb v (setPartL L party n on) → Keep (fun i => v.ownBlock = some i) w w' → R (.returned (.int .i64 (mayE L party n))) w') :
    Calls Try.prog 19 #[.pointer (some ⟨gb, 0, none⟩), .string party, .int .i64 n, .bool on] w R := by
  have HR := Hid.mk hR
  have HB := Hid.mk hB
  clear hR hB
  unfold setPartL at HR
  obtain ⟨e, he⟩ : ∃ e, e = mayE L party n := ⟨_, rfl⟩
  rw [← he] at HR
  by_cases h0 : e = 0
  · obtain ⟨k, x, rfl, hx, hk, -, -, -⟩ := mayE_zero L party n (by rw [← he]; exact h0)
    rw [if_pos h0, upd_some L k x _ hx] at HR
    rcases HB.out.form with ⟨rfl, rfl⟩ | ⟨g, hg, _⟩
    · simp at hk
    · have HK := Hid.mk hk
      have HX := Hid.mk hx
      have HG := Hid.mk hg
      subst h0
      have HE := Hid.mk he
      clear hk hx hg he
      go_enter Try.func19, Try.ntmps19
      go_wp2_with (fail)
      refine may_calls B gb v L party _ _ _ HB.out ?_
      intro w1 hb1
      rw [← HE.out]
      have HB1 := Hid.mk (HB.out.below hb1)
      have HK1 := Hid.mk (HB.out.keepOf hb1)
      have c14 : w1.cell? ⟨g, k * 21 + 14, none⟩ = some (.bool x.part) := by rw [HB1.out.at_ HG.out HX.out 14 (by omega)]; rfl
      have f14 : w1.frozen? ⟨g, k * 21 + 14, none⟩ = false := HB1.out.free HG.out _
      clear hb1
      go_wp2_with (fail)
      refine at_some B gb v L k g _ _ HB1.out HK.out HG.out ?_
      go_wp2_with (fail)
      exact HR.out _ (HB1.out.put HG.out HX.out { x with part := on } 14 (by omega) _ rfl) (keep_put HK1.out HG.out _ _)
  · rw [if_neg h0] at HR
    have h1 : (e == 0) = false := by simpa using h0
    clear h0
    have HE := Hid.mk he
    clear he
    go_enter Try.func19, Try.ntmps19
    go_wp2_with (fail)
    refine may_calls B gb v L party _ _ _ HB.out ?_
    intro w1 hb1
    rw [← HE.out]
    have HB1 := Hid.mk (HB.out.below hb1)
    have HK1 := Hid.mk (HB.out.keepOf hb1)
    clear hb1
    go_wp2_with (fail)
    exact HR.out _ HB1.out HK1.out

/-- The first reason why a party may not. -/
def holdE (L : List InstD) (party : ByteArray) (l : List Int) : Int := match l.find? (fun n => mayE L party n != 0) with
  | some n => mayE L party n
  | none => 0
def heldL (L : List InstD) (on : Bool) (l : List Int) : List InstD := l.foldl (fun L n => upd L n (fun x => { x with held := on })) L
def holdL (L : List InstD) (party : ByteArray) (on : Bool) (l : List Int) : List InstD := if holdE L party l = 0 then heldL L on l else L
theorem holdE_zero (L : List InstD) (party : ByteArray) (l : List Int) (h : ∀ j, j < l.length → mayE L party (l.getD j 0) = 0) : holdE L party l = 0 := by
  unfold holdE
  have : l.find? (fun n => mayE L party n != 0) = none := by
    rw [List.find?_eq_none]
    intro n hn
    obtain ⟨j, hj, rfl⟩ := List.getElem_of_mem hn
    have := h j hj
    simp only [List.getD_eq_getElem?_getD, List.getElem?_eq_getElem hj, Option.getD_some] at this
    simp [this]
  rw [this]
theorem holdE_first (L : List InstD) (party : ByteArray) (l : List Int) (k : Nat) (hk : k < l.length) (h : ∀ j, j < k → mayE L party (l.getD j 0) = 0) (hne : mayE L party (l.getD k 0) ≠ 0) : holdE L party l = mayE L party (l.getD k 0) := by
  unfold holdE
  have : l.find? (fun n => mayE L party n != 0) = some (l.getD k 0) := by
    rw [List.find?_eq_some_iff_getElem]
    refine ⟨by simpa using hne, k, hk, by simp [List.getD_eq_getElem?_getD, hk], ?_⟩
    intro j hj
    have := h j hj
    simp only [List.getD_eq_getElem?_getD, List.getElem?_eq_getElem (show j < l.length by omega), Option.getD_some] at this
    simp [this]
  rw [this]
theorem heldL_snoc (L : List InstD) (on : Bool) (l : List Int) (n : Int) : heldL L on (l ++ [n]) = upd (heldL L on l) n (fun x => { x with held := on }) := by unfold heldL; simp
theorem upd_len (L : List InstD) (n : Int) (f : InstD → InstD) : (upd L n f).length = L.length := by
  unfold upd
  split <;> simp
theorem heldL_len (L : List InstD) (on : Bool) (l : List Int) : (heldL L on l).length = L.length := by
  unfold heldL
  induction l generalizing L with
  | nil => rfl
  | cons n l ih => rw [List.foldl_cons, ih, upd_len]

theorem hold_calls (B : Nat) (gb : Nat) (v : Value) (L : List InstD) (party : ByteArray) (on : Bool) (l : List Int) (A : Option Addr) (cap : Nat) (w : World) (R : Ending → World → Prop) (hB : BookS B w gb v L)
    (hA : Ints w A l) (hfar : ∀ b off, A = some ⟨b, off, none⟩ → v.ownBlock ≠ some b)
    (hR : ∀ w', BookS B w' gb v (holdL L party on l) → Keep (fun i => v.ownBlock = some i) w w' → R (.returned (.int .i64 (holdE L party l))) w') :
    Calls Try.prog 15 #[.pointer (some ⟨gb, 0, none⟩), .string party, .bool on, .slice A l.length cap] w R := by
  have HR := Hid.mk hR
  have HB := Hid.mk hB
  have HA := Hid.mk hA
  have HF := Hid.mk hfar
  have hlen := hA.1
  unfold maxLen at hlen
  clear hR hB hA hfar
  obtain ⟨m, hm⟩ : ∃ m, m = l.length := ⟨_, rfl⟩
  rw [← hm] at hlen
  rw [← hm]
  have HM := Hid.mk hm
  clear hm
  go_enter Try.func15, Try.ntmps15
  go_wp2_with (fail)
  go_loopg [18] m (fun gg vi wr => ∃ k : Nat, k ≤ m ∧ vi = .int .i64 k ∧ Hid (∀ j, j < k → mayE L party (l.getD j 0) = 0) ∧ Hid (BookS B wr gb v L) ∧ Hid (Keep (fun i => v.ownBlock = some i) w wr) ∧ Hid (gg = m - k))
  case atStart => exact ⟨0, by omega, rfl, Hid.mk (by omega), HB, Hid.mk (Keep.refl _ _), Hid.mk rfl⟩
  case round =>
    obtain ⟨k, hk, rfl, HL, HBk, HKk, HGG⟩ := hrel
    by_cases hlt : k < m
    · have hint := HA.out.keep HKk.out (fun b off e => HF.out b off e)
      obtain ⟨b, off, hAe, hc⟩ := hint.at_ k (by rw [← HM.out]; exact hlt)
      obtain ⟨n, hn⟩ : ∃ n, n = l.getD k 0 := ⟨_, rfl⟩
      rw [← hn] at hc
      have HN := Hid.mk hn
      subst hAe
      clear hn hint
      go_wp2_with (fail)
      refine may_calls B gb v L party n _ _ HBk.out ?_
      intro w1 hb1
      have HB1 := Hid.mk (HBk.out.below hb1)
      have HK1 : Hid (Keep (fun i => v.ownBlock = some i) w w1) := Hid.mk (HKk.out.trans (HBk.out.keepOf hb1) (fun _ _ h => h))
      clear hb1 hc
      obtain ⟨e, he⟩ : ∃ e, e = mayE L party n := ⟨_, rfl⟩
      rw [← he]
      have HE := Hid.mk he
      clear he
      by_cases h0 : e = 0
      · subst h0
        go_wp2_with (fail)
        go_roundg (m - (k + 1))
        case measure => rw [HGG.out]; omega
        case rel => exact ⟨k + 1, by omega, by go_num, Hid.mk (fun j hj => by
          rcases Nat.lt_or_ge j k with h | h
          · exact HL.out j h
          · obtain rfl : j = k := by omega
            rw [← HN.out]; exact HE.out.symm), HB1, HK1, Hid.mk rfl⟩
      · have hx : Hid (holdE L party l = e) := Hid.mk (by
          rw [holdE_first L party l k (by rw [← HM.out]; exact hlt) HL.out (by rw [← HN.out, ← HE.out]; exact h0), ← HN.out, ← HE.out])
        have hy : Hid (holdL L party on l = L) := Hid.mk (by unfold holdL; rw [hx.out, if_neg h0])
        have h1 : (e == 0) = false := by simpa using h0
        rw [hx.out, hy.out] at HR
        clear h0
        go_wp2_with (fail)
        exact HR.out _ HB1.out HK1.out
    · obtain rfl : k = m := by omega
      have hx : Hid (holdE L party l = 0) := Hid.mk (holdE_zero L party l (by rw [← HM.out]; exact HL.out))
      have hy : Hid (holdL L party on l = heldL L on l) := Hid.mk (by unfold holdL; rw [hx.out, if_pos rfl])
      rw [hx.out, hy.out] at HR
      go_wp2_with (fail)
      clear hlt hk HGG
      go_loopg [32] k (fun gg vi wq => ∃ i : Nat, i ≤ k ∧ vi = .int .i64 i ∧ Hid (BookS B wq gb v (heldL L on (l.take i))) ∧ Hid (Keep (fun i => v.ownBlock = some i) w wq) ∧ Hid (gg = k - i))
      case atStart => exact ⟨0, by omega, rfl, HBk, HKk, Hid.mk rfl⟩
      case round =>
        obtain ⟨i, hi, rfl, HBi, HKi, HGG⟩ := hrel
        by_cases hlt : i < k
        · have hint := HA.out.keep HKi.out (fun b off e => HF.out b off e)
          obtain ⟨b, off, hAe, hc⟩ := hint.at_ i (by rw [← HM.out]; exact hlt)
          obtain ⟨j, x, hn, -, hj, -⟩ := mayE_zero L party _ (HL.out i hlt)
          have hts : l.take (i + 1) = l.take i ++ [l.getD i 0] := take_snoc l i (by rw [← HM.out]; exact hlt)
          rw [hn] at hc hts
          have hj2 : j < (heldL L on (l.take i)).length := by rw [heldL_len]; exact hj
          obtain ⟨y, hy⟩ : ∃ y, (heldL L on (l.take i))[j]? = some y := ⟨_, List.getElem?_eq_getElem hj2⟩
          obtain ⟨g, hg⟩ : ∃ g, Value.rowOf v (heldL L on (l.take i)).length g := by
            rcases HBi.out.form with ⟨_, h⟩ | ⟨g, h, _⟩
            · rw [h] at hj2; simp at hj2
            · exact ⟨g, h⟩
          subst hAe
          have HJ := Hid.mk hj2
          have HY := Hid.mk hy
          have HG := Hid.mk hg
          have HT := Hid.mk hts
          have c15 : wr.cell? ⟨g, j * 21 + 15, none⟩ = some (.bool y.held) := by rw [HBi.out.at_ HG.out HY.out 15 (by omega)]; rfl
          have f15 : wr.frozen? ⟨g, j * 21 + 15, none⟩ = false := HBi.out.free HG.out _
          clear hint hj2 hy hg hts hn hj
          go_wp2_with (fail)
          refine at_some B gb v _ j g _ _ HBi.out HJ.out HG.out ?_
          go_wp2_with (fail)
          go_roundg (k - (i + 1))
          case measure => rw [HGG.out]; omega
          case rel => exact ⟨i + 1, by omega, by go_num, Hid.mk (by
            rw [HT.out, heldL_snoc, upd_some _ j y _ HY.out]
            exact HBi.out.put HG.out HY.out { y with held := on } 15 (by omega) _ rfl), Hid.mk (keep_put HKi.out HG.out _ _), Hid.mk rfl⟩
        · obtain rfl : i = k := by omega
          have HBE : Hid (BookS B wr gb v (heldL L on l)) := Hid.mk (by have := HBi.out; rwa [List.take_of_length_le (by rw [HM.out]; omega)] at this)
          go_wp2_with (fail)
          exact HR.out _ HBE.out HKi.out
end Go.Proofs.Yteecekijekegdaa
