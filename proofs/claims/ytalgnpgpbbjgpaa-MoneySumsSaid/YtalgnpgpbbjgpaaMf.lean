/- The walk of package money's Number: what it reads of any text. -/
import Derived.Test.YtalgnpgpbbjgpaaMe
namespace Go.Proofs.Ytalgnpgpbbjgpaa
open Go.RowKit

def isDig (c : UInt8) : Bool := decide (48 ≤ c.toNat) && decide (c.toNat ≤ 57)
def valD (l : List UInt8) : Nat := l.foldl (fun n c => 10 * n + (c.toNat - 48)) 0
theorem valD_snoc (l : List UInt8) (c : UInt8) : valD (l ++ [c]) = 10 * valD l + (c.toNat - 48) := by simp [valD, List.foldl_append]
theorem valD_lt (l : List UInt8) (h : l.all isDig = true) : valD l < 10 ^ l.length := by
  suffices h : ∀ n, n ≤ l.length → valD (l.take n) < 10 ^ n by
    have := h l.length (Nat.le_refl _)
    rwa [List.take_length] at this
  intro n
  induction n with
  | zero => intro _; simp [valD]
  | succ n ih =>
    intro hn
    have h1 := ih (by omega)
    rw [List.take_succ_eq_append_getElem (by omega), valD_snoc]
    have h2 : isDig l[n] = true := List.all_eq_true.1 h _ (List.getElem_mem _)
    unfold isDig at h2
    simp at h2
    rw [Nat.pow_succ]
    omega

/-- What is wrong with the digits of a number, ahead of looking at each. -/
def badD (below : Bool) (d : List UInt8) : Bool := d.isEmpty || decide (18 < d.length) || (decide (d.head? = some 48) && (decide (1 < d.length) || below))
/-- What a number's text reads as, its sign taken off. -/
def numD (below : Bool) (d : List UInt8) : Int × Int :=
  if badD below d then (0, 1) else if d.all isDig then (if below then -(valD d : Int) else (valD d : Int), 0) else (0, 1)
/-- The document's Number. -/
def number (s : List UInt8) : Int × Int := numD (Lib.hasPrefix s [45]) (Lib.trimPrefix s [45])

theorem bget (l : List UInt8) (k : Nat) : ∀ h : k < (⟨l.toArray⟩ : ByteArray).size, ((⟨l.toArray⟩ : ByteArray)[k]'h).toNat = (l.getD k 0).toNat := by
  intro h
  have hk : k < l.length := by simpa [ByteArray.size] using h
  have : ((⟨l.toArray⟩ : ByteArray)[k]'h) = l[k] := by show l.toArray[k] = l[k]; simp
  rw [this, List.getD_eq_getElem?_getD, List.getElem?_eq_getElem hk]
  rfl

set_option maxHeartbeats 1000000 in
theorem number_calls (s : ByteArray) (w : World) (R : Ending → World → Prop) (_hs : s.size ≤ 140737488351232)
    (hR : R (.returned (.tuple #[.int .i64 (number s.data.toList).1, .int .i64 (number s.data.toList).2])) w) : Calls Try.prog 28 #[.string s] w R := by
  obtain ⟨below, hb⟩ : ∃ below, below = Lib.hasPrefix s.data.toList [45] := ⟨_, rfl⟩
  obtain ⟨l, hl⟩ : ∃ l, l = Lib.trimPrefix s.data.toList [45] := ⟨_, rfl⟩
  unfold number at hR
  rw [← hb, ← hl] at hR
  have HB := Hid.mk hb
  have HL := Hid.mk hl
  clear hb hl
  go_enter Try.func28, Try.ntmps28
  go_wp2_with (fail)
  refine (Try.strings_CutPrefix s ⟨#[45]⟩ w).mono ?_
  rintro e w' ⟨rfl, rfl⟩
  rw [show (ByteArray.mk #[45]).data.toList = [45] from rfl, ← HB.out, ← HL.out]
  by_cases hne : l = []
  · subst hne
    cases below
    all_goals
      go_wp2_with (fail)
      exact hR
  have hle : l.isEmpty = false := by cases l with | nil => exact absurd rfl hne | cons => rfl
  have hl0 : 0 < l.length := by cases l with | nil => exact absurd rfl hne | cons => simp
  have HNE := Hid.mk hne
  clear hne
  by_cases hlong : 18 < l.length
  · have hbad : badD below l = true := by unfold badD; simp [hlong]
    unfold numD at hR
    rw [if_pos hbad] at hR
    have hlong' : 18 < (l.length : Int) := by omega
    clear hbad hlong
    go_wp2_with (fail)
    exact hR
  have hshort : (l.length : Int) ≤ 18 := by omega
  clear hlong
  obtain ⟨c, hc⟩ : ∃ c, c = (l.getD 0 0).toNat := ⟨_, rfl⟩
  have g0 : ∀ h : 0 < (⟨l.toArray⟩ : ByteArray).size, ((⟨l.toArray⟩ : ByteArray)[0]'h).toNat = c := fun h => by rw [bget, hc]
  have hhead : l.head? = some 48 ↔ c = 48 := by
    rw [hc]
    cases l with
    | nil => simp at hl0
    | cons a t =>
      simp only [List.head?_cons, Option.some.injEq, List.getD_cons_zero]
      exact ⟨fun h => by rw [h]; rfl, fun h => UInt8.toNat_inj.1 (by rw [h]; rfl)⟩
  have HHD := Hid.mk hhead
  clear hc hhead
  by_cases hbad : badD below l = true
  · have hb := hbad
    unfold numD at hR
    rw [if_pos hbad] at hR
    unfold badD at hb
    rw [hle, decide_eq_false (by omega)] at hb
    simp only [Bool.false_or, Bool.and_eq_true, decide_eq_true_eq, Bool.or_eq_true] at hb
    obtain ⟨hb1, hb2⟩ := hb
    have c48 : c = 48 := HHD.out.1 hb1
    subst c48
    clear hbad hb1
    cases below
    · have h1 : 1 < (l.length : Int) := by simp at hb2; omega
      clear hb2
      go_wp2_with (fail)
      exact hR
    · clear hb2
      go_wp2_with (fail)
      all_goals exact hR
  · unfold numD at hR
    rw [if_neg hbad] at hR
    have hnb : ¬ (c = 48 ∧ (1 < l.length ∨ below = true)) := by
      rintro ⟨h1, h2⟩
      refine hbad ?_
      unfold badD
      rw [decide_eq_true (HHD.out.2 h1)]
      rcases h2 with h2 | h2
      · simp [h2]
      · simp [h2]
    have HR := Hid.mk hR
    have HNB := Hid.mk hnb
    clear hbad hR hnb
    go_upto_region 2 with (fail)
    go_cut [32] (fun v32 wc => v32 = .bool false ∧ wc = w')
    case first =>
      by_cases hc : c = 48
      · subst hc
        have hl1 : ¬ (1 < (l.length : Int)) := fun h => HNB.out ⟨rfl, .inl (by omega)⟩
        have hbf : below = false := by
          cases hb : below
          · rfl
          · exact absurd ⟨rfl, .inr hb⟩ HNB.out
        subst hbf
        go_wp2_with (fail)
        go_meet
        case rel => exact ⟨by rw [decide_eq_false (by omega)], rfl⟩
      · have hc' : ((c : Int) == 48) = false := by simp; omega
        go_wp2_with (fail)
        go_meet
        case rel => exact ⟨by rw [decide_eq_false (by omega)], rfl⟩
    case rest =>
      obtain ⟨rfl, rfl⟩ := hcut
      have hl18 : l.length ≤ 18 := by omega
      clear g0 HHD HNB HNE
      go_wp2_with (fail)
      go_loopg [6, 7, 35] (l.length) (fun g vn v7 vi wr => ∃ (k n : Nat), k ≤ l.length ∧ vi = .int .i64 k ∧ vn = .int .i64 n ∧ Hid ((l.take k).all isDig = true) ∧ Hid (n = valD (l.take k)) ∧ Hid (g = l.length - k) ∧ wr = wc)
      case atStart => exact ⟨0, 0, Nat.zero_le _, rfl, rfl, Hid.mk rfl, Hid.mk rfl, Hid.mk rfl, rfl⟩
      case round =>
        obtain ⟨k, n, hk, rfl, rfl, HA, HN, HG, rfl⟩ := hrel
        by_cases hlt : k < l.length
        · obtain ⟨x, hx⟩ : ∃ x, x = l.getD k 0 := ⟨_, rfl⟩
          obtain ⟨c2, hc2⟩ : ∃ c2, c2 = x.toNat := ⟨_, rfl⟩
          have g1 : ∀ h : k < (⟨l.toArray⟩ : ByteArray).size, ((⟨l.toArray⟩ : ByteArray)[k]'h).toNat = c2 := fun h => by rw [bget, ← hx, hc2]
          have hmem : x ∈ l := by rw [hx]; simp [List.getD_eq_getElem?_getD, hlt]
          have htake : l.take (k + 1) = l.take k ++ [x] := by
            rw [List.take_succ_eq_append_getElem hlt, hx]; simp [List.getD_eq_getElem?_getD, hlt]
          have hc256 : c2 ≤ 255 := by rw [hc2]; have := x.toNat_lt; omega
          have hpow : n < 100000000000000000 := by
            have h1 := valD_lt _ HA.out
            rw [← HN.out] at h1
            have h2 : (l.take k).length ≤ 17 := by simp; omega
            exact Nat.lt_of_lt_of_le h1 (Nat.le_trans (Nat.pow_le_pow_right (by omega) h2) (by omega))
          have HX := Hid.mk (And.intro hx (And.intro hc2 (And.intro hmem htake)))
          clear hx hc2 hmem htake
          by_cases hd : 48 ≤ c2 ∧ c2 ≤ 57
          · have hdig : isDig x = true := by unfold isDig; rw [← HX.out.2.1]; simp [hd]
            have f1 : decide ((c2 : Int) < 48) = false := decide_eq_false (by omega)
            have f2 : decide (57 < (c2 : Int)) = false := decide_eq_false (by omega)
            obtain ⟨hd1, hd2⟩ := hd
            have hn' : (n : Int) < 100000000000000000 := by omega
            have HD := Hid.mk hdig
            clear hpow hdig
            go_wp2_with (fail)
            go_roundg (l.length - (k + 1))
            case measure => rw [HG.out]; omega
            case rel => exact ⟨k + 1, 10 * n + (c2 - 48), by omega, by go_num, by congr 1; omega, Hid.mk (by rw [HX.out.2.2.2, List.all_append, HA.out]; simp [HD.out]), Hid.mk (by rw [HX.out.2.2.2, valD_snoc, ← HN.out, ← HX.out.2.1]), Hid.mk rfl, rfl⟩
          · have hnd : l.all isDig = false := by
              rw [List.all_eq_false]
              refine ⟨x, HX.out.2.2.1, ?_⟩
              unfold isDig; rw [← HX.out.2.1]; simp; omega
            have HR2 := HR.out
            rw [hnd] at HR2
            simp only [Bool.false_eq_true, ↓reduceIte] at HR2
            have HR3 := Hid.mk HR2
            clear hnd HR HR2 hpow
            by_cases h48 : c2 < 48
            · clear hd
              go_wp2_with (fail)
              exact HR3.out
            · have h57 : 57 < c2 := by omega
              clear hd
              go_wp2_with (fail)
              exact HR3.out
        · have hall : l.all isDig = true := by have := HA.out; rwa [List.take_of_length_le (by omega)] at this
          have hval : n = valD l := by have := HN.out; rwa [List.take_of_length_le (by omega)] at this
          have hpow : n < 1000000000000000000 := by
            have h1 := valD_lt _ hall
            rw [← hval] at h1
            exact Nat.lt_of_lt_of_le h1 (Nat.le_trans (Nat.pow_le_pow_right (by omega) hl18) (by omega))
          have HR2 := HR.out
          rw [hall, ← hval] at HR2
          simp only [↓reduceIte] at HR2
          have HR3 := Hid.mk HR2
          clear hall hval HR HR2 HA HN
          cases below
          · go_wp2_with (fail)
            exact HR3.out
          · go_wp2_with (fail)
            exact HR3.out
end Go.Proofs.Ytalgnpgpbbjgpaa
