/- The walk of the reference's Number: it reads what package money's Number reads. -/
import Derived.Test.YtalgnpgpbbjgpaaMg
namespace Go.Proofs.Ytalgnpgpbbjgpaa
open Go.RowKit

theorem cut_one (l : List UInt8) (x : UInt8) : (⟨(x :: l).toArray⟩ : ByteArray).extract 1 (l.length + 1) = ⟨l.toArray⟩ := by
  apply ByteArray.ext
  rw [ByteArray.data_extract]
  simp

/-- How a number's text begins: with a sign or not. -/
theorem number_begins (s : List UInt8) : (s = [] ∧ number s = numD false []) ∨ (∃ t, s = 45 :: t ∧ number s = numD true t) ∨ (∃ x t, s = x :: t ∧ x ≠ 45 ∧ number s = numD false (x :: t)) := by
  cases s with
  | nil => exact .inl ⟨rfl, rfl⟩
  | cons x t =>
    by_cases h : x = 45
    · subst h
      exact .inr (.inl ⟨t, rfl, by unfold number; simp [Lib.hasPrefix, Lib.trimPrefix]⟩)
    · refine .inr (.inr ⟨x, t, rfl, h, ?_⟩)
      have h2 : Lib.hasPrefix (x :: t) [45] = false := by simp only [Lib.hasPrefix, List.isPrefixOf, Bool.and_true, beq_eq_false_iff_ne, ne_eq]; exact fun e => h (Eq.symm e)
      unfold number
      rw [h2]
      simp [Lib.trimPrefix, h2]

set_option maxHeartbeats 1000000 in
theorem rnumber_calls (s : List UInt8) (w : World) (R : Ending → World → Prop) (_hs : s.length ≤ 140737488351232)
    (hR : R (.returned (.tuple #[.int .i64 (number s).1, .int .i64 (number s).2])) w) : Calls Try.prog 30 #[.string ⟨s.toArray⟩] w R := by
  obtain ⟨below, l, hnum, hcase⟩ : ∃ below l, number s = numD below l ∧ ((s = [] ∧ below = false ∧ l = []) ∨ (below = true ∧ s = 45 :: l) ∨ (below = false ∧ s = l ∧ ∃ x t, s = x :: t ∧ x ≠ 45)) := by
    rcases number_begins s with ⟨h1, h2⟩ | ⟨t, h1, h2⟩ | ⟨x, t, h1, h2, h3⟩
    · exact ⟨false, [], h2, .inl ⟨h1, rfl, rfl⟩⟩
    · exact ⟨true, t, h2, .inr (.inl ⟨rfl, h1⟩)⟩
    · exact ⟨false, x :: t, h3, .inr (.inr ⟨rfl, h1, x, t, h1, h2⟩)⟩
  rw [hnum] at hR
  have HR := Hid.mk hR
  have hll : (l.length : Int) ≤ 140737488351232 := by
    rcases hcase with ⟨_, _, h⟩ | ⟨_, h⟩ | ⟨_, h, _⟩
    · subst h; simp
    · subst h; simp at _hs; omega
    · subst h; omega
  clear hR hnum
  go_enter Try.func30, Try.ntmps30
  go_upto_region 1 with (fail)
  go_cut [4] (fun v4 wc => v4 = .bool below ∧ wc = w)
  case first =>
    rcases hcase with ⟨rfl, rfl, rfl⟩ | ⟨rfl, rfl⟩ | ⟨rfl, rfl, x, t, rfl, hx⟩
    · go_wp2_with (fail)
      go_meet
      case rel => exact ⟨rfl, rfl⟩
    · have g0 : ∀ h : 0 < (⟨(45 :: l).toArray⟩ : ByteArray).size, ((⟨(45 :: l).toArray⟩ : ByteArray)[0]'h).toNat = 45 := fun h => by rw [bget]; rfl
      go_wp2_with (fail)
      go_meet
      case rel => exact ⟨rfl, rfl⟩
    · obtain ⟨c, hc⟩ : ∃ c, c = x.toNat := ⟨_, rfl⟩
      have g0 : ∀ h : 0 < (⟨(x :: t).toArray⟩ : ByteArray).size, ((⟨(x :: t).toArray⟩ : ByteArray)[0]'h).toNat = c := fun h => by rw [bget, hc]; rfl
      have hc45 : ((c : Int) == 45) = false := by
        rw [beq_eq_false_iff_ne, hc]
        intro e
        exact hx (UInt8.toNat_inj.1 (by rw [show (45 : UInt8).toNat = 45 from rfl]; omega))
      go_wp2_with (fail)
      go_meet
      case rel => exact ⟨by rw [← hc, hc45], rfl⟩
  case rest =>
   obtain ⟨rfl, rfl⟩ := hcut
   go_upto_if 17 with (fail)
   go_cut [5] (fun v5 wd => v5 = .string ⟨l.toArray⟩ ∧ wd = wc)
   case first =>
    rcases hcase with ⟨rfl, rfl, rfl⟩ | ⟨rfl, rfl⟩ | ⟨rfl, rfl, x, t, rfl, hx⟩
    · go_wp2_with (fail)
      go_meet
      case rel => exact ⟨rfl, rfl⟩
    · go_wp2_with (fail)
      go_meet
      case rel => exact ⟨by rw [cut_one], rfl⟩
    · go_wp2_with (fail)
      go_meet
      case rel => exact ⟨rfl, rfl⟩
   case rest =>
    obtain ⟨rfl, rfl⟩ := hcut
    clear hcase
    by_cases hne : l = []
    · subst hne
      have HR2 : Hid (R (.returned (.tuple #[.int .i64 0, .int .i64 1])) wc) := Hid.mk HR.out
      clear HR
      go_wp2_with (fail)
      exact HR2.out
    have hle : l.isEmpty = false := by cases l with | nil => exact absurd rfl hne | cons => rfl
    have hl0 : 1 ≤ (l.length : Int) := by cases l with | nil => exact absurd rfl hne | cons => simp; omega
    clear hne
    by_cases hlong : 18 < l.length
    · have hbad : badD below l = true := by unfold badD; simp [hlong]
      have HR2 := HR.out
      unfold numD at HR2
      rw [if_pos hbad] at HR2
      replace HR2 := Hid.mk HR2
      have hlong' : 18 < (l.length : Int) := by omega
      clear hbad hlong HR
      go_wp2_with (fail)
      exact HR2.out
    have hshort : (l.length : Int) ≤ 18 := by omega
    clear hlong
    obtain ⟨c, hc⟩ : ∃ c, c = (l.getD 0 0).toNat := ⟨_, rfl⟩
    have g0 : ∀ h : 0 < (⟨l.toArray⟩ : ByteArray).size, ((⟨l.toArray⟩ : ByteArray)[0]'h).toNat = c := fun h => by rw [bget, hc]
    have hhead : l.head? = some 48 ↔ c = 48 := by
      rw [hc]
      cases l with
      | nil => simp at hl0
      | cons a t =>
        simp only [List.head?_cons, Option.some.injEq, List.getD_cons_zero]
        exact ⟨fun h => by rw [h]; rfl, fun h => UInt8.toNat_inj.1 (by rw [h]; rfl)⟩
    have HHD := Hid.mk hhead
    clear hc hhead
    by_cases hbad : badD below l = true
    · have hb := hbad
      have HR2 := HR.out
      unfold numD at HR2
      rw [if_pos hbad] at HR2
      unfold badD at hb
      rw [hle, decide_eq_false (by omega)] at hb
      simp only [Bool.false_or, Bool.and_eq_true, decide_eq_true_eq, Bool.or_eq_true] at hb
      obtain ⟨hb1, hb2⟩ := hb
      have c48 : c = 48 := HHD.out.1 hb1
      subst c48
      replace HR2 := Hid.mk HR2
      clear hbad hb1 HR
      by_cases h1 : 1 < (l.length : Int)
      · clear hb2
        go_wp2_with (fail)
        exact HR2.out
      · have h2 : below = true := by
          rcases hb2 with h | h
          · omega
          · exact h
        subst h2
        clear hb2
        go_wp2_with (fail)
        exact HR2.out
    · have HR2 := HR.out
      unfold numD at HR2
      rw [if_neg hbad] at HR2
      have hnb : ¬ (c = 48 ∧ (1 < l.length ∨ below = true)) := by
        rintro ⟨h1, h2⟩
        refine hbad ?_
        unfold badD
        rw [decide_eq_true (HHD.out.2 h1)]
        rcases h2 with h2 | h2
        · simp [h2]
        · simp [h2]
      replace HR2 := Hid.mk HR2
      have HNB := Hid.mk hnb
      clear hbad hnb HR
      go_upto_region 5 with (fail)
      go_cut [40] (fun v40 we => v40 = .bool false ∧ we = wc)
      case first =>
        by_cases hc : c = 48
        · subst hc
          have hl1 : ¬ (1 < (l.length : Int)) := fun h => HNB.out ⟨rfl, .inl (by omega)⟩
          have hbf : below = false := by
            cases hb : below
            · rfl
            · exact absurd ⟨rfl, .inr hb⟩ HNB.out
          subst hbf
          go_wp2_with (fail)
          go_meet
          case rel => exact ⟨by rw [decide_eq_false (by omega), decide_eq_false (by omega)]; rfl, rfl⟩
        · have hc' : ((c : Int) == 48) = false := by simp; omega
          go_wp2_with (fail)
          go_meet
          case rel => exact ⟨by rw [decide_eq_false (by omega), decide_eq_false (by omega)]; rfl, rfl⟩
      case rest =>
        obtain ⟨rfl, rfl⟩ := hcut
        have hl18 : l.length ≤ 18 := by omega
        clear g0 HHD HNB
        go_wp2_with (fail)
        go_loopg [6, 7] (l.length) (fun g vn vi wr => ∃ (k n : Nat), k ≤ l.length ∧ vi = .int .i64 k ∧ vn = .int .i64 n ∧ Hid ((l.take k).all isDig = true) ∧ Hid (n = valD (l.take k)) ∧ Hid (g = l.length - k) ∧ wr = wc)
        case atStart => exact ⟨0, 0, Nat.zero_le _, rfl, rfl, Hid.mk rfl, Hid.mk rfl, Hid.mk rfl, rfl⟩
        case round =>
          obtain ⟨k, n, hk, rfl, rfl, HA, HN, HG, rfl⟩ := hrel
          by_cases hlt : k < l.length
          · obtain ⟨x, hx⟩ : ∃ x, x = l.getD k 0 := ⟨_, rfl⟩
            obtain ⟨c2, hc2⟩ : ∃ c2, c2 = x.toNat := ⟨_, rfl⟩
            have g1 : ∀ h : k < (⟨l.toArray⟩ : ByteArray).size, ((⟨l.toArray⟩ : ByteArray)[k]'h).toNat = c2 := fun h => by rw [bget, ← hx, hc2]
            have hmem : x ∈ l := by rw [hx]; simp [List.getD_eq_getElem?_getD, hlt]
            have htake : l.take (k + 1) = l.take k ++ [x] := by
              rw [List.take_succ_eq_append_getElem hlt, hx]; simp [List.getD_eq_getElem?_getD, hlt]
            have hc256 : c2 ≤ 255 := by rw [hc2]; have := x.toNat_lt; omega
            have hpow : n < 100000000000000000 := by
              have h1 := valD_lt _ HA.out
              rw [← HN.out] at h1
              have h2 : (l.take k).length ≤ 17 := by simp; omega
              exact Nat.lt_of_lt_of_le h1 (Nat.le_trans (Nat.pow_le_pow_right (by omega) h2) (by omega))
            have HX := Hid.mk (And.intro hx (And.intro hc2 (And.intro hmem htake)))
            clear hx hc2 hmem htake
            by_cases hd : 48 ≤ c2 ∧ c2 ≤ 57
            · have hdig : isDig x = true := by unfold isDig; rw [← HX.out.2.1]; simp [hd]
              have f1 : decide ((c2 : Int) < 48) = false := decide_eq_false (by omega)
              have f2 : decide (57 < (c2 : Int)) = false := decide_eq_false (by omega)
              obtain ⟨hd1, hd2⟩ := hd
              have hn' : (n : Int) < 100000000000000000 := by omega
              have HD := Hid.mk hdig
              clear hpow hdig
              go_wp2_with (fail)
              go_roundg (l.length - (k + 1))
              case measure => rw [HG.out]; omega
              case rel => exact ⟨k + 1, 10 * n + (c2 - 48), by omega, by go_num, by congr 1; omega, Hid.mk (by rw [HX.out.2.2.2, List.all_append, HA.out]; simp [HD.out]), Hid.mk (by rw [HX.out.2.2.2, valD_snoc, ← HN.out, ← HX.out.2.1]), Hid.mk rfl, rfl⟩
            · have hnd : l.all isDig = false := by
                rw [List.all_eq_false]
                refine ⟨x, HX.out.2.2.1, ?_⟩
                unfold isDig; rw [← HX.out.2.1]; simp; omega
              have HR3 := HR2.out
              rw [hnd] at HR3
              simp only [Bool.false_eq_true, ↓reduceIte] at HR3
              replace HR3 := Hid.mk HR3
              clear hnd HR2 hpow
              by_cases h48 : c2 < 48
              · clear hd
                go_wp2_with (fail)
                exact HR3.out
              · have h57 : 57 < c2 := by omega
                clear hd
                go_wp2_with (fail)
                exact HR3.out
          · have hall : l.all isDig = true := by have := HA.out; rwa [List.take_of_length_le (by omega)] at this
            have hval : n = valD l := by have := HN.out; rwa [List.take_of_length_le (by omega)] at this
            have hpow : n < 1000000000000000000 := by
              have h1 := valD_lt _ hall
              rw [← hval] at h1
              exact Nat.lt_of_lt_of_le h1 (Nat.le_trans (Nat.pow_le_pow_right (by omega) hl18) (by omega))
            have HR3 := HR2.out
            rw [hall, ← hval] at HR3
            simp only [↓reduceIte] at HR3
            replace HR3 := Hid.mk HR3
            clear hall hval HR2 HA HN
            cases below
            · go_wp2_with (fail)
              exact HR3.out
            · go_wp2_with (fail)
              exact HR3.out
end Go.Proofs.Ytalgnpgpbbjgpaa
