/- The walk of the law MoneyBack: it answers true at every two ints, and leaves old memory as it was. -/
import Derived.Test.YtalgnpgpbbjgpaaMh
import Derived.Test.YtalgnpgpbbjgpaaPa
namespace Go.Proofs.Ytalgnpgpbbjgpaa
open Go.RowKit

theorem bytes_eq (l m : List UInt8) : ((ByteArray.mk l.toArray).toList == (ByteArray.mk m.toArray).toList) = decide (l = m) := by
  rw [ByteArray.toList_mk, ByteArray.toList_mk]
  by_cases h : l = m
  · subst h; simp
  · rw [decide_eq_false h]; simpa using h

set_option maxHeartbeats 1000000 in
theorem moneyBack_calls (a b : Int) (w : World) (R : Ending → World → Prop) (ha : I64 a) (hb : I64 b) (hR : ∀ w', Below w.heap.size w w' → R (.returned (.bool true)) w') :
    Calls Try.prog 5 #[.int .i64 a, .int .i64 b] w R := by
  have hn := number_digits a
  obtain ⟨D, hD⟩ : ∃ D, D = digits a := ⟨_, rfl⟩
  obtain ⟨E, hE⟩ : ∃ E, E = digits b := ⟨_, rfl⟩
  have hde : (D == E) = (a == b) := by
    rw [hD, hE]
    by_cases h : a = b
    · subst h; simp
    · have h2 : digits a ≠ digits b := fun e => h (digits_inj a b e)
      have e1 : (a == b) = false := by simpa using h
      have e2 : (digits a == digits b) = false := by simpa using h2
      rw [e1, e2]
  have hlen : D.length ≤ 20 := by
    rw [hD]; unfold digits
    have := dig_19 a.natAbs (by obtain ⟨h1, h2⟩ := ha; omega)
    split <;> simp <;> omega
  have HN := Hid.mk hn
  have HD := Hid.mk hD
  have HE := Hid.mk hE
  have HA := Hid.mk (And.intro ha hb)
  have HDE := Hid.mk hde
  have HLEN := Hid.mk hlen
  have HR := Hid.mk hR
  clear hn hD hE ha hb hR hde hlen
  by_cases hf : -1000000000000000000 < a ∧ a < 1000000000000000000
  · have HF := Hid.mk hf
    obtain ⟨f1, f2⟩ := hf
    go_enter Try.func5, Try.ntmps5
    go_wp2_with (fail)
    refine digits_calls a _ _ HA.out.1 ?_
    intro w1 hb1
    rw [← HD.out]
    go_wp2_with (fail)
    refine number_calls ⟨D.toArray⟩ _ _ (by have := HLEN.out; simp [ByteArray.size]; omega) ?_
    rw [show number (ByteArray.mk D.toArray).data.toList = number (digits a) from by rw [← HD.out], HN.out, if_pos HF.out]
    go_wp2_with (fail)
    refine alive_calls _ _ ?_
    intro w2 hb2
    replace hb2 := below_then hb1 hb2
    clear hb1
    go_wp2_with (fail)
    refine digits_calls a _ _ HA.out.1 ?_
    intro w3 hb3
    rw [← HD.out]
    replace hb3 := below_then hb2 hb3
    clear hb2
    go_wp2_with (fail)
    refine digits_calls b _ _ HA.out.2 ?_
    intro w4 hb4
    rw [← HE.out]
    replace hb4 := below_then hb3 hb4
    clear hb3
    have e1 : (D == E) = (a == b) := HDE.out
    cases hab : (a == b)
    all_goals
      rw [hab] at e1
      go_wp2_with (fail)
      exact HR.out _ hb4

  · have HF := Hid.mk hf
    by_cases f1 : -1000000000000000000 < a
    · have f2 : decide (a < 1000000000000000000) = false := decide_eq_false (fun h => hf ⟨f1, h⟩)
      clear hf
      go_enter Try.func5, Try.ntmps5
      go_wp2_with (fail)
      refine digits_calls a _ _ HA.out.1 ?_
      intro w1 hb1
      rw [← HD.out]
      go_wp2_with (fail)
      refine number_calls ⟨D.toArray⟩ _ _ (by have := HLEN.out; simp [ByteArray.size]; omega) ?_
      rw [show number (ByteArray.mk D.toArray).data.toList = number (digits a) from by rw [← HD.out], HN.out, if_neg HF.out]
      go_wp2_with (fail)
      refine alive_calls _ _ ?_
      intro w2 hb2
      replace hb2 := below_then hb1 hb2
      clear hb1
      go_wp2_with (fail)
      refine digits_calls a _ _ HA.out.1 ?_
      intro w3 hb3
      rw [← HD.out]
      replace hb3 := below_then hb2 hb3
      clear hb2
      go_wp2_with (fail)
      refine digits_calls b _ _ HA.out.2 ?_
      intro w4 hb4
      rw [← HE.out]
      replace hb4 := below_then hb3 hb4
      clear hb3
      have e1 : (D == E) = (a == b) := HDE.out
      cases hab : (a == b)
      all_goals
        rw [hab] at e1
        go_wp2_with (fail)
        exact HR.out _ hb4

    · have f3 : decide (-1000000000000000000 < a) = false := decide_eq_false f1
      clear hf f1
      go_enter Try.func5, Try.ntmps5
      go_wp2_with (fail)
      refine digits_calls a _ _ HA.out.1 ?_
      intro w1 hb1
      rw [← HD.out]
      go_wp2_with (fail)
      refine number_calls ⟨D.toArray⟩ _ _ (by have := HLEN.out; simp [ByteArray.size]; omega) ?_
      rw [show number (ByteArray.mk D.toArray).data.toList = number (digits a) from by rw [← HD.out], HN.out, if_neg HF.out]
      go_wp2_with (fail)
      refine alive_calls _ _ ?_
      intro w2 hb2
      replace hb2 := below_then hb1 hb2
      clear hb1
      go_wp2_with (fail)
      refine digits_calls a _ _ HA.out.1 ?_
      intro w3 hb3
      rw [← HD.out]
      replace hb3 := below_then hb2 hb3
      clear hb2
      go_wp2_with (fail)
      refine digits_calls b _ _ HA.out.2 ?_
      intro w4 hb4
      rw [← HE.out]
      replace hb4 := below_then hb3 hb4
      clear hb3
      have e1 : (D == E) = (a == b) := HDE.out
      cases hab : (a == b)
      all_goals
        rw [hab] at e1
        go_wp2_with (fail)
        exact HR.out _ hb4

end Go.Proofs.Ytalgnpgpbbjgpaa
