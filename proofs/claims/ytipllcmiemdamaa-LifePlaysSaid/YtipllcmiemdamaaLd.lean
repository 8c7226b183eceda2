/- The walk of the law LifeNext: it answers true at every state, event and list, and leaves old memory as it was. -/
import Derived.Test.YtipllcmiemdamaaLc
namespace Go.Proofs.Ytipllcmiemdamaa
open Go.RowKit

theorem Ints.below {w w' : World} {A : Option Addr} {xs : List Int} (h : Ints w A xs) (k : Below w.heap.size w w') : Ints w' A xs := h.keep (Keep.of_below k) (fun _ _ _ h => h)
theorem Ints.at_ {w : World} {A : Option Addr} {xs : List Int} (h : Ints w A xs) (k : Nat) (hk : k < xs.length) : ∃ b off, A = some ⟨b, off, none⟩ ∧ w.cell? ⟨b, off + k, none⟩ = some (.int .i64 (xs.getD k 0)) := by
  obtain ⟨_, rfl | ⟨b, off, rfl, hc⟩⟩ := h
  · simp at hk
  · exact ⟨b, off, rfl, hc k hk⟩
theorem below_then {w w1 w2 : World} (h : Below w.heap.size w w1) (k : Below w1.heap.size w1 w2) : Below w.heap.size w w2 := h.trans (k.mono h.size)

set_option maxHeartbeats 1000000 in
theorem lifeNext_calls (s e : Int) (xs : List Int) (A : Option Addr) (cap : Nat) (w : World) (R : Ending → World → Prop) (_ : -9223372036854775808 ≤ s ∧ s ≤ 9223372036854775807) (_ : -9223372036854775808 ≤ e ∧ e ≤ 9223372036854775807) (HI : Ints w A xs) (_ : xs.length * 8 ≤ 140737488351232) (_ : ∀ x ∈ xs, -9223372036854775808 ≤ x ∧ x ≤ 9223372036854775807) (hR : ∀ w', Below w.heap.size w w' → R (.returned (.bool true)) w') :
    Calls Try.prog 3 #[.int .i64 s, .int .i64 e, .slice A xs.length cap] w R := by
  have hlen := HI.1
  unfold maxLen at hlen
  obtain ⟨q, hq⟩ : ∃ q, q = nxt s e := ⟨_, rfl⟩
  obtain ⟨s2, is⟩ := q
  have HQ := Hid.mk hq
  clear hq
  obtain ⟨W, hW⟩ : ∃ W, W = w.alloc (.cells #[.int .i64 s] 3) := ⟨_, rfl⟩
  have hbW : Below w.heap.size w W := by subst hW; exact below_allocs (Below.refl _ _) _
  have HI1 := HI.below hbW
  have HWE := Hid.mk hW
  clear hW HI
  go_enter Try.func3, Try.ntmps3
  go_wp2_with (fail)
  refine next_calls s e w _ ?_
  rw [← HQ.out, ← HWE.out]
  go_wp2_with (fail)
  refine rnext_calls s e W _ ?_
  rw [← HQ.out]
  go_wp2_with (fail)
  go_loopg [11, 12, 13] (xs.length) (fun gg o v i wr => ∃ (k : Nat) (p q : Bool), k ≤ xs.length ∧ i = .int .i64 k ∧ o = .bool p ∧ v = .bool q ∧ Hid (allB (xs.take k) 0 2 = p) ∧ Hid (allB (xs.take k) 3 5 = q) ∧ Hid (gg = xs.length - k) ∧ wr = W)
  case atStart => exact ⟨0, true, true, Nat.zero_le _, rfl, rfl, rfl, Hid.mk rfl, Hid.mk rfl, Hid.mk rfl, rfl⟩
  case round =>
    obtain ⟨k, p, q, hk, rfl, rfl, rfl, HP, HQ2, HG, rfl⟩ := hrel
    by_cases hlt : k < xs.length
    · obtain ⟨x, hx⟩ : ∃ x, x = xs.getD k 0 := ⟨_, rfl⟩
      obtain ⟨b, off, rfl, hck⟩ := HI1.at_ k hlt
      rw [← hx] at hck
      have HX := Hid.mk hx
      clear hx HI1
      have HS1 : Hid (allB (xs.take (k + 1)) 0 2 = (p && (decide (0 ≤ x) && decide (x ≤ 2)))) := Hid.mk (by rw [take_snoc _ _ hlt, allB_snoc, HP.out, ← HX.out])
      have HS2 : Hid (allB (xs.take (k + 1)) 3 5 = (q && (decide (3 ≤ x) && decide (x ≤ 5)))) := Hid.mk (by rw [take_snoc _ _ hlt, allB_snoc, HQ2.out, ← HX.out])
      cases p <;> cases q
      all_goals
        go_wp2_with (first | (go_at_call 9; refine ropen_calls x wr _ ?_) | (go_at_call 10; refine rover_calls x wr _ ?_))
        go_roundg (xs.length - (k + 1))
        case measure => rw [HG.out]; omega
        case rel => exact ⟨k + 1, _, _, by omega, by go_num, rfl, rfl, HS1, HS2, Hid.mk rfl, rfl⟩
    · have HP' : Hid (allB xs 0 2 = p) := Hid.mk (by have := HP.out; rwa [List.take_of_length_le (by omega)] at this)
      have HQ' : Hid (allB xs 3 5 = q) := Hid.mk (by have := HQ2.out; rwa [List.take_of_length_le (by omega)] at this)
      clear HP HQ2
      go_wp2_with (fail)
      refine alive_calls _ _ ?_
      intro w1 hb1
      go_wp2_with (fail)
      refine name_calls s _ _ ?_
      intro w2 hb2
      go_wp2_with (fail)
      refine rname_calls s _ _ ?_
      intro w3 hb3
      go_wp2_with (fail)
      have hb : Below wr.heap.size wr w3 := below_then hb1 (below_then hb2 hb3)
      refine open_calls xs _ cap w3 _ (HI1.below hb) ?_
      rw [HP'.out]
      cases p
      all_goals
        go_wp2_with (fail)
        refine over_calls xs _ cap w3 _ (HI1.below hb) ?_
        rw [HQ'.out]
        cases q
        all_goals
          go_wp2_with (fail)
          exact below_then hbW hb
end Go.Proofs.Ytipllcmiemdamaa
