/- For the law BookMates: how many there are; a call with no numbers at all; what the law asks of each. Plain lemmas and contracts, no conditions but those that each names. -/
import Derived.Test.YteecekijekegdaaMa
import Derived.Test.YteecekijekegdaaKx
namespace Go.Proofs.Yteecekijekegdaa
open Go.RowKit

theorem hold_empty (gb : Nat) (p : ByteArray) (on : Bool) (A : Option Addr) (cap : Nat) (w : World) (R : Ending → World → Prop) (hR : R (.returned (.int .i64 0)) w) :
    Calls Try.prog 15 #[.pointer (some ⟨gb, 0, none⟩), .string p, .bool on, .slice A 0 cap] w R := by
  have HR := Hid.mk hR
  clear hR
  go_enter Try.func15, Try.ntmps15
  go_wp2_with (fail)
  refine wp_loop_rounds 1 ?_
  rw [rounds_succ]
  go_wp2_with (fail)
  refine wp_loop_rounds 1 ?_
  rw [rounds_succ]
  go_wp2_with (fail)
  exact HR.out
theorem expire_empty (gb : Nat) (A : Option Addr) (cap : Nat) (w : World) (R : Ending → World → Prop) (hR : R (.returned (.int .i64 0)) w) :
    Calls Try.prog 14 #[.pointer (some ⟨gb, 0, none⟩), .slice A 0 cap] w R := by
  have HR := Hid.mk hR
  clear hR
  go_enter Try.func14, Try.ntmps14
  go_wp2_with (fail)
  refine wp_loop_rounds 1 ?_
  rw [rounds_succ]
  go_wp2_with (fail)
  exact HR.out
theorem Ints.lt {w : World} {A : Option Addr} {xs : List Int} (h : Ints w A xs) (hne : xs ≠ []) : ∀ b off, A = some ⟨b, off, none⟩ → b < w.heap.size := by
  intro b off hA
  have hpos : 0 < xs.length := by cases xs with | nil => exact absurd rfl hne | cons _ _ => simp
  obtain ⟨b', off', h1, hc⟩ := h.at_ 0 hpos
  rw [hA] at h1
  injection h1 with h1
  injection h1 with h1 _
  subst h1
  exact World.block_lt_of_cell? w _ hc
theorem hold_old (w0 : World) (gb : Nat) (v : Value) (L : List InstD) (p : ByteArray) (on : Bool) (l : List Int) (A : Option Addr) (cap : Nat) (w : World) (R : Ending → World → Prop) (hO : Old w0 w gb v L) (hA : Ints w0 A l)
    (hR : ∀ w', Old w0 w' gb v (holdL L p on l) → Keep (fun i => v.ownBlock = some i) w w' → R (.returned (.int .i64 (holdE L p l))) w') :
    Calls Try.prog 15 #[.pointer (some ⟨gb, 0, none⟩), .string p, .bool on, .slice A l.length cap] w R := by
  cases l with
  | nil =>
    have e1 : holdE L p [] = 0 := rfl
    have e2 : holdL L p on [] = L := by unfold holdL; rw [e1, if_pos rfl]; rfl
    rw [e1, e2] at hR
    exact hold_empty gb p on A cap w R (hR w hO (Keep.refl _ _))
  | cons n r =>
    refine hold_calls w0.heap.size gb v L p on (n :: r) A cap w R hO.book (hA.below hO.old) ?_ (fun w' h1 h2 => hR w' (hO.step h1 h2) h2)
    intro b off hb hv
    have h1 := hA.lt (by simp) b off hb
    have h2 := (hO.book.own.lt b hv).1
    omega
theorem expire_old (w0 : World) (gb : Nat) (v : Value) (L : List InstD) (l : List Int) (A : Option Addr) (cap : Nat) (w : World) (R : Ending → World → Prop) (hO : Old w0 w gb v L) (hA : Ints w0 A l) (hl : l.length ≤ 1000)
    (hR : ∀ w', Old w0 w' gb v (expL L l).1 → Keep (fun i => v.ownBlock = some i) w w' → R (.returned (.int .i64 ((expL L l).2 : Int))) w') :
    Calls Try.prog 14 #[.pointer (some ⟨gb, 0, none⟩), .slice A l.length cap] w R := by
  cases l with
  | nil => exact expire_empty gb A cap w R (hR w hO (Keep.refl _ _))
  | cons n r =>
    refine expire_calls w0.heap.size gb v L (n :: r) A cap w R hO.book (hA.below hO.old) ?_ hl (fun w' h1 h2 => hR w' (hO.step h1 h2) h2)
    intro b off hb hv
    have h1 := hA.lt (by simp) b off hb
    have h2 := (hO.book.own.lt b hv).1
    omega
theorem len_add (L : List InstD) (t : TermD) (p : Int) (a b : Bool) (h : L.length ≤ 120) : (addL L t p a b).length ≤ 120 := by
  unfold addL
  split
  · rename_i he
    unfold addE at he
    split at he
    · split at he
      · cases he
      · simp; omega
    · cases he
  · exact h
theorem len_hold (L : List InstD) (p : ByteArray) (on : Bool) (l : List Int) : (holdL L p on l).length = L.length := by
  unfold holdL
  split
  · exact heldL_len _ _ _
  · rfl
theorem len_keep (L : List InstD) (p : ByteArray) (n : Int) : (keepL L p n).length = L.length := by
  unfold keepL
  split
  · exact upd_len _ _ _
  · rfl
theorem len_cancel (L : List InstD) (p : ByteArray) (n : Int) : (cancelL L p n).length = L.length := by
  unfold cancelL
  split
  · split
    · unfold cancelX
      split
      · exact doL_len _ _ _
      · split
        · simp
        · split
          · split
            · rw [doL_len]; simp
            · simp
          · simp
    · rfl
  · rfl
theorem len_pair (L : List InstD) (d r a : Int) : (pairL L d r a).length = L.length := by
  unfold pairL
  split
  · split
    · rw [doL_len]; simp
    · rfl
  · rfl
theorem len_settle (L : List InstD) (n q p : Int) : (settleL L n q p).length = L.length := by
  unfold settleL
  split
  · split
    · rfl
    · unfold settleX
      split
      · rw [doL_len]; simp
      · split
        · rw [doL_len]; simp
        · rfl
  · rfl
theorem len_exp (L : List InstD) (l : List Int) : (expL L l).1.length = L.length := by
  have : ∀ (l : List Int) (s : List InstD × Nat), (l.foldl (fun s n => ((expStep s.1 n).1, s.2 + (expStep s.1 n).2)) s).1.length = s.1.length := by
    intro l
    induction l with
    | nil => exact fun s => rfl
    | cons n l ih => exact fun s => (ih _).trans (expStep_len s.1 n).1
  exact this l (L, 0)
/-- What the law asks of one, by cases. -/
theorem mates_check {L : List InstD} (h : Inv L) {k : Nat} {x : InstD} (hx : L[k]? = some x) : (0 ≤ x.done ∧ x.done ≤ x.t.qty ∧ 0 ≤ x.paid) ∧
    ((x.mate = 0 ∧ x.state ≠ 3) ∨ ∃ (j : Nat) (y : InstD), L[j]? = some y ∧ x.mate = (j : Int) + 1 ∧ x.paid ≤ x.t.amount ∧ y.mate = x.id ∧ y.state = x.state ∧ y.done = x.done ∧ y.paid = x.paid ∧ y.t.deliver ≠ x.t.deliver ∧ y.t.amount = x.t.amount ∧
      ((x.state = 3 ∧ x.done = x.t.qty) ∨ (x.state ≠ 3 ∧ x.done ≠ x.t.qty) ∨ (x.state ≠ 3 ∧ x.done = x.t.qty ∧ ¬ 0 < x.t.qty) ∨ (x.state = 4 ∧ x.done = x.t.qty ∧ 0 < x.t.qty) ∨ (x.state = 5 ∧ x.done = x.t.qty ∧ 0 < x.t.qty))) := by
  obtain ⟨⟨p1, p2, p3, p4, p5, p6, p7⟩, hq⟩ := h.at_ hx
  refine ⟨⟨p2, p3, p7⟩, ?_⟩
  rcases hq with ha | ⟨j, y, hy, hh⟩
  · exact .inl ⟨ha.1, by have : x.state = 0 ∨ x.state = 4 ∨ x.state = 5 := ha.2.2.2; omega⟩
  · obtain ⟨q1, q2, q3, q4, q5, q6, q7, q8, q9, q10, q11, q12, q13⟩ := hh
    simp only [core] at p1 p2 p3 q1 q3 q4 q5 q6 q7 q8 q9 q10 q11 q12 q13
    exact .inr ⟨j, y, hy, q1, q10, by omega, q4, q5, q6, q7, q8, by omega⟩
/-- A slice of records, read. -/
theorem row_get {w : World} {B : Nat} {u : Value} {L : List InstD} (h : w.ownsRow B 32 21 u L.length (rows L)) : ∃ A cap, u = .slice A L.length cap ∧ L.length ≤ cap ∧ ∀ k x, L[k]? = some x → ∃ ga, A = some ⟨ga, 0, none⟩ ∧ w.rangeAt ga (k * 21) x.cells := by
  rcases h.2 with ⟨rfl, h0⟩ | ⟨ga, cap, cur, rfl, _, _, hc, _⟩
  · exact ⟨none, 0, by rw [h0], by omega, fun k x hk => by rw [List.eq_nil_of_length_eq_zero h0] at hk; simp at hk⟩
  · refine ⟨some ⟨ga, 0, none⟩, cap, rfl, hc, fun k x hk => ⟨ga, rfl, fun j v hv => ?_⟩⟩
    have hj : j < 21 := by have := (List.getElem?_eq_some_iff.1 hv).1; rwa [InstD.len] at this
    have hlt : k < L.length := (List.getElem?_eq_some_iff.1 hk).1
    rw [h.cellAt _ (by omega), rows_get L k x hk j hj, hv]
end Go.Proofs.Yteecekijekegdaa
