/- The walks of a store's Keep, SetPrio, SetPart and of mate. Plain contracts, no conditions but those that each names. -/
import Derived.Test.YteecekijekegdaaKg
namespace Go.Proofs.Yteecekijekegdaa
open Go.RowKit

/-- One record turned. -/
def upd (L : List InstD) (n : Int) (f : InstD → InstD) : List InstD := match L[(n - 1).toNat]? with
  | some x => L.set (n - 1).toNat (f x)
  | none => L
theorem upd_some (L : List InstD) (k : Nat) (x : InstD) (f : InstD → InstD) (h : L[k]? = some x) : upd L ((k : Int) + 1) f = L.set k (f x) := by
  unfold upd
  rw [show ((k : Int) + 1 - 1).toNat = k by omega, h]
theorem mayE_zero (L : List InstD) (party : ByteArray) (n : Int) (h : mayE L party n = 0) : ∃ (k : Nat) (x : InstD), n = (k : Int) + 1 ∧ L[k]? = some x ∧ k < L.length ∧ x.t.party = party ∧ 0 ≤ x.state ∧ x.state ≤ 2 := by
  rcases pick L n with hn | ⟨k, x, rfl, hx, hk⟩
  · rw [mayE_none L party n hn] at h; omega
  · rw [mayE_some L party k x hx] at h
    unfold mayX at h
    split at h
    · split at h
      · exact ⟨k, x, rfl, hx, hk, by assumption, by omega, by omega⟩
      · omega
    · omega
/-- What a call leaves of the store's and the other memory. -/
theorem BookS.keepOf {B : Nat} {w w' : World} {gb : Nat} {v : Value} {L : List InstD} (_h : BookS B w gb v L) (k : Below w.heap.size w w') : Keep (fun i => v.ownBlock = some i) w w' := (Keep.of_below k).none
/-- One cell of the row written. -/
theorem keep_put {v : Value} {n g : Nat} {a w : World} (h : Keep (fun i => v.ownBlock = some i) a w) (hv : Value.rowOf v n g) (o : Nat) (u : Value) : Keep (fun i => v.ownBlock = some i) a (w.setCell ⟨g, o, none⟩ u) :=
  h.setCell (p := ⟨g, o, none⟩) (.inl (by obtain ⟨cap, _, _, rfl⟩ := hv; rfl)) u

def keepL (L : List InstD) (party : ByteArray) (n : Int) : List InstD := if mayE L party n = 0 then upd L n (fun x => { x with wish := false }) else L
theorem keep_calls (B : Nat) (gb : Nat) (v : Value) (L : List InstD) (party : ByteArray) (n : Int) (w : World) (R : Ending → World → Prop) (hB : BookS B w gb v L)
    (hR : ∀ w', BookS B w' gb v (keepL L party n) → Keep (fun i => v.ownBlock = some i) w w' → R (.returned (.int .i64 (mayE L party n))) w') :
    Calls Try.prog 17 #[.pointer (some ⟨gb, 0, none⟩), .string party, .int .i64 n] w R := by
  have HR := Hid.mk hR
  have HB := Hid.mk hB
  clear hR hB
  unfold keepL at HR
  obtain ⟨e, he⟩ : ∃ e, e = mayE L party n := ⟨_, rfl⟩
  rw [← he] at HR
  by_cases h0 : e = 0
  · obtain ⟨k, x, rfl, hx, hk, -, -, -⟩ := mayE_zero L party n (by rw [← he]; exact h0)
    rw [if_pos h0, upd_some L k x _ hx] at HR
    rcases HB.out.form with ⟨rfl, rfl⟩ | ⟨g, hg, _⟩
    · simp at hk
    · have HK := Hid.mk hk
      have HX := Hid.mk hx
      have HG := Hid.mk hg
      subst h0
      have HE := Hid.mk he
      clear hk hx hg he
      go_enter Try.func17, Try.ntmps17
      go_wp2_with (fail)
      refine may_calls B gb v L party _ _ _ HB.out ?_
      intro w1 hb1
      rw [← HE.out]
      have HB1 := Hid.mk (HB.out.below hb1)
      have HK1 := Hid.mk (HB.out.keepOf hb1)
      have c16 : w1.cell? ⟨g, k * 21 + 16, none⟩ = some (.bool x.wish) := by rw [HB1.out.at_ HG.out HX.out 16 (by omega)]; rfl
      have f16 : w1.frozen? ⟨g, k * 21 + 16, none⟩ = false := HB1.out.free HG.out _
      clear hb1
      go_wp2_with (fail)
      refine at_some B gb v L k g _ _ HB1.out HK.out HG.out ?_
      go_wp2_with (fail)
      exact HR.out _ (HB1.out.put HG.out HX.out { x with wish := false } 16 (by omega) _ rfl) (keep_put HK1.out HG.out _ _)
  · rw [if_neg h0] at HR
    have h1 : (e == 0) = false := by simpa using h0
    clear h0
    have HE := Hid.mk he
    clear he
    go_enter Try.func17, Try.ntmps17
    go_wp2_with (fail)
    refine may_calls B gb v L party _ _ _ HB.out ?_
    intro w1 hb1
    rw [← HE.out]
    have HB1 := Hid.mk (HB.out.below hb1)
    have HK1 := Hid.mk (HB.out.keepOf hb1)
    clear hb1
    go_wp2_with (fail)
    exact HR.out _ HB1.out HK1.out
end Go.Proofs.Yteecekijekegdaa
