/- The walks of a store's Cancel, SetPrio and SetPart. Plain contracts, no conditions but those that each names. -/
import Derived.Test.YteecekijekegdaaKj
namespace Go.Proofs.Yteecekijekegdaa
open Go.RowKit

/-- Cancel: a pending one is cancelled; another has a wish, and where its mate has one, both are cancelled. -/
def cancelX (L : List InstD) (k : Nat) (x : InstD) : List InstD :=
  if x.state = 0 then (doL 3 L [some k]).1 else
  match mateI (L.set k { x with wish := true }) k x.mate with
  | none => L.set k { x with wish := true }
  | some i => match L[i]? with
    | some y => if y.wish then (doL 3 (L.set k { x with wish := true }) [some k, some i]).1 else L.set k { x with wish := true }
    | none => L.set k { x with wish := true }
def cancelL (L : List InstD) (party : ByteArray) (n : Int) : List InstD := if mayE L party n = 0 then (match L[(n - 1).toNat]? with
  | some x => cancelX L (n - 1).toNat x
  | none => L) else L
theorem cancelL_yes (L : List InstD) (party : ByteArray) (k : Nat) (x : InstD) (hx : L[k]? = some x) (h : mayE L party ((k : Int) + 1) = 0) : cancelL L party ((k : Int) + 1) = cancelX L k x := by
  unfold cancelL
  rw [if_pos h, show ((k : Int) + 1 - 1).toNat = k by omega, hx]
theorem ptrs (g : Nat) (l : List (Option Nat)) : (l.map (ptr g)).toArray = (l.map fun o => Value.pointer (o.map fun i => ⟨g, i * 21, none⟩)).toArray := rfl
theorem rowOf_ne {w : World} {B gb : Nat} {v : Value} {L : List InstD} (h : BookS B w gb v L) {g : Nat} (hv : Value.rowOf v L.length g) : g < w.heap.size ∧ B ≤ g ∧ g ≠ gb := by
  obtain ⟨cap, _, _, rfl⟩ := hv
  rcases h.form with ⟨h1, _⟩ | ⟨g', _, h1, h2, h3, h4⟩
  · simp at h1
  · have : g = g' := by simpa [Value.ownBlock] using h4
    subst this
    exact ⟨h2, h1, h3⟩

theorem mateI_form {L : List InstD} {k : Nat} {m : Int} {i : Nat} (h : mateI L k m = some i) : i < L.length ∧ i ≠ k ∧ m = (i : Int) + 1 := by
  unfold mateI at h
  split at h
  · simp at h
  · split at h
    · simp at h
    · simp at h; omega

theorem cancel_calls (B : Nat) (gb : Nat) (v : Value) (L : List InstD) (party : ByteArray) (n : Int) (w : World) (R : Ending → World → Prop) (hB : BookS B w gb v L)
    (hR : ∀ w', BookS B w' gb v (cancelL L party n) → Keep (fun i => v.ownBlock = some i) w w' → R (.returned (.int .i64 (mayE L party n))) w') :
    Calls Try.prog 16 #[.pointer (some ⟨gb, 0, none⟩), .string party, .int .i64 n] w R := by
  have HR := Hid.mk hR
  have HB := Hid.mk hB
  clear hR hB
  by_cases h0 : mayE L party n = 0
  · obtain ⟨k, x, rfl, hx, hk, -, -, -⟩ := mayE_zero L party n h0
    rw [cancelL_yes L party k x hx h0, h0] at HR
    rcases HB.out.form with ⟨rfl, rfl⟩ | ⟨g, hg, _⟩
    · simp at hk
    · have HK := Hid.mk hk
      have HX := Hid.mk hx
      have HG := Hid.mk hg
      have HE := Hid.mk h0
      clear hk hx hg h0
      unfold cancelX at HR
      by_cases hs : x.state = 0
      · rw [if_pos hs] at HR
        have HS := Hid.mk hs
        clear hs
        go_enter Try.func16, Try.ntmps16
        go_wp2_with (fail)
        refine may_calls B gb v L party _ _ _ HB.out ?_
        intro w1 hb1
        rw [HE.out]
        have HB1 := Hid.mk (HB.out.below hb1)
        have HK1 := Hid.mk (HB.out.keepOf hb1)
        have c17 : w1.cell? ⟨g, k * 21 + 17, none⟩ = some (.int .i64 0) := by rw [HB1.out.at_ HG.out HX.out 17 (by omega), ← HS.out]; rfl
        clear hb1
        go_wp2_with (fail)
        refine at_some B gb v L k g _ _ HB1.out HK.out HG.out ?_
        go_wp2_with (fail)
        refine do_calls B gb v L g w1.heap.size _ 3 [some k] 1 _ _ (HB1.out.alloc _) HG.out (blk_new _ _) (by have := rowOf_ne HB1.out HG.out; omega) (by simp) (by simp; exact HK.out) ?_
        intro w2 hb2 hk2
        have HB2 := Hid.mk hb2
        have HK2 := Hid.mk hk2
        clear hb2 hk2
        go_wp2_with (fail)
        exact HR.out _ HB2.out (HK1.out.trans ((Keep.refl _ _).alloc _ |>.trans HK2.out (fun _ _ h => h)) (fun _ _ h => h))
      · rw [if_neg hs] at HR
        have h1 : (x.state == 0) = false := by simpa using hs
        clear hs
        obtain ⟨s, hs⟩ : ∃ s, s = x.state := ⟨_, rfl⟩
        rw [← hs] at h1
        have HS := Hid.mk hs
        clear hs
        obtain ⟨x', hx'⟩ : ∃ x', x' = { x with wish := true } := ⟨_, rfl⟩
        rw [← hx'] at HR
        have hm : x'.mate = x.mate := by rw [hx']
        rw [← hm] at HR
        have HX' := Hid.mk hx'
        have HLX : Hid ((L.set k x')[k]? = some x') := Hid.mk (by simp [HK.out])
        have HG2 : Hid (Value.rowOf v (L.set k x').length g) := Hid.mk (by rw [List.length_set]; exact HG.out)
        clear hx' hm
        go_enter Try.func16, Try.ntmps16
        go_wp2_with (fail)
        refine may_calls B gb v L party _ _ _ HB.out ?_
        intro w1 hb1
        rw [HE.out]
        have HB1 := Hid.mk (HB.out.below hb1)
        have HK1 := Hid.mk (HB.out.keepOf hb1)
        have c17 : w1.cell? ⟨g, k * 21 + 17, none⟩ = some (.int .i64 s) := by rw [HB1.out.at_ HG.out HX.out 17 (by omega), HS.out]; rfl
        have c16 : w1.cell? ⟨g, k * 21 + 16, none⟩ = some (.bool x.wish) := by rw [HB1.out.at_ HG.out HX.out 16 (by omega)]; rfl
        have f16 : w1.frozen? ⟨g, k * 21 + 16, none⟩ = false := HB1.out.free HG.out _
        clear hb1
        go_wp2_with (fail)
        refine at_some B gb v L k g _ _ HB1.out HK.out HG.out ?_
        go_wp2_with (fail)
        have HB2 : Hid (BookS B (w1.setCell ⟨g, k * 21 + 16, none⟩ (.bool true)) gb v (L.set k x')) := Hid.mk (HB1.out.put HG.out HX.out x' 16 (by omega) _ (by rw [HX'.out]; rfl))
        have HK2 : Hid (Keep (fun i => v.ownBlock = some i) w (w1.setCell ⟨g, k * 21 + 16, none⟩ (.bool true))) := Hid.mk (keep_put HK1.out HG.out _ _)
        obtain ⟨w2, hw2⟩ : ∃ w2, w2 = w1.setCell ⟨g, k * 21 + 16, none⟩ (.bool true) := ⟨_, rfl⟩
        rw [← hw2] at HB2 HK2 ⊢
        clear hw2 c17 c16 f16
        refine mate_calls B gb v (L.set k x') k g x' _ _ HB2.out HLX.out HG2.out ?_
        obtain ⟨o, ho⟩ : ∃ o, o = mateI (L.set k x') k x'.mate := ⟨_, rfl⟩
        rw [← ho] at HR ⊢
        have HO := Hid.mk ho
        clear ho
        cases o with
        | none =>
          simp only [ptr, Option.map_none]
          dsimp only at HR
          go_wp2_with (fail)
          exact HR.out _ HB2.out HK2.out
        | some i =>
          dsimp only at HR
          obtain ⟨hi, hik, -⟩ := mateI_form HO.out.symm
          rw [List.length_set] at hi
          obtain ⟨y, hy⟩ : ∃ y, L[i]? = some y := ⟨L[i], by simp [hi]⟩
          have HY2 : Hid ((L.set k x')[i]? = some y) := Hid.mk (by rw [List.getElem?_set_ne (by omega)]; exact hy)
          rw [hy] at HR
          dsimp only at HR
          have HI := Hid.mk hi
          clear hi hy hik
          have c16 : w2.cell? ⟨g, i * 21 + 16, none⟩ = some (.bool y.wish) := by rw [HB2.out.at_ HG2.out HY2.out 16 (by omega)]; rfl
          obtain ⟨b, hb⟩ : ∃ b, b = y.wish := ⟨_, rfl⟩
          rw [← hb] at c16 HR
          clear hb
          simp only [ptr, Option.map_some]
          cases b with
          | false =>
            simp only [Bool.false_eq_true, if_false] at HR
            go_wp2_with (fail)
            exact HR.out _ HB2.out HK2.out
          | true =>
            simp only [if_true] at HR
            go_wp2_with (fail)
            refine do_calls B gb v (L.set k x') g w2.heap.size _ 3 [some k, some i] 2 _ _ (HB2.out.alloc _) HG2.out (blk_new _ _) (by have := rowOf_ne HB2.out HG2.out; omega) (by simp) (by simp; exact ⟨HK.out, HI.out⟩) ?_
            intro w3 hb3 hk3
            have HB3 := Hid.mk hb3
            have HK3 := Hid.mk hk3
            clear hb3 hk3
            go_wp2_with (fail)
            exact HR.out _ HB3.out (HK2.out.trans ((Keep.refl _ _).alloc _ |>.trans HK3.out (fun _ _ h => h)) (fun _ _ h => h))
  · have HE : Hid (cancelL L party n = L) := Hid.mk (by unfold cancelL; rw [if_neg h0])
    rw [HE.out] at HR
    obtain ⟨e, he⟩ : ∃ e, e = mayE L party n := ⟨_, rfl⟩
    rw [← he] at HR h0
    have h1 : (e == 0) = false := by simpa using h0
    clear h0
    have HE := Hid.mk he
    clear he
    go_enter Try.func16, Try.ntmps16
    go_wp2_with (fail)
    refine may_calls B gb v L party _ _ _ HB.out ?_
    intro w1 hb1
    rw [← HE.out]
    have HB1 := Hid.mk (HB.out.below hb1)
    have HK1 := Hid.mk (HB.out.keepOf hb1)
    clear hb1
    go_wp2_with (fail)
    exact HR.out _ HB1.out HK1.out
end Go.Proofs.Yteecekijekegdaa
