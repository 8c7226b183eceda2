/- The walks of a store's Expire and of its List of all. Plain contracts, no conditions but those that each names. -/
import Derived.Test.YteecekijekegdaaKo
namespace Go.Proofs.Yteecekijekegdaa
open Go.RowKit

/-- One instruction and its mate expire, if it is open. -/
def expStep (L : List InstD) (n : Int) : List InstD × Nat := if n < 1 then (L, 0) else match L[(n - 1).toNat]? with
  | none => (L, 0)
  | some x => if 0 ≤ x.state ∧ x.state ≤ 2 then doL 4 L [some (n - 1).toNat, mateI L (n - 1).toNat x.mate] else (L, 0)
def expL (L : List InstD) (l : List Int) : List InstD × Nat := l.foldl (fun s n => ((expStep s.1 n).1, s.2 + (expStep s.1 n).2)) (L, 0)
theorem expL_snoc (L : List InstD) (l : List Int) (n : Int) : expL L (l ++ [n]) = ((expStep (expL L l).1 n).1, (expL L l).2 + (expStep (expL L l).1 n).2) := by unfold expL; simp
theorem doL_from (e : Int) (l : List (Option Nat)) : ∀ s : List InstD × Nat, (l.foldl (fun s o => ((doStep e s.1 o).1, s.2 + (doStep e s.1 o).2)) s).1.length = s.1.length ∧ (l.foldl (fun s o => ((doStep e s.1 o).1, s.2 + (doStep e s.1 o).2)) s).2 ≤ s.2 + l.length := by
  induction l with
  | nil => exact fun s => ⟨rfl, by simp⟩
  | cons o l ih =>
    intro s
    have h := ih ((doStep e s.1 o).1, s.2 + (doStep e s.1 o).2)
    have h1 := doStep_le e s.1 o
    have h2 := doStep_len e s.1 o
    simp only [List.foldl_cons, List.length_cons]
    refine ⟨h.1.trans h2, Nat.le_trans h.2 ?_⟩
    simp only
    omega
theorem doL_len (e : Int) (L : List InstD) (l : List (Option Nat)) : (doL e L l).1.length = L.length := (doL_from e l (L, 0)).1
theorem doL_le (e : Int) (L : List InstD) (l : List (Option Nat)) : (doL e L l).2 ≤ l.length := by
  have := (doL_from e l (L, 0)).2
  unfold doL
  simpa using this
theorem expStep_none (L : List InstD) (n : Int) (h : n < 1 ∨ (L.length : Int) < n) : expStep L n = (L, 0) := by
  unfold expStep
  by_cases h1 : n < 1
  · rw [if_pos h1]
  · rw [if_neg h1, List.getElem?_eq_none (by omega)]
theorem expStep_some (L : List InstD) (k : Nat) (x : InstD) (hx : L[k]? = some x) : expStep L ((k : Int) + 1) = if 0 ≤ x.state ∧ x.state ≤ 2 then doL 4 L [some k, mateI L k x.mate] else (L, 0) := by
  unfold expStep
  rw [if_neg (by omega), show ((k : Int) + 1 - 1).toNat = k by omega, hx]
theorem expStep_len (L : List InstD) (n : Int) : (expStep L n).1.length = L.length ∧ (expStep L n).2 ≤ 2 := by
  unfold expStep
  split
  · exact ⟨rfl, by omega⟩
  · split
    · exact ⟨rfl, by omega⟩
    · split
      · exact ⟨doL_len _ _ _, doL_le _ _ _⟩
      · exact ⟨rfl, by omega⟩

theorem expire_calls (B : Nat) (gb : Nat) (v : Value) (L : List InstD) (l : List Int) (A : Option Addr) (cap : Nat) (w : World) (R : Ending → World → Prop) (hB : BookS B w gb v L)
    (hA : Ints w A l) (hfar : ∀ b off, A = some ⟨b, off, none⟩ → v.ownBlock ≠ some b) (hl : l.length ≤ 1000)
    (hR : ∀ w', BookS B w' gb v (expL L l).1 → Keep (fun i => v.ownBlock = some i) w w' → R (.returned (.int .i64 ((expL L l).2 : Int))) w') :
    Calls Try.prog 14 #[.pointer (some ⟨gb, 0, none⟩), .slice A l.length cap] w R := by
  have HR := Hid.mk hR
  have HB := Hid.mk hB
  have HA := Hid.mk hA
  have HF := Hid.mk hfar
  clear hR hB hA hfar
  obtain ⟨m, hm⟩ : ∃ m, m = l.length := ⟨_, rfl⟩
  rw [← hm] at hl
  rw [← hm]
  have HM := Hid.mk hm
  clear hm
  go_enter Try.func14, Try.ntmps14
  go_wp2_with (fail)
  go_loopg [5, 11] m (fun gg vn vi wr => ∃ (k cnt : Nat) (Lk : List InstD), k ≤ m ∧ vi = .int .i64 k ∧ vn = .int .i64 cnt ∧ cnt ≤ 2 * k ∧ Hid (expL L (l.take k) = (Lk, cnt)) ∧ Hid (BookS B wr gb v Lk) ∧ Hid (Keep (fun i => v.ownBlock = some i) w wr) ∧ Hid (gg = m - k))
  case atStart => exact ⟨0, 0, L, by omega, rfl, rfl, by omega, Hid.mk rfl, HB, Hid.mk (Keep.refl _ _), Hid.mk rfl⟩
  case round =>
    obtain ⟨k, cnt, Lk, hk, rfl, rfl, hcnt, HL, HBk, HKk, HGG⟩ := hrel
    by_cases hlt : k < m
    · have hint := HA.out.keep HKk.out (fun b off e => HF.out b off e)
      obtain ⟨b, off, hAe, hc⟩ := hint.at_ k (by rw [← HM.out]; exact hlt)
      have hts : l.take (k + 1) = l.take k ++ [l.getD k 0] := take_snoc l k (by rw [← HM.out]; exact hlt)
      obtain ⟨n, hn⟩ : ∃ n, n = l.getD k 0 := ⟨_, rfl⟩
      rw [← hn] at hc hts
      have HE : Hid (expL L (l.take (k + 1)) = ((expStep Lk n).1, cnt + (expStep Lk n).2)) := Hid.mk (by rw [hts, expL_snoc, HL.out])
      subst hAe
      clear hn hint hts
      rcases pick Lk n with hn | ⟨i, x, rfl, hx, hi⟩
      · rw [expStep_none Lk n hn] at HE
        have HN := Hid.mk hn
        clear hn
        go_wp2_with (fail)
        refine at_none B gb v Lk n _ _ HBk.out HN.out ?_
        go_wp2_with (fail)
        go_roundg (m - (k + 1))
        case measure => rw [HGG.out]; omega
        case rel => exact ⟨k + 1, cnt, Lk, by omega, by go_num, rfl, by omega, HE, HBk, HKk, Hid.mk rfl⟩
      · rw [expStep_some Lk i x hx] at HE
        obtain ⟨g, hg⟩ : ∃ g, Value.rowOf v Lk.length g := by
          rcases HBk.out.form with ⟨_, h⟩ | ⟨g, h, _⟩
          · rw [h] at hi; simp at hi
          · exact ⟨g, h⟩
        have c17 : wr.cell? ⟨g, i * 21 + 17, none⟩ = some (.int .i64 x.state) := by rw [HBk.out.at_ hg hx 17 (by omega)]; rfl
        have HX := Hid.mk hx
        have HI := Hid.mk hi
        have HG := Hid.mk hg
        obtain ⟨s, hs⟩ : ∃ s, s = x.state := ⟨_, rfl⟩
        rw [← hs] at c17 HE
        clear hx hi hg hs
        by_cases ho : 0 ≤ s ∧ s ≤ 2
        · rw [if_pos ho] at HE
          have hb : (decide (0 ≤ s) && decide (s ≤ 2)) = true := by simp; omega
          clear ho
          go_wp2_with (fail)
          refine at_some B gb v Lk i g _ _ HBk.out HI.out HG.out ?_
          go_wp2_with (fail)
          refine open_one s _ _ ?_
          rw [hb]
          obtain ⟨w1, hw1⟩ : ∃ w1, w1 = wr.alloc (.cells #[.int .i64 s] 3) := ⟨_, rfl⟩
          have HB1 : Hid (BookS B w1 gb v Lk) := Hid.mk (by rw [hw1]; exact HBk.out.alloc _)
          have HK1 : Hid (Keep (fun i => v.ownBlock = some i) w w1) := Hid.mk (by rw [hw1]; exact HKk.out.alloc _)
          rw [← hw1]
          clear hw1 c17 hc
          go_wp2_with (fail)
          refine mate_calls B gb v Lk i g x _ _ HB1.out HX.out HG.out ?_
          obtain ⟨o, hoo⟩ : ∃ o, o = mateI Lk i x.mate := ⟨_, rfl⟩
          rw [← hoo] at HE ⊢
          have hin : Hid (∀ j, some j ∈ [some i, o] → j < Lk.length) := Hid.mk (by
            intro j hj
            simp at hj
            rcases hj with rfl | hj
            · exact HI.out
            · rw [hoo] at hj; exact (mateI_form hj.symm).1)
          clear hoo
          have hle := doL_le 4 Lk [some i, o]
          obtain ⟨r, hr⟩ : ∃ r, r = doL 4 Lk [some i, o] := ⟨_, rfl⟩
          rw [← hr] at HE hle
          have HRR := Hid.mk hr
          clear hr
          simp only [List.length_cons, List.length_nil] at hle
          obtain ⟨r1, r2⟩ := r
          dsimp only at hle
          cases o with
          | none =>
            simp only [ptr, Option.map_none]
            go_wp2_with (fail)
            refine do_calls B gb v Lk g w1.heap.size _ 4 [some i, none] 2 _ _ (HB1.out.alloc _) HG.out (blk_new _ _) (by have := rowOf_ne HB1.out HG.out; omega) (by simp) hin.out ?_
            rw [← HRR.out]
            intro w2 hb2 hk2
            have HB2 := Hid.mk hb2
            have HK2 : Hid (Keep (fun i => v.ownBlock = some i) w w2) := Hid.mk (HK1.out.trans ((Keep.refl _ _).alloc _ |>.trans hk2 (fun _ _ h => h)) (fun _ _ h => h))
            clear hb2 hk2
            go_wp2_with (fail)
            go_roundg (m - (k + 1))
            case measure => rw [HGG.out]; omega
            case rel => exact ⟨k + 1, cnt + r2, r1, by omega, by go_num, by go_num, by omega, HE, HB2, HK2, Hid.mk rfl⟩
          | some j =>
            simp only [ptr, Option.map_some]
            go_wp2_with (fail)
            refine do_calls B gb v Lk g w1.heap.size _ 4 [some i, some j] 2 _ _ (HB1.out.alloc _) HG.out (blk_new _ _) (by have := rowOf_ne HB1.out HG.out; omega) (by simp) hin.out ?_
            rw [← HRR.out]
            intro w2 hb2 hk2
            have HB2 := Hid.mk hb2
            have HK2 : Hid (Keep (fun i => v.ownBlock = some i) w w2) := Hid.mk (HK1.out.trans ((Keep.refl _ _).alloc _ |>.trans hk2 (fun _ _ h => h)) (fun _ _ h => h))
            clear hb2 hk2
            go_wp2_with (fail)
            go_roundg (m - (k + 1))
            case measure => rw [HGG.out]; omega
            case rel => exact ⟨k + 1, cnt + r2, r1, by omega, by go_num, by go_num, by omega, HE, HB2, HK2, Hid.mk rfl⟩
        · rw [if_neg ho] at HE
          have hb : (decide (0 ≤ s) && decide (s ≤ 2)) = false := by simp; omega
          clear ho
          go_wp2_with (fail)
          refine at_some B gb v Lk i g _ _ HBk.out HI.out HG.out ?_
          go_wp2_with (fail)
          refine open_one s _ _ ?_
          rw [hb]
          have HB1 : Hid (BookS B (wr.alloc (.cells #[.int .i64 s] 3)) gb v Lk) := Hid.mk (HBk.out.alloc _)
          have HK1 : Hid (Keep (fun i => v.ownBlock = some i) w (wr.alloc (.cells #[.int .i64 s] 3))) := Hid.mk (HKk.out.alloc _)
          go_wp2_with (fail)
          go_roundg (m - (k + 1))
          case measure => rw [HGG.out]; omega
          case rel => exact ⟨k + 1, cnt, Lk, by omega, by go_num, rfl, by omega, HE, HB1, HK1, Hid.mk rfl⟩
    · obtain rfl : k = m := by omega
      have HL2 : Hid (expL L l = (Lk, cnt)) := Hid.mk (by have := HL.out; rwa [List.take_of_length_le (by rw [HM.out]; omega)] at this)
      rw [HL2.out] at HR
      go_wp2_with (fail)
      exact HR.out _ HBk.out HKk.out
end Go.Proofs.Yteecekijekegdaa
