/- The walk of the law MoneyShares: it answers true at every amount and list of parts, and leaves old memory as it was. -/
import Derived.Test.YtalgnpgpbbjgpaaMh
namespace Go.Proofs.Ytalgnpgpbbjgpaa
open Go.RowKit

def OffS (a o n : Int) : Prop := a < 0 ∨ 1152921504606846976 < a ∨ o < 1 ∨ 1152921504606846976 < o ∨ 100 < n
def sf (a d o : Int) : Int := a * d / o
theorem sf_le (a d o : Int) (ha : 0 ≤ a) (ho : 1 ≤ o) (h : d ≤ o) : sf a d o ≤ a := by
  unfold sf
  have t1 : a * d ≤ a * o := Int.mul_le_mul_of_nonneg_left h ha
  have t2 := Int.ediv_le_ediv (show (0 : Int) < o by omega) t1
  rwa [Int.mul_ediv_cancel _ (by omega)] at t2
theorem sf_mono (a d e o : Int) (ha : 0 ≤ a) (ho : 1 ≤ o) (h : d ≤ e) : sf a d o ≤ sf a e o :=
  Int.ediv_le_ediv (by omega) (Int.mul_le_mul_of_nonneg_left h ha)
theorem sf_all (a o : Int) (ho : 1 ≤ o) : sf a o o = a := Int.mul_ediv_cancel _ (by omega)
theorem sf_zero (a o : Int) : sf a 0 o = 0 := by unfold sf; simp
theorem share_in (a d o : Int) (ha : 0 ≤ a) (ha2 : a ≤ 1152921504606846976) (hd : 0 ≤ d) (ho : 1 ≤ o) (h : d ≤ o) : share a d o = (sf a d o, 0) := by
  have := sf_le a d o ha ho h
  unfold share mulDiv
  rw [if_neg (by omega), if_neg (by omega), if_neg (by unfold sf at this; omega)]
  rfl

set_option maxHeartbeats 2000000 in
theorem moneyShares_calls (a o : Int) (xs : List Int) (A : Option Addr) (cap : Nat) (w : World) (R : Ending → World → Prop) (_ : I64 a) (_ : I64 o) (HI : Ints w A xs) (_ : xs.length * 8 ≤ 140737488351232)
    (hx : ∀ x ∈ xs, -9223372036854775808 ≤ x ∧ x ≤ 9223372036854775807) (hR : ∀ w', Below w.heap.size w w' → R (.returned (.bool true)) w') :
    Calls Try.prog 9 #[.int .i64 a, .int .i64 o, .slice A xs.length cap] w R := by
  have HR := Hid.mk hR
  have HX := Hid.mk hx
  clear hR hx
  by_cases hoff : OffS a o xs.length
  · go_enter Try.func9, Try.ntmps9
    go_upto_region 1 with (fail)
    go_cut [31] (fun v31 wc => v31 = .bool true ∧ wc = w)
    case first =>
      unfold OffS at hoff
      by_cases h1 : a < 0
      · clear hoff
        go_wp2_with (fail)
        go_meet
        case rel => exact ⟨rfl, rfl⟩
      by_cases h2 : 1152921504606846976 < a
      · clear hoff
        go_wp2_with (fail)
        go_meet
        case rel => exact ⟨rfl, rfl⟩
      by_cases h3 : o < 1
      · clear hoff
        go_wp2_with (fail)
        go_meet
        case rel => exact ⟨rfl, rfl⟩
      by_cases h4 : 1152921504606846976 < o
      · clear hoff
        go_wp2_with (fail)
        go_meet
        case rel => exact ⟨rfl, rfl⟩
      have h5 : 100 < (xs.length : Int) := by omega
      clear hoff
      go_wp2_with (fail)
      go_meet
      case rel => exact ⟨rfl, rfl⟩
    case rest =>
      obtain ⟨rfl, rfl⟩ := hcut
      go_wp2_with (fail)
      refine alive_calls _ _ ?_
      intro w3 hb3
      go_wp2_with (fail)
      exact HR.out _ hb3
  · unfold OffS at hoff
    have a0 : 0 ≤ a := by omega
    have a1 : a ≤ 1152921504606846976 := by omega
    have o0 : 1 ≤ o := by omega
    have o1 : o ≤ 1152921504606846976 := by omega
    have hl : xs.length ≤ 100 := by omega
    clear hoff
    go_enter Try.func9, Try.ntmps9
    go_upto_region 1 with (fail)
    go_cut [31] (fun v31 wc => v31 = .bool false ∧ wc = w)
    case first =>
      go_wp2_with (fail)
      go_meet
      case rel => exact ⟨by simp; omega, rfl⟩
    case rest =>
      obtain ⟨rfl, rfl⟩ := hcut
      go_wp2_with (fail)
      go_loopg [7, 8, 9, 10, 11, 12] (xs.length + 1) (fun g vd vp vi v10 v11 v12 wr => ∃ (k : Nat) (d p : Int), k ≤ xs.length + 1 ∧ vi = .int .i64 k ∧ vd = .int .i64 d ∧ vp = .int .i64 p ∧ 0 ≤ d ∧ d ≤ o ∧ Hid (p = sf a d o) ∧ Hid (k = xs.length + 1 → d = o) ∧ Hid (g = xs.length + 1 - k) ∧ Below wc.heap.size wc wr)
      case atStart => exact ⟨0, 0, 0, Nat.zero_le _, rfl, rfl, rfl, by omega, by omega, Hid.mk (sf_zero a o).symm, Hid.mk (fun h => by omega), Hid.mk rfl, Below.refl _ _⟩
      case round =>
        obtain ⟨k, d, p, hk, rfl, rfl, rfl, hd0, hd1, HP, HE, HG, HB⟩ := hrel
        by_cases hend : k = xs.length + 1
        · have hpa : p = a := by rw [HP.out, HE.out hend, sf_all a o o0]
          have hk1 : ¬ ((k : Int) ≤ (xs.length : Int)) := by omega
          subst hpa
          clear hend
          go_wp2_with (fail)
          refine alive_calls _ _ ?_
          intro w3 hb3
          go_wp2_with (fail)
          exact HR.out _ (below_then HB hb3)
        · by_cases hlast : k = xs.length
          · have HS := Hid.mk (share_in a o o a0 a1 (by omega) o0 (Int.le_refl o))
            have hps : p ≤ sf a o o := by rw [HP.out]; exact sf_mono a d o o a0 o0 hd1
            obtain ⟨s, hs⟩ : ∃ s, s = sf a o o := ⟨_, rfl⟩
            rw [← hs] at HS hps
            have HSS := Hid.mk hs
            have HK := Hid.mk hlast
            have hk1 : (k : Int) ≤ (xs.length : Int) := by omega
            have hk2 : ¬ ((k : Int) < (xs.length : Int)) := by omega
            clear hs hlast hend
            go_wp2_with (fail)
            refine share_calls a o o _ _ ⟨by omega, by omega⟩ ⟨by omega, by omega⟩ ⟨by omega, by omega⟩ ?_
            rw [HS.out]
            intro w1 hb1
            go_wp2_with (fail)
            go_roundg (xs.length + 1 - (k + 1))
            case measure => rw [HG.out]; have := HK.out; omega
            case rel => exact ⟨k + 1, o, s, by have := HK.out; omega, by go_num, rfl, rfl, by omega, by omega, HSS, Hid.mk (fun _ => rfl), Hid.mk rfl, below_then HB hb1⟩
          · have hlt : k < xs.length := by omega
            obtain ⟨x, hx⟩ : ∃ x, x = xs.getD k 0 := ⟨_, rfl⟩
            obtain ⟨b, off, rfl, hck⟩ := (HI.below HB).at_ k hlt
            rw [← hx] at hck
            have hxb : -9223372036854775808 ≤ x ∧ x ≤ 9223372036854775807 := by rw [hx]; exact HX.out _ (by simp [List.getD_eq_getElem?_getD, hlt])
            obtain ⟨hx1, hx2⟩ := hxb
            have HII := Hid.mk HI
            have hk1 : (k : Int) ≤ (xs.length : Int) := by omega
            clear hx HI hend hlast
            by_cases hneg : x < 0
            · go_wp2_with (fail)
              refine alive_calls _ _ ?_
              intro w3 hb3
              go_wp2_with (fail)
              exact HR.out _ (below_then HB hb3)
            · obtain ⟨nx, hnx⟩ : ∃ nx, nx = d + min x (o - d) := ⟨_, rfl⟩
              have hn1 : d ≤ nx ∧ nx ≤ o := by omega
              obtain ⟨hn1, hn2⟩ := hn1
              have HS := Hid.mk (share_in a nx o a0 a1 (by omega) o0 hn2)
              have hps : p ≤ sf a nx o := by rw [HP.out]; exact sf_mono a d nx o a0 o0 hn1
              obtain ⟨s, hs⟩ : ∃ s, s = sf a nx o := ⟨_, rfl⟩
              rw [← hs] at HS hps
              have HSS := Hid.mk hs
              have HN := Hid.mk hnx
              clear hs hnx
              by_cases hmin : x ≤ o - d
              · have e1 : d + x = nx := by have := HN.out; omega
                have hm : (min x (o - d)) = x := by omega
                go_wp2_with (fail)
                refine share_calls a nx o _ _ ⟨by omega, by omega⟩ ⟨by omega, by omega⟩ ⟨by omega, by omega⟩ ?_
                rw [HS.out]
                intro w1 hb1
                go_wp2_with (fail)
                go_roundg (xs.length + 1 - (k + 1))
                case measure => rw [HG.out]; omega
                case rel => exact ⟨k + 1, nx, s, by omega, by go_num, rfl, rfl, by omega, by omega, HSS, Hid.mk (fun h => by omega), Hid.mk rfl, below_then HB hb1⟩
              · have e1 : d + (o - d) = nx := by have := HN.out; omega
                have hm : (min x (o - d)) = o - d := by omega
                go_wp2_with (fail)
                refine share_calls a nx o _ _ ⟨by omega, by omega⟩ ⟨by omega, by omega⟩ ⟨by omega, by omega⟩ ?_
                rw [HS.out]
                intro w1 hb1
                go_wp2_with (fail)
                go_roundg (xs.length + 1 - (k + 1))
                case measure => rw [HG.out]; omega
                case rel => exact ⟨k + 1, nx, s, by omega, by go_num, rfl, rfl, by omega, by omega, HSS, Hid.mk (fun h => by omega), Hid.mk rfl, below_then HB hb1⟩
end Go.Proofs.Ytalgnpgpbbjgpaa
