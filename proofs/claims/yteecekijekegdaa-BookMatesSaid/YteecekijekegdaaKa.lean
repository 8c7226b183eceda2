/- The walks of the store's small hands: strings.Clone, own, isPrio. -/
import Derived.Test.YteecekijekegdaaBase
import Derived.Test.YteecekijekegdaaShelf
namespace Go.Proofs.Yteecekijekegdaa
open Go.RowKit

theorem clone_calls (s : ByteArray) (w : World) (R : Ending → World → Prop) (hs : s.size ≤ 140737488351232) (hR : ∀ w', Below w.heap.size w w' → R (.returned (.string s)) w') :
    Calls Try.prog 36 #[.string s] w R := by
  have HR := Hid.mk hR
  have HS := Hid.mk hs
  clear hR hs
  go_enter Try.func36, Try.ntmps36
  go_wp2_with (fail)
  refine (Try.stringslite_Clone s w (Nat.le_trans HS.out (by omega))).mono ?_
  rintro e w' ⟨rfl, hb⟩
  go_wp2_with (fail)
  exact HR.out _ hb

theorem own_calls (a : Addr) (s : ByteArray) (w : World) (R : Ending → World → Prop) (hs : s.size ≤ 140737488351232) (hc : w.cell? a = some (.string s)) (hf : w.frozen? a = false)
    (hR : ∀ w', Below w.heap.size w w' → R (.returned (.tuple #[])) (w'.setCell a (.string s))) :
    Calls Try.prog 33 #[.pointer (some a)] w R := by
  have HR := Hid.mk hR
  have HS := Hid.mk hs
  have HC := Hid.mk (And.intro hc hf)
  clear hR hs
  go_enter Try.func33, Try.ntmps33
  go_wp2_with (fail)
  refine clone_calls s _ _ HS.out ?_
  intro w1 hb1
  have hlt := World.block_lt_of_cell? w a hc
  have hc1 : w1.cell? a = some (.string s) := by rw [hb1.cell hlt]; exact hc
  have hf1 : w1.frozen? a = false := by rw [hb1.frozen hlt]; exact hf
  clear hc hf
  go_wp2_with (fail)
  exact ⟨rfl, _, by simp [results, Try.results33, go_sem], HR.out _ hb1⟩

theorem prio_calls (n : Int) (w : World) (R : Ending → World → Prop) (hR : R (.returned (.bool (decide (1 ≤ n) && decide (n ≤ 4)))) w) : Calls Try.prog 24 #[.int .i64 n] w R := by
  have HR := Hid.mk hR
  clear hR
  by_cases h1 : 1 ≤ n
  · rw [decide_eq_true h1, Bool.true_and] at HR
    go_enter Try.func24, Try.ntmps24
    go_wp2_with (fail)
    exact HR.out
  · have h2 : n < 1 := by omega
    rw [decide_eq_false h1, Bool.false_and] at HR
    go_enter Try.func24, Try.ntmps24
    go_wp2_with (fail)
    exact HR.out
end Go.Proofs.Yteecekijekegdaa
