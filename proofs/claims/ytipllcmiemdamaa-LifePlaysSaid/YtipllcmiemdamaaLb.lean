/- The walks of package life, second part: names, and the object Life. Plain contracts, no conditions but those that each names. -/
import Derived.Test.YtipllcmiemdamaaLa
namespace Go.Proofs.Ytipllcmiemdamaa
open Go.RowKit

theorem below_allocs {w W : World} (h : Below w.heap.size w W) (o : Obj) : Below w.heap.size w (W.alloc o) := h.alloc h.size o

def nameOf (s : Int) : ByteArray :=
  if s = 0 then ⟨#[112, 101, 110, 100, 105, 110, 103]⟩ else if s = 1 then ⟨#[109, 97, 116, 99, 104, 101, 100]⟩ else if s = 2 then ⟨#[112, 97, 114, 116, 101, 100]⟩
  else if s = 3 then ⟨#[115, 101, 116, 116, 108, 101, 100]⟩ else if s = 4 then ⟨#[99, 97, 110, 99, 101, 108, 108, 101, 100]⟩ else if s = 5 then ⟨#[101, 120, 112, 105, 114, 101, 100]⟩ else ⟨#[]⟩

theorem name_calls (s : Int) (w : World) (R : Ending → World → Prop) (hR : ∀ w', Below w.heap.size w w' → R (.returned (.string (nameOf s))) w') :
    Calls Try.prog 12 #[.int .i64 s] w R := by
  by_cases h : 0 ≤ s ∧ s ≤ 5
  · have : s = 0 ∨ s = 1 ∨ s = 2 ∨ s = 3 ∨ s = 4 ∨ s = 5 := by omega
    clear h
    rcases this with rfl | rfl | rfl | rfl | rfl | rfl
    all_goals
      go_enter Try.func12, Try.ntmps12
      go_wp2
      exact below_allocs (Below.refl _ _) _
  · have hn : nameOf s = ⟨#[]⟩ := by
      unfold nameOf
      rw [if_neg (by omega), if_neg (by omega), if_neg (by omega), if_neg (by omega), if_neg (by omega), if_neg (by omega)]
    rw [hn] at hR
    clear hn
    by_cases h1 : s < 0
    · clear h
      go_enter Try.func12, Try.ntmps12
      go_wp2
      exact below_allocs (Below.refl _ _) _
    · have h2 : 6 ≤ s := by omega
      clear h
      go_enter Try.func12, Try.ntmps12
      go_wp2
      exact below_allocs (Below.refl _ _) _

theorem rname_calls (s : Int) (w : World) (R : Ending → World → Prop) (hR : ∀ w', Below w.heap.size w w' → R (.returned (.string (nameOf s))) w') :
    Calls Try.prog 13 #[.int .i64 s] w R := by
  by_cases h : 0 ≤ s ∧ s ≤ 5
  · have : s = 0 ∨ s = 1 ∨ s = 2 ∨ s = 3 ∨ s = 4 ∨ s = 5 := by omega
    clear h
    rcases this with rfl | rfl | rfl | rfl | rfl | rfl
    all_goals
      go_enter Try.func13, Try.ntmps13
      go_wp2
      exact below_allocs (Below.refl _ _) _
  · have hn : nameOf s = ⟨#[]⟩ := by
      unfold nameOf
      rw [if_neg (by omega), if_neg (by omega), if_neg (by omega), if_neg (by omega), if_neg (by omega), if_neg (by omega)]
    rw [hn] at hR
    clear hn
    by_cases h1 : s < 0
    · clear h
      go_enter Try.func13, Try.ntmps13
      go_wp2
      exact below_allocs (Below.refl _ _) _
    · have h2 : 6 ≤ s := by omega
      clear h
      go_enter Try.func13, Try.ntmps13
      go_wp2
      exact below_allocs (Below.refl _ _) _

theorem new_calls (w : World) (R : Ending → World → Prop) (hR : R (.returned (.pointer (some ⟨w.heap.size, 0, none⟩))) (w.alloc (.cells #[.int .i64 0, .int .i64 0] 38))) :
    Calls Try.prog 16 #[] w R := by
  go_enter Try.func16, Try.ntmps16
  go_wp2
  exact hR

/-- A life at block g. -/
def IsLife (w : World) (g : Nat) (s d : Int) : Prop := w.heap[g]? = some (.cells #[.int .i64 s, .int .i64 d] 38 (0, 0))

theorem state_calls (g : Nat) (s d : Int) (w : World) (R : Ending → World → Prop) (h : IsLife w g s d) (hR : R (.returned (.int .i64 s)) w) :
    Calls Try.prog 18 #[.pointer (some ⟨g, 0, none⟩)] w R := by
  have c0 := blk_cell h 0
  have c1 := blk_cell h 1
  simp only [List.getElem?_toArray, List.getElem?_cons_zero, List.getElem?_cons_succ] at c0 c1
  go_enter Try.func18, Try.ntmps18
  go_wp2

  exact hR
theorem done_calls (g : Nat) (s d : Int) (w : World) (R : Ending → World → Prop) (h : IsLife w g s d) (hR : R (.returned (.int .i64 d)) w) :
    Calls Try.prog 19 #[.pointer (some ⟨g, 0, none⟩)] w R := by
  have c0 := blk_cell h 0
  have c1 := blk_cell h 1
  simp only [List.getElem?_toArray, List.getElem?_cons_zero, List.getElem?_cons_succ] at c0 c1
  go_enter Try.func19, Try.ntmps19
  go_wp2
  exact hR
end Go.Proofs.Ytipllcmiemdamaa
