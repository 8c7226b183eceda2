/- The walks of package life, third part: Do, and the law's first call. Plain contracts, no conditions but those that each names. -/
import Derived.Test.YtipllcmiemdamaaLb
namespace Go.Proofs.Ytipllcmiemdamaa
open Go.RowKit

def play1 (p : Int × Nat) (e : Int) : Int × Nat := if (nxt p.1 e).2 = true then ((nxt p.1 e).1, p.2 + 1) else p
def play (s : Int) (l : List Int) : Int × Nat := l.foldl play1 (s, 0)
theorem play_snoc (s : Int) (l : List Int) (e : Int) : play s (l ++ [e]) = play1 (play s l) e := by simp [play, List.foldl_append]
theorem play_le (s : Int) (l : List Int) : (play s l).2 ≤ l.length := by
  suffices h : ∀ (l : List Int) (p : Int × Nat), (l.foldl play1 p).2 ≤ p.2 + l.length by have := h l (s, 0); simp only [Nat.zero_add] at this; exact this
  intro l
  induction l with
  | nil => intro p; simp
  | cons e l ih =>
    intro p
    have h1 : (play1 p e).2 ≤ p.2 + 1 := by unfold play1; split <;> simp
    have := ih (play1 p e)
    simp only [List.foldl_cons, List.length_cons]
    omega

theorem do_nil (v : Value) (w : World) (R : Ending → World → Prop) (hR : R (.returned (.int .i64 0)) w) : Calls Try.prog 17 #[.pointer none, v] w R := by
  go_enter Try.func17, Try.ntmps17
  go_wp2
  exact hR

set_option maxHeartbeats 1000000 in
theorem do_some (g : Nat) (s d : Int) (xs : List Int) (b off cap : Nat) (w : World) (R : Ending → World → Prop) (h : IsLife w g s d) (hd : 0 ≤ d ∧ d ≤ 4611686018427387904) (hlen : xs.length ≤ maxLen) (hlen2 : xs.length ≤ 140737488351232)
    (hc : ∀ j, j < xs.length → w.cell? ⟨b, off + j, none⟩ = some (.int .i64 (xs.getD j 0))) (hne : 0 < xs.length → b ≠ g)
    (hR : ∀ w', Keep (fun i => i = g) w w' → IsLife w' g (play s xs).1 (min (d + (play s xs).2) 4611686018427387904) → R (.returned (.int .i64 (play s xs).2)) w') :
    Calls Try.prog 17 #[.pointer (some ⟨g, 0, none⟩), .slice (some ⟨b, off, none⟩) xs.length cap] w R := by
  unfold maxLen at hlen
  go_enter Try.func17, Try.ntmps17
  go_wp2
  go_loopg [5, 7, 8, 9, 14] (xs.length) (fun gg n e nx is i wr => ∃ (k : Nat) (st : Int) (m : Nat), k ≤ xs.length ∧ m ≤ k ∧ i = .int .i64 k ∧ n = .int .i64 m ∧ IsLife wr g st d ∧ Hid (play s (xs.take k) = (st, m)) ∧ Hid (gg = xs.length - k) ∧ Keep (fun i => i = g) w wr)
  case atStart => exact ⟨0, s, 0, Nat.zero_le _, Nat.zero_le _, rfl, rfl, h, Hid.mk rfl, Hid.mk rfl, Keep.refl _ _⟩
  case round =>
    obtain ⟨k, st, m, hk, hm, rfl, rfl, HL, HP, HG, HK⟩ := hrel
    have c0 := blk_cell HL 0
    have c1 := blk_cell HL 1
    simp only [List.getElem?_toArray, List.getElem?_cons_zero, List.getElem?_cons_succ] at c0 c1
    have f0 := blk_frozen HL 0
    have f1 := blk_frozen HL 1
    have hg := blk_lt HL
    clear h
    by_cases hlt : k < xs.length
    · obtain ⟨x, hx⟩ : ∃ x, x = xs.getD k 0 := ⟨_, rfl⟩
      have hck : wr.cell? ⟨b, off + k, none⟩ = some (.int .i64 x) := by rw [hx]; exact HK.cell (hc k hlt) (hne (by omega))
      have HX := Hid.mk hx
      clear hx hc
      obtain ⟨q, hq⟩ : ∃ q, q = nxt st x := ⟨_, rfl⟩
      obtain ⟨s2, is⟩ := q
      have HQ := Hid.mk hq
      clear hq
      have HS : Hid (play s (xs.take (k + 1)) = play1 (st, m) x) := Hid.mk (by rw [take_snoc _ _ hlt, play_snoc, HP.out, ← HX.out])
      cases is
      · go_wp2_with (go_at_call 7; refine next_calls st x wr _ ?_; rw [← HQ.out])
        go_roundg (xs.length - (k + 1))
        case measure => rw [HG.out]; omega
        case rel => exact ⟨k + 1, st, m, by omega, by omega, by go_num, rfl, blk_alloc HL _, Hid.mk (by rw [HS.out]; unfold play1; simp only [← HQ.out]; rfl), Hid.mk rfl, HK.alloc _⟩
      · go_wp2_with (go_at_call 7; refine next_calls st x wr _ ?_; rw [← HQ.out])
        go_roundg (xs.length - (k + 1))
        case measure => rw [HG.out]; omega
        case rel => exact ⟨k + 1, s2, m + 1, by omega, by omega, by go_num, by go_num, blk_alloc (blk_set HL 0 _) _, Hid.mk (by rw [HS.out]; unfold play1; simp only [← HQ.out]; rfl), Hid.mk rfl, (HK.setCell (.inl rfl) _).alloc _⟩
    · have HF : Hid (play s xs = (st, m)) := Hid.mk (by have := HP.out; rwa [List.take_of_length_le (by omega)] at this)
      rw [HF.out] at hR
      clear HP hc
      go_wp2
      · exact hR _ (HK.setCell (.inl rfl) _) (by rw [Int.min_eq_right (by omega)]; exact blk_set HL 1 _)
      · exact hR _ (HK.setCell (.inl rfl) _) (by rw [Int.min_eq_left (by omega)]; exact blk_set HL 1 _)

theorem do_empty (g : Nat) (s d : Int) (a : Option Addr) (cap : Nat) (w : World) (R : Ending → World → Prop) (h : IsLife w g s d) (hd : 0 ≤ d ∧ d ≤ 4611686018427387904)
    (hR : ∀ w', Keep (fun i => i = g) w w' → IsLife w' g s d → R (.returned (.int .i64 0)) w') :
    Calls Try.prog 17 #[.pointer (some ⟨g, 0, none⟩), .slice a 0 cap] w R := by
  have c0 := blk_cell h 0
  have c1 := blk_cell h 1
  simp only [List.getElem?_toArray, List.getElem?_cons_zero, List.getElem?_cons_succ] at c0 c1
  have f0 := blk_frozen h 0
  have f1 := blk_frozen h 1
  go_enter Try.func17, Try.ntmps17
  go_wp2
  refine wp_loop_rounds 1 ?_
  rw [rounds_succ]
  go_wp2
  have hk : Keep (fun i => i = g) w (w.setCell ⟨g, 1, none⟩ (.int .i64 d)) := Keep.setCell (Keep.refl (fun i => i = g) w) (.inl rfl) _
  exact hR _ hk (blk_set h 1 _)

theorem do_calls (g : Nat) (s d : Int) (xs : List Int) (A : Option Addr) (cap : Nat) (w : World) (R : Ending → World → Prop) (h : IsLife w g s d) (hd : 0 ≤ d ∧ d ≤ 4611686018427387904) (hlen2 : xs.length ≤ 140737488351232)
    (hi : Ints w A xs) (hne : ∀ b off, A = some ⟨b, off, none⟩ → 0 < xs.length → b ≠ g)
    (hR : ∀ w', Keep (fun i => i = g) w w' → IsLife w' g (play s xs).1 (min (d + (play s xs).2) 4611686018427387904) → R (.returned (.int .i64 (play s xs).2)) w') :
    Calls Try.prog 17 #[.pointer (some ⟨g, 0, none⟩), .slice A xs.length cap] w R := by
  obtain ⟨hl, rfl | ⟨b, off, rfl, hc⟩⟩ := hi
  · exact do_empty g s d A cap w R h hd (fun w' hk hl => hR w' hk (by simp only [play, List.foldl_nil, Int.natCast_zero, Int.add_zero]; rw [Int.min_eq_left hd.2]; exact hl))
  · exact do_some g s d xs b off cap w R h hd hl hlen2 hc (hne _ _ rfl) hR

theorem state_nil (w : World) (R : Ending → World → Prop) (hR : R (.returned (.int .i64 0)) w) : Calls Try.prog 18 #[.pointer none] w R := by
  go_enter Try.func18, Try.ntmps18
  go_wp2
  exact hR
theorem done_nil (w : World) (R : Ending → World → Prop) (hR : R (.returned (.int .i64 0)) w) : Calls Try.prog 19 #[.pointer none] w R := by
  go_enter Try.func19, Try.ntmps19
  go_wp2
  exact hR

theorem alive_calls (w : World) (R : Ending → World → Prop) (hR : ∀ w', Below w.heap.size w w' → R (.returned (.bool true)) w') : Calls Try.prog 11 #[] w R := by
  go_enter Try.func11, Try.ntmps11
  go_wp2_with (fail)
  refine next_calls 1 1 w _ ?_
  go_wp2_with (fail)
  refine new_calls _ _ ?_
  go_wp2_with (fail)
  obtain ⟨W, hW⟩ : ∃ W, W = ((w.alloc (Obj.cells #[Value.int IntKind.i64 1] 3)).alloc (Obj.cells #[Value.int IntKind.i64 0, Value.int IntKind.i64 0] 38)).alloc (Obj.cells #[Value.int IntKind.i64 1, Value.int IntKind.i64 0, Value.int IntKind.i64 1, Value.int IntKind.i64 2, Value.int IntKind.i64 3] 3) := ⟨_, rfl⟩
  have hl : IsLife W (w.heap.size + 1) 0 0 := by
    subst hW
    have := blk_new (w.alloc (Obj.cells #[Value.int IntKind.i64 1] 3)) (Obj.cells #[Value.int IntKind.i64 0, Value.int IntKind.i64 0] 38)
    rw [World.size_alloc] at this
    exact blk_alloc this _
  have hi : Ints W (some ⟨w.heap.size + 1 + 1, 0, none⟩) [1, 0, 1, 2, 3] := by
    subst hW
    have := Ints.new ((w.alloc (Obj.cells #[Value.int IntKind.i64 1] 3)).alloc (Obj.cells #[Value.int IntKind.i64 0, Value.int IntKind.i64 0] 38)) [1, 0, 1, 2, 3] 3 (by simp [maxLen])
    simpa using this
  have hb : Below w.heap.size w W := by subst hW; exact below_allocs (below_allocs (below_allocs (Below.refl _ _) _) _) _
  rw [← hW]
  clear hW
  refine do_calls (w.heap.size + 1) 0 0 [1, 0, 1, 2, 3] (some ⟨w.heap.size + 1 + 1, 0, none⟩) 5 W _ hl (by omega) (by simp) hi (fun b off h _ => by simp at h; omega) ?_
  intro w1 hk1 hl1
  have hp : play 0 [1, 0, 1, 2, 3] = (3, 3) := by decide
  rw [hp] at hl1 ⊢
  clear hp
  have hb1 : Below w.heap.size w w1 := hb.trans ⟨hk1.os, hk1.tape, hk1.output, hk1.size, fun k hk => hk1.block k (Nat.lt_of_lt_of_le hk hb.size) (fun e => by have : k = w.heap.size + 1 := e; omega)⟩
  clear hk1 hb hl hi
  go_wp2_with (fail)
  refine state_calls (w.heap.size + 1) 3 _ w1 _ hl1 ?_
  go_wp2_with (fail)
  refine name_calls 1 w1 _ ?_
  intro w2 hb2
  rw [show nameOf 1 = ⟨#[109, 97, 116, 99, 104, 101, 100]⟩ from rfl]
  go_wp2_with (fail)
  exact hb1.trans (hb2.mono hb1.size)
end Go.Proofs.Ytipllcmiemdamaa
