/- For the rows of the store's laws: an argument that is a term, an op, or a slice of them, opened: what its cells hold, and that its texts are no longer than a text can be. Plain lemmas, no conditions. -/
import Derived.Test.YteecekijekegdaaRowKit
import Derived.Test.YteecekijekegdaaKt
import Derived.Deep.Slices
import Derived.ChangeArms
namespace Go.Proofs.Yteecekijekegdaa
open Go.ChangeShapes Go.WideShapes Go.RowKit

theorem list12 {α : Type} (l : List α) (h : l.length = 12) : ∃ a b c d e f g i j k m n, l = [a, b, c, d, e, f, g, i, j, k, m, n] := by
  match l, h with
  | [a, b, c, d, e, f, g, i, j, k, m, n], _ => exact ⟨_, _, _, _, _, _, _, _, _, _, _, _, rfl⟩
theorem cells27 : Try.prog.cellsOf 27 = 12 := by kernel_rfl
theorem cells39 : Try.prog.cellsOf 39 = 20 := by kernel_rfl
theorem cells9 : Try.prog.cellsOf 9 = 1 := by kernel_rfl
theorem cells3 : Try.prog.cellsOf 3 = 1 := by kernel_rfl
theorem cells4 : Try.prog.cellsOf 4 = 1 := by kernel_rfl
theorem cells37 : Try.prog.cellsOf 37 = 1 := by kernel_rfl

/-- An op: its fields; its list lies in memory. -/
structure OpD where
  kind : Int
  a : Int
  b : Int
  c : Int
  t : TermD
  on : Bool
  off : Bool
  party : ByteArray
  l : List Int
  la : Option Addr
  lcap : Nat
def OpD.cells (o : OpD) : List Value :=
  [.int .i64 o.kind, .int .i64 o.a, .int .i64 o.b, .int .i64 o.c, .string o.t.party, .string o.t.account, .string o.t.money, .string o.t.other, .bool o.t.deliver, .string o.t.asset, .string o.t.ccy, .string o.t.ref, .int .i64 o.t.qty, .int .i64 o.t.amount, .int .i64 o.t.day, .int .i64 o.t.trade,
   .bool o.on, .bool o.off, .string o.party, .slice o.la o.l.length o.lcap]
def OpD.Good (o : OpD) (w : World) : Prop := o.t.Fit ∧ o.party.size ≤ 140737488351232 ∧ Ints w o.la o.l

section
variable {H : Type} {enc : TypeId × Value → H} {W : World} {base : Nat} {spare : Nat → Bool} {held : Bool}

theorem fld_string {n : Nat} {c : Value} {o : Option (DataW H × List MemPlace)} (h : DataW.trod enc Try.prog W base spare held n 9 [c] = o) (ho : o.isSome = true) : ∃ s : ByteArray, c = .string s ∧ o.map (·.1) = some (.lit (.string s.data.toList)) := by
  obtain ⟨y, hy⟩ := Option.isSome_iff_exists.1 ho
  rw [hy] at h
  obtain ⟨s, h1, h2, _⟩ := DataW.trod_string Try.underlying9 h
  simp at h1
  exact ⟨s, h1, by rw [hy, h2]; rfl⟩
theorem fld_int {n : Nat} {c : Value} {o : Option (DataW H × List MemPlace)} (h : DataW.trod enc Try.prog W base spare held n 3 [c] = o) (ho : o.isSome = true) : ∃ s : Int, c = .int .i64 s := by
  obtain ⟨y, hy⟩ := Option.isSome_iff_exists.1 ho
  rw [hy] at h
  obtain ⟨s, h1, h2, _⟩ := DataW.trod_int Try.underlying3 h
  simp at h1
  exact ⟨s, h1⟩
theorem fld_bool {n : Nat} {c : Value} {o : Option (DataW H × List MemPlace)} (h : DataW.trod enc Try.prog W base spare held n 4 [c] = o) (ho : o.isSome = true) : ∃ s : Bool, c = .bool s := by
  obtain ⟨y, hy⟩ := Option.isSome_iff_exists.1 ho
  rw [hy] at h
  obtain ⟨s, h1, h2⟩ := DataW.trod_bool Try.underlying4 h
  simp at h1
  exact ⟨s, h1⟩
theorem text_fits {fs : Array Field} {t : TypeId} {xs : List (DataW H × List MemPlace)} (hu : Try.prog.underlying t = some (.struct fs)) (hw : ∀ n ∈ (DataW.agg (xs.map (·.1))).weights Try.prog t, n ≤ reachBytes) (j : Nat) (s : ByteArray)
    (hf : (fs.toList.map (·.type))[j]? = some 9) (hx : xs[j]?.map (·.1) = some (.lit (.string s.data.toList))) : s.size ≤ 140737488351232 := by
  have := hw s.data.toList.length (by
    simp only [DataW.weights, hu]
    exact DataW.weights_mem_each hf (by rw [List.getElem?_map]; exact hx) _ (by simp [DataW.weights]))
  simpa [reachBytes] using this

theorem fld_at {fs : Array Field} {xs : List (DataW H × List MemPlace)} {n : Nat} {cs : List Value} (hf : ∀ (i : Nat) (f : Field), fs[i]? = some f → DataW.trod enc Try.prog W base spare held n f.type ((cs.drop f.offset).take (Try.prog.cellsOf f.type)) = xs[i]?)
    (i ty off : Nat) (hi : (fs[i]?).map (fun f => (f.type, f.offset)) = some (ty, off)) : DataW.trod enc Try.prog W base spare held n ty ((cs.drop off).take (Try.prog.cellsOf ty)) = xs[i]? := by
  obtain ⟨f, h1, h2⟩ := Option.map_eq_some_iff.1 hi
  have := hf i f h1
  simp only [Prod.mk.injEq] at h2
  rw [h2.1, h2.2] at this
  exact this

theorem open_term {fuel : Nat} {cs : List Value} {x : DataW H × List MemPlace} (h : DataW.trod enc Try.prog W base spare held fuel 27 cs = some x) (hw : ∀ n ∈ x.1.weights Try.prog 27, n ≤ reachBytes) :
    ∃ t : TermD, cs = t.cells.toList ∧ t.Fit := by
  obtain ⟨xs, n, _, rfl, hl, hxl, hf⟩ := DataW.trod_struct Try.underlying27 h
  rw [cells27] at hl
  obtain ⟨c0, c1, c2, c3, c4, c5, c6, c7, c8, c9, c10, c11, rfl⟩ := list12 cs hl
  have hs : ∀ j, j < 12 → (xs[j]?).isSome = true := fun j hj => by rw [List.getElem?_eq_getElem (by rw [hxl]; exact hj)]; rfl
  have f0 := fld_at hf 0 9 0 rfl
  have f1 := fld_at hf 1 9 1 rfl
  have f2 := fld_at hf 2 9 2 rfl
  have f3 := fld_at hf 3 9 3 rfl
  have f4 := fld_at hf 4 4 4 rfl
  have f5 := fld_at hf 5 9 5 rfl
  have f6 := fld_at hf 6 9 6 rfl
  have f7 := fld_at hf 7 9 7 rfl
  have f8 := fld_at hf 8 3 8 rfl
  have f9 := fld_at hf 9 3 9 rfl
  have f10 := fld_at hf 10 3 10 rfl
  have f11 := fld_at hf 11 3 11 rfl
  simp only [cells9, cells3, cells4, List.drop_zero, List.drop_succ_cons, List.take_succ_cons, List.take_zero] at f0 f1 f2 f3 f4 f5 f6 f7 f8 f9 f10 f11
  obtain ⟨s0, rfl, g0⟩ := fld_string f0 (hs 0 (by omega))
  obtain ⟨s1, rfl, g1⟩ := fld_string f1 (hs 1 (by omega))
  obtain ⟨s2, rfl, g2⟩ := fld_string f2 (hs 2 (by omega))
  obtain ⟨s3, rfl, g3⟩ := fld_string f3 (hs 3 (by omega))
  obtain ⟨s4, rfl⟩ := fld_bool f4 (hs 4 (by omega))
  obtain ⟨s5, rfl, g5⟩ := fld_string f5 (hs 5 (by omega))
  obtain ⟨s6, rfl, g6⟩ := fld_string f6 (hs 6 (by omega))
  obtain ⟨s7, rfl, g7⟩ := fld_string f7 (hs 7 (by omega))
  obtain ⟨s8, rfl⟩ := fld_int f8 (hs 8 (by omega))
  obtain ⟨s9, rfl⟩ := fld_int f9 (hs 9 (by omega))
  obtain ⟨s10, rfl⟩ := fld_int f10 (hs 10 (by omega))
  obtain ⟨s11, rfl⟩ := fld_int f11 (hs 11 (by omega))
  have ft := text_fits (xs := xs) Try.underlying27 hw
  exact ⟨⟨s0, s1, s2, s3, s4, s5, s6, s7, s8, s9, s10, s11⟩, rfl, ft 0 _ rfl g0, ft 1 _ rfl g1, ft 2 _ rfl g2, ft 3 _ rfl g3, ft 5 _ rfl g5, ft 6 _ rfl g6, ft 7 _ rfl g7⟩

theorem list20 {α : Type} (l : List α) (h : l.length = 20) : ∃ a0 a1 a2 a3 b0 b1 b2 b3 b4 b5 b6 b7 b8 b9 b10 b11 d0 d1 d2 d3, l = [a0, a1, a2, a3, b0, b1, b2, b3, b4, b5, b6, b7, b8, b9, b10, b11, d0, d1, d2, d3] := by
  match l, h with
  | [a0, a1, a2, a3, b0, b1, b2, b3, b4, b5, b6, b7, b8, b9, b10, b11, d0, d1, d2, d3], _ => exact ⟨_, _, _, _, _, _, _, _, _, _, _, _, _, _, _, _, _, _, _, _, rfl⟩

theorem ints_open {fuel : Nat} {cs : List Value} {x : DataW H × List MemPlace} (h : DataW.trod enc Try.prog W base spare held fuel 37 cs = some x) : ∃ (l : List Int) (A : Option Addr) (cap : Nat), cs = [.slice A l.length cap] ∧ Ints W A l := by
  rcases open_ints Try.underlying37 Try.underlying3 cells3 h with ⟨rfl, _⟩ | ⟨y, l, c, zs, rfl, _, hl, hm, hz, _, hcell, _⟩
  · exact ⟨[], none, 0, rfl, by simp [maxLen], .inl rfl⟩
  · have hl2 : l ≤ zs.length := by
      rw [hz]
      split
      · exact hl
      · exact Nat.le_refl _
    exact ⟨zs.take l, some y, c, by rw [List.length_take, Nat.min_eq_left hl2], ints_opened hl2 hl hm hcell⟩

theorem open_op {fuel : Nat} {cs : List Value} {x : DataW H × List MemPlace} (h : DataW.trod enc Try.prog W base spare held fuel 39 cs = some x) (hw : ∀ n ∈ x.1.weights Try.prog 39, n ≤ reachBytes) :
    ∃ o : OpD, cs = o.cells ∧ o.Good W := by
  obtain ⟨xs, n, _, rfl, hl, hxl, hf⟩ := DataW.trod_struct Try.underlying39 h
  rw [cells39] at hl
  obtain ⟨a0, a1, a2, a3, b0, b1, b2, b3, b4, b5, b6, b7, b8, b9, b10, b11, d0, d1, d2, d3, rfl⟩ := list20 cs hl
  have hs : ∀ j, j < 9 → (xs[j]?).isSome = true := fun j hj => by rw [List.getElem?_eq_getElem (by rw [hxl]; exact hj)]; rfl
  have f0 := fld_at hf 0 3 0 rfl
  have f1 := fld_at hf 1 3 1 rfl
  have f2 := fld_at hf 2 3 2 rfl
  have f3 := fld_at hf 3 3 3 rfl
  have f4 := fld_at hf 4 27 4 rfl
  have f5 := fld_at hf 5 4 16 rfl
  have f6 := fld_at hf 6 4 17 rfl
  have f7 := fld_at hf 7 9 18 rfl
  have f8 := fld_at hf 8 37 19 rfl
  simp only [cells9, cells3, cells4, cells27, cells37, List.drop_zero, List.drop_succ_cons, List.take_succ_cons, List.take_zero] at f0 f1 f2 f3 f4 f5 f6 f7 f8
  obtain ⟨i0, rfl⟩ := fld_int f0 (hs 0 (by omega))
  obtain ⟨i1, rfl⟩ := fld_int f1 (hs 1 (by omega))
  obtain ⟨i2, rfl⟩ := fld_int f2 (hs 2 (by omega))
  obtain ⟨i3, rfl⟩ := fld_int f3 (hs 3 (by omega))
  obtain ⟨i5, rfl⟩ := fld_bool f5 (hs 5 (by omega))
  obtain ⟨i6, rfl⟩ := fld_bool f6 (hs 6 (by omega))
  obtain ⟨i7, rfl, g7⟩ := fld_string f7 (hs 7 (by omega))
  obtain ⟨y4, hy4⟩ := Option.isSome_iff_exists.1 (hs 4 (by omega))
  obtain ⟨y8, hy8⟩ := Option.isSome_iff_exists.1 (hs 8 (by omega))
  rw [hy4] at f4
  rw [hy8] at f8
  obtain ⟨t, ht, hft⟩ := open_term f4 (fun m hm => hw m (by
    simp only [DataW.weights, Try.underlying39]
    exact DataW.weights_mem_each (j := 4) (t := 27) (d := y4.1) rfl (by rw [List.getElem?_map, hy4]; rfl) m hm))
  obtain ⟨l, A, cap, hl8, hi8⟩ := ints_open f8
  have ft := text_fits (xs := xs) Try.underlying39 hw
  simp only [List.cons.injEq, and_true] at hl8
  unfold TermD.cells at ht
  simp only [List.cons.injEq, and_true] at ht
  obtain ⟨rfl, rfl, rfl, rfl, rfl, rfl, rfl, rfl, rfl, rfl, rfl, rfl⟩ := ht
  subst hl8
  exact ⟨⟨i0, i1, i2, i3, t, i5, i6, i7, l, A, cap⟩, rfl, hft, ft 7 i7 rfl g7, hi8⟩

theorem list_of {α : Type} {Q : Nat → α → Prop} (n : Nat) (h : ∀ i, i < n → ∃ o, Q i o) : ∃ l : List α, l.length = n ∧ ∀ i o, l[i]? = some o → Q i o := by
  induction n with
  | zero => exact ⟨[], rfl, fun i o h => by simp at h⟩
  | succ n ih =>
    obtain ⟨l, hl, hq⟩ := ih (fun i hi => h i (by omega))
    obtain ⟨o, ho⟩ := h n (by omega)
    refine ⟨l ++ [o], by simp [hl], fun i o' hi => ?_⟩
    rcases Nat.lt_or_ge i n with hlt | hge
    · rw [List.getElem?_append_left (by omega)] at hi
      exact hq i o' hi
    · rw [List.getElem?_append_right (by omega)] at hi
      have : i - l.length = 0 := by
        have := (List.getElem?_eq_some_iff.1 hi).1
        simp at this
        omega
      rw [this] at hi
      simp at hi
      subst hi
      obtain rfl : i = n := by omega
      exact ho

theorem weights_elem {e : TypeId} {ds : List (DataW H)} {d : DataW H} (h : d ∈ ds) : ∀ n ∈ d.weights Try.prog e, n ∈ DataW.weightsAll Try.prog e ds := by
  induction ds with
  | nil => simp at h
  | cons d' r ih =>
    intro n hn
    simp only [DataW.weightsAll, List.mem_append]
    rcases List.mem_cons.1 h with rfl | h
    · exact .inl hn
    · exact .inr (ih h n hn)

/-- A slice of structs of size cells each that reads as l. -/
theorem open_rows {α : Type} {t e : TypeId} {size : Nat} {P : α → List Value → Prop} {v : Value} {d : DataW H} {ps : List MemPlace} {a : Option Addr} {len cap : Nat} (hv : v = .slice a len cap) (hu : Try.prog.underlying t = some (.slice e)) (hc : Try.prog.cellsOf e = size) (hpos : 0 < size)
    (hel : ∀ (fuel : Nat) (cs : List Value) (x : DataW H × List MemPlace), DataW.trod enc Try.prog W base spare held fuel e cs = some x → (∀ n ∈ x.1.weights Try.prog e, n ≤ reachBytes) → ∃ o : α, P o cs)
    (h : DataW.Trod enc Try.prog W base spare held t v d ps) (hw : ∀ n ∈ d.weights Try.prog t, n ≤ reachBytes) :
    ∃ l : List α, l.length = len ∧ len ≤ maxLen ∧ (l = [] ∨ ∃ b off, a = some ⟨b, off, none⟩ ∧ ∀ i o, l[i]? = some o → ∃ cs, P o cs ∧ cs.length = size ∧ ∀ j, j < size → W.cell? ⟨b, off + i * size + j, none⟩ = cs[j]?) := by
  obtain ⟨fuel, hf⟩ := h
  subst hv
  rcases Go.Deep.open_slice hu hf with ⟨hcs, _⟩ | ⟨ad, l, c, m, n, D, Pl, hcs, _, hl, hm, hmm, hx, hi⟩
  · simp [Value.cells] at hcs
    obtain ⟨rfl, rfl, rfl⟩ := hcs
    exact ⟨[], rfl, by simp, .inl rfl⟩
  · simp [Value.cells] at hcs
    obtain ⟨rfl, rfl, rfl⟩ := hcs
    obtain ⟨hx, _⟩ := Prod.mk.inj hx
    subst hx
    have hml : len ≤ m := by rw [hmm]; split; exact hl; exact Nat.le_refl _
    have hD : ∀ i, i < len → ∃ (o : α) (cs : List Value), P o cs ∧ cs.length = size ∧ ∀ j, j < size → W.cell? ((ad.add (i * size)).add j) = cs[j]? := by
      intro i hlt
      obtain ⟨cs', h1, h2⟩ := hi i (by omega)
      rw [hc] at h1
      obtain ⟨_, h3, h4⟩ := World.cells?_some h1
      obtain ⟨o, ho⟩ := hel n cs' _ h2 (fun k hk => hw k (by
        simp only [DataW.weights, hu, List.mem_cons, List.mem_append]
        exact .inr (.inl (weights_elem (List.mem_map.2 ⟨i, by simp [hlt], rfl⟩) k hk))))
      exact ⟨o, cs', ho, h3, h4⟩
    rcases Nat.eq_zero_or_pos len with h0 | h0
    · subst h0
      exact ⟨[], rfl, by simp, .inl rfl⟩
    · obtain ⟨o0, cs0, _, hl0, hc0⟩ := hD 0 h0
      have hcell := hc0 0 hpos
      rw [List.getElem?_eq_getElem (by omega)] at hcell
      obtain ⟨b, off, spot⟩ := ad
      have hspot : spot = none := by simpa [Addr.add] using World.cell?_spot hcell
      subst hspot
      obtain ⟨lst, hlen, hq⟩ := list_of len hD
      refine ⟨lst, hlen, by omega, .inr ⟨b, off, rfl, fun i o hio => ?_⟩⟩
      obtain ⟨cs, h1, h2, h3⟩ := hq i o hio
      refine ⟨cs, h1, h2, fun j hj => ?_⟩
      rw [← h3 j hj, Addr.add_mid, Addr.add_mid]
end
/-- A slice of ops. -/
def OpsAt (w : World) (A : Option Addr) (l : List OpD) : Prop := l.length ≤ maxLen ∧ (l = [] ∨ ∃ b off, A = some ⟨b, off, none⟩ ∧ ∀ i o, l[i]? = some o → o.Good w ∧ ∀ j, j < 20 → w.cell? ⟨b, off + i * 20 + j, none⟩ = o.cells[j]?)
/-- A slice of terms. -/
def TermsAt (w : World) (A : Option Addr) (l : List TermD) : Prop := l.length ≤ maxLen ∧ (l = [] ∨ ∃ b off, A = some ⟨b, off, none⟩ ∧ ∀ i t, l[i]? = some t → t.Fit ∧ ∀ j, j < 12 → w.cell? ⟨b, off + i * 12 + j, none⟩ = t.cells[j]?)
section
variable {H : Type} {enc : TypeId × Value → H} {W : World} {base : Nat} {spare : Nat → Bool} {held : Bool} {ts : List TypeId} {ds : List (DataW H)} {j : Nat} {v : Value} {d : DataW H} {ps : List MemPlace} {a : Option Addr} {len cap : Nat}
theorem weights_arg {t : TypeId} (hsz : (DataW.weightsEach Try.prog ts ds).all (· ≤ reachBytes) = true) (ht : ts[j]? = some t) (hd : ds[j]? = some d) : ∀ n ∈ d.weights Try.prog t, n ≤ reachBytes := fun n hn => by
  have := List.all_eq_true.1 hsz _ (DataW.weights_mem_each ht hd n hn)
  simpa using this
theorem open_ops (hsz : (DataW.weightsEach Try.prog ts ds).all (· ≤ reachBytes) = true) (ht : ts[j]? = some 50) (hd : ds[j]? = some d) (h : DataW.Trod enc Try.prog W base spare held 50 (.slice a len cap) d ps) :
    ∃ l : List OpD, l.length = len ∧ OpsAt W a l := by
  obtain ⟨l, h1, h2, h3⟩ := open_rows (P := fun (o : OpD) cs => cs = o.cells ∧ o.Good W) rfl Try.underlying50 cells39 (by omega) (fun _ _ _ h hw => open_op h hw) h (weights_arg hsz ht hd)
  refine ⟨l, h1, by omega, ?_⟩
  rcases h3 with h3 | ⟨b, off, ha, hq⟩
  · exact .inl h3
  · refine .inr ⟨b, off, ha, fun i o hio => ?_⟩
    obtain ⟨cs, ⟨rfl, hg⟩, _, hc⟩ := hq i o hio
    exact ⟨hg, hc⟩
theorem open_terms (hsz : (DataW.weightsEach Try.prog ts ds).all (· ≤ reachBytes) = true) (ht : ts[j]? = some 22) (hd : ds[j]? = some d) (h : DataW.Trod enc Try.prog W base spare held 22 (.slice a len cap) d ps) :
    ∃ l : List TermD, l.length = len ∧ TermsAt W a l := by
  obtain ⟨l, h1, h2, h3⟩ := open_rows (P := fun (t : TermD) cs => cs = t.cells.toList ∧ t.Fit) rfl Try.underlying22 cells27 (by omega) (fun _ _ _ h hw => open_term h hw) h (weights_arg hsz ht hd)
  refine ⟨l, h1, by omega, ?_⟩
  rcases h3 with h3 | ⟨b, off, ha, hq⟩
  · exact .inl h3
  · refine .inr ⟨b, off, ha, fun i o hio => ?_⟩
    obtain ⟨cs, ⟨rfl, hg⟩, _, hc⟩ := hq i o hio
    exact ⟨hg, fun j hj => by rw [hc j hj]; simp⟩
theorem open_one_op (hsz : (DataW.weightsEach Try.prog ts ds).all (· ≤ reachBytes) = true) (ht : ts[j]? = some 39) (hd : ds[j]? = some d) {r : Reach} {b0 : Nat} (hv : Value.okWide Try.prog W r b0 39 v) (h : DataW.Trod enc Try.prog W base spare held 39 v d ps) :
    ∃ o : OpD, v = .agg o.cells.toArray ∧ o.Good W := by
  obtain ⟨cs, rfl, _⟩ := okWide_struct Try.underlying39 hv
  obtain ⟨fuel, hf⟩ := h
  obtain ⟨o, ho, hg⟩ := open_op hf (weights_arg hsz ht hd)
  simp only [Value.cells] at ho
  exact ⟨o, by rw [← ho], hg⟩
end
end Go.Proofs.Yteecekijekegdaa
