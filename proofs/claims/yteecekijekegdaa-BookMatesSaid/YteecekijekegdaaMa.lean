/- For the law BookMates: what every call keeps, on lists alone: mates are each other's, alike in state, done and paid; what is done lies within what is to be done. Plain lemmas, no conditions. -/
import Derived.Test.YteecekijekegdaaKv
namespace Go.Proofs.Yteecekijekegdaa
open Go.RowKit

/-- What of an instruction the law speaks of. -/
structure Core where
  id : Int
  qty : Int
  amount : Int
  deliver : Bool
  state : Int
  mate : Int
  done : Int
  paid : Int
def core (x : InstD) : Core := ⟨x.id, x.t.qty, x.t.amount, x.t.deliver, x.state, x.mate, x.done, x.paid⟩
def corF (L : List InstD) (k : Nat) : Option Core := (L[k]?).map core
def Plain (k : Nat) (x : Core) : Prop := x.id = (k : Int) + 1 ∧ 0 ≤ x.done ∧ x.done ≤ x.qty ∧ x.qty ≤ 36028797018963968 ∧ 0 ≤ x.amount ∧ x.amount ≤ 36028797018963968 ∧ 0 ≤ x.paid
def Alone (x : Core) : Prop := x.mate = 0 ∧ x.done = 0 ∧ x.paid = 0 ∧ (x.state = 0 ∨ x.state = 4 ∨ x.state = 5)
/-- Half of a pair: what x owes the law, its mate y at j. -/
def Half (k : Nat) (x : Core) (j : Nat) (y : Core) : Prop := x.mate = (j : Int) + 1 ∧ j ≠ k ∧ y.mate = (k : Int) + 1 ∧ y.state = x.state ∧ y.done = x.done ∧ y.paid = x.paid ∧ y.deliver ≠ x.deliver ∧ y.amount = x.amount ∧ y.qty = x.qty ∧ x.paid ≤ x.amount ∧
  (x.state = 1 ∨ x.state = 2 ∨ x.state = 3 ∨ x.state = 4 ∨ x.state = 5) ∧ ((x.state = 1 ∨ x.state = 2) → x.done < x.qty ∨ x.qty = 0) ∧ (x.state = 3 → x.done = x.qty)
def RowF (c : Nat → Option Core) (k : Nat) (x : Core) : Prop := Plain k x ∧ (Alone x ∨ ∃ j y, c j = some y ∧ Half k x j y)
def InvF (c : Nat → Option Core) : Prop := ∀ k x, c k = some x → RowF c k x
def Inv (L : List InstD) : Prop := InvF (corF L)

theorem Half.symm {k j : Nat} {x y : Core} (h : Half k x j y) : Half j y k x := by
  obtain ⟨h1, h2, h3, h4, h5, h6, h7, h8, h9, h10, h11, h12, h13⟩ := h
  refine ⟨h3, fun e => h2 e.symm, h1, h4.symm, h5.symm, h6.symm, fun e => h7 e.symm, h8.symm, h9.symm, by omega, by omega, by omega, by omega⟩
/-- Nobody else's mate is at k. -/
theorem other_mate {c : Nat → Option Core} (hi : InvF c) {k : Nat} {x : Core} (hx : c k = some x) {i : Nat} {z : Core} (hz : c i = some z) (hm : z.mate = (k : Int) + 1) : x.mate = (i : Int) + 1 := by
  rcases (hi i z hz).2 with ha | ⟨j, y, hy, hh⟩
  · have := ha.1; omega
  · have h1 := hh.1
    have : j = k := by omega
    subst this
    rw [hx] at hy
    injection hy with hy
    subst hy
    exact hh.2.2.1
theorem inv_one {c : Nat → Option Core} (hi : InvF c) {k : Nat} {x x' : Core} (hx : c k = some x) (hm : x.mate = 0) (hp : Plain k x') (ha : Alone x') : InvF (fun i => if i = k then some x' else c i) := by
  intro i z hz
  simp only at hz
  by_cases hik : i = k
  · rw [if_pos hik] at hz
    injection hz with hz
    subst hz
    subst hik
    exact ⟨hp, .inl ha⟩
  · rw [if_neg hik] at hz
    obtain ⟨h1, h2⟩ := hi i z hz
    refine ⟨h1, ?_⟩
    rcases h2 with h2 | ⟨j, y, hy, hh⟩
    · exact .inl h2
    · refine .inr ⟨j, y, ?_, hh⟩
      have hjk : j ≠ k := by
        rintro rfl
        have := other_mate hi hx hz hh.1
        omega
      simp only
      rw [if_neg hjk, hy]
theorem inv_two {c : Nat → Option Core} (hi : InvF c) {k j : Nat} {x y x' y' : Core} (hx : c k = some x) (hy : c j = some y) (hm : (x.mate = 0 ∧ y.mate = 0) ∨ (x.mate = (j : Int) + 1 ∧ y.mate = (k : Int) + 1))
    (hpx : Plain k x') (hpy : Plain j y') (hh : Half k x' j y') : InvF (fun i => if i = j then some y' else if i = k then some x' else c i) := by
  have hjk : j ≠ k := hh.2.1
  intro i z hz
  simp only at hz
  by_cases hij : i = j
  · rw [if_pos hij] at hz
    injection hz with hz
    subst hz
    subst hij
    refine ⟨hpy, .inr ⟨k, x', ?_, hh.symm⟩⟩
    simp only
    rw [if_neg (fun e => hjk e.symm)]
    simp
  · rw [if_neg hij] at hz
    by_cases hik : i = k
    · rw [if_pos hik] at hz
      injection hz with hz
      subst hz
      subst hik
      refine ⟨hpx, .inr ⟨j, y', ?_, hh⟩⟩
      simp
    · rw [if_neg hik] at hz
      obtain ⟨h1, h2⟩ := hi i z hz
      refine ⟨h1, ?_⟩
      rcases h2 with h2 | ⟨i', z', hz', hh'⟩
      · exact .inl h2
      · refine .inr ⟨i', z', ?_, hh'⟩
        have n1 : i' ≠ k := by
          rintro rfl
          have := other_mate hi hx hz hh'.1
          omega
        have n2 : i' ≠ j := by
          rintro rfl
          have := other_mate hi hy hz hh'.1
          omega
        simp only
        rw [if_neg n2, if_neg n1, hz']

theorem corF_set (L : List InstD) (k : Nat) (x : InstD) (hk : k < L.length) : corF (L.set k x) = fun i => if i = k then some (core x) else corF L i := by
  funext i
  unfold corF
  by_cases h : i = k
  · subst h
    rw [if_pos rfl, List.getElem?_set_self hk]
    rfl
  · rw [if_neg h, List.getElem?_set_ne (fun e => h e.symm)]
theorem corF_some {L : List InstD} {k : Nat} {x : InstD} (h : L[k]? = some x) : corF L k = some (core x) := by unfold corF; rw [h]; rfl
theorem corF_set2 (L : List InstD) (k j : Nat) (x y : InstD) (hk : k < L.length) (hj : j < L.length) : corF ((L.set k x).set j y) = fun i => if i = j then some (core y) else if i = k then some (core x) else corF L i := by
  rw [corF_set _ _ _ (by rw [List.length_set]; exact hj), corF_set _ _ _ hk]
theorem corF_same (L : List InstD) (k : Nat) (x x' : InstD) (h : L[k]? = some x) (hc : core x' = core x) : corF (L.set k x') = corF L := by
  have hk := (List.getElem?_eq_some_iff.1 h).1
  rw [corF_set L k x' hk]
  funext i
  by_cases hi : i = k
  · rw [if_pos hi, hi, corF_some h, hc]
  · rw [if_neg hi]
theorem corF_upd (L : List InstD) (n : Int) (f : InstD → InstD) (hf : ∀ x, core (f x) = core x) : corF (upd L n f) = corF L := by
  unfold upd
  cases h : L[(n - 1).toNat]? with
  | none => rfl
  | some x => exact corF_same L _ x (f x) h (hf x)
theorem Inv.upd {L : List InstD} (h : Inv L) (n : Int) (f : InstD → InstD) (hf : ∀ x, core (f x) = core x) : Inv (upd L n f) := by unfold Inv; rw [corF_upd L n f hf]; exact h
theorem Inv.keepL {L : List InstD} (h : Inv L) (p : ByteArray) (n : Int) : Inv (keepL L p n) := by
  unfold Go.Proofs.Yteecekijekegdaa.keepL
  split
  · exact h.upd n _ (fun x => rfl)
  · exact h
theorem Inv.heldL {L : List InstD} (h : Inv L) (on : Bool) (l : List Int) : Inv (heldL L on l) := by
  unfold Go.Proofs.Yteecekijekegdaa.heldL
  induction l generalizing L with
  | nil => exact h
  | cons n l ih => exact ih (h.upd n _ (fun x => rfl))
theorem Inv.holdL {L : List InstD} (h : Inv L) (p : ByteArray) (on : Bool) (l : List Int) : Inv (holdL L p on l) := by
  unfold Go.Proofs.Yteecekijekegdaa.holdL
  split
  · exact h.heldL on l
  · exact h

theorem doL_one (e : Int) (L : List InstD) (k : Nat) (x : InstD) (hx : L[k]? = some x) (h : (nxt x.state e).2 = true) : (doL e L [some k]).1 = L.set k { x with state := (nxt x.state e).1 } := by
  have := doL_snoc e L [] (some k)
  rw [List.nil_append, doL_nil, doStep_yes e L k x hx h] at this
  rw [this]
theorem doL_oneN (e : Int) (L : List InstD) (k : Nat) (x : InstD) (hx : L[k]? = some x) (h : (nxt x.state e).2 = true) : (doL e L [some k, none]).1 = L.set k { x with state := (nxt x.state e).1 } := by
  have h1 := doL_snoc e L [some k] none
  have h2 := doL_one e L k x hx h
  simp only [List.singleton_append, doStep_none] at h1
  rw [h1]
  exact h2
theorem doL_two (e : Int) (L : List InstD) (k j : Nat) (x y : InstD) (hx : L[k]? = some x) (hy : L[j]? = some y) (hjk : j ≠ k) (h : (nxt x.state e).2 = true) (h' : (nxt y.state e).2 = true) :
    (doL e L [some k, some j]).1 = (L.set k { x with state := (nxt x.state e).1 }).set j { y with state := (nxt y.state e).1 } := by
  have h1 := doL_snoc e L [some k] (some j)
  have h2 := doL_one e L k x hx h
  simp only [List.singleton_append] at h1
  rw [h1, h2, doStep_yes e _ j y (by rw [List.getElem?_set_ne (fun e => hjk e.symm)]; exact hy) h']

theorem Inv.add {L : List InstD} (h : Inv L) (t : TermD) (p : Int) (a b : Bool) (h1 : 0 ≤ t.qty ∧ t.qty ≤ 36028797018963968) (h2 : 0 ≤ t.amount ∧ t.amount ≤ 36028797018963968) : Inv (addL L t p a b) := by
  unfold addL
  split
  · intro i z hz
    have hc : ∀ j y, corF L j = some y → corF (L ++ [newX ((L.length : Int) + 1) t p a b]) j = some y := by
      intro j y hy
      unfold corF at hy ⊢
      cases hl : L[j]? with
      | none => rw [hl] at hy; cases hy
      | some u =>
        rw [hl] at hy
        rw [List.getElem?_append_left (List.getElem?_eq_some_iff.1 hl).1, hl]
        exact hy
    by_cases hi : i < L.length
    · have hz' : corF L i = some z := by
        unfold corF at hz ⊢
        rwa [List.getElem?_append_left hi] at hz
      obtain ⟨q1, q2⟩ := h i z hz'
      refine ⟨q1, ?_⟩
      rcases q2 with q2 | ⟨j, y, hy, hh⟩
      · exact .inl q2
      · exact .inr ⟨j, y, hc j y hy, hh⟩
    · unfold corF at hz
      rw [List.getElem?_append_right (by omega)] at hz
      have hi0 : i = L.length := by
        rcases Nat.eq_zero_or_pos (i - L.length) with h0 | h0
        · omega
        · rw [List.getElem?_eq_none (by simp only [List.length_singleton]; omega)] at hz
          cases hz
      subst hi0
      simp at hz
      subst hz
      exact ⟨⟨rfl, Int.le_refl _, h1.1, h1.2, h2.1, h2.2, Int.le_refl _⟩, .inl ⟨rfl, rfl, rfl, .inl rfl⟩⟩
  · exact h
theorem Inv.at_ {L : List InstD} (h : Inv L) {k : Nat} {x : InstD} (hx : L[k]? = some x) : Plain k (core x) ∧ (Alone (core x) ∨ ∃ j y, L[j]? = some y ∧ Half k (core x) j (core y)) := by
  obtain ⟨h1, h2⟩ := h k (core x) (corF_some hx)
  refine ⟨h1, ?_⟩
  rcases h2 with h2 | ⟨j, y, hy, hh⟩
  · exact .inl h2
  · unfold corF at hy
    cases hl : L[j]? with
    | none => rw [hl] at hy; cases hy
    | some u =>
      rw [hl] at hy
      simp at hy
      subst hy
      exact .inr ⟨j, u, hl, hh⟩
theorem Inv.fit {L : List InstD} (h : Inv L) (k : Nat) (x : InstD) (hx : L[k]? = some x) : FitX x := by
  obtain ⟨⟨_, h1, h2, h3, h4, h5, h6⟩, h7⟩ := h.at_ hx
  unfold core at h1 h2 h3 h4 h5 h6
  dsimp only at h1 h2 h3 h4 h5 h6
  refine ⟨h1, h2, h3, h6, ?_, by omega, h5⟩
  rcases h7 with ⟨_, _, h8, _⟩ | ⟨j, y, _, hh⟩
  · have : x.paid = 0 := h8
    omega
  · have : x.paid ≤ x.t.amount := hh.2.2.2.2.2.2.2.2.2.1
    omega
theorem mate_none (L : List InstD) (k : Nat) (x : InstD) (h : x.mate = 0) : mateI L k x.mate = none := by rw [h]; exact mateI_none L k 0 (.inl (by omega))
theorem mate_half {L : List InstD} {k j : Nat} {x y : InstD} (hy : L[j]? = some y) (h : Half k (core x) j (core y)) : mateI L k x.mate = some j := by
  have : x.mate = (j : Int) + 1 := h.1
  rw [this]
  exact mateI_some L k j (List.getElem?_eq_some_iff.1 hy).1 h.2.1
theorem Inv.exp {L : List InstD} (h : Inv L) (n : Int) : Inv (expStep L n).1 := by
  rcases pick L n with hn | ⟨k, x, rfl, hx, hk⟩
  · rw [expStep_none L n hn]; exact h
  · rw [expStep_some L k x hx]
    split
    · rename_i ho
      obtain ⟨hp, hq⟩ := h.at_ hx
      rcases hq with ha | ⟨j, y, hy, hh⟩
      · have hm : x.mate = 0 := ha.1
        have hs : x.state = 0 := by have : x.state = 0 ∨ x.state = 4 ∨ x.state = 5 := ha.2.2.2; omega
        rw [mate_none L k x hm, doL_oneN 4 L k x hx (by rw [hs]; rfl)]
        unfold Inv
        rw [corF_set L k _ hk]
        refine inv_one h (corF_some hx) hm ?_ ⟨ha.1, ha.2.1, ha.2.2.1, .inr (.inr (by rw [hs]; rfl))⟩
        exact hp
      · have hs : x.state = 1 ∨ x.state = 2 := by have : x.state = 1 ∨ x.state = 2 ∨ x.state = 3 ∨ x.state = 4 ∨ x.state = 5 := hh.2.2.2.2.2.2.2.2.2.2.1; omega
        have hys : y.state = x.state := hh.2.2.2.1
        have e1 : nxt x.state 4 = (5, true) := by rcases hs with e | e <;> rw [e] <;> rfl
        rw [mate_half hy hh, doL_two 4 L k j x y hx hy hh.2.1 (by rw [e1]) (by rw [hys, e1]), hys, e1]
        unfold Inv
        rw [corF_set2 L k j _ _ hk (List.getElem?_eq_some_iff.1 hy).1]
        obtain ⟨q1, q2, q3, q4, q5, q6, q7, q8, q9, q10, q11, q12, q13⟩ := hh
        exact inv_two h (corF_some hx) (corF_some hy) (.inr ⟨q1, q3⟩) hp (h.at_ hy).1 ⟨q1, q2, q3, rfl, q5, q6, q7, q8, q9, q10, .inr (.inr (.inr (.inr rfl))), (fun e => by rcases e with e | e <;> cases e), (fun e => by cases e)⟩
    · exact h
theorem Inv.expL {L : List InstD} (h : Inv L) (l : List Int) : Inv (expL L l).1 := by
  have : ∀ (l : List Int) (s : List InstD × Nat), Inv s.1 → Inv (l.foldl (fun s n => ((expStep s.1 n).1, s.2 + (expStep s.1 n).2)) s).1 := by
    intro l
    induction l with
    | nil => exact fun s hs => hs
    | cons n l ih => exact fun s hs => ih _ (hs.exp n)
  exact this l (L, 0) h
theorem Inv.cancel {L : List InstD} (h : Inv L) (p : ByteArray) (n : Int) : Inv (cancelL L p n) := by
  by_cases h0 : mayE L p n = 0
  · obtain ⟨k, x, rfl, hx, hk, -, hs1, hs2⟩ := mayE_zero L p n h0
    rw [cancelL_yes L p k x hx h0]
    unfold cancelX
    obtain ⟨hp, hq⟩ := h.at_ hx
    rcases hq with ha | ⟨j, y, hy, hh⟩
    · have hm : x.mate = 0 := ha.1
      have hs : x.state = 0 := by have : x.state = 0 ∨ x.state = 4 ∨ x.state = 5 := ha.2.2.2; omega
      rw [if_pos hs, doL_one 3 L k x hx (by rw [hs]; rfl)]
      unfold Inv
      rw [corF_set L k _ hk]
      exact inv_one h (corF_some hx) hm hp ⟨ha.1, ha.2.1, ha.2.2.1, .inr (.inl (by rw [hs]; rfl))⟩
    · have hs : x.state = 1 ∨ x.state = 2 := by have : x.state = 1 ∨ x.state = 2 ∨ x.state = 3 ∨ x.state = 4 ∨ x.state = 5 := hh.2.2.2.2.2.2.2.2.2.2.1; omega
      have hys : y.state = x.state := hh.2.2.2.1
      have hj := (List.getElem?_eq_some_iff.1 hy).1
      have hw : Inv (L.set k { x with wish := true }) := by unfold Inv; rw [corF_same L k x { x with wish := true } hx rfl]; exact h
      rw [if_neg (by omega)]
      have hy2 : (L.set k { x with wish := true })[j]? = some y := by rw [List.getElem?_set_ne (fun e => hh.2.1 e.symm)]; exact hy
      have hx2 : (L.set k { x with wish := true })[k]? = some { x with wish := true } := List.getElem?_set_self hk
      rw [mate_half (x := x) hy2 hh]
      simp only [hy]
      split
      · have e1 : nxt x.state 3 = (4, true) := by rcases hs with e | e <;> rw [e] <;> rfl
        rw [doL_two 3 _ k j _ y hx2 hy2 hh.2.1 (by rw [e1]) (by rw [hys, e1]), hys, e1]
        unfold Inv
        rw [corF_set2 _ k j _ _ (by rw [List.length_set]; exact hk) (by rw [List.length_set]; exact hj), corF_same L k x { x with wish := true } hx rfl]
        obtain ⟨q1, q2, q3, q4, q5, q6, q7, q8, q9, q10, q11, q12, q13⟩ := hh
        exact inv_two h (corF_some hx) (corF_some hy) (.inr ⟨q1, q3⟩) hp (h.at_ hy).1 ⟨q1, q2, q3, rfl, q5, q6, q7, q8, q9, q10, .inr (.inr (.inr (.inl rfl))), (fun e => by rcases e with e | e <;> cases e), (fun e => by cases e)⟩
      · exact hw
  · unfold cancelL
    rw [if_neg h0]
    exact h
theorem Inv.pair {L : List InstD} (h : Inv L) (d r a : Int) : Inv (pairL L d r a) := by
  by_cases h0 : pairE L d r a = 0
  · rcases pick L d with hd | ⟨i, x, rfl, hx, hi⟩
    · rw [pairE_none L d r a (.inl hd)] at h0; cases h0
    rcases pick L r with hr | ⟨j, y, rfl, hy, hj⟩
    · rw [pairE_none L _ r a (.inr hr)] at h0; cases h0
    rw [pairL_good L i j x y a hx hy h0]
    rw [pairE_some L i j x y a hx hy] at h0
    unfold pairX at h0
    split at h0
    · cases h0
    · rename_i hs
      split at h0
      · cases h0
      · rename_i hb
        simp only [not_or, ne_eq, Decidable.not_not, Bool.not_eq_false, Bool.not_eq_true] at hs hb
        obtain ⟨sx, sy⟩ := hs
        obtain ⟨b1, b2, b3, b4, b5, b6⟩ := hb
        have ax : Alone (core x) := by
          rcases (h.at_ hx).2 with ha | ⟨_, _, _, hh⟩
          · exact ha
          · have : x.state = 1 ∨ x.state = 2 ∨ x.state = 3 ∨ x.state = 4 ∨ x.state = 5 := hh.2.2.2.2.2.2.2.2.2.2.1
            omega
        have ay : Alone (core y) := by
          rcases (h.at_ hy).2 with ha | ⟨_, _, _, hh⟩
          · exact ha
          · have : y.state = 1 ∨ y.state = 2 ∨ y.state = 3 ∨ y.state = 4 ∨ y.state = 5 := hh.2.2.2.2.2.2.2.2.2.2.1
            omega
        have hx2 : ((L.set i (mated x ((j : Int) + 1) a)).set j (mated y ((i : Int) + 1) a))[i]? = some (mated x ((j : Int) + 1) a) := by rw [List.getElem?_set_ne (fun e => b1 e.symm), List.getElem?_set_self hi]
        have hy2 : ((L.set i (mated x ((j : Int) + 1) a)).set j (mated y ((i : Int) + 1) a))[j]? = some (mated y ((i : Int) + 1) a) := List.getElem?_set_self (by rw [List.length_set]; exact hj)
        have e1 : nxt (mated x ((j : Int) + 1) a).state 0 = (1, true) := by show nxt x.state 0 = _; rw [sx]; rfl
        have e2 : nxt (mated y ((i : Int) + 1) a).state 0 = (1, true) := by show nxt y.state 0 = _; rw [sy]; rfl
        rw [doL_two 0 _ i j _ _ hx2 hy2 (fun e => b1 e.symm) (by rw [e1]) (by rw [e2]), e1, e2]
        have hsame : ∀ (X Y : InstD), corF ((((L.set i (mated x ((j : Int) + 1) a)).set j (mated y ((i : Int) + 1) a)).set i X).set j Y) = corF ((L.set i X).set j Y) := by
          intro X Y
          rw [List.set_comm _ _ (fun e => b1 e.symm), List.set_set, List.set_set]
        unfold Inv
        rw [hsame, corF_set2 L i j _ _ hi hj]
        obtain ⟨p1, p2, p3, p4, p5, p6, p7⟩ := (h.at_ hx).1
        obtain ⟨r1, r2, r3, r4, r5, r6, r7⟩ := (h.at_ hy).1
        have dx : x.done = 0 := ax.2.1
        have dy : y.done = 0 := ay.2.1
        have px : x.paid = 0 := ax.2.2.1
        have py : y.paid = 0 := ay.2.2.1
        refine inv_two h (corF_some hx) (corF_some hy) (.inl ⟨ax.1, ay.1⟩) ⟨p1, p2, p3, p4, by show 0 ≤ a; omega, by show a ≤ _; omega, p7⟩ ⟨r1, r2, r3, r4, by show 0 ≤ a; omega, by show a ≤ _; omega, r7⟩
          ⟨rfl, fun e => b1 e.symm, rfl, rfl, by show y.done = x.done; omega, by show y.paid = x.paid; omega, by show y.t.deliver ≠ x.t.deliver; rw [b2, b3]; decide, rfl, b4.symm, by show x.paid ≤ a; omega, .inl rfl, fun _ => by show x.done < x.t.qty ∨ x.t.qty = 0; have : x.done ≤ x.t.qty := p3; omega, (fun e => by cases e)⟩
  · rw [pairL_bad L d r a h0]; exact h
theorem Inv.settle {L : List InstD} (h : Inv L) (n q p : Int) : Inv (settleL L n q p) := by
  unfold settleL
  by_cases h0 : settleE L n q p = 0
  · rw [if_pos h0]
    rcases pick L n with hn | ⟨k, x, rfl, hx, hk⟩
    · unfold settleE at h0
      by_cases h1 : n < 1
      · rw [if_pos h1] at h0; cases h0
      · rw [if_neg h1, List.getElem?_eq_none (by omega)] at h0; cases h0
    rw [show ((k : Int) + 1 - 1).toNat = k by omega, hx]
    simp only
    unfold settleE at h0
    rw [if_neg (by omega), show ((k : Int) + 1 - 1).toNat = k by omega, hx] at h0
    simp only at h0
    split at h0
    · cases h0
    · rename_i hs
      split at h0
      · cases h0
      · rename_i hb
        obtain ⟨hp, hq⟩ := h.at_ hx
        have hfit := h.fit k x hx
        obtain ⟨f1, f2, f3, f4, f5, f6, f7⟩ := hfit
        have hl : leftX x = x.t.qty - x.done := by unfold leftX; rw [if_neg (by omega)]
        rw [hl] at hb
        unfold settleX
        rcases hq with ha | ⟨j, y, hy, hh⟩
        · have : x.state = 0 ∨ x.state = 4 ∨ x.state = 5 := ha.2.2.2
          omega
        · have hj := (List.getElem?_eq_some_iff.1 hy).1
          have hys : y.state = x.state := hh.2.2.2.1
          rw [mate_half hy hh]
          simp only [hy]
          rw [hl]
          have hx2 : ((L.set k (paidX x q p)).set j (paidX y q p))[k]? = some (paidX x q p) := by rw [List.getElem?_set_ne hh.2.1, List.getElem?_set_self hk]
          have hy2 : ((L.set k (paidX x q p)).set j (paidX y q p))[j]? = some (paidX y q p) := List.getElem?_set_self (by rw [List.length_set]; exact hj)
          have hst : x.state = 1 ∨ x.state = 2 := by omega
          obtain ⟨q1, q2, q3, q4, q5, q6, q7, q8, q9, q10, q11, q12, q13⟩ := hh
          obtain ⟨p1, p2, p3, p4, p5, p6, p7⟩ := hp
          obtain ⟨r1, r2, r3, r4, r5, r6, r7⟩ := (h.at_ hy).1
          simp only [core] at q1 q3 q4 q5 q6 q7 q8 q9 q10 q12 q13 p1 p2 p3 p4 p5 p6 p7 r1 r2 r3 r4 r5 r6 r7
          have hsame : ∀ (X Y : InstD), corF ((((L.set k (paidX x q p)).set j (paidX y q p)).set k X).set j Y) = corF ((L.set k X).set j Y) := by
            intro X Y
            rw [List.set_comm _ _ q2, List.set_set, List.set_set]
          by_cases he : q = x.t.qty - x.done
          · rw [if_pos he]
            have e1 : nxt (paidX x q p).state 2 = (3, true) := by show nxt x.state 2 = _; rcases hst with e | e <;> rw [e] <;> rfl
            have e2 : nxt (paidX y q p).state 2 = (3, true) := by show nxt y.state 2 = _; rw [hys]; exact e1
            rw [doL_two 2 _ k j _ _ hx2 hy2 q2 (by rw [e1]) (by rw [e2]), e1, e2]
            unfold Inv
            rw [hsame, corF_set2 L k j _ _ hk hj]
            refine inv_two h (corF_some hx) (corF_some hy) (.inr ⟨q1, q3⟩) ⟨p1, ?_, ?_, p4, p5, p6, ?_⟩ ⟨r1, ?_, ?_, r4, r5, r6, ?_⟩ ⟨q1, q2, q3, rfl, ?_, ?_, q7, q8, q9, ?_, .inr (.inr (.inl rfl)), (fun e => by rcases e with e | e <;> cases e), fun _ => ?_⟩ <;> simp only [core, paidX] <;> omega
          · rw [if_neg he]
            have e1 : nxt (paidX x q p).state 1 = (2, true) := by show nxt x.state 1 = _; rcases hst with e | e <;> rw [e] <;> rfl
            have e2 : nxt (paidX y q p).state 1 = (2, true) := by show nxt y.state 1 = _; rw [hys]; exact e1
            rw [doL_two 1 _ k j _ _ hx2 hy2 q2 (by rw [e1]) (by rw [e2]), e1, e2]
            unfold Inv
            rw [hsame, corF_set2 L k j _ _ hk hj]
            refine inv_two h (corF_some hx) (corF_some hy) (.inr ⟨q1, q3⟩) ⟨p1, ?_, ?_, p4, p5, p6, ?_⟩ ⟨r1, ?_, ?_, r4, r5, r6, ?_⟩ ⟨q1, q2, q3, rfl, ?_, ?_, q7, q8, q9, ?_, .inr (.inl rfl), fun _ => .inl ?_, fun e => by cases e⟩ <;> simp only [core, paidX] <;> omega
  · rw [if_neg h0]; exact h
theorem Inv.nil : Inv [] := by
  intro k x hx
  unfold corF at hx
  simp at hx
end Go.Proofs.Yteecekijekegdaa
