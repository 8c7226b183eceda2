/- The walk of the law BookRights: it answers true, at every input that can be read. -/
import Derived.Test.YteecekijekegdaaKy
namespace Go.Proofs.Yteecekijekegdaa
open Go.RowKit

theorem Old.drew {w0 w : World} {gb : Nat} {v : Value} {L : List InstD} (h : Old w0 w gb v L) : Old w0 w.drew gb v L := ⟨⟨h.book.cell, h.book.base, h.book.own⟩, ⟨h.old.os, h.old.tape, h.old.output, h.old.size, h.old.block⟩⟩

set_option linter.unusedSimpArgs false in
set_option maxRecDepth 100000 in
set_option maxHeartbeats 4000000 in
theorem rights_calls (l : List OpD) (A : Option Addr) (cap : Nat) (o : OpD) (w : World) (R : Ending → World → Prop) (h : OpsAt w A l) (hg : o.Good w)
    (hR : ∀ w', Below w.heap.size w w' → R (.returned (.bool true)) w') : Calls Try.prog 6 #[.slice A l.length cap, .agg o.cells.toArray] w R := by
  have HR := Hid.mk hR
  have HT := Hid.mk h
  have HG := Hid.mk hg
  have hl := h.1
  unfold maxLen at hl
  clear hR h hg
  obtain ⟨gb, hgb⟩ : ∃ g, g = w.heap.size + 1 := ⟨_, rfl⟩
  obtain ⟨W, hW⟩ : ∃ W, W = w.alloc (.cells o.cells.toArray 39) := ⟨_, rfl⟩
  obtain ⟨g3, hg3⟩ : ∃ g, g = w.heap.size := ⟨_, rfl⟩
  have HO : Hid (OpIn W g3 o) := Hid.mk (by rw [hW, hg3]; exact blk_new _ _)
  have HBW : Hid (Below w.heap.size w W) := Hid.mk (by rw [hW]; exact below_allocs (Below.refl _ _) _)
  have HG3 := Hid.mk hg3
  clear hgb gb
  go_enter Try.func6, Try.ntmps6
  go_upto_region 1 with (fail)
  rw [← hW, ← hg3]
  clear hW hg3
  go_wp2_with (fail)
  refine light_calls l A cap _ _ (HT.out.below HBW.out) ?_
  intro w1 b hb1 hlight
  have HB1 := Hid.mk (below_then HBW.out hb1)
  have HO1 := Hid.mk (HO.out.below hb1)
  have HLT := Hid.mk hlight
  clear hb1 hlight
  obtain ⟨m, hm⟩ : ∃ m, m = l.length := ⟨_, rfl⟩
  rw [← hm] at hl
  rw [← hm]
  have HM := Hid.mk hm
  clear hm
  cases b with
  | false =>
    go_wp2_with (fail)
    refine alive_calls _ _ ?_
    intro w2 hb2
    have HB2 := Hid.mk (below_then HB1.out hb2)
    clear hb2
    go_wp2_with (fail)
    exact HR.out _ HB2.out
  | true =>
    go_wp2_with (fail)
    refine new_calls _ _ ?_
    intro w2 hn2 hb2
    obtain ⟨gb, hgb⟩ : ∃ g, g = w1.heap.size := ⟨_, rfl⟩
    have H2 : Hid (Old w w2 gb (.slice none 0 0) []) := Hid.mk (by rw [hgb]; exact ⟨⟨hn2, HB1.out.size, World.ownsRow_nil _ _ _ _⟩, below_then HB1.out hb2⟩)
    have HO2 := Hid.mk (HO1.out.below hb2)
    have HNE : Hid (g3 ≠ gb ∧ g3 < w2.heap.size) := Hid.mk (by have h1 := blk_lt HO1.out; have h2 := blk_lt HO2.out; omega)
    rw [← hgb]
    clear hn2 hb2 hgb
    go_wp2_with (fail)
    go_loopg [6] m (fun gg vi wr => ∃ (k : Nat) (v : Value) (L : List InstD), k ≤ m ∧ vi = .int .i64 k ∧ Hid (Old w wr gb v L) ∧ Hid (OpIn wr g3 o ∧ v.ownBlock ≠ some g3) ∧ Hid (gg = m - k))
    case atStart => exact ⟨0, _, [], by omega, rfl, H2, Hid.mk ⟨HO2.out, by simp [Value.ownBlock]⟩, Hid.mk rfl⟩
    case round =>
      obtain ⟨k, v, L, hk, rfl, HK, HOK, HGG⟩ := hrel
      by_cases hlt : k < m
      · obtain ⟨x, hx⟩ : ∃ x, l[k]? = some x := ⟨l[k]'(by rw [← HM.out]; exact hlt), by simp⟩
        obtain ⟨hgood, b, off, hAe, -⟩ := (HT.out.below HK.out.old).get k x hx
        subst hAe
        have hr0 : ∀ w', Below w.heap.size w w' → w'.rangeAt b (off + k * 20) x.cells := fun w' hb => by
          obtain ⟨-, b', off', he, hr⟩ := (HT.out.below hb).get k x hx
          injection he with he
          injection he with h1 h2
          subst h1; subst h2
          exact hr
        have HGX := Hid.mk hgood
        have c0 : wr.cell? ⟨b, off + k * 20, none⟩ = some (.int .i64 x.kind) := by have := hr0 wr HK.out.old 0 _ rfl; simpa using this
        have HS1 : Hid (∀ w', Below w.heap.size w w' → w'.cell? ⟨b, off + k * 20 + 1, none⟩ = some (.int .i64 x.a) ∧ w'.cell? ⟨b, off + k * 20 + 4, none⟩ = some (.string x.t.party) ∧ w'.cell? ⟨b, off + k * 20 + 5, none⟩ = some (.string x.t.account) ∧ w'.cell? ⟨b, off + k * 20 + 6, none⟩ = some (.string x.t.money) ∧ w'.cell? ⟨b, off + k * 20 + 7, none⟩ = some (.string x.t.other) ∧ w'.cell? ⟨b, off + k * 20 + 8, none⟩ = some (.bool x.t.deliver) ∧ w'.cell? ⟨b, off + k * 20 + 9, none⟩ = some (.string x.t.asset) ∧ w'.cell? ⟨b, off + k * 20 + 10, none⟩ = some (.string x.t.ccy) ∧ w'.cell? ⟨b, off + k * 20 + 11, none⟩ = some (.string x.t.ref) ∧ w'.cell? ⟨b, off + k * 20 + 12, none⟩ = some (.int .i64 x.t.qty) ∧ w'.cell? ⟨b, off + k * 20 + 13, none⟩ = some (.int .i64 x.t.amount) ∧ w'.cell? ⟨b, off + k * 20 + 14, none⟩ = some (.int .i64 x.t.day) ∧ w'.cell? ⟨b, off + k * 20 + 15, none⟩ = some (.int .i64 x.t.trade) ∧ w'.cell? ⟨b, off + k * 20 + 16, none⟩ = some (.bool x.on) ∧ w'.cell? ⟨b, off + k * 20 + 17, none⟩ = some (.bool x.off)) := Hid.mk (fun w' hb => by have hr := hr0 w' hb; exact ⟨by have := hr 1 _ rfl; simpa using this, by have := hr 4 _ rfl; simpa using this, by have := hr 5 _ rfl; simpa using this, by have := hr 6 _ rfl; simpa using this, by have := hr 7 _ rfl; simpa using this, by have := hr 8 _ rfl; simpa using this, by have := hr 9 _ rfl; simpa using this, by have := hr 10 _ rfl; simpa using this, by have := hr 11 _ rfl; simpa using this, by have := hr 12 _ rfl; simpa using this, by have := hr 13 _ rfl; simpa using this, by have := hr 14 _ rfl; simpa using this, by have := hr 15 _ rfl; simpa using this, by have := hr 16 _ rfl; simpa using this, by have := hr 17 _ rfl; simpa using this⟩)
        have HS3 : Hid (∀ w', Below w.heap.size w w' → w'.cell? ⟨b, off + k * 20 + 1, none⟩ = some (.int .i64 x.a) ∧ w'.cell? ⟨b, off + k * 20 + 18, none⟩ = some (.string x.party)) := Hid.mk (fun w' hb => by have hr := hr0 w' hb; exact ⟨by have := hr 1 _ rfl; simpa using this, by have := hr 18 _ rfl; simpa using this⟩)
        have HS7 : Hid (∀ w', Below w.heap.size w w' → w'.cell? ⟨b, off + k * 20 + 1, none⟩ = some (.int .i64 x.a) ∧ w'.cell? ⟨b, off + k * 20 + 2, none⟩ = some (.int .i64 x.b) ∧ w'.cell? ⟨b, off + k * 20 + 3, none⟩ = some (.int .i64 x.c)) := Hid.mk (fun w' hb => by have hr := hr0 w' hb; exact ⟨by have := hr 1 _ rfl; simpa using this, by have := hr 2 _ rfl; simpa using this, by have := hr 3 _ rfl; simpa using this⟩)
        obtain ⟨kd, hkd⟩ : ∃ n, n = x.kind := ⟨_, rfl⟩
        rw [← hkd] at c0
        clear hgood hr0 hx hkd
        by_cases e1 : kd = 1
        · subst e1
          go_upto_region 11 with (fail)
          go_region_held3 (fun w' => w'.cell? ⟨b, off + k * 20 + 1, none⟩ = some (.int .i64 x.a) ∧ w'.cell? ⟨b, off + k * 20 + 4, none⟩ = some (.string x.t.party) ∧ w'.cell? ⟨b, off + k * 20 + 5, none⟩ = some (.string x.t.account) ∧ w'.cell? ⟨b, off + k * 20 + 6, none⟩ = some (.string x.t.money) ∧ w'.cell? ⟨b, off + k * 20 + 7, none⟩ = some (.string x.t.other) ∧ w'.cell? ⟨b, off + k * 20 + 8, none⟩ = some (.bool x.t.deliver) ∧ w'.cell? ⟨b, off + k * 20 + 9, none⟩ = some (.string x.t.asset) ∧ w'.cell? ⟨b, off + k * 20 + 10, none⟩ = some (.string x.t.ccy) ∧ w'.cell? ⟨b, off + k * 20 + 11, none⟩ = some (.string x.t.ref) ∧ w'.cell? ⟨b, off + k * 20 + 12, none⟩ = some (.int .i64 x.t.qty) ∧ w'.cell? ⟨b, off + k * 20 + 13, none⟩ = some (.int .i64 x.t.amount) ∧ w'.cell? ⟨b, off + k * 20 + 14, none⟩ = some (.int .i64 x.t.day) ∧ w'.cell? ⟨b, off + k * 20 + 15, none⟩ = some (.int .i64 x.t.trade) ∧ w'.cell? ⟨b, off + k * 20 + 16, none⟩ = some (.bool x.on) ∧ w'.cell? ⟨b, off + k * 20 + 17, none⟩ = some (.bool x.off)) (first | exact HS1.out _ HB3.out | exact HS1.out _ (Old.drew HK.out).old) (first
            | (go_at_call 10
               refine add_calls w.heap.size gb v L x.t x.a x.on x.off _ _ (Old.drew HK.out).book HK.out.old.size HGX.out.1 ?_
               intro w3 v3 hb3 hk3 hn3
               have H3 := Hid.mk ((Old.drew HK.out).add hb3 hk3)
               have HB3 := Hid.mk H3.out.old
               have HO3 : Hid (OpIn w3 g3 o ∧ v3.ownBlock ≠ some g3) := Hid.mk ⟨hk3.heap HOK.out.1 (by rintro (e | e); exact HNE.out.1 e; exact HOK.out.2 e), fun e => by rcases hn3 g3 e with e2 | e2; exact HOK.out.2 e2; have := blk_lt HOK.out.1; exact absurd e2 (Nat.not_le.2 this)⟩
               clear hb3 hk3 hn3)
            | fail)
          go_wp2_with (fail)
          go_roundg (m - (k + 1))
          case measure => rw [HGG.out]; omega
          case rel => exact ⟨k + 1, v3, _, by omega, by go_num, H3, HO3, Hid.mk rfl⟩
        have n1 : (kd == 1) = false := by simpa using e1
        by_cases e3 : kd = 3
        · subst e3
          go_upto_region 13 with (fail)
          go_region_held3 (fun w' => w'.cell? ⟨b, off + k * 20 + 1, none⟩ = some (.int .i64 x.a) ∧ w'.cell? ⟨b, off + k * 20 + 18, none⟩ = some (.string x.party)) (first | exact HS3.out _ HB3.out | exact HS3.out _ (Old.drew HK.out).old) (first
            | (go_at_call 16
               refine cancel_calls w.heap.size gb v L x.party x.a _ _ (Old.drew HK.out).book ?_
               intro w3 hb3 hk3
               have H3 := Hid.mk ((Old.drew HK.out).step hb3 hk3)
               have HB3 := Hid.mk H3.out.old
               have HO3 : Hid (OpIn w3 g3 o ∧ v.ownBlock ≠ some g3) := Hid.mk ⟨hk3.heap HOK.out.1 (fun e => HOK.out.2 e), HOK.out.2⟩
               clear hb3 hk3)
            | fail)
          go_wp2_with (fail)
          go_roundg (m - (k + 1))
          case measure => rw [HGG.out]; omega
          case rel => exact ⟨k + 1, v, _, by omega, by go_num, H3, HO3, Hid.mk rfl⟩
        have n3 : (kd == 3) = false := by simpa using e3
        by_cases e7 : kd = 7
        · subst e7
          go_upto_region 15 with (fail)
          go_region_held3 (fun w' => w'.cell? ⟨b, off + k * 20 + 1, none⟩ = some (.int .i64 x.a) ∧ w'.cell? ⟨b, off + k * 20 + 2, none⟩ = some (.int .i64 x.b) ∧ w'.cell? ⟨b, off + k * 20 + 3, none⟩ = some (.int .i64 x.c)) (first | exact HS7.out _ HB3.out | exact HS7.out _ (Old.drew HK.out).old) (first
            | (go_at_call 20
               refine pair_calls w.heap.size gb v L x.a x.b x.c _ _ (Old.drew HK.out).book ?_
               intro w3 hb3 hk3
               have H3 := Hid.mk ((Old.drew HK.out).step hb3 hk3)
               have HB3 := Hid.mk H3.out.old
               have HO3 : Hid (OpIn w3 g3 o ∧ v.ownBlock ≠ some g3) := Hid.mk ⟨hk3.heap HOK.out.1 (fun e => HOK.out.2 e), HOK.out.2⟩
               clear hb3 hk3)
            | fail)
          go_wp2_with (fail)
          go_roundg (m - (k + 1))
          case measure => rw [HGG.out]; omega
          case rel => exact ⟨k + 1, v, _, by omega, by go_num, H3, HO3, Hid.mk rfl⟩
        have n7 : (kd == 7) = false := by simpa using e7
        clear e1 e3 e7
        go_wp2_with (fail)
        go_roundg (m - (k + 1))
        case measure => rw [HGG.out]; omega
        case rel => exact ⟨k + 1, v, L, by omega, by go_num, HK, HOK, Hid.mk rfl⟩
      · obtain rfl : k = m := by omega
        have c1 : wr.cell? ⟨g3, 1, none⟩ = some (.int .i64 o.a) := by rw [HOK.out.1.cell]; rfl
        obtain ⟨a, ha⟩ : ∃ n, n = o.a := ⟨_, rfl⟩
        obtain ⟨p, hp⟩ : ∃ n, n = o.party := ⟨_, rfl⟩
        rw [← ha] at c1
        have HA := Hid.mk (And.intro ha hp)
        clear ha hp
        go_wp2_with (fail)
        refine get_calls w.heap.size gb v L a _ _ HK.out.book ?_
        intro w2 hb2
        obtain ⟨x, hx⟩ : ∃ z, z = getX L a := ⟨_, rfl⟩
        obtain ⟨e0, he0⟩ : ∃ z, z = getE L a := ⟨_, rfl⟩
        rw [← hx, ← he0]
        have H4 := Hid.mk (HK.out.below hb2)
        have HO4 := Hid.mk (HOK.out.1.below hb2)
        have HX := Hid.mk (And.intro hx he0)
        clear hb2 hx he0 c1
        obtain ⟨g7, hg7⟩ : ∃ g, g = w2.heap.size := ⟨_, rfl⟩
        have HG7 := Hid.mk hg7
        clear hg7
        go_upto_region 17 with (refine wpList_var (op := ⟨none, .store 32 (.tmp 7) (.tmp 94), _, _, _, _⟩) rfl (.tmp 7) (.tmp 94) rfl rfl x rfl rfl rfl ?_; intro w3 hi3 hb3; have HX3 : Hid (InstAt w3 g7 x) := Hid.mk (by rw [HG7.out]; exact hi3); have H5 := Hid.mk (H4.out.below hb3); have HO5 := Hid.mk (HO4.out.below hb3); have HF7 : Hid (v.ownBlock ≠ some g7 ∧ g7 ≠ gb) := Hid.mk ⟨by rw [HG7.out]; intro e; have := (H4.out.book.own.lt _ e).2; omega, by rw [HG7.out]; intro e; have := blk_lt H4.out.book.cell; omega⟩; rw [← HG7.out]; clear hi3 hb3)
        obtain ⟨hx0, hhx⟩ : ∃ z, z = x.held := ⟨_, rfl⟩
        obtain ⟨px0, hpx⟩ : ∃ z, z = x.part := ⟨_, rfl⟩
        have HS : Hid (∀ w', OpIn w' g3 o → InstAt w' g7 x → w'.cell? ⟨g3, 18, none⟩ = some (.string p) ∧ w'.cell? ⟨g3, 1, none⟩ = some (.int .i64 a) ∧ w'.cell? ⟨g7, 15, none⟩ = some (.bool hx0) ∧ w'.cell? ⟨g7, 14, none⟩ = some (.bool px0)) := Hid.mk (fun w' h1 h2 => ⟨by rw [h1.cell, HA.out.2]; rfl, by rw [h1.cell, HA.out.1]; rfl, by rw [h2.cell, hhx]; rfl, by rw [h2.cell, hpx]; rfl⟩)
        have HHX := Hid.mk (And.intro hhx hpx)
        obtain ⟨e, he⟩ : ∃ z, z = mayE L p a := ⟨_, rfl⟩
        have HE := Hid.mk he
        have HM1 : Hid (holdE L p [a] = e) := Hid.mk (by rw [holdE_one, he])
        have HM2 : Hid (mayE (holdL L p (!hx0) [a]) p a = e) := Hid.mk (by rw [may1, he])
        have HM3 : Hid (mayE (keepL (holdL L p (!hx0) [a]) p a) p a = e) := Hid.mk (by rw [may2]; exact HM2.out)
        have HM4 : Hid (mayE (setPrioL (keepL (holdL L p (!hx0) [a]) p a) p a 2) p a = e) := Hid.mk (by rw [may3]; exact HM3.out)
        clear hhx hpx he
        go_cut [9] (fun v9 wc => ∃ gf : Nat, v9 = .slice (some ⟨gf, 0, none⟩) 4 4 ∧ Hid (Old w wc gb v (fourL L p a (!hx0) (!px0))) ∧ Hid (OpIn wc g3 o) ∧ Hid (InstAt wc g7 x) ∧ Hid (∃ ty, wc.heap[gf]? = some (.cells #[.int .i64 e, .int .i64 e, .int .i64 e, .int .i64 e] ty (0, 0))) ∧ Hid (v.ownBlock ≠ some gf ∧ gf < wc.heap.size))
        case first =>
          go_region_held3 (fun w' => w'.cell? ⟨g3, 18, none⟩ = some (.string p) ∧ w'.cell? ⟨g3, 1, none⟩ = some (.int .i64 a) ∧ w'.cell? ⟨g7, 15, none⟩ = some (.bool hx0) ∧ w'.cell? ⟨g7, 14, none⟩ = some (.bool px0))
            (first
              | exact HS.out _ HO9.out HX9.out
              | exact HS.out _ (HO9.out.below (below_allocs (Below.refl _ _) _)) (HX9.out.below (below_allocs (Below.refl _ _) _))
              | exact HS.out _ HO8.out HX8.out
              | exact HS.out _ HO7.out HX7.out
              | exact HS.out _ HO6.out HX6.out
              | exact HS.out _ HO5.out HX3.out
              | exact HS.out _ (OpIn.below (w := w3.drew) HO5.out (below_allocs (Below.refl _ _) _)) (InstAt.below (w := w3.drew) HX3.out (below_allocs (Below.refl _ _) _)))
            (first
            | (go_at_call 15
               refine hold_calls w.heap.size gb v L p (!hx0) [a] (some ⟨w3.heap.size, 0, none⟩) 1 _ _ ((Old.drew H5.out).book.alloc _) (Ints.new _ [a] 3 (by simp [maxLen])) (by intro b off hb hv; injection hb with hb; injection hb with hb; subst hb; have := (H5.out.book.own.lt _ hv).2; omega) ?_
               rw [HM1.out]
               intro w6 hb6 hk6
               have H6 := Hid.mk (((Old.drew H5.out).below (below_allocs (Below.refl _ _) _)).step hb6 hk6)
               have HO6 : Hid (OpIn w6 g3 o) := Hid.mk (hk6.heap (OpIn.below (w := w3.drew) HO5.out (below_allocs (Below.refl _ _) _)) HOK.out.2)
               have HX6 : Hid (InstAt w6 g7 x) := Hid.mk (hk6.heap (InstAt.below (w := w3.drew) HX3.out (below_allocs (Below.refl _ _) _)) HF7.out.1)
               clear hb6 hk6)
            | (go_at_call 17
               refine keep_calls w.heap.size gb v _ p a _ _ H6.out.book ?_
               rw [HM2.out]
               intro w7 hb7 hk7
               have H7 := Hid.mk (H6.out.step hb7 hk7)
               have HO7 : Hid (OpIn w7 g3 o) := Hid.mk (hk7.heap HO6.out HOK.out.2)
               have HX7 : Hid (InstAt w7 g7 x) := Hid.mk (hk7.heap HX6.out HF7.out.1)
               clear hb7 hk7)
            | (go_at_call 18
               refine setPrio_calls w.heap.size gb v _ p a 2 _ _ H7.out.book (by omega) ?_
               rw [HM3.out]
               intro w8 hb8 hk8
               have H8 := Hid.mk (H7.out.step hb8 hk8)
               have HO8 : Hid (OpIn w8 g3 o) := Hid.mk (hk8.heap HO7.out HOK.out.2)
               have HX8 : Hid (InstAt w8 g7 x) := Hid.mk (hk8.heap HX7.out HF7.out.1)
               clear hb8 hk8)
            | (go_at_call 19
               refine setPart_calls w.heap.size gb v _ p a (!px0) _ _ H8.out.book ?_
               rw [HM4.out]
               intro w9 hb9 hk9
               have H9 := Hid.mk (H8.out.step hb9 hk9)
               have HO9 : Hid (OpIn w9 g3 o) := Hid.mk (hk9.heap HO8.out HOK.out.2)
               have HX9 : Hid (InstAt w9 g7 x) := Hid.mk (hk9.heap HX8.out HF7.out.1)
               clear hb9 hk9)
            | fail)
          go_wp2_with (fail)
          go_meet
          case rel => exact ⟨w9.heap.size, rfl, Hid.mk (H9.out.below (below_allocs (Below.refl _ _) _)), Hid.mk (HO9.out.below (below_allocs (Below.refl _ _) _)), Hid.mk (HX9.out.below (below_allocs (Below.refl _ _) _)), Hid.mk ⟨_, blk_new _ _⟩, Hid.mk ⟨fun hv => by have := (H9.out.book.own.lt _ hv).2; omega, blk_lt (blk_new _ _)⟩⟩
        case rest =>
          obtain ⟨gf, rfl, H10, HO10, HX10, HF10, HN10⟩ := hcut
          clear H2 HO2 HK H4 HO4 H5 HO5 HX3 HS HM1 HM2 HM3 HM4 HO1
          have c1 : wc.cell? ⟨g3, 1, none⟩ = some (.int .i64 a) := by rw [HO10.out.cell, HA.out.1]; rfl
          go_wp2_with (fail)
          refine get_calls w.heap.size gb v _ a _ _ H10.out.book ?_
          intro w11 hb11
          obtain ⟨y, hy⟩ : ∃ z, z = getX (fourL L p a (!hx0) (!px0)) a := ⟨_, rfl⟩
          rw [← hy]
          have HY := Hid.mk hy
          have H11 := Hid.mk (H10.out.below hb11)
          have HO11 := Hid.mk (HO10.out.below hb11)
          have HX11 := Hid.mk (HX10.out.below hb11)
          have HF11 : Hid (∃ ty, w11.heap[gf]? = some (.cells #[.int .i64 e, .int .i64 e, .int .i64 e, .int .i64 e] ty (0, 0))) := Hid.mk (by obtain ⟨ty, hty⟩ := HF10.out; exact ⟨ty, (Keep.of_below hb11).heap hty (fun h => h)⟩)
          clear hb11 hy c1
          obtain ⟨g10, hg10⟩ : ∃ g, g = w11.heap.size := ⟨_, rfl⟩
          have HG10 := Hid.mk hg10
          clear hg10
          go_upto_block 3 with (refine wpList_var (op := ⟨none, .store 32 (.tmp 10) (.tmp 133), _, _, _, _⟩) rfl (.tmp 10) (.tmp 133) rfl rfl y rfl rfl rfl ?_; intro w12 hi12 hb12; have HY12 : Hid (InstAt w12 g10 y) := Hid.mk (by rw [HG10.out]; exact hi12); have H12 := Hid.mk (H11.out.below hb12); have HO12 := Hid.mk (HO11.out.below hb12); have HX12 := Hid.mk (HX11.out.below hb12); have HF12 : Hid (∃ ty, w12.heap[gf]? = some (.cells #[.int .i64 e, .int .i64 e, .int .i64 e, .int .i64 e] ty (0, 0))) := Hid.mk (by obtain ⟨ty, hty⟩ := HF11.out; exact ⟨ty, (Keep.of_below hb12).heap hty (fun h => h)⟩); rw [← HG10.out]; clear hi12 hb12)
          clear H10 HO10 HX10 HF10 H11 HO11 HX11 HF11
          go_cut [12] (fun v12 wd => v12 = .int .i64 e ∧ Hid (Old w wd gb v (fourL L p a (!hx0) (!px0))) ∧ Hid (InstAt wd g7 x) ∧ Hid (InstAt wd g10 y) ∧ Hid (∃ ty, wd.heap[gf]? = some (.cells #[.int .i64 e, .int .i64 e, .int .i64 e, .int .i64 e] ty (0, 0))))
          case first =>
            have cx1 : w12.cell? ⟨g7, 1, none⟩ = some (.string x.t.party) := by rw [HX12.out.cell]; rfl
            have cx17 : w12.cell? ⟨g7, 17, none⟩ = some (.int .i64 x.state) := by rw [HX12.out.cell]; rfl
            have co18 : w12.cell? ⟨g3, 18, none⟩ = some (.string p) := by rw [HO12.out.cell, HA.out.2]; rfl
            have hcs := may_cases L p a
            rw [← HX.out.1, ← HX.out.2, ← HE.out] at hcs
            obtain ⟨xp, hxp⟩ : ∃ z, z = x.t.party := ⟨_, rfl⟩
            obtain ⟨xs, hxs⟩ : ∃ z, z = x.state := ⟨_, rfl⟩
            rw [← hxp] at cx1 hcs
            rw [← hxs] at cx17 hcs
            clear hxp hxs
            rcases hcs with ⟨h1, h2⟩ | ⟨h1, h2, h3⟩ | ⟨h1, h2, h3, h4⟩ | ⟨h1, h2, h3, h4⟩
            · have HQ := Hid.mk h2
              subst h1
              clear h2
              go_wp2_with (fail)
              go_meet
              case rel => exact ⟨by rw [HQ.out], H12, HX12, HY12, HF12⟩
            · have HQ := Hid.mk h3
              have hne := bytes_ne h2
              subst h1
              clear h2 h3
              go_wp2_with (fail)
              go_meet
              case rel => exact ⟨by rw [HQ.out], H12, HX12, HY12, HF12⟩
            · have HQ := Hid.mk h4
              have hb : (decide (0 ≤ xs) && decide (xs ≤ 2)) = false := by simp; omega
              subst h1
              subst h2
              clear h3 h4
              go_wp2_with (fail)
              refine open_one xs _ _ ?_
              rw [hb]
              have H13 := Hid.mk (H12.out.below (below_allocs (Below.refl _ _) (.cells #[.int .i64 xs] 3)))
              have HX13 := Hid.mk (HX12.out.below (below_allocs (Below.refl _ _) (.cells #[.int .i64 xs] 3)))
              have HY13 := Hid.mk (HY12.out.below (below_allocs (Below.refl _ _) (.cells #[.int .i64 xs] 3)))
              have HF13 : Hid (∃ ty, (w12.alloc (.cells #[.int .i64 xs] 3)).heap[gf]? = some (.cells #[.int .i64 e, .int .i64 e, .int .i64 e, .int .i64 e] ty (0, 0))) := Hid.mk (by obtain ⟨ty, hty⟩ := HF12.out; exact ⟨ty, blk_alloc hty _⟩)
              go_wp2_with (fail)
              go_meet
              case rel => exact ⟨by rw [HQ.out], H13, HX13, HY13, HF13⟩
            · have HQ := Hid.mk h4
              have hb : (decide (0 ≤ xs) && decide (xs ≤ 2)) = true := by simp; omega
              subst h1
              subst h2
              clear h3 h4
              go_wp2_with (fail)
              refine open_one xs _ _ ?_
              rw [hb]
              have H13 := Hid.mk (H12.out.below (below_allocs (Below.refl _ _) (.cells #[.int .i64 xs] 3)))
              have HX13 := Hid.mk (HX12.out.below (below_allocs (Below.refl _ _) (.cells #[.int .i64 xs] 3)))
              have HY13 := Hid.mk (HY12.out.below (below_allocs (Below.refl _ _) (.cells #[.int .i64 xs] 3)))
              have HF13 : Hid (∃ ty, (w12.alloc (.cells #[.int .i64 xs] 3)).heap[gf]? = some (.cells #[.int .i64 e, .int .i64 e, .int .i64 e, .int .i64 e] ty (0, 0))) := Hid.mk (by obtain ⟨ty, hty⟩ := HF12.out; exact ⟨ty, blk_alloc hty _⟩)
              go_wp2_with (fail)
              go_meet
              case rel => exact ⟨by rw [HQ.out], H13, HX13, HY13, HF13⟩
          case rest =>
            obtain ⟨rfl, H14, HX14, HY14, HF14⟩ := hcut
            clear H12 HO12 HX12 HY12 HF12
            go_wp2_with (fail)
            go_loopg [13] 4 (fun gg vi wq => ∃ i : Nat, i ≤ 4 ∧ vi = .int .i64 i ∧ wc = wq ∧ Hid (gg = 4 - i))
            case atStart => exact ⟨0, by omega, rfl, rfl, Hid.mk rfl⟩
            case round =>
              obtain ⟨i, hi, rfl, hwq, HGI⟩ := hrel
              subst hwq
              by_cases hi4 : i < 4
              · have ci : wc.cell? ⟨gf, i, none⟩ = some (.int .i64 e) := by
                  obtain ⟨ty, hty⟩ := HF14.out
                  rw [blk_cell hty]
                  have : i = 0 ∨ i = 1 ∨ i = 2 ∨ i = 3 := by omega
                  rcases this with rfl | rfl | rfl | rfl <;> rfl
                go_wp2_with (fail)
                go_roundg (4 - (i + 1))
                case measure => rw [HGI.out]; omega
                case rel => exact ⟨i + 1, by omega, by go_num, rfl, Hid.mk rfl⟩
              · obtain rfl : i = 4 := by omega
                by_cases h0 : e = 0
                · have hyx : Hid (y.held = (!hx0) ∧ y.part = (!px0) ∧ y.prio = 2 ∧ y.wish = false ∧ y.state = x.state) := Hid.mk (by
                    rw [HY.out, four_yes L p a _ _ (by rw [← HE.out]; exact h0), HX.out.1]
                    exact ⟨rfl, rfl, rfl, rfl, rfl⟩)
                  subst h0
                  go_wp2_with (fail)
                  refine alive_calls _ _ ?_
                  intro w15 hb15
                  have H15 := Hid.mk (H14.out.below hb15)
                  have hX := HX14.out.below hb15
                  have hY := HY14.out.below hb15
                  have k1 : w15.cell? ⟨g7, 15, none⟩ = some (.bool hx0) := by rw [hX.cell, HHX.out.1]; rfl
                  have k2 : w15.cell? ⟨g7, 14, none⟩ = some (.bool px0) := by rw [hX.cell, HHX.out.2]; rfl
                  have k3 : w15.cell? ⟨g7, 17, none⟩ = some (.int .i64 x.state) := by rw [hX.cell]; rfl
                  have k4 : w15.cell? ⟨g10, 15, none⟩ = some (.bool (!hx0)) := by rw [hY.cell, ← hyx.out.1]; rfl
                  have k5 : w15.cell? ⟨g10, 14, none⟩ = some (.bool (!px0)) := by rw [hY.cell, ← hyx.out.2.1]; rfl
                  have k6 : w15.cell? ⟨g10, 13, none⟩ = some (.int .i64 2) := by rw [hY.cell, ← hyx.out.2.2.1]; rfl
                  have k7 : w15.cell? ⟨g10, 16, none⟩ = some (.bool false) := by rw [hY.cell, ← hyx.out.2.2.2.1]; rfl
                  have k8 : w15.cell? ⟨g10, 17, none⟩ = some (.int .i64 x.state) := by rw [hY.cell, ← hyx.out.2.2.2.2]; rfl
                  clear hb15 hX hY H14 HX14 HY14 HF14 HHX HX HE HY hyx HA HF7 HOK HNE HG7 HG10
                  cases hx0 <;> cases px0
                  all_goals
                    simp only [Bool.not_true, Bool.not_false] at k4 k5
                    go_wp2_with (fail)
                    exact HR.out _ H15.out.old
                · have hyx : Hid (y = x) := Hid.mk (by rw [HY.out, four_no L p a _ _ (by rw [← HE.out]; exact h0), HX.out.1])
                  have n0 : (e == 0) = false := by simpa using h0
                  clear h0
                  go_wp2_with (fail)
                  rename_i K0 hK0
                  refine alive_calls _ _ ?_
                  intro w15 hb15
                  have H15 := Hid.mk (H14.out.below hb15)
                  have HX15 := Hid.mk (HX14.out.below hb15)
                  have HY15 : Hid (InstAt w15 g10 x) := Hid.mk (by have := HY14.out.below hb15; rwa [hyx.out] at this)
                  clear hb15
                  dsimp only
                  refine hK0 _ _ ?_
                  clear hK0 K0
                  try simp only [Act.put, Array.getInternal_eq_getElem, List.getElem_toArray, List.getElem_cons_zero, List.getElem_cons_succ, List.setIfInBounds_toArray, List.set_cons_zero, List.set_cons_succ]
                  refine BigFrame.wpList_want (by rfl) (fun K hK => ?_)
                  go_simp
                  try (refine hK _ _ ?_; clear hK K)
                  try simp only [Act.put, Array.getInternal_eq_getElem, List.getElem_toArray, List.getElem_cons_zero, List.getElem_cons_succ, List.setIfInBounds_toArray, List.set_cons_zero, List.set_cons_succ]
                  refine BigFrame.wpList_want (by rfl) (fun K hK => ?_)
                  refine wp_load_mid 32 (.tmp 7) rfl g7 0 rfl x.cells _ HX15.out.range Try.underlying32 rfl info32 ?_
                  refine hK _ _ ?_
                  clear hK K
                  try simp only [Act.put, Array.getInternal_eq_getElem, List.getElem_toArray, List.getElem_cons_zero, List.getElem_cons_succ, List.setIfInBounds_toArray, List.set_cons_zero, List.set_cons_succ]
                  refine BigFrame.wpList_want (by rfl) (fun K hK => ?_)
                  refine wp_load_mid 32 (.tmp 10) rfl g10 0 rfl x.cells _ HY15.out.range Try.underlying32 rfl info32 ?_
                  refine hK _ _ ?_
                  clear hK K
                  try simp only [Act.put, Array.getInternal_eq_getElem, List.getElem_toArray, List.getElem_cons_zero, List.getElem_cons_succ, List.setIfInBounds_toArray, List.set_cons_zero, List.set_cons_succ]
                  refine BigFrame.wpList_want (by rfl) (fun K hK => ?_)
                  refine wp_run (v := .bool true) (exec_eql32 (.tmp 167) (.tmp 168) rfl x rfl rfl) ?_
                  refine hK _ _ ?_
                  clear hK K
                  try simp only [Act.put, Array.getInternal_eq_getElem, List.getElem_toArray, List.getElem_cons_zero, List.getElem_cons_succ, List.setIfInBounds_toArray, List.set_cons_zero, List.set_cons_succ]
                  go_wp2_with (fail)
                  exact HR.out _ H15.out.old
end Go.Proofs.Yteecekijekegdaa
