/- The walk of the law BookMates: it answers true, at every input that can be read. -/
import Derived.Test.YteecekijekegdaaMe
namespace Go.Proofs.Yteecekijekegdaa
open Go.RowKit

set_option linter.unusedSimpArgs false in
set_option maxRecDepth 100000 in
set_option maxHeartbeats 8000000 in
theorem mates_calls (l : List OpD) (A : Option Addr) (cap : Nat) (w : World) (R : Ending → World → Prop) (h : OpsAt w A l)
    (hR : ∀ w', Below w.heap.size w w' → R (.returned (.bool true)) w') : Calls Try.prog 7 #[.slice A l.length cap] w R := by
  have HR := Hid.mk hR
  have HT := Hid.mk h
  have hl := h.1
  unfold maxLen at hl
  clear hR h
  go_enter Try.func7, Try.ntmps7
  go_wp2_with (fail)
  refine light_calls l A cap _ _ HT.out ?_
  intro w1 b hb1 hlight
  have HB1 := Hid.mk hb1
  have HLT := Hid.mk hlight
  clear hb1 hlight
  obtain ⟨m, hm⟩ : ∃ m, m = l.length := ⟨_, rfl⟩
  rw [← hm] at hl
  rw [← hm]
  have HM := Hid.mk hm
  clear hm
  cases b with
  | false =>
    go_wp2_with (fail)
    refine alive_calls _ _ ?_
    intro w2 hb2
    have HB2 := Hid.mk (below_then HB1.out hb2)
    clear hb2
    go_wp2_with (fail)
    exact HR.out _ HB2.out
  | true =>
    have HLL : Hid (LightL l) := Hid.mk (HLT.out rfl)
    go_wp2_with (fail)
    refine new_calls _ _ ?_
    intro w2 hn2 hb2
    obtain ⟨gb, hgb⟩ : ∃ g, g = w1.heap.size := ⟨_, rfl⟩
    have H2 : Hid (Old w w2 gb (.slice none 0 0) []) := Hid.mk (by rw [hgb]; exact ⟨⟨hn2, HB1.out.size, World.ownsRow_nil _ _ _ _⟩, below_then HB1.out hb2⟩)
    rw [← hgb]
    clear hn2 hb2 hgb HB1 HLT
    go_wp2_with (fail)
    go_loopg [4] m (fun gg vi wr => ∃ (k : Nat) (v : Value) (L : List InstD), k ≤ m ∧ vi = .int .i64 k ∧ Hid (Old w wr gb v L) ∧ Hid (Inv L ∧ L.length ≤ 120) ∧ Hid (gg = m - k))
    case atStart => exact ⟨0, _, [], by omega, rfl, H2, Hid.mk ⟨Inv.nil, by simp⟩, Hid.mk rfl⟩
    case round =>
      obtain ⟨k, v, L, hk, rfl, HK, HI, HGG⟩ := hrel
      by_cases hlt : k < m
      · obtain ⟨x, hx⟩ : ∃ x, l[k]? = some x := ⟨l[k]'(by rw [← HM.out]; exact hlt), by simp⟩
        obtain ⟨-, b, off, hAe, hrng⟩ := (HT.out.below HK.out.old).get k x hx
        subst hAe
        have HGX : Hid (x.Good w) := Hid.mk (HT.out.get k x hx).1
        have HLX : Hid (LightO x) := Hid.mk (HLL.out.2 x (List.mem_of_getElem? hx))
        have HRG := Hid.mk hrng
        clear hx hrng
        obtain ⟨g5, hg5⟩ : ∃ g, g = wr.heap.size := ⟨_, rfl⟩
        have HG5 := Hid.mk hg5
        clear hg5
        go_upto_block 2 with (first
          | (refine wpList_load_mid rfl 39 (.tmp 26) rfl b _ rfl x.cells _ HRG.out Try.underlying39 rfl info39 ?_)
          | (refine wpList_varO (op := ⟨none, .store 39 (.tmp 5) (.tmp 27), _, _, _, _⟩) rfl (.tmp 5) (.tmp 27) rfl rfl x rfl rfl rfl ?_; intro w3 hi3 hb3; have HX3 : Hid (OpIn w3 g5 x) := Hid.mk (by rw [HG5.out]; exact hi3); have H3 := Hid.mk (HK.out.below hb3); have c0 : w3.cell? ⟨g5, 0, none⟩ = some (.int .i64 x.kind) := by rw [HX3.out.cell]; rfl
             rw [← HG5.out]; clear hi3 hb3))
        obtain ⟨kd, hkd⟩ : ∃ n, n = x.kind := ⟨_, rfl⟩
        clear c0
        rw [← hkd]
        clear hkd HRG
        go_cut [4] (fun v4 wc => v4 = .int .i64 k ∧ ∃ (v' : Value) (L' : List InstD), Hid (Old w wc gb v' L') ∧ Hid (Inv L' ∧ L'.length ≤ 120))
        case first =>
          refine sw_all l cap w R b off m gb g5 k x v L w3 _ _ _ _ _ _ _ _ _ _ _ _ _ _ _ _ _ _ _ _ _ _ _ _ _ _ _ _ _ _ _ _ _ _ _ _ _ _ _ _ _ _ _ _ _ _ _ _ _ _ _ _ _ _ _ _ _ _ _ _ _ _ _ _ _ _ _ _ _ _ _ _ _ _ _ _ _ _ _ _ _ _ _ _ _ _ _ _ _ _ _ _ _ _ _ _ _ _ _ _ _ _ _ _ _ _ _ _ _ _ _ _ _ _ _ _ _ _ _ _ _ _ _ _ _ _ _ _ _ _ _ _ _ _ _ _ _ _ _ _ _ _ _ _ _ _ _ _ _ _ _ _ _ _ _ _ _ _ _ _ _ _ _ _ _ _ _ _ _ _ _ _ _ _ _ _ _ _ _ _ _ _ _ _ _ _ _ _ _ _ _ _ _ _ _ _ _ _ _ _ _ _ _ _ _ _ _ _ _ _ _ _ _ _ _ _ _ _ _ kd HR HGX HLX HX3 H3 HI ?_
          refine Hid.mk ?_
          intro s30 s31 s32 s33 s34 s35 s36 s37 s38 s39 s40 s41 s42 s43 s44 s45 s46 s47 s48 s49 s50 s51 s52 s53 s54 s55 s56 s57 s58 s59 s60 s61 s62 s63 s64 s65 s66 s67 s68 s69 s70 s71 s72 s73 s74 s75 s76 s77 s78 s79 s80 s81 s82 s83 s84 s85 s86 s87 s88 s89 s90 s91 s92 s93 s94 s95 s96 s97 s98 s99 s100 s101 s102 s103 s104 w4 v4 L4 h1 h2
          dsimp only
          go_wp2_with (fail)
          go_meet
          case rel => exact ⟨rfl, v4, L4, Hid.mk h1, Hid.mk h2⟩
        case rest =>
          obtain ⟨rfl, v4, L4, H4, HI4⟩ := hcut
          clear HK HI HX3 H3 HG5
          go_wp2_with (fail)
          refine list_calls w.heap.size gb v4 L4 _ _ H4.out.book HI4.out.2 ?_
          intro w5 u hb5 ho5
          obtain ⟨A5, cap5, rfl, hc5, -⟩ := row_get ho5
          have HW5 := Hid.mk ho5
          have H5 := Hid.mk (H4.out.below hb5)
          have HC5 : Hid (L4.length ≤ cap5) := Hid.mk hc5
          clear hb5 ho5 hc5
          obtain ⟨n, hn⟩ : ∃ n, n = L4.length := ⟨_, rfl⟩
          rw [← hn]
          have HN := Hid.mk hn
          clear hn
          go_upto_block 3 with (fail)
          refine in_all w gb n cap5 _ A5 v4 L4 w5 _ _ _ _ _ _ _ _ _ _ _ _ _ _ _ _ _ _ _ _ _ _ _ _ _ _ _ _ _ _ _ _ _ _ _ _ _ _ _ _ _ _ _ _ _ _ _ _ _ _ _ _ _ _ _ _ _ _ _ _ _ _ _ _ _ _ _ _ _ _ _ _ _ _ _ _ _ _ _ _ _ _ _ _ _ _ _ _ _ _ _ _ _ _ _ _ _ _ _ _ _ _ _ _ _ _ _ _ _ _ _ _ _ _ _ _ _ _ _ _ _ _ _ _ _ _ _ _ _ _ _ _ _ _ _ _ _ _ _ _ _ _ _ _ _ _ _ _ _ _ _ _ _ _ _ _ _ _ _ _ _ _ _ _ _ _ _ _ _ _ _ _ _ _ _ _ _ _ _ _ _ _ _ _ _ _ _ _ _ _ _ _ _ _ _ _ _ _ _ _ _ _ _ _ _ _ _ _ _ _ _ _ _ _ _ _ _ _ _ _ _ _ _ _ _ _ _ _ _ _ _ _ _ _ _ _ H5 (Hid.mk HI4.out.1) HN (Hid.mk (by rw [HN.out]; exact HW5.out)) ⟨by have h1 := HN.out; have h2 := HC5.out; omega, by have h1 := HN.out; have h2 := HI4.out.2; omega⟩ ?_
          refine Hid.mk ?_
          intro s2 s7 s8 s9 s10 s107 s108 s109 s110 s111 s112 s113 s114 s115 s116 s117 s118 s119 s120 s121 s122 s123 s124 s125 s126 s127 s128 s129 s130 s131 s132 s133 s134 s135 s136 s137 s138 s139 s140 s141 s142 s143 s144 s145 s146 s147 s148 s149 s150 s151 s152 s153 s154 s155 s156 s157 s158 s159 s160 s161 s162 s163 s164 s165 s166 s167 s168 s169 s170 s171 s172 s173 s174 s175 s176 s177 s178 s179 s180 s181 s182 s183 s184 s185 s186 s187 s188 s189 s190 s191 s192 s193 s194 s195 s196 s197 s198 s199 s200 s201 s202 s203 s204 s205 s206 s207 s208 s209 s210 s211 s212 s213 s214 s215 s216 s217 s218 s219 s220 s221 s222 s223 s224 s225 s226 s227 s228 s229 s230 s231 s232 s233 s234 s235 s236 w6 h6
          have H6 := Hid.mk h6
          clear h6
          dsimp only
          go_wp2_with (fail)
          go_roundg (m - (k + 1))
          case measure => rw [HGG.out]; omega
          case rel => exact ⟨k + 1, v4, L4, by omega, by go_num, H6, HI4, Hid.mk rfl⟩
      · obtain rfl : k = m := by omega
        go_wp2_with (fail)
        refine alive_calls _ _ ?_
        intro w6 hb6
        have H6 := Hid.mk (HK.out.below hb6)
        clear hb6
        go_wp2_with (fail)
        exact HR.out _ H6.out.old
end Go.Proofs.Yteecekijekegdaa
