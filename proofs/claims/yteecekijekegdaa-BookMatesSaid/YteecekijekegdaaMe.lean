/- The walk of the law BookMates, its inner loop: what is asked of each. Plain lemmas, their conditions are what the round has at hand. -/
import Derived.Test.YteecekijekegdaaMd
namespace Go.Proofs.Yteecekijekegdaa
open Go.RowKit

set_option linter.unusedVariables false in
set_option maxRecDepth 100000 in
set_option maxHeartbeats 8000000 in
theorem in_all (w : World) (gb n cap5 B5 : Nat) (A5 : Option Addr) (v : Value) (L : List InstD) (w5 : World) (Q : Exit → Act → World → Prop) (c0 c1 c2 c4 c5 c8 c9 c10 c11 c12 c13 c14 c15 c16 c17 c18 c19 c20 c21 c22 c23 c24 c25 c26 c27 c28 c29 c30 c31 c32 c33 c34 c35 c36 c37 c38 c39 c40 c41 c42 c43 c44 c45 c46 c47 c48 c49 c50 c51 c52 c53 c54 c55 c56 c57 c58 c59 c60 c61 c62 c63 c64 c65 c66 c67 c68 c69 c70 c71 c72 c73 c74 c75 c76 c77 c78 c79 c80 c81 c82 c83 c84 c85 c86 c87 c88 c89 c90 c91 c92 c93 c94 c95 c96 c97 c98 c99 c100 c101 c102 c103 c104 c105 c106 c107 c108 c109 c110 c111 c112 c113 c114 c115 c116 c117 c118 c119 c120 c121 c122 c123 c124 c125 c126 c127 c128 c129 c130 c131 c132 c133 c134 c135 c136 c137 c138 c139 c140 c141 c142 c143 c144 c145 c146 c147 c148 c149 c150 c151 c152 c153 c154 c155 c156 c157 c158 c159 c160 c161 c162 c163 c164 c165 c166 c167 c168 c169 c170 c171 c172 c173 c174 c175 c176 c177 c178 c179 c180 c181 c182 c183 c184 c185 c186 c187 c188 c189 c190 c191 c192 c193 c194 c195 c196 c197 c198 c199 c200 c201 c202 c203 c204 c205 c206 c207 c208 c209 c210 c211 c212 c213 c214 c215 c216 c217 c218 c219 c220 c221 c222 c223 c224 c225 c226 c227 c228 c229 c230 c231 c232 c233 c234 c235 c236 c237 : Value)
    (H5 : Hid (Old w w5 gb v L)) (HI : Hid (Inv L)) (HN : Hid (n = L.length)) (HW : Hid (w5.ownsRow B5 32 21 (.slice A5 n cap5) n (rows L))) (HC : n ≤ cap5 ∧ n ≤ 120)
    (HQ : Hid (∀ (s2 s7 s8 s9 s10 s107 s108 s109 s110 s111 s112 s113 s114 s115 s116 s117 s118 s119 s120 s121 s122 s123 s124 s125 s126 s127 s128 s129 s130 s131 s132 s133 s134 s135 s136 s137 s138 s139 s140 s141 s142 s143 s144 s145 s146 s147 s148 s149 s150 s151 s152 s153 s154 s155 s156 s157 s158 s159 s160 s161 s162 s163 s164 s165 s166 s167 s168 s169 s170 s171 s172 s173 s174 s175 s176 s177 s178 s179 s180 s181 s182 s183 s184 s185 s186 s187 s188 s189 s190 s191 s192 s193 s194 s195 s196 s197 s198 s199 s200 s201 s202 s203 s204 s205 s206 s207 s208 s209 s210 s211 s212 s213 s214 s215 s216 s217 s218 s219 s220 s221 s222 s223 s224 s225 s226 s227 s228 s229 s230 s231 s232 s233 s234 s235 s236 : Value) (w' : World), Old w w' gb v L → Q .normal ⟨#[c0, c1, s2, .pointer (some ⟨gb, 0, none⟩), c4, c5, .slice A5 n cap5, s7, s8, s9, s10, c11, c12, c13, c14, c15, c16, c17, c18, c19, c20, c21, c22, c23, c24, c25, c26, c27, c28, c29, c30, c31, c32, c33, c34, c35, c36, c37, c38, c39, c40, c41, c42, c43, c44, c45, c46, c47, c48, c49, c50, c51, c52, c53, c54, c55, c56, c57, c58, c59, c60, c61, c62, c63, c64, c65, c66, c67, c68, c69, c70, c71, c72, c73, c74, c75, c76, c77, c78, c79, c80, c81, c82, c83, c84, c85, c86, c87, c88, c89, c90, c91, c92, c93, c94, c95, c96, c97, c98, c99, c100, c101, c102, c103, c104, c105, c106, s107, s108, s109, s110, s111, s112, s113, s114, s115, s116, s117, s118, s119, s120, s121, s122, s123, s124, s125, s126, s127, s128, s129, s130, s131, s132, s133, s134, s135, s136, s137, s138, s139, s140, s141, s142, s143, s144, s145, s146, s147, s148, s149, s150, s151, s152, s153, s154, s155, s156, s157, s158, s159, s160, s161, s162, s163, s164, s165, s166, s167, s168, s169, s170, s171, s172, s173, s174, s175, s176, s177, s178, s179, s180, s181, s182, s183, s184, s185, s186, s187, s188, s189, s190, s191, s192, s193, s194, s195, s196, s197, s198, s199, s200, s201, s202, s203, s204, s205, s206, s207, s208, s209, s210, s211, s212, s213, s214, s215, s216, s217, s218, s219, s220, s221, s222, s223, s224, s225, s226, s227, s228, s229, s230, s231, s232, s233, s234, s235, s236, c237], []⟩ w')) :
    Code.wp Try.prog ((Try.f7.body.bind (findBlock 3)).getD .skip) Q ⟨#[c0, c1, c2, .pointer (some ⟨gb, 0, none⟩), c4, c5, .slice A5 n cap5, .int .i64 0, c8, c9, c10, c11, c12, c13, c14, c15, c16, c17, c18, c19, c20, c21, c22, c23, c24, c25, c26, c27, c28, c29, c30, c31, c32, c33, c34, c35, c36, c37, c38, c39, c40, c41, c42, c43, c44, c45, c46, c47, c48, c49, c50, c51, c52, c53, c54, c55, c56, c57, c58, c59, c60, c61, c62, c63, c64, c65, c66, c67, c68, c69, c70, c71, c72, c73, c74, c75, c76, c77, c78, c79, c80, c81, c82, c83, c84, c85, c86, c87, c88, c89, c90, c91, c92, c93, c94, c95, c96, c97, c98, c99, c100, c101, c102, c103, c104, c105, c106, c107, c108, c109, c110, c111, c112, c113, c114, c115, c116, c117, c118, c119, c120, c121, c122, c123, c124, c125, c126, c127, c128, c129, c130, c131, c132, c133, c134, c135, c136, c137, c138, c139, c140, c141, c142, c143, c144, c145, c146, c147, c148, c149, c150, c151, c152, c153, c154, c155, c156, c157, c158, c159, c160, c161, c162, c163, c164, c165, c166, c167, c168, c169, c170, c171, c172, c173, c174, c175, c176, c177, c178, c179, c180, c181, c182, c183, c184, c185, c186, c187, c188, c189, c190, c191, c192, c193, c194, c195, c196, c197, c198, c199, c200, c201, c202, c203, c204, c205, c206, c207, c208, c209, c210, c211, c212, c213, c214, c215, c216, c217, c218, c219, c220, c221, c222, c223, c224, c225, c226, c227, c228, c229, c230, c231, c232, c233, c234, c235, c236, c237], []⟩ w5 := by
  conv => arg 2; whnf
  obtain ⟨hc5, hn120⟩ := HC
  have HCC := Hid.mk hc5
  clear hc5
  go_wp2_with (fail)
  go_loopg [7] n (fun gg vi wr => ∃ k : Nat, k ≤ n ∧ vi = .int .i64 k ∧ Hid (Old w wr gb v L) ∧ Hid (Below w5.heap.size w5 wr) ∧ Hid (gg = n - k))
  case atStart => exact ⟨0, by omega, rfl, H5, Hid.mk (Below.refl _ _), Hid.mk rfl⟩
  case round =>
    obtain ⟨k, hk, rfl, HO, HB, HGG⟩ := hrel
    by_cases hlt : k < n
    · obtain ⟨x, hx⟩ : ∃ x, L[k]? = some x := ⟨L[k]'(by rw [← HN.out]; exact hlt), by simp⟩
      have hown := ownsRow_below HW.out HB.out
      rw [HN.out] at hown
      obtain ⟨A6, cap6, he, hc6, hget⟩ := row_get hown
      injection he with he1 _ he3
      subst he1
      subst he3
      obtain ⟨ga, hAe, hrng⟩ := hget k x hx
      subst hAe
      have HRG := Hid.mk hrng
      have HX := Hid.mk hx
      have hkc : k < cap5 := by have := HCC.out; omega
      clear hown hget hrng hx hc6
      obtain ⟨g8, hg8⟩ : ∃ g, g = wr.heap.size := ⟨_, rfl⟩
      have HG8 := Hid.mk hg8
      clear hg8
      go_upto_region 32 with (first
        | (refine wpList_load_mid rfl 32 (.tmp 115) rfl ga (k * 21) rfl x.cells _ HRG.out Try.underlying32 rfl info32 ?_)
        | (refine wpList_var (op := ⟨none, .store 32 (.tmp 8) (.tmp 116), _, _, _, _⟩) rfl (.tmp 8) (.tmp 116) rfl rfl x rfl rfl rfl ?_; intro w6 hi6 hb6; have HX6 : Hid (InstAt w6 g8 x) := Hid.mk (by rw [HG8.out]; exact hi6); have H6 := Hid.mk (HO.out.below hb6); have HB6 := Hid.mk (below_then HB.out hb6); rw [← HG8.out]; clear hi6 hb6))
      refine r32_all (L := L) (k2 := k) _ g8 x _ _ _ _ _ _ _ _ _ _ _ _ _ _ _ _ _ _ _ _ _ _ _ _ _ _ _ _ _ _ _ _ _ _ _ _ _ _ _ _ _ _ _ _ _ _ _ _ _ _ _ _ _ _ _ _ _ _ _ _ _ _ _ _ _ _ _ _ _ _ _ _ _ _ _ _ _ _ _ _ _ _ _ _ _ _ _ _ _ _ _ _ _ _ _ _ _ _ _ _ _ _ _ _ _ _ _ _ _ _ _ _ _ _ _ _ _ _ _ _ _ _ _ _ _ _ _ _ _ _ _ _ _ _ _ _ _ _ _ _ _ _ _ _ _ _ _ _ _ _ _ _ _ _ _ _ _ _ _ _ _ _ _ _ _ _ _ _ _ _ _ _ _ _ _ _ _ _ _ _ _ _ _ _ _ _ _ _ _ _ _ _ _ _ _ _ _ _ _ _ _ _ _ _ _ _ _ _ _ _ _ _ _ _ _ _ _ _ _ _ _ _ _ _ _ _ _ _ _ _ _ _ _ _ _ _ _ _ HI.out HX.out HX6 ?_
      refine Hid.mk ?_
      intro s117 s118 s119 s120 s121 s122 s123 s124 s125 s126 s127 s128 s129 s130 s131 s132 s133 s134 s135 s136 s137 s138 s139 s140 s141 s142 s143 s144 s145 s146 s147 s148 s149 s150 s151 s152 s153 s154 s155 s156 s157 s158 s159 s160 s161 s162 s163 s164 s165 s166 s167 s168 s169 s170 s171 s172 s173 s174 s175 s176 s177
      dsimp only
      obtain ⟨-, hc⟩ := mates_check HI.out HX.out
      rcases hc with ⟨m0, s3⟩ | ⟨j, y, hy, m1, m2, q1, q2, q3, q4, q5, q6, hs⟩
      · have k18 : w6.cell? ⟨g8, 18, none⟩ = some (.int .i64 0) := by rw [HX6.out.cell, ← m0]; rfl
        clear m0 s3
        go_wp2_with (fail)
        go_roundg (n - (k + 1))
        case measure => rw [HGG.out]; omega
        case rel => exact ⟨k + 1, by omega, by go_num, H6, HB6, Hid.mk rfl⟩
      · have k18 : w6.cell? ⟨g8, 18, none⟩ = some (.int .i64 ((j : Int) + 1)) := by rw [HX6.out.cell, ← m1]; rfl
        have j1 : (((j : Int) + 1) == 0) = false := by simp; omega
        have HY := Hid.mk hy
        have HQS := Hid.mk (And.intro q1 (And.intro q2 (And.intro q3 (And.intro q4 (And.intro q5 q6)))))
        clear hy m1 m2 q1 q2 q3 q4 q5 q6 hs
        go_wp2_with (fail)
        refine get_some w.heap.size gb v L j y _ _ H6.out.book HY.out ?_
        intro w7 hb7
        have H7 := Hid.mk (H6.out.below hb7)
        have HB7 := Hid.mk (below_then HB6.out hb7)
        have HX7 := Hid.mk (HX6.out.below hb7)
        clear hb7 k18
        obtain ⟨g9, hg9⟩ : ∃ g, g = w7.heap.size := ⟨_, rfl⟩
        have HG9 := Hid.mk hg9
        clear hg9
        go_upto_region 36 with (refine wpList_var (op := ⟨none, .store 32 (.tmp 9) (.tmp 187), _, _, _, _⟩) rfl (.tmp 9) (.tmp 187) rfl rfl y rfl rfl rfl ?_; intro w8 hi8 hb8; have HY8 : Hid (InstAt w8 g9 y) := Hid.mk (by rw [HG9.out]; exact hi8); have H8 := Hid.mk (H7.out.below hb8); have HB8 := Hid.mk (below_then HB7.out hb8); have HX8 := Hid.mk (HX7.out.below hb8); rw [← HG9.out]; clear hi8 hb8)
        refine r36_all _ g8 g9 x y _ _ _ _ _ _ _ _ _ _ _ _ _ _ _ _ _ _ _ _ _ _ _ _ _ _ _ _ _ _ _ _ _ _ _ _ _ _ _ _ _ _ _ _ _ _ _ _ _ _ _ _ _ _ _ _ _ _ _ _ _ _ _ _ _ _ _ _ _ _ _ _ _ _ _ _ _ _ _ _ _ _ _ _ _ _ _ _ _ _ _ _ _ _ _ _ _ _ _ _ _ _ _ _ _ _ _ _ _ _ _ _ _ _ _ _ _ _ _ _ _ _ _ _ _ _ _ _ _ _ _ _ _ _ _ _ _ _ _ _ _ _ _ _ _ _ _ _ _ _ _ _ _ _ _ _ _ _ _ _ _ _ _ _ _ _ _ _ _ _ _ _ _ _ _ _ _ _ _ _ _ _ _ _ _ _ _ _ _ _ _ _ _ _ _ _ _ _ _ _ _ _ _ _ _ _ _ _ _ _ _ _ _ _ _ _ _ _ _ _ _ _ _ _ _ _ _ _ _ _ _ _ _ _ _ _ HQS.out.1 HQS.out.2.1 HQS.out.2.2.1 HQS.out.2.2.2.1 HQS.out.2.2.2.2.1 HQS.out.2.2.2.2.2 HX8 HY8 ?_
        refine Hid.mk ?_
        intro s189 s190 s191 s192 s193 s194 s195 s196 s197 s198 s199 s200 s201 s202 s203 s204 s205 s206 s207 s208 s209 s210 s211 s212 s213 s214 s215 s216 s217 s218 s219 s220 s221 s222 s223 s224 s225 s226 s227 s228 s229 s230 s231 s232 s233 s234 s235
        dsimp only
        go_wp2_with (fail)
        go_roundg (n - (k + 1))
        case measure => rw [HGG.out]; omega
        case rel => exact ⟨k + 1, by omega, by go_num, H8, HB8, Hid.mk rfl⟩
    · obtain rfl : k = n := by omega
      go_wp2_with (fail)
      exact HQ.out _ _ _ _ _ _ _ _ _ _ _ _ _ _ _ _ _ _ _ _ _ _ _ _ _ _ _ _ _ _ _ _ _ _ _ _ _ _ _ _ _ _ _ _ _ _ _ _ _ _ _ _ _ _ _ _ _ _ _ _ _ _ _ _ _ _ _ _ _ _ _ _ _ _ _ _ _ _ _ _ _ _ _ _ _ _ _ _ _ _ _ _ _ _ _ _ _ _ _ _ _ _ _ _ _ _ _ _ _ _ _ _ _ _ _ _ _ _ _ _ _ _ _ _ _ _ _ _ _ _ _ _ _ _ _ _ HO.out
end Go.Proofs.Yteecekijekegdaa
