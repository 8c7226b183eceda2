/- The walk of the law MoneyParts: it answers true at every three ints, and leaves old memory as it was. -/
import Derived.Test.YtalgnpgpbbjgpaaMh
import Derived.Test.YtalgnpgpbbjgpaaBf
namespace Go.Proofs.Ytalgnpgpbbjgpaa
open Go.RowKit

set_option maxHeartbeats 2000000 in
set_option maxRecDepth 100000 in
theorem moneyParts_calls (a b c : Int) (w : World) (R : Ending → World → Prop) (ha : I64 a) (hb : I64 b) (hc : I64 c) (hR : ∀ w', Below w.heap.size w w' → R (.returned (.bool true)) w') :
    Calls Try.prog 3 #[.int .i64 a, .int .i64 b, .int .i64 c] w R := by
  have HR := Hid.mk hR
  have HA := Hid.mk (And.intro ha (And.intro hb hc))
  clear ha hb hc hR
  go_enter Try.func3, Try.ntmps3
  go_wp2_with (fail)
  refine mulDiv_calls a b c _ _ HA.out.1 HA.out.2.1 HA.out.2.2 ?_
  intro w1 hb1
  go_wp2_with (fail)
  refine rmulDiv_calls a b c _ _ HA.out.1 HA.out.2.1 HA.out.2.2 ?_
  intro w2 hb2
  replace hb2 := below_then hb1 hb2
  clear hb1
  generalize (mulDiv a b c).1 = x1
  generalize (mulDiv a b c).2 = x2
  go_wp2_with (fail)
  refine share_calls a b c _ _ HA.out.1 HA.out.2.1 HA.out.2.2 ?_
  intro w3 hb3
  replace hb3 := below_then hb2 hb3
  clear hb2
  go_wp2_with (fail)
  refine rshare_calls a b c _ _ HA.out.1 HA.out.2.1 HA.out.2.2 ?_
  intro w4 hb4
  replace hb4 := below_then hb3 hb4
  clear hb3
  generalize (share a b c).1 = x3
  generalize (share a b c).2 = x4
  go_wp2_with (fail)
  refine worth_calls a b c _ _ HA.out.1 HA.out.2.1 HA.out.2.2 ?_
  intro w5 hb5
  replace hb5 := below_then hb4 hb5
  clear hb4
  go_wp2_with (fail)
  refine rworth_calls a b c _ _ HA.out.1 HA.out.2.1 HA.out.2.2 ?_
  intro w6 hb6
  replace hb6 := below_then hb5 hb6
  clear hb5
  generalize (worth a b c).1 = x5
  generalize (worth a b c).2 = x6
  go_wp2_with (fail)
  refine need_calls a b c _ _ HA.out.1 HA.out.2.1 HA.out.2.2 ?_
  intro r w7 hr hb7
  replace hb7 := below_then hb6 hb7
  clear hb6
  have HN := Hid.mk hr
  clear hr
  go_wp2_with (fail)
  refine rneed_calls a b c _ _ HA.out.1 HA.out.2.1 HA.out.2.2 ?_
  intro s w8 hs hb8
  replace hb8 := below_then hb7 hb8
  clear hb7
  have e : r = s := needIs_unique _ _ _ _ _ HN.out hs
  clear HN hs
  subst e
  obtain ⟨r1, r2⟩ := r
  go_wp2_with (fail)
  refine alive_calls _ _ ?_
  intro w9 hb9
  replace hb9 := below_then hb8 hb9
  clear hb8
  go_wp2_with (fail)
  exact HR.out _ hb9
end Go.Proofs.Ytalgnpgpbbjgpaa
