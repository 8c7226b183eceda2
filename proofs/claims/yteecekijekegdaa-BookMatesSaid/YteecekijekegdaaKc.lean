/- The walks of a nil book: at, may, Count, Cancel, Keep, SetPrio, SetPart, Pair, Settle. -/
import Derived.Test.YteecekijekegdaaKb
namespace Go.Proofs.Yteecekijekegdaa
open Go.RowKit

theorem at_nil (n : Int) (w : World) (R : Ending → World → Prop) (hR : R (.returned (.pointer none)) w) : Calls Try.prog 26 #[.pointer none, .int .i64 n] w R := by
  have HR := Hid.mk hR
  clear hR
  go_enter Try.func26, Try.ntmps26
  go_wp2_with (fail)
  exact HR.out
theorem may_nil (s : ByteArray) (n : Int) (w : World) (R : Ending → World → Prop) (hR : R (.returned (.int .i64 1)) w) : Calls Try.prog 30 #[.pointer none, .string s, .int .i64 n] w R := by
  have HR := Hid.mk hR
  clear hR
  go_enter Try.func30, Try.ntmps30
  go_wp2_with (fail)
  exact HR.out
theorem count_nil (w : World) (R : Ending → World → Prop) (hR : R (.returned (.int .i64 0)) w) : Calls Try.prog 12 #[.pointer none] w R := by
  have HR := Hid.mk hR
  clear hR
  go_enter Try.func12, Try.ntmps12
  go_wp2_with (fail)
  exact HR.out
theorem pair_nil (a b c : Int) (w : World) (R : Ending → World → Prop) (hR : R (.returned (.int .i64 1)) w) : Calls Try.prog 20 #[.pointer none, .int .i64 a, .int .i64 b, .int .i64 c] w R := by
  have HR := Hid.mk hR
  clear hR
  go_enter Try.func20, Try.ntmps20
  go_wp2_with (fail)
  exact HR.out
set_option maxRecDepth 100000 in
theorem settle_nil (a b c : Int) (w : World) (R : Ending → World → Prop) (hR : R (.returned (.int .i64 1)) w) : Calls Try.prog 21 #[.pointer none, .int .i64 a, .int .i64 b, .int .i64 c] w R := by
  have HR := Hid.mk hR
  clear hR
  go_enter Try.func21, Try.ntmps21
  go_wp2_with (fail)
  exact HR.out
theorem hold_nil (s : ByteArray) (o : Bool) (l : Value) (w : World) (R : Ending → World → Prop) (hR : R (.returned (.int .i64 1)) w) : Calls Try.prog 15 #[.pointer none, .string s, .bool o, l] w R := by
  have HR := Hid.mk hR
  clear hR
  go_enter Try.func15, Try.ntmps15
  go_wp2_with (fail)
  exact HR.out
theorem keep_nil (s : ByteArray) (n : Int) (w : World) (R : Ending → World → Prop) (hR : R (.returned (.int .i64 1)) w) : Calls Try.prog 17 #[.pointer none, .string s, .int .i64 n] w R := by
  have HR := Hid.mk hR
  clear hR
  go_enter Try.func17, Try.ntmps17
  go_wp2_with (fail)
  refine may_nil s n _ _ ?_
  go_wp2_with (fail)
  exact HR.out
theorem cancel_nil (s : ByteArray) (n : Int) (w : World) (R : Ending → World → Prop) (hR : R (.returned (.int .i64 1)) w) : Calls Try.prog 16 #[.pointer none, .string s, .int .i64 n] w R := by
  have HR := Hid.mk hR
  clear hR
  go_enter Try.func16, Try.ntmps16
  go_wp2_with (fail)
  refine may_nil s n _ _ ?_
  go_wp2_with (fail)
  exact HR.out
theorem setPrio_nil (s : ByteArray) (n m : Int) (w : World) (R : Ending → World → Prop) (hR : R (.returned (.int .i64 1)) w) : Calls Try.prog 18 #[.pointer none, .string s, .int .i64 n, .int .i64 m] w R := by
  have HR := Hid.mk hR
  clear hR
  go_enter Try.func18, Try.ntmps18
  go_wp2_with (fail)
  refine may_nil s n _ _ ?_
  go_wp2_with (fail)
  exact HR.out
theorem setPart_nil (s : ByteArray) (n : Int) (o : Bool) (w : World) (R : Ending → World → Prop) (hR : R (.returned (.int .i64 1)) w) : Calls Try.prog 19 #[.pointer none, .string s, .int .i64 n, .bool o] w R := by
  have HR := Hid.mk hR
  clear hR
  go_enter Try.func19, Try.ntmps19
  go_wp2_with (fail)
  refine may_nil s n _ _ ?_
  go_wp2_with (fail)
  exact HR.out
theorem list_nil (l : Value) (w : World) (R : Ending → World → Prop) (hR : R (.returned (.slice none 0 0)) w) : Calls Try.prog 13 #[.pointer none, l] w R := by
  have HR := Hid.mk hR
  clear hR
  go_enter Try.func13, Try.ntmps13
  go_wp2_with (fail)
  exact HR.out
end Go.Proofs.Yteecekijekegdaa
