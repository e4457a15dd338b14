/- This program: the rows that every run begins with, and 'works', evaluated. No condition. -/
import Derived.Test.YtifcpnmcfodacaaGreatDoorSeat
import Derived.Test.YtifcpnmcfodacaaGreatDoorFast

namespace Go.Ev
open Go Go.Proofs

/-- The variables that the program has laid and that are read: ErrorType's, the powers of ten, de Bruijn's tables. -/
structure Laid where
  t3 : Nat
  t4 : Nat
  t7 : Nat
  t8 : Nat
  f3 : Nat × Nat
  f4 : Nat × Nat
  f7 : Nat × Nat
  f8 : Nat × Nat

noncomputable def tab3 : List Value := [.iface 269 (.agg ⟨[hnd Tryz.prog 30]⟩)]
noncomputable def tab4 : List Value := [.int .u64 1, .int .u64 10, .int .u64 100, .int .u64 1000, .int .u64 10000, .int .u64 100000, .int .u64 1000000, .int .u64 10000000, .int .u64 100000000, .int .u64 1000000000, .int .u64 10000000000, .int .u64 100000000000, .int .u64 1000000000000, .int .u64 10000000000000, .int .u64 100000000000000, .int .u64 1000000000000000, .int .u64 10000000000000000, .int .u64 100000000000000000, .int .u64 1000000000000000000, .int .u64 10000000000000000000]
noncomputable def tab7 : List Value := [.int .u8 0, .int .u8 1, .int .u8 28, .int .u8 2, .int .u8 29, .int .u8 14, .int .u8 24, .int .u8 3, .int .u8 30, .int .u8 22, .int .u8 20, .int .u8 15, .int .u8 25, .int .u8 17, .int .u8 4, .int .u8 8, .int .u8 31, .int .u8 27, .int .u8 13, .int .u8 23, .int .u8 21, .int .u8 19, .int .u8 16, .int .u8 7, .int .u8 26, .int .u8 12, .int .u8 18, .int .u8 6, .int .u8 11, .int .u8 5, .int .u8 10, .int .u8 9]
noncomputable def tab8 : List Value := [.int .u8 0, .int .u8 1, .int .u8 56, .int .u8 2, .int .u8 57, .int .u8 49, .int .u8 28, .int .u8 3, .int .u8 61, .int .u8 58, .int .u8 42, .int .u8 50, .int .u8 38, .int .u8 29, .int .u8 17, .int .u8 4, .int .u8 62, .int .u8 47, .int .u8 59, .int .u8 36, .int .u8 45, .int .u8 43, .int .u8 51, .int .u8 22, .int .u8 53, .int .u8 39, .int .u8 33, .int .u8 30, .int .u8 24, .int .u8 18, .int .u8 12, .int .u8 5, .int .u8 63, .int .u8 55, .int .u8 48, .int .u8 27, .int .u8 60, .int .u8 41, .int .u8 37, .int .u8 16, .int .u8 46, .int .u8 35, .int .u8 44, .int .u8 21, .int .u8 52, .int .u8 32, .int .u8 23, .int .u8 11, .int .u8 54, .int .u8 26, .int .u8 40, .int .u8 15, .int .u8 34, .int .u8 20, .int .u8 31, .int .u8 10, .int .u8 25, .int .u8 14, .int .u8 19, .int .u8 9, .int .u8 13, .int .u8 8, .int .u8 7, .int .u8 6]

def roOf (c : List Value) (t : Nat) (f : Nat × Nat) : Option AObj := some (.ro (.cells ⟨c⟩ t f))
noncomputable def h0 (L : Laid) : Tr AObj := (((Tr.nil.put 24 3 (roOf tab3 L.t3 L.f3)).put 24 4 (roOf tab4 L.t4 L.f4)).put 24 7 (roOf tab7 L.t7 L.f7)).put 24 8 (roOf tab8 L.t8 L.f8)
noncomputable def st0 (L : Laid) : St := ⟨h0 L, 20, 20, []⟩

def isT (r : R) : Bool := match r with
  | some (.bool true, st) => (match st.wl with | [] => true | _ => false)
  | _ => false

set_option maxRecDepth 1000000 in
theorem works_eval : (fun L => isT ((evCallF Tryz.prog 100000 orcH 60).call 12 [] (st0 L))) = fun _ => true := by kernel_rfl

end Go.Ev
