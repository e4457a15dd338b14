/- This program: the evaluator's table of library functions. No condition.
   This program: facts on its types. No condition.
   handle: what Make, parts, Valid, Kind, Slot, Gen answer, as rows of the table. No condition. -/
import Derived.Test.YtifcpnmcfodacaaGreatDoorEvB
import Derived.Test.YtifcpnmcfodacaaGreatDoorProg
import Derived.KernelRfl
import Derived.Test.YtifcpnmcfodacaaGreatDoorFast

namespace Go.Ev
open Go Go.Proofs

noncomputable def orc0 : Orc := fun g =>
  bif Nat.blt g 142 then none else
  bif Nat.beq g 155 then some xSame
  else bif Nat.beq g 156 then some (xMakeNoZero Tryz.prog 105)
  else bif Nat.beq g 157 then some (xValueOf Tryz.prog)
  else bif Nat.beq g 158 then some (xType Tryz.prog)
  else bif Nat.beq g 159 then some (xIsNil Tryz.prog)
  else bif Nat.beq g 193 then some (xTypeOf Tryz.prog)
  else bif Nat.beq g 194 then some (xElem Tryz.prog)
  else bif Nat.beq g 195 then some (xSet Tryz.prog)
  else bif Nat.beq g 142 then some xCount
  else bif Nat.beq g 148 then some (xPure Tryz.prog Extern.BytealgIndex.index)
  else bif Nat.beq g 186 then some xIndexByte
  else bif Nat.beq g 287 then some (xPure Tryz.prog (Extern.ReflectliteType.abiMethod fun t => do pure (.int .u8 (← Extern.Rtype.kind t))))
  else bif Nat.beq g 307 then some (xPure Tryz.prog (Extern.ReflectliteType.relation "AssignableTo" Extern.ReflectliteType.assignableTo))
  else bif Nat.beq g 309 then some (xPure Tryz.prog (Extern.ReflectliteType.method Extern.ReflectliteType.elem))
  else bif Nat.beq g 310 then some (xPure Tryz.prog (Extern.ReflectliteType.relation "Implements" Extern.ReflectliteType.implements_))
  else none

theorem orc_split {c : Bool} {x y : Option (List Value → St → R)} {k : List Value → St → R} (h : (bif c then x else y) = some k) : (c = true ∧ x = some k) ∨ (c = false ∧ y = some k) := by
  cases c with
  | true => exact .inl ⟨rfl, h⟩
  | false => exact .inr ⟨rfl, h⟩

set_option maxRecDepth 100000 in
theorem orc_rows (g : Nat) (k : List Value → St → R) (h : orc0 g = some k) : RowOk Tryz.prog g k := by
  unfold orc0 at h
  have row : ∀ {n : Nat} {x : List Value → St → R}, Nat.beq g n = true → some x = some k → RowOk Tryz.prog n x → RowOk Tryz.prog g k := by
    intro n x hb hx hr
    have := Nat.eq_of_beq_eq_true hb
    subst this
    simp only [Option.some.injEq] at hx
    subst hx
    exact hr
  rcases orc_split h with ⟨_, h⟩ | ⟨_, h⟩
  · cases h
  rcases orc_split h with ⟨hb, h⟩ | ⟨_, h⟩
  · exact row hb h ⟨⟨_, _, Tryz.func155, by kernel_rfl, by kernel_rfl, by kernel_rfl, by kernel_rfl, xSame_ok⟩⟩
  rcases orc_split h with ⟨hb, h⟩ | ⟨_, h⟩
  · exact row hb h ⟨⟨_, Extern.BytealgMakeNoZero.makeNoZero Tryz.f156.params Tryz.f156.resultTypes, Tryz.func156, by kernel_rfl, by kernel_rfl, by kernel_rfl, by kernel_rfl, xMakeNoZero_ok (by kernel_rfl)⟩⟩
  rcases orc_split h with ⟨hb, h⟩ | ⟨_, h⟩
  · exact row hb h ⟨⟨_, _, Tryz.func157, by kernel_rfl, by kernel_rfl, by kernel_rfl, by kernel_rfl, xValueOf_ok⟩⟩
  rcases orc_split h with ⟨hb, h⟩ | ⟨_, h⟩
  · exact row hb h ⟨⟨_, _, Tryz.func158, by kernel_rfl, by kernel_rfl, by kernel_rfl, by kernel_rfl, xType_ok⟩⟩
  rcases orc_split h with ⟨hb, h⟩ | ⟨_, h⟩
  · exact row hb h ⟨⟨_, _, Tryz.func159, by kernel_rfl, by kernel_rfl, by kernel_rfl, by kernel_rfl, xIsNil_ok⟩⟩
  rcases orc_split h with ⟨hb, h⟩ | ⟨_, h⟩
  · exact row hb h ⟨⟨_, _, Tryz.func193, by kernel_rfl, by kernel_rfl, by kernel_rfl, by kernel_rfl, xTypeOf_ok⟩⟩
  rcases orc_split h with ⟨hb, h⟩ | ⟨_, h⟩
  · exact row hb h ⟨⟨_, _, Tryz.func194, by kernel_rfl, by kernel_rfl, by kernel_rfl, by kernel_rfl, xElem_ok⟩⟩
  rcases orc_split h with ⟨hb, h⟩ | ⟨_, h⟩
  · exact row hb h ⟨⟨_, _, Tryz.func195, by kernel_rfl, by kernel_rfl, by kernel_rfl, by kernel_rfl, xSet_ok⟩⟩
  rcases orc_split h with ⟨hb, h⟩ | ⟨_, h⟩
  · exact row hb h ⟨⟨_, _, Tryz.func142, by kernel_rfl, by kernel_rfl, by kernel_rfl, by kernel_rfl, xCount_ok⟩⟩
  rcases orc_split h with ⟨hb, h⟩ | ⟨_, h⟩
  · exact row hb h ⟨⟨_, _, Tryz.func148, by kernel_rfl, by kernel_rfl, by kernel_rfl, by kernel_rfl, xPure_ok _⟩⟩
  rcases orc_split h with ⟨hb, h⟩ | ⟨_, h⟩
  · exact row hb h ⟨⟨_, _, Tryz.func186, by kernel_rfl, by kernel_rfl, by kernel_rfl, by kernel_rfl, xIndexByte_ok⟩⟩
  rcases orc_split h with ⟨hb, h⟩ | ⟨_, h⟩
  · exact row hb h ⟨⟨_, _, Tryz.func287, by kernel_rfl, by kernel_rfl, by kernel_rfl, by kernel_rfl, xPure_ok _⟩⟩
  rcases orc_split h with ⟨hb, h⟩ | ⟨_, h⟩
  · exact row hb h ⟨⟨_, _, Tryz.func307, by kernel_rfl, by kernel_rfl, by kernel_rfl, by kernel_rfl, xPure_ok _⟩⟩
  rcases orc_split h with ⟨hb, h⟩ | ⟨_, h⟩
  · exact row hb h ⟨⟨_, _, Tryz.func309, by kernel_rfl, by kernel_rfl, by kernel_rfl, by kernel_rfl, xPure_ok _⟩⟩
  rcases orc_split h with ⟨hb, h⟩ | ⟨_, h⟩
  · exact row hb h ⟨⟨_, _, Tryz.func310, by kernel_rfl, by kernel_rfl, by kernel_rfl, by kernel_rfl, xPure_ok _⟩⟩
  cases h

set_option maxRecDepth 1000000 in
theorem orc0_ok : OrcOk Tryz.prog orc0 := @orcOk_of Tryz.prog orc0 orc_rows

set_option maxRecDepth 1000000 in
theorem orc0_st : OrcSt orc0 := @orcSt_of Tryz.prog orc0 orc_rows

end Go.Ev

namespace Go.Ev
open Go Go.Proofs
set_option maxRecDepth 100000
set_option linter.unusedSimpArgs false
set_option linter.unusedVariables false
theorem ld_28 (st : St) (b o : Nat) : evLoad Tryz.prog st 28 (.pointer (some ⟨b, o, none⟩)) = (st.cells ⟨b, o, none⟩ 10).bind fun l => some (.agg ⟨l⟩) := by kernel_rfl
theorem st_28 (st : St) (b o : Nat) (x : Value) : evStore Tryz.prog st 28 (.pointer (some ⟨b, o, none⟩)) x = chk (Nat.beq x.cells.toList.length 10) (st.stores b o x.cells.toList) := by kernel_rfl
theorem z_28 : zeroOf Tryz.prog 28 = some (.agg ⟨[.int .i64 0, .int .i64 0, .int .i64 0, .int .i64 0, .int .i64 0, .int .i64 0, .int .i64 0, .int .i64 0, .int .i64 0, .int .i64 0]⟩) := by kernel_rfl
theorem bu_28 (ps : List (Nat × Value)) : evBuild Tryz.prog 28 ps = (fillL (fun i => ([(0, 1), (1, 1), (2, 1), (3, 2), (5, 4), (9, 1)] : List (Nat × Nat))[i]?) [.int .i64 0, .int .i64 0, .int .i64 0, .int .i64 0, .int .i64 0, .int .i64 0, .int .i64 0, .int .i64 0, .int .i64 0, .int .i64 0] ps).bind fun cs => some (.agg ⟨cs⟩) := by kernel_rfl
theorem eqn_30 (ox : Operand) (c : Value) : evBinF Tryz.prog .eql 30 ox (.const c) .nilIface .nilIface = some (.bool true) := eqnil Tryz.prog 30 _ Tryz.underlying30 ox c
theorem nqn_30 (ox : Operand) (c : Value) : evBinF Tryz.prog .neq 30 ox (.const c) .nilIface .nilIface = some (.bool false) := neqnil Tryz.prog 30 _ Tryz.underlying30 ox c
theorem eqo_30 (ox oy : Operand) (u : TypeId) (v : Value) : evBinF Tryz.prog .eql 30 ox oy (.iface u v) .nilIface = some (.bool false) := eqnil_no Tryz.prog 30 _ Tryz.underlying30 ox oy u v
theorem nqo_30 (ox oy : Operand) (u : TypeId) (v : Value) : evBinF Tryz.prog .neq 30 ox oy (.iface u v) .nilIface = some (.bool true) := neqnil_no Tryz.prog 30 _ Tryz.underlying30 ox oy u v
theorem fa_28_0 (b o : Nat) : evFieldAddr Tryz.prog 28 (.pointer (some ⟨b, o, none⟩)) 0 = some (.pointer (some ⟨b, o, none⟩)) := by kernel_rfl
theorem ld_3 (st : St) (b o : Nat) : evLoad Tryz.prog st 3 (.pointer (some ⟨b, o, none⟩)) = (st.cells ⟨b, o, none⟩ 1).bind one1 := by kernel_rfl
theorem fa_54_0 (b o : Nat) : evFieldAddr Tryz.prog 54 (.pointer (some ⟨b, o, none⟩)) 0 = some (.pointer (some ⟨b, o, none⟩)) := by kernel_rfl
theorem fa_54_1 (b o : Nat) : evFieldAddr Tryz.prog 54 (.pointer (some ⟨b, o, none⟩)) 1 = some (.pointer (some ⟨b, o + 10, none⟩)) := by kernel_rfl
theorem fa_54_2 (b o : Nat) : evFieldAddr Tryz.prog 54 (.pointer (some ⟨b, o, none⟩)) 2 = some (.pointer (some ⟨b, o + 44, none⟩)) := by kernel_rfl
theorem ld_52 (st : St) (b o : Nat) : evLoad Tryz.prog st 52 (.pointer (some ⟨b, o, none⟩)) = (st.cells ⟨b, o, none⟩ 34).bind fun l => some (.agg ⟨l⟩) := by kernel_rfl
theorem bu_26 (ps : List (Nat × Value)) : evBuild Tryz.prog 26 ps = (fillL (fun i => ([(0, 1), (1, 1), (2, 1), (3, 1)] : List (Nat × Nat))[i]?) [.int .i64 0, .int .i64 0, .int .i64 0, .int .i64 0] ps).bind fun cs => some (.agg ⟨cs⟩) := by kernel_rfl
theorem fa_24_0 (b o : Nat) : evFieldAddr Tryz.prog 24 (.pointer (some ⟨b, o, none⟩)) 0 = some (.pointer (some ⟨b, o, none⟩)) := by kernel_rfl
theorem fa_24_1 (b o : Nat) : evFieldAddr Tryz.prog 24 (.pointer (some ⟨b, o, none⟩)) 1 = some (.pointer (some ⟨b, o + 1, none⟩)) := by kernel_rfl
theorem fa_28_1 (b o : Nat) : evFieldAddr Tryz.prog 28 (.pointer (some ⟨b, o, none⟩)) 1 = some (.pointer (some ⟨b, o + 1, none⟩)) := by kernel_rfl
theorem fa_28_2 (b o : Nat) : evFieldAddr Tryz.prog 28 (.pointer (some ⟨b, o, none⟩)) 2 = some (.pointer (some ⟨b, o + 2, none⟩)) := by kernel_rfl
theorem fa_28_3 (b o : Nat) : evFieldAddr Tryz.prog 28 (.pointer (some ⟨b, o, none⟩)) 3 = some (.pointer (some ⟨b, o + 3, none⟩)) := by kernel_rfl
theorem fa_28_4 (b o : Nat) : evFieldAddr Tryz.prog 28 (.pointer (some ⟨b, o, none⟩)) 4 = some (.pointer (some ⟨b, o + 5, none⟩)) := by kernel_rfl
theorem fa_28_5 (b o : Nat) : evFieldAddr Tryz.prog 28 (.pointer (some ⟨b, o, none⟩)) 5 = some (.pointer (some ⟨b, o + 9, none⟩)) := by kernel_rfl
theorem if_58 (x : Value) : evMakeIface Tryz.prog 58 x = some (.iface 58 x) := by kernel_rfl
theorem ld_9 (st : St) (b o : Nat) : evLoad Tryz.prog st 9 (.pointer (some ⟨b, o, none⟩)) = (st.cells ⟨b, o, none⟩ 1).bind one1 := by kernel_rfl
theorem ld_59 (st : St) (b o : Nat) : evLoad Tryz.prog st 59 (.pointer (some ⟨b, o, none⟩)) = (st.cells ⟨b, o, none⟩ 1).bind one1 := by kernel_rfl
theorem st_3 (st : St) (b o : Nat) (x : Value) : evStore Tryz.prog st 3 (.pointer (some ⟨b, o, none⟩)) x = chk (Nat.beq x.cells.toList.length 1) (st.stores b o x.cells.toList) := by kernel_rfl
theorem st_22 (st : St) (b o : Nat) (x : Value) : evStore Tryz.prog st 22 (.pointer (some ⟨b, o, none⟩)) x = chk (Nat.beq x.cells.toList.length 1) (st.stores b o x.cells.toList) := by kernel_rfl
theorem st_26 (st : St) (b o : Nat) (x : Value) : evStore Tryz.prog st 26 (.pointer (some ⟨b, o, none⟩)) x = chk (Nat.beq x.cells.toList.length 4) (st.stores b o x.cells.toList) := by kernel_rfl
theorem st_59 (st : St) (b o : Nat) (x : Value) : evStore Tryz.prog st 59 (.pointer (some ⟨b, o, none⟩)) x = chk (Nat.beq x.cells.toList.length 1) (st.stores b o x.cells.toList) := by kernel_rfl
theorem z_59 : zeroOf Tryz.prog 59 = some (.slice none 0 0) := by kernel_rfl
theorem ld_22 (st : St) (b o : Nat) : evLoad Tryz.prog st 22 (.pointer (some ⟨b, o, none⟩)) = (st.cells ⟨b, o, none⟩ 1).bind one1 := by kernel_rfl
theorem fa_26_0 (b o : Nat) : evFieldAddr Tryz.prog 26 (.pointer (some ⟨b, o, none⟩)) 0 = some (.pointer (some ⟨b, o, none⟩)) := by kernel_rfl
theorem fa_26_1 (b o : Nat) : evFieldAddr Tryz.prog 26 (.pointer (some ⟨b, o, none⟩)) 1 = some (.pointer (some ⟨b, o + 1, none⟩)) := by kernel_rfl
theorem fa_26_3 (b o : Nat) : evFieldAddr Tryz.prog 26 (.pointer (some ⟨b, o, none⟩)) 3 = some (.pointer (some ⟨b, o + 3, none⟩)) := by kernel_rfl
theorem ld_24 (st : St) (b o : Nat) : evLoad Tryz.prog st 24 (.pointer (some ⟨b, o, none⟩)) = (st.cells ⟨b, o, none⟩ 2).bind fun l => some (.agg ⟨l⟩) := by kernel_rfl
theorem bu_24 (ps : List (Nat × Value)) : evBuild Tryz.prog 24 ps = (fillL (fun i => ([(0, 1), (1, 1)] : List (Nat × Nat))[i]?) [.int .i64 0, .int .i64 0] ps).bind fun cs => some (.agg ⟨cs⟩) := by kernel_rfl
theorem fa_52_0 (b o : Nat) : evFieldAddr Tryz.prog 52 (.pointer (some ⟨b, o, none⟩)) 0 = some (.pointer (some ⟨b, o, none⟩)) := by kernel_rfl
theorem st_52 (st : St) (b o : Nat) (x : Value) : evStore Tryz.prog st 52 (.pointer (some ⟨b, o, none⟩)) x = chk (Nat.beq x.cells.toList.length 34) (st.stores b o x.cells.toList) := by kernel_rfl
theorem z_52 : zeroOf Tryz.prog 52 = some (.agg ⟨[.int .i64 0, .int .i64 0, .int .i64 0, .int .i64 0, .int .i64 0, .int .i64 0, .int .i64 0, .bool false, .int .i64 0, .int .i64 0, .int .i64 0, .int .i64 0, .int .i64 0, .int .i64 0, .int .i64 0, .int .i64 0, .int .i64 0, .int .i64 0, .int .i64 0, .int .i64 0, .int .i64 0, .int .i64 0, .int .i64 0, .int .i64 0, .slice none 0 0, .slice none 0 0, .int .i64 0, .slice none 0 0, .int .i64 0, .int .i64 0, .int .i64 0, .int .i64 0, .int .i64 0, .int .i64 0]⟩) := by kernel_rfl
theorem st_24 (st : St) (b o : Nat) (x : Value) : evStore Tryz.prog st 24 (.pointer (some ⟨b, o, none⟩)) x = chk (Nat.beq x.cells.toList.length 2) (st.stores b o x.cells.toList) := by kernel_rfl
theorem fa_52_1 (b o : Nat) : evFieldAddr Tryz.prog 52 (.pointer (some ⟨b, o, none⟩)) 1 = some (.pointer (some ⟨b, o + 1, none⟩)) := by kernel_rfl
theorem fa_52_2 (b o : Nat) : evFieldAddr Tryz.prog 52 (.pointer (some ⟨b, o, none⟩)) 2 = some (.pointer (some ⟨b, o + 2, none⟩)) := by kernel_rfl
theorem fa_52_3 (b o : Nat) : evFieldAddr Tryz.prog 52 (.pointer (some ⟨b, o, none⟩)) 3 = some (.pointer (some ⟨b, o + 26, none⟩)) := by kernel_rfl
theorem ld_47 (st : St) (b o : Nat) : evLoad Tryz.prog st 47 (.pointer (some ⟨b, o, none⟩)) = (st.cells ⟨b, o, none⟩ 24).bind fun l => some (.agg ⟨l⟩) := by kernel_rfl
theorem ld_50 (st : St) (b o : Nat) : evLoad Tryz.prog st 50 (.pointer (some ⟨b, o, none⟩)) = (st.cells ⟨b, o, none⟩ 8).bind fun l => some (.agg ⟨l⟩) := by kernel_rfl
theorem fa_47_10 (b o : Nat) : evFieldAddr Tryz.prog 47 (.pointer (some ⟨b, o, none⟩)) 10 = some (.pointer (some ⟨b, o + 22, none⟩)) := by kernel_rfl
theorem fa_47_11 (b o : Nat) : evFieldAddr Tryz.prog 47 (.pointer (some ⟨b, o, none⟩)) 11 = some (.pointer (some ⟨b, o + 23, none⟩)) := by kernel_rfl
theorem ld_45 (st : St) (b o : Nat) : evLoad Tryz.prog st 45 (.pointer (some ⟨b, o, none⟩)) = (st.cells ⟨b, o, none⟩ 1).bind one1 := by kernel_rfl
theorem st_47 (st : St) (b o : Nat) (x : Value) : evStore Tryz.prog st 47 (.pointer (some ⟨b, o, none⟩)) x = chk (Nat.beq x.cells.toList.length 24) (st.stores b o x.cells.toList) := by kernel_rfl
theorem z_47 : zeroOf Tryz.prog 47 = some (.agg ⟨[.int .i64 0, .int .i64 0, .int .i64 0, .int .i64 0, .int .i64 0, .bool false, .int .i64 0, .int .i64 0, .int .i64 0, .int .i64 0, .int .i64 0, .int .i64 0, .int .i64 0, .int .i64 0, .int .i64 0, .int .i64 0, .int .i64 0, .int .i64 0, .int .i64 0, .int .i64 0, .int .i64 0, .int .i64 0, .slice none 0 0, .slice none 0 0]⟩) := by kernel_rfl
theorem bu_103 (ps : List (Nat × Value)) : evBuild Tryz.prog 103 ps = (fillL (fun i => some (i * 1, 1)) [.string ⟨⟨[]⟩⟩, .string ⟨⟨[]⟩⟩, .string ⟨⟨[]⟩⟩, .string ⟨⟨[]⟩⟩, .string ⟨⟨[]⟩⟩, .string ⟨⟨[]⟩⟩, .string ⟨⟨[]⟩⟩, .string ⟨⟨[]⟩⟩, .string ⟨⟨[]⟩⟩] ps).bind fun cs => some (.agg ⟨cs⟩) := by kernel_rfl
theorem st_103 (st : St) (b o : Nat) (x : Value) : evStore Tryz.prog st 103 (.pointer (some ⟨b, o, none⟩)) x = chk (Nat.beq x.cells.toList.length 9) (st.stores b o x.cells.toList) := by kernel_rfl
theorem z_103 : zeroOf Tryz.prog 103 = some (.agg ⟨[.string ⟨⟨[]⟩⟩, .string ⟨⟨[]⟩⟩, .string ⟨⟨[]⟩⟩, .string ⟨⟨[]⟩⟩, .string ⟨⟨[]⟩⟩, .string ⟨⟨[]⟩⟩, .string ⟨⟨[]⟩⟩, .string ⟨⟨[]⟩⟩, .string ⟨⟨[]⟩⟩]⟩) := by kernel_rfl
theorem if_9 (x : Value) : evMakeIface Tryz.prog 9 x = some (.iface 9 x) := by kernel_rfl
theorem z_107 : zeroOf Tryz.prog 107 = some (.agg ⟨[.pointer none, .slice none 0 0]⟩) := by kernel_rfl
theorem bu_120 (ps : List (Nat × Value)) : evBuild Tryz.prog 120 ps = (fillL (fun i => ([(0, 1), (1, 8), (9, 1), (10, 1)] : List (Nat × Nat))[i]?) [.int .i64 0, .int .i64 0, .int .i64 0, .int .i64 0, .int .i64 0, .bool false, .int .i64 0, .int .i64 0, .int .i64 0, .int .i64 0, .pointer none] ps).bind fun cs => some (.agg ⟨cs⟩) := by kernel_rfl
theorem bu_126 (ps : List (Nat × Value)) : evBuild Tryz.prog 126 ps = (fillL (fun i => ([(0, 1), (1, 1), (2, 1), (3, 1), (4, 1), (5, 1)] : List (Nat × Nat))[i]?) [.pointer none, .int .i64 0, .pointer none, .pointer none, .int .i64 0, .int .i64 0] ps).bind fun cs => some (.agg ⟨cs⟩) := by kernel_rfl
theorem bu_52 (ps : List (Nat × Value)) : evBuild Tryz.prog 52 ps = (fillL (fun i => ([(0, 1), (1, 1), (2, 24), (26, 8)] : List (Nat × Nat))[i]?) [.int .i64 0, .int .i64 0, .int .i64 0, .int .i64 0, .int .i64 0, .int .i64 0, .int .i64 0, .bool false, .int .i64 0, .int .i64 0, .int .i64 0, .int .i64 0, .int .i64 0, .int .i64 0, .int .i64 0, .int .i64 0, .int .i64 0, .int .i64 0, .int .i64 0, .int .i64 0, .int .i64 0, .int .i64 0, .int .i64 0, .int .i64 0, .slice none 0 0, .slice none 0 0, .int .i64 0, .slice none 0 0, .int .i64 0, .int .i64 0, .int .i64 0, .int .i64 0, .int .i64 0, .int .i64 0] ps).bind fun cs => some (.agg ⟨cs⟩) := by kernel_rfl
theorem fa_126_4 (b o : Nat) : evFieldAddr Tryz.prog 126 (.pointer (some ⟨b, o, none⟩)) 4 = some (.pointer (some ⟨b, o + 4, none⟩)) := by kernel_rfl
theorem ld_58 (st : St) (b o : Nat) : evLoad Tryz.prog st 58 (.pointer (some ⟨b, o, none⟩)) = (st.cells ⟨b, o, none⟩ 1).bind one1 := by kernel_rfl
theorem fa_47_0 (b o : Nat) : evFieldAddr Tryz.prog 47 (.pointer (some ⟨b, o, none⟩)) 0 = some (.pointer (some ⟨b, o, none⟩)) := by kernel_rfl
theorem fa_47_1 (b o : Nat) : evFieldAddr Tryz.prog 47 (.pointer (some ⟨b, o, none⟩)) 1 = some (.pointer (some ⟨b, o + 1, none⟩)) := by kernel_rfl
theorem fa_47_2 (b o : Nat) : evFieldAddr Tryz.prog 47 (.pointer (some ⟨b, o, none⟩)) 2 = some (.pointer (some ⟨b, o + 3, none⟩)) := by kernel_rfl
theorem fa_47_3 (b o : Nat) : evFieldAddr Tryz.prog 47 (.pointer (some ⟨b, o, none⟩)) 3 = some (.pointer (some ⟨b, o + 5, none⟩)) := by kernel_rfl
theorem fa_47_4 (b o : Nat) : evFieldAddr Tryz.prog 47 (.pointer (some ⟨b, o, none⟩)) 4 = some (.pointer (some ⟨b, o + 6, none⟩)) := by kernel_rfl
theorem fa_47_5 (b o : Nat) : evFieldAddr Tryz.prog 47 (.pointer (some ⟨b, o, none⟩)) 5 = some (.pointer (some ⟨b, o + 7, none⟩)) := by kernel_rfl
theorem fa_47_6 (b o : Nat) : evFieldAddr Tryz.prog 47 (.pointer (some ⟨b, o, none⟩)) 6 = some (.pointer (some ⟨b, o + 8, none⟩)) := by kernel_rfl
theorem fa_47_7 (b o : Nat) : evFieldAddr Tryz.prog 47 (.pointer (some ⟨b, o, none⟩)) 7 = some (.pointer (some ⟨b, o + 9, none⟩)) := by kernel_rfl
theorem fa_47_8 (b o : Nat) : evFieldAddr Tryz.prog 47 (.pointer (some ⟨b, o, none⟩)) 8 = some (.pointer (some ⟨b, o + 10, none⟩)) := by kernel_rfl
theorem fa_47_9 (b o : Nat) : evFieldAddr Tryz.prog 47 (.pointer (some ⟨b, o, none⟩)) 9 = some (.pointer (some ⟨b, o + 16, none⟩)) := by kernel_rfl
theorem ld_4 (st : St) (b o : Nat) : evLoad Tryz.prog st 4 (.pointer (some ⟨b, o, none⟩)) = (st.cells ⟨b, o, none⟩ 1).bind one1 := by kernel_rfl
theorem ld_44 (st : St) (b o : Nat) : evLoad Tryz.prog st 44 (.pointer (some ⟨b, o, none⟩)) = (st.cells ⟨b, o, none⟩ 6).bind fun l => some (.agg ⟨l⟩) := by kernel_rfl
theorem fa_26_2 (b o : Nat) : evFieldAddr Tryz.prog 26 (.pointer (some ⟨b, o, none⟩)) 2 = some (.pointer (some ⟨b, o + 2, none⟩)) := by kernel_rfl
theorem fa_44_0 (b o : Nat) : evFieldAddr Tryz.prog 44 (.pointer (some ⟨b, o, none⟩)) 0 = some (.pointer (some ⟨b, o, none⟩)) := by kernel_rfl
theorem fa_44_3 (b o : Nat) : evFieldAddr Tryz.prog 44 (.pointer (some ⟨b, o, none⟩)) 3 = some (.pointer (some ⟨b, o + 3, none⟩)) := by kernel_rfl
theorem fa_44_4 (b o : Nat) : evFieldAddr Tryz.prog 44 (.pointer (some ⟨b, o, none⟩)) 4 = some (.pointer (some ⟨b, o + 4, none⟩)) := by kernel_rfl
theorem fa_44_5 (b o : Nat) : evFieldAddr Tryz.prog 44 (.pointer (some ⟨b, o, none⟩)) 5 = some (.pointer (some ⟨b, o + 5, none⟩)) := by kernel_rfl
theorem fa_50_0 (b o : Nat) : evFieldAddr Tryz.prog 50 (.pointer (some ⟨b, o, none⟩)) 0 = some (.pointer (some ⟨b, o, none⟩)) := by kernel_rfl
theorem fa_50_1 (b o : Nat) : evFieldAddr Tryz.prog 50 (.pointer (some ⟨b, o, none⟩)) 1 = some (.pointer (some ⟨b, o + 1, none⟩)) := by kernel_rfl
theorem fa_50_2 (b o : Nat) : evFieldAddr Tryz.prog 50 (.pointer (some ⟨b, o, none⟩)) 2 = some (.pointer (some ⟨b, o + 2, none⟩)) := by kernel_rfl
theorem ld_26 (st : St) (b o : Nat) : evLoad Tryz.prog st 26 (.pointer (some ⟨b, o, none⟩)) = (st.cells ⟨b, o, none⟩ 4).bind fun l => some (.agg ⟨l⟩) := by kernel_rfl
theorem ld_48 (st : St) (b o : Nat) : evLoad Tryz.prog st 48 (.pointer (some ⟨b, o, none⟩)) = (st.cells ⟨b, o, none⟩ 1).bind one1 := by kernel_rfl
theorem z_26 : zeroOf Tryz.prog 26 = some (.agg ⟨[.int .i64 0, .int .i64 0, .int .i64 0, .int .i64 0]⟩) := by kernel_rfl
theorem st_44 (st : St) (b o : Nat) (x : Value) : evStore Tryz.prog st 44 (.pointer (some ⟨b, o, none⟩)) x = chk (Nat.beq x.cells.toList.length 6) (st.stores b o x.cells.toList) := by kernel_rfl
theorem z_44 : zeroOf Tryz.prog 44 = some (.agg ⟨[.int .i64 0, .int .i64 0, .int .i64 0, .int .i64 0, .int .i64 0, .int .i64 0]⟩) := by kernel_rfl
theorem bu_89 (ps : List (Nat × Value)) : evBuild Tryz.prog 89 ps = (fillL (fun i => some (i * 1, 1)) [.nilIface, .nilIface, .nilIface, .nilIface, .nilIface, .nilIface] ps).bind fun cs => some (.agg ⟨cs⟩) := by kernel_rfl
theorem bu_90 (ps : List (Nat × Value)) : evBuild Tryz.prog 90 ps = (fillL (fun i => some (i * 2, 2)) [.int .i64 0, .int .i64 0, .int .i64 0, .int .i64 0] ps).bind fun cs => some (.agg ⟨cs⟩) := by kernel_rfl
theorem bu_91 (ps : List (Nat × Value)) : evBuild Tryz.prog 91 ps = (fillL (fun i => some (i * 1, 1)) [.int .i64 0, .int .i64 0, .int .i64 0, .int .i64 0] ps).bind fun cs => some (.agg ⟨cs⟩) := by kernel_rfl
theorem if_4 (x : Value) : evMakeIface Tryz.prog 4 x = some (.iface 4 x) := by kernel_rfl
theorem if_22 (x : Value) : evMakeIface Tryz.prog 22 x = some (.iface 22 x) := by kernel_rfl
theorem if_44 (x : Value) : evMakeIface Tryz.prog 44 x = some (.iface 44 x) := by kernel_rfl
theorem if_90 (x : Value) : evMakeIface Tryz.prog 90 x = some (.iface 90 x) := by kernel_rfl
theorem if_91 (x : Value) : evMakeIface Tryz.prog 91 x = some (.iface 91 x) := by kernel_rfl
theorem ld_89 (st : St) (b o : Nat) : evLoad Tryz.prog st 89 (.pointer (some ⟨b, o, none⟩)) = (st.cells ⟨b, o, none⟩ 6).bind fun l => some (.agg ⟨l⟩) := by kernel_rfl
theorem st_89 (st : St) (b o : Nat) (x : Value) : evStore Tryz.prog st 89 (.pointer (some ⟨b, o, none⟩)) x = chk (Nat.beq x.cells.toList.length 6) (st.stores b o x.cells.toList) := by kernel_rfl
theorem z_89 : zeroOf Tryz.prog 89 = some (.agg ⟨[.nilIface, .nilIface, .nilIface, .nilIface, .nilIface, .nilIface]⟩) := by kernel_rfl
theorem st_9 (st : St) (b o : Nat) (x : Value) : evStore Tryz.prog st 9 (.pointer (some ⟨b, o, none⟩)) x = chk (Nat.beq x.cells.toList.length 1) (st.stores b o x.cells.toList) := by kernel_rfl
theorem if_144 (x : Value) : evMakeIface Tryz.prog 144 x = some (.iface 144 x) := by kernel_rfl
theorem ld_5 (st : St) (b o : Nat) : evLoad Tryz.prog st 5 (.pointer (some ⟨b, o, none⟩)) = (st.cells ⟨b, o, none⟩ 1).bind one1 := by kernel_rfl
theorem if_147 (x : Value) : evMakeIface Tryz.prog 147 x = some (.iface 147 x) := by kernel_rfl
theorem fa_107_1 (b o : Nat) : evFieldAddr Tryz.prog 107 (.pointer (some ⟨b, o, none⟩)) 1 = some (.pointer (some ⟨b, o + 1, none⟩)) := by kernel_rfl
theorem ld_105 (st : St) (b o : Nat) : evLoad Tryz.prog st 105 (.pointer (some ⟨b, o, none⟩)) = (st.cells ⟨b, o, none⟩ 1).bind one1 := by kernel_rfl
theorem st_105 (st : St) (b o : Nat) (x : Value) : evStore Tryz.prog st 105 (.pointer (some ⟨b, o, none⟩)) x = chk (Nat.beq x.cells.toList.length 1) (st.stores b o x.cells.toList) := by kernel_rfl
theorem bu_162 (ps : List (Nat × Value)) : evBuild Tryz.prog 162 ps = (fillL (fun i => ([(0, 1), (1, 1)] : List (Nat × Nat))[i]?) [.int .i64 0, .slice none 0 0] ps).bind fun cs => some (.agg ⟨cs⟩) := by kernel_rfl
theorem fa_162_1 (b o : Nat) : evFieldAddr Tryz.prog 162 (.pointer (some ⟨b, o, none⟩)) 1 = some (.pointer (some ⟨b, o + 1, none⟩)) := by kernel_rfl
theorem fa_164_0 (b o : Nat) : evFieldAddr Tryz.prog 164 (.pointer (some ⟨b, o, none⟩)) 0 = some (.pointer (some ⟨b, o, none⟩)) := by kernel_rfl
theorem ld_160 (st : St) (b o : Nat) : evLoad Tryz.prog st 160 (.pointer (some ⟨b, o, none⟩)) = (st.cells ⟨b, o, none⟩ 1).bind one1 := by kernel_rfl
theorem fa_164_1 (b o : Nat) : evFieldAddr Tryz.prog 164 (.pointer (some ⟨b, o, none⟩)) 1 = some (.pointer (some ⟨b, o + 1, none⟩)) := by kernel_rfl
theorem fa_164_2 (b o : Nat) : evFieldAddr Tryz.prog 164 (.pointer (some ⟨b, o, none⟩)) 2 = some (.pointer (some ⟨b, o + 2, none⟩)) := by kernel_rfl
theorem st_4 (st : St) (b o : Nat) (x : Value) : evStore Tryz.prog st 4 (.pointer (some ⟨b, o, none⟩)) x = chk (Nat.beq x.cells.toList.length 1) (st.stores b o x.cells.toList) := by kernel_rfl
theorem st_113 (st : St) (b o : Nat) (x : Value) : evStore Tryz.prog st 113 (.pointer (some ⟨b, o, none⟩)) x = chk (Nat.beq x.cells.toList.length 1) (st.stores b o x.cells.toList) := by kernel_rfl
theorem bu_171 (ps : List (Nat × Value)) : evBuild Tryz.prog 171 ps = (fillL (fun i => ([(0, 1)] : List (Nat × Nat))[i]?) [.pointer none] ps).bind fun cs => some (.agg ⟨cs⟩) := by kernel_rfl
theorem bu_173 (ps : List (Nat × Value)) : evBuild Tryz.prog 173 ps = (fillL (fun i => ([(0, 1), (1, 6), (7, 6)] : List (Nat × Nat))[i]?) [.int .i64 0, .int .i64 0, .int .i64 0, .int .i64 0, .int .i64 0, .int .i64 0, .int .i64 0, .int .i64 0, .int .i64 0, .int .i64 0, .int .i64 0, .int .i64 0, .int .i64 0] ps).bind fun cs => some (.agg ⟨cs⟩) := by kernel_rfl
theorem bu_176 (ps : List (Nat × Value)) : evBuild Tryz.prog 176 ps = (fillL (fun i => ([(0, 1), (1, 1)] : List (Nat × Nat))[i]?) [.int .i64 0, .map none] ps).bind fun cs => some (.agg ⟨cs⟩) := by kernel_rfl
theorem bu_178 (ps : List (Nat × Value)) : evBuild Tryz.prog 178 ps = (fillL (fun i => ([(0, 1), (1, 1)] : List (Nat × Nat))[i]?) [.pointer none, .int .i64 0] ps).bind fun cs => some (.agg ⟨cs⟩) := by kernel_rfl
theorem if_180 (x : Value) : evMakeIface Tryz.prog 180 x = some (.iface 180 x) := by kernel_rfl
theorem z_58 : zeroOf Tryz.prog 58 = some (.int .i64 0) := by kernel_rfl
theorem fa_44_1 (b o : Nat) : evFieldAddr Tryz.prog 44 (.pointer (some ⟨b, o, none⟩)) 1 = some (.pointer (some ⟨b, o + 1, none⟩)) := by kernel_rfl
theorem fa_44_2 (b o : Nat) : evFieldAddr Tryz.prog 44 (.pointer (some ⟨b, o, none⟩)) 2 = some (.pointer (some ⟨b, o + 2, none⟩)) := by kernel_rfl
theorem bu_207 (ps : List (Nat × Value)) : evBuild Tryz.prog 207 ps = (fillL (fun i => ([(0, 1), (1, 1), (2, 1)] : List (Nat × Nat))[i]?) [.string ⟨⟨[]⟩⟩, .string ⟨⟨[]⟩⟩, .nilIface] ps).bind fun cs => some (.agg ⟨cs⟩) := by kernel_rfl
theorem ld_30 (st : St) (b o : Nat) : evLoad Tryz.prog st 30 (.pointer (some ⟨b, o, none⟩)) = (st.cells ⟨b, o, none⟩ 1).bind one1 := by kernel_rfl
theorem st_5 (st : St) (b o : Nat) (x : Value) : evStore Tryz.prog st 5 (.pointer (some ⟨b, o, none⟩)) x = chk (Nat.beq x.cells.toList.length 1) (st.stores b o x.cells.toList) := by kernel_rfl
theorem z_210 : zeroOf Tryz.prog 210 = some (.agg ⟨[.int .u8 0, .int .u8 0, .int .u8 0, .int .u8 0, .int .u8 0, .int .u8 0, .int .u8 0, .int .u8 0, .int .u8 0, .int .u8 0, .int .u8 0, .int .u8 0, .int .u8 0, .int .u8 0, .int .u8 0, .int .u8 0, .int .u8 0, .int .u8 0, .int .u8 0, .int .u8 0, .int .u8 0, .int .u8 0, .int .u8 0, .int .u8 0]⟩) := by kernel_rfl
theorem fa_107_0 (b o : Nat) : evFieldAddr Tryz.prog 107 (.pointer (some ⟨b, o, none⟩)) 0 = some (.pointer (some ⟨b, o, none⟩)) := by kernel_rfl
theorem ld_104 (st : St) (b o : Nat) : evLoad Tryz.prog st 104 (.pointer (some ⟨b, o, none⟩)) = (st.cells ⟨b, o, none⟩ 1).bind one1 := by kernel_rfl
theorem st_104 (st : St) (b o : Nat) (x : Value) : evStore Tryz.prog st 104 (.pointer (some ⟨b, o, none⟩)) x = chk (Nat.beq x.cells.toList.length 1) (st.stores b o x.cells.toList) := by kernel_rfl
theorem fa_162_0 (b o : Nat) : evFieldAddr Tryz.prog 162 (.pointer (some ⟨b, o, none⟩)) 0 = some (.pointer (some ⟨b, o, none⟩)) := by kernel_rfl
theorem bu_220 (ps : List (Nat × Value)) : evBuild Tryz.prog 220 ps = (fillL (fun i => ([(0, 1), (1, 1)] : List (Nat × Nat))[i]?) [.int .i64 0, .slice none 0 0] ps).bind fun cs => some (.agg ⟨cs⟩) := by kernel_rfl
theorem fa_220_1 (b o : Nat) : evFieldAddr Tryz.prog 220 (.pointer (some ⟨b, o, none⟩)) 1 = some (.pointer (some ⟨b, o + 1, none⟩)) := by kernel_rfl
theorem fa_222_0 (b o : Nat) : evFieldAddr Tryz.prog 222 (.pointer (some ⟨b, o, none⟩)) 0 = some (.pointer (some ⟨b, o, none⟩)) := by kernel_rfl
theorem ld_218 (st : St) (b o : Nat) : evLoad Tryz.prog st 218 (.pointer (some ⟨b, o, none⟩)) = (st.cells ⟨b, o, none⟩ 1).bind one1 := by kernel_rfl
theorem eqn_20 (ox : Operand) (c : Value) : evBinF Tryz.prog .eql 20 ox (.const c) .nilIface .nilIface = some (.bool true) := eqnil Tryz.prog 20 _ Tryz.underlying20 ox c
theorem nqn_20 (ox : Operand) (c : Value) : evBinF Tryz.prog .neq 20 ox (.const c) .nilIface .nilIface = some (.bool false) := neqnil Tryz.prog 20 _ Tryz.underlying20 ox c
theorem eqo_20 (ox oy : Operand) (u : TypeId) (v : Value) : evBinF Tryz.prog .eql 20 ox oy (.iface u v) .nilIface = some (.bool false) := eqnil_no Tryz.prog 20 _ Tryz.underlying20 ox oy u v
theorem nqo_20 (ox oy : Operand) (u : TypeId) (v : Value) : evBinF Tryz.prog .neq 20 ox oy (.iface u v) .nilIface = some (.bool true) := neqnil_no Tryz.prog 20 _ Tryz.underlying20 ox oy u v
theorem ld_225 (st : St) (b o : Nat) : evLoad Tryz.prog st 225 (.pointer (some ⟨b, o, none⟩)) = (st.cells ⟨b, o, none⟩ 3).bind fun l => some (.agg ⟨l⟩) := by kernel_rfl
theorem ld_228 (st : St) (b o : Nat) : evLoad Tryz.prog st 228 (.pointer (some ⟨b, o, none⟩)) = (st.cells ⟨b, o, none⟩ 1).bind one1 := by kernel_rfl
theorem st_225 (st : St) (b o : Nat) (x : Value) : evStore Tryz.prog st 225 (.pointer (some ⟨b, o, none⟩)) x = chk (Nat.beq x.cells.toList.length 3) (st.stores b o x.cells.toList) := by kernel_rfl
theorem ld_81 (st : St) (b o : Nat) : evLoad Tryz.prog st 81 (.pointer (some ⟨b, o, none⟩)) = (st.cells ⟨b, o, none⟩ 1).bind one1 := by kernel_rfl
theorem ld_131 (st : St) (b o : Nat) : evLoad Tryz.prog st 131 (.pointer (some ⟨b, o, none⟩)) = (st.cells ⟨b, o, none⟩ 1).bind one1 := by kernel_rfl
theorem fa_120_1 (b o : Nat) : evFieldAddr Tryz.prog 120 (.pointer (some ⟨b, o, none⟩)) 1 = some (.pointer (some ⟨b, o + 1, none⟩)) := by kernel_rfl
theorem ld_118 (st : St) (b o : Nat) : evLoad Tryz.prog st 118 (.pointer (some ⟨b, o, none⟩)) = (st.cells ⟨b, o, none⟩ 8).bind fun l => some (.agg ⟨l⟩) := by kernel_rfl
theorem st_118 (st : St) (b o : Nat) (x : Value) : evStore Tryz.prog st 118 (.pointer (some ⟨b, o, none⟩)) x = chk (Nat.beq x.cells.toList.length 8) (st.stores b o x.cells.toList) := by kernel_rfl
theorem fa_120_3 (b o : Nat) : evFieldAddr Tryz.prog 120 (.pointer (some ⟨b, o, none⟩)) 3 = some (.pointer (some ⟨b, o + 10, none⟩)) := by kernel_rfl
theorem fa_126_1 (b o : Nat) : evFieldAddr Tryz.prog 126 (.pointer (some ⟨b, o, none⟩)) 1 = some (.pointer (some ⟨b, o + 1, none⟩)) := by kernel_rfl
theorem fa_126_3 (b o : Nat) : evFieldAddr Tryz.prog 126 (.pointer (some ⟨b, o, none⟩)) 3 = some (.pointer (some ⟨b, o + 3, none⟩)) := by kernel_rfl
theorem ld_115 (st : St) (b o : Nat) : evLoad Tryz.prog st 115 (.pointer (some ⟨b, o, none⟩)) = (st.cells ⟨b, o, none⟩ 1).bind one1 := by kernel_rfl
theorem ld_123 (st : St) (b o : Nat) : evLoad Tryz.prog st 123 (.pointer (some ⟨b, o, none⟩)) = (st.cells ⟨b, o, none⟩ 1).bind one1 := by kernel_rfl
theorem bu_47 (ps : List (Nat × Value)) : evBuild Tryz.prog 47 ps = (fillL (fun i => ([(0, 1), (1, 2), (3, 2), (5, 1), (6, 1), (7, 1), (8, 1), (9, 1), (10, 6), (16, 6), (22, 1), (23, 1)] : List (Nat × Nat))[i]?) [.int .i64 0, .int .i64 0, .int .i64 0, .int .i64 0, .int .i64 0, .bool false, .int .i64 0, .int .i64 0, .int .i64 0, .int .i64 0, .int .i64 0, .int .i64 0, .int .i64 0, .int .i64 0, .int .i64 0, .int .i64 0, .int .i64 0, .int .i64 0, .int .i64 0, .int .i64 0, .int .i64 0, .int .i64 0, .slice none 0 0, .slice none 0 0] ps).bind fun cs => some (.agg ⟨cs⟩) := by kernel_rfl
theorem fa_118_0 (b o : Nat) : evFieldAddr Tryz.prog 118 (.pointer (some ⟨b, o, none⟩)) 0 = some (.pointer (some ⟨b, o, none⟩)) := by kernel_rfl
theorem fa_118_1 (b o : Nat) : evFieldAddr Tryz.prog 118 (.pointer (some ⟨b, o, none⟩)) 1 = some (.pointer (some ⟨b, o + 2, none⟩)) := by kernel_rfl
theorem fa_118_2 (b o : Nat) : evFieldAddr Tryz.prog 118 (.pointer (some ⟨b, o, none⟩)) 2 = some (.pointer (some ⟨b, o + 4, none⟩)) := by kernel_rfl
theorem fa_118_3 (b o : Nat) : evFieldAddr Tryz.prog 118 (.pointer (some ⟨b, o, none⟩)) 3 = some (.pointer (some ⟨b, o + 5, none⟩)) := by kernel_rfl
theorem fa_118_4 (b o : Nat) : evFieldAddr Tryz.prog 118 (.pointer (some ⟨b, o, none⟩)) 4 = some (.pointer (some ⟨b, o + 6, none⟩)) := by kernel_rfl
theorem fa_118_5 (b o : Nat) : evFieldAddr Tryz.prog 118 (.pointer (some ⟨b, o, none⟩)) 5 = some (.pointer (some ⟨b, o + 7, none⟩)) := by kernel_rfl
theorem fa_120_0 (b o : Nat) : evFieldAddr Tryz.prog 120 (.pointer (some ⟨b, o, none⟩)) 0 = some (.pointer (some ⟨b, o, none⟩)) := by kernel_rfl
theorem fa_120_2 (b o : Nat) : evFieldAddr Tryz.prog 120 (.pointer (some ⟨b, o, none⟩)) 2 = some (.pointer (some ⟨b, o + 9, none⟩)) := by kernel_rfl
theorem fa_126_2 (b o : Nat) : evFieldAddr Tryz.prog 126 (.pointer (some ⟨b, o, none⟩)) 2 = some (.pointer (some ⟨b, o + 2, none⟩)) := by kernel_rfl
theorem ld_121 (st : St) (b o : Nat) : evLoad Tryz.prog st 121 (.pointer (some ⟨b, o, none⟩)) = (st.cells ⟨b, o, none⟩ 1).bind one1 := by kernel_rfl
theorem st_50 (st : St) (b o : Nat) (x : Value) : evStore Tryz.prog st 50 (.pointer (some ⟨b, o, none⟩)) x = chk (Nat.beq x.cells.toList.length 8) (st.stores b o x.cells.toList) := by kernel_rfl
theorem z_50 : zeroOf Tryz.prog 50 = some (.agg ⟨[.int .i64 0, .slice none 0 0, .int .i64 0, .int .i64 0, .int .i64 0, .int .i64 0, .int .i64 0, .int .i64 0]⟩) := by kernel_rfl
theorem bu_250 (ps : List (Nat × Value)) : evBuild Tryz.prog 250 ps = (fillL (fun i => ([(0, 1), (1, 1)] : List (Nat × Nat))[i]?) [.pointer none, .slice none 0 0] ps).bind fun cs => some (.agg ⟨cs⟩) := by kernel_rfl
theorem fa_126_0 (b o : Nat) : evFieldAddr Tryz.prog 126 (.pointer (some ⟨b, o, none⟩)) 0 = some (.pointer (some ⟨b, o, none⟩)) := by kernel_rfl
theorem fa_250_1 (b o : Nat) : evFieldAddr Tryz.prog 250 (.pointer (some ⟨b, o, none⟩)) 1 = some (.pointer (some ⟨b, o + 1, none⟩)) := by kernel_rfl
theorem ld_110 (st : St) (b o : Nat) : evLoad Tryz.prog st 110 (.pointer (some ⟨b, o, none⟩)) = (st.cells ⟨b, o, none⟩ 1).bind one1 := by kernel_rfl
theorem ld_192 (st : St) (b o : Nat) : evLoad Tryz.prog st 192 (.pointer (some ⟨b, o, none⟩)) = (st.cells ⟨b, o, none⟩ 1).bind one1 := by kernel_rfl
theorem ld_248 (st : St) (b o : Nat) : evLoad Tryz.prog st 248 (.pointer (some ⟨b, o, none⟩)) = (st.cells ⟨b, o, none⟩ 1).bind one1 := by kernel_rfl
theorem st_248 (st : St) (b o : Nat) (x : Value) : evStore Tryz.prog st 248 (.pointer (some ⟨b, o, none⟩)) x = chk (Nat.beq x.cells.toList.length 1) (st.stores b o x.cells.toList) := by kernel_rfl
theorem z_248 : zeroOf Tryz.prog 248 = some (.pointer none) := by kernel_rfl
theorem bu_260 (ps : List (Nat × Value)) : evBuild Tryz.prog 260 ps = (fillL (fun i => ([(0, 1)] : List (Nat × Nat))[i]?) [.string ⟨⟨[]⟩⟩] ps).bind fun cs => some (.agg ⟨cs⟩) := by kernel_rfl
theorem if_258 (x : Value) : evMakeIface Tryz.prog 258 x = some (.iface 258 x) := by kernel_rfl
theorem ld_201 (st : St) (b o : Nat) : evLoad Tryz.prog st 201 (.pointer (some ⟨b, o, none⟩)) = (st.cells ⟨b, o, none⟩ 1).bind one1 := by kernel_rfl
theorem z_266 : zeroOf Tryz.prog 266 = some (.agg ⟨[.int .u8 0, .int .u8 0, .int .u8 0, .int .u8 0, .int .u8 0, .int .u8 0, .int .u8 0, .int .u8 0, .int .u8 0, .int .u8 0, .int .u8 0, .int .u8 0, .int .u8 0, .int .u8 0, .int .u8 0, .int .u8 0, .int .u8 0, .int .u8 0, .int .u8 0, .int .u8 0, .int .u8 0, .int .u8 0, .int .u8 0, .int .u8 0, .int .u8 0, .int .u8 0, .int .u8 0, .int .u8 0, .int .u8 0, .int .u8 0, .int .u8 0, .int .u8 0, .int .u8 0, .int .u8 0, .int .u8 0, .int .u8 0, .int .u8 0, .int .u8 0, .int .u8 0, .int .u8 0, .int .u8 0, .int .u8 0, .int .u8 0, .int .u8 0, .int .u8 0, .int .u8 0, .int .u8 0, .int .u8 0, .int .u8 0, .int .u8 0, .int .u8 0, .int .u8 0, .int .u8 0, .int .u8 0, .int .u8 0, .int .u8 0, .int .u8 0, .int .u8 0, .int .u8 0, .int .u8 0, .int .u8 0, .int .u8 0, .int .u8 0, .int .u8 0, .int .u8 0]⟩) := by kernel_rfl
theorem bu_118 (ps : List (Nat × Value)) : evBuild Tryz.prog 118 ps = (fillL (fun i => ([(0, 2), (2, 2), (4, 1), (5, 1), (6, 1), (7, 1)] : List (Nat × Nat))[i]?) [.int .i64 0, .int .i64 0, .int .i64 0, .int .i64 0, .bool false, .int .i64 0, .int .i64 0, .int .i64 0] ps).bind fun cs => some (.agg ⟨cs⟩) := by kernel_rfl
theorem z_118 : zeroOf Tryz.prog 118 = some (.agg ⟨[.int .i64 0, .int .i64 0, .int .i64 0, .int .i64 0, .bool false, .int .i64 0, .int .i64 0, .int .i64 0]⟩) := by kernel_rfl
theorem bu_288 (ps : List (Nat × Value)) : evBuild Tryz.prog 288 ps = (fillL (fun i => ([(0, 1), (1, 1), (2, 1)] : List (Nat × Nat))[i]?) [.int .i64 0, .int .i64 0, .nilIface] ps).bind fun cs => some (.agg ⟨cs⟩) := by kernel_rfl
theorem if_286 (x : Value) : evMakeIface Tryz.prog 286 x = some (.iface 286 x) := by kernel_rfl
theorem fa_178_0 (b o : Nat) : evFieldAddr Tryz.prog 178 (.pointer (some ⟨b, o, none⟩)) 0 = some (.pointer (some ⟨b, o, none⟩)) := by kernel_rfl
theorem ld_167 (st : St) (b o : Nat) : evLoad Tryz.prog st 167 (.pointer (some ⟨b, o, none⟩)) = (st.cells ⟨b, o, none⟩ 1).bind one1 := by kernel_rfl
theorem bu_44 (ps : List (Nat × Value)) : evBuild Tryz.prog 44 ps = (fillL (fun i => ([(0, 1), (1, 1), (2, 1), (3, 1), (4, 1), (5, 1)] : List (Nat × Nat))[i]?) [.int .i64 0, .int .i64 0, .int .i64 0, .int .i64 0, .int .i64 0, .int .i64 0] ps).bind fun cs => some (.agg ⟨cs⟩) := by kernel_rfl
theorem fa_173_1 (b o : Nat) : evFieldAddr Tryz.prog 173 (.pointer (some ⟨b, o, none⟩)) 1 = some (.pointer (some ⟨b, o + 1, none⟩)) := by kernel_rfl
theorem fa_173_2 (b o : Nat) : evFieldAddr Tryz.prog 173 (.pointer (some ⟨b, o, none⟩)) 2 = some (.pointer (some ⟨b, o + 7, none⟩)) := by kernel_rfl
theorem st_173 (st : St) (b o : Nat) (x : Value) : evStore Tryz.prog st 173 (.pointer (some ⟨b, o, none⟩)) x = chk (Nat.beq x.cells.toList.length 13) (st.stores b o x.cells.toList) := by kernel_rfl
theorem z_173 : zeroOf Tryz.prog 173 = some (.agg ⟨[.int .i64 0, .int .i64 0, .int .i64 0, .int .i64 0, .int .i64 0, .int .i64 0, .int .i64 0, .int .i64 0, .int .i64 0, .int .i64 0, .int .i64 0, .int .i64 0, .int .i64 0]⟩) := by kernel_rfl
theorem bu_50 (ps : List (Nat × Value)) : evBuild Tryz.prog 50 ps = (fillL (fun i => ([(0, 1), (1, 1), (2, 6)] : List (Nat × Nat))[i]?) [.int .i64 0, .slice none 0 0, .int .i64 0, .int .i64 0, .int .i64 0, .int .i64 0, .int .i64 0, .int .i64 0] ps).bind fun cs => some (.agg ⟨cs⟩) := by kernel_rfl
theorem bu_304 (ps : List (Nat × Value)) : evBuild Tryz.prog 304 ps = (fillL (fun i => ([(0, 1), (1, 1), (2, 1)] : List (Nat × Nat))[i]?) [.int .i64 0, .int .i64 0, .int .i64 0] ps).bind fun cs => some (.agg ⟨cs⟩) := by kernel_rfl
theorem fa_250_0 (b o : Nat) : evFieldAddr Tryz.prog 250 (.pointer (some ⟨b, o, none⟩)) 0 = some (.pointer (some ⟨b, o, none⟩)) := by kernel_rfl
theorem ld_113 (st : St) (b o : Nat) : evLoad Tryz.prog st 113 (.pointer (some ⟨b, o, none⟩)) = (st.cells ⟨b, o, none⟩ 1).bind one1 := by kernel_rfl
theorem fa_176_1 (b o : Nat) : evFieldAddr Tryz.prog 176 (.pointer (some ⟨b, o, none⟩)) 1 = some (.pointer (some ⟨b, o + 1, none⟩)) := by kernel_rfl
theorem ld_174 (st : St) (b o : Nat) : evLoad Tryz.prog st 174 (.pointer (some ⟨b, o, none⟩)) = (st.cells ⟨b, o, none⟩ 1).bind one1 := by kernel_rfl
theorem fa_222_1 (b o : Nat) : evFieldAddr Tryz.prog 222 (.pointer (some ⟨b, o, none⟩)) 1 = some (.pointer (some ⟨b, o + 1, none⟩)) := by kernel_rfl
theorem fa_222_2 (b o : Nat) : evFieldAddr Tryz.prog 222 (.pointer (some ⟨b, o, none⟩)) 2 = some (.pointer (some ⟨b, o + 2, none⟩)) := by kernel_rfl
theorem fa_171_0 (b o : Nat) : evFieldAddr Tryz.prog 171 (.pointer (some ⟨b, o, none⟩)) 0 = some (.pointer (some ⟨b, o, none⟩)) := by kernel_rfl
theorem bu_222 (ps : List (Nat × Value)) : evBuild Tryz.prog 222 ps = (fillL (fun i => ([(0, 1), (1, 1), (2, 8)] : List (Nat × Nat))[i]?) [.int .i64 0, .bool false, .int .i64 0, .slice none 0 0, .int .i64 0, .int .i64 0, .int .i64 0, .int .i64 0, .int .i64 0, .int .i64 0] ps).bind fun cs => some (.agg ⟨cs⟩) := by kernel_rfl
theorem st_222 (st : St) (b o : Nat) (x : Value) : evStore Tryz.prog st 222 (.pointer (some ⟨b, o, none⟩)) x = chk (Nat.beq x.cells.toList.length 10) (st.stores b o x.cells.toList) := by kernel_rfl
theorem st_48 (st : St) (b o : Nat) (x : Value) : evStore Tryz.prog st 48 (.pointer (some ⟨b, o, none⟩)) x = chk (Nat.beq x.cells.toList.length 1) (st.stores b o x.cells.toList) := by kernel_rfl
theorem ld_173 (st : St) (b o : Nat) : evLoad Tryz.prog st 173 (.pointer (some ⟨b, o, none⟩)) = (st.cells ⟨b, o, none⟩ 13).bind fun l => some (.agg ⟨l⟩) := by kernel_rfl
theorem ld_164 (st : St) (b o : Nat) : evLoad Tryz.prog st 164 (.pointer (some ⟨b, o, none⟩)) = (st.cells ⟨b, o, none⟩ 3).bind fun l => some (.agg ⟨l⟩) := by kernel_rfl
theorem st_164 (st : St) (b o : Nat) (x : Value) : evStore Tryz.prog st 164 (.pointer (some ⟨b, o, none⟩)) x = chk (Nat.beq x.cells.toList.length 3) (st.stores b o x.cells.toList) := by kernel_rfl
theorem z_164 : zeroOf Tryz.prog 164 = some (.agg ⟨[.int .i64 0, .bool false, .pointer none]⟩) := by kernel_rfl
theorem ld_222 (st : St) (b o : Nat) : evLoad Tryz.prog st 222 (.pointer (some ⟨b, o, none⟩)) = (st.cells ⟨b, o, none⟩ 10).bind fun l => some (.agg ⟨l⟩) := by kernel_rfl
theorem z_222 : zeroOf Tryz.prog 222 = some (.agg ⟨[.int .i64 0, .bool false, .int .i64 0, .slice none 0 0, .int .i64 0, .int .i64 0, .int .i64 0, .int .i64 0, .int .i64 0, .int .i64 0]⟩) := by kernel_rfl
theorem fa_304_1 (b o : Nat) : evFieldAddr Tryz.prog 304 (.pointer (some ⟨b, o, none⟩)) 1 = some (.pointer (some ⟨b, o + 1, none⟩)) := by kernel_rfl
theorem ld_304 (st : St) (b o : Nat) : evLoad Tryz.prog st 304 (.pointer (some ⟨b, o, none⟩)) = (st.cells ⟨b, o, none⟩ 3).bind fun l => some (.agg ⟨l⟩) := by kernel_rfl
theorem st_304 (st : St) (b o : Nat) (x : Value) : evStore Tryz.prog st 304 (.pointer (some ⟨b, o, none⟩)) x = chk (Nat.beq x.cells.toList.length 3) (st.stores b o x.cells.toList) := by kernel_rfl
theorem z_304 : zeroOf Tryz.prog 304 = some (.agg ⟨[.int .i64 0, .int .i64 0, .int .i64 0]⟩) := by kernel_rfl
theorem fa_126_5 (b o : Nat) : evFieldAddr Tryz.prog 126 (.pointer (some ⟨b, o, none⟩)) 5 = some (.pointer (some ⟨b, o + 5, none⟩)) := by kernel_rfl
theorem fa_176_0 (b o : Nat) : evFieldAddr Tryz.prog 176 (.pointer (some ⟨b, o, none⟩)) 0 = some (.pointer (some ⟨b, o, none⟩)) := by kernel_rfl
theorem fi_44_0 (cs : List Value) : evField Tryz.prog 44 (.agg ⟨cs⟩) 0 = cs[0]? := by kernel_rfl
theorem fi_173_1 (cs : List Value) : evField Tryz.prog 173 (.agg ⟨cs⟩) 1 = some (.agg ⟨(cs.drop 1).take 6⟩) := by kernel_rfl
theorem bu_343 (ps : List (Nat × Value)) : evBuild Tryz.prog 343 ps = (fillL (fun i => ([(0, 1), (1, 1), (2, 1), (3, 1), (4, 1)] : List (Nat × Nat))[i]?) [.int .i64 0, .int .i64 0, .int .i64 0, .int .i64 0, .int .i64 0] ps).bind fun cs => some (.agg ⟨cs⟩) := by kernel_rfl
theorem st_192 (st : St) (b o : Nat) (x : Value) : evStore Tryz.prog st 192 (.pointer (some ⟨b, o, none⟩)) x = chk (Nat.beq x.cells.toList.length 1) (st.stores b o x.cells.toList) := by kernel_rfl
theorem z_4 : zeroOf Tryz.prog 4 = some (.bool false) := by kernel_rfl
theorem fa_173_0 (b o : Nat) : evFieldAddr Tryz.prog 173 (.pointer (some ⟨b, o, none⟩)) 0 = some (.pointer (some ⟨b, o, none⟩)) := by kernel_rfl
theorem bu_164 (ps : List (Nat × Value)) : evBuild Tryz.prog 164 ps = (fillL (fun i => ([(0, 1), (1, 1), (2, 1)] : List (Nat × Nat))[i]?) [.int .i64 0, .bool false, .pointer none] ps).bind fun cs => some (.agg ⟨cs⟩) := by kernel_rfl
theorem fa_220_0 (b o : Nat) : evFieldAddr Tryz.prog 220 (.pointer (some ⟨b, o, none⟩)) 0 = some (.pointer (some ⟨b, o, none⟩)) := by kernel_rfl
theorem fa_352_0 (b o : Nat) : evFieldAddr Tryz.prog 352 (.pointer (some ⟨b, o, none⟩)) 0 = some (.pointer (some ⟨b, o, none⟩)) := by kernel_rfl
theorem fa_352_1 (b o : Nat) : evFieldAddr Tryz.prog 352 (.pointer (some ⟨b, o, none⟩)) 1 = some (.pointer (some ⟨b, o + 1, none⟩)) := by kernel_rfl
theorem fa_352_2 (b o : Nat) : evFieldAddr Tryz.prog 352 (.pointer (some ⟨b, o, none⟩)) 2 = some (.pointer (some ⟨b, o + 2, none⟩)) := by kernel_rfl
theorem fa_352_3 (b o : Nat) : evFieldAddr Tryz.prog 352 (.pointer (some ⟨b, o, none⟩)) 3 = some (.pointer (some ⟨b, o + 3, none⟩)) := by kernel_rfl
theorem fa_304_0 (b o : Nat) : evFieldAddr Tryz.prog 304 (.pointer (some ⟨b, o, none⟩)) 0 = some (.pointer (some ⟨b, o, none⟩)) := by kernel_rfl
theorem fa_304_2 (b o : Nat) : evFieldAddr Tryz.prog 304 (.pointer (some ⟨b, o, none⟩)) 2 = some (.pointer (some ⟨b, o + 2, none⟩)) := by kernel_rfl
theorem fa_178_1 (b o : Nat) : evFieldAddr Tryz.prog 178 (.pointer (some ⟨b, o, none⟩)) 1 = some (.pointer (some ⟨b, o + 1, none⟩)) := by kernel_rfl
theorem bu_352 (ps : List (Nat × Value)) : evBuild Tryz.prog 352 ps = (fillL (fun i => ([(0, 1), (1, 1), (2, 1), (3, 1)] : List (Nat × Nat))[i]?) [.slice none 0 0, .int .i64 0, .int .i64 0, .int .i64 0] ps).bind fun cs => some (.agg ⟨cs⟩) := by kernel_rfl
theorem fa_288_2 (b o : Nat) : evFieldAddr Tryz.prog 288 (.pointer (some ⟨b, o, none⟩)) 2 = some (.pointer (some ⟨b, o + 2, none⟩)) := by kernel_rfl
theorem tz_mix : Tryz.prog.follows .mixedOrders = true := by kernel_rfl
theorem tz_globals : Tryz.prog.globals.size = 9 := by kernel_rfl
theorem tz_lt : Tryz.prog.globals.size < 20 := by rw [tz_globals]; decide
end Go.Ev

namespace Go.Ev
open Go Go.Proofs
set_option maxRecDepth 100000
set_option linter.unusedSimpArgs false
set_option linter.unusedVariables false

def hKind (h : Int) : Int := h / 1099511627776
def hSlot (h : Int) : Int := h / 1048576 % 1048576
def hGen (h : Int) : Int := h % 1048576
def hMay (a b c : Int) : Bool := decide (1 ≤ a) && (decide (a ≤ 3) && (decide (0 ≤ b) && (decide (b ≤ 65535) && (decide (1 ≤ c) && decide (c ≤ 1023)))))
def hOk (h : Int) : Bool := hMay (hKind h) (hSlot h) (hGen h)
def hMake (a b c : Int) : Int := a * 1099511627776 + b * 1048576 + c

theorem make_or {a b c : Int} (h1 : 1 ≤ a) (h2 : a ≤ 3) (h3 : 0 ≤ b) (h4 : b ≤ 65535) (h5 : 1 ≤ c) (h6 : c ≤ 1023) :
    bits .or .i64 (bits .or .i64 (IntKind.i64.wrap (a * 1099511627776)) (IntKind.i64.wrap (b * 1048576))) c = hMake a b c := by
  rw [wrap_small (by omega) (by omega), wrap_small (by omega) (by omega)]
  have p62 : (2 : Int) ^ 62 = 4611686018427387904 := by decide
  have p40 : (2 : Int) ^ 40 = 1099511627776 := by decide
  have p20 : (2 : Int) ^ 20 = 1048576 := by decide
  rw [or_join (a * 1099511627776) (b * 1048576) 40 (by omega) (by rw [p40]; omega) (by omega) (by omega) (by rw [p40]; omega) (by omega)]
  rw [or_join (a * 1099511627776 + b * 1048576) c 20 (by omega) (by rw [p20]; omega) (by omega) (by omega) (by rw [p20]; omega) (by omega)]
  rfl
theorem slot_and (h : Int) : bits .and .i64 (h / 1048576) 1048575 = hSlot h := and_mask (h / 1048576) 20 (by decide)
theorem gen_and (h : Int) : bits .and .i64 h 1048575 = hGen h := and_mask h 20 (by decide)

def rMake : List Value → Option Value
  | [.int .i64 a, .int .i64 b, .int .i64 c] => some (bif hMay a b c then .tuple ⟨[.int .i64 (hMake a b c), .nilIface]⟩ else .tuple ⟨[.int .i64 0, .iface 58 (.int .i64 1)]⟩)
  | _ => none
theorem rMake_plain (a b c : Int) : plain1 (bif hMay a b c then .tuple ⟨[.int .i64 (hMake a b c), .nilIface]⟩ else .tuple ⟨[.int .i64 0, .iface 58 (.int .i64 1)]⟩) = true := by cases hMay a b c <;> rfl

set_option maxHeartbeats 8000000 in
theorem rMake_ok : PlainFn Tryz.prog 100000 orc0 1 20 102 rMake := by
  refine ⟨⟨_, Tryz.func102, by kernel_rfl, by kernel_rfl⟩, ?_⟩
  intro vs v hh
  unfold rMake at hh
  split at hh
  · rename_i a b c
    simp only [Option.some.injEq] at hh
    subst hh
    refine ⟨rfl, rMake_plain _ _ _, ?_⟩
    by_cases h1 : a < 1
    · skip
      have h1_0 : ¬ 1 ≤ a := by omega
      rw [sx_call]
      simp -implicitDefEqProofs only [Tryz.func102, Option.bind_some]
      rw [sx_fn _ _ _ _ _ _ _ _ rfl]
      simp -implicitDefEqProofs only [Tryz.f102]
      simp -implicitDefEqProofs only [sx_seq, sx_region, sx_drawn, sx_cond, sx_block, sx_scope, sx_exit, sx_ret, sx_skip, sx_label, sx_normal, sx_then, sx_then_ret, sx_then_exit, sx_blk, sx_blk_ret, sx_blk_exit, sx_condOf, sx_callThen, sx_callThen_ret, sx_take, sx_res, sx_res_nil, sx_res_tmp, sx_res_cell, sx_tuple1, sx_tuple0, sx_tuple2, sx_args_nil, sx_args, sx_ops, sx_ops_nil, sx_one, sx_guard, sx_guardOf, sx_guardOf_none, sx_yieldAt0, sx_yieldAt, sx_yieldDst, sx_yieldV, sx_oneGuard, sx_put, sx_frput, sx_frput_none, sx_get, sx_tmp, sx_const, sx_global, sx_func, sx_opdL_nil, sx_opdL, sx_opdO_none, sx_opdO, sx_opdP_nil, sx_opdP, sx_move, sx_assign, sx_pick, sx_pick2, sx_alloc, sx_box, sx_build, sx_buildSlice, sx_insert, sx_mapUpdate, sx_load, sx_store, sx_nilCheck, sx_bin, sx_un, sx_convert, sx_iface, sx_makeFunc, sx_makeMap, sx_makeSlice, sx_slice, sx_fieldAddr, sx_field, sx_indexAddr, sx_index, sx_lookup, sx_assert, sx_extract, sx_callOp, sx_callFunc, sx_callValue, sx_callV, sx_callV_yield, sx_builtin, sx_chk, sx_chk_no, sx_blt, sx_ble, sx_beq, sx_binInt, sx_add, sx_sub, sx_mul, sx_eql, sx_neq, sx_lss, sx_leq, sx_gtr, sx_geq, sx_not, sx_extract1, sx_newVar, sx_new, sx_set, sx_hget, sx_cells, sx_cellsIn, sx_stores, sx_storesIn, sx_one1, sx_cells_int, sx_cells_bool, sx_cells_str, sx_cells_ptr, sx_cells_slice, sx_cells_agg, sx_cells_iface, sx_cells_nil, sx_all_nil, sx_all, sx_oc_int, sx_oc_bool, sx_oc_str, sx_oc_ptr, sx_oc_slice, sx_oc_iface, sx_oc_nil, sx_p1_int, sx_p1_bool, sx_p1_str, sx_p1_nil, sx_p1_ptr, sx_dr_nil, sx_dr_one, sx_dr_guard, sx_go_yes, sx_go_no, sx_dthen, sx_dput, sx_goes_nil, sx_av_nil, sx_av_no, sx_av_yes, sx_ids0, sx_ids, sx_erase_nil, sx_erase, sx_joined_nil, sx_filter_nil, sx_natsub, sx_row, sx_plainK, sx_shl, sx_shr, sx_and, sx_or, sx_xor, sx_yield, Option.bind_some, Option.bind_none, cond_true, cond_false, Nat.reduceLT, Nat.reduceLeDiff, Nat.reduceEqDiff, Nat.reduceAdd, Nat.reduceSub, Nat.reduceMul, Int.reduceEq, Int.reduceLT, Int.reduceLE, decide_true, decide_false, Bool.and_self, Bool.and_true, Bool.true_and, Bool.and_false, Bool.false_and, Bool.not_true, Bool.not_false, Bool.or_true, Bool.true_or, Bool.or_false, Bool.false_or, ↓reduceIte, List.length_cons, List.length_nil, Nat.zero_add, Nat.add_zero, List.drop_succ_cons, List.take_succ_cons, List.drop_zero, List.take_zero, List.drop_nil, List.take_nil, List.getElem?_cons_zero, List.getElem?_cons_succ, splice, List.cons_append, List.nil_append, fillL, stE, Nat.sub_self, Int.reduceNeg, true_and, and_true, true_or, or_true, false_or, or_false, false_and, and_false, not_true_eq_false, not_false_eq_true, List.map_cons, List.map_nil, List.append_nil, Int.reduceToNat, Int.reducePow, Nat.reducePow, IntKind.bits, if_58, hMay, h1, h1_0]
      exact ⟨_, rfl⟩
    · skip
      have h1_0 : 1 ≤ a := by omega
      by_cases h2 : 3 < a
      · skip
        have h2_0 : ¬ a ≤ 3 := by omega
        rw [sx_call]
        simp -implicitDefEqProofs only [Tryz.func102, Option.bind_some]
        rw [sx_fn _ _ _ _ _ _ _ _ rfl]
        simp -implicitDefEqProofs only [Tryz.f102]
        simp -implicitDefEqProofs only [sx_seq, sx_region, sx_drawn, sx_cond, sx_block, sx_scope, sx_exit, sx_ret, sx_skip, sx_label, sx_normal, sx_then, sx_then_ret, sx_then_exit, sx_blk, sx_blk_ret, sx_blk_exit, sx_condOf, sx_callThen, sx_callThen_ret, sx_take, sx_res, sx_res_nil, sx_res_tmp, sx_res_cell, sx_tuple1, sx_tuple0, sx_tuple2, sx_args_nil, sx_args, sx_ops, sx_ops_nil, sx_one, sx_guard, sx_guardOf, sx_guardOf_none, sx_yieldAt0, sx_yieldAt, sx_yieldDst, sx_yieldV, sx_oneGuard, sx_put, sx_frput, sx_frput_none, sx_get, sx_tmp, sx_const, sx_global, sx_func, sx_opdL_nil, sx_opdL, sx_opdO_none, sx_opdO, sx_opdP_nil, sx_opdP, sx_move, sx_assign, sx_pick, sx_pick2, sx_alloc, sx_box, sx_build, sx_buildSlice, sx_insert, sx_mapUpdate, sx_load, sx_store, sx_nilCheck, sx_bin, sx_un, sx_convert, sx_iface, sx_makeFunc, sx_makeMap, sx_makeSlice, sx_slice, sx_fieldAddr, sx_field, sx_indexAddr, sx_index, sx_lookup, sx_assert, sx_extract, sx_callOp, sx_callFunc, sx_callValue, sx_callV, sx_callV_yield, sx_builtin, sx_chk, sx_chk_no, sx_blt, sx_ble, sx_beq, sx_binInt, sx_add, sx_sub, sx_mul, sx_eql, sx_neq, sx_lss, sx_leq, sx_gtr, sx_geq, sx_not, sx_extract1, sx_newVar, sx_new, sx_set, sx_hget, sx_cells, sx_cellsIn, sx_stores, sx_storesIn, sx_one1, sx_cells_int, sx_cells_bool, sx_cells_str, sx_cells_ptr, sx_cells_slice, sx_cells_agg, sx_cells_iface, sx_cells_nil, sx_all_nil, sx_all, sx_oc_int, sx_oc_bool, sx_oc_str, sx_oc_ptr, sx_oc_slice, sx_oc_iface, sx_oc_nil, sx_p1_int, sx_p1_bool, sx_p1_str, sx_p1_nil, sx_p1_ptr, sx_dr_nil, sx_dr_one, sx_dr_guard, sx_go_yes, sx_go_no, sx_dthen, sx_dput, sx_goes_nil, sx_av_nil, sx_av_no, sx_av_yes, sx_ids0, sx_ids, sx_erase_nil, sx_erase, sx_joined_nil, sx_filter_nil, sx_natsub, sx_row, sx_plainK, sx_shl, sx_shr, sx_and, sx_or, sx_xor, sx_yield, Option.bind_some, Option.bind_none, cond_true, cond_false, Nat.reduceLT, Nat.reduceLeDiff, Nat.reduceEqDiff, Nat.reduceAdd, Nat.reduceSub, Nat.reduceMul, Int.reduceEq, Int.reduceLT, Int.reduceLE, decide_true, decide_false, Bool.and_self, Bool.and_true, Bool.true_and, Bool.and_false, Bool.false_and, Bool.not_true, Bool.not_false, Bool.or_true, Bool.true_or, Bool.or_false, Bool.false_or, ↓reduceIte, List.length_cons, List.length_nil, Nat.zero_add, Nat.add_zero, List.drop_succ_cons, List.take_succ_cons, List.drop_zero, List.take_zero, List.drop_nil, List.take_nil, List.getElem?_cons_zero, List.getElem?_cons_succ, splice, List.cons_append, List.nil_append, fillL, stE, Nat.sub_self, Int.reduceNeg, true_and, and_true, true_or, or_true, false_or, or_false, false_and, and_false, not_true_eq_false, not_false_eq_true, List.map_cons, List.map_nil, List.append_nil, Int.reduceToNat, Int.reducePow, Nat.reducePow, IntKind.bits, if_58, hMay, h1, h1_0, h2, h2_0]
        exact ⟨_, rfl⟩
      · skip
        have h2_0 : a ≤ 3 := by omega
        by_cases h3 : b < 0
        · skip
          have h3_0 : ¬ 0 ≤ b := by omega
          rw [sx_call]
          simp -implicitDefEqProofs only [Tryz.func102, Option.bind_some]
          rw [sx_fn _ _ _ _ _ _ _ _ rfl]
          simp -implicitDefEqProofs only [Tryz.f102]
          simp -implicitDefEqProofs only [sx_seq, sx_region, sx_drawn, sx_cond, sx_block, sx_scope, sx_exit, sx_ret, sx_skip, sx_label, sx_normal, sx_then, sx_then_ret, sx_then_exit, sx_blk, sx_blk_ret, sx_blk_exit, sx_condOf, sx_callThen, sx_callThen_ret, sx_take, sx_res, sx_res_nil, sx_res_tmp, sx_res_cell, sx_tuple1, sx_tuple0, sx_tuple2, sx_args_nil, sx_args, sx_ops, sx_ops_nil, sx_one, sx_guard, sx_guardOf, sx_guardOf_none, sx_yieldAt0, sx_yieldAt, sx_yieldDst, sx_yieldV, sx_oneGuard, sx_put, sx_frput, sx_frput_none, sx_get, sx_tmp, sx_const, sx_global, sx_func, sx_opdL_nil, sx_opdL, sx_opdO_none, sx_opdO, sx_opdP_nil, sx_opdP, sx_move, sx_assign, sx_pick, sx_pick2, sx_alloc, sx_box, sx_build, sx_buildSlice, sx_insert, sx_mapUpdate, sx_load, sx_store, sx_nilCheck, sx_bin, sx_un, sx_convert, sx_iface, sx_makeFunc, sx_makeMap, sx_makeSlice, sx_slice, sx_fieldAddr, sx_field, sx_indexAddr, sx_index, sx_lookup, sx_assert, sx_extract, sx_callOp, sx_callFunc, sx_callValue, sx_callV, sx_callV_yield, sx_builtin, sx_chk, sx_chk_no, sx_blt, sx_ble, sx_beq, sx_binInt, sx_add, sx_sub, sx_mul, sx_eql, sx_neq, sx_lss, sx_leq, sx_gtr, sx_geq, sx_not, sx_extract1, sx_newVar, sx_new, sx_set, sx_hget, sx_cells, sx_cellsIn, sx_stores, sx_storesIn, sx_one1, sx_cells_int, sx_cells_bool, sx_cells_str, sx_cells_ptr, sx_cells_slice, sx_cells_agg, sx_cells_iface, sx_cells_nil, sx_all_nil, sx_all, sx_oc_int, sx_oc_bool, sx_oc_str, sx_oc_ptr, sx_oc_slice, sx_oc_iface, sx_oc_nil, sx_p1_int, sx_p1_bool, sx_p1_str, sx_p1_nil, sx_p1_ptr, sx_dr_nil, sx_dr_one, sx_dr_guard, sx_go_yes, sx_go_no, sx_dthen, sx_dput, sx_goes_nil, sx_av_nil, sx_av_no, sx_av_yes, sx_ids0, sx_ids, sx_erase_nil, sx_erase, sx_joined_nil, sx_filter_nil, sx_natsub, sx_row, sx_plainK, sx_shl, sx_shr, sx_and, sx_or, sx_xor, sx_yield, Option.bind_some, Option.bind_none, cond_true, cond_false, Nat.reduceLT, Nat.reduceLeDiff, Nat.reduceEqDiff, Nat.reduceAdd, Nat.reduceSub, Nat.reduceMul, Int.reduceEq, Int.reduceLT, Int.reduceLE, decide_true, decide_false, Bool.and_self, Bool.and_true, Bool.true_and, Bool.and_false, Bool.false_and, Bool.not_true, Bool.not_false, Bool.or_true, Bool.true_or, Bool.or_false, Bool.false_or, ↓reduceIte, List.length_cons, List.length_nil, Nat.zero_add, Nat.add_zero, List.drop_succ_cons, List.take_succ_cons, List.drop_zero, List.take_zero, List.drop_nil, List.take_nil, List.getElem?_cons_zero, List.getElem?_cons_succ, splice, List.cons_append, List.nil_append, fillL, stE, Nat.sub_self, Int.reduceNeg, true_and, and_true, true_or, or_true, false_or, or_false, false_and, and_false, not_true_eq_false, not_false_eq_true, List.map_cons, List.map_nil, List.append_nil, Int.reduceToNat, Int.reducePow, Nat.reducePow, IntKind.bits, if_58, hMay, h1, h1_0, h2, h2_0, h3, h3_0]
          exact ⟨_, rfl⟩
        · skip
          have h3_0 : 0 ≤ b := by omega
          by_cases h4 : 65535 < b
          · skip
            have h4_0 : ¬ b ≤ 65535 := by omega
            rw [sx_call]
            simp -implicitDefEqProofs only [Tryz.func102, Option.bind_some]
            rw [sx_fn _ _ _ _ _ _ _ _ rfl]
            simp -implicitDefEqProofs only [Tryz.f102]
            simp -implicitDefEqProofs only [sx_seq, sx_region, sx_drawn, sx_cond, sx_block, sx_scope, sx_exit, sx_ret, sx_skip, sx_label, sx_normal, sx_then, sx_then_ret, sx_then_exit, sx_blk, sx_blk_ret, sx_blk_exit, sx_condOf, sx_callThen, sx_callThen_ret, sx_take, sx_res, sx_res_nil, sx_res_tmp, sx_res_cell, sx_tuple1, sx_tuple0, sx_tuple2, sx_args_nil, sx_args, sx_ops, sx_ops_nil, sx_one, sx_guard, sx_guardOf, sx_guardOf_none, sx_yieldAt0, sx_yieldAt, sx_yieldDst, sx_yieldV, sx_oneGuard, sx_put, sx_frput, sx_frput_none, sx_get, sx_tmp, sx_const, sx_global, sx_func, sx_opdL_nil, sx_opdL, sx_opdO_none, sx_opdO, sx_opdP_nil, sx_opdP, sx_move, sx_assign, sx_pick, sx_pick2, sx_alloc, sx_box, sx_build, sx_buildSlice, sx_insert, sx_mapUpdate, sx_load, sx_store, sx_nilCheck, sx_bin, sx_un, sx_convert, sx_iface, sx_makeFunc, sx_makeMap, sx_makeSlice, sx_slice, sx_fieldAddr, sx_field, sx_indexAddr, sx_index, sx_lookup, sx_assert, sx_extract, sx_callOp, sx_callFunc, sx_callValue, sx_callV, sx_callV_yield, sx_builtin, sx_chk, sx_chk_no, sx_blt, sx_ble, sx_beq, sx_binInt, sx_add, sx_sub, sx_mul, sx_eql, sx_neq, sx_lss, sx_leq, sx_gtr, sx_geq, sx_not, sx_extract1, sx_newVar, sx_new, sx_set, sx_hget, sx_cells, sx_cellsIn, sx_stores, sx_storesIn, sx_one1, sx_cells_int, sx_cells_bool, sx_cells_str, sx_cells_ptr, sx_cells_slice, sx_cells_agg, sx_cells_iface, sx_cells_nil, sx_all_nil, sx_all, sx_oc_int, sx_oc_bool, sx_oc_str, sx_oc_ptr, sx_oc_slice, sx_oc_iface, sx_oc_nil, sx_p1_int, sx_p1_bool, sx_p1_str, sx_p1_nil, sx_p1_ptr, sx_dr_nil, sx_dr_one, sx_dr_guard, sx_go_yes, sx_go_no, sx_dthen, sx_dput, sx_goes_nil, sx_av_nil, sx_av_no, sx_av_yes, sx_ids0, sx_ids, sx_erase_nil, sx_erase, sx_joined_nil, sx_filter_nil, sx_natsub, sx_row, sx_plainK, sx_shl, sx_shr, sx_and, sx_or, sx_xor, sx_yield, Option.bind_some, Option.bind_none, cond_true, cond_false, Nat.reduceLT, Nat.reduceLeDiff, Nat.reduceEqDiff, Nat.reduceAdd, Nat.reduceSub, Nat.reduceMul, Int.reduceEq, Int.reduceLT, Int.reduceLE, decide_true, decide_false, Bool.and_self, Bool.and_true, Bool.true_and, Bool.and_false, Bool.false_and, Bool.not_true, Bool.not_false, Bool.or_true, Bool.true_or, Bool.or_false, Bool.false_or, ↓reduceIte, List.length_cons, List.length_nil, Nat.zero_add, Nat.add_zero, List.drop_succ_cons, List.take_succ_cons, List.drop_zero, List.take_zero, List.drop_nil, List.take_nil, List.getElem?_cons_zero, List.getElem?_cons_succ, splice, List.cons_append, List.nil_append, fillL, stE, Nat.sub_self, Int.reduceNeg, true_and, and_true, true_or, or_true, false_or, or_false, false_and, and_false, not_true_eq_false, not_false_eq_true, List.map_cons, List.map_nil, List.append_nil, Int.reduceToNat, Int.reducePow, Nat.reducePow, IntKind.bits, if_58, hMay, h1, h1_0, h2, h2_0, h3, h3_0, h4, h4_0]
            exact ⟨_, rfl⟩
          · skip
            have h4_0 : b ≤ 65535 := by omega
            by_cases h5 : c < 1
            · skip
              have h5_0 : ¬ 1 ≤ c := by omega
              rw [sx_call]
              simp -implicitDefEqProofs only [Tryz.func102, Option.bind_some]
              rw [sx_fn _ _ _ _ _ _ _ _ rfl]
              simp -implicitDefEqProofs only [Tryz.f102]
              simp -implicitDefEqProofs only [sx_seq, sx_region, sx_drawn, sx_cond, sx_block, sx_scope, sx_exit, sx_ret, sx_skip, sx_label, sx_normal, sx_then, sx_then_ret, sx_then_exit, sx_blk, sx_blk_ret, sx_blk_exit, sx_condOf, sx_callThen, sx_callThen_ret, sx_take, sx_res, sx_res_nil, sx_res_tmp, sx_res_cell, sx_tuple1, sx_tuple0, sx_tuple2, sx_args_nil, sx_args, sx_ops, sx_ops_nil, sx_one, sx_guard, sx_guardOf, sx_guardOf_none, sx_yieldAt0, sx_yieldAt, sx_yieldDst, sx_yieldV, sx_oneGuard, sx_put, sx_frput, sx_frput_none, sx_get, sx_tmp, sx_const, sx_global, sx_func, sx_opdL_nil, sx_opdL, sx_opdO_none, sx_opdO, sx_opdP_nil, sx_opdP, sx_move, sx_assign, sx_pick, sx_pick2, sx_alloc, sx_box, sx_build, sx_buildSlice, sx_insert, sx_mapUpdate, sx_load, sx_store, sx_nilCheck, sx_bin, sx_un, sx_convert, sx_iface, sx_makeFunc, sx_makeMap, sx_makeSlice, sx_slice, sx_fieldAddr, sx_field, sx_indexAddr, sx_index, sx_lookup, sx_assert, sx_extract, sx_callOp, sx_callFunc, sx_callValue, sx_callV, sx_callV_yield, sx_builtin, sx_chk, sx_chk_no, sx_blt, sx_ble, sx_beq, sx_binInt, sx_add, sx_sub, sx_mul, sx_eql, sx_neq, sx_lss, sx_leq, sx_gtr, sx_geq, sx_not, sx_extract1, sx_newVar, sx_new, sx_set, sx_hget, sx_cells, sx_cellsIn, sx_stores, sx_storesIn, sx_one1, sx_cells_int, sx_cells_bool, sx_cells_str, sx_cells_ptr, sx_cells_slice, sx_cells_agg, sx_cells_iface, sx_cells_nil, sx_all_nil, sx_all, sx_oc_int, sx_oc_bool, sx_oc_str, sx_oc_ptr, sx_oc_slice, sx_oc_iface, sx_oc_nil, sx_p1_int, sx_p1_bool, sx_p1_str, sx_p1_nil, sx_p1_ptr, sx_dr_nil, sx_dr_one, sx_dr_guard, sx_go_yes, sx_go_no, sx_dthen, sx_dput, sx_goes_nil, sx_av_nil, sx_av_no, sx_av_yes, sx_ids0, sx_ids, sx_erase_nil, sx_erase, sx_joined_nil, sx_filter_nil, sx_natsub, sx_row, sx_plainK, sx_shl, sx_shr, sx_and, sx_or, sx_xor, sx_yield, Option.bind_some, Option.bind_none, cond_true, cond_false, Nat.reduceLT, Nat.reduceLeDiff, Nat.reduceEqDiff, Nat.reduceAdd, Nat.reduceSub, Nat.reduceMul, Int.reduceEq, Int.reduceLT, Int.reduceLE, decide_true, decide_false, Bool.and_self, Bool.and_true, Bool.true_and, Bool.and_false, Bool.false_and, Bool.not_true, Bool.not_false, Bool.or_true, Bool.true_or, Bool.or_false, Bool.false_or, ↓reduceIte, List.length_cons, List.length_nil, Nat.zero_add, Nat.add_zero, List.drop_succ_cons, List.take_succ_cons, List.drop_zero, List.take_zero, List.drop_nil, List.take_nil, List.getElem?_cons_zero, List.getElem?_cons_succ, splice, List.cons_append, List.nil_append, fillL, stE, Nat.sub_self, Int.reduceNeg, true_and, and_true, true_or, or_true, false_or, or_false, false_and, and_false, not_true_eq_false, not_false_eq_true, List.map_cons, List.map_nil, List.append_nil, Int.reduceToNat, Int.reducePow, Nat.reducePow, IntKind.bits, if_58, hMay, h1, h1_0, h2, h2_0, h3, h3_0, h4, h4_0, h5, h5_0]
              exact ⟨_, rfl⟩
            · skip
              have h5_0 : 1 ≤ c := by omega
              by_cases h6 : 1023 < c
              · skip
                have h6_0 : ¬ c ≤ 1023 := by omega
                rw [sx_call]
                simp -implicitDefEqProofs only [Tryz.func102, Option.bind_some]
                rw [sx_fn _ _ _ _ _ _ _ _ rfl]
                simp -implicitDefEqProofs only [Tryz.f102]
                simp -implicitDefEqProofs only [sx_seq, sx_region, sx_drawn, sx_cond, sx_block, sx_scope, sx_exit, sx_ret, sx_skip, sx_label, sx_normal, sx_then, sx_then_ret, sx_then_exit, sx_blk, sx_blk_ret, sx_blk_exit, sx_condOf, sx_callThen, sx_callThen_ret, sx_take, sx_res, sx_res_nil, sx_res_tmp, sx_res_cell, sx_tuple1, sx_tuple0, sx_tuple2, sx_args_nil, sx_args, sx_ops, sx_ops_nil, sx_one, sx_guard, sx_guardOf, sx_guardOf_none, sx_yieldAt0, sx_yieldAt, sx_yieldDst, sx_yieldV, sx_oneGuard, sx_put, sx_frput, sx_frput_none, sx_get, sx_tmp, sx_const, sx_global, sx_func, sx_opdL_nil, sx_opdL, sx_opdO_none, sx_opdO, sx_opdP_nil, sx_opdP, sx_move, sx_assign, sx_pick, sx_pick2, sx_alloc, sx_box, sx_build, sx_buildSlice, sx_insert, sx_mapUpdate, sx_load, sx_store, sx_nilCheck, sx_bin, sx_un, sx_convert, sx_iface, sx_makeFunc, sx_makeMap, sx_makeSlice, sx_slice, sx_fieldAddr, sx_field, sx_indexAddr, sx_index, sx_lookup, sx_assert, sx_extract, sx_callOp, sx_callFunc, sx_callValue, sx_callV, sx_callV_yield, sx_builtin, sx_chk, sx_chk_no, sx_blt, sx_ble, sx_beq, sx_binInt, sx_add, sx_sub, sx_mul, sx_eql, sx_neq, sx_lss, sx_leq, sx_gtr, sx_geq, sx_not, sx_extract1, sx_newVar, sx_new, sx_set, sx_hget, sx_cells, sx_cellsIn, sx_stores, sx_storesIn, sx_one1, sx_cells_int, sx_cells_bool, sx_cells_str, sx_cells_ptr, sx_cells_slice, sx_cells_agg, sx_cells_iface, sx_cells_nil, sx_all_nil, sx_all, sx_oc_int, sx_oc_bool, sx_oc_str, sx_oc_ptr, sx_oc_slice, sx_oc_iface, sx_oc_nil, sx_p1_int, sx_p1_bool, sx_p1_str, sx_p1_nil, sx_p1_ptr, sx_dr_nil, sx_dr_one, sx_dr_guard, sx_go_yes, sx_go_no, sx_dthen, sx_dput, sx_goes_nil, sx_av_nil, sx_av_no, sx_av_yes, sx_ids0, sx_ids, sx_erase_nil, sx_erase, sx_joined_nil, sx_filter_nil, sx_natsub, sx_row, sx_plainK, sx_shl, sx_shr, sx_and, sx_or, sx_xor, sx_yield, Option.bind_some, Option.bind_none, cond_true, cond_false, Nat.reduceLT, Nat.reduceLeDiff, Nat.reduceEqDiff, Nat.reduceAdd, Nat.reduceSub, Nat.reduceMul, Int.reduceEq, Int.reduceLT, Int.reduceLE, decide_true, decide_false, Bool.and_self, Bool.and_true, Bool.true_and, Bool.and_false, Bool.false_and, Bool.not_true, Bool.not_false, Bool.or_true, Bool.true_or, Bool.or_false, Bool.false_or, ↓reduceIte, List.length_cons, List.length_nil, Nat.zero_add, Nat.add_zero, List.drop_succ_cons, List.take_succ_cons, List.drop_zero, List.take_zero, List.drop_nil, List.take_nil, List.getElem?_cons_zero, List.getElem?_cons_succ, splice, List.cons_append, List.nil_append, fillL, stE, Nat.sub_self, Int.reduceNeg, true_and, and_true, true_or, or_true, false_or, or_false, false_and, and_false, not_true_eq_false, not_false_eq_true, List.map_cons, List.map_nil, List.append_nil, Int.reduceToNat, Int.reducePow, Nat.reducePow, IntKind.bits, if_58, hMay, h1, h1_0, h2, h2_0, h3, h3_0, h4, h4_0, h5, h5_0, h6, h6_0]
                exact ⟨_, rfl⟩
              · skip
                have h6_0 : c ≤ 1023 := by omega
                have mo := make_or (a := a) (b := b) (c := c) (by omega) (by omega) (by omega) (by omega) (by omega) (by omega)
                rw [sx_call]
                simp -implicitDefEqProofs only [Tryz.func102, Option.bind_some]
                rw [sx_fn _ _ _ _ _ _ _ _ rfl]
                simp -implicitDefEqProofs only [Tryz.f102]
                simp -implicitDefEqProofs only [sx_seq, sx_region, sx_drawn, sx_cond, sx_block, sx_scope, sx_exit, sx_ret, sx_skip, sx_label, sx_normal, sx_then, sx_then_ret, sx_then_exit, sx_blk, sx_blk_ret, sx_blk_exit, sx_condOf, sx_callThen, sx_callThen_ret, sx_take, sx_res, sx_res_nil, sx_res_tmp, sx_res_cell, sx_tuple1, sx_tuple0, sx_tuple2, sx_args_nil, sx_args, sx_ops, sx_ops_nil, sx_one, sx_guard, sx_guardOf, sx_guardOf_none, sx_yieldAt0, sx_yieldAt, sx_yieldDst, sx_yieldV, sx_oneGuard, sx_put, sx_frput, sx_frput_none, sx_get, sx_tmp, sx_const, sx_global, sx_func, sx_opdL_nil, sx_opdL, sx_opdO_none, sx_opdO, sx_opdP_nil, sx_opdP, sx_move, sx_assign, sx_pick, sx_pick2, sx_alloc, sx_box, sx_build, sx_buildSlice, sx_insert, sx_mapUpdate, sx_load, sx_store, sx_nilCheck, sx_bin, sx_un, sx_convert, sx_iface, sx_makeFunc, sx_makeMap, sx_makeSlice, sx_slice, sx_fieldAddr, sx_field, sx_indexAddr, sx_index, sx_lookup, sx_assert, sx_extract, sx_callOp, sx_callFunc, sx_callValue, sx_callV, sx_callV_yield, sx_builtin, sx_chk, sx_chk_no, sx_blt, sx_ble, sx_beq, sx_binInt, sx_add, sx_sub, sx_mul, sx_eql, sx_neq, sx_lss, sx_leq, sx_gtr, sx_geq, sx_not, sx_extract1, sx_newVar, sx_new, sx_set, sx_hget, sx_cells, sx_cellsIn, sx_stores, sx_storesIn, sx_one1, sx_cells_int, sx_cells_bool, sx_cells_str, sx_cells_ptr, sx_cells_slice, sx_cells_agg, sx_cells_iface, sx_cells_nil, sx_all_nil, sx_all, sx_oc_int, sx_oc_bool, sx_oc_str, sx_oc_ptr, sx_oc_slice, sx_oc_iface, sx_oc_nil, sx_p1_int, sx_p1_bool, sx_p1_str, sx_p1_nil, sx_p1_ptr, sx_dr_nil, sx_dr_one, sx_dr_guard, sx_go_yes, sx_go_no, sx_dthen, sx_dput, sx_goes_nil, sx_av_nil, sx_av_no, sx_av_yes, sx_ids0, sx_ids, sx_erase_nil, sx_erase, sx_joined_nil, sx_filter_nil, sx_natsub, sx_row, sx_plainK, sx_shl, sx_shr, sx_and, sx_or, sx_xor, sx_yield, Option.bind_some, Option.bind_none, cond_true, cond_false, Nat.reduceLT, Nat.reduceLeDiff, Nat.reduceEqDiff, Nat.reduceAdd, Nat.reduceSub, Nat.reduceMul, Int.reduceEq, Int.reduceLT, Int.reduceLE, decide_true, decide_false, Bool.and_self, Bool.and_true, Bool.true_and, Bool.and_false, Bool.false_and, Bool.not_true, Bool.not_false, Bool.or_true, Bool.true_or, Bool.or_false, Bool.false_or, ↓reduceIte, List.length_cons, List.length_nil, Nat.zero_add, Nat.add_zero, List.drop_succ_cons, List.take_succ_cons, List.drop_zero, List.take_zero, List.drop_nil, List.take_nil, List.getElem?_cons_zero, List.getElem?_cons_succ, splice, List.cons_append, List.nil_append, fillL, stE, Nat.sub_self, Int.reduceNeg, true_and, and_true, true_or, or_true, false_or, or_false, false_and, and_false, not_true_eq_false, not_false_eq_true, List.map_cons, List.map_nil, List.append_nil, Int.reduceToNat, Int.reducePow, Nat.reducePow, IntKind.bits, if_58, hMay, h1, h1_0, h2, h2_0, h3, h3_0, h4, h4_0, h5, h5_0, h6, h6_0, mo]
                exact ⟨_, rfl⟩
  · cases hh

def rParts : List Value → Option Value
  | [.int .i64 h] => some (.tuple ⟨[.int .i64 (hKind h), .int .i64 (hSlot h), .int .i64 (hGen h)]⟩)
  | _ => none

set_option maxHeartbeats 8000000 in
theorem rParts_ok : PlainFn Tryz.prog 100000 orc0 1 20 108 rParts := by
  refine ⟨⟨_, Tryz.func108, by kernel_rfl, by kernel_rfl⟩, ?_⟩
  intro vs v hh
  unfold rParts at hh
  split at hh
  · rename_i h
    simp only [Option.some.injEq] at hh
    subst hh
    refine ⟨rfl, rfl, ?_⟩
    rw [sx_call]
    simp -implicitDefEqProofs only [Tryz.func108, Option.bind_some]
    rw [sx_fn _ _ _ _ _ _ _ _ rfl]
    simp -implicitDefEqProofs only [Tryz.f108]
    simp -implicitDefEqProofs only [sx_seq, sx_region, sx_drawn, sx_cond, sx_block, sx_scope, sx_exit, sx_ret, sx_skip, sx_label, sx_normal, sx_then, sx_then_ret, sx_then_exit, sx_blk, sx_blk_ret, sx_blk_exit, sx_condOf, sx_callThen, sx_callThen_ret, sx_take, sx_res, sx_res_nil, sx_res_tmp, sx_res_cell, sx_tuple1, sx_tuple0, sx_tuple2, sx_args_nil, sx_args, sx_ops, sx_ops_nil, sx_one, sx_guard, sx_guardOf, sx_guardOf_none, sx_yieldAt0, sx_yieldAt, sx_yieldDst, sx_yieldV, sx_oneGuard, sx_put, sx_frput, sx_frput_none, sx_get, sx_tmp, sx_const, sx_global, sx_func, sx_opdL_nil, sx_opdL, sx_opdO_none, sx_opdO, sx_opdP_nil, sx_opdP, sx_move, sx_assign, sx_pick, sx_pick2, sx_alloc, sx_box, sx_build, sx_buildSlice, sx_insert, sx_mapUpdate, sx_load, sx_store, sx_nilCheck, sx_bin, sx_un, sx_convert, sx_iface, sx_makeFunc, sx_makeMap, sx_makeSlice, sx_slice, sx_fieldAddr, sx_field, sx_indexAddr, sx_index, sx_lookup, sx_assert, sx_extract, sx_callOp, sx_callFunc, sx_callValue, sx_callV, sx_callV_yield, sx_builtin, sx_chk, sx_chk_no, sx_blt, sx_ble, sx_beq, sx_binInt, sx_add, sx_sub, sx_mul, sx_eql, sx_neq, sx_lss, sx_leq, sx_gtr, sx_geq, sx_not, sx_extract1, sx_newVar, sx_new, sx_set, sx_hget, sx_cells, sx_cellsIn, sx_stores, sx_storesIn, sx_one1, sx_cells_int, sx_cells_bool, sx_cells_str, sx_cells_ptr, sx_cells_slice, sx_cells_agg, sx_cells_iface, sx_cells_nil, sx_all_nil, sx_all, sx_oc_int, sx_oc_bool, sx_oc_str, sx_oc_ptr, sx_oc_slice, sx_oc_iface, sx_oc_nil, sx_p1_int, sx_p1_bool, sx_p1_str, sx_p1_nil, sx_p1_ptr, sx_dr_nil, sx_dr_one, sx_dr_guard, sx_go_yes, sx_go_no, sx_dthen, sx_dput, sx_goes_nil, sx_av_nil, sx_av_no, sx_av_yes, sx_ids0, sx_ids, sx_erase_nil, sx_erase, sx_joined_nil, sx_filter_nil, sx_natsub, sx_row, sx_plainK, sx_shl, sx_shr, sx_and, sx_or, sx_xor, sx_yield, Option.bind_some, Option.bind_none, cond_true, cond_false, Nat.reduceLT, Nat.reduceLeDiff, Nat.reduceEqDiff, Nat.reduceAdd, Nat.reduceSub, Nat.reduceMul, Int.reduceEq, Int.reduceLT, Int.reduceLE, decide_true, decide_false, Bool.and_self, Bool.and_true, Bool.true_and, Bool.and_false, Bool.false_and, Bool.not_true, Bool.not_false, Bool.or_true, Bool.true_or, Bool.or_false, Bool.false_or, ↓reduceIte, List.length_cons, List.length_nil, Nat.zero_add, Nat.add_zero, List.drop_succ_cons, List.take_succ_cons, List.drop_zero, List.take_zero, List.drop_nil, List.take_nil, List.getElem?_cons_zero, List.getElem?_cons_succ, splice, List.cons_append, List.nil_append, fillL, stE, Nat.sub_self, Int.reduceNeg, true_and, and_true, true_or, or_true, false_or, or_false, false_and, and_false, not_true_eq_false, not_false_eq_true, List.map_cons, List.map_nil, List.append_nil, Int.reduceToNat, Int.reducePow, Nat.reducePow, IntKind.bits, slot_and, gen_and, hKind]
    exact ⟨_, rfl⟩
  · cases hh

noncomputable def orcH0 : Orc := addRow (addRow orc0 102 (plainK rMake)) 108 (plainK rParts)
theorem orcH0_ok : OrcOk Tryz.prog orcH0 := addPlain_ok (addPlain_ok orc0_ok rMake_ok orc0_ok orc0_st tz_mix tz_lt) rParts_ok orc0_ok orc0_st tz_mix tz_lt
theorem orcH0_st : OrcSt orcH0 := addPlain_st (addPlain_st orc0_st)

def rOk : List Value → Option Value
  | [.int .i64 h] => some (.bool (hOk h))
  | _ => none

set_option maxHeartbeats 8000000 in
theorem rOk_ok : PlainFn Tryz.prog 100000 orcH0 2 20 107 rOk := by
  refine ⟨⟨_, Tryz.func107, by kernel_rfl, by kernel_rfl⟩, ?_⟩
  intro vs v hh
  unfold rOk at hh
  split at hh
  · rename_i h
    simp only [Option.some.injEq] at hh
    subst hh
    refine ⟨rfl, rfl, ?_⟩
    cases hq : hMay (hKind h) (hSlot h) (hGen h)
    · skip
      rw [sx_call]
      simp -implicitDefEqProofs only [Tryz.func107, Option.bind_some]
      rw [sx_fn _ _ _ _ _ _ _ _ rfl]
      simp -implicitDefEqProofs only [Tryz.f107]
      simp -implicitDefEqProofs only [sx_seq, sx_region, sx_drawn, sx_cond, sx_block, sx_scope, sx_exit, sx_ret, sx_skip, sx_label, sx_normal, sx_then, sx_then_ret, sx_then_exit, sx_blk, sx_blk_ret, sx_blk_exit, sx_condOf, sx_callThen, sx_callThen_ret, sx_take, sx_res, sx_res_nil, sx_res_tmp, sx_res_cell, sx_tuple1, sx_tuple0, sx_tuple2, sx_args_nil, sx_args, sx_ops, sx_ops_nil, sx_one, sx_guard, sx_guardOf, sx_guardOf_none, sx_yieldAt0, sx_yieldAt, sx_yieldDst, sx_yieldV, sx_oneGuard, sx_put, sx_frput, sx_frput_none, sx_get, sx_tmp, sx_const, sx_global, sx_func, sx_opdL_nil, sx_opdL, sx_opdO_none, sx_opdO, sx_opdP_nil, sx_opdP, sx_move, sx_assign, sx_pick, sx_pick2, sx_alloc, sx_box, sx_build, sx_buildSlice, sx_insert, sx_mapUpdate, sx_load, sx_store, sx_nilCheck, sx_bin, sx_un, sx_convert, sx_iface, sx_makeFunc, sx_makeMap, sx_makeSlice, sx_slice, sx_fieldAddr, sx_field, sx_indexAddr, sx_index, sx_lookup, sx_assert, sx_extract, sx_callOp, sx_callFunc, sx_callValue, sx_callV, sx_callV_yield, sx_builtin, sx_chk, sx_chk_no, sx_blt, sx_ble, sx_beq, sx_binInt, sx_add, sx_sub, sx_mul, sx_eql, sx_neq, sx_lss, sx_leq, sx_gtr, sx_geq, sx_not, sx_extract1, sx_newVar, sx_new, sx_set, sx_hget, sx_cells, sx_cellsIn, sx_stores, sx_storesIn, sx_one1, sx_cells_int, sx_cells_bool, sx_cells_str, sx_cells_ptr, sx_cells_slice, sx_cells_agg, sx_cells_iface, sx_cells_nil, sx_all_nil, sx_all, sx_oc_int, sx_oc_bool, sx_oc_str, sx_oc_ptr, sx_oc_slice, sx_oc_iface, sx_oc_nil, sx_p1_int, sx_p1_bool, sx_p1_str, sx_p1_nil, sx_p1_ptr, sx_dr_nil, sx_dr_one, sx_dr_guard, sx_go_yes, sx_go_no, sx_dthen, sx_dput, sx_goes_nil, sx_av_nil, sx_av_no, sx_av_yes, sx_ids0, sx_ids, sx_erase_nil, sx_erase, sx_joined_nil, sx_filter_nil, sx_natsub, sx_row, sx_plainK, sx_shl, sx_shr, sx_and, sx_or, sx_xor, sx_yield, Option.bind_some, Option.bind_none, cond_true, cond_false, Nat.reduceLT, Nat.reduceLeDiff, Nat.reduceEqDiff, Nat.reduceAdd, Nat.reduceSub, Nat.reduceMul, Int.reduceEq, Int.reduceLT, Int.reduceLE, decide_true, decide_false, Bool.and_self, Bool.and_true, Bool.true_and, Bool.and_false, Bool.false_and, Bool.not_true, Bool.not_false, Bool.or_true, Bool.true_or, Bool.or_false, Bool.false_or, ↓reduceIte, List.length_cons, List.length_nil, Nat.zero_add, Nat.add_zero, List.drop_succ_cons, List.take_succ_cons, List.drop_zero, List.take_zero, List.drop_nil, List.take_nil, List.getElem?_cons_zero, List.getElem?_cons_succ, splice, List.cons_append, List.nil_append, fillL, stE, Nat.sub_self, Int.reduceNeg, true_and, and_true, true_or, or_true, false_or, or_false, false_and, and_false, not_true_eq_false, not_false_eq_true, List.map_cons, List.map_nil, List.append_nil, Int.reduceToNat, Int.reducePow, Nat.reducePow, IntKind.bits, eqn_30, nqn_30, eqo_30, nqo_30, orcH0, sx_plainK, rMake, rParts, hOk, hq]
      exact ⟨_, rfl⟩
    · skip
      rw [sx_call]
      simp -implicitDefEqProofs only [Tryz.func107, Option.bind_some]
      rw [sx_fn _ _ _ _ _ _ _ _ rfl]
      simp -implicitDefEqProofs only [Tryz.f107]
      simp -implicitDefEqProofs only [sx_seq, sx_region, sx_drawn, sx_cond, sx_block, sx_scope, sx_exit, sx_ret, sx_skip, sx_label, sx_normal, sx_then, sx_then_ret, sx_then_exit, sx_blk, sx_blk_ret, sx_blk_exit, sx_condOf, sx_callThen, sx_callThen_ret, sx_take, sx_res, sx_res_nil, sx_res_tmp, sx_res_cell, sx_tuple1, sx_tuple0, sx_tuple2, sx_args_nil, sx_args, sx_ops, sx_ops_nil, sx_one, sx_guard, sx_guardOf, sx_guardOf_none, sx_yieldAt0, sx_yieldAt, sx_yieldDst, sx_yieldV, sx_oneGuard, sx_put, sx_frput, sx_frput_none, sx_get, sx_tmp, sx_const, sx_global, sx_func, sx_opdL_nil, sx_opdL, sx_opdO_none, sx_opdO, sx_opdP_nil, sx_opdP, sx_move, sx_assign, sx_pick, sx_pick2, sx_alloc, sx_box, sx_build, sx_buildSlice, sx_insert, sx_mapUpdate, sx_load, sx_store, sx_nilCheck, sx_bin, sx_un, sx_convert, sx_iface, sx_makeFunc, sx_makeMap, sx_makeSlice, sx_slice, sx_fieldAddr, sx_field, sx_indexAddr, sx_index, sx_lookup, sx_assert, sx_extract, sx_callOp, sx_callFunc, sx_callValue, sx_callV, sx_callV_yield, sx_builtin, sx_chk, sx_chk_no, sx_blt, sx_ble, sx_beq, sx_binInt, sx_add, sx_sub, sx_mul, sx_eql, sx_neq, sx_lss, sx_leq, sx_gtr, sx_geq, sx_not, sx_extract1, sx_newVar, sx_new, sx_set, sx_hget, sx_cells, sx_cellsIn, sx_stores, sx_storesIn, sx_one1, sx_cells_int, sx_cells_bool, sx_cells_str, sx_cells_ptr, sx_cells_slice, sx_cells_agg, sx_cells_iface, sx_cells_nil, sx_all_nil, sx_all, sx_oc_int, sx_oc_bool, sx_oc_str, sx_oc_ptr, sx_oc_slice, sx_oc_iface, sx_oc_nil, sx_p1_int, sx_p1_bool, sx_p1_str, sx_p1_nil, sx_p1_ptr, sx_dr_nil, sx_dr_one, sx_dr_guard, sx_go_yes, sx_go_no, sx_dthen, sx_dput, sx_goes_nil, sx_av_nil, sx_av_no, sx_av_yes, sx_ids0, sx_ids, sx_erase_nil, sx_erase, sx_joined_nil, sx_filter_nil, sx_natsub, sx_row, sx_plainK, sx_shl, sx_shr, sx_and, sx_or, sx_xor, sx_yield, Option.bind_some, Option.bind_none, cond_true, cond_false, Nat.reduceLT, Nat.reduceLeDiff, Nat.reduceEqDiff, Nat.reduceAdd, Nat.reduceSub, Nat.reduceMul, Int.reduceEq, Int.reduceLT, Int.reduceLE, decide_true, decide_false, Bool.and_self, Bool.and_true, Bool.true_and, Bool.and_false, Bool.false_and, Bool.not_true, Bool.not_false, Bool.or_true, Bool.true_or, Bool.or_false, Bool.false_or, ↓reduceIte, List.length_cons, List.length_nil, Nat.zero_add, Nat.add_zero, List.drop_succ_cons, List.take_succ_cons, List.drop_zero, List.take_zero, List.drop_nil, List.take_nil, List.getElem?_cons_zero, List.getElem?_cons_succ, splice, List.cons_append, List.nil_append, fillL, stE, Nat.sub_self, Int.reduceNeg, true_and, and_true, true_or, or_true, false_or, or_false, false_and, and_false, not_true_eq_false, not_false_eq_true, List.map_cons, List.map_nil, List.append_nil, Int.reduceToNat, Int.reducePow, Nat.reducePow, IntKind.bits, eqn_30, nqn_30, eqo_30, nqo_30, orcH0, sx_plainK, rMake, rParts, hOk, hq]
      exact ⟨_, rfl⟩
  · cases hh

noncomputable def orcH1 : Orc := addRow orcH0 107 (plainK rOk)
theorem orcH1_ok : OrcOk Tryz.prog orcH1 := addPlain_ok orcH0_ok rOk_ok orcH0_ok orcH0_st tz_mix tz_lt
theorem orcH1_st : OrcSt orcH1 := addPlain_st orcH0_st

def rKind : List Value → Option Value
  | [.int .i64 h] => some (.int .i64 (bif hOk h then hKind h else 0))
  | _ => none

set_option maxHeartbeats 8000000 in
theorem rKind_ok : PlainFn Tryz.prog 100000 orcH1 2 20 253 rKind := by
  refine ⟨⟨_, Tryz.func253, by kernel_rfl, by kernel_rfl⟩, ?_⟩
  intro vs v hh
  unfold rKind at hh
  split at hh
  · rename_i h
    simp only [Option.some.injEq] at hh
    subst hh
    refine ⟨rfl, rfl, ?_⟩
    cases hq : hOk h
    · skip
      rw [sx_call]
      simp -implicitDefEqProofs only [Tryz.func253, Option.bind_some]
      rw [sx_fn _ _ _ _ _ _ _ _ rfl]
      simp -implicitDefEqProofs only [Tryz.f253]
      simp -implicitDefEqProofs only [sx_seq, sx_region, sx_drawn, sx_cond, sx_block, sx_scope, sx_exit, sx_ret, sx_skip, sx_label, sx_normal, sx_then, sx_then_ret, sx_then_exit, sx_blk, sx_blk_ret, sx_blk_exit, sx_condOf, sx_callThen, sx_callThen_ret, sx_take, sx_res, sx_res_nil, sx_res_tmp, sx_res_cell, sx_tuple1, sx_tuple0, sx_tuple2, sx_args_nil, sx_args, sx_ops, sx_ops_nil, sx_one, sx_guard, sx_guardOf, sx_guardOf_none, sx_yieldAt0, sx_yieldAt, sx_yieldDst, sx_yieldV, sx_oneGuard, sx_put, sx_frput, sx_frput_none, sx_get, sx_tmp, sx_const, sx_global, sx_func, sx_opdL_nil, sx_opdL, sx_opdO_none, sx_opdO, sx_opdP_nil, sx_opdP, sx_move, sx_assign, sx_pick, sx_pick2, sx_alloc, sx_box, sx_build, sx_buildSlice, sx_insert, sx_mapUpdate, sx_load, sx_store, sx_nilCheck, sx_bin, sx_un, sx_convert, sx_iface, sx_makeFunc, sx_makeMap, sx_makeSlice, sx_slice, sx_fieldAddr, sx_field, sx_indexAddr, sx_index, sx_lookup, sx_assert, sx_extract, sx_callOp, sx_callFunc, sx_callValue, sx_callV, sx_callV_yield, sx_builtin, sx_chk, sx_chk_no, sx_blt, sx_ble, sx_beq, sx_binInt, sx_add, sx_sub, sx_mul, sx_eql, sx_neq, sx_lss, sx_leq, sx_gtr, sx_geq, sx_not, sx_extract1, sx_newVar, sx_new, sx_set, sx_hget, sx_cells, sx_cellsIn, sx_stores, sx_storesIn, sx_one1, sx_cells_int, sx_cells_bool, sx_cells_str, sx_cells_ptr, sx_cells_slice, sx_cells_agg, sx_cells_iface, sx_cells_nil, sx_all_nil, sx_all, sx_oc_int, sx_oc_bool, sx_oc_str, sx_oc_ptr, sx_oc_slice, sx_oc_iface, sx_oc_nil, sx_p1_int, sx_p1_bool, sx_p1_str, sx_p1_nil, sx_p1_ptr, sx_dr_nil, sx_dr_one, sx_dr_guard, sx_go_yes, sx_go_no, sx_dthen, sx_dput, sx_goes_nil, sx_av_nil, sx_av_no, sx_av_yes, sx_ids0, sx_ids, sx_erase_nil, sx_erase, sx_joined_nil, sx_filter_nil, sx_natsub, sx_row, sx_plainK, sx_shl, sx_shr, sx_and, sx_or, sx_xor, sx_yield, Option.bind_some, Option.bind_none, cond_true, cond_false, Nat.reduceLT, Nat.reduceLeDiff, Nat.reduceEqDiff, Nat.reduceAdd, Nat.reduceSub, Nat.reduceMul, Int.reduceEq, Int.reduceLT, Int.reduceLE, decide_true, decide_false, Bool.and_self, Bool.and_true, Bool.true_and, Bool.and_false, Bool.false_and, Bool.not_true, Bool.not_false, Bool.or_true, Bool.true_or, Bool.or_false, Bool.false_or, ↓reduceIte, List.length_cons, List.length_nil, Nat.zero_add, Nat.add_zero, List.drop_succ_cons, List.take_succ_cons, List.drop_zero, List.take_zero, List.drop_nil, List.take_nil, List.getElem?_cons_zero, List.getElem?_cons_succ, splice, List.cons_append, List.nil_append, fillL, stE, Nat.sub_self, Int.reduceNeg, true_and, and_true, true_or, or_true, false_or, or_false, false_and, and_false, not_true_eq_false, not_false_eq_true, List.map_cons, List.map_nil, List.append_nil, Int.reduceToNat, Int.reducePow, Nat.reducePow, IntKind.bits, orcH1, orcH0, sx_plainK, rOk, rParts, hq]
      exact ⟨_, rfl⟩
    · skip
      rw [sx_call]
      simp -implicitDefEqProofs only [Tryz.func253, Option.bind_some]
      rw [sx_fn _ _ _ _ _ _ _ _ rfl]
      simp -implicitDefEqProofs only [Tryz.f253]
      simp -implicitDefEqProofs only [sx_seq, sx_region, sx_drawn, sx_cond, sx_block, sx_scope, sx_exit, sx_ret, sx_skip, sx_label, sx_normal, sx_then, sx_then_ret, sx_then_exit, sx_blk, sx_blk_ret, sx_blk_exit, sx_condOf, sx_callThen, sx_callThen_ret, sx_take, sx_res, sx_res_nil, sx_res_tmp, sx_res_cell, sx_tuple1, sx_tuple0, sx_tuple2, sx_args_nil, sx_args, sx_ops, sx_ops_nil, sx_one, sx_guard, sx_guardOf, sx_guardOf_none, sx_yieldAt0, sx_yieldAt, sx_yieldDst, sx_yieldV, sx_oneGuard, sx_put, sx_frput, sx_frput_none, sx_get, sx_tmp, sx_const, sx_global, sx_func, sx_opdL_nil, sx_opdL, sx_opdO_none, sx_opdO, sx_opdP_nil, sx_opdP, sx_move, sx_assign, sx_pick, sx_pick2, sx_alloc, sx_box, sx_build, sx_buildSlice, sx_insert, sx_mapUpdate, sx_load, sx_store, sx_nilCheck, sx_bin, sx_un, sx_convert, sx_iface, sx_makeFunc, sx_makeMap, sx_makeSlice, sx_slice, sx_fieldAddr, sx_field, sx_indexAddr, sx_index, sx_lookup, sx_assert, sx_extract, sx_callOp, sx_callFunc, sx_callValue, sx_callV, sx_callV_yield, sx_builtin, sx_chk, sx_chk_no, sx_blt, sx_ble, sx_beq, sx_binInt, sx_add, sx_sub, sx_mul, sx_eql, sx_neq, sx_lss, sx_leq, sx_gtr, sx_geq, sx_not, sx_extract1, sx_newVar, sx_new, sx_set, sx_hget, sx_cells, sx_cellsIn, sx_stores, sx_storesIn, sx_one1, sx_cells_int, sx_cells_bool, sx_cells_str, sx_cells_ptr, sx_cells_slice, sx_cells_agg, sx_cells_iface, sx_cells_nil, sx_all_nil, sx_all, sx_oc_int, sx_oc_bool, sx_oc_str, sx_oc_ptr, sx_oc_slice, sx_oc_iface, sx_oc_nil, sx_p1_int, sx_p1_bool, sx_p1_str, sx_p1_nil, sx_p1_ptr, sx_dr_nil, sx_dr_one, sx_dr_guard, sx_go_yes, sx_go_no, sx_dthen, sx_dput, sx_goes_nil, sx_av_nil, sx_av_no, sx_av_yes, sx_ids0, sx_ids, sx_erase_nil, sx_erase, sx_joined_nil, sx_filter_nil, sx_natsub, sx_row, sx_plainK, sx_shl, sx_shr, sx_and, sx_or, sx_xor, sx_yield, Option.bind_some, Option.bind_none, cond_true, cond_false, Nat.reduceLT, Nat.reduceLeDiff, Nat.reduceEqDiff, Nat.reduceAdd, Nat.reduceSub, Nat.reduceMul, Int.reduceEq, Int.reduceLT, Int.reduceLE, decide_true, decide_false, Bool.and_self, Bool.and_true, Bool.true_and, Bool.and_false, Bool.false_and, Bool.not_true, Bool.not_false, Bool.or_true, Bool.true_or, Bool.or_false, Bool.false_or, ↓reduceIte, List.length_cons, List.length_nil, Nat.zero_add, Nat.add_zero, List.drop_succ_cons, List.take_succ_cons, List.drop_zero, List.take_zero, List.drop_nil, List.take_nil, List.getElem?_cons_zero, List.getElem?_cons_succ, splice, List.cons_append, List.nil_append, fillL, stE, Nat.sub_self, Int.reduceNeg, true_and, and_true, true_or, or_true, false_or, or_false, false_and, and_false, not_true_eq_false, not_false_eq_true, List.map_cons, List.map_nil, List.append_nil, Int.reduceToNat, Int.reducePow, Nat.reducePow, IntKind.bits, orcH1, orcH0, sx_plainK, rOk, rParts, hq]
      exact ⟨_, rfl⟩
  · cases hh

def rSlot : List Value → Option Value
  | [.int .i64 h] => some (.int .i64 (bif hOk h then hSlot h else (-1)))
  | _ => none

set_option maxHeartbeats 8000000 in
theorem rSlot_ok : PlainFn Tryz.prog 100000 orcH1 2 20 219 rSlot := by
  refine ⟨⟨_, Tryz.func219, by kernel_rfl, by kernel_rfl⟩, ?_⟩
  intro vs v hh
  unfold rSlot at hh
  split at hh
  · rename_i h
    simp only [Option.some.injEq] at hh
    subst hh
    refine ⟨rfl, rfl, ?_⟩
    cases hq : hOk h
    · skip
      rw [sx_call]
      simp -implicitDefEqProofs only [Tryz.func219, Option.bind_some]
      rw [sx_fn _ _ _ _ _ _ _ _ rfl]
      simp -implicitDefEqProofs only [Tryz.f219]
      simp -implicitDefEqProofs only [sx_seq, sx_region, sx_drawn, sx_cond, sx_block, sx_scope, sx_exit, sx_ret, sx_skip, sx_label, sx_normal, sx_then, sx_then_ret, sx_then_exit, sx_blk, sx_blk_ret, sx_blk_exit, sx_condOf, sx_callThen, sx_callThen_ret, sx_take, sx_res, sx_res_nil, sx_res_tmp, sx_res_cell, sx_tuple1, sx_tuple0, sx_tuple2, sx_args_nil, sx_args, sx_ops, sx_ops_nil, sx_one, sx_guard, sx_guardOf, sx_guardOf_none, sx_yieldAt0, sx_yieldAt, sx_yieldDst, sx_yieldV, sx_oneGuard, sx_put, sx_frput, sx_frput_none, sx_get, sx_tmp, sx_const, sx_global, sx_func, sx_opdL_nil, sx_opdL, sx_opdO_none, sx_opdO, sx_opdP_nil, sx_opdP, sx_move, sx_assign, sx_pick, sx_pick2, sx_alloc, sx_box, sx_build, sx_buildSlice, sx_insert, sx_mapUpdate, sx_load, sx_store, sx_nilCheck, sx_bin, sx_un, sx_convert, sx_iface, sx_makeFunc, sx_makeMap, sx_makeSlice, sx_slice, sx_fieldAddr, sx_field, sx_indexAddr, sx_index, sx_lookup, sx_assert, sx_extract, sx_callOp, sx_callFunc, sx_callValue, sx_callV, sx_callV_yield, sx_builtin, sx_chk, sx_chk_no, sx_blt, sx_ble, sx_beq, sx_binInt, sx_add, sx_sub, sx_mul, sx_eql, sx_neq, sx_lss, sx_leq, sx_gtr, sx_geq, sx_not, sx_extract1, sx_newVar, sx_new, sx_set, sx_hget, sx_cells, sx_cellsIn, sx_stores, sx_storesIn, sx_one1, sx_cells_int, sx_cells_bool, sx_cells_str, sx_cells_ptr, sx_cells_slice, sx_cells_agg, sx_cells_iface, sx_cells_nil, sx_all_nil, sx_all, sx_oc_int, sx_oc_bool, sx_oc_str, sx_oc_ptr, sx_oc_slice, sx_oc_iface, sx_oc_nil, sx_p1_int, sx_p1_bool, sx_p1_str, sx_p1_nil, sx_p1_ptr, sx_dr_nil, sx_dr_one, sx_dr_guard, sx_go_yes, sx_go_no, sx_dthen, sx_dput, sx_goes_nil, sx_av_nil, sx_av_no, sx_av_yes, sx_ids0, sx_ids, sx_erase_nil, sx_erase, sx_joined_nil, sx_filter_nil, sx_natsub, sx_row, sx_plainK, sx_shl, sx_shr, sx_and, sx_or, sx_xor, sx_yield, Option.bind_some, Option.bind_none, cond_true, cond_false, Nat.reduceLT, Nat.reduceLeDiff, Nat.reduceEqDiff, Nat.reduceAdd, Nat.reduceSub, Nat.reduceMul, Int.reduceEq, Int.reduceLT, Int.reduceLE, decide_true, decide_false, Bool.and_self, Bool.and_true, Bool.true_and, Bool.and_false, Bool.false_and, Bool.not_true, Bool.not_false, Bool.or_true, Bool.true_or, Bool.or_false, Bool.false_or, ↓reduceIte, List.length_cons, List.length_nil, Nat.zero_add, Nat.add_zero, List.drop_succ_cons, List.take_succ_cons, List.drop_zero, List.take_zero, List.drop_nil, List.take_nil, List.getElem?_cons_zero, List.getElem?_cons_succ, splice, List.cons_append, List.nil_append, fillL, stE, Nat.sub_self, Int.reduceNeg, true_and, and_true, true_or, or_true, false_or, or_false, false_and, and_false, not_true_eq_false, not_false_eq_true, List.map_cons, List.map_nil, List.append_nil, Int.reduceToNat, Int.reducePow, Nat.reducePow, IntKind.bits, orcH1, orcH0, sx_plainK, rOk, rParts, hq]
      exact ⟨_, rfl⟩
    · skip
      rw [sx_call]
      simp -implicitDefEqProofs only [Tryz.func219, Option.bind_some]
      rw [sx_fn _ _ _ _ _ _ _ _ rfl]
      simp -implicitDefEqProofs only [Tryz.f219]
      simp -implicitDefEqProofs only [sx_seq, sx_region, sx_drawn, sx_cond, sx_block, sx_scope, sx_exit, sx_ret, sx_skip, sx_label, sx_normal, sx_then, sx_then_ret, sx_then_exit, sx_blk, sx_blk_ret, sx_blk_exit, sx_condOf, sx_callThen, sx_callThen_ret, sx_take, sx_res, sx_res_nil, sx_res_tmp, sx_res_cell, sx_tuple1, sx_tuple0, sx_tuple2, sx_args_nil, sx_args, sx_ops, sx_ops_nil, sx_one, sx_guard, sx_guardOf, sx_guardOf_none, sx_yieldAt0, sx_yieldAt, sx_yieldDst, sx_yieldV, sx_oneGuard, sx_put, sx_frput, sx_frput_none, sx_get, sx_tmp, sx_const, sx_global, sx_func, sx_opdL_nil, sx_opdL, sx_opdO_none, sx_opdO, sx_opdP_nil, sx_opdP, sx_move, sx_assign, sx_pick, sx_pick2, sx_alloc, sx_box, sx_build, sx_buildSlice, sx_insert, sx_mapUpdate, sx_load, sx_store, sx_nilCheck, sx_bin, sx_un, sx_convert, sx_iface, sx_makeFunc, sx_makeMap, sx_makeSlice, sx_slice, sx_fieldAddr, sx_field, sx_indexAddr, sx_index, sx_lookup, sx_assert, sx_extract, sx_callOp, sx_callFunc, sx_callValue, sx_callV, sx_callV_yield, sx_builtin, sx_chk, sx_chk_no, sx_blt, sx_ble, sx_beq, sx_binInt, sx_add, sx_sub, sx_mul, sx_eql, sx_neq, sx_lss, sx_leq, sx_gtr, sx_geq, sx_not, sx_extract1, sx_newVar, sx_new, sx_set, sx_hget, sx_cells, sx_cellsIn, sx_stores, sx_storesIn, sx_one1, sx_cells_int, sx_cells_bool, sx_cells_str, sx_cells_ptr, sx_cells_slice, sx_cells_agg, sx_cells_iface, sx_cells_nil, sx_all_nil, sx_all, sx_oc_int, sx_oc_bool, sx_oc_str, sx_oc_ptr, sx_oc_slice, sx_oc_iface, sx_oc_nil, sx_p1_int, sx_p1_bool, sx_p1_str, sx_p1_nil, sx_p1_ptr, sx_dr_nil, sx_dr_one, sx_dr_guard, sx_go_yes, sx_go_no, sx_dthen, sx_dput, sx_goes_nil, sx_av_nil, sx_av_no, sx_av_yes, sx_ids0, sx_ids, sx_erase_nil, sx_erase, sx_joined_nil, sx_filter_nil, sx_natsub, sx_row, sx_plainK, sx_shl, sx_shr, sx_and, sx_or, sx_xor, sx_yield, Option.bind_some, Option.bind_none, cond_true, cond_false, Nat.reduceLT, Nat.reduceLeDiff, Nat.reduceEqDiff, Nat.reduceAdd, Nat.reduceSub, Nat.reduceMul, Int.reduceEq, Int.reduceLT, Int.reduceLE, decide_true, decide_false, Bool.and_self, Bool.and_true, Bool.true_and, Bool.and_false, Bool.false_and, Bool.not_true, Bool.not_false, Bool.or_true, Bool.true_or, Bool.or_false, Bool.false_or, ↓reduceIte, List.length_cons, List.length_nil, Nat.zero_add, Nat.add_zero, List.drop_succ_cons, List.take_succ_cons, List.drop_zero, List.take_zero, List.drop_nil, List.take_nil, List.getElem?_cons_zero, List.getElem?_cons_succ, splice, List.cons_append, List.nil_append, fillL, stE, Nat.sub_self, Int.reduceNeg, true_and, and_true, true_or, or_true, false_or, or_false, false_and, and_false, not_true_eq_false, not_false_eq_true, List.map_cons, List.map_nil, List.append_nil, Int.reduceToNat, Int.reducePow, Nat.reducePow, IntKind.bits, orcH1, orcH0, sx_plainK, rOk, rParts, hq]
      exact ⟨_, rfl⟩
  · cases hh

def rGen : List Value → Option Value
  | [.int .i64 h] => some (.int .i64 (bif hOk h then hGen h else 0))
  | _ => none

set_option maxHeartbeats 8000000 in
theorem rGen_ok : PlainFn Tryz.prog 100000 orcH1 2 20 254 rGen := by
  refine ⟨⟨_, Tryz.func254, by kernel_rfl, by kernel_rfl⟩, ?_⟩
  intro vs v hh
  unfold rGen at hh
  split at hh
  · rename_i h
    simp only [Option.some.injEq] at hh
    subst hh
    refine ⟨rfl, rfl, ?_⟩
    cases hq : hOk h
    · skip
      rw [sx_call]
      simp -implicitDefEqProofs only [Tryz.func254, Option.bind_some]
      rw [sx_fn _ _ _ _ _ _ _ _ rfl]
      simp -implicitDefEqProofs only [Tryz.f254]
      simp -implicitDefEqProofs only [sx_seq, sx_region, sx_drawn, sx_cond, sx_block, sx_scope, sx_exit, sx_ret, sx_skip, sx_label, sx_normal, sx_then, sx_then_ret, sx_then_exit, sx_blk, sx_blk_ret, sx_blk_exit, sx_condOf, sx_callThen, sx_callThen_ret, sx_take, sx_res, sx_res_nil, sx_res_tmp, sx_res_cell, sx_tuple1, sx_tuple0, sx_tuple2, sx_args_nil, sx_args, sx_ops, sx_ops_nil, sx_one, sx_guard, sx_guardOf, sx_guardOf_none, sx_yieldAt0, sx_yieldAt, sx_yieldDst, sx_yieldV, sx_oneGuard, sx_put, sx_frput, sx_frput_none, sx_get, sx_tmp, sx_const, sx_global, sx_func, sx_opdL_nil, sx_opdL, sx_opdO_none, sx_opdO, sx_opdP_nil, sx_opdP, sx_move, sx_assign, sx_pick, sx_pick2, sx_alloc, sx_box, sx_build, sx_buildSlice, sx_insert, sx_mapUpdate, sx_load, sx_store, sx_nilCheck, sx_bin, sx_un, sx_convert, sx_iface, sx_makeFunc, sx_makeMap, sx_makeSlice, sx_slice, sx_fieldAddr, sx_field, sx_indexAddr, sx_index, sx_lookup, sx_assert, sx_extract, sx_callOp, sx_callFunc, sx_callValue, sx_callV, sx_callV_yield, sx_builtin, sx_chk, sx_chk_no, sx_blt, sx_ble, sx_beq, sx_binInt, sx_add, sx_sub, sx_mul, sx_eql, sx_neq, sx_lss, sx_leq, sx_gtr, sx_geq, sx_not, sx_extract1, sx_newVar, sx_new, sx_set, sx_hget, sx_cells, sx_cellsIn, sx_stores, sx_storesIn, sx_one1, sx_cells_int, sx_cells_bool, sx_cells_str, sx_cells_ptr, sx_cells_slice, sx_cells_agg, sx_cells_iface, sx_cells_nil, sx_all_nil, sx_all, sx_oc_int, sx_oc_bool, sx_oc_str, sx_oc_ptr, sx_oc_slice, sx_oc_iface, sx_oc_nil, sx_p1_int, sx_p1_bool, sx_p1_str, sx_p1_nil, sx_p1_ptr, sx_dr_nil, sx_dr_one, sx_dr_guard, sx_go_yes, sx_go_no, sx_dthen, sx_dput, sx_goes_nil, sx_av_nil, sx_av_no, sx_av_yes, sx_ids0, sx_ids, sx_erase_nil, sx_erase, sx_joined_nil, sx_filter_nil, sx_natsub, sx_row, sx_plainK, sx_shl, sx_shr, sx_and, sx_or, sx_xor, sx_yield, Option.bind_some, Option.bind_none, cond_true, cond_false, Nat.reduceLT, Nat.reduceLeDiff, Nat.reduceEqDiff, Nat.reduceAdd, Nat.reduceSub, Nat.reduceMul, Int.reduceEq, Int.reduceLT, Int.reduceLE, decide_true, decide_false, Bool.and_self, Bool.and_true, Bool.true_and, Bool.and_false, Bool.false_and, Bool.not_true, Bool.not_false, Bool.or_true, Bool.true_or, Bool.or_false, Bool.false_or, ↓reduceIte, List.length_cons, List.length_nil, Nat.zero_add, Nat.add_zero, List.drop_succ_cons, List.take_succ_cons, List.drop_zero, List.take_zero, List.drop_nil, List.take_nil, List.getElem?_cons_zero, List.getElem?_cons_succ, splice, List.cons_append, List.nil_append, fillL, stE, Nat.sub_self, Int.reduceNeg, true_and, and_true, true_or, or_true, false_or, or_false, false_and, and_false, not_true_eq_false, not_false_eq_true, List.map_cons, List.map_nil, List.append_nil, Int.reduceToNat, Int.reducePow, Nat.reducePow, IntKind.bits, orcH1, orcH0, sx_plainK, rOk, rParts, hq]
      exact ⟨_, rfl⟩
    · skip
      rw [sx_call]
      simp -implicitDefEqProofs only [Tryz.func254, Option.bind_some]
      rw [sx_fn _ _ _ _ _ _ _ _ rfl]
      simp -implicitDefEqProofs only [Tryz.f254]
      simp -implicitDefEqProofs only [sx_seq, sx_region, sx_drawn, sx_cond, sx_block, sx_scope, sx_exit, sx_ret, sx_skip, sx_label, sx_normal, sx_then, sx_then_ret, sx_then_exit, sx_blk, sx_blk_ret, sx_blk_exit, sx_condOf, sx_callThen, sx_callThen_ret, sx_take, sx_res, sx_res_nil, sx_res_tmp, sx_res_cell, sx_tuple1, sx_tuple0, sx_tuple2, sx_args_nil, sx_args, sx_ops, sx_ops_nil, sx_one, sx_guard, sx_guardOf, sx_guardOf_none, sx_yieldAt0, sx_yieldAt, sx_yieldDst, sx_yieldV, sx_oneGuard, sx_put, sx_frput, sx_frput_none, sx_get, sx_tmp, sx_const, sx_global, sx_func, sx_opdL_nil, sx_opdL, sx_opdO_none, sx_opdO, sx_opdP_nil, sx_opdP, sx_move, sx_assign, sx_pick, sx_pick2, sx_alloc, sx_box, sx_build, sx_buildSlice, sx_insert, sx_mapUpdate, sx_load, sx_store, sx_nilCheck, sx_bin, sx_un, sx_convert, sx_iface, sx_makeFunc, sx_makeMap, sx_makeSlice, sx_slice, sx_fieldAddr, sx_field, sx_indexAddr, sx_index, sx_lookup, sx_assert, sx_extract, sx_callOp, sx_callFunc, sx_callValue, sx_callV, sx_callV_yield, sx_builtin, sx_chk, sx_chk_no, sx_blt, sx_ble, sx_beq, sx_binInt, sx_add, sx_sub, sx_mul, sx_eql, sx_neq, sx_lss, sx_leq, sx_gtr, sx_geq, sx_not, sx_extract1, sx_newVar, sx_new, sx_set, sx_hget, sx_cells, sx_cellsIn, sx_stores, sx_storesIn, sx_one1, sx_cells_int, sx_cells_bool, sx_cells_str, sx_cells_ptr, sx_cells_slice, sx_cells_agg, sx_cells_iface, sx_cells_nil, sx_all_nil, sx_all, sx_oc_int, sx_oc_bool, sx_oc_str, sx_oc_ptr, sx_oc_slice, sx_oc_iface, sx_oc_nil, sx_p1_int, sx_p1_bool, sx_p1_str, sx_p1_nil, sx_p1_ptr, sx_dr_nil, sx_dr_one, sx_dr_guard, sx_go_yes, sx_go_no, sx_dthen, sx_dput, sx_goes_nil, sx_av_nil, sx_av_no, sx_av_yes, sx_ids0, sx_ids, sx_erase_nil, sx_erase, sx_joined_nil, sx_filter_nil, sx_natsub, sx_row, sx_plainK, sx_shl, sx_shr, sx_and, sx_or, sx_xor, sx_yield, Option.bind_some, Option.bind_none, cond_true, cond_false, Nat.reduceLT, Nat.reduceLeDiff, Nat.reduceEqDiff, Nat.reduceAdd, Nat.reduceSub, Nat.reduceMul, Int.reduceEq, Int.reduceLT, Int.reduceLE, decide_true, decide_false, Bool.and_self, Bool.and_true, Bool.true_and, Bool.and_false, Bool.false_and, Bool.not_true, Bool.not_false, Bool.or_true, Bool.true_or, Bool.or_false, Bool.false_or, ↓reduceIte, List.length_cons, List.length_nil, Nat.zero_add, Nat.add_zero, List.drop_succ_cons, List.take_succ_cons, List.drop_zero, List.take_zero, List.drop_nil, List.take_nil, List.getElem?_cons_zero, List.getElem?_cons_succ, splice, List.cons_append, List.nil_append, fillL, stE, Nat.sub_self, Int.reduceNeg, true_and, and_true, true_or, or_true, false_or, or_false, false_and, and_false, not_true_eq_false, not_false_eq_true, List.map_cons, List.map_nil, List.append_nil, Int.reduceToNat, Int.reducePow, Nat.reducePow, IntKind.bits, orcH1, orcH0, sx_plainK, rOk, rParts, hq]
      exact ⟨_, rfl⟩
  · cases hh

noncomputable def orcH : Orc := addRow (addRow (addRow orcH1 253 (plainK rKind)) 219 (plainK rSlot)) 254 (plainK rGen)
theorem orcH_ok : OrcOk Tryz.prog orcH := addPlain_ok (addPlain_ok (addPlain_ok orcH1_ok rKind_ok orcH1_ok orcH1_st tz_mix tz_lt) rSlot_ok orcH1_ok orcH1_st tz_mix tz_lt) rGen_ok orcH1_ok orcH1_st tz_mix tz_lt
theorem orcH_st : OrcSt orcH := addPlain_st (addPlain_st (addPlain_st orcH1_st))
end Go.Ev
