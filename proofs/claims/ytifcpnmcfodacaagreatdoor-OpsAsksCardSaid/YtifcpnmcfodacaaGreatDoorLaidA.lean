/- What the rows' condition on the listed variables gives: the rows of the evaluator's start; and a world that meets it. No condition. -/
import Derived.Test.YtifcpnmcfodacaaGreatDoorCards
import Derived.Test.YtifcpnmcfodacaaGreatDoorTie
import Derived.Test.YtifcpnmcfodacaaGreatDoorWorksB
import Derived.Test.YtifcpnmcfodacaaGreatDoorFast
import Derived.WalkKit
import Derived.ProofKit
import Derived.LaidHandle
import Derived.Lay
import Derived.Lib.LaidU8
import Derived.Lib.LaidTab
import Derived.LaidLaws

namespace Go.Ev
open Go Go.Proofs Go.Proofs.YtifcpnmcfodacaaGreatDoor
set_option maxRecDepth 100000

abbrev laid8 : List (String × DataW Unit) := Rows.opsAsksRow.laid
noncomputable def laid7 : List (String × DataW Unit) := laid8.filter fun x => x.2.handleName?.isNone

theorem laid8_split {W : World} (h : laidMetH Tryz.prog laid8 W) : laidMet Tryz.prog laid7 W ∧ handlesMet Tryz.prog [("errors.errorType", Rows.laid_errors_errorType)] W := h

theorem block_of_var {P : Program} {W : World} {name : String} {g : Nat} {cs : Array Value} (hg : P.globalNamed name = some g) (h : W.var? P name = some cs) : ∃ t fz, W.heap[g]? = some (.cells cs t fz) := by
  unfold World.var? at h
  rw [hg, Option.bind_some] at h
  split at h
  · rename_i c t fz hh
    simp only [Option.some.injEq] at h
    subst h
    exact ⟨t, fz, hh⟩
  · cases h

theorem tab_of_reads {W : World} {name : String} {g t e n : Nat} {k : IntKind} {zs : List Int} (hg : Tryz.prog.globalNamed name = some g) (hty : (Tryz.prog.globals[g]?).map (·.type) = some t) (ht : Tryz.prog.underlying t = some (.array n e))
    (he : Tryz.prog.underlying e = some (.int k)) (hce : Tryz.prog.cellsOf e = 1) (hct : Tryz.prog.cellsOf t = n) (h : Lib.VarReads Tryz.prog W name (Lib.tabData k zs)) : ∃ t' fz, W.heap[g]? = some (.cells (zs.map fun z => Value.int k z).toArray t' fz) := by
  obtain ⟨g', t', cs, fuel, p, hg', ht', hvar, hd⟩ := h
  obtain rfl := Option.some.inj (hg.symm.trans hg')
  obtain rfl := Option.some.inj (hty.symm.trans ht')
  have := Lib.cells_of_tab ht he hce hct hd
  obtain ⟨t2, fz, hb⟩ := block_of_var hg hvar
  refine ⟨t2, fz, ?_⟩
  rw [hb, ← this]

theorem tz_oneRow : ((List.range 390).filter fun t => Tryz.prog.rowNamed t [101, 114, 114, 111, 114]) = [30] := by kernel_rfl
theorem tz_size : Tryz.prog.types.size = 390 := by kernel_rfl
theorem tz_rt : (Tryz.prog.cutTypes.find? (·.1 == "internal/reflectlite.rtype")).map (·.2) = some 269 := by kernel_rfl

theorem errType_of {W : World} (h : handlesMet Tryz.prog [("errors.errorType", Rows.laid_errors_errorType)] W) : ∃ t fz, W.heap[3]? = some (.cells #[.iface 269 (.agg #[typeHandle Tryz.prog 30])] t fz) := by
  obtain ⟨name, u, ty, e1, e2, e3, e4, e5⟩ := h _ (List.mem_singleton.2 rfl)
  have en : name = [101, 114, 114, 111, 114] := (Option.some.inj e1).symm
  subst en
  obtain rfl := Option.some.inj (tz_rt.symm.trans e2)
  have hm : ty ∈ (List.range 390).filter fun t => Tryz.prog.rowNamed t [101, 114, 114, 111, 114] := List.mem_filter.2 ⟨List.mem_range.2 (by rw [← tz_size]; exact e3), e4⟩
  rw [tz_oneRow] at hm
  obtain rfl := List.mem_singleton.1 hm
  exact block_of_var (by kernel_rfl) e5

theorem hr_of_laid {W : World} (h : laidMetH Tryz.prog laid8 W) : ∃ L : Laid, HR Tryz.prog (bm0 Tryz.prog) (h0 L).get W := by
  obtain ⟨hL, hH⟩ := laid8_split h
  have m7 : ("math/bits.deBruijn32tab", (Rows.laid_math_bits_deBruijn32tab : DataW Unit)) ∈ laid7 := List.Mem.head _
  have m8 : ("math/bits.deBruijn64tab", (Rows.laid_math_bits_deBruijn64tab : DataW Unit)) ∈ laid7 := .tail _ (.head _)
  have m4 : ("internal/strconv.uint64pow10", (Rows.laid_internal_strconv_uint64pow10 : DataW Unit)) ∈ laid7 := .tail _ (.tail _ (.head _))
  obtain ⟨t3, f3, h3⟩ := errType_of hH
  obtain ⟨t7, f7, h7⟩ := tab_of_reads (g := 7) (t := 346) (e := 5) (n := 32) (k := .u8) (zs := [0, 1, 28, 2, 29, 14, 24, 3, 30, 22, 20, 15, 25, 17, 4, 8, 31, 27, 13, 23, 21, 19, 16, 7, 26, 12, 18, 6, 11, 5, 10, 9]) (by kernel_rfl) (by kernel_rfl) (by kernel_rfl) (by kernel_rfl) (by kernel_rfl) (by kernel_rfl) (Lib.laidMet.reads hL m7)
  obtain ⟨t8, f8, h8⟩ := tab_of_reads (g := 8) (t := 347) (e := 5) (n := 64) (k := .u8) (zs := [0, 1, 56, 2, 57, 49, 28, 3, 61, 58, 42, 50, 38, 29, 17, 4, 62, 47, 59, 36, 45, 43, 51, 22, 53, 39, 33, 30, 24, 18, 12, 5, 63, 55, 48, 27, 60, 41, 37, 16, 46, 35, 44, 21, 52, 32, 23, 11, 54, 26, 40, 15, 34, 20, 31, 10, 25, 14, 19, 9, 13, 8, 7, 6]) (by kernel_rfl) (by kernel_rfl) (by kernel_rfl) (by kernel_rfl) (by kernel_rfl) (by kernel_rfl) (Lib.laidMet.reads hL m8)
  obtain ⟨t4, f4, h4⟩ := tab_of_reads (g := 4) (t := 265) (e := 201) (n := 20) (k := .u64) (zs := [1, 10, 100, 1000, 10000, 100000, 1000000, 10000000, 100000000, 1000000000, 10000000000, 100000000000, 1000000000000, 10000000000000, 100000000000000, 1000000000000000, 10000000000000000, 100000000000000000, 1000000000000000000, 10000000000000000000]) (by kernel_rfl) (by kernel_rfl) (by kernel_rfl) (by kernel_rfl) (by kernel_rfl) (by kernel_rfl) (Lib.laidMet.reads hL m4)
  have hg : bm0 Tryz.prog Tryz.prog.globals.size = some ⟨Tryz.prog.globals.size, false, 0, 0⟩ := if_pos (Nat.le_refl _)
  refine ⟨⟨t3, t4, t7, t8, f3, f4, f7, f8⟩, ?_, ?_, fun g hg => if_pos hg⟩
  · intro b o hb
    have hs : Tryz.prog.globals.size = 9 := by kernel_rfl
    rcases h0_cases hb with ⟨rfl, rfl⟩ | ⟨rfl, rfl⟩ | ⟨rfl, rfl⟩ | ⟨rfl, rfl⟩
    · exact ⟨_, _, if_pos (by rw [hs]; decide), h8, .ro (c := tab8) t8 f8 (VRL.refl_plain _ (by kernel_rfl))⟩
    · exact ⟨_, _, if_pos (by rw [hs]; decide), h7, .ro (c := tab7) t7 f7 (VRL.refl_plain _ (by kernel_rfl))⟩
    · exact ⟨_, _, if_pos (by rw [hs]; decide), h4, .ro (c := tab4) t4 f4 (VRL.refl_plain _ (by kernel_rfl))⟩
    · exact ⟨_, _, if_pos (by rw [hs]; decide), h3, .ro (c := tab3) t3 f3 (.cons (.iface 269 (.agg (.cons (.ptr 30 hg) .nil))) .nil)⟩
  · intro b c o o' i j hb hc hi hj e
    have hs : Tryz.prog.globals.size = 9 := by kernel_rfl
    have h1 := h0_low _ b (by rw [hb]; simp)
    have h2 := h0_low _ c (by rw [hc]; simp)
    have e1 : bm0 Tryz.prog b = some ⟨b, false, 0, 0⟩ := if_pos (by omega)
    have e2 : bm0 Tryz.prog c = some ⟨c, false, 0, 0⟩ := if_pos (by omega)
    rw [hi] at e1; rw [hj] at e2
    cases e1; cases e2
    exact e

/-! ### A world that meets the condition -/
noncomputable def baseWorld (os : Os) : World :=
  let w0 := World.holding Tryz.prog os ⟨#[], #[], []⟩
  { w0 with heap := w0.heap.modify 3 fun
      | .cells _ t frozen => .cells #[.iface 269 (.agg #[typeHandle Tryz.prog 30])] t frozen
      | o => o }
noncomputable def witWorld (os : Os) : World := (baseWorld os).layVars Tryz.prog laid7
theorem witWorld_os (os : Os) : (witWorld os).os = os := World.layVars_os _ _ _
theorem wit_fits (os : Os) : (baseWorld os).layFits Tryz.prog laid7 [] = true := by kernel_rfl
theorem wit_ifaces (os : Os) : (baseWorld os).layIfaces Tryz.prog laid7 (witWorld os) = true := by kernel_rfl
theorem wit_met7 (os : Os) : laidMet Tryz.prog laid7 (witWorld os) := by
  have e1 : (laid7.filter fun x => (laid7.map (·.1)).contains x.1) = laid7 := List.filter_eq_self.2 fun x hx => List.contains_iff_mem.2 (List.mem_map.2 ⟨x, hx, rfl⟩)
  have e2 : (laid7.filter fun x => !(laid7.map (·.1)).contains x.1) = [] := List.filter_eq_nil_iff.2 fun x hx => by rw [List.contains_iff_mem.2 (List.mem_map.2 ⟨x, hx, rfl⟩)]; simp
  exact laidMet_layVars (w0 := baseWorld os) (laid7.map (·.1)) [] (by rw [e1]; rfl) (by rw [e1]; exact wit_fits os) (by rw [e1]; exact wit_ifaces os) (by rw [e2]; exact LaidIn.none)
theorem wit_handle (os : Os) : (laid8.filter fun x => x.2.handleName?.isSome).all (handleAtB Tryz.prog (witWorld os)) = true := by kernel_rfl
theorem wit_met (os : Os) : laidMetH Tryz.prog laid8 (witWorld os) := laidMetH_of_parts (wit_met7 os) (wit_handle os)
end Go.Ev
