/- OpsAsks of layer 18: for every operation the law returns true and leaves its argument as it read. No condition beyond the listed variables (laid), which the card ties to the program's text. -/
import Derived.Test.YtifcpnmcfodacaaGreatDoorAsks
import Derived.Test.YtifcpnmcfodacaaGreatDoorAsksW
import Derived.Below
import Derived.ChangeSame
import Derived.Carry
import Derived.OpenShut
import Derived.ChangeVars
import Derived.JoinedOf
import Derived.RowKit
import Derived.SevenTiedAt

namespace Go.Ev
open Go Go.Proofs Go.Proofs.YtifcpnmcfodacaaGreatDoor Go.RowKit Go.WideShapes Go.ChangeShapes
set_option maxRecDepth 100000

section
variable {H : Type} {enc : TypeId × Value → H} {P : Program}
/-- The row's last step where of the world behind the call 'Below' is known alone. -/
theorem post_of_below {f : Func} {s : ChangeSpec} {apart fresh handsOn again : Bool} {W W' : World} {args : Array Value} {v : Value} {ds gs : List (DataW H)} {before pa pv : List MemPlace}
    (hW : DataW.Whole enc P f.params.toList s.vars apart W args.toList ds gs before)
    (hres : ∀ (b : Nat) (sp : Nat → Bool) (hd : Bool), DataW.TrodAll enc P W' b sp hd f.resultTypes.toList (v.resultList f.resultTypes.size) (s.fn H (ds ++ gs)).results [])
    (hargs : ∀ sp : Nat → Bool, (∀ p ∈ before, sp p.block = true) → DataW.TrodAll enc P W' 0 sp true f.params.toList args.toList (s.fn H (ds ++ gs)).args pa)
    (hvars : ∀ sp : Nat → Bool, (∀ p ∈ before, sp p.block = true) → DataW.TrodVars enc P W' sp s.vars (s.fn H (ds ++ gs)).vars pv)
    (hps : before = pa ++ pv) (hb : Below W.heap.size W W')
    (hok : ∀ (j : Nat) (t : TypeId) (r : Value), f.resultTypes[j]? = some t → (v.resultList f.resultTypes.size)[j]? = some r → Value.okWide P W' .any 0 t r) :
    s.post enc P f apart fresh handsOn again W args v W' := by
  have hlt : ∀ p ∈ before, p.block < W.heap.size := fun p hp => hW.lt p hp
  have hold : ∀ p ∈ before, (fun b => decide (b < W.heap.size)) p.block = true := fun p hp => by simpa using hlt p hp
  refine ⟨ds, gs, before, [], pa, pv, hW, hres _ _ _, hargs _ hold, hvars _ hold, World.keptBut_mono (fun p hp => ⟨hp, ?_⟩) (hb.frame (· ∈ before)), fun _ => ?_⟩
  · rw [hps, List.mem_append] at hp
    exact Or.inr hp
  · obtain ⟨_, _, _, _, _, hz, hn⟩ := hW
    refine ⟨hok, _, _, ([] ++ pa) ++ pv, ⟨[] ++ pa, pv, trodAll_append (hargs _ (fun _ _ => rfl)) (hres _ _ _), hvars _ (fun _ _ => rfl), rfl, ?_, ?_⟩, ?_⟩
    · intro b off hp
      have hin : MemPlace.cell b off ∈ before := by rw [hps]; simpa using hp
      rw [hb.frozen (hlt _ hin)]
      exact hz b off hin
    · intro ha
      have := hn ha
      rw [hps] at this
      simpa using this
    · intro p hp _
      rw [hps]
      simpa using hp
end

/-- An operation's ten cells are whole numbers. -/
theorem open_op {W : World} {base : Nat} {v : Value} (h : Value.okWide Tryz.prog W .any base 28 v) : ∃ k a1 a2 a3 a4 a5 a6 a7 a8 n : Int, v = .agg ⟨[.int .i64 k, .int .i64 a1, .int .i64 a2, .int .i64 a3, .int .i64 a4, .int .i64 a5, .int .i64 a6, .int .i64 a7, .int .i64 a8, .int .i64 n]⟩ := by
  unfold Value.okWide at h
  rw [Tryz.underlying28] at h
  obtain ⟨cs, rfl, hs, ts, hts, _, hall⟩ := h
  have hc : Tryz.prog.cellsOf 28 = 10 := by kernel_rfl
  have ht : Tryz.prog.cellTypes Tryz.prog.depth 28 = some [3, 22, 22, 3, 3, 3, 3, 3, 3, 3] := by kernel_rfl
  obtain rfl := Option.some.inj (ht.symm.trans hts)
  have u3 : Tryz.prog.underlying 3 = some (.int .i64) := by kernel_rfl
  have u22 : Tryz.prog.underlying 22 = some (.int .i64) := by kernel_rfl
  have key : ∀ (i : Nat) (x : Value), cs[i]? = some x → ∃ n, x = .int .i64 n := by
    intro i x hx
    obtain ⟨u, hu, ho⟩ := hall i x hx
    have hu2 : Tryz.prog.underlying u = some (.int .i64) := by
      have hm := List.mem_of_getElem? hu
      simp only [List.mem_cons, List.mem_nil_iff, or_false] at hm
      rcases hm with rfl | rfl | rfl | rfl | rfl | rfl | rfl | rfl | rfl | rfl <;> assumption
    unfold Cell.okWide at ho
    rw [hu2] at ho
    cases x with
    | int k n =>
      simp only [Cell.ok, hu2] at ho
      obtain ⟨rfl, _⟩ := ho
      exact ⟨n, rfl⟩
    | _ => (simp [Cell.ok, hu2] at ho)
  obtain ⟨l⟩ := cs
  rw [hc] at hs
  match l, hs with
  | [c0, c1, c2, c3, c4, c5, c6, c7, c8, c9], _ =>
    obtain ⟨n0, rfl⟩ := key 0 c0 rfl
    obtain ⟨n1, rfl⟩ := key 1 c1 rfl
    obtain ⟨n2, rfl⟩ := key 2 c2 rfl
    obtain ⟨n3, rfl⟩ := key 3 c3 rfl
    obtain ⟨n4, rfl⟩ := key 4 c4 rfl
    obtain ⟨n5, rfl⟩ := key 5 c5 rfl
    obtain ⟨n6, rfl⟩ := key 6 c6 rfl
    obtain ⟨n7, rfl⟩ := key 7 c7 rfl
    obtain ⟨n8, rfl⟩ := key 8 c8 rfl
    obtain ⟨n9, rfl⟩ := key 9 c9 rfl
    exact ⟨_, _, _, _, _, _, _, _, _, _, rfl⟩

/-- THE WALK's WORD: the law's call, in every world that meets the condition. -/
theorem asks_calls {W : World} (hL : laidMetH Tryz.prog laid8 W) (k a1 a2 a3 a4 a5 a6 a7 a8 n : Int) : Calls Tryz.prog 5 #[.agg ⟨[.int .i64 k, .int .i64 a1, .int .i64 a2, .int .i64 a3, .int .i64 a4, .int .i64 a5, .int .i64 a6, .int .i64 a7, .int .i64 a8, .int .i64 n]⟩] W fun e W' => e = .returned (.bool true) ∧ Below W.heap.size W W' := by
  obtain ⟨L, hr⟩ := hr_of_laid hL
  obtain ⟨st', h1, h2⟩ := asks_run L k a1 a2 a3 a4 a5 a6 a7 a8 n
  have hlow : ∀ b, (h0 L).get b ≠ none → b < 20 := fun b hb => by have := h0_low L b hb; omega
  have := calls_of_run (orcW_ok L) (orcW_st L) tz_mix tz_lt h1 h2 (h0_ro L) hlow rfl hr (VRL.refl_plain [.agg ⟨[.int .i64 k, .int .i64 a1, .int .i64 a2, .int .i64 a3, .int .i64 a4, .int .i64 a5, .int .i64 a6, .int .i64 a7, .int .i64 a8, .int .i64 n]⟩] rfl)
  exact (callsIn_wide.1 this).mono fun e W' ⟨he, g1, g2, g3, g4, g5⟩ => ⟨he, ⟨g1, g2, g3, g4, g5⟩⟩

theorem own : ownKnob Tryz.prog.godebug = none := by kernel_rfl
theorem laidOut : laidOutB Tryz.prog = true := by kernel_rfl
theorem lifted (os : Os) (started : os.Started) (H : Type) (enc : TypeId × Value → H) :
    ReturnsInHanded {} Tryz.checked os 5 .any (fun w args => (Rows.opsAsksSpec.pre enc Tryz.prog Tryz.f5 [] false w args ∧ laidMetH Tryz.prog laid8 w) ∧ sizedMet enc Tryz.prog Tryz.f5 (OpenSpec.ofChange Rows.opsAsksSpec) false w args)
      (Rows.opsAsksSpec.post enc Tryz.prog Tryz.f5 false true false false) := by
  refine returnsInHanded_of_change_and (C := Tryz.checked) (X := fun w _ => laidMetH Tryz.prog laid8 w) (fun _ _ _ hh h => h.of_heap hh) own started (by kernel_rfl) Tryz.func5
    (ChangeSpec.witness_shaped (enc := enc) (C := Tryz.checked) (os := os) (X := fun w _ => laidMetH Tryz.prog laid8 w) false (witWorld os) #[.agg #[.int .i64 0, .int .i64 0, .int .i64 0, .int .i64 0, .int .i64 0, .int .i64 0, .int .i64 0, .int .i64 0, .int .i64 0, .int .i64 0]] 8 (witWorld_os os)
      (wit_shape os _) (asks_okWide os) (asks_pre os) (asks_sized os) (wit_met_call os _)) ?_
  intro W base args ds gs before hval0 hW _ _ hL _
  have hval : ∀ (j : Nat) t v, Tryz.f5.params[j]? = some t → args[j]? = some v → Value.okWide Tryz.prog W .any base t v := hval0
  have hW' := hW
  obtain ⟨p, q, hA0, hV, rfl, _, _⟩ := hW
  have hA : DataW.TrodAll enc Tryz.prog W 0 (fun _ => true) true Tryz.f5.params.toList args.toList ds p := hA0
  rw [Tryz.params5] at hA hval
  obtain ⟨v0, d0, rfl, rfl, h0⟩ := trodAll_one hA
  obtain ⟨rfl, rfl⟩ := trodVars_none hV
  obtain ⟨k, a1, a2, a3, a4, a5, a6, a7, a8, n, rfl⟩ := open_op (hval 0 28 v0 rfl rfl)
  simp only [List.append_nil] at hW'
  refine (asks_calls hL k a1 a2 a3 a4 a5 a6 a7 a8 n).mono fun e W' ⟨he, hb⟩ => ?_
  subst he
  have hlt : ∀ x ∈ p, x.block < W.heap.size := fun x hx => hW'.lt x hx
  refine ⟨_, rfl, post_of_below (pa := p) (pv := []) hW' (fun _ _ _ => trodAll_mk1 (shut_bool Tryz.underlying4 _)) (fun sp hsp => trodAll_mk1 (WideElems.Trod_stays laidOut (by kernel_rfl) (of_decide_eq_true (by kernel_rfl)) h0 (fun x hx => hb.same (hlt x hx)) (fun x hx => hsp x hx))) (fun _ _ => rfl) (by simp) hb (ok_one (by kernel_rfl) rfl (okWide_bool_mk Tryz.underlying4 _))⟩

theorem said : Rows.OpsAsksSaid :=
  OpenClaim.holds_of_wide 5 Tryz.f5 rfl rfl rfl rfl rfl rfl rfl ⟨rfl, rfl, rfl, rfl, rfl⟩ rfl rfl rfl rfl rfl (by kernel_rfl) Tryz.func5 (by kernel_rfl)
    (of_decide_eq_true (by kernel_rfl)) (by unfold Func.isWrapper; first | (rw [if_pos (by decide +kernel)]; kernel_rfl) | (rw [if_neg (by decide +kernel)]; exact ⟨rfl, rfl⟩))
    (fun os started H enc _ => lifted os started H enc)

theorem noStandIn (f : FuncId) (fn : Func) (hf : Tryz.pinned.checked.prog.funcNamed "tithe/tithelaw18.OpsAsks" = some f) (hfn : Tryz.pinned.checked.prog.funcs[f]? = some fn) :
    true = Tryz.pinned.checked.prog.looks [] ∧ ∀ (j : Nat) t, fn.params[j]? = some t → Tryz.pinned.checked.prog.wantsStandIn t = false := by
  obtain rfl : f = 5 := Option.some.inj ((show Tryz.prog.funcNamed "tithe/tithelaw18.OpsAsks" = some 5 by kernel_rfl).symm.trans hf) |>.symm
  obtain rfl : fn = Tryz.f5 := (Option.some.inj (Tryz.func5.symm.trans hfn)).symm
  refine ⟨by kernel_rfl, fun j t ht => ?_⟩
  rw [Tryz.params5] at ht
  obtain rfl : t = 28 := by simpa using Array.mem_of_getElem? ht
  exact (show Tryz.prog.wantsStandIn 28 = false by kernel_rfl)

theorem card : Rows.OpsAsksCardSaid :=
  Claim7.holds_tied_plain_at .later [] _ _ _ _ said (fun _ h => by cases h) (by kernel_rfl) (fun _ h => by cases h) opsAsks_row_tie rfl ⟨rfl, rfl⟩ (by kernel_rfl) rfl noStandIn (by kernel_rfl)
end Go.Ev
namespace Go.Proofs.YtifcpnmcfodacaaGreatDoor
theorem opsAsks_card : Rows.OpsAsksCardSaid := Go.Ev.card
#print axioms opsAsks_card
end Go.Proofs.YtifcpnmcfodacaaGreatDoor
