/- The rows that every run begins with: what they are; 'works' as a row. No condition. -/
import Derived.Test.YtifcpnmcfodacaaGreatDoorWorks

namespace Go.Ev
open Go Go.Proofs
set_option maxRecDepth 100000

theorem h0_get (L : Laid) (b : Nat) : (h0 L).get b = if b = 8 then roOf tab8 L.t8 L.f8 else if b = 7 then roOf tab7 L.t7 L.f7 else if b = 4 then roOf tab4 L.t4 L.f4 else if b = 3 then roOf tab3 L.t3 L.f3 else none := by
  unfold h0
  rw [Tr.get_put 24 _ 8 _ b (by decide), Tr.get_put 24 _ 7 _ b (by decide), Tr.get_put 24 _ 4 _ b (by decide), Tr.get_put 24 _ 3 _ b (by decide), Tr.get_nil]

theorem h0_cases {L : Laid} {b : Nat} {o : AObj} (h : (h0 L).get b = some o) : (b = 8 ∧ o = .ro (.cells ⟨tab8⟩ L.t8 L.f8)) ∨ (b = 7 ∧ o = .ro (.cells ⟨tab7⟩ L.t7 L.f7)) ∨ (b = 4 ∧ o = .ro (.cells ⟨tab4⟩ L.t4 L.f4)) ∨ (b = 3 ∧ o = .ro (.cells ⟨tab3⟩ L.t3 L.f3)) := by
  rw [h0_get] at h
  by_cases h8 : b = 8
  · rw [if_pos h8] at h; exact .inl ⟨h8, (Option.some.inj h).symm⟩
  · rw [if_neg h8] at h
    by_cases h7 : b = 7
    · rw [if_pos h7] at h; exact .inr (.inl ⟨h7, (Option.some.inj h).symm⟩)
    · rw [if_neg h7] at h
      by_cases h4 : b = 4
      · rw [if_pos h4] at h; exact .inr (.inr (.inl ⟨h4, (Option.some.inj h).symm⟩))
      · rw [if_neg h4] at h
        by_cases h3 : b = 3
        · rw [if_pos h3] at h; exact .inr (.inr (.inr ⟨h3, (Option.some.inj h).symm⟩))
        · rw [if_neg h3] at h; cases h
theorem h0_low (L : Laid) (b : Nat) (h : (h0 L).get b ≠ none) : b ≤ 8 := by
  cases hx : (h0 L).get b with
  | none => exact absurd hx h
  | some o => rcases h0_cases hx with ⟨e, _⟩ | ⟨e, _⟩ | ⟨e, _⟩ | ⟨e, _⟩ <;> omega

theorem h0_ro (L : Laid) : AllRo (h0 L) := by
  intro b o h
  rcases h0_cases h with ⟨_, e⟩ | ⟨_, e⟩ | ⟨_, e⟩ | ⟨_, e⟩ <;> exact ⟨_, e⟩
theorem tab_fx : VRL (bm0 Tryz.prog) tab3 tab3 ∧ VRL (bm0 Tryz.prog) tab4 tab4 ∧ VRL (bm0 Tryz.prog) tab7 tab7 ∧ VRL (bm0 Tryz.prog) tab8 tab8 := by
  have hg : bm0 Tryz.prog Tryz.prog.globals.size = some ⟨Tryz.prog.globals.size, false, 0, 0⟩ := if_pos (Nat.le_refl _)
  refine ⟨?_, VRL.refl_plain _ (by kernel_rfl), VRL.refl_plain _ (by kernel_rfl), VRL.refl_plain _ (by kernel_rfl)⟩
  exact .cons (.iface 269 (.agg (.cons (.ptr 30 hg) .nil))) .nil
theorem h0_fx (L : Laid) (b : Nat) (c : List Value) (e : TypeId) (fz : Nat × Nat) (h : (h0 L).get b = some (.ro (.cells ⟨c⟩ e fz))) : VRL (bm0 Tryz.prog) c c := by
  have inj : ∀ {c' : List Value} {t : Nat} {f : Nat × Nat}, (AObj.ro (.cells ⟨c⟩ e fz)) = .ro (.cells ⟨c'⟩ t f) → c = c' := by
    intro c' t f h
    injection h with h
    injection h with h
    injection h
  rcases h0_cases h with ⟨_, e⟩ | ⟨_, e⟩ | ⟨_, e⟩ | ⟨_, e⟩
  · rw [inj e]; exact tab_fx.2.2.2
  · rw [inj e]; exact tab_fx.2.2.1
  · rw [inj e]; exact tab_fx.2.1
  · rw [inj e]; exact tab_fx.1

theorem isT_spec {r : R} (h : isT r = true) : ∃ st2, r = some (.bool true, st2) ∧ st2.wl = [] := by
  unfold isT at h
  split at h
  · rename_i st2
    refine ⟨st2, rfl, ?_⟩
    split at h
    · assumption
    · cases h
  · cases h
theorem works_run (L : Laid) : ∃ st2, (evCallF Tryz.prog 100000 orcH 60).call 12 [] ⟨h0 L, 20, 20, []⟩ = some (.bool true, st2) ∧ st2.wl = [] := isT_spec (congrFun works_eval L)
theorem works_lands {L : Laid} {vs : List Value} {st st' : St} {r : Value} (hk : overK (h0 L) [] (.bool true) vs st = some (r, st')) {β : BM} {w : World} {args' : List Value} (hr : HR Tryz.prog β st.h.get w) (ha : VRL β vs args') :
    Lands Tryz.prog (After Tryz.prog β w st r st') ((callFunc 12 ⟨args'⟩).run Tryz.prog w) := by
  obtain ⟨st2, h1, h2⟩ := works_run L
  refine overK_lands orcH_ok orcH_st tz_mix tz_lt ⟨_, Tryz.func12, by kernel_rfl, by kernel_rfl⟩ h1 h2 (h0_ro L) (fun b hb => ?_) (h0_fx L) rfl rfl hk hr ha
  rw [tz_globals]
  have := h0_low L b hb
  omega
theorem works_put (L : Laid) (o : Option AObj) (nx base : Nat) (wl : List Nat) : overK (h0 L) [] (.bool true) [] ⟨(h0 L).put 24 20 o, nx, base, wl⟩ = some (.bool true, ⟨(h0 L).put 24 20 o, nx, base, wl⟩) := by
  refine overK_eq fun b x hb => ?_
  have := h0_low L b (by rw [hb]; simp)
  simp only
  rw [Tr.get_put 24 _ 20 _ b (by decide), if_neg (by omega)]
  exact hb
end Go.Ev
