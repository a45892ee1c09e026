/-
  For every input EffectSees answers true and leaves its arguments as they were, where the listed variables hold what the program's text lays.
-/
import Derived.Test.YtmhpninemdmbkaaDoorXCUe7
import Derived.Test.YtmhpninemdmbkaaDoorXCUr1
import Derived.Test.YtmhpninemdmbkaaDoorRwG
set_option linter.unusedSimpArgs false
set_option linter.unusedVariables false
set_option linter.defProp false

-- CRd1
section
namespace Go.Proofs.YtmhpninemdmbkaaDoor
open Go Go.ChangeShapes Go.WideShapes Go.ChangeAt Go.RowKit Go.Rw Go.Lib
open Go.ChangeMaps (open_string shut_string)
set_option linter.unusedVariables false
set_option maxRecDepth 100000

theorem effectSees_witness (os : Os) {H : Type} (enc : TypeId × Value → H) :
    (OpenSpec.ofChange Rows.effectSeesSpec).preRow enc Tryd.prog Tryd.f3 Rows.effectSeesRow.domain false Rows.effectSeesRow.laid ((laidWorld os).forCall (fun _ _ => 0) ⟨#[], #[.string ⟨#[]⟩, .slice none 0 0, .slice none 0 0], []⟩).memory #[.string ⟨#[]⟩, .slice none 0 0, .slice none 0 0] := by
  have hw : (DataW.whole enc Tryd.prog ((laidWorld os).forCall (fun _ _ => 0) ⟨#[], #[.string ⟨#[]⟩, .slice none 0 0, .slice none 0 0], []⟩).memory Tryd.f3.params.toList Rows.effectSeesSpec.vars false #[Value.string ⟨#[]⟩, .slice none 0 0, .slice none 0 0].toList 8).map (fun x => (x.1, x.2.1)) =
      some ([.lit (.string []), .nil, .nil], []) := by kernel_rfl
  obtain ⟨⟨x1, x2, x3⟩, hx, hx1⟩ := Option.map_eq_some_iff.1 hw
  simp only [Prod.mk.injEq] at hx1
  obtain ⟨rfl, rfl⟩ := hx1
  have hl : Rows.effectSeesRow.laid = laidL := by kernel_rfl
  rw [hl]
  exact OpenSpec.preRow_of_cond 8 hx (by kernel_rfl) (fun k hk => by cases hk) (by kernel_rfl) (laid_met os _)

theorem effectSees_lifted (os : Os) (started : os.Started) (H : Type) (enc : TypeId × Value → H) (F : Stop.Interp) :
    ReturnsInHanded {} Tryd.checked os 3 .any ((OpenSpec.ofChange Rows.effectSeesSpec).preRow enc Tryd.prog Tryd.f3 Rows.effectSeesRow.domain false Rows.effectSeesRow.laid) (((OpenSpec.ofChange Rows.effectSeesSpec).at F).post enc Tryd.prog Tryd.f3 false true false false) := by
  refine returnsInHanded_of_row (C := Tryd.checked) (s := OpenSpec.ofChange Rows.effectSeesSpec) own started (by kernel_rfl) Tryd.func3
    (witness_row_atRef (enc := enc) (C := Tryd.checked) false (laidWorld os) #[.string ⟨#[]⟩, .slice none 0 0, .slice none 0 0] rfl (by kernel_rfl) (by kernel_rfl) (by kernel_rfl) (effectSees_witness os enc)) ?_
  intro W base args ds gs before hval0 hW _ _ _ hL _ _
  have hval : ∀ (j : Nat) t v, Tryd.f3.params[j]? = some t → args[j]? = some v → Value.okWide Tryd.prog W .any base t v := hval0
  have hW' := hW
  obtain ⟨p, q, hA0, hV, rfl, hfz, hnd⟩ := hW
  have hA : DataW.TrodAll enc Tryd.prog W 0 (fun _ => true) true Tryd.f3.params.toList args.toList ds p := hA0
  rw [Tryd.params3] at hA hval
  obtain ⟨v0, vs0, d0, ds0, p0, q0, hargs, rfl, rfl, h0, r0⟩ := trodAll_cons hA
  obtain ⟨v1, vs1, d1, ds1, p1, q1, rfl, rfl, rfl, h1, r1⟩ := trodAll_cons r0
  obtain ⟨v2, vs2, d2, ds2, p2, q2, rfl, rfl, rfl, h2, r2⟩ := trodAll_cons r1
  obtain ⟨rfl, rfl, rfl⟩ := trodAll_nil r2
  obtain rfl : args = #[v0, v1, v2] := Array.ext' hargs
  obtain ⟨rfl, rfl⟩ := trodVars_none hV
  obtain ⟨x0, rfl, rfl, rfl, w0⟩ := open_string Tryd.underlying9 (hval 0 9 v0 rfl rfl) h0
  have h0 : x0.data.toList.length ≤ 9223372036854775807 := by rw [Array.length_toList]; exact w0
  obtain ⟨a1, n1, c1, rfl⟩ := okWide_slice Tryd.underlying22 (hval 1 22 v1 rfl rfl)
  obtain ⟨x1, l1, h1, V1⟩ := open_comps (ti := 3) (ts := 9) Tryd.underlying22 (by kernel_rfl) (by kernel_rfl) (by kernel_rfl) (by kernel_rfl) Tryd.underlying3 Tryd.underlying9 ⟨_, _, _, rfl⟩ h1
  obtain ⟨a2, n2, c2, rfl⟩ := okWide_slice Tryd.underlying22 (hval 2 22 v2 rfl rfl)
  obtain ⟨x2, l2, h2, V2⟩ := open_comps (ti := 3) (ts := 9) Tryd.underlying22 (by kernel_rfl) (by kernel_rfl) (by kernel_rfl) (by kernel_rfl) Tryd.underlying3 Tryd.underlying9 ⟨_, _, _, rfl⟩ h2
  have hl : Rows.effectSeesRow.laid = laidL := by kernel_rfl
  have htb := tabs_of (W := W) (hl ▸ hL)
  have walk := Good.law sees15_good rfl rfl (i := (⟨x0.data.toList, h0⟩, ⟨x1, l1, fun c hc => ⟨(h1 c hc).2.1, (h1 c hc).2.2⟩⟩, ⟨x2, l2, fun c hc => ⟨(h2 c hc).2.1, (h2 c hc).2.2⟩⟩)) (fun r h => h) (W := W) (vs := #[.string x0, .slice a1 n1 c1, .slice a2 n2 c2]) htb rfl (fun k => by
    match k with
    | 0 => exact .v _
    | 1 => exact V1
    | 2 => exact V2
    | k + 3 => exact .any _)
  refine walk.mono fun e W' ⟨he, hg⟩ => ?_
  subst he
  exact ⟨_, rfl, law_post (tb := 4) laidOut (by kernel_rfl) rfl rfl rfl rfl (by kernel_rfl) Tryd.underlying4 hW' hg⟩

theorem effectSees_said : Rows.EffectSeesSaid :=
  OpenClaim.holds_of_cond 3 Tryd.f3 rfl rfl rfl rfl rfl rfl rfl ⟨rfl, rfl, rfl, rfl, rfl⟩ rfl rfl rfl rfl rfl (by kernel_rfl) Tryd.func3 (by kernel_rfl)
    (of_decide_eq_true (by kernel_rfl)) (by unfold Func.isWrapper; first | (rw [if_pos (by decide +kernel)]; kernel_rfl) | (rw [if_neg (by decide +kernel)]; exact ⟨rfl, rfl⟩))
    (fun os started H enc _ F => by rw [OpenClaim.pre_eq_preRow]; exact effectSees_lifted os started H enc F)
theorem effectSees_plain (f : FuncId) (fn : Func) (hf : Tryd.pinned.checked.prog.funcNamed "ropewalk/ropewalklaw15.EffectSees" = some f) (hfn : Tryd.pinned.checked.prog.funcs[f]? = some fn) :
    false = Tryd.pinned.checked.prog.looks [] ∧ ∀ (j : Nat) t, fn.params[j]? = some t → Tryd.pinned.checked.prog.wantsStandIn t = false := by
  obtain rfl : f = 3 := Option.some.inj ((show Tryd.prog.funcNamed "ropewalk/ropewalklaw15.EffectSees" = some 3 by kernel_rfl).symm.trans hf) |>.symm
  obtain rfl : fn = Tryd.f3 := (Option.some.inj (Tryd.func3.symm.trans hfn)).symm
  refine ⟨by kernel_rfl, fun j t ht => ?_⟩
  have hall : Tryd.f3.params.toList.all (fun t => !Tryd.prog.wantsStandIn t) = true := by kernel_rfl
  rw [List.all_eq_true] at hall
  have h2 : Tryd.prog.wantsStandIn t = false := by simpa using hall t (by simpa using Array.mem_of_getElem? ht)
  exact h2
theorem effectSees_card : Rows.EffectSeesCardSaid :=
  Claim7.holds_tied_plain_at .later [] _ _ _ _ effectSees_said (fun _ h => by cases h) (by kernel_rfl) (fun _ h => by cases h) effectSees_row_tie rfl ⟨rfl, rfl⟩ (by kernel_rfl) rfl effectSees_plain (by kernel_rfl)
end Go.Proofs.YtmhpninemdmbkaaDoor
end
