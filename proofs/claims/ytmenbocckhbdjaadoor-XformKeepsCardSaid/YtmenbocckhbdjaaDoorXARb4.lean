/-
  For every input XformKeeps answers true and leaves its arguments as they were, where the listed variables hold what the program's text lays.
-/
import Derived.Test.YtmenbocckhbdjaaDoorXAAy1
import Derived.Test.YtmenbocckhbdjaaDoorXAUr1
import Derived.Test.YtmenbocckhbdjaaDoorRwG
set_option linter.unusedSimpArgs false
set_option linter.unusedVariables false
set_option linter.defProp false

-- ARb4
section
namespace Go.Proofs.YtmenbocckhbdjaaDoor
open Go Go.ChangeShapes Go.WideShapes Go.ChangeAt Go.RowKit Go.Rw Go.Lib
open Go.ChangeMaps (open_string shut_string)
set_option linter.unusedVariables false
set_option maxRecDepth 100000

theorem xformKeeps_witness (os : Os) {H : Type} (enc : TypeId × Value → H) :
    (OpenSpec.ofChange Rows.xformKeepsSpec).preRow enc Tryd.prog Tryd.f13 Rows.xformKeepsRow.domain false Rows.xformKeepsRow.laid ((laidWorld os).forCall (fun _ _ => 0) ⟨#[], #[.int .i64 0, .slice none 0 0, .slice none 0 0, .bool false], []⟩).memory #[.int .i64 0, .slice none 0 0, .slice none 0 0, .bool false] := by
  have hw : (DataW.whole enc Tryd.prog ((laidWorld os).forCall (fun _ _ => 0) ⟨#[], #[.int .i64 0, .slice none 0 0, .slice none 0 0, .bool false], []⟩).memory Tryd.f13.params.toList Rows.xformKeepsSpec.vars false #[Value.int .i64 0, .slice none 0 0, .slice none 0 0, .bool false].toList 8).map (fun x => (x.1, x.2.1)) =
      some ([.lit (.int .i64 0), .nil, .nil, .lit (.bool false)], []) := by kernel_rfl
  obtain ⟨⟨x1, x2, x3⟩, hx, hx1⟩ := Option.map_eq_some_iff.1 hw
  simp only [Prod.mk.injEq] at hx1
  obtain ⟨rfl, rfl⟩ := hx1
  have hl : Rows.xformKeepsRow.laid = laidL := by kernel_rfl
  rw [hl]
  exact OpenSpec.preRow_of_cond 8 hx (by kernel_rfl) (fun k hk => by cases hk) (by kernel_rfl) (laid_met os _)

theorem xformKeeps_lifted (os : Os) (started : os.Started) (H : Type) (enc : TypeId × Value → H) (F : Stop.Interp) :
    ReturnsInHanded {} Tryd.checked os 13 .any ((OpenSpec.ofChange Rows.xformKeepsSpec).preRow enc Tryd.prog Tryd.f13 Rows.xformKeepsRow.domain false Rows.xformKeepsRow.laid) (((OpenSpec.ofChange Rows.xformKeepsSpec).at F).post enc Tryd.prog Tryd.f13 false true false false) := by
  refine returnsInHanded_of_row (C := Tryd.checked) (s := OpenSpec.ofChange Rows.xformKeepsSpec) own started (by kernel_rfl) Tryd.func13
    (witness_row_atRef (enc := enc) (C := Tryd.checked) false (laidWorld os) #[.int .i64 0, .slice none 0 0, .slice none 0 0, .bool false] rfl (by kernel_rfl) (by kernel_rfl) (by kernel_rfl) (xformKeeps_witness os enc)) ?_
  intro W base args ds gs before hval0 hW _ _ _ hL _ _
  have hval : ∀ (j : Nat) t v, Tryd.f13.params[j]? = some t → args[j]? = some v → Value.okWide Tryd.prog W .any base t v := hval0
  have hW' := hW
  obtain ⟨p, q, hA0, hV, rfl, hfz, hnd⟩ := hW
  have hA : DataW.TrodAll enc Tryd.prog W 0 (fun _ => true) true Tryd.f13.params.toList args.toList ds p := hA0
  rw [Tryd.params13] at hA hval
  obtain ⟨v0, vs0, d0, ds0, p0, q0, hargs, rfl, rfl, h0, r0⟩ := trodAll_cons hA
  obtain ⟨v1, vs1, d1, ds1, p1, q1, rfl, rfl, rfl, h1, r1⟩ := trodAll_cons r0
  obtain ⟨v2, vs2, d2, ds2, p2, q2, rfl, rfl, rfl, h2, r2⟩ := trodAll_cons r1
  obtain ⟨v3, vs3, d3, ds3, p3, q3, rfl, rfl, rfl, h3, r3⟩ := trodAll_cons r2
  obtain ⟨rfl, rfl, rfl⟩ := trodAll_nil r3
  obtain rfl : args = #[v0, v1, v2, v3] := Array.ext' hargs
  obtain ⟨rfl, rfl⟩ := trodVars_none hV
  obtain ⟨x0, rfl, rfl, rfl, w0⟩ := open_int Tryd.underlying3 (hval 0 3 v0 rfl rfl) h0
  have h0 := i64_wf w0
  obtain ⟨a1, n1, c1, rfl⟩ := okWide_slice Tryd.underlying22 (hval 1 22 v1 rfl rfl)
  obtain ⟨x1, l1, h1, V1⟩ := open_comps (ti := 3) (ts := 9) Tryd.underlying22 (by kernel_rfl) (by kernel_rfl) (by kernel_rfl) (by kernel_rfl) Tryd.underlying3 Tryd.underlying9 ⟨_, _, _, rfl⟩ h1
  obtain ⟨a2, n2, c2, rfl⟩ := okWide_slice Tryd.underlying22 (hval 2 22 v2 rfl rfl)
  obtain ⟨x2, l2, h2, V2⟩ := open_comps (ti := 3) (ts := 9) Tryd.underlying22 (by kernel_rfl) (by kernel_rfl) (by kernel_rfl) (by kernel_rfl) Tryd.underlying3 Tryd.underlying9 ⟨_, _, _, rfl⟩ h2
  obtain ⟨x3, rfl, rfl, rfl⟩ := open_bool Tryd.underlying4 (hval 3 4 v3 rfl rfl) h3
  have hl : Rows.xformKeepsRow.laid = laidL := by kernel_rfl
  have htb := tabs_of (W := W) (hl ▸ hL)
  have walk := Good.law keeps10_good rfl rfl (i := (⟨x0, h0⟩, ⟨x1, l1, fun c hc => ⟨(h1 c hc).2.1, (h1 c hc).2.2⟩⟩, ⟨x2, l2, fun c hc => ⟨(h2 c hc).2.1, (h2 c hc).2.2⟩⟩, x3)) (fun r h => h) (W := W) (vs := #[.int .i64 x0, .slice a1 n1 c1, .slice a2 n2 c2, .bool x3]) htb rfl (fun k => by
    match k with
    | 0 => exact .v _
    | 1 => exact V1
    | 2 => exact V2
    | 3 => exact .v _
    | k + 4 => exact .any _)
  refine walk.mono fun e W' ⟨he, hg⟩ => ?_
  subst he
  exact ⟨_, rfl, law_post (tb := 4) laidOut (by kernel_rfl) rfl rfl rfl rfl (by kernel_rfl) Tryd.underlying4 hW' hg⟩

theorem xformKeeps_said : Rows.XformKeepsSaid :=
  OpenClaim.holds_of_cond 13 Tryd.f13 rfl rfl rfl rfl rfl rfl rfl ⟨rfl, rfl, rfl, rfl, rfl⟩ rfl rfl rfl rfl rfl (by kernel_rfl) Tryd.func13 (by kernel_rfl)
    (of_decide_eq_true (by kernel_rfl)) (by unfold Func.isWrapper; first | (rw [if_pos (by decide +kernel)]; kernel_rfl) | (rw [if_neg (by decide +kernel)]; exact ⟨rfl, rfl⟩))
    (fun os started H enc _ F => by rw [OpenClaim.pre_eq_preRow]; exact xformKeeps_lifted os started H enc F)
theorem xformKeeps_plain (f : FuncId) (fn : Func) (hf : Tryd.pinned.checked.prog.funcNamed "ropewalk/ropewalklaw10.XformKeeps" = some f) (hfn : Tryd.pinned.checked.prog.funcs[f]? = some fn) :
    false = Tryd.pinned.checked.prog.looks [] ∧ ∀ (j : Nat) t, fn.params[j]? = some t → Tryd.pinned.checked.prog.wantsStandIn t = false := by
  obtain rfl : f = 13 := Option.some.inj ((show Tryd.prog.funcNamed "ropewalk/ropewalklaw10.XformKeeps" = some 13 by kernel_rfl).symm.trans hf) |>.symm
  obtain rfl : fn = Tryd.f13 := (Option.some.inj (Tryd.func13.symm.trans hfn)).symm
  refine ⟨by kernel_rfl, fun j t ht => ?_⟩
  have hall : Tryd.f13.params.toList.all (fun t => !Tryd.prog.wantsStandIn t) = true := by kernel_rfl
  rw [List.all_eq_true] at hall
  have h2 : Tryd.prog.wantsStandIn t = false := by simpa using hall t (by simpa using Array.mem_of_getElem? ht)
  exact h2
theorem xformKeeps_card : Rows.XformKeepsCardSaid :=
  Claim7.holds_tied_plain_at .later [] _ _ _ _ xformKeeps_said (fun _ h => by cases h) (by kernel_rfl) (fun _ h => by cases h) xformKeeps_row_tie rfl ⟨rfl, rfl⟩ (by kernel_rfl) rfl xformKeeps_plain (by kernel_rfl)
end Go.Proofs.YtmenbocckhbdjaaDoor
end
