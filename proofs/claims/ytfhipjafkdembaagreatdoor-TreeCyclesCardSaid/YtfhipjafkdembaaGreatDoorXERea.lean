/-
 For every input TreeCycles answers true and leaves its arguments as they were,where the listed variables hold what the program's text lays.
-/
import Derived.Test.YtfhipjafkdembaaGreatDoorXETr22
set_option linter.unusedSimpArgs false
set_option linter.unusedVariables false
set_option linter.defProp false
set_option linter.unusedSectionVars false

-- ERea
section
namespace Go.Proofs.YtfhipjafkdembaaGreatDoor
open Go Go.ChangeShapes Go.WideShapes Go.ChangeAt Go.RowKit Go.Rw Go.Lib
open Go.ChangeMaps (open_string shut_string)
set_option maxRecDepth 100000
theorem treeCycles_witness (os:Os) {H:Type} (enc:TypeId×Value→H) :
    (OpenSpec.ofChange Rows.treeCyclesSpec).preRow enc Tryz.prog Tryz.f6 Rows.treeCyclesRow.domain false Rows.treeCyclesRow.laid ((kCF os).forCall (fun _ _=>0) ⟨#[],#[.slice none 0 0],[]⟩).memory #[.slice none 0 0]:=by
 have hw:(DataW.whole enc Tryz.prog ((kCF os).forCall (fun _ _=>0) ⟨#[],#[.slice none 0 0],[]⟩).memory Tryz.f6.params.toList Rows.treeCyclesSpec.vars false #[Value.slice none 0 0].toList 8).map (fun x=>(x.1,x.2.1)) =
     some ([.nil],[]):=by kernel_rfl
 obtain ⟨⟨x1,x2,x3⟩,hx,hx1⟩:=Option.map_eq_some_iff.1 hw
 simp only[Prod.mk.injEq]at hx1
 obtain ⟨rfl,rfl⟩:=hx1
 have hl:Rows.treeCyclesRow.laid=laidL:=by kernel_rfl
 rw[hl]
 exact OpenSpec.preRow_of_cond 8 hx (by kernel_rfl) (fun k hk=>by cases hk) (by kernel_rfl) (laid_met os _)
theorem treeCycles_lifted (os:Os) (started:os.Started) (H:Type) (enc:TypeId×Value→H) (F:Stop.Interp) :
    ReturnsInHanded {} Tryz.checked os 6 .any ((OpenSpec.ofChange Rows.treeCyclesSpec).preRow enc Tryz.prog Tryz.f6 Rows.treeCyclesRow.domain false Rows.treeCyclesRow.laid) (((OpenSpec.ofChange Rows.treeCyclesSpec).at F).post enc Tryz.prog Tryz.f6 false true false false):=by
 refine returnsInHanded_of_row (C:=Tryz.checked) (s:=OpenSpec.ofChange Rows.treeCyclesSpec) own started (by kernel_rfl) Tryz.func6
  (witness_row_atRef (enc:=enc) (C:=Tryz.checked) false (kCF os) #[.slice none 0 0] rfl (by kernel_rfl) (by kernel_rfl) (by kernel_rfl) (treeCycles_witness os enc)) ?_
 intro W base args ds gs before hval0 hW _ _ _ hL _ _
 have hval:∀ (j:Nat) t v,Tryz.f6.params[j]? = some t→args[j]? = some v→Value.okWide Tryz.prog W .any base t v:=hval0
 have hW':=hW
 obtain ⟨p,q,hA0,hV,rfl,hfz,hnd⟩:=hW
 have hA:DataW.TrodAll enc Tryz.prog W 0 (fun _=>true) true Tryz.f6.params.toList args.toList ds p:=hA0
 rw[Tryz.params6]at hA hval
 obtain ⟨v0,vs0,d0,ds0,p0,q0,hargs,rfl,rfl,h0,r0⟩:=trodAll_cons hA
 obtain ⟨rfl,rfl,rfl⟩:=trodAll_nil r0
 obtain rfl:args = #[v0]:=Array.ext' hargs
 obtain ⟨rfl,rfl⟩:=trodVars_none hV
 obtain ⟨x0,V0,b0,m0⟩:=open_row Tryz.underlying50 Tryz.underlying3 (by kernel_rfl) (hval 0 50 v0 rfl rfl) h0
 have hl:Rows.treeCyclesRow.laid=laidL:=by kernel_rfl
 have htb:=tabs_of (W:=W) (hl ▸ hL)
 have walk:=Good.law cycles13_good rfl rfl (i:=⟨x0,m0,fun x hx=>i64_wf (b0 x hx)⟩) (fun r h=>h) (W:=W) (vs:=#[v0]) htb rfl (fun k=>by
  match k with
  | 0=>exact V0
  | k+1=>exact .any _)
 refine walk.mono fun e W' ⟨he,hg⟩=>?_
 subst he
 exact ⟨_,rfl,law_post (tb:=4) laidOut (by kernel_rfl) rfl rfl rfl rfl (by kernel_rfl) Tryz.underlying4 hW' hg⟩
theorem treeCycles_said:Rows.TreeCyclesSaid :=
 OpenClaim.holds_of_cond 6 Tryz.f6 rfl rfl rfl rfl rfl rfl rfl ⟨rfl,rfl,rfl,rfl,rfl⟩ rfl rfl rfl rfl rfl (by kernel_rfl) Tryz.func6 (by kernel_rfl)
  (of_decide_eq_true (by kernel_rfl)) (by unfold Func.isWrapper;first|(rw[if_pos (by decide +kernel)];kernel_rfl)|(rw[if_neg (by decide +kernel)];exact ⟨rfl,rfl⟩))
  (fun os started H enc _ F=>by rw[OpenClaim.pre_eq_preRow];exact treeCycles_lifted os started H enc F)
theorem treeCycles_plain (f : FuncId) (fn : Func) (hf : Tryz.pinned.checked.prog.funcNamed "ropewalk/ropewalklaw13.TreeCycles" = some f) (hfn : Tryz.pinned.checked.prog.funcs[f]? = some fn) :
    true=Tryz.pinned.checked.prog.looks []∧∀ (j:Nat) t,fn.params[j]? = some t→Tryz.pinned.checked.prog.wantsStandIn t=false:=by
 obtain rfl : f = 6 := Option.some.inj ((show Tryz.prog.funcNamed "ropewalk/ropewalklaw13.TreeCycles" = some 6 by kernel_rfl).symm.trans hf) |>.symm
 obtain rfl:fn=Tryz.f6:=(Option.some.inj (Tryz.func6.symm.trans hfn)).symm
 refine ⟨by kernel_rfl,fun j t ht=>?_⟩
 have hall:Tryz.f6.params.toList.all (fun t=>!Tryz.prog.wantsStandIn t)=true:=by kernel_rfl
 rw[List.all_eq_true]at hall
 have h2:Tryz.prog.wantsStandIn t=false:=by simpa using hall t (by simpa using Array.mem_of_getElem? ht)
 exact h2
theorem treeCycles_card:Rows.TreeCyclesCardSaid :=
 Claim7.holds_tied_plain_at .later [] _ _ _ _ treeCycles_said (fun _ h=>by cases h) (by kernel_rfl) (fun _ h=>by cases h) treeCycles_row_tie rfl ⟨rfl,rfl⟩ (by kernel_rfl) rfl treeCycles_plain (by kernel_rfl)
end Go.Proofs.YtfhipjafkdembaaGreatDoor
end
