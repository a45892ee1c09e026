/-
 For every input HistoryFolds answers true and leaves its arguments as they were,where the listed variables hold what the program's text lays.
-/
import Derived.Test.YtnpofobcbfbfnaaGreatDoorXHTh5
import Derived.Test.YtnpofobcbfbfnaaGreatDoorRwI
set_option linter.unusedSimpArgs false
set_option linter.unusedVariables false
set_option linter.defProp false
set_option linter.unusedSectionVars false

-- HRh2
section
namespace Go.Proofs.YtnpofobcbfbfnaaGreatDoor
open Go Go.ChangeShapes Go.WideShapes Go.ChangeAt Go.RowKit Go.Rw Go.Lib
open Go.ChangeMaps (open_string shut_string)
set_option maxRecDepth 100000
theorem historyFolds_witness (os:Os) {H:Type} (enc:TypeId×Value→H) :
    (OpenSpec.ofChange Rows.historyFoldsSpec).preRow enc Tryz.prog Tryz.f4 Rows.historyFoldsRow.domain false Rows.historyFoldsRow.laid ((kDC os).forCall (fun _ _=>0) ⟨#[],#[.slice none 0 0,.int .i64 0],[]⟩).memory #[.slice none 0 0,.int .i64 0]:=by
 have hw:(DataW.whole enc Tryz.prog ((kDC os).forCall (fun _ _=>0) ⟨#[],#[.slice none 0 0,.int .i64 0],[]⟩).memory Tryz.f4.params.toList Rows.historyFoldsSpec.vars false #[Value.slice none 0 0,.int .i64 0].toList 8).map (fun x=>(x.1,x.2.1)) =
     some ([.nil,.lit (.int .i64 0)],[]):=by kernel_rfl
 obtain ⟨⟨x1,x2,x3⟩,hx,hx1⟩:=Option.map_eq_some_iff.1 hw
 simp only[Prod.mk.injEq]at hx1
 obtain ⟨rfl,rfl⟩:=hx1
 have hl:Rows.historyFoldsRow.laid=laidL:=by kernel_rfl
 rw[hl]
 exact OpenSpec.preRow_of_cond 8 hx (by kernel_rfl) (fun k hk=>by cases hk) (by kernel_rfl) (laid_met os _)
theorem historyFolds_lifted (os:Os) (started:os.Started) (H:Type) (enc:TypeId×Value→H) (F:Stop.Interp) :
    ReturnsInHanded {} Tryz.checked os 4 .any ((OpenSpec.ofChange Rows.historyFoldsSpec).preRow enc Tryz.prog Tryz.f4 Rows.historyFoldsRow.domain false Rows.historyFoldsRow.laid) (((OpenSpec.ofChange Rows.historyFoldsSpec).at F).post enc Tryz.prog Tryz.f4 false true false false):=by
 refine returnsInHanded_of_row (C:=Tryz.checked) (s:=OpenSpec.ofChange Rows.historyFoldsSpec) own started (by kernel_rfl) Tryz.func4
  (witness_row_atRef (enc:=enc) (C:=Tryz.checked) false (kDC os) #[.slice none 0 0,.int .i64 0] rfl (by kernel_rfl) (by kernel_rfl) (by kernel_rfl) (historyFolds_witness os enc)) ?_
 intro W base args ds gs before hval0 hW _ _ _ hL _ _
 have hval:∀ (j:Nat) t v,Tryz.f4.params[j]? = some t→args[j]? = some v→Value.okWide Tryz.prog W .any base t v:=hval0
 have hW':=hW
 obtain ⟨p,q,hA0,hV,rfl,hfz,hnd⟩:=hW
 have hA:DataW.TrodAll enc Tryz.prog W 0 (fun _=>true) true Tryz.f4.params.toList args.toList ds p:=hA0
 rw[Tryz.params4]at hA hval
 obtain ⟨v0,vs0,d0,ds0,p0,q0,hargs,rfl,rfl,h0,r0⟩:=trodAll_cons hA
 obtain ⟨v1,vs1,d1,ds1,p1,q1,rfl,rfl,rfl,h1,r1⟩:=trodAll_cons r0
 obtain ⟨rfl,rfl,rfl⟩:=trodAll_nil r1
 obtain rfl:args = #[v0,v1]:=Array.ext' hargs
 obtain ⟨rfl,rfl⟩:=trodVars_none hV
 obtain ⟨a0,n0,c0,rfl⟩:=okWide_slice Tryz.underlying39 (hval 0 39 v0 rfl rfl)
 obtain ⟨x0,l0,h0,V0⟩:=open_actss (by kernel_rfl) ⟨_,_,_,rfl⟩ h0
 obtain ⟨x1,rfl,rfl,rfl,w1⟩:=open_int Tryz.underlying3 (hval 1 3 v1 rfl rfl) h1
 have h1:=i64_wf w1
 have hl:Rows.historyFoldsRow.laid=laidL:=by kernel_rfl
 have htb:=tabs_of (W:=W) (hl ▸ hL)
 have walk:=Good.law folds17_good rfl rfl (i:=(⟨x0,l0,h0⟩,⟨x1,h1⟩)) (fun r h=>h) (W:=W) (vs:=#[.slice a0 n0 c0,.int .i64 x1]) htb rfl (fun k=>by
  match k with
  | 0=>exact V0
  | 1=>exact .v _
  | k+2=>exact .any _)
 refine walk.mono fun e W' ⟨he,hg⟩=>?_
 subst he
 exact ⟨_,rfl,law_post (tb:=4) laidOut (by kernel_rfl) rfl rfl rfl rfl (by kernel_rfl) Tryz.underlying4 hW' hg⟩
theorem historyFolds_said:Rows.HistoryFoldsSaid :=
 OpenClaim.holds_of_cond 4 Tryz.f4 rfl rfl rfl rfl rfl rfl rfl ⟨rfl,rfl,rfl,rfl,rfl⟩ rfl rfl rfl rfl rfl (by kernel_rfl) Tryz.func4 (by kernel_rfl)
  (of_decide_eq_true (by kernel_rfl)) (by unfold Func.isWrapper;first|(rw[if_pos (by decide +kernel)];kernel_rfl)|(rw[if_neg (by decide +kernel)];exact ⟨rfl,rfl⟩))
  (fun os started H enc _ F=>by rw[OpenClaim.pre_eq_preRow];exact historyFolds_lifted os started H enc F)
theorem historyFolds_plain (f : FuncId) (fn : Func) (hf : Tryz.pinned.checked.prog.funcNamed "ropewalk/ropewalklaw17.HistoryFolds" = some f) (hfn : Tryz.pinned.checked.prog.funcs[f]? = some fn) :
    true=Tryz.pinned.checked.prog.looks []∧∀ (j:Nat) t,fn.params[j]? = some t→Tryz.pinned.checked.prog.wantsStandIn t=false:=by
 obtain rfl : f = 4 := Option.some.inj ((show Tryz.prog.funcNamed "ropewalk/ropewalklaw17.HistoryFolds" = some 4 by kernel_rfl).symm.trans hf) |>.symm
 obtain rfl:fn=Tryz.f4:=(Option.some.inj (Tryz.func4.symm.trans hfn)).symm
 refine ⟨by kernel_rfl,fun j t ht=>?_⟩
 have hall:Tryz.f4.params.toList.all (fun t=>!Tryz.prog.wantsStandIn t)=true:=by kernel_rfl
 rw[List.all_eq_true]at hall
 have h2:Tryz.prog.wantsStandIn t=false:=by simpa using hall t (by simpa using Array.mem_of_getElem? ht)
 exact h2
theorem historyFolds_card:Rows.HistoryFoldsCardSaid :=
 Claim7.holds_tied_plain_at .later [] _ _ _ _ historyFolds_said (fun _ h=>by cases h) (by kernel_rfl) (fun _ h=>by cases h) historyFolds_row_tie rfl ⟨rfl,rfl⟩ (by kernel_rfl) rfl historyFolds_plain (by kernel_rfl)
end Go.Proofs.YtnpofobcbfbfnaaGreatDoor
end
