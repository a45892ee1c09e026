/-
 For every input TreeApart answers true and leaves its arguments as they were,where the listed variables hold what the program's text lays.
-/
import Derived.Test.YtfhipjafkdembaaGreatDoorXETr18
import Derived.Test.YtfhipjafkdembaaGreatDoorRwI
set_option linter.unusedSimpArgs false
set_option linter.unusedVariables false
set_option linter.defProp false
set_option linter.unusedSectionVars false

-- ERe9
section
namespace Go.Proofs.YtfhipjafkdembaaGreatDoor
open Go Go.ChangeShapes Go.WideShapes Go.ChangeAt Go.RowKit Go.Rw Go.Lib
open Go.ChangeMaps (open_string shut_string)
set_option maxRecDepth 100000
theorem treeApart_witness (os:Os) {H:Type} (enc:TypeId×Value→H) :
    (OpenSpec.ofChange Rows.treeApartSpec).preRow enc Tryz.prog Tryz.f4 Rows.treeApartRow.domain false Rows.treeApartRow.laid ((kCs os).forCall (fun _ _=>0) ⟨#[],#[.slice none 0 0,.agg #[.int .i64 0,.int .i64 0,.int .i64 0,.string ⟨#[]⟩,.bool false,.slice none 0 0],.agg #[.int .i64 0,.int .i64 0,.int .i64 0,.string ⟨#[]⟩,.bool false,.slice none 0 0]],[]⟩).memory #[.slice none 0 0,.agg #[.int .i64 0,.int .i64 0,.int .i64 0,.string ⟨#[]⟩,.bool false,.slice none 0 0],.agg #[.int .i64 0,.int .i64 0,.int .i64 0,.string ⟨#[]⟩,.bool false,.slice none 0 0]]:=by
 have hw:(DataW.whole enc Tryz.prog ((kCs os).forCall (fun _ _=>0) ⟨#[],#[.slice none 0 0,.agg #[.int .i64 0,.int .i64 0,.int .i64 0,.string ⟨#[]⟩,.bool false,.slice none 0 0],.agg #[.int .i64 0,.int .i64 0,.int .i64 0,.string ⟨#[]⟩,.bool false,.slice none 0 0]],[]⟩).memory Tryz.f4.params.toList Rows.treeApartSpec.vars false #[Value.slice none 0 0,.agg #[.int .i64 0,.int .i64 0,.int .i64 0,.string ⟨#[]⟩,.bool false,.slice none 0 0],.agg #[.int .i64 0,.int .i64 0,.int .i64 0,.string ⟨#[]⟩,.bool false,.slice none 0 0]].toList 8).map (fun x=>(x.1,x.2.1)) =
     some ([.nil,.agg [.lit (.int .i64 0),.lit (.int .i64 0),.lit (.int .i64 0),.lit (.string []),.lit (.bool false),.nil],.agg [.lit (.int .i64 0),.lit (.int .i64 0),.lit (.int .i64 0),.lit (.string []),.lit (.bool false),.nil]],[]):=by kernel_rfl
 obtain ⟨⟨x1,x2,x3⟩,hx,hx1⟩:=Option.map_eq_some_iff.1 hw
 simp only[Prod.mk.injEq]at hx1
 obtain ⟨rfl,rfl⟩:=hx1
 have hl:Rows.treeApartRow.laid=laidL:=by kernel_rfl
 rw[hl]
 exact OpenSpec.preRow_of_cond 8 hx (by kernel_rfl) (fun k hk=>by cases hk) (by kernel_rfl) (laid_met os _)
theorem treeApart_lifted (os:Os) (started:os.Started) (H:Type) (enc:TypeId×Value→H) (F:Stop.Interp) :
    ReturnsInHanded {} Tryz.checked os 4 .any ((OpenSpec.ofChange Rows.treeApartSpec).preRow enc Tryz.prog Tryz.f4 Rows.treeApartRow.domain false Rows.treeApartRow.laid) (((OpenSpec.ofChange Rows.treeApartSpec).at F).post enc Tryz.prog Tryz.f4 false true false false):=by
 refine returnsInHanded_of_row (C:=Tryz.checked) (s:=OpenSpec.ofChange Rows.treeApartSpec) own started (by kernel_rfl) Tryz.func4
  (witness_row_atRef (enc:=enc) (C:=Tryz.checked) false (kCs os) #[.slice none 0 0,.agg #[.int .i64 0,.int .i64 0,.int .i64 0,.string ⟨#[]⟩,.bool false,.slice none 0 0],.agg #[.int .i64 0,.int .i64 0,.int .i64 0,.string ⟨#[]⟩,.bool false,.slice none 0 0]] rfl (by kernel_rfl) (by kernel_rfl) (by kernel_rfl) (treeApart_witness os enc)) ?_
 intro W base args ds gs before hval0 hW _ _ _ hL _ _
 have hval:∀ (j:Nat) t v,Tryz.f4.params[j]? = some t→args[j]? = some v→Value.okWide Tryz.prog W .any base t v:=hval0
 have hW':=hW
 obtain ⟨p,q,hA0,hV,rfl,hfz,hnd⟩:=hW
 have hA:DataW.TrodAll enc Tryz.prog W 0 (fun _=>true) true Tryz.f4.params.toList args.toList ds p:=hA0
 rw[Tryz.params4]at hA hval
 obtain ⟨v0,vs0,d0,ds0,p0,q0,hargs,rfl,rfl,h0,r0⟩:=trodAll_cons hA
 obtain ⟨v1,vs1,d1,ds1,p1,q1,rfl,rfl,rfl,h1,r1⟩:=trodAll_cons r0
 obtain ⟨v2,vs2,d2,ds2,p2,q2,rfl,rfl,rfl,h2,r2⟩:=trodAll_cons r1
 obtain ⟨rfl,rfl,rfl⟩:=trodAll_nil r2
 obtain rfl:args = #[v0,v1,v2]:=Array.ext' hargs
 obtain ⟨rfl,rfl⟩:=trodVars_none hV
 obtain ⟨a0,n0,c0,rfl⟩:=okWide_slice Tryz.underlying22 (hval 0 22 v0 rfl rfl)
 obtain ⟨x0,l0,h0,V0⟩:=open_nodes (by kernel_rfl) ⟨_,_,_,rfl⟩ h0
 obtain ⟨a1,rfl,s1⟩:=okWide_struct Tryz.underlying35 (hval 1 35 v1 rfl rfl)
 obtain ⟨x1,l1,h1,V1⟩:=open_act (by kernel_rfl) h1
 obtain ⟨a2,rfl,s2⟩:=okWide_struct Tryz.underlying35 (hval 2 35 v2 rfl rfl)
 obtain ⟨x2,l2,h2,V2⟩:=open_act (by kernel_rfl) h2
 have hl:Rows.treeApartRow.laid=laidL:=by kernel_rfl
 have htb:=tabs_of (W:=W) (hl ▸ hL)
 have walk:=Good.law apart13_good rfl rfl (i:=(⟨x0,l0,h0⟩,⟨x1,l1,h1⟩,⟨x2,l2,h2⟩)) (fun r h=>h) (W:=W) (vs:=#[.slice a0 n0 c0,.agg a1,.agg a2]) htb rfl (fun k=>by
  match k with
  | 0=>exact V0
  | 1=>exact V1
  | 2=>exact V2
  | k+3=>exact .any _)
 refine walk.mono fun e W' ⟨he,hg⟩=>?_
 subst he
 exact ⟨_,rfl,law_post (tb:=4) laidOut (by kernel_rfl) rfl rfl rfl rfl (by kernel_rfl) Tryz.underlying4 hW' hg⟩
theorem treeApart_said:Rows.TreeApartSaid :=
 OpenClaim.holds_of_cond 4 Tryz.f4 rfl rfl rfl rfl rfl rfl rfl ⟨rfl,rfl,rfl,rfl,rfl⟩ rfl rfl rfl rfl rfl (by kernel_rfl) Tryz.func4 (by kernel_rfl)
  (of_decide_eq_true (by kernel_rfl)) (by unfold Func.isWrapper;first|(rw[if_pos (by decide +kernel)];kernel_rfl)|(rw[if_neg (by decide +kernel)];exact ⟨rfl,rfl⟩))
  (fun os started H enc _ F=>by rw[OpenClaim.pre_eq_preRow];exact treeApart_lifted os started H enc F)
theorem treeApart_plain (f : FuncId) (fn : Func) (hf : Tryz.pinned.checked.prog.funcNamed "ropewalk/ropewalklaw13.TreeApart" = some f) (hfn : Tryz.pinned.checked.prog.funcs[f]? = some fn) :
    true=Tryz.pinned.checked.prog.looks []∧∀ (j:Nat) t,fn.params[j]? = some t→Tryz.pinned.checked.prog.wantsStandIn t=false:=by
 obtain rfl : f = 4 := Option.some.inj ((show Tryz.prog.funcNamed "ropewalk/ropewalklaw13.TreeApart" = some 4 by kernel_rfl).symm.trans hf) |>.symm
 obtain rfl:fn=Tryz.f4:=(Option.some.inj (Tryz.func4.symm.trans hfn)).symm
 refine ⟨by kernel_rfl,fun j t ht=>?_⟩
 have hall:Tryz.f4.params.toList.all (fun t=>!Tryz.prog.wantsStandIn t)=true:=by kernel_rfl
 rw[List.all_eq_true]at hall
 have h2:Tryz.prog.wantsStandIn t=false:=by simpa using hall t (by simpa using Array.mem_of_getElem? ht)
 exact h2
theorem treeApart_card:Rows.TreeApartCardSaid :=
 Claim7.holds_tied_plain_at .later [] _ _ _ _ treeApart_said (fun _ h=>by cases h) (by kernel_rfl) (fun _ h=>by cases h) treeApart_row_tie rfl ⟨rfl,rfl⟩ (by kernel_rfl) rfl treeApart_plain (by kernel_rfl)
end Go.Proofs.YtfhipjafkdembaaGreatDoor
end
