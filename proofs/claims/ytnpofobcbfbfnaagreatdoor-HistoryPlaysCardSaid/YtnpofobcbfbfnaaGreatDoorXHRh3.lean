/-
 For every input HistoryPlays answers true and leaves its arguments as they were,where the listed variables hold what the program's text lays.
-/
import Derived.Test.YtnpofobcbfbfnaaGreatDoorXHTr22
import Derived.Test.YtnpofobcbfbfnaaGreatDoorXHUr1
import Derived.Test.YtnpofobcbfbfnaaGreatDoorRwI
set_option linter.unusedSimpArgs false
set_option linter.unusedVariables false
set_option linter.unusedSectionVars false

-- HRh3
section
namespace Go.Proofs.YtnpofobcbfbfnaaGreatDoor
open Go Go.ChangeShapes Go.WideShapes Go.ChangeAt Go.RowKit Go.Rw Go.Lib
open Go.ChangeMaps (open_string shut_string)
set_option maxRecDepth 100000
theorem historyPlays_witness (os:Os) {H:Type} (enc:TypeId×Value→H) :
    (OpenSpec.ofChange Rows.historyPlaysSpec).preRow enc Tryz.prog Tryz.f6 Rows.historyPlaysRow.domain false Rows.historyPlaysRow.laid ((kDl os).forCall (fun _ _=>0) ⟨#[],#[.int .i64 0,.slice none 0 0,.int .i64 0,.slice none 0 0,.slice none 0 0],[]⟩).memory #[.int .i64 0,.slice none 0 0,.int .i64 0,.slice none 0 0,.slice none 0 0]:=by
 have hw:(DataW.whole enc Tryz.prog ((kDl os).forCall (fun _ _=>0) ⟨#[],#[.int .i64 0,.slice none 0 0,.int .i64 0,.slice none 0 0,.slice none 0 0],[]⟩).memory Tryz.f6.params.toList Rows.historyPlaysSpec.vars false #[Value.int .i64 0,.slice none 0 0,.int .i64 0,.slice none 0 0,.slice none 0 0].toList 8).map (fun x=>(x.1,x.2.1)) =
     some ([.lit (.int .i64 0),.nil,.lit (.int .i64 0),.nil,.nil],[]):=by kernel_rfl
 obtain ⟨⟨x1,x2,x3⟩,hx,hx1⟩:=Option.map_eq_some_iff.1 hw
 simp only[Prod.mk.injEq]at hx1
 obtain ⟨rfl,rfl⟩:=hx1
 have hl:Rows.historyPlaysRow.laid=laidL:=by kernel_rfl
 rw[hl]
 exact OpenSpec.preRow_of_cond 8 hx (by kernel_rfl) (fun k hk=>by cases hk) (by kernel_rfl) (laid_met os _)
theorem historyPlays_lifted (os:Os) (started:os.Started) (H:Type) (enc:TypeId×Value→H) (F:Stop.Interp) :
    ReturnsInHanded {} Tryz.checked os 6 .any ((OpenSpec.ofChange Rows.historyPlaysSpec).preRow enc Tryz.prog Tryz.f6 Rows.historyPlaysRow.domain false Rows.historyPlaysRow.laid) (((OpenSpec.ofChange Rows.historyPlaysSpec).at F).post enc Tryz.prog Tryz.f6 false true false false):=by
 refine returnsInHanded_of_row (C:=Tryz.checked) (s:=OpenSpec.ofChange Rows.historyPlaysSpec) own started (by kernel_rfl) Tryz.func6
  (witness_row_atRef (enc:=enc) (C:=Tryz.checked) false (kDl os) #[.int .i64 0,.slice none 0 0,.int .i64 0,.slice none 0 0,.slice none 0 0] rfl (by kernel_rfl) (by kernel_rfl) (by kernel_rfl) (historyPlays_witness os enc)) ?_
 intro W base args ds gs before hval0 hW _ _ _ hL _ _
 have hval:∀ (j:Nat) t v,Tryz.f6.params[j]? = some t→args[j]? = some v→Value.okWide Tryz.prog W .any base t v:=hval0
 have hW':=hW
 obtain ⟨p,q,hA0,hV,rfl,hfz,hnd⟩:=hW
 have hA:DataW.TrodAll enc Tryz.prog W 0 (fun _=>true) true Tryz.f6.params.toList args.toList ds p:=hA0
 rw[Tryz.params6]at hA hval
 obtain ⟨v0,vs0,d0,ds0,p0,q0,hargs,rfl,rfl,h0,r0⟩:=trodAll_cons hA
 obtain ⟨v1,vs1,d1,ds1,p1,q1,rfl,rfl,rfl,h1,r1⟩:=trodAll_cons r0
 obtain ⟨v2,vs2,d2,ds2,p2,q2,rfl,rfl,rfl,h2,r2⟩:=trodAll_cons r1
 obtain ⟨v3,vs3,d3,ds3,p3,q3,rfl,rfl,rfl,h3,r3⟩:=trodAll_cons r2
 obtain ⟨v4,vs4,d4,ds4,p4,q4,rfl,rfl,rfl,h4,r4⟩:=trodAll_cons r3
 obtain ⟨rfl,rfl,rfl⟩:=trodAll_nil r4
 obtain rfl:args = #[v0,v1,v2,v3,v4]:=Array.ext' hargs
 obtain ⟨rfl,rfl⟩:=trodVars_none hV
 obtain ⟨x0,rfl,rfl,rfl,w0⟩:=open_int Tryz.underlying3 (hval 0 3 v0 rfl rfl) h0
 have h0:=i64_wf w0
 obtain ⟨a1,n1,c1,rfl⟩:=okWide_slice Tryz.underlying42 (hval 1 42 v1 rfl rfl)
 obtain ⟨x1,l1,h1,V1⟩:=open_nodes (by kernel_rfl) ⟨_,_,_,rfl⟩ h1
 obtain ⟨x2,rfl,rfl,rfl,w2⟩:=open_int Tryz.underlying3 (hval 2 3 v2 rfl rfl) h2
 have h2:=i64_wf w2
 obtain ⟨a3,n3,c3,rfl⟩:=okWide_slice Tryz.underlying34 (hval 3 34 v3 rfl rfl)
 obtain ⟨x3,l3,h3,V3⟩:=open_cms (by kernel_rfl) ⟨_,_,_,rfl⟩ h3
 obtain ⟨x4,V4,b4,m4⟩:=open_row Tryz.underlying60 Tryz.underlying3 (by kernel_rfl) (hval 4 60 v4 rfl rfl) h4
 have hl:Rows.historyPlaysRow.laid=laidL:=by kernel_rfl
 have htb:=tabs_of (W:=W) (hl ▸ hL)
 have walk:=Good.law plays17_good rfl rfl (i:=(⟨x0,h0⟩,⟨x1,l1,h1⟩,⟨x2,h2⟩,⟨x3,l3,h3⟩,⟨x4,m4,fun x hx=>i64_wf (b4 x hx)⟩)) (fun r h=>h) (W:=W) (vs:=#[.int .i64 x0,.slice a1 n1 c1,.int .i64 x2,.slice a3 n3 c3,v4]) htb rfl (fun k=>by
  match k with
  | 0=>exact .v _
  | 1=>exact V1
  | 2=>exact .v _
  | 3=>exact V3
  | 4=>exact V4
  | k+5=>exact .any _)
 refine walk.mono fun e W' ⟨he,hg⟩=>?_
 subst he
 exact ⟨_,rfl,law_post (tb:=4) laidOut (by kernel_rfl) rfl rfl rfl rfl (by kernel_rfl) Tryz.underlying4 hW' hg⟩
theorem historyPlays_said:Rows.HistoryPlaysSaid :=
 OpenClaim.holds_of_cond 6 Tryz.f6 rfl rfl rfl rfl rfl rfl rfl ⟨rfl,rfl,rfl,rfl,rfl⟩ rfl rfl rfl rfl rfl (by kernel_rfl) Tryz.func6 (by kernel_rfl)
  (of_decide_eq_true (by kernel_rfl)) (by unfold Func.isWrapper;first|(rw[if_pos (by decide +kernel)];kernel_rfl)|(rw[if_neg (by decide +kernel)];exact ⟨rfl,rfl⟩))
  (fun os started H enc _ F=>by rw[OpenClaim.pre_eq_preRow];exact historyPlays_lifted os started H enc F)
theorem historyPlays_plain (f : FuncId) (fn : Func) (hf : Tryz.pinned.checked.prog.funcNamed "ropewalk/ropewalklaw17.HistoryPlays" = some f) (hfn : Tryz.pinned.checked.prog.funcs[f]? = some fn) :
    true=Tryz.pinned.checked.prog.looks []∧∀ (j:Nat) t,fn.params[j]? = some t→Tryz.pinned.checked.prog.wantsStandIn t=false:=by
 obtain rfl : f = 6 := Option.some.inj ((show Tryz.prog.funcNamed "ropewalk/ropewalklaw17.HistoryPlays" = some 6 by kernel_rfl).symm.trans hf) |>.symm
 obtain rfl:fn=Tryz.f6:=(Option.some.inj (Tryz.func6.symm.trans hfn)).symm
 refine ⟨by kernel_rfl,fun j t ht=>?_⟩
 have hall:Tryz.f6.params.toList.all (fun t=>!Tryz.prog.wantsStandIn t)=true:=by kernel_rfl
 rw[List.all_eq_true]at hall
 have h2:Tryz.prog.wantsStandIn t=false:=by simpa using hall t (by simpa using Array.mem_of_getElem? ht)
 exact h2
theorem historyPlays_card:Rows.HistoryPlaysCardSaid :=
 Claim7.holds_tied_plain_at .later [] _ _ _ _ historyPlays_said (fun _ h=>by cases h) (by kernel_rfl) (fun _ h=>by cases h) historyPlays_row_tie rfl ⟨rfl,rfl⟩ (by kernel_rfl) rfl historyPlays_plain (by kernel_rfl)
end Go.Proofs.YtnpofobcbfbfnaaGreatDoor
end
