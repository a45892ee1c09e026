/-
 From a contract to a row: arguments opened,told;what is left of the world behind the call. Proved over any program. A slice of structs of two numbers and a text,opened as a list of parts. Proved over any program. A slice of slices of parts,opened as a list of lists. Proved over any program.
-/
import Derived.Test.YtnpofobcbfbfnaaGreatDoorRwE
import Derived.ProofKit
import Derived.OpenShut
import Derived.Carry
import Derived.Test.YtnpofobcbfbfnaaGreatDoorRwF
import Derived.Deep.Slices
set_option linter.unusedSimpArgs false
set_option linter.unusedVariables false
set_option linter.unusedSectionVars false

-- RwRow
namespace Go.Rw
open Go Go.RowKit Go.ChangeShapes Go.WideShapes Go.ChangeAt
def Fw (W:World) (g:Nat):Nat:=match W.heap[g]? with
 | some (.cells c _ _)=>c.size
 | _=>0
theorem Fw_lt {W:World} {g:Nat} (h:0 < Fw W g):g < W.heap.size:=by
 unfold Fw at h
 cases hg:W.heap[g]? with
 | none=>rw [hg] at h;simp at h
 | some o=>exact (Array.getElem?_eq_some_iff.1 hg).1
theorem Fw_cell {W:World} {g i:Nat} {v:Value} (h:W.cell? ⟨g,i,none⟩=some v):i < Fw W g:=by
 unfold Fw
 simp only[World.cell?]at h
 cases hg:W.heap[g]? with
 | none=>rw [hg] at h;cases h
 | some o =>
   rw[hg]at h
   cases o with
   | cells c e f=>simp at h;exact (Array.getElem?_eq_some_iff.1 h).1
   | _=>cases h
theorem Good.law [Tabs] {P:Program} {f:FuncId} {C:Con} (hg:Rw.Good P f C) (ht:C.take=none) (ho:C.own=none) {i:C.ι} (hpost:∀ r,C.post i r→r = .v (.bool true)) {W:World} {vs:Array Value} (htb:TabOk W (k8 none)) (hs:vs.size=(C.args i).length)
    (hv:∀ k,VR (Gin (Fw W) none) W (vs.getD k undef) ((C.args i).getD k .any)):Calls P f vs W fun e w'=>e = .returned (.bool true)∧Below W.heap.size W w':=by
 refine (hg.2 W (Fw W) i vs none (fun g h=>Fw_lt h) htb (by rw[ht];rfl) hs hv).mono ?_
 rintro e w' ⟨v,r,F',ow,rfl,hp,hr,hb,_,_⟩
 rw[hpost r hp]at hr
 rw[hr.v_inv]
 exact ⟨rfl,hb.os,hb.tape,hb.output,hb.size,fun k hk=>hb.block k hk (by rintro ⟨_,h3,_⟩;cases h3)⟩
section
variable [Tabs] {H:Type} {enc:TypeId×Value→H} {P:Program} {W W':World}
omit [Tabs] in
theorem kDg (hl:laidOutB P=true) (hb:Below W.heap.size W W') {sp:Nat→Bool}:∀ {ts:List TypeId} {vs:List Value} {ds:List (DataW H)} {ps:List MemPlace},ts.all (fun t=>P.readableRec t && decide (t < P.types.size))=true →
    DataW.TrodAll enc P W 0 (fun _=>true) true ts vs ds ps→(∀ x∈ps,x.block < W.heap.size)→(∀ x∈ps,sp x.block=true)→DataW.TrodAll enc P W' 0 sp true ts vs ds ps
 | [],vs,ds,ps,_,h,_,_=>by
   obtain ⟨rfl,rfl,rfl⟩:=trodAll_nil h
   exact trodAll_mk0
 | t::ts,vs,ds,ps,hall,h,hlt,hsp=>by
   simp only[List.all_cons,Bool.and_eq_true,decide_eq_true_eq]at hall
   obtain ⟨v,vs',d,ds',p,q,rfl,rfl,rfl,h1,h2⟩:=trodAll_cons h
   exact trodAll_cons_mk (WideElems.Trod_stays hl hall.1.1 hall.1.2 h1 (fun x hx=>hb.same (hlt x (List.mem_append_left _ hx))) fun x hx=>hsp x (List.mem_append_left _ hx))
    (kDg hl hb (by simpa using hall.2) h2 (fun x hx=>hlt x (List.mem_append_right _ hx)) fun x hx=>hsp x (List.mem_append_right _ hx))
omit [Tabs] in
theorem law_post {f:Func} {s:ChangeSpec} {apart fresh handsOn again:Bool} {args:Array Value} {ds gs:List (DataW H)} {before:List MemPlace} {tb:TypeId}
    (hl:laidOutB P=true) (hall:f.params.toList.all (fun t=>P.readableRec t && decide (t < P.types.size))=true) (hvs:s.vars=[]) (hres:(s.fn H (ds++gs)).results=[.lit (.bool true)]) (hargs:(s.fn H (ds++gs)).args=ds)
    (hvars:(s.fn H (ds++gs)).vars=[]) (hrt:f.resultTypes = #[tb]) (htb:P.underlying tb=some .bool) 
    (hW:DataW.Whole enc P f.params.toList s.vars apart W args.toList ds gs before) (hb:Below W.heap.size W W'):s.post enc P f apart fresh handsOn again W args (.bool true) W':=by
 have hW':=hW
 obtain ⟨p,q,hA0,hV,rfl,hfz,hnd⟩:=hW
 have hA:DataW.TrodAll enc P W 0 (fun _=>true) true f.params.toList args.toList ds p:=hA0
 rw[hvs]at hV
 obtain ⟨rfl,rfl⟩:=trodVars_none hV
 have hlt:∀ x∈p,x.block < W.heap.size:=fun x hx=>by simpa using hW'.lt x (by simpa using hx)
 have hbl:∀ x∈p++[],(fun b=>decide (b < W.heap.size)) x.block=true:=fun x hx=>by simpa using hW'.lt x hx
 have ha:∀ sp:Nat→Bool,(∀ x∈p,sp x.block=true)→DataW.TrodAll enc P W' 0 sp true f.params.toList args.toList (s.fn H (ds++[])).args p:=fun sp hs=>by
  rw[hargs];exact kDg hl hb hall hA hlt hs
 have hr:∀ (b:Nat) (sp:Nat→Bool) (hd:Bool),DataW.TrodAll enc P W' b sp hd f.resultTypes.toList ((Value.bool true).resultList f.resultTypes.size) (s.fn H (ds++[])).results []:=fun b sp hd=>by
  rw[hres,hrt]
  exact trodAll_cons_mk (shut_bool htb _) trodAll_mk0
 have hv:∀ sp:Nat→Bool,DataW.TrodVars enc P W' sp s.vars (s.fn H (ds++[])).vars []:=fun sp=>by rw[hvs,hvars];rfl
 refine ⟨ds,[],p++[],[],p,[],hW',hr _ _ _,ha _ (fun x hx=>by simpa using hlt x hx),hv _,World.keptBut_mono (fun x hx=>⟨hx,?_⟩) (hb.frame (·∈ p++[])),fun _=>?_⟩
 ·exact Or.inr (by simpa using hx)
 ·refine ⟨ok_one hrt rfl (okWide_bool_mk htb _),_,_,([]++p)++[],⟨[]++p,[],trodAll_append (ha _ (fun _ _=>rfl)) (hr _ _ _),hv _,rfl,?_,?_⟩,?_⟩
  ·intro b off hp
   have hp2:=hp
   simp only[List.nil_append,List.append_nil]at hp2
   rw[hb.frozen (hlt _ hp2)]
   exact hfz b off (by simpa using hp2)
  ·intro h
   simpa using hnd h
  ·intro x hx _
   simpa using hx
omit [Tabs] in
theorem vr_ints {k:IntKind} {b off len cap:Nat} {zs:List Int} (hc:len≤cap) (hl:zs.length=len) (hcell:∀ i,i < zs.length→W.cell? ⟨b,off+i,none⟩=some (.int k (zs.getD i 0))) :
    VR (Gin (Fw W) none) W (.slice (some ⟨b,off,none⟩) len cap) (.sl 0 1 (ints k zs)):=by
 have e:len=(ints k zs).length:=by rw[ints_len,hl]
 rw[e]at hc ⊢
 have hlen:(ints k zs).length=zs.length:=ints_len
 refine .sl (some ⟨b,off,none⟩) cap 0 1 (ints k zs) b off (fun j=>.int k (zs.getD j 0)) (by simp[Gin]) (by omega) hc ?_ ?_ ?_ (fun _=>by omega) ?_ ?_
 ·intro n e' hn;simp[Gin]at hn
 ·intro hne
  refine ⟨rfl,.inr ((zR _ none b).2 (by rintro ⟨_,h3,_⟩;cases h3)),?_⟩
  have hpos:0 < zs.length:=by
   rcases Nat.eq_zero_or_pos zs.length with h1|h1
   ·exact absurd (List.eq_nil_of_length_eq_zero (by rw[hlen];exact h1)) hne
   ·exact h1
  have:=Fw_cell (hcell (zs.length - 1) (by omega))
  show off+(ints k zs).length * 1≤Fw W b
  omega
 ·intro x hx
  simp only[ints,List.mem_map]at hx
  obtain ⟨q,_,rfl⟩:=hx
  exact ⟨rfl,rfl⟩
 ·intro j hj
  exact ⟨hcell j (by omega),rfl⟩
 ·intro j hj
  rw[kDR,ints_get k zs (by omega)]
  exact .v _
omit [Tabs] in
theorem vr_nil {sz:Nat}:VR (Gin (Fw W) none) W (.slice none 0 0) (.sl 0 sz []) :=
 .sl none 0 0 sz [] 0 0 (fun _=>default) (by simp[Gin]) (by omega) (by simp) (fun n e hn=>by simp[Gin]at hn) (fun h=>absurd rfl h) (by simp) (fun h=>absurd rfl h) (by simp) (by simp)
omit [Tabs] in
theorem vr_empty {A:Option Addr} {cap sz:Nat}:VR (Gin (Fw W) none) W (.slice A 0 cap) (.sl 0 sz []) :=
 .sl A cap 0 sz [] 0 0 (fun _=>default) (by simp[Gin]) (by omega) (by simp) (fun n e hn=>by simp[Gin]at hn) (fun h=>absurd rfl h) (by simp) (fun h=>absurd rfl h) (by simp) (by simp)
omit [Tabs] in
theorem open_row {t e:TypeId} {k:IntKind} {v:Value} {d:DataW H} {ps:List MemPlace} {r:Reach} {b0:Nat} (ht:P.underlying t=some (.slice e)) (he:P.underlying e=some (.int k)) (hc:P.cellsOf e=1)
    (hval:Value.okWide P W r b0 t v) (h:DataW.Trod enc P W 0 (fun _=>true) true t v d ps) :
    ∃ zs:List Int,VR (Gin (Fw W) none) W v (.sl 0 1 (ints k zs))∧(∀ n∈zs,(Lit.int k n).wf=true)∧zs.length≤maxLen:=by
 obtain ⟨a0,len,cap,rfl⟩:=okWide_slice ht hval
 obtain ⟨fuel,hf⟩:=h
 rcases open_ints ht he hc hf with ⟨hcs,hx⟩|⟨a,len',cap',zs,hcs,_,hl,hm,hz,hx,hcell,hwz⟩
 ·simp only[Value.cells,List.cons.injEq,and_true]at hcs
  have h1:(Value.slice a0 len cap) = .slice none 0 0:=by simpa [Value.cells] using hcs
  rw[h1]
  exact ⟨[],vr_nil,by simp,by simp⟩
 ·have h1:(Value.slice a0 len cap) = .slice (some a) len' cap':=by simpa [Value.cells] using hcs
  rw[h1]
  simp only[if_true]at hz
  refine ⟨zs.take len',?_,fun n hn=>hwz n (List.mem_of_mem_take hn),by rw[List.length_take];omega⟩
  by_cases h0:len'=0
  ·subst h0
   exact vr_empty
  ·obtain ⟨g,off,spot⟩:=a
   cases spot with
   | some s =>
     have h2:=hcell 0 (by omega)
     exfalso
     have e1:(⟨g,off,some s⟩:Addr).add 0=⟨g,off,some s⟩:=if_pos rfl
     rw[e1]at h2
     simp only[World.cell?,Option.isSome_some,if_true]at h2
     split at h2<;>cases h2
   | none =>
     refine vr_ints hl (by rw[List.length_take];omega) fun i hi=>?_
     rw[List.length_take]at hi
     have h2:=hcell i (by omega)
     rw[kA7]at h2
     rw[h2]
     simp only[List.getD_eq_getElem?_getD,List.getElem?_take]
     rw[if_pos (by omega)]
end
end Go.Rw
-- RwRow2
namespace Go.Rw
open Go Go.RowKit Go.ChangeShapes Go.WideShapes Go.ChangeAt Go.Deep
def is3 (P:Program) (t ti ts:TypeId):Bool:=match P.underlying t with
 | some (.struct fs)=>match fs.toList with
   | [f1, f2, f3] => (f1.type == ti && (f1.offset == 0 && f1.name != "_")) && ((f2.type == ti && (f2.offset == 1 && f2.name != "_")) && (f3.type == ts && (f3.offset == 2 && f3.name != "_")))
   | _=>false
 | _=>false
section
variable {H:Type} {enc:TypeId×Value→H} {P:Program} {W:World}
end
end Go.Rw
-- RwRow3
namespace Go.Rw
open Go Go.RowKit Go.ChangeShapes Go.WideShapes Go.ChangeAt Go.Deep
section
variable {H:Type} {enc:TypeId×Value→H} {P:Program} {W:World}
end
end Go.Rw
