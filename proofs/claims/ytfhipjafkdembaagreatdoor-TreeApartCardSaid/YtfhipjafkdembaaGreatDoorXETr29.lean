/-
 The document's path of a node. Whose kW a transaction touches. The document's children of a node: in the order of their names. Names that are taken: a map whose keys are kW. Plain. A node by itself;a tree of kW. The IDs of a transaction's acts,by a map. law14: what the document fixes. A tree of kW: what Load takes is what is qR. A qR tree's children have one order;what leaves a tree as it is,in a region that draws its order. Is a tree qR. What the document fixes of rebase. RebaseApart answers true. law14: small;TxnAsks answers true. law13: a tree shows its kW. TxnAsks answers true.
-/
import Derived.Test.YtfhipjafkdembaaGreatDoorXETr9
import Derived.Test.YtfhipjafkdembaaGreatDoorXEUk3
import Derived.Test.YtfhipjafkdembaaGreatDoorXEAp4
import Derived.Test.YtfhipjafkdembaaGreatDoorRwO
import Derived.Test.YtfhipjafkdembaaGreatDoorXESh
set_option linter.unusedSimpArgs false
set_option linter.unusedVariables false
set_option linter.defProp false
set_option linter.unusedSectionVars false

-- ETr29
section
namespace Go.Proofs
open Go Go.Rw
set_option maxRecDepth 100000
theorem join_rev (acc:List (List UInt8)) (nm:List UInt8):Lib.join (acc++[nm]).reverse [47]=nm++(if acc=[] then [] else 47::Lib.join acc.reverse [47]):=by
 rw[List.reverse_append,List.reverse_cons,List.reverse_nil,List.nil_append,List.singleton_append]
 by_cases h:acc=[]
 ·subst h;simp[Lib.join_one]
 ·rw[if_neg h]
  obtain ⟨y,r,hr⟩:∃ y r,acc.reverse=y::r:=by
   cases hc:acc.reverse with
   | nil=>exact absurd (List.reverse_eq_nil_iff.1 hc) h
   | cons y r=>exact ⟨y,r,rfl⟩
  rw[hr]
  simp[Lib.join_cons,Lib.joinTail]
theorem join_ne {l:List (List UInt8)} (h:l≠[]) (hn:∀ x∈l,x≠[]):Lib.join l [47]≠[]:=by
 cases l with
 | nil=>exact absurd rfl h
 | cons x r =>
   rw[Lib.join_cons]
   intro hc
   exact hn x (List.mem_cons_self ..) (List.append_eq_nil_iff.1 hc).1
abbrev kEe:Con where
 ι:={ p:List Nd×Int // sndN p.1 }
 args:=fun p=>[.sl 0 5 (kW p.1.1),.v (.int .i64 p.1.2)]
 post:=fun p r=>r=pathR p.1.1 p.1.2
 plain:=true
set_option maxHeartbeats 1000000 in
theorem rpath_good:Rw.Good Tryz.prog 66 kEe:=by
 have hΓ:kL Tryz.prog [(48,kA9)]:=(kJ kBN kK)
 refine k7 (nn:=32) hΓ Tryz.func66 (by kernel_rfl) rfl (show Tryz.f66.results.toList=[.tmp 4,.tmp 5] from rfl) (fun _=>rfl) (fun x=>by simp[AV.erL,AV.er]) ?_
 rintro ⟨⟨l,id⟩,hS⟩
 simp only at hS
 have hl:=hS.len
 simp only[aR,seval]
 by_cases hin:inT l id
 case neg =>
  have h0:¬ id=0:=fun hc=>hin (.inl hc)
  have hh:ndI id l = -1:=by
   unfold ndI
   rw[if_neg]
   intro hc
   exact hin (.inr ((qI l id).2 hc))
  obtain ⟨St,hSt⟩:∃ St:Unit→AS,∀ i,St i=AS.of 32 [(0,.sl 0 5 (kW l)),(1,.v (.int .i64 id)),(6,.v (sv []))] [] []:=⟨_,fun _=>rfl⟩
  refine qH hΓ St (fun _=>0) () (by rw[hSt];refine kR [] [] ?_;simp only[aR,seval]<;>((repeat' apply And.intro)<;>first|rfl|omega|trivial)) ?_
  rintro ⟨⟩
  rw[hSt]
  simp only[aR,seval,h0]
  refine j4 (by simp[kF]) rfl (by omega) ?_
  simp only[aR,seval,hh]
  rw[pathR_no hin]
 obtain ⟨St,hSt⟩:∃ St:{ p:Nat×Int×List (List UInt8) // upN l p.1 p.2.1=0∧inT l p.2.1∧p.2.2++ups l p.1 p.2.1=ups l l.length id }→AS,∀ p,St p=AS.of 32 [(0,.sl 0 5 (kW l)),(1,.v (.int .i64 p.1.2.1)),(6,.v (sv (Lib.join p.1.2.2.reverse [47])))] [] []:=⟨_,fun _=>rfl⟩
 refine qH hΓ St (fun p=>p.1.1) ⟨(l.length,id,[]),kEN hS hin,hin,rfl⟩ (by rw[hSt];refine kR [] [] ?_;simp only[aR,seval,List.reverse_nil,Lib.join_nil]<;>((repeat' apply And.intro)<;>first|rfl|omega|trivial)) ?_
 rintro ⟨⟨k,x,acc⟩,hu,hix,ha⟩
 simp only at hu hix ha
 have hnm:∀ z∈acc,qB z=true:=fun z hz=>kCw hS l.length id hin z (by rw[← ha];exact List.mem_append_left _ hz)
 have hal:acc.length≤l.length:=by
  have h1:=ups_len l l.length id
  rw[← ha,List.length_append]at h1;omega
 have hjl:=joinL_le (c:=47) (n:=20) (l:=acc.reverse) fun z hz=>(kDz (hnm z (List.mem_reverse.1 hz))).1
 rw[List.length_reverse]at hjl
 rw[hSt]
 simp only
 simp only[aR,seval]
 by_cases hx:x=0
 ·subst hx
  have ha2:acc=ups l l.length id:=by
   rw[← ha]
   cases k<;>simp[ups]
  simp only[aR,seval]
  rw[kBB hin,kCT,← ha2]
 have hh:hasN l x=true:=hix.resolve_left hx
 obtain ⟨h1,h2,h3⟩:=kCY hh
 have hn:ndI x l=ndx x l:=by unfold ndI;rw[if_pos h1]
 have e1:=kY l h1
 rw[← h2]at e1
 have hnk:=kDz ((hS.node _ (kAK hh).1).nm)
 cases k with
 | zero=>exact absurd hu hx
 | succ k =>
   rw[ups,if_neg hx]at ha
   simp only[aR,seval,hx]
   refine j4 (by simp[kF]) rfl (by omega) ?_
   rw[hn]
   have hj:=join_rev acc (gN l x).nm
   have hne:acc≠[]→Lib.join acc.reverse [47]≠[]:=fun hc=>join_ne (by rwa [ne_eq,List.reverse_eq_nil_iff]) fun z hz=>by
    have:=(kDz (hnm z (List.mem_reverse.1 hz))).2
    intro hc2;rw[hc2]at this;simp at this
   by_cases hacc:acc=[]
   ·rw[if_pos hacc,List.append_nil]at hj
    subst hacc
    simp only[aR,seval,e1,nA,kI,List.reverse_nil,Lib.join_nil,List.append_nil,kE4 (l:=(gN l x).nm) (r:=[]) (by simp;omega),show ((ndx x l:Int) < 0)=False from eq_false (by omega)]
    (repeat (with_reducible refine And.intro ?_ ?_;focus (first|omega|exact kE|kernel_rfl)))
    refine kP ⟨(k,pf l x,[(gN l x).nm]),hu,pf_in hS,ha⟩ (by simp only;omega) ?_
    rw[hSt];refine kR [] [] ?_
    simp only[aR,seval,pf,List.reverse_singleton,Lib.join_one]<;>((repeat' apply And.intro)<;>first|rfl|omega|trivial)
   ·rw[if_neg hacc]at hj
    have hne:=hne hacc
    generalize Lib.join acc.reverse [47]=str at *
    simp only[aR,seval,e1,nA,kI,hne,kE4 (l:=[47]) (r:=str) (by simp;omega),kE4 (l:=(gN l x).nm) (r:=47::str) (by simp;omega),show ((ndx x l:Int) < 0)=False from eq_false (by omega)]
    (repeat (with_reducible refine And.intro ?_ ?_;focus (first|omega|exact kE|kernel_rfl)))
    refine kP ⟨(k,pf l x,acc++[(gN l x).nm]),hu,pf_in hS,by rw[List.append_assoc];exact ha⟩ (by simp only;omega) ?_
    rw[hSt];refine kR [] [] ?_
    simp only[aR,seval,pf,hj]<;>((repeat' apply And.intro)<;>first|rfl|omega|trivial)
theorem call_rpath {Γ:Env} (hf:Γ.get 66=some kEe) {σ:AS} {dr:Bool} {l:List Nd} {id:Int} {ys:List AV} {t1:Nat} {d:Option Nat} {K:AS→Prop} (hy:ys=kW l) (hS:sndN l)
    (hk:cont σ d (pathR l id) K):kT Tryz.prog Γ dr σ 66 [.sl t1 5 ys,.v (.int .i64 id)] d K:=by
 subst hy
 exact kO (C:=kEe) (i:=⟨(l,id),hS⟩) (r:=pathR l id) hf rfl rfl rfl (by simp[AV.erL,AV.er]) (fun _ h=>h) rfl hk
end Go.Proofs
end
-- EUk9t
section
namespace Go.Proofs
open Go Go.Rw
set_option maxRecDepth 100000
theorem part_ints {k:IntKind} {l:List Int} {i j:Nat} (hj:j≤l.length):kA8 0 1 (ints k l) i j = .sl 0 1 (ints k ((l.drop i).take (j - i))):=by
 unfold kA8
 simp only[kBW]
 split
 ·rename_i h
  obtain ⟨rfl,h2⟩:=h
  rw[List.drop_zero,Nat.sub_zero,List.take_of_length_le (by omega)]
 ·simp[ints,List.map_take,List.map_drop]
theorem vcD_lp {Γ:Env} {Ws:List (Nat×List Nat×List Nat)} {c:Code} {Q:Exit→AS→Prop} {σ:AS} (h:vc Tryz.prog Γ (.loop c) Q σ):vcD Tryz.prog Γ Ws (.loop c) Q σ:=h
end Go.Proofs
end
-- ETr30
section
namespace Go.Proofs
open Go Go.Rw
set_option maxRecDepth 100000
theorem bin_slt {P:Program} {t:TypeId} {x y:Operand} {l r:List UInt8}:binA P .lss t x y (.v (sv l)) (.v (sv r))=some (.v (.bool (decide (l < r)))):=by
 have h:Op.bytesLess l r=decide (l < r):=kAE l r
 simp[sv,binA,binV,eqGuard,binOp,Op.stringOp,res,h]
def bkK (x:Nd) (zs:List Nd):Nat→Nat
 | 0=>0
 | k+1=>if x.nm < (zs.getD k qW).nm then bkK x zs k else k+1
theorem bkK_le (x:Nd) (zs:List Nd):∀ k,bkK x zs k≤k
 | 0=>Nat.le_refl _
 | k+1=>by
   rw[bkK]
   split
   ·exact Nat.le_succ_of_le (bkK_le x zs k)
   ·exact Nat.le_refl _
def insK (x:Nd) (zs:List Nd):List Nd:=zs.take (bkK x zs zs.length)++x::zs.drop (bkK x zs zs.length)
def kAP (par:Int):List Nd→List Nd→List Nd
 | acc,[]=>acc
 | acc,x::r=>kAP par (if x.par=par then insK x acc else acc) r
theorem insK_len (x:Nd) (zs:List Nd):(insK x zs).length=zs.length+1:=by
 have:=bkK_le x zs zs.length
 unfold insK
 simp only[List.length_append,List.length_take,List.length_cons,List.length_drop];omega
theorem part_strs {l:List (List UInt8)} {i j:Nat} (hj:j≤l.length):kA8 0 1 (qX l) i j = .sl 0 1 (qX ((l.drop i).take (j - i))):=by
 unfold kA8
 simp only[zL]
 split
 ·rename_i h
  obtain ⟨rfl,h2⟩:=h
  rw[List.drop_zero,Nat.sub_zero,List.take_of_length_le (by omega)]
 ·simp[qX,List.map_take,List.map_drop]
abbrev kEf:Con where
 ι:={ p:List Nd×Int // p.1.length≤1000000 }
 args:=fun p=>[.sl 0 5 (kW p.1.1),.v (.int .i64 p.1.2)]
 post:=fun p r=>r = .sl 0 1 (ints .i64 ((kAP p.1.2 [] p.1.1).map Nd.id))
set_option maxHeartbeats 4000000 in
theorem rkids_good:Rw.Good Tryz.prog 68 kEf:=by
 have hΓ:kL Tryz.prog []:=kK
 refine k7 (nn:=74) hΓ Tryz.func68 (by kernel_rfl) rfl (show Tryz.f68.results.toList=[.tmp 4] from rfl) (fun _=>rfl) (fun x=>by simp[AV.erL,AV.er]) ?_
 rintro ⟨⟨l,par⟩,hl⟩
 simp only at hl
 simp only[aR,seval,kI]
 obtain ⟨St,hSt⟩:∃ St:{ p:List Nd×Nat // p.2≤l.length∧kAP par p.1 (l.drop p.2)=kAP par [] l∧p.1.length≤p.2 }→AS,∀ p,St p=AS.of 74 [(0,.sl 0 5 (kW l)),(1,.v (.int .i64 par)),(5,.sl 0 1 (qX (p.1.1.map Nd.nm))),(6,.sl 0 1 (ints .i64 (p.1.1.map Nd.id))),(7,.v (.int .i64 p.1.2))] [] []:=⟨_,fun _=>rfl⟩
 refine kDR [(10,[2010],[]),(11,[2010],[])] hΓ St (fun p=>l.length - p.1.2) ⟨([],0),by simp,rfl,by simp⟩ (by rw[hSt];refine kR [] [] ?_;simp only[aR,seval,ints,qX,List.map_nil]<;>((repeat' apply And.intro)<;>first|rfl|omega|trivial)) ?_
 rintro ⟨⟨acc,i⟩,hi,hf,hlen⟩
 simp only at hi hf hlen
 rw[hSt]
 simp only
 simp only[aR,seval,kS,kI]
 (with_reducible first|refine kG (fun h=>?_) (fun h=>?_)|refine kH (fun h=>?_) (fun h=>?_))
 ·have hlt:i < l.length:=by omega
  have e1:=kY l hlt
  rw[List.drop_eq_getElem_cons hlt,kAP]at hf
  generalize l[i]=x at *
  have wr1:=kC (n:=(i:Int)+1) (by omega) (by omega)
  by_cases hp:x.par=par
  case neg =>
   rw[if_neg hp]at hf
   simp only[aR,seval,kS,h,e1,nA,kI,hp,wr1]
   (repeat (with_reducible refine And.intro ?_ ?_;focus (first|omega|exact kE|kernel_rfl)))
   refine kP ⟨(acc,i+1),by simp only;omega,hf,by simp only;omega⟩ (by simp only;omega) ?_
   rw[hSt];refine kR [] [] ?_
   simp only[aR,seval]<;>((repeat' apply And.intro)<;>first|rfl|omega|trivial)
  rw[if_pos hp]at hf
  simp only[aR,seval,kS,h,e1,nA,kI,hp,zL,List.length_map]
  (repeat (with_reducible refine And.intro ?_ ?_;focus (first|omega|exact kE|kernel_rfl)))
  obtain ⟨Sv,hSv⟩:∃ Sv:{ k:Nat // k≤acc.length∧bkK x acc k=bkK x acc acc.length }→AS,∀ k,Sv k=AS.of 74 [(0,.sl 0 5 (kW l)),(1,.v (.int .i64 par)),(5,.sl 0 1 (qX (acc.map Nd.nm))),(6,.sl 0 1 (ints .i64 (acc.map Nd.id))),(7,.v (.int .i64 i)),(8,.v (.int .i64 k.1))] [] []:=⟨_,fun _=>rfl⟩
  refine vcD_lp ?_
  refine qH hΓ Sv (fun k=>k.1) ⟨acc.length,Nat.le_refl _,rfl⟩ (by rw[hSv];refine kR [] [] ?_;simp only[aR,seval,List.length_map]<;>((repeat' apply And.intro)<;>first|rfl|omega|trivial)) ?_
  rintro ⟨k,hk,hbk⟩
  rw[hSv]
  simp only
  have p1:kA8 0 1 (qX (acc.map Nd.nm)) 0 k = .sl 0 1 (qX ((acc.take k).map Nd.nm)):=by rw[part_strs (by rw[List.length_map];omega)];simp[List.map_take]
  have p2:kA8 0 1 (qX (acc.map Nd.nm)) k acc.length = .sl 0 1 (qX ((acc.drop k).map Nd.nm)):=by rw[part_strs (by rw[List.length_map];omega),List.take_of_length_le (by simp)];simp[List.map_drop]
  have p3:kA8 0 1 (ints .i64 (acc.map Nd.id)) 0 k = .sl 0 1 (ints .i64 ((acc.take k).map Nd.id)):=by rw[part_ints (by rw[List.length_map];omega)];simp[List.map_take]
  have p4:kA8 0 1 (ints .i64 (acc.map Nd.id)) k acc.length = .sl 0 1 (ints .i64 ((acc.drop k).map Nd.id)):=by rw[part_ints (by rw[List.length_map];omega),List.take_of_length_le (by simp)];simp[List.map_drop]
  have done:bkK x acc acc.length=k→insK x acc=acc.take k++x::acc.drop k:=fun hc=>by rw[insK,hc]
  have hil:=insK_len x acc
  have hmin:min k acc.length=k:=by omega
  cases k with
  | zero =>
    have hin:=done hbk.symm
    simp only[aR,seval,zL,List.length_map,kBW]
    (repeat (with_reducible refine And.intro ?_ ?_;focus (first|omega|exact kE|kernel_rfl)))
    simp only[aR,seval,kS,zL,kBW,e1,nA,kI,List.map_cons,List.map_nil,List.length_map,p1,p2,p3,p4,List.length_append,List.length_take,List.length_drop,List.length_cons,List.length_nil]
    (repeat (with_reducible refine And.intro ?_ ?_;focus (first|omega|exact kE|kernel_rfl)))
    refine kP ⟨(insK x acc,i+1),by simp only;omega,hf,by simp only;omega⟩ (by simp only;omega) ?_
    rw[hSt];refine kR [] [] ?_
    simp only[aR,seval,hin,wr1,qX,ints,List.map_cons,List.map_nil,List.map_append,List.nil_append,List.append_assoc,List.cons_append,List.take_zero,List.drop_zero]<;>((repeat' apply And.intro)<;>first|rfl|omega|trivial)
  | succ k =>
    have hkt:k < acc.length:=by omega
    have e3:(qX (acc.map Nd.nm)).getD k .any = .v (sv acc[k].nm):=by rw[kBE (by rw[List.length_map];exact hkt),List.getElem_map]
    have hw:IntKind.wrap .i64 (((k+1:Nat):Int) - 1)=k:=by rw[kC (by omega) (by omega)];omega
    have hgd:acc.getD k qW=acc[k]:=by rw[List.getD_eq_getElem?_getD,List.getElem?_eq_getElem hkt];rfl
    rw[bkK,hgd]at hbk
    generalize acc[k]=y at *
    have hp2:((k+1:Nat):Int) > 0:=by omega
    simp only[aR,seval,zL,hw,e3,hp2,e1,nA,kI,List.length_map,bin_slt]
    (repeat (with_reducible refine And.intro ?_ ?_;focus (first|omega|exact kE|kernel_rfl)))
    (with_reducible first|refine kG (fun h3=>?_) (fun h3=>?_)|refine kH (fun h3=>?_) (fun h3=>?_))
    ·rw[if_pos h3]at hbk
     simp only[aR,seval,kS,h3,hw]
     refine kP ⟨k,by omega,hbk⟩ (by simp only;omega) ?_
     rw[hSv];refine kR [] [] ?_
     simp only[aR,seval]<;>((repeat' apply And.intro)<;>first|rfl|omega|trivial)
    ·rw[if_neg h3]at hbk
     have hin:=done hbk.symm
     simp only[aR,seval,kS,h3,zL,kBW,e1,nA,kI,List.map_cons,List.map_nil,List.length_map,p1,p2,p3,p4,List.length_append,List.length_take,List.length_drop,List.length_cons,List.length_nil,hmin]
     (repeat (with_reducible refine And.intro ?_ ?_;focus (first|omega|exact kE|kernel_rfl)))
     refine kP ⟨(insK x acc,i+1),by simp only;omega,hf,by simp only;omega⟩ (by simp only;omega) ?_
     rw[hSt];refine kR [] [] ?_
     simp only[aR,seval,hin,wr1,qX,ints,List.map_cons,List.map_nil,List.map_append,List.nil_append,List.append_assoc,List.cons_append,List.take_zero,List.drop_zero]<;>((repeat' apply And.intro)<;>first|rfl|omega|trivial)
 ·rw[List.drop_of_length_le (by omega),kAP]at hf
  simp only[aR,seval,kS,h]
  rw[hf]
end Go.Proofs
end
-- ETr20
section
namespace Go.Proofs
open Go Go.Rw
set_option maxRecDepth 100000
abbrev Ky:=Int×List UInt8
def kV (p:Ky):Value:=nV ⟨0,p.1,p.2,false,[]⟩
def entL:List (Ky×Int)→Nat→List MapEntry
 | [],_=>[]
 | (p,c)::r,i=>{ key:=kV p,val:=.int .i64 c,born:=i }::entL r (i+1)
structure NM (es:Array MapEntry) (cl:Nat) (ps:List (Ky×Int)):Prop where
 es:es.toList=entL ps 0
 cl:cl=ps.length
 nd:(ps.map Prod.fst).Nodup
def fndP (p:Ky):List (Ky×Int)→Nat→Option (Nat×Value)
 | [],_=>none
 | (q,c)::r,i=>if q=p then some (i,.int .i64 c) else fndP p r (i+1)
theorem equal_kV (p q:Ky):calm Tryz.prog (Op.equal 42 (kV p) (kV q))=some (decide (p=q)):=by
 have e:Op.maxDepth=9998+2:=rfl
 have h:=calm_eq5 (P:=Tryz.prog) (d:=9998) (t:=42) (ti:=3) (ts:=9) (tb:=4) (k:=.i64) (a:=0) (a':=0) (b:=p.1) (b':=q.1) (s:=p.2) (s':=q.2) (q:=false) (q':=false) (u:=[]) (u':=[]) (by kernel_rfl) (by kernel_rfl) (by kernel_rfl) (by kernel_rfl) (by kernel_rfl)
 unfold Op.equal
 rw[e]
 refine h.trans ?_
 congr 1
 obtain ⟨p1,p2⟩:=p
 obtain ⟨q1,q2⟩:=q
 by_cases h1:p1=q1<;>by_cases h2:p2=q2<;>simp[h1,h2]
theorem ask_all (p:Ky):∀ (ps:List (Ky×Int)) (n i:Nat),calm Tryz.prog (Instr.findAsking 42 (kV p) (entL ps n) i)=some (fndP p ps i)
 | [],n,i=>rfl
 | (q,c)::r,n,i=>by
   rw[entL,Instr.findAsking,k6,equal_kV,Option.bind_some,fndP]
   by_cases h:p=q
   ·subst h;simp
   ·rw[decide_eq_false h,if_neg (Ne.symm h)]
    simpa using ask_all p r (n+1) (i+1)
theorem chk_kV (b:Bool) (p:Ky):calm Tryz.prog (Instr.checkKey b 10000 42 (kV p))=some ():=by
 obtain ⟨p1,p2⟩:=p
 rfl
theorem und_kV:Tryz.prog.underlying 82=some (.map 42 3):=by kernel_rfl
theorem ask_nm {es:Array MapEntry} {cl:Nat} {ps:List (Ky×Int)} (h:NM es cl ps) (b:Bool) (p:Ky):askK Tryz.prog 82 b (kV p) es.toList=some (fndP p ps 0):=by
 unfold askK
 rw[und_kV]
 simp only
 rw[chk_kV,Option.bind_some,h.es]
 unfold Instr.findKey
 obtain ⟨fs,hu⟩:∃ fs,Tryz.prog.underlying 42=some (.struct fs):=by
  have h5:is5 Tryz.prog 42 3 9 4=true:=by kernel_rfl
  unfold is5 at h5
  split at h5
  ·exact ⟨_,by assumption⟩
  ·cases h5
 rw[k6]
 simp only[underlying,k6,qF,Option.bind_some,hu]
 cases ps with
 | nil=>simp [entL,Instr.findNow,fndP,zU]
 | cons q r =>
   obtain ⟨q,c⟩:=q
   have:Instr.findNow (.struct fs) (kV p) (entL ((q,c)::r) 0) 0=none:=rfl
   simp only[zU,Option.bind_some,this]
   exact ask_all p _ 0 0
def cntK (p:Ky):List (Ky×Int)→Int
 | []=>0
 | (q,c)::r=>if q=p then c else cntK p r
theorem kEk {p:Ky}:∀ {ps:List (Ky×Int)} {n i:Nat} {v:Value},fndP p ps n=some (i,v)→∃ j c,i=n+j∧ps[j]? = some (p,c)∧v = .int .i64 c∧cntK p ps=c
 | [],n,i,v,h=>by cases h
 | (q,c)::r,n,i,v,h=>by
   rw[fndP]at h
   split at h
   ·rename_i hq
    subst hq
    cases h
    exact ⟨0,c,by omega,rfl,rfl,by rw[cntK,if_pos rfl]⟩
   ·rename_i hq
    obtain ⟨j,c2,h1,h2,h3,h4⟩:=kEk h
    exact ⟨j+1,c2,by omega,by simpa using h2,h3,by rw[cntK,if_neg hq,h4]⟩
theorem kDS {p:Ky}:∀ {ps:List (Ky×Int)} {n:Nat},fndP p ps n=none→p ∉ ps.map Prod.fst∧cntK p ps=0
 | [],n,_=>by simp [cntK]
 | (q,c)::r,n,h=>by
   rw[fndP]at h
   split at h
   ·cases h
   ·rename_i hq
    obtain ⟨h1,h2⟩:=kDS h
    refine ⟨?_,by rw[cntK,if_neg hq,h2]⟩
    simp only[List.map_cons,List.mem_cons,not_or]
    exact ⟨fun hc=>hq hc.symm,h1⟩
theorem look_nm {es:Array MapEntry} {cl:Nat} {ps:List (Ky×Int)} (h:NM es cl ps) (p:Ky):lookS Tryz.prog 82 (kV p) es false=some (.v (.int .i64 (cntK p ps))):=by
 unfold lookS
 rw[ask_nm h]
 cases hf:fndP p ps 0 with
 | none =>
   have e1:kCV Tryz.prog 82=some 3:=by kernel_rfl
   have e2:kAJ Tryz.prog 3=some (.v (.int .i64 0)):=by kernel_rfl
   simp only[e1,e2,Option.map_some,(kDS hf).2]
   rfl
 | some q =>
   obtain ⟨i,v⟩:=q
   obtain ⟨j,c,_,_,rfl,h4⟩:=kEk hf
   rw[h4];rfl
theorem entL_len:∀ (ps:List (Ky×Int)) (n:Nat),(entL ps n).length=ps.length
 | [],_=>rfl
 | (p,c)::r,n=>by simp [entL,entL_len r]
theorem entL_get:∀ (ps:List (Ky×Int)) (n j:Nat),(entL ps n)[j]? = (ps[j]?).map fun q=>{ key:=kV q.1,val:=.int .i64 q.2,born:=n+j }
 | [],_,_=>by simp [entL]
 | (p,c)::r,n,0=>by simp [entL]
 | (p,c)::r,n,j+1=>by
   simp only[entL,List.getElem?_cons_succ]
   rw[entL_get r (n+1) j]
   cases r[j]? with
   | none=>rfl
   | some q=>simp only [Option.map_some];congr 2;omega
theorem entL_app (ps:List (Ky×Int)) (p:Ky) (c:Int) (n:Nat):entL (ps++[(p,c)]) n=entL ps n++[{ key:=kV p,val:=.int .i64 c,born:=n+ps.length }]:=by
 induction ps generalizing n with
 | nil=>rfl
 | cons q r ih =>
   obtain ⟨q,d⟩:=q
   simp only[List.cons_append,entL,ih,List.length_cons]
   congr 3;congr 1;omega
def layK (p:Ky) (ps:List (Ky×Int)):List (Ky×Int):=if (fndP p ps 0).isSome then ps else ps++[(p,0)]
theorem ba_beq (d:Array UInt8):((⟨d⟩:ByteArray) == ⟨d⟩)=true:=(beq_self_eq_true d:(d == d)=true)
theorem same_kV (p:Ky):Instr.sameBits 10000 (kV p) (kV p)=true:=by
 obtain ⟨p1,p2⟩:=p
 simp[kV,nV,Instr.sameBits,sv,ba_beq]
theorem cnt_app {p:Ky}:∀ {ps:List (Ky×Int)},p ∉ ps.map Prod.fst→cntK p (ps++[(p,0)])=0
 | [],_=>by simp [cntK]
 | (q,c)::r,h=>by
   simp only[List.map_cons,List.mem_cons,not_or]at h
   rw[List.cons_append,cntK,if_neg (Ne.symm h.1),cnt_app h.2]
theorem get_es {es:Array MapEntry} {cl:Nat} {ps:List (Ky×Int)} (h:NM es cl ps) (j:Nat):es[j]? = (ps[j]?).map fun q=>{ key:=kV q.1,val:=.int .i64 q.2,born:=j }:=by
 rw[← Array.getElem?_toList,h.es,entL_get]
 simp
theorem size_nm {es:Array MapEntry} {cl:Nat} {ps:List (Ky×Int)} (h:NM es cl ps):es.size=ps.length:=by
 rw[← Array.length_toList,h.es,entL_len]
theorem cnt_lay (p:Ky) (ps:List (Ky×Int)):cntK p (layK p ps)=cntK p ps:=by
 unfold layK
 cases hf:fndP p ps 0 with
 | none =>
   obtain ⟨h1,h2⟩:=kDS hf
   simp only[Option.isSome_none,Bool.false_eq_true,if_false]
   rw[cnt_app h1,h2]
 | some q=>rfl
theorem mod_same {es:Array MapEntry} {i:Nat} {e:MapEntry} (h:es[i]? = some e) {k:Value} (hk:e.key=k):(es.modify i fun e=>{ e with key:=k })=es:=by
 apply Array.ext (by simp)
 intro j h1 h2
 rw[Array.getElem_modify]
 split
 ·rename_i hj
  subst hj
  rw[Array.getElem?_eq_getElem h2]at h
  cases h
  subst hk
  rfl
 ·rfl
theorem ent_nm {es:Array MapEntry} {cl:Nat} {ps:List (Ky×Int)} (h:NM es cl ps) (p:Ky):∃ es' cl' i,entA Tryz.prog 82 (kV p) es cl=some (.map es' cl',.tup [.v (.int .i64 (cntK p ps)),.v (.int .i64 (i:Nat))])∧NM es' cl' (layK p ps)∧(layK p ps)[i]? = some (p,cntK p ps):=by
 have hs:=h
 unfold entA
 rw[ask_nm h]
 cases hf:fndP p ps 0 with
 | none =>
   obtain ⟨h1,h2⟩:=kDS hf
   have e1:kCV Tryz.prog 82=some 3:=by kernel_rfl
   have e3:∃ a b c d,tiOf Tryz.prog 3=some ⟨a,b,some (.int .i64 0),c,d⟩:=by
    have:((tiOf Tryz.prog 3).bind fun ti=>ti.zero)=some (.int .i64 0):=by kernel_rfl
    obtain ⟨ti,q1,q2⟩:=Option.bind_eq_some_iff.1 this
    obtain ⟨a,b,z,c,d⟩:=ti
    simp only at q2
    subst q2
    exact ⟨a,b,c,d,q1⟩
   obtain ⟨a,b,c,d,e3⟩:=e3
   have hl:layK p ps=ps++[(p,0)]:=by unfold layK;rw[hf];rfl
   refine ⟨es.push { key:=kV p,val:=.int .i64 0,born:=cl },cl+1,cl,?_,?_,?_⟩
   ·simp only[e1,e3,h2];rfl
   ·rw[hl]
    refine ⟨?_,by rw[h.cl];simp,?_⟩
    ·rw[Array.toList_push,h.es,entL_app,h.cl];simp
    ·rw[List.map_append,List.nodup_append]
     refine ⟨h.nd,by simp,fun x hx y hy=>?_⟩
     simp only[List.map_cons,List.map_nil,List.mem_singleton]at hy
     subst hy
     rintro rfl
     exact h1 hx
   ·rw[hl,h.cl,h2];simp
 | some q =>
   obtain ⟨i,v⟩:=q
   obtain ⟨j,c,h1,h2,rfl,h4⟩:=kEk hf
   rw[Nat.zero_add]at h1
   subst h1
   have hl:layK p ps=ps:=by unfold layK;rw[hf];rfl
   have hg:es[i]? = some { key:=kV p,val:=.int .i64 c,born:=i }:=by rw[get_es h,h2];rfl
   refine ⟨es,cl,i,?_,by rw[hl];exact h,by rw[hl,h4];exact h2⟩
   simp only[hg,Option.map_some,Option.getD_some,same_kV,if_true,mod_same hg rfl,h4]
   rfl
theorem put_nm {es:Array MapEntry} {cl:Nat} {ps:List (Ky×Int)} (h:NM es cl ps) {i:Nat} {p:Ky} {c:Int} (hi:ps[i]? = some (p,c)) (c':Int) :
    es.findIdx? (fun e=>(e.born:Int) == ((i:Nat):Int))=some i∧NM (es.modify i fun e=>{ e with val:=.int .i64 c' }) cl (ps.set i (p,c')):=by
 have hlt:=(List.getElem?_eq_some_iff.1 hi).1
 have hsz:=size_nm h
 have hb:∀ (j:Nat) (hj:j < es.size),es[j].born=j:=fun j hj=>by
  have:=get_es h j
  rw[Array.getElem?_eq_getElem hj,List.getElem?_eq_getElem (by omega)]at this
  simp only[Option.map_some,Option.some.injEq]at this
  rw[this]
 refine ⟨?_,?_,by rw[List.length_set];exact h.cl,?_⟩
 ·rw[Array.findIdx?_eq_some_iff_getElem]
  refine ⟨by omega,by rw[hb];simp,fun j hj=>?_⟩
  rw[hb];simp;omega
 ·apply List.ext_getElem?
  intro j
  rw[Array.getElem?_toList,Array.getElem?_modify,entL_get,List.getElem?_set,get_es h]
  by_cases hj:i=j
  ·subst hj
   rw[if_pos rfl,if_pos rfl,if_pos hlt,hi]
   simp
  ·rw[if_neg hj,if_neg hj];simp
 ·have:(ps.set i (p,c')).map Prod.fst=ps.map Prod.fst:=by
    rw[List.map_set]
    apply List.ext_getElem?
    intro j
    rw[List.getElem?_set]
    split
    ·rename_i hj
     subst hj
     rw[List.getElem?_map,hi,List.length_map,if_pos hlt];rfl
    ·rfl
  rw[this];exact h.nd
end Go.Proofs
end
-- ETr21
section
namespace Go.Proofs
open Go Go.Rw
set_option maxRecDepth 100000
def okB (x:Nd):Bool:=decide (1≤x.id∧x.id≤1099511627776) && qB x.nm && (pts x.text).isSome && decide (cnt x.text≤2000) && (!x.dir || decide (x.text=[]))
theorem okB_iff (x:Nd):okB x=true↔okNd x:=by
 unfold okB
 simp only[Bool.and_eq_true,decide_eq_true_eq,Bool.or_eq_true,Bool.not_eq_true']
 constructor
 ·rintro ⟨⟨⟨⟨h1,h2⟩,h3⟩,h4⟩,h5⟩
  exact ⟨h1,h2,fun hd=>by rcases h5 with h5|h5;rw[hd]at h5;cases h5;exact h5,h3,h4⟩
 ·rintro ⟨h1,h2,h3,h4,h5⟩
  refine ⟨⟨⟨⟨h1,h2⟩,h4⟩,h5⟩,?_⟩
  cases hd:x.dir
  ·exact .inl rfl
  ·exact .inr (h3 hd)
abbrev okNCon:Con where
 ι:={ x:Nd // x.nm.length≤1099511627776∧x.text.length≤1099511627776 }
 args:=fun p=>[nA p.1]
 post:=fun p r=>r = .v (.bool (okB p.1))
 plain:=true
set_option maxHeartbeats 1000000 in
theorem okn_good:Rw.Good Tryz.prog 51 okNCon:=by
 have hΓ:kL Tryz.prog [(95,kB0),(30,kAs)]:=(kJ kCG (kJ kCn kK))
 refine k7 (nn:=42) hΓ Tryz.func51 (by kernel_rfl) rfl (show Tryz.f51.results.toList=[.tmp 2] from rfl) (fun _=>rfl) (fun x=>by simp[AV.erL,nA_er]) ?_
 rintro ⟨⟨id,par,nm,dir,tx⟩,hn,ht⟩
 simp only at hn ht
 simp only[aR,seval,nA]
 refine kAv (by simp[kF]) ht ?_
 rw[kBt]
 have e0:okB ⟨id,par,nm,dir,tx⟩=(decide (1≤id∧id≤1099511627776) && qB nm && (pts tx).isSome && decide (cnt tx≤2000) && (!dir || decide (tx=[]))):=rfl
 by_cases h1:id ≥ 1
 case neg =>
  simp only[aR,seval,h1]
  rw[e0,decide_eq_false (by omega)];simp
 by_cases h2:id≤1099511627776
 case neg =>
  simp only[aR,seval,h1,h2]
  rw[e0,decide_eq_false (by omega)];simp
 rw[decide_eq_true (show 1≤id∧id≤1099511627776 from ⟨h1,h2⟩)]at e0
 simp only[aR,seval,h1,h2]
 refine jW (by simp[kF]) hn ?_
 rcases Bool.eq_false_or_eq_true (qB nm) with h3|h3
 case inr=>simp only[aR,seval,h3];rw[e0,h3];rfl
 rw[h3]at e0
 rcases Bool.eq_false_or_eq_true (pts tx).isSome with h4|h4
 case inr =>
  have h4f:((pts tx).isSome=true)=False:=by rw[h4];simp
  simp only[aR,seval,h3,h4f];rw[e0,h4];rfl
 have h4t:((pts tx).isSome=true)=True:=eq_true h4
 rw[h4]at e0
 by_cases h5:(cnt tx:Int)≤2000
 case neg =>
  simp only[aR,seval,h3,h4t,h5];rw[e0,decide_eq_false (by omega)];rfl
 rw[decide_eq_true (show cnt tx≤2000 by omega)]at e0
 cases dir
 ·simp only[aR,seval,h3,h4t,h5];rw[e0];rfl
 ·simp only[aR,seval,h3,h4t,h5];rw[e0];rfl
end Go.Proofs
end
-- ETr14
section
namespace Go.Proofs
open Go Go.Rw
set_option maxRecDepth 100000
structure CI where
 es:Array MapEntry
 cl:Nat
 ps:List (Int×Value)
 h:MapG es cl ps
 v:∀ p∈ps,∃ c,p.2 = .int .i64 c
 b:∀ p∈ps,-9223372036854775808≤p.1∧p.1≤9223372036854775807
end Go.Proofs
end
-- ETr15
section
namespace Go.Proofs
open Go Go.Rw
set_option maxRecDepth 100000
def ts0:TS:=⟨#[],0,[],tm_empty⟩
section
variable {Γ:Env} {n:Nat} {t:Nat→AV} {hd:Nat→Nat→AV} {d:Option Nat} {K:AS→Prop}
variable {nh nl:Nat} {h:Nat→Option AO} {fm:Nat→Nat} {lv:Nat→Option (Nat×Nat)} {mu:Bool}
theorem call_tnew (hC:Γ.get 28=none)
    (hk:cont ⟨n,t,hd,⟨nh+2,upd (upd h nh (some (.cells [.mp (nh+1)]))) (nh+1) (some (.map #[] 0)),nl,fm,lv,mu⟩⟩ d (.ptr nh 0) K):kT Tryz.prog Γ false ⟨n,t,hd,⟨nh,h,nl,fm,lv,mu⟩⟩ 28 [] d K:=by
 refine kFh tnew_good hC () [] ⟨by simp,by simp[dnL],by simp[dnOs],rfl,rfl⟩ ?_
 rintro objs lvs r ⟨rfl,rfl,rfl⟩ hl
 have e3:[AO.cells [.mp 1],.map #[] 0].length - ([]:List Nat).length=2:=rfl
 rw[e3]
 simp only[kCK,kBH,kBx,kEW,kBF,kCA,emb_mp,kEg,kEj,obC_nil,kCI,kDY,kBI,kBO,kAz,emb_ptr,List.length_nil,Nat.add_zero]
 exact hk
end
abbrev kEq:Con where
 ι:=Unit
 args:=fun _=>[]
 post:=fun _ r=>r = .v (.bool true)
end Go.Proofs
end
-- ETr22
section
namespace Go.Proofs
open Go Go.Rw
set_option maxRecDepth 100000
theorem set_end {x:Nd}:∀ {m:List Nd},(∀ y∈m,y.id < x.id)→setT x m=m++[x]:=fun {m} h=>by
 have h1:hasN m x.id=false:=by
  rcases Bool.eq_false_or_eq_true (hasN m x.id) with hh|hh
  ·obtain ⟨h2,h3⟩:=kAK hh
   have:=h _ h2
   omega
  ·exact hh
 have h2:∀ {m:List Nd},(∀ y∈m,y.id < x.id)→atN x.id m=m.length:=fun {m}=>by
  induction m with
  | nil=>intro _;rfl
  | cons y m ih =>
    intro h
    rw[atN,if_pos (h y (List.mem_cons_self ..)),ih fun z hz=>h z (List.mem_cons_of_mem _ hz)];rfl
 unfold setT
 rw[h1,if_neg (by decide),h2 h,List.take_length,List.drop_length]
abbrev Ld1 (l:List Nd):={ p:Nat×TS×Int // p.1≤l.length∧p.2.1.l=l.take p.1∧(∀ x∈l.take p.1,okNd x∧x.id≤p.2.2)∧(0≤p.2.2∧p.2.2≤1099511627776)∧(p.2.2=0∨∃ x∈l.take p.1,x.id=p.2.2) }
def kOf (x:Nd):Ky:=(x.par,x.nm)
structure NS where
 es:Array MapEntry
 cl:Nat
 ps:List (Ky×Int)
 h:NM es cl ps
def NI (l:List Nd) (i:Nat) (ps:List (Ky×Int)):Prop:=(∀ k,k∈ps.map Prod.fst↔k∈(l.take i).map kOf)∧((ps.length=i∧((l.take i).map kOf).Nodup)∨(ps.length < i∧¬ ((l.take i).map kOf).Nodup))
def goodP (l:List Nd) (x:Nd):Prop:=(x.par=0∨(gN l x.par).dir=true)∧kAF l l.length x.id=true
abbrev Ld2 (l:List Nd):={ p:Nat×NS // p.1≤l.length∧(∀ x∈l.take p.1,goodP l x)∧NI l p.1 p.2.ps }
abbrev tloadCon:ConO where
 ι:={ l:List Nd // l.length≤1000000∧∀ x∈l,x.nm.length≤1099511627776∧x.text.length≤1099511627776 }
 objs:=fun _=>[]
 args:=fun p=>[.sl 0 5 (kW p.1)]
 post:=fun p objs lvs r=>lvs=[]∧((sndN p.1∧∃ s:TS,s.l=p.1∧objs=tsO (some s)∧r = .tup [.ptr 0 0,.v (.int .i64 0)])∨(¬ sndN p.1∧objs=[]∧r = .tup [.v (.pointer none),.v (.int .i64 1)]))
theorem steady_nm {σ:AS} {ob:Nat} {m:NS} (hob:σ.m.h ob=some (.map m.es m.cl)) {p:Ky} {es':Array MapEntry} {cl':Nat} (h':NM es' cl' (layK p m.ps)) :
    kFb Tryz.prog σ ob (.map es' cl') 82 (.agg [.v (.int .i64 0),.v (.int .i64 p.1),.v (sv p.2),.v (.bool false),.v (sv [])]):=by
 intro r hr
 have hk:keyT Tryz.prog 82=none:=by kernel_rfl
 have tv:toV (.agg [.v (.int .i64 0),.v (.int .i64 p.1),.v (sv p.2),.v (.bool false),.v (sv [])])=some (kV p):=rfl
 have e:(σ.m.setObj ob (.map es' cl')).h ob=some (.map es' cl'):=qK ..
 unfold kB8 at hr ⊢
 simp only[hk,tv,lookK,hob,e]at hr ⊢
 rw[look_nm m.h]at hr
 rw[look_nm h',cnt_lay]
 exact hr
theorem lay_keys (p:Ky) (ps:List (Ky×Int)):(layK p ps).map Prod.fst=if p∈ps.map Prod.fst then ps.map Prod.fst else ps.map Prod.fst++[p]:=by
 unfold layK
 cases hf:fndP p ps 0 with
 | none=>rw [if_neg (kDS hf).1];simp
 | some q =>
   obtain ⟨i,v⟩:=q
   obtain ⟨j,c,_,h2,_,_⟩:=kEk hf
   rw[if_pos (List.mem_map.2 ⟨_,List.mem_of_getElem? h2,rfl⟩)];rfl
theorem set_keys {p:Ky} {ps:List (Ky×Int)} {i:Nat} {c c':Int} (hi:ps[i]? = some (p,c)):(ps.set i (p,c')).map Prod.fst=ps.map Prod.fst:=by
 have hlt:=(List.getElem?_eq_some_iff.1 hi).1
 rw[List.map_set]
 apply List.ext_getElem?
 intro j
 rw[List.getElem?_set]
 split
 ·rename_i hj
  subst hj
  rw[List.getElem?_map,hi,List.length_map,if_pos hlt];rfl
 ·rfl
theorem ni_step {l:List Nd} {i:Nat} {ps:List (Ky×Int)} {x:Nd} (h:NI l i ps) (hx:l.take (i+1)=l.take i++[x]) {ix:Nat} {c c':Int} (hg:(layK (kOf x) ps)[ix]? = some (kOf x,c)):NI l (i+1) ((layK (kOf x) ps).set ix (kOf x,c')):=by
 obtain ⟨h1,h2⟩:=h
 have e:=lay_keys (kOf x) ps
 have e2:=set_keys (c':=c') hg
 have hlen:((layK (kOf x) ps).set ix (kOf x,c')).length=(layK (kOf x) ps).length:=List.length_set
 have hlk:(layK (kOf x) ps).length=((layK (kOf x) ps).map Prod.fst).length:=by rw[List.length_map]
 unfold NI
 rw[e2,hlen,hlk,e,hx,List.map_append]
 by_cases hm:kOf x∈ps.map Prod.fst
 ·rw[if_pos hm]
  refine ⟨fun k=>?_,.inr ⟨by rw[List.length_map];rcases h2 with h2|h2<;>omega,fun hn=>?_⟩⟩
  ·rw[h1,List.mem_append]
   simp only[List.map_cons,List.map_nil,List.mem_singleton]
   constructor
   ·exact .inl
   ·rintro (h|rfl)
    ·exact h
    ·exact (h1 _).1 hm
  ·rw[List.nodup_append]at hn
   exact hn.2.2 _ ((h1 _).1 hm) _ (by simp) rfl
 ·rw[if_neg hm]
  refine ⟨fun k=>?_,?_⟩
  ·rw[List.mem_append,h1,List.mem_append];simp
  ·rw[List.length_append,List.length_map]
   rcases h2 with ⟨h3,h4⟩|⟨h3,h4⟩
   ·refine .inl ⟨by simp;omega,?_⟩
    rw[List.nodup_append]
    refine ⟨h4,by simp,fun a ha b hb=>?_⟩
    simp only[List.map_cons,List.map_nil,List.mem_singleton]at hb
    subst hb
    rintro rfl
    exact hm ((h1 _).2 ha)
   ·refine .inr ⟨by simp;omega,fun hn=>h4 ?_⟩
    rw[List.nodup_append]at hn
    exact hn.1
theorem still_troot {m:AM} {s:TS} (hl:s.l.length≤1000000) {id:Int} {o ob:Nat} (hT:k5 m.h o ob s):Still Tryz.prog m 52 [.ptr o 0,.v (.int .i64 id)] (.v (.bool (kAF s.l s.l.length id))):=by
 obtain ⟨h1,h2,h3⟩:=hT
 refine still_obj troot_good ⟨(s,id),hl⟩ [o,ob] (by simp[h3]) (by simp[dnL,dn]) ?_ rfl ?_ ?_ ?_
 ·simp only[tsO,kBb,kD6,h1,h2,kBP,kDE,kCM,kDb,dn_mp]
  simp
 ·simp[kA6,kAT,h1,h2,kGT,AO.tags,AV.tagsL,AV.tags]
 ·intro nh nl j o' x y ho hx hy
  match j,ho,hx with
  | 0,ho,hx=>cases ho;simp [tsO] at hx;subst hx;rw [h1] at hy;cases hy;rfl
  | 1,ho,hx=>cases ho;simp [tsO] at hx;subst hx;rw [h2] at hy;cases hy;rfl
  | j+2,ho,hx=>cases ho
 ·rintro objs lvs r ⟨h4,h5,h6⟩
  exact ⟨h4,h5,h6,rfl⟩
theorem vq_root {Γ:Env} {n:Nat} {t:Nat→AV} {hd:Nat→Nat→AV} {d:Option Nat} {K:AS→Prop} {nh nl:Nat} {h:Nat→Option AO} {fm:Nat→Nat} {lv:Nat→Option (Nat×Nat)} {mu:Bool} (hC:Γ.get 52=none) {s:TS} (hl:s.l.length≤1000000) {id:Int} {o ob:Nat} (hT:k5 h o ob s)
    (hk:cont ⟨n,t,hd,⟨nh,h,nl,fm,lv,mu⟩⟩ d (.v (.bool (kAF s.l s.l.length id))) K):callQ.callQ2 Tryz.prog Γ d K ⟨n,t,hd,⟨nh,h,nl,fm,lv,mu⟩⟩ (Γ.get 52) 52 [.ptr o 0,.v (.int .i64 id)]:=by
 rw[hC]
 exact ⟨_,still_troot hl hT,hk⟩
theorem snd_keys {l:List Nd} (S:sndN l):(l.map kOf).Nodup:=by
 have h:=S.srt
 unfold srtN at h
 rw[List.pairwise_map]at h
 rw[List.nodup_iff_pairwise_ne,List.pairwise_map,List.pairwise_iff_getElem]
 intro i j hi hj hij he
 have h1:=List.pairwise_iff_getElem.1 h i j hi hj hij
 simp only[kOf,Prod.mk.injEq]at he
 have:=S.sib _ (List.getElem_mem hi) _ (List.getElem_mem hj) he.1 he.2
 omega
theorem root_up {l:List Nd}:∀ (n:Nat) (i:Int),kAF l n i=true→∃ k,upN l k i=0
 | 0,i,h=>⟨0,of_decide_eq_true h⟩
 | n+1,i,h=>by
   rw[kAF]at h
   split at h
   ·exact ⟨0,by assumption⟩
   ·obtain ⟨k,hk⟩:=root_up n _ h
    exact ⟨k+1,hk⟩
theorem tot_le {l:List Nd} (h:∀ x∈l,cnt x.text≤2000):totN l≤2000 * l.length:=by
 induction l with
 | nil=>simp [totN]
 | cons x l ih =>
   have h1:=h x (List.mem_cons_self ..)
   have h2:=ih fun y hy=>h y (List.mem_cons_of_mem _ hy)
   simp only[totN,List.length_cons];omega
theorem load_snd {l:List Nd} (hs:srtN l) (hl:l.length≤100) (hn:∀ x∈l,okNd x) (ht:totN l≤10000) (hk:(l.map kOf).Nodup) (hg:∀ x∈l,goodP l x):sndN l:=by
 refine ⟨hs,hl,hn,ht,fun x hx y hy h1 h2=>?_,fun x hx=>?_,fun x hx=>root_up _ _ (hg x hx).2⟩
 ·obtain ⟨i,hi,rfl⟩:=List.getElem_of_mem hx
  obtain ⟨j,hj,rfl⟩:=List.getElem_of_mem hy
  have he:kOf l[i]=kOf l[j]:=by simp only[kOf,h1,h2]
  rw[List.nodup_iff_pairwise_ne,List.pairwise_map,List.pairwise_iff_getElem]at hk
  rcases Nat.lt_trichotomy i j with h3|h3|h3
  ·exact absurd he (hk i j hi hj h3)
  ·subst h3;rfl
  ·exact absurd he.symm (hk j i hj hi h3)
 ·rcases (hg x hx).1 with h3|h3
  ·exact .inl h3
  ·refine .inr ⟨?_,h3⟩
   rcases Bool.eq_false_or_eq_true (hasN l x.par) with h4|h4
   ·exact h4
   ·rw[gN_at]at h3
    rw[kBc]at h4
    cases h5:atI x.par l with
    | none=>rw [h5] at h3;cases h3
    | some y=>rw [h5] at h4;simp at h4
set_option maxHeartbeats 4000000 in
theorem kGS:jB Tryz.prog 15 tloadCon:=by
 have hΓ:kL Tryz.prog [(51,okNCon)]:=(kJ okn_good kK)
 refine qG (nn:=92) Tryz.func15 (by kernel_rfl) rfl (show Tryz.f15.results.toList=[.tmp 2,.tmp 3] from rfl) (fun _=>rfl) ?_
 rintro ⟨l,hl,ht⟩
 refine qP hΓ (Ws:=[]) _ ?_
 simp only[aR,seval,kA,kB,kD]
 refine call_tnew (by simp[kF,kM]) ?_
 simp only[aR,seval,kA,kB,kD,kI]
 (repeat (with_reducible refine And.intro ?_ ?_;focus (first|omega|exact kE|kernel_rfl)))
 obtain ⟨St,hSt⟩:∃ St:Ld1 l→AS,∀ p,St p=AS.ofH 92 [(0,.sl 0 5 (kW l)),(4,.ptr 0 0),(5,.v (.int .i64 p.1.2.2)),(12,.sl 0 5 (kW l)),(13,.v (.int .i64 l.length)),(14,.v (.int .i64 p.1.1))] [] (tsO (some p.1.2.1)) []:=⟨_,fun _=>rfl⟩
 refine kAd ?_
 refine zQ [] hΓ St (fun p=>l.length - p.1.1) ⟨(0,⟨#[],0,[],tm_empty⟩,0),by simp only;omega,by simp,by simp,by simp only;omega,.inl rfl⟩ (by rw[hSt];refine qA [0,1] [] ?_;simp only[aR,seval,kA,kB,kD]<;>((repeat' apply And.intro)<;>first|rfl|omega|trivial)) ?_
 rintro ⟨⟨i,s,last⟩,hi,hs,hok,hlast,hex⟩
 simp only at hi hs hok hlast hex
 rw[hSt]
 simp only
 simp only[aR,seval,kA,kB,kD,kI]
 (with_reducible first|refine kG (fun h=>?_) (fun h=>?_)|refine kH (fun h=>?_) (fun h=>?_))
 ·have hlt:i < l.length:=by omega
  have e1:=kY l hlt
  have hx:=ht l[i] (List.getElem_mem hlt)
  have hmem:=List.getElem_mem hlt
  have htk:=List.take_succ_eq_append_getElem hlt
  have hsrt:sndN l→∀ y∈l.take i,y.id < l[i].id:=fun S y hy=>by
   obtain ⟨j,hj,rfl⟩:=List.getElem_of_mem hy
   simp only[List.length_take]at hj
   have:=S.srt
   unfold srtN at this
   rw[List.pairwise_map]at this
   rw[List.getElem_take]
   exact List.pairwise_iff_getElem.1 this j i (by omega) hlt (by omega)
  generalize l[i]=x at *
  obtain ⟨id,par,nm,dir,tx⟩:=x
  simp only at hx hsrt
  simp only[aR,seval,kA,kB,kD,h,e1,nA,kI]
  (repeat (with_reducible refine And.intro ?_ ?_;focus (first|omega|exact kE|kernel_rfl)))
  refine kO (C:=okNCon) (i:=⟨⟨id,par,nm,dir,tx⟩,hx⟩) (by simp[kF]) rfl rfl rfl (by simp[AV.erL,AV.er,nA]) (fun _ h=>h) rfl ?_
  have fin:¬ sndN l→tloadCon.post ⟨l,hl,ht⟩ [] [] (.tup [.v (.pointer none),.v (.int .i64 1)]):=fun hn=>⟨rfl,.inr ⟨hn,rfl,rfl⟩⟩
  rcases Bool.eq_false_or_eq_true (okB ⟨id,par,nm,dir,tx⟩) with ho|ho
  case inr =>
   simp only[aR,seval,kA,kB,kD,ho]
   (repeat (with_reducible refine And.intro ?_ ?_;focus (first|omega|exact kE|kernel_rfl)))
   refine kU [] [] [] [] (.tup [.v (.pointer none),.v (.int .i64 1)]) (fin fun S=>by
    have:=(okB_iff _).2 ⟨(S.node _ hmem).id,(S.node _ hmem).nm,(S.node _ hmem).dir,(S.node _ hmem).valid,(S.node _ hmem).cnt⟩
    rw[ho]at this;cases this) ?_
   simp only[aR,seval,kA,kB,kD]<;>((repeat' apply And.intro)<;>first|rfl|omega|trivial)
  have hnd:=(okB_iff _).1 ho
  have hid:=hnd.id
  simp only at hid
  by_cases hle:id≤last
  ·simp only[aR,seval,kA,kB,kD,ho,hle]
   (repeat (with_reducible refine And.intro ?_ ?_;focus (first|omega|exact kE|kernel_rfl)))
   refine kU [] [] [] [] (.tup [.v (.pointer none),.v (.int .i64 1)]) (fin fun S=>by
    rcases hex with hex|⟨y,hy,hye⟩
    ·omega
    ·have:=hsrt S y hy;omega) ?_
   simp only[aR,seval,kA,kB,kD]<;>((repeat' apply And.intro)<;>first|rfl|omega|trivial)
  obtain ⟨es',cl',p1,p2⟩:=put_tm s.h ⟨id,par,nm,dir,tx⟩
  simp only[nV]at p1
  rw[hs,set_end (fun y hy=>by have:=(hok y hy).2;simp only;omega),← htk]at p2
  simp only[aR,seval,kA,kB,kD,ho,hle,p1,kC (n:=(i:Int)+1) (by omega) (by omega)]
  (repeat (with_reducible refine And.intro ?_ ?_;focus (first|omega|exact kE|kernel_rfl)))
  refine kP ⟨(i+1,⟨es',cl',l.take (i+1),p2⟩,id),by simp only;omega,rfl,?_,by simp only;omega,.inr ⟨⟨id,par,nm,dir,tx⟩,by simp only;rw[htk];simp,rfl⟩⟩ (by simp only;omega) ?_
  ·intro y hy
   simp only at hy ⊢
   rw[htk,List.mem_append,List.mem_singleton]at hy
   rcases hy with hy|rfl
   ·exact ⟨(hok y hy).1,by have:=(hok y hy).2;omega⟩
   ·exact ⟨hnd,by simp only;omega⟩
  ·rw[hSt];refine qA [0,1] [] ?_
   simp only[aR,seval,kA,kB,kD]<;>((repeat' apply And.intro)<;>first|rfl|omega|trivial)
 ·have hi2:i=l.length:=by omega
  subst hi2
  rw[List.take_length]at hs hok
  have hok2:∀ x∈l,okNd x:=fun x hx=>(hok x hx).1
  have e1:=kAp s.h
  have e2:=kDf s.h
  have hsr:=s.h.2
  rw[hs]at hsr e1 e2
  simp only[aR,seval,kA,kB,kD,h,kI]
  (repeat (with_reducible refine And.intro ?_ ?_;focus (first|omega|exact kE|kernel_rfl)))
  obtain ⟨St,hSt⟩:∃ St:Ld2 l→AS,∀ p,St p=AS.ofH 92 [(0,.sl 0 5 (kW l)),(4,.ptr 0 0),(8,.mp 2),(38,.sl 0 5 (kW l)),(39,.v (.int .i64 l.length)),(40,.v (.int .i64 p.1.1))] [] (tsO (some s)++[.map p.1.2.es p.1.2.cl]) []:=⟨_,fun _=>rfl⟩
  refine kAd ?_
  refine zQ [] hΓ St (fun p=>l.length - p.1.1) ⟨(0,⟨#[],0,[],⟨rfl,rfl,by simp⟩⟩),by simp only;omega,by simp,by simp[NI]⟩ (by rw[hSt];refine qA [0,1,2] [] ?_;simp only[aR,seval,kA,kB,kD,kI,List.cons_append,List.nil_append]<;>((repeat' apply And.intro)<;>first|rfl|omega|trivial)) ?_
  rintro ⟨⟨i,m⟩,hi,hg,hni⟩
  simp only at hi hg hni
  rw[hSt]
  simp only
  simp only[aR,seval,kA,kB,kD,kI,List.cons_append,List.nil_append]
  (with_reducible first|refine kG (fun h2=>?_) (fun h2=>?_)|refine kH (fun h2=>?_) (fun h2=>?_))
  ·have hlt:i < l.length:=by omega
   have e3:=kY l hlt
   have hmem:=List.getElem_mem hlt
   have htk:=List.take_succ_eq_append_getElem hlt
   generalize l[i]=x at *
   obtain ⟨id,par,nm,dir,tx⟩:=x
   simp only[aR,seval,kA,kB,kD,h2,e3,nA,kI]
   (repeat (with_reducible refine And.intro ?_ ?_;focus (first|omega|exact kE|kernel_rfl)))
   have fin:¬ sndN l→tloadCon.post ⟨l,hl,ht⟩ [] [] (.tup [.v (.pointer none),.v (.int .i64 1)]):=fun hn=>⟨rfl,.inr ⟨hn,rfl,rfl⟩⟩
   by_cases hp:par=0
   ·subst hp
    simp only[aR,seval,kA,kB,]
    (repeat (with_reducible refine And.intro ?_ ?_;focus (first|omega|exact kE|kernel_rfl)))
    refine vq_root (by simp[kF,kM]) (s:=s) (o:=0) (ob:=1) (by rw[hs];omega) (by simp[k5,upd]) ?_
    rw[hs]
    rcases Bool.eq_false_or_eq_true (kAF l l.length id) with hr|hr
    case inr =>
     simp only[aR,seval,kA,kB,hr]
     (repeat (with_reducible refine And.intro ?_ ?_;focus (first|omega|exact kE|kernel_rfl)))
     refine kU [] [] [] [] (.tup [.v (.pointer none),.v (.int .i64 1)]) (fin fun S=>by
      have:=(kE9 S _).2 (kEN S (.inr (kCC hmem)))
      simp only at this
      rw[hr]at this;cases this) ?_
     simp only[aR,seval,kA,kB,kD]<;>((repeat' apply And.intro)<;>first|rfl|omega|trivial)
    have q1:lookS Tryz.prog 82 (.agg #[.int .i64 0,.int .i64 0,sv nm,.bool false,sv []]) m.es false=some (.v (.int .i64 (cntK (0,nm) m.ps))):=look_nm m.h (0,nm)
    obtain ⟨es',cl',ix,n1,n2,n3⟩:=ent_nm m.h (0,nm)
    simp only[aR,seval,kA,kB,hr,q1]
    (repeat (with_reducible refine And.intro ?_ ?_;focus (first|omega|exact kE|kernel_rfl)))
    refine ⟨m.es,m.cl,.map es' cl',_,rfl,n1,steady_nm (m:=m) (p:=(0,nm)) rfl n2,?_⟩
    simp only[aR,seval,kA,kB,hr]
    (repeat (with_reducible refine And.intro ?_ ?_;focus (first|omega|exact kE|kernel_rfl)))
    refine ⟨es',cl',ix,rfl,(put_nm n2 n3 (IntKind.wrap .i64 (cntK (0,nm) m.ps+1))).1,?_⟩
    simp only[aR,seval,kA,kB,hr,kC (n:=(i:Int)+1) (by omega) (by omega)]
    (repeat (with_reducible refine And.intro ?_ ?_;focus (first|omega|exact kE|kernel_rfl)))
    refine kP ⟨(i+1,⟨_,_,_,(put_nm n2 n3 (IntKind.wrap .i64 (cntK (0,nm) m.ps+1))).2⟩),by simp only;omega,?_,ni_step hni htk (x:=⟨id,0,nm,dir,tx⟩) n3⟩ (by simp only;omega) ?_
    ·intro y hy
     simp only at hy
     rw[htk,List.mem_append,List.mem_singleton]at hy
     rcases hy with hy|rfl
     ·exact hg y hy
     ·exact ⟨.inl rfl,hr⟩
    ·rw[hSt];refine qA [0,1,2] [] ?_
     simp only[aR,seval,kA,kB,kD,kI,List.cons_append,List.nil_append]<;>((repeat' apply And.intro)<;>first|rfl|omega|trivial)
   ·rcases Bool.eq_false_or_eq_true (gN l par).dir with hdd|hdd
    case inr =>
     simp only[aR,seval,kA,kB,hp,e1,nA,hdd,kG4]
     (repeat (with_reducible refine And.intro ?_ ?_;focus (first|omega|exact kE|kernel_rfl)))
     refine kU [] [] [] [] (.tup [.v (.pointer none),.v (.int .i64 1)]) (fin fun S=>by
      rcases S.par _ hmem with h5|h5
      ·exact hp h5
      ·simp only at h5;rw[hdd]at h5;cases h5.2) ?_
     simp only[aR,seval,kA,kB,kD]<;>((repeat' apply And.intro)<;>first|rfl|omega|trivial)
    simp only[aR,seval,kA,kB,hp,e1,nA,hdd,kG4]
    (repeat (with_reducible refine And.intro ?_ ?_;focus (first|omega|exact kE|kernel_rfl)))
    refine vq_root (by simp[kF,kM]) (s:=s) (o:=0) (ob:=1) (by rw[hs];omega) (by simp[k5,upd]) ?_
    rw[hs]
    rcases Bool.eq_false_or_eq_true (kAF l l.length id) with hr|hr
    case inr =>
     simp only[aR,seval,kA,kB,hr]
     (repeat (with_reducible refine And.intro ?_ ?_;focus (first|omega|exact kE|kernel_rfl)))
     refine kU [] [] [] [] (.tup [.v (.pointer none),.v (.int .i64 1)]) (fin fun S=>by
      have:=(kE9 S _).2 (kEN S (.inr (kCC hmem)))
      simp only at this
      rw[hr]at this;cases this) ?_
     simp only[aR,seval,kA,kB,kD]<;>((repeat' apply And.intro)<;>first|rfl|omega|trivial)
    have q1:lookS Tryz.prog 82 (.agg #[.int .i64 0,.int .i64 par,sv nm,.bool false,sv []]) m.es false=some (.v (.int .i64 (cntK (par,nm) m.ps))):=look_nm m.h (par,nm)
    obtain ⟨es',cl',ix,n1,n2,n3⟩:=ent_nm m.h (par,nm)
    simp only[aR,seval,kA,kB,hr,q1]
    (repeat (with_reducible refine And.intro ?_ ?_;focus (first|omega|exact kE|kernel_rfl)))
    refine ⟨m.es,m.cl,.map es' cl',_,rfl,n1,steady_nm (m:=m) (p:=(par,nm)) rfl n2,?_⟩
    simp only[aR,seval,kA,kB,hr]
    (repeat (with_reducible refine And.intro ?_ ?_;focus (first|omega|exact kE|kernel_rfl)))
    refine ⟨es',cl',ix,rfl,(put_nm n2 n3 (IntKind.wrap .i64 (cntK (par,nm) m.ps+1))).1,?_⟩
    simp only[aR,seval,kA,kB,hr,kC (n:=(i:Int)+1) (by omega) (by omega)]
    (repeat (with_reducible refine And.intro ?_ ?_;focus (first|omega|exact kE|kernel_rfl)))
    refine kP ⟨(i+1,⟨_,_,_,(put_nm n2 n3 (IntKind.wrap .i64 (cntK (par,nm) m.ps+1))).2⟩),by simp only;omega,?_,ni_step hni htk (x:=⟨id,par,nm,dir,tx⟩) n3⟩ (by simp only;omega) ?_
    ·intro y hy
     simp only at hy
     rw[htk,List.mem_append,List.mem_singleton]at hy
     rcases hy with hy|rfl
     ·exact hg y hy
     ·exact ⟨.inr hdd,hr⟩
    ·rw[hSt];refine qA [0,1,2] [] ?_
     simp only[aR,seval,kA,kB,kD,kI,List.cons_append,List.nil_append]<;>((repeat' apply And.intro)<;>first|rfl|omega|trivial)
  ·have hi2:i=l.length:=by omega
   subst hi2
   have fin:¬ sndN l→tloadCon.post ⟨l,hl,ht⟩ [] [] (.tup [.v (.pointer none),.v (.int .i64 1)]):=fun hn=>⟨rfl,.inr ⟨hn,rfl,rfl⟩⟩
   have hsz:=size_nm m.h
   unfold NI at hni
   rw[List.take_length]at hg hni
   simp only[aR,seval,kA,kB,kD,h2,kI,hsz]
   (repeat (with_reducible refine And.intro ?_ ?_;focus (first|omega|exact kE|kernel_rfl)))
   by_cases c1:(m.ps.length:Int) < l.length
   ·simp only[aR,seval,kA,kB,c1]
    (repeat (with_reducible refine And.intro ?_ ?_;focus (first|omega|exact kE|kernel_rfl)))
    refine kU [] [] [] [] (.tup [.v (.pointer none),.v (.int .i64 1)]) (fin fun S=>by
     rcases hni.2 with h5|h5
     ·omega
     ·exact h5.2 (snd_keys S)) ?_
    simp only[aR,seval,kA,kB,kD]<;>((repeat' apply And.intro)<;>first|rfl|omega|trivial)
   by_cases c2:(l.length:Int) > 100
   ·simp only[aR,seval,kA,kB,c1,c2,kI]
    (repeat (with_reducible refine And.intro ?_ ?_;focus (first|omega|exact kE|kernel_rfl)))
    refine kU [] [] [] [] (.tup [.v (.pointer none),.v (.int .i64 1)]) (fin fun S=>by have:=S.len;omega) ?_
    simp only[aR,seval,kA,kB,kD]<;>((repeat' apply And.intro)<;>first|rfl|omega|trivial)
   simp only[aR,seval,kA,kB,c1,c2,kI]
   (repeat (with_reducible refine And.intro ?_ ?_;focus (first|omega|exact kE|kernel_rfl)))
   have htl:=tot_le (l:=l) fun x hx=>(hok2 x hx).cnt
   refine call_tall (s:=s) (o:=0) (ob:=1) (by simp[kF,kM]) (by rw[hs];exact ⟨by omega,fun x hx=>by have:=(ht x hx).2;omega⟩) (by simp[k5,upd]) ?_
   rw[hs]
   by_cases c3:(totN l:Int) > 10000
   ·simp only[aR,seval,kA,kB,c3]
    (repeat (with_reducible refine And.intro ?_ ?_;focus (first|omega|exact kE|kernel_rfl)))
    refine kU [] [] [] [] (.tup [.v (.pointer none),.v (.int .i64 1)]) (fin fun S=>by have:=S.tot;omega) ?_
    simp only[aR,seval,kA,kB,kD]<;>((repeat' apply And.intro)<;>first|rfl|omega|trivial)
   simp only[aR,seval,kA,kB,c3]
   (repeat (with_reducible refine And.intro ?_ ?_;focus (first|omega|exact kE|kernel_rfl)))
   have hnd:(l.map kOf).Nodup:=by
    rcases hni.2 with h5|h5
    ·exact h5.2
    ·omega
   have hS:sndN l:=load_snd hsr (by omega) hok2 (by omega) hnd hg
   refine kU [0,1] [] (tsO (some s)) [] (.tup [.ptr 0 0,.v (.int .i64 0)]) ⟨rfl,.inl ⟨hS,s,hs,rfl,rfl⟩⟩ ?_
   simp only[aR,seval,kA,kB,kD]<;>((repeat' apply And.intro)<;>first|rfl|omega|trivial)
end Go.Proofs
end
-- ETr31
section
namespace Go.Proofs
open Go Go.Rw
set_option maxRecDepth 100000
theorem bk_lt (x:Nd) (zs:List Nd):∀ k,k≤zs.length→(∀ j,bkK x zs k≤j→j < k→x.nm < (zs.getD j qW).nm)∧(∀ j,j+1=bkK x zs k→¬ x.nm < (zs.getD j qW).nm)
 | 0,_=>⟨by intro j _ h;omega,by intro j h;simp [bkK] at h⟩
 | k+1,hk=>by
   rw[bkK]
   split
   ·rename_i h
    obtain ⟨h1,h2⟩:=bk_lt x zs k (by omega)
    refine ⟨fun j hj hlt=>?_,h2⟩
    by_cases he:j=k
    ·rw[he];exact h
    ·exact h1 j hj (by omega)
   ·rename_i h
    refine ⟨fun j hj hlt=>by omega,fun j hj=>?_⟩
    obtain rfl:j=k:=by omega
    exact h
abbrev byNm (a b:Nd):Prop:=¬ b.nm < a.nm
theorem kGL {a b c:Nd} (h1:byNm a b) (h2:byNm b c):byNm a c:=by
 have h1:=List.not_lt.1 h1
 have h2:=List.not_lt.1 h2
 exact List.not_lt.2 (List.le_trans h1 h2)
theorem insK_sorted {x:Nd} {zs:List Nd} (h:zs.Pairwise byNm):(insK x zs).Pairwise byNm:=by
 obtain ⟨h1,h2⟩:=bk_lt x zs zs.length (Nat.le_refl _)
 have hb:=bkK_le x zs zs.length
 unfold insK
 generalize bkK x zs zs.length=b at *
 have hgd:∀ j (hj:j < zs.length),zs.getD j qW=zs[j]:=fun j hj=>by rw[List.getD_eq_getElem?_getD,List.getElem?_eq_getElem hj];rfl
 have hp:=List.pairwise_iff_getElem.1 h
 have lo:∀ y∈zs.take b,byNm y x:=fun y hy=>by
  obtain ⟨j,hj,rfl⟩:=List.getElem_of_mem hy
  rw[List.length_take]at hj
  rw[List.getElem_take]
  obtain ⟨c,hc⟩:∃ c,b=c+1:=⟨b - 1,by omega⟩
  have h3:=h2 c hc.symm
  rw[hgd c (by omega)]at h3
  by_cases he:j=c
  ·subst he;exact h3
  ·exact kGL (hp j c (by omega) (by omega) (by omega)) h3
 have hi:∀ y∈zs.drop b,byNm x y:=fun y hy=>by
  obtain ⟨j,hj,rfl⟩:=List.getElem_of_mem hy
  rw[List.length_drop]at hj
  rw[List.getElem_drop]
  have h3:=h1 (b+j) (by omega) (by omega)
  rw[hgd _ (by omega)]at h3
  exact fun hc=>List.lt_irrefl _ (List.lt_trans h3 hc)
 rw[List.pairwise_append,List.pairwise_cons]
 refine ⟨h.sublist (List.take_sublist _ _),⟨hi,h.sublist (List.drop_sublist _ _)⟩,fun y hy z hz=>?_⟩
 rcases List.mem_cons.1 hz with rfl|hz
 ·exact lo y hy
 ·exact kGL (lo y hy) (hi z hz)
theorem insK_perm (x:Nd) (zs:List Nd):(insK x zs).Perm (zs++[x]):=by
 unfold insK
 refine List.perm_middle.trans ?_
 rw[List.take_append_drop]
 exact (List.perm_append_comm (l₁:=[x]) (l₂:=zs))
theorem kidsK_ok (par:Int):∀ (l acc:List Nd),acc.Pairwise byNm→(kAP par acc l).Pairwise byNm∧(kAP par acc l).Perm (acc++kept par l)
 | [],acc,h=>⟨h,by simp [kAP,kept]⟩
 | x::l,acc,h=>by
   rw[kAP]
   by_cases hx:x.par=par
   ·rw[if_pos hx]
    obtain ⟨h1,h2⟩:=kidsK_ok par l _ (insK_sorted (x:=x) h)
    refine ⟨h1,h2.trans ?_⟩
    have e:kept par (x::l)=x::kept par l:=by unfold kept;rw[List.filter_cons,if_pos (by simpa using hx)]
    rw[e]
    refine ((insK_perm x acc).append_right _).trans ?_
    rw[List.append_assoc];exact List.Perm.refl _
   ·rw[if_neg hx]
    obtain ⟨h1,h2⟩:=kidsK_ok par l acc h
    have e:kept par (x::l)=kept par l:=by unfold kept;rw[List.filter_cons,if_neg (by simpa using hx)]
    rw[e];exact ⟨h1,h2⟩
theorem kids_eq {l:List Nd} (S:sndN l) {par:Int} {ids:List Int} (h:kidsR par l ids):ids=(kAP par [] l).map Nd.id:=by
 obtain ⟨zs,h1,h2,rfl⟩:=h
 obtain ⟨h3,h4⟩:=kidsK_ok par l [] List.Pairwise.nil
 rw[List.nil_append]at h4
 have hmem:∀ x∈zs,x∈l∧x.par=par:=fun x hx=>by
  have:=h1.mem_iff.1 hx
  unfold kept at this
  rw[List.mem_filter]at this
  exact ⟨this.1,by simpa using this.2⟩
 have hmem2:∀ x∈kAP par [] l,x∈l∧x.par=par:=fun x hx=>hmem x (h1.mem_iff.2 (h4.mem_iff.1 hx))
 have:zs=kAP par [] l:=by
  refine List.Perm.eq_of_pairwise (le:=byNm) (fun x y hx hy a b=>?_) h2 h3 (h1.trans h4.symm)
  obtain ⟨hx1,hx2⟩:=hmem x hx
  obtain ⟨hy1,hy2⟩:=hmem2 y hy
  have hn:x.nm=y.nm:=List.le_antisymm (List.not_lt.1 a) (List.not_lt.1 b)
  have hid:=S.sib x hx1 y hy1 (hx2.trans hy2.symm) hn
  rw[← kF3 S.srt hx1,← kF3 S.srt hy1,hid]
 rw[this]
-- in a region that draws its order
theorem kFx {f:FuncId} {C:ConO} (hG:jB Tryz.prog f C) {m:AM} (i:C.ι) {s:TS} (hobjs:C.objs i=tsO (some s)) {o ob:Nat} (hT:k5 m.h o ob s) {bs:List AV} (ha:dnL [o,ob] bs (C.args i)) (ht:AV.tagsL bs=[]) {r:AV}
    (hk:∀ objs lvs r',C.post i objs lvs r'→objs=C.objs i∧lvs=[]∧r'=r∧r.er=r):Still Tryz.prog m f bs r:=by
 obtain ⟨h1,h2,h3⟩:=hT
 refine still_obj hG i [o,ob] (by simp[h3]) ha ?_ ht ?_ ?_ hk
 ·rw[hobjs]
  simp only[tsO,kBb,kD6,h1,h2,kBP,kDE,kCM,kDb,dn_mp]
  simp
 ·simp[kA6,kAT,h1,h2,kGT,AO.tags,AV.tagsL,AV.tags]
 ·intro nh nl j o' x y ho hx hy
  rw[hobjs]at hx
  match j,ho,hx with
  | 0,ho,hx=>cases ho;simp [tsO] at hx;subst hx;rw [h1] at hy;cases hy;rfl
  | 1,ho,hx=>cases ho;simp [tsO] at hx;subst hx;rw [h2] at hy;cases hy;rfl
  | j+2,ho,hx=>cases ho
section
variable {Γ:Env} {n:Nat} {t:Nat→AV} {hd:Nat→Nat→AV} {d:Option Nat} {K:AS→Prop} {nh nl:Nat} {h:Nat→Option AO} {fm:Nat→Nat} {lv:Nat→Option (Nat×Nat)} {mu:Bool}
theorem vq_child (hC:Γ.get 67=none) {s:TS} (hi:trOk s.l) {par:Int} {nm:List UInt8} {o ob:Nat} (hT:k5 h o ob s)
    (hk:cont ⟨n,t,hd,⟨nh,h,nl,fm,lv,mu⟩⟩ d (.tup [.v (.int .i64 (max 0 (kid par nm s.l))),.v (.bool (decide (0 < kid par nm s.l)))]) K):callQ.callQ2 Tryz.prog Γ d K ⟨n,t,hd,⟨nh,h,nl,fm,lv,mu⟩⟩ (Γ.get 67) 67 [.ptr o 0,.v (.int .i64 par),.v (sv nm)]:=by
 rw[hC]
 exact ⟨_,kFx kFN ⟨(s,par,nm),hi.1,hi.2.1⟩ rfl hT (by simp[dnL,dn]) rfl (fun _ _ _ hp=>⟨hp.1,hp.2.1,hp.2.2,rfl⟩),hk⟩
theorem vq_kids (hC:Γ.get 27=none) {s:TS} (S:sndN s.l) {par:Int} {o ob:Nat} (hT:k5 h o ob s)
    (hk:cont ⟨n,t,hd,⟨nh,h,nl,fm,lv,mu⟩⟩ d (.sl 0 1 (ints .i64 ((kAP par [] s.l).map Nd.id))) K):callQ.callQ2 Tryz.prog Γ d K ⟨n,t,hd,⟨nh,h,nl,fm,lv,mu⟩⟩ (Γ.get 27) 27 [.ptr o 0,.v (.int .i64 par)]:=by
 rw[hC]
 refine ⟨_,kFx kGR ⟨(s,par),(kA0 S).1⟩ rfl hT (by simp[dnL,dn]) rfl ?_,hk⟩
 rintro objs lvs r ⟨h1,ids,h2,h3,h4⟩
 exact ⟨h1,h3,by rw[h4,kids_eq S h2],by simp[AV.er]⟩
theorem call_tkidsS (hC:Γ.get 27=none) {s:TS} {par:Int} (S:sndN s.l) {o ob:Nat} (hT:k5 h o ob s)
    (hk:cont ⟨n,t,hd,⟨nh,h,nl,fm,lv,mu⟩⟩ d (.sl 0 1 (ints .i64 ((kAP par [] s.l).map Nd.id))) K):kT Tryz.prog Γ false ⟨n,t,hd,⟨nh,h,nl,fm,lv,mu⟩⟩ 27 [.ptr o 0,.v (.int .i64 par)] d K:=by
 refine kGh hC (kA0 S).1 hT fun ids h1=>?_
 rw[kids_eq S h1];exact hk
end
end Go.Proofs
end
-- EUk9s
section
namespace Go.Proofs
open Go Go.Rw
set_option maxRecDepth 100000
theorem srt_snoc {l:List Nd} {i:Nat} (h:i < l.length) (h1:srtN (l.take i)) (h2:∀ k,∀ hk:k+1=i,(l[k]'(by omega)).id < l[i].id):srtN (l.take (i+1)):=by
 rw[List.take_succ_eq_append_getElem h,srtN,List.map_append,List.pairwise_append]
 refine ⟨h1,by simp,fun a ha b hb=>?_⟩
 simp only[List.map_cons,List.map_nil,List.mem_singleton]at hb
 subst hb
 cases i with
 | zero=>simp at ha
 | succ k =>
   have h3:=h2 k rfl
   rw[List.take_succ_eq_append_getElem (by omega),srtN,List.map_append,List.pairwise_append]at h1
   rw[List.take_succ_eq_append_getElem (by omega),List.map_append,List.mem_append]at ha
   rcases ha with ha|ha
   ·have:=h1.2.2 a ha l[k].id (by simp)
    omega
   ·simp only[List.map_cons,List.map_nil,List.mem_singleton]at ha
    omega
end Go.Proofs
end
-- EUn7
section
namespace Go.Proofs
open Go Go.Rw
set_option maxRecDepth 100000
end Go.Proofs
end
-- EUk10
section
namespace Go.Proofs
open Go Go.Rw
set_option maxRecDepth 100000
theorem acts_okA {l:List Ac} {m:Int} (hm:m≤1000000) (h2:∀ a∈l,a.nm.length≤9223372036854775807∧kFd a.ops) (h:wF m 0 (wA l)≤m):l.length≤1000000∧∀ a∈l,okA a:=by
 obtain ⟨h3,h4⟩:=acts_ok hm h2 h
 obtain ⟨_,h5⟩:=wF_le (by omega) (wA l) (Int.le_refl 0) h
 exact ⟨h3,fun a ha=>⟨h4 a ha,by have:=(h5 (a.nm.length,a.ops) (List.mem_map.2 ⟨a,ha,rfl⟩)).1;omega⟩⟩
end Go.Proofs
end
-- ETr16
section
namespace Go.Proofs
open Go Go.Rw
set_option maxRecDepth 100000
def kEQ (t:List Nd) (l:List Ac):Bool:=decide (nF 4000 0 t≤4000∧wF 4000 0 (wA l)≤4000∧l.length≤60)
theorem small_acts {t:List Nd} {l:List Ac} (h:kEQ t l=true) (h4:∀ a∈l,a.nm.length≤9223372036854775807∧kFd a.ops):l.length≤60∧∀ a∈l,okA a:=by
 obtain ⟨_,h1,h2⟩:=of_decide_eq_true h
 exact ⟨h2,(acts_okA (by omega) h4 h1).2⟩
end Go.Proofs
end
-- ETr32
section
namespace Go.Proofs
open Go Go.Rw
set_option maxRecDepth 100000
abbrev showsCon:ConO where
 ι:={ s:TS // sndN s.l }
 objs:=fun p=>tsO (some p.1)
 args:=fun p=>[.ptr 0 0,.sl 0 5 (kW p.1.l)]
 post:=fun p objs lvs r=>objs=tsO (some p.1)∧lvs=[]∧r = .v (.bool true)
theorem kDa (par:Int):∀ (l acc:List Nd),(kAP par acc l).length≤acc.length+l.length
 | [],acc=>by simp [kAP]
 | x::l,acc=>by
   rw[kAP]
   split
   ·have:=kDa par l (insK x acc)
    rw[insK_len]at this
    rw[List.length_cons];omega
   ·have:=kDa par l acc
    rw[List.length_cons];omega
set_option maxHeartbeats 8000000 in
theorem shows_good:jB Tryz.prog 19 showsCon:=by
 have hΓ:kL Tryz.prog [(26,zM),(66,kEe),(68,kEf),(43,intsCon)]:=(kJ kFZ (kJ rpath_good (kJ rkids_good (kJ ints_good kK))))
 refine qG (nn:=189) Tryz.func19 (by kernel_rfl) rfl (show Tryz.f19.results.toList=[.tmp 4] from rfl) (fun _=>rfl) ?_
 rintro ⟨s,hS⟩
 have hl:=hS.len
 have hT:=kA0 hS
 refine qP hΓ (Ws:=[]) _ ?_
 simp only[aR,seval,kA,kB,kD]
 refine jH (s:=s) (o:=0) (ob:=1) (by simp[kF,kM]) hT.1 (by simp[k5,upd]) ?_
 simp only[aR,seval,kA,kB,kD]
 (repeat (with_reducible refine And.intro ?_ ?_;focus (first|omega|exact kE|kernel_rfl)))
 refine kBS (by simp[kF]) rfl rfl (by omega) (by omega) ?_
 simp only[aR,seval,kA,kB,kD,decide_true]
 (repeat (with_reducible refine And.intro ?_ ?_;focus (first|omega|exact kE|kernel_rfl)))
 obtain ⟨St,hSt⟩:∃ St:{ i:Nat // i≤s.l.length }→AS,∀ i,St i=AS.ofH 189 [(0,.ptr 0 0),(1,.sl 0 5 (kW s.l)),(5,.v (.int .i64 i.1))] [(0,.ptr 0 0),(1,.mp 1)] (tsO (some s)) []:=⟨_,fun _=>rfl⟩
 refine kAd ?_
 refine zQ [] hΓ St (fun i=>s.l.length - i.1) ⟨0,by omega⟩ (by rw[hSt];refine qA [0,1] [] ?_;simp only[aR,seval,kA,kB,kD]<;>((repeat' apply And.intro)<;>first|rfl|omega|trivial)) ?_
 rintro ⟨i,hle⟩
 rw[hSt]
 simp only
 simp only[aR,seval,kA,kB,kD,kI]
 (with_reducible first|refine kG (fun h=>?_) (fun h=>?_)|refine kH (fun h=>?_) (fun h=>?_))
 ·have hlt:i < s.l.length:=by omega
  have e1:=kY s.l hlt
  have hm:=List.getElem_mem hlt
  generalize s.l[i]=x at *
  have hin:inT s.l x.id:=.inr (kCC hm)
  have g1:=kF3 hS.srt hm
  have g2:=kCC hm
  have hk:=kid_self hS hm
  have hid:=(hS.node x hm).id
  have hmax:max 0 x.id=x.id:=Int.max_eq_right (by omega)
  have hpl:=path_len hS x.id hin
  have hfp:=find_path hS hin
  have hkl:=kDa x.id s.l []
  simp only[List.length_nil]at hkl
  simp only[aR,seval,kA,kB,kD,h,e1,nA,kI]
  (repeat (with_reducible refine And.intro ?_ ?_;focus (first|omega|exact kE|kernel_rfl)))
  refine call_tget (s:=s) (o:=0) (ob:=1) (by simp[kF,kM]) (by simp[k5,upd]) ?_
  rw[g1,g2]
  simp only[aR,seval,kA,kB,kD,e1,nA,kI]
  (repeat (with_reducible refine And.intro ?_ ?_;focus (first|omega|exact kE|kernel_rfl)))
  refine kGG (s:=s) (o:=0) (ob:=1) (by simp[kF,kM]) hS (by simp[k5,upd]) ?_
  rw[kBB hin]
  simp only[aR,seval,kA,kB,kD,e1,nA,kI]
  (repeat (with_reducible refine And.intro ?_ ?_;focus (first|omega|exact kE|kernel_rfl)))
  refine call_rpath (by simp[kF]) rfl hS ?_
  rw[kBB hin]
  simp only[aR,seval,kA,kB,kD,e1,nA,kI]
  (repeat (with_reducible refine And.intro ?_ ?_;focus (first|omega|exact kE|kernel_rfl)))
  refine kGE (s:=s) (o:=0) (ob:=1) (by simp[kF,kM]) hT (by omega) (by simp[k5,upd]) ?_
  rw[hfp,optR]
  simp only[aR,seval,kA,kB,kD,e1,nA,kI]
  (repeat (with_reducible refine And.intro ?_ ?_;focus (first|omega|exact kE|kernel_rfl)))
  refine vq_child (s:=s) (o:=0) (ob:=1) (by simp[kF,kM]) hT (by simp[k5,upd]) ?_
  rw[hk,hmax,decide_eq_true (show 0 < x.id by omega)]
  simp only[aR,seval,kA,kB,kD,e1,nA,kI,node_neq]
  (repeat (with_reducible refine And.intro ?_ ?_;focus (first|omega|exact kE|kernel_rfl)))
  refine vq_kids (s:=s) (o:=0) (ob:=1) (by simp[kF,kM]) hS (by simp[k5,upd]) ?_
  simp only[aR,seval,kA,kB,kD,e1,nA,kI]
  (repeat (with_reducible refine And.intro ?_ ?_;focus (first|omega|exact kE|kernel_rfl)))
  refine kAC (C:=kEf) (i:=⟨(s.l,x.id),by simp only;omega⟩) (r:=.sl 0 1 (ints .i64 ((kAP x.id [] s.l).map Nd.id))) (by simp[kF]) rfl rfl (by simp[AV.erL,AV.er]) rfl (fun _ h=>h) ?_
  simp only[aR,seval,kA,kB,kD]
  (repeat (with_reducible refine And.intro ?_ ?_;focus (first|omega|exact kE|kernel_rfl)))
  refine kO (C:=intsCon) (i:=⟨((kAP x.id [] s.l).map Nd.id,(kAP x.id [] s.l).map Nd.id),by simp only[List.length_map];omega,by simp only[List.length_map];omega⟩) (by simp[kF]) rfl rfl rfl (by simp[AV.erL,AV.er]) (fun _ h=>h) rfl ?_
  simp only[aR,seval,kA,kB,kD,decide_true,kC (n:=(i:Int)+1) (by omega) (by omega)]
  (repeat (with_reducible refine And.intro ?_ ?_;focus (first|omega|exact kE|kernel_rfl)))
  refine kP ⟨i+1,by omega⟩ (by simp only;omega) ?_
  rw[hSt];refine qA [0,1] [] ?_
  simp only[aR,seval,kA,kB,kD]<;>((repeat' apply And.intro)<;>first|rfl|omega|trivial)
 ·have hkl:=kDa 0 s.l []
  simp only[List.length_nil]at hkl
  have n0:hasN s.l 0=false:=no_zero hS
  have p0:kCT s.l 0=[]:=by
   unfold kCT
   cases s.l.length<;>simp[ups,Lib.join_nil]
  simp only[aR,seval,kA,kB,kD,h]
  (repeat (with_reducible refine And.intro ?_ ?_;focus (first|omega|exact kE|kernel_rfl)))
  refine call_tget (s:=s) (o:=0) (ob:=1) (by simp[kF,kM]) (by simp[k5,upd]) ?_
  rw[n0]
  simp only[aR,seval,kA,kB,kD,nA]
  (repeat (with_reducible refine And.intro ?_ ?_;focus (first|omega|exact kE|kernel_rfl)))
  refine kGG (s:=s) (o:=0) (ob:=1) (by simp[kF,kM]) hS (by simp[k5,upd]) ?_
  rw[kBB (.inl rfl),p0]
  simp only[aR,seval,kA,kB,kD]
  (repeat (with_reducible refine And.intro ?_ ?_;focus (first|omega|exact kE|kernel_rfl)))
  refine kGE (s:=s) (p:=[]) (o:=0) (ob:=1) (by simp[kF,kM]) hT (by simp) (by simp[k5,upd]) ?_
  rw[show kEV s.l []=some 0 from rfl,optR]
  simp only[aR,seval,kA,kB,kD]
  (repeat (with_reducible refine And.intro ?_ ?_;focus (first|omega|exact kE|kernel_rfl)))
  refine call_tkidsS (s:=s) (o:=0) (ob:=1) (by simp[kF,kM]) hS (by simp[k5,upd]) ?_
  simp only[aR,seval,kA,kB,kD]
  (repeat (with_reducible refine And.intro ?_ ?_;focus (first|omega|exact kE|kernel_rfl)))
  refine kAC (C:=kEf) (i:=⟨(s.l,0),by simp only;omega⟩) (r:=.sl 0 1 (ints .i64 ((kAP 0 [] s.l).map Nd.id))) (by simp[kF]) rfl rfl (by simp[AV.erL,AV.er]) rfl (fun _ h=>h) ?_
  simp only[aR,seval,kA,kB,kD]
  (repeat (with_reducible refine And.intro ?_ ?_;focus (first|omega|exact kE|kernel_rfl)))
  refine kO (C:=intsCon) (i:=⟨((kAP 0 [] s.l).map Nd.id,(kAP 0 [] s.l).map Nd.id),by simp only[List.length_map];omega,by simp only[List.length_map];omega⟩) (by simp[kF]) rfl rfl rfl (by simp[AV.erL,AV.er]) (fun _ h=>h) rfl ?_
  simp only[aR,seval,kA,kB,kD,decide_true]
  refine kU [0,1] [] (tsO (some s)) [] (.v (.bool true)) ⟨rfl,rfl,rfl⟩ ?_
  simp only[aR,seval,kA,kB,kD]<;>((repeat' apply And.intro)<;>first|rfl|omega|trivial)
section
variable {Γ:Env} {n:Nat} {t:Nat→AV} {hd:Nat→Nat→AV} {d:Option Nat} {K:AS→Prop} {nh nl:Nat} {h:Nat→Option AO} {fm:Nat→Nat} {lv:Nat→Option (Nat×Nat)} {mu:Bool}
theorem kAU (hC:Γ.get 19=none) {s:TS} (S:sndN s.l) {o ob:Nat} (hT:k5 h o ob s) {ys:List AV} (hy:ys=kW s.l)
    (hk:cont ⟨n,t,hd,⟨nh,h,nl,fm,lv,mu⟩⟩ d (.v (.bool true)) K):kT Tryz.prog Γ false ⟨n,t,hd,⟨nh,h,nl,fm,lv,mu⟩⟩ 19 [.ptr o 0,.sl 0 5 ys] d K:=by
 subst hy
 refine jT shows_good hC ⟨s,S⟩ rfl hT (by simp[dnL,dn]) (by simp[AV.tagsL,AV.tags]) (fun _ _ _ hp=>hp.1) ?_
 rintro lvs r ⟨_,rfl,rfl⟩
 exact hk
end
end Go.Proofs
end
-- ETr17
section
namespace Go.Proofs
open Go Go.Rw
set_option maxRecDepth 100000
end Go.Proofs
end
