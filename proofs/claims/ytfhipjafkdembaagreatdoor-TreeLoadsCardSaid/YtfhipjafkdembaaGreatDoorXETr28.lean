/-
 The program's tree: what has a path. The document's path of a node. Whose kW a transaction touches. The document's children of a node: in the order of their names. Names that are taken: a map whose keys are kW. Plain. A node by itself;a tree of kW. The IDs of a transaction's acts,by a map. law14: what the document fixes. A tree of kW: what Load takes is what is qQ. A qQ tree's children have one order;what leaves a tree as it is,in a region that draws its order. Is a tree qQ. What the document fixes of rebase. RebaseApart answers true. law14: small;TxnAsks answers true.
-/
import Derived.Test.YtfhipjafkdembaaGreatDoorXETr8
import Derived.Test.YtfhipjafkdembaaGreatDoorXEUk1
import Derived.Test.YtfhipjafkdembaaGreatDoorRwO
import Derived.Test.YtfhipjafkdembaaGreatDoorXESh
set_option linter.unusedSimpArgs false
set_option linter.unusedVariables false
set_option linter.defProp false
set_option linter.unusedSectionVars false

-- ETr28
section
namespace Go.Proofs
open Go Go.Rw
set_option maxRecDepth 100000
def kC9 (l:List Nd):List (List UInt8)→Int→Option Int
 | [],i=>some i
 | n::r,i=>if 0 < kid i n l then kC9 l r (kid i n l) else none
def kDm (l:List Nd) (p:List UInt8):Option Int:=if p=[] then some 0 else kC9 l (kAZ 47 p) 0
def optR:Option Int→AV
 | some i=>.tup [.v (.int .i64 i),.v (.bool true)]
 | none=>.tup [.v (.int .i64 0),.v (.bool false)]
theorem cuts_len (c:UInt8) (s:List UInt8):(kAZ c s).length≤s.length+1:=by
 have h:=Lib.splitB_length_le ⟨#[c]⟩ 0 (Lib.countB ⟨s.toArray⟩ ⟨#[c]⟩) ⟨s.toArray⟩
 have h2:=Lib.countB_le ⟨#[c]⟩ (Nat.le_refl _) _ ⟨s.toArray⟩ (Nat.le_refl _)
 have e:(Lib.splitB ⟨#[c]⟩ 0 (Lib.countB ⟨s.toArray⟩ ⟨#[c]⟩) ⟨s.toArray⟩).length=(kAZ c s).length:=by
  rw[← List.length_map (f:=(·.data.toList)),Lib.splitB_data];rfl
 have e2:(ByteArray.mk s.toArray).size=s.length:=by simp[ByteArray.size]
 omega
abbrev tfindCon:ConO where
 ι:={ p:Option TS×List UInt8 // (∀ s,p.1=some s→trOk s.l)∧p.2.length≤1000000 }
 objs:=fun p=>tsO p.1.1
 args:=fun p=>[tsA p.1.1,.v (sv p.1.2)]
 post:=fun p objs lvs r=>objs=tsO p.1.1∧lvs=[]∧r=match p.1.1 with
  | none=>.tup [.v (.int .i64 0),.v (.bool false)]
  | some s=>optR (kDm s.l p.1.2)
set_option maxHeartbeats 1000000 in
theorem tfind_good:jC Tryz.prog 25 tfindCon:=by
 have hΓ:kL Tryz.prog []:=kK
 refine qI (nn:=30) Tryz.func25 (by kernel_rfl) rfl (show Tryz.f25.results.toList=[.tmp 4,.tmp 5] from rfl) (fun _=>rfl) ?_
 rintro ⟨⟨s,p⟩,hT,hp⟩
 simp only at hT hp
 refine qP hΓ (Ws:=[]) _ ?_
 cases s with
 | none =>
   simp only[aR,seval,kA,kB,kD]
   refine kR [] [] [] [] (.tup [.v (.int .i64 0),.v (.bool false)]) ⟨rfl,rfl,rfl⟩ ?_
   simp only[aR,seval,kA,kB,kD]<;>((repeat' apply And.intro)<;>first|rfl|omega|trivial)
 | some s =>
   obtain ⟨hi,hpos,hw⟩:=hT s rfl
   simp only[aR,seval,kA,kB,kD]
   by_cases h0:p=[]
   ·subst h0
    simp only[aR,seval,kA,kB,kD]
    refine kR [0,1] [] (tsO (some s)) [] (.tup [.v (.int .i64 0),.v (.bool true)]) ⟨rfl,rfl,rfl⟩ ?_
    simp only[aR,seval,kA,kB,kD]<;>((repeat' apply And.intro)<;>first|rfl|omega|trivial)
   have e0:kDm s.l p=kC9 s.l (kAZ 47 p) 0:=by unfold kDm;rw[if_neg h0]
   have hcl:=cuts_len 47 p
   simp only[aR,seval,kA,kB,kD,h0]
   refine call_split (by simp[kH,kX]) (by omega) ?_
   generalize kAZ 47 p=ns at *
   simp only[aR,seval,kA,kB,kD,zG]
   obtain ⟨St,hSt⟩:∃ St:{ p:Nat×Int // p.1≤ns.length∧kC9 s.l (ns.drop p.1) p.2=kC9 s.l ns 0 }→AS,∀ p,St p=AS.ofH 30 [(0,.ptr 0 0),(4,.v (.int .i64 p.1.2)),(13,.sl 0 1 (qU ns)),(14,.v (.int .i64 ns.length)),(15,.v (.int .i64 p.1.1))] [(0,.ptr 0 0),(1,.mp 1)] (tsO (some s)) []:=⟨_,fun _=>rfl⟩
   refine kBR ?_
   refine jG [] hΓ St (fun p=>ns.length - p.1.1) ⟨(0,0),by simp,rfl⟩ (by rw[hSt];refine qA [0,1] [] ?_;simp only[aR,seval,kA,kB,kD]<;>((repeat' apply And.intro)<;>first|rfl|omega|trivial)) ?_
   rintro ⟨⟨i,id⟩,hle,hf⟩
   simp only at hle hf
   rw[hSt]
   simp only
   simp only[aR,seval,kA,kB,kD]
   (with_reducible first|refine kF (fun h=>?_) (fun h=>?_)|refine kG (fun h=>?_) (fun h=>?_))
   ·have hlt:i < ns.length:=by omega
    have e1:=kAm hlt
    rw[List.drop_eq_getElem_cons hlt,kC9]at hf
    generalize ns[i]=nm at *
    simp only[aR,seval,kA,kB,kD,h,e1,zG]
    (repeat (with_reducible refine And.intro ?_ ?_;focus (first|omega|exact kE|kernel_rfl)))
    refine kCH (s:=s) (o:=0) (ob:=1) (by simp[kH,kX]) hi hpos (by simp[k8,upd]) ?_
    by_cases hk:0 < kid id nm s.l
    ·rw[if_pos hk]at hf
     have hm:max 0 (kid id nm s.l)=kid id nm s.l:=Int.max_eq_right (by omega)
     simp only[aR,seval,kA,kB,kD,hk,hm,kC (n:=(i:Int)+1) (by omega) (by omega)]
     (repeat (with_reducible refine And.intro ?_ ?_;focus (first|omega|exact kE|kernel_rfl)))
     refine kO ⟨(i+1,kid id nm s.l),by simp only;omega,hf⟩ (by simp only;omega) ?_
     rw[hSt];refine qA [0,1] [] ?_
     simp only[aR,seval,kA,kB,kD]<;>((repeat' apply And.intro)<;>first|rfl|omega|trivial)
    ·rw[if_neg hk]at hf
     simp only[aR,seval,kA,kB,kD,hk]
     (repeat (with_reducible refine And.intro ?_ ?_;focus (first|omega|exact kE|kernel_rfl)))
     refine kR [0,1] [] (tsO (some s)) [] (.tup [.v (.int .i64 0),.v (.bool false)]) ⟨rfl,rfl,show _=optR (kDm s.l p) by rw[e0,← hf];rfl⟩ ?_
     simp only[aR,seval,kA,kB,kD]<;>((repeat' apply And.intro)<;>first|rfl|omega|trivial)
   ·rw[List.drop_of_length_le (by omega),kC9]at hf
    simp only[aR,seval,kA,kB,kD,h]
    refine kR [0,1] [] (tsO (some s)) [] (.tup [.v (.int .i64 id),.v (.bool true)]) ⟨rfl,rfl,show _=optR (kDm s.l p) by rw[e0,← hf];rfl⟩ ?_
    simp only[aR,seval,kA,kB,kD]<;>((repeat' apply And.intro)<;>first|rfl|omega|trivial)
section
variable {Γ:Env} {n:Nat} {t:Nat→AV} {hd:Nat→Nat→AV} {d:Option Nat} {K:AS→Prop}
variable {nh nl:Nat} {h:Nat→Option AO} {fm:Nat→Nat} {lv:Nat→Option (Nat×Nat)} {mu:Bool}
theorem kFT (hC:Γ.get 24=none) {s:TS} (S:sndN s.l) {id:Int} {o ob:Nat} (hT:k8 h o ob s)
    (hk:cont ⟨n,t,hd,⟨nh,h,nl,fm,lv,mu⟩⟩ d (pathR s.l id) K):kS Tryz.prog Γ false ⟨n,t,hd,⟨nh,h,nl,fm,lv,mu⟩⟩ 24 [.ptr o 0,.v (.int .i64 id)] d K:=by
 refine jE tpath_good hC ⟨(some s,id),fun s' hs=>by cases hs;exact S⟩ rfl hT (by simp[tsA,dnL,dn]) rfl (fun _ _ _ hp=>hp.1) ?_
 rintro lvs r ⟨_,rfl,rfl⟩
 exact hk
theorem kF1 (hC:Γ.get 25=none) {s:TS} (hi:trOk s.l) {p:List UInt8} (hp:p.length≤1000000) {o ob:Nat} (hT:k8 h o ob s)
    (hk:cont ⟨n,t,hd,⟨nh,h,nl,fm,lv,mu⟩⟩ d (optR (kDm s.l p)) K):kS Tryz.prog Γ false ⟨n,t,hd,⟨nh,h,nl,fm,lv,mu⟩⟩ 25 [.ptr o 0,.v (sv p)] d K:=by
 refine jE tfind_good hC ⟨(some s,p),fun s' hs=>by cases hs;exact hi,hp⟩ rfl hT (by simp[tsA,dnL,dn]) rfl (fun _ _ _ hp=>hp.1) ?_
 rintro lvs r ⟨_,rfl,rfl⟩
 show cont _ d ((optR (kDm s.l p)).emb _ _) K
 generalize kDm s.l p=q at *
 cases q<;>exact hk
end
-- a path leads to who has it
theorem walk_app (l:List Nd):∀ (a b:List (List UInt8)) (i:Int),kC9 l (a++b) i=(kC9 l a i).bind (kC9 l b)
 | [],b,i=>rfl
 | n::a,b,i=>by
   rw[List.cons_append,kC9,kC9]
   split
   ·exact walk_app l a b _
   ·rfl
section
variable {l:List Nd} (S:sndN l)
include S
theorem kid_self {x:Nd} (hx:x∈l):kid x.par x.nm l=x.id:=by
 have hpos:∀ y∈l,1≤y.id:=fun y hy=>(S.node y hy).id.1
 by_cases h:1≤kid x.par x.nm l
 ·obtain ⟨y,hy,h1,h2,h3⟩:=kid_iff hpos h rfl
  rw[← h3]
  exact S.sib y hy x hx h1 h2
 ·exact absurd ⟨rfl,rfl⟩ (kBc hpos h x hx)
theorem walk_up:∀ (k:Nat) (i:Int),inT l i→upN l k i=0→kC9 l (ups l k i).reverse 0=some i
 | 0,i,_,h=>by cases h;rfl
 | k+1,i,hi,h=>by
   rw[ups]
   split
   ·rename_i h0;rw[h0];rfl
   ·rename_i h0
    have hm:=j7 (hi.resolve_left h0)
    rw[List.reverse_cons,walk_app,walk_up k (pf l i) (pf_in S) h]
    have e:kid (pf l i) (gN l i).nm l=i:=by
     have:=kid_self S hm.1
     rw[hm.2]at this;exact this
    have hp:=(S.node _ hm.1).id.1
    rw[hm.2]at hp
    simp only[Option.bind_some,kC9]
    rw[e,if_pos (by omega)]
theorem ups_nil {k:Nat} {i:Int} (hi:i≠0):ups l (k+1) i≠[]:=by rw[ups,if_neg hi];simp
omit S in
theorem slash_no {nm:List UInt8} (h:k9 nm=true):(47:UInt8) ∉ nm:=by
 intro hc
 unfold k9 at h
 simp only[Bool.and_eq_true,List.all_eq_true]at h
 have:=h.1 47 hc
 exact absurd this (by decide)
theorem find_path {i:Int} (hi:inT l i):kDm l (kBs l i)=some i:=by
 by_cases h0:i=0
 ·subst h0
  have:kBs l 0=[]:=by
   unfold kBs
   cases l.length<;>simp[ups,Lib.join_nil]
  unfold kDm
  rw[this,if_pos rfl]
 ·have hm:=j7 (hi.resolve_left h0)
  have hlen:0 < l.length:=List.length_pos_of_mem hm.1
  obtain ⟨k,hk⟩:∃ k,l.length=k+1:=⟨l.length - 1,by omega⟩
  have hne:(ups l l.length i).reverse≠[]:=by rw[hk,ne_eq,List.reverse_eq_nil_iff];exact ups_nil S h0
  have hnm:∀ x∈(ups l l.length i).reverse,k9 x=true:=fun x hx=>kC1 S _ _ hi x (List.mem_reverse.1 hx)
  have hc:=cuts_join (c:=47) hne fun x hx=>slash_no (hnm x hx)
  have hp:kBs l i≠[]:=by
   intro hc2
   have:kAZ 47 (kBs l i)=[[]]:=by rw[hc2];rfl
   rw[show kAZ 47 (kBs l i)=_ from hc]at this
   have:=(kDJ (hnm [] (by rw[this];simp))).2
   simp at this
  unfold kDm
  rw[if_neg hp,show kAZ 47 (kBs l i)=_ from hc]
  exact walk_up S _ _ hi (kDd S hi)
theorem path_len (i:Int) (hi:inT l i):(kBs l i).length≤2100:=by
 have h:=joinL_le (c:=47) (n:=20) (l:=(ups l l.length i).reverse) fun x hx=>(kDJ (kC1 S _ _ hi x (List.mem_reverse.1 hx))).1
 have h2:=ups_len l l.length i
 have h3:=S.len
 rw[List.length_reverse]at h
 unfold kBs
 omega
end
end Go.Proofs
end
-- ETr29
section
namespace Go.Proofs
open Go Go.Rw
set_option maxRecDepth 100000
theorem join_rev (acc:List (List UInt8)) (nm:List UInt8):Lib.join (acc++[nm]).reverse [47]=nm++(if acc=[] then [] else 47::Lib.join acc.reverse [47]):=by
 rw[List.reverse_append,List.reverse_cons,List.reverse_nil,List.nil_append,List.singleton_append]
 by_cases h:acc=[]
 ·subst h;simp[Lib.join_one]
 ·rw[if_neg h]
  obtain ⟨y,r,hr⟩:∃ y r,acc.reverse=y::r:=by
   cases hc:acc.reverse with
   | nil=>exact absurd (List.reverse_eq_nil_iff.1 hc) h
   | cons y r=>exact ⟨y,r,rfl⟩
  rw[hr]
  simp[Lib.join_cons,Lib.joinTail]
theorem join_ne {l:List (List UInt8)} (h:l≠[]) (hn:∀ x∈l,x≠[]):Lib.join l [47]≠[]:=by
 cases l with
 | nil=>exact absurd rfl h
 | cons x r =>
   rw[Lib.join_cons]
   intro hc
   exact hn x (List.mem_cons_self ..) (List.append_eq_nil_iff.1 hc).1
abbrev kEO:Con where
 ι:={ p:List Nd×Int // sndN p.1 }
 args:=fun p=>[.sl 0 5 (kW p.1.1),.v (.int .i64 p.1.2)]
 post:=fun p r=>r=pathR p.1.1 p.1.2
 plain:=true
set_option maxHeartbeats 1000000 in
theorem rpath_good:Rw.Good Tryz.prog 66 kEO:=by
 have hΓ:kL Tryz.prog [(48,kB9)]:=(kI kDP kK)
 refine kZ (nn:=32) hΓ Tryz.func66 (by kernel_rfl) rfl (show Tryz.f66.results.toList=[.tmp 4,.tmp 5] from rfl) (fun _=>rfl) (fun x=>by simp[AV.erL,AV.er]) ?_
 rintro ⟨⟨l,id⟩,hS⟩
 simp only at hS
 have hl:=hS.len
 simp only[aR,seval]
 by_cases hin:inT l id
 case neg =>
  have h0:¬ id=0:=fun hc=>hin (.inl hc)
  have hh:ndI id l = -1:=by
   unfold ndI
   rw[if_neg]
   intro hc
   exact hin (.inr ((qG l id).2 hc))
  obtain ⟨St,hSt⟩:∃ St:Unit→AS,∀ i,St i=AS.of 32 [(0,.sl 0 5 (kW l)),(1,.v (.int .i64 id)),(6,.v (sv []))] [] []:=⟨_,fun _=>rfl⟩
  refine qL hΓ St (fun _=>0) () (by rw[hSt];refine kQ [] [] ?_;simp only[aR,seval]<;>((repeat' apply And.intro)<;>first|rfl|omega|trivial)) ?_
  rintro ⟨⟩
  rw[hSt]
  simp only[aR,seval,h0]
  refine kA7 (by simp[kH]) rfl (by omega) ?_
  simp only[aR,seval,hh]
  rw[pathR_no hin]
 obtain ⟨St,hSt⟩:∃ St:{ p:Nat×Int×List (List UInt8) // upN l p.1 p.2.1=0∧inT l p.2.1∧p.2.2++ups l p.1 p.2.1=ups l l.length id }→AS,∀ p,St p=AS.of 32 [(0,.sl 0 5 (kW l)),(1,.v (.int .i64 p.1.2.1)),(6,.v (sv (Lib.join p.1.2.2.reverse [47])))] [] []:=⟨_,fun _=>rfl⟩
 refine qL hΓ St (fun p=>p.1.1) ⟨(l.length,id,[]),kDd hS hin,hin,rfl⟩ (by rw[hSt];refine kQ [] [] ?_;simp only[aR,seval,List.reverse_nil,Lib.join_nil]<;>((repeat' apply And.intro)<;>first|rfl|omega|trivial)) ?_
 rintro ⟨⟨k,x,acc⟩,hu,hix,ha⟩
 simp only at hu hix ha
 have hnm:∀ z∈acc,k9 z=true:=fun z hz=>kC1 hS l.length id hin z (by rw[← ha];exact List.mem_append_left _ hz)
 have hal:acc.length≤l.length:=by
  have h1:=ups_len l l.length id
  rw[← ha,List.length_append]at h1;omega
 have hjl:=joinL_le (c:=47) (n:=20) (l:=acc.reverse) fun z hz=>(kDJ (hnm z (List.mem_reverse.1 hz))).1
 rw[List.length_reverse]at hjl
 rw[hSt]
 simp only
 simp only[aR,seval]
 by_cases hx:x=0
 ·subst hx
  have ha2:acc=ups l l.length id:=by
   rw[← ha]
   cases k<;>simp[ups]
  simp only[aR,seval]
  rw[kAa hin,kBs,← ha2]
 have hh:hasN l x=true:=hix.resolve_left hx
 obtain ⟨h1,h2,h3⟩:=kBz hh
 have hn:ndI x l=ndx x l:=by unfold ndI;rw[if_pos h1]
 have e1:=k7 l h1
 rw[← h2]at e1
 have hnk:=kDJ ((hS.node _ (j7 hh).1).nm)
 cases k with
 | zero=>exact absurd hu hx
 | succ k =>
   rw[ups,if_neg hx]at ha
   simp only[aR,seval,hx]
   refine kA7 (by simp[kH]) rfl (by omega) ?_
   rw[hn]
   have hj:=join_rev acc (gN l x).nm
   have hne:acc≠[]→Lib.join acc.reverse [47]≠[]:=fun hc=>join_ne (by rwa [ne_eq,List.reverse_eq_nil_iff]) fun z hz=>by
    have:=(kDJ (hnm z (List.mem_reverse.1 hz))).2
    intro hc2;rw[hc2]at this;simp at this
   by_cases hacc:acc=[]
   ·rw[if_pos hacc,List.append_nil]at hj
    subst hacc
    simp only[aR,seval,e1,nA,kJ,List.reverse_nil,Lib.join_nil,List.append_nil,kDz (l:=(gN l x).nm) (r:=[]) (by simp;omega),show ((ndx x l:Int) < 0)=False from eq_false (by omega)]
    (repeat (with_reducible refine And.intro ?_ ?_;focus (first|omega|exact kE|kernel_rfl)))
    refine kO ⟨(k,pf l x,[(gN l x).nm]),hu,pf_in hS,ha⟩ (by simp only;omega) ?_
    rw[hSt];refine kQ [] [] ?_
    simp only[aR,seval,pf,List.reverse_singleton,Lib.join_one]<;>((repeat' apply And.intro)<;>first|rfl|omega|trivial)
   ·rw[if_neg hacc]at hj
    have hne:=hne hacc
    generalize Lib.join acc.reverse [47]=str at *
    simp only[aR,seval,e1,nA,kJ,hne,kDz (l:=[47]) (r:=str) (by simp;omega),kDz (l:=(gN l x).nm) (r:=47::str) (by simp;omega),show ((ndx x l:Int) < 0)=False from eq_false (by omega)]
    (repeat (with_reducible refine And.intro ?_ ?_;focus (first|omega|exact kE|kernel_rfl)))
    refine kO ⟨(k,pf l x,acc++[(gN l x).nm]),hu,pf_in hS,by rw[List.append_assoc];exact ha⟩ (by simp only;omega) ?_
    rw[hSt];refine kQ [] [] ?_
    simp only[aR,seval,pf,hj]<;>((repeat' apply And.intro)<;>first|rfl|omega|trivial)
theorem call_rpath {Γ:Env} (hf:Γ.get 66=some kEO) {σ:AS} {dr:Bool} {l:List Nd} {id:Int} {ys:List AV} {t1:Nat} {d:Option Nat} {K:AS→Prop} (hy:ys=kW l) (hS:sndN l)
    (hk:cont σ d (pathR l id) K):kS Tryz.prog Γ dr σ 66 [.sl t1 5 ys,.v (.int .i64 id)] d K:=by
 subst hy
 exact kP (C:=kEO) (i:=⟨(l,id),hS⟩) (r:=pathR l id) hf rfl rfl rfl (by simp[AV.erL,AV.er]) (fun _ h=>h) rfl hk
end Go.Proofs
end
-- EUk9t
section
namespace Go.Proofs
open Go Go.Rw
set_option maxRecDepth 100000
theorem part_ints {k:IntKind} {l:List Int} {i j:Nat} (hj:j≤l.length):kBv 0 1 (ints k l) i j = .sl 0 1 (ints k ((l.drop i).take (j - i))):=by
 unfold kBv
 simp only[kAr]
 split
 ·rename_i h
  obtain ⟨rfl,h2⟩:=h
  rw[List.drop_zero,Nat.sub_zero,List.take_of_length_le (by omega)]
 ·simp[ints,List.map_take,List.map_drop]
theorem vcD_lp {Γ:Env} {Ws:List (Nat×List Nat×List Nat)} {c:Code} {Q:Exit→AS→Prop} {σ:AS} (h:vc Tryz.prog Γ (.loop c) Q σ):vcD Tryz.prog Γ Ws (.loop c) Q σ:=h
end Go.Proofs
end
-- ETr30
section
namespace Go.Proofs
open Go Go.Rw
set_option maxRecDepth 100000
theorem bin_slt {P:Program} {t:TypeId} {x y:Operand} {l r:List UInt8}:binA P .lss t x y (.v (sv l)) (.v (sv r))=some (.v (.bool (decide (l < r)))):=by
 have h:Op.bytesLess l r=decide (l < r):=jQ l r
 simp[sv,binA,binV,eqGuard,binOp,Op.stringOp,res,h]
def bkK (x:Nd) (zs:List Nd):Nat→Nat
 | 0=>0
 | k+1=>if x.nm < (zs.getD k jR).nm then bkK x zs k else k+1
theorem bkK_le (x:Nd) (zs:List Nd):∀ k,bkK x zs k≤k
 | 0=>Nat.le_refl _
 | k+1=>by
   rw[bkK]
   split
   ·exact Nat.le_succ_of_le (bkK_le x zs k)
   ·exact Nat.le_refl _
def insK (x:Nd) (zs:List Nd):List Nd:=zs.take (bkK x zs zs.length)++x::zs.drop (bkK x zs zs.length)
def kAA (par:Int):List Nd→List Nd→List Nd
 | acc,[]=>acc
 | acc,x::r=>kAA par (if x.par=par then insK x acc else acc) r
theorem insK_len (x:Nd) (zs:List Nd):(insK x zs).length=zs.length+1:=by
 have:=bkK_le x zs zs.length
 unfold insK
 simp only[List.length_append,List.length_take,List.length_cons,List.length_drop];omega
theorem part_strs {l:List (List UInt8)} {i j:Nat} (hj:j≤l.length):kBv 0 1 (qU l) i j = .sl 0 1 (qU ((l.drop i).take (j - i))):=by
 unfold kBv
 simp only[zG]
 split
 ·rename_i h
  obtain ⟨rfl,h2⟩:=h
  rw[List.drop_zero,Nat.sub_zero,List.take_of_length_le (by omega)]
 ·simp[qU,List.map_take,List.map_drop]
abbrev kEI:Con where
 ι:={ p:List Nd×Int // p.1.length≤1000000 }
 args:=fun p=>[.sl 0 5 (kW p.1.1),.v (.int .i64 p.1.2)]
 post:=fun p r=>r = .sl 0 1 (ints .i64 ((kAA p.1.2 [] p.1.1).map Nd.id))
set_option maxHeartbeats 4000000 in
theorem rkids_good:Rw.Good Tryz.prog 68 kEI:=by
 have hΓ:kL Tryz.prog []:=kK
 refine kZ (nn:=74) hΓ Tryz.func68 (by kernel_rfl) rfl (show Tryz.f68.results.toList=[.tmp 4] from rfl) (fun _=>rfl) (fun x=>by simp[AV.erL,AV.er]) ?_
 rintro ⟨⟨l,par⟩,hl⟩
 simp only at hl
 simp only[aR,seval,kJ]
 obtain ⟨St,hSt⟩:∃ St:{ p:List Nd×Nat // p.2≤l.length∧kAA par p.1 (l.drop p.2)=kAA par [] l∧p.1.length≤p.2 }→AS,∀ p,St p=AS.of 74 [(0,.sl 0 5 (kW l)),(1,.v (.int .i64 par)),(5,.sl 0 1 (qU (p.1.1.map Nd.nm))),(6,.sl 0 1 (ints .i64 (p.1.1.map Nd.id))),(7,.v (.int .i64 p.1.2))] [] []:=⟨_,fun _=>rfl⟩
 refine vc_loopD [(10,[2010],[]),(11,[2010],[])] hΓ St (fun p=>l.length - p.1.2) ⟨([],0),by simp,rfl,by simp⟩ (by rw[hSt];refine kQ [] [] ?_;simp only[aR,seval,ints,qU,List.map_nil]<;>((repeat' apply And.intro)<;>first|rfl|omega|trivial)) ?_
 rintro ⟨⟨acc,i⟩,hi,hf,hlen⟩
 simp only at hi hf hlen
 rw[hSt]
 simp only
 simp only[aR,seval,qC,kJ]
 (with_reducible first|refine kF (fun h=>?_) (fun h=>?_)|refine kG (fun h=>?_) (fun h=>?_))
 ·have hlt:i < l.length:=by omega
  have e1:=k7 l hlt
  rw[List.drop_eq_getElem_cons hlt,kAA]at hf
  generalize l[i]=x at *
  have wr1:=kC (n:=(i:Int)+1) (by omega) (by omega)
  by_cases hp:x.par=par
  case neg =>
   rw[if_neg hp]at hf
   simp only[aR,seval,qC,h,e1,nA,kJ,hp,wr1]
   (repeat (with_reducible refine And.intro ?_ ?_;focus (first|omega|exact kE|kernel_rfl)))
   refine kO ⟨(acc,i+1),by simp only;omega,hf,by simp only;omega⟩ (by simp only;omega) ?_
   rw[hSt];refine kQ [] [] ?_
   simp only[aR,seval]<;>((repeat' apply And.intro)<;>first|rfl|omega|trivial)
  rw[if_pos hp]at hf
  simp only[aR,seval,qC,h,e1,nA,kJ,hp,zG,List.length_map]
  (repeat (with_reducible refine And.intro ?_ ?_;focus (first|omega|exact kE|kernel_rfl)))
  obtain ⟨Sv,hSv⟩:∃ Sv:{ k:Nat // k≤acc.length∧bkK x acc k=bkK x acc acc.length }→AS,∀ k,Sv k=AS.of 74 [(0,.sl 0 5 (kW l)),(1,.v (.int .i64 par)),(5,.sl 0 1 (qU (acc.map Nd.nm))),(6,.sl 0 1 (ints .i64 (acc.map Nd.id))),(7,.v (.int .i64 i)),(8,.v (.int .i64 k.1))] [] []:=⟨_,fun _=>rfl⟩
  refine vcD_lp ?_
  refine qL hΓ Sv (fun k=>k.1) ⟨acc.length,Nat.le_refl _,rfl⟩ (by rw[hSv];refine kQ [] [] ?_;simp only[aR,seval,List.length_map]<;>((repeat' apply And.intro)<;>first|rfl|omega|trivial)) ?_
  rintro ⟨k,hk,hbk⟩
  rw[hSv]
  simp only
  have p1:kBv 0 1 (qU (acc.map Nd.nm)) 0 k = .sl 0 1 (qU ((acc.take k).map Nd.nm)):=by rw[part_strs (by rw[List.length_map];omega)];simp[List.map_take]
  have p2:kBv 0 1 (qU (acc.map Nd.nm)) k acc.length = .sl 0 1 (qU ((acc.drop k).map Nd.nm)):=by rw[part_strs (by rw[List.length_map];omega),List.take_of_length_le (by simp)];simp[List.map_drop]
  have p3:kBv 0 1 (ints .i64 (acc.map Nd.id)) 0 k = .sl 0 1 (ints .i64 ((acc.take k).map Nd.id)):=by rw[part_ints (by rw[List.length_map];omega)];simp[List.map_take]
  have p4:kBv 0 1 (ints .i64 (acc.map Nd.id)) k acc.length = .sl 0 1 (ints .i64 ((acc.drop k).map Nd.id)):=by rw[part_ints (by rw[List.length_map];omega),List.take_of_length_le (by simp)];simp[List.map_drop]
  have done:bkK x acc acc.length=k→insK x acc=acc.take k++x::acc.drop k:=fun hc=>by rw[insK,hc]
  have hil:=insK_len x acc
  have hmin:min k acc.length=k:=by omega
  cases k with
  | zero =>
    have hin:=done hbk.symm
    simp only[aR,seval,zG,List.length_map,kAr]
    (repeat (with_reducible refine And.intro ?_ ?_;focus (first|omega|exact kE|kernel_rfl)))
    simp only[aR,seval,qC,zG,kAr,e1,nA,kJ,List.map_cons,List.map_nil,List.length_map,p1,p2,p3,p4,List.length_append,List.length_take,List.length_drop,List.length_cons,List.length_nil]
    (repeat (with_reducible refine And.intro ?_ ?_;focus (first|omega|exact kE|kernel_rfl)))
    refine kO ⟨(insK x acc,i+1),by simp only;omega,hf,by simp only;omega⟩ (by simp only;omega) ?_
    rw[hSt];refine kQ [] [] ?_
    simp only[aR,seval,hin,wr1,qU,ints,List.map_cons,List.map_nil,List.map_append,List.nil_append,List.append_assoc,List.cons_append,List.take_zero,List.drop_zero]<;>((repeat' apply And.intro)<;>first|rfl|omega|trivial)
  | succ k =>
    have hkt:k < acc.length:=by omega
    have e3:(qU (acc.map Nd.nm)).getD k .any = .v (sv acc[k].nm):=by rw[kAm (by rw[List.length_map];exact hkt),List.getElem_map]
    have hw:IntKind.wrap .i64 (((k+1:Nat):Int) - 1)=k:=by rw[kC (by omega) (by omega)];omega
    have hgd:acc.getD k jR=acc[k]:=by rw[List.getD_eq_getElem?_getD,List.getElem?_eq_getElem hkt];rfl
    rw[bkK,hgd]at hbk
    generalize acc[k]=y at *
    have hp2:((k+1:Nat):Int) > 0:=by omega
    simp only[aR,seval,zG,hw,e3,hp2,e1,nA,kJ,List.length_map,bin_slt]
    (repeat (with_reducible refine And.intro ?_ ?_;focus (first|omega|exact kE|kernel_rfl)))
    (with_reducible first|refine kF (fun h3=>?_) (fun h3=>?_)|refine kG (fun h3=>?_) (fun h3=>?_))
    ·rw[if_pos h3]at hbk
     simp only[aR,seval,qC,h3,hw]
     refine kO ⟨k,by omega,hbk⟩ (by simp only;omega) ?_
     rw[hSv];refine kQ [] [] ?_
     simp only[aR,seval]<;>((repeat' apply And.intro)<;>first|rfl|omega|trivial)
    ·rw[if_neg h3]at hbk
     have hin:=done hbk.symm
     simp only[aR,seval,qC,h3,zG,kAr,e1,nA,kJ,List.map_cons,List.map_nil,List.length_map,p1,p2,p3,p4,List.length_append,List.length_take,List.length_drop,List.length_cons,List.length_nil,hmin]
     (repeat (with_reducible refine And.intro ?_ ?_;focus (first|omega|exact kE|kernel_rfl)))
     refine kO ⟨(insK x acc,i+1),by simp only;omega,hf,by simp only;omega⟩ (by simp only;omega) ?_
     rw[hSt];refine kQ [] [] ?_
     simp only[aR,seval,hin,wr1,qU,ints,List.map_cons,List.map_nil,List.map_append,List.nil_append,List.append_assoc,List.cons_append,List.take_zero,List.drop_zero]<;>((repeat' apply And.intro)<;>first|rfl|omega|trivial)
 ·rw[List.drop_of_length_le (by omega),kAA]at hf
  simp only[aR,seval,qC,h]
  rw[hf]
end Go.Proofs
end
-- ETr20
section
namespace Go.Proofs
open Go Go.Rw
set_option maxRecDepth 100000
abbrev Ky:=Int×List UInt8
def kV (p:Ky):Value:=nV ⟨0,p.1,p.2,false,[]⟩
def entL:List (Ky×Int)→Nat→List MapEntry
 | [],_=>[]
 | (p,c)::r,i=>{ key:=kV p,val:=.int .i64 c,born:=i }::entL r (i+1)
structure NM (es:Array MapEntry) (cl:Nat) (ps:List (Ky×Int)):Prop where
 es:es.toList=entL ps 0
 cl:cl=ps.length
 nd:(ps.map Prod.fst).Nodup
def fndP (p:Ky):List (Ky×Int)→Nat→Option (Nat×Value)
 | [],_=>none
 | (q,c)::r,i=>if q=p then some (i,.int .i64 c) else fndP p r (i+1)
theorem equal_kV (p q:Ky):calm Tryz.prog (Op.equal 42 (kV p) (kV q))=some (decide (p=q)):=by
 have e:Op.maxDepth=9998+2:=rfl
 have h:=calm_eq5 (P:=Tryz.prog) (d:=9998) (t:=42) (ti:=3) (ts:=9) (tb:=4) (k:=.i64) (a:=0) (a':=0) (b:=p.1) (b':=q.1) (s:=p.2) (s':=q.2) (q:=false) (q':=false) (u:=[]) (u':=[]) (by kernel_rfl) (by kernel_rfl) (by kernel_rfl) (by kernel_rfl) (by kernel_rfl)
 unfold Op.equal
 rw[e]
 refine h.trans ?_
 congr 1
 obtain ⟨p1,p2⟩:=p
 obtain ⟨q1,q2⟩:=q
 by_cases h1:p1=q1<;>by_cases h2:p2=q2<;>simp[h1,h2]
theorem ask_all (p:Ky):∀ (ps:List (Ky×Int)) (n i:Nat),calm Tryz.prog (Instr.findAsking 42 (kV p) (entL ps n) i)=some (fndP p ps i)
 | [],n,i=>rfl
 | (q,c)::r,n,i=>by
   rw[entL,Instr.findAsking,k5,equal_kV,Option.bind_some,fndP]
   by_cases h:p=q
   ·subst h;simp
   ·rw[decide_eq_false h,if_neg (Ne.symm h)]
    simpa using ask_all p r (n+1) (i+1)
theorem chk_kV (b:Bool) (p:Ky):calm Tryz.prog (Instr.checkKey b 10000 42 (kV p))=some ():=by
 obtain ⟨p1,p2⟩:=p
 rfl
theorem und_kV:Tryz.prog.underlying 82=some (.map 42 3):=by kernel_rfl
theorem ask_nm {es:Array MapEntry} {cl:Nat} {ps:List (Ky×Int)} (h:NM es cl ps) (b:Bool) (p:Ky):askK Tryz.prog 82 b (kV p) es.toList=some (fndP p ps 0):=by
 unfold askK
 rw[und_kV]
 simp only
 rw[chk_kV,Option.bind_some,h.es]
 unfold Instr.findKey
 obtain ⟨fs,hu⟩:∃ fs,Tryz.prog.underlying 42=some (.struct fs):=by
  have h5:is5 Tryz.prog 42 3 9 4=true:=by kernel_rfl
  unfold is5 at h5
  split at h5
  ·exact ⟨_,by assumption⟩
  ·cases h5
 rw[k5]
 simp only[underlying,k5,qK,Option.bind_some,hu]
 cases ps with
 | nil=>simp [entL,Instr.findNow,fndP,kAc]
 | cons q r =>
   obtain ⟨q,c⟩:=q
   have:Instr.findNow (.struct fs) (kV p) (entL ((q,c)::r) 0) 0=none:=rfl
   simp only[kAc,Option.bind_some,this]
   exact ask_all p _ 0 0
def cntK (p:Ky):List (Ky×Int)→Int
 | []=>0
 | (q,c)::r=>if q=p then c else cntK p r
theorem kDs {p:Ky}:∀ {ps:List (Ky×Int)} {n i:Nat} {v:Value},fndP p ps n=some (i,v)→∃ j c,i=n+j∧ps[j]? = some (p,c)∧v = .int .i64 c∧cntK p ps=c
 | [],n,i,v,h=>by cases h
 | (q,c)::r,n,i,v,h=>by
   rw[fndP]at h
   split at h
   ·rename_i hq
    subst hq
    cases h
    exact ⟨0,c,by omega,rfl,rfl,by rw[cntK,if_pos rfl]⟩
   ·rename_i hq
    obtain ⟨j,c2,h1,h2,h3,h4⟩:=kDs h
    exact ⟨j+1,c2,by omega,by simpa using h2,h3,by rw[cntK,if_neg hq,h4]⟩
theorem kCt {p:Ky}:∀ {ps:List (Ky×Int)} {n:Nat},fndP p ps n=none→p ∉ ps.map Prod.fst∧cntK p ps=0
 | [],n,_=>by simp [cntK]
 | (q,c)::r,n,h=>by
   rw[fndP]at h
   split at h
   ·cases h
   ·rename_i hq
    obtain ⟨h1,h2⟩:=kCt h
    refine ⟨?_,by rw[cntK,if_neg hq,h2]⟩
    simp only[List.map_cons,List.mem_cons,not_or]
    exact ⟨fun hc=>hq hc.symm,h1⟩
theorem look_nm {es:Array MapEntry} {cl:Nat} {ps:List (Ky×Int)} (h:NM es cl ps) (p:Ky):lookS Tryz.prog 82 (kV p) es false=some (.v (.int .i64 (cntK p ps))):=by
 unfold lookS
 rw[ask_nm h]
 cases hf:fndP p ps 0 with
 | none =>
   have e1:kBt Tryz.prog 82=some 3:=by kernel_rfl
   have e2:j3 Tryz.prog 3=some (.v (.int .i64 0)):=by kernel_rfl
   simp only[e1,e2,Option.map_some,(kCt hf).2]
   rfl
 | some q =>
   obtain ⟨i,v⟩:=q
   obtain ⟨j,c,_,_,rfl,h4⟩:=kDs hf
   rw[h4];rfl
theorem entL_len:∀ (ps:List (Ky×Int)) (n:Nat),(entL ps n).length=ps.length
 | [],_=>rfl
 | (p,c)::r,n=>by simp [entL,entL_len r]
theorem entL_get:∀ (ps:List (Ky×Int)) (n j:Nat),(entL ps n)[j]? = (ps[j]?).map fun q=>{ key:=kV q.1,val:=.int .i64 q.2,born:=n+j }
 | [],_,_=>by simp [entL]
 | (p,c)::r,n,0=>by simp [entL]
 | (p,c)::r,n,j+1=>by
   simp only[entL,List.getElem?_cons_succ]
   rw[entL_get r (n+1) j]
   cases r[j]? with
   | none=>rfl
   | some q=>simp only [Option.map_some];congr 2;omega
theorem entL_app (ps:List (Ky×Int)) (p:Ky) (c:Int) (n:Nat):entL (ps++[(p,c)]) n=entL ps n++[{ key:=kV p,val:=.int .i64 c,born:=n+ps.length }]:=by
 induction ps generalizing n with
 | nil=>rfl
 | cons q r ih =>
   obtain ⟨q,d⟩:=q
   simp only[List.cons_append,entL,ih,List.length_cons]
   congr 3;congr 1;omega
def layK (p:Ky) (ps:List (Ky×Int)):List (Ky×Int):=if (fndP p ps 0).isSome then ps else ps++[(p,0)]
theorem ba_beq (d:Array UInt8):((⟨d⟩:ByteArray) == ⟨d⟩)=true:=(beq_self_eq_true d:(d == d)=true)
theorem same_kV (p:Ky):Instr.sameBits 10000 (kV p) (kV p)=true:=by
 obtain ⟨p1,p2⟩:=p
 simp[kV,nV,Instr.sameBits,sv,ba_beq]
theorem cnt_app {p:Ky}:∀ {ps:List (Ky×Int)},p ∉ ps.map Prod.fst→cntK p (ps++[(p,0)])=0
 | [],_=>by simp [cntK]
 | (q,c)::r,h=>by
   simp only[List.map_cons,List.mem_cons,not_or]at h
   rw[List.cons_append,cntK,if_neg (Ne.symm h.1),cnt_app h.2]
theorem get_es {es:Array MapEntry} {cl:Nat} {ps:List (Ky×Int)} (h:NM es cl ps) (j:Nat):es[j]? = (ps[j]?).map fun q=>{ key:=kV q.1,val:=.int .i64 q.2,born:=j }:=by
 rw[← Array.getElem?_toList,h.es,entL_get]
 simp
theorem size_nm {es:Array MapEntry} {cl:Nat} {ps:List (Ky×Int)} (h:NM es cl ps):es.size=ps.length:=by
 rw[← Array.length_toList,h.es,entL_len]
theorem cnt_lay (p:Ky) (ps:List (Ky×Int)):cntK p (layK p ps)=cntK p ps:=by
 unfold layK
 cases hf:fndP p ps 0 with
 | none =>
   obtain ⟨h1,h2⟩:=kCt hf
   simp only[Option.isSome_none,Bool.false_eq_true,if_false]
   rw[cnt_app h1,h2]
 | some q=>rfl
theorem mod_same {es:Array MapEntry} {i:Nat} {e:MapEntry} (h:es[i]? = some e) {k:Value} (hk:e.key=k):(es.modify i fun e=>{ e with key:=k })=es:=by
 apply Array.ext (by simp)
 intro j h1 h2
 rw[Array.getElem_modify]
 split
 ·rename_i hj
  subst hj
  rw[Array.getElem?_eq_getElem h2]at h
  cases h
  subst hk
  rfl
 ·rfl
theorem ent_nm {es:Array MapEntry} {cl:Nat} {ps:List (Ky×Int)} (h:NM es cl ps) (p:Ky):∃ es' cl' i,entA Tryz.prog 82 (kV p) es cl=some (.map es' cl',.tup [.v (.int .i64 (cntK p ps)),.v (.int .i64 (i:Nat))])∧NM es' cl' (layK p ps)∧(layK p ps)[i]? = some (p,cntK p ps):=by
 have hs:=h
 unfold entA
 rw[ask_nm h]
 cases hf:fndP p ps 0 with
 | none =>
   obtain ⟨h1,h2⟩:=kCt hf
   have e1:kBt Tryz.prog 82=some 3:=by kernel_rfl
   have e3:∃ a b c d,tiOf Tryz.prog 3=some ⟨a,b,some (.int .i64 0),c,d⟩:=by
    have:((tiOf Tryz.prog 3).bind fun ti=>ti.zero)=some (.int .i64 0):=by kernel_rfl
    obtain ⟨ti,q1,q2⟩:=Option.bind_eq_some_iff.1 this
    obtain ⟨a,b,z,c,d⟩:=ti
    simp only at q2
    subst q2
    exact ⟨a,b,c,d,q1⟩
   obtain ⟨a,b,c,d,e3⟩:=e3
   have hl:layK p ps=ps++[(p,0)]:=by unfold layK;rw[hf];rfl
   refine ⟨es.push { key:=kV p,val:=.int .i64 0,born:=cl },cl+1,cl,?_,?_,?_⟩
   ·simp only[e1,e3,h2];rfl
   ·rw[hl]
    refine ⟨?_,by rw[h.cl];simp,?_⟩
    ·rw[Array.toList_push,h.es,entL_app,h.cl];simp
    ·rw[List.map_append,List.nodup_append]
     refine ⟨h.nd,by simp,fun x hx y hy=>?_⟩
     simp only[List.map_cons,List.map_nil,List.mem_singleton]at hy
     subst hy
     rintro rfl
     exact h1 hx
   ·rw[hl,h.cl,h2];simp
 | some q =>
   obtain ⟨i,v⟩:=q
   obtain ⟨j,c,h1,h2,rfl,h4⟩:=kDs hf
   rw[Nat.zero_add]at h1
   subst h1
   have hl:layK p ps=ps:=by unfold layK;rw[hf];rfl
   have hg:es[i]? = some { key:=kV p,val:=.int .i64 c,born:=i }:=by rw[get_es h,h2];rfl
   refine ⟨es,cl,i,?_,by rw[hl];exact h,by rw[hl,h4];exact h2⟩
   simp only[hg,Option.map_some,Option.getD_some,same_kV,if_true,mod_same hg rfl,h4]
   rfl
theorem put_nm {es:Array MapEntry} {cl:Nat} {ps:List (Ky×Int)} (h:NM es cl ps) {i:Nat} {p:Ky} {c:Int} (hi:ps[i]? = some (p,c)) (c':Int) :
    es.findIdx? (fun e=>(e.born:Int) == ((i:Nat):Int))=some i∧NM (es.modify i fun e=>{ e with val:=.int .i64 c' }) cl (ps.set i (p,c')):=by
 have hlt:=(List.getElem?_eq_some_iff.1 hi).1
 have hsz:=size_nm h
 have hb:∀ (j:Nat) (hj:j < es.size),es[j].born=j:=fun j hj=>by
  have:=get_es h j
  rw[Array.getElem?_eq_getElem hj,List.getElem?_eq_getElem (by omega)]at this
  simp only[Option.map_some,Option.some.injEq]at this
  rw[this]
 refine ⟨?_,?_,by rw[List.length_set];exact h.cl,?_⟩
 ·rw[Array.findIdx?_eq_some_iff_getElem]
  refine ⟨by omega,by rw[hb];simp,fun j hj=>?_⟩
  rw[hb];simp;omega
 ·apply List.ext_getElem?
  intro j
  rw[Array.getElem?_toList,Array.getElem?_modify,entL_get,List.getElem?_set,get_es h]
  by_cases hj:i=j
  ·subst hj
   rw[if_pos rfl,if_pos rfl,if_pos hlt,hi]
   simp
  ·rw[if_neg hj,if_neg hj];simp
 ·have:(ps.set i (p,c')).map Prod.fst=ps.map Prod.fst:=by
    rw[List.map_set]
    apply List.ext_getElem?
    intro j
    rw[List.getElem?_set]
    split
    ·rename_i hj
     subst hj
     rw[List.getElem?_map,hi,List.length_map,if_pos hlt];rfl
    ·rfl
  rw[this];exact h.nd
end Go.Proofs
end
-- ETr21
section
namespace Go.Proofs
open Go Go.Rw
set_option maxRecDepth 100000
def okB (x:Nd):Bool:=decide (1≤x.id∧x.id≤1099511627776) && k9 x.nm && (pts x.text).isSome && decide (cnt x.text≤2000) && (!x.dir || decide (x.text=[]))
theorem okB_iff (x:Nd):okB x=true↔okNd x:=by
 unfold okB
 simp only[Bool.and_eq_true,decide_eq_true_eq,Bool.or_eq_true,Bool.not_eq_true']
 constructor
 ·rintro ⟨⟨⟨⟨h1,h2⟩,h3⟩,h4⟩,h5⟩
  exact ⟨h1,h2,fun hd=>by rcases h5 with h5|h5;rw[hd]at h5;cases h5;exact h5,h3,h4⟩
 ·rintro ⟨h1,h2,h3,h4,h5⟩
  refine ⟨⟨⟨⟨h1,h2⟩,h4⟩,h5⟩,?_⟩
  cases hd:x.dir
  ·exact .inl rfl
  ·exact .inr (h3 hd)
abbrev okNCon:Con where
 ι:={ x:Nd // x.nm.length≤1099511627776∧x.text.length≤1099511627776 }
 args:=fun p=>[nA p.1]
 post:=fun p r=>r = .v (.bool (okB p.1))
 plain:=true
set_option maxHeartbeats 1000000 in
theorem okn_good:Rw.Good Tryz.prog 51 okNCon:=by
 have hΓ:kL Tryz.prog [(95,kAp),(30,kAM)]:=(kI kBe (kI kBK kK))
 refine kZ (nn:=42) hΓ Tryz.func51 (by kernel_rfl) rfl (show Tryz.f51.results.toList=[.tmp 2] from rfl) (fun _=>rfl) (fun x=>by simp[AV.erL,nA_er]) ?_
 rintro ⟨⟨id,par,nm,dir,tx⟩,hn,ht⟩
 simp only at hn ht
 simp only[aR,seval,nA]
 refine kAd (by simp[kH]) ht ?_
 rw[kBm]
 have e0:okB ⟨id,par,nm,dir,tx⟩=(decide (1≤id∧id≤1099511627776) && k9 nm && (pts tx).isSome && decide (cnt tx≤2000) && (!dir || decide (tx=[]))):=rfl
 by_cases h1:id ≥ 1
 case neg =>
  simp only[aR,seval,h1]
  rw[e0,decide_eq_false (by omega)];simp
 by_cases h2:id≤1099511627776
 case neg =>
  simp only[aR,seval,h1,h2]
  rw[e0,decide_eq_false (by omega)];simp
 rw[decide_eq_true (show 1≤id∧id≤1099511627776 from ⟨h1,h2⟩)]at e0
 simp only[aR,seval,h1,h2]
 refine zL (by simp[kH]) hn ?_
 rcases Bool.eq_false_or_eq_true (k9 nm) with h3|h3
 case inr=>simp only[aR,seval,h3];rw[e0,h3];rfl
 rw[h3]at e0
 rcases Bool.eq_false_or_eq_true (pts tx).isSome with h4|h4
 case inr =>
  have h4f:((pts tx).isSome=true)=False:=by rw[h4];simp
  simp only[aR,seval,h3,h4f];rw[e0,h4];rfl
 have h4t:((pts tx).isSome=true)=True:=eq_true h4
 rw[h4]at e0
 by_cases h5:(cnt tx:Int)≤2000
 case neg =>
  simp only[aR,seval,h3,h4t,h5];rw[e0,decide_eq_false (by omega)];rfl
 rw[decide_eq_true (show cnt tx≤2000 by omega)]at e0
 cases dir
 ·simp only[aR,seval,h3,h4t,h5];rw[e0];rfl
 ·simp only[aR,seval,h3,h4t,h5];rw[e0];rfl
end Go.Proofs
end
-- ETr14
section
namespace Go.Proofs
open Go Go.Rw
set_option maxRecDepth 100000
structure CI where
 es:Array MapEntry
 cl:Nat
 ps:List (Int×Value)
 h:MapG es cl ps
 v:∀ p∈ps,∃ c,p.2 = .int .i64 c
 b:∀ p∈ps,-9223372036854775808≤p.1∧p.1≤9223372036854775807
end Go.Proofs
end
-- ETr15
section
namespace Go.Proofs
open Go Go.Rw
set_option maxRecDepth 100000
def ts0:TS:=⟨#[],0,[],tm_empty⟩
section
variable {Γ:Env} {n:Nat} {t:Nat→AV} {hd:Nat→Nat→AV} {d:Option Nat} {K:AS→Prop}
variable {nh nl:Nat} {h:Nat→Option AO} {fm:Nat→Nat} {lv:Nat→Option (Nat×Nat)} {mu:Bool}
theorem call_tnew (hC:Γ.get 28=none)
    (hk:cont ⟨n,t,hd,⟨nh+2,upd (upd h nh (some (.cells [.mp (nh+1)]))) (nh+1) (some (.map #[] 0)),nl,fm,lv,mu⟩⟩ d (.ptr nh 0) K):kS Tryz.prog Γ false ⟨n,t,hd,⟨nh,h,nl,fm,lv,mu⟩⟩ 28 [] d K:=by
 refine vc_obj tnew_good hC () [] ⟨by simp,by simp[dnL],by simp[dnOs],rfl,rfl⟩ ?_
 rintro objs lvs r ⟨rfl,rfl,rfl⟩ hl
 have e3:[AO.cells [.mp 1],.map #[] 0].length - ([]:List Nat).length=2:=rfl
 rw[e3]
 simp only[kDE,kB1,kDW,embO_map,kBT,kCr,emb_mp,obC_succ,obC_zero,obC_nil,kDR,kEr,kBW,kBI,kB4,emb_ptr,List.length_nil,Nat.add_zero]
 exact hk
end
abbrev kDv:Con where
 ι:=Unit
 args:=fun _=>[]
 post:=fun _ r=>r = .v (.bool true)
end Go.Proofs
end
-- ETr22
section
namespace Go.Proofs
open Go Go.Rw
set_option maxRecDepth 100000
theorem set_end {x:Nd}:∀ {m:List Nd},(∀ y∈m,y.id < x.id)→setT x m=m++[x]:=fun {m} h=>by
 have h1:hasN m x.id=false:=by
  rcases Bool.eq_false_or_eq_true (hasN m x.id) with hh|hh
  ·obtain ⟨h2,h3⟩:=j7 hh
   have:=h _ h2
   omega
  ·exact hh
 have h2:∀ {m:List Nd},(∀ y∈m,y.id < x.id)→atN x.id m=m.length:=fun {m}=>by
  induction m with
  | nil=>intro _;rfl
  | cons y m ih =>
    intro h
    rw[atN,if_pos (h y (List.mem_cons_self ..)),ih fun z hz=>h z (List.mem_cons_of_mem _ hz)];rfl
 unfold setT
 rw[h1,if_neg (by decide),h2 h,List.take_length,List.drop_length]
abbrev Ld1 (l:List Nd):={ p:Nat×TS×Int // p.1≤l.length∧p.2.1.l=l.take p.1∧(∀ x∈l.take p.1,okNd x∧x.id≤p.2.2)∧(0≤p.2.2∧p.2.2≤1099511627776)∧(p.2.2=0∨∃ x∈l.take p.1,x.id=p.2.2) }
def kOf (x:Nd):Ky:=(x.par,x.nm)
structure NS where
 es:Array MapEntry
 cl:Nat
 ps:List (Ky×Int)
 h:NM es cl ps
def NI (l:List Nd) (i:Nat) (ps:List (Ky×Int)):Prop:=(∀ k,k∈ps.map Prod.fst↔k∈(l.take i).map kOf)∧((ps.length=i∧((l.take i).map kOf).Nodup)∨(ps.length < i∧¬ ((l.take i).map kOf).Nodup))
def goodP (l:List Nd) (x:Nd):Prop:=(x.par=0∨(gN l x.par).dir=true)∧jX l l.length x.id=true
abbrev Ld2 (l:List Nd):={ p:Nat×NS // p.1≤l.length∧(∀ x∈l.take p.1,goodP l x)∧NI l p.1 p.2.ps }
abbrev tloadCon:ConO where
 ι:={ l:List Nd // l.length≤1000000∧∀ x∈l,x.nm.length≤1099511627776∧x.text.length≤1099511627776 }
 objs:=fun _=>[]
 args:=fun p=>[.sl 0 5 (kW p.1)]
 post:=fun p objs lvs r=>lvs=[]∧((sndN p.1∧∃ s:TS,s.l=p.1∧objs=tsO (some s)∧r = .tup [.ptr 0 0,.v (.int .i64 0)])∨(¬ sndN p.1∧objs=[]∧r = .tup [.v (.pointer none),.v (.int .i64 1)]))
theorem steady_nm {σ:AS} {ob:Nat} {m:NS} (hob:σ.m.h ob=some (.map m.es m.cl)) {p:Ky} {es':Array MapEntry} {cl':Nat} (h':NM es' cl' (layK p m.ps)) :
    kE2 Tryz.prog σ ob (.map es' cl') 82 (.agg [.v (.int .i64 0),.v (.int .i64 p.1),.v (sv p.2),.v (.bool false),.v (sv [])]):=by
 intro r hr
 have hk:keyT Tryz.prog 82=none:=by kernel_rfl
 have tv:toV (.agg [.v (.int .i64 0),.v (.int .i64 p.1),.v (sv p.2),.v (.bool false),.v (sv [])])=some (kV p):=rfl
 have e:(σ.m.setObj ob (.map es' cl')).h ob=some (.map es' cl'):=qH ..
 unfold kBG at hr ⊢
 simp only[hk,tv,lookK,hob,e]at hr ⊢
 rw[look_nm m.h]at hr
 rw[look_nm h',cnt_lay]
 exact hr
theorem lay_keys (p:Ky) (ps:List (Ky×Int)):(layK p ps).map Prod.fst=if p∈ps.map Prod.fst then ps.map Prod.fst else ps.map Prod.fst++[p]:=by
 unfold layK
 cases hf:fndP p ps 0 with
 | none=>rw [if_neg (kCt hf).1];simp
 | some q =>
   obtain ⟨i,v⟩:=q
   obtain ⟨j,c,_,h2,_,_⟩:=kDs hf
   rw[if_pos (List.mem_map.2 ⟨_,List.mem_of_getElem? h2,rfl⟩)];rfl
theorem set_keys {p:Ky} {ps:List (Ky×Int)} {i:Nat} {c c':Int} (hi:ps[i]? = some (p,c)):(ps.set i (p,c')).map Prod.fst=ps.map Prod.fst:=by
 have hlt:=(List.getElem?_eq_some_iff.1 hi).1
 rw[List.map_set]
 apply List.ext_getElem?
 intro j
 rw[List.getElem?_set]
 split
 ·rename_i hj
  subst hj
  rw[List.getElem?_map,hi,List.length_map,if_pos hlt];rfl
 ·rfl
theorem ni_step {l:List Nd} {i:Nat} {ps:List (Ky×Int)} {x:Nd} (h:NI l i ps) (hx:l.take (i+1)=l.take i++[x]) {ix:Nat} {c c':Int} (hg:(layK (kOf x) ps)[ix]? = some (kOf x,c)):NI l (i+1) ((layK (kOf x) ps).set ix (kOf x,c')):=by
 obtain ⟨h1,h2⟩:=h
 have e:=lay_keys (kOf x) ps
 have e2:=set_keys (c':=c') hg
 have hlen:((layK (kOf x) ps).set ix (kOf x,c')).length=(layK (kOf x) ps).length:=List.length_set
 have hlk:(layK (kOf x) ps).length=((layK (kOf x) ps).map Prod.fst).length:=by rw[List.length_map]
 unfold NI
 rw[e2,hlen,hlk,e,hx,List.map_append]
 by_cases hm:kOf x∈ps.map Prod.fst
 ·rw[if_pos hm]
  refine ⟨fun k=>?_,.inr ⟨by rw[List.length_map];rcases h2 with h2|h2<;>omega,fun hn=>?_⟩⟩
  ·rw[h1,List.mem_append]
   simp only[List.map_cons,List.map_nil,List.mem_singleton]
   constructor
   ·exact .inl
   ·rintro (h|rfl)
    ·exact h
    ·exact (h1 _).1 hm
  ·rw[List.nodup_append]at hn
   exact hn.2.2 _ ((h1 _).1 hm) _ (by simp) rfl
 ·rw[if_neg hm]
  refine ⟨fun k=>?_,?_⟩
  ·rw[List.mem_append,h1,List.mem_append];simp
  ·rw[List.length_append,List.length_map]
   rcases h2 with ⟨h3,h4⟩|⟨h3,h4⟩
   ·refine .inl ⟨by simp;omega,?_⟩
    rw[List.nodup_append]
    refine ⟨h4,by simp,fun a ha b hb=>?_⟩
    simp only[List.map_cons,List.map_nil,List.mem_singleton]at hb
    subst hb
    rintro rfl
    exact hm ((h1 _).2 ha)
   ·refine .inr ⟨by simp;omega,fun hn=>h4 ?_⟩
    rw[List.nodup_append]at hn
    exact hn.1
theorem still_troot {m:AM} {s:TS} (hl:s.l.length≤1000000) {id:Int} {o ob:Nat} (hT:k8 m.h o ob s):Still Tryz.prog m 52 [.ptr o 0,.v (.int .i64 id)] (.v (.bool (jX s.l s.l.length id))):=by
 obtain ⟨h1,h2,h3⟩:=hT
 refine still_obj troot_good ⟨(s,id),hl⟩ [o,ob] (by simp[h3]) (by simp[dnL,dn]) ?_ rfl ?_ ?_ ?_
 ·simp only[tsO,kC7,kEG,h1,h2,kBa,kEE,kCs,kEv,dn_mp]
  simp
 ·simp[kAu,kAi,h1,h2,tagsO1,AO.tags,AV.tagsL,AV.tags]
 ·intro nh nl j o' x y ho hx hy
  match j,ho,hx with
  | 0,ho,hx=>cases ho;simp [tsO] at hx;subst hx;rw [h1] at hy;cases hy;rfl
  | 1,ho,hx=>cases ho;simp [tsO] at hx;subst hx;rw [h2] at hy;cases hy;rfl
  | j+2,ho,hx=>cases ho
 ·rintro objs lvs r ⟨h4,h5,h6⟩
  exact ⟨h4,h5,h6,rfl⟩
theorem vq_root {Γ:Env} {n:Nat} {t:Nat→AV} {hd:Nat→Nat→AV} {d:Option Nat} {K:AS→Prop} {nh nl:Nat} {h:Nat→Option AO} {fm:Nat→Nat} {lv:Nat→Option (Nat×Nat)} {mu:Bool} (hC:Γ.get 52=none) {s:TS} (hl:s.l.length≤1000000) {id:Int} {o ob:Nat} (hT:k8 h o ob s)
    (hk:cont ⟨n,t,hd,⟨nh,h,nl,fm,lv,mu⟩⟩ d (.v (.bool (jX s.l s.l.length id))) K):callQ.callQ2 Tryz.prog Γ d K ⟨n,t,hd,⟨nh,h,nl,fm,lv,mu⟩⟩ (Γ.get 52) 52 [.ptr o 0,.v (.int .i64 id)]:=by
 rw[hC]
 exact ⟨_,still_troot hl hT,hk⟩
theorem snd_keys {l:List Nd} (S:sndN l):(l.map kOf).Nodup:=by
 have h:=S.srt
 unfold srtN at h
 rw[List.pairwise_map]at h
 rw[List.nodup_iff_pairwise_ne,List.pairwise_map,List.pairwise_iff_getElem]
 intro i j hi hj hij he
 have h1:=List.pairwise_iff_getElem.1 h i j hi hj hij
 simp only[kOf,Prod.mk.injEq]at he
 have:=S.sib _ (List.getElem_mem hi) _ (List.getElem_mem hj) he.1 he.2
 omega
theorem root_up {l:List Nd}:∀ (n:Nat) (i:Int),jX l n i=true→∃ k,upN l k i=0
 | 0,i,h=>⟨0,of_decide_eq_true h⟩
 | n+1,i,h=>by
   rw[jX]at h
   split at h
   ·exact ⟨0,by assumption⟩
   ·obtain ⟨k,hk⟩:=root_up n _ h
    exact ⟨k+1,hk⟩
theorem tot_le {l:List Nd} (h:∀ x∈l,cnt x.text≤2000):totN l≤2000 * l.length:=by
 induction l with
 | nil=>simp [totN]
 | cons x l ih =>
   have h1:=h x (List.mem_cons_self ..)
   have h2:=ih fun y hy=>h y (List.mem_cons_of_mem _ hy)
   simp only[totN,List.length_cons];omega
theorem load_snd {l:List Nd} (hs:srtN l) (hl:l.length≤100) (hn:∀ x∈l,okNd x) (ht:totN l≤10000) (hk:(l.map kOf).Nodup) (hg:∀ x∈l,goodP l x):sndN l:=by
 refine ⟨hs,hl,hn,ht,fun x hx y hy h1 h2=>?_,fun x hx=>?_,fun x hx=>root_up _ _ (hg x hx).2⟩
 ·obtain ⟨i,hi,rfl⟩:=List.getElem_of_mem hx
  obtain ⟨j,hj,rfl⟩:=List.getElem_of_mem hy
  have he:kOf l[i]=kOf l[j]:=by simp only[kOf,h1,h2]
  rw[List.nodup_iff_pairwise_ne,List.pairwise_map,List.pairwise_iff_getElem]at hk
  rcases Nat.lt_trichotomy i j with h3|h3|h3
  ·exact absurd he (hk i j hi hj h3)
  ·subst h3;rfl
  ·exact absurd he.symm (hk j i hj hi h3)
 ·rcases (hg x hx).1 with h3|h3
  ·exact .inl h3
  ·refine .inr ⟨?_,h3⟩
   rcases Bool.eq_false_or_eq_true (hasN l x.par) with h4|h4
   ·exact h4
   ·rw[gN_at]at h3
    rw[kB0]at h4
    cases h5:atI x.par l with
    | none=>rw [h5] at h3;cases h3
    | some y=>rw [h5] at h4;simp at h4
set_option maxHeartbeats 4000000 in
theorem kFV:jC Tryz.prog 15 tloadCon:=by
 have hΓ:kL Tryz.prog [(51,okNCon)]:=(kI okn_good kK)
 refine qI (nn:=92) Tryz.func15 (by kernel_rfl) rfl (show Tryz.f15.results.toList=[.tmp 2,.tmp 3] from rfl) (fun _=>rfl) ?_
 rintro ⟨l,hl,ht⟩
 refine qP hΓ (Ws:=[]) _ ?_
 simp only[aR,seval,kA,kB,kD]
 refine call_tnew (by simp[kH,kX]) ?_
 simp only[aR,seval,kA,kB,kD,kJ]
 (repeat (with_reducible refine And.intro ?_ ?_;focus (first|omega|exact kE|kernel_rfl)))
 obtain ⟨St,hSt⟩:∃ St:Ld1 l→AS,∀ p,St p=AS.ofH 92 [(0,.sl 0 5 (kW l)),(4,.ptr 0 0),(5,.v (.int .i64 p.1.2.2)),(12,.sl 0 5 (kW l)),(13,.v (.int .i64 l.length)),(14,.v (.int .i64 p.1.1))] [] (tsO (some p.1.2.1)) []:=⟨_,fun _=>rfl⟩
 refine kBR ?_
 refine jG [] hΓ St (fun p=>l.length - p.1.1) ⟨(0,⟨#[],0,[],tm_empty⟩,0),by simp only;omega,by simp,by simp,by simp only;omega,.inl rfl⟩ (by rw[hSt];refine qA [0,1] [] ?_;simp only[aR,seval,kA,kB,kD]<;>((repeat' apply And.intro)<;>first|rfl|omega|trivial)) ?_
 rintro ⟨⟨i,s,last⟩,hi,hs,hok,hlast,hex⟩
 simp only at hi hs hok hlast hex
 rw[hSt]
 simp only
 simp only[aR,seval,kA,kB,kD,kJ]
 (with_reducible first|refine kF (fun h=>?_) (fun h=>?_)|refine kG (fun h=>?_) (fun h=>?_))
 ·have hlt:i < l.length:=by omega
  have e1:=k7 l hlt
  have hx:=ht l[i] (List.getElem_mem hlt)
  have hmem:=List.getElem_mem hlt
  have htk:=List.take_succ_eq_append_getElem hlt
  have hsrt:sndN l→∀ y∈l.take i,y.id < l[i].id:=fun S y hy=>by
   obtain ⟨j,hj,rfl⟩:=List.getElem_of_mem hy
   simp only[List.length_take]at hj
   have:=S.srt
   unfold srtN at this
   rw[List.pairwise_map]at this
   rw[List.getElem_take]
   exact List.pairwise_iff_getElem.1 this j i (by omega) hlt (by omega)
  generalize l[i]=x at *
  obtain ⟨id,par,nm,dir,tx⟩:=x
  simp only at hx hsrt
  simp only[aR,seval,kA,kB,kD,h,e1,nA,kJ]
  (repeat (with_reducible refine And.intro ?_ ?_;focus (first|omega|exact kE|kernel_rfl)))
  refine kP (C:=okNCon) (i:=⟨⟨id,par,nm,dir,tx⟩,hx⟩) (by simp[kH]) rfl rfl rfl (by simp[AV.erL,AV.er,nA]) (fun _ h=>h) rfl ?_
  have fin:¬ sndN l→tloadCon.post ⟨l,hl,ht⟩ [] [] (.tup [.v (.pointer none),.v (.int .i64 1)]):=fun hn=>⟨rfl,.inr ⟨hn,rfl,rfl⟩⟩
  rcases Bool.eq_false_or_eq_true (okB ⟨id,par,nm,dir,tx⟩) with ho|ho
  case inr =>
   simp only[aR,seval,kA,kB,kD,ho]
   (repeat (with_reducible refine And.intro ?_ ?_;focus (first|omega|exact kE|kernel_rfl)))
   refine kR [] [] [] [] (.tup [.v (.pointer none),.v (.int .i64 1)]) (fin fun S=>by
    have:=(okB_iff _).2 ⟨(S.node _ hmem).id,(S.node _ hmem).nm,(S.node _ hmem).dir,(S.node _ hmem).valid,(S.node _ hmem).cnt⟩
    rw[ho]at this;cases this) ?_
   simp only[aR,seval,kA,kB,kD]<;>((repeat' apply And.intro)<;>first|rfl|omega|trivial)
  have hnd:=(okB_iff _).1 ho
  have hid:=hnd.id
  simp only at hid
  by_cases hle:id≤last
  ·simp only[aR,seval,kA,kB,kD,ho,hle]
   (repeat (with_reducible refine And.intro ?_ ?_;focus (first|omega|exact kE|kernel_rfl)))
   refine kR [] [] [] [] (.tup [.v (.pointer none),.v (.int .i64 1)]) (fin fun S=>by
    rcases hex with hex|⟨y,hy,hye⟩
    ·omega
    ·have:=hsrt S y hy;omega) ?_
   simp only[aR,seval,kA,kB,kD]<;>((repeat' apply And.intro)<;>first|rfl|omega|trivial)
  obtain ⟨es',cl',p1,p2⟩:=put_tm s.h ⟨id,par,nm,dir,tx⟩
  simp only[nV]at p1
  rw[hs,set_end (fun y hy=>by have:=(hok y hy).2;simp only;omega),← htk]at p2
  simp only[aR,seval,kA,kB,kD,ho,hle,p1,kC (n:=(i:Int)+1) (by omega) (by omega)]
  (repeat (with_reducible refine And.intro ?_ ?_;focus (first|omega|exact kE|kernel_rfl)))
  refine kO ⟨(i+1,⟨es',cl',l.take (i+1),p2⟩,id),by simp only;omega,rfl,?_,by simp only;omega,.inr ⟨⟨id,par,nm,dir,tx⟩,by simp only;rw[htk];simp,rfl⟩⟩ (by simp only;omega) ?_
  ·intro y hy
   simp only at hy ⊢
   rw[htk,List.mem_append,List.mem_singleton]at hy
   rcases hy with hy|rfl
   ·exact ⟨(hok y hy).1,by have:=(hok y hy).2;omega⟩
   ·exact ⟨hnd,by simp only;omega⟩
  ·rw[hSt];refine qA [0,1] [] ?_
   simp only[aR,seval,kA,kB,kD]<;>((repeat' apply And.intro)<;>first|rfl|omega|trivial)
 ·have hi2:i=l.length:=by omega
  subst hi2
  rw[List.take_length]at hs hok
  have hok2:∀ x∈l,okNd x:=fun x hx=>(hok x hx).1
  have e1:=kA1 s.h
  have e2:=kD1 s.h
  have hsr:=s.h.2
  rw[hs]at hsr e1 e2
  simp only[aR,seval,kA,kB,kD,h,kJ]
  (repeat (with_reducible refine And.intro ?_ ?_;focus (first|omega|exact kE|kernel_rfl)))
  obtain ⟨St,hSt⟩:∃ St:Ld2 l→AS,∀ p,St p=AS.ofH 92 [(0,.sl 0 5 (kW l)),(4,.ptr 0 0),(8,.mp 2),(38,.sl 0 5 (kW l)),(39,.v (.int .i64 l.length)),(40,.v (.int .i64 p.1.1))] [] (tsO (some s)++[.map p.1.2.es p.1.2.cl]) []:=⟨_,fun _=>rfl⟩
  refine kBR ?_
  refine jG [] hΓ St (fun p=>l.length - p.1.1) ⟨(0,⟨#[],0,[],⟨rfl,rfl,by simp⟩⟩),by simp only;omega,by simp,by simp[NI]⟩ (by rw[hSt];refine qA [0,1,2] [] ?_;simp only[aR,seval,kA,kB,kD,kJ,List.cons_append,List.nil_append]<;>((repeat' apply And.intro)<;>first|rfl|omega|trivial)) ?_
  rintro ⟨⟨i,m⟩,hi,hg,hni⟩
  simp only at hi hg hni
  rw[hSt]
  simp only
  simp only[aR,seval,kA,kB,kD,kJ,List.cons_append,List.nil_append]
  (with_reducible first|refine kF (fun h2=>?_) (fun h2=>?_)|refine kG (fun h2=>?_) (fun h2=>?_))
  ·have hlt:i < l.length:=by omega
   have e3:=k7 l hlt
   have hmem:=List.getElem_mem hlt
   have htk:=List.take_succ_eq_append_getElem hlt
   generalize l[i]=x at *
   obtain ⟨id,par,nm,dir,tx⟩:=x
   simp only[aR,seval,kA,kB,kD,h2,e3,nA,kJ]
   (repeat (with_reducible refine And.intro ?_ ?_;focus (first|omega|exact kE|kernel_rfl)))
   have fin:¬ sndN l→tloadCon.post ⟨l,hl,ht⟩ [] [] (.tup [.v (.pointer none),.v (.int .i64 1)]):=fun hn=>⟨rfl,.inr ⟨hn,rfl,rfl⟩⟩
   by_cases hp:par=0
   ·subst hp
    simp only[aR,seval,kA,kB,]
    (repeat (with_reducible refine And.intro ?_ ?_;focus (first|omega|exact kE|kernel_rfl)))
    refine vq_root (by simp[kH,kX]) (s:=s) (o:=0) (ob:=1) (by rw[hs];omega) (by simp[k8,upd]) ?_
    rw[hs]
    rcases Bool.eq_false_or_eq_true (jX l l.length id) with hr|hr
    case inr =>
     simp only[aR,seval,kA,kB,hr]
     (repeat (with_reducible refine And.intro ?_ ?_;focus (first|omega|exact kE|kernel_rfl)))
     refine kR [] [] [] [] (.tup [.v (.pointer none),.v (.int .i64 1)]) (fin fun S=>by
      have:=(kEL S _).2 (kDd S (.inr (kBg hmem)))
      simp only at this
      rw[hr]at this;cases this) ?_
     simp only[aR,seval,kA,kB,kD]<;>((repeat' apply And.intro)<;>first|rfl|omega|trivial)
    have q1:lookS Tryz.prog 82 (.agg #[.int .i64 0,.int .i64 0,sv nm,.bool false,sv []]) m.es false=some (.v (.int .i64 (cntK (0,nm) m.ps))):=look_nm m.h (0,nm)
    obtain ⟨es',cl',ix,n1,n2,n3⟩:=ent_nm m.h (0,nm)
    simp only[aR,seval,kA,kB,hr,q1]
    (repeat (with_reducible refine And.intro ?_ ?_;focus (first|omega|exact kE|kernel_rfl)))
    refine ⟨m.es,m.cl,.map es' cl',_,rfl,n1,steady_nm (m:=m) (p:=(0,nm)) rfl n2,?_⟩
    simp only[aR,seval,kA,kB,hr]
    (repeat (with_reducible refine And.intro ?_ ?_;focus (first|omega|exact kE|kernel_rfl)))
    refine ⟨es',cl',ix,rfl,(put_nm n2 n3 (IntKind.wrap .i64 (cntK (0,nm) m.ps+1))).1,?_⟩
    simp only[aR,seval,kA,kB,hr,kC (n:=(i:Int)+1) (by omega) (by omega)]
    (repeat (with_reducible refine And.intro ?_ ?_;focus (first|omega|exact kE|kernel_rfl)))
    refine kO ⟨(i+1,⟨_,_,_,(put_nm n2 n3 (IntKind.wrap .i64 (cntK (0,nm) m.ps+1))).2⟩),by simp only;omega,?_,ni_step hni htk (x:=⟨id,0,nm,dir,tx⟩) n3⟩ (by simp only;omega) ?_
    ·intro y hy
     simp only at hy
     rw[htk,List.mem_append,List.mem_singleton]at hy
     rcases hy with hy|rfl
     ·exact hg y hy
     ·exact ⟨.inl rfl,hr⟩
    ·rw[hSt];refine qA [0,1,2] [] ?_
     simp only[aR,seval,kA,kB,kD,kJ,List.cons_append,List.nil_append]<;>((repeat' apply And.intro)<;>first|rfl|omega|trivial)
   ·rcases Bool.eq_false_or_eq_true (gN l par).dir with hdd|hdd
    case inr =>
     simp only[aR,seval,kA,kB,hp,e1,nA,hdd,kFr]
     (repeat (with_reducible refine And.intro ?_ ?_;focus (first|omega|exact kE|kernel_rfl)))
     refine kR [] [] [] [] (.tup [.v (.pointer none),.v (.int .i64 1)]) (fin fun S=>by
      rcases S.par _ hmem with h5|h5
      ·exact hp h5
      ·simp only at h5;rw[hdd]at h5;cases h5.2) ?_
     simp only[aR,seval,kA,kB,kD]<;>((repeat' apply And.intro)<;>first|rfl|omega|trivial)
    simp only[aR,seval,kA,kB,hp,e1,nA,hdd,kFr]
    (repeat (with_reducible refine And.intro ?_ ?_;focus (first|omega|exact kE|kernel_rfl)))
    refine vq_root (by simp[kH,kX]) (s:=s) (o:=0) (ob:=1) (by rw[hs];omega) (by simp[k8,upd]) ?_
    rw[hs]
    rcases Bool.eq_false_or_eq_true (jX l l.length id) with hr|hr
    case inr =>
     simp only[aR,seval,kA,kB,hr]
     (repeat (with_reducible refine And.intro ?_ ?_;focus (first|omega|exact kE|kernel_rfl)))
     refine kR [] [] [] [] (.tup [.v (.pointer none),.v (.int .i64 1)]) (fin fun S=>by
      have:=(kEL S _).2 (kDd S (.inr (kBg hmem)))
      simp only at this
      rw[hr]at this;cases this) ?_
     simp only[aR,seval,kA,kB,kD]<;>((repeat' apply And.intro)<;>first|rfl|omega|trivial)
    have q1:lookS Tryz.prog 82 (.agg #[.int .i64 0,.int .i64 par,sv nm,.bool false,sv []]) m.es false=some (.v (.int .i64 (cntK (par,nm) m.ps))):=look_nm m.h (par,nm)
    obtain ⟨es',cl',ix,n1,n2,n3⟩:=ent_nm m.h (par,nm)
    simp only[aR,seval,kA,kB,hr,q1]
    (repeat (with_reducible refine And.intro ?_ ?_;focus (first|omega|exact kE|kernel_rfl)))
    refine ⟨m.es,m.cl,.map es' cl',_,rfl,n1,steady_nm (m:=m) (p:=(par,nm)) rfl n2,?_⟩
    simp only[aR,seval,kA,kB,hr]
    (repeat (with_reducible refine And.intro ?_ ?_;focus (first|omega|exact kE|kernel_rfl)))
    refine ⟨es',cl',ix,rfl,(put_nm n2 n3 (IntKind.wrap .i64 (cntK (par,nm) m.ps+1))).1,?_⟩
    simp only[aR,seval,kA,kB,hr,kC (n:=(i:Int)+1) (by omega) (by omega)]
    (repeat (with_reducible refine And.intro ?_ ?_;focus (first|omega|exact kE|kernel_rfl)))
    refine kO ⟨(i+1,⟨_,_,_,(put_nm n2 n3 (IntKind.wrap .i64 (cntK (par,nm) m.ps+1))).2⟩),by simp only;omega,?_,ni_step hni htk (x:=⟨id,par,nm,dir,tx⟩) n3⟩ (by simp only;omega) ?_
    ·intro y hy
     simp only at hy
     rw[htk,List.mem_append,List.mem_singleton]at hy
     rcases hy with hy|rfl
     ·exact hg y hy
     ·exact ⟨.inr hdd,hr⟩
    ·rw[hSt];refine qA [0,1,2] [] ?_
     simp only[aR,seval,kA,kB,kD,kJ,List.cons_append,List.nil_append]<;>((repeat' apply And.intro)<;>first|rfl|omega|trivial)
  ·have hi2:i=l.length:=by omega
   subst hi2
   have fin:¬ sndN l→tloadCon.post ⟨l,hl,ht⟩ [] [] (.tup [.v (.pointer none),.v (.int .i64 1)]):=fun hn=>⟨rfl,.inr ⟨hn,rfl,rfl⟩⟩
   have hsz:=size_nm m.h
   unfold NI at hni
   rw[List.take_length]at hg hni
   simp only[aR,seval,kA,kB,kD,h2,kJ,hsz]
   (repeat (with_reducible refine And.intro ?_ ?_;focus (first|omega|exact kE|kernel_rfl)))
   by_cases c1:(m.ps.length:Int) < l.length
   ·simp only[aR,seval,kA,kB,c1]
    (repeat (with_reducible refine And.intro ?_ ?_;focus (first|omega|exact kE|kernel_rfl)))
    refine kR [] [] [] [] (.tup [.v (.pointer none),.v (.int .i64 1)]) (fin fun S=>by
     rcases hni.2 with h5|h5
     ·omega
     ·exact h5.2 (snd_keys S)) ?_
    simp only[aR,seval,kA,kB,kD]<;>((repeat' apply And.intro)<;>first|rfl|omega|trivial)
   by_cases c2:(l.length:Int) > 100
   ·simp only[aR,seval,kA,kB,c1,c2,kJ]
    (repeat (with_reducible refine And.intro ?_ ?_;focus (first|omega|exact kE|kernel_rfl)))
    refine kR [] [] [] [] (.tup [.v (.pointer none),.v (.int .i64 1)]) (fin fun S=>by have:=S.len;omega) ?_
    simp only[aR,seval,kA,kB,kD]<;>((repeat' apply And.intro)<;>first|rfl|omega|trivial)
   simp only[aR,seval,kA,kB,c1,c2,kJ]
   (repeat (with_reducible refine And.intro ?_ ?_;focus (first|omega|exact kE|kernel_rfl)))
   have htl:=tot_le (l:=l) fun x hx=>(hok2 x hx).cnt
   refine call_tall (s:=s) (o:=0) (ob:=1) (by simp[kH,kX]) (by rw[hs];exact ⟨by omega,fun x hx=>by have:=(ht x hx).2;omega⟩) (by simp[k8,upd]) ?_
   rw[hs]
   by_cases c3:(totN l:Int) > 10000
   ·simp only[aR,seval,kA,kB,c3]
    (repeat (with_reducible refine And.intro ?_ ?_;focus (first|omega|exact kE|kernel_rfl)))
    refine kR [] [] [] [] (.tup [.v (.pointer none),.v (.int .i64 1)]) (fin fun S=>by have:=S.tot;omega) ?_
    simp only[aR,seval,kA,kB,kD]<;>((repeat' apply And.intro)<;>first|rfl|omega|trivial)
   simp only[aR,seval,kA,kB,c3]
   (repeat (with_reducible refine And.intro ?_ ?_;focus (first|omega|exact kE|kernel_rfl)))
   have hnd:(l.map kOf).Nodup:=by
    rcases hni.2 with h5|h5
    ·exact h5.2
    ·omega
   have hS:sndN l:=load_snd hsr (by omega) hok2 (by omega) hnd hg
   refine kR [0,1] [] (tsO (some s)) [] (.tup [.ptr 0 0,.v (.int .i64 0)]) ⟨rfl,.inl ⟨hS,s,hs,rfl,rfl⟩⟩ ?_
   simp only[aR,seval,kA,kB,kD]<;>((repeat' apply And.intro)<;>first|rfl|omega|trivial)
end Go.Proofs
end
-- ETr31
section
namespace Go.Proofs
open Go Go.Rw
set_option maxRecDepth 100000
theorem bk_lt (x:Nd) (zs:List Nd):∀ k,k≤zs.length→(∀ j,bkK x zs k≤j→j < k→x.nm < (zs.getD j jR).nm)∧(∀ j,j+1=bkK x zs k→¬ x.nm < (zs.getD j jR).nm)
 | 0,_=>⟨by intro j _ h;omega,by intro j h;simp [bkK] at h⟩
 | k+1,hk=>by
   rw[bkK]
   split
   ·rename_i h
    obtain ⟨h1,h2⟩:=bk_lt x zs k (by omega)
    refine ⟨fun j hj hlt=>?_,h2⟩
    by_cases he:j=k
    ·rw[he];exact h
    ·exact h1 j hj (by omega)
   ·rename_i h
    refine ⟨fun j hj hlt=>by omega,fun j hj=>?_⟩
    obtain rfl:j=k:=by omega
    exact h
abbrev byNm (a b:Nd):Prop:=¬ b.nm < a.nm
theorem kFP {a b c:Nd} (h1:byNm a b) (h2:byNm b c):byNm a c:=by
 have h1:=List.not_lt.1 h1
 have h2:=List.not_lt.1 h2
 exact List.not_lt.2 (List.le_trans h1 h2)
theorem insK_sorted {x:Nd} {zs:List Nd} (h:zs.Pairwise byNm):(insK x zs).Pairwise byNm:=by
 obtain ⟨h1,h2⟩:=bk_lt x zs zs.length (Nat.le_refl _)
 have hb:=bkK_le x zs zs.length
 unfold insK
 generalize bkK x zs zs.length=b at *
 have hgd:∀ j (hj:j < zs.length),zs.getD j jR=zs[j]:=fun j hj=>by rw[List.getD_eq_getElem?_getD,List.getElem?_eq_getElem hj];rfl
 have hp:=List.pairwise_iff_getElem.1 h
 have lo:∀ y∈zs.take b,byNm y x:=fun y hy=>by
  obtain ⟨j,hj,rfl⟩:=List.getElem_of_mem hy
  rw[List.length_take]at hj
  rw[List.getElem_take]
  obtain ⟨c,hc⟩:∃ c,b=c+1:=⟨b - 1,by omega⟩
  have h3:=h2 c hc.symm
  rw[hgd c (by omega)]at h3
  by_cases he:j=c
  ·subst he;exact h3
  ·exact kFP (hp j c (by omega) (by omega) (by omega)) h3
 have hi:∀ y∈zs.drop b,byNm x y:=fun y hy=>by
  obtain ⟨j,hj,rfl⟩:=List.getElem_of_mem hy
  rw[List.length_drop]at hj
  rw[List.getElem_drop]
  have h3:=h1 (b+j) (by omega) (by omega)
  rw[hgd _ (by omega)]at h3
  exact fun hc=>List.lt_irrefl _ (List.lt_trans h3 hc)
 rw[List.pairwise_append,List.pairwise_cons]
 refine ⟨h.sublist (List.take_sublist _ _),⟨hi,h.sublist (List.drop_sublist _ _)⟩,fun y hy z hz=>?_⟩
 rcases List.mem_cons.1 hz with rfl|hz
 ·exact lo y hy
 ·exact kFP (lo y hy) (hi z hz)
theorem insK_perm (x:Nd) (zs:List Nd):(insK x zs).Perm (zs++[x]):=by
 unfold insK
 refine List.perm_middle.trans ?_
 rw[List.take_append_drop]
 exact (List.perm_append_comm (l₁:=[x]) (l₂:=zs))
theorem kidsK_ok (par:Int):∀ (l acc:List Nd),acc.Pairwise byNm→(kAA par acc l).Pairwise byNm∧(kAA par acc l).Perm (acc++kept par l)
 | [],acc,h=>⟨h,by simp [kAA,kept]⟩
 | x::l,acc,h=>by
   rw[kAA]
   by_cases hx:x.par=par
   ·rw[if_pos hx]
    obtain ⟨h1,h2⟩:=kidsK_ok par l _ (insK_sorted (x:=x) h)
    refine ⟨h1,h2.trans ?_⟩
    have e:kept par (x::l)=x::kept par l:=by unfold kept;rw[List.filter_cons,if_pos (by simpa using hx)]
    rw[e]
    refine ((insK_perm x acc).append_right _).trans ?_
    rw[List.append_assoc];exact List.Perm.refl _
   ·rw[if_neg hx]
    obtain ⟨h1,h2⟩:=kidsK_ok par l acc h
    have e:kept par (x::l)=kept par l:=by unfold kept;rw[List.filter_cons,if_neg (by simpa using hx)]
    rw[e];exact ⟨h1,h2⟩
theorem kids_eq {l:List Nd} (S:sndN l) {par:Int} {ids:List Int} (h:kidsR par l ids):ids=(kAA par [] l).map Nd.id:=by
 obtain ⟨zs,h1,h2,rfl⟩:=h
 obtain ⟨h3,h4⟩:=kidsK_ok par l [] List.Pairwise.nil
 rw[List.nil_append]at h4
 have hmem:∀ x∈zs,x∈l∧x.par=par:=fun x hx=>by
  have:=h1.mem_iff.1 hx
  unfold kept at this
  rw[List.mem_filter]at this
  exact ⟨this.1,by simpa using this.2⟩
 have hmem2:∀ x∈kAA par [] l,x∈l∧x.par=par:=fun x hx=>hmem x (h1.mem_iff.2 (h4.mem_iff.1 hx))
 have:zs=kAA par [] l:=by
  refine List.Perm.eq_of_pairwise (le:=byNm) (fun x y hx hy a b=>?_) h2 h3 (h1.trans h4.symm)
  obtain ⟨hx1,hx2⟩:=hmem x hx
  obtain ⟨hy1,hy2⟩:=hmem2 y hy
  have hn:x.nm=y.nm:=List.le_antisymm (List.not_lt.1 a) (List.not_lt.1 b)
  have hid:=S.sib x hx1 y hy1 (hx2.trans hy2.symm) hn
  rw[← kE8 S.srt hx1,← kE8 S.srt hy1,hid]
 rw[this]
-- in a region that draws its order
theorem kFZ {f:FuncId} {C:ConO} (hG:jC Tryz.prog f C) {m:AM} (i:C.ι) {s:TS} (hobjs:C.objs i=tsO (some s)) {o ob:Nat} (hT:k8 m.h o ob s) {bs:List AV} (ha:dnL [o,ob] bs (C.args i)) (ht:AV.tagsL bs=[]) {r:AV}
    (hk:∀ objs lvs r',C.post i objs lvs r'→objs=C.objs i∧lvs=[]∧r'=r∧r.er=r):Still Tryz.prog m f bs r:=by
 obtain ⟨h1,h2,h3⟩:=hT
 refine still_obj hG i [o,ob] (by simp[h3]) ha ?_ ht ?_ ?_ hk
 ·rw[hobjs]
  simp only[tsO,kC7,kEG,h1,h2,kBa,kEE,kCs,kEv,dn_mp]
  simp
 ·simp[kAu,kAi,h1,h2,tagsO1,AO.tags,AV.tagsL,AV.tags]
 ·intro nh nl j o' x y ho hx hy
  rw[hobjs]at hx
  match j,ho,hx with
  | 0,ho,hx=>cases ho;simp [tsO] at hx;subst hx;rw [h1] at hy;cases hy;rfl
  | 1,ho,hx=>cases ho;simp [tsO] at hx;subst hx;rw [h2] at hy;cases hy;rfl
  | j+2,ho,hx=>cases ho
section
variable {Γ:Env} {n:Nat} {t:Nat→AV} {hd:Nat→Nat→AV} {d:Option Nat} {K:AS→Prop} {nh nl:Nat} {h:Nat→Option AO} {fm:Nat→Nat} {lv:Nat→Option (Nat×Nat)} {mu:Bool}
theorem vq_child (hC:Γ.get 67=none) {s:TS} (hi:trOk s.l) {par:Int} {nm:List UInt8} {o ob:Nat} (hT:k8 h o ob s)
    (hk:cont ⟨n,t,hd,⟨nh,h,nl,fm,lv,mu⟩⟩ d (.tup [.v (.int .i64 (max 0 (kid par nm s.l))),.v (.bool (decide (0 < kid par nm s.l)))]) K):callQ.callQ2 Tryz.prog Γ d K ⟨n,t,hd,⟨nh,h,nl,fm,lv,mu⟩⟩ (Γ.get 67) 67 [.ptr o 0,.v (.int .i64 par),.v (sv nm)]:=by
 rw[hC]
 exact ⟨_,kFZ kE1 ⟨(s,par,nm),hi.1,hi.2.1⟩ rfl hT (by simp[dnL,dn]) rfl (fun _ _ _ hp=>⟨hp.1,hp.2.1,hp.2.2,rfl⟩),hk⟩
theorem vq_kids (hC:Γ.get 27=none) {s:TS} (S:sndN s.l) {par:Int} {o ob:Nat} (hT:k8 h o ob s)
    (hk:cont ⟨n,t,hd,⟨nh,h,nl,fm,lv,mu⟩⟩ d (.sl 0 1 (ints .i64 ((kAA par [] s.l).map Nd.id))) K):callQ.callQ2 Tryz.prog Γ d K ⟨n,t,hd,⟨nh,h,nl,fm,lv,mu⟩⟩ (Γ.get 27) 27 [.ptr o 0,.v (.int .i64 par)]:=by
 rw[hC]
 refine ⟨_,kFZ kF4 ⟨(s,par),(snd_ok S).1⟩ rfl hT (by simp[dnL,dn]) rfl ?_,hk⟩
 rintro objs lvs r ⟨h1,ids,h2,h3,h4⟩
 exact ⟨h1,h3,by rw[h4,kids_eq S h2],by simp[AV.er]⟩
theorem call_tkidsS (hC:Γ.get 27=none) {s:TS} {par:Int} (S:sndN s.l) {o ob:Nat} (hT:k8 h o ob s)
    (hk:cont ⟨n,t,hd,⟨nh,h,nl,fm,lv,mu⟩⟩ d (.sl 0 1 (ints .i64 ((kAA par [] s.l).map Nd.id))) K):kS Tryz.prog Γ false ⟨n,t,hd,⟨nh,h,nl,fm,lv,mu⟩⟩ 27 [.ptr o 0,.v (.int .i64 par)] d K:=by
 refine kFk hC (snd_ok S).1 hT fun ids h1=>?_
 rw[kids_eq S h1];exact hk
end
end Go.Proofs
end
-- EUk9s
section
namespace Go.Proofs
open Go Go.Rw
set_option maxRecDepth 100000
theorem srt_snoc {l:List Nd} {i:Nat} (h:i < l.length) (h1:srtN (l.take i)) (h2:∀ k,∀ hk:k+1=i,(l[k]'(by omega)).id < l[i].id):srtN (l.take (i+1)):=by
 rw[List.take_succ_eq_append_getElem h,srtN,List.map_append,List.pairwise_append]
 refine ⟨h1,by simp,fun a ha b hb=>?_⟩
 simp only[List.map_cons,List.map_nil,List.mem_singleton]at hb
 subst hb
 cases i with
 | zero=>simp at ha
 | succ k =>
   have h3:=h2 k rfl
   rw[List.take_succ_eq_append_getElem (by omega),srtN,List.map_append,List.pairwise_append]at h1
   rw[List.take_succ_eq_append_getElem (by omega),List.map_append,List.mem_append]at ha
   rcases ha with ha|ha
   ·have:=h1.2.2 a ha l[k].id (by simp)
    omega
   ·simp only[List.map_cons,List.map_nil,List.mem_singleton]at ha
    omega
end Go.Proofs
end
-- EUn7
section
namespace Go.Proofs
open Go Go.Rw
set_option maxRecDepth 100000
end Go.Proofs
end
-- EUk10
section
namespace Go.Proofs
open Go Go.Rw
set_option maxRecDepth 100000
end Go.Proofs
end
-- ETr16
section
namespace Go.Proofs
open Go Go.Rw
set_option maxRecDepth 100000
def kFF (t:List Nd) (l:List Ac):Bool:=decide (nF 4000 0 t≤4000∧wF 4000 0 (wA l)≤4000∧l.length≤60)
end Go.Proofs
end
