/-
 The program's tree: kU taken away;any act. What a qU tree is;going up in it. Plain. What the tree does is what the document says;a qU tree stays qU. Plain. A qU tree stays qU. Plain. A transaction,done on a copy of a tree. Names that are taken: a map whose keys are kU. Plain. A node by itself;a tree of kU. The IDs of a transaction's acts,by a map. law14: what the document fixes.
-/
import Derived.Test.YtfhipjafkdembaaGreatDoorXETr3
import Derived.Test.YtfhipjafkdembaaGreatDoorXEUk5
import Derived.Test.YtfhipjafkdembaaGreatDoorXEUk1e
import Derived.Test.YtfhipjafkdembaaGreatDoorRwO
set_option linter.unusedSimpArgs false
set_option linter.unusedVariables false
set_option linter.defProp false
set_option linter.unusedSectionVars false

-- ETr9
section
namespace Go.Proofs
open Go Go.Rw
set_option maxRecDepth 100000
section
variable {Γ:Env} {n:Nat} {t:Nat→AV} {hd:Nat→Nat→AV} {d:Option Nat} {K:AS→Prop}
variable {nh nl:Nat} {h:Nat→Option AO} {fm:Nat→Nat} {lv:Nat→Option (Nat×Nat)} {mu:Bool}
theorem call_tkids (hC:Γ.get 27=none) {s:TS} {par:Int} (hi:idsOk s.l) {o ob:Nat} (hT:qP h o ob s)
    (hk:∀ ids,kidsR par s.l ids→cont ⟨n,t,hd,⟨nh,h,nl+1,upd fm nl nl,upd lv nl (some (ids.length,3)),mu⟩⟩ d (.sl nl 1 (ints .i64 ids)) K):kS Tryz.prog Γ false ⟨n,t,hd,⟨nh,h,nl,fm,lv,mu⟩⟩ 27 [.ptr o 0,.v (.int .i64 par)] d K:=by
 refine kBa tkids_good hC ⟨(s,par),hi⟩ rfl hT (by simp[dnL,dn]) rfl (fun _ _ _ hp=>hp.1) ?_
 rintro lvs r ⟨_,ids,h1,rfl,rfl⟩
 exact hk ids h1
theorem kDQ {f:FuncId} {C:ConO} (hG:j7 Tryz.prog f C) (hC:Γ.get f=none) (i:C.ι) {s:TS} (hobjs:C.objs i=tsO (some s)) {o ob:Nat} (hT:qP h o ob s) {bs:List AV} (ha:dnL [o,ob] bs (C.args i)) (ht:AV.tagsL bs=[]) {q:List Nd×Int}
    (hpost:∀ objs lvs r,C.post i objs lvs r→mutP s q objs lvs r)
    (hk:∀ s':TS,s'.l=q.1→cont ⟨n,t,hd,⟨nh,upd h ob (some (.map s'.es s'.cl)),nl,fm,lv,mu⟩⟩ d (.v (.int .i64 q.2)) K):kS Tryz.prog Γ false ⟨n,t,hd,⟨nh,h,nl,fm,lv,mu⟩⟩ f bs d K:=by
 obtain ⟨h1,h2,h3⟩:=hT
 refine vc_obj hG hC i [o,ob] ⟨by simp[h3],ha,?_,ht,?_⟩ ?_
 ·rw[hobjs]
  simp only[tsO,kBo,kCy,h1,h2,kAv,kCm,kCu,kF2,dn_mp]
  simp
 ·simp[kA0,kAy,h1,h2,kFw,AO.tags,AV.tagsL,AV.tags]
 ·intro objs lvs r hp hl
  obtain ⟨s',h4,rfl,rfl,rfl⟩:=hpost _ _ _ hp
  have e1:upd h o (some (.cells [.mp ob]))=h:=upd_it h1
  have e3:(tsO (some s')).length - [o,ob].length=0:=rfl
  rw[e3]
  simp only[tsO,List.cons_append,List.nil_append,kAP,kAc,kAS,kBw,kAX,kBO,kGC,kCJ,kCH,kDy,kAQ,kAw,kA5,kAU,kA8,emb_v,List.length_nil,Nat.add_zero,e1]
  exact hk s' h4
end
def remN (l:List Nd) (id:Int):List Nd×Int :=
 if hasN l id=false then (l,5) else if 0 < (kept id l).length then (l,9) else (offT id l,0)
abbrev tremCon:ConO where
 ι:={ p:TS×Int // idsOk p.1.l }
 objs:=fun p=>tsO (some p.1.1)
 args:=fun p=>[.ptr 0 0,.v (.int .i64 p.1.2)]
 post:=fun p=>mutP p.1.1 (remN p.1.1.l p.1.2)
set_option maxHeartbeats 1000000 in
theorem trem_good:j7 Tryz.prog 63 tremCon:=by
 have hΓ:kM Tryz.prog []:=kJ
 refine qT (nn:=28) Tryz.func63 (by kernel_rfl) rfl (show Tryz.f63.results.toList=[.tmp 4] from rfl) (fun _=>rfl) ?_
 rintro ⟨⟨s,id⟩,hi⟩
 simp only at hi
 refine qW hΓ (Ws:=[]) _ ?_
 have e1:=kBP s.h
 have e0:remN s.l id=if hasN s.l id=false then (s.l,5) else if 0 < (kept id s.l).length then (s.l,9) else (offT id s.l,0):=rfl
 simp only[aR,seval,kB,kC,kG,e1,nA]
 (repeat (with_reducible refine And.intro ?_ ?_;focus (first|omega|exact kD|kernel_rfl)))
 rcases Bool.eq_false_or_eq_true (hasN s.l id) with hh|hh
 case inr =>
  rw[if_pos hh]at e0
  simp only[aR,seval,kB,kC,kG,hh]
  refine kW [0,1] [] (tsO (some s)) [] (.v (.int .i64 5)) ⟨s,by rw[e0],rfl,rfl,by rw[e0]⟩ ?_
  simp only[aR,seval,kB,kC,kG]<;>((repeat' apply And.intro)<;>first|rfl|omega|trivial)
 rw[if_neg (by rw[hh];decide)]at e0
 simp only[aR,seval,kB,kC,kG,hh]
 (repeat (with_reducible refine And.intro ?_ ?_;focus (first|omega|exact kD|kernel_rfl)))
 refine call_tkids (s:=s) (o:=0) (ob:=1) (by simp[kI,k9]) hi (by simp[qP,upd]) ?_
 intro ids hk
 have e2:=kidsR_len hk
 have e3:(ints .i64 ids).length=ids.length:=by simp[ints]
 simp only[aR,seval,kB,kC,kG,e3,e2]
 (repeat (with_reducible refine And.intro ?_ ?_;focus (first|omega|exact kD|kernel_rfl)))
 by_cases h9:0 < (kept id s.l).length
 ·rw[if_pos h9]at e0
  simp only[aR,seval,kB,kC,kG,show (((kept id s.l).length:Int) > 0)=True from eq_true (by omega)]
  refine kW [0,1] [] (tsO (some s)) [] (.v (.int .i64 9)) ⟨s,by rw[e0],rfl,rfl,by rw[e0]⟩ ?_
  simp only[aR,seval,kB,kC,kG]<;>((repeat' apply And.intro)<;>first|rfl|omega|trivial)
 rw[if_neg h9]at e0
 simp only[aR,seval,kB,kC,kG,show (((kept id s.l).length:Int) > 0)=False from eq_false (by omega)]
 obtain ⟨es',cl',p1,p2⟩:=off_tm s.h id
 simp only[aR,seval,kB,kC,kG,p1]
 (repeat (with_reducible refine And.intro ?_ ?_;focus (first|omega|exact kD|kernel_rfl)))
 refine kW [0,1] [] (tsO (some ⟨es',cl',_,p2⟩)) [] (.v (.int .i64 0)) ⟨⟨es',cl',_,p2⟩,by rw[e0],rfl,rfl,by rw[e0]⟩ ?_
 simp only[aR,seval,kB,kC,kG]<;>((repeat' apply And.intro)<;>first|rfl|omega|trivial)
def dotN (l:List Nd) (a:Ac):List Nd×Int :=
 if a.k < 1∨a.k > 4 then (l,1)
 else if a.k=1 then creN l a
 else if a.k=2 then remN l a.id
 else if a.k=3 then movN l a
 else ediN l a
def doOk (l:List Nd) (a:Ac):Prop:=trOk l∧rtOk l∧a.nm.length≤1099511627776∧okL a.ops
abbrev tdoCon:ConO where
 ι:={ p:TS×Ac // doOk p.1.l p.2 }
 objs:=fun p=>tsO (some p.1.1)
 args:=fun p=>[.ptr 0 0,aA p.1.2]
 post:=fun p=>mutP p.1.1 (dotN p.1.1.l p.1.2)
set_option maxHeartbeats 4000000 in
theorem tdo_good:j7 Tryz.prog 18 tdoCon:=by
 have hΓ:kM Tryz.prog []:=kJ
 refine qT (nn:=45) Tryz.func18 (by kernel_rfl) rfl (show Tryz.f18.results.toList=[.tmp 4] from rfl) (fun _=>rfl) ?_
 rintro ⟨⟨s,a⟩,ho,hr,hn,hc⟩
 obtain ⟨k,id,par,nm,dir,ops⟩:=a
 simp only at ho hr hn hc
 refine qW hΓ (Ws:=[]) _ ?_
 have e0:dotN s.l ⟨k,id,par,nm,dir,ops⟩=if k < 1∨k > 4 then (s.l,1) else if k=1 then creN s.l ⟨k,id,par,nm,dir,ops⟩ else if k=2 then remN s.l id else if k=3 then movN s.l ⟨k,id,par,nm,dir,ops⟩ else ediN s.l ⟨k,id,par,nm,dir,ops⟩:=rfl
 simp only[aR,seval,kB,kC,kG,aA]
 (repeat (with_reducible refine And.intro ?_ ?_;focus (first|omega|exact kD|kernel_rfl)))
 by_cases h1:k < 1
 ·rw[if_pos (.inl h1)]at e0
  simp only[aR,seval,kB,kC,kG,h1]
  refine kW [0,1] [] (tsO (some s)) [] (.v (.int .i64 1)) ⟨s,by rw[e0],rfl,rfl,by rw[e0]⟩ ?_
  simp only[aR,seval,kB,kC,kG]<;>((repeat' apply And.intro)<;>first|rfl|omega|trivial)
 by_cases h2:k > 4
 ·rw[if_pos (.inr h2)]at e0
  simp only[aR,seval,kB,kC,kG,h1,h2]
  refine kW [0,1] [] (tsO (some s)) [] (.v (.int .i64 1)) ⟨s,by rw[e0],rfl,rfl,by rw[e0]⟩ ?_
  simp only[aR,seval,kB,kC,kG]<;>((repeat' apply And.intro)<;>first|rfl|omega|trivial)
 rw[if_neg (by omega)]at e0
 simp only[aR,seval,kB,kC,kG,h1,h2]
 (repeat (with_reducible refine And.intro ?_ ?_;focus (first|omega|exact kD|kernel_rfl)))
 by_cases k1:k=1
 ·subst k1
  rw[if_pos rfl]at e0
  simp only[aR,seval,kB,kC,kG,aA]
  (repeat (with_reducible refine And.intro ?_ ?_;focus (first|omega|exact kD|kernel_rfl)))
  refine kDQ (o:=0) (ob:=1) (q:=creN s.l ⟨1,id,par,nm,dir,ops⟩) tcre_good (by simp[kI,k9]) ⟨(s,⟨1,id,par,nm,dir,ops⟩),ho,hn⟩ rfl (by simp[qP,upd]) (by simp[dnL,dn,aA]) (by simp[AV.tagsL,AV.tags]) (fun _ _ _ hp=>hp) ?_
  intro s' hs
  simp only[aR,seval,kB,kC,kG,h1,h2]
  (repeat (with_reducible refine And.intro ?_ ?_;focus (first|omega|exact kD|kernel_rfl)))
  refine kW [0,1] [] (tsO (some s')) [] (.v (.int .i64 (creN s.l ⟨1,id,par,nm,dir,ops⟩).2)) ⟨s',by rw[e0];exact hs,rfl,rfl,by rw[e0]⟩ ?_
  simp only[aR,seval,kB,kC,kG]<;>((repeat' apply And.intro)<;>first|rfl|omega|trivial)
 rw[if_neg k1]at e0
 by_cases k2:k=2
 ·subst k2
  rw[if_pos rfl]at e0
  simp only[aR,seval,kB,kC,kG,aA]
  (repeat (with_reducible refine And.intro ?_ ?_;focus (first|omega|exact kD|kernel_rfl)))
  refine kDQ (o:=0) (ob:=1) (q:=remN s.l id) trem_good (by simp[kI,k9]) ⟨(s,id),ho.1⟩ rfl (by simp[qP,upd]) (by simp[dnL,dn,aA]) (by simp[AV.tagsL,AV.tags]) (fun _ _ _ hp=>hp) ?_
  intro s' hs
  simp only[aR,seval,kB,kC,kG,h1,h2]
  (repeat (with_reducible refine And.intro ?_ ?_;focus (first|omega|exact kD|kernel_rfl)))
  refine kW [0,1] [] (tsO (some s')) [] (.v (.int .i64 (remN s.l id).2)) ⟨s',by rw[e0];exact hs,rfl,rfl,by rw[e0]⟩ ?_
  simp only[aR,seval,kB,kC,kG]<;>((repeat' apply And.intro)<;>first|rfl|omega|trivial)
 rw[if_neg k2]at e0
 by_cases k3:k=3
 ·subst k3
  rw[if_pos rfl]at e0
  simp only[aR,seval,kB,kC,kG,aA]
  (repeat (with_reducible refine And.intro ?_ ?_;focus (first|omega|exact kD|kernel_rfl)))
  refine kDQ (o:=0) (ob:=1) (q:=movN s.l ⟨3,id,par,nm,dir,ops⟩) tmov_good (by simp[kI,k9]) ⟨(s,⟨3,id,par,nm,dir,ops⟩),ho,hr,hn⟩ rfl (by simp[qP,upd]) (by simp[dnL,dn,aA]) (by simp[AV.tagsL,AV.tags]) (fun _ _ _ hp=>hp) ?_
  intro s' hs
  simp only[aR,seval,kB,kC,kG,h1,h2]
  (repeat (with_reducible refine And.intro ?_ ?_;focus (first|omega|exact kD|kernel_rfl)))
  refine kW [0,1] [] (tsO (some s')) [] (.v (.int .i64 (movN s.l ⟨3,id,par,nm,dir,ops⟩).2)) ⟨s',by rw[e0];exact hs,rfl,rfl,by rw[e0]⟩ ?_
  simp only[aR,seval,kB,kC,kG]<;>((repeat' apply And.intro)<;>first|rfl|omega|trivial)
 rw[if_neg k3]at e0
 simp only[aR,seval,kB,kC,kG,k1,k2,k3,aA]
 (repeat (with_reducible refine And.intro ?_ ?_;focus (first|omega|exact kD|kernel_rfl)))
 refine kDQ (o:=0) (ob:=1) (q:=ediN s.l ⟨k,id,par,nm,dir,ops⟩) tedi_good (by simp[kI,k9]) ⟨(s,⟨k,id,par,nm,dir,ops⟩),ho,hc⟩ rfl (by simp[qP,upd]) (by simp[dnL,dn,aA]) (by simp[AV.tagsL,AV.tags]) (fun _ _ _ hp=>hp) ?_
 intro s' hs
 simp only[aR,seval,kB,kC,kG,h1,h2]
 (repeat (with_reducible refine And.intro ?_ ?_;focus (first|omega|exact kD|kernel_rfl)))
 refine kW [0,1] [] (tsO (some s')) [] (.v (.int .i64 (ediN s.l ⟨k,id,par,nm,dir,ops⟩).2)) ⟨s',by rw[e0];exact hs,rfl,rfl,by rw[e0]⟩ ?_
 simp only[aR,seval,kB,kC,kG]<;>((repeat' apply And.intro)<;>first|rfl|omega|trivial)
end Go.Proofs
end
-- ETr10
section
namespace Go.Proofs
open Go Go.Rw
set_option maxRecDepth 100000
theorem gN_at (l:List Nd) (i:Int):gN l i=(atI i l).getD zI:=by
 rw[at_ndx]
 unfold gN
 split
 ·rfl
 ·rw[List.getD_eq_getElem?_getD,List.getElem?_eq_none (by omega)]
theorem kBl (l:List Nd) (i:Int):hasN l i=(atI i l).isSome:=by
 rw[at_ndx]
 unfold hasN
 split<;>simp[*]
def pf (l:List Nd) (i:Int):Int:=(gN l i).par
def upN (l:List Nd):Nat→Int→Int
 | 0,i=>i
 | k+1,i=>upN l k (pf l i)
theorem kG3 (l:List Nd):∀ (j k:Nat) (i:Int),upN l (j+k) i=upN l k (upN l j i)
 | 0,k,i=>by rw [Nat.zero_add];rfl
 | j+1,k,i=>by rw [Nat.add_right_comm];exact kG3 l j k (pf l i)
theorem up_succ (l:List Nd) (k:Nat) (i:Int):upN l (k+1) i=pf l (upN l k i):=kG3 l k 1 i
theorem pf_no {l:List Nd} {i:Int} (h:hasN l i=false):pf l i=0:=by
 unfold pf
 rw[gN_at]
 rw[kBl]at h
 cases h2:atI i l with
 | none=>rfl
 | some x=>rw [h2] at h;simp at h
theorem nodup_sub:∀ {a b:List Int},a.Nodup→(∀ x∈a,x∈b)→a.length≤b.length
 | [],b,_,_=>Nat.zero_le _
 | x::a,b,hn,hs=>by
   rw[List.nodup_cons]at hn
   have h1:=hs x (List.mem_cons_self ..)
   have h2:=nodup_sub (a:=a) (b:=b.erase x) hn.2 fun y hy=>(List.mem_erase_of_ne (by rintro rfl;exact hn.1 hy)).2 (hs y (List.mem_cons_of_mem _ hy))
   rw[List.length_erase_of_mem h1]at h2
   have:0 < b.length:=List.length_pos_of_mem h1
   simp only[List.length_cons];omega
structure okNd (x:Nd):Prop where
 id:1≤x.id∧x.id≤1099511627776
 nm:qC x.nm=true
 dir:x.dir=true→x.text=[]
 valid:(pts x.text).isSome=true
 cnt:cnt x.text≤2000
structure sndN (l:List Nd):Prop where
 srt:srtN l
 len:l.length≤100
 node:∀ x∈l,okNd x
 tot:totN l≤10000
 sib:∀ x∈l,∀ y∈l,x.par=y.par→x.nm=y.nm→x.id=y.id
 par:∀ x∈l,x.par=0∨(hasN l x.par=true∧(gN l x.par).dir=true)
 rt:∀ x∈l,∃ k,upN l k x.id=0
theorem snd_nil:sndN []:=⟨by simp[srtN],by simp,by simp,by simp[totN],by simp,by simp,by simp⟩
theorem at_mem {l:List Nd} (h:srtN l) {x:Nd} (hx:x∈l):atI x.id l=some x:=by
 obtain ⟨i,hi,rfl⟩:=List.getElem_of_mem hx
 have:=ndx_self (srt_mem h) i (List.getElem?_eq_getElem hi)
 rw[at_ndx,this,if_pos hi,List.getD_eq_getElem?_getD,List.getElem?_eq_getElem hi];rfl
theorem kB4 {l:List Nd} {i:Int} (h:hasN l i=true):gN l i∈l∧(gN l i).id=i:=by
 obtain ⟨h1,h2,h3⟩:=kDO h
 rw[h2]
 exact ⟨List.getElem_mem h1,h3⟩
theorem kEh {l:List Nd} {x:Nd} (hx:x∈l):hasN l x.id=true:=(qL l x.id).2 ((ndx_mem x.id l).2 ⟨x,hx,rfl⟩)
theorem gN_self {l:List Nd} (h:srtN l) {x:Nd} (hx:x∈l):gN l x.id=x:=by rw[gN_at,at_mem h hx];rfl
section
variable {l:List Nd} (S:sndN l)
include S
theorem no_zero:hasN l 0=false:=by
 rcases Bool.eq_false_or_eq_true (hasN l 0) with h|h
 ·have:=kB4 h
  have h2:=(S.node _ this.1).id.1
  omega
 ·exact h
theorem pf_zero:pf l 0=0:=pf_no (no_zero S)
theorem kD5:∀ k,upN l k 0=0
 | 0=>rfl
 | k+1=>by rw [upN,pf_zero S];exact kD5 k
theorem up_stay {j k:Nat} {i:Int} (h:upN l j i=0) (hk:j≤k):upN l k i=0:=by
 obtain ⟨m,rfl⟩:∃ m,k=j+m:=⟨k - j,by omega⟩
 rw[kG3,h,kD5 S]
def inT (l:List Nd) (i:Int):Prop:=i=0∨hasN l i=true
theorem pf_in {i:Int}:inT l (pf l i):=by
 rcases Bool.eq_false_or_eq_true (hasN l i) with h|h
 ·obtain ⟨h1,h2⟩:=kB4 h
  rcases S.par _ h1 with h3|h3
  ·exact .inl h3
  ·exact .inr h3.1
 ·exact .inl (pf_no h)
theorem up_in {i:Int} (hi:inT l i):∀ k,inT l (upN l k i)
 | 0=>hi
 | k+1=>by rw [up_succ];exact pf_in S
theorem rt_in {i:Int} (hi:inT l i):∃ k,upN l k i=0:=by
 rcases hi with rfl|hi
 ·exact ⟨0,rfl⟩
 ·obtain ⟨h1,h2⟩:=kB4 hi
  have:=S.rt _ h1
  rwa [h2]at this
theorem rt_len {i:Int} (hi:inT l i):upN l l.length i=0:=by
 obtain ⟨k,hk⟩:=rt_in S hi
 induction k using Nat.strongRecOn with
 | ind k ih =>
   by_cases hlt:k≤l.length
   ·exact up_stay S hk hlt
   ·-- two of the k are the same
    by_cases hall:∀ j,j < k→upN l j i≠0
    ·by_cases hnd:((List.range k).map fun j=>upN l j i).Nodup
     ·have:=nodup_sub (b:=l.map Nd.id) hnd fun y hy=>by
        obtain ⟨j,hj,rfl⟩:=List.mem_map.1 hy
        rcases up_in S hi j with h0|h0
        ·exact absurd h0 (hall j (by simpa using hj))
        ·obtain ⟨h1,h2⟩:=kB4 h0
         exact List.mem_map.2 ⟨_,h1,h2⟩
      simp at this
      omega
     ·exfalso
      apply hnd
      rw[List.nodup_iff_pairwise_ne,List.pairwise_map]
      rw[List.pairwise_iff_getElem]
      intro a b ha hb hab
      simp only[List.length_range]at ha hb
      simp only[List.getElem_range]
      intro he
      -- from b on as from a on: the root sooner
      have h1:upN l (a+(k - b)) i=0:=by rw[kG3,he,← kG3,show b+(k - b)=k by omega,hk]
      exact hall _ (by omega) h1
    ·have:∃ j,j < k∧upN l j i=0:=by
       refine Classical.byContradiction fun hc=>hall fun j hj h0=>hc ⟨j,hj,h0⟩
     obtain ⟨j,hj,h0⟩:=this
     exact ih j hj h0
theorem kE4 {i:Int}:∀ n,kAE l n i=true↔upN l n i=0
 | 0=>by simp [kAE,upN]
 | n+1=>by
   rw[kAE,upN]
   split
   ·rename_i h0
    subst h0
    simp[pf_zero S,kD5 S]
   ·exact kE4 n
theorem snd_rt:rtOk l:=fun x hx=>(kE4 S _).2 (rt_len S (.inr (kEh hx)))
def meets (l:List Nd) (i top:Int):Prop:=∃ k,upN l k i=top
theorem up_iff {i top:Int}:∀ n,upB l top n i=true↔∃ k,k≤n∧upN l k i=top∧∀ j,j < k→upN l j i≠0
 | 0=>by
   simp only[upB,decide_eq_true_eq]
   constructor
   ·rintro rfl;exact ⟨0,Nat.le_refl _,rfl,by omega⟩
   ·rintro ⟨k,hk,h,_⟩
    have:k=0:=by omega
    subst this;exact h
 | n+1=>by
   rw[upB]
   split
   ·rename_i h0
    simp only[true_iff]
    exact ⟨0,Nat.zero_le _,h0,by omega⟩
   ·rename_i h0
    split
    ·rename_i h1
     subst h1
     simp only[Bool.false_eq_true,false_iff]
     rintro ⟨k,hk,h,h2⟩
     cases k with
     | zero=>exact h0 h
     | succ k=>exact h2 0 (by omega) rfl
    ·rename_i h1
     rw[show (gN l i).par=pf l i from rfl,up_iff n]
     constructor
     ·rintro ⟨k,hk,h,h2⟩
      refine ⟨k+1,by omega,h,fun j hj=>?_⟩
      cases j with
      | zero=>exact h1
      | succ j=>exact h2 j (by omega)
     ·rintro ⟨k,hk,h,h2⟩
      cases k with
      | zero=>exact absurd h h0
      | succ k=>exact ⟨k,by omega,h,fun j hj=>h2 (j+1) (by omega)⟩
theorem up_meets {i top:Int} (hi:inT l i) (ht:top≠0):upB l top l.length i=true↔meets l i top:=by
 rw[up_iff S]
 constructor
 ·rintro ⟨k,_,h,_⟩;exact ⟨k,h⟩
 ·rintro ⟨k,h⟩
  have hz:∀ j,j≤k→upN l j i≠0:=fun j hj h0=>ht (by rw[← h,up_stay S h0 hj])
  refine ⟨k,?_,h,fun j hj=>hz j (by omega)⟩
  refine Classical.byContradiction fun hc=>hz l.length (by omega) (rt_len S hi)
theorem in_iff {top:Int} (ht:top≠0):∀ (n:Nat) {i:Int},inT l i→upN l n i=0→(inN l top (n+1) i=true↔meets l i top)
 | n,i,hi,h0=>by
   rw[inN]
   split
   ·rename_i h1
    simp only[true_iff]
    exact ⟨0,h1⟩
   ·rename_i h1
    split
    ·rename_i h2
     have h3:(l.getD (ndx i l) zI).par=pf l i:=rfl
     rw[h3]
     have h4:meets l i top↔meets l (pf l i) top:=by
      constructor
      ·rintro ⟨k,h⟩
       cases k with
       | zero=>exact absurd h h1
       | succ k=>exact ⟨k,h⟩
      ·rintro ⟨k,h⟩;exact ⟨k+1,h⟩
     rw[h4]
     cases n with
     | zero =>
       have:i=0:=h0
       subst this
       have:=no_zero S
       simp[hasN]at this
       omega
     | succ n=>exact in_iff ht n (pf_in S) h0
    ·rename_i h2
     have h5:i=0:=by
      rcases hi with h|h
      ·exact h
      ·exact absurd ((qL l i).1 h) h2
     subst h5
     simp only[Bool.false_eq_true,false_iff]
     rintro ⟨k,h⟩
     rw[kD5 S]at h
     exact ht h.symm
theorem kAj {i top:Int} (hi:inT l i) (ht:top≠0):zS l i top=true↔meets l i top:=in_iff S ht l.length hi (rt_len S hi)
theorem kid_some {par:Int} {nm:List UInt8}:∀ {m:List Nd},(∀ x∈m,1≤x.id)→(kid par nm m = -1∨1≤kid par nm m)
 | [],_=>.inl rfl
 | x::m,h=>by
   rw[kid]
   split
   ·exact .inr (h x (List.mem_cons_self ..))
   ·exact kid_some fun y hy=>h y (List.mem_cons_of_mem _ hy)
end
theorem kid_iff {par i:Int} {nm:List UInt8}:∀ {m:List Nd},(∀ x∈m,1≤x.id)→1≤i→kid par nm m=i→∃ x∈m,x.par=par∧x.nm=nm∧x.id=i
 | [],_,h1,h=>by rw [kid] at h;omega
 | x::m,hp,h1,h=>by
   rw[kid]at h
   split at h
   ·rename_i hx
    exact ⟨x,List.mem_cons_self ..,hx.1,hx.2,h⟩
   ·obtain ⟨y,hy,h2⟩:=kid_iff (fun y hy=>hp y (List.mem_cons_of_mem _ hy)) h1 h
    exact ⟨y,List.mem_cons_of_mem _ hy,h2⟩
theorem kCk {par:Int} {nm:List UInt8}:∀ {m:List Nd},(∀ x∈m,1≤x.id)→¬ 1≤kid par nm m→∀ x∈m,¬ (x.par=par∧x.nm=nm)
 | [],_,h,x,hx=>by cases hx
 | y::m,hp,h,x,hx=>by
   rw[kid]at h
   split at h
   ·exact absurd (hp y (List.mem_cons_self ..)) h
   ·rename_i hy
    rcases List.mem_cons.1 hx with rfl|hx
    ·exact hy
    ·exact kCk (fun y hy=>hp y (List.mem_cons_of_mem _ hy)) h x hx
end Go.Proofs
end
-- ETr11
section
namespace Go.Proofs
open Go Go.Rw
set_option maxRecDepth 100000
theorem kBp (a b:List Nd):totN (a++b)=totN a+totN b:=by
 induction a with
 | nil=>simp [totN]
 | cons x a ih=>simp [totN,ih,Nat.add_assoc]
theorem tot_set:∀ (l:List Nd) (i:Nat) (h:i < l.length) (y:Nd),totN (l.set i y)+cnt l[i].text=totN l+cnt y.text
 | [],i,h,y=>by simp at h
 | x::l,0,h,y=>by simp [totN];omega
 | x::l,i+1,h,y=>by
   have:=tot_set l i (by simpa using h) y
   simp[totN];omega
theorem kCl {l:List Nd} {par id:Int} {nm:List UInt8} (h:dirI l par≠0):zB l par nm id=dirI l par:=by
 unfold dirI at h ⊢
 unfold zB
 split
 ·rename_i h0;rw[if_pos h0]at h;exact absurd rfl h
 ·rename_i h0
  rw[if_neg h0]at h
  by_cases h1:hasN l par=true
  ·rw[if_pos h1]at h ⊢
   rw[if_pos ((qL l par).1 h1)]
   split at h
   ·exact absurd rfl h
   ·rename_i h2
    rw[if_neg h2,if_pos (by simpa [gN] using h2)]
  ·rw[if_neg h1,if_neg (fun hc=>h1 ((qL l par).2 hc))]
theorem kDN {l:List Nd} {par id:Int} {nm:List UInt8} (h:dirI l par=0):zB l par nm id=if par≠0∧id > 0∧zS l par id=true then 10 else kB3 l par nm id:=by
 unfold dirI at h
 unfold zB
 split
 ·rename_i h0;rw[if_neg (fun hc=>hc.1 h0)]
 ·rename_i h0
  rw[if_neg h0]at h
  split at h
  ·rename_i h1
   rw[if_pos ((qL l par).1 h1)]
   split at h
   ·rename_i h2
    rw[if_neg (by rw[show l.getD (ndx par l) zI=gN l par from rfl,h2];decide)]
    by_cases h3:id > 0∧zS l par id=true
    ·rw[if_pos h3,if_pos ⟨h0,h3⟩]
    ·rw[if_neg h3,if_neg (fun hc=>h3 hc.2)]
   ·omega
  ·omega
theorem dir_in {l:List Nd} {par:Int} (h:dirI l par=0):inT l par∧(par=0∨(hasN l par=true∧(gN l par).dir=true)):=by
 unfold dirI at h
 split at h
 ·exact ⟨.inl ‹_›,.inl ‹_›⟩
 ·split at h
  ·split at h
   ·exact ⟨.inr ‹_›,.inr ⟨‹_›,‹_›⟩⟩
   ·omega
  ·omega
theorem doN_k1 {l:List Nd} {a:Ac} (hk:a.k=1):doN l a =
    if a.id < 1∨a.id > 1099511627776∨qC a.nm=false then (l,1)
    else if ndx a.id l < l.length then (l,6)
    else if zB l a.par a.nm 0≠0 then (l,zB l a.par a.nm 0)
    else if l.length ≥ 100 then (l,4)
    else (l.take (atN a.id l)++⟨a.id,a.par,a.nm,a.dir,[]⟩::l.drop (atN a.id l),0):=by
 show (if a.k=1 then _ else _)=_
 rw[if_pos hk]
theorem doN_k2 {l:List Nd} {a:Ac} (hk:a.k=2):doN l a =
    if ¬ ndx a.id l < l.length then (l,5)
    else if (l.any fun y=>decide (y.par=a.id))=true then (l,9)
    else (l.take (ndx a.id l)++l.drop (ndx a.id l+1),0):=by
 show (if a.k=1 then _ else _)=_
 rw[if_neg (by omega)]
 show (if a.k=2 then _ else _)=_
 rw[if_pos hk]
theorem doN_k3 {l:List Nd} {a:Ac} (hk:a.k=3):doN l a =
    if qC a.nm=false then (l,1)
    else if ¬ ndx a.id l < l.length then (l,5)
    else if zB l a.par a.nm a.id≠0 then (l,zB l a.par a.nm a.id)
    else (l.set (ndx a.id l) ⟨(gN l a.id).id,a.par,a.nm,(gN l a.id).dir,(gN l a.id).text⟩,0):=by
 show (if a.k=1 then _ else _)=_
 rw[if_neg (by omega)]
 show (if a.k=2 then _ else _)=_
 rw[if_neg (by omega)]
 show (if a.k=3 then _ else _)=_
 rw[if_pos hk]
 rfl
theorem doN_k4 {l:List Nd} {a:Ac} (hk:a.k=4):doN l a =
    if ¬ ndx a.id l < l.length then (l,5)
    else if (gN l a.id).dir=true then (l,8)
    else if errI (gN l a.id).text a.ops≠0 then (l,errI (gN l a.id).text a.ops)
    else if (totN (l.set (ndx a.id l) ⟨(gN l a.id).id,(gN l a.id).par,(gN l a.id).nm,(gN l a.id).dir,zK (gN l a.id).text a.ops⟩):Int) > 10000 then (l,4)
    else (l.set (ndx a.id l) ⟨(gN l a.id).id,(gN l a.id).par,(gN l a.id).nm,(gN l a.id).dir,zK (gN l a.id).text a.ops⟩,0):=by
 show (if a.k=1 then _ else _)=_
 rw[if_neg (by omega)]
 show (if a.k=2 then _ else _)=_
 rw[if_neg (by omega)]
 show (if a.k=3 then _ else _)=_
 rw[if_neg (by omega)]
 show (if a.k=4 then _ else _)=_
 rw[if_pos hk]
 rfl
theorem doN_k0 {l:List Nd} {a:Ac} (hk:a.k < 1∨a.k > 4):doN l a=(l,1):=by
 show (if a.k=1 then _ else _)=_
 rw[if_neg (by omega)]
 show (if a.k=2 then _ else _)=_
 rw[if_neg (by omega)]
 show (if a.k=3 then _ else _)=_
 rw[if_neg (by omega)]
 show (if a.k=4 then _ else _)=_
 rw[if_neg (by omega)]
section
variable {l:List Nd} (S:sndN l)
include S
theorem cre_eq {a:Ac} (hk:a.k=1):creN l a=doN l a:=by
 have hp:∀ x∈l,1≤x.id:=fun x hx=>(S.node x hx).id.1
 rw[doN_k1 hk]
 unfold creN
 by_cases h1:a.id < 1∨a.id > 1099511627776∨qC a.nm=false
 ·rw[if_pos h1,if_pos h1]
 rw[if_neg h1,if_neg h1]
 by_cases h2:hasN l a.id=true
 ·rw[if_pos h2,if_pos ((qL l a.id).1 h2)]
 rw[if_neg h2,if_neg (fun hc=>h2 ((qL l a.id).2 hc))]
 by_cases h3:dirI l a.par=0
 case neg=>rw[if_pos h3,kCl h3,if_pos h3]
 rw[if_neg (fun hc=>hc h3),kDN h3,if_neg (show ¬ (a.par≠0∧(0:Int) > 0∧zS l a.par 0=true) by omega)]
 unfold kB3
 by_cases h4:0 < kid a.par a.nm l
 ·rw[if_pos h4,if_pos (show (0≤kid a.par a.nm l∧kid a.par a.nm l≠0) by omega)];rfl
 have h5:=kid_some S (par:=a.par) (nm:=a.nm) hp
 rw[if_neg h4,if_neg (show ¬ (0≤kid a.par a.nm l∧kid a.par a.nm l≠0) by omega),if_neg (show ¬ ((0:Int)≠0) by decide)]
 split
 ·rfl
 ·unfold setT
  rw[if_neg h2]
theorem rem_eq {a:Ac} (hk:a.k=2):remN l a.id=doN l a:=by
 rw[doN_k2 hk]
 unfold remN
 by_cases h2:hasN l a.id=true
 case neg =>
  rw[if_pos (show hasN l a.id=false by simpa using h2),if_pos (show ¬ ndx a.id l < l.length from fun hc=>h2 ((qL l a.id).2 hc))]
 rw[if_neg (show ¬ (hasN l a.id=false) by rw[h2];decide),if_neg (show ¬ ¬ ndx a.id l < l.length from fun hc=>hc ((qL l a.id).1 h2))]
 have e:0 < (kept a.id l).length↔(l.any fun y=>decide (y.par=a.id))=true:=by
  unfold kept
  rw[List.length_pos_iff,ne_eq,List.filter_eq_nil_iff,List.any_eq_true]
  simp
 by_cases h3:0 < (kept a.id l).length
 ·rw[if_pos h3,if_pos (e.1 h3)]
 ·rw[if_neg h3,if_neg (fun hc=>h3 (e.2 hc))];rfl
theorem mov_eq {a:Ac} (hk:a.k=3):movN l a=doN l a:=by
 have hp:∀ x∈l,1≤x.id:=fun x hx=>(S.node x hx).id.1
 rw[doN_k3 hk]
 unfold movN
 by_cases h1:qC a.nm=false
 ·rw[if_pos h1,if_pos h1]
 rw[if_neg h1,if_neg h1]
 by_cases h2:hasN l a.id=true
 case neg =>
  rw[if_pos (show hasN l a.id=false by simpa using h2),if_pos (show ¬ ndx a.id l < l.length from fun hc=>h2 ((qL l a.id).2 hc))]
 obtain ⟨h6,h7⟩:=kB4 h2
 have h8:=hp _ h6
 rw[h7]at h8
 rw[if_neg (show ¬ (hasN l a.id=false) by rw[h2];decide),if_neg (show ¬ ¬ ndx a.id l < l.length from fun hc=>hc ((qL l a.id).1 h2))]
 by_cases h3:dirI l a.par=0
 case neg=>rw[if_pos h3,kCl h3,if_pos h3]
 rw[if_neg (fun hc=>hc h3),kDN h3]
 obtain ⟨h9,_⟩:=dir_in h3
 by_cases h4:upB l a.id l.length a.par=true
 ·have h10:=(up_meets S h9 (show a.id≠0 by omega)).1 h4
  have h11:a.par≠0:=by
   rintro h0
   rw[h0]at h10
   obtain ⟨k,hk2⟩:=h10
   rw[kD5 S]at hk2;omega
  rw[if_pos h4,if_pos (show a.par≠0∧a.id > 0∧zS l a.par a.id=true from ⟨h11,by omega,(kAj S h9 (by omega)).2 h10⟩)];rfl
 ·rw[if_neg h4,if_neg (show ¬ (a.par≠0∧a.id > 0∧zS l a.par a.id=true) from fun hc=>h4 ((up_meets S h9 (show a.id≠0 by omega)).2 ((kAj S h9 (by omega)).1 hc.2.2)))]
  have h5:=kid_some S (par:=a.par) (nm:=a.nm) hp
  unfold kB3
  by_cases h12:0 < kid a.par a.nm l∧kid a.par a.nm l≠a.id
  ·rw[if_pos h12,if_pos (show 0≤kid a.par a.nm l∧kid a.par a.nm l≠a.id from ⟨by omega,h12.2⟩)];rfl
  ·rw[if_neg h12,if_neg (show ¬ (0≤kid a.par a.nm l∧kid a.par a.nm l≠a.id) from fun hc=>h12 ⟨by omega,hc.2⟩),if_neg (show ¬ ((0:Int)≠0) by decide)]
   unfold setT
   rw[if_pos h2]
   show (l.set (ndx a.id l) ⟨a.id,a.par,a.nm,(gN l a.id).dir,(gN l a.id).text⟩,(0:Int))=(l.set (ndx a.id l) ⟨(gN l a.id).id,a.par,a.nm,(gN l a.id).dir,(gN l a.id).text⟩,0)
   rw[h7]
theorem edi_eq {a:Ac} (hk:a.k=4):ediN l a=doN l a:=by
 rw[doN_k4 hk]
 unfold ediN
 by_cases h2:hasN l a.id=true
 case neg =>
  rw[if_pos (show hasN l a.id=false by simpa using h2),if_pos (show ¬ ndx a.id l < l.length from fun hc=>h2 ((qL l a.id).2 hc))]
 have h6:=kB4 h2
 rw[if_neg (show ¬ (hasN l a.id=false) by rw[h2];decide),if_neg (show ¬ ¬ ndx a.id l < l.length from fun hc=>hc ((qL l a.id).1 h2))]
 split
 ·rfl
 split
 ·rfl
 obtain ⟨h7,h8,h9⟩:=kDO h2
 have h10:=tot_set l (ndx a.id l) h7 ⟨(gN l a.id).id,(gN l a.id).par,(gN l a.id).nm,(gN l a.id).dir,zK (gN l a.id).text a.ops⟩
 rw[← h8]at h10
 simp only at h10
 have e:(totN l:Int) - cnt (gN l a.id).text+cnt (zK (gN l a.id).text a.ops)=(totN (l.set (ndx a.id l) ⟨(gN l a.id).id,(gN l a.id).par,(gN l a.id).nm,(gN l a.id).dir,zK (gN l a.id).text a.ops⟩):Int):=by omega
 rw[e]
 split
 ·rfl
 ·unfold setT
  rw[if_pos h2]
  show (l.set (ndx a.id l) ⟨a.id,(gN l a.id).par,(gN l a.id).nm,(gN l a.id).dir,zK (gN l a.id).text a.ops⟩,(0:Int))=(l.set (ndx a.id l) ⟨(gN l a.id).id,(gN l a.id).par,(gN l a.id).nm,(gN l a.id).dir,zK (gN l a.id).text a.ops⟩,0)
  rw[h6.2]
theorem dot_eq (a:Ac):dotN l a=doN l a:=by
 unfold dotN
 by_cases h:a.k < 1∨a.k > 4
 ·rw[if_pos h,doN_k0 h]
 rw[if_neg h]
 by_cases h1:a.k=1
 ·rw[if_pos h1];exact cre_eq S h1
 rw[if_neg h1]
 by_cases h2:a.k=2
 ·rw[if_pos h2];exact rem_eq S h2
 rw[if_neg h2]
 by_cases h3:a.k=3
 ·rw[if_pos h3];exact mov_eq S h3
 rw[if_neg h3]
 exact edi_eq S (by omega)
end
end Go.Proofs
end
-- ETr12
section
namespace Go.Proofs
open Go Go.Rw
set_option maxRecDepth 100000
theorem done_ok {s:List UInt8} {l:List Cp} (h:errI s l=0):(pts (zK s l)).isSome=true∧cnt (zK s l)≤2000:=by
 obtain ⟨h1,h2,h3,h4⟩:=kEU h
 obtain ⟨c1,c2,c3,c4,c5,c6⟩:=zJ h1
 have hs:(pts s).isSome=true:=by rw[h2];rfl
 have hok:=kFz l (cpts s) (kBH hs).2 (kFP c3)
 have e:zK s l=encs (doL (cpts s) l):=by unfold zK;rw[if_pos h]
 have ho:=kF6 l (cpts s) 0 (by omega) h4 c6
 rw[e]
 refine ⟨by rw[kFM hok];rfl,?_⟩
 rw[kAJ,cpts_enc hok]
 have c6':outF 0 l≤2000:=c6
 omega
theorem doN_err {l:List Nd} {a:Ac} (h:(doN l a).2≠0):(doN l a).1=l:=by
 by_cases h0:a.k < 1∨a.k > 4
 ·rw[doN_k0 h0]
 rcases (show a.k=1∨a.k=2∨a.k=3∨a.k=4 by omega) with hk|hk|hk|hk
 ·rw[doN_k1 hk]at h ⊢
  repeat' split
  all_goals first|rfl|simp_all
 ·rw[doN_k2 hk]at h ⊢
  repeat' split
  all_goals first|rfl|simp_all
 ·rw[doN_k3 hk]at h ⊢
  repeat' split
  all_goals first|rfl|simp_all
 ·rw[doN_k4 hk]at h ⊢
  repeat' split
  all_goals first|rfl|(exfalso;rename_i q1 q2 q3 q4;rw[if_neg q1,if_neg q2,if_neg q3,if_neg q4]at h;exact h rfl)
theorem kEx {l l':List Nd} (A:Int→Prop) (h1:∀ i,A i→pf l' i=pf l i) (h2:∀ i,A i→A (pf l i)):∀ (k:Nat) (i:Int),A i→upN l' k i=upN l k i
 | 0,i,_=>rfl
 | k+1,i,h=>by rw [upN,upN,h1 i h];exact kEx A h1 h2 k _ (h2 i h)
section
variable {l:List Nd} (S:sndN l) {a:Ac} (h0:(doN l a).2=0)
include S h0
theorem do_mem {x:Nd} (hx:x∈(doN l a).1):(x.id=a.id∧kCi a (atI a.id l)=some x)∨(x∈l∧x.id≠a.id):=by
 obtain ⟨d1,d2⟩:=kGY h0 S.srt
 have:=at_mem d1 hx
 rw[d2]at this
 split at this
 ·rename_i he
  rw[he]at this
  exact .inl ⟨he,this⟩
 ·exact .inr ⟨(at_some this).1,by assumption⟩
theorem do_pf {i:Int} (hi:i≠a.id):gN (doN l a).1 i=gN l i∧hasN (doN l a).1 i=hasN l i:=by
 obtain ⟨d1,d2⟩:=kGY h0 S.srt
 rw[gN_at,gN_at,kBl,kBl,d2,if_neg hi]
 exact ⟨rfl,rfl⟩
theorem snd_cre (hk:a.k=1):sndN (doN l a).1:=by
 obtain ⟨d1,d2⟩:=kGY h0 S.srt
 have dm:=fun x hx=>do_mem S h0 (x:=x) hx
 have dp:=fun i hi=>do_pf S h0 (i:=i) hi
 have hpos:∀ x∈l,1≤x.id:=fun x hx=>(S.node x hx).id.1
 have hst:kCi a (atI a.id l)=some ⟨a.id,a.par,a.nm,a.dir,[]⟩:=by unfold kCi;rw[if_pos hk]
 have hat:atI a.id (doN l a).1=some ⟨a.id,a.par,a.nm,a.dir,[]⟩:=by rw[d2,if_pos rfl,hst]
 have hdo:=doN_k1 (l:=l) hk
 rw[hdo]at h0
 split at h0
 ·simp at h0
 rename_i c1
 split at h0
 ·simp at h0
 rename_i c2
 split at h0
 ·rename_i c3;exact absurd h0 c3
 rename_i c3
 split at h0
 ·simp at h0
 rename_i c4
 rw[if_neg c1,if_neg c2,if_neg c3,if_neg c4]at hdo
 have c3:zB l a.par a.nm 0=0:=Decidable.not_not.1 c3
 have hno:hasN l a.id=false:=by
  rcases Bool.eq_false_or_eq_true (hasN l a.id) with hh|hh
  ·exact absurd ((qL l a.id).1 hh) c2
  ·exact hh
 have c1a:1≤a.id∧a.id≤1099511627776:=by omega
 have c1b:qC a.nm=true:=by
  rcases Bool.eq_false_or_eq_true (qC a.nm) with hh|hh
  ·exact hh
  ·exact absurd (.inr (.inr hh)) c1
 have hd:dirI l a.par=0:=by
  refine Decidable.not_not.1 fun hc=>?_
  rw[kCl hc]at c3;exact hc c3
 rw[kDN hd,if_neg (show ¬ (a.par≠0∧(0:Int) > 0∧zS l a.par 0=true) by omega)]at c3
 have hkid:¬ 1≤kid a.par a.nm l:=fun hc=>by
  unfold kB3 at c3
  rw[if_pos (by omega)]at c3;omega
 obtain ⟨hin,hpd⟩:=dir_in hd
 have hinA:∀ i,inT l i→i≠a.id:=fun i hi=>by
  rcases hi with rfl|hi
  ·omega
  ·rintro rfl;rw[hno]at hi;cases hi
 have hup:∀ k i,inT l i→upN (doN l a).1 k i=upN l k i:=fun k i hi=>kEx (inT l) (fun i hi=>by unfold pf;rw[(dp i (hinA i hi)).1]) (fun i _=>pf_in S) k i hi
 refine ⟨d1,?_,?_,?_,?_,?_,?_⟩
 ·rw[hdo]
  have:=atN_le a.id l
  simp only[List.length_append,List.length_take,List.length_cons,List.length_drop]
  omega
 ·intro x hx
  rcases dm x hx with ⟨_,h⟩|⟨h,_⟩
  ·rw[hst]at h
   cases h
   exact ⟨c1a,c1b,fun _=>rfl,rfl,by simp[kAJ,cpts_nil]⟩
  ·exact S.node x h
 ·rw[hdo]
  have e1:=kBp (l.take (atN a.id l)) (l.drop (atN a.id l))
  rw[List.take_append_drop]at e1
  have:=S.tot
  simp only[kBp,totN]
  have e2:cnt ([]:List UInt8)=0:=by simp[kAJ,cpts_nil]
  omega
 ·intro x hx y hy hp hn
  rcases dm x hx with ⟨e1,h1⟩|⟨h1,_⟩<;>rcases dm y hy with ⟨e2,h2⟩|⟨h2,_⟩
  ·rw[e1,e2]
  ·rw[hst]at h1;cases h1
   exact absurd ⟨hp.symm,hn.symm⟩ (kCk hpos hkid y h2)
  ·rw[hst]at h2;cases h2
   exact absurd ⟨hp,hn⟩ (kCk hpos hkid x h1)
  ·exact S.sib x h1 y h2 hp hn
 ·intro x hx
  have key:∀ p,(p=0∨(hasN l p=true∧(gN l p).dir=true))→(p=0∨(hasN (doN l a).1 p=true∧(gN (doN l a).1 p).dir=true)):=fun p hp=>by
   rcases hp with hp|⟨h1,h2⟩
   ·exact .inl hp
   ·obtain ⟨q1,q2⟩:=dp p (hinA p (.inr h1))
    rw[q1,q2];exact .inr ⟨h1,h2⟩
  rcases dm x hx with ⟨_,h⟩|⟨h,_⟩
  ·rw[hst]at h;cases h
   exact key _ hpd
  ·exact key _ (S.par x h)
 ·intro x hx
  rcases dm x hx with ⟨e,h⟩|⟨h,_⟩
  ·obtain ⟨k,hk⟩:=rt_in S hin
   refine ⟨k+1,?_⟩
   rw[e,upN]
   have:pf (doN l a).1 a.id=a.par:=by unfold pf;rw[gN_at,hat];rfl
   rw[this,hup k _ hin,hk]
  ·obtain ⟨k,hk⟩:=S.rt x h
   exact ⟨k,by rw[hup k _ (.inr (kEh h)),hk]⟩
theorem snd_rem (hk:a.k=2):sndN (doN l a).1:=by
 obtain ⟨d1,d2⟩:=kGY h0 S.srt
 have dm:=fun x hx=>do_mem S h0 (x:=x) hx
 have dp:=fun i hi=>do_pf S h0 (i:=i) hi
 have hpos:∀ x∈l,1≤x.id:=fun x hx=>(S.node x hx).id.1
 have hst:kCi a (atI a.id l)=none:=by unfold kCi;rw[if_neg (by omega),if_pos hk]
 have hdo:=doN_k2 (l:=l) hk
 rw[hdo]at h0
 split at h0
 ·simp at h0
 rename_i c1
 split at h0
 ·simp at h0
 rename_i c2
 rw[if_neg c1,if_neg c2]at hdo
 have c1:=Decidable.not_not.1 c1
 obtain ⟨g1,g2⟩:=kB4 ((qL l a.id).2 c1)
 have hid:=hpos _ g1
 rw[g2]at hid
 have hnp:∀ x∈l,x.par≠a.id:=fun x hx he=>c2 (List.any_eq_true.2 ⟨x,hx,by simpa using he⟩)
 have dm2:∀ x∈(doN l a).1,x∈l∧x.id≠a.id:=fun x hx=>by
  rcases dm x hx with ⟨_,h⟩|h
  ·rw[hst]at h;cases h
  ·exact h
 have hup:∀ k i,i≠a.id→upN (doN l a).1 k i=upN l k i:=fun k i hi=>kEx (fun i=>i≠a.id) (fun i hi=>by unfold pf;rw[(dp i hi).1]) (fun i _=>by
  rcases Bool.eq_false_or_eq_true (hasN l i) with hh|hh
  ·exact hnp _ (kB4 hh).1
  ·rw[pf_no hh];omega) k i hi
 refine ⟨d1,?_,fun x hx=>S.node x (dm2 x hx).1,?_,fun x hx y hy=>S.sib x (dm2 x hx).1 y (dm2 y hy).1,?_,?_⟩
 ·rw[hdo]
  have:=S.len
  simp only[List.length_append,List.length_take,List.length_drop]
  omega
 ·rw[hdo]
  have e1:=kBp (l.take (ndx a.id l)) (l.drop (ndx a.id l))
  rw[List.take_append_drop,List.drop_eq_getElem_cons c1,totN]at e1
  have:=S.tot
  simp only[kBp]
  omega
 ·intro x hx
  have hx2:=(dm2 x hx).1
  rcases S.par x hx2 with hp|⟨h1,h2⟩
  ·exact .inl hp
  ·obtain ⟨q1,q2⟩:=dp _ (hnp x hx2)
   rw[q1,q2];exact .inr ⟨h1,h2⟩
 ·intro x hx
  obtain ⟨h1,h2⟩:=dm2 x hx
  obtain ⟨k,hk⟩:=S.rt x h1
  exact ⟨k,by rw[hup k _ h2,hk]⟩
theorem snd_mov (hk:a.k=3):sndN (doN l a).1:=by
 obtain ⟨d1,d2⟩:=kGY h0 S.srt
 have dm:=fun x hx=>do_mem S h0 (x:=x) hx
 have dp:=fun i hi=>do_pf S h0 (i:=i) hi
 have hpos:∀ x∈l,1≤x.id:=fun x hx=>(S.node x hx).id.1
 have hdo:=doN_k3 (l:=l) hk
 rw[hdo]at h0
 split at h0
 ·simp at h0
 rename_i c1
 split at h0
 ·simp at h0
 rename_i c2
 split at h0
 ·rename_i c3;exact absurd h0 c3
 rename_i c3
 rw[if_neg c1,if_neg c2,if_neg c3]at hdo
 have c3:zB l a.par a.nm a.id=0:=Decidable.not_not.1 c3
 have c2:=Decidable.not_not.1 c2
 have c2h:=(qL l a.id).2 c2
 have c1b:qC a.nm=true:=by
  rcases Bool.eq_false_or_eq_true (qC a.nm) with hh|hh
  ·exact hh
  ·exact absurd hh c1
 obtain ⟨g1,g2⟩:=kB4 c2h
 have hid:=hpos _ g1
 rw[g2]at hid
 have hat0:atI a.id l=some (gN l a.id):=by have:=at_mem S.srt g1;rwa [g2]at this
 have hst:kCi a (atI a.id l)=some ⟨(gN l a.id).id,a.par,a.nm,(gN l a.id).dir,(gN l a.id).text⟩:=by
  unfold kCi;rw[if_neg (by omega),if_neg (by omega),if_pos hk,hat0];rfl
 have hat:atI a.id (doN l a).1=some ⟨(gN l a.id).id,a.par,a.nm,(gN l a.id).dir,(gN l a.id).text⟩:=by rw[d2,if_pos rfl,hst]
 have hd:dirI l a.par=0:=by
  refine Decidable.not_not.1 fun hc=>?_
  rw[kCl hc]at c3;exact hc c3
 obtain ⟨hin,hpd⟩:=dir_in hd
 rw[kDN hd]at c3
 have hcy:¬ (a.par≠0∧a.id > 0∧zS l a.par a.id=true):=fun hc=>by rw[if_pos hc]at c3;omega
 rw[if_neg hcy]at c3
 have hkid:1≤kid a.par a.nm l→kid a.par a.nm l=a.id:=fun hc=>by
  unfold kB3 at c3
  refine Decidable.not_not.1 fun hne=>?_
  rw[if_pos ⟨by omega,hne⟩]at c3;omega
 have hnm:∀ k,upN l k a.par≠a.id:=fun k hc=>by
  by_cases hp0:a.par=0
  ·rw[hp0,kD5 S]at hc;omega
  ·exact hcy ⟨hp0,by omega,(kAj S hin (by omega)).2 ⟨k,hc⟩⟩
 have dh:∀ i,hasN (doN l a).1 i=hasN l i∧(gN (doN l a).1 i).dir=(gN l i).dir:=fun i=>by
  by_cases hi:i=a.id
  ·rw[hi,kBl,kBl,gN_at,hat,hat0]
   exact ⟨rfl,rfl⟩
  ·obtain ⟨q1,q2⟩:=dp i hi
   rw[q1,q2];exact ⟨rfl,rfl⟩
 have hpf:pf (doN l a).1 a.id=a.par:=by unfold pf;rw[gN_at,hat];rfl
 -- from the new parent on the way is as it was
 have hup:∀ k,upN (doN l a).1 k a.par=upN l k a.par:=fun k =>
  kEx (fun i=>∃ j,i=upN l j a.par) (fun i hi=>by
   obtain ⟨j,rfl⟩:=hi
   unfold pf;rw[(dp _ (hnm j)).1]) (fun i hi=>by
   obtain ⟨j,rfl⟩:=hi
   exact ⟨j+1,(up_succ l j a.par).symm⟩) k a.par ⟨0,rfl⟩
 have hrt:∀ k i,upN l k i=0→∃ k',upN (doN l a).1 k' i=0:=fun k=>by
  induction k with
  | zero=>intro i hi;exact ⟨0,hi⟩
  | succ k ih =>
    intro i hi
    by_cases he:i=a.id
    ·obtain ⟨m,hm⟩:=rt_in S hin
     exact ⟨m+1,by rw[he,upN,hpf,hup,hm]⟩
    ·obtain ⟨m,hm⟩:=ih (pf l i) hi
     exact ⟨m+1,by rw[upN];unfold pf at hm ⊢;rw[(dp i he).1];exact hm⟩
 refine ⟨d1,?_,?_,?_,?_,?_,?_⟩
 ·rw[hdo]
  have:=S.len
  simpa using this
 ·intro x hx
  rcases dm x hx with ⟨_,h⟩|⟨h,_⟩
  ·rw[hst]at h;cases h
   have:=S.node _ g1
   exact ⟨this.id,c1b,this.dir,this.valid,this.cnt⟩
  ·exact S.node x h
 ·rw[hdo]
  have:=tot_set l (ndx a.id l) c2 ⟨(gN l a.id).id,a.par,a.nm,(gN l a.id).dir,(gN l a.id).text⟩
  obtain ⟨_,g4,_⟩:=kDO c2h
  rw[← g4]at this
  have:=S.tot
  simp only at *
  omega
 ·have key:∀ y∈l,y.id≠a.id→¬ (y.par=a.par∧y.nm=a.nm):=fun y hy hne hc=>by
    by_cases hk1:1≤kid a.par a.nm l
    ·obtain ⟨x,hx,h1,h2,h3⟩:=kid_iff hpos hid (hkid hk1)
     have:=S.sib x hx y hy (h1.trans hc.1.symm) (h2.trans hc.2.symm)
     omega
    ·exact kCk hpos hk1 y hy hc
  intro x hx y hy hp hn
  rcases dm x hx with ⟨e1,h1⟩|⟨h1,n1⟩<;>rcases dm y hy with ⟨e2,h2⟩|⟨h2,n2⟩
  ·rw[e1,e2]
  ·rw[hst]at h1;cases h1
   exact absurd ⟨hp.symm,hn.symm⟩ (key y h2 n2)
  ·rw[hst]at h2;cases h2
   exact absurd ⟨hp,hn⟩ (key x h1 n1)
  ·exact S.sib x h1 y h2 hp hn
 ·intro x hx
  have k2:∀ p,(p=0∨(hasN l p=true∧(gN l p).dir=true))→(p=0∨(hasN (doN l a).1 p=true∧(gN (doN l a).1 p).dir=true)):=fun p hp=>by
   rw[(dh p).1,(dh p).2];exact hp
  rcases dm x hx with ⟨_,h⟩|⟨h,_⟩
  ·rw[hst]at h;cases h
   exact k2 _ hpd
  ·exact k2 _ (S.par x h)
 ·intro x hx
  rcases dm x hx with ⟨e,_⟩|⟨h,_⟩
  ·obtain ⟨m,hm⟩:=rt_in S hin
   exact ⟨m+1,by rw[e,upN,hpf,hup,hm]⟩
  ·obtain ⟨k,hk⟩:=S.rt x h
   exact hrt k _ hk
theorem snd_edi (hk:a.k=4):sndN (doN l a).1:=by
 obtain ⟨d1,d2⟩:=kGY h0 S.srt
 have dm:=fun x hx=>do_mem S h0 (x:=x) hx
 have dp:=fun i hi=>do_pf S h0 (i:=i) hi
 have hdo:=doN_k4 (l:=l) hk
 rw[hdo]at h0
 split at h0
 ·simp at h0
 rename_i c1
 split at h0
 ·simp at h0
 rename_i c2
 split at h0
 ·rename_i c3;exact absurd h0 c3
 rename_i c3
 split at h0
 ·simp at h0
 rename_i c4
 rw[if_neg c1,if_neg c2,if_neg c3,if_neg c4]at hdo
 have c1:=Decidable.not_not.1 c1
 have c1h:=(qL l a.id).2 c1
 obtain ⟨v1,v2⟩:=done_ok (Decidable.not_not.1 c3)
 obtain ⟨g1,g2⟩:=kB4 c1h
 have hat0:atI a.id l=some (gN l a.id):=by have:=at_mem S.srt g1;rwa [g2]at this
 have hst:kCi a (atI a.id l)=some ⟨(gN l a.id).id,(gN l a.id).par,(gN l a.id).nm,(gN l a.id).dir,zK (gN l a.id).text a.ops⟩:=by
  unfold kCi;rw[if_neg (by omega),if_neg (by omega),if_neg (by omega),hat0];rfl
 have hat:atI a.id (doN l a).1=some ⟨(gN l a.id).id,(gN l a.id).par,(gN l a.id).nm,(gN l a.id).dir,zK (gN l a.id).text a.ops⟩:=by rw[d2,if_pos rfl,hst]
 have dh:∀ i,hasN (doN l a).1 i=hasN l i∧(gN (doN l a).1 i).dir=(gN l i).dir∧(gN (doN l a).1 i).par=(gN l i).par:=fun i=>by
  by_cases hi:i=a.id
  ·rw[hi,kBl,kBl,gN_at,hat,hat0]
   exact ⟨rfl,rfl,rfl⟩
  ·obtain ⟨q1,q2⟩:=dp i hi
   rw[q1,q2];exact ⟨rfl,rfl,rfl⟩
 have hup:∀ k i,upN (doN l a).1 k i=upN l k i:=fun k i=>kEx (fun _=>True) (fun i _=>(dh i).2.2) (fun _ _=>trivial) k i trivial
 -- each node's like in the tree as it was
 have like:∀ x∈(doN l a).1,∃ y∈l,y.id=x.id∧y.par=x.par∧y.nm=x.nm∧y.dir=x.dir:=fun x hx=>by
  rcases dm x hx with ⟨_,h⟩|⟨h,_⟩
  ·rw[hst]at h;cases h
   exact ⟨_,g1,rfl,rfl,rfl,rfl⟩
  ·exact ⟨x,h,rfl,rfl,rfl,rfl⟩
 refine ⟨d1,?_,?_,?_,?_,?_,?_⟩
 ·rw[hdo]
  have:=S.len
  simpa using this
 ·intro x hx
  rcases dm x hx with ⟨_,h⟩|⟨h,_⟩
  ·rw[hst]at h;cases h
   have:=S.node _ g1
   exact ⟨this.id,this.nm,fun hd=>absurd hd c2,v1,v2⟩
  ·exact S.node x h
 ·rw[hdo];simp only;omega
 ·intro x hx y hy hp hn
  obtain ⟨x',hx',e1,e2,e3,_⟩:=like x hx
  obtain ⟨y',hy',e5,e6,e7,_⟩:=like y hy
  rw[← e1,← e5]
  exact S.sib x' hx' y' hy' (by rw[e2,e6,hp]) (by rw[e3,e7,hn])
 ·intro x hx
  obtain ⟨x',hx',e1,e2,e3,_⟩:=like x hx
  rw[← e2,(dh _).1,(dh _).2.1]
  exact S.par x' hx'
 ·intro x hx
  obtain ⟨x',hx',e1,_⟩:=like x hx
  obtain ⟨k,hk⟩:=S.rt x' hx'
  exact ⟨k,by rw[hup,← e1,hk]⟩
omit h0 in
theorem snd_do (a:Ac):sndN (doN l a).1:=by
 by_cases h0:(doN l a).2=0
 ·by_cases hk:a.k < 1∨a.k > 4
  ·rw[doN_k0 hk];exact S
  rcases (show a.k=1∨a.k=2∨a.k=3∨a.k=4 by omega) with hk|hk|hk|hk
  ·exact snd_cre S h0 hk
  ·exact snd_rem S h0 hk
  ·exact snd_mov S h0 hk
  ·exact snd_edi S h0 hk
 ·rw[doN_err h0];exact S
end
end Go.Proofs
end
-- ETr13
section
namespace Go.Proofs
open Go Go.Rw
set_option maxRecDepth 100000
theorem kBh {t:List UInt8} (h:(pts t).isSome=true):t.length≤4 * cnt t:=by
 rw[kAJ]
 have:=kBN (cs:=cpts t)
 rwa [(kBH h).1]at this
theorem kGf {l:List Nd} (S:sndN l):trOk l:=by
 have hl:=S.len
 refine ⟨⟨by omega,fun x hx=>?_⟩,fun x hx=>(S.node x hx).id.1,?_,fun x hx=>?_⟩
 ·have:=(S.node x hx).id;omega
 ·have:=S.tot;omega
 ·have:=kBh (S.node x hx).valid
  have:=(S.node x hx).cnt;omega
theorem snd_doOk {l:List Nd} (S:sndN l) {a:Ac} (ho:okA a):doOk l a:=⟨kGf S,snd_rt S,ho.2,ho.1⟩
def txnP (s:TS) (l:List Ac) (objs:List AO) (lvs:List (Nat×Nat)) (r:AV):Prop :=
 lvs=[]∧((allN s.l l).e=0∧(∃ s':TS,s'.l=(allN s.l l).now∧sndN s'.l∧objs=tsO (some s)++[.cells [.mp 3],.map s'.es s'.cl])∧r = .tup [.ptr 2 0,.v (.int .i64 (allN s.l l).n),.v (.int .i64 0)] ∨
  (allN s.l l).e≠0∧objs=tsO (some s)∧r = .tup [.v (.pointer none),.v (.int .i64 (allN s.l l).n),.v (.int .i64 (allN s.l l).e)])
abbrev ttxnCon:ConO where
 ι:={ p:TS×List Ac // sndN p.1.l∧p.2.length≤1000000∧∀ a∈p.2,okA a }
 objs:=fun p=>tsO (some p.1.1)
 args:=fun p=>[.ptr 0 0,.sl 0 6 (acts p.1.2)]
 post:=fun p=>txnP p.1.1 p.1.2
theorem allF_cons (t:List Nd) (a:Ac) (r:List Ac) (n:Nat):allF t (a::r) n=if (doN t a).2≠0 then ⟨[],n,(doN t a).2⟩ else allF (doN t a).1 r (n+1):=rfl
set_option maxHeartbeats 2000000 in
theorem ttxn_good:j7 Tryz.prog 46 ttxnCon:=by
 have hΓ:kM Tryz.prog [(35,kAB)]:=(kH kFH kJ)
 refine qT (nn:=33) Tryz.func46 (by kernel_rfl) rfl (show Tryz.f46.results.toList=[.tmp 4,.tmp 5,.tmp 6] from rfl) (fun _=>rfl) ?_
 rintro ⟨⟨s,l⟩,hS,hl,ho⟩
 simp only at hS hl ho
 refine qW hΓ (Ws:=[]) _ ?_
 simp only[aR,seval,kB,kC,kG]
 refine vcM_sc ?_
 refine vc_scopeM [] hΓ 1 ?_
 simp only[aR,seval,kB,kC,kG]
 (repeat (with_reducible refine And.intro ?_ ?_;focus (first|omega|exact kD|kernel_rfl)))
 refine kEz (by simp[kI]) rfl hl ho ?_
 by_cases hc:txnE l=0
 case neg =>
  have e0:allN s.l l=⟨[],-1,txnE l⟩:=by unfold allN;rw[if_pos hc]
  simp only[aR,seval,kB,kC,kG,hc]
  (repeat (with_reducible refine And.intro ?_ ?_;focus (first|omega|exact kD|kernel_rfl)))
  refine kW [0,1] [] (tsO (some s)) [] (.tup [.v (.pointer none),.v (.int .i64 (-1)),.v (.int .i64 (txnE l))]) ⟨rfl,.inr ⟨by rw[e0];exact hc,rfl,by rw[e0]⟩⟩ ?_
  simp only[aR,seval,kB,kC,kG]<;>((repeat' apply And.intro)<;>first|rfl|omega|trivial)
 have e0:allN s.l l=allF s.l l 0:=by unfold allN;rw[if_neg (fun hh=>hh hc)]
 simp only[aR,seval,kB,kC,kG,hc]
 (repeat (with_reducible refine And.intro ?_ ?_;focus (first|omega|exact kD|kernel_rfl)))
 refine call_tcopy (s:=s) (o:=0) (ob:=1) (by simp[kI,k9]) (by simp[qP]) ?_
 simp only[aR,seval,kB,kC,kG,qB]
 (repeat (with_reducible refine And.intro ?_ ?_;focus (first|omega|exact kD|kernel_rfl)))
 obtain ⟨St,hSt⟩:∃ St:{ p:Nat×TS // p.1≤l.length∧sndN p.2.l∧allF s.l l 0=allF p.2.l (l.drop p.1) p.1 }→AS,∀ p,St p=AS.ofH 33 [(1,.sl 0 6 (acts l)),(4,.ptr 2 0),(15,.v (.int .i64 l.length)),(16,.v (.int .i64 p.1.1))] [(0,.ptr 0 0),(1,.mp 1)] (tsO (some s)++[.cells [.mp 3],.map p.1.2.es p.1.2.cl]) []:=⟨_,fun _=>rfl⟩
 refine kEK ?_
 refine kAm [] hΓ St (fun p=>l.length - p.1.1) ⟨(0,s),by omega,hS,rfl⟩ (by rw[hSt];refine qM [0,1,2,3] [] ?_;simp only[aR,seval,kB,kC,kG,qB,List.cons_append,List.nil_append]<;>((repeat' apply And.intro)<;>first|rfl|omega|trivial)) ?_
 rintro ⟨⟨i,s'⟩,hi,hS',hf⟩
 simp only at hi hS' hf
 rw[hSt]
 simp only
 simp only[aR,seval,kB,kC,kG,qB,List.cons_append,List.nil_append]
 (with_reducible first|refine kE (fun h=>?_) (fun h=>?_)|refine kF (fun h=>?_) (fun h=>?_))
 ·have hlt:i < l.length:=by omega
  have e1:=j9 l hlt
  have hoa:=ho l[i] (List.getElem_mem hlt)
  rw[List.drop_eq_getElem_cons hlt,allF_cons]at hf
  generalize l[i]=a at *
  simp only[aR,seval,kB,kC,kG,h,e1,qB,aA]
  (repeat (with_reducible refine And.intro ?_ ?_;focus (first|omega|exact kD|kernel_rfl)))
  refine kDQ (s:=s') (o:=2) (ob:=3) (q:=dotN s'.l a) tdo_good (by simp[kI,k9]) ⟨(s',a),snd_doOk hS' hoa⟩ rfl (by simp[qP]) (by simp[dnL,dn,aA]) (by simp[AV.tagsL,AV.tags]) (fun _ _ _ hp=>hp) ?_
  rw[dot_eq hS']
  intro s'' hs
  have hS2:sndN s''.l:=by rw[hs];exact snd_do hS' a
  by_cases he:(doN s'.l a).2=0
  ·rw[if_neg (fun hh=>hh he),← hs]at hf
   simp only[aR,seval,kB,kC,kG,he,kA (n:=(i:Int)+1) (by omega) (by omega)]
   (repeat (with_reducible refine And.intro ?_ ?_;focus (first|omega|exact kD|kernel_rfl)))
   refine kN ⟨(i+1,s''),by simp only;omega,hS2,hf⟩ (by simp only;omega) ?_
   rw[hSt];refine qM [0,1,2,3] [] ?_
   simp only[aR,seval,kB,kC,kG,List.cons_append,List.nil_append]<;>((repeat' apply And.intro)<;>first|rfl|omega|trivial)
  ·rw[if_pos he,← e0]at hf
   simp only[aR,seval,kB,kC,kG,he]
   (repeat (with_reducible refine And.intro ?_ ?_;focus (first|omega|exact kD|kernel_rfl)))
   refine ⟨_,rfl,?_⟩
   simp only[aR,seval,kB,kC,kG,he]
   (repeat (with_reducible refine And.intro ?_ ?_;focus (first|omega|exact kD|kernel_rfl)))
   refine kW [0,1] [] (tsO (some s)) [] (.tup [.v (.pointer none),.v (.int .i64 i),.v (.int .i64 (doN s'.l a).2)]) ⟨rfl,.inr ⟨by rw[hf];exact he,rfl,by rw[hf]⟩⟩ ?_
   simp only[aR,seval,kB,kC,kG]<;>((repeat' apply And.intro)<;>first|rfl|omega|trivial)
 ·have hi2:i=l.length:=by omega
  subst hi2
  rw[List.drop_length,allF,← e0]at hf
  simp only[aR,seval,kB,kC,kG,h,qB]
  (repeat (with_reducible refine And.intro ?_ ?_;focus (first|omega|exact kD|kernel_rfl)))
  refine kW [0,1,2,3] [] (tsO (some s)++[.cells [.mp 3],.map s'.es s'.cl]) [] (.tup [.ptr 2 0,.v (.int .i64 l.length),.v (.int .i64 0)]) ⟨rfl,.inl ⟨by rw[hf],⟨s',by rw[hf],hS',rfl⟩,by rw[hf]⟩⟩ ?_
  simp only[aR,seval,kB,kC,kG,List.cons_append,List.nil_append]<;>((repeat' apply And.intro)<;>first|rfl|omega|trivial)
end Go.Proofs
end
-- ETr20
section
namespace Go.Proofs
open Go Go.Rw
set_option maxRecDepth 100000
abbrev Ky:=Int×List UInt8
def kV (p:Ky):Value:=nV ⟨0,p.1,p.2,false,[]⟩
def entL:List (Ky×Int)→Nat→List MapEntry
 | [],_=>[]
 | (p,c)::r,i=>{ key:=kV p,val:=.int .i64 c,born:=i }::entL r (i+1)
structure NM (es:Array MapEntry) (cl:Nat) (ps:List (Ky×Int)):Prop where
 es:es.toList=entL ps 0
 cl:cl=ps.length
 nd:(ps.map Prod.fst).Nodup
def fndP (p:Ky):List (Ky×Int)→Nat→Option (Nat×Value)
 | [],_=>none
 | (q,c)::r,i=>if q=p then some (i,.int .i64 c) else fndP p r (i+1)
theorem equal_kV (p q:Ky):calm Tryz.prog (Op.equal 42 (kV p) (kV q))=some (decide (p=q)):=by
 have e:Op.maxDepth=9998+2:=rfl
 have h:=calm_eq5 (P:=Tryz.prog) (d:=9998) (t:=42) (ti:=3) (ts:=9) (tb:=4) (k:=.i64) (a:=0) (a':=0) (b:=p.1) (b':=q.1) (s:=p.2) (s':=q.2) (q:=false) (q':=false) (u:=[]) (u':=[]) (by kernel_rfl) (by kernel_rfl) (by kernel_rfl) (by kernel_rfl) (by kernel_rfl)
 unfold Op.equal
 rw[e]
 refine h.trans ?_
 congr 1
 obtain ⟨p1,p2⟩:=p
 obtain ⟨q1,q2⟩:=q
 by_cases h1:p1=q1<;>by_cases h2:p2=q2<;>simp[h1,h2]
theorem ask_all (p:Ky):∀ (ps:List (Ky×Int)) (n i:Nat),calm Tryz.prog (Instr.findAsking 42 (kV p) (entL ps n) i)=some (fndP p ps i)
 | [],n,i=>rfl
 | (q,c)::r,n,i=>by
   rw[entL,Instr.findAsking,kX,equal_kV,Option.bind_some,fndP]
   by_cases h:p=q
   ·subst h;simp
   ·rw[decide_eq_false h,if_neg (Ne.symm h)]
    simpa using ask_all p r (n+1) (i+1)
theorem chk_kV (b:Bool) (p:Ky):calm Tryz.prog (Instr.checkKey b 10000 42 (kV p))=some ():=by
 obtain ⟨p1,p2⟩:=p
 rfl
theorem und_kV:Tryz.prog.underlying 82=some (.map 42 3):=by kernel_rfl
theorem ask_nm {es:Array MapEntry} {cl:Nat} {ps:List (Ky×Int)} (h:NM es cl ps) (b:Bool) (p:Ky):askK Tryz.prog 82 b (kV p) es.toList=some (fndP p ps 0):=by
 unfold askK
 rw[und_kV]
 simp only
 rw[chk_kV,Option.bind_some,h.es]
 unfold Instr.findKey
 obtain ⟨fs,hu⟩:∃ fs,Tryz.prog.underlying 42=some (.struct fs):=by
  have h5:is5 Tryz.prog 42 3 9 4=true:=by kernel_rfl
  unfold is5 at h5
  split at h5
  ·exact ⟨_,by assumption⟩
  ·cases h5
 rw[kX]
 simp only[underlying,kX,qD,Option.bind_some,hu]
 cases ps with
 | nil=>simp [entL,Instr.findNow,fndP,zP]
 | cons q r =>
   obtain ⟨q,c⟩:=q
   have:Instr.findNow (.struct fs) (kV p) (entL ((q,c)::r) 0) 0=none:=rfl
   simp only[zP,Option.bind_some,this]
   exact ask_all p _ 0 0
def cntK (p:Ky):List (Ky×Int)→Int
 | []=>0
 | (q,c)::r=>if q=p then c else cntK p r
theorem kEZ {p:Ky}:∀ {ps:List (Ky×Int)} {n i:Nat} {v:Value},fndP p ps n=some (i,v)→∃ j c,i=n+j∧ps[j]? = some (p,c)∧v = .int .i64 c∧cntK p ps=c
 | [],n,i,v,h=>by cases h
 | (q,c)::r,n,i,v,h=>by
   rw[fndP]at h
   split at h
   ·rename_i hq
    subst hq
    cases h
    exact ⟨0,c,by omega,rfl,rfl,by rw[cntK,if_pos rfl]⟩
   ·rename_i hq
    obtain ⟨j,c2,h1,h2,h3,h4⟩:=kEZ h
    exact ⟨j+1,c2,by omega,by simpa using h2,h3,by rw[cntK,if_neg hq,h4]⟩
theorem kCw {p:Ky}:∀ {ps:List (Ky×Int)} {n:Nat},fndP p ps n=none→p ∉ ps.map Prod.fst∧cntK p ps=0
 | [],n,_=>by simp [cntK]
 | (q,c)::r,n,h=>by
   rw[fndP]at h
   split at h
   ·cases h
   ·rename_i hq
    obtain ⟨h1,h2⟩:=kCw h
    refine ⟨?_,by rw[cntK,if_neg hq,h2]⟩
    simp only[List.map_cons,List.mem_cons,not_or]
    exact ⟨fun hc=>hq hc.symm,h1⟩
theorem look_nm {es:Array MapEntry} {cl:Nat} {ps:List (Ky×Int)} (h:NM es cl ps) (p:Ky):lookS Tryz.prog 82 (kV p) es false=some (.v (.int .i64 (cntK p ps))):=by
 unfold lookS
 rw[ask_nm h]
 cases hf:fndP p ps 0 with
 | none =>
   have e1:kCN Tryz.prog 82=some 3:=by kernel_rfl
   have e2:kAG Tryz.prog 3=some (.v (.int .i64 0)):=by kernel_rfl
   simp only[e1,e2,Option.map_some,(kCw hf).2]
   rfl
 | some q =>
   obtain ⟨i,v⟩:=q
   obtain ⟨j,c,_,_,rfl,h4⟩:=kEZ hf
   rw[h4];rfl
theorem entL_len:∀ (ps:List (Ky×Int)) (n:Nat),(entL ps n).length=ps.length
 | [],_=>rfl
 | (p,c)::r,n=>by simp [entL,entL_len r]
theorem entL_get:∀ (ps:List (Ky×Int)) (n j:Nat),(entL ps n)[j]? = (ps[j]?).map fun q=>{ key:=kV q.1,val:=.int .i64 q.2,born:=n+j }
 | [],_,_=>by simp [entL]
 | (p,c)::r,n,0=>by simp [entL]
 | (p,c)::r,n,j+1=>by
   simp only[entL,List.getElem?_cons_succ]
   rw[entL_get r (n+1) j]
   cases r[j]? with
   | none=>rfl
   | some q=>simp only [Option.map_some];congr 2;omega
theorem entL_app (ps:List (Ky×Int)) (p:Ky) (c:Int) (n:Nat):entL (ps++[(p,c)]) n=entL ps n++[{ key:=kV p,val:=.int .i64 c,born:=n+ps.length }]:=by
 induction ps generalizing n with
 | nil=>rfl
 | cons q r ih =>
   obtain ⟨q,d⟩:=q
   simp only[List.cons_append,entL,ih,List.length_cons]
   congr 3;congr 1;omega
def layK (p:Ky) (ps:List (Ky×Int)):List (Ky×Int):=if (fndP p ps 0).isSome then ps else ps++[(p,0)]
theorem ba_beq (d:Array UInt8):((⟨d⟩:ByteArray) == ⟨d⟩)=true:=(beq_self_eq_true d:(d == d)=true)
theorem same_kV (p:Ky):Instr.sameBits 10000 (kV p) (kV p)=true:=by
 obtain ⟨p1,p2⟩:=p
 simp[kV,nV,Instr.sameBits,sv,ba_beq]
theorem cnt_app {p:Ky}:∀ {ps:List (Ky×Int)},p ∉ ps.map Prod.fst→cntK p (ps++[(p,0)])=0
 | [],_=>by simp [cntK]
 | (q,c)::r,h=>by
   simp only[List.map_cons,List.mem_cons,not_or]at h
   rw[List.cons_append,cntK,if_neg (Ne.symm h.1),cnt_app h.2]
theorem get_es {es:Array MapEntry} {cl:Nat} {ps:List (Ky×Int)} (h:NM es cl ps) (j:Nat):es[j]? = (ps[j]?).map fun q=>{ key:=kV q.1,val:=.int .i64 q.2,born:=j }:=by
 rw[← Array.getElem?_toList,h.es,entL_get]
 simp
theorem size_nm {es:Array MapEntry} {cl:Nat} {ps:List (Ky×Int)} (h:NM es cl ps):es.size=ps.length:=by
 rw[← Array.length_toList,h.es,entL_len]
theorem cnt_lay (p:Ky) (ps:List (Ky×Int)):cntK p (layK p ps)=cntK p ps:=by
 unfold layK
 cases hf:fndP p ps 0 with
 | none =>
   obtain ⟨h1,h2⟩:=kCw hf
   simp only[Option.isSome_none,Bool.false_eq_true,if_false]
   rw[cnt_app h1,h2]
 | some q=>rfl
theorem mod_same {es:Array MapEntry} {i:Nat} {e:MapEntry} (h:es[i]? = some e) {k:Value} (hk:e.key=k):(es.modify i fun e=>{ e with key:=k })=es:=by
 apply Array.ext (by simp)
 intro j h1 h2
 rw[Array.getElem_modify]
 split
 ·rename_i hj
  subst hj
  rw[Array.getElem?_eq_getElem h2]at h
  cases h
  subst hk
  rfl
 ·rfl
theorem ent_nm {es:Array MapEntry} {cl:Nat} {ps:List (Ky×Int)} (h:NM es cl ps) (p:Ky):∃ es' cl' i,entA Tryz.prog 82 (kV p) es cl=some (.map es' cl',.tup [.v (.int .i64 (cntK p ps)),.v (.int .i64 (i:Nat))])∧NM es' cl' (layK p ps)∧(layK p ps)[i]? = some (p,cntK p ps):=by
 have hs:=h
 unfold entA
 rw[ask_nm h]
 cases hf:fndP p ps 0 with
 | none =>
   obtain ⟨h1,h2⟩:=kCw hf
   have e1:kCN Tryz.prog 82=some 3:=by kernel_rfl
   have e3:∃ a b c d,tiOf Tryz.prog 3=some ⟨a,b,some (.int .i64 0),c,d⟩:=by
    have:((tiOf Tryz.prog 3).bind fun ti=>ti.zero)=some (.int .i64 0):=by kernel_rfl
    obtain ⟨ti,q1,q2⟩:=Option.bind_eq_some_iff.1 this
    obtain ⟨a,b,z,c,d⟩:=ti
    simp only at q2
    subst q2
    exact ⟨a,b,c,d,q1⟩
   obtain ⟨a,b,c,d,e3⟩:=e3
   have hl:layK p ps=ps++[(p,0)]:=by unfold layK;rw[hf];rfl
   refine ⟨es.push { key:=kV p,val:=.int .i64 0,born:=cl },cl+1,cl,?_,?_,?_⟩
   ·simp only[e1,e3,h2];rfl
   ·rw[hl]
    refine ⟨?_,by rw[h.cl];simp,?_⟩
    ·rw[Array.toList_push,h.es,entL_app,h.cl];simp
    ·rw[List.map_append,List.nodup_append]
     refine ⟨h.nd,by simp,fun x hx y hy=>?_⟩
     simp only[List.map_cons,List.map_nil,List.mem_singleton]at hy
     subst hy
     rintro rfl
     exact h1 hx
   ·rw[hl,h.cl,h2];simp
 | some q =>
   obtain ⟨i,v⟩:=q
   obtain ⟨j,c,h1,h2,rfl,h4⟩:=kEZ hf
   rw[Nat.zero_add]at h1
   subst h1
   have hl:layK p ps=ps:=by unfold layK;rw[hf];rfl
   have hg:es[i]? = some { key:=kV p,val:=.int .i64 c,born:=i }:=by rw[get_es h,h2];rfl
   refine ⟨es,cl,i,?_,by rw[hl];exact h,by rw[hl,h4];exact h2⟩
   simp only[hg,Option.map_some,Option.getD_some,same_kV,if_true,mod_same hg rfl,h4]
   rfl
theorem put_nm {es:Array MapEntry} {cl:Nat} {ps:List (Ky×Int)} (h:NM es cl ps) {i:Nat} {p:Ky} {c:Int} (hi:ps[i]? = some (p,c)) (c':Int) :
    es.findIdx? (fun e=>(e.born:Int) == ((i:Nat):Int))=some i∧NM (es.modify i fun e=>{ e with val:=.int .i64 c' }) cl (ps.set i (p,c')):=by
 have hlt:=(List.getElem?_eq_some_iff.1 hi).1
 have hsz:=size_nm h
 have hb:∀ (j:Nat) (hj:j < es.size),es[j].born=j:=fun j hj=>by
  have:=get_es h j
  rw[Array.getElem?_eq_getElem hj,List.getElem?_eq_getElem (by omega)]at this
  simp only[Option.map_some,Option.some.injEq]at this
  rw[this]
 refine ⟨?_,?_,by rw[List.length_set];exact h.cl,?_⟩
 ·rw[Array.findIdx?_eq_some_iff_getElem]
  refine ⟨by omega,by rw[hb];simp,fun j hj=>?_⟩
  rw[hb];simp;omega
 ·apply List.ext_getElem?
  intro j
  rw[Array.getElem?_toList,Array.getElem?_modify,entL_get,List.getElem?_set,get_es h]
  by_cases hj:i=j
  ·subst hj
   rw[if_pos rfl,if_pos rfl,if_pos hlt,hi]
   simp
  ·rw[if_neg hj,if_neg hj];simp
 ·have:(ps.set i (p,c')).map Prod.fst=ps.map Prod.fst:=by
    rw[List.map_set]
    apply List.ext_getElem?
    intro j
    rw[List.getElem?_set]
    split
    ·rename_i hj
     subst hj
     rw[List.getElem?_map,hi,List.length_map,if_pos hlt];rfl
    ·rfl
  rw[this];exact h.nd
end Go.Proofs
end
-- ETr21
section
namespace Go.Proofs
open Go Go.Rw
set_option maxRecDepth 100000
def okB (x:Nd):Bool:=decide (1≤x.id∧x.id≤1099511627776) && qC x.nm && (pts x.text).isSome && decide (cnt x.text≤2000) && (!x.dir || decide (x.text=[]))
theorem okB_iff (x:Nd):okB x=true↔okNd x:=by
 unfold okB
 simp only[Bool.and_eq_true,decide_eq_true_eq,Bool.or_eq_true,Bool.not_eq_true']
 constructor
 ·rintro ⟨⟨⟨⟨h1,h2⟩,h3⟩,h4⟩,h5⟩
  exact ⟨h1,h2,fun hd=>by rcases h5 with h5|h5;rw[hd]at h5;cases h5;exact h5,h3,h4⟩
 ·rintro ⟨h1,h2,h3,h4,h5⟩
  refine ⟨⟨⟨⟨h1,h2⟩,h4⟩,h5⟩,?_⟩
  cases hd:x.dir
  ·exact .inl rfl
  ·exact .inr (h3 hd)
abbrev okNCon:Con where
 ι:={ x:Nd // x.nm.length≤1099511627776∧x.text.length≤1099511627776 }
 args:=fun p=>[nA p.1]
 post:=fun p r=>r = .v (.bool (okB p.1))
 plain:=true
set_option maxHeartbeats 1000000 in
theorem okn_good:Rw.Good Tryz.prog 51 okNCon:=by
 have hΓ:kM Tryz.prog [(95,kBT),(30,kAY)]:=(kH kCK (kH kDG kJ))
 refine kY (nn:=42) hΓ Tryz.func51 (by kernel_rfl) rfl (show Tryz.f51.results.toList=[.tmp 2] from rfl) (fun _=>rfl) (fun x=>by simp[AV.erL,nA_er]) ?_
 rintro ⟨⟨id,par,nm,dir,tx⟩,hn,ht⟩
 simp only at hn ht
 simp only[aR,seval,nA]
 refine kBD (by simp[kI]) ht ?_
 rw[kCB]
 have e0:okB ⟨id,par,nm,dir,tx⟩=(decide (1≤id∧id≤1099511627776) && qC nm && (pts tx).isSome && decide (cnt tx≤2000) && (!dir || decide (tx=[]))):=rfl
 by_cases h1:id ≥ 1
 case neg =>
  simp only[aR,seval,h1]
  rw[e0,decide_eq_false (by omega)];simp
 by_cases h2:id≤1099511627776
 case neg =>
  simp only[aR,seval,h1,h2]
  rw[e0,decide_eq_false (by omega)];simp
 rw[decide_eq_true (show 1≤id∧id≤1099511627776 from ⟨h1,h2⟩)]at e0
 simp only[aR,seval,h1,h2]
 refine jA (by simp[kI]) hn ?_
 rcases Bool.eq_false_or_eq_true (qC nm) with h3|h3
 case inr=>simp only[aR,seval,h3];rw[e0,h3];rfl
 rw[h3]at e0
 rcases Bool.eq_false_or_eq_true (pts tx).isSome with h4|h4
 case inr =>
  have h4f:((pts tx).isSome=true)=False:=by rw[h4];simp
  simp only[aR,seval,h3,h4f];rw[e0,h4];rfl
 have h4t:((pts tx).isSome=true)=True:=eq_true h4
 rw[h4]at e0
 by_cases h5:(cnt tx:Int)≤2000
 case neg =>
  simp only[aR,seval,h3,h4t,h5];rw[e0,decide_eq_false (by omega)];rfl
 rw[decide_eq_true (show cnt tx≤2000 by omega)]at e0
 cases dir
 ·simp only[aR,seval,h3,h4t,h5];rw[e0];rfl
 ·simp only[aR,seval,h3,h4t,h5];rw[e0];rfl
end Go.Proofs
end
-- ETr14
section
namespace Go.Proofs
open Go Go.Rw
set_option maxRecDepth 100000
structure CI where
 es:Array MapEntry
 cl:Nat
 ps:List (Int×Value)
 h:MapG es cl ps
 v:∀ p∈ps,∃ c,p.2 = .int .i64 c
 b:∀ p∈ps,-9223372036854775808≤p.1∧p.1≤9223372036854775807
end Go.Proofs
end
-- ETr15
section
namespace Go.Proofs
open Go Go.Rw
set_option maxRecDepth 100000
def ts0:TS:=⟨#[],0,[],tm_empty⟩
section
variable {Γ:Env} {n:Nat} {t:Nat→AV} {hd:Nat→Nat→AV} {d:Option Nat} {K:AS→Prop}
variable {nh nl:Nat} {h:Nat→Option AO} {fm:Nat→Nat} {lv:Nat→Option (Nat×Nat)} {mu:Bool}
theorem call_tnew (hC:Γ.get 28=none)
    (hk:cont ⟨n,t,hd,⟨nh+2,upd (upd h nh (some (.cells [.mp (nh+1)]))) (nh+1) (some (.map #[] 0)),nl,fm,lv,mu⟩⟩ d (.ptr nh 0) K):kS Tryz.prog Γ false ⟨n,t,hd,⟨nh,h,nl,fm,lv,mu⟩⟩ 28 [] d K:=by
 refine vc_obj tnew_good hC () [] ⟨by simp,by simp[dnL],by simp[dnOs],rfl,rfl⟩ ?_
 rintro objs lvs r ⟨rfl,rfl,rfl⟩ hl
 have e3:[AO.cells [.mp 1],.map #[] 0].length - ([]:List Nat).length=2:=rfl
 rw[e3]
 simp only[kAP,kAc,kAS,kBw,kAX,kBO,kGC,kCJ,kCH,kDy,kAQ,kAw,kA5,kAU,kA8,kF5,List.length_nil,Nat.add_zero]
 exact hk
theorem kFZ (hC:Γ.get 46=none) {s:TS} {l:List Ac} (hS:sndN s.l) (hl:l.length≤1000000) (ho:∀ a∈l,okA a) {o ob:Nat} (hT:qP h o ob s) {lt:Nat}
    (hk1:(allN s.l l).e=0→∀ s':TS,s'.l=(allN s.l l).now→sndN s'.l→cont ⟨n,t,hd,⟨nh+2,upd (upd h nh (some (.cells [.mp (nh+1)]))) (nh+1) (some (.map s'.es s'.cl)),nl,fm,kill fm (AV.tagsL [.ptr o 0,.sl lt 6 (acts l)]) lv,mu⟩⟩ d (.tup [.ptr nh 0,.v (.int .i64 (allN s.l l).n),.v (.int .i64 0)]) K)
    (hk2:(allN s.l l).e≠0→cont ⟨n,t,hd,⟨nh,h,nl,fm,kill fm (AV.tagsL [.ptr o 0,.sl lt 6 (acts l)]) lv,mu⟩⟩ d (.tup [.v (.pointer none),.v (.int .i64 (allN s.l l).n),.v (.int .i64 (allN s.l l).e)]) K) :
    kS Tryz.prog Γ false ⟨n,t,hd,⟨nh,h,nl,fm,lv,mu⟩⟩ 46 [.ptr o 0,.sl lt 6 (acts l)] d K:=by
 obtain ⟨h1,h2,h3⟩:=hT
 have e1:upd h o (some (.cells [.mp ob]))=h:=upd_it h1
 have e2:upd h ob (some (.map s.es s.cl))=h:=upd_it h2
 have et:jW h [o,ob]=[]:=by simp[kA0,kAy,h1,h2,kFw,AO.tags,AV.tagsL,AV.tags]
 refine vcCall_objK ttxn_good hC ⟨(s,l),hS,hl,ho⟩ [o,ob] ⟨by simp[h3],by simp[dnL,dn],?_⟩ ?_
 ·simp only[tsO,kBo,kCy,h1,h2,kAv,kCm,kCu,kF2,dn_mp]
  simp
 ·intro objs lvs r hp hl
  show cont ⟨n,t,hd,AM.call ⟨nh,h,nl,fm,kill fm (AV.tagsL [.ptr o 0,.sl lt 6 (acts l)]++jW h [o,ob]) lv,mu⟩ [o,ob] objs lvs⟩ d _ K
  rw[et,List.append_nil]
  obtain ⟨rfl,hp⟩:=hp
  rcases hp with ⟨he,⟨s',h4,h5,rfl⟩,rfl⟩|⟨he,rfl,rfl⟩
  ·have:=hk1 he s' h4 h5
   rw[AMcall_eq]
   have e3:(tsO (some s)++[AO.cells [.mp 3],.map s'.es s'.cl]).length - [o,ob].length=2:=rfl
   rw[e3]
   simp only[tsO,List.cons_append,List.nil_append,kAP,kAc,kAS,kBw,kAX,kBO,kGC,kCJ,kCH,kDy,kAQ,kAw,kA5,kAU,kA8,kF5,emb_tup,emb_v,List.length_nil,Nat.add_zero,e1,e2]
   exact this
  ·have:=hk2 he
   rw[AMcall_eq]
   have e3:(tsO (some s)).length - [o,ob].length=0:=rfl
   rw[e3]
   simp only[tsO,List.cons_append,List.nil_append,kAP,kAc,kAS,kBw,kAX,kBO,kGC,kCJ,kCH,kDy,kAQ,kAw,kA5,kAU,kA8,kF5,emb_tup,emb_v,List.length_nil,Nat.add_zero,e1,e2]
   exact this
end
def aw1:List Ac:=[⟨1,1,0,[97],false,[]⟩,⟨4,1,0,[],false,[⟨2,0,[120]⟩]⟩]
def aw2:List Ac:=[⟨1,1,0,[97],false,[]⟩,⟨2,2,0,[],false,[]⟩]
theorem aw1_all:(allN [] aw1).e=0∧(allN [] aw1).n=2∧(allN [] aw1).now.length=1:=by decide +kernel
theorem aw2_all:(allN [] aw2).e=5∧(allN [] aw2).n=1:=by decide +kernel
theorem aw3_chk:txnE [⟨9,1,0,[],false,[]⟩]=1:=by decide +kernel
theorem aw_ok:(∀ a∈aw1,okA a)∧(∀ a∈aw2,okA a)∧∀ a∈[(⟨9,1,0,[],false,[]⟩:Ac)],okA a:=by
 refine ⟨?_,?_,?_⟩
 ·intro a ha
  simp only[aw1,List.mem_cons,List.not_mem_nil,or_false]at ha
  rcases ha with rfl|rfl
  ·exact ⟨by unfold okL;decide,by decide⟩
  ·exact ⟨by unfold okL;decide,by decide⟩
 ·intro a ha
  simp only[aw2,List.mem_cons,List.not_mem_nil,or_false]at ha
  rcases ha with rfl|rfl
  ·exact ⟨by unfold okL;decide,by decide⟩
  ·exact ⟨by unfold okL;decide,by decide⟩
 ·intro a ha
  simp only[List.mem_cons,List.not_mem_nil,or_false]at ha
  subst ha
  exact ⟨by unfold okL;decide,by decide⟩
abbrev kEa:Con where
 ι:=Unit
 args:=fun _=>[]
 post:=fun _ r=>r = .v (.bool true)
set_option maxHeartbeats 2000000 in
theorem awake14_good:Rw.Good Tryz.prog 32 kEa:=by
 have hΓ:kM Tryz.prog [(35,kAB)]:=(kH kFH kJ)
 refine kD1 (nn:=69) Tryz.func32 (by kernel_rfl) rfl (show Tryz.f32.results.toList=[.tmp 0] from rfl) (fun _=>rfl) (fun x=>by simp[AV.erL,AV.er]) ?_
 rintro ⟨⟩
 refine qW hΓ (Ws:=[]) _ ?_
 simp only[aR,seval,kB,kC,]
 refine call_tnew (by simp[kI,k9]) ?_
 simp only[aR,seval,kB,kC,]
 (repeat (with_reducible refine And.intro ?_ ?_;focus (first|omega|exact kD|kernel_rfl)))
 refine kFZ (l:=aw1) (lt:=3) (s:=ts0) (o:=0) (ob:=1) (by simp[kI,k9]) snd_nil (by decide) aw_ok.1 (by simp[qP,upd,ts0]) ?_ (fun hc=>absurd aw1_all.1 hc)
 intro _ s1 hs1 hS1
 have hl1:s1.l.length=1:=by rw[hs1];exact aw1_all.2.2
 rw[show (allN ts0.l aw1).n=2 from aw1_all.2.1]
 simp only[aR,seval,kB,kC,acts,aw1,aA,List.map_cons,List.map_nil,zW]
 (repeat (with_reducible refine And.intro ?_ ?_;focus (first|omega|exact kD|kernel_rfl)))
 refine kFZ (l:=aw2) (lt:=4) (s:=ts0) (o:=0) (ob:=1) (by simp[kI,k9]) snd_nil (by decide) aw_ok.2.1 (by simp[qP,upd,ts0]) (fun hc=>absurd hc (by rw[show (allN ts0.l aw2).e=5 from aw2_all.1];decide)) ?_
 intro _
 rw[show (allN ts0.l aw2).n=1 from aw2_all.2,show (allN ts0.l aw2).e=5 from aw2_all.1]
 simp only[aR,seval,kB,kC,acts,aw2,aA,List.map_cons,List.map_nil,zW]
 (repeat (with_reducible refine And.intro ?_ ?_;focus (first|omega|exact kD|kernel_rfl)))
 refine jH (s:=s1) (o:=2) (ob:=3) (by simp[kI,k9]) (kGf hS1).1 (by simp[qP,upd]) ?_
 simp only[aR,seval,kB,kC,kK,hl1]
 (repeat (with_reducible refine And.intro ?_ ?_;focus (first|omega|exact kD|kernel_rfl)))
 refine jH (s:=ts0) (o:=0) (ob:=1) (by simp[kI,k9]) (kGf snd_nil).1 (by simp[qP,upd,ts0]) ?_
 simp only[aR,seval,kB,kC,kK,ts0,kFj,List.length_nil]
 (repeat (with_reducible refine And.intro ?_ ?_;focus (first|omega|exact kD|kernel_rfl)))
 refine kEz (l:=[⟨9,1,0,[],false,[]⟩]) (by simp[kI]) rfl (by decide) aw_ok.2.2 ?_
 rw[aw3_chk]
 simp only[aR,seval,kB,kC,]
end Go.Proofs
end
