/-
 The program's tree: kW taken away;any act. What a qR tree is;going up in it. Plain. What the tree does is what the document says;a qR tree stays qR. Plain. A qR tree stays qR. Plain. A transaction,done on a copy of a tree. strings.Split,strings.Join,slices.Reverse at texts,of this program. The program's tree: paths,and what has a path. The program's tree: what has a path.
-/
import Derived.Test.YtfhipjafkdembaaGreatDoorXETr3
import Derived.Test.YtfhipjafkdembaaGreatDoorXEUk3
import Derived.Test.YtfhipjafkdembaaGreatDoorRwR
import Derived.Test.YtfhipjafkdembaaGreatDoorProg
import Derived.KernelRfl
set_option linter.unusedSimpArgs false
set_option linter.unusedVariables false
set_option linter.defProp false
set_option linter.unusedSectionVars false

-- ETr9
section
namespace Go.Proofs
open Go Go.Rw
set_option maxRecDepth 100000
section
variable {Γ:Env} {n:Nat} {t:Nat→AV} {hd:Nat→Nat→AV} {d:Option Nat} {K:AS→Prop}
variable {nh nl:Nat} {h:Nat→Option AO} {fm:Nat→Nat} {lv:Nat→Option (Nat×Nat)} {mu:Bool}
theorem kGh (hC:Γ.get 27=none) {s:TS} {par:Int} (hi:kEx s.l) {o ob:Nat} (hT:k5 h o ob s)
    (hk:∀ ids,kidsR par s.l ids→cont ⟨n,t,hd,⟨nh,h,nl,fm,lv,mu⟩⟩ d (.sl 0 1 (ints .i64 ids)) K):kT Tryz.prog Γ false ⟨n,t,hd,⟨nh,h,nl,fm,lv,mu⟩⟩ 27 [.ptr o 0,.v (.int .i64 par)] d K:=by
 refine jT kGR hC ⟨(s,par),hi⟩ rfl hT (by simp[dnL,dn]) rfl (fun _ _ _ hp=>hp.1) ?_
 rintro lvs r ⟨_,ids,h1,rfl,rfl⟩
 exact hk ids h1
theorem kDG {f:FuncId} {C:ConO} (hG:jB Tryz.prog f C) (hC:Γ.get f=none) (i:C.ι) {s:TS} (hobjs:C.objs i=tsO (some s)) {o ob:Nat} (hT:k5 h o ob s) {bs:List AV} (ha:dnL [o,ob] bs (C.args i)) (ht:AV.tagsL bs=[]) {q:List Nd×Int}
    (hpost:∀ objs lvs r,C.post i objs lvs r→mutP s q objs lvs r)
    (hk:∀ s':TS,s'.l=q.1→cont ⟨n,t,hd,⟨nh,upd h ob (some (.map s'.es s'.cl)),nl,fm,lv,mu⟩⟩ d (.v (.int .i64 q.2)) K):kT Tryz.prog Γ false ⟨n,t,hd,⟨nh,h,nl,fm,lv,mu⟩⟩ f bs d K:=by
 obtain ⟨h1,h2,h3⟩:=hT
 refine kFh hG hC i [o,ob] ⟨by simp[h3],ha,?_,ht,?_⟩ ?_
 ·rw[hobjs]
  simp only[tsO,kBb,kD6,h1,h2,kBP,kDE,kCM,kDb,dn_mp]
  simp
 ·simp[kA6,kAT,h1,h2,kGT,AO.tags,AV.tagsL,AV.tags]
 ·intro objs lvs r hp hl
  obtain ⟨s',h4,rfl,rfl,rfl⟩:=hpost _ _ _ hp
  have e1:upd h o (some (.cells [.mp ob]))=h:=upd_it h1
  have e3:(tsO (some s')).length - [o,ob].length=0:=rfl
  rw[e3]
  simp only[tsO,List.cons_append,List.nil_append,kCK,kBH,kBx,kEW,kBF,kCA,emb_mp,kEg,kEj,obC_nil,kCI,kDY,kBI,kBO,kAz,emb_v,List.length_nil,Nat.add_zero,e1]
  exact hk s' h4
end
def remN (l:List Nd) (id:Int):List Nd×Int :=
 if hasN l id=false then (l,5) else if 0 < (kept id l).length then (l,9) else (offT id l,0)
abbrev tremCon:ConO where
 ι:={ p:TS×Int // kEx p.1.l }
 objs:=fun p=>tsO (some p.1.1)
 args:=fun p=>[.ptr 0 0,.v (.int .i64 p.1.2)]
 post:=fun p=>mutP p.1.1 (remN p.1.1.l p.1.2)
set_option maxHeartbeats 1000000 in
theorem trem_good:jB Tryz.prog 63 tremCon:=by
 have hΓ:kL Tryz.prog []:=kK
 refine qG (nn:=28) Tryz.func63 (by kernel_rfl) rfl (show Tryz.f63.results.toList=[.tmp 4] from rfl) (fun _=>rfl) ?_
 rintro ⟨⟨s,id⟩,hi⟩
 simp only at hi
 refine qP hΓ (Ws:=[]) _ ?_
 have e1:=kAp s.h
 have e0:remN s.l id=if hasN s.l id=false then (s.l,5) else if 0 < (kept id s.l).length then (s.l,9) else (offT id s.l,0):=rfl
 simp only[aR,seval,kA,kB,kD,e1,nA]
 (repeat (with_reducible refine And.intro ?_ ?_;focus (first|omega|exact kE|kernel_rfl)))
 rcases Bool.eq_false_or_eq_true (hasN s.l id) with hh|hh
 case inr =>
  rw[if_pos hh]at e0
  simp only[aR,seval,kA,kB,kD,hh]
  refine kU [0,1] [] (tsO (some s)) [] (.v (.int .i64 5)) ⟨s,by rw[e0],rfl,rfl,by rw[e0]⟩ ?_
  simp only[aR,seval,kA,kB,kD]<;>((repeat' apply And.intro)<;>first|rfl|omega|trivial)
 rw[if_neg (by rw[hh];decide)]at e0
 simp only[aR,seval,kA,kB,kD,hh]
 (repeat (with_reducible refine And.intro ?_ ?_;focus (first|omega|exact kE|kernel_rfl)))
 refine kGh (s:=s) (o:=0) (ob:=1) (by simp[kF,kM]) hi (by simp[k5,upd]) ?_
 intro ids hk
 have e2:=kidsR_len hk
 have e3:(ints .i64 ids).length=ids.length:=by simp[ints]
 simp only[aR,seval,kA,kB,kD,e3,e2]
 (repeat (with_reducible refine And.intro ?_ ?_;focus (first|omega|exact kE|kernel_rfl)))
 by_cases h9:0 < (kept id s.l).length
 ·rw[if_pos h9]at e0
  simp only[aR,seval,kA,kB,kD,show (((kept id s.l).length:Int) > 0)=True from eq_true (by omega)]
  refine kU [0,1] [] (tsO (some s)) [] (.v (.int .i64 9)) ⟨s,by rw[e0],rfl,rfl,by rw[e0]⟩ ?_
  simp only[aR,seval,kA,kB,kD]<;>((repeat' apply And.intro)<;>first|rfl|omega|trivial)
 rw[if_neg h9]at e0
 simp only[aR,seval,kA,kB,kD,show (((kept id s.l).length:Int) > 0)=False from eq_false (by omega)]
 obtain ⟨es',cl',p1,p2⟩:=off_tm s.h id
 simp only[aR,seval,kA,kB,kD,p1]
 (repeat (with_reducible refine And.intro ?_ ?_;focus (first|omega|exact kE|kernel_rfl)))
 refine kU [0,1] [] (tsO (some ⟨es',cl',_,p2⟩)) [] (.v (.int .i64 0)) ⟨⟨es',cl',_,p2⟩,by rw[e0],rfl,rfl,by rw[e0]⟩ ?_
 simp only[aR,seval,kA,kB,kD]<;>((repeat' apply And.intro)<;>first|rfl|omega|trivial)
def dotN (l:List Nd) (a:Ac):List Nd×Int :=
 if a.k < 1∨a.k > 4 then (l,1)
 else if a.k=1 then creN l a
 else if a.k=2 then remN l a.id
 else if a.k=3 then movN l a
 else ediN l a
def doOk (l:List Nd) (a:Ac):Prop:=trOk l∧rtOk l∧a.nm.length≤1099511627776∧okL a.ops
abbrev tdoCon:ConO where
 ι:={ p:TS×Ac // doOk p.1.l p.2 }
 objs:=fun p=>tsO (some p.1.1)
 args:=fun p=>[.ptr 0 0,aA p.1.2]
 post:=fun p=>mutP p.1.1 (dotN p.1.1.l p.1.2)
abbrev tdo0Con:ConO where
 ι:=Ac
 objs:=fun _=>[]
 args:=fun a=>[.v (.pointer none),aA a]
 post:=fun a objs lvs r=>objs=[]∧lvs=[]∧r = .v (.int .i64 (if a.k < 1∨a.k > 4 then 1 else 5))
set_option maxHeartbeats 4000000 in
theorem tdo_good:jB Tryz.prog 18 tdoCon:=by
 have hΓ:kL Tryz.prog []:=kK
 refine qG (nn:=45) Tryz.func18 (by kernel_rfl) rfl (show Tryz.f18.results.toList=[.tmp 4] from rfl) (fun _=>rfl) ?_
 rintro ⟨⟨s,a⟩,ho,hr,hn,hc⟩
 obtain ⟨k,id,par,nm,dir,ops⟩:=a
 simp only at ho hr hn hc
 refine qP hΓ (Ws:=[]) _ ?_
 have e0:dotN s.l ⟨k,id,par,nm,dir,ops⟩=if k < 1∨k > 4 then (s.l,1) else if k=1 then creN s.l ⟨k,id,par,nm,dir,ops⟩ else if k=2 then remN s.l id else if k=3 then movN s.l ⟨k,id,par,nm,dir,ops⟩ else ediN s.l ⟨k,id,par,nm,dir,ops⟩:=rfl
 simp only[aR,seval,kA,kB,kD,aA]
 (repeat (with_reducible refine And.intro ?_ ?_;focus (first|omega|exact kE|kernel_rfl)))
 by_cases h1:k < 1
 ·rw[if_pos (.inl h1)]at e0
  simp only[aR,seval,kA,kB,kD,h1]
  refine kU [0,1] [] (tsO (some s)) [] (.v (.int .i64 1)) ⟨s,by rw[e0],rfl,rfl,by rw[e0]⟩ ?_
  simp only[aR,seval,kA,kB,kD]<;>((repeat' apply And.intro)<;>first|rfl|omega|trivial)
 by_cases h2:k > 4
 ·rw[if_pos (.inr h2)]at e0
  simp only[aR,seval,kA,kB,kD,h1,h2]
  refine kU [0,1] [] (tsO (some s)) [] (.v (.int .i64 1)) ⟨s,by rw[e0],rfl,rfl,by rw[e0]⟩ ?_
  simp only[aR,seval,kA,kB,kD]<;>((repeat' apply And.intro)<;>first|rfl|omega|trivial)
 rw[if_neg (by omega)]at e0
 simp only[aR,seval,kA,kB,kD,h1,h2]
 (repeat (with_reducible refine And.intro ?_ ?_;focus (first|omega|exact kE|kernel_rfl)))
 by_cases k1:k=1
 ·subst k1
  rw[if_pos rfl]at e0
  simp only[aR,seval,kA,kB,kD,aA]
  (repeat (with_reducible refine And.intro ?_ ?_;focus (first|omega|exact kE|kernel_rfl)))
  refine kDG (o:=0) (ob:=1) (q:=creN s.l ⟨1,id,par,nm,dir,ops⟩) tcre_good (by simp[kF,kM]) ⟨(s,⟨1,id,par,nm,dir,ops⟩),ho,hn⟩ rfl (by simp[k5,upd]) (by simp[dnL,dn,aA]) (by simp[AV.tagsL,AV.tags]) (fun _ _ _ hp=>hp) ?_
  intro s' hs
  simp only[aR,seval,kA,kB,kD,h1,h2]
  (repeat (with_reducible refine And.intro ?_ ?_;focus (first|omega|exact kE|kernel_rfl)))
  refine kU [0,1] [] (tsO (some s')) [] (.v (.int .i64 (creN s.l ⟨1,id,par,nm,dir,ops⟩).2)) ⟨s',by rw[e0];exact hs,rfl,rfl,by rw[e0]⟩ ?_
  simp only[aR,seval,kA,kB,kD]<;>((repeat' apply And.intro)<;>first|rfl|omega|trivial)
 rw[if_neg k1]at e0
 by_cases k2:k=2
 ·subst k2
  rw[if_pos rfl]at e0
  simp only[aR,seval,kA,kB,kD,aA]
  (repeat (with_reducible refine And.intro ?_ ?_;focus (first|omega|exact kE|kernel_rfl)))
  refine kDG (o:=0) (ob:=1) (q:=remN s.l id) trem_good (by simp[kF,kM]) ⟨(s,id),ho.1⟩ rfl (by simp[k5,upd]) (by simp[dnL,dn,aA]) (by simp[AV.tagsL,AV.tags]) (fun _ _ _ hp=>hp) ?_
  intro s' hs
  simp only[aR,seval,kA,kB,kD,h1,h2]
  (repeat (with_reducible refine And.intro ?_ ?_;focus (first|omega|exact kE|kernel_rfl)))
  refine kU [0,1] [] (tsO (some s')) [] (.v (.int .i64 (remN s.l id).2)) ⟨s',by rw[e0];exact hs,rfl,rfl,by rw[e0]⟩ ?_
  simp only[aR,seval,kA,kB,kD]<;>((repeat' apply And.intro)<;>first|rfl|omega|trivial)
 rw[if_neg k2]at e0
 by_cases k3:k=3
 ·subst k3
  rw[if_pos rfl]at e0
  simp only[aR,seval,kA,kB,kD,aA]
  (repeat (with_reducible refine And.intro ?_ ?_;focus (first|omega|exact kE|kernel_rfl)))
  refine kDG (o:=0) (ob:=1) (q:=movN s.l ⟨3,id,par,nm,dir,ops⟩) tmov_good (by simp[kF,kM]) ⟨(s,⟨3,id,par,nm,dir,ops⟩),ho,hr,hn⟩ rfl (by simp[k5,upd]) (by simp[dnL,dn,aA]) (by simp[AV.tagsL,AV.tags]) (fun _ _ _ hp=>hp) ?_
  intro s' hs
  simp only[aR,seval,kA,kB,kD,h1,h2]
  (repeat (with_reducible refine And.intro ?_ ?_;focus (first|omega|exact kE|kernel_rfl)))
  refine kU [0,1] [] (tsO (some s')) [] (.v (.int .i64 (movN s.l ⟨3,id,par,nm,dir,ops⟩).2)) ⟨s',by rw[e0];exact hs,rfl,rfl,by rw[e0]⟩ ?_
  simp only[aR,seval,kA,kB,kD]<;>((repeat' apply And.intro)<;>first|rfl|omega|trivial)
 rw[if_neg k3]at e0
 simp only[aR,seval,kA,kB,kD,k1,k2,k3,aA]
 (repeat (with_reducible refine And.intro ?_ ?_;focus (first|omega|exact kE|kernel_rfl)))
 refine kDG (o:=0) (ob:=1) (q:=ediN s.l ⟨k,id,par,nm,dir,ops⟩) tedi_good (by simp[kF,kM]) ⟨(s,⟨k,id,par,nm,dir,ops⟩),ho,hc⟩ rfl (by simp[k5,upd]) (by simp[dnL,dn,aA]) (by simp[AV.tagsL,AV.tags]) (fun _ _ _ hp=>hp) ?_
 intro s' hs
 simp only[aR,seval,kA,kB,kD,h1,h2]
 (repeat (with_reducible refine And.intro ?_ ?_;focus (first|omega|exact kE|kernel_rfl)))
 refine kU [0,1] [] (tsO (some s')) [] (.v (.int .i64 (ediN s.l ⟨k,id,par,nm,dir,ops⟩).2)) ⟨s',by rw[e0];exact hs,rfl,rfl,by rw[e0]⟩ ?_
 simp only[aR,seval,kA,kB,kD]<;>((repeat' apply And.intro)<;>first|rfl|omega|trivial)
set_option maxHeartbeats 1000000 in
theorem tdo0_good:jB Tryz.prog 18 tdo0Con:=by
 have hΓ:kL Tryz.prog []:=kK
 refine qG (nn:=45) Tryz.func18 (by kernel_rfl) rfl (show Tryz.f18.results.toList=[.tmp 4] from rfl) (fun _=>rfl) ?_
 intro a
 obtain ⟨k,id,par,nm,dir,ops⟩:=a
 refine qP hΓ (Ws:=[]) _ ?_
 simp only[aR,seval,kA,kB,kD,aA]
 (repeat (with_reducible refine And.intro ?_ ?_;focus (first|omega|exact kE|kernel_rfl)))
 by_cases h1:k < 1
 ·simp only[aR,seval,kA,kB,kD,h1]
  refine kU [] [] [] [] (.v (.int .i64 1)) ⟨rfl,rfl,by rw[if_pos (.inl h1)]⟩ ?_
  simp only[aR,seval,kA,kB,kD]<;>((repeat' apply And.intro)<;>first|rfl|omega|trivial)
 by_cases h2:k > 4
 ·simp only[aR,seval,kA,kB,kD,h1,h2]
  refine kU [] [] [] [] (.v (.int .i64 1)) ⟨rfl,rfl,by rw[if_pos (.inr h2)]⟩ ?_
  simp only[aR,seval,kA,kB,kD]<;>((repeat' apply And.intro)<;>first|rfl|omega|trivial)
 simp only[aR,seval,kA,kB,kD,h1,h2]
 (repeat (with_reducible refine And.intro ?_ ?_;focus (first|omega|exact kE|kernel_rfl)))
 refine kU [] [] [] [] (.v (.int .i64 5)) ⟨rfl,rfl,by rw[if_neg (fun hc=>hc.elim h1 h2)]⟩ ?_
 simp only[aR,seval,kA,kB,kD]<;>((repeat' apply And.intro)<;>first|rfl|omega|trivial)
end Go.Proofs
end
-- ETr10
section
namespace Go.Proofs
open Go Go.Rw
set_option maxRecDepth 100000
theorem gN_at (l:List Nd) (i:Int):gN l i=(atI i l).getD qW:=by
 rw[at_ndx]
 unfold gN
 split
 ·rfl
 ·rw[List.getD_eq_getElem?_getD,List.getElem?_eq_none (by omega)]
theorem kBc (l:List Nd) (i:Int):hasN l i=(atI i l).isSome:=by
 rw[at_ndx]
 unfold hasN
 split<;>simp[*]
def pf (l:List Nd) (i:Int):Int:=(gN l i).par
def upN (l:List Nd):Nat→Int→Int
 | 0,i=>i
 | k+1,i=>upN l k (pf l i)
theorem kGO (l:List Nd):∀ (j k:Nat) (i:Int),upN l (j+k) i=upN l k (upN l j i)
 | 0,k,i=>by rw [Nat.zero_add];rfl
 | j+1,k,i=>by rw [Nat.add_right_comm];exact kGO l j k (pf l i)
theorem up_succ (l:List Nd) (k:Nat) (i:Int):upN l (k+1) i=pf l (upN l k i):=kGO l k 1 i
theorem pf_no {l:List Nd} {i:Int} (h:hasN l i=false):pf l i=0:=by
 unfold pf
 rw[gN_at]
 rw[kBc]at h
 cases h2:atI i l with
 | none=>rfl
 | some x=>rw [h2] at h;simp at h
theorem nodup_sub:∀ {a b:List Int},a.Nodup→(∀ x∈a,x∈b)→a.length≤b.length
 | [],b,_,_=>Nat.zero_le _
 | x::a,b,hn,hs=>by
   rw[List.nodup_cons]at hn
   have h1:=hs x (List.mem_cons_self ..)
   have h2:=nodup_sub (a:=a) (b:=b.erase x) hn.2 fun y hy=>(List.mem_erase_of_ne (by rintro rfl;exact hn.1 hy)).2 (hs y (List.mem_cons_of_mem _ hy))
   rw[List.length_erase_of_mem h1]at h2
   have:0 < b.length:=List.length_pos_of_mem h1
   simp only[List.length_cons];omega
structure okNd (x:Nd):Prop where
 id:1≤x.id∧x.id≤1099511627776
 nm:qB x.nm=true
 dir:x.dir=true→x.text=[]
 valid:(pts x.text).isSome=true
 cnt:cnt x.text≤2000
structure sndN (l:List Nd):Prop where
 srt:srtN l
 len:l.length≤100
 node:∀ x∈l,okNd x
 tot:totN l≤10000
 sib:∀ x∈l,∀ y∈l,x.par=y.par→x.nm=y.nm→x.id=y.id
 par:∀ x∈l,x.par=0∨(hasN l x.par=true∧(gN l x.par).dir=true)
 rt:∀ x∈l,∃ k,upN l k x.id=0
theorem snd_nil:sndN []:=⟨by simp[srtN],by simp,by simp,by simp[totN],by simp,by simp,by simp⟩
theorem at_mem {l:List Nd} (h:srtN l) {x:Nd} (hx:x∈l):atI x.id l=some x:=by
 obtain ⟨i,hi,rfl⟩:=List.getElem_of_mem hx
 have:=ndx_self (srt_mem h) i (List.getElem?_eq_getElem hi)
 rw[at_ndx,this,if_pos hi,List.getD_eq_getElem?_getD,List.getElem?_eq_getElem hi];rfl
theorem kAK {l:List Nd} {i:Int} (h:hasN l i=true):gN l i∈l∧(gN l i).id=i:=by
 obtain ⟨h1,h2,h3⟩:=kCY h
 rw[h2]
 exact ⟨List.getElem_mem h1,h3⟩
theorem kCC {l:List Nd} {x:Nd} (hx:x∈l):hasN l x.id=true:=(qI l x.id).2 ((ndx_mem x.id l).2 ⟨x,hx,rfl⟩)
theorem kF3 {l:List Nd} (h:srtN l) {x:Nd} (hx:x∈l):gN l x.id=x:=by rw[gN_at,at_mem h hx];rfl
section
variable {l:List Nd} (S:sndN l)
include S
theorem no_zero:hasN l 0=false:=by
 rcases Bool.eq_false_or_eq_true (hasN l 0) with h|h
 ·have:=kAK h
  have h2:=(S.node _ this.1).id.1
  omega
 ·exact h
theorem pf_zero:pf l 0=0:=pf_no (no_zero S)
theorem kED:∀ k,upN l k 0=0
 | 0=>rfl
 | k+1=>by rw [upN,pf_zero S];exact kED k
theorem up_stay {j k:Nat} {i:Int} (h:upN l j i=0) (hk:j≤k):upN l k i=0:=by
 obtain ⟨m,rfl⟩:∃ m,k=j+m:=⟨k - j,by omega⟩
 rw[kGO,h,kED S]
def inT (l:List Nd) (i:Int):Prop:=i=0∨hasN l i=true
theorem pf_in {i:Int}:inT l (pf l i):=by
 rcases Bool.eq_false_or_eq_true (hasN l i) with h|h
 ·obtain ⟨h1,h2⟩:=kAK h
  rcases S.par _ h1 with h3|h3
  ·exact .inl h3
  ·exact .inr h3.1
 ·exact .inl (pf_no h)
theorem up_in {i:Int} (hi:inT l i):∀ k,inT l (upN l k i)
 | 0=>hi
 | k+1=>by rw [up_succ];exact pf_in S
theorem rt_in {i:Int} (hi:inT l i):∃ k,upN l k i=0:=by
 rcases hi with rfl|hi
 ·exact ⟨0,rfl⟩
 ·obtain ⟨h1,h2⟩:=kAK hi
  have:=S.rt _ h1
  rwa [h2]at this
theorem kEN {i:Int} (hi:inT l i):upN l l.length i=0:=by
 obtain ⟨k,hk⟩:=rt_in S hi
 induction k using Nat.strongRecOn with
 | ind k ih =>
   by_cases hlt:k≤l.length
   ·exact up_stay S hk hlt
   ·-- two of the k are the same
    by_cases hall:∀ j,j < k→upN l j i≠0
    ·by_cases hnd:((List.range k).map fun j=>upN l j i).Nodup
     ·have:=nodup_sub (b:=l.map Nd.id) hnd fun y hy=>by
        obtain ⟨j,hj,rfl⟩:=List.mem_map.1 hy
        rcases up_in S hi j with h0|h0
        ·exact absurd h0 (hall j (by simpa using hj))
        ·obtain ⟨h1,h2⟩:=kAK h0
         exact List.mem_map.2 ⟨_,h1,h2⟩
      simp at this
      omega
     ·exfalso
      apply hnd
      rw[List.nodup_iff_pairwise_ne,List.pairwise_map]
      rw[List.pairwise_iff_getElem]
      intro a b ha hb hab
      simp only[List.length_range]at ha hb
      simp only[List.getElem_range]
      intro he
      -- from b on as from a on: the root sooner
      have h1:upN l (a+(k - b)) i=0:=by rw[kGO,he,← kGO,show b+(k - b)=k by omega,hk]
      exact hall _ (by omega) h1
    ·have:∃ j,j < k∧upN l j i=0:=by
       refine Classical.byContradiction fun hc=>hall fun j hj h0=>hc ⟨j,hj,h0⟩
     obtain ⟨j,hj,h0⟩:=this
     exact ih j hj h0
theorem kE9 {i:Int}:∀ n,kAF l n i=true↔upN l n i=0
 | 0=>by simp [kAF,upN]
 | n+1=>by
   rw[kAF,upN]
   split
   ·rename_i h0
    subst h0
    simp[pf_zero S,kED S]
   ·exact kE9 n
theorem snd_rt:rtOk l:=fun x hx=>(kE9 S _).2 (kEN S (.inr (kCC hx)))
def meets (l:List Nd) (i top:Int):Prop:=∃ k,upN l k i=top
theorem up_iff {i top:Int}:∀ n,upB l top n i=true↔∃ k,k≤n∧upN l k i=top∧∀ j,j < k→upN l j i≠0
 | 0=>by
   simp only[upB,decide_eq_true_eq]
   constructor
   ·rintro rfl;exact ⟨0,Nat.le_refl _,rfl,by omega⟩
   ·rintro ⟨k,hk,h,_⟩
    have:k=0:=by omega
    subst this;exact h
 | n+1=>by
   rw[upB]
   split
   ·rename_i h0
    simp only[true_iff]
    exact ⟨0,Nat.zero_le _,h0,by omega⟩
   ·rename_i h0
    split
    ·rename_i h1
     subst h1
     simp only[Bool.false_eq_true,false_iff]
     rintro ⟨k,hk,h,h2⟩
     cases k with
     | zero=>exact h0 h
     | succ k=>exact h2 0 (by omega) rfl
    ·rename_i h1
     rw[show (gN l i).par=pf l i from rfl,up_iff n]
     constructor
     ·rintro ⟨k,hk,h,h2⟩
      refine ⟨k+1,by omega,h,fun j hj=>?_⟩
      cases j with
      | zero=>exact h1
      | succ j=>exact h2 j (by omega)
     ·rintro ⟨k,hk,h,h2⟩
      cases k with
      | zero=>exact absurd h h0
      | succ k=>exact ⟨k,by omega,h,fun j hj=>h2 (j+1) (by omega)⟩
theorem up_meets {i top:Int} (hi:inT l i) (ht:top≠0):upB l top l.length i=true↔meets l i top:=by
 rw[up_iff S]
 constructor
 ·rintro ⟨k,_,h,_⟩;exact ⟨k,h⟩
 ·rintro ⟨k,h⟩
  have hz:∀ j,j≤k→upN l j i≠0:=fun j hj h0=>ht (by rw[← h,up_stay S h0 hj])
  refine ⟨k,?_,h,fun j hj=>hz j (by omega)⟩
  refine Classical.byContradiction fun hc=>hz l.length (by omega) (kEN S hi)
theorem in_iff {top:Int} (ht:top≠0):∀ (n:Nat) {i:Int},inT l i→upN l n i=0→(inN l top (n+1) i=true↔meets l i top)
 | n,i,hi,h0=>by
   rw[inN]
   split
   ·rename_i h1
    simp only[true_iff]
    exact ⟨0,h1⟩
   ·rename_i h1
    split
    ·rename_i h2
     have h3:(l.getD (ndx i l) qW).par=pf l i:=rfl
     rw[h3]
     have h4:meets l i top↔meets l (pf l i) top:=by
      constructor
      ·rintro ⟨k,h⟩
       cases k with
       | zero=>exact absurd h h1
       | succ k=>exact ⟨k,h⟩
      ·rintro ⟨k,h⟩;exact ⟨k+1,h⟩
     rw[h4]
     cases n with
     | zero =>
       have:i=0:=h0
       subst this
       have:=no_zero S
       simp[hasN]at this
       omega
     | succ n=>exact in_iff ht n (pf_in S) h0
    ·rename_i h2
     have h5:i=0:=by
      rcases hi with h|h
      ·exact h
      ·exact absurd ((qI l i).1 h) h2
     subst h5
     simp only[Bool.false_eq_true,false_iff]
     rintro ⟨k,h⟩
     rw[kED S]at h
     exact ht h.symm
theorem kAf {i top:Int} (hi:inT l i) (ht:top≠0):zO l i top=true↔meets l i top:=in_iff S ht l.length hi (kEN S hi)
theorem kid_some {par:Int} {nm:List UInt8}:∀ {m:List Nd},(∀ x∈m,1≤x.id)→(kid par nm m = -1∨1≤kid par nm m)
 | [],_=>.inl rfl
 | x::m,h=>by
   rw[kid]
   split
   ·exact .inr (h x (List.mem_cons_self ..))
   ·exact kid_some fun y hy=>h y (List.mem_cons_of_mem _ hy)
end
theorem kid_iff {par i:Int} {nm:List UInt8}:∀ {m:List Nd},(∀ x∈m,1≤x.id)→1≤i→kid par nm m=i→∃ x∈m,x.par=par∧x.nm=nm∧x.id=i
 | [],_,h1,h=>by rw [kid] at h;omega
 | x::m,hp,h1,h=>by
   rw[kid]at h
   split at h
   ·rename_i hx
    exact ⟨x,List.mem_cons_self ..,hx.1,hx.2,h⟩
   ·obtain ⟨y,hy,h2⟩:=kid_iff (fun y hy=>hp y (List.mem_cons_of_mem _ hy)) h1 h
    exact ⟨y,List.mem_cons_of_mem _ hy,h2⟩
theorem kBv {par:Int} {nm:List UInt8}:∀ {m:List Nd},(∀ x∈m,1≤x.id)→¬ 1≤kid par nm m→∀ x∈m,¬ (x.par=par∧x.nm=nm)
 | [],_,h,x,hx=>by cases hx
 | y::m,hp,h,x,hx=>by
   rw[kid]at h
   split at h
   ·exact absurd (hp y (List.mem_cons_self ..)) h
   ·rename_i hy
    rcases List.mem_cons.1 hx with rfl|hx
    ·exact hy
    ·exact kBv (fun y hy=>hp y (List.mem_cons_of_mem _ hy)) h x hx
end Go.Proofs
end
-- ETr11
section
namespace Go.Proofs
open Go Go.Rw
set_option maxRecDepth 100000
theorem kBj (a b:List Nd):totN (a++b)=totN a+totN b:=by
 induction a with
 | nil=>simp [totN]
 | cons x a ih=>simp [totN,ih,Nat.add_assoc]
theorem tot_set:∀ (l:List Nd) (i:Nat) (h:i < l.length) (y:Nd),totN (l.set i y)+cnt l[i].text=totN l+cnt y.text
 | [],i,h,y=>by simp at h
 | x::l,0,h,y=>by simp [totN];omega
 | x::l,i+1,h,y=>by
   have:=tot_set l i (by simpa using h) y
   simp[totN];omega
theorem kDT {l:List Nd} {par id:Int} {nm:List UInt8} (h:dirI l par≠0):qZ l par nm id=dirI l par:=by
 unfold dirI at h ⊢
 unfold qZ
 split
 ·rename_i h0;rw[if_pos h0]at h;exact absurd rfl h
 ·rename_i h0
  rw[if_neg h0]at h
  by_cases h1:hasN l par=true
  ·rw[if_pos h1]at h ⊢
   rw[if_pos ((qI l par).1 h1)]
   split at h
   ·exact absurd rfl h
   ·rename_i h2
    rw[if_neg h2,if_pos (by simpa [gN] using h2)]
  ·rw[if_neg h1,if_neg (fun hc=>h1 ((qI l par).2 hc))]
theorem kDX {l:List Nd} {par id:Int} {nm:List UInt8} (h:dirI l par=0):qZ l par nm id=if par≠0∧id > 0∧zO l par id=true then 10 else kB6 l par nm id:=by
 unfold dirI at h
 unfold qZ
 split
 ·rename_i h0;rw[if_neg (fun hc=>hc.1 h0)]
 ·rename_i h0
  rw[if_neg h0]at h
  split at h
  ·rename_i h1
   rw[if_pos ((qI l par).1 h1)]
   split at h
   ·rename_i h2
    rw[if_neg (by rw[show l.getD (ndx par l) qW=gN l par from rfl,h2];decide)]
    by_cases h3:id > 0∧zO l par id=true
    ·rw[if_pos h3,if_pos ⟨h0,h3⟩]
    ·rw[if_neg h3,if_neg (fun hc=>h3 hc.2)]
   ·omega
  ·omega
theorem dir_in {l:List Nd} {par:Int} (h:dirI l par=0):inT l par∧(par=0∨(hasN l par=true∧(gN l par).dir=true)):=by
 unfold dirI at h
 split at h
 ·exact ⟨.inl ‹_›,.inl ‹_›⟩
 ·split at h
  ·split at h
   ·exact ⟨.inr ‹_›,.inr ⟨‹_›,‹_›⟩⟩
   ·omega
  ·omega
theorem doN_k1 {l:List Nd} {a:Ac} (hk:a.k=1):doN l a =
    if a.id < 1∨a.id > 1099511627776∨qB a.nm=false then (l,1)
    else if ndx a.id l < l.length then (l,6)
    else if qZ l a.par a.nm 0≠0 then (l,qZ l a.par a.nm 0)
    else if l.length ≥ 100 then (l,4)
    else (l.take (atN a.id l)++⟨a.id,a.par,a.nm,a.dir,[]⟩::l.drop (atN a.id l),0):=by
 show (if a.k=1 then _ else _)=_
 rw[if_pos hk]
theorem doN_k2 {l:List Nd} {a:Ac} (hk:a.k=2):doN l a =
    if ¬ ndx a.id l < l.length then (l,5)
    else if (l.any fun y=>decide (y.par=a.id))=true then (l,9)
    else (l.take (ndx a.id l)++l.drop (ndx a.id l+1),0):=by
 show (if a.k=1 then _ else _)=_
 rw[if_neg (by omega)]
 show (if a.k=2 then _ else _)=_
 rw[if_pos hk]
theorem doN_k3 {l:List Nd} {a:Ac} (hk:a.k=3):doN l a =
    if qB a.nm=false then (l,1)
    else if ¬ ndx a.id l < l.length then (l,5)
    else if qZ l a.par a.nm a.id≠0 then (l,qZ l a.par a.nm a.id)
    else (l.set (ndx a.id l) ⟨(gN l a.id).id,a.par,a.nm,(gN l a.id).dir,(gN l a.id).text⟩,0):=by
 show (if a.k=1 then _ else _)=_
 rw[if_neg (by omega)]
 show (if a.k=2 then _ else _)=_
 rw[if_neg (by omega)]
 show (if a.k=3 then _ else _)=_
 rw[if_pos hk]
 rfl
theorem doN_k4 {l:List Nd} {a:Ac} (hk:a.k=4):doN l a =
    if ¬ ndx a.id l < l.length then (l,5)
    else if (gN l a.id).dir=true then (l,8)
    else if errI (gN l a.id).text a.ops≠0 then (l,errI (gN l a.id).text a.ops)
    else if (totN (l.set (ndx a.id l) ⟨(gN l a.id).id,(gN l a.id).par,(gN l a.id).nm,(gN l a.id).dir,zG (gN l a.id).text a.ops⟩):Int) > 10000 then (l,4)
    else (l.set (ndx a.id l) ⟨(gN l a.id).id,(gN l a.id).par,(gN l a.id).nm,(gN l a.id).dir,zG (gN l a.id).text a.ops⟩,0):=by
 show (if a.k=1 then _ else _)=_
 rw[if_neg (by omega)]
 show (if a.k=2 then _ else _)=_
 rw[if_neg (by omega)]
 show (if a.k=3 then _ else _)=_
 rw[if_neg (by omega)]
 show (if a.k=4 then _ else _)=_
 rw[if_pos hk]
 rfl
theorem doN_k0 {l:List Nd} {a:Ac} (hk:a.k < 1∨a.k > 4):doN l a=(l,1):=by
 show (if a.k=1 then _ else _)=_
 rw[if_neg (by omega)]
 show (if a.k=2 then _ else _)=_
 rw[if_neg (by omega)]
 show (if a.k=3 then _ else _)=_
 rw[if_neg (by omega)]
 show (if a.k=4 then _ else _)=_
 rw[if_neg (by omega)]
section
variable {l:List Nd} (S:sndN l)
include S
theorem cre_eq {a:Ac} (hk:a.k=1):creN l a=doN l a:=by
 have hp:∀ x∈l,1≤x.id:=fun x hx=>(S.node x hx).id.1
 rw[doN_k1 hk]
 unfold creN
 by_cases h1:a.id < 1∨a.id > 1099511627776∨qB a.nm=false
 ·rw[if_pos h1,if_pos h1]
 rw[if_neg h1,if_neg h1]
 by_cases h2:hasN l a.id=true
 ·rw[if_pos h2,if_pos ((qI l a.id).1 h2)]
 rw[if_neg h2,if_neg (fun hc=>h2 ((qI l a.id).2 hc))]
 by_cases h3:dirI l a.par=0
 case neg=>rw[if_pos h3,kDT h3,if_pos h3]
 rw[if_neg (fun hc=>hc h3),kDX h3,if_neg (show ¬ (a.par≠0∧(0:Int) > 0∧zO l a.par 0=true) by omega)]
 unfold kB6
 by_cases h4:0 < kid a.par a.nm l
 ·rw[if_pos h4,if_pos (show (0≤kid a.par a.nm l∧kid a.par a.nm l≠0) by omega)];rfl
 have h5:=kid_some S (par:=a.par) (nm:=a.nm) hp
 rw[if_neg h4,if_neg (show ¬ (0≤kid a.par a.nm l∧kid a.par a.nm l≠0) by omega),if_neg (show ¬ ((0:Int)≠0) by decide)]
 split
 ·rfl
 ·unfold setT
  rw[if_neg h2]
theorem rem_eq {a:Ac} (hk:a.k=2):remN l a.id=doN l a:=by
 rw[doN_k2 hk]
 unfold remN
 by_cases h2:hasN l a.id=true
 case neg =>
  rw[if_pos (show hasN l a.id=false by simpa using h2),if_pos (show ¬ ndx a.id l < l.length from fun hc=>h2 ((qI l a.id).2 hc))]
 rw[if_neg (show ¬ (hasN l a.id=false) by rw[h2];decide),if_neg (show ¬ ¬ ndx a.id l < l.length from fun hc=>hc ((qI l a.id).1 h2))]
 have e:0 < (kept a.id l).length↔(l.any fun y=>decide (y.par=a.id))=true:=by
  unfold kept
  rw[List.length_pos_iff,ne_eq,List.filter_eq_nil_iff,List.any_eq_true]
  simp
 by_cases h3:0 < (kept a.id l).length
 ·rw[if_pos h3,if_pos (e.1 h3)]
 ·rw[if_neg h3,if_neg (fun hc=>h3 (e.2 hc))];rfl
theorem mov_eq {a:Ac} (hk:a.k=3):movN l a=doN l a:=by
 have hp:∀ x∈l,1≤x.id:=fun x hx=>(S.node x hx).id.1
 rw[doN_k3 hk]
 unfold movN
 by_cases h1:qB a.nm=false
 ·rw[if_pos h1,if_pos h1]
 rw[if_neg h1,if_neg h1]
 by_cases h2:hasN l a.id=true
 case neg =>
  rw[if_pos (show hasN l a.id=false by simpa using h2),if_pos (show ¬ ndx a.id l < l.length from fun hc=>h2 ((qI l a.id).2 hc))]
 obtain ⟨h6,h7⟩:=kAK h2
 have h8:=hp _ h6
 rw[h7]at h8
 rw[if_neg (show ¬ (hasN l a.id=false) by rw[h2];decide),if_neg (show ¬ ¬ ndx a.id l < l.length from fun hc=>hc ((qI l a.id).1 h2))]
 by_cases h3:dirI l a.par=0
 case neg=>rw[if_pos h3,kDT h3,if_pos h3]
 rw[if_neg (fun hc=>hc h3),kDX h3]
 obtain ⟨h9,_⟩:=dir_in h3
 by_cases h4:upB l a.id l.length a.par=true
 ·have h10:=(up_meets S h9 (show a.id≠0 by omega)).1 h4
  have h11:a.par≠0:=by
   rintro h0
   rw[h0]at h10
   obtain ⟨k,hk2⟩:=h10
   rw[kED S]at hk2;omega
  rw[if_pos h4,if_pos (show a.par≠0∧a.id > 0∧zO l a.par a.id=true from ⟨h11,by omega,(kAf S h9 (by omega)).2 h10⟩)];rfl
 ·rw[if_neg h4,if_neg (show ¬ (a.par≠0∧a.id > 0∧zO l a.par a.id=true) from fun hc=>h4 ((up_meets S h9 (show a.id≠0 by omega)).2 ((kAf S h9 (by omega)).1 hc.2.2)))]
  have h5:=kid_some S (par:=a.par) (nm:=a.nm) hp
  unfold kB6
  by_cases h12:0 < kid a.par a.nm l∧kid a.par a.nm l≠a.id
  ·rw[if_pos h12,if_pos (show 0≤kid a.par a.nm l∧kid a.par a.nm l≠a.id from ⟨by omega,h12.2⟩)];rfl
  ·rw[if_neg h12,if_neg (show ¬ (0≤kid a.par a.nm l∧kid a.par a.nm l≠a.id) from fun hc=>h12 ⟨by omega,hc.2⟩),if_neg (show ¬ ((0:Int)≠0) by decide)]
   unfold setT
   rw[if_pos h2]
   show (l.set (ndx a.id l) ⟨a.id,a.par,a.nm,(gN l a.id).dir,(gN l a.id).text⟩,(0:Int))=(l.set (ndx a.id l) ⟨(gN l a.id).id,a.par,a.nm,(gN l a.id).dir,(gN l a.id).text⟩,0)
   rw[h7]
theorem edi_eq {a:Ac} (hk:a.k=4):ediN l a=doN l a:=by
 rw[doN_k4 hk]
 unfold ediN
 by_cases h2:hasN l a.id=true
 case neg =>
  rw[if_pos (show hasN l a.id=false by simpa using h2),if_pos (show ¬ ndx a.id l < l.length from fun hc=>h2 ((qI l a.id).2 hc))]
 have h6:=kAK h2
 rw[if_neg (show ¬ (hasN l a.id=false) by rw[h2];decide),if_neg (show ¬ ¬ ndx a.id l < l.length from fun hc=>hc ((qI l a.id).1 h2))]
 split
 ·rfl
 split
 ·rfl
 obtain ⟨h7,h8,h9⟩:=kCY h2
 have h10:=tot_set l (ndx a.id l) h7 ⟨(gN l a.id).id,(gN l a.id).par,(gN l a.id).nm,(gN l a.id).dir,zG (gN l a.id).text a.ops⟩
 rw[← h8]at h10
 simp only at h10
 have e:(totN l:Int) - cnt (gN l a.id).text+cnt (zG (gN l a.id).text a.ops)=(totN (l.set (ndx a.id l) ⟨(gN l a.id).id,(gN l a.id).par,(gN l a.id).nm,(gN l a.id).dir,zG (gN l a.id).text a.ops⟩):Int):=by omega
 rw[e]
 split
 ·rfl
 ·unfold setT
  rw[if_pos h2]
  show (l.set (ndx a.id l) ⟨a.id,(gN l a.id).par,(gN l a.id).nm,(gN l a.id).dir,zG (gN l a.id).text a.ops⟩,(0:Int))=(l.set (ndx a.id l) ⟨(gN l a.id).id,(gN l a.id).par,(gN l a.id).nm,(gN l a.id).dir,zG (gN l a.id).text a.ops⟩,0)
  rw[h6.2]
theorem dot_eq (a:Ac):dotN l a=doN l a:=by
 unfold dotN
 by_cases h:a.k < 1∨a.k > 4
 ·rw[if_pos h,doN_k0 h]
 rw[if_neg h]
 by_cases h1:a.k=1
 ·rw[if_pos h1];exact cre_eq S h1
 rw[if_neg h1]
 by_cases h2:a.k=2
 ·rw[if_pos h2];exact rem_eq S h2
 rw[if_neg h2]
 by_cases h3:a.k=3
 ·rw[if_pos h3];exact mov_eq S h3
 rw[if_neg h3]
 exact edi_eq S (by omega)
end
end Go.Proofs
end
-- ETr12
section
namespace Go.Proofs
open Go Go.Rw
set_option maxRecDepth 100000
theorem done_ok {s:List UInt8} {l:List Cp} (h:errI s l=0):(pts (zG s l)).isSome=true∧cnt (zG s l)≤2000:=by
 obtain ⟨h1,h2,h3,h4⟩:=kE1 h
 obtain ⟨c1,c2,c3,c4,c5,c6⟩:=zS h1
 have hs:(pts s).isSome=true:=by rw[h2];rfl
 have hok:=kGc l (cpts s) (kBG hs).2 (kF9 c3)
 have e:zG s l=encs (doL (cpts s) l):=by unfold zG;rw[if_pos h]
 have ho:=kFP l (cpts s) 0 (by omega) h4 c6
 rw[e]
 refine ⟨by rw[kFM hok];rfl,?_⟩
 rw[kAb,cpts_enc hok]
 have c6':outF 0 l≤2000:=c6
 omega
theorem doN_err {l:List Nd} {a:Ac} (h:(doN l a).2≠0):(doN l a).1=l:=by
 by_cases h0:a.k < 1∨a.k > 4
 ·rw[doN_k0 h0]
 rcases (show a.k=1∨a.k=2∨a.k=3∨a.k=4 by omega) with hk|hk|hk|hk
 ·rw[doN_k1 hk]at h ⊢
  repeat' split
  all_goals first|rfl|simp_all
 ·rw[doN_k2 hk]at h ⊢
  repeat' split
  all_goals first|rfl|simp_all
 ·rw[doN_k3 hk]at h ⊢
  repeat' split
  all_goals first|rfl|simp_all
 ·rw[doN_k4 hk]at h ⊢
  repeat' split
  all_goals first|rfl|(exfalso;rename_i q1 q2 q3 q4;rw[if_neg q1,if_neg q2,if_neg q3,if_neg q4]at h;exact h rfl)
theorem kFK {l l':List Nd} (A:Int→Prop) (h1:∀ i,A i→pf l' i=pf l i) (h2:∀ i,A i→A (pf l i)):∀ (k:Nat) (i:Int),A i→upN l' k i=upN l k i
 | 0,i,_=>rfl
 | k+1,i,h=>by rw [upN,upN,h1 i h];exact kFK A h1 h2 k _ (h2 i h)
section
variable {l:List Nd} (S:sndN l) {a:Ac} (h0:(doN l a).2=0)
include S h0
theorem do_mem {x:Nd} (hx:x∈(doN l a).1):(x.id=a.id∧kDK a (atI a.id l)=some x)∨(x∈l∧x.id≠a.id):=by
 obtain ⟨d1,d2⟩:=kGB h0 S.srt
 have:=at_mem d1 hx
 rw[d2]at this
 split at this
 ·rename_i he
  rw[he]at this
  exact .inl ⟨he,this⟩
 ·exact .inr ⟨(at_some this).1,by assumption⟩
theorem do_pf {i:Int} (hi:i≠a.id):gN (doN l a).1 i=gN l i∧hasN (doN l a).1 i=hasN l i:=by
 obtain ⟨d1,d2⟩:=kGB h0 S.srt
 rw[gN_at,gN_at,kBc,kBc,d2,if_neg hi]
 exact ⟨rfl,rfl⟩
theorem snd_cre (hk:a.k=1):sndN (doN l a).1:=by
 obtain ⟨d1,d2⟩:=kGB h0 S.srt
 have dm:=fun x hx=>do_mem S h0 (x:=x) hx
 have dp:=fun i hi=>do_pf S h0 (i:=i) hi
 have hpos:∀ x∈l,1≤x.id:=fun x hx=>(S.node x hx).id.1
 have hst:kDK a (atI a.id l)=some ⟨a.id,a.par,a.nm,a.dir,[]⟩:=by unfold kDK;rw[if_pos hk]
 have hat:atI a.id (doN l a).1=some ⟨a.id,a.par,a.nm,a.dir,[]⟩:=by rw[d2,if_pos rfl,hst]
 have hdo:=doN_k1 (l:=l) hk
 rw[hdo]at h0
 split at h0
 ·simp at h0
 rename_i c1
 split at h0
 ·simp at h0
 rename_i c2
 split at h0
 ·rename_i c3;exact absurd h0 c3
 rename_i c3
 split at h0
 ·simp at h0
 rename_i c4
 rw[if_neg c1,if_neg c2,if_neg c3,if_neg c4]at hdo
 have c3:qZ l a.par a.nm 0=0:=Decidable.not_not.1 c3
 have hno:hasN l a.id=false:=by
  rcases Bool.eq_false_or_eq_true (hasN l a.id) with hh|hh
  ·exact absurd ((qI l a.id).1 hh) c2
  ·exact hh
 have c1a:1≤a.id∧a.id≤1099511627776:=by omega
 have c1b:qB a.nm=true:=by
  rcases Bool.eq_false_or_eq_true (qB a.nm) with hh|hh
  ·exact hh
  ·exact absurd (.inr (.inr hh)) c1
 have hd:dirI l a.par=0:=by
  refine Decidable.not_not.1 fun hc=>?_
  rw[kDT hc]at c3;exact hc c3
 rw[kDX hd,if_neg (show ¬ (a.par≠0∧(0:Int) > 0∧zO l a.par 0=true) by omega)]at c3
 have hkid:¬ 1≤kid a.par a.nm l:=fun hc=>by
  unfold kB6 at c3
  rw[if_pos (by omega)]at c3;omega
 obtain ⟨hin,hpd⟩:=dir_in hd
 have hinA:∀ i,inT l i→i≠a.id:=fun i hi=>by
  rcases hi with rfl|hi
  ·omega
  ·rintro rfl;rw[hno]at hi;cases hi
 have hup:∀ k i,inT l i→upN (doN l a).1 k i=upN l k i:=fun k i hi=>kFK (inT l) (fun i hi=>by unfold pf;rw[(dp i (hinA i hi)).1]) (fun i _=>pf_in S) k i hi
 refine ⟨d1,?_,?_,?_,?_,?_,?_⟩
 ·rw[hdo]
  have:=atN_le a.id l
  simp only[List.length_append,List.length_take,List.length_cons,List.length_drop]
  omega
 ·intro x hx
  rcases dm x hx with ⟨_,h⟩|⟨h,_⟩
  ·rw[hst]at h
   cases h
   exact ⟨c1a,c1b,fun _=>rfl,rfl,by simp[kAb,cpts_nil]⟩
  ·exact S.node x h
 ·rw[hdo]
  have e1:=kBj (l.take (atN a.id l)) (l.drop (atN a.id l))
  rw[List.take_append_drop]at e1
  have:=S.tot
  simp only[kBj,totN]
  have e2:cnt ([]:List UInt8)=0:=by simp[kAb,cpts_nil]
  omega
 ·intro x hx y hy hp hn
  rcases dm x hx with ⟨e1,h1⟩|⟨h1,_⟩<;>rcases dm y hy with ⟨e2,h2⟩|⟨h2,_⟩
  ·rw[e1,e2]
  ·rw[hst]at h1;cases h1
   exact absurd ⟨hp.symm,hn.symm⟩ (kBv hpos hkid y h2)
  ·rw[hst]at h2;cases h2
   exact absurd ⟨hp,hn⟩ (kBv hpos hkid x h1)
  ·exact S.sib x h1 y h2 hp hn
 ·intro x hx
  have key:∀ p,(p=0∨(hasN l p=true∧(gN l p).dir=true))→(p=0∨(hasN (doN l a).1 p=true∧(gN (doN l a).1 p).dir=true)):=fun p hp=>by
   rcases hp with hp|⟨h1,h2⟩
   ·exact .inl hp
   ·obtain ⟨q1,q2⟩:=dp p (hinA p (.inr h1))
    rw[q1,q2];exact .inr ⟨h1,h2⟩
  rcases dm x hx with ⟨_,h⟩|⟨h,_⟩
  ·rw[hst]at h;cases h
   exact key _ hpd
  ·exact key _ (S.par x h)
 ·intro x hx
  rcases dm x hx with ⟨e,h⟩|⟨h,_⟩
  ·obtain ⟨k,hk⟩:=rt_in S hin
   refine ⟨k+1,?_⟩
   rw[e,upN]
   have:pf (doN l a).1 a.id=a.par:=by unfold pf;rw[gN_at,hat];rfl
   rw[this,hup k _ hin,hk]
  ·obtain ⟨k,hk⟩:=S.rt x h
   exact ⟨k,by rw[hup k _ (.inr (kCC h)),hk]⟩
theorem snd_rem (hk:a.k=2):sndN (doN l a).1:=by
 obtain ⟨d1,d2⟩:=kGB h0 S.srt
 have dm:=fun x hx=>do_mem S h0 (x:=x) hx
 have dp:=fun i hi=>do_pf S h0 (i:=i) hi
 have hpos:∀ x∈l,1≤x.id:=fun x hx=>(S.node x hx).id.1
 have hst:kDK a (atI a.id l)=none:=by unfold kDK;rw[if_neg (by omega),if_pos hk]
 have hdo:=doN_k2 (l:=l) hk
 rw[hdo]at h0
 split at h0
 ·simp at h0
 rename_i c1
 split at h0
 ·simp at h0
 rename_i c2
 rw[if_neg c1,if_neg c2]at hdo
 have c1:=Decidable.not_not.1 c1
 obtain ⟨g1,g2⟩:=kAK ((qI l a.id).2 c1)
 have hid:=hpos _ g1
 rw[g2]at hid
 have hnp:∀ x∈l,x.par≠a.id:=fun x hx he=>c2 (List.any_eq_true.2 ⟨x,hx,by simpa using he⟩)
 have dm2:∀ x∈(doN l a).1,x∈l∧x.id≠a.id:=fun x hx=>by
  rcases dm x hx with ⟨_,h⟩|h
  ·rw[hst]at h;cases h
  ·exact h
 have hup:∀ k i,i≠a.id→upN (doN l a).1 k i=upN l k i:=fun k i hi=>kFK (fun i=>i≠a.id) (fun i hi=>by unfold pf;rw[(dp i hi).1]) (fun i _=>by
  rcases Bool.eq_false_or_eq_true (hasN l i) with hh|hh
  ·exact hnp _ (kAK hh).1
  ·rw[pf_no hh];omega) k i hi
 refine ⟨d1,?_,fun x hx=>S.node x (dm2 x hx).1,?_,fun x hx y hy=>S.sib x (dm2 x hx).1 y (dm2 y hy).1,?_,?_⟩
 ·rw[hdo]
  have:=S.len
  simp only[List.length_append,List.length_take,List.length_drop]
  omega
 ·rw[hdo]
  have e1:=kBj (l.take (ndx a.id l)) (l.drop (ndx a.id l))
  rw[List.take_append_drop,List.drop_eq_getElem_cons c1,totN]at e1
  have:=S.tot
  simp only[kBj]
  omega
 ·intro x hx
  have hx2:=(dm2 x hx).1
  rcases S.par x hx2 with hp|⟨h1,h2⟩
  ·exact .inl hp
  ·obtain ⟨q1,q2⟩:=dp _ (hnp x hx2)
   rw[q1,q2];exact .inr ⟨h1,h2⟩
 ·intro x hx
  obtain ⟨h1,h2⟩:=dm2 x hx
  obtain ⟨k,hk⟩:=S.rt x h1
  exact ⟨k,by rw[hup k _ h2,hk]⟩
theorem snd_mov (hk:a.k=3):sndN (doN l a).1:=by
 obtain ⟨d1,d2⟩:=kGB h0 S.srt
 have dm:=fun x hx=>do_mem S h0 (x:=x) hx
 have dp:=fun i hi=>do_pf S h0 (i:=i) hi
 have hpos:∀ x∈l,1≤x.id:=fun x hx=>(S.node x hx).id.1
 have hdo:=doN_k3 (l:=l) hk
 rw[hdo]at h0
 split at h0
 ·simp at h0
 rename_i c1
 split at h0
 ·simp at h0
 rename_i c2
 split at h0
 ·rename_i c3;exact absurd h0 c3
 rename_i c3
 rw[if_neg c1,if_neg c2,if_neg c3]at hdo
 have c3:qZ l a.par a.nm a.id=0:=Decidable.not_not.1 c3
 have c2:=Decidable.not_not.1 c2
 have c2h:=(qI l a.id).2 c2
 have c1b:qB a.nm=true:=by
  rcases Bool.eq_false_or_eq_true (qB a.nm) with hh|hh
  ·exact hh
  ·exact absurd hh c1
 obtain ⟨g1,g2⟩:=kAK c2h
 have hid:=hpos _ g1
 rw[g2]at hid
 have hat0:atI a.id l=some (gN l a.id):=by have:=at_mem S.srt g1;rwa [g2]at this
 have hst:kDK a (atI a.id l)=some ⟨(gN l a.id).id,a.par,a.nm,(gN l a.id).dir,(gN l a.id).text⟩:=by
  unfold kDK;rw[if_neg (by omega),if_neg (by omega),if_pos hk,hat0];rfl
 have hat:atI a.id (doN l a).1=some ⟨(gN l a.id).id,a.par,a.nm,(gN l a.id).dir,(gN l a.id).text⟩:=by rw[d2,if_pos rfl,hst]
 have hd:dirI l a.par=0:=by
  refine Decidable.not_not.1 fun hc=>?_
  rw[kDT hc]at c3;exact hc c3
 obtain ⟨hin,hpd⟩:=dir_in hd
 rw[kDX hd]at c3
 have hcy:¬ (a.par≠0∧a.id > 0∧zO l a.par a.id=true):=fun hc=>by rw[if_pos hc]at c3;omega
 rw[if_neg hcy]at c3
 have hkid:1≤kid a.par a.nm l→kid a.par a.nm l=a.id:=fun hc=>by
  unfold kB6 at c3
  refine Decidable.not_not.1 fun hne=>?_
  rw[if_pos ⟨by omega,hne⟩]at c3;omega
 have hnm:∀ k,upN l k a.par≠a.id:=fun k hc=>by
  by_cases hp0:a.par=0
  ·rw[hp0,kED S]at hc;omega
  ·exact hcy ⟨hp0,by omega,(kAf S hin (by omega)).2 ⟨k,hc⟩⟩
 have dh:∀ i,hasN (doN l a).1 i=hasN l i∧(gN (doN l a).1 i).dir=(gN l i).dir:=fun i=>by
  by_cases hi:i=a.id
  ·rw[hi,kBc,kBc,gN_at,hat,hat0]
   exact ⟨rfl,rfl⟩
  ·obtain ⟨q1,q2⟩:=dp i hi
   rw[q1,q2];exact ⟨rfl,rfl⟩
 have hpf:pf (doN l a).1 a.id=a.par:=by unfold pf;rw[gN_at,hat];rfl
 -- from the new parent on the way is as it was
 have hup:∀ k,upN (doN l a).1 k a.par=upN l k a.par:=fun k =>
  kFK (fun i=>∃ j,i=upN l j a.par) (fun i hi=>by
   obtain ⟨j,rfl⟩:=hi
   unfold pf;rw[(dp _ (hnm j)).1]) (fun i hi=>by
   obtain ⟨j,rfl⟩:=hi
   exact ⟨j+1,(up_succ l j a.par).symm⟩) k a.par ⟨0,rfl⟩
 have hrt:∀ k i,upN l k i=0→∃ k',upN (doN l a).1 k' i=0:=fun k=>by
  induction k with
  | zero=>intro i hi;exact ⟨0,hi⟩
  | succ k ih =>
    intro i hi
    by_cases he:i=a.id
    ·obtain ⟨m,hm⟩:=rt_in S hin
     exact ⟨m+1,by rw[he,upN,hpf,hup,hm]⟩
    ·obtain ⟨m,hm⟩:=ih (pf l i) hi
     exact ⟨m+1,by rw[upN];unfold pf at hm ⊢;rw[(dp i he).1];exact hm⟩
 refine ⟨d1,?_,?_,?_,?_,?_,?_⟩
 ·rw[hdo]
  have:=S.len
  simpa using this
 ·intro x hx
  rcases dm x hx with ⟨_,h⟩|⟨h,_⟩
  ·rw[hst]at h;cases h
   have:=S.node _ g1
   exact ⟨this.id,c1b,this.dir,this.valid,this.cnt⟩
  ·exact S.node x h
 ·rw[hdo]
  have:=tot_set l (ndx a.id l) c2 ⟨(gN l a.id).id,a.par,a.nm,(gN l a.id).dir,(gN l a.id).text⟩
  obtain ⟨_,g4,_⟩:=kCY c2h
  rw[← g4]at this
  have:=S.tot
  simp only at *
  omega
 ·have key:∀ y∈l,y.id≠a.id→¬ (y.par=a.par∧y.nm=a.nm):=fun y hy hne hc=>by
    by_cases hk1:1≤kid a.par a.nm l
    ·obtain ⟨x,hx,h1,h2,h3⟩:=kid_iff hpos hid (hkid hk1)
     have:=S.sib x hx y hy (h1.trans hc.1.symm) (h2.trans hc.2.symm)
     omega
    ·exact kBv hpos hk1 y hy hc
  intro x hx y hy hp hn
  rcases dm x hx with ⟨e1,h1⟩|⟨h1,n1⟩<;>rcases dm y hy with ⟨e2,h2⟩|⟨h2,n2⟩
  ·rw[e1,e2]
  ·rw[hst]at h1;cases h1
   exact absurd ⟨hp.symm,hn.symm⟩ (key y h2 n2)
  ·rw[hst]at h2;cases h2
   exact absurd ⟨hp,hn⟩ (key x h1 n1)
  ·exact S.sib x h1 y h2 hp hn
 ·intro x hx
  have k2:∀ p,(p=0∨(hasN l p=true∧(gN l p).dir=true))→(p=0∨(hasN (doN l a).1 p=true∧(gN (doN l a).1 p).dir=true)):=fun p hp=>by
   rw[(dh p).1,(dh p).2];exact hp
  rcases dm x hx with ⟨_,h⟩|⟨h,_⟩
  ·rw[hst]at h;cases h
   exact k2 _ hpd
  ·exact k2 _ (S.par x h)
 ·intro x hx
  rcases dm x hx with ⟨e,_⟩|⟨h,_⟩
  ·obtain ⟨m,hm⟩:=rt_in S hin
   exact ⟨m+1,by rw[e,upN,hpf,hup,hm]⟩
  ·obtain ⟨k,hk⟩:=S.rt x h
   exact hrt k _ hk
theorem snd_edi (hk:a.k=4):sndN (doN l a).1:=by
 obtain ⟨d1,d2⟩:=kGB h0 S.srt
 have dm:=fun x hx=>do_mem S h0 (x:=x) hx
 have dp:=fun i hi=>do_pf S h0 (i:=i) hi
 have hdo:=doN_k4 (l:=l) hk
 rw[hdo]at h0
 split at h0
 ·simp at h0
 rename_i c1
 split at h0
 ·simp at h0
 rename_i c2
 split at h0
 ·rename_i c3;exact absurd h0 c3
 rename_i c3
 split at h0
 ·simp at h0
 rename_i c4
 rw[if_neg c1,if_neg c2,if_neg c3,if_neg c4]at hdo
 have c1:=Decidable.not_not.1 c1
 have c1h:=(qI l a.id).2 c1
 obtain ⟨v1,v2⟩:=done_ok (Decidable.not_not.1 c3)
 obtain ⟨g1,g2⟩:=kAK c1h
 have hat0:atI a.id l=some (gN l a.id):=by have:=at_mem S.srt g1;rwa [g2]at this
 have hst:kDK a (atI a.id l)=some ⟨(gN l a.id).id,(gN l a.id).par,(gN l a.id).nm,(gN l a.id).dir,zG (gN l a.id).text a.ops⟩:=by
  unfold kDK;rw[if_neg (by omega),if_neg (by omega),if_neg (by omega),hat0];rfl
 have hat:atI a.id (doN l a).1=some ⟨(gN l a.id).id,(gN l a.id).par,(gN l a.id).nm,(gN l a.id).dir,zG (gN l a.id).text a.ops⟩:=by rw[d2,if_pos rfl,hst]
 have dh:∀ i,hasN (doN l a).1 i=hasN l i∧(gN (doN l a).1 i).dir=(gN l i).dir∧(gN (doN l a).1 i).par=(gN l i).par:=fun i=>by
  by_cases hi:i=a.id
  ·rw[hi,kBc,kBc,gN_at,hat,hat0]
   exact ⟨rfl,rfl,rfl⟩
  ·obtain ⟨q1,q2⟩:=dp i hi
   rw[q1,q2];exact ⟨rfl,rfl,rfl⟩
 have hup:∀ k i,upN (doN l a).1 k i=upN l k i:=fun k i=>kFK (fun _=>True) (fun i _=>(dh i).2.2) (fun _ _=>trivial) k i trivial
 -- each node's like in the tree as it was
 have like:∀ x∈(doN l a).1,∃ y∈l,y.id=x.id∧y.par=x.par∧y.nm=x.nm∧y.dir=x.dir:=fun x hx=>by
  rcases dm x hx with ⟨_,h⟩|⟨h,_⟩
  ·rw[hst]at h;cases h
   exact ⟨_,g1,rfl,rfl,rfl,rfl⟩
  ·exact ⟨x,h,rfl,rfl,rfl,rfl⟩
 refine ⟨d1,?_,?_,?_,?_,?_,?_⟩
 ·rw[hdo]
  have:=S.len
  simpa using this
 ·intro x hx
  rcases dm x hx with ⟨_,h⟩|⟨h,_⟩
  ·rw[hst]at h;cases h
   have:=S.node _ g1
   exact ⟨this.id,this.nm,fun hd=>absurd hd c2,v1,v2⟩
  ·exact S.node x h
 ·rw[hdo];simp only;omega
 ·intro x hx y hy hp hn
  obtain ⟨x',hx',e1,e2,e3,_⟩:=like x hx
  obtain ⟨y',hy',e5,e6,e7,_⟩:=like y hy
  rw[← e1,← e5]
  exact S.sib x' hx' y' hy' (by rw[e2,e6,hp]) (by rw[e3,e7,hn])
 ·intro x hx
  obtain ⟨x',hx',e1,e2,e3,_⟩:=like x hx
  rw[← e2,(dh _).1,(dh _).2.1]
  exact S.par x' hx'
 ·intro x hx
  obtain ⟨x',hx',e1,_⟩:=like x hx
  obtain ⟨k,hk⟩:=S.rt x' hx'
  exact ⟨k,by rw[hup,← e1,hk]⟩
omit h0 in
theorem snd_do (a:Ac):sndN (doN l a).1:=by
 by_cases h0:(doN l a).2=0
 ·by_cases hk:a.k < 1∨a.k > 4
  ·rw[doN_k0 hk];exact S
  rcases (show a.k=1∨a.k=2∨a.k=3∨a.k=4 by omega) with hk|hk|hk|hk
  ·exact snd_cre S h0 hk
  ·exact snd_rem S h0 hk
  ·exact snd_mov S h0 hk
  ·exact snd_edi S h0 hk
 ·rw[doN_err h0];exact S
end
end Go.Proofs
end
-- ETr13
section
namespace Go.Proofs
open Go Go.Rw
set_option maxRecDepth 100000
theorem kBd {t:List UInt8} (h:(pts t).isSome=true):t.length≤4 * cnt t:=by
 rw[kAb]
 have:=kBY (cs:=cpts t)
 rwa [(kBG h).1]at this
theorem kA0 {l:List Nd} (S:sndN l):trOk l:=by
 have hl:=S.len
 refine ⟨⟨by omega,fun x hx=>?_⟩,fun x hx=>(S.node x hx).id.1,?_,fun x hx=>?_⟩
 ·have:=(S.node x hx).id;omega
 ·have:=S.tot;omega
 ·have:=kBd (S.node x hx).valid
  have:=(S.node x hx).cnt;omega
theorem snd_doOk {l:List Nd} (S:sndN l) {a:Ac} (ho:okA a):doOk l a:=⟨kA0 S,snd_rt S,ho.2,ho.1⟩
end Go.Proofs
end
-- ETrS
section
namespace Go.Proofs
open Go.Shelf
def Tryz.lays146_ren:Go.Shelf.Ren:=⟨fun|138=>131|143=>132|146=>75|195=>115|197=>160|217=>176|218=>161|219=>162|221=>108|224=>178|225=>177|260=>175|266=>182|267=>179|268=>130|314=>183|n=>n,fun|0=>0|3=>3|4=>4|5=>5|9=>9|21=>21|31=>53|46=>143|51=>167|105=>181|119=>192|138=>194|139=>195|146=>202|n=>n,fun|1=>2|3=>0|4=>1|n=>n⟩
theorem Tryz.lays146:Go.Proofs.Lays.n146 Tryz.prog Tryz.lays146_ren:={
 mixed:=by kernel_rfl
 f138:=Tryz.func131.trans (congrArg some (by kernel_rfl))
 f143:=Tryz.func132.trans (congrArg some (by kernel_rfl))
 f146:=Tryz.func75.trans (congrArg some (by kernel_rfl))
 f195:=Tryz.func115.trans (congrArg some (by kernel_rfl))
 f197:=Tryz.func160.trans (congrArg some (by kernel_rfl))
 f217:=Tryz.func176.trans (congrArg some (by kernel_rfl))
 f218:=Tryz.func161.trans (congrArg some (by kernel_rfl))
 f219:=Tryz.func162.trans (congrArg some (by kernel_rfl))
 f221:=Tryz.func108.trans (congrArg some (by kernel_rfl))
 f224:=Tryz.func178.trans (congrArg some (by kernel_rfl))
 f225:=Tryz.func177.trans (congrArg some (by kernel_rfl))
 f260:=Tryz.func175.trans (congrArg some (by kernel_rfl))
 f266:=Tryz.func182.trans (congrArg some (by kernel_rfl))
 f267:=Tryz.func179.trans (congrArg some (by kernel_rfl))
 f268:=Tryz.func130.trans (congrArg some (by kernel_rfl))
 f314:=Tryz.func183.trans (congrArg some (by kernel_rfl))
 t0:=Tryz.underlying0
 a0:=Tryz.isAgg0
 z0:=Tryz.sizeOf0
 v0:=Tryz.zeroValue0
 t3:=Tryz.underlying3
 a3:=Tryz.isAgg3
 z3:=Tryz.sizeOf3
 v3:=Tryz.zeroValue3
 t4:=Tryz.underlying4
 a4:=Tryz.isAgg4
 z4:=Tryz.sizeOf4
 v4:=Tryz.zeroValue4
 t5:=Tryz.underlying5
 a5:=Tryz.isAgg5
 z5:=Tryz.sizeOf5
 v5:=Tryz.zeroValue5
 t9:=Tryz.underlying9
 a9:=Tryz.isAgg9
 z9:=Tryz.sizeOf9
 v9:=Tryz.zeroValue9
 t21:=Tryz.underlying21
 a21:=Tryz.isAgg21
 z21:=Tryz.sizeOf21
 v21:=Tryz.zeroValue21
 t31:=Tryz.underlying53
 a31:=Tryz.isAgg53
 z31:=Tryz.sizeOf53
 v31:=Tryz.zeroValue53
 t46:=Tryz.underlying143
 a46:=Tryz.isAgg143
 z46:=Tryz.sizeOf143
 v46:=Tryz.zeroValue143
 t51:=Tryz.underlying167
 a51:=Tryz.isAgg167
 z51:=Tryz.sizeOf167
 v51:=Tryz.zeroValue167
 t105:=Tryz.underlying181
 a105:=Tryz.isAgg181
 z105:=Tryz.sizeOf181
 v105:=Tryz.zeroValue181
 t119:=Tryz.underlying192
 a119:=Tryz.isAgg192
 z119:=Tryz.sizeOf192
 t138:=Tryz.underlying194
 a138:=Tryz.isAgg194
 z138:=Tryz.sizeOf194
 v138:=Tryz.zeroValue194
 t139:=Tryz.underlying195
 a139:=Tryz.isAgg195
 z139:=Tryz.sizeOf195
 v139:=Tryz.zeroValue195
 t146:=Tryz.underlying202
 a146:=Tryz.isAgg202
 z146:=Tryz.sizeOf202
 v146:=Tryz.zeroValue202
 g1:=by kernel_rfl
 g3:=by kernel_rfl
 g4:=by kernel_rfl
}
def Tryz.lays156_ren:Go.Shelf.Ren:=⟨fun|156=>74|165=>105|166=>106|169=>107|240=>128|241=>129|276=>158|277=>159|n=>n,fun|0=>0|3=>3|4=>4|5=>5|9=>9|20=>20|31=>53|37=>109|70=>130|72=>132|75=>135|76=>136|80=>138|127=>157|164=>178|n=>n,fun|n=>n⟩
theorem Tryz.lays156:Go.Proofs.Lays.n156 Tryz.prog Tryz.lays156_ren:={
 mixed:=by kernel_rfl
 f156:=Tryz.func74.trans (congrArg some (by kernel_rfl))
 f165:=Tryz.func105.trans (congrArg some (by kernel_rfl))
 f166:=Tryz.func106.trans (congrArg some (by kernel_rfl))
 f169:=Tryz.func107.trans (congrArg some (by kernel_rfl))
 f240:=Tryz.func128.trans (congrArg some (by kernel_rfl))
 f241:=Tryz.func129.trans (congrArg some (by kernel_rfl))
 f276:=Tryz.func158.trans (congrArg some (by kernel_rfl))
 f277:=Tryz.func159.trans (congrArg some (by kernel_rfl))
 t0:=Tryz.underlying0
 a0:=Tryz.isAgg0
 z0:=Tryz.sizeOf0
 v0:=Tryz.zeroValue0
 t3:=Tryz.underlying3
 a3:=Tryz.isAgg3
 z3:=Tryz.sizeOf3
 v3:=Tryz.zeroValue3
 t4:=Tryz.underlying4
 a4:=Tryz.isAgg4
 z4:=Tryz.sizeOf4
 v4:=Tryz.zeroValue4
 t9:=Tryz.underlying9
 a9:=Tryz.isAgg9
 z9:=Tryz.sizeOf9
 v9:=Tryz.zeroValue9
 t20:=Tryz.underlying20
 a20:=Tryz.isAgg20
 z20:=Tryz.sizeOf20
 v20:=Tryz.zeroValue20
 t31:=Tryz.underlying53
 a31:=Tryz.isAgg53
 z31:=Tryz.sizeOf53
 v31:=Tryz.zeroValue53
 t37:=Tryz.underlying109
 a37:=Tryz.isAgg109
 z37:=Tryz.sizeOf109
 v37:=Tryz.zeroValue109
 t70:=Tryz.underlying130
 a70:=Tryz.isAgg130
 z70:=Tryz.sizeOf130
 v70:=Tryz.zeroValue130
 t72:=Tryz.underlying132
 a72:=Tryz.isAgg132
 z72:=Tryz.sizeOf132
 v72:=Tryz.zeroValue132
 t75:=Tryz.underlying135
 a75:=Tryz.isAgg135
 z75:=Tryz.sizeOf135
 v75:=Tryz.zeroValue135
 t76:=Tryz.underlying136
 a76:=Tryz.isAgg136
 z76:=Tryz.sizeOf136
 v76:=Tryz.zeroValue136
 t127:=Tryz.underlying157
 a127:=Tryz.isAgg157
 z127:=Tryz.sizeOf157
 v127:=Tryz.zeroValue157
 t164:=Tryz.underlying178
 a164:=Tryz.isAgg178
 z164:=Tryz.sizeOf178
 v164:=Tryz.zeroValue178
}
def Tryz.revS_ren:Go.Shelf.Ren:=⟨fun|17=>73|n=>n,fun|0=>0|3=>3|4=>4|9=>9|24=>53|n=>n,fun n=>n⟩
theorem Tryz.revS:Lays2.n17 Tryz.prog Tryz.revS_ren:={
 mixed:=by kernel_rfl
 f17:=Tryz.func73.trans (congrArg some (by kernel_rfl))
 t0:=Tryz.underlying0
 a0:=Tryz.isAgg0
 z0:=Tryz.sizeOf0
 v0:=Tryz.zeroValue0
 t3:=Tryz.underlying3
 a3:=Tryz.isAgg3
 z3:=Tryz.sizeOf3
 v3:=Tryz.zeroValue3
 t4:=Tryz.underlying4
 a4:=Tryz.isAgg4
 z4:=Tryz.sizeOf4
 v4:=Tryz.zeroValue4
 t9:=Tryz.underlying9
 a9:=Tryz.isAgg9
 z9:=Tryz.sizeOf9
 v9:=Tryz.zeroValue9
 t24:=Tryz.underlying53
 a24:=Tryz.isAgg53
 z24:=Tryz.sizeOf53
 v24:=Tryz.zeroValue53
}
theorem Tryz.builderX:Builder.Extra Tryz.prog Tryz.lays156_ren where
 sizeBuilder:=by kernel_rfl
 liesBuilder:=by kernel_rfl
 t5:=Tryz.underlying5
 a5:=Tryz.isAgg5
 z5:=Tryz.sizeOf5
 v5:=Tryz.zeroValue5
 infoByte:=by kernel_rfl
 cellsByte:=by kernel_rfl
 sizeByte:=by kernel_rfl
 neB5:=by decide
end Go.Proofs
namespace Go.Proofs
open Go Go.Rw
theorem sjoin_good [Tabs]:Rw.Good Tryz.prog 74 kFj:=join_good Tryz.lays156 Tryz.builderX rfl
section
variable [Tabs] {Γ:Env} {σ:AS} {d:Option Nat} {K:AS→Prop}
theorem call_join (hf:Γ.get 74=some kFj) {dr:Bool} {l:List (List UInt8)} {t1:Nat} {xs:List AV} {sep:List UInt8} (hx:xs=qX l) (hl:l.length≤1000000) (hj:(Lib.join l sep).length≤1099511627776)
    (hk:cont σ d (.v (sv (Lib.join l sep))) K):kT Tryz.prog Γ dr σ 74 [.sl t1 1 xs,.v (sv sep)] d K:=by
 subst hx
 exact kO (C:=kFj) (i:=⟨(l,sep),hl,hj⟩) hf rfl rfl rfl (by simp only[AV.erL,AV.er]) (fun _ h=>h) rfl hk
theorem call_split (hC:Γ.get 75=none) {s:List UInt8} {x:UInt8} (hs:s.length < 4000000000)
    (hk:cont σ d (.sl 0 1 (qX (kAu x s))) K):kT Tryz.prog Γ false σ 75 [.v (sv s),.v (sv [x])] d K :=
 j6 hC (split_raw Tryz.lays146 (by kernel_rfl) rfl hs hk)
theorem call_revS (hC:Γ.get 73=none) {l e:Nat} {xs:List (List UInt8)} {ys:List AV} (hy:ys=qX xs) (hl2:2≤l) (hxl:xs.length≤1000000000) (hlv:σ.m.lv l=some (xs.length,e)) (hmu:σ.m.mu=true)
    (hk0:xs=[]→cont σ d (.tup []) K) (hk1:cont (σ.turned l xs.length (qX xs.reverse)) d (.tup []) K):kT Tryz.prog Γ false σ 73 [.sl l 1 ys] d K:=by
 subst hy
 exact j6 hC (revS_raw Tryz.revS rfl hl2 hxl hlv hmu hk0 hk1)
end
end Go.Proofs
end
-- ETr27
section
namespace Go.Proofs
open Go Go.Rw
set_option maxRecDepth 100000
def ups (l:List Nd):Nat→Int→List (List UInt8)
 | 0,_=>[]
 | k+1,i=>if i=0 then [] else (gN l i).nm::ups l k (pf l i)
theorem ups_len (l:List Nd):∀ k i,(ups l k i).length≤k
 | 0,_=>Nat.le_refl _
 | k+1,i=>by
   rw[ups]
   split
   ·simp
   ·have:=ups_len l k (pf l i);simp;omega
def kCT (l:List Nd) (i:Int):List UInt8:=Lib.join (ups l l.length i).reverse [47]
open Classical in
noncomputable def inB (l:List Nd) (i:Int):Bool:=decide (inT l i)
theorem in_no {l:List Nd} {i:Int} (h:¬ inT l i):inB l i=false:=by unfold inB;simp[h]
theorem in_yes {l:List Nd} {i:Int} (h:inT l i):inB l i=true:=by unfold inB;simp[h]
noncomputable def pathR (l:List Nd) (i:Int):AV:=.tup [.v (sv (if inB l i=true then kCT l i else [])),.v (.bool (inB l i))]
theorem pathR_no {l:List Nd} {i:Int} (h:¬ inT l i):pathR l i = .tup [.v (sv []),.v (.bool false)]:=by unfold pathR;rw[in_no h];rfl
theorem kBB {l:List Nd} {i:Int} (h:inT l i):pathR l i = .tup [.v (sv (kCT l i)),.v (.bool true)]:=by unfold pathR;rw[in_yes h];rfl
theorem joinL_le {c:UInt8} {n:Nat}:∀ {l:List (List UInt8)},(∀ x∈l,x.length≤n)→(Lib.join l [c]).length≤(n+1) * l.length
 | [],_=>by simp [Lib.join_nil]
 | x::r,h=>by
   rw[Lib.join_length]
   have h1:=h x (List.mem_cons_self ..)
   have:∀ {r:List (List UInt8)},(∀ y∈r,y.length≤n)→Lib.lens r≤n * r.length:=fun {r}=>by
    induction r with
    | nil=>intro _;simp [Lib.lens]
    | cons y r ih =>
      intro h
      have h2:=ih fun z hz=>h z (List.mem_cons_of_mem _ hz)
      have h3:=h y (List.mem_cons_self ..)
      unfold Lib.lens at h2 ⊢
      rw[List.map_cons,List.sum_cons,List.length_cons,Nat.mul_add];omega
   have h2:=this fun z hz=>h z (List.mem_cons_of_mem _ hz)
   have e1:Lib.lens (x::r)=x.length+Lib.lens r:=by simp[Lib.lens]
   have e2:(n+1) * (r.length+1)=n * r.length+n+r.length+1:=by rw[Nat.add_mul,Nat.mul_add];omega
   rw[e1]
   simp only[List.length_cons,List.length_nil]at *
   rw[e2]
   omega
theorem kDz {nm:List UInt8} (h:qB nm=true):nm.length≤20∧1≤nm.length:=by
 unfold qB at h
 simp only[Bool.and_eq_true,decide_eq_true_eq]at h
 omega
theorem kCw {l:List Nd} (S:sndN l):∀ k i,inT l i→∀ x∈ups l k i,qB x=true
 | 0,_,_,x,hx=>by cases hx
 | k+1,i,hi,x,hx=>by
   rw[ups]at hx
   split at hx
   ·cases hx
   ·rename_i h0
    rcases List.mem_cons.1 hx with rfl|hx
    ·rcases hi with hi|hi
     ·exact absurd hi h0
     ·exact (S.node _ (kAK hi).1).nm
    ·exact kCw S k _ (pf_in S) x hx
abbrev tpathCon:ConO where
 ι:={ p:Option TS×Int // ∀ s,p.1=some s→sndN s.l }
 objs:=fun p=>tsO p.1.1
 args:=fun p=>[tsA p.1.1,.v (.int .i64 p.1.2)]
 post:=fun p objs lvs r=>objs=tsO p.1.1∧lvs=[]∧r=match p.1.1 with
  | none=>.tup [.v (sv []),.v (.bool false)]
  | some s=>pathR s.l p.1.2
set_option maxHeartbeats 1000000 in
theorem kGd:jB Tryz.prog 24 tpathCon:=by
 have hΓ:kL Tryz.prog [(74,kFj)]:=(kJ sjoin_good kK)
 refine qG (nn:=35) Tryz.func24 (by kernel_rfl) rfl (show Tryz.f24.results.toList=[.tmp 4,.tmp 5] from rfl) (fun _=>rfl) ?_
 rintro ⟨⟨s,id⟩,hS⟩
 simp only at hS
 refine qP hΓ (Ws:=[]) _ ?_
 cases s with
 | none =>
   simp only[aR,seval,kA,kB,kD]
   refine kU [] [] [] [] (.tup [.v (sv []),.v (.bool false)]) ⟨rfl,rfl,rfl⟩ ?_
   simp only[aR,seval,kA,kB,kD]<;>((repeat' apply And.intro)<;>first|rfl|omega|trivial)
 | some s =>
   have hS:=hS s rfl
   have e1:=kAp s.h
   have hl:=hS.len
   simp only[aR,seval,kA,kB,kD]
   by_cases hin:inT s.l id
   case neg =>
    have h0:¬ id=0:=fun hc=>hin (.inl hc)
    have hh:hasN s.l id=false:=by
     rcases Bool.eq_false_or_eq_true (hasN s.l id) with hc|hc
     ·exact absurd (.inr hc) hin
     ·exact hc
    obtain ⟨St,hSt⟩:∃ St:Unit→AS,∀ i,St i=AS.ofH 35 [(0,.ptr 0 0),(1,.v (.int .i64 id))] [(0,.ptr 0 0),(1,.mp 1)] (tsO (some s)) []:=⟨_,fun _=>rfl⟩
    refine kAd ?_
    refine zQ [] hΓ St (fun _=>0) () (by rw[hSt];refine qA [0,1] [] ?_;simp only[aR,seval,kA,kB,kD]<;>((repeat' apply And.intro)<;>first|rfl|omega|trivial)) ?_
    rintro ⟨⟩
    rw[hSt]
    simp only[aR,seval,kA,kB,kD,h0,e1,hh,nA]
    (repeat (with_reducible refine And.intro ?_ ?_;focus (first|omega|exact kE|kernel_rfl)))
    refine kU [0,1] [] (tsO (some s)) [] (.tup [.v (sv []),.v (.bool false)]) ⟨rfl,rfl,(pathR_no hin).symm⟩ ?_
    simp only[aR,seval,kA,kB,kD]<;>((repeat' apply And.intro)<;>first|rfl|omega|trivial)
   obtain ⟨St,hSt⟩:∃ St:{ p:Nat×Int×List (List UInt8) // upN s.l p.1 p.2.1=0∧inT s.l p.2.1∧p.2.2++ups s.l p.1 p.2.1=ups s.l s.l.length id }→AS,∀ p,St p=AS.ofH 35 [(0,.ptr 0 0),(1,.v (.int .i64 p.1.2.1)),(6,.sl 2 1 (qX p.1.2.2))] [(0,.ptr 0 0),(1,.mp 1)] (tsO (some s)) [(p.1.2.2.length,9)]:=⟨_,fun _=>rfl⟩
   refine kAd ?_
   refine zQ [] hΓ St (fun p=>p.1.1) ⟨(s.l.length,id,[]),kEN hS hin,hin,rfl⟩ (by rw[hSt];refine qA [0,1] [.nil 1] ?_;simp only[aR,seval,kA,kB,kD,qX,List.map_nil]<;>((repeat' apply And.intro)<;>first|rfl|omega|trivial)) ?_
   rintro ⟨⟨k,x,acc⟩,hu,hix,ha⟩
   simp only at hu hix ha
   have hal:acc.length≤s.l.length:=by
    have h1:=ups_len s.l s.l.length id
    rw[← ha,List.length_append]at h1;omega
   rw[hSt]
   simp only
   simp only[aR,seval,kA,kB,kD]
   by_cases hx:x=0
   case neg =>
    have hh:hasN s.l x=true:=hix.resolve_left hx
    have e4:qX (acc++[(gN s.l x).nm])=qX acc++[.v (sv (gN s.l x).nm)]:=by simp[qX]
    cases k with
    | zero=>exact absurd hu hx
    | succ k =>
      rw[ups,if_neg hx]at ha
      simp only[aR,seval,kA,kB,kD,hx,e1,hh,nA,zL]
      (repeat (with_reducible refine And.intro ?_ ?_;focus (first|omega|exact kE|kernel_rfl)))
      refine kP ⟨(k,pf s.l x,acc++[(gN s.l x).nm]),hu,pf_in hS,by rw[List.append_assoc];exact ha⟩ (by simp only;omega) ?_
      rw[hSt];refine qA [0,1] [.live 2] ?_
      simp only[aR,seval,kA,kB,kD,e4,zL,List.length_append,pf]<;>((repeat' apply And.intro)<;>first|rfl|omega|trivial)
   subst hx
   have ha2:acc=ups s.l s.l.length id:=by
    rw[← ha]
    cases k<;>simp[ups]
   have hnm:=fun z hz=>(kDz (kCw hS s.l.length id hin z hz)).1
   rw[← ha2]at hnm
   have hpa:kCT s.l id=Lib.join acc.reverse [47]:=by rw[kCT,← ha2]
   have hjl:=joinL_le (c:=47) (n:=20) (l:=acc.reverse) fun z hz=>hnm z (List.mem_reverse.1 hz)
   rw[List.length_reverse]at hjl
   simp only[aR,seval,kA,kB,kD]
   refine call_revS (l:=2) (e:=9) (by simp[kF,kM]) rfl (by omega) (by omega) (by simp) rfl ?_ ?_
   ·intro h0
    simp only[aR,seval,kA,kB,kD]
    (repeat (with_reducible refine And.intro ?_ ?_;focus (first|omega|exact kE|kernel_rfl)))
    refine call_join (l:=acc.reverse) (by simp[kF]) (by rw[h0];rfl) (by rw[List.length_reverse];omega) (by omega) ?_
    simp only[aR,seval,kA,kB,kD]
    refine kU [0,1] [] (tsO (some s)) [] (.tup [.v (sv (Lib.join acc.reverse [47])),.v (.bool true)]) ⟨rfl,rfl,by rw[← hpa];exact (kBB hin).symm⟩ ?_
    simp only[aR,seval,kA,kB,kD]<;>((repeat' apply And.intro)<;>first|rfl|omega|trivial)
   ·simp only[aR,seval,kA,kB,kD,zL]
    (repeat (with_reducible refine And.intro ?_ ?_;focus (first|omega|exact kE|kernel_rfl)))
    refine call_join (l:=acc.reverse) (by simp[kF]) rfl (by rw[List.length_reverse];omega) (by omega) ?_
    simp only[aR,seval,kA,kB,kD]
    refine kU [0,1] [] (tsO (some s)) [] (.tup [.v (sv (Lib.join acc.reverse [47])),.v (.bool true)]) ⟨rfl,rfl,by rw[← hpa];exact (kBB hin).symm⟩ ?_
    simp only[aR,seval,kA,kB,kD]<;>((repeat' apply And.intro)<;>first|rfl|omega|trivial)
end Go.Proofs
end
-- ETr28
section
namespace Go.Proofs
open Go Go.Rw
set_option maxRecDepth 100000
def kCz (l:List Nd):List (List UInt8)→Int→Option Int
 | [],i=>some i
 | n::r,i=>if 0 < kid i n l then kCz l r (kid i n l) else none
def kEV (l:List Nd) (p:List UInt8):Option Int:=if p=[] then some 0 else kCz l (kAu 47 p) 0
def optR:Option Int→AV
 | some i=>.tup [.v (.int .i64 i),.v (.bool true)]
 | none=>.tup [.v (.int .i64 0),.v (.bool false)]
theorem cuts_len (c:UInt8) (s:List UInt8):(kAu c s).length≤s.length+1:=by
 have h:=Lib.splitB_length_le ⟨#[c]⟩ 0 (Lib.countB ⟨s.toArray⟩ ⟨#[c]⟩) ⟨s.toArray⟩
 have h2:=Lib.countB_le ⟨#[c]⟩ (Nat.le_refl _) _ ⟨s.toArray⟩ (Nat.le_refl _)
 have e:(Lib.splitB ⟨#[c]⟩ 0 (Lib.countB ⟨s.toArray⟩ ⟨#[c]⟩) ⟨s.toArray⟩).length=(kAu c s).length:=by
  rw[← List.length_map (f:=(·.data.toList)),Lib.splitB_data];rfl
 have e2:(ByteArray.mk s.toArray).size=s.length:=by simp[ByteArray.size]
 omega
abbrev tfindCon:ConO where
 ι:={ p:Option TS×List UInt8 // (∀ s,p.1=some s→trOk s.l)∧p.2.length≤1000000 }
 objs:=fun p=>tsO p.1.1
 args:=fun p=>[tsA p.1.1,.v (sv p.1.2)]
 post:=fun p objs lvs r=>objs=tsO p.1.1∧lvs=[]∧r=match p.1.1 with
  | none=>.tup [.v (.int .i64 0),.v (.bool false)]
  | some s=>optR (kEV s.l p.1.2)
set_option maxHeartbeats 1000000 in
theorem kGe:jB Tryz.prog 25 tfindCon:=by
 have hΓ:kL Tryz.prog []:=kK
 refine qG (nn:=30) Tryz.func25 (by kernel_rfl) rfl (show Tryz.f25.results.toList=[.tmp 4,.tmp 5] from rfl) (fun _=>rfl) ?_
 rintro ⟨⟨s,p⟩,hT,hp⟩
 simp only at hT hp
 refine qP hΓ (Ws:=[]) _ ?_
 cases s with
 | none =>
   simp only[aR,seval,kA,kB,kD]
   refine kU [] [] [] [] (.tup [.v (.int .i64 0),.v (.bool false)]) ⟨rfl,rfl,rfl⟩ ?_
   simp only[aR,seval,kA,kB,kD]<;>((repeat' apply And.intro)<;>first|rfl|omega|trivial)
 | some s =>
   obtain ⟨hi,hpos,hw⟩:=hT s rfl
   simp only[aR,seval,kA,kB,kD]
   by_cases h0:p=[]
   ·subst h0
    simp only[aR,seval,kA,kB,kD]
    refine kU [0,1] [] (tsO (some s)) [] (.tup [.v (.int .i64 0),.v (.bool true)]) ⟨rfl,rfl,rfl⟩ ?_
    simp only[aR,seval,kA,kB,kD]<;>((repeat' apply And.intro)<;>first|rfl|omega|trivial)
   have e0:kEV s.l p=kCz s.l (kAu 47 p) 0:=by unfold kEV;rw[if_neg h0]
   have hcl:=cuts_len 47 p
   simp only[aR,seval,kA,kB,kD,h0]
   refine call_split (by simp[kF,kM]) (by omega) ?_
   generalize kAu 47 p=ns at *
   simp only[aR,seval,kA,kB,kD,zL]
   obtain ⟨St,hSt⟩:∃ St:{ p:Nat×Int // p.1≤ns.length∧kCz s.l (ns.drop p.1) p.2=kCz s.l ns 0 }→AS,∀ p,St p=AS.ofH 30 [(0,.ptr 0 0),(4,.v (.int .i64 p.1.2)),(13,.sl 0 1 (qX ns)),(14,.v (.int .i64 ns.length)),(15,.v (.int .i64 p.1.1))] [(0,.ptr 0 0),(1,.mp 1)] (tsO (some s)) []:=⟨_,fun _=>rfl⟩
   refine kAd ?_
   refine zQ [] hΓ St (fun p=>ns.length - p.1.1) ⟨(0,0),by simp,rfl⟩ (by rw[hSt];refine qA [0,1] [] ?_;simp only[aR,seval,kA,kB,kD]<;>((repeat' apply And.intro)<;>first|rfl|omega|trivial)) ?_
   rintro ⟨⟨i,id⟩,hle,hf⟩
   simp only at hle hf
   rw[hSt]
   simp only
   simp only[aR,seval,kA,kB,kD]
   (with_reducible first|refine kG (fun h=>?_) (fun h=>?_)|refine kH (fun h=>?_) (fun h=>?_))
   ·have hlt:i < ns.length:=by omega
    have e1:=kBE hlt
    rw[List.drop_eq_getElem_cons hlt,kCz]at hf
    generalize ns[i]=nm at *
    simp only[aR,seval,kA,kB,kD,h,e1,zL]
    (repeat (with_reducible refine And.intro ?_ ?_;focus (first|omega|exact kE|kernel_rfl)))
    refine kCa (s:=s) (o:=0) (ob:=1) (by simp[kF,kM]) hi hpos (by simp[k5,upd]) ?_
    by_cases hk:0 < kid id nm s.l
    ·rw[if_pos hk]at hf
     have hm:max 0 (kid id nm s.l)=kid id nm s.l:=Int.max_eq_right (by omega)
     simp only[aR,seval,kA,kB,kD,hk,hm,kC (n:=(i:Int)+1) (by omega) (by omega)]
     (repeat (with_reducible refine And.intro ?_ ?_;focus (first|omega|exact kE|kernel_rfl)))
     refine kP ⟨(i+1,kid id nm s.l),by simp only;omega,hf⟩ (by simp only;omega) ?_
     rw[hSt];refine qA [0,1] [] ?_
     simp only[aR,seval,kA,kB,kD]<;>((repeat' apply And.intro)<;>first|rfl|omega|trivial)
    ·rw[if_neg hk]at hf
     simp only[aR,seval,kA,kB,kD,hk]
     (repeat (with_reducible refine And.intro ?_ ?_;focus (first|omega|exact kE|kernel_rfl)))
     refine kU [0,1] [] (tsO (some s)) [] (.tup [.v (.int .i64 0),.v (.bool false)]) ⟨rfl,rfl,show _=optR (kEV s.l p) by rw[e0,← hf];rfl⟩ ?_
     simp only[aR,seval,kA,kB,kD]<;>((repeat' apply And.intro)<;>first|rfl|omega|trivial)
   ·rw[List.drop_of_length_le (by omega),kCz]at hf
    simp only[aR,seval,kA,kB,kD,h]
    refine kU [0,1] [] (tsO (some s)) [] (.tup [.v (.int .i64 id),.v (.bool true)]) ⟨rfl,rfl,show _=optR (kEV s.l p) by rw[e0,← hf];rfl⟩ ?_
    simp only[aR,seval,kA,kB,kD]<;>((repeat' apply And.intro)<;>first|rfl|omega|trivial)
section
variable {Γ:Env} {n:Nat} {t:Nat→AV} {hd:Nat→Nat→AV} {d:Option Nat} {K:AS→Prop}
variable {nh nl:Nat} {h:Nat→Option AO} {fm:Nat→Nat} {lv:Nat→Option (Nat×Nat)} {mu:Bool}
theorem kGG (hC:Γ.get 24=none) {s:TS} (S:sndN s.l) {id:Int} {o ob:Nat} (hT:k5 h o ob s)
    (hk:cont ⟨n,t,hd,⟨nh,h,nl,fm,lv,mu⟩⟩ d (pathR s.l id) K):kT Tryz.prog Γ false ⟨n,t,hd,⟨nh,h,nl,fm,lv,mu⟩⟩ 24 [.ptr o 0,.v (.int .i64 id)] d K:=by
 refine jT kGd hC ⟨(some s,id),fun s' hs=>by cases hs;exact S⟩ rfl hT (by simp[tsA,dnL,dn]) rfl (fun _ _ _ hp=>hp.1) ?_
 rintro lvs r ⟨_,rfl,rfl⟩
 exact hk
theorem kGE (hC:Γ.get 25=none) {s:TS} (hi:trOk s.l) {p:List UInt8} (hp:p.length≤1000000) {o ob:Nat} (hT:k5 h o ob s)
    (hk:cont ⟨n,t,hd,⟨nh,h,nl,fm,lv,mu⟩⟩ d (optR (kEV s.l p)) K):kT Tryz.prog Γ false ⟨n,t,hd,⟨nh,h,nl,fm,lv,mu⟩⟩ 25 [.ptr o 0,.v (sv p)] d K:=by
 refine jT kGe hC ⟨(some s,p),fun s' hs=>by cases hs;exact hi,hp⟩ rfl hT (by simp[tsA,dnL,dn]) rfl (fun _ _ _ hp=>hp.1) ?_
 rintro lvs r ⟨_,rfl,rfl⟩
 show cont _ d ((optR (kEV s.l p)).emb _ _) K
 generalize kEV s.l p=q at *
 cases q<;>exact hk
end
-- a path leads to who has it
theorem walk_app (l:List Nd):∀ (a b:List (List UInt8)) (i:Int),kCz l (a++b) i=(kCz l a i).bind (kCz l b)
 | [],b,i=>rfl
 | n::a,b,i=>by
   rw[List.cons_append,kCz,kCz]
   split
   ·exact walk_app l a b _
   ·rfl
section
variable {l:List Nd} (S:sndN l)
include S
theorem kid_self {x:Nd} (hx:x∈l):kid x.par x.nm l=x.id:=by
 have hpos:∀ y∈l,1≤y.id:=fun y hy=>(S.node y hy).id.1
 by_cases h:1≤kid x.par x.nm l
 ·obtain ⟨y,hy,h1,h2,h3⟩:=kid_iff hpos h rfl
  rw[← h3]
  exact S.sib y hy x hx h1 h2
 ·exact absurd ⟨rfl,rfl⟩ (kBv hpos h x hx)
theorem walk_up:∀ (k:Nat) (i:Int),inT l i→upN l k i=0→kCz l (ups l k i).reverse 0=some i
 | 0,i,_,h=>by cases h;rfl
 | k+1,i,hi,h=>by
   rw[ups]
   split
   ·rename_i h0;rw[h0];rfl
   ·rename_i h0
    have hm:=kAK (hi.resolve_left h0)
    rw[List.reverse_cons,walk_app,walk_up k (pf l i) (pf_in S) h]
    have e:kid (pf l i) (gN l i).nm l=i:=by
     have:=kid_self S hm.1
     rw[hm.2]at this;exact this
    have hp:=(S.node _ hm.1).id.1
    rw[hm.2]at hp
    simp only[Option.bind_some,kCz]
    rw[e,if_pos (by omega)]
theorem ups_nil {k:Nat} {i:Int} (hi:i≠0):ups l (k+1) i≠[]:=by rw[ups,if_neg hi];simp
omit S in
theorem slash_no {nm:List UInt8} (h:qB nm=true):(47:UInt8) ∉ nm:=by
 intro hc
 unfold qB at h
 simp only[Bool.and_eq_true,List.all_eq_true]at h
 have:=h.1 47 hc
 exact absurd this (by decide)
theorem find_path {i:Int} (hi:inT l i):kEV l (kCT l i)=some i:=by
 by_cases h0:i=0
 ·subst h0
  have:kCT l 0=[]:=by
   unfold kCT
   cases l.length<;>simp[ups,Lib.join_nil]
  unfold kEV
  rw[this,if_pos rfl]
 ·have hm:=kAK (hi.resolve_left h0)
  have hlen:0 < l.length:=List.length_pos_of_mem hm.1
  obtain ⟨k,hk⟩:∃ k,l.length=k+1:=⟨l.length - 1,by omega⟩
  have hne:(ups l l.length i).reverse≠[]:=by rw[hk,ne_eq,List.reverse_eq_nil_iff];exact ups_nil S h0
  have hnm:∀ x∈(ups l l.length i).reverse,qB x=true:=fun x hx=>kCw S _ _ hi x (List.mem_reverse.1 hx)
  have hc:=cuts_join (c:=47) hne fun x hx=>slash_no (hnm x hx)
  have hp:kCT l i≠[]:=by
   intro hc2
   have:kAu 47 (kCT l i)=[[]]:=by rw[hc2];rfl
   rw[show kAu 47 (kCT l i)=_ from hc]at this
   have:=(kDz (hnm [] (by rw[this];simp))).2
   simp at this
  unfold kEV
  rw[if_neg hp,show kAu 47 (kCT l i)=_ from hc]
  exact walk_up S _ _ hi (kEN S hi)
theorem path_len (i:Int) (hi:inT l i):(kCT l i).length≤2100:=by
 have h:=joinL_le (c:=47) (n:=20) (l:=(ups l l.length i).reverse) fun x hx=>(kDz (kCw S _ _ hi x (List.mem_reverse.1 hx))).1
 have h2:=ups_len l l.length i
 have h3:=S.len
 rw[List.length_reverse]at h
 unfold kCT
 omega
end
end Go.Proofs
end
