/-
 The program's tree: kT taken away;any act. What a qY tree is;going up in it. Plain. What the tree does is what the document says;a qY tree stays qY. Plain. A qY tree stays qY. Plain. A transaction,done on a copy of a tree. The IDs of a transaction's acts,by a map. law14: what the document fixes. Is a tree qY. Whose kT a transaction touches. RebaseApart answers true. law14: small;TxnAsks answers true. Commits in memory of their own;lists of commits held against each other. History: what its short methods answer. History: a commit put behind the others.
-/
import Derived.Test.YtnpofobcbfbfnaaGreatDoorXHTr3
import Derived.Test.YtnpofobcbfbfnaaGreatDoorXHUk5
import Derived.Test.YtnpofobcbfbfnaaGreatDoorRwO
import Derived.Test.YtnpofobcbfbfnaaGreatDoorXHSh
import Derived.Test.YtnpofobcbfbfnaaGreatDoorRwS
set_option linter.unusedSimpArgs false
set_option linter.unusedVariables false
set_option linter.unusedSectionVars false

set_option maxRecDepth 100000
-- HTr9
namespace Go.Proofs
open Go Go.Rw
section
variable {Γ:Env} {n:Nat} {t:Nat→AV} {hd:Nat→Nat→AV} {d:Option Nat} {K:AS→Prop}
variable {nh nl:Nat} {h:Nat→Option AO} {fm:Nat→Nat} {lv:Nat→Option (Nat×Nat)} {mu:Bool}
theorem call_tkids (hC:Γ.get 71=none) {s:TS} {par:Int} (hi:kFk s.l) {o ob:Nat} (hT:qL h o ob s)
    (hk:∀ ids,kidsR par s.l ids→cont ⟨n,t,hd,⟨nh,h,nl,fm,lv,mu⟩⟩ d (.sl 0 1 (ints .i64 ids)) K):kS Tryz.prog Γ false ⟨n,t,hd,⟨nh,h,nl,fm,lv,mu⟩⟩ 71 [.ptr o 0,.v (.int .i64 par)] d K:=by
 refine kCV tkids_good hC ⟨(s,par),hi⟩ rfl hT (by simp[dnL,dn]) rfl (fun _ _ _ hp=>hp.1) ?_
 rintro lvs r ⟨_,ids,h1,rfl,rfl⟩
 exact hk ids h1
theorem kD8 {f:FuncId} {C:ConO} (hG:kAJ Tryz.prog f C) (hC:Γ.get f=none) (i:C.ι) {s:TS} (hobjs:C.objs i=tsO (some s)) {o ob:Nat} (hT:qL h o ob s) {bs:List AV} (ha:dnL [o,ob] bs (C.args i)) (ht:AV.tagsL bs=[]) {q:List Nd×Int}
    (hpost:∀ objs lvs r,C.post i objs lvs r→mutP s q objs lvs r)
    (hk:∀ s':TS,s'.l=q.1→cont ⟨n,t,hd,⟨nh,upd h ob (some (.map s'.es s'.cl)),nl,fm,lv,mu⟩⟩ d (.v (.int .i64 q.2)) K):kS Tryz.prog Γ false ⟨n,t,hd,⟨nh,h,nl,fm,lv,mu⟩⟩ f bs d K:=by
 obtain ⟨h1,h2,h3⟩:=hT
 refine kFg hG hC i [o,ob] ⟨by simp[h3],ha,?_,ht,?_⟩ ?_
 ·rw[hobjs]
  simp only[tsO,kAV,kBE,h1,h2,jP,kBc,kAz,kBx,dn_mp]
  simp
 ·simp[z7,j3,h1,h2,kDt,AO.tags,AV.tagsL,AV.tags]
 ·intro objs lvs r hp hl
  obtain ⟨s',h4,rfl,rfl,rfl⟩:=hpost _ _ _ hp
  have e1:upd h o (some (.cells [.mp ob]))=h:=kEd h1
  have e3:(tsO (some s')).length - [o,ob].length=0:=rfl
  rw[e3]
  simp only[tsO,List.cons_append,List.nil_append,jV,kAB,jT,kB9,j6,kA8,kGU,kBC,kAy,kBy,jQ,kAX,kAC,kAF,kAI,emb_v,List.length_nil,Nat.add_zero,e1]
  exact hk s' h4
end
def remN (l:List Nd) (id:Int):List Nd×Int :=
 if hasN l id=false then (l,5) else if 0 < (kept id l).length then (l,9) else (offT id l,0)
abbrev tremCon:ConO where
 ι:={ p:TS×Int // kFk p.1.l }
 objs:=fun p=>tsO (some p.1.1)
 args:=fun p=>[.ptr 0 0,.v (.int .i64 p.1.2)]
 post:=fun p=>mutP p.1.1 (remN p.1.1.l p.1.2)
set_option maxHeartbeats 1000000 in
theorem trem_good:kAJ Tryz.prog 41 tremCon:=by
 have hΓ:kK Tryz.prog []:=kI
 refine qQ (nn:=28) Tryz.func41 (by kernel_rfl) rfl (show Tryz.f41.results.toList=[.tmp 4] from rfl) (fun _=>rfl) ?_
 rintro ⟨⟨s,id⟩,hi⟩
 simp only at hi
 refine qU hΓ (Ws:=[]) _ ?_
 have e1:=kBe s.h
 have e0:remN s.l id=if hasN s.l id=false then (s.l,5) else if 0 < (kept id s.l).length then (s.l,9) else (offT id s.l,0):=rfl
 simp only[aR,seval,kA,kB,kH,e1,nA]
 repeat (with_reducible refine And.intro ?_ ?_;focus first|omega|kernel_rfl)
 rcases Bool.eq_false_or_eq_true (hasN s.l id) with hh|hh
 case inr =>
  rw[if_pos hh]at e0
  simp only[aR,seval,kA,kB,kH,hh]
  refine kW [0,1] [] (tsO (some s)) [] (.v (.int .i64 5)) ⟨s,by rw[e0],rfl,rfl,by rw[e0]⟩ ?_
  simp only[aR,seval,kA,kB,kH]<;>(and_intros<;>first|rfl|omega|trivial)
 rw[if_neg (by rw[hh];decide)]at e0
 simp only[aR,seval,kA,kB,kH,hh]
 repeat (with_reducible refine And.intro ?_ ?_;focus first|omega|kernel_rfl)
 refine call_tkids (s:=s) (o:=0) (ob:=1) (by simp[kC,kQ]) hi (by simp[qL,upd]) ?_
 intro ids hk
 have e2:=kidsR_len hk
 have e3:(ints .i64 ids).length=ids.length:=by simp[ints]
 simp only[aR,seval,kA,kB,kH,e3,e2]
 repeat (with_reducible refine And.intro ?_ ?_;focus first|omega|kernel_rfl)
 by_cases h9:0 < (kept id s.l).length
 ·rw[if_pos h9]at e0
  simp only[aR,seval,kA,kB,kH,show (((kept id s.l).length:Int) > 0)=True from eq_true (by omega)]
  refine kW [0,1] [] (tsO (some s)) [] (.v (.int .i64 9)) ⟨s,by rw[e0],rfl,rfl,by rw[e0]⟩ ?_
  simp only[aR,seval,kA,kB,kH]<;>(and_intros<;>first|rfl|omega|trivial)
 rw[if_neg h9]at e0
 simp only[aR,seval,kA,kB,kH,show (((kept id s.l).length:Int) > 0)=False from eq_false (by omega)]
 obtain ⟨es',cl',p1,p2⟩:=off_tm s.h id
 simp only[aR,seval,kA,kB,kH,p1]
 repeat (with_reducible refine And.intro ?_ ?_;focus first|omega|kernel_rfl)
 refine kW [0,1] [] (tsO (some ⟨es',cl',_,p2⟩)) [] (.v (.int .i64 0)) ⟨⟨es',cl',_,p2⟩,by rw[e0],rfl,rfl,by rw[e0]⟩ ?_
 simp only[aR,seval,kA,kB,kH]<;>(and_intros<;>first|rfl|omega|trivial)
def dotN (l:List Nd) (a:Ac):List Nd×Int :=
 if a.k < 1∨a.k > 4 then (l,1)
 else if a.k=1 then creN l a
 else if a.k=2 then remN l a.id
 else if a.k=3 then movN l a
 else ediN l a
def doOk (l:List Nd) (a:Ac):Prop:=trOk l∧rtOk l∧a.nm.length≤1099511627776∧okL a.ops
abbrev tdoCon:ConO where
 ι:={ p:TS×Ac // doOk p.1.l p.2 }
 objs:=fun p=>tsO (some p.1.1)
 args:=fun p=>[.ptr 0 0,aA p.1.2]
 post:=fun p=>mutP p.1.1 (dotN p.1.1.l p.1.2)
set_option maxHeartbeats 4000000 in
theorem tdo_good:kAJ Tryz.prog 22 tdoCon:=by
 have hΓ:kK Tryz.prog []:=kI
 refine qQ (nn:=45) Tryz.func22 (by kernel_rfl) rfl (show Tryz.f22.results.toList=[.tmp 4] from rfl) (fun _=>rfl) ?_
 rintro ⟨⟨s,a⟩,ho,hr,hn,hc⟩
 obtain ⟨k,id,par,nm,dir,ops⟩:=a
 simp only at ho hr hn hc
 refine qU hΓ (Ws:=[]) _ ?_
 have e0:dotN s.l ⟨k,id,par,nm,dir,ops⟩=if k < 1∨k > 4 then (s.l,1) else if k=1 then creN s.l ⟨k,id,par,nm,dir,ops⟩ else if k=2 then remN s.l id else if k=3 then movN s.l ⟨k,id,par,nm,dir,ops⟩ else ediN s.l ⟨k,id,par,nm,dir,ops⟩:=rfl
 simp only[aR,seval,kA,kB,kH,aA]
 repeat (with_reducible refine And.intro ?_ ?_;focus first|omega|kernel_rfl)
 by_cases h1:k < 1
 ·rw[if_pos (.inl h1)]at e0
  simp only[aR,seval,kA,kB,kH,h1]
  refine kW [0,1] [] (tsO (some s)) [] (.v (.int .i64 1)) ⟨s,by rw[e0],rfl,rfl,by rw[e0]⟩ ?_
  simp only[aR,seval,kA,kB,kH]<;>(and_intros<;>first|rfl|omega|trivial)
 by_cases h2:k > 4
 ·rw[if_pos (.inr h2)]at e0
  simp only[aR,seval,kA,kB,kH,h1,h2]
  refine kW [0,1] [] (tsO (some s)) [] (.v (.int .i64 1)) ⟨s,by rw[e0],rfl,rfl,by rw[e0]⟩ ?_
  simp only[aR,seval,kA,kB,kH]<;>(and_intros<;>first|rfl|omega|trivial)
 rw[if_neg (by omega)]at e0
 simp only[aR,seval,kA,kB,kH,h1,h2]
 repeat (with_reducible refine And.intro ?_ ?_;focus first|omega|kernel_rfl)
 by_cases k1:k=1
 ·subst k1
  rw[if_pos rfl]at e0
  simp only[aR,seval,kA,kB,kH,aA]
  repeat (with_reducible refine And.intro ?_ ?_;focus first|omega|kernel_rfl)
  refine kD8 (o:=0) (ob:=1) (q:=creN s.l ⟨1,id,par,nm,dir,ops⟩) tcre_good (by simp[kC,kQ]) ⟨(s,⟨1,id,par,nm,dir,ops⟩),ho,hn⟩ rfl (by simp[qL,upd]) (by simp[dnL,dn,aA]) (by simp[AV.tagsL,AV.tags]) (fun _ _ _ hp=>hp) ?_
  intro s' hs
  simp only[aR,seval,kA,kB,kH,h1,h2]
  repeat (with_reducible refine And.intro ?_ ?_;focus first|omega|kernel_rfl)
  refine kW [0,1] [] (tsO (some s')) [] (.v (.int .i64 (creN s.l ⟨1,id,par,nm,dir,ops⟩).2)) ⟨s',by rw[e0];exact hs,rfl,rfl,by rw[e0]⟩ ?_
  simp only[aR,seval,kA,kB,kH]<;>(and_intros<;>first|rfl|omega|trivial)
 rw[if_neg k1]at e0
 by_cases k2:k=2
 ·subst k2
  rw[if_pos rfl]at e0
  simp only[aR,seval,kA,kB,kH,aA]
  repeat (with_reducible refine And.intro ?_ ?_;focus first|omega|kernel_rfl)
  refine kD8 (o:=0) (ob:=1) (q:=remN s.l id) trem_good (by simp[kC,kQ]) ⟨(s,id),ho.1⟩ rfl (by simp[qL,upd]) (by simp[dnL,dn,aA]) (by simp[AV.tagsL,AV.tags]) (fun _ _ _ hp=>hp) ?_
  intro s' hs
  simp only[aR,seval,kA,kB,kH,h1,h2]
  repeat (with_reducible refine And.intro ?_ ?_;focus first|omega|kernel_rfl)
  refine kW [0,1] [] (tsO (some s')) [] (.v (.int .i64 (remN s.l id).2)) ⟨s',by rw[e0];exact hs,rfl,rfl,by rw[e0]⟩ ?_
  simp only[aR,seval,kA,kB,kH]<;>(and_intros<;>first|rfl|omega|trivial)
 rw[if_neg k2]at e0
 by_cases k3:k=3
 ·subst k3
  rw[if_pos rfl]at e0
  simp only[aR,seval,kA,kB,kH,aA]
  repeat (with_reducible refine And.intro ?_ ?_;focus first|omega|kernel_rfl)
  refine kD8 (o:=0) (ob:=1) (q:=movN s.l ⟨3,id,par,nm,dir,ops⟩) tmov_good (by simp[kC,kQ]) ⟨(s,⟨3,id,par,nm,dir,ops⟩),ho,hr,hn⟩ rfl (by simp[qL,upd]) (by simp[dnL,dn,aA]) (by simp[AV.tagsL,AV.tags]) (fun _ _ _ hp=>hp) ?_
  intro s' hs
  simp only[aR,seval,kA,kB,kH,h1,h2]
  repeat (with_reducible refine And.intro ?_ ?_;focus first|omega|kernel_rfl)
  refine kW [0,1] [] (tsO (some s')) [] (.v (.int .i64 (movN s.l ⟨3,id,par,nm,dir,ops⟩).2)) ⟨s',by rw[e0];exact hs,rfl,rfl,by rw[e0]⟩ ?_
  simp only[aR,seval,kA,kB,kH]<;>(and_intros<;>first|rfl|omega|trivial)
 rw[if_neg k3]at e0
 simp only[aR,seval,kA,kB,kH,k1,k2,k3,aA]
 repeat (with_reducible refine And.intro ?_ ?_;focus first|omega|kernel_rfl)
 refine kD8 (o:=0) (ob:=1) (q:=ediN s.l ⟨k,id,par,nm,dir,ops⟩) tedi_good (by simp[kC,kQ]) ⟨(s,⟨k,id,par,nm,dir,ops⟩),ho,hc⟩ rfl (by simp[qL,upd]) (by simp[dnL,dn,aA]) (by simp[AV.tagsL,AV.tags]) (fun _ _ _ hp=>hp) ?_
 intro s' hs
 simp only[aR,seval,kA,kB,kH,h1,h2]
 repeat (with_reducible refine And.intro ?_ ?_;focus first|omega|kernel_rfl)
 refine kW [0,1] [] (tsO (some s')) [] (.v (.int .i64 (ediN s.l ⟨k,id,par,nm,dir,ops⟩).2)) ⟨s',by rw[e0];exact hs,rfl,rfl,by rw[e0]⟩ ?_
 simp only[aR,seval,kA,kB,kH]<;>(and_intros<;>first|rfl|omega|trivial)
end Go.Proofs
-- HTr10
namespace Go.Proofs
open Go Go.Rw
theorem gN_at (l:List Nd) (i:Int):gN l i=(atI i l).getD zO:=by
 rw[at_ndx]
 unfold gN
 split
 ·rfl
 ·rw[List.getD_eq_getElem?_getD,List.getElem?_eq_none (by omega)]
theorem kCT (l:List Nd) (i:Int):hasN l i=(atI i l).isSome:=by
 rw[at_ndx]
 unfold hasN
 split<;>simp[*]
def pf (l:List Nd) (i:Int):Int:=(gN l i).par
def upN (l:List Nd):Nat→Int→Int
 | 0,i=>i
 | k+1,i=>upN l k (pf l i)
theorem kGu (l:List Nd):∀ (j k:Nat) (i:Int),upN l (j+k) i=upN l k (upN l j i)
 | 0,k,i=>by rw [Nat.zero_add];rfl
 | j+1,k,i=>by rw [Nat.add_right_comm];exact kGu l j k (pf l i)
theorem up_succ (l:List Nd) (k:Nat) (i:Int):upN l (k+1) i=pf l (upN l k i):=kGu l k 1 i
theorem pf_no {l:List Nd} {i:Int} (h:hasN l i=false):pf l i=0:=by
 unfold pf
 rw[gN_at]
 rw[kCT]at h
 cases h2:atI i l with
 | none=>rfl
 | some x=>rw [h2] at h;simp at h
theorem nodup_sub:∀ {a b:List Int},a.Nodup→(∀ x∈a,x∈b)→a.length≤b.length
 | [],b,_,_=>Nat.zero_le _
 | x::a,b,hn,hs=>by
   rw[List.nodup_cons]at hn
   have h1:=hs x (List.mem_cons_self ..)
   have h2:=nodup_sub (a:=a) (b:=b.erase x) hn.2 fun y hy=>(List.mem_erase_of_ne (by rintro rfl;exact hn.1 hy)).2 (hs y (List.mem_cons_of_mem _ hy))
   rw[List.length_erase_of_mem h1]at h2
   have:0 < b.length:=List.length_pos_of_mem h1
   simp only[List.length_cons];omega
structure okNd (x:Nd):Prop where
 id:1≤x.id∧x.id≤1099511627776
 nm:qG x.nm=true
 dir:x.dir=true→x.text=[]
 valid:(pts x.text).isSome=true
 cnt:cnt x.text≤2000
structure sndN (l:List Nd):Prop where
 srt:srtN l
 len:l.length≤100
 node:∀ x∈l,okNd x
 tot:totN l≤10000
 sib:∀ x∈l,∀ y∈l,x.par=y.par→x.nm=y.nm→x.id=y.id
 par:∀ x∈l,x.par=0∨(hasN l x.par=true∧(gN l x.par).dir=true)
 rt:∀ x∈l,∃ k,upN l k x.id=0
theorem snd_nil:sndN []:=⟨by simp[srtN],by simp,by simp,by simp[totN],by simp,by simp,by simp⟩
theorem at_mem {l:List Nd} (h:srtN l) {x:Nd} (hx:x∈l):atI x.id l=some x:=by
 obtain ⟨i,hi,rfl⟩:=List.getElem_of_mem hx
 have:=kFO (kGN h) i (List.getElem?_eq_getElem hi)
 rw[at_ndx,this,if_pos hi,List.getD_eq_getElem?_getD,List.getElem?_eq_getElem hi];rfl
theorem kBo {l:List Nd} {i:Int} (h:hasN l i=true):gN l i∈l∧(gN l i).id=i:=by
 obtain ⟨h1,h2,h3⟩:=kD5 h
 rw[h2]
 exact ⟨List.getElem_mem h1,h3⟩
theorem kFY {l:List Nd} {x:Nd} (hx:x∈l):hasN l x.id=true:=(qP l x.id).2 ((ndx_mem x.id l).2 ⟨x,hx,rfl⟩)
theorem gN_self {l:List Nd} (h:srtN l) {x:Nd} (hx:x∈l):gN l x.id=x:=by rw[gN_at,at_mem h hx];rfl
section
variable {l:List Nd} (S:sndN l)
include S
theorem no_zero:hasN l 0=false:=by
 rcases Bool.eq_false_or_eq_true (hasN l 0) with h|h
 ·have:=kBo h
  have h2:=(S.node _ this.1).id.1
  omega
 ·exact h
theorem pf_zero:pf l 0=0:=pf_no (no_zero S)
theorem kEP:∀ k,upN l k 0=0
 | 0=>rfl
 | k+1=>by rw [upN,pf_zero S];exact kEP k
theorem up_stay {j k:Nat} {i:Int} (h:upN l j i=0) (hk:j≤k):upN l k i=0:=by
 obtain ⟨m,rfl⟩:∃ m,k=j+m:=⟨k - j,by omega⟩
 rw[kGu,h,kEP S]
def inT (l:List Nd) (i:Int):Prop:=i=0∨hasN l i=true
theorem pf_in {i:Int}:inT l (pf l i):=by
 rcases Bool.eq_false_or_eq_true (hasN l i) with h|h
 ·obtain ⟨h1,h2⟩:=kBo h
  rcases S.par _ h1 with h3|h3
  ·exact .inl h3
  ·exact .inr h3.1
 ·exact .inl (pf_no h)
theorem up_in {i:Int} (hi:inT l i):∀ k,inT l (upN l k i)
 | 0=>hi
 | k+1=>by rw [up_succ];exact pf_in S
theorem rt_in {i:Int} (hi:inT l i):∃ k,upN l k i=0:=by
 rcases hi with rfl|hi
 ·exact ⟨0,rfl⟩
 ·obtain ⟨h1,h2⟩:=kBo hi
  have:=S.rt _ h1
  rwa [h2]at this
theorem rt_len {i:Int} (hi:inT l i):upN l l.length i=0:=by
 obtain ⟨k,hk⟩:=rt_in S hi
 induction k using Nat.strongRecOn with
 | ind k ih =>
   by_cases hlt:k≤l.length
   ·exact up_stay S hk hlt
   ·-- two of the k are the same
    by_cases hall:∀ j,j < k→upN l j i≠0
    ·by_cases hnd:((List.range k).map fun j=>upN l j i).Nodup
     ·have:=nodup_sub (b:=l.map Nd.id) hnd fun y hy=>by
        obtain ⟨j,hj,rfl⟩:=List.mem_map.1 hy
        rcases up_in S hi j with h0|h0
        ·exact absurd h0 (hall j (by simpa using hj))
        ·obtain ⟨h1,h2⟩:=kBo h0
         exact List.mem_map.2 ⟨_,h1,h2⟩
      simp at this
      omega
     ·exfalso
      apply hnd
      rw[List.nodup_iff_pairwise_ne,List.pairwise_map]
      rw[List.pairwise_iff_getElem]
      intro a b ha hb hab
      simp only[List.length_range]at ha hb
      simp only[List.getElem_range]
      intro he
      -- from b on as from a on: the root sooner
      have h1:upN l (a+(k - b)) i=0:=by rw[kGu,he,← kGu,show b+(k - b)=k by omega,hk]
      exact hall _ (by omega) h1
    ·have:∃ j,j < k∧upN l j i=0:=by
       refine Classical.byContradiction fun hc=>hall fun j hj h0=>hc ⟨j,hj,h0⟩
     obtain ⟨j,hj,h0⟩:=this
     exact ih j hj h0
theorem kFB {i:Int}:∀ n,kAZ l n i=true↔upN l n i=0
 | 0=>by simp [kAZ,upN]
 | n+1=>by
   rw[kAZ,upN]
   split
   ·rename_i h0
    subst h0
    simp[pf_zero S,kEP S]
   ·exact kFB n
theorem snd_rt:rtOk l:=fun x hx=>(kFB S _).2 (rt_len S (.inr (kFY hx)))
def meets (l:List Nd) (i top:Int):Prop:=∃ k,upN l k i=top
theorem up_iff {i top:Int}:∀ n,upB l top n i=true↔∃ k,k≤n∧upN l k i=top∧∀ j,j < k→upN l j i≠0
 | 0=>by
   simp only[upB,decide_eq_true_eq]
   constructor
   ·rintro rfl;exact ⟨0,Nat.le_refl _,rfl,by omega⟩
   ·rintro ⟨k,hk,h,_⟩
    have:k=0:=by omega
    subst this;exact h
 | n+1=>by
   rw[upB]
   split
   ·rename_i h0
    simp only[true_iff]
    exact ⟨0,Nat.zero_le _,h0,by omega⟩
   ·rename_i h0
    split
    ·rename_i h1
     subst h1
     simp only[Bool.false_eq_true,false_iff]
     rintro ⟨k,hk,h,h2⟩
     cases k with
     | zero=>exact h0 h
     | succ k=>exact h2 0 (by omega) rfl
    ·rename_i h1
     rw[show (gN l i).par=pf l i from rfl,up_iff n]
     constructor
     ·rintro ⟨k,hk,h,h2⟩
      refine ⟨k+1,by omega,h,fun j hj=>?_⟩
      cases j with
      | zero=>exact h1
      | succ j=>exact h2 j (by omega)
     ·rintro ⟨k,hk,h,h2⟩
      cases k with
      | zero=>exact absurd h h0
      | succ k=>exact ⟨k,by omega,h,fun j hj=>h2 (j+1) (by omega)⟩
theorem up_meets {i top:Int} (hi:inT l i) (ht:top≠0):upB l top l.length i=true↔meets l i top:=by
 rw[up_iff S]
 constructor
 ·rintro ⟨k,_,h,_⟩;exact ⟨k,h⟩
 ·rintro ⟨k,h⟩
  have hz:∀ j,j≤k→upN l j i≠0:=fun j hj h0=>ht (by rw[← h,up_stay S h0 hj])
  refine ⟨k,?_,h,fun j hj=>hz j (by omega)⟩
  refine Classical.byContradiction fun hc=>hz l.length (by omega) (rt_len S hi)
theorem in_iff {top:Int} (ht:top≠0):∀ (n:Nat) {i:Int},inT l i→upN l n i=0→(inN l top (n+1) i=true↔meets l i top)
 | n,i,hi,h0=>by
   rw[inN]
   split
   ·rename_i h1
    simp only[true_iff]
    exact ⟨0,h1⟩
   ·rename_i h1
    split
    ·rename_i h2
     have h3:(l.getD (ndx i l) zO).par=pf l i:=rfl
     rw[h3]
     have h4:meets l i top↔meets l (pf l i) top:=by
      constructor
      ·rintro ⟨k,h⟩
       cases k with
       | zero=>exact absurd h h1
       | succ k=>exact ⟨k,h⟩
      ·rintro ⟨k,h⟩;exact ⟨k+1,h⟩
     rw[h4]
     cases n with
     | zero =>
       have:i=0:=h0
       subst this
       have:=no_zero S
       simp[hasN]at this
       omega
     | succ n=>exact in_iff ht n (pf_in S) h0
    ·rename_i h2
     have h5:i=0:=by
      rcases hi with h|h
      ·exact h
      ·exact absurd ((qP l i).1 h) h2
     subst h5
     simp only[Bool.false_eq_true,false_iff]
     rintro ⟨k,h⟩
     rw[kEP S]at h
     exact ht h.symm
theorem kAw {i top:Int} (hi:inT l i) (ht:top≠0):zW l i top=true↔meets l i top:=in_iff S ht l.length hi (rt_len S hi)
theorem kid_some {par:Int} {nm:List UInt8}:∀ {m:List Nd},(∀ x∈m,1≤x.id)→(kid par nm m = -1∨1≤kid par nm m)
 | [],_=>.inl rfl
 | x::m,h=>by
   rw[kid]
   split
   ·exact .inr (h x (List.mem_cons_self ..))
   ·exact kid_some fun y hy=>h y (List.mem_cons_of_mem _ hy)
end
theorem kid_iff {par i:Int} {nm:List UInt8}:∀ {m:List Nd},(∀ x∈m,1≤x.id)→1≤i→kid par nm m=i→∃ x∈m,x.par=par∧x.nm=nm∧x.id=i
 | [],_,h1,h=>by rw [kid] at h;omega
 | x::m,hp,h1,h=>by
   rw[kid]at h
   split at h
   ·rename_i hx
    exact ⟨x,List.mem_cons_self ..,hx.1,hx.2,h⟩
   ·obtain ⟨y,hy,h2⟩:=kid_iff (fun y hy=>hp y (List.mem_cons_of_mem _ hy)) h1 h
    exact ⟨y,List.mem_cons_of_mem _ hy,h2⟩
theorem kD0 {par:Int} {nm:List UInt8}:∀ {m:List Nd},(∀ x∈m,1≤x.id)→¬ 1≤kid par nm m→∀ x∈m,¬ (x.par=par∧x.nm=nm)
 | [],_,h,x,hx=>by cases hx
 | y::m,hp,h,x,hx=>by
   rw[kid]at h
   split at h
   ·exact absurd (hp y (List.mem_cons_self ..)) h
   ·rename_i hy
    rcases List.mem_cons.1 hx with rfl|hx
    ·exact hy
    ·exact kD0 (fun y hy=>hp y (List.mem_cons_of_mem _ hy)) h x hx
end Go.Proofs
-- HTr11
namespace Go.Proofs
open Go Go.Rw
theorem kCQ (a b:List Nd):totN (a++b)=totN a+totN b:=by
 induction a with
 | nil=>simp [totN]
 | cons x a ih=>simp [totN,ih,Nat.add_assoc]
theorem tot_set:∀ (l:List Nd) (i:Nat) (h:i < l.length) (y:Nd),totN (l.set i y)+cnt l[i].text=totN l+cnt y.text
 | [],i,h,y=>by simp at h
 | x::l,0,h,y=>by simp [totN];omega
 | x::l,i+1,h,y=>by
   have:=tot_set l i (by simpa using h) y
   simp[totN];omega
theorem kDy {l:List Nd} {par id:Int} {nm:List UInt8} (h:dirI l par≠0):zF l par nm id=dirI l par:=by
 unfold dirI at h ⊢
 unfold zF
 split
 ·rename_i h0;rw[if_pos h0]at h;exact absurd rfl h
 ·rename_i h0
  rw[if_neg h0]at h
  by_cases h1:hasN l par=true
  ·rw[if_pos h1]at h ⊢
   rw[if_pos ((qP l par).1 h1)]
   split at h
   ·exact absurd rfl h
   ·rename_i h2
    rw[if_neg h2,if_pos (by simpa [gN] using h2)]
  ·rw[if_neg h1,if_neg (fun hc=>h1 ((qP l par).2 hc))]
theorem kDb {l:List Nd} {par id:Int} {nm:List UInt8} (h:dirI l par=0):zF l par nm id=if par≠0∧id > 0∧zW l par id=true then 10 else kBm l par nm id:=by
 unfold dirI at h
 unfold zF
 split
 ·rename_i h0;rw[if_neg (fun hc=>hc.1 h0)]
 ·rename_i h0
  rw[if_neg h0]at h
  split at h
  ·rename_i h1
   rw[if_pos ((qP l par).1 h1)]
   split at h
   ·rename_i h2
    rw[if_neg (by rw[show l.getD (ndx par l) zO=gN l par from rfl,h2];decide)]
    by_cases h3:id > 0∧zW l par id=true
    ·rw[if_pos h3,if_pos ⟨h0,h3⟩]
    ·rw[if_neg h3,if_neg (fun hc=>h3 hc.2)]
   ·omega
  ·omega
theorem dir_in {l:List Nd} {par:Int} (h:dirI l par=0):inT l par∧(par=0∨(hasN l par=true∧(gN l par).dir=true)):=by
 unfold dirI at h
 split at h
 ·exact ⟨.inl ‹_›,.inl ‹_›⟩
 ·split at h
  ·split at h
   ·exact ⟨.inr ‹_›,.inr ⟨‹_›,‹_›⟩⟩
   ·omega
  ·omega
theorem doN_k1 {l:List Nd} {a:Ac} (hk:a.k=1):doN l a =
    if a.id < 1∨a.id > 1099511627776∨qG a.nm=false then (l,1)
    else if ndx a.id l < l.length then (l,6)
    else if zF l a.par a.nm 0≠0 then (l,zF l a.par a.nm 0)
    else if l.length ≥ 100 then (l,4)
    else (l.take (atN a.id l)++⟨a.id,a.par,a.nm,a.dir,[]⟩::l.drop (atN a.id l),0):=by
 show (if a.k=1 then _ else _)=_
 rw[if_pos hk]
theorem doN_k2 {l:List Nd} {a:Ac} (hk:a.k=2):doN l a =
    if ¬ ndx a.id l < l.length then (l,5)
    else if (l.any fun y=>decide (y.par=a.id))=true then (l,9)
    else (l.take (ndx a.id l)++l.drop (ndx a.id l+1),0):=by
 show (if a.k=1 then _ else _)=_
 rw[if_neg (by omega)]
 show (if a.k=2 then _ else _)=_
 rw[if_pos hk]
theorem doN_k3 {l:List Nd} {a:Ac} (hk:a.k=3):doN l a =
    if qG a.nm=false then (l,1)
    else if ¬ ndx a.id l < l.length then (l,5)
    else if zF l a.par a.nm a.id≠0 then (l,zF l a.par a.nm a.id)
    else (l.set (ndx a.id l) ⟨(gN l a.id).id,a.par,a.nm,(gN l a.id).dir,(gN l a.id).text⟩,0):=by
 show (if a.k=1 then _ else _)=_
 rw[if_neg (by omega)]
 show (if a.k=2 then _ else _)=_
 rw[if_neg (by omega)]
 show (if a.k=3 then _ else _)=_
 rw[if_pos hk]
 rfl
theorem doN_k4 {l:List Nd} {a:Ac} (hk:a.k=4):doN l a =
    if ¬ ndx a.id l < l.length then (l,5)
    else if (gN l a.id).dir=true then (l,8)
    else if errI (gN l a.id).text a.ops≠0 then (l,errI (gN l a.id).text a.ops)
    else if (totN (l.set (ndx a.id l) ⟨(gN l a.id).id,(gN l a.id).par,(gN l a.id).nm,(gN l a.id).dir,zL (gN l a.id).text a.ops⟩):Int) > 10000 then (l,4)
    else (l.set (ndx a.id l) ⟨(gN l a.id).id,(gN l a.id).par,(gN l a.id).nm,(gN l a.id).dir,zL (gN l a.id).text a.ops⟩,0):=by
 show (if a.k=1 then _ else _)=_
 rw[if_neg (by omega)]
 show (if a.k=2 then _ else _)=_
 rw[if_neg (by omega)]
 show (if a.k=3 then _ else _)=_
 rw[if_neg (by omega)]
 show (if a.k=4 then _ else _)=_
 rw[if_pos hk]
 rfl
theorem doN_k0 {l:List Nd} {a:Ac} (hk:a.k < 1∨a.k > 4):doN l a=(l,1):=by
 show (if a.k=1 then _ else _)=_
 rw[if_neg (by omega)]
 show (if a.k=2 then _ else _)=_
 rw[if_neg (by omega)]
 show (if a.k=3 then _ else _)=_
 rw[if_neg (by omega)]
 show (if a.k=4 then _ else _)=_
 rw[if_neg (by omega)]
section
variable {l:List Nd} (S:sndN l)
include S
theorem cre_eq {a:Ac} (hk:a.k=1):creN l a=doN l a:=by
 have hp:∀ x∈l,1≤x.id:=fun x hx=>(S.node x hx).id.1
 rw[doN_k1 hk]
 unfold creN
 by_cases h1:a.id < 1∨a.id > 1099511627776∨qG a.nm=false
 ·rw[if_pos h1,if_pos h1]
 rw[if_neg h1,if_neg h1]
 by_cases h2:hasN l a.id=true
 ·rw[if_pos h2,if_pos ((qP l a.id).1 h2)]
 rw[if_neg h2,if_neg (fun hc=>h2 ((qP l a.id).2 hc))]
 by_cases h3:dirI l a.par=0
 case neg=>rw[if_pos h3,kDy h3,if_pos h3]
 rw[if_neg (fun hc=>hc h3),kDb h3,if_neg (show ¬ (a.par≠0∧(0:Int) > 0∧zW l a.par 0=true) by omega)]
 unfold kBm
 by_cases h4:0 < kid a.par a.nm l
 ·rw[if_pos h4,if_pos (show (0≤kid a.par a.nm l∧kid a.par a.nm l≠0) by omega)];rfl
 have h5:=kid_some S (par:=a.par) (nm:=a.nm) hp
 rw[if_neg h4,if_neg (show ¬ (0≤kid a.par a.nm l∧kid a.par a.nm l≠0) by omega),if_neg (show ¬ ((0:Int)≠0) by decide)]
 split
 ·rfl
 ·unfold setT
  rw[if_neg h2]
theorem rem_eq {a:Ac} (hk:a.k=2):remN l a.id=doN l a:=by
 rw[doN_k2 hk]
 unfold remN
 by_cases h2:hasN l a.id=true
 case neg =>
  rw[if_pos (show hasN l a.id=false by simpa using h2),if_pos (show ¬ ndx a.id l < l.length from fun hc=>h2 ((qP l a.id).2 hc))]
 rw[if_neg (show ¬ (hasN l a.id=false) by rw[h2];decide),if_neg (show ¬ ¬ ndx a.id l < l.length from fun hc=>hc ((qP l a.id).1 h2))]
 have e:0 < (kept a.id l).length↔(l.any fun y=>decide (y.par=a.id))=true:=by
  unfold kept
  rw[List.length_pos_iff,ne_eq,List.filter_eq_nil_iff,List.any_eq_true]
  simp
 by_cases h3:0 < (kept a.id l).length
 ·rw[if_pos h3,if_pos (e.1 h3)]
 ·rw[if_neg h3,if_neg (fun hc=>h3 (e.2 hc))];rfl
theorem mov_eq {a:Ac} (hk:a.k=3):movN l a=doN l a:=by
 have hp:∀ x∈l,1≤x.id:=fun x hx=>(S.node x hx).id.1
 rw[doN_k3 hk]
 unfold movN
 by_cases h1:qG a.nm=false
 ·rw[if_pos h1,if_pos h1]
 rw[if_neg h1,if_neg h1]
 by_cases h2:hasN l a.id=true
 case neg =>
  rw[if_pos (show hasN l a.id=false by simpa using h2),if_pos (show ¬ ndx a.id l < l.length from fun hc=>h2 ((qP l a.id).2 hc))]
 obtain ⟨h6,h7⟩:=kBo h2
 have h8:=hp _ h6
 rw[h7]at h8
 rw[if_neg (show ¬ (hasN l a.id=false) by rw[h2];decide),if_neg (show ¬ ¬ ndx a.id l < l.length from fun hc=>hc ((qP l a.id).1 h2))]
 by_cases h3:dirI l a.par=0
 case neg=>rw[if_pos h3,kDy h3,if_pos h3]
 rw[if_neg (fun hc=>hc h3),kDb h3]
 obtain ⟨h9,_⟩:=dir_in h3
 by_cases h4:upB l a.id l.length a.par=true
 ·have h10:=(up_meets S h9 (show a.id≠0 by omega)).1 h4
  have h11:a.par≠0:=by
   rintro h0
   rw[h0]at h10
   obtain ⟨k,hk2⟩:=h10
   rw[kEP S]at hk2;omega
  rw[if_pos h4,if_pos (show a.par≠0∧a.id > 0∧zW l a.par a.id=true from ⟨h11,by omega,(kAw S h9 (by omega)).2 h10⟩)];rfl
 ·rw[if_neg h4,if_neg (show ¬ (a.par≠0∧a.id > 0∧zW l a.par a.id=true) from fun hc=>h4 ((up_meets S h9 (show a.id≠0 by omega)).2 ((kAw S h9 (by omega)).1 hc.2.2)))]
  have h5:=kid_some S (par:=a.par) (nm:=a.nm) hp
  unfold kBm
  by_cases h12:0 < kid a.par a.nm l∧kid a.par a.nm l≠a.id
  ·rw[if_pos h12,if_pos (show 0≤kid a.par a.nm l∧kid a.par a.nm l≠a.id from ⟨by omega,h12.2⟩)];rfl
  ·rw[if_neg h12,if_neg (show ¬ (0≤kid a.par a.nm l∧kid a.par a.nm l≠a.id) from fun hc=>h12 ⟨by omega,hc.2⟩),if_neg (show ¬ ((0:Int)≠0) by decide)]
   unfold setT
   rw[if_pos h2]
   show (l.set (ndx a.id l) ⟨a.id,a.par,a.nm,(gN l a.id).dir,(gN l a.id).text⟩,(0:Int))=(l.set (ndx a.id l) ⟨(gN l a.id).id,a.par,a.nm,(gN l a.id).dir,(gN l a.id).text⟩,0)
   rw[h7]
theorem edi_eq {a:Ac} (hk:a.k=4):ediN l a=doN l a:=by
 rw[doN_k4 hk]
 unfold ediN
 by_cases h2:hasN l a.id=true
 case neg =>
  rw[if_pos (show hasN l a.id=false by simpa using h2),if_pos (show ¬ ndx a.id l < l.length from fun hc=>h2 ((qP l a.id).2 hc))]
 have h6:=kBo h2
 rw[if_neg (show ¬ (hasN l a.id=false) by rw[h2];decide),if_neg (show ¬ ¬ ndx a.id l < l.length from fun hc=>hc ((qP l a.id).1 h2))]
 split
 ·rfl
 split
 ·rfl
 obtain ⟨h7,h8,h9⟩:=kD5 h2
 have h10:=tot_set l (ndx a.id l) h7 ⟨(gN l a.id).id,(gN l a.id).par,(gN l a.id).nm,(gN l a.id).dir,zL (gN l a.id).text a.ops⟩
 rw[← h8]at h10
 simp only at h10
 have e:(totN l:Int) - cnt (gN l a.id).text+cnt (zL (gN l a.id).text a.ops)=(totN (l.set (ndx a.id l) ⟨(gN l a.id).id,(gN l a.id).par,(gN l a.id).nm,(gN l a.id).dir,zL (gN l a.id).text a.ops⟩):Int):=by omega
 rw[e]
 split
 ·rfl
 ·unfold setT
  rw[if_pos h2]
  show (l.set (ndx a.id l) ⟨a.id,(gN l a.id).par,(gN l a.id).nm,(gN l a.id).dir,zL (gN l a.id).text a.ops⟩,(0:Int))=(l.set (ndx a.id l) ⟨(gN l a.id).id,(gN l a.id).par,(gN l a.id).nm,(gN l a.id).dir,zL (gN l a.id).text a.ops⟩,0)
  rw[h6.2]
theorem dot_eq (a:Ac):dotN l a=doN l a:=by
 unfold dotN
 by_cases h:a.k < 1∨a.k > 4
 ·rw[if_pos h,doN_k0 h]
 rw[if_neg h]
 by_cases h1:a.k=1
 ·rw[if_pos h1];exact cre_eq S h1
 rw[if_neg h1]
 by_cases h2:a.k=2
 ·rw[if_pos h2];exact rem_eq S h2
 rw[if_neg h2]
 by_cases h3:a.k=3
 ·rw[if_pos h3];exact mov_eq S h3
 rw[if_neg h3]
 exact edi_eq S (by omega)
end
end Go.Proofs
-- HTr12
namespace Go.Proofs
open Go Go.Rw
theorem done_ok {s:List UInt8} {l:List Cp} (h:errI s l=0):(pts (zL s l)).isSome=true∧cnt (zL s l)≤2000:=by
 obtain ⟨h1,h2,h3,h4⟩:=kEs h
 obtain ⟨c1,c2,c3,c4,c5,c6⟩:=zK h1
 have hs:(pts s).isSome=true:=by rw[h2];rfl
 have hok:=kHS l (cpts s) (kBW hs).2 (kFh c3)
 have e:zL s l=encs (doL (cpts s) l):=by unfold zL;rw[if_pos h]
 have ho:=kF2 l (cpts s) 0 (by omega) h4 c6
 rw[e]
 refine ⟨by rw[kFb hok];rfl,?_⟩
 rw[kAc,cpts_enc hok]
 have c6':outF 0 l≤2000:=c6
 omega
theorem doN_err {l:List Nd} {a:Ac} (h:(doN l a).2≠0):(doN l a).1=l:=by
 by_cases h0:a.k < 1∨a.k > 4
 ·rw[doN_k0 h0]
 rcases (show a.k=1∨a.k=2∨a.k=3∨a.k=4 by omega) with hk|hk|hk|hk
 ·rw[doN_k1 hk]at h ⊢
  repeat' split
  all_goals first|rfl|simp_all
 ·rw[doN_k2 hk]at h ⊢
  repeat' split
  all_goals first|rfl|simp_all
 ·rw[doN_k3 hk]at h ⊢
  repeat' split
  all_goals first|rfl|simp_all
 ·rw[doN_k4 hk]at h ⊢
  repeat' split
  all_goals first|rfl|(exfalso;rename_i q1 q2 q3 q4;rw[if_neg q1,if_neg q2,if_neg q3,if_neg q4]at h;exact h rfl)
theorem kG0 {l l':List Nd} (A:Int→Prop) (h1:∀ i,A i→pf l' i=pf l i) (h2:∀ i,A i→A (pf l i)):∀ (k:Nat) (i:Int),A i→upN l' k i=upN l k i
 | 0,i,_=>rfl
 | k+1,i,h=>by rw [upN,upN,h1 i h];exact kG0 A h1 h2 k _ (h2 i h)
section
variable {l:List Nd} (S:sndN l) {a:Ac} (h0:(doN l a).2=0)
include S h0
theorem do_mem {x:Nd} (hx:x∈(doN l a).1):(x.id=a.id∧kDT a (atI a.id l)=some x)∨(x∈l∧x.id≠a.id):=by
 obtain ⟨d1,d2⟩:=kHH h0 S.srt
 have:=at_mem d1 hx
 rw[d2]at this
 split at this
 ·rename_i he
  rw[he]at this
  exact .inl ⟨he,this⟩
 ·exact .inr ⟨(at_some this).1,by assumption⟩
theorem do_pf {i:Int} (hi:i≠a.id):gN (doN l a).1 i=gN l i∧hasN (doN l a).1 i=hasN l i:=by
 obtain ⟨d1,d2⟩:=kHH h0 S.srt
 rw[gN_at,gN_at,kCT,kCT,d2,if_neg hi]
 exact ⟨rfl,rfl⟩
theorem snd_cre (hk:a.k=1):sndN (doN l a).1:=by
 obtain ⟨d1,d2⟩:=kHH h0 S.srt
 have dm:=fun x hx=>do_mem S h0 (x:=x) hx
 have dp:=fun i hi=>do_pf S h0 (i:=i) hi
 have hpos:∀ x∈l,1≤x.id:=fun x hx=>(S.node x hx).id.1
 have hst:kDT a (atI a.id l)=some ⟨a.id,a.par,a.nm,a.dir,[]⟩:=by unfold kDT;rw[if_pos hk]
 have hat:atI a.id (doN l a).1=some ⟨a.id,a.par,a.nm,a.dir,[]⟩:=by rw[d2,if_pos rfl,hst]
 have hdo:=doN_k1 (l:=l) hk
 rw[hdo]at h0
 split at h0
 ·simp at h0
 rename_i c1
 split at h0
 ·simp at h0
 rename_i c2
 split at h0
 ·rename_i c3;exact absurd h0 c3
 rename_i c3
 split at h0
 ·simp at h0
 rename_i c4
 rw[if_neg c1,if_neg c2,if_neg c3,if_neg c4]at hdo
 have c3:zF l a.par a.nm 0=0:=Decidable.not_not.1 c3
 have hno:hasN l a.id=false:=by
  rcases Bool.eq_false_or_eq_true (hasN l a.id) with hh|hh
  ·exact absurd ((qP l a.id).1 hh) c2
  ·exact hh
 have c1a:1≤a.id∧a.id≤1099511627776:=by omega
 have c1b:qG a.nm=true:=by
  rcases Bool.eq_false_or_eq_true (qG a.nm) with hh|hh
  ·exact hh
  ·exact absurd (.inr (.inr hh)) c1
 have hd:dirI l a.par=0:=by
  refine Decidable.not_not.1 fun hc=>?_
  rw[kDy hc]at c3;exact hc c3
 rw[kDb hd,if_neg (show ¬ (a.par≠0∧(0:Int) > 0∧zW l a.par 0=true) by omega)]at c3
 have hkid:¬ 1≤kid a.par a.nm l:=fun hc=>by
  unfold kBm at c3
  rw[if_pos (by omega)]at c3;omega
 obtain ⟨hin,hpd⟩:=dir_in hd
 have hinA:∀ i,inT l i→i≠a.id:=fun i hi=>by
  rcases hi with rfl|hi
  ·omega
  ·rintro rfl;rw[hno]at hi;cases hi
 have hup:∀ k i,inT l i→upN (doN l a).1 k i=upN l k i:=fun k i hi=>kG0 (inT l) (fun i hi=>by unfold pf;rw[(dp i (hinA i hi)).1]) (fun i _=>pf_in S) k i hi
 refine ⟨d1,?_,?_,?_,?_,?_,?_⟩
 ·rw[hdo]
  have:=atN_le a.id l
  simp only[List.length_append,List.length_take,List.length_cons,List.length_drop]
  omega
 ·intro x hx
  rcases dm x hx with ⟨_,h⟩|⟨h,_⟩
  ·rw[hst]at h
   cases h
   exact ⟨c1a,c1b,fun _=>rfl,rfl,by simp[kAc,cpts_nil]⟩
  ·exact S.node x h
 ·rw[hdo]
  have e1:=kCQ (l.take (atN a.id l)) (l.drop (atN a.id l))
  rw[List.take_append_drop]at e1
  have:=S.tot
  simp only[kCQ,totN]
  have e2:cnt ([]:List UInt8)=0:=by simp[kAc,cpts_nil]
  omega
 ·intro x hx y hy hp hn
  rcases dm x hx with ⟨e1,h1⟩|⟨h1,_⟩<;>rcases dm y hy with ⟨e2,h2⟩|⟨h2,_⟩
  ·rw[e1,e2]
  ·rw[hst]at h1;cases h1
   exact absurd ⟨hp.symm,hn.symm⟩ (kD0 hpos hkid y h2)
  ·rw[hst]at h2;cases h2
   exact absurd ⟨hp,hn⟩ (kD0 hpos hkid x h1)
  ·exact S.sib x h1 y h2 hp hn
 ·intro x hx
  have key:∀ p,(p=0∨(hasN l p=true∧(gN l p).dir=true))→(p=0∨(hasN (doN l a).1 p=true∧(gN (doN l a).1 p).dir=true)):=fun p hp=>by
   rcases hp with hp|⟨h1,h2⟩
   ·exact .inl hp
   ·obtain ⟨q1,q2⟩:=dp p (hinA p (.inr h1))
    rw[q1,q2];exact .inr ⟨h1,h2⟩
  rcases dm x hx with ⟨_,h⟩|⟨h,_⟩
  ·rw[hst]at h;cases h
   exact key _ hpd
  ·exact key _ (S.par x h)
 ·intro x hx
  rcases dm x hx with ⟨e,h⟩|⟨h,_⟩
  ·obtain ⟨k,hk⟩:=rt_in S hin
   refine ⟨k+1,?_⟩
   rw[e,upN]
   have:pf (doN l a).1 a.id=a.par:=by unfold pf;rw[gN_at,hat];rfl
   rw[this,hup k _ hin,hk]
  ·obtain ⟨k,hk⟩:=S.rt x h
   exact ⟨k,by rw[hup k _ (.inr (kFY h)),hk]⟩
theorem snd_rem (hk:a.k=2):sndN (doN l a).1:=by
 obtain ⟨d1,d2⟩:=kHH h0 S.srt
 have dm:=fun x hx=>do_mem S h0 (x:=x) hx
 have dp:=fun i hi=>do_pf S h0 (i:=i) hi
 have hpos:∀ x∈l,1≤x.id:=fun x hx=>(S.node x hx).id.1
 have hst:kDT a (atI a.id l)=none:=by unfold kDT;rw[if_neg (by omega),if_pos hk]
 have hdo:=doN_k2 (l:=l) hk
 rw[hdo]at h0
 split at h0
 ·simp at h0
 rename_i c1
 split at h0
 ·simp at h0
 rename_i c2
 rw[if_neg c1,if_neg c2]at hdo
 have c1:=Decidable.not_not.1 c1
 obtain ⟨g1,g2⟩:=kBo ((qP l a.id).2 c1)
 have hid:=hpos _ g1
 rw[g2]at hid
 have hnp:∀ x∈l,x.par≠a.id:=fun x hx he=>c2 (List.any_eq_true.2 ⟨x,hx,by simpa using he⟩)
 have dm2:∀ x∈(doN l a).1,x∈l∧x.id≠a.id:=fun x hx=>by
  rcases dm x hx with ⟨_,h⟩|h
  ·rw[hst]at h;cases h
  ·exact h
 have hup:∀ k i,i≠a.id→upN (doN l a).1 k i=upN l k i:=fun k i hi=>kG0 (fun i=>i≠a.id) (fun i hi=>by unfold pf;rw[(dp i hi).1]) (fun i _=>by
  rcases Bool.eq_false_or_eq_true (hasN l i) with hh|hh
  ·exact hnp _ (kBo hh).1
  ·rw[pf_no hh];omega) k i hi
 refine ⟨d1,?_,fun x hx=>S.node x (dm2 x hx).1,?_,fun x hx y hy=>S.sib x (dm2 x hx).1 y (dm2 y hy).1,?_,?_⟩
 ·rw[hdo]
  have:=S.len
  simp only[List.length_append,List.length_take,List.length_drop]
  omega
 ·rw[hdo]
  have e1:=kCQ (l.take (ndx a.id l)) (l.drop (ndx a.id l))
  rw[List.take_append_drop,List.drop_eq_getElem_cons c1,totN]at e1
  have:=S.tot
  simp only[kCQ]
  omega
 ·intro x hx
  have hx2:=(dm2 x hx).1
  rcases S.par x hx2 with hp|⟨h1,h2⟩
  ·exact .inl hp
  ·obtain ⟨q1,q2⟩:=dp _ (hnp x hx2)
   rw[q1,q2];exact .inr ⟨h1,h2⟩
 ·intro x hx
  obtain ⟨h1,h2⟩:=dm2 x hx
  obtain ⟨k,hk⟩:=S.rt x h1
  exact ⟨k,by rw[hup k _ h2,hk]⟩
theorem snd_mov (hk:a.k=3):sndN (doN l a).1:=by
 obtain ⟨d1,d2⟩:=kHH h0 S.srt
 have dm:=fun x hx=>do_mem S h0 (x:=x) hx
 have dp:=fun i hi=>do_pf S h0 (i:=i) hi
 have hpos:∀ x∈l,1≤x.id:=fun x hx=>(S.node x hx).id.1
 have hdo:=doN_k3 (l:=l) hk
 rw[hdo]at h0
 split at h0
 ·simp at h0
 rename_i c1
 split at h0
 ·simp at h0
 rename_i c2
 split at h0
 ·rename_i c3;exact absurd h0 c3
 rename_i c3
 rw[if_neg c1,if_neg c2,if_neg c3]at hdo
 have c3:zF l a.par a.nm a.id=0:=Decidable.not_not.1 c3
 have c2:=Decidable.not_not.1 c2
 have c2h:=(qP l a.id).2 c2
 have c1b:qG a.nm=true:=by
  rcases Bool.eq_false_or_eq_true (qG a.nm) with hh|hh
  ·exact hh
  ·exact absurd hh c1
 obtain ⟨g1,g2⟩:=kBo c2h
 have hid:=hpos _ g1
 rw[g2]at hid
 have hat0:atI a.id l=some (gN l a.id):=by have:=at_mem S.srt g1;rwa [g2]at this
 have hst:kDT a (atI a.id l)=some ⟨(gN l a.id).id,a.par,a.nm,(gN l a.id).dir,(gN l a.id).text⟩:=by
  unfold kDT;rw[if_neg (by omega),if_neg (by omega),if_pos hk,hat0];rfl
 have hat:atI a.id (doN l a).1=some ⟨(gN l a.id).id,a.par,a.nm,(gN l a.id).dir,(gN l a.id).text⟩:=by rw[d2,if_pos rfl,hst]
 have hd:dirI l a.par=0:=by
  refine Decidable.not_not.1 fun hc=>?_
  rw[kDy hc]at c3;exact hc c3
 obtain ⟨hin,hpd⟩:=dir_in hd
 rw[kDb hd]at c3
 have hcy:¬ (a.par≠0∧a.id > 0∧zW l a.par a.id=true):=fun hc=>by rw[if_pos hc]at c3;omega
 rw[if_neg hcy]at c3
 have hkid:1≤kid a.par a.nm l→kid a.par a.nm l=a.id:=fun hc=>by
  unfold kBm at c3
  refine Decidable.not_not.1 fun hne=>?_
  rw[if_pos ⟨by omega,hne⟩]at c3;omega
 have hnm:∀ k,upN l k a.par≠a.id:=fun k hc=>by
  by_cases hp0:a.par=0
  ·rw[hp0,kEP S]at hc;omega
  ·exact hcy ⟨hp0,by omega,(kAw S hin (by omega)).2 ⟨k,hc⟩⟩
 have dh:∀ i,hasN (doN l a).1 i=hasN l i∧(gN (doN l a).1 i).dir=(gN l i).dir:=fun i=>by
  by_cases hi:i=a.id
  ·rw[hi,kCT,kCT,gN_at,hat,hat0]
   exact ⟨rfl,rfl⟩
  ·obtain ⟨q1,q2⟩:=dp i hi
   rw[q1,q2];exact ⟨rfl,rfl⟩
 have hpf:pf (doN l a).1 a.id=a.par:=by unfold pf;rw[gN_at,hat];rfl
 -- from the new parent on the way is as it was
 have hup:∀ k,upN (doN l a).1 k a.par=upN l k a.par:=fun k =>
  kG0 (fun i=>∃ j,i=upN l j a.par) (fun i hi=>by
   obtain ⟨j,rfl⟩:=hi
   unfold pf;rw[(dp _ (hnm j)).1]) (fun i hi=>by
   obtain ⟨j,rfl⟩:=hi
   exact ⟨j+1,(up_succ l j a.par).symm⟩) k a.par ⟨0,rfl⟩
 have hrt:∀ k i,upN l k i=0→∃ k',upN (doN l a).1 k' i=0:=fun k=>by
  induction k with
  | zero=>intro i hi;exact ⟨0,hi⟩
  | succ k ih =>
    intro i hi
    by_cases he:i=a.id
    ·obtain ⟨m,hm⟩:=rt_in S hin
     exact ⟨m+1,by rw[he,upN,hpf,hup,hm]⟩
    ·obtain ⟨m,hm⟩:=ih (pf l i) hi
     exact ⟨m+1,by rw[upN];unfold pf at hm ⊢;rw[(dp i he).1];exact hm⟩
 refine ⟨d1,?_,?_,?_,?_,?_,?_⟩
 ·rw[hdo]
  have:=S.len
  simpa using this
 ·intro x hx
  rcases dm x hx with ⟨_,h⟩|⟨h,_⟩
  ·rw[hst]at h;cases h
   have:=S.node _ g1
   exact ⟨this.id,c1b,this.dir,this.valid,this.cnt⟩
  ·exact S.node x h
 ·rw[hdo]
  have:=tot_set l (ndx a.id l) c2 ⟨(gN l a.id).id,a.par,a.nm,(gN l a.id).dir,(gN l a.id).text⟩
  obtain ⟨_,g4,_⟩:=kD5 c2h
  rw[← g4]at this
  have:=S.tot
  simp only at *
  omega
 ·have key:∀ y∈l,y.id≠a.id→¬ (y.par=a.par∧y.nm=a.nm):=fun y hy hne hc=>by
    by_cases hk1:1≤kid a.par a.nm l
    ·obtain ⟨x,hx,h1,h2,h3⟩:=kid_iff hpos hid (hkid hk1)
     have:=S.sib x hx y hy (h1.trans hc.1.symm) (h2.trans hc.2.symm)
     omega
    ·exact kD0 hpos hk1 y hy hc
  intro x hx y hy hp hn
  rcases dm x hx with ⟨e1,h1⟩|⟨h1,n1⟩<;>rcases dm y hy with ⟨e2,h2⟩|⟨h2,n2⟩
  ·rw[e1,e2]
  ·rw[hst]at h1;cases h1
   exact absurd ⟨hp.symm,hn.symm⟩ (key y h2 n2)
  ·rw[hst]at h2;cases h2
   exact absurd ⟨hp,hn⟩ (key x h1 n1)
  ·exact S.sib x h1 y h2 hp hn
 ·intro x hx
  have k2:∀ p,(p=0∨(hasN l p=true∧(gN l p).dir=true))→(p=0∨(hasN (doN l a).1 p=true∧(gN (doN l a).1 p).dir=true)):=fun p hp=>by
   rw[(dh p).1,(dh p).2];exact hp
  rcases dm x hx with ⟨_,h⟩|⟨h,_⟩
  ·rw[hst]at h;cases h
   exact k2 _ hpd
  ·exact k2 _ (S.par x h)
 ·intro x hx
  rcases dm x hx with ⟨e,_⟩|⟨h,_⟩
  ·obtain ⟨m,hm⟩:=rt_in S hin
   exact ⟨m+1,by rw[e,upN,hpf,hup,hm]⟩
  ·obtain ⟨k,hk⟩:=S.rt x h
   exact hrt k _ hk
theorem snd_edi (hk:a.k=4):sndN (doN l a).1:=by
 obtain ⟨d1,d2⟩:=kHH h0 S.srt
 have dm:=fun x hx=>do_mem S h0 (x:=x) hx
 have dp:=fun i hi=>do_pf S h0 (i:=i) hi
 have hdo:=doN_k4 (l:=l) hk
 rw[hdo]at h0
 split at h0
 ·simp at h0
 rename_i c1
 split at h0
 ·simp at h0
 rename_i c2
 split at h0
 ·rename_i c3;exact absurd h0 c3
 rename_i c3
 split at h0
 ·simp at h0
 rename_i c4
 rw[if_neg c1,if_neg c2,if_neg c3,if_neg c4]at hdo
 have c1:=Decidable.not_not.1 c1
 have c1h:=(qP l a.id).2 c1
 obtain ⟨v1,v2⟩:=done_ok (Decidable.not_not.1 c3)
 obtain ⟨g1,g2⟩:=kBo c1h
 have hat0:atI a.id l=some (gN l a.id):=by have:=at_mem S.srt g1;rwa [g2]at this
 have hst:kDT a (atI a.id l)=some ⟨(gN l a.id).id,(gN l a.id).par,(gN l a.id).nm,(gN l a.id).dir,zL (gN l a.id).text a.ops⟩:=by
  unfold kDT;rw[if_neg (by omega),if_neg (by omega),if_neg (by omega),hat0];rfl
 have hat:atI a.id (doN l a).1=some ⟨(gN l a.id).id,(gN l a.id).par,(gN l a.id).nm,(gN l a.id).dir,zL (gN l a.id).text a.ops⟩:=by rw[d2,if_pos rfl,hst]
 have dh:∀ i,hasN (doN l a).1 i=hasN l i∧(gN (doN l a).1 i).dir=(gN l i).dir∧(gN (doN l a).1 i).par=(gN l i).par:=fun i=>by
  by_cases hi:i=a.id
  ·rw[hi,kCT,kCT,gN_at,hat,hat0]
   exact ⟨rfl,rfl,rfl⟩
  ·obtain ⟨q1,q2⟩:=dp i hi
   rw[q1,q2];exact ⟨rfl,rfl,rfl⟩
 have hup:∀ k i,upN (doN l a).1 k i=upN l k i:=fun k i=>kG0 (fun _=>True) (fun i _=>(dh i).2.2) (fun _ _=>trivial) k i trivial
 -- each node's like in the tree as it was
 have like:∀ x∈(doN l a).1,∃ y∈l,y.id=x.id∧y.par=x.par∧y.nm=x.nm∧y.dir=x.dir:=fun x hx=>by
  rcases dm x hx with ⟨_,h⟩|⟨h,_⟩
  ·rw[hst]at h;cases h
   exact ⟨_,g1,rfl,rfl,rfl,rfl⟩
  ·exact ⟨x,h,rfl,rfl,rfl,rfl⟩
 refine ⟨d1,?_,?_,?_,?_,?_,?_⟩
 ·rw[hdo]
  have:=S.len
  simpa using this
 ·intro x hx
  rcases dm x hx with ⟨_,h⟩|⟨h,_⟩
  ·rw[hst]at h;cases h
   have:=S.node _ g1
   exact ⟨this.id,this.nm,fun hd=>absurd hd c2,v1,v2⟩
  ·exact S.node x h
 ·rw[hdo];simp only;omega
 ·intro x hx y hy hp hn
  obtain ⟨x',hx',e1,e2,e3,_⟩:=like x hx
  obtain ⟨y',hy',e5,e6,e7,_⟩:=like y hy
  rw[← e1,← e5]
  exact S.sib x' hx' y' hy' (by rw[e2,e6,hp]) (by rw[e3,e7,hn])
 ·intro x hx
  obtain ⟨x',hx',e1,e2,e3,_⟩:=like x hx
  rw[← e2,(dh _).1,(dh _).2.1]
  exact S.par x' hx'
 ·intro x hx
  obtain ⟨x',hx',e1,_⟩:=like x hx
  obtain ⟨k,hk⟩:=S.rt x' hx'
  exact ⟨k,by rw[hup,← e1,hk]⟩
omit h0 in
theorem snd_do (a:Ac):sndN (doN l a).1:=by
 by_cases h0:(doN l a).2=0
 ·by_cases hk:a.k < 1∨a.k > 4
  ·rw[doN_k0 hk];exact S
  rcases (show a.k=1∨a.k=2∨a.k=3∨a.k=4 by omega) with hk|hk|hk|hk
  ·exact snd_cre S h0 hk
  ·exact snd_rem S h0 hk
  ·exact snd_mov S h0 hk
  ·exact snd_edi S h0 hk
 ·rw[doN_err h0];exact S
end
end Go.Proofs
-- HTr13
namespace Go.Proofs
open Go Go.Rw
theorem kCB {t:List UInt8} (h:(pts t).isSome=true):t.length≤4 * cnt t:=by
 rw[kAc]
 have:=kBf (cs:=cpts t)
 rwa [(kBW h).1]at this
theorem snd_ok {l:List Nd} (S:sndN l):trOk l:=by
 have hl:=S.len
 refine ⟨⟨by omega,fun x hx=>?_⟩,fun x hx=>(S.node x hx).id.1,?_,fun x hx=>?_⟩
 ·have:=(S.node x hx).id;omega
 ·have:=S.tot;omega
 ·have:=kCB (S.node x hx).valid
  have:=(S.node x hx).cnt;omega
theorem snd_doOk {l:List Nd} (S:sndN l) {a:Ac} (ho:okA a):doOk l a:=⟨snd_ok S,snd_rt S,ho.2,ho.1⟩
def txnP (s:TS) (l:List Ac) (objs:List AO) (lvs:List (Nat×Nat)) (r:AV):Prop :=
 lvs=[]∧((allN s.l l).e=0∧(∃ s':TS,s'.l=(allN s.l l).now∧sndN s'.l∧objs=tsO (some s)++[.cells [.mp 3],.map s'.es s'.cl])∧r = .tup [.ptr 2 0,.v (.int .i64 (allN s.l l).n),.v (.int .i64 0)] ∨
  (allN s.l l).e≠0∧objs=tsO (some s)∧r = .tup [.v (.pointer none),.v (.int .i64 (allN s.l l).n),.v (.int .i64 (allN s.l l).e)])
abbrev ttxnCon:ConO where
 ι:={ p:TS×List Ac // sndN p.1.l∧p.2.length≤1000000∧∀ a∈p.2,okA a }
 objs:=fun p=>tsO (some p.1.1)
 args:=fun p=>[.ptr 0 0,.sl 0 6 (acts p.1.2)]
 post:=fun p=>txnP p.1.1 p.1.2
theorem allF_cons (t:List Nd) (a:Ac) (r:List Ac) (n:Nat):allF t (a::r) n=if (doN t a).2≠0 then ⟨[],n,(doN t a).2⟩ else allF (doN t a).1 r (n+1):=rfl
set_option maxHeartbeats 2000000 in
theorem ttxn_good:kAJ Tryz.prog 30 ttxnCon:=by
 have hΓ:kK Tryz.prog [(56,kAg)]:=(kG tcheck_good kI)
 refine qQ (nn:=33) Tryz.func30 (by kernel_rfl) rfl (show Tryz.f30.results.toList=[.tmp 4,.tmp 5,.tmp 6] from rfl) (fun _=>rfl) ?_
 rintro ⟨⟨s,l⟩,hS,hl,ho⟩
 simp only at hS hl ho
 refine qU hΓ (Ws:=[]) _ ?_
 simp only[aR,seval,kA,kB,kH]
 refine vcM_sc ?_
 refine vc_scopeM [] hΓ 1 ?_
 simp only[aR,seval,kA,kB,kH]
 repeat (with_reducible refine And.intro ?_ ?_;focus first|omega|kernel_rfl)
 refine call_tcheck (by simp[kC]) rfl hl ho ?_
 by_cases hc:txnE l=0
 case neg =>
  have e0:allN s.l l=⟨[],-1,txnE l⟩:=by unfold allN;rw[if_pos hc]
  simp only[aR,seval,kA,kB,kH,hc]
  repeat (with_reducible refine And.intro ?_ ?_;focus first|omega|kernel_rfl)
  refine kW [0,1] [] (tsO (some s)) [] (.tup [.v (.pointer none),.v (.int .i64 (-1)),.v (.int .i64 (txnE l))]) ⟨rfl,.inr ⟨by rw[e0];exact hc,rfl,by rw[e0]⟩⟩ ?_
  simp only[aR,seval,kA,kB,kH]<;>(and_intros<;>first|rfl|omega|trivial)
 have e0:allN s.l l=allF s.l l 0:=by unfold allN;rw[if_neg (fun hh=>hh hc)]
 simp only[aR,seval,kA,kB,kH,hc]
 repeat (with_reducible refine And.intro ?_ ?_;focus first|omega|kernel_rfl)
 refine kEE (s:=s) (o:=0) (ob:=1) (by simp[kC,kQ]) (by simp[qL]) ?_
 simp only[aR,seval,kA,kB,kH,k9]
 repeat (with_reducible refine And.intro ?_ ?_;focus first|omega|kernel_rfl)
 obtain ⟨St,hSt⟩:∃ St:{ p:Nat×TS // p.1≤l.length∧sndN p.2.l∧allF s.l l 0=allF p.2.l (l.drop p.1) p.1 }→AS,∀ p,St p=AS.ofH 33 [(1,.sl 0 6 (acts l)),(4,.ptr 2 0),(15,.v (.int .i64 l.length)),(16,.v (.int .i64 p.1.1))] [(0,.ptr 0 0),(1,.mp 1)] (tsO (some s)++[.cells [.mp 3],.map p.1.2.es p.1.2.cl]) []:=⟨_,fun _=>rfl⟩
 refine kBG ?_
 refine zX [] hΓ St (fun p=>l.length - p.1.1) ⟨(0,s),by omega,hS,rfl⟩ (by rw[hSt];refine qC [0,1,2,3] [] ?_;simp only[aR,seval,kA,kB,kH,k9,List.cons_append,List.nil_append]<;>(and_intros<;>first|rfl|omega|trivial)) ?_
 rintro ⟨⟨i,s'⟩,hi,hS',hf⟩
 simp only at hi hS' hf
 rw[hSt]
 simp only
 simp only[aR,seval,kA,kB,kH,k9,List.cons_append,List.nil_append]
 (with_reducible first|refine kE (fun h=>?_) (fun h=>?_)|refine kF (fun h=>?_) (fun h=>?_))
 ·have hlt:i < l.length:=by omega
  have e1:=z6 l hlt
  have hoa:=ho l[i] (List.getElem_mem hlt)
  rw[List.drop_eq_getElem_cons hlt,allF_cons]at hf
  generalize l[i]=a at *
  simp only[aR,seval,kA,kB,kH,h,e1,k9,aA]
  repeat (with_reducible refine And.intro ?_ ?_;focus first|omega|kernel_rfl)
  refine kD8 (s:=s') (o:=2) (ob:=3) (q:=dotN s'.l a) tdo_good (by simp[kC,kQ]) ⟨(s',a),snd_doOk hS' hoa⟩ rfl (by simp[qL]) (by simp[dnL,dn,aA]) (by simp[AV.tagsL,AV.tags]) (fun _ _ _ hp=>hp) ?_
  rw[dot_eq hS']
  intro s'' hs
  have hS2:sndN s''.l:=by rw[hs];exact snd_do hS' a
  by_cases he:(doN s'.l a).2=0
  ·rw[if_neg (fun hh=>hh he),← hs]at hf
   simp only[aR,seval,kA,kB,kH,he,wO (n:=(i:Int)+1)]
   repeat (with_reducible refine And.intro ?_ ?_;focus first|omega|kernel_rfl)
   refine kN ⟨(i+1,s''),by simp only;omega,hS2,hf⟩ (by simp only;omega) ?_
   rw[hSt];refine qC [0,1,2,3] [] ?_
   simp only[aR,seval,kA,kB,kH,List.cons_append,List.nil_append]<;>(and_intros<;>first|rfl|omega|trivial)
  ·rw[if_pos he,← e0]at hf
   simp only[aR,seval,kA,kB,kH,he]
   repeat (with_reducible refine And.intro ?_ ?_;focus first|omega|kernel_rfl)
   refine ⟨_,rfl,?_⟩
   simp only[aR,seval,kA,kB,kH,he]
   repeat (with_reducible refine And.intro ?_ ?_;focus first|omega|kernel_rfl)
   refine kW [0,1] [] (tsO (some s)) [] (.tup [.v (.pointer none),.v (.int .i64 i),.v (.int .i64 (doN s'.l a).2)]) ⟨rfl,.inr ⟨by rw[hf];exact he,rfl,by rw[hf]⟩⟩ ?_
   simp only[aR,seval,kA,kB,kH]<;>(and_intros<;>first|rfl|omega|trivial)
 ·have hi2:i=l.length:=by omega
  subst hi2
  rw[List.drop_length,allF,← e0]at hf
  simp only[aR,seval,kA,kB,kH,h,k9]
  repeat (with_reducible refine And.intro ?_ ?_;focus first|omega|kernel_rfl)
  refine kW [0,1,2,3] [] (tsO (some s)++[.cells [.mp 3],.map s'.es s'.cl]) [] (.tup [.ptr 2 0,.v (.int .i64 l.length),.v (.int .i64 0)]) ⟨rfl,.inl ⟨by rw[hf],⟨s',by rw[hf],hS',rfl⟩,by rw[hf]⟩⟩ ?_
  simp only[aR,seval,kA,kB,kH,List.cons_append,List.nil_append]<;>(and_intros<;>first|rfl|omega|trivial)
end Go.Proofs
-- HTr14
namespace Go.Proofs
open Go Go.Rw
structure CI where
 es:Array MapEntry
 cl:Nat
 ps:List (Int×Value)
 h:MapG es cl ps
 v:∀ p∈ps,∃ c,p.2 = .int .i64 c
 b:∀ p∈ps,-9223372036854775808≤p.1∧p.1≤9223372036854775807
end Go.Proofs
-- HTr15
namespace Go.Proofs
open Go Go.Rw
def ts0:TS:=⟨#[],0,[],tm_empty⟩
section
variable {Γ:Env} {n:Nat} {t:Nat→AV} {hd:Nat→Nat→AV} {d:Option Nat} {K:AS→Prop}
variable {nh nl:Nat} {h:Nat→Option AO} {fm:Nat→Nat} {lv:Nat→Option (Nat×Nat)} {mu:Bool}
theorem call_tnew (hC:Γ.get 9=none)
    (hk:cont ⟨n,t,hd,⟨nh+2,upd (upd h nh (some (.cells [.mp (nh+1)]))) (nh+1) (some (.map #[] 0)),nl,fm,lv,mu⟩⟩ d (.ptr nh 0) K):kS Tryz.prog Γ false ⟨n,t,hd,⟨nh,h,nl,fm,lv,mu⟩⟩ 9 [] d K:=by
 refine kFg tnew_good hC () [] ⟨by simp,by simp[dnL],by simp[dnOs],rfl,rfl⟩ ?_
 rintro objs lvs r ⟨rfl,rfl,rfl⟩ hl
 have e3:[AO.cells [.mp 1],.map #[] 0].length - ([]:List Nat).length=2:=rfl
 rw[e3]
 simp only[jV,kAB,jT,kB9,j6,kA8,kGU,kBC,kAy,kBy,jQ,kAX,kAC,kAF,kAI,kES,List.length_nil,Nat.add_zero]
 exact hk
theorem call_ttxn (hC:Γ.get 30=none) {s:TS} {l:List Ac} (hS:sndN s.l) (hl:l.length≤1000000) (ho:∀ a∈l,okA a) {o ob:Nat} (hT:qL h o ob s) {lt:Nat}
    (hk1:(allN s.l l).e=0→∀ s':TS,s'.l=(allN s.l l).now→sndN s'.l→cont ⟨n,t,hd,⟨nh+2,upd (upd h nh (some (.cells [.mp (nh+1)]))) (nh+1) (some (.map s'.es s'.cl)),nl,fm,kill fm (AV.tagsL [.ptr o 0,.sl lt 6 (acts l)]) lv,mu⟩⟩ d (.tup [.ptr nh 0,.v (.int .i64 (allN s.l l).n),.v (.int .i64 0)]) K)
    (hk2:(allN s.l l).e≠0→cont ⟨n,t,hd,⟨nh,h,nl,fm,kill fm (AV.tagsL [.ptr o 0,.sl lt 6 (acts l)]) lv,mu⟩⟩ d (.tup [.v (.pointer none),.v (.int .i64 (allN s.l l).n),.v (.int .i64 (allN s.l l).e)]) K) :
    kS Tryz.prog Γ false ⟨n,t,hd,⟨nh,h,nl,fm,lv,mu⟩⟩ 30 [.ptr o 0,.sl lt 6 (acts l)] d K:=by
 obtain ⟨h1,h2,h3⟩:=hT
 have e1:upd h o (some (.cells [.mp ob]))=h:=kEd h1
 have e2:upd h ob (some (.map s.es s.cl))=h:=kEd h2
 have et:kAK h [o,ob]=[]:=by simp[z7,j3,h1,h2,kDt,AO.tags,AV.tagsL,AV.tags]
 refine vcCall_objK ttxn_good hC ⟨(s,l),hS,hl,ho⟩ [o,ob] ⟨by simp[h3],by simp[dnL,dn],?_⟩ ?_
 ·simp only[tsO,kAV,kBE,h1,h2,jP,kBc,kAz,kBx,dn_mp]
  simp
 ·intro objs lvs r hp hl
  show cont ⟨n,t,hd,AM.call ⟨nh,h,nl,fm,kill fm (AV.tagsL [.ptr o 0,.sl lt 6 (acts l)]++kAK h [o,ob]) lv,mu⟩ [o,ob] objs lvs⟩ d _ K
  rw[et,List.append_nil]
  obtain ⟨rfl,hp⟩:=hp
  rcases hp with ⟨he,⟨s',h4,h5,rfl⟩,rfl⟩|⟨he,rfl,rfl⟩
  ·have:=hk1 he s' h4 h5
   rw[AMcall_eq]
   have e3:(tsO (some s)++[AO.cells [.mp 3],.map s'.es s'.cl]).length - [o,ob].length=2:=rfl
   rw[e3]
   simp only[tsO,List.cons_append,List.nil_append,jV,kAB,jT,kB9,j6,kA8,kGU,kBC,kAy,kBy,jQ,kAX,kAC,kAF,kAI,kES,emb_tup,emb_v,List.length_nil,Nat.add_zero,e1,e2]
   exact this
  ·have:=hk2 he
   rw[AMcall_eq]
   have e3:(tsO (some s)).length - [o,ob].length=0:=rfl
   rw[e3]
   simp only[tsO,List.cons_append,List.nil_append,jV,kAB,jT,kB9,j6,kA8,kGU,kBC,kAy,kBy,jQ,kAX,kAC,kAF,kAI,kES,emb_tup,emb_v,List.length_nil,Nat.add_zero,e1,e2]
   exact this
end
abbrev kFJ:Con where
 ι:=Unit
 args:=fun _=>[]
 post:=fun _ r=>r = .v (.bool true)
end Go.Proofs
-- HUk9s
namespace Go.Proofs
open Go Go.Rw
theorem srt_snoc {l:List Nd} {i:Nat} (h:i < l.length) (h1:srtN (l.take i)) (h2:∀ k,∀ hk:k+1=i,(l[k]'(by omega)).id < l[i].id):srtN (l.take (i+1)):=by
 rw[List.take_succ_eq_append_getElem h,srtN,List.map_append,List.pairwise_append]
 refine ⟨h1,by simp,fun a ha b hb=>?_⟩
 simp only[List.map_cons,List.map_nil,List.mem_singleton]at hb
 subst hb
 cases i with
 | zero=>simp at ha
 | succ k =>
   have h3:=h2 k rfl
   rw[List.take_succ_eq_append_getElem (by omega),srtN,List.map_append,List.pairwise_append]at h1
   rw[List.take_succ_eq_append_getElem (by omega),List.map_append,List.mem_append]at ha
   rcases ha with ha|ha
   ·have:=h1.2.2 a ha l[k].id (by simp)
    omega
   ·simp only[List.map_cons,List.map_nil,List.mem_singleton]at ha
    omega
end Go.Proofs
-- HUk9t
namespace Go.Proofs
open Go Go.Rw
end Go.Proofs
-- HUk10
namespace Go.Proofs
open Go Go.Rw
end Go.Proofs
-- HTr16
namespace Go.Proofs
open Go Go.Rw
end Go.Proofs
-- HTh2
namespace Go.Proofs
open Go Go.Rw
abbrev jI:Con where
 ι:=CmsN
 args:=fun p=>[.sl 0 4 (cms p.1)]
 post:=fun p r=>r = .sl 0 4 (cms p.1)
theorem kDL:Rw.Good Tryz.prog 31 jI:=by
 have hΓ:kK Tryz.prog [(57,townCon)]:=(kG town_good kI)
 refine kZ (nn:=21) hΓ Tryz.func31 (by kernel_rfl) rfl (show Tryz.f31.results.toList=[.tmp 2] from rfl) (fun _=>rfl) (fun x=>by simp[AV.erL,AV.er,kGG]) ?_
 rintro ⟨l,hl,ho⟩
 simp only[aR,seval,qD]
 obtain ⟨St,hSt⟩:∃ St:{ i:Nat // i≤l.length }→AS,∀ i,St i=AS.of 21 [(2,.sl 2 4 (cms (l.take i.1))),(5,.sl 0 4 (cms l)),(6,.v (.int .i64 l.length)),(7,.v (.int .i64 i.1))] [] [(i.1,32)]:=⟨_,fun _=>rfl⟩
 refine qE hΓ St (fun i=>l.length - i.1) ⟨0,by omega⟩ (by rw[hSt];refine kO [] [.nil 4] ?_;simp only[aR,seval,List.take_zero,cms,List.map_nil]<;>(and_intros<;>first|rfl|omega|trivial)) ?_
 rintro ⟨i,hi⟩
 rw[hSt]
 simp only
 simp only[aR,seval,qD]
 (with_reducible first|refine kE (fun h=>?_) (fun h=>?_)|refine kF (fun h=>?_) (fun h=>?_))
 ·have hlt:i < l.length:=by omega
  have e1:=kBd l hlt
  have ha:=ho _ (List.getElem_mem hlt)
  have e2:cms (l.take (i+1))=cms (l.take i)++[cmA l[i]]:=by
   show (l.take (i+1)).map cmA=(l.take i).map cmA++[cmA l[i]]
   rw[List.take_succ_eq_append_getElem hlt,List.map_append];rfl
  generalize l[i]=a at *
  obtain ⟨rev,cl,sq,ac⟩:=a
  simp only[aR,seval,h,e1,qD,cmA]
  repeat (with_reducible refine And.intro ?_ ?_;focus first|omega|kernel_rfl)
  refine call_town (by simp[kC]) rfl ha.1 ha.2 ?_
  simp only[aR,seval,qD,List.map_cons,List.map_nil,List.length_take,show min i l.length=i by omega,wO (n:=(i:Int)+1)]
  repeat (with_reducible refine And.intro ?_ ?_;focus first|omega|kernel_rfl)
  refine kN ⟨i+1,by omega⟩ (by simp only;omega) ?_
  rw[hSt];refine kO [] [.live 2] ?_
  simp only[aR,seval,e2,cmA,qD,List.length_append,List.length_cons,List.length_nil,List.length_take,show min i l.length=i by omega]<;>(and_intros<;>first|rfl|omega|trivial)
 ·simp only[aR,seval,h,show i=l.length by omega,List.take_length]
end Go.Proofs
-- HTh3
namespace Go.Proofs
open Go Go.Rw
def hisC (x:Hs) (ot lt:Nat):List AV:=[.v (.int .i64 x.rev),.ptr ot 0,.v (.int .i64 x.keep),.sl lt 4 (cms x.l)]
abbrev okHs (x:Hs):Prop:=(0≤x.rev∧x.rev≤2199023255552)∧(1≤x.keep∧x.keep≤1000)∧x.l.length≤1000
section
variable {Γ:Env} {n:Nat} {t:Nat→AV} {hd:Nat→Nat→AV} {d:Option Nat} {K:AS→Prop} {nh nl:Nat} {h:Nat→Option AO} {fm:Nat→Nat} {lv:Nat→Option (Nat×Nat)} {mu:Bool}
theorem kAf (hΓ:kK Tryz.prog Γ) (hC:Γ.get 29=none) {x:Hs} {o ot lt:Nat} (hob:h o=some (.cells (hisC x ot lt)))
    (hk:cont ⟨n,t,hd,⟨nh,h,nl,fm,lv,mu⟩⟩ d (.v (.bool false)) K):kS Tryz.prog Γ false ⟨n,t,hd,⟨nh,h,nl,fm,lv,mu⟩⟩ 29 [.ptr o 0] d K:=by
 refine qF (nn:=12) hΓ [] (by first|assumption|simp[kC,kQ]) Tryz.func29 (by kernel_rfl) rfl (show Tryz.f29.results.toList=[.tmp 2] from rfl) rfl ?_
 simp only[aR,seval,kA,kB,hob,hisC]
 exact hk
theorem vq_hnone (hΓ:kK Tryz.prog Γ) (hC:Γ.get 29=none) {x:Hs} {o ot lt:Nat} (hob:h o=some (.cells (hisC x ot lt)))
    (hk:cont ⟨n,t,hd,⟨nh,h,nl,fm,lv,mu⟩⟩ d (.v (.bool false)) K):callQ.callQ2 Tryz.prog Γ d K ⟨n,t,hd,⟨nh,h,nl,fm,lv,mu⟩⟩ (Γ.get 29) 29 [.ptr o 0]:=by
 rw[hC]
 refine ⟨(.v (.bool false)),kCZ hC ⟨_,Tryz.func29,by kernel_rfl,rfl⟩ (fun _=>trivial) (fun n' t' hd' m' hn hh=>?_),hk⟩
 obtain ⟨nh',h',nl',fm',lv',mu'⟩:=m'
 exact kAf hΓ hC (hh _ _ hob) ⟨hn,_,_,rfl,Nat.le_refl _,fun _ _ h=>h⟩
theorem call_hrev (hΓ:kK Tryz.prog Γ) (hC:Γ.get 11=none) (hC1:Γ.get 29=none) {x:Hs} {o ot lt:Nat} (hob:h o=some (.cells (hisC x ot lt)))
    (hk:cont ⟨n,t,hd,⟨nh,h,nl,fm,lv,mu⟩⟩ d (.v (.int .i64 x.rev)) K):kS Tryz.prog Γ false ⟨n,t,hd,⟨nh,h,nl,fm,lv,mu⟩⟩ 11 [.ptr o 0] d K:=by
 refine qF (nn:=9) hΓ [] (by first|assumption|simp[kC,kQ]) Tryz.func11 (by kernel_rfl) rfl (show Tryz.f11.results.toList=[.tmp 2] from rfl) rfl ?_
 simp only[aR,seval,kA,kB,hob,hisC]
 refine kAf hΓ hC1 hob ?_
 simp only[aR,seval,kA,kB,hob,hisC]
 exact hk
theorem vq_hrev (hΓ:kK Tryz.prog Γ) (hC:Γ.get 11=none) (hC1:Γ.get 29=none) {x:Hs} {o ot lt:Nat} (hob:h o=some (.cells (hisC x ot lt)))
    (hk:cont ⟨n,t,hd,⟨nh,h,nl,fm,lv,mu⟩⟩ d (.v (.int .i64 x.rev)) K):callQ.callQ2 Tryz.prog Γ d K ⟨n,t,hd,⟨nh,h,nl,fm,lv,mu⟩⟩ (Γ.get 11) 11 [.ptr o 0]:=by
 rw[hC]
 refine ⟨(.v (.int .i64 x.rev)),kCZ hC ⟨_,Tryz.func11,by kernel_rfl,rfl⟩ (fun _=>trivial) (fun n' t' hd' m' hn hh=>?_),hk⟩
 obtain ⟨nh',h',nl',fm',lv',mu'⟩:=m'
 exact call_hrev hΓ hC hC1 (hh _ _ hob) ⟨hn,_,_,rfl,Nat.le_refl _,fun _ _ h=>h⟩
theorem kFv (hΓ:kK Tryz.prog Γ) (hC:Γ.get 12=none) (hC1:Γ.get 29=none) {x:Hs} (hx:okHs x) {o ot lt:Nat} (hob:h o=some (.cells (hisC x ot lt)))
    (hk:cont ⟨n,t,hd,⟨nh,h,nl,fm,lv,mu⟩⟩ d (.v (.int .i64 (x.rev - x.l.length))) K):kS Tryz.prog Γ false ⟨n,t,hd,⟨nh,h,nl,fm,lv,mu⟩⟩ 12 [.ptr o 0] d K:=by
 refine qF (nn:=15) hΓ [] (by first|assumption|simp[kC,kQ]) Tryz.func12 (by kernel_rfl) rfl (show Tryz.f12.results.toList=[.tmp 2] from rfl) rfl ?_
 simp only[aR,seval,kA,kB,hob,hisC]
 refine kAf hΓ hC1 hob ?_
 simp only[aR,seval,kA,kB,hob,hisC,qD,wO (n:=x.rev - x.l.length)]
 repeat (with_reducible refine And.intro ?_ ?_;focus first|omega|kernel_rfl)
 exact hk
theorem vq_hold (hΓ:kK Tryz.prog Γ) (hC:Γ.get 12=none) (hC1:Γ.get 29=none) {x:Hs} (hx:okHs x) {o ot lt:Nat} (hob:h o=some (.cells (hisC x ot lt)))
    (hk:cont ⟨n,t,hd,⟨nh,h,nl,fm,lv,mu⟩⟩ d (.v (.int .i64 (x.rev - x.l.length))) K):callQ.callQ2 Tryz.prog Γ d K ⟨n,t,hd,⟨nh,h,nl,fm,lv,mu⟩⟩ (Γ.get 12) 12 [.ptr o 0]:=by
 rw[hC]
 refine ⟨(.v (.int .i64 (x.rev - x.l.length))),kCZ hC ⟨_,Tryz.func12,by kernel_rfl,rfl⟩ (fun _=>trivial) (fun n' t' hd' m' hn hh=>?_),hk⟩
 obtain ⟨nh',h',nl',fm',lv',mu'⟩:=m'
 exact kFv hΓ hC hC1 hx (hh _ _ hob) ⟨hn,_,_,rfl,Nat.le_refl _,fun _ _ h=>h⟩
theorem call_hnew (hΓ:kK Tryz.prog Γ) (hC:Γ.get 8=none) (hC1:Γ.get 28=none) {s:TS} {o ob:Nat} (hT:qL h o ob s) {rev keep:Int} (hr:0≤rev∧rev≤1099511627776) (hp:1≤keep∧keep≤1000)
    (hk:cont ⟨n,t,hd,⟨nh+3,upd (upd (upd h nh (some (.cells [.mp (nh+1)]))) (nh+1) (some (.map s.es s.cl))) (nh+2) (some (.cells [.v (.int .i64 rev),.ptr nh 0,.v (.int .i64 keep),.sl 1 4 []])),nl,fm,lv,mu⟩⟩ d (.tup [.ptr (nh+2) 0,.v (.int .i64 0)]) K) :
    kS Tryz.prog Γ false ⟨n,t,hd,⟨nh,h,nl,fm,lv,mu⟩⟩ 8 [.v (.int .i64 rev),.ptr o 0,.v (.int .i64 keep)] d K:=by
 refine qF (nn:=32) hΓ [] (by first|assumption|simp[kC,kQ]) Tryz.func8 (by kernel_rfl) rfl (show Tryz.f8.results.toList=[.tmp 6,.tmp 7] from rfl) rfl ?_
 simp only[aR,seval,kA,kB,show (rev < 0)=False from eq_false (by omega),show (rev > 1099511627776)=False from eq_false (by omega),show (keep < 1)=False from eq_false (by omega),show (keep > 1000)=False from eq_false (by omega)]
 refine kEE (s:=s) (o:=o) (ob:=ob) hC1 hT ?_
 simp only[aR,seval,kA,kB,]
 exact hk
end
end Go.Proofs
-- HTh4
namespace Go.Proofs
open Go Go.Rw
def cmT (la:Nat) (c:Cm):AV:=.agg [.v (.int .i64 c.rev),.v (.int .i64 c.client),.v (.int .i64 c.seq),.sl la 6 (acts c.acs)]
theorem kBi {fm:Nat→Nat} {lv:Nat→Option (Nat×Nat)}:kill fm [] lv=lv:=by funext l;simp[kill]
section
variable {Γ:Env} {n:Nat} {t:Nat→AV} {hd:Nat→Nat→AV} {d:Option Nat} {K:AS→Prop} {nh nl:Nat} {h:Nat→Option AO} {fm:Nat→Nat} {lv:Nat→Option (Nat×Nat)}
def AllO (h:Nat→Option AO) (nh:Nat) (fm:Nat→Nat) (lt o:Nat):Prop:=(∀ j y,h j=some y→j < nh)∧∀ j,j≠o→(h j).map (AO.cut fm lt)=h j
set_option maxHeartbeats 4000000 in
theorem kGX (hΓ:kK Tryz.prog Γ) (hC:Γ.get 10=none) (hC1:Γ.get 29=none) (hC2:Γ.get 30=none) (hC3:Γ.get 31=some jI)
    {x:Hs} {s:TS} {o ot om lt la:Nat} {c:Cm} {y:AV} (hy:y=cmT la c) (hx:okHs x) (hs:s.l=x.s) (S:sndN s.l) (hc:okCm c) (hob:h o=some (.cells (hisC x ot lt))) (hT:qL h ot om s) (h2:2≤lt) (hla:la≤1) (hlv:lv lt=some (x.l.length,32))
    (hb:AllO h nh fm lt o) (ho:o < 2000) (hfm:fm 0≠fm lt∧fm 1≠fm lt) (hct:cutT fm lt t=t) (hch:cutH fm lt hd=hd)
    (hk1:∀ h',(∀ j,j < nh→h' j=h j)→AllO h' (nh+1) fm lt o→(addN x c).2≠0→cont ⟨n,t,hd,⟨nh+1,h',nl,fm,lv,true⟩⟩ d (.v (.int .i64 (addN x c).2)) K)
    (hk2:∀ h' (s':TS),(∀ j,j < nh→j≠o→h' j=h j)→h' o=some (.cells (hisC (addN x c).1 (nh+1) lt))→AllO h' (nh+3) fm lt o→qL h' (nh+1) (nh+2) s'→s'.l=(addN x c).1.s→sndN s'.l→(addN x c).2=0 →
     cont ⟨n,t,hd,⟨nh+3,h',nl,fm,upd lv lt (some ((addN x c).1.l.length,32)),true⟩⟩ d (.v (.int .i64 0)) K) :
    kS Tryz.prog Γ false ⟨n,t,hd,⟨nh,h,nl,fm,lv,true⟩⟩ 10 [.ptr o 0,y] d K:=by
 subst hy
 obtain ⟨rev,cl,sq,ac⟩:=c
 obtain ⟨hc1,hc2⟩:=hc
 simp only at hc1 hc2
 obtain ⟨hx1,hx2,hx3⟩:=hx
 have ho2:=hb.1 _ _ hob
 have ht1:=hb.1 _ _ hT.1
 have ht2:=hb.1 _ _ hT.2.1
 have e1:(o=nh)=False:=eq_false (by omega)
 have hob1:upd h nh (some (.cells [.v (.int .i64 rev),.v (.int .i64 cl),.v (.int .i64 sq),.sl la 6 (acts ac)])) o=some (.cells (hisC x ot lt)):=by simp only[upd,e1,if_false];exact hob
 have hcut:AO.cut fm lt (.cells [.v (.int .i64 rev),.v (.int .i64 cl),.v (.int .i64 sq),.sl la 6 (acts ac)]) = .cells [.v (.int .i64 rev),.v (.int .i64 cl),.v (.int .i64 sq),.sl la 6 (acts ac)]:=by
  have:fm la≠fm lt:=by
   rcases (show la=0∨la=1 by omega) with rfl|rfl
   ·exact hfm.1
   ·exact hfm.2
  simp[AO.cut,AV.cutL,AV.cut,this]
 have hall1:AllO (upd h nh (some (.cells [.v (.int .i64 rev),.v (.int .i64 cl),.v (.int .i64 sq),.sl la 6 (acts ac)]))) (nh+1) fm lt o:=by
  refine ⟨fun j y hj=>?_,fun j hj=>?_⟩
  ·simp only[upd]at hj
   split at hj
   ·omega
   ·have:=hb.1 j y hj;omega
  ·simp only[upd]
   split
   ·rw[Option.map_some,hcut]
   ·exact hb.2 j hj
 have herr:∀ e,(addN x ⟨rev,cl,sq,ac⟩).2=e→e≠0→cont ⟨n,t,hd,⟨nh+1,upd h nh (some (.cells [.v (.int .i64 rev),.v (.int .i64 cl),.v (.int .i64 sq),.sl la 6 (acts ac)])),nl,fm,lv,true⟩⟩ d (.v (.int .i64 e)) K:=by
  rintro e rfl he
  refine hk1 _ (fun j hj=>?_) hall1 he
  simp only[upd];rw[if_neg (by omega)]
 refine qF (nn:=81) hΓ [(4,[],[6]),(7,[o,2006],[]),(8,[],[2000000])] (by first|assumption|simp[kC,kQ]) Tryz.func10 (by kernel_rfl) rfl (show Tryz.f10.results.toList=[.tmp 4] from rfl) rfl ?_
 simp only[aR,seval,kA,kB,cmT]
 refine vcM_sc ?_
 refine vc_scopeM [(4,[],[6]),(7,[o,2006],[]),(8,[],[2000000])] hΓ 1 ?_
 simp only[aR,seval,kA,kB,cmT]
 repeat (with_reducible refine And.intro ?_ ?_;focus first|omega|kernel_rfl)
 refine vq_hnone hΓ hC1 hob1 ?_
 by_cases hA:rev≠x.rev+1∨cl < 1∨sq < 1
 ·have ha:(addN x ⟨rev,cl,sq,ac⟩).2=1:=by unfold addN;rw[if_pos hA]
  have hend:=herr 1 ha (by omega)
  by_cases g1:rev=x.rev+1
  ·subst g1
   by_cases g2:cl < 1
   ·simp only[aR,seval,kA,kB,hob,hisC,e1,g2,wO (n:=x.rev+1)]
    refine ⟨_,rfl,?_⟩
    simp only[aR,seval,kA,kB,]
    exact hend
   ·have g3:sq < 1:=by omega
    simp only[aR,seval,kA,kB,hob,hisC,e1,g2,g3,wO (n:=x.rev+1)]
    refine ⟨_,rfl,?_⟩
    simp only[aR,seval,kA,kB,]
    exact hend
  ·simp only[aR,seval,kA,kB,hob,hisC,e1,g1,wO (n:=x.rev+1)]
   refine ⟨_,rfl,?_⟩
   simp only[aR,seval,kA,kB,]
   exact hend
 have g1:rev=x.rev+1:=by omega
 have g2:¬ cl < 1:=by omega
 have g3:¬ sq < 1:=by omega
 subst g1
 simp only[aR,seval,kA,kB,kR,hob,hisC,e1,g2,g3,wO (n:=x.rev+1)]
 repeat (with_reducible refine And.intro ?_ ?_;focus first|omega|kernel_rfl)
 have htg:AV.tagsL [.ptr ot 0,.sl la 6 (acts ac)]=[]:=by simp[AV.tagsL,AV.tags,show ¬ 2≤la by omega]
 have hT1:qL (upd h nh (some (.cells [.v (.int .i64 (x.rev+1)),.v (.int .i64 cl),.v (.int .i64 sq),.sl la 6 (acts ac)]))) ot om s:=by
  obtain ⟨q1,q2,q3⟩:=hT
  refine ⟨?_,?_,q3⟩
  ·simp only[upd];rw[if_neg (by omega)];exact q1
  ·simp only[upd];rw[if_neg (by omega)];exact q2
 refine call_ttxn hC2 S hc1 hc2 hT1 ?_ ?_
 rotate_left
 ·intro he
  rw[htg,kBi]
  have ha:(addN x ⟨x.rev+1,cl,sq,ac⟩).2=(allN s.l ac).e:=by
   unfold addN
   rw[if_neg hA,← hs,if_pos he]
  have hend:=herr _ ha he
  simp only[aR,seval,kA,kB,kR,show ((allN s.l ac).e=0)=False from eq_false he]
  refine ⟨_,rfl,?_⟩
  simp only[aR,seval,kA,kB,]
  exact hend
 intro he s' hs' S'
 rw[htg,kBi]
 have e2:(o=nh+1)=False:=eq_false (by omega)
 have e3:(o=nh+1+1)=False:=eq_false (by omega)
 have e4:(nh=nh+1)=False:=eq_false (by omega)
 have e5:(nh=nh+1+1)=False:=eq_false (by omega)
 have e6:(nh+1=o)=False:=eq_false (by omega)
 have e7:(nh+1+1=o)=False:=eq_false (by omega)
 have e8:(nh=o)=False:=eq_false (by omega)
 simp only[aR,seval,kA,kB,kR,hob,hisC,e1,e2,e3,e4,e5,e6,e7,e8]
 repeat (with_reducible refine And.intro ?_ ?_;focus first|omega|kernel_rfl)
 refine ⟨.inl (by kernel_rfl),by rw[if_neg (by omega)],?_⟩
 refine jH (C:=jI) (i:=⟨[⟨x.rev+1,cl,sq,ac⟩],by simp,by simp;exact ⟨hc1,hc2⟩⟩) (r:=.sl 0 4 [cmA ⟨x.rev+1,cl,sq,ac⟩]) hC3 rfl rfl (by simp[AV.erL,AV.er,cms,cmA,j7]) rfl (fun _ h=>h) ?_
 simp only[aR,seval,kA,kB,kR,hob,hisC,cmA,qD,j7,AV.er,hlv,e1,e2,e3,e4,e5,e6,e7,e8,show (2008=o)=False from eq_false (by omega),show (lt=1)=False from eq_false (by omega)]
 repeat (with_reducible refine And.intro ?_ ?_;focus first|omega|kernel_rfl)
 have ecm:cms x.l++[AV.agg [.v (.int .i64 (x.rev+1)),.v (.int .i64 cl),.v (.int .i64 sq),.sl 0 6 (acts ac)]]=cms (x.l++[⟨x.rev+1,cl,sq,ac⟩]):=by simp[cms,cmA]
 rw[ecm]
 have hlen:(cms (x.l++[⟨x.rev+1,cl,sq,ac⟩])).length=x.l.length+1:=by rw[qD];simp
 refine awp_cutAt (o:=o) (k:=3) (l:=lt) (sz:=4) (e:=32) (i:=x.l.length+1 - x.keep.toNat) (xs:=cms (x.l++[⟨x.rev+1,cl,sq,ac⟩])) [(4,.v (.int .i64 0))] (kU _ _ _) rfl h2 ?_ ?_ ?_ ?_
 ·rw[kU,hlen]
 ·rw[hlen];omega
 ·intro g off cap hc3 hc4
  refine qU hΓ (Ws:=[]) _ ?_
  rw[hlen]at hc3
  have hz:max (IntKind.wrap .i64 (((x.l.length+1:Nat):Int) - x.keep)) 0=((x.l.length+1 - x.keep.toNat:Nat):Int):=by
   rw[kD (by omega) (by omega)];omega
  have hsl:=sliceP_slc (P:=Tryz.prog) (t:=34) (e:=32) (sz:=4) (g:=g) (off:=off) (k:=x.l.length+1) (cap:=cap) (i:=x.l.length+1 - x.keep.toNat) (by kernel_rfl) hz (by omega) (by omega)
  simp only[aR,seval,kA,kB,kAa,e1,e2,e3,e4,e5,e6,e7,e8,List.set,hlen,lenA_slc Tryz.underlying34,hsl,cellsOf_slc,upd_twice]
  repeat (with_reducible refine And.intro ?_ ?_;focus first|omega|kernel_rfl)
  exact ⟨_,rfl,rfl⟩
 ·have hfin:addN x ⟨x.rev+1,cl,sq,ac⟩=(⟨x.rev+1,(allN s.l ac).now,x.keep,(x.l++[(⟨x.rev+1,cl,sq,ac⟩:Cm)]).drop (x.l.length+1 - x.keep.toNat)⟩,0):=by
    unfold addN
    rw[if_neg hA,← hs,if_neg (fun hh=>hh he)]
  have hd1:List.drop (x.l.length+1 - x.keep.toNat) (cms (x.l++[(⟨x.rev+1,cl,sq,ac⟩:Cm)]))=cms ((x.l++[(⟨x.rev+1,cl,sq,ac⟩:Cm)]).drop (x.l.length+1 - x.keep.toNat)):=by simp only[cms,List.map_drop]
  have hl2:((x.l++[(⟨x.rev+1,cl,sq,ac⟩:Cm)]).drop (x.l.length+1 - x.keep.toNat)).length=x.l.length+1 - (x.l.length+1 - x.keep.toNat):=by simp
  rw[hfin]at hk2
  simp only[hl2]at hk2
  simp only[aR,seval,kA,kB,kAa,upd_twice,hct,hch,hd1,hlen]
  refine hk2 _ s' ?_ (kU _ _ _) ⟨?_,?_⟩ ⟨?_,?_,by omega⟩ hs' S' trivial
  ·intro j hj hjo
   rw[kJ _ _ hjo,cutO,kJ _ _ hjo,kJ _ _ (by omega),kJ _ _ (by omega),kJ _ _ (by omega)]
   exact hb.2 j hjo
  ·intro j y hj
   by_cases hjo:j=o
   ·omega
   ·rw[kJ _ _ hjo,cutO]at hj
    obtain ⟨y',hy',_⟩:=Option.map_eq_some_iff.1 hj
    rw[kJ _ _ hjo]at hy'
    simp only[upd]at hy'
    split at hy'
    ·omega
    ·split at hy'
     ·omega
     ·split at hy'
      ·omega
      ·have:=hb.1 j y' hy';omega
  ·intro j hjo
   rw[kJ _ _ hjo]
   simp only[cutO,Option.map_map]
   congr 1
   funext y
   exact cutO_cut y
  ·rw[kJ _ _ (by omega),cutO,kJ _ _ (by omega),kJ _ _ (by omega),kU]
   rfl
  ·rw[kJ _ _ (by omega),cutO,kJ _ _ (by omega),show nh+2=nh+1+1 from rfl,kU]
   rfl
end
end Go.Proofs
