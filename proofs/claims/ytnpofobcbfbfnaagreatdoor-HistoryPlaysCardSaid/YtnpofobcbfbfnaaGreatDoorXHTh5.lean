/-
 History: what came behind a revision;the tree;a client's commits. law17: what the document fixes. HistoryTrims answers true. History: what is asked of no history;what all that was added comes to. Plain,and six short walks. The reference's history: a commit added,the oldest revision,what came behind. Two lists of commits,compared;what a history shows. Names that are taken: a map whose keys are kT. Plain. A node by itself;a tree of kT.
-/
import Derived.Test.YtnpofobcbfbfnaaGreatDoorXHTr9
import Derived.Test.YtnpofobcbfbfnaaGreatDoorXHUk5
import Derived.Test.YtnpofobcbfbfnaaGreatDoorXHUk1e
import Derived.Test.YtnpofobcbfbfnaaGreatDoorRwS
set_option linter.unusedSimpArgs false
set_option linter.unusedVariables false
set_option linter.unusedSectionVars false

set_option maxRecDepth 100000
-- HTh5
namespace Go.Proofs
open Go Go.Rw
def sinR (x:Hs) (r:Int):List Cm×Int :=
 if r > x.rev then ([],15) else if r < x.rev - x.l.length then ([],14) else (x.l.drop (r - (x.rev - x.l.length)).toNat,0)
theorem cms_drop (l:List Cm) (i:Nat):List.drop i (cms l)=cms (l.drop i):=by simp only[cms,List.map_drop]
theorem kHY (l m:List Cm):cms l++cms m=cms (l++m):=by simp[cms]
theorem partA_cms (l:List Cm) (i:Nat):kBt 0 4 (cms l) i l.length = .sl 0 4 (cms (l.drop i)):=by
 unfold kBt
 split
 ·rename_i h
  rw[h.1];rfl
 ·congr 1
  rw[cms_drop,List.take_of_length_le]
  rw[qD,List.length_drop]
  exact Nat.le_refl _
abbrev kG9 (l:List Cm):Prop:=∀ c∈l,okCm c
section
variable {Γ:Env} {n:Nat} {t:Nat→AV} {hd:Nat→Nat→AV} {d:Option Nat} {K:AS→Prop} {nh nl:Nat} {h:Nat→Option AO} {fm:Nat→Nat} {lv:Nat→Option (Nat×Nat)} {mu:Bool}
theorem call_htree (hΓ:kK Tryz.prog Γ) (hC:Γ.get 16=none) (hC1:Γ.get 29=none) (hC2:Γ.get 28=none) {x:Hs} {s:TS} {o ot om lt:Nat} (hob:h o=some (.cells (hisC x ot lt))) (hT:qL h ot om s)
    (hk:cont ⟨n,t,hd,⟨nh+2,upd (upd h nh (some (.cells [.mp (nh+1)]))) (nh+1) (some (.map s.es s.cl)),nl,fm,lv,mu⟩⟩ d (.ptr nh 0) K):kS Tryz.prog Γ false ⟨n,t,hd,⟨nh,h,nl,fm,lv,mu⟩⟩ 16 [.ptr o 0] d K:=by
 refine qF (nn:=10) hΓ [] (by first|assumption|simp[kC,kQ]) Tryz.func16 (by kernel_rfl) rfl (show Tryz.f16.results.toList=[.tmp 2] from rfl) rfl ?_
 simp only[aR,seval,kA,kB,hob,hisC]
 refine kAf hΓ hC1 hob ?_
 simp only[aR,seval,kA,kB,hob,hisC]
 repeat (with_reducible refine And.intro ?_ ?_;focus first|omega|kernel_rfl)
 refine kEE hC2 hT ?_
 simp only[aR,seval,kA,kB,]
 exact hk
theorem kBa (hΓ:kK Tryz.prog Γ) (hC:Γ.get 13=none) (hC1:Γ.get 29=none) (hC2:Γ.get 12=none) (hC3:Γ.get 31=some jI) {x:Hs} (hx:okHs x) (hl:kG9 x.l) {o ot:Nat} (hob:h o=some (.cells (hisC x ot 0))) {r:Int} (hr:-9223372036854775808≤r∧r≤9223372036854775807)
    (hk:cont ⟨n,t,hd,⟨nh,h,nl,fm,lv,mu⟩⟩ d (.tup [.sl (if (sinR x r).2=0 then 0 else 1) 4 (cms (sinR x r).1),.v (.int .i64 (sinR x r).2)]) K):kS Tryz.prog Γ false ⟨n,t,hd,⟨nh,h,nl,fm,lv,mu⟩⟩ 13 [.ptr o 0,.v (.int .i64 r)] d K:=by
 refine qF (nn:=31) hΓ [] (by first|assumption|simp[kC,kQ]) Tryz.func13 (by kernel_rfl) rfl (show Tryz.f13.results.toList=[.tmp 4,.tmp 5] from rfl) rfl ?_
 simp only[aR,seval,kA,kB,hob,hisC]
 refine kAf hΓ hC1 hob ?_
 unfold sinR at hk
 obtain ⟨hx1,hx2,hx3⟩:=hx
 by_cases g1:r > x.rev
 ·rw[if_pos g1]at hk
  simp only[aR,seval,kA,kB,hob,hisC,g1]
  exact hk
 rw[if_neg g1]at hk
 simp only[aR,seval,kA,kB,hob,hisC,g1]
 refine kFv hΓ hC2 hC1 ⟨hx1,hx2,hx3⟩ hob ?_
 by_cases g2:r < x.rev - x.l.length
 ·rw[if_pos g2]at hk
  simp only[aR,seval,kA,kB,hob,hisC,g2]
  exact hk
 rw[if_neg g2]at hk
 simp only[aR,seval,kA,kB,hob,hisC,g2]
 repeat (with_reducible refine And.intro ?_ ?_;focus first|omega|kernel_rfl)
 refine vq_hold hΓ hC2 hC1 ⟨hx1,hx2,hx3⟩ hob ?_
 obtain ⟨i,hi⟩:∃ i:Nat,r - (x.rev - x.l.length)=i:=⟨(r - (x.rev - x.l.length)).toNat,by omega⟩
 have hit:(r - (x.rev - x.l.length)).toNat=i:=by omega
 rw[hit]at hk
 have hw:IntKind.wrap .i64 (r - (x.rev - x.l.length))=i:=by rw[hi,kD (by omega) (by omega)]
 have hle:i≤x.l.length:=by omega
 simp only[aR,seval,kA,kB,hob,hisC,hw,qD,partA_cms]
 repeat (with_reducible refine And.intro ?_ ?_;focus first|omega|kernel_rfl)
 rw[hC3]
 refine jH (C:=jI) (i:=⟨x.l.drop i,by rw[List.length_drop];omega,fun c hc=>hl c (List.mem_of_mem_drop hc)⟩) (r:=.sl 0 4 (cms (x.l.drop i))) hC3 rfl rfl (by simp[AV.erL,AV.er]) rfl (fun _ h=>h) ?_
 simp only[aR,seval,kA,kB,AV.er]
 repeat (with_reducible refine And.intro ?_ ?_;focus first|omega|kernel_rfl)
 exact hk
end
theorem call_ownAll_t {Γ:Env} (hf:Γ.get 31=some jI) {n:Nat} {t:Nat→AV} {hd:Nat→Nat→AV} {nh nl:Nat} {h:Nat→Option AO} {fm:Nat→Nat} {lv:Nat→Option (Nat×Nat)} {mu:Bool} {l:List Cm} {t1:Nat} {d:Option Nat} {K:AS→Prop} (hl:l.length≤1099511627776) (ho:kG9 l)
    (hk:cont ⟨n,t,hd,⟨nh,h,nl,fm,kill fm (AV.tagsL [.sl t1 4 (cms l)]) lv,mu⟩⟩ d (.sl 0 4 (cms l)) K):kS Tryz.prog Γ false ⟨n,t,hd,⟨nh,h,nl,fm,lv,mu⟩⟩ 31 [.sl t1 4 (cms l)] d K:=by
 refine kG1 (C:=jI) (i:=⟨l,hl,ho⟩) hf rfl rfl rfl (by simp[AV.erL,AV.er]) (ts:=AV.tagsL [.sl t1 4 (cms l)]) rfl ?_
 rintro r rfl
 exact hk
def hisO (x:Hs) (s:TS):List AO:=[.cells (hisC x 1 0),.cells [.mp 2],.map s.es s.cl]
abbrev hofCon:ConO where
 ι:={ p:Hs×TS×Int // okHs p.1∧kG9 p.1.l }
 objs:=fun p=>hisO p.1.1 p.1.2.1
 args:=fun p=>[.ptr 0 0,.v (.int .i64 p.1.2.2)]
 post:=fun p objs lvs r=>objs=hisO p.1.1 p.1.2.1∧lvs=[]∧r = .sl 0 4 (cms (ofN p.1.1.l p.1.2.2))
theorem ofN_take (l:List Cm) (k:Int) {i:Nat} (h:i < l.length):ofN (l.take (i+1)) k=ofN (l.take i) k++if l[i].client=k then [l[i]] else []:=by
 rw[List.take_succ_eq_append_getElem h,ofN,List.filter_append]
 congr 1
 simp only[List.filter_cons,List.filter_nil,decide_eq_true_eq]
theorem ofN_len (l:List Cm) (k:Int):(ofN l k).length≤l.length:=List.length_filter_le _ _
set_option maxHeartbeats 1000000 in
theorem hof_good:kAJ Tryz.prog 14 hofCon:=by
 have hΓ:kK Tryz.prog [(31,jI)]:=(kG kDL kI)
 refine qQ (nn:=29) Tryz.func14 (by kernel_rfl) rfl (show Tryz.f14.results.toList=[.tmp 4] from rfl) (fun _=>rfl) ?_
 rintro ⟨⟨x,s,k⟩,hx,hl⟩
 simp only at hx hl
 have hx3:=hx.2.2
 refine qU hΓ (Ws:=[]) _ ?_
 simp only[aR,seval,kA,kB,hisO]
 refine kAf hΓ (by simp[kC,kQ]) (x:=x) (o:=0) (ot:=1) (lt:=0) (by simp) ?_
 simp only[aR,seval,kA,kB,hisO,hisC,qD]
 repeat (with_reducible refine And.intro ?_ ?_;focus first|omega|kernel_rfl)
 obtain ⟨St,hSt⟩:∃ St:{ i:Nat // i≤x.l.length }→AS,∀ i,St i=AS.ofH 29 [(1,.v (.int .i64 k)),(4,.sl 2 4 (cms (ofN (x.l.take i.1) k))),(12,.sl 0 4 (cms x.l)),(13,.v (.int .i64 x.l.length)),(14,.v (.int .i64 i.1))] [(0,.ptr 0 0),(1,.ptr 1 0),(2,.mp 2)] (hisO x s) [((ofN (x.l.take i.1) k).length,32)]:=⟨_,fun _=>rfl⟩
 refine kBG ?_
 refine zX [] hΓ St (fun i=>x.l.length - i.1) ⟨0,by omega⟩ (by rw[hSt];refine qC [0,1,2] [.nil 4] ?_;simp only[aR,seval,kA,kB,hisO,hisC,List.take_zero,ofN,List.filter_nil,kFw,List.length_nil]<;>(and_intros<;>first|rfl|omega|trivial)) ?_
 rintro ⟨i,hle⟩
 rw[hSt]
 simp only
 simp only[aR,seval,kA,kB,hisO,hisC,qD]
 (with_reducible first|refine kE (fun h=>?_) (fun h=>?_)|refine kF (fun h=>?_) (fun h=>?_))
 ·have hlt:i < x.l.length:=by omega
  have e1:=kBd x.l hlt
  have ha:=hl _ (List.getElem_mem hlt)
  have e2:=ofN_take x.l k hlt
  have e3:=ofN_len (x.l.take i) k
  rw[List.length_take]at e3
  generalize x.l[i]=a at *
  obtain ⟨rev,cl,sq,ac⟩:=a
  simp only at e2
  simp only[aR,seval,kA,kB,hisO,hisC,h,e1,qD,cmA]
  repeat (with_reducible refine And.intro ?_ ?_;focus first|omega|kernel_rfl)
  by_cases g:cl=k
  ·rw[if_pos g]at e2
   have e4:cms (ofN (x.l.take (i+1)) k)=cms (ofN (x.l.take i) k)++[.agg [.v (.int .i64 rev),.v (.int .i64 cl),.v (.int .i64 sq),.sl 0 6 (acts ac)]]:=by rw[e2,← kHY];rfl
   have e5:(ofN (x.l.take (i+1)) k).length=(ofN (x.l.take i) k).length+1:=by rw[e2];simp
   simp only[aR,seval,kA,kB,hisO,hisC,g,qD,cmA,wO (n:=(i:Int)+1)]
   repeat (with_reducible refine And.intro ?_ ?_;focus first|omega|kernel_rfl)
   refine kN ⟨i+1,by omega⟩ (by simp only;omega) ?_
   rw[hSt];refine qC [0,1,2] [.live 2] ?_
   simp only[aR,seval,kA,kB,hisO,hisC,e4,e5,g]<;>(and_intros<;>first|rfl|omega|trivial)
  ·rw[if_neg g,List.append_nil]at e2
   simp only[aR,seval,kA,kB,hisO,hisC,g,qD,cmA,wO (n:=(i:Int)+1)]
   repeat (with_reducible refine And.intro ?_ ?_;focus first|omega|kernel_rfl)
   refine kN ⟨i+1,by omega⟩ (by simp only;omega) ?_
   rw[hSt];refine qC [0,1,2] [.live 2] ?_
   simp only[aR,seval,kA,kB,hisO,hisC,e2,g]<;>(and_intros<;>first|rfl|omega|trivial)
 ·have hi2:i=x.l.length:=by omega
  subst hi2
  have e6:=List.take_of_length_le (Nat.le_refl x.l.length)
  simp only[aR,seval,kA,kB,hisO,hisC,h,e6]
  refine call_ownAll_t (by simp[kC]) (by have:=ofN_len x.l k;omega) (fun c hc=>hl c (List.mem_filter.1 hc).1) ?_
  simp only[aR,seval,kA,kB,hisO,hisC]
  refine kW [0,1,2] [] (hisO x s) [] (.sl 0 4 (cms (ofN x.l k))) ⟨rfl,rfl,rfl⟩ ?_
  simp only[aR,seval,kA,kB,hisO,hisC]<;>(and_intros<;>first|rfl|omega|trivial)
section
variable {Γ:Env} {n:Nat} {t:Nat→AV} {hd:Nat→Nat→AV} {d:Option Nat} {K:AS→Prop} {nh nl:Nat} {h:Nat→Option AO} {fm:Nat→Nat} {lv:Nat→Option (Nat×Nat)} {mu:Bool}
theorem call_hof (hC:Γ.get 14=none) {x:Hs} {s:TS} (hx:okHs x) (hl:kG9 x.l) {o ot om:Nat} (hob:h o=some (.cells (hisC x ot 0))) (hT:qL h ot om s) (hne:o≠ot∧o≠om) {k:Int}
    (hk:cont ⟨n,t,hd,⟨nh,h,nl,fm,lv,mu⟩⟩ d (.sl 0 4 (cms (ofN x.l k))) K):kS Tryz.prog Γ false ⟨n,t,hd,⟨nh,h,nl,fm,lv,mu⟩⟩ 14 [.ptr o 0,.v (.int .i64 k)] d K:=by
 obtain ⟨h1,h2,h3⟩:=hT
 have e0:upd h o (some (.cells (hisC x ot 0)))=h:=kEd hob
 have e1:upd h ot (some (.cells [.mp om]))=h:=kEd h1
 have e2:upd h om (some (.map s.es s.cl))=h:=kEd h2
 refine kFg hof_good hC ⟨(x,s,k),hx,hl⟩ [o,ot,om] ⟨by simp[h3,hne.1,hne.2],by simp[dnL,dn],?_,by simp[AV.tagsL,AV.tags],?_⟩ ?_
 ·simp only[hisO,hisC,kAV,kBE,hob,h1,h2,jP,kBc,kAz,kBx,dn_mp,dn_ptr,dn_v,dn_sl]
  simp
 ·simp[z7,j3,hob,h1,h2,hisC,kDt,AO.tags,AV.tagsL,AV.tags]
 ·rintro objs lvs r ⟨rfl,rfl,rfl⟩ hll
  have e3:(hisO x s).length - [o,ot,om].length=0:=rfl
  rw[e3]
  simp only[hisO,hisC,jV,kAB,jT,kB9,j6,kA8,kGU,emb_v,kES,emb_sl,kBC,kAy,kBy,lnC_zero,jQ,kAX,kAC,kAF,kAI,List.length_nil,Nat.add_zero]
  simp only[hisC]at e0
  rw[e0,e1,e2]
  exact hk
end
end Go.Proofs
-- HTh6
namespace Go.Proofs
open Go Go.Rw
section
variable {Γ:Env} {n:Nat} {t:Nat→AV} {hd:Nat→Nat→AV} {d:Option Nat} {K:AS→Prop} {nh nl:Nat} {h:Nat→Option AO} {fm:Nat→Nat} {lv:Nat→Option (Nat×Nat)} {mu:Bool}
theorem call_hnew0 (hΓ:kK Tryz.prog Γ) (hC:Γ.get 8=none) {rev keep:Int} (hr:0≤rev∧rev≤1099511627776) (hp:1≤keep∧keep≤1000)
    (hk:cont ⟨n,t,hd,⟨nh,h,nl,fm,lv,mu⟩⟩ d (.tup [.v (.pointer none),.v (.int .i64 1)]) K) :
    kS Tryz.prog Γ false ⟨n,t,hd,⟨nh,h,nl,fm,lv,mu⟩⟩ 8 [.v (.int .i64 rev),.v (.pointer none),.v (.int .i64 keep)] d K:=by
 refine qF (nn:=32) hΓ [] (by first|assumption|simp[kC,kQ]) Tryz.func8 (by kernel_rfl) rfl (show Tryz.f8.results.toList=[.tmp 6,.tmp 7] from rfl) rfl ?_
 simp only[aR,seval,kA,kB,show (rev < 0)=False from eq_false (by omega),show (rev > 1099511627776)=False from eq_false (by omega),show (keep < 1)=False from eq_false (by omega),show (keep > 1000)=False from eq_false (by omega)]
 exact hk
theorem cutH_any {fm:Nat→Nat} {l:Nat}:cutH fm l (hdOf (Rw.look []))=hdOf (Rw.look []):=by
 funext j i
 cases j<;>rfl
end
def kCS:Cm:=⟨5,1,1,[⟨1,1,0,[97],false,[]⟩]⟩
def kEl:Cm:=⟨6,2,1,[]⟩
def kDK:Hs:=⟨4,[],1,[]⟩
theorem aw17_1:(addN kDK kCS).2=0∧(addN kDK kCS).1.rev=5∧(addN kDK kCS).1.keep=1∧(addN kDK kCS).1.l.length=1:=by decide +kernel
theorem aw17_2:(addN (addN kDK kCS).1 kEl).2=0∧(addN (addN kDK kCS).1 kEl).1.rev=6∧(addN (addN kDK kCS).1 kEl).1.keep=1∧(addN (addN kDK kCS).1 kEl).1.l.length=1∧(ofN (addN (addN kDK kCS).1 kEl).1.l 1).length=0:=by decide +kernel
theorem aw17_ok:okCm kCS:=⟨by decide,fun a ha=>by
 simp only[kCS,List.mem_singleton]at ha
 subst ha
 exact ⟨by unfold okL;decide,by decide⟩⟩
theorem aw17_cms:kG9 (addN (addN kDK kCS).1 kEl).1.l:=by
 have:(addN (addN kDK kCS).1 kEl).1.l=[kEl]:=by decide +kernel
 rw[this]
 intro c hc
 rw[List.mem_singleton]at hc
 subst hc
 exact ⟨by decide,by simp[kEl]⟩
set_option maxHeartbeats 4000000 in
theorem awake17_good:Rw.Good Tryz.prog 7 kFJ:=by
 have hΓ:kK Tryz.prog [(31,jI)]:=(kG kDL kI)
 refine kC8 (nn:=89) Tryz.func7 (by kernel_rfl) rfl (show Tryz.f7.results.toList=[.tmp 0] from rfl) (fun _=>rfl) (fun x=>by simp[AV.erL,AV.er]) ?_
 rintro ⟨⟩
 refine qU hΓ (Ws:=[]) _ ?_
 simp only[aR,seval,kA,kB,]
 refine call_tnew (by simp[kC,kQ]) ?_
 simp only[aR,seval,kA,kB,]
 repeat (with_reducible refine And.intro ?_ ?_;focus first|omega|kernel_rfl)
 refine call_hnew hΓ (by simp[kC,kQ]) (by simp[kC,kQ]) (s:=ts0) (o:=0) (ob:=1) (by simp[qL,upd,ts0]) (by omega) (by omega) ?_
 simp only[aR,seval,kA,kB,ts0]
 repeat (with_reducible refine And.intro ?_ ?_;focus first|omega|kernel_rfl)
 refine call_hnew0 hΓ (by simp[kC,kQ]) (by omega) (by omega) ?_
 simp only[aR,seval,kA,kB,]
 repeat (with_reducible refine And.intro ?_ ?_;focus first|omega|kernel_rfl)
 refine vcCall_dead (by simp[kC,kQ]) ⟨_,Tryz.func10,by kernel_rfl,rfl⟩ (bs:=[.ptr 4 0,cmT 0 kCS]) [2] rfl ?_ ?_
 ·intro k
  match k with
  | 0=>exact .inl rfl
  | 1=>exact .inr ⟨by simp [cmT,kCS,acts,aA,AV.er,AV.erL,qI],by simp [AV.tags,AV.tagsL]⟩
  | k+2=>exact .inl rfl
 refine vcCall_live (by simp[kC,kQ]) ⟨_,Tryz.func10,by kernel_rfl,rfl⟩ (o:=4) (k:=3) (sz:=4) 32 (kU _ _ _) rfl (by omega) ?_
 refine kGX hΓ (by simp[kC,kQ]) (by simp[kC,kQ]) (by simp[kC,kQ]) (by simp[kC]) (x:=kDK) (s:=ts0) (o:=4) (ot:=2) (om:=3) (lt:=3) (la:=0) (c:=kCS) rfl (by simp[kDK,okHs]) rfl snd_nil aw17_ok (by rw[kU];rfl) (by simp[qL,upd,ts0]) (by omega) (by omega) (by simp[kU,kDK]) ⟨?_,?_⟩ (by omega) (by simp[kU,kJ]) (by simp[cutT_upd,kCg,cut_v,cut_any,cut_ptr,cut_mp,cut_sl,cut_agg,cut_tup,cut_fn,kFM,kDj,kU,kJ]) rfl ?_ ?_
 ·intro j y hj
  simp only[upd]at hj
  repeat' split at hj
  all_goals first|omega|cases hj
 ·intro j hj
  simp only[upd]
  repeat' split
  all_goals first|contradiction|rfl
 ·exact fun _ _ _ hne=>absurd aw17_1.1 hne
 intro h1 s1 f1 o1 a1 T1 hs1 S1 _
 obtain ⟨_,r1,k1,l1⟩:=aw17_1
 obtain ⟨z2,r2,k2,l2,n2⟩:=aw17_2
 generalize hx1:(addN kDK kCS).1=x1 at *
 simp only[aR,seval,kA,kB,]
 repeat (with_reducible refine And.intro ?_ ?_;focus first|omega|kernel_rfl)
 refine kGX hΓ (by simp[kC,kQ]) (by simp[kC,kQ]) (by simp[kC,kQ]) (by simp[kC]) (x:=x1) (s:=s1) (o:=4) (ot:=6) (om:=7) (lt:=3) (la:=1) (c:=kEl) rfl (by refine ⟨?_,?_,?_⟩<;>omega) hs1 S1 ⟨by decide,by simp[kEl]⟩ o1 T1 (by omega) (by omega) (by simp[kU,l1]) a1 (by omega) (by simp[kU,kJ]) (by simp[cutT_upd,kCg,cut_v,cut_any,cut_ptr,cut_mp,cut_sl,cut_agg,cut_tup,cut_fn,kFM,kDj,kU,kJ]) rfl ?_ ?_
 ·exact fun _ _ _ hne=>absurd z2 hne
 intro h2 s2 f2 o2 a2 T2 hs2 S2 _
 generalize hx2:(addN x1 kEl).1=x2 at *
 have okx:okHs x2:=by refine ⟨?_,?_,?_⟩<;>omega
 have okc:kG9 x2.l:=by
  rw[← hx2,← hx1]
  exact aw17_cms
 simp only[aR,seval,kA,kB,]
 repeat (with_reducible refine And.intro ?_ ?_;focus first|omega|kernel_rfl)
 refine vcCall_deadO (by simp[kC,kQ]) ⟨_,Tryz.func13,by kernel_rfl,rfl⟩ (k:=3) o2 rfl ?_
 refine kBa hΓ (by simp[kC,kQ]) (by simp[kC,kQ]) (by simp[kC,kQ]) (by simp[kC]) okx okc (kU _ _ _) (by omega) ?_
 rw[show sinR x2 4=([],14) by unfold sinR;rw[if_neg (by omega),if_pos (by omega)]]
 simp only[aR,seval,kA,kB,kFw]
 repeat (with_reducible refine And.intro ?_ ?_;focus first|omega|kernel_rfl)
 refine kBa hΓ (by simp[kC,kQ]) (by simp[kC,kQ]) (by simp[kC,kQ]) (by simp[kC]) okx okc (kU _ _ _) (by omega) ?_
 rw[show sinR x2 7=([],15) by unfold sinR;rw[if_pos (by omega)]]
 simp only[aR,seval,kA,kB,kFw]
 repeat (with_reducible refine And.intro ?_ ?_;focus first|omega|kernel_rfl)
 refine kBa hΓ (by simp[kC,kQ]) (by simp[kC,kQ]) (by simp[kC,kQ]) (by simp[kC]) okx okc (kU _ _ _) (by omega) ?_
 rw[show sinR x2 5=(x2.l,0) by unfold sinR;rw[if_neg (by omega),if_neg (by omega),show (5 - (x2.rev - x2.l.length)).toNat=0 by omega,List.drop_zero]]
 simp only[aR,seval,kA,kB,qD,l2]
 repeat (with_reducible refine And.intro ?_ ?_;focus first|omega|kernel_rfl)
 refine kFv hΓ (by simp[kC,kQ]) (by simp[kC,kQ]) okx (kU _ _ _) ?_
 simp only[aR,seval,kA,kB,show x2.rev - (x2.l.length:Int)=5 by omega,qD]
 repeat (with_reducible refine And.intro ?_ ?_;focus first|omega|kernel_rfl)
 refine call_hof (by simp[kC,kQ]) (x:=x2) (s:=s2) (o:=4) (ot:=9) (om:=10) okx okc (by rw[kU]) ?_ (by omega) ?_
 ·exact ⟨by rw[kJ _ _ (by omega)];exact T2.1,by rw[kJ _ _ (by omega)];exact T2.2.1,by omega⟩
 simp only[aR,seval,kA,kB,qD,n2]
end Go.Proofs
-- HTh7
namespace Go.Proofs
open Go Go.Rw
theorem zQ {Γ:Env} (hf:Γ.get 7=some kFJ) {n:Nat} {t:Nat→AV} {hd:Nat→Nat→AV} {nh nl:Nat} {h:Nat→Option AO} {fm:Nat→Nat} {lv:Nat→Option (Nat×Nat)} {mu:Bool} {dr:Bool} {d:Option Nat} {K:AS→Prop}
    (hk:cont ⟨n,t,hd,⟨nh,h,nl,fm,lv,mu⟩⟩ d (.v (.bool true)) K):kS Tryz.prog Γ dr ⟨n,t,hd,⟨nh,h,nl,fm,lv,mu⟩⟩ 7 [] d K :=
 jH (C:=kFJ) (i:=()) (r:=.v (.bool true)) hf rfl rfl (by simp[AV.erL]) rfl (fun _ h=>h) (by simp only[AV.er];exact hk)
theorem ofL_lt {objs:List AO}:∀ j y,(fun o=>objs[o]?) j=some y→j < objs.length:=fun j y hj=>(List.getElem?_eq_some_iff.1 hj).1
end Go.Proofs
-- HTh8
namespace Go.Proofs
open Go Go.Rw
section
variable {Γ:Env} {n:Nat} {t:Nat→AV} {hd:Nat→Nat→AV} {d:Option Nat} {K:AS→Prop} {nh nl:Nat} {h:Nat→Option AO} {fm:Nat→Nat} {lv:Nat→Option (Nat×Nat)} {mu:Bool}
end
structure FoldI (keep:Int) (x:Hs) (all:List Cm) (tr:List (List Nd)):Prop where
 tl:tr.length=all.length+1
 xr:x.rev=all.length
 xk:x.keep=keep
 xl:x.l=all.drop (all.length - keep.toNat)
 xs:tr[all.length]? = some x.s
 st:∀ (i:Nat) (c:Cm) (t:List Nd),all[i]? = some c→tr[i]? = some t→c.rev=(i:Int)+1∧(allN t c.acs).e=0∧tr[i+1]? = some (allN t c.acs).now
 sn:∀ t∈tr,sndN t
 ok:∀ c∈all,okCm c
end Go.Proofs
-- HTi1
namespace Go.Proofs
open Go Go.Rw
def mC (x:Hs):List AV:=[.v (.int .i64 x.rev),.v (.int .i64 x.keep),.sl 0 5 (kT x.s),.sl 0 4 (cms x.l)]
abbrev maddCon:ConO where
 ι:={ p:Hs×Cm // okHs p.1∧sndN p.1.s∧okCm p.2∧p.1.l.length≤p.1.keep.toNat }
 objs:=fun p=>[.cells (mC p.1.1)]
 args:=fun p=>[.ptr 0 0,cmT 0 p.1.2]
 post:=fun p objs lvs r=>objs=[.cells (mC (addN p.1.1 p.1.2).1)]∧lvs=[]∧r = .v (.int .i64 (addN p.1.1 p.1.2).2)
set_option maxHeartbeats 4000000 in
theorem madd_good:kAJ Tryz.prog 21 maddCon:=by
 have hΓ:kK Tryz.prog [(18,kFK)]:=(kG rdoall_good kI)
 refine qQ (nn:=81) Tryz.func21 (by kernel_rfl) rfl (show Tryz.f21.results.toList=[.tmp 4] from rfl) (fun _=>rfl) ?_
 rintro ⟨⟨x,c⟩,hx,S,hc,hle⟩
 simp only at hx S hc hle
 obtain ⟨rev,cl,sq,ac⟩:=c
 obtain ⟨hc1,hc2⟩:=hc
 simp only at hc1 hc2
 have hx':=hx
 obtain ⟨hx1,hx2,hx3⟩:=hx
 refine qU hΓ (Ws:=[(3,[],[6]),(8,[0,2008],[]),(10,[0,0,0,0,0,1,0,0,0],[])]) _ ?_
 simp only[aR,seval,kA,kB,mC,cmT]
 by_cases hA:rev≠x.rev+1∨cl < 1∨sq < 1
 ·have ha:addN x ⟨rev,cl,sq,ac⟩=(x,1):=by unfold addN;rw[if_pos hA]
  by_cases g1:rev=x.rev+1
  ·subst g1
   by_cases g2:cl < 1
   ·simp only[aR,seval,kA,kB,mC,g2,wO (n:=x.rev+1)]
    repeat (with_reducible refine And.intro ?_ ?_;focus first|omega|kernel_rfl)
    refine kW [0] [] [.cells (mC x)] [] (.v (.int .i64 1)) (by exact ⟨by rw[ha],rfl,by rw[ha]⟩) ?_
    simp only[aR,seval,kA,kB,mC]<;>(and_intros<;>first|rfl|omega|trivial)
   ·have g3:sq < 1:=by omega
    simp only[aR,seval,kA,kB,mC,g2,g3,wO (n:=x.rev+1)]
    repeat (with_reducible refine And.intro ?_ ?_;focus first|omega|kernel_rfl)
    refine kW [0] [] [.cells (mC x)] [] (.v (.int .i64 1)) (by exact ⟨by rw[ha],rfl,by rw[ha]⟩) ?_
    simp only[aR,seval,kA,kB,mC]<;>(and_intros<;>first|rfl|omega|trivial)
  ·simp only[aR,seval,kA,kB,mC,g1,wO (n:=x.rev+1)]
   repeat (with_reducible refine And.intro ?_ ?_;focus first|omega|kernel_rfl)
   refine kW [0] [] [.cells (mC x)] [] (.v (.int .i64 1)) (by exact ⟨by rw[ha],rfl,by rw[ha]⟩) ?_
   simp only[aR,seval,kA,kB,mC]<;>(and_intros<;>first|rfl|omega|trivial)
 have g1:rev=x.rev+1:=by omega
 have g2:¬ cl < 1:=by omega
 have g3:¬ sq < 1:=by omega
 subst g1
 simp only[aR,seval,kA,kB,kR,mC,g2,g3,wO (n:=x.rev+1)]
 repeat (with_reducible refine And.intro ?_ ?_;focus first|omega|kernel_rfl)
 have tok:okT x.s:=⟨by have:=S.len;omega,fun y hy=>(snd_ok S).2.2.2 y hy⟩
 refine call_doall (by simp[kC]) rfl rfl tok hc1 hc2 (.inl rfl) (.inl rfl) ?_
 by_cases he:(allN x.s ac).e=0
 case neg =>
  have ha:addN x ⟨x.rev+1,cl,sq,ac⟩=(x,(allN x.s ac).e):=by unfold addN;rw[if_neg hA,if_pos he]
  simp only[aR,seval,kA,kB,kR,mC,he,kBi]
  refine kW [0] [] [.cells (mC x)] [] (.v (.int .i64 (allN x.s ac).e)) (by exact ⟨by rw[ha],rfl,by rw[ha]⟩) ?_
  simp only[aR,seval,kA,kB,mC]<;>(and_intros<;>first|rfl|omega|trivial)
 have ha:addN x ⟨x.rev+1,cl,sq,ac⟩=(⟨x.rev+1,(allN x.s ac).now,x.keep,(x.l++[(⟨x.rev+1,cl,sq,ac⟩:Cm)]).drop (x.l.length+1 - x.keep.toNat)⟩,0):=by
  unfold addN
  rw[if_neg hA,if_neg (fun hh=>hh he)]
 have ecm:cms x.l++[AV.agg [.v (.int .i64 (x.rev+1)),.v (.int .i64 cl),.v (.int .i64 sq),.sl 0 6 (acts ac)]]=cms (x.l++[⟨x.rev+1,cl,sq,ac⟩]):=by simp[cms,cmA]
 have hlen:(x.l++[(⟨x.rev+1,cl,sq,ac⟩:Cm)]).length=x.l.length+1:=by simp
 have hlc:((x.l.length+1:Nat):Int)=(x.l.length:Int)+1:=by omega
 simp only[aR,seval,kA,kB,kR,mC,he,kBi,qD,wO (n:=x.rev+1)]
 repeat (with_reducible refine And.intro ?_ ?_;focus first|omega|kernel_rfl)
 by_cases g5:x.l.length < x.keep.toNat
 ·simp only[aR,seval,kA,kB,kR,mC,ecm,qD,hlen,hlc,show ((x.l.length:Int)+1 > x.keep)=False from eq_false (by omega)]
  refine kW [0] [] [.cells (mC (addN x ⟨x.rev+1,cl,sq,ac⟩).1)] [] (.v (.int .i64 0)) (by exact ⟨rfl,rfl,by rw[ha]⟩) ?_
  rw[ha,show x.l.length+1 - x.keep.toNat=0 by omega,List.drop_zero]
  simp only[aR,seval,kA,kB,mC]<;>(and_intros<;>first|rfl|omega|trivial)
 ·simp only[aR,seval,kA,kB,kR,kAa,mC,ecm,qD,hlen,hlc,show ((x.l.length:Int)+1 > x.keep)=True from eq_true (by omega)]
  repeat (with_reducible refine And.intro ?_ ?_;focus first|omega|kernel_rfl)
  refine kW [0] [] [.cells (mC (addN x ⟨x.rev+1,cl,sq,ac⟩).1)] [] (.v (.int .i64 0)) (by exact ⟨rfl,rfl,by rw[ha]⟩) ?_
  rw[ha,show x.l.length+1 - x.keep.toNat=1 by omega]
  have hcd:=cms_drop (x.l++[(⟨x.rev+1,cl,sq,ac⟩:Cm)]) 1
  simp only[aR,seval,kA,kB,mC]<;>(and_intros<;>first|rfl|omega|trivial)
section
variable {Γ:Env} {n:Nat} {t:Nat→AV} {hd:Nat→Nat→AV} {d:Option Nat} {K:AS→Prop} {nh nl:Nat} {h:Nat→Option AO} {fm:Nat→Nat} {lv:Nat→Option (Nat×Nat)} {mu:Bool}
theorem call_madd (hC:Γ.get 21=none) {x:Hs} {c:Cm} {y:AV} (hy:y=cmT 0 c) (hx:okHs x) (S:sndN x.s) (hc:okCm c) (hle:x.l.length≤x.keep.toNat) {o:Nat} (hob:h o=some (.cells (mC x)))
    (hk:cont ⟨n,t,hd,⟨nh,upd h o (some (.cells (mC (addN x c).1))),nl,fm,lv,mu⟩⟩ d (.v (.int .i64 (addN x c).2)) K):kS Tryz.prog Γ false ⟨n,t,hd,⟨nh,h,nl,fm,lv,mu⟩⟩ 21 [.ptr o 0,y] d K:=by
 subst hy
 refine kFg madd_good hC ⟨(x,c),hx,S,hc,hle⟩ [o] ⟨by simp,by simp[dnL,dn,cmT],?_,by simp[AV.tagsL,AV.tags,cmT],?_⟩ ?_
 ·simp only[mC,kAV,kBE,hob,jP,kAz,kBx,dn_v,dn_sl]
  simp
 ·simp[z7,j3,hob,mC,kDt,AO.tags,AV.tagsL,AV.tags]
 ·rintro objs lvs r ⟨rfl,rfl,rfl⟩ hll
  simp only[mC,jV,kAB,jT,j6,kA8,emb_v,emb_sl,kBC,kAy,kBy,lnC_zero,jQ,kAX,kAC,kAF,kAI,List.length_cons,List.length_nil,Nat.add_zero]
  exact hk
theorem call_mold (hΓ:kK Tryz.prog Γ) (hC:Γ.get 45=none) {x:Hs} (hx:okHs x) {o:Nat} (hob:h o=some (.cells (mC x)))
    (hk:cont ⟨n,t,hd,⟨nh,h,nl,fm,lv,mu⟩⟩ d (.v (.int .i64 (x.rev - x.l.length))) K):kS Tryz.prog Γ false ⟨n,t,hd,⟨nh,h,nl,fm,lv,mu⟩⟩ 45 [.ptr o 0] d K:=by
 refine qF (nn:=13) hΓ [] (by first|assumption|simp[kC,kQ]) Tryz.func45 (by kernel_rfl) rfl (show Tryz.f45.results.toList=[.tmp 2] from rfl) rfl ?_
 simp only[aR,seval,kA,kB,hob,mC,qD,wO (n:=x.rev - x.l.length)]
 repeat (with_reducible refine And.intro ?_ ?_;focus first|omega|kernel_rfl)
 exact hk
theorem vq_mold (hΓ:kK Tryz.prog Γ) (hC:Γ.get 45=none) {x:Hs} (hx:okHs x) {o:Nat} (hob:h o=some (.cells (mC x)))
    (hk:cont ⟨n,t,hd,⟨nh,h,nl,fm,lv,mu⟩⟩ d (.v (.int .i64 (x.rev - x.l.length))) K):callQ.callQ2 Tryz.prog Γ d K ⟨n,t,hd,⟨nh,h,nl,fm,lv,mu⟩⟩ (Γ.get 45) 45 [.ptr o 0]:=by
 rw[hC]
 refine ⟨(.v (.int .i64 (x.rev - x.l.length))),kCZ hC ⟨_,Tryz.func45,by kernel_rfl,rfl⟩ (fun _=>trivial) (fun n' t' hd' m' hn hh=>?_),hk⟩
 obtain ⟨nh',h',nl',fm',lv',mu'⟩:=m'
 exact call_mold hΓ hC hx (hh _ _ hob) ⟨hn,_,_,rfl,Nat.le_refl _,fun _ _ h=>h⟩
theorem call_msince (hΓ:kK Tryz.prog Γ) (hC:Γ.get 27=none) (hC1:Γ.get 45=none) {x:Hs} (hx:okHs x) {o:Nat} (hob:h o=some (.cells (mC x))) {r:Int} (hr:-9223372036854775808≤r∧r≤9223372036854775807)
    (hk:cont ⟨n,t,hd,⟨nh,h,nl,fm,lv,mu⟩⟩ d (.tup [.sl (if (sinR x r).2=0 then 0 else 1) 4 (cms (sinR x r).1),.v (.int .i64 (sinR x r).2)]) K):kS Tryz.prog Γ false ⟨n,t,hd,⟨nh,h,nl,fm,lv,mu⟩⟩ 27 [.ptr o 0,.v (.int .i64 r)] d K:=by
 refine qF (nn:=27) hΓ [] (by first|assumption|simp[kC,kQ]) Tryz.func27 (by kernel_rfl) rfl (show Tryz.f27.results.toList=[.tmp 4,.tmp 5] from rfl) rfl ?_
 unfold sinR at hk
 by_cases g1:r > x.rev
 ·rw[if_pos g1]at hk
  simp only[aR,seval,kA,kB,hob,mC,g1]
  exact hk
 rw[if_neg g1]at hk
 simp only[aR,seval,kA,kB,hob,mC,g1]
 refine call_mold hΓ hC1 hx hob ?_
 obtain ⟨hx1,hx2,hx3⟩:=hx
 by_cases g2:r < x.rev - x.l.length
 ·rw[if_pos g2]at hk
  simp only[aR,seval,kA,kB,hob,mC,g2]
  exact hk
 rw[if_neg g2]at hk
 simp only[aR,seval,kA,kB,hob,mC,g2]
 repeat (with_reducible refine And.intro ?_ ?_;focus first|omega|kernel_rfl)
 refine vq_mold hΓ hC1 ⟨hx1,hx2,hx3⟩ hob ?_
 obtain ⟨i,hi⟩:∃ i:Nat,r - (x.rev - x.l.length)=i:=⟨(r - (x.rev - x.l.length)).toNat,by omega⟩
 have hit:(r - (x.rev - x.l.length)).toNat=i:=by omega
 rw[hit]at hk
 have hw:IntKind.wrap .i64 (r - (x.rev - x.l.length))=i:=by rw[hi,kD (by omega) (by omega)]
 have hle:i≤x.l.length:=by omega
 simp only[aR,seval,kA,kB,hob,mC,hw,qD,partA_cms]
 repeat (with_reducible refine And.intro ?_ ?_;focus first|omega|kernel_rfl)
 exact hk
end
end Go.Proofs
-- HTi2
namespace Go.Proofs
open Go Go.Rw
theorem call_sacts_q {Γ:Env} (hf:Γ.get 44=some kFC) {σ:AS} {dr:Bool} {a b:List Ac} {t1 t2:Nat} {xs ys:List AV} {d:Option Nat} {K:AS→Prop} (hx:xs=acts a) (hy:ys=acts b) (ha:a.length≤1099511627776) (hao:∀ x∈a,okL x.ops) (hb:b.length≤1099511627776) (hbo:∀ x∈b,okL x.ops)
    (hk:cont σ d (.v (.bool (decide (a=b)))) K):kS Tryz.prog Γ dr σ 44 [.sl t1 6 xs,.sl t2 6 ys] d K:=by
 subst hx hy
 exact kP (C:=kFC) (i:=(⟨a,ha,hao⟩,⟨b,hb,hbo⟩)) hf rfl rfl rfl (by simp[AV.erL,AV.er]) (fun _ h=>h) rfl hk
abbrev CmsS:={ l:List Cm // l.length≤1099511627776∧∀ c∈l,okCm c }
abbrev kEz:Con where
 ι:=CmsS×CmsS
 args:=fun p=>[.sl 0 4 (cms p.1.1),.sl 0 4 (cms p.2.1)]
 post:=fun p r=>r = .v (.bool (decide (p.1.1=p.2.1)))
 plain:=true
set_option maxHeartbeats 4000000 in
theorem scoms_good:Rw.Good Tryz.prog 23 kEz:=by
 have hΓ:kK Tryz.prog [(44,kFC)]:=(kG sacts_good kI)
 refine kC8 (nn:=68) Tryz.func23 (by kernel_rfl) rfl (show Tryz.f23.results.toList=[.tmp 4] from rfl) (fun _=>rfl) (fun x=>by simp[AV.erL,AV.er,kGG]) ?_
 rintro ⟨⟨a,ha,hao⟩,⟨b,hb,hbo⟩⟩
 refine qU hΓ (Ws:=[]) _ ?_
 simp only[aR,seval,kA,kB,qD]
 by_cases hl:a.length=b.length
 case neg =>
  have hne:a≠b:=fun e=>hl (by rw[e])
  simp only[aR,seval,kA,kB,show ((a.length:Int)=b.length)=False from eq_false (by omega),hne]
 simp only[aR,seval,kA,kB,hl,qD]
 obtain ⟨St,hSt⟩:∃ St:{ i:Nat // i≤b.length∧a.take i=b.take i }→AS,∀ i,St i=AS.of 68 [(0,.sl 0 4 (cms a)),(1,.sl 0 4 (cms b)),(5,.v (.int .i64 i.1))] [] []:=⟨_,fun _=>rfl⟩
 refine kBG ?_
 refine zX [] hΓ St (fun i=>b.length - i.1) ⟨0,by omega,by simp⟩ (by rw[hSt];refine kO [] [] ?_;simp only[aR,seval,kA,kB,]<;>(and_intros<;>first|rfl|omega|trivial)) ?_
 rintro ⟨i,hi,hs⟩
 rw[hSt]
 simp only
 simp only[aR,seval,kA,kB,qD]
 (with_reducible first|refine kE (fun h=>?_) (fun h=>?_)|refine kF (fun h=>?_) (fun h=>?_))
 ·have hlt:i < a.length:=by omega
  have hlt2:i < b.length:=by omega
  have e1:=kBd a hlt
  have e2:=kBd b hlt2
  have hx:=hao _ (List.getElem_mem hlt)
  have hy:=hbo _ (List.getElem_mem hlt2)
  have ta:=List.take_succ_eq_append_getElem hlt
  have tb:=List.take_succ_eq_append_getElem hlt2
  have hab:a[i]=b[i]→a.take (i+1)=b.take (i+1):=fun he=>by rw[ta,tb,he,hs]
  have hne:¬ a[i]=b[i]→a≠b:=fun he hh=>he (by subst hh;rfl)
  generalize a[i]=x at *
  generalize b[i]=y at *
  obtain ⟨r1,c1,s1,a1⟩:=x
  obtain ⟨r2,c2,s2,a2⟩:=y
  obtain ⟨hx1,hx2⟩:=hx
  obtain ⟨hy1,hy2⟩:=hy
  simp only[Cm.mk.injEq]at hne hx1 hx2 hy1 hy2
  by_cases g1:r1=r2
  case neg =>
   simp only[aR,seval,kA,kB,h,e1,e2,cmA,qD,g1,hne (fun hh=>g1 hh.1)]
   repeat (with_reducible refine And.intro ?_ ?_;focus first|omega|kernel_rfl)
   omega
  by_cases g2:c1=c2
  case neg =>
   simp only[aR,seval,kA,kB,h,e1,e2,cmA,qD,g1,g2,hne (fun hh=>g2 hh.2.1)]
   repeat (with_reducible refine And.intro ?_ ?_;focus first|omega|kernel_rfl)
   omega
  by_cases g3:s1=s2
  case neg =>
   simp only[aR,seval,kA,kB,h,e1,e2,cmA,qD,g1,g2,g3,hne (fun hh=>g3 hh.2.2.1)]
   repeat (with_reducible refine And.intro ?_ ?_;focus first|omega|kernel_rfl)
   omega
  simp only[aR,seval,kA,kB,h,e1,e2,cmA,qD,g1,g2,g3]
  repeat (with_reducible refine And.intro ?_ ?_;focus first|omega|kernel_rfl)
  refine call_sacts_q (by simp[kC]) rfl rfl (by omega) (fun z hz=>(hx2 z hz).1) (by omega) (fun z hz=>(hy2 z hz).1) ?_
  by_cases g4:a1=a2
  ·subst g1 g2 g3 g4
   simp only[aR,seval,kA,kB,decide_true,wO (n:=(i:Int)+1)]
   repeat (with_reducible refine And.intro ?_ ?_;focus first|omega|kernel_rfl)
   refine kN ⟨i+1,by omega,hab rfl⟩ (by simp only;omega) ?_
   rw[hSt];refine kO [] [] ?_
   simp only[aR,seval,kA,kB,]<;>(and_intros<;>first|rfl|omega|trivial)
  ·simp only[aR,seval,kA,kB,g4,decide_false,hne (fun hh=>g4 hh.2.2.2)]
   repeat (with_reducible refine And.intro ?_ ?_;focus first|omega|kernel_rfl)
 ·have e1:a.take i=a:=List.take_of_length_le (by omega)
  have e2:b.take i=b:=List.take_of_length_le (by omega)
  rw[e1,e2]at hs
  simp only[aR,seval,kA,kB,h,hs]
theorem kHL {Γ:Env} (hf:Γ.get 23=some kEz) {σ:AS} {dr:Bool} {a b:List Cm} {t1 t2:Nat} {xs ys:List AV} {d:Option Nat} {K:AS→Prop} (hx:xs=cms a) (hy:ys=cms b) (ha:a.length≤1099511627776) (hao:∀ x∈a,okCm x) (hb:b.length≤1099511627776) (hbo:∀ x∈b,okCm x)
    (hk:cont σ d (.v (.bool (decide (a=b)))) K):kS Tryz.prog Γ dr σ 23 [.sl t1 4 xs,.sl t2 4 ys] d K:=by
 subst hx hy
 exact kP (C:=kEz) (i:=(⟨a,ha,hao⟩,⟨b,hb,hbo⟩)) hf rfl rfl rfl (by simp[AV.erL,AV.er]) (fun _ h=>h) rfl hk
abbrev tnodesDCon:ConO where
 ι:={ s:TS // kFk s.l }
 objs:=fun p=>tsO (some p.1)
 args:=fun p=>[.ptr 0 0]
 post:=fun p objs lvs r=>objs=tsO (some p.1)∧lvs=[]∧r = .sl 0 5 (kT p.1.l)
set_option maxHeartbeats 1000000 in
theorem tnodesD_good:kAJ Tryz.prog 17 tnodesDCon:=by
 have hΓ:kK Tryz.prog []:=kI
 refine qQ (nn:=29) Tryz.func17 (by kernel_rfl) rfl (show Tryz.f17.results.toList=[.tmp 2] from rfl) (fun _=>rfl) ?_
 rintro ⟨s,hi⟩
 refine qU hΓ (Ws:=[]) _ ?_
 have e1:=kBe s.h
 simp only[aR,seval,kA,kB,kH,e1]
 repeat (with_reducible refine And.intro ?_ ?_;focus first|omega|kernel_rfl)
 refine qF (nn:=4) hΓ [] (by first|assumption|simp[kC,kQ]) Tryz.func35 (by kernel_rfl) rfl (show Tryz.f35.results.toList=[.tmp 2] from rfl) rfl ?_
 simp only[aR,seval,kA,kB,]
 repeat (with_reducible refine And.intro ?_ ?_;focus first|omega|kernel_rfl)
 refine call_keys (es:=s.es) (cl:=s.cl) (ob:=1) hΓ (by simp[kC,kQ]) (by simp[upd]) (by simp[upd]) s.h hi ?_
 simp only[aR,seval,kA,kB,]
 repeat (with_reducible refine And.intro ?_ ?_;focus first|omega|kernel_rfl)
 have hmem:∀ {i:Nat},(h:i < s.l.length)→gN s.l s.l[i].id=s.l[i]:=fun h=>by
  unfold gN
  rw[kFO (kGN s.h.2) _ (List.getElem?_eq_getElem h),List.getD_eq_getElem?_getD,List.getElem?_eq_getElem h];rfl
 have hil:(ints .i64 (s.l.map Nd.id)).length=s.l.length:=by simp[ints]
 obtain ⟨St,hSt⟩:∃ St:{ i:Nat // i≤s.l.length }→AS,∀ i,St i=AS.ofH 29 [(0,.ptr 0 0),(2,.sl 2 5 (kT (s.l.take i.1))),(12,.sl 0 1 (ints .i64 (s.l.map Nd.id))),(13,.v (.int .i64 s.l.length)),(14,.v (.int .i64 i.1))] [(0,.ptr 0 0),(1,.mp 1)] (tsO (some s)) [(i.1,82)]:=⟨_,fun _=>rfl⟩
 have hl:=hi.1
 refine kBG ?_
 refine zX [] hΓ St (fun i=>s.l.length - i.1) ⟨0,by omega⟩ (by rw[hSt];refine qC [0,1] [.nil 5] ?_;simp only[aR,seval,kA,kB,kH,List.take_zero,kG5,hil]<;>(and_intros<;>first|rfl|omega|trivial)) ?_
 rintro ⟨i,hle⟩
 rw[hSt]
 simp only
 simp only[aR,seval,kA,kB,kH]
 (with_reducible first|refine kE (fun h=>?_) (fun h=>?_)|refine kF (fun h=>?_) (fun h=>?_))
 ·have hlt:i < s.l.length:=by omega
  have e2:(ints .i64 (s.l.map Nd.id)).getD i .any = .v (.int .i64 s.l[i].id):=by simp[ints,List.getD_eq_getElem?_getD,hlt]
  have e3:=hmem hlt
  have e4:kT (s.l.take (i+1))=kT (s.l.take i)++[nA s.l[i]]:=by
   show (s.l.take (i+1)).map nA=(s.l.take i).map nA++[nA s.l[i]]
   rw[List.take_succ_eq_append_getElem hlt,List.map_append];rfl
  have e5:(kT (s.l.take i)).length=i:=by rw[kL,List.length_take];omega
  generalize s.l[i]=x at *
  simp only[aR,seval,kA,kB,kH,h,e1,e2,e3,nA,hil,e5,wO (n:=(i:Int)+1)]
  repeat (with_reducible refine And.intro ?_ ?_;focus first|omega|kernel_rfl)
  refine kN ⟨i+1,by omega⟩ (by simp only;omega) ?_
  rw[hSt];refine qC [0,1] [.live 2] ?_
  simp only[aR,seval,kA,kB,kH,e4,nA]<;>(and_intros<;>first|rfl|omega|trivial)
 ·have hi2:i=s.l.length:=by omega
  subst hi2
  have e6:=List.take_of_length_le (Nat.le_refl s.l.length)
  simp only[aR,seval,kA,kB,kH,h,e6]
  refine kW [0,1] [] (tsO (some s)) [] (.sl 0 5 (kT s.l)) ⟨rfl,rfl,rfl⟩ ?_
  simp only[aR,seval,kA,kB,kH]<;>(and_intros<;>first|rfl|omega|trivial)
section
variable {Γ:Env} {n:Nat} {t:Nat→AV} {hd:Nat→Nat→AV} {d:Option Nat} {K:AS→Prop} {nh nl:Nat} {h:Nat→Option AO} {fm:Nat→Nat} {lv:Nat→Option (Nat×Nat)} {mu:Bool}
theorem vq_tnodes (hC:Γ.get 17=none) {s:TS} (hi:kFk s.l) {o ob:Nat} (hT:qL h o ob s)
    (hk:cont ⟨n,t,hd,⟨nh,h,nl,fm,lv,mu⟩⟩ d (.sl 0 5 (kT s.l)) K):callQ.callQ2 Tryz.prog Γ d K ⟨n,t,hd,⟨nh,h,nl,fm,lv,mu⟩⟩ (Γ.get 17) 17 [.ptr o 0]:=by
 rw[hC]
 obtain ⟨h1,h2,h3⟩:=hT
 refine ⟨_,still_obj tnodesD_good ⟨s,hi⟩ [o,ob] (by simp[h3]) (by simp[dnL,dn]) ?_ (by simp[AV.tagsL,AV.tags]) ?_ ?_ (fun _ _ _ hp=>⟨hp.1,hp.2.1,hp.2.2,by simp[AV.er]⟩),hk⟩
 ·simp only[tsO,kAV,kBE,h1,h2,jP,kBc,kAz,kBx,dn_mp]
  simp
 ·simp[z7,j3,h1,h2,kDt,AO.tags,AV.tagsL,AV.tags]
 ·intro nh nl j q x y hj hx hy
  match j,hj,hx with
  | 0,hj,hx=>cases hj;simp [tsO] at hx;subst hx;have hy2:h o=some y:=hy;rw [h1] at hy2;cases hy2;rfl
  | 1,hj,hx=>cases hj;simp [tsO] at hx;subst hx;have hy2:h ob=some y:=hy;rw [h2] at hy2;cases hy2;rfl
  | j+2,hj,hx=>cases hj
theorem call_shows17 (hΓ:kK Tryz.prog Γ) (hC:Γ.get 24=none) (hC1:Γ.get 29=none) (hC2:Γ.get 11=none) (hC3:Γ.get 12=none) (hC4:Γ.get 16=none) (hC5:Γ.get 28=none) (hC6:Γ.get 17=none) (hC7:Γ.get 45=none) (hC8:Γ.get 19=some kBV)
    {x:Hs} (hx:okHs x) {s:TS} (S:sndN s.l) (hs:s.l=x.s) {o ot om lt q:Nat} (hob:h o=some (.cells (hisC x ot lt))) (hT:qL h ot om s) (hq:h q=some (.cells (mC x))) (hlt:∀ j y,h j=some y→j < nh)
    (hk:cont ⟨n,t,hd,⟨nh+2,upd (upd h nh (some (.cells [.mp (nh+1)]))) (nh+1) (some (.map s.es s.cl)),nl,fm,lv,mu⟩⟩ d (.v (.bool true)) K):kS Tryz.prog Γ false ⟨n,t,hd,⟨nh,h,nl,fm,lv,mu⟩⟩ 24 [.ptr o 0,.ptr q 0] d K:=by
 have q1:=hlt _ _ hq
 refine qF (nn:=37) hΓ [] (by first|assumption|simp[kC,kQ]) Tryz.func24 (by kernel_rfl) rfl (show Tryz.f24.results.toList=[.tmp 4] from rfl) rfl ?_
 simp only[aR,seval,kA,kB,]
 repeat (with_reducible refine And.intro ?_ ?_;focus first|omega|kernel_rfl)
 refine vq_hrev hΓ hC2 hC1 hob ?_
 simp only[aR,seval,kA,kB,hq,mC]
 refine vq_hold hΓ hC3 hC1 hx hob ?_
 simp only[aR,seval,kA,kB,]
 refine vq_mold hΓ hC7 hx hq ?_
 simp only[aR,seval,kA,kB,]
 repeat (with_reducible refine And.intro ?_ ?_;focus first|omega|kernel_rfl)
 refine call_htree hΓ hC4 hC1 hC5 hob hT ?_
 have e1:(q=nh)=False:=eq_false (by omega)
 have e2:(q=nh+1)=False:=eq_false (by omega)
 simp only[aR,seval,kA,kB,]
 repeat (with_reducible refine And.intro ?_ ?_;focus first|omega|kernel_rfl)
 refine vq_tnodes (s:=s) (o:=nh) (ob:=nh+1) hC6 (snd_ok S).1 (by simp[qL,upd]) ?_
 simp only[aR,seval,kA,kB,hq,mC,e1,e2]
 repeat (with_reducible refine And.intro ?_ ?_;focus first|omega|kernel_rfl)
 rw[hC8]
 refine kGH (a:=s.l) (b:=x.s) hC8 rfl rfl (by have:=S.len;omega) (by rw[← hs];have:=S.len;omega) ?_
 simp only[aR,seval,kA,kB,hs,decide_true]
 repeat (with_reducible refine And.intro ?_ ?_;focus first|omega|kernel_rfl)
 exact hk
theorem kGn (hΓ:kK Tryz.prog Γ) (hC:Γ.get 24=none) (hC1:Γ.get 29=none) (hC2:Γ.get 11=none) (hC3:Γ.get 12=none) (hC4:Γ.get 16=none) (hC5:Γ.get 28=none) (hC6:Γ.get 17=none) (hC7:Γ.get 45=none) (hC8:Γ.get 19=some kBV)
    {x:Hs} (hx:okHs x) {s:TS} (S:sndN s.l) (hs:s.l=x.s) {o ot om lt q:Nat} (hob:h o=some (.cells (hisC x ot lt))) (hT:qL h ot om s) (hq:h q=some (.cells (mC x)))
    (hk:cont ⟨n,t,hd,⟨nh,h,nl,fm,lv,mu⟩⟩ d (.v (.bool true)) K):callQ.callQ2 Tryz.prog Γ d K ⟨n,t,hd,⟨nh,h,nl,fm,lv,mu⟩⟩ (Γ.get 24) 24 [.ptr o 0,.ptr q 0]:=by
 rw[hC]
 refine ⟨(.v (.bool true)),still_call2 hC ⟨_,Tryz.func24,by kernel_rfl,rfl⟩ (fun _=>trivial) (fun n' t' hd' m' hn hh hlt=>?_),hk⟩
 obtain ⟨nh',h',nl',fm',lv',mu'⟩:=m'
 have hlt':∀ j y,h' j=some y→j < nh':=hlt
 refine call_shows17 hΓ hC hC1 hC2 hC3 hC4 hC5 hC6 hC7 hC8 hx S hs (hh _ _ hob) ⟨hh _ _ hT.1,hh _ _ hT.2.1,hT.2.2⟩ (hh _ _ hq) hlt' ⟨hn,_,_,rfl,by simp,fun j y hj=>?_⟩
 have hj':h' j=some y:=hj
 have:=hlt' _ _ hj'
 show upd (upd h' nh' _) (nh'+1) _ j=some y
 rw[kJ _ _ (by omega),kJ _ _ (by omega)]
 exact hj'
theorem call_hnewE (hΓ:kK Tryz.prog Γ) (hC:Γ.get 8=none) {rev keep:Int} {o:Nat} (hr:¬ ((0≤rev∧rev≤1099511627776)∧1≤keep∧keep≤1000))
    (hk:cont ⟨n,t,hd,⟨nh,h,nl,fm,lv,mu⟩⟩ d (.tup [.v (.pointer none),.v (.int .i64 1)]) K) :
    kS Tryz.prog Γ false ⟨n,t,hd,⟨nh,h,nl,fm,lv,mu⟩⟩ 8 [.v (.int .i64 rev),.ptr o 0,.v (.int .i64 keep)] d K:=by
 refine qF (nn:=32) hΓ [] (by first|assumption|simp[kC,kQ]) Tryz.func8 (by kernel_rfl) rfl (show Tryz.f8.results.toList=[.tmp 6,.tmp 7] from rfl) rfl ?_
 by_cases g1:rev < 0
 ·simp only[aR,seval,kA,kB,g1]
  exact hk
 by_cases g2:rev > 1099511627776
 ·simp only[aR,seval,kA,kB,g1,g2]
  exact hk
 by_cases g3:keep < 1
 ·simp only[aR,seval,kA,kB,g1,g2,g3]
  exact hk
 by_cases g4:keep > 1000
 ·simp only[aR,seval,kA,kB,g1,g2,g3,g4]
  exact hk
 omega
end
def kBg (t:List Nd) (l:List Cm):Bool:=decide (nF 3000 0 t≤3000∧cF 4000 0 l≤4000∧l.length≤40)
abbrev kCb:Con where
 ι:=GivenN×GivenM
 args:=fun p=>[.sl 0 5 (kT p.1.1),.sl 0 4 (cms p.2.1)]
 post:=fun p r=>r = .v (.bool (kBg p.1.1 p.2.1))
 plain:=true
theorem small17_good:Rw.Good Tryz.prog 20 kCb:=by
 have hΓ:kK Tryz.prog [(38,kCF),(39,msgCon)]:=(kG kG3 (kG msg_good kI))
 refine kZ (nn:=19) hΓ Tryz.func20 (by kernel_rfl) rfl (show Tryz.f20.results.toList=[.tmp 4] from rfl) (fun _=>rfl) (fun x=>by simp[AV.erL,AV.er,kB3,kGG]) ?_
 rintro ⟨⟨t,ht,htc⟩,⟨l,hl,hlc⟩⟩
 simp only[aR,seval]
 refine kGV (by simp[kC]) rfl ht htc (by omega) ?_
 by_cases h1:nF 3000 0 t≤3000
 case neg=>simp only[aR,seval,h1,kBg,false_and]
 simp only[aR,seval,h1]
 refine call_msg (l:=l) (by simp[kC]) (by simp[AV.er,AV.erL,msgA,kGG]) hl hlc (by omega) ?_
 by_cases h2:cF 4000 0 l≤4000
 case neg=>simp only[aR,seval,h1,h2,kBg,false_and,true_and]
 simp only[aR,seval,h1,h2,qD]
 unfold kBg
 exact decide_eq_decide.2 ⟨fun h=>⟨h1,h2,by omega⟩,fun h=>by omega⟩
theorem call_small17 {Γ:Env} (hf:Γ.get 20=some kCb) {σ:AS} {dr:Bool} {t:List Nd} {l:List Cm} {xs ys:List AV} {t1 t2:Nat} {d:Option Nat} {K:AS→Prop} (hx:xs=kT t) (hy:ys=cms l) (h1:t.length≤9223372036854775807) (h2:∀ a∈t,a.nm.length≤9223372036854775807∧a.text.length≤9223372036854775807) (h3:l.length≤9223372036854775807) (h4:∀ c∈l,wideA c.acs)
    (hk:cont σ d (.v (.bool (kBg t l))) K):kS Tryz.prog Γ dr σ 20 [.sl t1 5 xs,.sl t2 4 ys] d K:=by
 subst hx hy
 exact kP (C:=kCb) (i:=(⟨t,h1,h2⟩,⟨l,h3,h4⟩)) hf rfl rfl rfl (by simp[AV.erL,AV.er]) (fun _ h=>h) rfl hk
theorem small17_of {t:List Nd} {l:List Cm} (h:kBg t l=true) (h4:∀ c∈l,wideA c.acs):(t.length≤3000∧∀ x∈t,x.nm.length≤3000∧x.text.length≤3000)∧l.length≤40∧∀ c∈l,okCm c:=by
 obtain ⟨h1,h2,h3⟩:=of_decide_eq_true h
 obtain ⟨h5,h6⟩:=nF_le (by omega) t (Int.le_refl 0) h1
 exact ⟨⟨by omega,fun x hx=>by have:=h6 x hx;omega⟩,h3,(cF_le (by omega) l (Int.le_refl 0) h4 h2).2⟩
end Go.Proofs
-- HTr20
namespace Go.Proofs
open Go Go.Rw
abbrev Ky:=Int×List UInt8
def kV (p:Ky):Value:=nV ⟨0,p.1,p.2,false,[]⟩
def entL:List (Ky×Int)→Nat→List MapEntry
 | [],_=>[]
 | (p,c)::r,i=>{ key:=kV p,val:=.int .i64 c,born:=i }::entL r (i+1)
structure NM (es:Array MapEntry) (cl:Nat) (ps:List (Ky×Int)):Prop where
 es:es.toList=entL ps 0
 cl:cl=ps.length
 nd:(ps.map Prod.fst).Nodup
def fndP (p:Ky):List (Ky×Int)→Nat→Option (Nat×Value)
 | [],_=>none
 | (q,c)::r,i=>if q=p then some (i,.int .i64 c) else fndP p r (i+1)
theorem equal_kV (p q:Ky):calm Tryz.prog (Op.equal 82 (kV p) (kV q))=some (decide (p=q)):=by
 have e:Op.maxDepth=9998+2:=rfl
 have h:=calm_eq5 (P:=Tryz.prog) (d:=9998) (t:=82) (ti:=3) (ts:=9) (tb:=4) (k:=.i64) (a:=0) (a':=0) (b:=p.1) (b':=q.1) (s:=p.2) (s':=q.2) (q:=false) (q':=false) (u:=[]) (u':=[]) (by kernel_rfl) (by kernel_rfl) (by kernel_rfl) (by kernel_rfl) (by kernel_rfl)
 unfold Op.equal
 rw[e]
 refine h.trans ?_
 congr 1
 obtain ⟨p1,p2⟩:=p
 obtain ⟨q1,q2⟩:=q
 by_cases h1:p1=q1<;>by_cases h2:p2=q2<;>simp[h1,h2]
theorem ask_all (p:Ky):∀ (ps:List (Ky×Int)) (n i:Nat),calm Tryz.prog (Instr.findAsking 82 (kV p) (entL ps n) i)=some (fndP p ps i)
 | [],n,i=>rfl
 | (q,c)::r,n,i=>by
   rw[entL,Instr.findAsking,k7,equal_kV,Option.bind_some,fndP]
   by_cases h:p=q
   ·subst h;simp
   ·rw[decide_eq_false h,if_neg (Ne.symm h)]
    simpa using ask_all p r (n+1) (i+1)
theorem chk_kV (b:Bool) (p:Ky):calm Tryz.prog (Instr.checkKey b 10000 82 (kV p))=some ():=by
 obtain ⟨p1,p2⟩:=p
 rfl
theorem und_kV:Tryz.prog.underlying 93=some (.map 82 3):=by kernel_rfl
theorem ask_nm {es:Array MapEntry} {cl:Nat} {ps:List (Ky×Int)} (h:NM es cl ps) (b:Bool) (p:Ky):askK Tryz.prog 93 b (kV p) es.toList=some (fndP p ps 0):=by
 unfold askK
 rw[und_kV]
 simp only
 rw[chk_kV,Option.bind_some,h.es]
 unfold Instr.findKey
 obtain ⟨fs,hu⟩:∃ fs,Tryz.prog.underlying 82=some (.struct fs):=by
  have h5:is5 Tryz.prog 82 3 9 4=true:=by kernel_rfl
  unfold is5 at h5
  split at h5
  ·exact ⟨_,by assumption⟩
  ·cases h5
 rw[k7]
 simp only[underlying,k7,qJ,Option.bind_some,hu]
 cases ps with
 | nil=>simp [entL,Instr.findNow,fndP,zT]
 | cons q r =>
   obtain ⟨q,c⟩:=q
   have:Instr.findNow (.struct fs) (kV p) (entL ((q,c)::r) 0) 0=none:=rfl
   simp only[zT,Option.bind_some,this]
   exact ask_all p _ 0 0
def cntK (p:Ky):List (Ky×Int)→Int
 | []=>0
 | (q,c)::r=>if q=p then c else cntK p r
theorem kEo {p:Ky}:∀ {ps:List (Ky×Int)} {n i:Nat} {v:Value},fndP p ps n=some (i,v)→∃ j c,i=n+j∧ps[j]? = some (p,c)∧v = .int .i64 c∧cntK p ps=c
 | [],n,i,v,h=>by cases h
 | (q,c)::r,n,i,v,h=>by
   rw[fndP]at h
   split at h
   ·rename_i hq
    subst hq
    cases h
    exact ⟨0,c,by omega,rfl,rfl,by rw[cntK,if_pos rfl]⟩
   ·rename_i hq
    obtain ⟨j,c2,h1,h2,h3,h4⟩:=kEo h
    exact ⟨j+1,c2,by omega,by simpa using h2,h3,by rw[cntK,if_neg hq,h4]⟩
theorem kDw {p:Ky}:∀ {ps:List (Ky×Int)} {n:Nat},fndP p ps n=none→p ∉ ps.map Prod.fst∧cntK p ps=0
 | [],n,_=>by simp [cntK]
 | (q,c)::r,n,h=>by
   rw[fndP]at h
   split at h
   ·cases h
   ·rename_i hq
    obtain ⟨h1,h2⟩:=kDw h
    refine ⟨?_,by rw[cntK,if_neg hq,h2]⟩
    simp only[List.map_cons,List.mem_cons,not_or]
    exact ⟨fun hc=>hq hc.symm,h1⟩
theorem look_nm {es:Array MapEntry} {cl:Nat} {ps:List (Ky×Int)} (h:NM es cl ps) (p:Ky):lookS Tryz.prog 93 (kV p) es false=some (.v (.int .i64 (cntK p ps))):=by
 unfold lookS
 rw[ask_nm h]
 cases hf:fndP p ps 0 with
 | none =>
   have e1:kDH Tryz.prog 93=some 3:=by kernel_rfl
   have e2:kA3 Tryz.prog 3=some (.v (.int .i64 0)):=by kernel_rfl
   simp only[e1,e2,Option.map_some,(kDw hf).2]
   rfl
 | some q =>
   obtain ⟨i,v⟩:=q
   obtain ⟨j,c,_,_,rfl,h4⟩:=kEo hf
   rw[h4];rfl
theorem entL_len:∀ (ps:List (Ky×Int)) (n:Nat),(entL ps n).length=ps.length
 | [],_=>rfl
 | (p,c)::r,n=>by simp [entL,entL_len r]
theorem entL_get:∀ (ps:List (Ky×Int)) (n j:Nat),(entL ps n)[j]? = (ps[j]?).map fun q=>{ key:=kV q.1,val:=.int .i64 q.2,born:=n+j }
 | [],_,_=>by simp [entL]
 | (p,c)::r,n,0=>by simp [entL]
 | (p,c)::r,n,j+1=>by
   simp only[entL,List.getElem?_cons_succ]
   rw[entL_get r (n+1) j]
   cases r[j]? with
   | none=>rfl
   | some q=>simp only [Option.map_some];congr 2;omega
theorem entL_app (ps:List (Ky×Int)) (p:Ky) (c:Int) (n:Nat):entL (ps++[(p,c)]) n=entL ps n++[{ key:=kV p,val:=.int .i64 c,born:=n+ps.length }]:=by
 induction ps generalizing n with
 | nil=>rfl
 | cons q r ih =>
   obtain ⟨q,d⟩:=q
   simp only[List.cons_append,entL,ih,List.length_cons]
   congr 3;congr 1;omega
def layK (p:Ky) (ps:List (Ky×Int)):List (Ky×Int):=if (fndP p ps 0).isSome then ps else ps++[(p,0)]
theorem ba_beq (d:Array UInt8):((⟨d⟩:ByteArray) == ⟨d⟩)=true:=(beq_self_eq_true d:(d == d)=true)
theorem same_kV (p:Ky):Instr.sameBits 10000 (kV p) (kV p)=true:=by
 obtain ⟨p1,p2⟩:=p
 simp[kV,nV,Instr.sameBits,sv,ba_beq]
theorem cnt_app {p:Ky}:∀ {ps:List (Ky×Int)},p ∉ ps.map Prod.fst→cntK p (ps++[(p,0)])=0
 | [],_=>by simp [cntK]
 | (q,c)::r,h=>by
   simp only[List.map_cons,List.mem_cons,not_or]at h
   rw[List.cons_append,cntK,if_neg (Ne.symm h.1),cnt_app h.2]
theorem get_es {es:Array MapEntry} {cl:Nat} {ps:List (Ky×Int)} (h:NM es cl ps) (j:Nat):es[j]? = (ps[j]?).map fun q=>{ key:=kV q.1,val:=.int .i64 q.2,born:=j }:=by
 rw[← Array.getElem?_toList,h.es,entL_get]
 simp
theorem size_nm {es:Array MapEntry} {cl:Nat} {ps:List (Ky×Int)} (h:NM es cl ps):es.size=ps.length:=by
 rw[← Array.length_toList,h.es,entL_len]
theorem cnt_lay (p:Ky) (ps:List (Ky×Int)):cntK p (layK p ps)=cntK p ps:=by
 unfold layK
 cases hf:fndP p ps 0 with
 | none =>
   obtain ⟨h1,h2⟩:=kDw hf
   simp only[Option.isSome_none,Bool.false_eq_true,if_false]
   rw[cnt_app h1,h2]
 | some q=>rfl
theorem mod_same {es:Array MapEntry} {i:Nat} {e:MapEntry} (h:es[i]? = some e) {k:Value} (hk:e.key=k):(es.modify i fun e=>{ e with key:=k })=es:=by
 apply Array.ext (by simp)
 intro j h1 h2
 rw[Array.getElem_modify]
 split
 ·rename_i hj
  subst hj
  rw[Array.getElem?_eq_getElem h2]at h
  cases h
  subst hk
  rfl
 ·rfl
theorem ent_nm {es:Array MapEntry} {cl:Nat} {ps:List (Ky×Int)} (h:NM es cl ps) (p:Ky):∃ es' cl' i,entA Tryz.prog 93 (kV p) es cl=some (.map es' cl',.tup [.v (.int .i64 (cntK p ps)),.v (.int .i64 (i:Nat))])∧NM es' cl' (layK p ps)∧(layK p ps)[i]? = some (p,cntK p ps):=by
 have hs:=h
 unfold entA
 rw[ask_nm h]
 cases hf:fndP p ps 0 with
 | none =>
   obtain ⟨h1,h2⟩:=kDw hf
   have e1:kDH Tryz.prog 93=some 3:=by kernel_rfl
   have e3:∃ a b c d,tiOf Tryz.prog 3=some ⟨a,b,some (.int .i64 0),c,d⟩:=by
    have:((tiOf Tryz.prog 3).bind fun ti=>ti.zero)=some (.int .i64 0):=by kernel_rfl
    obtain ⟨ti,q1,q2⟩:=Option.bind_eq_some_iff.1 this
    obtain ⟨a,b,z,c,d⟩:=ti
    simp only at q2
    subst q2
    exact ⟨a,b,c,d,q1⟩
   obtain ⟨a,b,c,d,e3⟩:=e3
   have hl:layK p ps=ps++[(p,0)]:=by unfold layK;rw[hf];rfl
   refine ⟨es.push { key:=kV p,val:=.int .i64 0,born:=cl },cl+1,cl,?_,?_,?_⟩
   ·simp only[e1,e3,h2];rfl
   ·rw[hl]
    refine ⟨?_,by rw[h.cl];simp,?_⟩
    ·rw[Array.toList_push,h.es,entL_app,h.cl];simp
    ·rw[List.map_append,List.nodup_append]
     refine ⟨h.nd,by simp,fun x hx y hy=>?_⟩
     simp only[List.map_cons,List.map_nil,List.mem_singleton]at hy
     subst hy
     rintro rfl
     exact h1 hx
   ·rw[hl,h.cl,h2];simp
 | some q =>
   obtain ⟨i,v⟩:=q
   obtain ⟨j,c,h1,h2,rfl,h4⟩:=kEo hf
   rw[Nat.zero_add]at h1
   subst h1
   have hl:layK p ps=ps:=by unfold layK;rw[hf];rfl
   have hg:es[i]? = some { key:=kV p,val:=.int .i64 c,born:=i }:=by rw[get_es h,h2];rfl
   refine ⟨es,cl,i,?_,by rw[hl];exact h,by rw[hl,h4];exact h2⟩
   simp only[hg,Option.map_some,Option.getD_some,same_kV,if_true,mod_same hg rfl,h4]
   rfl
theorem put_nm {es:Array MapEntry} {cl:Nat} {ps:List (Ky×Int)} (h:NM es cl ps) {i:Nat} {p:Ky} {c:Int} (hi:ps[i]? = some (p,c)) (c':Int) :
    es.findIdx? (fun e=>(e.born:Int) == ((i:Nat):Int))=some i∧NM (es.modify i fun e=>{ e with val:=.int .i64 c' }) cl (ps.set i (p,c')):=by
 have hlt:=(List.getElem?_eq_some_iff.1 hi).1
 have hsz:=size_nm h
 have hb:∀ (j:Nat) (hj:j < es.size),es[j].born=j:=fun j hj=>by
  have:=get_es h j
  rw[Array.getElem?_eq_getElem hj,List.getElem?_eq_getElem (by omega)]at this
  simp only[Option.map_some,Option.some.injEq]at this
  rw[this]
 refine ⟨?_,?_,by rw[List.length_set];exact h.cl,?_⟩
 ·rw[Array.findIdx?_eq_some_iff_getElem]
  refine ⟨by omega,by rw[hb];simp,fun j hj=>?_⟩
  rw[hb];simp;omega
 ·apply List.ext_getElem?
  intro j
  rw[Array.getElem?_toList,Array.getElem?_modify,entL_get,List.getElem?_set,get_es h]
  by_cases hj:i=j
  ·subst hj
   rw[if_pos rfl,if_pos rfl,if_pos hlt,hi]
   simp
  ·rw[if_neg hj,if_neg hj];simp
 ·have:(ps.set i (p,c')).map Prod.fst=ps.map Prod.fst:=by
    rw[List.map_set]
    apply List.ext_getElem?
    intro j
    rw[List.getElem?_set]
    split
    ·rename_i hj
     subst hj
     rw[List.getElem?_map,hi,List.length_map,if_pos hlt];rfl
    ·rfl
  rw[this];exact h.nd
end Go.Proofs
-- HTr21
namespace Go.Proofs
open Go Go.Rw
def okB (x:Nd):Bool:=decide (1≤x.id∧x.id≤1099511627776) && qG x.nm && (pts x.text).isSome && decide (cnt x.text≤2000) && (!x.dir || decide (x.text=[]))
theorem okB_iff (x:Nd):okB x=true↔okNd x:=by
 unfold okB
 simp only[Bool.and_eq_true,decide_eq_true_eq,Bool.or_eq_true,Bool.not_eq_true']
 constructor
 ·rintro ⟨⟨⟨⟨h1,h2⟩,h3⟩,h4⟩,h5⟩
  exact ⟨h1,h2,fun hd=>by rcases h5 with h5|h5;rw[hd]at h5;cases h5;exact h5,h3,h4⟩
 ·rintro ⟨h1,h2,h3,h4,h5⟩
  refine ⟨⟨⟨⟨h1,h2⟩,h4⟩,h5⟩,?_⟩
  cases hd:x.dir
  ·exact .inl rfl
  ·exact .inr (h3 hd)
abbrev okNCon:Con where
 ι:={ x:Nd // x.nm.length≤1099511627776∧x.text.length≤1099511627776 }
 args:=fun p=>[nA p.1]
 post:=fun p r=>r = .v (.bool (okB p.1))
 plain:=true
set_option maxHeartbeats 1000000 in
theorem okn_good:Rw.Good Tryz.prog 46 okNCon:=by
 have hΓ:kK Tryz.prog [(73,kBh),(68,kAk)]:=(kG kCf (kG kD4 kI))
 refine kZ (nn:=42) hΓ Tryz.func46 (by kernel_rfl) rfl (show Tryz.f46.results.toList=[.tmp 2] from rfl) (fun _=>rfl) (fun x=>by simp[AV.erL,nA_er]) ?_
 rintro ⟨⟨id,par,nm,dir,tx⟩,hn,ht⟩
 simp only at hn ht
 simp only[aR,seval,nA]
 refine kBR (by simp[kC]) ht ?_
 rw[kC5]
 have e0:okB ⟨id,par,nm,dir,tx⟩=(decide (1≤id∧id≤1099511627776) && qG nm && (pts tx).isSome && decide (cnt tx≤2000) && (!dir || decide (tx=[]))):=rfl
 by_cases h1:id ≥ 1
 case neg =>
  simp only[aR,seval,h1]
  rw[e0,decide_eq_false (by omega)];simp
 by_cases h2:id≤1099511627776
 case neg =>
  simp only[aR,seval,h1,h2]
  rw[e0,decide_eq_false (by omega)];simp
 rw[decide_eq_true (show 1≤id∧id≤1099511627776 from ⟨h1,h2⟩)]at e0
 simp only[aR,seval,h1,h2]
 refine jG (by simp[kC]) hn ?_
 rcases Bool.eq_false_or_eq_true (qG nm) with h3|h3
 case inr=>simp only[aR,seval,h3];rw[e0,h3];rfl
 rw[h3]at e0
 rcases Bool.eq_false_or_eq_true (pts tx).isSome with h4|h4
 case inr =>
  have h4f:((pts tx).isSome=true)=False:=by rw[h4];simp
  simp only[aR,seval,h3,h4f];rw[e0,h4];rfl
 have h4t:((pts tx).isSome=true)=True:=eq_true h4
 rw[h4]at e0
 by_cases h5:(cnt tx:Int)≤2000
 case neg =>
  simp only[aR,seval,h3,h4t,h5];rw[e0,decide_eq_false (by omega)];rfl
 rw[decide_eq_true (show cnt tx≤2000 by omega)]at e0
 cases dir
 ·simp only[aR,seval,h3,h4t,h5];rw[e0];rfl
 ·simp only[aR,seval,h3,h4t,h5];rw[e0];rfl
end Go.Proofs
