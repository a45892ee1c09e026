/-
 History: what came behind a revision;the tree;a client's commits. law17: what the document fixes. HistoryTrims answers true. History: what is asked of no history;what all that was added comes to. Plain,and six short walks. HistoryFolds answers true. Acts,and what was done,given: opened. A tree given,commits given: opened. Lists of acts given: opened. From the laws' functions to their rows: the tables as they are laid;a world for the witness.
-/
import Derived.Test.YtnpofobcbfbfnaaGreatDoorXHTr9
import Derived.Test.YtnpofobcbfbfnaaGreatDoorXHUk5
import Derived.Test.YtnpofobcbfbfnaaGreatDoorRwI
import Derived.Test.YtnpofobcbfbfnaaGreatDoorXHSh
import Derived.Test.YtnpofobcbfbfnaaGreatDoorRwG
import Derived.Test.YtnpofobcbfbfnaaGreatDoorCards
import Derived.Test.YtnpofobcbfbfnaaGreatDoorTie
import Derived.Lib.LaidIn
import Derived.Lib.LaidU8T
import Derived.Deep.DeepHandedRow
import Derived.Deep.DeepWitnessRowRef
import Derived.ProofKit
import Derived.OpenShut
import Derived.SizedLaws
import Derived.SevenTiedAt
set_option linter.unusedSimpArgs false
set_option linter.unusedVariables false
set_option linter.defProp false
set_option linter.unusedSectionVars false

-- HTh5
section
namespace Go.Proofs
open Go Go.Rw
set_option maxRecDepth 100000
def sinR (x:Hs) (r:Int):List Cm×Int :=
 if r > x.rev then ([],15) else if r < x.rev - x.l.length then ([],14) else (x.l.drop (r - (x.rev - x.l.length)).toNat,0)
theorem cms_drop (l:List Cm) (i:Nat):List.drop i (cms l)=cms (l.drop i):=by simp only[cms,List.map_drop]
theorem cms_append (l m:List Cm):cms l++cms m=cms (l++m):=by simp[cms]
theorem partA_cms (l:List Cm) (i:Nat):kBW 0 4 (cms l) i l.length = .sl 0 4 (cms (l.drop i)):=by
 unfold kBW
 split
 ·rename_i h
  rw[h.1];rfl
 ·congr 1
  rw[cms_drop,List.take_of_length_le]
  rw[zI,List.length_drop]
  exact Nat.le_refl _
abbrev okCms (l:List Cm):Prop:=∀ c∈l,okCm c
section
variable {Γ:Env} {n:Nat} {t:Nat→AV} {hd:Nat→Nat→AV} {d:Option Nat} {K:AS→Prop} {nh nl:Nat} {h:Nat→Option AO} {fm:Nat→Nat} {lv:Nat→Option (Nat×Nat)} {mu:Bool}
theorem call_htree (hΓ:kK Tryz.prog Γ) (hC:Γ.get 16=none) (hC1:Γ.get 29=none) (hC2:Γ.get 28=none) {x:Hs} {s:TS} {o ot om lt:Nat} (hob:h o=some (.cells (hisC x ot lt))) (hT:qR h ot om s)
    (hk:cont ⟨n,t,hd,⟨nh+2,upd (upd h nh (some (.cells [.mp (nh+1)]))) (nh+1) (some (.map s.es s.cl)),nl,fm,lv,mu⟩⟩ d (.ptr nh 0) K):kS Tryz.prog Γ false ⟨n,t,hd,⟨nh,h,nl,fm,lv,mu⟩⟩ 16 [.ptr o 0] d K:=by
 refine qB (nn:=10) hΓ [] (by first|assumption|simp[kD,kP]) Tryz.func16 (by kernel_rfl) rfl (show Tryz.f16.results.toList=[.tmp 2] from rfl) rfl ?_
 simp only[aR,seval,kB,kA,hob,hisC]
 refine kAR hΓ hC1 hob ?_
 simp only[aR,seval,kB,kA,hob,hisC]
 (repeat (with_reducible refine And.intro ?_ ?_;focus (first|omega|exact kF|kernel_rfl)))
 refine kDd hC2 hT ?_
 simp only[aR,seval,kB,kA,]
 exact hk
theorem kBL (hΓ:kK Tryz.prog Γ) (hC:Γ.get 13=none) (hC1:Γ.get 29=none) (hC2:Γ.get 12=none) (hC3:Γ.get 31=some z6) {x:Hs} (hx:okHs x) (hl:okCms x.l) {o ot:Nat} (hob:h o=some (.cells (hisC x ot 0))) {r:Int} (hr:-9223372036854775808≤r∧r≤9223372036854775807)
    (hk:cont ⟨n,t,hd,⟨nh,h,nl,fm,lv,mu⟩⟩ d (.tup [.sl (if (sinR x r).2=0 then 0 else 1) 4 (cms (sinR x r).1),.v (.int .i64 (sinR x r).2)]) K):kS Tryz.prog Γ false ⟨n,t,hd,⟨nh,h,nl,fm,lv,mu⟩⟩ 13 [.ptr o 0,.v (.int .i64 r)] d K:=by
 refine qB (nn:=31) hΓ [] (by first|assumption|simp[kD,kP]) Tryz.func13 (by kernel_rfl) rfl (show Tryz.f13.results.toList=[.tmp 4,.tmp 5] from rfl) rfl ?_
 simp only[aR,seval,kB,kA,hob,hisC]
 refine kAR hΓ hC1 hob ?_
 unfold sinR at hk
 obtain ⟨hx1,hx2,hx3⟩:=hx
 by_cases g1:r > x.rev
 ·rw[if_pos g1]at hk
  simp only[aR,seval,kB,kA,hob,hisC,g1]
  exact hk
 rw[if_neg g1]at hk
 simp only[aR,seval,kB,kA,hob,hisC,g1]
 refine kBc hΓ hC2 hC1 ⟨hx1,hx2,hx3⟩ hob ?_
 by_cases g2:r < x.rev - x.l.length
 ·rw[if_pos g2]at hk
  simp only[aR,seval,kB,kA,hob,hisC,g2]
  exact hk
 rw[if_neg g2]at hk
 simp only[aR,seval,kB,kA,hob,hisC,g2]
 (repeat (with_reducible refine And.intro ?_ ?_;focus (first|omega|exact kF|kernel_rfl)))
 refine vq_hold hΓ hC2 hC1 ⟨hx1,hx2,hx3⟩ hob ?_
 obtain ⟨i,hi⟩:∃ i:Nat,r - (x.rev - x.l.length)=i:=⟨(r - (x.rev - x.l.length)).toNat,by omega⟩
 have hit:(r - (x.rev - x.l.length)).toNat=i:=by omega
 rw[hit]at hk
 have hw:IntKind.wrap .i64 (r - (x.rev - x.l.length))=i:=by rw[hi,kC (by omega) (by omega)]
 have hle:i≤x.l.length:=by omega
 simp only[aR,seval,kB,kA,hob,hisC,hw,zI,partA_cms]
 (repeat (with_reducible refine And.intro ?_ ?_;focus (first|omega|exact kF|kernel_rfl)))
 rw[hC3]
 refine z8 (C:=z6) (i:=⟨x.l.drop i,by rw[List.length_drop];omega,fun c hc=>hl c (List.mem_of_mem_drop hc)⟩) (r:=.sl 0 4 (cms (x.l.drop i))) hC3 rfl rfl (by simp[AV.erL,AV.er]) rfl (fun _ h=>h) ?_
 simp only[aR,seval,kB,kA,AV.er]
 (repeat (with_reducible refine And.intro ?_ ?_;focus (first|omega|exact kF|kernel_rfl)))
 exact hk
end
theorem call_ownAll_t {Γ:Env} (hf:Γ.get 31=some z6) {n:Nat} {t:Nat→AV} {hd:Nat→Nat→AV} {nh nl:Nat} {h:Nat→Option AO} {fm:Nat→Nat} {lv:Nat→Option (Nat×Nat)} {mu:Bool} {l:List Cm} {t1:Nat} {d:Option Nat} {K:AS→Prop} (hl:l.length≤1099511627776) (ho:okCms l)
    (hk:cont ⟨n,t,hd,⟨nh,h,nl,fm,kill fm (AV.tagsL [.sl t1 4 (cms l)]) lv,mu⟩⟩ d (.sl 0 4 (cms l)) K):kS Tryz.prog Γ false ⟨n,t,hd,⟨nh,h,nl,fm,lv,mu⟩⟩ 31 [.sl t1 4 (cms l)] d K:=by
 refine kEo (C:=z6) (i:=⟨l,hl,ho⟩) hf rfl rfl rfl (by simp[AV.erL,AV.er]) (ts:=AV.tagsL [.sl t1 4 (cms l)]) rfl ?_
 rintro r rfl
 exact hk
def hisO (x:Hs) (s:TS):List AO:=[.cells (hisC x 1 0),.cells [.mp 2],.map s.es s.cl]
abbrev hofCon:ConO where
 ι:={ p:Hs×TS×Int // okHs p.1∧okCms p.1.l }
 objs:=fun p=>hisO p.1.1 p.1.2.1
 args:=fun p=>[.ptr 0 0,.v (.int .i64 p.1.2.2)]
 post:=fun p objs lvs r=>objs=hisO p.1.1 p.1.2.1∧lvs=[]∧r = .sl 0 4 (cms (ofN p.1.1.l p.1.2.2))
theorem ofN_take (l:List Cm) (k:Int) {i:Nat} (h:i < l.length):ofN (l.take (i+1)) k=ofN (l.take i) k++if l[i].client=k then [l[i]] else []:=by
 rw[List.take_succ_eq_append_getElem h,ofN,List.filter_append]
 congr 1
 simp only[List.filter_cons,List.filter_nil,decide_eq_true_eq]
theorem ofN_len (l:List Cm) (k:Int):(ofN l k).length≤l.length:=List.length_filter_le _ _
set_option maxHeartbeats 1000000 in
theorem hof_good:kAL Tryz.prog 14 hofCon:=by
 have hΓ:kK Tryz.prog [(31,z6)]:=(kH kCe kJ)
 refine qY (nn:=29) Tryz.func14 (by kernel_rfl) rfl (show Tryz.f14.results.toList=[.tmp 4] from rfl) (fun _=>rfl) ?_
 rintro ⟨⟨x,s,k⟩,hx,hl⟩
 simp only at hx hl
 have hx3:=hx.2.2
 refine qU hΓ (Ws:=[]) _ ?_
 simp only[aR,seval,kB,kA,hisO]
 refine kAR hΓ (by simp[kD,kP]) (x:=x) (o:=0) (ot:=1) (lt:=0) (by simp) ?_
 simp only[aR,seval,kB,kA,hisO,hisC,zI]
 (repeat (with_reducible refine And.intro ?_ ?_;focus (first|omega|exact kF|kernel_rfl)))
 obtain ⟨St,hSt⟩:∃ St:{ i:Nat // i≤x.l.length }→AS,∀ i,St i=AS.ofH 29 [(1,.v (.int .i64 k)),(4,.sl 2 4 (cms (ofN (x.l.take i.1) k))),(12,.sl 0 4 (cms x.l)),(13,.v (.int .i64 x.l.length)),(14,.v (.int .i64 i.1))] [(0,.ptr 0 0),(1,.ptr 1 0),(2,.mp 2)] (hisO x s) [((ofN (x.l.take i.1) k).length,32)]:=⟨_,fun _=>rfl⟩
 refine kCZ ?_
 refine j8 [] hΓ St (fun i=>x.l.length - i.1) ⟨0,by omega⟩ (by rw[hSt];refine qF [0,1,2] [.nil 4] ?_;simp only[aR,seval,kB,kA,hisO,hisC,List.take_zero,ofN,List.filter_nil,cms_nil,List.length_nil]<;>((repeat' apply And.intro)<;>first|rfl|omega|trivial)) ?_
 rintro ⟨i,hle⟩
 rw[hSt]
 simp only
 simp only[aR,seval,kB,kA,hisO,hisC,zI]
 (with_reducible first|refine kE (fun h=>?_) (fun h=>?_)|refine kG (fun h=>?_) (fun h=>?_))
 ·have hlt:i < x.l.length:=by omega
  have e1:=cms_getD x.l hlt
  have ha:=hl _ (List.getElem_mem hlt)
  have e2:=ofN_take x.l k hlt
  have e3:=ofN_len (x.l.take i) k
  rw[List.length_take]at e3
  generalize x.l[i]=a at *
  obtain ⟨rev,cl,sq,ac⟩:=a
  simp only at e2
  simp only[aR,seval,kB,kA,hisO,hisC,h,e1,zI,cmA]
  (repeat (with_reducible refine And.intro ?_ ?_;focus (first|omega|exact kF|kernel_rfl)))
  by_cases g:cl=k
  ·rw[if_pos g]at e2
   have e4:cms (ofN (x.l.take (i+1)) k)=cms (ofN (x.l.take i) k)++[.agg [.v (.int .i64 rev),.v (.int .i64 cl),.v (.int .i64 sq),.sl 0 6 (acts ac)]]:=by rw[e2,← cms_append];rfl
   have e5:(ofN (x.l.take (i+1)) k).length=(ofN (x.l.take i) k).length+1:=by rw[e2];simp
   simp only[aR,seval,kB,kA,hisO,hisC,g,zI,cmA,kC (n:=(i:Int)+1) (by omega) (by omega)]
   (repeat (with_reducible refine And.intro ?_ ?_;focus (first|omega|exact kF|kernel_rfl)))
   refine kN ⟨i+1,by omega⟩ (by simp only;omega) ?_
   rw[hSt];refine qF [0,1,2] [.live 2] ?_
   simp only[aR,seval,kB,kA,hisO,hisC,e4,e5,g]<;>((repeat' apply And.intro)<;>first|rfl|omega|trivial)
  ·rw[if_neg g,List.append_nil]at e2
   simp only[aR,seval,kB,kA,hisO,hisC,g,zI,cmA,kC (n:=(i:Int)+1) (by omega) (by omega)]
   (repeat (with_reducible refine And.intro ?_ ?_;focus (first|omega|exact kF|kernel_rfl)))
   refine kN ⟨i+1,by omega⟩ (by simp only;omega) ?_
   rw[hSt];refine qF [0,1,2] [.live 2] ?_
   simp only[aR,seval,kB,kA,hisO,hisC,e2,g]<;>((repeat' apply And.intro)<;>first|rfl|omega|trivial)
 ·have hi2:i=x.l.length:=by omega
  subst hi2
  have e6:=List.take_of_length_le (Nat.le_refl x.l.length)
  simp only[aR,seval,kB,kA,hisO,hisC,h,e6]
  refine call_ownAll_t (by simp[kD]) (by have:=ofN_len x.l k;omega) (fun c hc=>hl c (List.mem_filter.1 hc).1) ?_
  simp only[aR,seval,kB,kA,hisO,hisC]
  refine k7 [0,1,2] [] (hisO x s) [] (.sl 0 4 (cms (ofN x.l k))) ⟨rfl,rfl,rfl⟩ ?_
  simp only[aR,seval,kB,kA,hisO,hisC]<;>((repeat' apply And.intro)<;>first|rfl|omega|trivial)
section
variable {Γ:Env} {n:Nat} {t:Nat→AV} {hd:Nat→Nat→AV} {d:Option Nat} {K:AS→Prop} {nh nl:Nat} {h:Nat→Option AO} {fm:Nat→Nat} {lv:Nat→Option (Nat×Nat)} {mu:Bool}
theorem call_hof (hC:Γ.get 14=none) {x:Hs} {s:TS} (hx:okHs x) (hl:okCms x.l) {o ot om:Nat} (hob:h o=some (.cells (hisC x ot 0))) (hT:qR h ot om s) (hne:o≠ot∧o≠om) {k:Int}
    (hk:cont ⟨n,t,hd,⟨nh,h,nl,fm,lv,mu⟩⟩ d (.sl 0 4 (cms (ofN x.l k))) K):kS Tryz.prog Γ false ⟨n,t,hd,⟨nh,h,nl,fm,lv,mu⟩⟩ 14 [.ptr o 0,.v (.int .i64 k)] d K:=by
 obtain ⟨h1,h2,h3⟩:=hT
 have e0:upd h o (some (.cells (hisC x ot 0)))=h:=kED hob
 have e1:upd h ot (some (.cells [.mp om]))=h:=kED h1
 have e2:upd h om (some (.map s.es s.cl))=h:=kED h2
 refine vc_obj hof_good hC ⟨(x,s,k),hx,hl⟩ [o,ot,om] ⟨by simp[h3,hne.1,hne.2],by simp[dnL,dn],?_,by simp[AV.tagsL,AV.tags],?_⟩ ?_
 ·simp only[hisO,hisC,kB7,kCq,hob,h1,h2,kBD,kDH,kDZ,kFD,dn_mp,dn_ptr,dn_v,dn_sl]
  simp
 ·simp[kA3,kBA,hob,h1,h2,hisC,kGM,AO.tags,AV.tagsL,AV.tags]
 ·rintro objs lvs r ⟨rfl,rfl,rfl⟩ hll
  have e3:(hisO x s).length - [o,ot,om].length=0:=rfl
  rw[e3]
  simp only[hisO,hisC,kAV,kAs,kAT,kBn,kAy,kBp,kG3,emb_v,kEp,emb_sl,kCA,kCE,kDl,lnC_zero,kAU,kAu,kAr,kAn,kAp,List.length_nil,Nat.add_zero]
  simp only[hisC]at e0
  rw[e0,e1,e2]
  exact hk
end
end Go.Proofs
end
-- HTh6
section
namespace Go.Proofs
open Go Go.Rw
set_option maxRecDepth 100000
section
variable {Γ:Env} {n:Nat} {t:Nat→AV} {hd:Nat→Nat→AV} {d:Option Nat} {K:AS→Prop} {nh nl:Nat} {h:Nat→Option AO} {fm:Nat→Nat} {lv:Nat→Option (Nat×Nat)} {mu:Bool}
theorem call_hnew0 (hΓ:kK Tryz.prog Γ) (hC:Γ.get 8=none) {rev keep:Int} (hr:0≤rev∧rev≤1099511627776) (hp:1≤keep∧keep≤1000)
    (hk:cont ⟨n,t,hd,⟨nh,h,nl,fm,lv,mu⟩⟩ d (.tup [.v (.pointer none),.v (.int .i64 1)]) K) :
    kS Tryz.prog Γ false ⟨n,t,hd,⟨nh,h,nl,fm,lv,mu⟩⟩ 8 [.v (.int .i64 rev),.v (.pointer none),.v (.int .i64 keep)] d K:=by
 refine qB (nn:=32) hΓ [] (by first|assumption|simp[kD,kP]) Tryz.func8 (by kernel_rfl) rfl (show Tryz.f8.results.toList=[.tmp 6,.tmp 7] from rfl) rfl ?_
 simp only[aR,seval,kB,kA,show (rev < 0)=False from eq_false (by omega),show (rev > 1099511627776)=False from eq_false (by omega),show (keep < 1)=False from eq_false (by omega),show (keep > 1000)=False from eq_false (by omega)]
 exact hk
theorem cutH_any {fm:Nat→Nat} {l:Nat}:cutH fm l (hdOf (Rw.look []))=hdOf (Rw.look []):=by
 funext j i
 cases j<;>rfl
end
def kBf:Cm:=⟨5,1,1,[⟨1,1,0,[97],false,[]⟩]⟩
def kEP:Cm:=⟨6,2,1,[]⟩
def kCa:Hs:=⟨4,[],1,[]⟩
theorem aw17_1:(addN kCa kBf).2=0∧(addN kCa kBf).1.rev=5∧(addN kCa kBf).1.keep=1∧(addN kCa kBf).1.l.length=1:=by decide +kernel
theorem aw17_2:(addN (addN kCa kBf).1 kEP).2=0∧(addN (addN kCa kBf).1 kEP).1.rev=6∧(addN (addN kCa kBf).1 kEP).1.keep=1∧(addN (addN kCa kBf).1 kEP).1.l.length=1∧(ofN (addN (addN kCa kBf).1 kEP).1.l 1).length=0:=by decide +kernel
theorem aw17_ok:okCm kBf:=⟨by decide,fun a ha=>by
 simp only[kBf,List.mem_singleton]at ha
 subst ha
 exact ⟨by unfold okL;decide,by decide⟩⟩
theorem aw17_cms:okCms (addN (addN kCa kBf).1 kEP).1.l:=by
 have:(addN (addN kCa kBf).1 kEP).1.l=[kEP]:=by decide +kernel
 rw[this]
 intro c hc
 rw[List.mem_singleton]at hc
 subst hc
 exact ⟨by decide,by simp[kEP]⟩
set_option maxHeartbeats 4000000 in
theorem awake17_good:Rw.Good Tryz.prog 7 kEa:=by
 have hΓ:kK Tryz.prog [(31,z6)]:=(kH kCe kJ)
 refine kDA (nn:=89) Tryz.func7 (by kernel_rfl) rfl (show Tryz.f7.results.toList=[.tmp 0] from rfl) (fun _=>rfl) (fun x=>by simp[AV.erL,AV.er]) ?_
 rintro ⟨⟩
 refine qU hΓ (Ws:=[]) _ ?_
 simp only[aR,seval,kB,kA,]
 refine call_tnew (by simp[kD,kP]) ?_
 simp only[aR,seval,kB,kA,]
 (repeat (with_reducible refine And.intro ?_ ?_;focus (first|omega|exact kF|kernel_rfl)))
 refine call_hnew hΓ (by simp[kD,kP]) (by simp[kD,kP]) (s:=ts0) (o:=0) (ob:=1) (by simp[qR,upd,ts0]) (by omega) (by omega) ?_
 simp only[aR,seval,kB,kA,ts0]
 (repeat (with_reducible refine And.intro ?_ ?_;focus (first|omega|exact kF|kernel_rfl)))
 refine call_hnew0 hΓ (by simp[kD,kP]) (by omega) (by omega) ?_
 simp only[aR,seval,kB,kA,]
 (repeat (with_reducible refine And.intro ?_ ?_;focus (first|omega|exact kF|kernel_rfl)))
 refine vcCall_dead (by simp[kD,kP]) ⟨_,Tryz.func10,by kernel_rfl,rfl⟩ (bs:=[.ptr 4 0,cmT 0 kBf]) [2] rfl ?_ ?_
 ·intro k
  match k with
  | 0=>exact .inl rfl
  | 1=>exact .inr ⟨by simp [cmT,kBf,acts,aA,AV.er,AV.erL,qD],by simp [AV.tags,AV.tagsL]⟩
  | k+2=>exact .inl rfl
 refine vcCall_live (by simp[kD,kP]) ⟨_,Tryz.func10,by kernel_rfl,rfl⟩ (o:=4) (k:=3) (sz:=4) 32 (kV _ _ _) rfl (by omega) ?_
 refine kFM hΓ (by simp[kD,kP]) (by simp[kD,kP]) (by simp[kD,kP]) (by simp[kD]) (x:=kCa) (s:=ts0) (o:=4) (ot:=2) (om:=3) (lt:=3) (la:=0) (c:=kBf) rfl (by simp[kCa,okHs]) rfl snd_nil aw17_ok (by rw[kV];rfl) (by simp[qR,upd,ts0]) (by omega) (by omega) (by simp[kV,kCa]) ⟨?_,?_⟩ (by omega) (by simp[kV,kM]) (by simp[cutT_upd,kBv,cut_v,cut_any,cut_ptr,cut_mp,cut_sl,cut_agg,cut_tup,cut_fn,kE8,kDG,kV,kM]) rfl ?_ ?_
 ·intro j y hj
  simp only[upd]at hj
  repeat' split at hj
  all_goals first|omega|cases hj
 ·intro j hj
  simp only[upd]
  repeat' split
  all_goals first|contradiction|rfl
 ·exact fun _ _ _ hne=>absurd aw17_1.1 hne
 intro h1 s1 f1 o1 a1 T1 hs1 S1 _
 obtain ⟨_,r1,k1,l1⟩:=aw17_1
 obtain ⟨z2,r2,k2,l2,n2⟩:=aw17_2
 generalize hx1:(addN kCa kBf).1=x1 at *
 simp only[aR,seval,kB,kA,]
 (repeat (with_reducible refine And.intro ?_ ?_;focus (first|omega|exact kF|kernel_rfl)))
 refine kFM hΓ (by simp[kD,kP]) (by simp[kD,kP]) (by simp[kD,kP]) (by simp[kD]) (x:=x1) (s:=s1) (o:=4) (ot:=6) (om:=7) (lt:=3) (la:=1) (c:=kEP) rfl (by refine ⟨?_,?_,?_⟩<;>omega) hs1 S1 ⟨by decide,by simp[kEP]⟩ o1 T1 (by omega) (by omega) (by simp[kV,l1]) a1 (by omega) (by simp[kV,kM]) (by simp[cutT_upd,kBv,cut_v,cut_any,cut_ptr,cut_mp,cut_sl,cut_agg,cut_tup,cut_fn,kE8,kDG,kV,kM]) rfl ?_ ?_
 ·exact fun _ _ _ hne=>absurd z2 hne
 intro h2 s2 f2 o2 a2 T2 hs2 S2 _
 generalize hx2:(addN x1 kEP).1=x2 at *
 have okx:okHs x2:=by refine ⟨?_,?_,?_⟩<;>omega
 have okc:okCms x2.l:=by
  rw[← hx2,← hx1]
  exact aw17_cms
 simp only[aR,seval,kB,kA,]
 (repeat (with_reducible refine And.intro ?_ ?_;focus (first|omega|exact kF|kernel_rfl)))
 refine vcCall_deadO (by simp[kD,kP]) ⟨_,Tryz.func13,by kernel_rfl,rfl⟩ (k:=3) o2 rfl ?_
 refine kBL hΓ (by simp[kD,kP]) (by simp[kD,kP]) (by simp[kD,kP]) (by simp[kD]) okx okc (kV _ _ _) (by omega) ?_
 rw[show sinR x2 4=([],14) by unfold sinR;rw[if_neg (by omega),if_pos (by omega)]]
 simp only[aR,seval,kB,kA,cms_nil]
 (repeat (with_reducible refine And.intro ?_ ?_;focus (first|omega|exact kF|kernel_rfl)))
 refine kBL hΓ (by simp[kD,kP]) (by simp[kD,kP]) (by simp[kD,kP]) (by simp[kD]) okx okc (kV _ _ _) (by omega) ?_
 rw[show sinR x2 7=([],15) by unfold sinR;rw[if_pos (by omega)]]
 simp only[aR,seval,kB,kA,cms_nil]
 (repeat (with_reducible refine And.intro ?_ ?_;focus (first|omega|exact kF|kernel_rfl)))
 refine kBL hΓ (by simp[kD,kP]) (by simp[kD,kP]) (by simp[kD,kP]) (by simp[kD]) okx okc (kV _ _ _) (by omega) ?_
 rw[show sinR x2 5=(x2.l,0) by unfold sinR;rw[if_neg (by omega),if_neg (by omega),show (5 - (x2.rev - x2.l.length)).toNat=0 by omega,List.drop_zero]]
 simp only[aR,seval,kB,kA,zI,l2]
 (repeat (with_reducible refine And.intro ?_ ?_;focus (first|omega|exact kF|kernel_rfl)))
 refine kBc hΓ (by simp[kD,kP]) (by simp[kD,kP]) okx (kV _ _ _) ?_
 simp only[aR,seval,kB,kA,show x2.rev - (x2.l.length:Int)=5 by omega,zI]
 (repeat (with_reducible refine And.intro ?_ ?_;focus (first|omega|exact kF|kernel_rfl)))
 refine call_hof (by simp[kD,kP]) (x:=x2) (s:=s2) (o:=4) (ot:=9) (om:=10) okx okc (by rw[kV]) ?_ (by omega) ?_
 ·exact ⟨by rw[kM _ _ (by omega)];exact T2.1,by rw[kM _ _ (by omega)];exact T2.2.1,by omega⟩
 simp only[aR,seval,kB,kA,zI,n2]
end Go.Proofs
end
-- HTh7
section
namespace Go.Proofs
open Go Go.Rw
set_option maxRecDepth 100000
theorem kAC {Γ:Env} (hf:Γ.get 7=some kEa) {n:Nat} {t:Nat→AV} {hd:Nat→Nat→AV} {nh nl:Nat} {h:Nat→Option AO} {fm:Nat→Nat} {lv:Nat→Option (Nat×Nat)} {mu:Bool} {dr:Bool} {d:Option Nat} {K:AS→Prop}
    (hk:cont ⟨n,t,hd,⟨nh,h,nl,fm,lv,mu⟩⟩ d (.v (.bool true)) K):kS Tryz.prog Γ dr ⟨n,t,hd,⟨nh,h,nl,fm,lv,mu⟩⟩ 7 [] d K :=
 z8 (C:=kEa) (i:=()) (r:=.v (.bool true)) hf rfl rfl (by simp[AV.erL]) rfl (fun _ h=>h) (by simp only[AV.er];exact hk)
def hisL (x:Hs) (s:TS):List AO:=[.cells (hisC x 1 2),.cells [.mp 2],.map s.es s.cl]
theorem ofL_lt {objs:List AO}:∀ j y,(fun o=>objs[o]?) j=some y→j < objs.length:=fun j y hj=>(List.getElem?_eq_some_iff.1 hj).1
end Go.Proofs
end
-- HTh8
section
namespace Go.Proofs
open Go Go.Rw
set_option maxRecDepth 100000
section
variable {Γ:Env} {n:Nat} {t:Nat→AV} {hd:Nat→Nat→AV} {d:Option Nat} {K:AS→Prop} {nh nl:Nat} {h:Nat→Option AO} {fm:Nat→Nat} {lv:Nat→Option (Nat×Nat)} {mu:Bool}
theorem call_hrev0 (hΓ:kK Tryz.prog Γ) (hC:Γ.get 11=none) (hC1:Γ.get 29=none)
    (hk:cont ⟨n,t,hd,⟨nh,h,nl,fm,lv,mu⟩⟩ d (.v (.int .i64 0)) K):kS Tryz.prog Γ false ⟨n,t,hd,⟨nh,h,nl,fm,lv,mu⟩⟩ 11 [.v (.pointer none)] d K:=by
 refine qB (nn:=9) hΓ [] (by first|assumption|simp[kD,kP]) Tryz.func11 (by kernel_rfl) rfl (show Tryz.f11.results.toList=[.tmp 2] from rfl) rfl ?_
 simp only[aR,seval,kB,kA,]
 refine j6 hΓ hC1 ?_
 simp only[aR,seval,kB,kA,]
 exact hk
theorem call_hold0 (hΓ:kK Tryz.prog Γ) (hC:Γ.get 12=none) (hC1:Γ.get 29=none)
    (hk:cont ⟨n,t,hd,⟨nh,h,nl,fm,lv,mu⟩⟩ d (.v (.int .i64 0)) K):kS Tryz.prog Γ false ⟨n,t,hd,⟨nh,h,nl,fm,lv,mu⟩⟩ 12 [.v (.pointer none)] d K:=by
 refine qB (nn:=15) hΓ [] (by first|assumption|simp[kD,kP]) Tryz.func12 (by kernel_rfl) rfl (show Tryz.f12.results.toList=[.tmp 2] from rfl) rfl ?_
 simp only[aR,seval,kB,kA,]
 refine j6 hΓ hC1 ?_
 simp only[aR,seval,kB,kA,]
 exact hk
theorem call_htree0 (hΓ:kK Tryz.prog Γ) (hC:Γ.get 16=none) (hC1:Γ.get 29=none)
    (hk:cont ⟨n,t,hd,⟨nh,h,nl,fm,lv,mu⟩⟩ d (.v (.pointer none)) K):kS Tryz.prog Γ false ⟨n,t,hd,⟨nh,h,nl,fm,lv,mu⟩⟩ 16 [.v (.pointer none)] d K:=by
 refine qB (nn:=10) hΓ [] (by first|assumption|simp[kD,kP]) Tryz.func16 (by kernel_rfl) rfl (show Tryz.f16.results.toList=[.tmp 2] from rfl) rfl ?_
 simp only[aR,seval,kB,kA,]
 refine j6 hΓ hC1 ?_
 simp only[aR,seval,kB,kA,]
 exact hk
theorem call_hof0 (hΓ:kK Tryz.prog Γ) (hC:Γ.get 14=none) (hC1:Γ.get 29=none) {k:Int}
    (hk:cont ⟨n,t,hd,⟨nh,h,nl,fm,lv,mu⟩⟩ d (.sl 1 4 []) K):kS Tryz.prog Γ false ⟨n,t,hd,⟨nh,h,nl,fm,lv,mu⟩⟩ 14 [.v (.pointer none),.v (.int .i64 k)] d K:=by
 refine qB (nn:=29) hΓ [] (by first|assumption|simp[kD,kP]) Tryz.func14 (by kernel_rfl) rfl (show Tryz.f14.results.toList=[.tmp 4] from rfl) rfl ?_
 simp only[aR,seval,kB,kA,]
 refine j6 hΓ hC1 ?_
 simp only[aR,seval,kB,kA,]
 exact hk
theorem call_hsince0 (hΓ:kK Tryz.prog Γ) (hC:Γ.get 13=none) (hC1:Γ.get 29=none) {k:Int}
    (hk:cont ⟨n,t,hd,⟨nh,h,nl,fm,lv,mu⟩⟩ d (.tup [.sl 1 4 [],.v (.int .i64 1)]) K):kS Tryz.prog Γ false ⟨n,t,hd,⟨nh,h,nl,fm,lv,mu⟩⟩ 13 [.v (.pointer none),.v (.int .i64 k)] d K:=by
 refine qB (nn:=31) hΓ [] (by first|assumption|simp[kD,kP]) Tryz.func13 (by kernel_rfl) rfl (show Tryz.f13.results.toList=[.tmp 4,.tmp 5] from rfl) rfl ?_
 simp only[aR,seval,kB,kA,]
 refine j6 hΓ hC1 ?_
 simp only[aR,seval,kB,kA,]
 exact hk
theorem vq_hnone0 (hΓ:kK Tryz.prog Γ) (hC:Γ.get 29=none)
    (hk:cont ⟨n,t,hd,⟨nh,h,nl,fm,lv,mu⟩⟩ d (.v (.bool true)) K):callQ.callQ2 Tryz.prog Γ d K ⟨n,t,hd,⟨nh,h,nl,fm,lv,mu⟩⟩ (Γ.get 29) 29 [.v (.pointer none)]:=by
 rw[hC]
 refine ⟨.v (.bool true),kDw hC ⟨_,Tryz.func29,by kernel_rfl,rfl⟩ (fun _=>trivial) (fun n' t' hd' m' hn hh=>?_),hk⟩
 obtain ⟨nh',h',nl',fm',lv',mu'⟩:=m'
 exact j6 hΓ hC ⟨hn,_,_,rfl,Nat.le_refl _,fun _ _ h=>h⟩
theorem call_hadd0 (hΓ:kK Tryz.prog Γ) (hC:Γ.get 10=none) (hC1:Γ.get 29=none) {a b c:Value} {la:Nat} {xs:List AV} (ha:a.oneCell'=true∧b.oneCell'=true∧c.oneCell'=true)
    (hk:cont ⟨n,t,hd,⟨nh+1,upd h nh (some (.cells [.v a,.v b,.v c,.sl la 6 xs])),nl,fm,lv,mu⟩⟩ d (.v (.int .i64 1)) K):kS Tryz.prog Γ false ⟨n,t,hd,⟨nh,h,nl,fm,lv,mu⟩⟩ 10 [.v (.pointer none),.agg [.v a,.v b,.v c,.sl la 6 xs]] d K:=by
 refine qB (nn:=81) hΓ [(4,[],[6]),(7,[2006],[]),(8,[],[2000000])] (by first|assumption|simp[kD,kP]) Tryz.func10 (by kernel_rfl) rfl (show Tryz.f10.results.toList=[.tmp 4] from rfl) rfl ?_
 obtain ⟨h1,h2,h3⟩:=ha
 simp only[aR,seval,kB,kA,cellsOf,List.all_cons,List.all_nil,AV.one,h1,h2,h3,Bool.and_self,if_true]
 refine vcM_sc ?_
 refine kFR [(4,[],[6]),(7,[2006],[]),(8,[],[2000000])] hΓ 1 ?_
 simp only[aR,seval,kB,kA,]
 (repeat (with_reducible refine And.intro ?_ ?_;focus (first|omega|exact kF|kernel_rfl)))
 refine vq_hnone0 hΓ hC1 ?_
 simp only[aR,seval,kB,kA,]
 refine ⟨_,rfl,?_⟩
 simp only[aR,seval,kB,kA,]
 exact hk
end
structure FoldI (keep:Int) (x:Hs) (all:List Cm) (tr:List (List Nd)):Prop where
 tl:tr.length=all.length+1
 xr:x.rev=all.length
 xk:x.keep=keep
 xl:x.l=all.drop (all.length - keep.toNat)
 xs:tr[all.length]? = some x.s
 st:∀ (i:Nat) (c:Cm) (t:List Nd),all[i]? = some c→tr[i]? = some t→c.rev=(i:Int)+1∧(allN t c.acs).e=0∧tr[i+1]? = some (allN t c.acs).now
 sn:∀ t∈tr,sndN t
 ok:∀ c∈all,okCm c
theorem fold_start (keep:Int):FoldI keep ⟨0,[],keep,[]⟩ [] [[]]:=by
 refine ⟨rfl,rfl,rfl,by simp,rfl,fun i c t h=>by simp at h,fun t ht=>?_,fun c hc=>by simp at hc⟩
 rw[List.mem_singleton]at ht
 subst ht;exact snd_nil
theorem fold_step {keep:Int} (hk:1≤keep) {x:Hs} {all:List Cm} {tr:List (List Nd)} (F:FoldI keep x all tr) {c:Cm} (hc:okCm c) (hr:c.rev=tr.length) (h0:(addN x c).2=0) (S:sndN (addN x c).1.s) :
    FoldI keep (addN x c).1 (all++[c]) (tr++[(addN x c).1.s]):=by
 obtain ⟨tl,xr,xk,xl,xs,st,sn,ok⟩:=F
 unfold addN at h0 S ⊢
 split at h0
 ·simp at h0
 ·rename_i g1
  rw[if_neg g1]at S ⊢
  split at h0
  ·rename_i g2
   simp at h0;exact absurd h0 g2
  ·rename_i g2
   rw[if_neg g2]at S ⊢
   simp only at S ⊢
   have g3:(allN x.s c.acs).e=0:=by simpa using g2
   refine ⟨by simp[tl],?_,xk,?_,?_,?_,?_,?_⟩
   ·rw[hr,tl];simp
   ·rw[xl,xk]
    simp only[List.length_append,List.length_cons,List.length_nil,List.length_drop]
    by_cases hle:all.length < keep.toNat
    ·rw[show all.length - keep.toNat=0 by omega,show all.length - 0+1 - keep.toNat=0 by omega,show all.length+(0+1) - keep.toNat=0 by omega];simp only[List.drop_zero]
    ·rw[show all.length - (all.length - keep.toNat)+1 - keep.toNat=1 by omega,← List.drop_append_of_le_length (by omega),List.drop_drop,show all.length - keep.toNat+1=all.length+(0+1) - keep.toNat by omega]
   ·rw[List.getElem?_append_right (by simp[tl])]
    simp[tl]
   ·intro i c' t' h1 h2
    by_cases hi:i < all.length
    ·rw[List.getElem?_append_left hi]at h1
     rw[List.getElem?_append_left (by omega)]at h2
     rw[List.getElem?_append_left (by omega)]
     exact st i c' t' h1 h2
    ·have hi2:i=all.length:=by
       rw[List.getElem?_append_right (by omega)]at h1
       have:=(List.getElem?_eq_some_iff.1 h1).1
       simp at this;omega
     subst hi2
     rw[List.getElem?_append_right (Nat.le_refl _)]at h1
     simp at h1
     subst h1
     rw[List.getElem?_append_left (by omega),xs]at h2
     obtain rfl:=Option.some.inj h2
     refine ⟨by rw[hr,tl];simp,g3,?_⟩
     rw[List.getElem?_append_right (by omega)]
     simp[tl]
   ·intro t ht
    rcases List.mem_append.1 ht with ht|ht
    ·exact sn t ht
    ·rw[List.mem_singleton]at ht
     subst ht;exact S
   ·intro c' hc'
    rcases List.mem_append.1 hc' with hc'|hc'
    ·exact ok c' hc'
    ·rw[List.mem_singleton]at hc'
     subst hc';exact hc
theorem fold_since {keep:Int} (hk:1≤keep) {x:Hs} {all:List Cm} {tr:List (List Nd)} (F:FoldI keep x all tr) {r:Nat} (h1:all.length - keep.toNat≤r) (h2:r≤all.length):sinR x r=(all.drop r,0):=by
 have hl:x.l.length=all.length - (all.length - keep.toNat):=by rw[F.xl,List.length_drop]
 have hr:=F.xr
 unfold sinR
 rw[if_neg (by omega),if_neg (by omega)]
 congr 1
 rw[F.xl,List.drop_drop]
 congr 1
 rw[List.length_drop]
 omega
end Go.Proofs
end
-- HTh9
section
namespace Go.Proofs
open Go Go.Rw
set_option maxRecDepth 100000
theorem cut_ep {fm:Nat→Nat} {l l' sz i j:Nat} {ys:List AV}:AV.cut fm l (.ep l' sz ys i j)=if fm l'=fm l then .any else .ep l' sz ys i j:=rfl
def actL (l:List (List Ac)):List AV:=l.map fun a=>.sl 0 6 (acts a)
def ndsL (l:List (List Nd)):List AV:=l.map fun a=>.sl 0 5 (kZ a)
theorem kCn (l:List (List Ac)):(actL l).length=l.length:=by simp[actL]
theorem kBo (l:List (List Nd)):(ndsL l).length=l.length:=by simp[ndsL]
theorem actL_getD (l:List (List Ac)) {i:Nat} (h:i < l.length):(actL l).getD i .any = .sl 0 6 (acts l[i]):=by simp[actL,List.getD_eq_getElem?_getD,h]
theorem ndsL_getD (l:List (List Nd)) {i:Nat} (h:i < l.length):(ndsL l).getD i .any = .sl 0 5 (kZ l[i]):=by simp[ndsL,List.getD_eq_getElem?_getD,h]
theorem ndsL_append (l:List (List Nd)) (t:List Nd):ndsL l++[.sl 0 5 (kZ t)]=ndsL (l++[t]):=by simp[ndsL]
abbrev GivenL:={ l:List (List Ac) // l.length≤9223372036854775807∧∀ a∈l,wideA a }
abbrev folds17Con:Con where
 ι:=GivenL×I64
 args:=fun p=>[.sl 0 1 (actL p.1.1),.v (.int .i64 p.2.1)]
 post:=fun _ r=>r = .v (.bool true)
 plain:=true
set_option maxHeartbeats 8000000 in
theorem folds17_good:Rw.Good Tryz.prog 4 folds17Con:=by
 have hΓ:kK Tryz.prog [(7,kEa),(31,z6),(15,actsCon),(18,kEV),(19,kDT)]:=(kH awake17_good (kH kCe (kH acts_good (kH rdoall_good (kH snodes_good kJ)))))
 refine kDA (nn:=208) Tryz.func4 (by kernel_rfl) rfl (show Tryz.f4.results.toList=[.tmp 4] from rfl) (fun _=>rfl) (fun x=>by simp[AV.erL,AV.er]) ?_
 rintro ⟨⟨l,hl,hlw⟩,⟨keep,hke⟩⟩
 refine qU hΓ (Ws:=[]) _ ?_
 simp only[aR,seval,kB,kA,kCn]
 by_cases g2:(l.length:Int) > 30
 ·simp only[aR,seval,kB,kA,g2]
  refine kAC (by simp[kD]) ?_
  simp only[aR,seval,kB,kA,]
 by_cases g3:keep < 1
 ·simp only[aR,seval,kB,kA,g2,g3]
  refine kAC (by simp[kD]) ?_
  simp only[aR,seval,kB,kA,]
 by_cases g4:keep > 30
 ·simp only[aR,seval,kB,kA,g2,g3,g4]
  refine kAC (by simp[kD]) ?_
  simp only[aR,seval,kB,kA,]
 simp only[aR,seval,kB,kA,g2,g3,g4]
 have hm:l.length≤30:=by omega
 have hq:1≤keep∧keep≤30:=by omega
 clear g2 g3 g4
 refine call_tnew (by simp[kD,kP]) ?_
 simp only[aR,seval,kB,kA,]
 (repeat (with_reducible refine And.intro ?_ ?_;focus (first|omega|exact kF|kernel_rfl)))
 refine call_hnew hΓ (by simp[kD,kP]) (by simp[kD,kP]) (s:=ts0) (o:=0) (ob:=1) (by simp[qR,upd,ts0]) (by omega) (by omega) ?_
 simp only[aR,seval,kB,kA,ts0]
 (repeat (with_reducible refine And.intro ?_ ?_;focus (first|omega|exact kF|kernel_rfl)))
 obtain ⟨St,hSt⟩:∃ St:{ p:Nat×Hs×TS×List Cm×List (List Nd) // p.1≤l.length∧FoldI keep p.2.1 p.2.2.2.1 p.2.2.2.2∧p.2.2.2.1.length≤p.1∧p.2.2.1.l=p.2.1.s∧sndN p.2.1.s }→AS,∀ p,St p=AS.ofH 208 [(0,.sl 0 1 (actL l)),(1,.v (.int .i64 keep)),(5,.ptr 0 0),(7,.sl 3 1 (ndsL p.1.2.2.2.2)),(8,.v (.int .i64 p.1.1))] [] (hisL p.1.2.1 p.1.2.2.1) [(p.1.2.1.l.length,32),(p.1.2.2.2.2.length,42)]:=⟨_,fun _=>rfl⟩
 refine kCZ ?_
 refine j8 [] hΓ St (fun p=>l.length - p.1.1) ⟨(0,⟨0,[],keep,[]⟩,ts0,[],[[]]),by simp,fold_start keep,by simp,rfl,snd_nil⟩ (by rw[hSt];refine Weak.trans (weak_put 7 (.sl 2 1 [.sl 0 5 []]) fun G w v h0 hv=>VR.row0 (sz:=0) 5 (by rw[h0];rfl) hv) ?_;refine qF [4,2,3] [.nil 4,.live 2] ?_;simp only[aR,seval,kB,kA,hisL,hisC,ts0,cms_nil,List.length_nil,ndsL,kEq,List.map_cons,List.map_nil]<;>((repeat' apply And.intro)<;>first|rfl|omega|trivial)) ?_
 rintro ⟨⟨i,x,s,all,tr⟩,hi,F,hal,hs,S⟩
 simp only at hi F hal hs S
 rw[hSt]
 simp only
 have hi1:i≤l.length:=hi
 simp only[aR,seval,kB,kA,hisL,hisC,kCn]
 (with_reducible first|refine kE (fun h=>?_) (fun h=>?_)|refine kG (fun h=>?_) (fun h=>?_))
 ·have hlt:i < l.length:=by omega
  have e1:=actL_getD l hlt
  have hw:=hlw _ (List.getElem_mem hlt)
  generalize l[i]=a at *
  simp only[aR,seval,kB,kA,hisL,hisC,h,e1,kCn]
  (repeat (with_reducible refine And.intro ?_ ?_;focus (first|omega|exact kF|kernel_rfl)))
  refine call_acts (by simp[kD]) rfl hw.1 hw.2 (by omega) ?_
  by_cases hA:wF 1000 0 (wA a)≤1000
  case neg =>
   simp only[aR,seval,kB,kA,show (wF 1000 0 (wA a) > 1000)=True from eq_true (by omega)]
   refine kAC (by simp[kD]) ?_
   simp only[aR,seval,kB,kA,]
  obtain ⟨a1,a2⟩:=acts_okA (by omega) hw.2 hA
  have hrt:=F.tl
  have hxr:=F.xr
  have em:(i:Int).tmod 3=(i:Int) % 3:=Int.tmod_eq_emod_of_nonneg (by omega)
  have ew:IntKind.wrap .i64 (1+(i:Int).tmod 3)=1+(i:Int) % 3:=by rw[em,kC (by omega) (by omega)]
  simp only[aR,seval,kB,kA,show (wF 1000 0 (wA a) > 1000)=False from eq_false (by omega),e1,kCn,kBo,ew,kC (n:=1+(i:Int)) (by omega) (by omega)]
  (repeat (with_reducible refine And.intro ?_ ?_;focus (first|omega|exact kF|kernel_rfl)))
  obtain ⟨c,hc⟩:∃ c:Cm,c=⟨tr.length,1+(i:Int) % 3,1+i,a⟩:=⟨_,rfl⟩
  have ec:AV.agg [.v (.int .i64 tr.length),.v (.int .i64 (1+(i:Int) % 3)),.v (.int .i64 (1+(i:Int))),.sl 0 6 (acts a)]=cmT 0 c:=by rw[hc];rfl
  have okc:okCm c:=by rw[hc];exact ⟨a1,a2⟩
  have hcr:c.rev=tr.length:=by rw[hc]
  have okx:okHs x:=by
   refine ⟨by omega,by rw[F.xk];omega,?_⟩
   rw[F.xl,List.length_drop];omega
  refine kFM hΓ (by simp[kD,kP]) (by simp[kD,kP]) (by simp[kD,kP]) (by simp[kD]) (x:=x) (s:=s) (o:=0) (ot:=1) (om:=2) (lt:=2) (la:=0) (c:=c) ec okx hs (by rw[hs];exact S) okc rfl (by simp[qR]) (by omega) (by omega) rfl ⟨fun j y hj=>by simpa using ofL_lt j y hj,?_⟩ (by omega) (by simp) (by simp[cutT_upd,kBv,cut_v,cut_any,cut_ptr,cut_mp,cut_sl,cut_ep,cut_agg,cut_tup,cut_fn,kE8,kDG,kV,kM]) cutH_any ?_ ?_
  ·intro j hj
   match j with
   | 0=>exact absurd rfl hj
   | 1=>rfl
   | 2=>rfl
   | j+3=>rfl
  ·intro h1 f1 al1 hne
   have o1:h1 0=some (.cells (hisC x 1 2)):=f1 0 (by omega)
   have p1:h1 1=some (.cells [.mp 2]):=f1 1 (by omega)
   have q1:h1 2=some (.map s.es s.cl):=f1 2 (by omega)
   simp only[aR,seval,kB,kA,hne,kC (n:=(i:Int)+1) (by omega) (by omega)]
   (repeat (with_reducible refine And.intro ?_ ?_;focus (first|omega|exact kF|kernel_rfl)))
   refine kN ⟨(i+1,x,s,all,tr),by simp only;omega,F,by simp only;omega,hs,S⟩ (by simp only;omega) ?_
   rw[hSt];refine qF [0,1,2] [.live 2,.live 3] ?_
   simp only[aR,seval,kB,kA,hisL,hisC,o1,p1,q1]<;>((repeat' apply And.intro)<;>first|rfl|omega|trivial)
  intro h1 s1 f1 o1 al1 T1 hs1 S1 hz
  have F':=fold_step hq.1 F okc hcr hz (by rw[← hs1];exact S1)
  generalize hx1:(addN x c).1=x1 at *
  simp only[aR,seval,kB,kA,]
  (repeat (with_reducible refine And.intro ?_ ?_;focus (first|omega|exact kF|kernel_rfl)))
  refine call_htree hΓ (by simp[kD,kP]) (by simp[kD,kP]) (by simp[kD,kP]) (x:=x1) (s:=s1) (o:=0) (ot:=4) (om:=5) (lt:=2) o1 T1 ?_
  have p1:h1 4=some (.cells [.mp 5]):=T1.1
  have q1:h1 5=some (.map s1.es s1.cl):=T1.2.1
  simp only[aR,seval,kB,kA,]
  (repeat (with_reducible refine And.intro ?_ ?_;focus (first|omega|exact kF|kernel_rfl)))
  refine kC5 (s:=s1) (o:=6) (ob:=7) (by simp[kD,kP]) (snd_ok S1).1 (by simp[qR,upd]) ?_
  have e5:=ndsL_append tr x1.s
  simp only[aR,seval,kB,kA,kBo,nodes_er,hs1,e5,kC (n:=(i:Int)+1) (by omega) (by omega)]
  (repeat (with_reducible refine And.intro ?_ ?_;focus (first|omega|exact kF|kernel_rfl)))
  refine kN ⟨(i+1,x1,s1,all++[c],tr++[x1.s]),by simp only;omega,F',by simp;omega,hs1,by rw[← hs1];exact S1⟩ (by simp only;omega) ?_
  rw[hSt];refine qF [0,4,5] [.live 2,.live 3] ?_
  simp only[aR,seval,kB,kA,hisL,hisC,o1,p1,q1,List.length_append,List.length_cons,List.length_nil,e5]<;>((repeat' apply And.intro)<;>first|rfl|omega|trivial)
 ·have hrt:=F.tl
  have hxr:=F.xr
  have hxl:x.l.length=all.length - (all.length - keep.toNat):=by rw[F.xl,List.length_drop]
  have okx:okHs x:=by
   refine ⟨by omega,by rw[F.xk];omega,by omega⟩
  have okc:okCms x.l:=fun c hc=>by
   rw[F.xl]at hc
   exact F.ok c (List.mem_of_mem_drop hc)
  obtain ⟨N,hN⟩:∃ N,N=all.length:=⟨_,rfl⟩
  rw[← hN]at hrt hxr hxl hal
  have hN30:N≤30:=by omega
  simp only[aR,seval,kB,kA,h,kCn]
  (repeat (with_reducible refine And.intro ?_ ?_;focus (first|omega|exact kF|kernel_rfl)))
  refine kFl hΓ (by simp[kD,kP]) (by simp[kD,kP]) (x:=x) (ot:=1) (lt:=2) (by simp[hisC]) ?_
  have e1:IntKind.wrap .i64 ((tr.length:Int) - 1)=N:=by rw[kC (by omega) (by omega)];omega
  have e2:IntKind.wrap .i64 ((N:Int) - keep)=N - keep:=by rw[kC (by omega) (by omega)]
  have e3:max 0 ((N:Int) - keep)=((N - keep.toNat:Nat):Int):=by omega
  simp only[aR,seval,kB,kA,hxr,kBo,e1,e2,e3]
  (repeat (with_reducible refine And.intro ?_ ?_;focus (first|omega|exact kF|kernel_rfl)))
  have hold:x.rev - (x.l.length:Int)=((N - keep.toNat:Nat):Int):=by omega
  refine kBc hΓ (by simp[kD,kP]) (by simp[kD,kP]) (x:=x) okx (ot:=1) (lt:=2) (by simp[hisC,hxr]) ?_
  simp only[aR,seval,kB,kA,hold,kBo,e1,e2,e3]
  (repeat (with_reducible refine And.intro ?_ ?_;focus (first|omega|exact kF|kernel_rfl)))
  refine kBc hΓ (by simp[kD,kP]) (by simp[kD,kP]) (x:=x) okx (ot:=1) (lt:=2) (by simp[hisC,hxr]) ?_
  simp only[aR,seval,kB,kA,hold]
  (repeat (with_reducible refine And.intro ?_ ?_;focus (first|omega|exact kF|kernel_rfl)))
  obtain ⟨S2,hS2⟩:∃ St:{ r:Nat // N - keep.toNat≤r∧r≤N+1 }→AS,∀ r,St r=AS.ofH 208 [(5,.ptr 0 0),(7,.sl 0 1 (ndsL tr)),(10,.v (.int .i64 r.1))] [] (hisO x s) []:=⟨_,fun _=>rfl⟩
  refine kCZ ?_
  refine j8 [] hΓ S2 (fun r=>N+1 - r.1) ⟨N - keep.toNat,by omega,by omega⟩ (by rw[hS2];refine qF [0,1,2] [] ?_;simp only[aR,seval,kB,kA,hisO,hisC,hxr]<;>((repeat' apply And.intro)<;>first|rfl|omega|trivial)) ?_
  rintro ⟨r,hr1,hr2⟩
  rw[hS2]
  simp only
  simp only[aR,seval,kB,kA,hisO]
  refine kFl hΓ (by simp[kD,kP]) (by simp[kD,kP]) (x:=x) (ot:=1) (lt:=0) rfl ?_
  simp only[aR,seval,kB,kA,hxr]
  (with_reducible first|refine kE (fun h9=>?_) (fun h9=>?_)|refine kG (fun h9=>?_) (fun h9=>?_))
  ·have hrN:r≤N:=by omega
   simp only[aR,seval,kB,kA,h9]
   refine kBL hΓ (by simp[kD,kP]) (by simp[kD,kP]) (by simp[kD,kP]) (by simp[kD]) okx okc (o:=0) (ot:=1) (by simp[hisO,hisC,hxr]) (by omega) ?_
   rw[fold_since hq.1 F (by omega) (by omega)]
   have hdl:(all.drop r).length=N - r:=by rw[List.length_drop,hN]
   simp only[aR,seval,kB,kA,zI,hdl]
   (repeat (with_reducible refine And.intro ?_ ?_;focus (first|omega|exact kF|kernel_rfl)))
   refine kFl hΓ (by simp[kD,kP]) (by simp[kD,kP]) (x:=x) (ot:=1) (lt:=0) (by simp[hisO,hisC,hxr]) ?_
   have e4:IntKind.wrap .i64 ((N:Int) - r)=((N - r:Nat):Int):=by rw[kC (by omega) (by omega)];omega
   have hrl:r < tr.length:=by omega
   have e5:=ndsL_getD tr hrl
   have hg0:tr[r]? = some tr[r]:=List.getElem?_eq_getElem hrl
   generalize tr[r]=t0 at *
   simp only[aR,seval,kB,kA,hxr,e4,e5,kBo]
   (repeat (with_reducible refine And.intro ?_ ?_;focus (first|omega|exact kF|kernel_rfl)))
   obtain ⟨S3,hS3⟩:∃ St:{ p:Nat×List Nd // p.1≤N - r∧tr[r+p.1]? = some p.2 }→AS,∀ p,St p=AS.ofH 208 [(5,.ptr 0 0),(7,.sl 0 1 (ndsL tr)),(10,.v (.int .i64 r)),(11,.sl 0 4 (cms (all.drop r))),(13,.sl 0 5 (kZ p.1.2)),(14,.v (.int .i64 p.1.1))] [] (hisO x s) []:=⟨_,fun _=>rfl⟩
   refine kCZ ?_
   refine j8 [] hΓ S3 (fun p=>N - r - p.1.1) ⟨(0,t0),by simp,hg0⟩ (by rw[hS3];refine qF [0,1,2] [] ?_;simp only[aR,seval,kB,kA,hisO,hisC,hxr]<;>((repeat' apply And.intro)<;>first|rfl|omega|trivial)) ?_
   rintro ⟨⟨i,u⟩,hi2,hu⟩
   simp only at hi2 hu
   rw[hS3]
   simp only
   simp only[aR,seval,kB,kA,hisO,zI,hdl]
   (with_reducible first|refine kE (fun h8=>?_) (fun h8=>?_)|refine kG (fun h8=>?_) (fun h8=>?_))
   ·have hlt:i < (all.drop r).length:=by omega
    have hra:r+i < all.length:=by omega
    have e6:=cms_getD (all.drop r) hlt
    have e7:(all.drop r)[i]=all[r+i]:=by rw[List.getElem_drop]
    rw[e7]at e6
    have hc1:all[r+i]? = some all[r+i]:=List.getElem?_eq_getElem hra
    have hco:=F.ok _ (List.getElem_mem hra)
    generalize all[r+i]=c at *
    obtain ⟨hcr,hce,hcn⟩:=F.st (r+i) c u hc1 hu
    have su:=F.sn u (List.mem_of_getElem? hu)
    have hul:=su.len
    have htu:okT u:=⟨by omega,fun x hx=>(snd_ok su).2.2.2 x hx⟩
    have hu2:r+i+1 < tr.length:=by omega
    have hg1:tr[r+i+1]? = some tr[r+i+1]:=List.getElem?_eq_getElem hu2
    rw[hcn]at hg1
    have hnx:=(Option.some.inj hg1).symm
    have sn2:=F.sn _ (List.getElem_mem hu2)
    have e8:=ndsL_getD tr hu2
    rw[hnx]at e8 sn2
    obtain ⟨crev,ccl,csq,cac⟩:=c
    simp only at hcr hce hcn hnx e8 sn2 hco
    have hnl:=sn2.len
    simp only[aR,seval,kB,kA,hisO,h8,e6,cmA,zI,hdl,kC (n:=(r:Int)+1) (by omega) (by omega),kC (n:=(r:Int)+1+i) (by omega) (by omega),show (crev:Int)=(r:Int)+1+i by omega]
    (repeat (with_reducible refine And.intro ?_ ?_;focus (first|omega|exact kF|kernel_rfl)))
    refine call_doall (by simp[kD]) rfl rfl htu hco.1 hco.2 (.inl rfl) (.inl rfl) ?_
    have e9:((r:Int)+1+i).toNat=r+i+1:=by omega
    simp only[aR,seval,kB,kA,hce,hisO,kBt,e8,e9,kBo,kC (n:=(r:Int)+1) (by omega) (by omega),kC (n:=(r:Int)+1+i) (by omega) (by omega)]
    (repeat (with_reducible refine And.intro ?_ ?_;focus (first|omega|exact kF|kernel_rfl)))
    refine call_snodes (by simp[kD]) rfl rfl (by omega) (by omega) ?_
    simp only[aR,seval,kB,kA,decide_true,kC (n:=(i:Int)+1) (by omega) (by omega)]
    (repeat (with_reducible refine And.intro ?_ ?_;focus (first|omega|exact kF|kernel_rfl)))
    refine kN ⟨(i+1,(allN u cac).now),by simp only;omega,hcn⟩ (by simp only;omega) ?_
    rw[hS3];refine qF [0,1,2] [] ?_
    simp only[aR,seval,kB,kA,hisO,hisC]<;>((repeat' apply And.intro)<;>first|rfl|omega|trivial)
   ·simp only[aR,seval,kB,kA,hisO,h8,kC (n:=(r:Int)+1) (by omega) (by omega)]
    (repeat (with_reducible refine And.intro ?_ ?_;focus (first|omega|exact kF|kernel_rfl)))
    refine kN ⟨r+1,by omega,by omega⟩ (by simp only;omega) ?_
    rw[hS2];refine qF [0,1,2] [] ?_
    simp only[aR,seval,kB,kA,hisO,hisC]<;>((repeat' apply And.intro)<;>first|rfl|omega|trivial)
  ·simp only[aR,seval,kB,kA,h9]
   (repeat (with_reducible refine And.intro ?_ ?_;focus (first|omega|exact kF|kernel_rfl)))
   refine call_hsince0 hΓ (by simp[kD,kP]) (by simp[kD,kP]) ?_
   simp only[aR,seval,kB,kA,]
   (repeat (with_reducible refine And.intro ?_ ?_;focus (first|omega|exact kF|kernel_rfl)))
   refine call_hadd0 hΓ (by simp[kD,kP]) (by simp[kD,kP]) ⟨rfl,rfl,rfl⟩ ?_
   simp only[aR,seval,kB,kA,]
   (repeat (with_reducible refine And.intro ?_ ?_;focus (first|omega|exact kF|kernel_rfl)))
   refine call_hrev0 hΓ (by simp[kD,kP]) (by simp[kD,kP]) ?_
   simp only[aR,seval,kB,kA,]
   (repeat (with_reducible refine And.intro ?_ ?_;focus (first|omega|exact kF|kernel_rfl)))
   refine call_hold0 hΓ (by simp[kD,kP]) (by simp[kD,kP]) ?_
   simp only[aR,seval,kB,kA,]
   (repeat (with_reducible refine And.intro ?_ ?_;focus (first|omega|exact kF|kernel_rfl)))
   refine call_htree0 hΓ (by simp[kD,kP]) (by simp[kD,kP]) ?_
   simp only[aR,seval,kB,kA,]
   (repeat (with_reducible refine And.intro ?_ ?_;focus (first|omega|exact kF|kernel_rfl)))
   refine call_hof0 hΓ (by simp[kD,kP]) (by simp[kD,kP]) ?_
   simp only[aR,seval,kB,kA,List.length_nil]
   (repeat (with_reducible refine And.intro ?_ ?_;focus (first|omega|exact kF|kernel_rfl)))
   refine kAC (by simp[kD]) ?_
   simp only[aR,seval,kB,kA,]
end Go.Proofs
end
-- HUeR
section
namespace Go.Proofs
open Go Go.Rw Go.RowKit Go.ChangeShapes Go.WideShapes Go.ChangeAt Go.Deep
set_option maxRecDepth 100000
theorem i64_rng {n:Int} (h:(Lit.int .i64 n).wf=true):-9223372036854775808≤n∧n≤9223372036854775807:=by
 simp[Lit.wf,IntKind.min,IntKind.max,IntKind.signed,IntKind.bits]at h;omega
abbrev tyC:Ty:=.st [.int .i64,.int .i64,.str]
abbrev tyA:Ty:=.st [.int .i64,.int .i64,.int .i64,.str,.bool,.slc tyC]
theorem fit_comp {ds:List AV} (h:Fits tyC ds):∃ c:Cp,kDN tyC ds=cA c∧(-9223372036854775808≤c.n∧c.n≤9223372036854775807)∧c.t.length≤9223372036854775807:=by
 simp only[tyC,Fits,FitsL]at h
 obtain ⟨a,b,rfl,⟨k,rfl,hk⟩,a2,b2,rfl,⟨n,rfl,hn⟩,a3,b3,rfl,⟨t,rfl,ht⟩,rfl⟩:=h
 exact ⟨⟨k,n,t⟩,rfl,i64_rng hn,ht⟩
theorem fit_comps {cs:List AV} (h:Fits (.slc tyC) cs):∃ l:List Cp,cs=[.sl 0 3 (qD l)]∧wideC l:=by
 rw[Fits]at h
 obtain ⟨xs,rfl,h1,h2⟩:=h
 obtain ⟨l,rfl,h3⟩:=kEZ cA (fun c=>(-9223372036854775808≤c.n∧c.n≤9223372036854775807)∧c.t.length≤9223372036854775807) (fun ds hd=>fit_comp hd) xs h2
 exact ⟨l,rfl,by simpa using h1,h3⟩
theorem fit_act {ds:List AV} (h:Fits tyA ds):∃ a:Ac,kDN tyA ds=aA a∧a.nm.length≤9223372036854775807∧wideC a.ops:=by
 simp only[tyA,Fits.eq_5,FitsL]at h
 obtain ⟨a,b,rfl,h1,a2,b2,rfl,h2,a3,b3,rfl,h3,a4,b4,rfl,h4,a5,b5,rfl,h5,a6,b6,rfl,h6,rfl⟩:=h
 obtain ⟨l,rfl,hl⟩:=fit_comps h6
 simp only[Fits]at h1 h2 h3 h4 h5
 obtain ⟨k,rfl,_⟩:=h1
 obtain ⟨id,rfl,_⟩:=h2
 obtain ⟨par,rfl,_⟩:=h3
 obtain ⟨nm,rfl,hn⟩:=h4
 obtain ⟨dir,rfl⟩:=h5
 exact ⟨⟨k,id,par,nm,dir,l⟩,rfl,hn,hl⟩
section
variable {P:Program} {W:World} {H:Type} {enc:TypeId×Value→H}
end
end Go.Proofs
end
-- HUkR
section
namespace Go.Proofs
open Go Go.Rw Go.RowKit Go.ChangeShapes Go.WideShapes Go.ChangeAt Go.Deep
set_option maxRecDepth 100000
end Go.Proofs
end
-- HThR
section
namespace Go.Proofs
open Go Go.Rw Go.RowKit Go.ChangeShapes Go.WideShapes Go.ChangeAt Go.Deep
set_option maxRecDepth 100000
theorem fit_acts {ds:List AV} (h:Fits (.slc tyA) ds):∃ a:List Ac,kDN (.slc tyA) ds = .sl 0 6 (acts a)∧wideA a:=by
 rw[Fits]at h
 obtain ⟨xs,rfl,g1,g2⟩:=h
 obtain ⟨l,rfl,g3⟩:=kEZ aA (fun a=>a.nm.length≤9223372036854775807∧wideC a.ops) (fun ds hd=>fit_act hd) xs g2
 exact ⟨l,rfl,by simpa using g1,g3⟩
theorem open_actss {P:Program} {W:World} {H:Type} {enc:TypeId×Value→H} {t:TypeId} {v:Value} {d:DataW H} {p:List MemPlace} (ht:isTy P t (.slc (.slc tyA))=true) (hv:∃ A n c,v = .slice A n c) (h:DataW.Trod enc P W 0 (fun _=>true) true t v d p) :
    ∃ l:List (List Ac),l.length≤9223372036854775807∧(∀ a∈l,wideA a)∧VR (Gin (Fw W) none) W v (.sl 0 1 (actL l)) :=
 arg_slc (fun a=>.sl 0 6 (acts a)) _ (fun ds hd=>fit_acts hd) ht hv h
end Go.Proofs
end
-- HUr1
section
namespace Go.Proofs.YtnpofobcbfbfnaaGreatDoor
open Go Go.ChangeShapes Go.WideShapes Go.ChangeAt Go.RowKit Go.Rw Go.Lib
open Go.ChangeMaps (open_string shut_string)
set_option maxRecDepth 100000
theorem own:ownKnob Tryz.prog.godebug=none:=by kernel_rfl
theorem laidOut:laidOutB Tryz.prog=true:=by kernel_rfl
noncomputable def kDC (os:Os):World :=
 let w0:=World.holding Tryz.prog os ⟨#[],#[],[]⟩
 let put (h:Array Obj) (g:Nat) (cs:Array Value):Array Obj:=h.modify g fun
  | .cells _ t frozen=>.cells cs t frozen
  | o=>o
 let h1:=put w0.heap 0 (Lib.firstTab.map fun z=>Value.int .u8 z).toArray
 let h2:=put h1 1 ((List.range 16).flatMap fun i=>[Value.int .u8 (Lib.accLo i),Value.int .u8 (Lib.accHi i)]).toArray
 { w0 with heap:=h2 }
abbrev laidL : List (String × DataW Unit) := [("unicode/utf8.acceptRanges", Lib.acceptData), ("unicode/utf8.first", Lib.firstData)]
theorem laid_met (os:Os) (args:Array Value):laidMet Tryz.prog laidL ((kDC os).forCall (fun _ _=>0) ⟨#[],args,[]⟩).memory :=
 (LaidIn.of_run (l:=laidL) [1,0] 8 (by kernel_rfl) (by kernel_rfl) (by kernel_rfl) (by kernel_rfl)).met
theorem tabs_of {W:World} (hL:laidMet Tryz.prog laidL W):TabOk W (k8 none):=by
 have htab:Lib.Utf8Tabs 0 1 W :=
  utf8Tabs_of_readsT (U8Types.of196 Tryz.lays196) ⟨by kernel_rfl,by kernel_rfl,by kernel_rfl,by kernel_rfl,by kernel_rfl,by kernel_rfl,by kernel_rfl⟩ (Lib.laidMet.reads hL (.tail _ (.head _))) (Lib.laidMet.reads hL (.head _))
 refine ⟨htab,fun g hg=>⟨?_,by rintro ⟨k,hk,_⟩;cases hk⟩⟩
 have key:∀ g i v,W.cell? ⟨g,i,none⟩=some v→g < W.heap.size:=fun g i v h=>Fw_lt (Nat.lt_of_le_of_lt (Nat.zero_le i) (Fw_cell h))
 rcases hg with rfl|rfl
 ·exact key 0 _ _ (htab.1 0 (by omega))
 ·exact key 1 _ _ (htab.2 0 (by omega)).1
theorem i64_wf {n:Int} (h:(Lit.int .i64 n).wf=true):-9223372036854775808≤n∧n≤9223372036854775807:=by
 simp[Lit.wf,IntKind.min,IntKind.max,IntKind.signed,IntKind.bits]at h;omega
end Go.Proofs.YtnpofobcbfbfnaaGreatDoor
end
