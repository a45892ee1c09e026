/-
 Commits in memory of their own;lists of commits held against each other. History: what its short methods answer. History: a commit put behind the others. History: what came behind a revision;the tree;a client's commits. law17: what the document fixes. HistoryTrims answers true. From the laws' functions to their rows: the tables as they are laid;a world for the witness.
-/
import Derived.Test.YtnpofobcbfbfnaaGreatDoorXHAp2
import Derived.Test.YtnpofobcbfbfnaaGreatDoorXHTr7
import Derived.Test.YtnpofobcbfbfnaaGreatDoorRwS
import Derived.Test.YtnpofobcbfbfnaaGreatDoorXHSh
import Derived.Test.YtnpofobcbfbfnaaGreatDoorRwG
import Derived.Test.YtnpofobcbfbfnaaGreatDoorCards
import Derived.Test.YtnpofobcbfbfnaaGreatDoorTie
import Derived.Lib.LaidIn
import Derived.Lib.LaidU8T
import Derived.Deep.DeepHandedRow
import Derived.Deep.DeepWitnessRowRef
import Derived.ProofKit
import Derived.OpenShut
import Derived.SizedLaws
import Derived.SevenTiedAt
set_option linter.unusedSimpArgs false
set_option linter.unusedVariables false
set_option linter.defProp false
set_option linter.unusedSectionVars false

-- HTh2
section
namespace Go.Proofs
open Go Go.Rw
set_option maxRecDepth 100000
abbrev zQ:Con where
 ι:=CmsN
 args:=fun p=>[.sl 0 4 (cms p.1)]
 post:=fun p r=>r = .sl 0 4 (cms p.1)
theorem kCD:Rw.Good Tryz.prog 31 zQ:=by
 have hΓ:kM Tryz.prog [(57,townCon)]:=(kJ town_good kL)
 refine k6 (nn:=21) hΓ Tryz.func31 (by kernel_rfl) rfl (show Tryz.f31.results.toList=[.tmp 2] from rfl) (fun _=>rfl) (fun x=>by simp[AV.erL,AV.er,cms_er]) ?_
 rintro ⟨l,hl,ho⟩
 simp only[aR,seval,zC]
 obtain ⟨St,hSt⟩:∃ St:{ i:Nat // i≤l.length }→AS,∀ i,St i=AS.of 21 [(2,.sl 2 4 (cms (l.take i.1))),(5,.sl 0 4 (cms l)),(6,.v (.int .i64 l.length)),(7,.v (.int .i64 i.1))] [] [(i.1,32)]:=⟨_,fun _=>rfl⟩
 refine zA hΓ St (fun i=>l.length - i.1) ⟨0,by omega⟩ (by rw[hSt];refine kR [] [.nil 4] ?_;simp only[aR,seval,List.take_zero,cms,List.map_nil]<;>((repeat' apply And.intro)<;>first|rfl|omega|trivial)) ?_
 rintro ⟨i,hi⟩
 rw[hSt]
 simp only
 simp only[aR,seval,zC]
 (with_reducible first|refine kD (fun h=>?_) (fun h=>?_)|refine kH (fun h=>?_) (fun h=>?_))
 ·have hlt:i < l.length:=by omega
  have e1:=cms_getD l hlt
  have ha:=ho _ (List.getElem_mem hlt)
  have e2:cms (l.take (i+1))=cms (l.take i)++[cmA l[i]]:=by
   show (l.take (i+1)).map cmA=(l.take i).map cmA++[cmA l[i]]
   rw[List.take_succ_eq_append_getElem hlt,List.map_append];rfl
  generalize l[i]=a at *
  obtain ⟨rev,cl,sq,ac⟩:=a
  simp only[aR,seval,h,e1,zC,cmA]
  (repeat (with_reducible refine And.intro ?_ ?_;focus (first|omega|exact kE|kernel_rfl)))
  refine call_town (by simp[kG]) rfl ha.1 ha.2 ?_
  simp only[aR,seval,zC,List.map_cons,List.map_nil,List.length_take,show min i l.length=i by omega,kC (n:=(i:Int)+1) (by omega) (by omega)]
  (repeat (with_reducible refine And.intro ?_ ?_;focus (first|omega|exact kE|kernel_rfl)))
  refine kO ⟨i+1,by omega⟩ (by simp only;omega) ?_
  rw[hSt];refine kR [] [.live 2] ?_
  simp only[aR,seval,e2,cmA,zC,List.length_append,List.length_cons,List.length_nil,List.length_take,show min i l.length=i by omega]<;>((repeat' apply And.intro)<;>first|rfl|omega|trivial)
 ·simp only[aR,seval,h,show i=l.length by omega,List.take_length]
end Go.Proofs
end
-- HTh3
section
namespace Go.Proofs
open Go Go.Rw
set_option maxRecDepth 100000
def hisC (x:Hs) (ot lt:Nat):List AV:=[.v (.int .i64 x.rev),.ptr ot 0,.v (.int .i64 x.keep),.sl lt 4 (cms x.l)]
abbrev okHs (x:Hs):Prop:=(0≤x.rev∧x.rev≤2199023255552)∧(1≤x.keep∧x.keep≤1000)∧x.l.length≤1000
section
variable {Γ:Env} {n:Nat} {t:Nat→AV} {hd:Nat→Nat→AV} {d:Option Nat} {K:AS→Prop} {nh nl:Nat} {h:Nat→Option AO} {fm:Nat→Nat} {lv:Nat→Option (Nat×Nat)} {mu:Bool}
theorem j3 (hΓ:kM Tryz.prog Γ) (hC:Γ.get 29=none) {x:Hs} {o ot lt:Nat} (hob:h o=some (.cells (hisC x ot lt)))
    (hk:cont ⟨n,t,hd,⟨nh,h,nl,fm,lv,mu⟩⟩ d (.v (.bool false)) K):kP Tryz.prog Γ false ⟨n,t,hd,⟨nh,h,nl,fm,lv,mu⟩⟩ 29 [.ptr o 0] d K:=by
 refine qD (nn:=12) hΓ [] (by first|assumption|simp[kG,kN]) Tryz.func29 (by kernel_rfl) rfl (show Tryz.f29.results.toList=[.tmp 2] from rfl) rfl ?_
 simp only[aR,seval,kA,kB,hob,hisC]
 exact hk
theorem vq_hnone (hΓ:kM Tryz.prog Γ) (hC:Γ.get 29=none) {x:Hs} {o ot lt:Nat} (hob:h o=some (.cells (hisC x ot lt)))
    (hk:cont ⟨n,t,hd,⟨nh,h,nl,fm,lv,mu⟩⟩ d (.v (.bool false)) K):callQ.callQ2 Tryz.prog Γ d K ⟨n,t,hd,⟨nh,h,nl,fm,lv,mu⟩⟩ (Γ.get 29) 29 [.ptr o 0]:=by
 rw[hC]
 refine ⟨(.v (.bool false)),kFd hC ⟨_,Tryz.func29,by kernel_rfl,rfl⟩ (fun _=>trivial) (fun n' t' hd' m' hn hh=>?_),hk⟩
 obtain ⟨nh',h',nl',fm',lv',mu'⟩:=m'
 exact j3 hΓ hC (hh _ _ hob) ⟨hn,_,_,rfl,Nat.le_refl _,fun _ _ h=>h⟩
theorem call_hrev (hΓ:kM Tryz.prog Γ) (hC:Γ.get 11=none) (hC1:Γ.get 29=none) {x:Hs} {o ot lt:Nat} (hob:h o=some (.cells (hisC x ot lt)))
    (hk:cont ⟨n,t,hd,⟨nh,h,nl,fm,lv,mu⟩⟩ d (.v (.int .i64 x.rev)) K):kP Tryz.prog Γ false ⟨n,t,hd,⟨nh,h,nl,fm,lv,mu⟩⟩ 11 [.ptr o 0] d K:=by
 refine qD (nn:=9) hΓ [] (by first|assumption|simp[kG,kN]) Tryz.func11 (by kernel_rfl) rfl (show Tryz.f11.results.toList=[.tmp 2] from rfl) rfl ?_
 simp only[aR,seval,kA,kB,hob,hisC]
 refine j3 hΓ hC1 hob ?_
 simp only[aR,seval,kA,kB,hob,hisC]
 exact hk
theorem kCP (hΓ:kM Tryz.prog Γ) (hC:Γ.get 12=none) (hC1:Γ.get 29=none) {x:Hs} (hx:okHs x) {o ot lt:Nat} (hob:h o=some (.cells (hisC x ot lt)))
    (hk:cont ⟨n,t,hd,⟨nh,h,nl,fm,lv,mu⟩⟩ d (.v (.int .i64 (x.rev - x.l.length))) K):kP Tryz.prog Γ false ⟨n,t,hd,⟨nh,h,nl,fm,lv,mu⟩⟩ 12 [.ptr o 0] d K:=by
 refine qD (nn:=15) hΓ [] (by first|assumption|simp[kG,kN]) Tryz.func12 (by kernel_rfl) rfl (show Tryz.f12.results.toList=[.tmp 2] from rfl) rfl ?_
 simp only[aR,seval,kA,kB,hob,hisC]
 refine j3 hΓ hC1 hob ?_
 simp only[aR,seval,kA,kB,hob,hisC,zC,kC (n:=x.rev - x.l.length) (by omega) (by omega)]
 (repeat (with_reducible refine And.intro ?_ ?_;focus (first|omega|exact kE|kernel_rfl)))
 exact hk
theorem vq_hold (hΓ:kM Tryz.prog Γ) (hC:Γ.get 12=none) (hC1:Γ.get 29=none) {x:Hs} (hx:okHs x) {o ot lt:Nat} (hob:h o=some (.cells (hisC x ot lt)))
    (hk:cont ⟨n,t,hd,⟨nh,h,nl,fm,lv,mu⟩⟩ d (.v (.int .i64 (x.rev - x.l.length))) K):callQ.callQ2 Tryz.prog Γ d K ⟨n,t,hd,⟨nh,h,nl,fm,lv,mu⟩⟩ (Γ.get 12) 12 [.ptr o 0]:=by
 rw[hC]
 refine ⟨(.v (.int .i64 (x.rev - x.l.length))),kFd hC ⟨_,Tryz.func12,by kernel_rfl,rfl⟩ (fun _=>trivial) (fun n' t' hd' m' hn hh=>?_),hk⟩
 obtain ⟨nh',h',nl',fm',lv',mu'⟩:=m'
 exact kCP hΓ hC hC1 hx (hh _ _ hob) ⟨hn,_,_,rfl,Nat.le_refl _,fun _ _ h=>h⟩
theorem call_hnew (hΓ:kM Tryz.prog Γ) (hC:Γ.get 8=none) (hC1:Γ.get 28=none) {s:TS} {o ob:Nat} (hT:qI h o ob s) {rev keep:Int} (hr:0≤rev∧rev≤1099511627776) (hp:1≤keep∧keep≤1000)
    (hk:cont ⟨n,t,hd,⟨nh+3,upd (upd (upd h nh (some (.cells [.mp (nh+1)]))) (nh+1) (some (.map s.es s.cl))) (nh+2) (some (.cells [.v (.int .i64 rev),.ptr nh 0,.v (.int .i64 keep),.sl 1 4 []])),nl,fm,lv,mu⟩⟩ d (.tup [.ptr (nh+2) 0,.v (.int .i64 0)]) K) :
    kP Tryz.prog Γ false ⟨n,t,hd,⟨nh,h,nl,fm,lv,mu⟩⟩ 8 [.v (.int .i64 rev),.ptr o 0,.v (.int .i64 keep)] d K:=by
 refine qD (nn:=32) hΓ [] (by first|assumption|simp[kG,kN]) Tryz.func8 (by kernel_rfl) rfl (show Tryz.f8.results.toList=[.tmp 6,.tmp 7] from rfl) rfl ?_
 simp only[aR,seval,kA,kB,show (rev < 0)=False from eq_false (by omega),show (rev > 1099511627776)=False from eq_false (by omega),show (keep < 1)=False from eq_false (by omega),show (keep > 1000)=False from eq_false (by omega)]
 refine kDH (s:=s) (o:=o) (ob:=ob) hC1 hT ?_
 simp only[aR,seval,kA,kB,]
 exact hk
end
end Go.Proofs
end
-- HTh4
section
namespace Go.Proofs
open Go Go.Rw
set_option maxRecDepth 100000
def cmT (la:Nat) (c:Cm):AV:=.agg [.v (.int .i64 c.rev),.v (.int .i64 c.client),.v (.int .i64 c.seq),.sl la 6 (acts c.acs)]
theorem kCV {fm:Nat→Nat} {lv:Nat→Option (Nat×Nat)}:kill fm [] lv=lv:=by funext l;simp[kill]
section
variable {Γ:Env} {n:Nat} {t:Nat→AV} {hd:Nat→Nat→AV} {d:Option Nat} {K:AS→Prop} {nh nl:Nat} {h:Nat→Option AO} {fm:Nat→Nat} {lv:Nat→Option (Nat×Nat)}
def AllO (h:Nat→Option AO) (nh:Nat) (fm:Nat→Nat) (lt o:Nat):Prop:=(∀ j y,h j=some y→j < nh)∧∀ j,j≠o→(h j).map (AO.cut fm lt)=h j
set_option maxHeartbeats 4000000 in
theorem kC5 (hΓ:kM Tryz.prog Γ) (hC:Γ.get 10=none) (hC1:Γ.get 29=none) (hC2:Γ.get 30=none) (hC3:Γ.get 31=some zQ)
    {x:Hs} {s:TS} {o ot om lt la:Nat} {c:Cm} {y:AV} (hy:y=cmT la c) (hx:okHs x) (hs:s.l=x.s) (S:sndN s.l) (hc:okCm c) (hob:h o=some (.cells (hisC x ot lt))) (hT:qI h ot om s) (h2:2≤lt) (hla:la≤1) (hlv:lv lt=some (x.l.length,32))
    (hb:AllO h nh fm lt o) (ho:o < 2000) (hfm:fm 0≠fm lt∧fm 1≠fm lt) (hct:cutT fm lt t=t) (hch:cutH fm lt hd=hd)
    (hk1:∀ h',(∀ j,j < nh→h' j=h j)→AllO h' (nh+1) fm lt o→(addN x c).2≠0→cont ⟨n,t,hd,⟨nh+1,h',nl,fm,lv,true⟩⟩ d (.v (.int .i64 (addN x c).2)) K)
    (hk2:∀ h' (s':TS),(∀ j,j < nh→j≠o→h' j=h j)→h' o=some (.cells (hisC (addN x c).1 (nh+1) lt))→AllO h' (nh+3) fm lt o→qI h' (nh+1) (nh+2) s'→s'.l=(addN x c).1.s→sndN s'.l→(addN x c).2=0 →
     cont ⟨n,t,hd,⟨nh+3,h',nl,fm,upd lv lt (some ((addN x c).1.l.length,32)),true⟩⟩ d (.v (.int .i64 0)) K) :
    kP Tryz.prog Γ false ⟨n,t,hd,⟨nh,h,nl,fm,lv,true⟩⟩ 10 [.ptr o 0,y] d K:=by
 subst hy
 obtain ⟨rev,cl,sq,ac⟩:=c
 obtain ⟨hc1,hc2⟩:=hc
 simp only at hc1 hc2
 obtain ⟨hx1,hx2,hx3⟩:=hx
 have ho2:=hb.1 _ _ hob
 have ht1:=hb.1 _ _ hT.1
 have ht2:=hb.1 _ _ hT.2.1
 have e1:(o=nh)=False:=eq_false (by omega)
 have hob1:upd h nh (some (.cells [.v (.int .i64 rev),.v (.int .i64 cl),.v (.int .i64 sq),.sl la 6 (acts ac)])) o=some (.cells (hisC x ot lt)):=by simp only[upd,e1,if_false];exact hob
 have hcut:AO.cut fm lt (.cells [.v (.int .i64 rev),.v (.int .i64 cl),.v (.int .i64 sq),.sl la 6 (acts ac)]) = .cells [.v (.int .i64 rev),.v (.int .i64 cl),.v (.int .i64 sq),.sl la 6 (acts ac)]:=by
  have:fm la≠fm lt:=by
   rcases (show la=0∨la=1 by omega) with rfl|rfl
   ·exact hfm.1
   ·exact hfm.2
  simp[AO.cut,AV.cutL,AV.cut,this]
 have hall1:AllO (upd h nh (some (.cells [.v (.int .i64 rev),.v (.int .i64 cl),.v (.int .i64 sq),.sl la 6 (acts ac)]))) (nh+1) fm lt o:=by
  refine ⟨fun j y hj=>?_,fun j hj=>?_⟩
  ·simp only[upd]at hj
   split at hj
   ·omega
   ·have:=hb.1 j y hj;omega
  ·simp only[upd]
   split
   ·rw[Option.map_some,hcut]
   ·exact hb.2 j hj
 have herr:∀ e,(addN x ⟨rev,cl,sq,ac⟩).2=e→e≠0→cont ⟨n,t,hd,⟨nh+1,upd h nh (some (.cells [.v (.int .i64 rev),.v (.int .i64 cl),.v (.int .i64 sq),.sl la 6 (acts ac)])),nl,fm,lv,true⟩⟩ d (.v (.int .i64 e)) K:=by
  rintro e rfl he
  refine hk1 _ (fun j hj=>?_) hall1 he
  simp only[upd];rw[if_neg (by omega)]
 refine qD (nn:=81) hΓ [(4,[],[6]),(7,[o,2006],[]),(8,[],[2000000])] (by first|assumption|simp[kG,kN]) Tryz.func10 (by kernel_rfl) rfl (show Tryz.f10.results.toList=[.tmp 4] from rfl) rfl ?_
 simp only[aR,seval,kA,kB,cmT]
 refine vcM_sc ?_
 refine vc_scopeM [(4,[],[6]),(7,[o,2006],[]),(8,[],[2000000])] hΓ 1 ?_
 simp only[aR,seval,kA,kB,cmT]
 (repeat (with_reducible refine And.intro ?_ ?_;focus (first|omega|exact kE|kernel_rfl)))
 refine vq_hnone hΓ hC1 hob1 ?_
 by_cases hA:rev≠x.rev+1∨cl < 1∨sq < 1
 ·have ha:(addN x ⟨rev,cl,sq,ac⟩).2=1:=by unfold addN;rw[if_pos hA]
  have hend:=herr 1 ha (by omega)
  by_cases g1:rev=x.rev+1
  ·subst g1
   by_cases g2:cl < 1
   ·simp only[aR,seval,kA,kB,hob,hisC,e1,g2,kC (n:=x.rev+1) (by omega) (by omega)]
    refine ⟨_,rfl,?_⟩
    simp only[aR,seval,kA,kB,]
    exact hend
   ·have g3:sq < 1:=by omega
    simp only[aR,seval,kA,kB,hob,hisC,e1,g2,g3,kC (n:=x.rev+1) (by omega) (by omega)]
    refine ⟨_,rfl,?_⟩
    simp only[aR,seval,kA,kB,]
    exact hend
  ·simp only[aR,seval,kA,kB,hob,hisC,e1,g1,kC (n:=x.rev+1) (by omega) (by omega)]
   refine ⟨_,rfl,?_⟩
   simp only[aR,seval,kA,kB,]
   exact hend
 have g1:rev=x.rev+1:=by omega
 have g2:¬ cl < 1:=by omega
 have g3:¬ sq < 1:=by omega
 subst g1
 simp only[aR,seval,kA,kB,zF,hob,hisC,e1,g2,g3,kC (n:=x.rev+1) (by omega) (by omega)]
 (repeat (with_reducible refine And.intro ?_ ?_;focus (first|omega|exact kE|kernel_rfl)))
 have htg:AV.tagsL [.ptr ot 0,.sl la 6 (acts ac)]=[]:=by simp[AV.tagsL,AV.tags,show ¬ 2≤la by omega]
 have hT1:qI (upd h nh (some (.cells [.v (.int .i64 (x.rev+1)),.v (.int .i64 cl),.v (.int .i64 sq),.sl la 6 (acts ac)]))) ot om s:=by
  obtain ⟨q1,q2,q3⟩:=hT
  refine ⟨?_,?_,q3⟩
  ·simp only[upd];rw[if_neg (by omega)];exact q1
  ·simp only[upd];rw[if_neg (by omega)];exact q2
 refine call_ttxn hC2 S hc1 hc2 hT1 ?_ ?_
 rotate_left
 ·intro he
  rw[htg,kCV]
  have ha:(addN x ⟨x.rev+1,cl,sq,ac⟩).2=(allN s.l ac).e:=by
   unfold addN
   rw[if_neg hA,← hs,if_pos he]
  have hend:=herr _ ha he
  simp only[aR,seval,kA,kB,zF,show ((allN s.l ac).e=0)=False from eq_false he]
  refine ⟨_,rfl,?_⟩
  simp only[aR,seval,kA,kB,]
  exact hend
 intro he s' hs' S'
 rw[htg,kCV]
 have e2:(o=nh+1)=False:=eq_false (by omega)
 have e3:(o=nh+1+1)=False:=eq_false (by omega)
 have e4:(nh=nh+1)=False:=eq_false (by omega)
 have e5:(nh=nh+1+1)=False:=eq_false (by omega)
 have e6:(nh+1=o)=False:=eq_false (by omega)
 have e7:(nh+1+1=o)=False:=eq_false (by omega)
 have e8:(nh=o)=False:=eq_false (by omega)
 simp only[aR,seval,kA,kB,zF,hob,hisC,e1,e2,e3,e4,e5,e6,e7,e8]
 (repeat (with_reducible refine And.intro ?_ ?_;focus (first|omega|exact kE|kernel_rfl)))
 refine ⟨.inl (by kernel_rfl),by rw[if_neg (by omega)],?_⟩
 refine jN (C:=zQ) (i:=⟨[⟨x.rev+1,cl,sq,ac⟩],by simp,by simp;exact ⟨hc1,hc2⟩⟩) (r:=.sl 0 4 [cmA ⟨x.rev+1,cl,sq,ac⟩]) hC3 rfl rfl (by simp[AV.erL,AV.er,cms,cmA,j7]) rfl (fun _ h=>h) ?_
 simp only[aR,seval,kA,kB,zF,hob,hisC,cmA,zC,j7,AV.er,hlv,e1,e2,e3,e4,e5,e6,e7,e8,show (2008=o)=False from eq_false (by omega),show (lt=1)=False from eq_false (by omega)]
 (repeat (with_reducible refine And.intro ?_ ?_;focus (first|omega|exact kE|kernel_rfl)))
 have ecm:cms x.l++[AV.agg [.v (.int .i64 (x.rev+1)),.v (.int .i64 cl),.v (.int .i64 sq),.sl 0 6 (acts ac)]]=cms (x.l++[⟨x.rev+1,cl,sq,ac⟩]):=by simp[cms,cmA]
 rw[ecm]
 have hlen:(cms (x.l++[⟨x.rev+1,cl,sq,ac⟩])).length=x.l.length+1:=by rw[zC];simp
 refine awp_cutAt (o:=o) (k:=3) (l:=lt) (sz:=4) (e:=32) (i:=x.l.length+1 - x.keep.toNat) (xs:=cms (x.l++[⟨x.rev+1,cl,sq,ac⟩])) [(4,.v (.int .i64 0))] (kT _ _ _) rfl h2 ?_ ?_ ?_ ?_
 ·rw[kT,hlen]
 ·rw[hlen];omega
 ·intro g off cap hc3 hc4
  refine qN hΓ (Ws:=[]) _ ?_
  rw[hlen]at hc3
  have hz:max (IntKind.wrap .i64 (((x.l.length+1:Nat):Int) - x.keep)) 0=((x.l.length+1 - x.keep.toNat:Nat):Int):=by
   rw[kC (by omega) (by omega)];omega
  have hsl:=sliceP_slc (P:=Tryz.prog) (t:=34) (e:=32) (sz:=4) (g:=g) (off:=off) (k:=x.l.length+1) (cap:=cap) (i:=x.l.length+1 - x.keep.toNat) (by kernel_rfl) hz (by omega) (by omega)
  simp only[aR,seval,kA,kB,kAL,e1,e2,e3,e4,e5,e6,e7,e8,List.set,hlen,lenA_slc Tryz.underlying34,hsl,cellsOf_slc,upd_twice]
  (repeat (with_reducible refine And.intro ?_ ?_;focus (first|omega|exact kE|kernel_rfl)))
  exact ⟨_,rfl,rfl⟩
 ·have hfin:addN x ⟨x.rev+1,cl,sq,ac⟩=(⟨x.rev+1,(allN s.l ac).now,x.keep,(x.l++[(⟨x.rev+1,cl,sq,ac⟩:Cm)]).drop (x.l.length+1 - x.keep.toNat)⟩,0):=by
    unfold addN
    rw[if_neg hA,← hs,if_neg (fun hh=>hh he)]
  have hd1:List.drop (x.l.length+1 - x.keep.toNat) (cms (x.l++[(⟨x.rev+1,cl,sq,ac⟩:Cm)]))=cms ((x.l++[(⟨x.rev+1,cl,sq,ac⟩:Cm)]).drop (x.l.length+1 - x.keep.toNat)):=by simp only[cms,List.map_drop]
  have hl2:((x.l++[(⟨x.rev+1,cl,sq,ac⟩:Cm)]).drop (x.l.length+1 - x.keep.toNat)).length=x.l.length+1 - (x.l.length+1 - x.keep.toNat):=by simp
  rw[hfin]at hk2
  simp only[hl2]at hk2
  simp only[aR,seval,kA,kB,kAL,upd_twice,hct,hch,hd1,hlen]
  refine hk2 _ s' ?_ (kT _ _ _) ⟨?_,?_⟩ ⟨?_,?_,by omega⟩ hs' S' trivial
  ·intro j hj hjo
   rw[kI _ _ hjo,cutO,kI _ _ hjo,kI _ _ (by omega),kI _ _ (by omega),kI _ _ (by omega)]
   exact hb.2 j hjo
  ·intro j y hj
   by_cases hjo:j=o
   ·omega
   ·rw[kI _ _ hjo,cutO]at hj
    obtain ⟨y',hy',_⟩:=Option.map_eq_some_iff.1 hj
    rw[kI _ _ hjo]at hy'
    simp only[upd]at hy'
    split at hy'
    ·omega
    ·split at hy'
     ·omega
     ·split at hy'
      ·omega
      ·have:=hb.1 j y' hy';omega
  ·intro j hjo
   rw[kI _ _ hjo]
   simp only[cutO,Option.map_map]
   congr 1
   funext y
   exact cutO_cut y
  ·rw[kI _ _ (by omega),cutO,kI _ _ (by omega),kI _ _ (by omega),kT]
   rfl
  ·rw[kI _ _ (by omega),cutO,kI _ _ (by omega),show nh+2=nh+1+1 from rfl,kT]
   rfl
end
end Go.Proofs
end
-- HTh5
section
namespace Go.Proofs
open Go Go.Rw
set_option maxRecDepth 100000
def sinR (x:Hs) (r:Int):List Cm×Int :=
 if r > x.rev then ([],15) else if r < x.rev - x.l.length then ([],14) else (x.l.drop (r - (x.rev - x.l.length)).toNat,0)
theorem cms_drop (l:List Cm) (i:Nat):List.drop i (cms l)=cms (l.drop i):=by simp only[cms,List.map_drop]
theorem cms_append (l m:List Cm):cms l++cms m=cms (l++m):=by simp[cms]
theorem partA_cms (l:List Cm) (i:Nat):kDa 0 4 (cms l) i l.length = .sl 0 4 (cms (l.drop i)):=by
 unfold kDa
 split
 ·rename_i h
  rw[h.1];rfl
 ·congr 1
  rw[cms_drop,List.take_of_length_le]
  rw[zC,List.length_drop]
  exact Nat.le_refl _
abbrev okCms (l:List Cm):Prop:=∀ c∈l,okCm c
section
variable {Γ:Env} {n:Nat} {t:Nat→AV} {hd:Nat→Nat→AV} {d:Option Nat} {K:AS→Prop} {nh nl:Nat} {h:Nat→Option AO} {fm:Nat→Nat} {lv:Nat→Option (Nat×Nat)} {mu:Bool}
theorem call_htree (hΓ:kM Tryz.prog Γ) (hC:Γ.get 16=none) (hC1:Γ.get 29=none) (hC2:Γ.get 28=none) {x:Hs} {s:TS} {o ot om lt:Nat} (hob:h o=some (.cells (hisC x ot lt))) (hT:qI h ot om s)
    (hk:cont ⟨n,t,hd,⟨nh+2,upd (upd h nh (some (.cells [.mp (nh+1)]))) (nh+1) (some (.map s.es s.cl)),nl,fm,lv,mu⟩⟩ d (.ptr nh 0) K):kP Tryz.prog Γ false ⟨n,t,hd,⟨nh,h,nl,fm,lv,mu⟩⟩ 16 [.ptr o 0] d K:=by
 refine qD (nn:=10) hΓ [] (by first|assumption|simp[kG,kN]) Tryz.func16 (by kernel_rfl) rfl (show Tryz.f16.results.toList=[.tmp 2] from rfl) rfl ?_
 simp only[aR,seval,kA,kB,hob,hisC]
 refine j3 hΓ hC1 hob ?_
 simp only[aR,seval,kA,kB,hob,hisC]
 (repeat (with_reducible refine And.intro ?_ ?_;focus (first|omega|exact kE|kernel_rfl)))
 refine kDH hC2 hT ?_
 simp only[aR,seval,kA,kB,]
 exact hk
theorem kAm (hΓ:kM Tryz.prog Γ) (hC:Γ.get 13=none) (hC1:Γ.get 29=none) (hC2:Γ.get 12=none) (hC3:Γ.get 31=some zQ) {x:Hs} (hx:okHs x) (hl:okCms x.l) {o ot:Nat} (hob:h o=some (.cells (hisC x ot 0))) {r:Int} (hr:-9223372036854775808≤r∧r≤9223372036854775807)
    (hk:cont ⟨n,t,hd,⟨nh,h,nl,fm,lv,mu⟩⟩ d (.tup [.sl (if (sinR x r).2=0 then 0 else 1) 4 (cms (sinR x r).1),.v (.int .i64 (sinR x r).2)]) K):kP Tryz.prog Γ false ⟨n,t,hd,⟨nh,h,nl,fm,lv,mu⟩⟩ 13 [.ptr o 0,.v (.int .i64 r)] d K:=by
 refine qD (nn:=31) hΓ [] (by first|assumption|simp[kG,kN]) Tryz.func13 (by kernel_rfl) rfl (show Tryz.f13.results.toList=[.tmp 4,.tmp 5] from rfl) rfl ?_
 simp only[aR,seval,kA,kB,hob,hisC]
 refine j3 hΓ hC1 hob ?_
 unfold sinR at hk
 obtain ⟨hx1,hx2,hx3⟩:=hx
 by_cases g1:r > x.rev
 ·rw[if_pos g1]at hk
  simp only[aR,seval,kA,kB,hob,hisC,g1]
  exact hk
 rw[if_neg g1]at hk
 simp only[aR,seval,kA,kB,hob,hisC,g1]
 refine kCP hΓ hC2 hC1 ⟨hx1,hx2,hx3⟩ hob ?_
 by_cases g2:r < x.rev - x.l.length
 ·rw[if_pos g2]at hk
  simp only[aR,seval,kA,kB,hob,hisC,g2]
  exact hk
 rw[if_neg g2]at hk
 simp only[aR,seval,kA,kB,hob,hisC,g2]
 (repeat (with_reducible refine And.intro ?_ ?_;focus (first|omega|exact kE|kernel_rfl)))
 refine vq_hold hΓ hC2 hC1 ⟨hx1,hx2,hx3⟩ hob ?_
 obtain ⟨i,hi⟩:∃ i:Nat,r - (x.rev - x.l.length)=i:=⟨(r - (x.rev - x.l.length)).toNat,by omega⟩
 have hit:(r - (x.rev - x.l.length)).toNat=i:=by omega
 rw[hit]at hk
 have hw:IntKind.wrap .i64 (r - (x.rev - x.l.length))=i:=by rw[hi,kC (by omega) (by omega)]
 have hle:i≤x.l.length:=by omega
 simp only[aR,seval,kA,kB,hob,hisC,hw,zC,partA_cms]
 (repeat (with_reducible refine And.intro ?_ ?_;focus (first|omega|exact kE|kernel_rfl)))
 rw[hC3]
 refine jN (C:=zQ) (i:=⟨x.l.drop i,by rw[List.length_drop];omega,fun c hc=>hl c (List.mem_of_mem_drop hc)⟩) (r:=.sl 0 4 (cms (x.l.drop i))) hC3 rfl rfl (by simp[AV.erL,AV.er]) rfl (fun _ h=>h) ?_
 simp only[aR,seval,kA,kB,AV.er]
 (repeat (with_reducible refine And.intro ?_ ?_;focus (first|omega|exact kE|kernel_rfl)))
 exact hk
end
theorem call_ownAll_t {Γ:Env} (hf:Γ.get 31=some zQ) {n:Nat} {t:Nat→AV} {hd:Nat→Nat→AV} {nh nl:Nat} {h:Nat→Option AO} {fm:Nat→Nat} {lv:Nat→Option (Nat×Nat)} {mu:Bool} {l:List Cm} {t1:Nat} {d:Option Nat} {K:AS→Prop} (hl:l.length≤1099511627776) (ho:okCms l)
    (hk:cont ⟨n,t,hd,⟨nh,h,nl,fm,kill fm (AV.tagsL [.sl t1 4 (cms l)]) lv,mu⟩⟩ d (.sl 0 4 (cms l)) K):kP Tryz.prog Γ false ⟨n,t,hd,⟨nh,h,nl,fm,lv,mu⟩⟩ 31 [.sl t1 4 (cms l)] d K:=by
 refine vcCall_none (C:=zQ) (i:=⟨l,hl,ho⟩) hf rfl rfl rfl (by simp[AV.erL,AV.er]) (ts:=AV.tagsL [.sl t1 4 (cms l)]) rfl ?_
 rintro r rfl
 exact hk
def hisO (x:Hs) (s:TS):List AO:=[.cells (hisC x 1 0),.cells [.mp 2],.map s.es s.cl]
abbrev hofCon:ConO where
 ι:={ p:Hs×TS×Int // okHs p.1∧okCms p.1.l }
 objs:=fun p=>hisO p.1.1 p.1.2.1
 args:=fun p=>[.ptr 0 0,.v (.int .i64 p.1.2.2)]
 post:=fun p objs lvs r=>objs=hisO p.1.1 p.1.2.1∧lvs=[]∧r = .sl 0 4 (cms (ofN p.1.1.l p.1.2.2))
theorem ofN_take (l:List Cm) (k:Int) {i:Nat} (h:i < l.length):ofN (l.take (i+1)) k=ofN (l.take i) k++if l[i].client=k then [l[i]] else []:=by
 rw[List.take_succ_eq_append_getElem h,ofN,List.filter_append]
 congr 1
 simp only[List.filter_cons,List.filter_nil,decide_eq_true_eq]
theorem ofN_len (l:List Cm) (k:Int):(ofN l k).length≤l.length:=List.length_filter_le _ _
set_option maxHeartbeats 1000000 in
theorem hof_good:jX Tryz.prog 14 hofCon:=by
 have hΓ:kM Tryz.prog [(31,zQ)]:=(kJ kCD kL)
 refine qQ (nn:=29) Tryz.func14 (by kernel_rfl) rfl (show Tryz.f14.results.toList=[.tmp 4] from rfl) (fun _=>rfl) ?_
 rintro ⟨⟨x,s,k⟩,hx,hl⟩
 simp only at hx hl
 have hx3:=hx.2.2
 refine qN hΓ (Ws:=[]) _ ?_
 simp only[aR,seval,kA,kB,hisO]
 refine j3 hΓ (by simp[kG,kN]) (x:=x) (o:=0) (ot:=1) (lt:=0) (by simp) ?_
 simp only[aR,seval,kA,kB,hisO,hisC,zC]
 (repeat (with_reducible refine And.intro ?_ ?_;focus (first|omega|exact kE|kernel_rfl)))
 obtain ⟨St,hSt⟩:∃ St:{ i:Nat // i≤x.l.length }→AS,∀ i,St i=AS.ofH 29 [(1,.v (.int .i64 k)),(4,.sl 2 4 (cms (ofN (x.l.take i.1) k))),(12,.sl 0 4 (cms x.l)),(13,.v (.int .i64 x.l.length)),(14,.v (.int .i64 i.1))] [(0,.ptr 0 0),(1,.ptr 1 0),(2,.mp 2)] (hisO x s) [((ofN (x.l.take i.1) k).length,32)]:=⟨_,fun _=>rfl⟩
 refine kBm ?_
 refine jK [] hΓ St (fun i=>x.l.length - i.1) ⟨0,by omega⟩ (by rw[hSt];refine k5 [0,1,2] [.nil 4] ?_;simp only[aR,seval,kA,kB,hisO,hisC,List.take_zero,ofN,List.filter_nil,kCr,List.length_nil]<;>((repeat' apply And.intro)<;>first|rfl|omega|trivial)) ?_
 rintro ⟨i,hle⟩
 rw[hSt]
 simp only
 simp only[aR,seval,kA,kB,hisO,hisC,zC]
 (with_reducible first|refine kD (fun h=>?_) (fun h=>?_)|refine kH (fun h=>?_) (fun h=>?_))
 ·have hlt:i < x.l.length:=by omega
  have e1:=cms_getD x.l hlt
  have ha:=hl _ (List.getElem_mem hlt)
  have e2:=ofN_take x.l k hlt
  have e3:=ofN_len (x.l.take i) k
  rw[List.length_take]at e3
  generalize x.l[i]=a at *
  obtain ⟨rev,cl,sq,ac⟩:=a
  simp only at e2
  simp only[aR,seval,kA,kB,hisO,hisC,h,e1,zC,cmA]
  (repeat (with_reducible refine And.intro ?_ ?_;focus (first|omega|exact kE|kernel_rfl)))
  by_cases g:cl=k
  ·rw[if_pos g]at e2
   have e4:cms (ofN (x.l.take (i+1)) k)=cms (ofN (x.l.take i) k)++[.agg [.v (.int .i64 rev),.v (.int .i64 cl),.v (.int .i64 sq),.sl 0 6 (acts ac)]]:=by rw[e2,← cms_append];rfl
   have e5:(ofN (x.l.take (i+1)) k).length=(ofN (x.l.take i) k).length+1:=by rw[e2];simp
   simp only[aR,seval,kA,kB,hisO,hisC,g,zC,cmA,kC (n:=(i:Int)+1) (by omega) (by omega)]
   (repeat (with_reducible refine And.intro ?_ ?_;focus (first|omega|exact kE|kernel_rfl)))
   refine kO ⟨i+1,by omega⟩ (by simp only;omega) ?_
   rw[hSt];refine k5 [0,1,2] [.live 2] ?_
   simp only[aR,seval,kA,kB,hisO,hisC,e4,e5,g]<;>((repeat' apply And.intro)<;>first|rfl|omega|trivial)
  ·rw[if_neg g,List.append_nil]at e2
   simp only[aR,seval,kA,kB,hisO,hisC,g,zC,cmA,kC (n:=(i:Int)+1) (by omega) (by omega)]
   (repeat (with_reducible refine And.intro ?_ ?_;focus (first|omega|exact kE|kernel_rfl)))
   refine kO ⟨i+1,by omega⟩ (by simp only;omega) ?_
   rw[hSt];refine k5 [0,1,2] [.live 2] ?_
   simp only[aR,seval,kA,kB,hisO,hisC,e2,g]<;>((repeat' apply And.intro)<;>first|rfl|omega|trivial)
 ·have hi2:i=x.l.length:=by omega
  subst hi2
  have e6:=List.take_of_length_le (Nat.le_refl x.l.length)
  simp only[aR,seval,kA,kB,hisO,hisC,h,e6]
  refine call_ownAll_t (by simp[kG]) (by have:=ofN_len x.l k;omega) (fun c hc=>hl c (List.mem_filter.1 hc).1) ?_
  simp only[aR,seval,kA,kB,hisO,hisC]
  refine kV [0,1,2] [] (hisO x s) [] (.sl 0 4 (cms (ofN x.l k))) ⟨rfl,rfl,rfl⟩ ?_
  simp only[aR,seval,kA,kB,hisO,hisC]<;>((repeat' apply And.intro)<;>first|rfl|omega|trivial)
section
variable {Γ:Env} {n:Nat} {t:Nat→AV} {hd:Nat→Nat→AV} {d:Option Nat} {K:AS→Prop} {nh nl:Nat} {h:Nat→Option AO} {fm:Nat→Nat} {lv:Nat→Option (Nat×Nat)} {mu:Bool}
theorem call_hof (hC:Γ.get 14=none) {x:Hs} {s:TS} (hx:okHs x) (hl:okCms x.l) {o ot om:Nat} (hob:h o=some (.cells (hisC x ot 0))) (hT:qI h ot om s) (hne:o≠ot∧o≠om) {k:Int}
    (hk:cont ⟨n,t,hd,⟨nh,h,nl,fm,lv,mu⟩⟩ d (.sl 0 4 (cms (ofN x.l k))) K):kP Tryz.prog Γ false ⟨n,t,hd,⟨nh,h,nl,fm,lv,mu⟩⟩ 14 [.ptr o 0,.v (.int .i64 k)] d K:=by
 obtain ⟨h1,h2,h3⟩:=hT
 have e0:upd h o (some (.cells (hisC x ot 0)))=h:=kD0 hob
 have e1:upd h ot (some (.cells [.mp om]))=h:=kD0 h1
 have e2:upd h om (some (.map s.es s.cl))=h:=kD0 h2
 refine vc_obj hof_good hC ⟨(x,s,k),hx,hl⟩ [o,ot,om] ⟨by simp[h3,hne.1,hne.2],by simp[dnL,dn],?_,by simp[AV.tagsL,AV.tags],?_⟩ ?_
 ·simp only[hisO,hisC,kBF,kCf,hob,h1,h2,kAg,kC3,kCF,kEd,dn_mp,dn_ptr,dn_v,dn_sl]
  simp
 ·simp[kAH,kA7,hob,h1,h2,hisC,kFO,AO.tags,AV.tagsL,AV.tags]
 ·rintro objs lvs r ⟨rfl,rfl,rfl⟩ hll
  have e3:(hisO x s).length - [o,ot,om].length=0:=rfl
  rw[e3]
  simp only[hisO,hisC,j1,kAa,j4,kBa,kA1,kB6,kFW,emb_v,kEJ,emb_sl,kB2,kBU,kDO,lnC_zero,j5,kAf,kAd,kAc,kA5,List.length_nil,Nat.add_zero]
  simp only[hisC]at e0
  rw[e0,e1,e2]
  exact hk
end
end Go.Proofs
end
-- HTh6
section
namespace Go.Proofs
open Go Go.Rw
set_option maxRecDepth 100000
section
variable {Γ:Env} {n:Nat} {t:Nat→AV} {hd:Nat→Nat→AV} {d:Option Nat} {K:AS→Prop} {nh nl:Nat} {h:Nat→Option AO} {fm:Nat→Nat} {lv:Nat→Option (Nat×Nat)} {mu:Bool}
theorem call_hnew0 (hΓ:kM Tryz.prog Γ) (hC:Γ.get 8=none) {rev keep:Int} (hr:0≤rev∧rev≤1099511627776) (hp:1≤keep∧keep≤1000)
    (hk:cont ⟨n,t,hd,⟨nh,h,nl,fm,lv,mu⟩⟩ d (.tup [.v (.pointer none),.v (.int .i64 1)]) K) :
    kP Tryz.prog Γ false ⟨n,t,hd,⟨nh,h,nl,fm,lv,mu⟩⟩ 8 [.v (.int .i64 rev),.v (.pointer none),.v (.int .i64 keep)] d K:=by
 refine qD (nn:=32) hΓ [] (by first|assumption|simp[kG,kN]) Tryz.func8 (by kernel_rfl) rfl (show Tryz.f8.results.toList=[.tmp 6,.tmp 7] from rfl) rfl ?_
 simp only[aR,seval,kA,kB,show (rev < 0)=False from eq_false (by omega),show (rev > 1099511627776)=False from eq_false (by omega),show (keep < 1)=False from eq_false (by omega),show (keep > 1000)=False from eq_false (by omega)]
 exact hk
theorem cutH_any {fm:Nat→Nat} {l:Nat}:cutH fm l (hdOf (Rw.look []))=hdOf (Rw.look []):=by
 funext j i
 cases j<;>rfl
end
def kBR:Cm:=⟨5,1,1,[⟨1,1,0,[97],false,[]⟩]⟩
def kD8:Cm:=⟨6,2,1,[]⟩
def kBx:Hs:=⟨4,[],1,[]⟩
theorem aw17_1:(addN kBx kBR).2=0∧(addN kBx kBR).1.rev=5∧(addN kBx kBR).1.keep=1∧(addN kBx kBR).1.l.length=1:=by decide +kernel
theorem aw17_2:(addN (addN kBx kBR).1 kD8).2=0∧(addN (addN kBx kBR).1 kD8).1.rev=6∧(addN (addN kBx kBR).1 kD8).1.keep=1∧(addN (addN kBx kBR).1 kD8).1.l.length=1∧(ofN (addN (addN kBx kBR).1 kD8).1.l 1).length=0:=by decide +kernel
theorem aw17_ok:okCm kBR:=⟨by decide,fun a ha=>by
 simp only[kBR,List.mem_singleton]at ha
 subst ha
 exact ⟨by unfold okL;decide,by decide⟩⟩
theorem aw17_cms:okCms (addN (addN kBx kBR).1 kD8).1.l:=by
 have:(addN (addN kBx kBR).1 kD8).1.l=[kD8]:=by decide +kernel
 rw[this]
 intro c hc
 rw[List.mem_singleton]at hc
 subst hc
 exact ⟨by decide,by simp[kD8]⟩
set_option maxHeartbeats 4000000 in
theorem awake17_good:Rw.Good Tryz.prog 7 kDz:=by
 have hΓ:kM Tryz.prog [(31,zQ)]:=(kJ kCD kL)
 refine kDy (nn:=89) Tryz.func7 (by kernel_rfl) rfl (show Tryz.f7.results.toList=[.tmp 0] from rfl) (fun _=>rfl) (fun x=>by simp[AV.erL,AV.er]) ?_
 rintro ⟨⟩
 refine qN hΓ (Ws:=[]) _ ?_
 simp only[aR,seval,kA,kB,]
 refine call_tnew (by simp[kG,kN]) ?_
 simp only[aR,seval,kA,kB,]
 (repeat (with_reducible refine And.intro ?_ ?_;focus (first|omega|exact kE|kernel_rfl)))
 refine call_hnew hΓ (by simp[kG,kN]) (by simp[kG,kN]) (s:=ts0) (o:=0) (ob:=1) (by simp[qI,upd,ts0]) (by omega) (by omega) ?_
 simp only[aR,seval,kA,kB,ts0]
 (repeat (with_reducible refine And.intro ?_ ?_;focus (first|omega|exact kE|kernel_rfl)))
 refine call_hnew0 hΓ (by simp[kG,kN]) (by omega) (by omega) ?_
 simp only[aR,seval,kA,kB,]
 (repeat (with_reducible refine And.intro ?_ ?_;focus (first|omega|exact kE|kernel_rfl)))
 refine vcCall_dead (by simp[kG,kN]) ⟨_,Tryz.func10,by kernel_rfl,rfl⟩ (bs:=[.ptr 4 0,cmT 0 kBR]) [2] rfl ?_ ?_
 ·intro k
  match k with
  | 0=>exact .inl rfl
  | 1=>exact .inr ⟨by simp [cmT,kBR,acts,aA,AV.er,AV.erL,qA],by simp [AV.tags,AV.tagsL]⟩
  | k+2=>exact .inl rfl
 refine vcCall_live (by simp[kG,kN]) ⟨_,Tryz.func10,by kernel_rfl,rfl⟩ (o:=4) (k:=3) (sz:=4) 32 (kT _ _ _) rfl (by omega) ?_
 refine kC5 hΓ (by simp[kG,kN]) (by simp[kG,kN]) (by simp[kG,kN]) (by simp[kG]) (x:=kBx) (s:=ts0) (o:=4) (ot:=2) (om:=3) (lt:=3) (la:=0) (c:=kBR) rfl (by simp[kBx,okHs]) rfl snd_nil aw17_ok (by rw[kT];rfl) (by simp[qI,upd,ts0]) (by omega) (by omega) (by simp[kT,kBx]) ⟨?_,?_⟩ (by omega) (by simp[kT,kI]) (by simp[kDn,kA3,cut_v,cut_any,kEU,cut_mp,cut_sl,cut_agg,cut_tup,cut_fn,kCK,kBM,kT,kI]) rfl ?_ ?_
 ·intro j y hj
  simp only[upd]at hj
  repeat' split at hj
  all_goals first|omega|cases hj
 ·intro j hj
  simp only[upd]
  repeat' split
  all_goals first|contradiction|rfl
 ·exact fun _ _ _ hne=>absurd aw17_1.1 hne
 intro h1 s1 f1 o1 a1 T1 hs1 S1 _
 obtain ⟨_,r1,k1,l1⟩:=aw17_1
 obtain ⟨z2,r2,k2,l2,n2⟩:=aw17_2
 generalize hx1:(addN kBx kBR).1=x1 at *
 simp only[aR,seval,kA,kB,]
 (repeat (with_reducible refine And.intro ?_ ?_;focus (first|omega|exact kE|kernel_rfl)))
 refine kC5 hΓ (by simp[kG,kN]) (by simp[kG,kN]) (by simp[kG,kN]) (by simp[kG]) (x:=x1) (s:=s1) (o:=4) (ot:=6) (om:=7) (lt:=3) (la:=1) (c:=kD8) rfl (by refine ⟨?_,?_,?_⟩<;>omega) hs1 S1 ⟨by decide,by simp[kD8]⟩ o1 T1 (by omega) (by omega) (by simp[kT,l1]) a1 (by omega) (by simp[kT,kI]) (by simp[kDn,kA3,cut_v,cut_any,kEU,cut_mp,cut_sl,cut_agg,cut_tup,cut_fn,kCK,kBM,kT,kI]) rfl ?_ ?_
 ·exact fun _ _ _ hne=>absurd z2 hne
 intro h2 s2 f2 o2 a2 T2 hs2 S2 _
 generalize hx2:(addN x1 kD8).1=x2 at *
 have okx:okHs x2:=by refine ⟨?_,?_,?_⟩<;>omega
 have okc:okCms x2.l:=by
  rw[← hx2,← hx1]
  exact aw17_cms
 simp only[aR,seval,kA,kB,]
 (repeat (with_reducible refine And.intro ?_ ?_;focus (first|omega|exact kE|kernel_rfl)))
 refine vcCall_deadO (by simp[kG,kN]) ⟨_,Tryz.func13,by kernel_rfl,rfl⟩ (k:=3) o2 rfl ?_
 refine kAm hΓ (by simp[kG,kN]) (by simp[kG,kN]) (by simp[kG,kN]) (by simp[kG]) okx okc (kT _ _ _) (by omega) ?_
 rw[show sinR x2 4=([],14) by unfold sinR;rw[if_neg (by omega),if_pos (by omega)]]
 simp only[aR,seval,kA,kB,kCr]
 (repeat (with_reducible refine And.intro ?_ ?_;focus (first|omega|exact kE|kernel_rfl)))
 refine kAm hΓ (by simp[kG,kN]) (by simp[kG,kN]) (by simp[kG,kN]) (by simp[kG]) okx okc (kT _ _ _) (by omega) ?_
 rw[show sinR x2 7=([],15) by unfold sinR;rw[if_pos (by omega)]]
 simp only[aR,seval,kA,kB,kCr]
 (repeat (with_reducible refine And.intro ?_ ?_;focus (first|omega|exact kE|kernel_rfl)))
 refine kAm hΓ (by simp[kG,kN]) (by simp[kG,kN]) (by simp[kG,kN]) (by simp[kG]) okx okc (kT _ _ _) (by omega) ?_
 rw[show sinR x2 5=(x2.l,0) by unfold sinR;rw[if_neg (by omega),if_neg (by omega),show (5 - (x2.rev - x2.l.length)).toNat=0 by omega,List.drop_zero]]
 simp only[aR,seval,kA,kB,zC,l2]
 (repeat (with_reducible refine And.intro ?_ ?_;focus (first|omega|exact kE|kernel_rfl)))
 refine kCP hΓ (by simp[kG,kN]) (by simp[kG,kN]) okx (kT _ _ _) ?_
 simp only[aR,seval,kA,kB,show x2.rev - (x2.l.length:Int)=5 by omega,zC]
 (repeat (with_reducible refine And.intro ?_ ?_;focus (first|omega|exact kE|kernel_rfl)))
 refine call_hof (by simp[kG,kN]) (x:=x2) (s:=s2) (o:=4) (ot:=9) (om:=10) okx okc (by rw[kT]) ?_ (by omega) ?_
 ·exact ⟨by rw[kI _ _ (by omega)];exact T2.1,by rw[kI _ _ (by omega)];exact T2.2.1,by omega⟩
 simp only[aR,seval,kA,kB,zC,n2]
end Go.Proofs
end
-- HTh7
section
namespace Go.Proofs
open Go Go.Rw
set_option maxRecDepth 100000
theorem zI {Γ:Env} (hf:Γ.get 7=some kDz) {n:Nat} {t:Nat→AV} {hd:Nat→Nat→AV} {nh nl:Nat} {h:Nat→Option AO} {fm:Nat→Nat} {lv:Nat→Option (Nat×Nat)} {mu:Bool} {dr:Bool} {d:Option Nat} {K:AS→Prop}
    (hk:cont ⟨n,t,hd,⟨nh,h,nl,fm,lv,mu⟩⟩ d (.v (.bool true)) K):kP Tryz.prog Γ dr ⟨n,t,hd,⟨nh,h,nl,fm,lv,mu⟩⟩ 7 [] d K :=
 jN (C:=kDz) (i:=()) (r:=.v (.bool true)) hf rfl rfl (by simp[AV.erL]) rfl (fun _ h=>h) (by simp only[AV.er];exact hk)
abbrev trims17Con:Con where
 ι:=I64×I64×I64
 args:=fun p=>[.v (.int .i64 p.1.1),.v (.int .i64 p.2.1.1),.v (.int .i64 p.2.2.1)]
 post:=fun _ r=>r = .v (.bool true)
 plain:=true
theorem chk_nil:txnE []=0:=by decide +kernel
def hisL (x:Hs) (s:TS):List AO:=[.cells (hisC x 1 2),.cells [.mp 2],.map s.es s.cl]
theorem ofL_lt {objs:List AO}:∀ j y,(fun o=>objs[o]?) j=some y→j < objs.length:=fun j y hj=>(List.getElem?_eq_some_iff.1 hj).1
def ofS (l:List Cm):Nat→Nat
 | 0=>0
 | k+1=>ofS l k+(ofN l k).length
theorem ofS_le (l:List Cm):∀ k,ofS l k≤k * l.length
 | 0=>by simp [ofS]
 | k+1=>by
   have:=ofS_le l k
   have:=ofN_len l k
   rw[ofS,Nat.add_mul];omega
set_option maxHeartbeats 8000000 in
theorem trims17_good:Rw.Good Tryz.prog 3 trims17Con:=by
 have hΓ:kM Tryz.prog [(7,kDz),(31,zQ)]:=(kJ awake17_good (kJ kCD kL))
 refine kDy (nn:=167) Tryz.func3 (by kernel_rfl) rfl (show Tryz.f3.results.toList=[.tmp 6] from rfl) (fun _=>rfl) (fun x=>by simp[AV.erL,AV.er]) ?_
 rintro ⟨⟨n,hn⟩,⟨keep,hke⟩,⟨rev,hrv⟩⟩
 refine qN hΓ (Ws:=[]) _ ?_
 simp only[aR,seval,kA,kB,]
 by_cases g1:n < 0
 ·simp only[aR,seval,kA,kB,g1]
  refine zI (by simp[kG]) ?_
  simp only[aR,seval,kA,kB,]
 by_cases g2:n > 30
 ·simp only[aR,seval,kA,kB,g1,g2]
  refine zI (by simp[kG]) ?_
  simp only[aR,seval,kA,kB,]
 by_cases g3:keep < 1
 ·simp only[aR,seval,kA,kB,g1,g2,g3]
  refine zI (by simp[kG]) ?_
  simp only[aR,seval,kA,kB,]
 by_cases g4:keep > 40
 ·simp only[aR,seval,kA,kB,g1,g2,g3,g4]
  refine zI (by simp[kG]) ?_
  simp only[aR,seval,kA,kB,]
 by_cases g5:rev < 0
 ·simp only[aR,seval,kA,kB,g1,g2,g3,g4,g5]
  refine zI (by simp[kG]) ?_
  simp only[aR,seval,kA,kB,]
 by_cases g6:rev > 1073741824
 ·simp only[aR,seval,kA,kB,g1,g2,g3,g4,g5,g6]
  refine zI (by simp[kG]) ?_
  simp only[aR,seval,kA,kB,]
 simp only[aR,seval,kA,kB,g1,g2,g3,g4,g5,g6]
 obtain ⟨m,rfl⟩:∃ m:Nat,n=m:=⟨n.toNat,by omega⟩
 obtain ⟨q,rfl⟩:∃ q:Nat,keep=q:=⟨keep.toNat,by omega⟩
 have hm:m≤30:=by omega
 have hq:1≤q∧q≤40:=by omega
 have hr:0≤rev∧rev≤1073741824:=by omega
 clear g1 g2 g3 g4 g5 g6
 refine call_tnew (by simp[kG,kN]) ?_
 simp only[aR,seval,kA,kB,]
 (repeat (with_reducible refine And.intro ?_ ?_;focus (first|omega|exact kE|kernel_rfl)))
 refine call_hnew hΓ (by simp[kG,kN]) (by simp[kG,kN]) (s:=ts0) (o:=0) (ob:=1) (by simp[qI,upd,ts0]) (by omega) (by omega) ?_
 simp only[aR,seval,kA,kB,ts0]
 (repeat (with_reducible refine And.intro ?_ ?_;focus (first|omega|exact kE|kernel_rfl)))
 obtain ⟨St,hSt⟩:∃ St:{ p:Nat×TS // p.1≤m∧p.2.l=[] }→AS,∀ p,St p=AS.ofH 167 [(0,.v (.int .i64 m)),(1,.v (.int .i64 q)),(2,.v (.int .i64 rev)),(7,.ptr 0 0),(9,.v (.int .i64 (p.1.1+1)))] [] (hisL (trH rev q p.1.1) p.1.2) [((trL rev q p.1.1).length,32)]:=⟨_,fun _=>rfl⟩
 refine kBm ?_
 refine jK [] hΓ St (fun p=>m - p.1.1) ⟨(0,ts0),by simp,rfl⟩ (by rw[hSt];refine k5 [4,2,3] [.nil 4] ?_;simp only[aR,seval,kA,kB,hisL,hisC,trH,trL,ts0,List.range_zero,List.map_nil,List.drop_nil,kCr,List.length_nil]<;>((repeat' apply And.intro)<;>first|rfl|omega|trivial)) ?_
 rintro ⟨⟨i,s⟩,hi,hs⟩
 simp only at hi hs
 rw[hSt]
 simp only
 have hi1:i≤m:=hi
 simp only[aR,seval,kA,kB,hisL,hisC]
 (with_reducible first|refine kD (fun h=>?_) (fun h=>?_)|refine kH (fun h=>?_) (fun h=>?_))
 ·have hlt:i < m:=by omega
  simp only[aR,seval,kA,kB,h,hisL,hisC,kC (n:=rev+((i:Int)+1)) (by omega) (by omega)]
  (repeat (with_reducible refine And.intro ?_ ?_;focus (first|omega|exact kE|kernel_rfl)))
  have em:((i:Int)+1).tmod 4=((i:Int)+1) % 4:=Int.tmod_eq_emod_of_nonneg (by omega)
  have ew:IntKind.wrap .i64 (1+((i:Int)+1).tmod 4)=1+((i:Int)+1) % 4:=by rw[em,kC (by omega) (by omega)]
  have ec:AV.agg [.v (.int .i64 (rev+((i:Int)+1))),.v (.int .i64 (IntKind.wrap .i64 (1+((i:Int)+1).tmod 4))),.v (.int .i64 ((i:Int)+1)),.sl 1 6 []]=cmT 1 (trC rev (i+1)):=by
   rw[ew];simp[cmT,trC,acts]
  have okx:okHs (trH rev q i):=by
   refine ⟨?_,?_,?_⟩
   ·simp only[trH];omega
   ·simp only[trH];omega
   ·show (trL rev q i).length≤1000
    rw[kDF];omega
  have okx1:okHs (trH rev q (i+1)):=by
   refine ⟨?_,?_,?_⟩
   ·simp only[trH];omega
   ·simp only[trH];omega
   ·show (trL rev q (i+1)).length≤1000
    rw[kDF];omega
  have S0:sndN s.l:=by rw[hs];exact snd_nil
  have ha:=tr_add chk_nil rev q i hq.1
  have hb:=tr_not rev q i
  refine kC5 hΓ (by simp[kG,kN]) (by simp[kG,kN]) (by simp[kG,kN]) (by simp[kG]) (x:=trH rev q i) (s:=s) (o:=0) (ot:=1) (om:=2) (lt:=2) (la:=1) (c:=trC rev (i+1)) ec okx hs S0 ⟨by simp[trC],by simp[trC]⟩ rfl (by simp[qI]) (by omega) (by omega) rfl ⟨fun j y hj=>by simpa using ofL_lt j y hj,?_⟩ (by omega) (by simp) (by simp[kDn,kA3,cut_v,cut_any,kEU,cut_mp,cut_sl,cut_agg,cut_tup,cut_fn,kCK,kBM,kT,kI]) cutH_any ?_ ?_
  ·intro j hj
   match j with
   | 0=>exact absurd rfl hj
   | 1=>rfl
   | 2=>rfl
   | j+3=>rfl
  ·rw[ha];exact fun _ _ _ hne=>absurd rfl hne
  rw[ha]
  intro h1 s1 f1 o1 a1 T1 hs1 S1 _
  simp only at o1 hs1
  simp only[aR,seval,kA,kB,kC (n:=rev+((i:Int)+1)) (by omega) (by omega)]
  (repeat (with_reducible refine And.intro ?_ ?_;focus (first|omega|exact kE|kernel_rfl)))
  have ec2:AV.agg [.v (.int .i64 (rev+((i:Int)+1))),.v (.int .i64 1),.v (.int .i64 ((i:Int)+1)),.sl 1 6 []]=cmT 1 ⟨rev+(i+1:Nat),1,(i+1:Nat),[]⟩:=by simp[cmT,acts]
  refine kC5 hΓ (by simp[kG,kN]) (by simp[kG,kN]) (by simp[kG,kN]) (by simp[kG]) (x:=trH rev q (i+1)) (s:=s1) (o:=0) (ot:=4) (om:=5) (lt:=2) (la:=1) (c:=⟨rev+(i+1:Nat),1,(i+1:Nat),[]⟩) ec2 okx1 hs1 S1 ⟨by simp,by simp⟩ o1 T1 (by omega) (by omega) (by simp[kT]) a1 (by omega) (by simp) (by simp[kDn,kA3,cut_v,cut_any,kEU,cut_mp,cut_sl,cut_agg,cut_tup,cut_fn,kCK,kBM,kT,kI]) cutH_any ?_ ?_
  rotate_left
  ·rw[hb];intro _ _ _ _ _ _ _ _ hz;cases hz
  rw[hb]
  intro h2 f2 a2 _
  have o2:h2 0=some (.cells (hisC (trH rev q (i+1)) 4 2)):=(f2 0 (by omega)).trans o1
  have p2:h2 4=some (.cells [.mp 5]):=(f2 4 (by omega)).trans T1.1
  have q2:h2 5=some (.map s1.es s1.cl):=(f2 5 (by omega)).trans T1.2.1
  simp only[aR,seval,kA,kB,kC (n:=(i:Int)+1+1) (by omega) (by omega)]
  (repeat (with_reducible refine And.intro ?_ ?_;focus (first|omega|exact kE|kernel_rfl)))
  refine kO ⟨(i+1,s1),by simp only;omega,by rw[hs1];rfl⟩ (by simp only;omega) ?_
  rw[hSt];refine k5 [0,4,5] [.live 2] ?_
  simp only[aR,seval,kA,kB,hisL,hisC,o2,p2,q2,Int.natCast_add,Int.cast_ofNat_Int]<;>((repeat' apply And.intro)<;>first|rfl|omega|trivial)
 ·have hie:i=m:=by omega
  subst hie
  have okx:okHs (trH rev q i):=by
   refine ⟨?_,?_,?_⟩
   ·simp only[trH];omega
   ·simp only[trH];omega
   ·show (trL rev q i).length≤1000
    rw[kDF];omega
  have okc:okCms (trH rev q i).l:=fun c hc=>by
   have:=List.mem_of_mem_drop hc
   obtain ⟨j,_,rfl⟩:=List.mem_map.1 this
   exact ⟨by simp[trC],by simp[trC]⟩
  have hlen:(trH rev q i).l.length=min i q:=kDF rev q i
  have hrev:(trH rev q i).rev=rev+i:=rfl
  obtain ⟨x,hx⟩:∃ x,x=trH rev q i:=⟨_,rfl⟩
  have hsum:=tr_sum rev q i
  rw[show trL rev q i=x.l by rw[hx];rfl]at hsum
  rw[← hx]at okx okc hlen hrev ⊢
  simp only[aR,seval,kA,kB,h]
  (repeat (with_reducible refine And.intro ?_ ?_;focus (first|omega|exact kE|kernel_rfl)))
  have hmx:max (IntKind.wrap .i64 ((i:Int) - q)) 0=((i - q:Nat):Int):=by rw[kC (by omega) (by omega)];omega
  simp only[aR,seval,kA,kB,hmx,kC (n:=rev+((i - q:Nat):Int)) (by omega) (by omega)]
  (repeat (with_reducible refine And.intro ?_ ?_;focus (first|omega|exact kE|kernel_rfl)))
  refine call_hrev hΓ (by simp[kG,kN]) (by simp[kG,kN]) (x:=x) (ot:=1) (lt:=2) rfl ?_
  simp only[aR,seval,kA,kB,hrev,kC (n:=rev+(i:Int)) (by omega) (by omega)]
  (repeat (with_reducible refine And.intro ?_ ?_;focus (first|omega|exact kE|kernel_rfl)))
  refine kCP hΓ (by simp[kG,kN]) (by simp[kG,kN]) (x:=x) okx (ot:=1) (lt:=2) (by simp[hisC,hrev]) ?_
  have hold:x.rev - (x.l.length:Int)=rev+((i - q:Nat):Int):=by omega
  have hm2:max (IntKind.wrap .i64 (rev+((i - q:Nat):Int) - 2)) 0=max (rev+((i - q:Nat):Int) - 2) 0:=by rw[kC (by omega) (by omega)]
  simp only[aR,seval,kA,kB,hold,hm2]
  (repeat (with_reducible refine And.intro ?_ ?_;focus (first|omega|exact kE|kernel_rfl)))
  obtain ⟨low,hlow⟩:∃ low:Int,low=rev+((i - q:Nat):Int):=⟨_,rfl⟩
  rw[← hlow]at hold ⊢
  have hlo:rev≤low∧low≤rev+i:=by omega
  obtain ⟨S2,hS2⟩:∃ St:{ r:Int // max (low - 2) 0≤r∧r≤rev+i+3 }→AS,∀ r,St r=AS.ofH 167 [(0,.v (.int .i64 i)),(1,.v (.int .i64 q)),(2,.v (.int .i64 rev)),(7,.ptr 0 0),(10,.v (.int .i64 low)),(11,.v (.int .i64 r.1))] [] (hisO x s) []:=⟨_,fun _=>rfl⟩
  refine kBm ?_
  refine jK [] hΓ S2 (fun r=>(rev+i+3 - r.1).toNat) ⟨max (low - 2) 0,by omega,by omega⟩ (by rw[hS2];refine k5 [0,1,2] [] ?_;simp only[aR,seval,kA,kB,hisO,hisC,hrev]<;>((repeat' apply And.intro)<;>first|rfl|omega|trivial)) ?_
  rintro ⟨r,hr1,hr2⟩
  rw[hS2]
  simp only
  simp only[aR,seval,kA,kB,hisO,kC (n:=rev+(i:Int)) (by omega) (by omega),kC (n:=rev+(i:Int)+2) (by omega) (by omega)]
  (with_reducible first|refine kD (fun h9=>?_) (fun h9=>?_)|refine kH (fun h9=>?_) (fun h9=>?_))
  ·simp only[aR,seval,kA,kB,hisO,h9]
   refine kAm hΓ (by simp[kG,kN]) (by simp[kG,kN]) (by simp[kG,kN]) (by simp[kG]) okx okc (o:=0) (ot:=1) rfl (by omega) ?_
   by_cases k1:r > rev+i
   ·rw[show sinR x r=([],15) by unfold sinR;rw[if_pos (by omega)]]
    simp only[aR,seval,kA,kB,hisO,k1,kCr,kC (n:=rev+(i:Int)) (by omega) (by omega),kC (n:=r+1) (by omega) (by omega)]
    (repeat (with_reducible refine And.intro ?_ ?_;focus (first|omega|exact kE|kernel_rfl)))
    refine kO ⟨r+1,by omega,by omega⟩ (by simp only;omega) ?_
    rw[hS2];refine k5 [0,1,2] [] ?_
    simp only[aR,seval,kA,kB,hisO,hisC]<;>((repeat' apply And.intro)<;>first|rfl|omega|trivial)
   ·by_cases k2:r < low
    ·rw[show sinR x r=([],14) by unfold sinR;rw[if_neg (by omega),if_pos (by omega)]]
     simp only[aR,seval,kA,kB,hisO,k1,k2,kCr,kC (n:=rev+(i:Int)) (by omega) (by omega),kC (n:=r+1) (by omega) (by omega)]
     (repeat (with_reducible refine And.intro ?_ ?_;focus (first|omega|exact kE|kernel_rfl)))
     refine kO ⟨r+1,by omega,by omega⟩ (by simp only;omega) ?_
     rw[hS2];refine k5 [0,1,2] [] ?_
     simp only[aR,seval,kA,kB,hisO,hisC]<;>((repeat' apply And.intro)<;>first|rfl|omega|trivial)
    ·rw[show sinR x r=(x.l.drop (r - low).toNat,0) by unfold sinR;rw[if_neg (by omega),if_neg (by omega),hold]]
     have hdl:((x.l.drop (r - low).toNat).length:Int)=rev+i - r:=by rw[List.length_drop];omega
     simp only[aR,seval,kA,kB,hisO,k1,k2,zC,hdl,kC (n:=rev+(i:Int)) (by omega) (by omega),kC (n:=r+1) (by omega) (by omega),kC (n:=rev+(i:Int) - r) (by omega) (by omega)]
     (repeat (with_reducible refine And.intro ?_ ?_;focus (first|omega|exact kE|kernel_rfl)))
     refine kO ⟨r+1,by omega,by omega⟩ (by simp only;omega) ?_
     rw[hS2];refine k5 [0,1,2] [] ?_
     simp only[aR,seval,kA,kB,hisO,hisC]<;>((repeat' apply And.intro)<;>first|rfl|omega|trivial)
  ·simp only[aR,seval,kA,kB,hisO,h9]
   (repeat (with_reducible refine And.intro ?_ ?_;focus (first|omega|exact kE|kernel_rfl)))
   obtain ⟨S3,hS3⟩:∃ St:{ k:Nat // k≤6 }→AS,∀ k,St k=AS.ofH 167 [(0,.v (.int .i64 i)),(1,.v (.int .i64 q)),(7,.ptr 0 0),(14,.v (.int .i64 (ofS x.l k.1))),(15,.v (.int .i64 k.1))] [] (hisO x s) []:=⟨_,fun _=>rfl⟩
   refine kBm ?_
   refine jK [] hΓ S3 (fun k=>6 - k.1) ⟨0,by omega⟩ (by rw[hS3];refine k5 [0,1,2] [] ?_;simp only[aR,seval,kA,kB,hisO,hisC,ofS]<;>((repeat' apply And.intro)<;>first|rfl|omega|trivial)) ?_
   rintro ⟨k,hk⟩
   rw[hS3]
   simp only
   have hsb:=ofS_le x.l k
   have hxl:=okx.2.2
   have hmul:k * x.l.length≤6 * 1000:=Nat.mul_le_mul hk hxl
   have hol:=ofN_len x.l k
   simp only[aR,seval,kA,kB,hisO]
   (with_reducible first|refine kD (fun h8=>?_) (fun h8=>?_)|refine kH (fun h8=>?_) (fun h8=>?_))
   ·simp only[aR,seval,kA,kB,hisO,h8]
    refine call_hof (by simp[kG,kN]) (x:=x) (s:=s) (o:=0) (ot:=1) (om:=2) okx okc rfl (by simp[qI]) (by omega) ?_
    have hsu:((ofS x.l k:Nat):Int)+((ofN x.l k).length:Nat)=((ofS x.l (k+1):Nat):Int):=by simp[ofS]
    simp only[aR,seval,kA,kB,hisO,zC,hsu,kC (n:=((ofS x.l (k+1):Nat):Int)) (by omega) (by omega),kC (n:=(k:Int)+1) (by omega) (by omega)]
    (repeat (with_reducible refine And.intro ?_ ?_;focus (first|omega|exact kE|kernel_rfl)))
    refine kO ⟨k+1,by omega⟩ (by simp only;omega) ?_
    rw[hS3];refine k5 [0,1,2] [] ?_
    simp only[aR,seval,kA,kB,hisO,hisC]<;>((repeat' apply And.intro)<;>first|rfl|omega|trivial)
   ·have hk6:k=6:=by omega
    subst hk6
    have hfin:((ofS x.l 6:Nat):Int)=min (i:Int) (q:Int):=by
     have:ofS x.l 6=min i q:=by rw[← hsum];simp[ofS]
     omega
    simp only[aR,seval,kA,kB,hisO,h8,hfin,min2_int]
    (repeat (with_reducible refine And.intro ?_ ?_;focus (first|omega|exact kE|kernel_rfl)))
    refine zI (by simp[kG]) ?_
    simp only[aR,seval,kA,kB,]
end Go.Proofs
end
-- HUr1
section
namespace Go.Proofs.YtnpofobcbfbfnaaGreatDoor
open Go Go.ChangeShapes Go.WideShapes Go.ChangeAt Go.RowKit Go.Rw Go.Lib
open Go.ChangeMaps (open_string shut_string)
set_option maxRecDepth 100000
theorem own:ownKnob Tryz.prog.godebug=none:=by kernel_rfl
theorem laidOut:laidOutB Tryz.prog=true:=by kernel_rfl
noncomputable def kCQ (os:Os):World :=
 let w0:=World.holding Tryz.prog os ⟨#[],#[],[]⟩
 let put (h:Array Obj) (g:Nat) (cs:Array Value):Array Obj:=h.modify g fun
  | .cells _ t frozen=>.cells cs t frozen
  | o=>o
 let h1:=put w0.heap 0 (Lib.firstTab.map fun z=>Value.int .u8 z).toArray
 let h2:=put h1 1 ((List.range 16).flatMap fun i=>[Value.int .u8 (Lib.accLo i),Value.int .u8 (Lib.accHi i)]).toArray
 { w0 with heap:=h2 }
abbrev laidL : List (String × DataW Unit) := [("unicode/utf8.acceptRanges", Lib.acceptData), ("unicode/utf8.first", Lib.firstData)]
theorem laid_met (os:Os) (args:Array Value):laidMet Tryz.prog laidL ((kCQ os).forCall (fun _ _=>0) ⟨#[],args,[]⟩).memory :=
 (LaidIn.of_run (l:=laidL) [1,0] 8 (by kernel_rfl) (by kernel_rfl) (by kernel_rfl) (by kernel_rfl)).met
theorem tabs_of {W:World} (hL:laidMet Tryz.prog laidL W):TabOk W (kX none):=by
 have htab:Lib.Utf8Tabs 0 1 W :=
  utf8Tabs_of_readsT (U8Types.of196 Tryz.lays196) ⟨by kernel_rfl,by kernel_rfl,by kernel_rfl,by kernel_rfl,by kernel_rfl,by kernel_rfl,by kernel_rfl⟩ (Lib.laidMet.reads hL (.tail _ (.head _))) (Lib.laidMet.reads hL (.head _))
 refine ⟨htab,fun g hg=>⟨?_,by rintro ⟨k,hk,_⟩;cases hk⟩⟩
 have key:∀ g i v,W.cell? ⟨g,i,none⟩=some v→g < W.heap.size:=fun g i v h=>Fw_lt (Nat.lt_of_le_of_lt (Nat.zero_le i) (Fw_cell h))
 rcases hg with rfl|rfl
 ·exact key 0 _ _ (htab.1 0 (by omega))
 ·exact key 1 _ _ (htab.2 0 (by omega)).1
theorem i64_wf {n:Int} (h:(Lit.int .i64 n).wf=true):-9223372036854775808≤n∧n≤9223372036854775807:=by
 simp[Lit.wf,IntKind.min,IntKind.max,IntKind.signed,IntKind.bits]at h;omega
end Go.Proofs.YtnpofobcbfbfnaaGreatDoor
end
