/-
 Is a tree qR: just so. TxnDoes answers true. law13: what the document fixes;TreeLoads answers true. Two transactions one behind the other;what a transaction does not touch. Plain. Trees held against each other;TxnTwo answers true. What is asked of no tree. TreeApart answers true. Acts,and what was done,given: opened. A transaction behind commits. How much a message is,where it bears commits alone. A tree given,commits given: opened. From the laws' functions to their rows: the tables as they are laid;a world for the witness.
-/
import Derived.Test.YtfhipjafkdembaaGreatDoorXETr9
import Derived.Test.YtfhipjafkdembaaGreatDoorXETr29
import Derived.Test.YtfhipjafkdembaaGreatDoorXEUk3
import Derived.Test.YtfhipjafkdembaaGreatDoorRwI
import Derived.Test.YtfhipjafkdembaaGreatDoorXESh
import Derived.Test.YtfhipjafkdembaaGreatDoorRwG
import Derived.Test.YtfhipjafkdembaaGreatDoorCards
import Derived.Test.YtfhipjafkdembaaGreatDoorTie
import Derived.Lib.LaidIn
import Derived.Lib.LaidU8T
import Derived.Deep.DeepHandedRow
import Derived.Deep.DeepWitnessRowRef
import Derived.ProofKit
import Derived.OpenShut
import Derived.SizedLaws
import Derived.SevenTiedAt
set_option linter.unusedSimpArgs false
set_option linter.unusedVariables false
set_option linter.defProp false
set_option linter.unusedSectionVars false

-- ETr18
section
namespace Go.Proofs
open Go Go.Rw
open _root_.Nat renaming reduceAdd → N0, reduceSub → N1, reduceMul → N2, reduceLT → N3, reduceLeDiff → N4, reduceEqDiff → N5
open _root_.Int renaming reduceNeg → Z0, reduceAdd → Z1, reduceSub → Z2, reduceMul → Z3, reduceGT → Z4, reduceGE → Z5, reduceLT → Z6, reduceLE → Z7, reduceEq → Z8, reduceNe → Z9, reduceToNat → Z10, cast_ofNat_Int → Zc
set_option maxRecDepth 100000
structure chkN (l:List Nd) (x:Nd):Prop where
 id:1≤x.id∧x.id≤1099511627776
 nm:qB x.nm=true
 kid:kid x.par x.nm l=x.id
 dir:x.dir=true→x.text=[]
 valid:(pts x.text).isSome=true
 cnt:cnt x.text≤2000
 par:x.par=0∨(ndx x.par l < l.length∧(l.getD (ndx x.par l) qW).dir=true∧zO l x.par x.id=false)
theorem up_cyc {l:List Nd} {i:Int} {k:Nat} (h:upN l k i=i):∀ m,upN l (m * k) i=i
 | 0=>by rw [Nat.zero_mul];rfl
 | m+1=>by rw [Nat.add_mul,Nat.one_mul,kGO,up_cyc h m,h]
theorem snd_no_cyc {l:List Nd} (S:sndN l) {x:Nd} (hx:x∈l) {k:Nat} (h:upN l (k+1) x.id=x.id):False:=by
 obtain ⟨m,hm⟩:=S.rt x hx
 have h1:=up_cyc h m
 have h2:=up_stay S hm (k:=m * (k+1)) (by rw[Nat.mul_add];omega)
 have:=(S.node x hx).id
 omega
theorem chk_of {l:List Nd} (S:sndN l) {x:Nd} (hx:x∈l):chkN l x:=by
 have n:=S.node x hx
 have hp:∀ y∈l,1≤y.id:=fun y hy=>(S.node y hy).id.1
 refine ⟨n.id,n.nm,?_,n.dir,n.valid,n.cnt,?_⟩
 ·by_cases h1:1≤kid x.par x.nm l
  ·obtain ⟨y,hy,h2,h3,h4⟩:=kid_iff hp h1 rfl
   rw[← h4]
   exact S.sib y hy x hx h2 h3
  ·exact absurd ⟨rfl,rfl⟩ (kBv hp h1 x hx)
 ·rcases S.par x hx with h1|⟨h1,h2⟩
  ·exact .inl h1
  ·refine .inr ⟨(qI l x.par).1 h1,h2,?_⟩
   rcases Bool.eq_false_or_eq_true (zO l x.par x.id) with h3|h3
   ·exfalso
    obtain ⟨k,hk⟩:=(kAf S (.inr h1) (by have:=n.id;omega)).1 h3
    refine snd_no_cyc S hx (k:=k) ?_
    rw[upN,show pf l x.id=x.par by unfold pf;rw[kF3 S.srt hx],hk]
   ·exact h3
theorem in_miss {l:List Nd} {top:Int}:∀ (n:Nat) {i:Int},inN l top n i=false→∃ k,hasN l (upN l k i)=false
 | 0,i,h=>by rw [inN] at h;cases h
 | n+1,i,h=>by
   rw[inN]at h
   split at h
   ·cases h
   ·split at h
    ·obtain ⟨k,hk⟩:=in_miss n h
     exact ⟨k+1,hk⟩
    ·rename_i h2
     refine ⟨0,?_⟩
     rcases Bool.eq_false_or_eq_true (hasN l i) with h3|h3
     ·exact absurd ((qI l i).1 h3) h2
     ·exact h3
theorem snd_of {l:List Nd} (hs:srtN l) (hl:l.length≤100) (ht:totN l≤10000) (hc:∀ x∈l,chkN l x):sndN l:=by
 have hpar:∀ x∈l,x.par=0∨(hasN l x.par=true∧(gN l x.par).dir=true):=fun x hx=>by
  rcases (hc x hx).par with h1|h1
  ·exact .inl h1
  ·exact .inr ⟨(qI l x.par).2 h1.1,h1.2.1⟩
 have hin:∀ i,inT l (pf l i):=fun i=>by
  rcases Bool.eq_false_or_eq_true (hasN l i) with h|h
  ·rcases hpar _ (kAK h).1 with h3|h3
   ·exact .inl h3
   ·exact .inr h3.1
  ·exact .inl (pf_no h)
 have hup:∀ k i,inT l i→inT l (upN l k i):=fun k=>by
  induction k with
  | zero=>exact fun i h=>h
  | succ k ih=>exact fun i h=>ih _ (hin i)
 refine ⟨hs,hl,fun x hx=>?_,ht,fun x hx y hy h1 h2=>?_,hpar,fun x hx=>?_⟩
 ·have:=hc x hx
  exact ⟨this.id,this.nm,this.dir,this.valid,this.cnt⟩
 ·rw[← (hc x hx).kid,← (hc y hy).kid,h1,h2]
 ·have hpx:pf l x.id=x.par:=by unfold pf;rw[kF3 hs hx]
  rcases (hc x hx).par with h1|⟨h1,_,h3⟩
  ·exact ⟨1,by rw[upN,hpx];exact h1⟩
  ·obtain ⟨k,hk⟩:=in_miss _ h3
   have h4:=hup k x.par (.inr ((qI l x.par).2 h1))
   rcases h4 with h4|h4
   ·exact ⟨k+1,by rw[upN,hpx];exact h4⟩
   ·rw[hk]at h4;cases h4
open Classical in
noncomputable def sndB (l:List Nd):Bool:=decide (sndN l)
theorem zH {l:List Nd} (h:¬ sndN l):sndB l=false:=by unfold sndB;simp[h]
theorem yes_snd {l:List Nd} (h:sndN l):sndB l=true:=by unfold sndB;simp[h]
abbrev kF7:Con where
 ι:={ l:List Nd // l.length≤1000000∧∀ x∈l,x.nm.length≤1099511627776∧x.text.length≤1099511627776 }
 args:=fun p=>[.sl 0 5 (kW p.1)]
 post:=fun p r=>r = .v (.bool (sndB p.1))
 plain:=true
set_option maxHeartbeats 4000000 in
theorem xsound_good:Rw.Good Tryz.prog 16 kF7:=by
 have hΓ:kL Tryz.prog [(31,kAs),(54,kidCon),(55,jP),(56,kBA),(48,kA9),(57,kBa)]:=(kJ kG7 (kJ kid_good (kJ kCf (kJ kCk (kJ kBN (kJ kFl kK))))))
 refine k7 (nn:=119) hΓ Tryz.func16 (by kernel_rfl) rfl (show Tryz.f16.results.toList=[.tmp 2] from rfl) (fun _=>rfl) (fun x=>by simp[AV.erL,AV.er,kAO]) ?_
 rintro ⟨l,hl,ht⟩
 by_cases h0:(l.length:Int) > 100
 ·simp only[aR,seval,kI,h0]
  rw[zH fun S=>by have:=S.len;omega]
 simp only[aR,seval,kI,h0]
 obtain ⟨St,hSt⟩:∃ St:{ p:Int×Nat // p.2≤l.length∧(0≤p.1∧p.1≤10000)∧srtN (l.take p.2)∧p.1=totN (l.take p.2)∧∀ x∈l.take p.2,chkN l x }→AS,∀ p,St p=AS.of 119 [(0,.sl 0 5 (kW l)),(3,.v (.int .i64 p.1.1)),(4,.v (.int .i64 p.1.2))] [] []:=⟨_,fun _=>rfl⟩
 refine qH hΓ St (fun p=>l.length - p.1.2) ⟨(0,0),by omega,by simp only;omega,by simp[srtN],by simp[totN],by simp⟩ (by rw[hSt];refine kR [] [] ?_;simp only[aR,seval]<;>((repeat' apply And.intro)<;>first|rfl|omega|trivial)) ?_
 rintro ⟨⟨s,i⟩,hi,hs,hb,hst,hck⟩
 simp only at hi hs hb hst hck
 rw[hSt]
 simp only
 simp only[aR,seval,kI]
 (with_reducible first|refine kG (fun h=>?_) (fun h=>?_)|refine kH (fun h=>?_) (fun h=>?_))
 ·have hlt:i < l.length:=by omega
  have hci:=ht l[i] (List.getElem_mem hlt)
  have e1:=kY l hlt
  have hsn:=srt_snoc hlt hb
  have N:sndN l→chkN l l[i]:=fun S=>chk_of S (List.getElem_mem hlt)
  have N2:sndN l→totN (l.take i)+cnt l[i].text≤10000:=fun S=>by
   have:=S.tot
   rw[← List.take_append_drop i l,kBj,List.drop_eq_getElem_cons hlt,totN]at this
   omega
  have N3:∀ k,∀ hk:k+1=i,sndN l→(l[k]'(by omega)).id < l[i].id:=fun k hk S=>by
   have:=S.srt
   unfold srtN at this
   rw[List.pairwise_map]at this
   exact List.pairwise_iff_getElem.1 this k i (by omega) hlt (by omega)
  have nx:chkN l l[i]→∀ x∈l.take (i+1),chkN l x:=fun hx x hm=>by
   rw[List.take_succ_eq_append_getElem hlt,List.mem_append,List.mem_singleton]at hm
   rcases hm with hm|rfl
   ·exact hck x hm
   ·exact hx
  have tx1:(totN (l.take (i+1)):Int)=totN (l.take i)+cnt l[i].text:=by
   rw[List.take_succ_eq_append_getElem hlt,kBj];simp[totN]
  generalize l[i]=x at *
  obtain ⟨id,par,nm,dir,tx⟩:=x
  obtain ⟨hn,ho⟩:=hci
  simp only at hn ho e1 hsn N2 N3 tx1
  simp only[aR,seval,h,e1,kI,nA]
  (repeat (with_reducible refine And.intro ?_ ?_;focus (first|omega|exact kE|kernel_rfl)))
  by_cases c1:id < 1
  ·simp only[aR,seval,c1]
   (repeat (with_reducible refine And.intro ?_ ?_;focus (first|omega|exact kE|kernel_rfl)))
   rw[zH fun S=>by have:=(N S).id;simp only at this;omega]
  by_cases c2:id > 1099511627776
  ·simp only[aR,seval,c1,c2]
   (repeat (with_reducible refine And.intro ?_ ?_;focus (first|omega|exact kE|kernel_rfl)))
   rw[zH fun S=>by have:=(N S).id;simp only at this;omega]
  cases i with
  | zero =>
    have srt1:srtN (l.take 1):=hsn fun k hk=>by omega
    simp only[aR,seval,c1,c2]
    (repeat (with_reducible refine And.intro ?_ ?_;focus (first|omega|exact kE|kernel_rfl)))
    refine jW (by simp[kF]) hn ?_
    cases hnm:qB nm
    ·simp only[aR,seval,hnm]
     (repeat (with_reducible refine And.intro ?_ ?_;focus (first|omega|exact kE|kernel_rfl)))
     rw[zH fun S=>by have:=(N S).nm;simp only at this;rw[hnm]at this;cases this]
    simp only[aR,seval,hnm]
    (repeat (with_reducible refine And.intro ?_ ?_;focus (first|omega|exact kE|kernel_rfl)))
    refine kD5 (by simp[kF]) rfl (by omega) ?_
    by_cases c4:kid par nm l=id
    case neg =>
     simp only[aR,seval,c4]
     (repeat (with_reducible refine And.intro ?_ ?_;focus (first|omega|exact kE|kernel_rfl)))
     rw[zH fun S=>c4 (N S).kid]
    by_cases c5:dir=true∧tx≠[]
    ·obtain ⟨rfl,c6⟩:=c5
     simp only[aR,seval,c4,c6]
     (repeat (with_reducible refine And.intro ?_ ?_;focus (first|omega|exact kE|kernel_rfl)))
     rw[zH fun S=>c6 ((N S).dir rfl)]
    have more:∀ Z:Prop,(dir=false→Z)→(dir=true→tx=[]→Z)→Z:=fun Z f g=>by
     cases dir
     ·exact f rfl
     ·exact g rfl (Decidable.not_not.1 fun hh=>c5 ⟨rfl,hh⟩)
    have hcl:cnt tx≤tx.length:=by rw[kAb];exact kEY tx
    refine more _ (fun hd=>?_) (fun hd he=>?_)
    all_goals
     subst hd
     by_cases c7:(tx.length:Int) > 8000
     ·first
        | simp only [aR,seval,c4,c7,eq_true he]
          (repeat (with_reducible refine And.intro ?_ ?_;focus (first|omega|exact kE|kernel_rfl)))
          rw[zH fun S=>by have h1:=kBd (N S).valid;have h2:=(N S).cnt;simp only at h1 h2;omega]
        | simp only [aR,seval,c4,c7]
          (repeat (with_reducible refine And.intro ?_ ?_;focus (first|omega|exact kE|kernel_rfl)))
          rw[zH fun S=>by have h1:=kBd (N S).valid;have h2:=(N S).cnt;simp only at h1 h2;omega]
     first
      | simp only [aR,seval,c4,c7,eq_true he]
        (repeat (with_reducible refine And.intro ?_ ?_;focus (first|omega|exact kE|kernel_rfl)))
      | simp only [aR,seval,c4,c7]
        (repeat (with_reducible refine And.intro ?_ ?_;focus (first|omega|exact kE|kernel_rfl)))
     refine kA4 (by simp[kF]) (by omega) ?_
     cases hv:(pts tx).isSome
     ·simp only[aR,seval,hv]
      (repeat (with_reducible refine And.intro ?_ ?_;focus (first|omega|exact kE|kernel_rfl)))
      rw[zH fun S=>by have:=(N S).valid;simp only at this;rw[hv]at this;cases this]
     simp only[aR,seval,hv]
     (repeat (with_reducible refine And.intro ?_ ?_;focus (first|omega|exact kE|kernel_rfl)))
     refine kBQ (by simp[kF]) (by omega) ?_
     by_cases c8:(cnt tx:Int) > 2000
     ·simp only[aR,seval,c8]
      (repeat (with_reducible refine And.intro ?_ ?_;focus (first|omega|exact kE|kernel_rfl)))
      rw[zH fun S=>by have:=(N S).cnt;simp only at this;omega]
     by_cases c9:s+(cnt tx:Int) > 10000
     ·simp only[aR,seval,c8,c9,kC (n:=s+(cnt tx:Int)) (by omega) (by omega)]
      (repeat (with_reducible refine And.intro ?_ ?_;focus (first|omega|exact kE|kernel_rfl)))
      rw[zH fun S=>by have:=N2 S;omega]
     by_cases c10:par=0
     ·simp only[aR,seval,c8,c9,c10,kC (n:=s+(cnt tx:Int)) (by omega) (by omega),kC (n:=0+1) (by omega) (by omega)]
      (repeat (with_reducible refine And.intro ?_ ?_;focus (first|omega|exact kE|kernel_rfl)))
      have cx:=nx ⟨⟨by simp only;omega,by simp only;omega⟩,hnm,c4,fun hdd=>(by first|assumption|cases hdd),hv,by simp only;omega,.inl c10⟩
      refine kP ⟨(s+(cnt tx:Int),1),by simp only;omega,by simp only;omega,srt1,(by have h5:=tx1;(try simp only[Nat.zero_add]at h5);simp only;omega),cx⟩ (by simp only;omega) ?_
      rw[hSt];refine kR [] [] ?_
      simp only[aR,seval]<;>((repeat' apply And.intro)<;>first|rfl|omega|trivial|(simp[kBp];done))
     simp only[aR,seval,c8,c9,c10,kC (n:=s+(cnt tx:Int)) (by omega) (by omega)]
     (repeat (with_reducible refine And.intro ?_ ?_;focus (first|omega|exact kE|kernel_rfl)))
     refine j4 (by simp[kF]) rfl (by omega) ?_
     by_cases c11:ndx par l < l.length
     case neg =>
      simp only[aR,seval,ndI,if_neg c11]
      (repeat (with_reducible refine And.intro ?_ ?_;focus (first|omega|exact kE|kernel_rfl)))
      rw[zH fun S=>by rcases (N S).par with h1|h1;exact c10 h1;exact c11 h1.1]
     have e4:=kY l c11
     have hg:l.getD (ndx par l) qW=l[ndx par l]:=by rw[List.getD_eq_getElem?_getD,List.getElem?_eq_getElem c11];rfl
     generalize l[ndx par l]=y at *
     obtain ⟨yid,ypar,ynm,ydir,ytx⟩:=y
     have hnn:((ndx par l:Int) < 0)=False:=eq_false (by omega)
     cases ydir
     ·simp only[aR,seval,ndI,if_pos c11,e4,nA,hnn,kI]
      (repeat (with_reducible refine And.intro ?_ ?_;focus (first|omega|exact kE|kernel_rfl)))
      rw[zH fun S=>by rcases (N S).par with h1|h1;exact c10 h1;have:=h1.2.1;simp only at this;rw[hg]at this;cases this]
     simp only[aR,seval,ndI,if_pos c11,e4,nA,hnn,kI]
     (repeat (with_reducible refine And.intro ?_ ?_;focus (first|omega|exact kE|kernel_rfl)))
     refine kCc (by simp[kF]) rfl (by omega) ?_
     cases hw:zO l par id
     case true =>
      simp only[aR,seval]
      (repeat (with_reducible refine And.intro ?_ ?_;focus (first|omega|exact kE|kernel_rfl)))
      rw[zH fun S=>by rcases (N S).par with h1|h1;exact c10 h1;have:=h1.2.2;simp only at this;rw[hw]at this;cases this]
     simp only[aR,seval,kC (n:=0+1) (by omega) (by omega)]
     (repeat (with_reducible refine And.intro ?_ ?_;focus (first|omega|exact kE|kernel_rfl)))
     have cx:=nx ⟨⟨by simp only;omega,by simp only;omega⟩,hnm,c4,fun hdd=>(by first|assumption|cases hdd),hv,by simp only;omega,.inr ⟨c11,by simp only;rw[hg],hw⟩⟩
     refine kP ⟨(s+(cnt tx:Int),1),by simp only;omega,by simp only;omega,srt1,(by have h5:=tx1;(try simp only[Nat.zero_add]at h5);simp only;omega),cx⟩ (by simp only;omega) ?_
     rw[hSt];refine kR [] [] ?_
     simp only[aR,seval]<;>((repeat' apply And.intro)<;>first|rfl|omega|trivial|(simp[kBp];done))
  | succ k =>
    have hkt:k < l.length:=by omega
    have e3:=kY l hkt
    have hw:IntKind.wrap .i64 (((k+1:Nat):Int) - 1)=k:=by rw[kC (by omega) (by omega)];omega
    have hp:((k+1:Nat):Int) > 0:=by omega
    have srt0:l[k].id < id→srtN (l.take (k+1+1)):=fun hlt2=>hsn fun k2 hk2=>by
     have:k2=k:=by omega
     subst this;exact hlt2
    clear hsn
    have N4:=N3 k rfl
    clear N3
    generalize l[k]=z at *
    obtain ⟨zid,zpar,znm,zdir,ztx⟩:=z
    simp only at srt0 N4
    by_cases c3:zid ≥ id
    ·simp only[aR,seval,c1,c2,hw,hp,e3,nA,c3,kI]
     (repeat (with_reducible refine And.intro ?_ ?_;focus (first|omega|exact kE|kernel_rfl)))
     rw[zH fun S=>by have:=N4 S;omega]
    have srt1:=srt0 (by omega)
    simp only[aR,seval,c1,c2,hw,hp,e3,nA,c3,kI]
    (repeat (with_reducible refine And.intro ?_ ?_;focus (first|omega|exact kE|kernel_rfl)))
    refine jW (by simp[kF]) hn ?_
    cases hnm:qB nm
    ·simp only[aR,seval,hnm]
     (repeat (with_reducible refine And.intro ?_ ?_;focus (first|omega|exact kE|kernel_rfl)))
     rw[zH fun S=>by have:=(N S).nm;simp only at this;rw[hnm]at this;cases this]
    simp only[aR,seval,hnm]
    (repeat (with_reducible refine And.intro ?_ ?_;focus (first|omega|exact kE|kernel_rfl)))
    refine kD5 (by simp[kF]) rfl (by omega) ?_
    by_cases c4:kid par nm l=id
    case neg =>
     simp only[aR,seval,c4]
     (repeat (with_reducible refine And.intro ?_ ?_;focus (first|omega|exact kE|kernel_rfl)))
     rw[zH fun S=>c4 (N S).kid]
    by_cases c5:dir=true∧tx≠[]
    ·obtain ⟨rfl,c6⟩:=c5
     simp only[aR,seval,c4,c6]
     (repeat (with_reducible refine And.intro ?_ ?_;focus (first|omega|exact kE|kernel_rfl)))
     rw[zH fun S=>c6 ((N S).dir rfl)]
    have more:∀ Z:Prop,(dir=false→Z)→(dir=true→tx=[]→Z)→Z:=fun Z f g=>by
     cases dir
     ·exact f rfl
     ·exact g rfl (Decidable.not_not.1 fun hh=>c5 ⟨rfl,hh⟩)
    have hcl:cnt tx≤tx.length:=by rw[kAb];exact kEY tx
    refine more _ (fun hd=>?_) (fun hd he=>?_)
    all_goals
     subst hd
     by_cases c7:(tx.length:Int) > 8000
     ·first
        | simp only [aR,seval,c4,c7,eq_true he]
          (repeat (with_reducible refine And.intro ?_ ?_;focus (first|omega|exact kE|kernel_rfl)))
          rw[zH fun S=>by have h1:=kBd (N S).valid;have h2:=(N S).cnt;simp only at h1 h2;omega]
        | simp only [aR,seval,c4,c7]
          (repeat (with_reducible refine And.intro ?_ ?_;focus (first|omega|exact kE|kernel_rfl)))
          rw[zH fun S=>by have h1:=kBd (N S).valid;have h2:=(N S).cnt;simp only at h1 h2;omega]
     first
      | simp only [aR,seval,c4,c7,eq_true he]
        (repeat (with_reducible refine And.intro ?_ ?_;focus (first|omega|exact kE|kernel_rfl)))
      | simp only [aR,seval,c4,c7]
        (repeat (with_reducible refine And.intro ?_ ?_;focus (first|omega|exact kE|kernel_rfl)))
     refine kA4 (by simp[kF]) (by omega) ?_
     cases hv:(pts tx).isSome
     ·simp only[aR,seval,hv]
      (repeat (with_reducible refine And.intro ?_ ?_;focus (first|omega|exact kE|kernel_rfl)))
      rw[zH fun S=>by have:=(N S).valid;simp only at this;rw[hv]at this;cases this]
     simp only[aR,seval,hv]
     (repeat (with_reducible refine And.intro ?_ ?_;focus (first|omega|exact kE|kernel_rfl)))
     refine kBQ (by simp[kF]) (by omega) ?_
     by_cases c8:(cnt tx:Int) > 2000
     ·simp only[aR,seval,c8]
      (repeat (with_reducible refine And.intro ?_ ?_;focus (first|omega|exact kE|kernel_rfl)))
      rw[zH fun S=>by have:=(N S).cnt;simp only at this;omega]
     by_cases c9:s+(cnt tx:Int) > 10000
     ·simp only[aR,seval,c8,c9,kC (n:=s+(cnt tx:Int)) (by omega) (by omega)]
      (repeat (with_reducible refine And.intro ?_ ?_;focus (first|omega|exact kE|kernel_rfl)))
      rw[zH fun S=>by have:=N2 S;omega]
     by_cases c10:par=0
     ·simp only[aR,seval,c8,c9,c10,kC (n:=s+(cnt tx:Int)) (by omega) (by omega),kC (n:=((k+1:Nat):Int)+1) (by omega) (by omega)]
      (repeat (with_reducible refine And.intro ?_ ?_;focus (first|omega|exact kE|kernel_rfl)))
      have cx:=nx ⟨⟨by simp only;omega,by simp only;omega⟩,hnm,c4,fun hdd=>(by first|assumption|cases hdd),hv,by simp only;omega,.inl c10⟩
      refine kP ⟨(s+(cnt tx:Int),k+1+1),by simp only;omega,by simp only;omega,srt1,(by have h5:=tx1;(try simp only[Nat.zero_add]at h5);simp only;omega),cx⟩ (by simp only;omega) ?_
      rw[hSt];refine kR [] [] ?_
      simp only[aR,seval]<;>((repeat' apply And.intro)<;>first|rfl|omega|trivial|(simp[kBp];done))
     simp only[aR,seval,c8,c9,c10,kC (n:=s+(cnt tx:Int)) (by omega) (by omega)]
     (repeat (with_reducible refine And.intro ?_ ?_;focus (first|omega|exact kE|kernel_rfl)))
     refine j4 (by simp[kF]) rfl (by omega) ?_
     by_cases c11:ndx par l < l.length
     case neg =>
      simp only[aR,seval,ndI,if_neg c11]
      (repeat (with_reducible refine And.intro ?_ ?_;focus (first|omega|exact kE|kernel_rfl)))
      rw[zH fun S=>by rcases (N S).par with h1|h1;exact c10 h1;exact c11 h1.1]
     have e4:=kY l c11
     have hg:l.getD (ndx par l) qW=l[ndx par l]:=by rw[List.getD_eq_getElem?_getD,List.getElem?_eq_getElem c11];rfl
     generalize l[ndx par l]=y at *
     obtain ⟨yid,ypar,ynm,ydir,ytx⟩:=y
     have hnn:((ndx par l:Int) < 0)=False:=eq_false (by omega)
     cases ydir
     ·simp only[aR,seval,ndI,if_pos c11,e4,nA,hnn,kI]
      (repeat (with_reducible refine And.intro ?_ ?_;focus (first|omega|exact kE|kernel_rfl)))
      rw[zH fun S=>by rcases (N S).par with h1|h1;exact c10 h1;have:=h1.2.1;simp only at this;rw[hg]at this;cases this]
     simp only[aR,seval,ndI,if_pos c11,e4,nA,hnn,kI]
     (repeat (with_reducible refine And.intro ?_ ?_;focus (first|omega|exact kE|kernel_rfl)))
     refine kCc (by simp[kF]) rfl (by omega) ?_
     cases hw:zO l par id
     case true =>
      simp only[aR,seval]
      (repeat (with_reducible refine And.intro ?_ ?_;focus (first|omega|exact kE|kernel_rfl)))
      rw[zH fun S=>by rcases (N S).par with h1|h1;exact c10 h1;have:=h1.2.2;simp only at this;rw[hw]at this;cases this]
     simp only[aR,seval,kC (n:=((k+1:Nat):Int)+1) (by omega) (by omega)]
     (repeat (with_reducible refine And.intro ?_ ?_;focus (first|omega|exact kE|kernel_rfl)))
     have cx:=nx ⟨⟨by simp only;omega,by simp only;omega⟩,hnm,c4,fun hdd=>(by first|assumption|cases hdd),hv,by simp only;omega,.inr ⟨c11,by simp only;rw[hg],hw⟩⟩
     refine kP ⟨(s+(cnt tx:Int),k+1+1),by simp only;omega,by simp only;omega,srt1,(by have h5:=tx1;(try simp only[Nat.zero_add]at h5);simp only;omega),cx⟩ (by simp only;omega) ?_
     rw[hSt];refine kR [] [] ?_
     simp only[aR,seval]<;>((repeat' apply And.intro)<;>first|rfl|omega|trivial|(simp[kBp];done))
 ·simp only[aR,seval,h,kI]
  rw[List.take_of_length_le (by omega)]at hb hst hck
  rw[yes_snd (snd_of hb (by omega) (by omega) hck)]
end Go.Proofs
end
-- ETr23
section
namespace Go.Proofs
open Go Go.Rw
set_option maxRecDepth 100000
section
variable {Γ:Env} {n:Nat} {t:Nat→AV} {hd:Nat→Nat→AV} {d:Option Nat} {K:AS→Prop}
variable {nh nl:Nat} {h:Nat→Option AO} {fm:Nat→Nat} {lv:Nat→Option (Nat×Nat)} {mu:Bool}
theorem call_tload (hC:Γ.get 15=none) {l:List Nd} {xs:List AV} (hx:xs=kW l) (hl:l.length≤1000000) (ht:∀ x∈l,x.nm.length≤1099511627776∧x.text.length≤1099511627776)
    (hk1:sndN l→∀ s:TS,s.l=l→cont ⟨n,t,hd,⟨nh+2,upd (upd h nh (some (.cells [.mp (nh+1)]))) (nh+1) (some (.map s.es s.cl)),nl,fm,lv,mu⟩⟩ d (.tup [.ptr nh 0,.v (.int .i64 0)]) K)
    (hk2:¬ sndN l→cont ⟨n,t,hd,⟨nh,h,nl,fm,lv,mu⟩⟩ d (.tup [.v (.pointer none),.v (.int .i64 1)]) K):kT Tryz.prog Γ false ⟨n,t,hd,⟨nh,h,nl,fm,lv,mu⟩⟩ 15 [.sl 0 5 xs] d K:=by
 subst hx
 refine kFh kGS hC ⟨l,hl,ht⟩ [] ⟨by simp,by simp[dnL,dn],by simp[dnOs],by simp[AV.tagsL,AV.tags],rfl⟩ ?_
 rintro objs lvs r ⟨rfl,hp⟩ hll
 rcases hp with ⟨hS,s,hs,rfl,rfl⟩|⟨hS,rfl,rfl⟩
 ·have:=hk1 hS s hs
  have e3:(tsO (some s)).length - ([]:List Nat).length=2:=rfl
  rw[e3]
  simp only[tsO,kCK,kBH,kBx,kEW,kBF,kCA,emb_mp,kEg,kEj,obC_nil,kCI,kDY,kBI,kBO,kAz,emb_ptr,emb_tup,emb_v,List.length_nil,Nat.add_zero]
  exact this
 ·have:=hk2 hS
  simp only[kBH,kBI,kBO,kAz,emb_tup,kBF,kCA,emb_v,List.length_nil,Nat.add_zero,Nat.sub_zero]
  exact this
end
theorem small_nodes {t:List Nd} {l:List Ac} (h:kEQ t l=true):t.length≤4000∧∀ x∈t,x.nm.length≤4000∧x.text.length≤4000:=by
 obtain ⟨h1,_,_⟩:=of_decide_eq_true h
 obtain ⟨h2,h3⟩:=nF_le (by omega) t (Int.le_refl 0) h1
 exact ⟨by omega,fun x hx=>by have:=h3 x hx;omega⟩
end Go.Proofs
end
-- ETr33
section
namespace Go.Proofs
open Go Go.Rw
set_option maxRecDepth 100000
abbrev kCO:Con where
 ι:=GivenN×GivenA
 args:=fun p=>[.sl 0 5 (kW p.1.1),.sl 0 6 (acts p.2.1)]
 post:=fun p r=>r = .v (.bool (kEQ p.1.1 p.2.1))
 plain:=true
theorem small13_good:Rw.Good Tryz.prog 13 kCO:=by
 have hΓ:kL Tryz.prog [(49,kCt),(50,actsCon)]:=(kJ wnodes_good (kJ acts_good kK))
 refine k7 (nn:=18) hΓ Tryz.func13 (by kernel_rfl) rfl (show Tryz.f13.results.toList=[.tmp 4] from rfl) (fun _=>rfl) (fun x=>by simp[AV.erL,AV.er,kAO,acts_er]) ?_
 rintro ⟨⟨t,ht,htc⟩,⟨l,hl,hlc⟩⟩
 simp only[aR,seval]
 refine call_wnodes (by simp[kF]) rfl ht htc (by omega) ?_
 by_cases h1:nF 4000 0 t≤4000
 case neg=>simp only[aR,seval,h1,kEQ,false_and]
 simp only[aR,seval,h1]
 refine call_acts (by simp[kF]) rfl hl hlc (by omega) ?_
 by_cases h2:wF 4000 0 (wA l)≤4000
 case neg=>simp only[aR,seval,h1,h2,kEQ,false_and,true_and]
 simp only[aR,seval,h1,h2,kEX]
 unfold kEQ
 exact decide_eq_decide.2 ⟨fun h=>⟨h1,h2,by omega⟩,fun h=>by omega⟩
theorem call_small13 {Γ:Env} (hf:Γ.get 13=some kCO) {σ:AS} {dr:Bool} {t:List Nd} {l:List Ac} {xs ys:List AV} {t1 t2:Nat} {d:Option Nat} {K:AS→Prop} (hx:xs=kW t) (hy:ys=acts l) (h1:t.length≤9223372036854775807) (h2:∀ a∈t,a.nm.length≤9223372036854775807∧a.text.length≤9223372036854775807) (h3:l.length≤9223372036854775807) (h4:∀ a∈l,a.nm.length≤9223372036854775807∧kFd a.ops)
    (hk:cont σ d (.v (.bool (kEQ t l))) K):kT Tryz.prog Γ dr σ 13 [.sl t1 5 xs,.sl t2 6 ys] d K:=by
 subst hx hy
 exact kO (C:=kCO) (i:=(⟨t,h1,h2⟩,⟨l,h3,h4⟩)) hf rfl rfl rfl (by simp[AV.erL,AV.er]) (fun _ h=>h) rfl hk
section
variable {Γ:Env} {n:Nat} {t:Nat→AV} {hd:Nat→Nat→AV} {d:Option Nat} {K:AS→Prop} {nh nl:Nat} {h:Nat→Option AO} {fm:Nat→Nat} {lv:Nat→Option (Nat×Nat)} {mu:Bool}
theorem call_tload0 (hC:Γ.get 15=none) {l:List Nd} (hl:l.length≤1000000) (ht:∀ x∈l,x.nm.length≤1099511627776∧x.text.length≤1099511627776) {lt:Nat} (hS:¬ sndN l)
    (hk2:cont ⟨n,t,hd,⟨nh,h,nl,fm,kill fm (AV.tagsL [.sl lt 5 (kW l)]) lv,mu⟩⟩ d (.tup [.v (.pointer none),.v (.int .i64 1)]) K):kT Tryz.prog Γ false ⟨n,t,hd,⟨nh,h,nl,fm,lv,mu⟩⟩ 15 [.sl lt 5 (kW l)] d K:=by
 refine vcCall_objK kGS hC ⟨l,hl,ht⟩ [] ⟨by simp,by simp[dnL,dn],by simp[dnOs]⟩ ?_
 rintro objs lvs r ⟨rfl,hp⟩ hll
 rcases hp with ⟨h1,_⟩|⟨_,rfl,rfl⟩
 ·exact absurd h1 hS
 ·show cont ⟨n,t,hd,AM.call ⟨nh,h,nl,fm,kill fm (AV.tagsL [.sl lt 5 (kW l)]++j8 h []) lv,mu⟩ [] [] []⟩ d _ K
  rw[AMcall_eq]
  simp only[kAT,List.append_nil,kBH,kBI,kBO,kAz,emb_tup,kBF,kCA,emb_v,List.length_nil,Nat.add_zero,Nat.sub_zero]
  exact hk2
theorem kDD (hC:Γ.get 18=none) {s:TS} {a:Ac} (S:sndN s.l) (ho:okA a) {o ob:Nat} (hT:k5 h o ob s) {x:AV} (hx:dn [o,ob] x (aA a)) (ht:AV.tagsL [.ptr o 0,x]=[])
    (hk:∀ s':TS,s'.l=(doN s.l a).1→sndN s'.l→cont ⟨n,t,hd,⟨nh,upd h ob (some (.map s'.es s'.cl)),nl,fm,lv,mu⟩⟩ d (.v (.int .i64 (doN s.l a).2)) K):kT Tryz.prog Γ false ⟨n,t,hd,⟨nh,h,nl,fm,lv,mu⟩⟩ 18 [.ptr o 0,x] d K:=by
 refine kDG (s:=s) (q:=dotN s.l a) tdo_good hC ⟨(s,a),snd_doOk S ho⟩ rfl hT (by simp only[kCM,kDb];exact ⟨by simp[dn],hx,trivial⟩) ht (fun _ _ _ hp=>hp) ?_
 rw[dot_eq S]
 exact fun s' hs=>hk s' hs (by rw[hs];exact snd_do S a)
end
def ax1:Ac:=⟨1,1,0,[97],false,[]⟩
def ax2:Ac:=⟨1,2,1,[98],false,[]⟩
def ax3:Ac:=⟨1,1,0,[99],false,[]⟩
def nx1:List Nd:=[⟨1,0,[97],false,[]⟩]
theorem ax_do:doN [] ax1=(nx1,0)∧doN nx1 ax2=(nx1,8)∧doN nx1 ax3=(nx1,6):=by decide +kernel
theorem ax_no:¬ sndN [⟨1,1,[97],true,[]⟩]:=fun S=>by
 obtain ⟨k,hk⟩:=S.rt _ (List.mem_singleton.2 rfl)
 have:∀ k,upN [⟨1,1,[97],true,[]⟩] k 1=1:=fun k=>by
  induction k with
  | zero=>rfl
  | succ k ih=>rw [up_succ,ih];decide
 have:=this k
 simp only at hk
 omega
theorem ax_ok (k id par:Int) (nm:List UInt8) (dir:Bool) (h:nm.length≤10):okA ⟨k,id,par,nm,dir,[]⟩:=⟨okL_nil,by simp only;omega⟩
set_option maxHeartbeats 2000000 in
theorem awake13_good:Rw.Good Tryz.prog 14 kEq:=by
 have hΓ:kL Tryz.prog [(30,kAs)]:=(kJ kCn kK)
 refine kE7 (nn:=52) Tryz.func14 (by kernel_rfl) rfl (show Tryz.f14.results.toList=[.tmp 0] from rfl) (fun _=>rfl) (fun x=>by simp[AV.erL,AV.er]) ?_
 rintro ⟨⟩
 refine qP hΓ (Ws:=[]) _ ?_
 obtain ⟨d1,d2,d3⟩:=ax_do
 simp only[aR,seval,kA,kB,]
 refine call_tnew (by simp[kF,kM]) ?_
 simp only[aR,seval,kA,kB,]
 (repeat (with_reducible refine And.intro ?_ ?_;focus (first|omega|exact kE|kernel_rfl)))
 refine kDD (s:=ts0) (a:=ax1) (o:=0) (ob:=1) (by simp[kF,kM]) snd_nil (ax_ok _ _ _ _ _ (by decide)) (by simp[k5,upd,ts0]) (by simp[dn,dnL,aA,ax1,kFq]) (by simp[AV.tagsL,AV.tags]) ?_
 rw[show ts0.l=[] from rfl,d1]
 intro s1 hs1 S1
 simp only[aR,seval,kA,kB,]
 (repeat (with_reducible refine And.intro ?_ ?_;focus (first|omega|exact kE|kernel_rfl)))
 refine kDD (s:=s1) (a:=ax2) (o:=0) (ob:=1) (by simp[kF,kM]) S1 (ax_ok _ _ _ _ _ (by decide)) (by simp[k5,upd]) (by simp[dn,dnL,aA,ax2,kFq]) (by simp[AV.tagsL,AV.tags]) ?_
 rw[hs1,d2]
 intro s2 hs2 S2
 simp only[aR,seval,kA,kB,]
 (repeat (with_reducible refine And.intro ?_ ?_;focus (first|omega|exact kE|kernel_rfl)))
 refine kDD (s:=s2) (a:=ax3) (o:=0) (ob:=1) (by simp[kF,kM]) S2 (ax_ok _ _ _ _ _ (by decide)) (by simp[k5,upd]) (by simp[dn,dnL,aA,ax3,kFq]) (by simp[AV.tagsL,AV.tags]) ?_
 rw[hs2,d3]
 intro s3 hs3 S3
 simp only[aR,seval,kA,kB,]
 refine call_tload0 (l:=[⟨1,1,[97],true,[]⟩]) (lt:=2) (by simp[kF,kM]) (by decide) (by simp) ax_no ?_
 simp only[aR,seval,kA,kB,]
 refine jW (by simp[kF]) (by decide) ?_
 rw[show qB [97,46,98]=true from by decide]
 simp only[aR,seval,kA,kB,]
 (repeat (with_reducible refine And.intro ?_ ?_;focus (first|omega|exact kE|kernel_rfl)))
 refine jW (by simp[kF]) (by decide) ?_
 rw[show qB [46,46]=false from by decide]
 simp only[aR,seval,kA,kB,]
 (repeat (with_reducible refine And.intro ?_ ?_;focus (first|omega|exact kE|kernel_rfl)))
 refine jH (s:=s3) (o:=0) (ob:=1) (by simp[kF,kM]) (kA0 S3).1 (by simp[k5,upd]) ?_
 simp only[aR,seval,kA,kB,kI,hs3,nx1]
theorem kAA {Γ:Env} (hf:Γ.get 14=some kEq) {n:Nat} {t:Nat→AV} {hd:Nat→Nat→AV} {nh nl:Nat} {h:Nat→Option AO} {fm:Nat→Nat} {lv:Nat→Option (Nat×Nat)} {mu:Bool} {dr:Bool} {d:Option Nat} {K:AS→Prop}
    (hk:cont ⟨n,t,hd,⟨nh,h,nl,fm,lv,mu⟩⟩ d (.v (.bool true)) K):kT Tryz.prog Γ dr ⟨n,t,hd,⟨nh,h,nl,fm,lv,mu⟩⟩ 14 [] d K :=
 kAC (C:=kEq) (i:=()) (r:=.v (.bool true)) hf rfl rfl (by simp[AV.erL]) rfl (fun _ h=>h) (by simp only[AV.er];exact hk)
end Go.Proofs
end
-- ETr24
section
namespace Go.Proofs
open Go Go.Rw
set_option maxRecDepth 100000
end Go.Proofs
end
-- ETr25
section
namespace Go.Proofs
open Go Go.Rw
set_option maxRecDepth 100000
theorem nequal_good:Rw.Good Tryz.prog 70 zM:=by
 have hΓ:kL Tryz.prog []:=kK
 refine k7 (nn:=26) hΓ Tryz.func70 (by kernel_rfl) rfl (show Tryz.f70.results.toList=[.tmp 4] from rfl) (fun _=>rfl) (fun x=>by simp[AV.erL,AV.er]) ?_
 rintro ⟨⟨a,ha⟩,⟨b,hb⟩⟩
 simp only[aR,seval,kI]
 by_cases hl:a.length=b.length
 case neg =>
  have hne:a≠b:=fun e=>hl (by rw[e])
  simp only[aR,seval,show ((a.length:Int)=b.length)=False from eq_false (by omega),hne]
 simp only[aR,seval,hl,kI]
 obtain ⟨St,hSt⟩:∃ St:{ i:Nat // i≤b.length∧a.take i=b.take i }→AS,∀ i,St i=AS.of 26 [(0,.sl 0 5 (kW a)),(1,.sl 0 5 (kW b)),(12,.v (.int .i64 b.length)),(13,.v (.int .i64 i.1))] [] []:=⟨_,fun _=>rfl⟩
 refine qH hΓ St (fun i=>b.length - i.1) ⟨0,by omega,by simp⟩ (by rw[hSt];refine kR [] [] ?_;simp only[aR,seval]<;>((repeat' apply And.intro)<;>first|rfl|omega|trivial)) ?_
 rintro ⟨i,hi,hs⟩
 rw[hSt]
 simp only
 simp only[aR,seval,kI]
 (with_reducible first|refine kG (fun h=>?_) (fun h=>?_)|refine kH (fun h=>?_) (fun h=>?_))
 ·have hlt:i < a.length:=by omega
  have hlt2:i < b.length:=by omega
  have e1:=kY a hlt
  have e2:=kY b hlt2
  have ta:=List.take_succ_eq_append_getElem hlt
  have tb:=List.take_succ_eq_append_getElem hlt2
  have hab:a[i]=b[i]→a.take (i+1)=b.take (i+1):=fun he=>by rw[ta,tb,he,hs]
  have hne:¬ a[i]=b[i]→a≠b:=fun he hh=>he (by subst hh;rfl)
  generalize a[i]=x at *
  generalize b[i]=y at *
  have key:decide (¬ (x.id=y.id∧x.par=y.par∧x.nm=y.nm∧x.dir=y.dir∧x.text=y.text))=decide (¬ x=y):=by simp only[nd_eq]
  simp only[aR,seval,h,e1,e2,nA,kI,node_neq,key,hl]
  (repeat (with_reducible refine And.intro ?_ ?_;focus (first|omega|exact kE|kernel_rfl)))
  by_cases hxy:x=y
  ·simp only[aR,seval,hxy,kC (n:=(i:Int)+1) (by omega) (by omega)]
   refine kP ⟨i+1,by omega,hab hxy⟩ (by simp only;omega) ?_
   rw[hSt];refine kR [] [] ?_
   simp only[aR,seval]<;>((repeat' apply And.intro)<;>first|rfl|omega|trivial)
  ·simp only[aR,seval,hxy,hne hxy]
 ·have e1:a.take i=a:=List.take_of_length_le (by omega)
  have e2:b.take i=b:=List.take_of_length_le (by omega)
  rw[e1,e2]at hs
  simp only[aR,seval,h,hs]
theorem kFR {Γ:Env} (hf:Γ.get 70=some zM) {σ:AS} {dr:Bool} {a b:List Nd} {t1 t2:Nat} {xs ys:List AV} {d:Option Nat} {K:AS→Prop} (hx:xs=kW a) (hy:ys=kW b) (ha:a.length≤1099511627776) (hb:b.length≤1099511627776)
    (hk:cont σ d (.v (.bool (decide (a=b)))) K):kT Tryz.prog Γ dr σ 70 [.sl t1 5 xs,.sl t2 5 ys] d K:=by
 subst hx hy
 exact kO (C:=zM) (i:=(⟨a,ha⟩,⟨b,hb⟩)) hf rfl rfl rfl (by simp[AV.erL,AV.er]) (fun _ h=>h) rfl hk
section
variable {Γ:Env} {n:Nat} {t:Nat→AV} {hd:Nat→Nat→AV} {d:Option Nat} {K:AS→Prop}
variable {nh nl:Nat} {h:Nat→Option AO} {fm:Nat→Nat} {lv:Nat→Option (Nat×Nat)} {mu:Bool}
theorem kBy (hΓ:kL Tryz.prog Γ) (hC:Γ.get 21=none) (hN:Γ.get 22=none) (hE:Γ.get 70=some zM) {s s':TS} (hi:kEx s.l) (hi':kEx s'.l) {o ob p pb:Nat} (hT:k5 h o ob s) (hT':k5 h p pb s')
    (hk:cont ⟨n,t,hd,⟨nh,h,nl+1+1,upd (upd fm nl nl) (nl+1) (nl+1),upd (upd lv nl (some (s.l.length,42))) (nl+1) (some (s'.l.length,42)),mu⟩⟩ d (.v (.bool (decide (s.l=s'.l)))) K):kT Tryz.prog Γ false ⟨n,t,hd,⟨nh,h,nl,fm,lv,mu⟩⟩ 21 [.ptr o 0,.ptr p 0] d K:=by
 have hl:=hi.1
 have hl':=hi'.1
 refine zT (nn:=17) hΓ [] (by first|assumption|simp[kF,kM]) Tryz.func21 (by kernel_rfl) rfl (show Tryz.f21.results.toList=[.tmp 4] from rfl) rfl ?_
 simp only[aR,seval,kA,kB,beq_self_eq_true]
 refine jH (s:=s) (o:=o) (ob:=ob) hN hi hT ?_
 simp only[aR,seval,kA,kB,beq_self_eq_true]
 refine jH (s:=s') (o:=p) (ob:=pb) hN hi' hT' ?_
 simp only[aR,seval,kA,kB,beq_self_eq_true]
 refine kFR hE rfl rfl (by omega) (by omega) ?_
 simp only[aR,seval,kA,kB,]
 exact hk
end
end Go.Proofs
end
-- ETr38
section
namespace Go.Proofs
open Go Go.Rw
set_option maxRecDepth 100000
section
variable {Γ:Env} {n:Nat} {t:Nat→AV} {hd:Nat→Nat→AV} {d:Option Nat} {K:AS→Prop} {nh nl:Nat} {h:Nat→Option AO} {fm:Nat→Nat} {lv:Nat→Option (Nat×Nat)} {mu:Bool}
theorem z8 {f:FuncId} {C:ConO} (hG:jB Tryz.prog f C) (hC:Γ.get f=none) (i:C.ι) (hobjs:C.objs i=[]) {bs:List AV} (ha:dnL [] bs (C.args i)) (ht:AV.tagsL bs=[]) {r:AV} (hr:r.er=r) (hp:∀ objs lvs r',C.post i objs lvs r'→objs=[]∧lvs=[]∧r'=r)
    (hk:cont ⟨n,t,hd,⟨nh,h,nl,fm,lv,mu⟩⟩ d r K):kT Tryz.prog Γ false ⟨n,t,hd,⟨nh,h,nl,fm,lv,mu⟩⟩ f bs d K:=by
 refine kFh hG hC i [] ⟨by simp,ha,by rw[hobjs];simp[dnOs],ht,rfl⟩ ?_
 intro objs lvs r' h1 hl
 obtain ⟨rfl,rfl,rfl⟩:=hp _ _ _ h1
 rw[emb_closed rfl _ hr]
 exact hk
theorem jJ (hC:Γ.get 22=none)
    (hk:cont ⟨n,t,hd,⟨nh,h,nl+1,upd fm nl nl,upd lv nl (some (0,42)),mu⟩⟩ d (.sl nl 5 (kW [])) K):kT Tryz.prog Γ false ⟨n,t,hd,⟨nh,h,nl,fm,lv,mu⟩⟩ 22 [.v (.pointer none)] d K:=by
 refine kFh kFE hC ⟨none,fun s hs=>by cases hs⟩ [] ⟨by simp,by simp[tsA,dnL,dn],by simp[tsO,dnOs],rfl,rfl⟩ ?_
 rintro objs lvs r ⟨rfl,rfl,rfl⟩ hl
 exact hk
theorem kCm (hΓ:kL Tryz.prog Γ) (hC:Γ.get 21=none) (hN:Γ.get 22=none) (hE:Γ.get 70=some zM)
    (hk:∀ nl' fm' lv',cont ⟨n,t,hd,⟨nh,h,nl',fm',lv',mu⟩⟩ d (.v (.bool true)) K):kT Tryz.prog Γ false ⟨n,t,hd,⟨nh,h,nl,fm,lv,mu⟩⟩ 21 [.v (.pointer none),.v (.pointer none)] d K:=by
 refine zT (nn:=17) hΓ [] (by first|assumption|simp[kF,kM]) Tryz.func21 (by kernel_rfl) rfl (show Tryz.f21.results.toList=[.tmp 4] from rfl) rfl ?_
 simp only[aR,seval,kA,kB,beq_self_eq_true]
 refine jJ hN ?_
 simp only[aR,seval,kA,kB,beq_self_eq_true]
 refine jJ hN ?_
 simp only[aR,seval,kA,kB,beq_self_eq_true]
 refine kFR hE rfl rfl (by simp) (by simp) ?_
 simp only[aR,seval,kA,kB,beq_self_eq_true,decide_true]
 exact hk _ _ _
theorem kC8 (hΓ:kL Tryz.prog Γ) (hC:Γ.get 21=none) (hN:Γ.get 22=none) (hE:Γ.get 70=some zM) {o:Nat}
    (hk:cont ⟨n,t,hd,⟨nh,h,nl,fm,lv,mu⟩⟩ d (.v (.bool false)) K):kT Tryz.prog Γ false ⟨n,t,hd,⟨nh,h,nl,fm,lv,mu⟩⟩ 21 [.ptr o 0,.v (.pointer none)] d K:=by
 refine zT (nn:=17) hΓ [] (by first|assumption|simp[kF,kM]) Tryz.func21 (by kernel_rfl) rfl (show Tryz.f21.results.toList=[.tmp 4] from rfl) rfl ?_
 simp only[aR,seval,kA,kB,show (false == true)=false from rfl]
 exact hk
end
abbrev tkids0Con:ConO where
 ι:=Int
 objs:=fun _=>[]
 args:=fun p=>[.v (.pointer none),.v (.int .i64 p)]
 post:=fun p objs lvs r=>objs=[]∧lvs=[]∧r = .sl 0 1 []
set_option maxHeartbeats 1000000 in
theorem kCj:jB Tryz.prog 27 tkids0Con:=by
 have hΓ:kL Tryz.prog []:=kK
 refine qG (nn:=27) Tryz.func27 (by kernel_rfl) rfl (show Tryz.f27.results.toList=[.tmp 4] from rfl) (fun _=>rfl) ?_
 rintro par
 refine qP hΓ (Ws:=[]) _ ?_
 simp only[aR,seval,kA,kB,kD]
 refine jJ (by simp[kF,kM]) ?_
 simp only[aR,seval,kA,kB,kD,kI]
 (repeat (with_reducible refine And.intro ?_ ?_;focus (first|omega|exact kE|kernel_rfl)))
 refine call_del hΓ (by simp[kF,kM]) (by simp[kF,kM]) (by simp[kF,kM]) (xs:=[]) (par:=par) (by omega) (by simp[upd]) (by simp) (by simp[upd]) ?_ ?_
 ·intro o x h
  simp only[upd]at h
  split at h
  ·omega
  ·simp at h
 ·intro k' h' hk' hh
  rw[show kept par []=[] from rfl]
  simp only[aR,seval,kA,kB,jV,kD,kI]
  (repeat (with_reducible refine And.intro ?_ ?_;focus (first|omega|exact kE|kernel_rfl)))
  refine kGl (by simp[kF,kM]) (by omega) (by simp) (by simp[upd]) rfl ?_ ?_
  ·intro _
   simp only[aR,seval,kA,kB,jV,kD,kI]
   (repeat (with_reducible refine And.intro ?_ ?_;focus (first|omega|exact kE|kernel_rfl)))
   obtain ⟨St,hSt⟩:∃ St:Unit→AS,∀ i,St i=AS.ofH 27 [(4,.sl 0 1 []),(14,.sl 0 5 (kW [])),(15,.v (.int .i64 0)),(16,.v (.int .i64 0))] [] [] []:=⟨_,fun _=>rfl⟩
   refine kAd ?_
   refine zQ [] hΓ St (fun i=>0) () (by rw[hSt];refine qA [] [] ?_;simp only[aR,seval,kA,kB,jV,kD,kI]<;>((repeat' apply And.intro)<;>first|rfl|omega|trivial)) ?_
   rintro ⟨⟩
   rw[hSt]
   simp only[aR,seval,kA,kB,kD,kI]
   refine kU [] [] [] [] (.sl 0 1 []) ⟨rfl,rfl,rfl⟩ ?_
   simp only[aR,seval,kA,kB,kD]<;>((repeat' apply And.intro)<;>first|rfl|omega|trivial)
  ·intro zs hz _
   have hz0:zs=[]:=List.length_eq_zero_iff.1 hz.length_eq
   subst hz0
   simp only[aR,seval,kA,kB,jV,kD,kI]
   (repeat (with_reducible refine And.intro ?_ ?_;focus (first|omega|exact kE|kernel_rfl)))
   obtain ⟨St,hSt⟩:∃ St:Unit→AS,∀ i,St i=AS.ofH 27 [(4,.sl 0 1 []),(14,.sl 0 5 (kW [])),(15,.v (.int .i64 0)),(16,.v (.int .i64 0))] [] [] []:=⟨_,fun _=>rfl⟩
   refine kAd ?_
   refine zQ [] hΓ St (fun i=>0) () (by rw[hSt];refine qA [] [] ?_;simp only[aR,seval,kA,kB,jV,kD,kI]<;>((repeat' apply And.intro)<;>first|rfl|omega|trivial)) ?_
   rintro ⟨⟩
   rw[hSt]
   simp only[aR,seval,kA,kB,kD,kI]
   refine kU [] [] [] [] (.sl 0 1 []) ⟨rfl,rfl,rfl⟩ ?_
   simp only[aR,seval,kA,kB,kD]<;>((repeat' apply And.intro)<;>first|rfl|omega|trivial)
end Go.Proofs
end
-- ETr37
section
namespace Go.Proofs
open Go Go.Rw
set_option maxRecDepth 100000
abbrev GivenA1:={ a:Ac // a.nm.length≤9223372036854775807∧kFd a.ops }
abbrev apart13Con:Con where
 ι:=GivenN×GivenA1×GivenA1
 args:=fun p=>[.sl 0 5 (kW p.1.1),aA p.2.1.1,aA p.2.2.1]
 post:=fun _ r=>r = .v (.bool true)
 plain:=true
set_option maxHeartbeats 4000000 in
theorem apart13_good:Rw.Good Tryz.prog 4 apart13Con:=by
 have hΓ:kL Tryz.prog [(14,kEq),(13,kCO),(16,kF7),(17,doAcon),(26,zM),(70,zM)]:=(kJ awake13_good (kJ small13_good (kJ xsound_good (kJ doA_good (kJ kFZ (kJ nequal_good kK))))))
 refine kE7 (nn:=179) Tryz.func4 (by kernel_rfl) rfl (show Tryz.f4.results.toList=[.tmp 6] from rfl) (fun _=>rfl) (fun x=>by simp[AV.erL,AV.er,kAO,aA_er]) ?_
 rintro ⟨⟨t,ht,htc⟩,⟨a,han,hac⟩,⟨b,hbn,hbc⟩⟩
 refine qP hΓ (Ws:=[]) _ ?_
 have hab:∀ x∈[a,b],x.nm.length≤9223372036854775807∧kFd x.ops:=by
  intro x hx
  simp only[List.mem_cons,List.not_mem_nil,or_false]at hx
  rcases hx with rfl|rfl
  ·exact ⟨han,hac⟩
  ·exact ⟨hbn,hbc⟩
 have okab:=fun h=>small_acts (t:=t) (l:=[a,b]) h hab
 obtain ⟨k,id,par,nm,dir,ops⟩:=a
 obtain ⟨k',id',par',nm',dir',ops'⟩:=b
 obtain ⟨A,hA⟩:∃ A:Ac,A=⟨k,id,par,nm,dir,ops⟩:=⟨_,rfl⟩
 obtain ⟨B,hB⟩:∃ B:Ac,B=⟨k',id',par',nm',dir',ops'⟩:=⟨_,rfl⟩
 simp only[aR,seval,kA,kB,aA]
 (repeat (with_reducible refine And.intro ?_ ?_;focus (first|omega|exact kE|kernel_rfl)))
 refine call_small13 (l:=[⟨k,id,par,nm,dir,ops⟩,⟨k',id',par',nm',dir',ops'⟩]) (by simp[kF]) rfl rfl ht htc (by simp) hab ?_
 rcases Bool.eq_false_or_eq_true (kEQ t [⟨k,id,par,nm,dir,ops⟩,⟨k',id',par',nm',dir',ops'⟩]) with h1|h1
 case inr =>
  simp only[aR,seval,kA,kB,h1]
  refine kAA (by simp[kF]) ?_
  simp only[aR,seval,kA,kB,]
 obtain ⟨_,lok⟩:=okab h1
 have oA:=lok ⟨k,id,par,nm,dir,ops⟩ (by simp)
 have oB:=lok ⟨k',id',par',nm',dir',ops'⟩ (by simp)
 obtain ⟨tl,tc⟩:=small_nodes h1
 simp only[aR,seval,kA,kB,h1]
 refine call_tload (by simp[kF,kM]) rfl (by omega) (fun x hx=>by have:=tc x hx;omega) ?_ ?_
 case refine_2 =>
  intro hS
  simp only[aR,seval,kA,kB,kD]
  (repeat (with_reducible refine And.intro ?_ ?_;focus (first|omega|exact kE|kernel_rfl)))
  refine kO (C:=kF7) (i:=⟨t,by omega,fun x hx=>by have:=tc x hx;omega⟩) (by simp[kF]) rfl rfl rfl (by simp[AV.erL,AV.er,kAO]) (fun _ h=>h) rfl ?_
  simp only
  rw[zH hS]
  simp only[aR,seval,kA,kB,]
  (repeat (with_reducible refine And.intro ?_ ?_;focus (first|omega|exact kE|kernel_rfl)))
  refine kAA (by simp[kF]) ?_
  simp only[aR,seval,kA,kB,]
 intro hS s hs
 subst hs
 have hl:=hS.len
 have okt:okT s.l:=⟨by omega,fun x hx=>(kA0 hS).2.2.2 x hx⟩
 simp only[aR,seval,kA,kB,kD]
 (repeat (with_reducible refine And.intro ?_ ?_;focus (first|omega|exact kE|kernel_rfl)))
 refine call_tcopy (s:=s) (o:=2) (ob:=3) (by simp[kF,kM]) (by simp[k5,upd]) ?_
 simp only[aR,seval,kA,kB,kD]
 (repeat (with_reducible refine And.intro ?_ ?_;focus (first|omega|exact kE|kernel_rfl)))
 refine kBy hΓ (by simp[kF,kM]) (by simp[kF,kM]) (by simp[kF,kM]) (s:=s) (s':=s) (o:=2) (ob:=3) (p:=4) (pb:=5) (kA0 hS).1 (kA0 hS).1 (by simp[k5,upd]) (by simp[k5,upd]) ?_
 simp only[aR,seval,kA,kB,kD,decide_true]
 (repeat (with_reducible refine And.intro ?_ ?_;focus (first|omega|exact kE|kernel_rfl)))
 refine kAC (C:=doAcon) (i:=⟨(s.l,⟨k,id,par,nm,dir,ops⟩),okt,oA⟩) (r:=.tup [.sl 0 5 (kW (doN s.l ⟨k,id,par,nm,dir,ops⟩).1),.v (.int .i64 (doN s.l ⟨k,id,par,nm,dir,ops⟩).2)]) (by simp[kF]) rfl rfl (by simp[AV.erL,AV.er,kAO,aA_er,aA]) rfl (fun _ h=>h) ?_
 simp only[aR,seval,kA,kB,kD]
 (repeat (with_reducible refine And.intro ?_ ?_;focus (first|omega|exact kE|kernel_rfl)))
 refine kAC (C:=doAcon) (i:=⟨(s.l,⟨k',id',par',nm',dir',ops'⟩),okt,oB⟩) (r:=.tup [.sl 0 5 (kW (doN s.l ⟨k',id',par',nm',dir',ops'⟩).1),.v (.int .i64 (doN s.l ⟨k',id',par',nm',dir',ops'⟩).2)]) (by simp[kF]) rfl rfl (by simp[AV.erL,AV.er,kAO,aA_er,aA]) rfl (fun _ h=>h) ?_
 simp only[aR,seval,kA,kB,kD]
 (repeat (with_reducible refine And.intro ?_ ?_;focus (first|omega|exact kE|kernel_rfl)))
 refine kDD (s:=s) (a:=⟨k,id,par,nm,dir,ops⟩) (o:=2) (ob:=3) (by simp[kF,kM]) hS oA (by simp[k5,upd]) (by simp[dn,dnL,aA]) (by simp[AV.tagsL,AV.tags]) ?_
 intro s1 hs1 S1
 rw[← hs1]
 simp only[aR,seval,kA,kB,kD]
 (repeat (with_reducible refine And.intro ?_ ?_;focus (first|omega|exact kE|kernel_rfl)))
 refine kDD (s:=s) (a:=⟨k',id',par',nm',dir',ops'⟩) (o:=4) (ob:=5) (by simp[kF,kM]) hS oB (by simp[k5,upd]) (by simp[dn,dnL,aA]) (by simp[AV.tagsL,AV.tags]) ?_
 intro s2 hs2 S2
 rw[← hs2]
 have hl1:=S1.len
 have hl2:=S2.len
 simp only[aR,seval,kA,kB,kD]
 (repeat (with_reducible refine And.intro ?_ ?_;focus (first|omega|exact kE|kernel_rfl)))
 refine jH (s:=s1) (o:=2) (ob:=3) (by simp[kF,kM]) (kA0 S1).1 (by simp[k5,upd]) ?_
 simp only[aR,seval,kA,kB,kD,kI]
 obtain ⟨St,hSt⟩:∃ St:{ p:Nat×List Nd // p.1≤s1.l.length∧p.2.length=s1.l.length }→AS,∀ p,St p=AS.ofH 179 [(4,.ptr 0 0),(5,.ptr 1 0),(7,.ptr 2 0),(9,.ptr 4 0),(10,.sl 0 5 (kW s1.l)),(12,.sl 0 5 (kW s2.l)),(14,.sl 2 5 (kW p.1.2)),(15,.v (.int .i64 p.1.1))] [] [.cells [.v (.int .i64 k),.v (.int .i64 id),.v (.int .i64 par),.v (sv nm),.v (.bool dir),.sl 0 3 (qN ops)],.cells [.v (.int .i64 k'),.v (.int .i64 id'),.v (.int .i64 par'),.v (sv nm'),.v (.bool dir'),.sl 0 3 (qN ops')],.cells [.mp 3],.map s1.es s1.cl,.cells [.mp 5],.map s2.es s2.cl] [(s1.l.length,42)]:=⟨_,fun _=>rfl⟩
 refine kAd ?_
 refine zQ [] hΓ St (fun p=>s1.l.length - p.1.1) ⟨(0,s1.l),by simp,rfl⟩ (by rw[hSt];refine qA [0,1,2,3,4,5] [.live 5] ?_;simp only[aR,seval,kA,kB,kD]<;>((repeat' apply And.intro)<;>first|rfl|omega|trivial)) ?_
 rintro ⟨⟨i,ys⟩,hi,hys⟩
 simp only at hi hys
 rw[hSt]
 simp only
 simp only[aR,seval,kA,kB,kD,kI]
 (with_reducible first|refine kG (fun h=>?_) (fun h=>?_)|refine kH (fun h=>?_) (fun h=>?_))
 ·have hlt:i < ys.length:=by omega
  have e1:=kY ys hlt
  have e9:=kEv ys i ⟨ys[i].id,ys[i].par,[47,47],ys[i].dir,ys[i].text⟩
  have e10:kDA (nA ys[i]) 2 [.v (sv [47,47])]=nA ⟨ys[i].id,ys[i].par,[47,47],ys[i].dir,ys[i].text⟩:=rfl
  simp only[aR,seval,kA,kB,kD,h,kI,hys,kC (n:=(i:Int)+1) (by omega) (by omega)]
  (repeat (with_reducible refine And.intro ?_ ?_;focus (first|omega|exact kE|kernel_rfl)))
  refine kP ⟨(i+1,ys.set i ⟨ys[i].id,ys[i].par,[47,47],ys[i].dir,ys[i].text⟩),by simp only;omega,by rw[List.length_set];exact hys⟩ (by simp only;omega) ?_
  rw[hSt];refine qA [0,1,2,3,4,5] [.live 2] ?_
  simp only[aR,seval,kA,kB,kD,e1,e9,e10,kI,hys]<;>((repeat' apply And.intro)<;>first|rfl|omega|trivial)
 ·simp only[aR,seval,kA,kB,kD,h]
  (repeat (with_reducible refine And.intro ?_ ?_;focus (first|omega|exact kE|kernel_rfl)))
  refine z8 tget_good (by simp[kF,kM]) (none,1) rfl (by simp[tsA,dnL,dn]) rfl (r:=.tup [nA qW,.v (.bool false)]) rfl (fun _ _ _ hp=>⟨hp.1,hp.2.1,hp.2.2⟩) ?_
  simp only[aR,seval,kA,kB,kD,nA,qW]
  (repeat (with_reducible refine And.intro ?_ ?_;focus (first|omega|exact kE|kernel_rfl)))
  refine z8 kGd (by simp[kF,kM]) ⟨(none,1),fun s hs=>by cases hs⟩ rfl (by simp[tsA,dnL,dn]) rfl (r:=.tup [.v (sv []),.v (.bool false)]) rfl (fun _ _ _ hp=>⟨hp.1,hp.2.1,hp.2.2⟩) ?_
  simp only[aR,seval,kA,kB,kD]
  (repeat (with_reducible refine And.intro ?_ ?_;focus (first|omega|exact kE|kernel_rfl)))
  refine z8 kGe (by simp[kF,kM]) ⟨((none:Option TS),([97]:List UInt8)),(fun s hs=>by cases hs),by simp⟩ rfl (by simp[tsA,dnL,dn]) rfl (r:=.tup [.v (.int .i64 0),.v (.bool false)]) rfl (fun _ _ _ hp=>⟨hp.1,hp.2.1,hp.2.2⟩) ?_
  simp only[aR,seval,kA,kB,kD]
  (repeat (with_reducible refine And.intro ?_ ?_;focus (first|omega|exact kE|kernel_rfl)))
  refine z8 tdo0_good (by simp[kF,kM]) ⟨k,id,par,nm,dir,ops⟩ rfl (by simp[tsA,dnL,dn,aA]) (by simp[AV.tagsL,AV.tags]) (r:=.v (.int .i64 (if k < 1∨k > 4 then 1 else 5))) rfl (fun _ _ _ hp=>⟨hp.1,hp.2.1,hp.2.2⟩) ?_
  obtain ⟨w,hw⟩:∃ w:Int,(if k < 1∨k > 4 then 1 else 5:Int)=w:=⟨_,rfl⟩
  rw[hw]
  by_cases c1:k < 1
  ·rw[if_pos (.inl c1)]at hw
   simp only[aR,seval,kA,kB,kD,c1,List.append_eq]
   (repeat (with_reducible refine And.intro ?_ ?_;focus (first|omega|exact kE|kernel_rfl)))
   subst hw
   refine kAU (s:=s1) (o:=2) (ob:=3) (by simp[kF,kM]) S1 (by simp[k5,upd]) rfl ?_
   simp only[aR,seval,kA,kB,kD]
   (repeat (with_reducible refine And.intro ?_ ?_;focus (first|omega|exact kE|kernel_rfl)))
   refine kAU (s:=s2) (o:=4) (ob:=5) (by simp[kF,kM]) S2 (by simp[k5,upd]) rfl ?_
   simp only[aR,seval,kA,kB,kD]
   (repeat (with_reducible refine And.intro ?_ ?_;focus (first|omega|exact kE|kernel_rfl)))
   refine kBy hΓ (by simp[kF,kM]) (by simp[kF,kM]) (by simp[kF,kM]) (s:=s1) (s':=s2) (o:=2) (ob:=3) (p:=4) (pb:=5) (kA0 S1).1 (kA0 S2).1 (by simp[k5,upd]) (by simp[k5,upd]) ?_
   simp only[aR,seval,kA,kB,kD]
   (repeat (with_reducible refine And.intro ?_ ?_;focus (first|omega|exact kE|kernel_rfl)))
   refine kBS (by simp[kF]) rfl rfl (by omega) (by omega) ?_
   simp only[aR,seval,kA,kB,kD,beq_self_eq_true]
   (repeat (with_reducible refine And.intro ?_ ?_;focus (first|omega|exact kE|kernel_rfl)))
   refine z8 kCE (by simp[kF,kM]) none rfl (by simp[tsA,dnL,dn]) rfl (r:=.v (.pointer none)) rfl (fun _ _ _ hp=>⟨hp.1,hp.2.1,hp.2.2⟩) ?_
   simp only[aR,seval,kA,kB,kD]
   (repeat (with_reducible refine And.intro ?_ ?_;focus (first|omega|exact kE|kernel_rfl)))
   refine jJ (by simp[kF,kM]) ?_
   simp only[aR,seval,kA,kB,kD,kI,List.length_nil]
   (repeat (with_reducible refine And.intro ?_ ?_;focus (first|omega|exact kE|kernel_rfl)))
   refine z8 kCj (by simp[kF,kM]) 0 rfl (by simp[tsA,dnL,dn]) rfl (r:=.sl 0 1 []) rfl (fun _ _ _ hp=>⟨hp.1,hp.2.1,hp.2.2⟩) ?_
   simp only[aR,seval,kA,kB,kD]
   (repeat (with_reducible refine And.intro ?_ ?_;focus (first|omega|exact kE|kernel_rfl)))
   refine kCm hΓ (by simp[kF,kM]) (by simp[kF,kM]) (by simp[kF,kM]) (fun nl' fm' lv'=>?_)
   simp only[aR,seval,kA,kB,kD]
   (repeat (with_reducible refine And.intro ?_ ?_;focus (first|omega|exact kE|kernel_rfl)))
   refine kC8 hΓ (by simp[kF,kM]) (by simp[kF,kM]) (by simp[kF,kM]) ?_
   simp only[aR,seval,kA,kB,kD]
   (repeat (with_reducible refine And.intro ?_ ?_;focus (first|omega|exact kE|kernel_rfl)))
   refine kAA (by simp[kF]) ?_
   simp only[aR,seval,kA,kB,]
  ·by_cases c2:k > 4
   ·rw[if_pos (.inr c2)]at hw
    simp only[aR,seval,kA,kB,kD,c1,c2,List.append_eq]
    (repeat (with_reducible refine And.intro ?_ ?_;focus (first|omega|exact kE|kernel_rfl)))
    subst hw
    refine kAU (s:=s1) (o:=2) (ob:=3) (by simp[kF,kM]) S1 (by simp[k5,upd]) rfl ?_
    simp only[aR,seval,kA,kB,kD]
    (repeat (with_reducible refine And.intro ?_ ?_;focus (first|omega|exact kE|kernel_rfl)))
    refine kAU (s:=s2) (o:=4) (ob:=5) (by simp[kF,kM]) S2 (by simp[k5,upd]) rfl ?_
    simp only[aR,seval,kA,kB,kD]
    (repeat (with_reducible refine And.intro ?_ ?_;focus (first|omega|exact kE|kernel_rfl)))
    refine kBy hΓ (by simp[kF,kM]) (by simp[kF,kM]) (by simp[kF,kM]) (s:=s1) (s':=s2) (o:=2) (ob:=3) (p:=4) (pb:=5) (kA0 S1).1 (kA0 S2).1 (by simp[k5,upd]) (by simp[k5,upd]) ?_
    simp only[aR,seval,kA,kB,kD]
    (repeat (with_reducible refine And.intro ?_ ?_;focus (first|omega|exact kE|kernel_rfl)))
    refine kBS (by simp[kF]) rfl rfl (by omega) (by omega) ?_
    simp only[aR,seval,kA,kB,kD,beq_self_eq_true]
    (repeat (with_reducible refine And.intro ?_ ?_;focus (first|omega|exact kE|kernel_rfl)))
    refine z8 kCE (by simp[kF,kM]) none rfl (by simp[tsA,dnL,dn]) rfl (r:=.v (.pointer none)) rfl (fun _ _ _ hp=>⟨hp.1,hp.2.1,hp.2.2⟩) ?_
    simp only[aR,seval,kA,kB,kD]
    (repeat (with_reducible refine And.intro ?_ ?_;focus (first|omega|exact kE|kernel_rfl)))
    refine jJ (by simp[kF,kM]) ?_
    simp only[aR,seval,kA,kB,kD,kI,List.length_nil]
    (repeat (with_reducible refine And.intro ?_ ?_;focus (first|omega|exact kE|kernel_rfl)))
    refine z8 kCj (by simp[kF,kM]) 0 rfl (by simp[tsA,dnL,dn]) rfl (r:=.sl 0 1 []) rfl (fun _ _ _ hp=>⟨hp.1,hp.2.1,hp.2.2⟩) ?_
    simp only[aR,seval,kA,kB,kD]
    (repeat (with_reducible refine And.intro ?_ ?_;focus (first|omega|exact kE|kernel_rfl)))
    refine kCm hΓ (by simp[kF,kM]) (by simp[kF,kM]) (by simp[kF,kM]) (fun nl' fm' lv'=>?_)
    simp only[aR,seval,kA,kB,kD]
    (repeat (with_reducible refine And.intro ?_ ?_;focus (first|omega|exact kE|kernel_rfl)))
    refine kC8 hΓ (by simp[kF,kM]) (by simp[kF,kM]) (by simp[kF,kM]) ?_
    simp only[aR,seval,kA,kB,kD]
    (repeat (with_reducible refine And.intro ?_ ?_;focus (first|omega|exact kE|kernel_rfl)))
    refine kAA (by simp[kF]) ?_
    simp only[aR,seval,kA,kB,]
   ·rw[if_neg (fun hc=>hc.elim c1 c2)]at hw
    simp only[aR,seval,kA,kB,kD,c1,c2,List.append_eq]
    (repeat (with_reducible refine And.intro ?_ ?_;focus (first|omega|exact kE|kernel_rfl)))
    subst hw
    refine kAU (s:=s1) (o:=2) (ob:=3) (by simp[kF,kM]) S1 (by simp[k5,upd]) rfl ?_
    simp only[aR,seval,kA,kB,kD]
    (repeat (with_reducible refine And.intro ?_ ?_;focus (first|omega|exact kE|kernel_rfl)))
    refine kAU (s:=s2) (o:=4) (ob:=5) (by simp[kF,kM]) S2 (by simp[k5,upd]) rfl ?_
    simp only[aR,seval,kA,kB,kD]
    (repeat (with_reducible refine And.intro ?_ ?_;focus (first|omega|exact kE|kernel_rfl)))
    refine kBy hΓ (by simp[kF,kM]) (by simp[kF,kM]) (by simp[kF,kM]) (s:=s1) (s':=s2) (o:=2) (ob:=3) (p:=4) (pb:=5) (kA0 S1).1 (kA0 S2).1 (by simp[k5,upd]) (by simp[k5,upd]) ?_
    simp only[aR,seval,kA,kB,kD]
    (repeat (with_reducible refine And.intro ?_ ?_;focus (first|omega|exact kE|kernel_rfl)))
    refine kBS (by simp[kF]) rfl rfl (by omega) (by omega) ?_
    simp only[aR,seval,kA,kB,kD,beq_self_eq_true]
    (repeat (with_reducible refine And.intro ?_ ?_;focus (first|omega|exact kE|kernel_rfl)))
    refine z8 kCE (by simp[kF,kM]) none rfl (by simp[tsA,dnL,dn]) rfl (r:=.v (.pointer none)) rfl (fun _ _ _ hp=>⟨hp.1,hp.2.1,hp.2.2⟩) ?_
    simp only[aR,seval,kA,kB,kD]
    (repeat (with_reducible refine And.intro ?_ ?_;focus (first|omega|exact kE|kernel_rfl)))
    refine jJ (by simp[kF,kM]) ?_
    simp only[aR,seval,kA,kB,kD,kI,List.length_nil]
    (repeat (with_reducible refine And.intro ?_ ?_;focus (first|omega|exact kE|kernel_rfl)))
    refine z8 kCj (by simp[kF,kM]) 0 rfl (by simp[tsA,dnL,dn]) rfl (r:=.sl 0 1 []) rfl (fun _ _ _ hp=>⟨hp.1,hp.2.1,hp.2.2⟩) ?_
    simp only[aR,seval,kA,kB,kD]
    (repeat (with_reducible refine And.intro ?_ ?_;focus (first|omega|exact kE|kernel_rfl)))
    refine kCm hΓ (by simp[kF,kM]) (by simp[kF,kM]) (by simp[kF,kM]) (fun nl' fm' lv'=>?_)
    simp only[aR,seval,kA,kB,kD]
    (repeat (with_reducible refine And.intro ?_ ?_;focus (first|omega|exact kE|kernel_rfl)))
    refine kC8 hΓ (by simp[kF,kM]) (by simp[kF,kM]) (by simp[kF,kM]) ?_
    simp only[aR,seval,kA,kB,kD]
    (repeat (with_reducible refine And.intro ?_ ?_;focus (first|omega|exact kE|kernel_rfl)))
    refine kAA (by simp[kF]) ?_
    simp only[aR,seval,kA,kB,]
end Go.Proofs
end
-- EUeR
section
namespace Go.Proofs
open Go Go.Rw Go.RowKit Go.ChangeShapes Go.WideShapes Go.ChangeAt Go.Deep
set_option maxRecDepth 100000
theorem i64_rng {n:Int} (h:(Lit.int .i64 n).wf=true):-9223372036854775808≤n∧n≤9223372036854775807:=by
 simp[Lit.wf,IntKind.min,IntKind.max,IntKind.signed,IntKind.bits]at h;omega
abbrev tyC:Ty:=.st [.int .i64,.int .i64,.str]
abbrev tyA:Ty:=.st [.int .i64,.int .i64,.int .i64,.str,.bool,.slc tyC]
theorem fit_comp {ds:List AV} (h:Fits tyC ds):∃ c:Cp,kD8 tyC ds=cA c∧(-9223372036854775808≤c.n∧c.n≤9223372036854775807)∧c.t.length≤9223372036854775807:=by
 simp only[tyC,Fits,FitsL]at h
 obtain ⟨a,b,rfl,⟨k,rfl,hk⟩,a2,b2,rfl,⟨n,rfl,hn⟩,a3,b3,rfl,⟨t,rfl,ht⟩,rfl⟩:=h
 exact ⟨⟨k,n,t⟩,rfl,i64_rng hn,ht⟩
theorem fit_comps {cs:List AV} (h:Fits (.slc tyC) cs):∃ l:List Cp,cs=[.sl 0 3 (qN l)]∧kFd l:=by
 rw[Fits]at h
 obtain ⟨xs,rfl,h1,h2⟩:=h
 obtain ⟨l,rfl,h3⟩:=fits_map cA (fun c=>(-9223372036854775808≤c.n∧c.n≤9223372036854775807)∧c.t.length≤9223372036854775807) (fun ds hd=>fit_comp hd) xs h2
 exact ⟨l,rfl,by simpa using h1,h3⟩
theorem fit_act {ds:List AV} (h:Fits tyA ds):∃ a:Ac,kD8 tyA ds=aA a∧a.nm.length≤9223372036854775807∧kFd a.ops:=by
 simp only[tyA,Fits.eq_5,FitsL]at h
 obtain ⟨a,b,rfl,h1,a2,b2,rfl,h2,a3,b3,rfl,h3,a4,b4,rfl,h4,a5,b5,rfl,h5,a6,b6,rfl,h6,rfl⟩:=h
 obtain ⟨l,rfl,hl⟩:=fit_comps h6
 simp only[Fits]at h1 h2 h3 h4 h5
 obtain ⟨k,rfl,_⟩:=h1
 obtain ⟨id,rfl,_⟩:=h2
 obtain ⟨par,rfl,_⟩:=h3
 obtain ⟨nm,rfl,hn⟩:=h4
 obtain ⟨dir,rfl⟩:=h5
 exact ⟨⟨k,id,par,nm,dir,l⟩,rfl,hn,hl⟩
section
variable {P:Program} {W:World} {H:Type} {enc:TypeId×Value→H}
end
end Go.Proofs
end
-- EUk11
section
namespace Go.Proofs
open Go Go.Rw
set_option maxRecDepth 100000
structure Cm where
 rev:Int
 client:Int
 seq:Int
 acs:List Ac
 deriving Inhabited,DecidableEq
end Go.Proofs
end
-- EUk13
section
namespace Go.Proofs
open Go Go.Rw
set_option maxRecDepth 100000
end Go.Proofs
end
-- EUkR
section
namespace Go.Proofs
open Go Go.Rw Go.RowKit Go.ChangeShapes Go.WideShapes Go.ChangeAt Go.Deep
set_option maxRecDepth 100000
abbrev tyN:Ty:=.st [.int .i64,.int .i64,.str,.bool,.str]
theorem fit_node {ds:List AV} (h:Fits tyN ds):∃ a:Nd,kD8 tyN ds=nA a∧a.nm.length≤9223372036854775807∧a.text.length≤9223372036854775807:=by
 simp only[tyN,Fits.eq_5,FitsL]at h
 obtain ⟨a,b,rfl,h1,a2,b2,rfl,h2,a3,b3,rfl,h3,a4,b4,rfl,h4,a5,b5,rfl,h5,rfl⟩:=h
 simp only[Fits]at h1 h2 h3 h4 h5
 obtain ⟨id,rfl,_⟩:=h1
 obtain ⟨par,rfl,_⟩:=h2
 obtain ⟨nm,rfl,hn⟩:=h3
 obtain ⟨dir,rfl⟩:=h4
 obtain ⟨tx,rfl,ht⟩:=h5
 exact ⟨⟨id,par,nm,dir,tx⟩,rfl,hn,ht⟩
theorem open_nodes {P:Program} {W:World} {H:Type} {enc:TypeId×Value→H} {t:TypeId} {v:Value} {d:DataW H} {p:List MemPlace} (ht:isTy P t (.slc tyN)=true) (hv:∃ A n c,v = .slice A n c) (h:DataW.Trod enc P W 0 (fun _=>true) true t v d p) :
    ∃ l:List Nd,l.length≤9223372036854775807∧(∀ a∈l,a.nm.length≤9223372036854775807∧a.text.length≤9223372036854775807)∧VR (Gin (Fw W) none) W v (.sl 0 5 (kW l)) :=
 arg_slc nA _ (fun ds hd=>fit_node hd) ht hv h
theorem open_act {P:Program} {W:World} {H:Type} {enc:TypeId×Value→H} {t:TypeId} {cs:Array Value} {d:DataW H} {p:List MemPlace} (ht:isTy P t tyA=true) (h:DataW.Trod enc P W 0 (fun _=>true) true t (.agg cs) d p) :
    ∃ a:Ac,a.nm.length≤9223372036854775807∧kFd a.ops∧VR (Gin (Fw W) none) W (.agg cs) (aA a):=by
 obtain ⟨bs,h1,h2⟩:=open_arg ht h
 obtain ⟨a,e,hn,hc⟩:=fit_act h1
 refine ⟨a,hn,hc,?_⟩
 rw[← e]
 have hs:cs.size=bs.length:=by have:=h2.1;simpa [Value.cells] using this
 refine VR.agg cs bs hs fun k hk=>?_
 have g:=(h2.2 k hk).2
 have e2:(Value.agg cs).cells.toList.getD k undef=cs.getD k default:=by
  show cs.toList.getD k undef=cs.getD k default
  have hk2:k < cs.size:=by omega
  rw[List.getD_eq_getElem?_getD,Array.getElem?_toList,Array.getElem?_eq_getElem hk2]
  simp[Array.getD,hk2]
 rw[e2]at g
 exact g
end Go.Proofs
end
-- EUr1
section
namespace Go.Proofs.YtfhipjafkdembaaGreatDoor
open Go Go.ChangeShapes Go.WideShapes Go.ChangeAt Go.RowKit Go.Rw Go.Lib
open Go.ChangeMaps (open_string shut_string)
set_option maxRecDepth 100000
theorem own:ownKnob Tryz.prog.godebug=none:=by kernel_rfl
theorem laidOut:laidOutB Tryz.prog=true:=by kernel_rfl
noncomputable def kCs (os:Os):World :=
 let w0:=World.holding Tryz.prog os ⟨#[],#[],[]⟩
 let put (h:Array Obj) (g:Nat) (cs:Array Value):Array Obj:=h.modify g fun
  | .cells _ t frozen=>.cells cs t frozen
  | o=>o
 let h1:=put w0.heap 0 (Lib.firstTab.map fun z=>Value.int .u8 z).toArray
 let h2:=put h1 1 ((List.range 16).flatMap fun i=>[Value.int .u8 (Lib.accLo i),Value.int .u8 (Lib.accHi i)]).toArray
 { w0 with heap:=h2 }
abbrev laidL : List (String × DataW Unit) := [("unicode/utf8.acceptRanges", Lib.acceptData), ("unicode/utf8.first", Lib.firstData)]
theorem laid_met (os:Os) (args:Array Value):laidMet Tryz.prog laidL ((kCs os).forCall (fun _ _=>0) ⟨#[],args,[]⟩).memory :=
 (LaidIn.of_run (l:=laidL) [1,0] 8 (by kernel_rfl) (by kernel_rfl) (by kernel_rfl) (by kernel_rfl)).met
theorem tabs_of {W:World} (hL:laidMet Tryz.prog laidL W):TabOk W (k8 none):=by
 have htab:Lib.Utf8Tabs 0 1 W :=
  utf8Tabs_of_readsT (U8Types.of196 Tryz.lays196) ⟨by kernel_rfl,by kernel_rfl,by kernel_rfl,by kernel_rfl,by kernel_rfl,by kernel_rfl,by kernel_rfl⟩ (Lib.laidMet.reads hL (.tail _ (.head _))) (Lib.laidMet.reads hL (.head _))
 refine ⟨htab,fun g hg=>⟨?_,by rintro ⟨k,hk,_⟩;cases hk⟩⟩
 have key:∀ g i v,W.cell? ⟨g,i,none⟩=some v→g < W.heap.size:=fun g i v h=>Fw_lt (Nat.lt_of_le_of_lt (Nat.zero_le i) (Fw_cell h))
 rcases hg with rfl|rfl
 ·exact key 0 _ _ (htab.1 0 (by omega))
 ·exact key 1 _ _ (htab.2 0 (by omega)).1
end Go.Proofs.YtfhipjafkdembaaGreatDoor
end
