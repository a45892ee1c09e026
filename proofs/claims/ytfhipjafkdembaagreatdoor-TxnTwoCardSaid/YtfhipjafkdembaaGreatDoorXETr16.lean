/-
 law14: small;TxnAsks answers true. TxnAsks answers true. Is a tree qX: just so. TxnDoes answers true. Two transactions one behind the other;what a transaction does not touch. Plain. Trees held against each other;TxnTwo answers true. Acts,and what was done,given: opened. A transaction behind commits. How much a message is,where it bears commits alone. A tree given,commits given: opened. From the laws' functions to their rows: the tables as they are laid;a world for the witness.
-/
import Derived.Test.YtfhipjafkdembaaGreatDoorXETr11
import Derived.Test.YtfhipjafkdembaaGreatDoorXEAw7
import Derived.Test.YtfhipjafkdembaaGreatDoorXESh
import Derived.Test.YtfhipjafkdembaaGreatDoorRwI
import Derived.Test.YtfhipjafkdembaaGreatDoorRwG
import Derived.Test.YtfhipjafkdembaaGreatDoorCards
import Derived.Test.YtfhipjafkdembaaGreatDoorTie
import Derived.Lib.LaidIn
import Derived.Lib.LaidU8T
import Derived.Deep.DeepHandedRow
import Derived.Deep.DeepWitnessRowRef
import Derived.ProofKit
import Derived.OpenShut
import Derived.SizedLaws
import Derived.SevenTiedAt
set_option linter.unusedSimpArgs false
set_option linter.unusedVariables false
set_option linter.defProp false
set_option linter.unusedSectionVars false

-- ETr16
section
namespace Go.Proofs
open Go Go.Rw
set_option maxRecDepth 100000
def kCe (t:List Nd) (l:List Ac):Bool:=decide (nF 4000 0 t≤4000∧wF 4000 0 (wA l)≤4000∧l.length≤60)
abbrev kBm:Con where
 ι:=GivenN×GivenA
 args:=fun p=>[.sl 0 5 (k5 p.1.1),.sl 0 6 (acts p.2.1)]
 post:=fun p r=>r = .v (.bool (kCe p.1.1 p.2.1))
 plain:=true
theorem small14_good:Rw.Good Tryz.prog 36 kBm:=by
 have hΓ:kM Tryz.prog [(49,kC4),(50,actsCon)]:=(kI wnodes_good (kI acts_good kJ))
 refine kY (nn:=18) hΓ Tryz.func36 (by kernel_rfl) rfl (show Tryz.f36.results.toList=[.tmp 4] from rfl) (fun _=>rfl) (fun x=>by simp[AV.erL,AV.er,kBE,kA8]) ?_
 rintro ⟨⟨t,ht,htc⟩,⟨l,hl,hlc⟩⟩
 simp only[aR,seval]
 refine call_wnodes (by simp[kH]) rfl ht htc (by omega) ?_
 by_cases h1:nF 4000 0 t≤4000
 case neg=>simp only[aR,seval,h1,kCe,false_and]
 simp only[aR,seval,h1]
 refine call_acts (by simp[kH]) rfl hl hlc (by omega) ?_
 by_cases h2:wF 4000 0 (wA l)≤4000
 case neg=>simp only[aR,seval,h1,h2,kCe,false_and,true_and]
 simp only[aR,seval,h1,h2,k6]
 unfold kCe
 exact decide_eq_decide.2 ⟨fun h=>⟨h1,h2,by omega⟩,fun h=>by omega⟩
theorem kDa {Γ:Env} (hf:Γ.get 36=some kBm) {σ:AS} {dr:Bool} {t:List Nd} {l:List Ac} {xs ys:List AV} {t1 t2:Nat} {d:Option Nat} {K:AS→Prop} (hx:xs=k5 t) (hy:ys=acts l) (h1:t.length≤9223372036854775807) (h2:∀ a∈t,a.nm.length≤9223372036854775807∧a.text.length≤9223372036854775807) (h3:l.length≤9223372036854775807) (h4:∀ a∈l,a.nm.length≤9223372036854775807∧wideC a.ops)
    (hk:cont σ d (.v (.bool (kCe t l))) K):kR Tryz.prog Γ dr σ 36 [.sl t1 5 xs,.sl t2 6 ys] d K:=by
 subst hx hy
 exact kO (C:=kBm) (i:=(⟨t,h1,h2⟩,⟨l,h3,h4⟩)) hf rfl rfl rfl (by simp[AV.erL,AV.er]) (fun _ h=>h) rfl hk
theorem kFf {t:List Nd} {l:List Ac} (h:kCe t l=true) (h4:∀ a∈l,a.nm.length≤9223372036854775807∧wideC a.ops):l.length≤60∧∀ a∈l,okA a:=by
 obtain ⟨_,h1,h2⟩:=of_decide_eq_true h
 exact ⟨h2,(acts_okA (by omega) h4 h1).2⟩
end Go.Proofs
end
-- ETr17
section
namespace Go.Proofs
open Go Go.Rw
set_option maxRecDepth 100000
theorem qT {Γ:Env} (hf:Γ.get 32=some kEH) {n:Nat} {t:Nat→AV} {hd:Nat→Nat→AV} {nh nl:Nat} {h:Nat→Option AO} {fm:Nat→Nat} {lv:Nat→Option (Nat×Nat)} {mu:Bool} {dr:Bool} {d:Option Nat} {K:AS→Prop}
    (hk:cont ⟨n,t,hd,⟨nh,h,nl,fm,lv,mu⟩⟩ d (.v (.bool true)) K):kR Tryz.prog Γ dr ⟨n,t,hd,⟨nh,h,nl,fm,lv,mu⟩⟩ 32 [] d K :=
 kBc (C:=kEH) (i:=()) (r:=.v (.bool true)) hf rfl rfl (by simp[AV.erL]) rfl (fun _ h=>h) (by simp only[AV.er];exact hk)
theorem j7 {Γ:Env} {f:Nat} (hf:Γ.get f=some jR) {σ:AS} {dr:Bool} {l:List Ac} {t1:Nat} {ys:List AV} {d:Option Nat} {K:AS→Prop} (hy:ys=acts l) (hl:l.length≤1000000) (ho:∀ a∈l,okA a)
    (hk:cont σ d (.v (.int .i64 (txnE l))) K):kR Tryz.prog Γ dr σ f [.sl t1 6 ys] d K:=by
 subst hy
 exact kO (C:=jR) (i:=⟨l,hl,ho⟩) hf rfl rfl rfl (by simp[AV.erL,AV.er,kA8]) (fun _ h=>h) rfl hk
end Go.Proofs
end
-- ETr18
section
namespace Go.Proofs
open Go Go.Rw
open _root_.Nat renaming reduceAdd → N0, reduceSub → N1, reduceMul → N2, reduceLT → N3, reduceLeDiff → N4, reduceEqDiff → N5
open _root_.Int renaming reduceNeg → Z0, reduceAdd → Z1, reduceSub → Z2, reduceMul → Z3, reduceGT → Z4, reduceGE → Z5, reduceLT → Z6, reduceLE → Z7, reduceEq → Z8, reduceNe → Z9, reduceToNat → Z10, cast_ofNat_Int → Zc
set_option maxRecDepth 100000
structure chkN (l:List Nd) (x:Nd):Prop where
 id:1≤x.id∧x.id≤1099511627776
 nm:qE x.nm=true
 kid:kid x.par x.nm l=x.id
 dir:x.dir=true→x.text=[]
 valid:(pts x.text).isSome=true
 cnt:cnt x.text≤2000
 par:x.par=0∨(ndx x.par l < l.length∧(l.getD (ndx x.par l) kA7).dir=true∧zR l x.par x.id=false)
theorem up_cyc {l:List Nd} {i:Int} {k:Nat} (h:upN l k i=i):∀ m,upN l (m * k) i=i
 | 0=>by rw [Nat.zero_mul];rfl
 | m+1=>by rw [Nat.add_mul,Nat.one_mul,kF9,up_cyc h m,h]
theorem snd_no_cyc {l:List Nd} (S:sndN l) {x:Nd} (hx:x∈l) {k:Nat} (h:upN l (k+1) x.id=x.id):False:=by
 obtain ⟨m,hm⟩:=S.rt x hx
 have h1:=up_cyc h m
 have h2:=up_stay S hm (k:=m * (k+1)) (by rw[Nat.mul_add];omega)
 have:=(S.node x hx).id
 omega
theorem chk_of {l:List Nd} (S:sndN l) {x:Nd} (hx:x∈l):chkN l x:=by
 have n:=S.node x hx
 have hp:∀ y∈l,1≤y.id:=fun y hy=>(S.node y hy).id.1
 refine ⟨n.id,n.nm,?_,n.dir,n.valid,n.cnt,?_⟩
 ·by_cases h1:1≤kid x.par x.nm l
  ·obtain ⟨y,hy,h2,h3,h4⟩:=kid_iff hp h1 rfl
   rw[← h4]
   exact S.sib y hy x hx h2 h3
  ·exact absurd ⟨rfl,rfl⟩ (kCn hp h1 x hx)
 ·rcases S.par x hx with h1|⟨h1,h2⟩
  ·exact .inl h1
  ·refine .inr ⟨(qI l x.par).1 h1,h2,?_⟩
   rcases Bool.eq_false_or_eq_true (zR l x.par x.id) with h3|h3
   ·exfalso
    obtain ⟨k,hk⟩:=(kA1 S (.inr h1) (by have:=n.id;omega)).1 h3
    refine snd_no_cyc S hx (k:=k) ?_
    rw[upN,show pf l x.id=x.par by unfold pf;rw[gN_self S.srt hx],hk]
   ·exact h3
theorem in_miss {l:List Nd} {top:Int}:∀ (n:Nat) {i:Int},inN l top n i=false→∃ k,hasN l (upN l k i)=false
 | 0,i,h=>by rw [inN] at h;cases h
 | n+1,i,h=>by
   rw[inN]at h
   split at h
   ·cases h
   ·split at h
    ·obtain ⟨k,hk⟩:=in_miss n h
     exact ⟨k+1,hk⟩
    ·rename_i h2
     refine ⟨0,?_⟩
     rcases Bool.eq_false_or_eq_true (hasN l i) with h3|h3
     ·exact absurd ((qI l i).1 h3) h2
     ·exact h3
theorem snd_of {l:List Nd} (hs:srtN l) (hl:l.length≤100) (ht:totN l≤10000) (hc:∀ x∈l,chkN l x):sndN l:=by
 have hpar:∀ x∈l,x.par=0∨(hasN l x.par=true∧(gN l x.par).dir=true):=fun x hx=>by
  rcases (hc x hx).par with h1|h1
  ·exact .inl h1
  ·exact .inr ⟨(qI l x.par).2 h1.1,h1.2.1⟩
 have hin:∀ i,inT l (pf l i):=fun i=>by
  rcases Bool.eq_false_or_eq_true (hasN l i) with h|h
  ·rcases hpar _ (kBO h).1 with h3|h3
   ·exact .inl h3
   ·exact .inr h3.1
  ·exact .inl (pf_no h)
 have hup:∀ k i,inT l i→inT l (upN l k i):=fun k=>by
  induction k with
  | zero=>exact fun i h=>h
  | succ k ih=>exact fun i h=>ih _ (hin i)
 refine ⟨hs,hl,fun x hx=>?_,ht,fun x hx y hy h1 h2=>?_,hpar,fun x hx=>?_⟩
 ·have:=hc x hx
  exact ⟨this.id,this.nm,this.dir,this.valid,this.cnt⟩
 ·rw[← (hc x hx).kid,← (hc y hy).kid,h1,h2]
 ·have hpx:pf l x.id=x.par:=by unfold pf;rw[gN_self hs hx]
  rcases (hc x hx).par with h1|⟨h1,_,h3⟩
  ·exact ⟨1,by rw[upN,hpx];exact h1⟩
  ·obtain ⟨k,hk⟩:=in_miss _ h3
   have h4:=hup k x.par (.inr ((qI l x.par).2 h1))
   rcases h4 with h4|h4
   ·exact ⟨k+1,by rw[upN,hpx];exact h4⟩
   ·rw[hk]at h4;cases h4
open Classical in
noncomputable def sndB (l:List Nd):Bool:=decide (sndN l)
theorem zF {l:List Nd} (h:¬ sndN l):sndB l=false:=by unfold sndB;simp[h]
theorem yes_snd {l:List Nd} (h:sndN l):sndB l=true:=by unfold sndB;simp[h]
abbrev kFB:Con where
 ι:={ l:List Nd // l.length≤1000000∧∀ x∈l,x.nm.length≤1099511627776∧x.text.length≤1099511627776 }
 args:=fun p=>[.sl 0 5 (k5 p.1)]
 post:=fun p r=>r = .v (.bool (sndB p.1))
 plain:=true
set_option maxHeartbeats 4000000 in
theorem xsound_good:Rw.Good Tryz.prog 16 kFB:=by
 have hΓ:kM Tryz.prog [(31,kBC),(54,kidCon),(55,jP),(56,kCT),(48,kCl),(57,kCf)]:=(kI rname_good (kI kid_good (kI kEb (kI rcount_good (kI kFn (kI within_good kJ))))))
 refine kY (nn:=119) hΓ Tryz.func16 (by kernel_rfl) rfl (show Tryz.f16.results.toList=[.tmp 2] from rfl) (fun _=>rfl) (fun x=>by simp[AV.erL,AV.er,kBE]) ?_
 rintro ⟨l,hl,ht⟩
 by_cases h0:(l.length:Int) > 100
 ·simp only[aR,seval,kL,h0]
  rw[zF fun S=>by have:=S.len;omega]
 simp only[aR,seval,kL,h0]
 obtain ⟨St,hSt⟩:∃ St:{ p:Int×Nat // p.2≤l.length∧(0≤p.1∧p.1≤10000)∧srtN (l.take p.2)∧p.1=totN (l.take p.2)∧∀ x∈l.take p.2,chkN l x }→AS,∀ p,St p=AS.of 119 [(0,.sl 0 5 (k5 l)),(3,.v (.int .i64 p.1.1)),(4,.v (.int .i64 p.1.2))] [] []:=⟨_,fun _=>rfl⟩
 refine qK hΓ St (fun p=>l.length - p.1.2) ⟨(0,0),by omega,by simp only;omega,by simp[srtN],by simp[totN],by simp⟩ (by rw[hSt];refine kQ [] [] ?_;simp only[aR,seval]<;>((repeat' apply And.intro)<;>first|rfl|omega|trivial)) ?_
 rintro ⟨⟨s,i⟩,hi,hs,hb,hst,hck⟩
 simp only at hi hs hb hst hck
 rw[hSt]
 simp only
 simp only[aR,seval,kL]
 (with_reducible first|refine kE (fun h=>?_) (fun h=>?_)|refine kG (fun h=>?_) (fun h=>?_))
 ·have hlt:i < l.length:=by omega
  have hci:=ht l[i] (List.getElem_mem hlt)
  have e1:=k9 l hlt
  have hsn:=srt_snoc hlt hb
  have N:sndN l→chkN l l[i]:=fun S=>chk_of S (List.getElem_mem hlt)
  have N2:sndN l→totN (l.take i)+cnt l[i].text≤10000:=fun S=>by
   have:=S.tot
   rw[← List.take_append_drop i l,kBU,List.drop_eq_getElem_cons hlt,totN]at this
   omega
  have N3:∀ k,∀ hk:k+1=i,sndN l→(l[k]'(by omega)).id < l[i].id:=fun k hk S=>by
   have:=S.srt
   unfold srtN at this
   rw[List.pairwise_map]at this
   exact List.pairwise_iff_getElem.1 this k i (by omega) hlt (by omega)
  have nx:chkN l l[i]→∀ x∈l.take (i+1),chkN l x:=fun hx x hm=>by
   rw[List.take_succ_eq_append_getElem hlt,List.mem_append,List.mem_singleton]at hm
   rcases hm with hm|rfl
   ·exact hck x hm
   ·exact hx
  have tx1:(totN (l.take (i+1)):Int)=totN (l.take i)+cnt l[i].text:=by
   rw[List.take_succ_eq_append_getElem hlt,kBU];simp[totN]
  generalize l[i]=x at *
  obtain ⟨id,par,nm,dir,tx⟩:=x
  obtain ⟨hn,ho⟩:=hci
  simp only at hn ho e1 hsn N2 N3 tx1
  simp only[aR,seval,h,e1,kL,nA]
  (repeat (with_reducible refine And.intro ?_ ?_;focus (first|omega|exact kD|kernel_rfl)))
  by_cases c1:id < 1
  ·simp only[aR,seval,c1]
   (repeat (with_reducible refine And.intro ?_ ?_;focus (first|omega|exact kD|kernel_rfl)))
   rw[zF fun S=>by have:=(N S).id;simp only at this;omega]
  by_cases c2:id > 1099511627776
  ·simp only[aR,seval,c1,c2]
   (repeat (with_reducible refine And.intro ?_ ?_;focus (first|omega|exact kD|kernel_rfl)))
   rw[zF fun S=>by have:=(N S).id;simp only at this;omega]
  cases i with
  | zero =>
    have srt1:srtN (l.take 1):=hsn fun k hk=>by omega
    simp only[aR,seval,c1,c2]
    (repeat (with_reducible refine And.intro ?_ ?_;focus (first|omega|exact kD|kernel_rfl)))
    refine kAh (by simp[kH]) hn ?_
    cases hnm:qE nm
    ·simp only[aR,seval,hnm]
     (repeat (with_reducible refine And.intro ?_ ?_;focus (first|omega|exact kD|kernel_rfl)))
     rw[zF fun S=>by have:=(N S).nm;simp only at this;rw[hnm]at this;cases this]
    simp only[aR,seval,hnm]
    (repeat (with_reducible refine And.intro ?_ ?_;focus (first|omega|exact kD|kernel_rfl)))
    refine call_kid (by simp[kH]) rfl (by omega) ?_
    by_cases c4:kid par nm l=id
    case neg =>
     simp only[aR,seval,c4]
     (repeat (with_reducible refine And.intro ?_ ?_;focus (first|omega|exact kD|kernel_rfl)))
     rw[zF fun S=>c4 (N S).kid]
    by_cases c5:dir=true∧tx≠[]
    ·obtain ⟨rfl,c6⟩:=c5
     simp only[aR,seval,c4,c6]
     (repeat (with_reducible refine And.intro ?_ ?_;focus (first|omega|exact kD|kernel_rfl)))
     rw[zF fun S=>c6 ((N S).dir rfl)]
    have more:∀ Z:Prop,(dir=false→Z)→(dir=true→tx=[]→Z)→Z:=fun Z f g=>by
     cases dir
     ·exact f rfl
     ·exact g rfl (Decidable.not_not.1 fun hh=>c5 ⟨rfl,hh⟩)
    have hcl:cnt tx≤tx.length:=by rw[kBK];exact cpts_len tx
    refine more _ (fun hd=>?_) (fun hd he=>?_)
    all_goals
     subst hd
     by_cases c7:(tx.length:Int) > 8000
     ·first
        | simp only [aR,seval,c4,c7,eq_true he]
          (repeat (with_reducible refine And.intro ?_ ?_;focus (first|omega|exact kD|kernel_rfl)))
          rw[zF fun S=>by have h1:=kBT (N S).valid;have h2:=(N S).cnt;simp only at h1 h2;omega]
        | simp only [aR,seval,c4,c7]
          (repeat (with_reducible refine And.intro ?_ ?_;focus (first|omega|exact kD|kernel_rfl)))
          rw[zF fun S=>by have h1:=kBT (N S).valid;have h2:=(N S).cnt;simp only at h1 h2;omega]
     first
      | simp only [aR,seval,c4,c7,eq_true he]
        (repeat (with_reducible refine And.intro ?_ ?_;focus (first|omega|exact kD|kernel_rfl)))
      | simp only [aR,seval,c4,c7]
        (repeat (with_reducible refine And.intro ?_ ?_;focus (first|omega|exact kD|kernel_rfl)))
     refine kBG (by simp[kH]) (by omega) ?_
     cases hv:(pts tx).isSome
     ·simp only[aR,seval,hv]
      (repeat (with_reducible refine And.intro ?_ ?_;focus (first|omega|exact kD|kernel_rfl)))
      rw[zF fun S=>by have:=(N S).valid;simp only at this;rw[hv]at this;cases this]
     simp only[aR,seval,hv]
     (repeat (with_reducible refine And.intro ?_ ?_;focus (first|omega|exact kD|kernel_rfl)))
     refine kEu (by simp[kH]) (by omega) ?_
     by_cases c8:(cnt tx:Int) > 2000
     ·simp only[aR,seval,c8]
      (repeat (with_reducible refine And.intro ?_ ?_;focus (first|omega|exact kD|kernel_rfl)))
      rw[zF fun S=>by have:=(N S).cnt;simp only at this;omega]
     by_cases c9:s+(cnt tx:Int) > 10000
     ·simp only[aR,seval,c8,c9,kC (n:=s+(cnt tx:Int)) (by omega) (by omega)]
      (repeat (with_reducible refine And.intro ?_ ?_;focus (first|omega|exact kD|kernel_rfl)))
      rw[zF fun S=>by have:=N2 S;omega]
     by_cases c10:par=0
     ·simp only[aR,seval,c8,c9,c10,kC (n:=s+(cnt tx:Int)) (by omega) (by omega),kC (n:=0+1) (by omega) (by omega)]
      (repeat (with_reducible refine And.intro ?_ ?_;focus (first|omega|exact kD|kernel_rfl)))
      have cx:=nx ⟨⟨by simp only;omega,by simp only;omega⟩,hnm,c4,fun hdd=>(by first|assumption|cases hdd),hv,by simp only;omega,.inl c10⟩
      refine kP ⟨(s+(cnt tx:Int),1),by simp only;omega,by simp only;omega,srt1,(by have h5:=tx1;(try simp only[Nat.zero_add]at h5);simp only;omega),cx⟩ (by simp only;omega) ?_
      rw[hSt];refine kQ [] [] ?_
      simp only[aR,seval]<;>((repeat' apply And.intro)<;>first|rfl|omega|trivial|(simp[kBb];done))
     simp only[aR,seval,c8,c9,c10,kC (n:=s+(cnt tx:Int)) (by omega) (by omega)]
     (repeat (with_reducible refine And.intro ?_ ?_;focus (first|omega|exact kD|kernel_rfl)))
     refine kDJ (by simp[kH]) rfl (by omega) ?_
     by_cases c11:ndx par l < l.length
     case neg =>
      simp only[aR,seval,ndI,if_neg c11]
      (repeat (with_reducible refine And.intro ?_ ?_;focus (first|omega|exact kD|kernel_rfl)))
      rw[zF fun S=>by rcases (N S).par with h1|h1;exact c10 h1;exact c11 h1.1]
     have e4:=k9 l c11
     have hg:l.getD (ndx par l) kA7=l[ndx par l]:=by rw[List.getD_eq_getElem?_getD,List.getElem?_eq_getElem c11];rfl
     generalize l[ndx par l]=y at *
     obtain ⟨yid,ypar,ynm,ydir,ytx⟩:=y
     have hnn:((ndx par l:Int) < 0)=False:=eq_false (by omega)
     cases ydir
     ·simp only[aR,seval,ndI,if_pos c11,e4,nA,hnn,kL]
      (repeat (with_reducible refine And.intro ?_ ?_;focus (first|omega|exact kD|kernel_rfl)))
      rw[zF fun S=>by rcases (N S).par with h1|h1;exact c10 h1;have:=h1.2.1;simp only at this;rw[hg]at this;cases this]
     simp only[aR,seval,ndI,if_pos c11,e4,nA,hnn,kL]
     (repeat (with_reducible refine And.intro ?_ ?_;focus (first|omega|exact kD|kernel_rfl)))
     refine kFE (by simp[kH]) rfl (by omega) ?_
     cases hw:zR l par id
     case true =>
      simp only[aR,seval]
      (repeat (with_reducible refine And.intro ?_ ?_;focus (first|omega|exact kD|kernel_rfl)))
      rw[zF fun S=>by rcases (N S).par with h1|h1;exact c10 h1;have:=h1.2.2;simp only at this;rw[hw]at this;cases this]
     simp only[aR,seval,kC (n:=0+1) (by omega) (by omega)]
     (repeat (with_reducible refine And.intro ?_ ?_;focus (first|omega|exact kD|kernel_rfl)))
     have cx:=nx ⟨⟨by simp only;omega,by simp only;omega⟩,hnm,c4,fun hdd=>(by first|assumption|cases hdd),hv,by simp only;omega,.inr ⟨c11,by simp only;rw[hg],hw⟩⟩
     refine kP ⟨(s+(cnt tx:Int),1),by simp only;omega,by simp only;omega,srt1,(by have h5:=tx1;(try simp only[Nat.zero_add]at h5);simp only;omega),cx⟩ (by simp only;omega) ?_
     rw[hSt];refine kQ [] [] ?_
     simp only[aR,seval]<;>((repeat' apply And.intro)<;>first|rfl|omega|trivial|(simp[kBb];done))
  | succ k =>
    have hkt:k < l.length:=by omega
    have e3:=k9 l hkt
    have hw:IntKind.wrap .i64 (((k+1:Nat):Int) - 1)=k:=by rw[kC (by omega) (by omega)];omega
    have hp:((k+1:Nat):Int) > 0:=by omega
    have srt0:l[k].id < id→srtN (l.take (k+1+1)):=fun hlt2=>hsn fun k2 hk2=>by
     have:k2=k:=by omega
     subst this;exact hlt2
    clear hsn
    have N4:=N3 k rfl
    clear N3
    generalize l[k]=z at *
    obtain ⟨zid,zpar,znm,zdir,ztx⟩:=z
    simp only at srt0 N4
    by_cases c3:zid ≥ id
    ·simp only[aR,seval,c1,c2,hw,hp,e3,nA,c3,kL]
     (repeat (with_reducible refine And.intro ?_ ?_;focus (first|omega|exact kD|kernel_rfl)))
     rw[zF fun S=>by have:=N4 S;omega]
    have srt1:=srt0 (by omega)
    simp only[aR,seval,c1,c2,hw,hp,e3,nA,c3,kL]
    (repeat (with_reducible refine And.intro ?_ ?_;focus (first|omega|exact kD|kernel_rfl)))
    refine kAh (by simp[kH]) hn ?_
    cases hnm:qE nm
    ·simp only[aR,seval,hnm]
     (repeat (with_reducible refine And.intro ?_ ?_;focus (first|omega|exact kD|kernel_rfl)))
     rw[zF fun S=>by have:=(N S).nm;simp only at this;rw[hnm]at this;cases this]
    simp only[aR,seval,hnm]
    (repeat (with_reducible refine And.intro ?_ ?_;focus (first|omega|exact kD|kernel_rfl)))
    refine call_kid (by simp[kH]) rfl (by omega) ?_
    by_cases c4:kid par nm l=id
    case neg =>
     simp only[aR,seval,c4]
     (repeat (with_reducible refine And.intro ?_ ?_;focus (first|omega|exact kD|kernel_rfl)))
     rw[zF fun S=>c4 (N S).kid]
    by_cases c5:dir=true∧tx≠[]
    ·obtain ⟨rfl,c6⟩:=c5
     simp only[aR,seval,c4,c6]
     (repeat (with_reducible refine And.intro ?_ ?_;focus (first|omega|exact kD|kernel_rfl)))
     rw[zF fun S=>c6 ((N S).dir rfl)]
    have more:∀ Z:Prop,(dir=false→Z)→(dir=true→tx=[]→Z)→Z:=fun Z f g=>by
     cases dir
     ·exact f rfl
     ·exact g rfl (Decidable.not_not.1 fun hh=>c5 ⟨rfl,hh⟩)
    have hcl:cnt tx≤tx.length:=by rw[kBK];exact cpts_len tx
    refine more _ (fun hd=>?_) (fun hd he=>?_)
    all_goals
     subst hd
     by_cases c7:(tx.length:Int) > 8000
     ·first
        | simp only [aR,seval,c4,c7,eq_true he]
          (repeat (with_reducible refine And.intro ?_ ?_;focus (first|omega|exact kD|kernel_rfl)))
          rw[zF fun S=>by have h1:=kBT (N S).valid;have h2:=(N S).cnt;simp only at h1 h2;omega]
        | simp only [aR,seval,c4,c7]
          (repeat (with_reducible refine And.intro ?_ ?_;focus (first|omega|exact kD|kernel_rfl)))
          rw[zF fun S=>by have h1:=kBT (N S).valid;have h2:=(N S).cnt;simp only at h1 h2;omega]
     first
      | simp only [aR,seval,c4,c7,eq_true he]
        (repeat (with_reducible refine And.intro ?_ ?_;focus (first|omega|exact kD|kernel_rfl)))
      | simp only [aR,seval,c4,c7]
        (repeat (with_reducible refine And.intro ?_ ?_;focus (first|omega|exact kD|kernel_rfl)))
     refine kBG (by simp[kH]) (by omega) ?_
     cases hv:(pts tx).isSome
     ·simp only[aR,seval,hv]
      (repeat (with_reducible refine And.intro ?_ ?_;focus (first|omega|exact kD|kernel_rfl)))
      rw[zF fun S=>by have:=(N S).valid;simp only at this;rw[hv]at this;cases this]
     simp only[aR,seval,hv]
     (repeat (with_reducible refine And.intro ?_ ?_;focus (first|omega|exact kD|kernel_rfl)))
     refine kEu (by simp[kH]) (by omega) ?_
     by_cases c8:(cnt tx:Int) > 2000
     ·simp only[aR,seval,c8]
      (repeat (with_reducible refine And.intro ?_ ?_;focus (first|omega|exact kD|kernel_rfl)))
      rw[zF fun S=>by have:=(N S).cnt;simp only at this;omega]
     by_cases c9:s+(cnt tx:Int) > 10000
     ·simp only[aR,seval,c8,c9,kC (n:=s+(cnt tx:Int)) (by omega) (by omega)]
      (repeat (with_reducible refine And.intro ?_ ?_;focus (first|omega|exact kD|kernel_rfl)))
      rw[zF fun S=>by have:=N2 S;omega]
     by_cases c10:par=0
     ·simp only[aR,seval,c8,c9,c10,kC (n:=s+(cnt tx:Int)) (by omega) (by omega),kC (n:=((k+1:Nat):Int)+1) (by omega) (by omega)]
      (repeat (with_reducible refine And.intro ?_ ?_;focus (first|omega|exact kD|kernel_rfl)))
      have cx:=nx ⟨⟨by simp only;omega,by simp only;omega⟩,hnm,c4,fun hdd=>(by first|assumption|cases hdd),hv,by simp only;omega,.inl c10⟩
      refine kP ⟨(s+(cnt tx:Int),k+1+1),by simp only;omega,by simp only;omega,srt1,(by have h5:=tx1;(try simp only[Nat.zero_add]at h5);simp only;omega),cx⟩ (by simp only;omega) ?_
      rw[hSt];refine kQ [] [] ?_
      simp only[aR,seval]<;>((repeat' apply And.intro)<;>first|rfl|omega|trivial|(simp[kBb];done))
     simp only[aR,seval,c8,c9,c10,kC (n:=s+(cnt tx:Int)) (by omega) (by omega)]
     (repeat (with_reducible refine And.intro ?_ ?_;focus (first|omega|exact kD|kernel_rfl)))
     refine kDJ (by simp[kH]) rfl (by omega) ?_
     by_cases c11:ndx par l < l.length
     case neg =>
      simp only[aR,seval,ndI,if_neg c11]
      (repeat (with_reducible refine And.intro ?_ ?_;focus (first|omega|exact kD|kernel_rfl)))
      rw[zF fun S=>by rcases (N S).par with h1|h1;exact c10 h1;exact c11 h1.1]
     have e4:=k9 l c11
     have hg:l.getD (ndx par l) kA7=l[ndx par l]:=by rw[List.getD_eq_getElem?_getD,List.getElem?_eq_getElem c11];rfl
     generalize l[ndx par l]=y at *
     obtain ⟨yid,ypar,ynm,ydir,ytx⟩:=y
     have hnn:((ndx par l:Int) < 0)=False:=eq_false (by omega)
     cases ydir
     ·simp only[aR,seval,ndI,if_pos c11,e4,nA,hnn,kL]
      (repeat (with_reducible refine And.intro ?_ ?_;focus (first|omega|exact kD|kernel_rfl)))
      rw[zF fun S=>by rcases (N S).par with h1|h1;exact c10 h1;have:=h1.2.1;simp only at this;rw[hg]at this;cases this]
     simp only[aR,seval,ndI,if_pos c11,e4,nA,hnn,kL]
     (repeat (with_reducible refine And.intro ?_ ?_;focus (first|omega|exact kD|kernel_rfl)))
     refine kFE (by simp[kH]) rfl (by omega) ?_
     cases hw:zR l par id
     case true =>
      simp only[aR,seval]
      (repeat (with_reducible refine And.intro ?_ ?_;focus (first|omega|exact kD|kernel_rfl)))
      rw[zF fun S=>by rcases (N S).par with h1|h1;exact c10 h1;have:=h1.2.2;simp only at this;rw[hw]at this;cases this]
     simp only[aR,seval,kC (n:=((k+1:Nat):Int)+1) (by omega) (by omega)]
     (repeat (with_reducible refine And.intro ?_ ?_;focus (first|omega|exact kD|kernel_rfl)))
     have cx:=nx ⟨⟨by simp only;omega,by simp only;omega⟩,hnm,c4,fun hdd=>(by first|assumption|cases hdd),hv,by simp only;omega,.inr ⟨c11,by simp only;rw[hg],hw⟩⟩
     refine kP ⟨(s+(cnt tx:Int),k+1+1),by simp only;omega,by simp only;omega,srt1,(by have h5:=tx1;(try simp only[Nat.zero_add]at h5);simp only;omega),cx⟩ (by simp only;omega) ?_
     rw[hSt];refine kQ [] [] ?_
     simp only[aR,seval]<;>((repeat' apply And.intro)<;>first|rfl|omega|trivial|(simp[kBb];done))
 ·simp only[aR,seval,h,kL]
  rw[List.take_of_length_le (by omega)]at hb hst hck
  rw[yes_snd (snd_of hb (by omega) (by omega) hck)]
end Go.Proofs
end
-- ETr23
section
namespace Go.Proofs
open Go Go.Rw
set_option maxRecDepth 100000
section
variable {Γ:Env} {n:Nat} {t:Nat→AV} {hd:Nat→Nat→AV} {d:Option Nat} {K:AS→Prop}
variable {nh nl:Nat} {h:Nat→Option AO} {fm:Nat→Nat} {lv:Nat→Option (Nat×Nat)} {mu:Bool}
theorem call_tload (hC:Γ.get 15=none) {l:List Nd} {xs:List AV} (hx:xs=k5 l) (hl:l.length≤1000000) (ht:∀ x∈l,x.nm.length≤1099511627776∧x.text.length≤1099511627776)
    (hk1:sndN l→∀ s:TS,s.l=l→cont ⟨n,t,hd,⟨nh+2,upd (upd h nh (some (.cells [.mp (nh+1)]))) (nh+1) (some (.map s.es s.cl)),nl,fm,lv,mu⟩⟩ d (.tup [.ptr nh 0,.v (.int .i64 0)]) K)
    (hk2:¬ sndN l→cont ⟨n,t,hd,⟨nh,h,nl,fm,lv,mu⟩⟩ d (.tup [.v (.pointer none),.v (.int .i64 1)]) K):kR Tryz.prog Γ false ⟨n,t,hd,⟨nh,h,nl,fm,lv,mu⟩⟩ 15 [.sl 0 5 xs] d K:=by
 subst hx
 refine vc_obj tload_good hC ⟨l,hl,ht⟩ [] ⟨by simp,by simp[dnL,dn],by simp[dnOs],by simp[AV.tagsL,AV.tags],rfl⟩ ?_
 rintro objs lvs r ⟨rfl,hp⟩ hll
 rcases hp with ⟨hS,s,hs,rfl,rfl⟩|⟨hS,rfl,rfl⟩
 ·have:=hk1 hS s hs
  have e3:(tsO (some s)).length - ([]:List Nat).length=2:=rfl
  rw[e3]
  simp only[tsO,kAA,kAI,j9,kBs,kAJ,kAy,kFe,kBq,kBn,kD1,kAB,kAm,kAU,kAO,kAG,kEW,emb_tup,emb_v,List.length_nil,Nat.add_zero]
  exact this
 ·have:=hk2 hS
  simp only[kAI,kAU,kAO,kAG,emb_tup,kAJ,kAy,emb_v,List.length_nil,Nat.add_zero,Nat.sub_zero]
  exact this
end
theorem small_nodes {t:List Nd} {l:List Ac} (h:kCe t l=true):t.length≤4000∧∀ x∈t,x.nm.length≤4000∧x.text.length≤4000:=by
 obtain ⟨h1,_,_⟩:=of_decide_eq_true h
 obtain ⟨h2,h3⟩:=nF_le (by omega) t (Int.le_refl 0) h1
 exact ⟨by omega,fun x hx=>by have:=h3 x hx;omega⟩
end Go.Proofs
end
-- ETr24
section
namespace Go.Proofs
open Go Go.Rw
set_option maxRecDepth 100000
theorem allF_same:∀ (l:List Ac) (t:List Nd) (k m:Nat),(allF t l k).now=(allF t l m).now∧(allF t l k).e=(allF t l m).e
 | [],t,k,m=>⟨rfl,rfl⟩
 | a::l,t,k,m=>by
   unfold allF
   by_cases h:(doN t a).2≠0
   ·rw[if_pos h,if_pos h];exact ⟨rfl,rfl⟩
   ·rw[if_neg h,if_neg h];exact allF_same l _ _ _
theorem allF_ge:∀ (l:List Ac) (t:List Nd) (k:Nat),(k:Int)≤(allF t l k).n
 | [],t,k=>Int.le_refl _
 | a::l,t,k=>by
   unfold allF
   split
   ·exact Int.le_refl _
   ·have:=allF_ge l (doN t a).1 (k+1);omega
theorem allF_app:∀ (a b:List Ac) (t:List Nd) (k:Nat),(allF t a k).e=0→allF t (a++b) k=allF (allF t a k).now b (k+a.length)
 | [],b,t,k,_=>rfl
 | x::a,b,t,k,h=>by
   have e1:allF t ((x::a)++b) k=if (doN t x).2≠0 then ⟨[],k,(doN t x).2⟩ else allF (doN t x).1 (a++b) (k+1):=rfl
   have e2:allF t (x::a) k=if (doN t x).2≠0 then ⟨[],k,(doN t x).2⟩ else allF (doN t x).1 a (k+1):=rfl
   rw[e2]at h ⊢
   rw[e1]
   by_cases hx:(doN t x).2≠0
   ·rw[if_pos hx]at h;exact absurd h hx
   ·rw[if_neg hx]at h
    rw[if_neg hx,if_neg hx,allF_app a b _ _ h,List.length_cons]
    congr 1;omega
theorem allN_go {t:List Nd} {l:List Ac} (h:(allN t l).e=0):txnE l=0∧allN t l=allF t l 0:=by
 unfold allN at h ⊢
 by_cases hc:txnE l≠0
 ·rw[if_pos hc]at h;exact absurd h hc
 ·rw[if_neg hc];exact ⟨Decidable.not_not.1 hc,rfl⟩
theorem two_law {t:List Nd} {a b:List Ac} (ha:(allN t a).e=0) (hb:txnE b=0) (hab:txnE (a++b)=0) :
    (allN t (a++b)).e=(allN (allN t a).now b).e∧(allN t (a++b)).now=(allN (allN t a).now b).now∧(a.length:Int)≤(allN t (a++b)).n:=by
 obtain ⟨_,h2⟩:=allN_go ha
 rw[h2]at ha ⊢
 have e1:allN t (a++b)=allF t (a++b) 0:=by unfold allN;rw[if_neg (fun h=>h hab)]
 have e2:allN (allF t a 0).now b=allF (allF t a 0).now b 0:=by unfold allN;rw[if_neg (fun h=>h hb)]
 rw[e1,e2,allF_app a b t 0 ha,Nat.zero_add]
 obtain ⟨h3,h4⟩:=allF_same b (allF t a 0).now a.length 0
 exact ⟨h4,h3,allF_ge _ _ _⟩
end Go.Proofs
end
-- ETr25
section
namespace Go.Proofs
open Go Go.Rw
set_option maxRecDepth 100000
theorem nequal_good:Rw.Good Tryz.prog 70 kB9:=by
 have hΓ:kM Tryz.prog []:=kJ
 refine kY (nn:=26) hΓ Tryz.func70 (by kernel_rfl) rfl (show Tryz.f70.results.toList=[.tmp 4] from rfl) (fun _=>rfl) (fun x=>by simp[AV.erL,AV.er]) ?_
 rintro ⟨⟨a,ha⟩,⟨b,hb⟩⟩
 simp only[aR,seval,kL]
 by_cases hl:a.length=b.length
 case neg =>
  have hne:a≠b:=fun e=>hl (by rw[e])
  simp only[aR,seval,show ((a.length:Int)=b.length)=False from eq_false (by omega),hne]
 simp only[aR,seval,hl,kL]
 obtain ⟨St,hSt⟩:∃ St:{ i:Nat // i≤b.length∧a.take i=b.take i }→AS,∀ i,St i=AS.of 26 [(0,.sl 0 5 (k5 a)),(1,.sl 0 5 (k5 b)),(12,.v (.int .i64 b.length)),(13,.v (.int .i64 i.1))] [] []:=⟨_,fun _=>rfl⟩
 refine qK hΓ St (fun i=>b.length - i.1) ⟨0,by omega,by simp⟩ (by rw[hSt];refine kQ [] [] ?_;simp only[aR,seval]<;>((repeat' apply And.intro)<;>first|rfl|omega|trivial)) ?_
 rintro ⟨i,hi,hs⟩
 rw[hSt]
 simp only
 simp only[aR,seval,kL]
 (with_reducible first|refine kE (fun h=>?_) (fun h=>?_)|refine kG (fun h=>?_) (fun h=>?_))
 ·have hlt:i < a.length:=by omega
  have hlt2:i < b.length:=by omega
  have e1:=k9 a hlt
  have e2:=k9 b hlt2
  have ta:=List.take_succ_eq_append_getElem hlt
  have tb:=List.take_succ_eq_append_getElem hlt2
  have hab:a[i]=b[i]→a.take (i+1)=b.take (i+1):=fun he=>by rw[ta,tb,he,hs]
  have hne:¬ a[i]=b[i]→a≠b:=fun he hh=>he (by subst hh;rfl)
  generalize a[i]=x at *
  generalize b[i]=y at *
  have key:decide (¬ (x.id=y.id∧x.par=y.par∧x.nm=y.nm∧x.dir=y.dir∧x.text=y.text))=decide (¬ x=y):=by simp only[nd_eq]
  simp only[aR,seval,h,e1,e2,nA,kL,node_neq,key,hl]
  (repeat (with_reducible refine And.intro ?_ ?_;focus (first|omega|exact kD|kernel_rfl)))
  by_cases hxy:x=y
  ·simp only[aR,seval,hxy,kC (n:=(i:Int)+1) (by omega) (by omega)]
   refine kP ⟨i+1,by omega,hab hxy⟩ (by simp only;omega) ?_
   rw[hSt];refine kQ [] [] ?_
   simp only[aR,seval]<;>((repeat' apply And.intro)<;>first|rfl|omega|trivial)
  ·simp only[aR,seval,hxy,hne hxy]
 ·have e1:a.take i=a:=List.take_of_length_le (by omega)
  have e2:b.take i=b:=List.take_of_length_le (by omega)
  rw[e1,e2]at hs
  simp only[aR,seval,h,hs]
theorem call_nequal {Γ:Env} (hf:Γ.get 70=some kB9) {σ:AS} {dr:Bool} {a b:List Nd} {t1 t2:Nat} {xs ys:List AV} {d:Option Nat} {K:AS→Prop} (hx:xs=k5 a) (hy:ys=k5 b) (ha:a.length≤1099511627776) (hb:b.length≤1099511627776)
    (hk:cont σ d (.v (.bool (decide (a=b)))) K):kR Tryz.prog Γ dr σ 70 [.sl t1 5 xs,.sl t2 5 ys] d K:=by
 subst hx hy
 exact kO (C:=kB9) (i:=(⟨a,ha⟩,⟨b,hb⟩)) hf rfl rfl rfl (by simp[AV.erL,AV.er]) (fun _ h=>h) rfl hk
section
variable {Γ:Env} {n:Nat} {t:Nat→AV} {hd:Nat→Nat→AV} {d:Option Nat} {K:AS→Prop}
variable {nh nl:Nat} {h:Nat→Option AO} {fm:Nat→Nat} {lv:Nat→Option (Nat×Nat)} {mu:Bool}
theorem call_tsame (hΓ:kM Tryz.prog Γ) (hC:Γ.get 21=none) (hN:Γ.get 22=none) (hE:Γ.get 70=some kB9) {s s':TS} (hi:kFH s.l) (hi':kFH s'.l) {o ob p pb:Nat} (hT:qF h o ob s) (hT':qF h p pb s')
    (hk:cont ⟨n,t,hd,⟨nh,h,nl+1+1,upd (upd fm nl nl) (nl+1) (nl+1),upd (upd lv nl (some (s.l.length,42))) (nl+1) (some (s'.l.length,42)),mu⟩⟩ d (.v (.bool (decide (s.l=s'.l)))) K):kR Tryz.prog Γ false ⟨n,t,hd,⟨nh,h,nl,fm,lv,mu⟩⟩ 21 [.ptr o 0,.ptr p 0] d K:=by
 have hl:=hi.1
 have hl':=hi'.1
 refine jK (nn:=17) hΓ [] (by first|assumption|simp[kH,kX]) Tryz.func21 (by kernel_rfl) rfl (show Tryz.f21.results.toList=[.tmp 4] from rfl) rfl ?_
 simp only[aR,seval,kB,kA,beq_self_eq_true]
 refine jL (s:=s) (o:=o) (ob:=ob) hN hi hT ?_
 simp only[aR,seval,kB,kA,beq_self_eq_true]
 refine jL (s:=s') (o:=p) (ob:=pb) hN hi' hT' ?_
 simp only[aR,seval,kB,kA,beq_self_eq_true]
 refine call_nequal hE rfl rfl (by omega) (by omega) ?_
 simp only[aR,seval,kB,kA,]
 exact hk
end
theorem kEA (a b:List Ac):acts (a++b)=acts a++acts b:=List.map_append
abbrev two14Con:Con where
 ι:=GivenN×GivenA×GivenA
 args:=fun p=>[.sl 0 5 (k5 p.1.1),.sl 0 6 (acts p.2.1.1),.sl 0 6 (acts p.2.2.1)]
 post:=fun _ r=>r = .v (.bool true)
 plain:=true
set_option maxHeartbeats 4000000 in
theorem two14_good:Rw.Good Tryz.prog 11 two14Con:=by
 have hΓ:kM Tryz.prog [(32,kEH),(36,kBm),(16,kFB),(35,jR),(70,kB9)]:=(kI awake14_good (kI small14_good (kI xsound_good (kI kCN (kI nequal_good kJ)))))
 refine kDx (nn:=128) Tryz.func11 (by kernel_rfl) rfl (show Tryz.f11.results.toList=[.tmp 6] from rfl) (fun _=>rfl) (fun x=>by simp[AV.erL,AV.er,kBE,kA8]) ?_
 rintro ⟨⟨t,ht,htc⟩,⟨a,ha,hac⟩,⟨b,hb,hbc⟩⟩
 refine qS hΓ (Ws:=[]) _ ?_
 simp only[aR,seval,kB,kA,]
 refine kDa (by simp[kH]) rfl rfl ht htc ha hac ?_
 rcases Bool.eq_false_or_eq_true (kCe t a) with h1|h1
 case inr =>
  simp only[aR,seval,kB,kA,h1]
  refine qT (by simp[kH]) ?_
  simp only[aR,seval,kB,kA,]
 simp only[aR,seval,kB,kA,h1]
 refine kDa (t:=[]) (by simp[kH]) rfl rfl (by simp) (by simp) hb hbc ?_
 rcases Bool.eq_false_or_eq_true (kCe [] b) with h2|h2
 case inr =>
  simp only[aR,seval,kB,kA,h2]
  refine qT (by simp[kH]) ?_
  simp only[aR,seval,kB,kA,]
 obtain ⟨al,aok⟩:=kFf h1 hac
 obtain ⟨bl,bok⟩:=kFf h2 hbc
 obtain ⟨tl,tc⟩:=small_nodes h1
 simp only[aR,seval,kB,kA,h2]
 refine call_tload (by simp[kH,kX]) rfl (by omega) (fun x hx=>by have:=tc x hx;omega) ?_ ?_
 case refine_2 =>
  intro hS
  simp only[aR,seval,kB,kA,]
  (repeat (with_reducible refine And.intro ?_ ?_;focus (first|omega|exact kD|kernel_rfl)))
  refine kO (C:=kFB) (i:=⟨t,by omega,fun x hx=>by have:=tc x hx;omega⟩) (by simp[kH]) rfl rfl rfl (by simp[AV.erL,AV.er,kBE]) (fun _ h=>h) rfl ?_
  simp only
  rw[zF hS]
  simp only[aR,seval,kB,kA,]
  refine qT (by simp[kH]) ?_
  simp only[aR,seval,kB,kA,]
 intro hS s hs
 subst hs
 simp only[aR,seval,kB,kA,kF]
 (repeat (with_reducible refine And.intro ?_ ?_;focus (first|omega|exact kD|kernel_rfl)))
 refine kAp (s:=s) (o:=0) (ob:=1) (lt:=0) (by simp[kH,kX]) hS (by omega) aok (by simp[qF,upd]) ?_ ?_
 case refine_2 =>
  intro he
  simp only[aR,seval,kB,kA,he]
  (repeat (with_reducible refine And.intro ?_ ?_;focus (first|omega|exact kD|kernel_rfl)))
  refine qT (by simp[kH]) ?_
  simp only[aR,seval,kB,kA,he]
 intro he s1 hs1 hS1
 simp only[aR,seval,kB,kA,]
 (repeat (with_reducible refine And.intro ?_ ?_;focus (first|omega|exact kD|kernel_rfl)))
 have law:=fun h1 h2=>two_law (t:=s.l) (a:=a) (b:=b) he h1 h2
 have bok2:∀ x∈a++b,okA x:=fun x hx=>(List.mem_append.1 hx).elim (aok x) (bok x)
 have hab:(a++b).length≤1000000:=by rw[List.length_append];omega
 refine kAp (s:=s1) (o:=2) (ob:=3) (lt:=0) (by simp[kH,kX]) hS1 (by omega) bok (by simp[qF,upd]) ?_ ?_
 ·intro hg s2 hs2 hS2
  simp only[aR,seval,kB,kA,]
  refine ⟨by rw[k6];omega,by rw[k6];omega,by rw[k6,k6];omega,by rw[k6,k6];omega,?_⟩
  refine j7 (l:=a++b) (by simp[kH]) (kEA a b).symm hab bok2 ?_
  by_cases hc1:txnE (a++b)=0
  case neg =>
   simp only[aR,seval,kB,kA,hc1]
   (repeat (with_reducible refine And.intro ?_ ?_;focus (first|omega|exact kD|kernel_rfl)))
   refine qT (by simp[kH]) ?_
   simp only[aR,seval,kB,kA,]
  simp only[aR,seval,kB,kA,hc1]
  (repeat (with_reducible refine And.intro ?_ ?_;focus (first|omega|exact kD|kernel_rfl)))
  refine j7 (l:=b) (by simp[kH]) rfl (by omega) bok ?_
  by_cases hc2:txnE b=0
  case neg =>
   simp only[aR,seval,kB,kA,hc1,hc2]
   (repeat (with_reducible refine And.intro ?_ ?_;focus (first|omega|exact kD|kernel_rfl)))
   refine qT (by simp[kH]) ?_
   simp only[aR,seval,kB,kA,]
  obtain ⟨w1,w2,w3⟩:=law hc2 hc1
  rw[hs1]at hg
  rw[hs1]at hs2
  simp only[aR,seval,kB,kA,hc1,hc2]
  (repeat (with_reducible refine And.intro ?_ ?_;focus (first|omega|exact kD|kernel_rfl)))
  rw[← kEA]
  refine kAp (s:=s) (o:=0) (ob:=1) (by simp[kH,kX]) hS hab bok2 (by simp[qF,upd]) ?_ (fun hc=>absurd (w1.trans hg) hc)
  intro _ s3 hs3 hS3
  simp only[aR,seval,kB,kA,]
  (repeat (with_reducible refine And.intro ?_ ?_;focus (first|omega|exact kD|kernel_rfl)))
  refine call_tsame hΓ (by simp[kH,kX]) (by simp[kH,kX]) (by simp[kH,kX]) (s:=s3) (s':=s2) (o:=6) (ob:=7) (p:=4) (pb:=5) (snd_ok hS3).1 (snd_ok hS2).1 (by simp[qF,upd]) (by simp[qF,upd]) ?_
  rw[hs3,hs2,w2]
  simp only[aR,seval,kB,kA,beq_self_eq_true,decide_true]
  (repeat (with_reducible refine And.intro ?_ ?_;focus (first|omega|exact kD|kernel_rfl)))
  refine qT (by simp[kH]) ?_
  simp only[aR,seval,kB,kA,]
 ·intro hg
  simp only[aR,seval,kB,kA,hg]
  refine ⟨by rw[k6];omega,by rw[k6];omega,by rw[k6,k6];omega,by rw[k6,k6];omega,?_⟩
  refine j7 (l:=a++b) (by simp[kH]) (kEA a b).symm hab bok2 ?_
  by_cases hc1:txnE (a++b)=0
  case neg =>
   simp only[aR,seval,kB,kA,hc1]
   (repeat (with_reducible refine And.intro ?_ ?_;focus (first|omega|exact kD|kernel_rfl)))
   refine qT (by simp[kH]) ?_
   simp only[aR,seval,kB,kA,]
  simp only[aR,seval,kB,kA,hc1]
  (repeat (with_reducible refine And.intro ?_ ?_;focus (first|omega|exact kD|kernel_rfl)))
  refine j7 (l:=b) (by simp[kH]) rfl (by omega) bok ?_
  by_cases hc2:txnE b=0
  case neg =>
   simp only[aR,seval,kB,kA,hc1,hc2]
   (repeat (with_reducible refine And.intro ?_ ?_;focus (first|omega|exact kD|kernel_rfl)))
   refine qT (by simp[kH]) ?_
   simp only[aR,seval,kB,kA,]
  obtain ⟨w1,w2,w3⟩:=law hc2 hc1
  rw[hs1]at hg
  simp only[aR,seval,kB,kA,hc1,hc2]
  (repeat (with_reducible refine And.intro ?_ ?_;focus (first|omega|exact kD|kernel_rfl)))
  rw[← kEA]
  refine kAp (s:=s) (o:=0) (ob:=1) (by simp[kH,kX]) hS hab bok2 (by simp[qF,upd]) (fun hc=>absurd (w1.symm.trans hc) hg) ?_
  intro _
  rw[hs1,w1]
  simp only[aR,seval,kB,kA,hg,k6,beq_self_eq_true,show ((allN s.l (a++b)).n ≥ a.length)=True from eq_true w3]
  (repeat (with_reducible refine And.intro ?_ ?_;focus (first|omega|exact kD|kernel_rfl)))
  refine qT (by simp[kH]) ?_
  simp only[aR,seval,kB,kA,]
end Go.Proofs
end
-- EUeR
section
namespace Go.Proofs
open Go Go.Rw Go.RowKit Go.ChangeShapes Go.WideShapes Go.ChangeAt Go.Deep
set_option maxRecDepth 100000
theorem i64_rng {n:Int} (h:(Lit.int .i64 n).wf=true):-9223372036854775808≤n∧n≤9223372036854775807:=by
 simp[Lit.wf,IntKind.min,IntKind.max,IntKind.signed,IntKind.bits]at h;omega
abbrev tyC:Ty:=.st [.int .i64,.int .i64,.str]
abbrev tyA:Ty:=.st [.int .i64,.int .i64,.int .i64,.str,.bool,.slc tyC]
theorem fit_comp {ds:List AV} (h:Fits tyC ds):∃ c:Cp,kDG tyC ds=cA c∧(-9223372036854775808≤c.n∧c.n≤9223372036854775807)∧c.t.length≤9223372036854775807:=by
 simp only[tyC,Fits,FitsL]at h
 obtain ⟨a,b,rfl,⟨k,rfl,hk⟩,a2,b2,rfl,⟨n,rfl,hn⟩,a3,b3,rfl,⟨t,rfl,ht⟩,rfl⟩:=h
 exact ⟨⟨k,n,t⟩,rfl,i64_rng hn,ht⟩
theorem fit_comps {cs:List AV} (h:Fits (.slc tyC) cs):∃ l:List Cp,cs=[.sl 0 3 (qC l)]∧wideC l:=by
 rw[Fits]at h
 obtain ⟨xs,rfl,h1,h2⟩:=h
 obtain ⟨l,rfl,h3⟩:=fits_map cA (fun c=>(-9223372036854775808≤c.n∧c.n≤9223372036854775807)∧c.t.length≤9223372036854775807) (fun ds hd=>fit_comp hd) xs h2
 exact ⟨l,rfl,by simpa using h1,h3⟩
theorem fit_act {ds:List AV} (h:Fits tyA ds):∃ a:Ac,kDG tyA ds=aA a∧a.nm.length≤9223372036854775807∧wideC a.ops:=by
 simp only[tyA,Fits.eq_5,FitsL]at h
 obtain ⟨a,b,rfl,h1,a2,b2,rfl,h2,a3,b3,rfl,h3,a4,b4,rfl,h4,a5,b5,rfl,h5,a6,b6,rfl,h6,rfl⟩:=h
 obtain ⟨l,rfl,hl⟩:=fit_comps h6
 simp only[Fits]at h1 h2 h3 h4 h5
 obtain ⟨k,rfl,_⟩:=h1
 obtain ⟨id,rfl,_⟩:=h2
 obtain ⟨par,rfl,_⟩:=h3
 obtain ⟨nm,rfl,hn⟩:=h4
 obtain ⟨dir,rfl⟩:=h5
 exact ⟨⟨k,id,par,nm,dir,l⟩,rfl,hn,hl⟩
section
variable {P:Program} {W:World} {H:Type} {enc:TypeId×Value→H}
theorem open_acts {t:TypeId} {v:Value} {d:DataW H} {p:List MemPlace} (ht:isTy P t (.slc tyA)=true) (hv:∃ A n c,v = .slice A n c) (h:DataW.Trod enc P W 0 (fun _=>true) true t v d p) :
    ∃ l:List Ac,l.length≤9223372036854775807∧(∀ a∈l,a.nm.length≤9223372036854775807∧wideC a.ops)∧VR (Gin (Fw W) none) W v (.sl 0 6 (acts l)) :=
 arg_slc aA _ (fun ds hd=>fit_act hd) ht hv h
end
end Go.Proofs
end
-- EUk11
section
namespace Go.Proofs
open Go Go.Rw
set_option maxRecDepth 100000
structure Cm where
 rev:Int
 client:Int
 seq:Int
 acs:List Ac
 deriving Inhabited,DecidableEq
end Go.Proofs
end
-- EUk13
section
namespace Go.Proofs
open Go Go.Rw
set_option maxRecDepth 100000
end Go.Proofs
end
-- EUkR
section
namespace Go.Proofs
open Go Go.Rw Go.RowKit Go.ChangeShapes Go.WideShapes Go.ChangeAt Go.Deep
set_option maxRecDepth 100000
abbrev tyN:Ty:=.st [.int .i64,.int .i64,.str,.bool,.str]
theorem fit_node {ds:List AV} (h:Fits tyN ds):∃ a:Nd,kDG tyN ds=nA a∧a.nm.length≤9223372036854775807∧a.text.length≤9223372036854775807:=by
 simp only[tyN,Fits.eq_5,FitsL]at h
 obtain ⟨a,b,rfl,h1,a2,b2,rfl,h2,a3,b3,rfl,h3,a4,b4,rfl,h4,a5,b5,rfl,h5,rfl⟩:=h
 simp only[Fits]at h1 h2 h3 h4 h5
 obtain ⟨id,rfl,_⟩:=h1
 obtain ⟨par,rfl,_⟩:=h2
 obtain ⟨nm,rfl,hn⟩:=h3
 obtain ⟨dir,rfl⟩:=h4
 obtain ⟨tx,rfl,ht⟩:=h5
 exact ⟨⟨id,par,nm,dir,tx⟩,rfl,hn,ht⟩
theorem open_nodes {P:Program} {W:World} {H:Type} {enc:TypeId×Value→H} {t:TypeId} {v:Value} {d:DataW H} {p:List MemPlace} (ht:isTy P t (.slc tyN)=true) (hv:∃ A n c,v = .slice A n c) (h:DataW.Trod enc P W 0 (fun _=>true) true t v d p) :
    ∃ l:List Nd,l.length≤9223372036854775807∧(∀ a∈l,a.nm.length≤9223372036854775807∧a.text.length≤9223372036854775807)∧VR (Gin (Fw W) none) W v (.sl 0 5 (k5 l)) :=
 arg_slc nA _ (fun ds hd=>fit_node hd) ht hv h
end Go.Proofs
end
-- EUr1
section
namespace Go.Proofs.YtfhipjafkdembaaGreatDoor
open Go Go.ChangeShapes Go.WideShapes Go.ChangeAt Go.RowKit Go.Rw Go.Lib
open Go.ChangeMaps (open_string shut_string)
set_option maxRecDepth 100000
theorem own:ownKnob Tryz.prog.godebug=none:=by kernel_rfl
theorem laidOut:laidOutB Tryz.prog=true:=by kernel_rfl
noncomputable def kCU (os:Os):World :=
 let w0:=World.holding Tryz.prog os ⟨#[],#[],[]⟩
 let put (h:Array Obj) (g:Nat) (cs:Array Value):Array Obj:=h.modify g fun
  | .cells _ t frozen=>.cells cs t frozen
  | o=>o
 let h1:=put w0.heap 0 (Lib.firstTab.map fun z=>Value.int .u8 z).toArray
 let h2:=put h1 1 ((List.range 16).flatMap fun i=>[Value.int .u8 (Lib.accLo i),Value.int .u8 (Lib.accHi i)]).toArray
 { w0 with heap:=h2 }
abbrev laidL : List (String × DataW Unit) := [("unicode/utf8.acceptRanges", Lib.acceptData), ("unicode/utf8.first", Lib.firstData)]
theorem laid_met (os:Os) (args:Array Value):laidMet Tryz.prog laidL ((kCU os).forCall (fun _ _=>0) ⟨#[],args,[]⟩).memory :=
 (LaidIn.of_run (l:=laidL) [1,0] 8 (by kernel_rfl) (by kernel_rfl) (by kernel_rfl) (by kernel_rfl)).met
theorem tabs_of {W:World} (hL:laidMet Tryz.prog laidL W):TabOk W (kW none):=by
 have htab:Lib.Utf8Tabs 0 1 W :=
  utf8Tabs_of_readsT (U8Types.of196 Tryz.lays196) ⟨by kernel_rfl,by kernel_rfl,by kernel_rfl,by kernel_rfl,by kernel_rfl,by kernel_rfl,by kernel_rfl⟩ (Lib.laidMet.reads hL (.tail _ (.head _))) (Lib.laidMet.reads hL (.head _))
 refine ⟨htab,fun g hg=>⟨?_,by rintro ⟨k,hk,_⟩;cases hk⟩⟩
 have key:∀ g i v,W.cell? ⟨g,i,none⟩=some v→g < W.heap.size:=fun g i v h=>Fw_lt (Nat.lt_of_le_of_lt (Nat.zero_le i) (Fw_cell h))
 rcases hg with rfl|rfl
 ·exact key 0 _ _ (htab.1 0 (by omega))
 ·exact key 1 _ _ (htab.2 0 (by omega)).1
end Go.Proofs.YtfhipjafkdembaaGreatDoor
end
