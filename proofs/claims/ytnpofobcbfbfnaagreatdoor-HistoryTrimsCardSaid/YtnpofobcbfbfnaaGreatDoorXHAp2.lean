/-
 Which edits may be,as the document says. Edits done,undone,by the program. Edits done,undone,by the program. How much is given;texts and their code points. The document's tree: qG by their IDs;what an act does. Plain. The document's tree: looking qG up. Nodes held against each other,field by field. The document's tree: names,texts;acts held against each other. Edits undone,by the program;both,by the document. Edits,unit by unit. Plain. Walks along an edit: their Kind,Len and Take,reckoned in place. Two edits as one,piece by piece. Plain. compose.Two,walked. compose.Two,walked. The document's walks. The document's Two. Keep,All: the program's,the document's. What an edit in its normal form does. Plain. The normal form,unit by unit;what two edits do as one. Plain. The document's tree: an act. The document's Check of a transaction. The document's transaction on a tree. What the acts did,in the order of the IDs. Plain. Library functions' bodies at this dump,compared by the kernel: slices.SortFunc,cmp.Compare. The order of what was done: by ID. effect.Of,up to the sort. An edit behind another one,unit by unit and piece by piece. Plain. xform.Over,walked. What an edit behind another one does. Plain. effect: own,Get,behind,Over. ComposeAsks answers true. ComposeDoes answers true. XformMeets answers true. The document's Over. EffectSees answers true. How much is given;lists of what was done,the document's and the program's. Lists of what was done: the document's and the program's. effect.Same. The document's SameOnes. EffectKeeps answers true. rebase: why an act clashes;an edit behind what was done. rebase: a transaction behind what was done. rebase.Over. What the acts did,ID by ID. Plain. Two transactions with nothing in common. Plain. What the document fixes of rebase. A transaction behind commits. History,plainly: what is added,what is kept;the law of HistoryTrims. Plain. How much a tree is;is it qS;whose qG a transaction touches. How much a message is,where it bears commits alone. The program's tree: a map of qG,by their IDs. What the map has. The program's tree: new ones;looking at qG.
-/
import Derived.Test.YtnpofobcbfbfnaaGreatDoorXHUo5
import Derived.Test.YtnpofobcbfbfnaaGreatDoorRwJ
import Derived.Test.YtnpofobcbfbfnaaGreatDoorXHSh
import Derived.Test.YtnpofobcbfbfnaaGreatDoorXHTi
import Derived.Shelf.SlLaysF0
import Derived.Shelf.SlicesG.Cmp
import Derived.Test.YtnpofobcbfbfnaaGreatDoorRwK
import Derived.Test.YtnpofobcbfbfnaaGreatDoorRwO
set_option linter.unusedSimpArgs false
set_option linter.unusedVariables false
set_option linter.defProp false
set_option linter.unusedSectionVars false

-- HAp2
section
namespace Go.Proofs
open Go Go.Rw
set_option maxRecDepth 100000
theorem pnt_width {l:List UInt8} (h:l≠[]):max ((pnt l).2:Int) 1=(Lib.decodeL l).2∧1≤(Lib.decodeL l).2:=by
 have hw:=Lib.decodeL_width l
 refine ⟨?_,hw⟩
 unfold pnt
 split
 ·rename_i hc
  rcases hc with ⟨_,h2⟩|h2
  ·simp only;omega
  ·by_cases hv:(Lib.decodeL l).1=65533∧(Lib.decodeL l).2=1
   ·simp only;omega
   ·obtain ⟨_,h3,_⟩:=kBz h hv
    rw[h2]at h3
    simp only
    rw[h3];rfl
 ·omega
theorem head_zero {l:List UInt8} (h:l≠[]) (h0:l.getD 0 0=0):(Lib.decodeL l).2=1:=by
 cases l with
 | nil=>exact absurd rfl h
 | cons x r =>
   simp only[List.getD_cons_zero]at h0
   subst h0
   have:=kB8 (c:=0) (.inr rfl) r
   have e:enc 0++r=0::r:=rfl
   rw[e]at this
   rw[this];rfl
theorem loose_good:Rw.Good Tryz.prog 117 rcCon:=by
 have hΓ:kM Tryz.prog [(98,pntCon)]:=(kJ kF3 kL)
 refine k6 (nn:=27) hΓ Tryz.func117 (by kernel_rfl) rfl (show Tryz.f117.results.toList=[.tmp 2] from rfl) (fun _=>rfl) (fun _=>rfl) ?_
 rintro ⟨s,hs⟩
 simp only[aR,seval]
 obtain ⟨St,hSt⟩:∃ St:{ p:Nat×Nat // p.1+lc (s.drop p.2)=lc s }→AS,∀ p,St p=AS.of 27 [(0,.v (sv s)),(3,.v (.int .i64 p.1.1)),(4,.v (.int .i64 p.1.2))] [] []:=⟨_,fun _=>rfl⟩
 refine zA hΓ St (fun p=>s.length - p.1.2) ⟨(0,0),by simp⟩ (by rw[hSt];refine kR [] [] ?_;simp only[aR,seval]<;>((repeat' apply And.intro)<;>first|rfl|omega|trivial)) ?_
 rintro ⟨⟨k,i⟩,hk⟩
 simp only at hk
 have hlk:=lc_len s
 rw[hSt]
 simp only
 simp only[aR,seval]
 (with_reducible first|refine kD (fun h=>?_) (fun h=>?_)|refine kH (fun h=>?_) (fun h=>?_))
 ·have hlt:i < s.length:=by omega
  have hne:=drop_ne hlt
  have hw:=pnt_width hne
  have hsm:=pnt_small (s.drop i)
  have hle:(Lib.decodeL (s.drop i)).2≤4:=by omega
  rw[lc_step hne,List.drop_drop]at hk
  have again:∀ σ:AS,Weak σ (AS.of 27 [(0,.v (sv s)),(3,.v (.int .i64 (k+1:Nat))),(4,.v (.int .i64 (i+(Lib.decodeL (s.drop i)).2:Nat)))] [] [])→∃ y:{ p:Nat×Nat // p.1+lc (s.drop p.2)=lc s },s.length - y.1.2 < s.length - i∧Weak σ (St y):=fun σ hw2 =>
   ⟨⟨(k+1,i+(Lib.decodeL (s.drop i)).2),by simp only;omega⟩,by simp only;omega,by rw[hSt];exact hw2⟩
  simp (disch:=omega) only[aR,seval,kC,h]
  (repeat (with_reducible refine And.intro ?_ ?_;focus (first|omega|exact kE|kernel_rfl)))
  (with_reducible first|refine kD (fun h2=>?_) (fun h2=>?_)|refine kH (fun h2=>?_) (fun h2=>?_))
  ·simp (disch:=omega) only[aR,seval,kC,h2]
   refine kF7 (by simp[kG]) hs hlt ?_
   unfold pntR
   simp (disch:=omega) only[aR,seval,kC,zS,hw.1]
   refine again _ ?_
   refine kR [] [] ?_
   simp only[aR,seval]<;>((repeat' apply And.intro)<;>first|rfl|omega|trivial)
  ·have h3:(s.drop i).getD 0 0=0:=by
     have h4:((s.getD i 0).toNat:Int)=0:=by omega
     have h5:s.getD i 0=0:=by
      have:(s.getD i 0).toNat=0:=by omega
      exact UInt8.toNat_inj.1 (by simpa using this)
     simp only[List.getD_eq_getElem?_getD,List.getElem?_drop,Nat.add_zero]at h5 ⊢
     exact h5
   have h6:=head_zero hne h3
   simp (disch:=omega) only[aR,seval,kC,h2,zS,show max (1:Int) 1=1 from rfl]
   refine again _ ?_
   rw[h6]
   refine kR [] [] ?_
   simp only[aR,seval]<;>((repeat' apply And.intro)<;>first|rfl|omega|trivial)
 ·simp only[aR,seval,h]
  rw[List.drop_of_length_le (by omega),lc_nil]at hk
  omega
theorem call_loose {Γ:Env} (hf:Γ.get 117=some rcCon) {σ:AS} {dr:Bool} {l:List UInt8} {d:Option Nat} {K:AS→Prop} (h:l.length≤1099511627776)
    (hk:cont σ d (.v (.int .i64 (lc l))) K):kP Tryz.prog Γ dr σ 117 [.v (sv l)] d K :=
 kQ (C:=rcCon) (i:=⟨l,h⟩) hf rfl rfl rfl rfl (fun _ h=>h) rfl hk
theorem rbase_good:Rw.Good Tryz.prog 86 kAp:=by
 have hΓ:kM Tryz.prog [(116,kEI)]:=(kJ held_good kL)
 refine k6 (nn:=33) hΓ Tryz.func86 (by kernel_rfl) rfl (show Tryz.f86.results.toList=[.tmp 2] from rfl) (fun _=>rfl) (fun _=>rfl) ?_
 rintro ⟨l,hl,htot,hc⟩
 simp only[aR,seval,kK]
 obtain ⟨St,hSt⟩:∃ St:{ p:Int×Nat // p.2≤l.length∧0≤p.1∧p.1≤1099511627776∧kAJ l=kDb p.1 (l.drop p.2) }→AS,∀ p,St p=AS.of 33 [(0,.sl 0 3 (qA l)),(3,.v (.int .i64 p.1.1)),(4,.v (.int .i64 p.1.2))] [] []:=⟨_,fun _=>rfl⟩
 refine zA hΓ St (fun p=>l.length - p.1.2) ⟨(0,0),by omega,by omega,by omega,rfl⟩ (by rw[hSt];refine kR [] [] ?_;simp only[aR,seval]<;>((repeat' apply And.intro)<;>first|rfl|omega|trivial)) ?_
 rintro ⟨⟨n,i⟩,hi,hn1,hn2,hb⟩
 simp only at hi hn1 hn2 hb
 rw[hSt]
 simp only
 simp only[aR,seval,kK]
 (with_reducible first|refine kD (fun h=>?_) (fun h=>?_)|refine kH (fun h=>?_) (fun h=>?_))
 ·have hlt:i < l.length:=by omega
  have hcn:=hc l[i] (List.getElem_mem hlt)
  have e1:=qH l hlt
  rw[List.drop_eq_getElem_cons hlt]at hb
  simp only[kDb]at hb
  generalize l[i]=c at *
  obtain ⟨k,m,t⟩:=c
  simp only at hcn hb e1
  have yes:(k=1∨k=3)→kAJ l=kDb (addI n (max m 0)) (l.drop (i+1)):=fun h=>by rw[hb,if_pos h]
  have no:¬ (k=1∨k=3)→kAJ l=kDb n (l.drop (i+1)):=fun h=>by rw[hb,if_neg h]
  have hr:=qT hn1 (show 0≤max m 0 by omega)
  simp (disch:=omega) only[aR,seval,kC,h,e1,kK]
  (repeat (with_reducible refine And.intro ?_ ?_;focus (first|omega|exact kE|kernel_rfl)))
  (try ((with_reducible first|refine kD (fun q1=>?_) (fun q1=>?_)|refine kH (fun q1=>?_) (fun q1=>?_))<;>simp (disch:=omega) only[aR,seval,kC,q1,e1,kK]<;>(with_reducible first|(refine And.intro ?_ ?_;focus (first|omega|exact kE|kernel_rfl));(repeat (with_reducible refine And.intro ?_ ?_;focus (first|omega|exact kE|kernel_rfl)));(try simp (disch:=omega) only[aR,seval,kC,q1,e1,kK])|skip)<;>(try ((with_reducible first|refine kD (fun q2=>?_) (fun q2=>?_)|refine kH (fun q2=>?_) (fun q2=>?_))<;>simp (disch:=omega) only[aR,seval,kC,q2,e1,kK]<;>(with_reducible first|(refine And.intro ?_ ?_;focus (first|omega|exact kE|kernel_rfl));(repeat (with_reducible refine And.intro ?_ ?_;focus (first|omega|exact kE|kernel_rfl)));(try simp (disch:=omega) only[aR,seval,kC,q2,e1,kK])|skip)<;>skip))))
  all_goals first
   | (refine kEG (by simp [kG]) ⟨hn1,hn2⟩ hcn ?_
      simp (disch:=omega) only[aR,seval,kC]
      refine kO ⟨(addI n (max m 0),i+1),by omega,hr.1,hr.2,yes (by omega)⟩ (by simp only;omega) ?_
      rw[hSt];refine kR [] [] ?_
      simp only[aR,seval]<;>((repeat' apply And.intro)<;>first|rfl|omega|trivial))
   | (refine kO ⟨(n,i+1),by omega,hn1,hn2,no (by omega)⟩ (by simp only;omega) ?_
      rw[hSt];refine kR [] [] ?_
      simp only[aR,seval]<;>((repeat' apply And.intro)<;>first|rfl|omega|trivial))
   | trace_state
 ·simp only[aR,seval,h]
  rw[List.drop_of_length_le (by omega)]at hb
  rw[hb];rfl
theorem call_rbase {Γ:Env} (hf:Γ.get 86=some kAp) {σ:AS} {dr:Bool} {l:List Cp} {t:Nat} {ys:List AV} {d:Option Nat} {K:AS→Prop} (hy:ys=qA l) (h:okL l)
    (hk:cont σ d (.v (.int .i64 (kAJ l))) K):kP Tryz.prog Γ dr σ 86 [.sl t 3 ys] d K:=by
 subst hy
 exact kQ (C:=kAp) (i:=⟨l,h⟩) hf rfl rfl rfl rfl (fun _ h=>h) rfl hk
theorem rout_good:Rw.Good Tryz.prog 87 kD3:=by
 have hΓ:kM Tryz.prog [(116,kEI),(117,rcCon)]:=(kJ held_good (kJ loose_good kL))
 refine k6 (nn:=36) hΓ Tryz.func87 (by kernel_rfl) rfl (show Tryz.f87.results.toList=[.tmp 2] from rfl) (fun _=>rfl) (fun _=>rfl) ?_
 rintro ⟨l,hl,htot,hc⟩
 simp only[aR,seval,kK]
 obtain ⟨St,hSt⟩:∃ St:{ p:Int×Nat // p.2≤l.length∧0≤p.1∧p.1≤1099511627776∧outL l=outF p.1 (l.drop p.2) }→AS,∀ p,St p=AS.of 36 [(0,.sl 0 3 (qA l)),(3,.v (.int .i64 p.1.1)),(4,.v (.int .i64 p.1.2))] [] []:=⟨_,fun _=>rfl⟩
 refine zA hΓ St (fun p=>l.length - p.1.2) ⟨(0,0),by omega,by omega,by omega,rfl⟩ (by rw[hSt];refine kR [] [] ?_;simp only[aR,seval]<;>((repeat' apply And.intro)<;>first|rfl|omega|trivial)) ?_
 rintro ⟨⟨n,i⟩,hi,hn1,hn2,hb⟩
 simp only at hi hn1 hn2 hb
 rw[hSt]
 simp only
 simp only[aR,seval,kK]
 (with_reducible first|refine kD (fun h=>?_) (fun h=>?_)|refine kH (fun h=>?_) (fun h=>?_))
 ·have hlt:i < l.length:=by omega
  have hcn:=hc l[i] (List.getElem_mem hlt)
  have hct:=okL.text ⟨hl,htot,hc⟩ (List.getElem_mem hlt)
  have e1:=qH l hlt
  rw[List.drop_eq_getElem_cons hlt]at hb
  simp only[outF]at hb
  generalize l[i]=c at *
  obtain ⟨k,m,t⟩:=c
  simp only at hcn hct hb e1
  have hl1:k=1→outL l=outF (addI n (max m 0)) (l.drop (i+1)):=fun h=>by rw[hb,if_pos h]
  have hl2:¬ k=1→k=2→outL l=outF (addI n (lc t)) (l.drop (i+1)):=fun h h2=>by rw[hb,if_neg h,if_pos h2]
  have hl3:¬ k=1→¬ k=2→outL l=outF n (l.drop (i+1)):=fun h h2=>by rw[hb,if_neg h,if_neg h2]
  have hr:=qT hn1 (show 0≤max m 0 by omega)
  have hr2:=qT hn1 (show 0≤(lc t:Int) by omega)
  have hlt2:=lc_len t
  simp (disch:=omega) only[aR,seval,kC,h,e1,kK]
  (repeat (with_reducible refine And.intro ?_ ?_;focus (first|omega|exact kE|kernel_rfl)))
  (try ((with_reducible first|refine kD (fun q1=>?_) (fun q1=>?_)|refine kH (fun q1=>?_) (fun q1=>?_))<;>simp (disch:=omega) only[aR,seval,kC,q1,e1,kK]<;>(with_reducible first|(refine And.intro ?_ ?_;focus (first|omega|exact kE|kernel_rfl));(repeat (with_reducible refine And.intro ?_ ?_;focus (first|omega|exact kE|kernel_rfl)));(try simp (disch:=omega) only[aR,seval,kC,q1,e1,kK])|skip)<;>(try ((with_reducible first|refine kD (fun q2=>?_) (fun q2=>?_)|refine kH (fun q2=>?_) (fun q2=>?_))<;>simp (disch:=omega) only[aR,seval,kC,q2,e1,kK]<;>(with_reducible first|(refine And.intro ?_ ?_;focus (first|omega|exact kE|kernel_rfl));(repeat (with_reducible refine And.intro ?_ ?_;focus (first|omega|exact kE|kernel_rfl)));(try simp (disch:=omega) only[aR,seval,kC,q2,e1,kK])|skip)<;>skip))))
  all_goals first
   | (refine kEG (by simp [kG]) ⟨hn1,hn2⟩ hcn ?_
      simp (disch:=omega) only[aR,seval,kC]
      refine kO ⟨(addI n (max m 0),i+1),by omega,hr.1,hr.2,hl1 (by omega)⟩ (by simp only;omega) ?_
      rw[hSt];refine kR [] [] ?_
      simp only[aR,seval]<;>((repeat' apply And.intro)<;>first|rfl|omega|trivial))
   | (refine call_loose (by simp [kG]) hct ?_
      simp (disch:=omega) only[aR,seval,kC]
      refine kEG (by simp[kG]) ⟨hn1,hn2⟩ (by omega) ?_
      simp (disch:=omega) only[aR,seval,kC]
      refine kO ⟨(addI n (lc t),i+1),by omega,hr2.1,hr2.2,hl2 (by omega) (by omega)⟩ (by simp only;omega) ?_
      rw[hSt];refine kR [] [] ?_
      simp only[aR,seval,show max (lc t:Int) 0=lc t by omega]<;>((repeat' apply And.intro)<;>first|rfl|omega|trivial))
   | (refine kO ⟨(n,i+1),by omega,hn1,hn2,hl3 (by omega) (by omega)⟩ (by simp only;omega) ?_
      rw[hSt];refine kR [] [] ?_
      simp only[aR,seval]<;>((repeat' apply And.intro)<;>first|rfl|omega|trivial))
   | trace_state
 ·simp only[aR,seval,h]
  rw[List.drop_of_length_le (by omega)]at hb
  rw[hb];rfl
theorem call_rout {Γ:Env} (hf:Γ.get 87=some kD3) {σ:AS} {dr:Bool} {l:List Cp} {t:Nat} {ys:List AV} {d:Option Nat} {K:AS→Prop} (hy:ys=qA l) (h:okL l)
    (hk:cont σ d (.v (.int .i64 (outL l))) K):kP Tryz.prog Γ dr σ 87 [.sl t 3 ys] d K:=by
 subst hy
 exact kQ (C:=kD3) (i:=⟨l,h⟩) hf rfl rfl rfl rfl (fun _ h=>h) rfl hk
end Go.Proofs
end
-- HAp3
section
namespace Go.Proofs
open Go Go.Rw
set_option maxRecDepth 100000
theorem rnormal_good:Rw.Good Tryz.prog 85 jM:=by
 have hΓ:kM Tryz.prog [(51,jW)]:=(kJ rvalid_good kL)
 refine k6 (nn:=70) hΓ Tryz.func85 (by kernel_rfl) rfl (show Tryz.f85.results.toList=[.tmp 2] from rfl) (fun _=>rfl) (fun _=>rfl) ?_
 rintro ⟨l,hl,htot,hc⟩
 simp only[aR,seval,kK]
 obtain ⟨St,hSt⟩:∃ St:{ i:Nat // i≤l.length∧qC l=zN (ahead l i) (l.drop i) }→AS,∀ i,St i=AS.of 70 [(0,.sl 0 3 (qA l)),(3,.v (.int .i64 i.1))] [] []:=⟨_,fun _=>rfl⟩
 refine zA hΓ St (fun i=>l.length - i.1) ⟨0,by omega,rfl⟩ (by rw[hSt];refine kR [] [] ?_;simp only[aR,seval]<;>((repeat' apply And.intro)<;>first|rfl|omega|trivial)) ?_
 rintro ⟨i,hi,hb⟩
 rw[hSt]
 simp only
 simp only[aR,seval,kK]
 (with_reducible first|refine kD (fun h=>?_) (fun h=>?_)|refine kH (fun h=>?_) (fun h=>?_))
 ·have hlt:i < l.length:=by omega
  have hci:=okL.text ⟨hl,htot,hc⟩ (List.getElem_mem hlt)
  have e1:=qH l hlt
  rw[List.drop_eq_getElem_cons hlt]at hb
  simp only[zN]at hb
  have hne:ahead l (i+1)=some l[i]:=by simp[ahead,hlt]
  rw[← hne]at hb
  have again:∀ σ:AS,Weak σ (AS.of 70 [(0,.sl 0 3 (qA l)),(3,.v (.int .i64 (i+1:Nat)))] [] [])→qC l=zN (ahead l (i+1)) (l.drop (i+1))→∃ y:{ i:Nat // i≤l.length∧qC l=zN (ahead l i) (l.drop i) },l.length - y.1 < l.length - i∧Weak σ (St y):=fun σ hw hb2 =>
   ⟨⟨i+1,by omega,hb2⟩,by simp only;omega,by rw[hSt];exact hw⟩
  by_cases h0:i=0
  ·have hp:ahead l i=none:=by simp[ahead,h0]
   rw[hp]at hb
   simp only[Bool.and_true]at hb
   have no:qS l[i]=false∨False→qC l=false:=fun h=>by
    rcases h with h|h
    ·rw[hb,h];rfl
    ·exact h.elim
   have yes:qS l[i]=true→qC l=zN (ahead l (i+1)) (l.drop (i+1)):=fun h=>by rw[hb,h];rfl
   generalize l[i]=c at *
   obtain ⟨k,n,t⟩:=c
   simp only at *
   have hz:¬ (i:Int) > 0:=by omega
   have hi3:0≤(i:Int):=by omega
   by_cases k13:k=1∨k=3
   ·rcases k13 with rfl|rfl
    all_goals
     by_cases n1:n < 1
     ·have n2:¬ n > 0:=by omega
      simp (disch:=omega) only[aR,seval,kC,h,e1,kK,hz,hi3,n1,no (.inl (by simp[qS,n2]))]
     ·have n2:n > 0:=by omega
      by_cases t0:t=[]
      ·subst t0
       simp (disch:=omega) only[aR,seval,kC,h,e1,kK,hz,hi3,n1]
       (repeat (with_reducible refine And.intro ?_ ?_;focus (first|omega|exact kE|kernel_rfl)))
       refine again _ ?_ (yes (by simp[qS,n2]))
       refine kR [] [] ?_
       simp only[aR,seval]<;>((repeat' apply And.intro)<;>first|rfl|omega|trivial)
      ·simp (disch:=omega) only[aR,seval,kC,h,e1,kK,hz,hi3,n1,t0,no (.inl (by simp[qS,t0]))]
   ·have k1:¬ k=1:=by omega
    have k3:¬ k=3:=by omega
    by_cases k2:k=2
    ·subst k2
     by_cases n0:n=0
     ·subst n0
      by_cases t0:t=[]
      ·subst t0
       simp (disch:=omega) only[aR,seval,kC,h,e1,kK,hz,hi3,no (.inl (by simp[qS]))]
      ·simp (disch:=omega) only[aR,seval,kC,h,e1,kK,hz,hi3,t0]
       refine kEb (by simp[kG]) hci ?_
       cases hv:(pts t).isSome with
       | false=>simp (disch:=omega) only [aR,seval,kC,h,e1,kK,hz,hi3,hv,no (.inl (by simp [qS,hv]))]
       | true =>
         simp (disch:=omega) only[aR,seval,kC,h,e1,kK,hz,hi3,hv]
         (repeat (with_reducible refine And.intro ?_ ?_;focus (first|omega|exact kE|kernel_rfl)))
         refine again _ ?_ (yes (by simp[qS,hv,t0]))
         refine kR [] [] ?_
         simp only[aR,seval]<;>((repeat' apply And.intro)<;>first|rfl|omega|trivial)
     ·simp (disch:=omega) only[aR,seval,kC,h,e1,kK,hz,hi3,n0,no (.inl (by simp[qS,n0]))]
    ·simp (disch:=omega) only[aR,seval,kC,h,e1,kK,hz,hi3,k1,k2,k3,no (.inl (by simp[qS,k1,k2,k3]))]
  ·have hp:ahead l i=some l[i - 1]:=by simp[ahead,h0]
   have e2:(qA l).getD (i - 1) .any = .agg [.v (.int .i64 l[i - 1].k),.v (.int .i64 l[i - 1].n),.v (sv l[i - 1].t)]:=qH l (by omega)
   have e3:((i:Int) - 1).toNat=i - 1:=by omega
   rw[hp]at hb
   simp only at hb
   have no:qS l[i]=false∨follows l[i - 1] l[i]=false→qC l=false:=fun h=>by
    rcases h with h|h
    ·rw[hb,h];rfl
    ·rw[hb,h];simp
   have yes:qS l[i]=true→follows l[i - 1] l[i]=true→qC l=zN (ahead l (i+1)) (l.drop (i+1)):=fun h h2=>by rw[hb,h,h2];rfl
   generalize l[i - 1]=pc at *
   generalize l[i]=c at *
   obtain ⟨k,n,t⟩:=c
   obtain ⟨pk0,pn,pt⟩:=pc
   simp only at *
   have hz:(i:Int) > 0:=by omega
   have hi3:0≤(i:Int):=by omega
   have hi4:0≤(i:Int) - 1∧(i:Int) - 1 < l.length:=by omega
   by_cases k13:k=1∨k=3
   ·rcases k13 with rfl|rfl
    all_goals
     by_cases n1:n < 1
     ·have n2:¬ n > 0:=by omega
      simp (disch:=omega) only[aR,seval,kC,h,e1,e2,e3,kK,hz,hi3,hi4,n1,no (.inl (by simp[qS,n2]))]
     ·have n2:n > 0:=by omega
      by_cases t0:t=[]
      ·subst t0
       first
        | (by_cases pk:pk0=1
           ·simp (disch:=omega) only[aR,seval,kC,h,e1,e2,e3,kK,hz,hi3,hi4,n1,pk,no (.inr (by simp[follows,pk];done))]
            all_goals exact ⟨kE,by kernel_rfl⟩
           ·simp (disch:=omega) only[aR,seval,kC,h,e1,e2,e3,kK,hz,hi3,hi4,n1,pk]
            (repeat (with_reducible refine And.intro ?_ ?_;focus (first|omega|exact kE|kernel_rfl)))
            refine again _ ?_ (yes (by simp[qS,n2]) (by simp[follows,pk];done))
            refine kR [] [] ?_
            simp only[aR,seval]<;>((repeat' apply And.intro)<;>first|rfl|omega|trivial))
        | (by_cases pk:pk0=3
           ·simp (disch:=omega) only[aR,seval,kC,h,e1,e2,e3,kK,hz,hi3,hi4,n1,pk,no (.inr (by simp[follows,pk];done))]
            all_goals exact ⟨kE,by kernel_rfl⟩
           ·simp (disch:=omega) only[aR,seval,kC,h,e1,e2,e3,kK,hz,hi3,hi4,n1,pk]
            (repeat (with_reducible refine And.intro ?_ ?_;focus (first|omega|exact kE|kernel_rfl)))
            refine again _ ?_ (yes (by simp[qS,n2]) (by simp[follows,pk];done))
            refine kR [] [] ?_
            simp only[aR,seval]<;>((repeat' apply And.intro)<;>first|rfl|omega|trivial))
      ·simp (disch:=omega) only[aR,seval,kC,h,e1,e2,e3,kK,hz,hi3,hi4,n1,t0,no (.inl (by simp[qS,t0]))]
   ·have k1:¬ k=1:=by omega
    have k3:¬ k=3:=by omega
    by_cases k2:k=2
    ·subst k2
     by_cases n0:n=0
     ·subst n0
      by_cases t0:t=[]
      ·subst t0
       simp (disch:=omega) only[aR,seval,kC,h,e1,e2,e3,kK,hz,hi3,hi4,no (.inl (by simp[qS]))]
      ·simp (disch:=omega) only[aR,seval,kC,h,e1,e2,e3,kK,hz,hi3,hi4,t0]
       refine kEb (by simp[kG]) hci ?_
       cases hv:(pts t).isSome with
       | false=>simp (disch:=omega) only [aR,seval,kC,h,e1,e2,e3,kK,hz,hi3,hi4,hv,no (.inl (by simp [qS,hv]))]
       | true =>
         by_cases pk:pk0=3
         ·simp (disch:=omega) only[aR,seval,kC,h,e1,e2,e3,kK,hz,hi3,hi4,hv,pk,no (.inr (by simp[follows,pk]))]
          all_goals exact ⟨kE,by kernel_rfl⟩
         ·by_cases pl:pk0=2
          ·simp (disch:=omega) only[aR,seval,kC,h,e1,e2,e3,kK,hz,hi3,hi4,hv,pl,no (.inr (by simp[follows,pl]))]
           all_goals exact ⟨kE,by kernel_rfl⟩
          ·simp (disch:=omega) only[aR,seval,kC,h,e1,e2,e3,kK,hz,hi3,hi4,hv,pk,pl]
           (repeat (with_reducible refine And.intro ?_ ?_;focus (first|omega|exact kE|kernel_rfl)))
           refine again _ ?_ (yes (by simp[qS,hv,t0]) (by simp[follows,pk,pl]))
           refine kR [] [] ?_
           simp only[aR,seval]<;>((repeat' apply And.intro)<;>first|rfl|omega|trivial)
     ·simp (disch:=omega) only[aR,seval,kC,h,e1,e2,e3,kK,hz,hi3,hi4,n0,no (.inl (by simp[qS,n0]))]
    ·simp (disch:=omega) only[aR,seval,kC,h,e1,e2,e3,kK,hz,hi3,hi4,k1,k2,k3,no (.inl (by simp[qS,k1,k2,k3]))]
 ·simp only[aR,seval,h]
  rw[List.drop_of_length_le (by omega)]at hb
  rw[hb];rfl
end Go.Proofs
end
-- HAp4
section
namespace Go.Proofs
open Go Go.Rw
set_option maxRecDepth 100000
theorem call_rnormal {Γ:Env} (hf:Γ.get 85=some jM) {σ:AS} {dr:Bool} {l:List Cp} {t:Nat} {ys:List AV} {d:Option Nat} {K:AS→Prop} (hy:ys=qA l) (h:okL l)
    (hk:cont σ d (.v (.bool (qC l))) K):kP Tryz.prog Γ dr σ 85 [.sl t 3 ys] d K:=by
 subst hy
 exact kQ (C:=jM) (i:=⟨l,h⟩) hf rfl rfl rfl rfl (fun _ h=>h) rfl hk
theorem rcheck_good:Rw.Good Tryz.prog 63 kB9:=by
 have hΓ:kM Tryz.prog [(85,jM),(86,kAp),(87,kD3)]:=(kJ rnormal_good (kJ rbase_good (kJ rout_good kL)))
 refine k6 (nn:=20) hΓ Tryz.func63 (by kernel_rfl) rfl (show Tryz.f63.results.toList=[.tmp 2] from rfl) (fun _=>rfl) (fun _=>rfl) ?_
 rintro ⟨l,hl⟩
 simp only[aR,seval,kK]
 have c1:100 < (l.length:Int)→qV l=3:=fun h=>by rw[qV,if_pos (by omega)]
 have c2:¬ 100 < (l.length:Int)→qC l=false→qV l=1:=fun h h2=>by rw[qV,if_neg (by omega),if_pos h2]
 have c3:¬ 100 < (l.length:Int)→qC l=true→(kAJ l > 2000∨outL l > 2000)→qV l=3:=fun h h2 h3=>by rw[qV,if_neg (by omega),if_neg (by rw[h2];decide),if_pos h3]
 have c4:¬ 100 < (l.length:Int)→qC l=true→¬ (kAJ l > 2000∨outL l > 2000)→qV l=0:=fun h h2 h3=>by rw[qV,if_neg (by omega),if_neg (by rw[h2];decide),if_neg h3]
 (with_reducible first|refine kD (fun h=>?_) (fun h=>?_)|refine kH (fun h=>?_) (fun h=>?_))
 ·simp only[aR,seval,h,c1 (by omega)]
 ·simp only[aR,seval,h]
  refine call_rnormal (by simp[kG]) rfl hl ?_
  cases hn:qC l with
  | false=>simp only [aR,seval,hn,c2 (by omega) hn]
  | true =>
    simp only[aR,seval,hn]
    refine call_rbase (by simp[kG]) rfl hl ?_
    simp only[aR,seval]
    by_cases h1:kAJ l > 2000
    ·simp only[aR,seval,h1,c3 (by omega) hn (.inl (by omega))]
    ·simp only[aR,seval,h1]
     refine call_rout (by simp[kG]) rfl hl ?_
     simp only[aR,seval]
     by_cases h2:outL l > 2000
     ·simp only[aR,seval,h2,c3 (by omega) hn (.inr (by omega))]
     ·simp only[aR,seval,h2,c4 (by omega) hn (by omega)]
def doR (s:List UInt8) (l:List Cp):AV:=res2 (.v (sv (z6 s l))) (errI s l)
abbrev doCon:Con where
 ι:=Str×Ed
 args:=fun p=>[.v (sv p.1.1),.sl 0 3 (qA p.2.1)]
 post:=fun p r=>r=doR p.1.1 p.2.1
 plain:=true
theorem stp_puts (s:List UInt8) (l:List Cp):(stp s l).flatMap Sp.puts=z6 s l∧(z6 s l).length≤8000:=by
 unfold stp z6
 by_cases he:errI s l=0
 ·rw[if_pos he,if_pos he]
  obtain ⟨hc,_,hb,hf⟩:=err_zero he
  have hcc:=kAI hc
  have ho:=out_do l (cpts s) 0 (by omega) hf hcc.2.2.2.2.2
  have h4:=kE6 (cs:=doL (cpts s) l)
  have:outL l=outF 0 l:=rfl
  exact ⟨kFQ l _ hf,by omega⟩
 ·rw[if_neg he,if_neg he];exact ⟨rfl,by simp⟩
theorem take_puts (S:List Sp) (i:Nat) (h:i < S.length):(S.take (i+1)).flatMap Sp.puts=(S.take i).flatMap Sp.puts++S[i].puts:=by
 rw[List.take_succ_eq_append_getElem h,List.flatMap_append];simp
theorem take_puts_le (S:List Sp) (i:Nat):((S.take i).flatMap Sp.puts).length≤(S.flatMap Sp.puts).length:=by
 conv=>rhs;rw[← List.take_append_drop i S]
 rw[List.flatMap_append,List.length_append];omega
theorem stp_len (s:List UInt8) (l:List Cp):(stp s l).length≤100:=by
 unfold stp
 split
 ·rename_i he
  have:=(kAI (err_zero he).1).1
  rw[kEl];exact this
 ·simp
theorem do_good:Rw.Good Tryz.prog 72 doCon:=by
 have hΓ:kM Tryz.prog [(95,kDl)]:=(kJ steps_good kL)
 refine k6 (nn:=30) hΓ Tryz.func72 (by kernel_rfl) rfl (show Tryz.f72.results.toList=[.tmp 4,.tmp 5] from rfl) (fun _=>rfl) (fun _=>rfl) ?_
 rintro ⟨⟨s,hs⟩,⟨l,hl⟩⟩
 simp only[aR,seval]
 refine call_steps (by simp[kG]) rfl hs hl (by omega) ?_
 obtain ⟨hp1,hp2⟩:=stp_puts s l
 have hle:=take_puts_le (stp s l)
 have hlen:=stp_len s l
 have hdo:doR s l=res2 (.v (sv ((stp s l).flatMap Sp.puts))) (errI s l):=by unfold doR;rw[hp1]
 rw[← hp1]at hp2
 simp only[aR,seval,kBo,res2,kAz]
 generalize stp s l=S at *
 obtain ⟨St,hSt⟩:∃ St:{ i:Nat // i≤S.length }→AS,∀ i,St i=AS.of 30 [(6,.v (sv ((S.take i.1).flatMap Sp.puts))),(8,.v (.int .i64 (errI s l))),(17,.sl 0 5 (sts S)),(18,.v (.int .i64 S.length)),(19,.v (.int .i64 i.1))] [] []:=⟨_,fun _=>rfl⟩
 refine zA hΓ St (fun i=>S.length - i.1) ⟨0,by omega⟩ (by rw[hSt];refine kR [] [] ?_;simp only[aR,seval,List.take_zero,List.flatMap_nil]<;>((repeat' apply And.intro)<;>first|rfl|omega|trivial)) ?_
 rintro ⟨i,hi⟩
 rw[hSt]
 simp only
 simp only[aR,seval]
 (with_reducible first|refine kD (fun h=>?_) (fun h=>?_)|refine kH (fun h=>?_) (fun h=>?_))
 ·have hlt:i < S.length:=by omega
  have e1:=sts_getD S hlt
  have h1:=hle i
  have h2:=hle (i+1)
  have htp:=take_puts S i hlt
  rw[htp,List.length_append]at h2
  simp (disch:=omega) only[aR,seval,kC,h,e1,kAz]
  (repeat (with_reducible refine And.intro ?_ ?_;focus (first|omega|exact kE|kernel_rfl)))
  refine kO ⟨i+1,by omega⟩ (by simp only;omega) ?_
  rw[hSt]
  simp only
  rw[htp]
  refine kR [] [] ?_
  simp only[aR,seval]<;>((repeat' apply And.intro)<;>first|rfl|omega|trivial)
 ·have hin:i=S.length:=by omega
  simp only[aR,seval,h,hin,List.take_length]
  rw[hdo];rfl
theorem call_do {Γ:Env} {f:Nat} (hf:Γ.get f=some doCon) {σ:AS} {dr:Bool} {s:List UInt8} {l:List Cp} {t:Nat} {ys:List AV} {d:Option Nat} {K:AS→Prop} (hy:ys=qA l) (hs:s.length≤1099511627776) (hl:okL l)
    (hk:cont σ d (doR s l) K):kP Tryz.prog Γ dr σ f [.v (sv s),.sl t 3 ys] d K:=by
 subst hy
 exact kQ (C:=doCon) (i:=(⟨s,hs⟩,⟨l,hl⟩)) hf rfl rfl rfl rfl (fun _ h=>h) rfl hk
end Go.Proofs
end
-- HAq0
section
namespace Go.Proofs
open Go Go.Rw
set_option maxRecDepth 100000
theorem cpts_len (t:List UInt8):(cpts t).length≤t.length:=by
 unfold cpts
 cases h:pts t with
 | none=>simp
 | some cs =>
   obtain ⟨_,e⟩:=kAh h
   have:=encs_le cs
   rw[← e]at this
   exact this
theorem kC8 (t:List UInt8):cnt t=(cpts t).length:=by
 unfold cnt cpts
 cases h:pts t<;>rfl
end Go.Proofs
end
-- HUk0
section
namespace Go.Proofs
open Go Go.Rw
set_option maxRecDepth 100000
structure Nd where
 id:Int
 par:Int
 nm:List UInt8
 dir:Bool
 text:List UInt8
 deriving Inhabited,DecidableEq
def nA (x:Nd):AV:=.agg [.v (.int .i64 x.id),.v (.int .i64 x.par),.v (sv x.nm),.v (.bool x.dir),.v (sv x.text)]
def qG (l:List Nd):List AV:=l.map nA
theorem nodes_nil:qG []=[]:=rfl
theorem kY (l:List Nd):(qG l).length=l.length:=by simp[qG]
theorem j6 (l:List Nd) {i:Nat} (h:i < l.length):(qG l).getD i .any=nA l[i]:=by simp[qG,List.getD_eq_getElem?_getD,h]
theorem nodes_take (l:List Nd) (i:Nat):(qG l).take i=qG (l.take i):=by simp[qG,List.map_take]
theorem nA_er (x:Nd):(nA x).er=nA x:=by simp[nA,AV.er,AV.erL]
theorem nodes_er:∀ l:List Nd,AV.erL (qG l)=qG l
 | []=>rfl
 | x::l=>by simp only [qG,List.map_cons,AV.erL,nA_er];rw [show List.map nA l=qG l from rfl,nodes_er l]
def kBy:Nd:=⟨0,0,[],false,[]⟩
def ndx (id:Int):List Nd→Nat
 | []=>0
 | x::l=>if x.id=id then 0 else ndx id l+1
theorem ndx_le (id:Int):∀ l:List Nd,ndx id l≤l.length
 | []=>Nat.le_refl _
 | x::l=>by
   have:=ndx_le id l
   rw[ndx];split<;>simp only[List.length_cons]<;>omega
theorem ndx_get (id:Int):∀ (l:List Nd) (h:ndx id l < l.length),(l[ndx id l]).id=id
 | x::l,h=>by
   by_cases hx:x.id=id
   ·simp[ndx,hx]
   ·have e:ndx id (x::l)=ndx id l+1:=by rw[ndx,if_neg hx]
    simp only[e,List.getElem_cons_succ]
    exact ndx_get id l (by rw[e]at h;simpa using h)
theorem ndx_mem (id:Int):∀ l:List Nd,ndx id l < l.length↔∃ x∈l,x.id=id
 | []=>by simp [ndx]
 | x::l=>by
   rw[ndx]
   by_cases hx:x.id=id
   ·rw[if_pos hx];simp[hx]
   ·rw[if_neg hx];simp[hx,ndx_mem id l]
def kid (par:Int) (nm:List UInt8):List Nd→Int
 | []=>-1
 | x::l=>if x.par=par∧x.nm=nm then x.id else kid par nm l
def inN (l:List Nd) (top:Int):Nat→Int→Bool
 | 0,_=>true
 | n+1,id=>if id=top then true else if ndx id l < l.length then inN l top n (l.getD (ndx id l) kBy).par else false
def kAl (l:List Nd) (id top:Int):Bool:=inN l top (l.length+1) id
def kEk (l:List Nd) (par:Int) (nm:List UInt8) (id:Int):Int:=if 0≤kid par nm l∧kid par nm l≠id then 6 else 0
def jT (l:List Nd) (par:Int) (nm:List UInt8) (id:Int):Int :=
 if par=0 then kEk l par nm id
 else if ndx par l < l.length then (if (l.getD (ndx par l) kBy).dir=false then 8 else if id > 0∧kAl l par id=true then 10 else kEk l par nm id)
 else 5
def totN:List Nd→Nat
 | []=>0
 | x::l=>cnt x.text+totN l
def atN (id:Int):List Nd→Nat
 | []=>0
 | x::l=>if x.id < id then atN id l+1 else 0
theorem atN_le (id:Int):∀ l:List Nd,atN id l≤l.length
 | []=>Nat.le_refl _
 | x::l=>by
   have:=atN_le id l
   rw[atN];split<;>simp only[List.length_cons]<;>omega
def doN (l:List Nd) (a:Ac):List Nd×Int :=
 let x:=l.getD (ndx a.id l) kBy
 if a.k=1 then
  if a.id < 1∨a.id > 1099511627776∨qY a.nm=false then (l,1)
  else if ndx a.id l < l.length then (l,6)
  else if jT l a.par a.nm 0≠0 then (l,jT l a.par a.nm 0)
  else if l.length ≥ 100 then (l,4)
  else (l.take (atN a.id l)++⟨a.id,a.par,a.nm,a.dir,[]⟩::l.drop (atN a.id l),0)
 else if a.k=2 then
  if ¬ ndx a.id l < l.length then (l,5)
  else if (l.any fun y=>decide (y.par=a.id))=true then (l,9)
  else (l.take (ndx a.id l)++l.drop (ndx a.id l+1),0)
 else if a.k=3 then
  if qY a.nm=false then (l,1)
  else if ¬ ndx a.id l < l.length then (l,5)
  else if jT l a.par a.nm a.id≠0 then (l,jT l a.par a.nm a.id)
  else (l.set (ndx a.id l) ⟨x.id,a.par,a.nm,x.dir,x.text⟩,0)
 else if a.k=4 then
  if ¬ ndx a.id l < l.length then (l,5)
  else if x.dir=true then (l,8)
  else if errI x.text a.ops≠0 then (l,errI x.text a.ops)
  else if (totN (l.set (ndx a.id l) ⟨x.id,x.par,x.nm,x.dir,z6 x.text a.ops⟩):Int) > 10000 then (l,4)
  else (l.set (ndx a.id l) ⟨x.id,x.par,x.nm,x.dir,z6 x.text a.ops⟩,0)
 else (l,1)
structure Alln where
 now:List Nd
 n:Int
 e:Int
 deriving DecidableEq
def allF (t:List Nd):List Ac→Nat→Alln
 | [],n=>⟨t,n,0⟩
 | a::r,n=>if (doN t a).2≠0 then ⟨[],n,(doN t a).2⟩ else allF (doN t a).1 r (n+1)
def allN (t:List Nd) (l:List Ac):Alln:=if txnE l≠0 then ⟨[],-1,txnE l⟩ else allF t l 0
end Go.Proofs
end
-- HUk1
section
namespace Go.Proofs
open Go Go.Rw
set_option maxRecDepth 100000
end Go.Proofs
end
-- HUk1e
section
namespace Go.Proofs
open Go Go.Rw
set_option maxRecDepth 100000
section
variable {P:Program}
end
end Go.Proofs
end
-- HUk2
section
namespace Go.Proofs
open Go Go.Rw
set_option maxRecDepth 100000
theorem nodes_set (l:List Nd) (i:Nat) (x:Nd):(qG l).set i (nA x)=qG (l.set i x):=by simp[qG,List.map_set]
end Go.Proofs
end
-- HAp5
section
namespace Go.Proofs
open Go Go.Rw
set_option maxRecDepth 100000
end Go.Proofs
end
-- HAw0
section
namespace Go.Proofs
open Go Go.Rw
set_option maxRecDepth 100000
inductive Un where
 | r
 | d
 | i (c:Nat)
 deriving DecidableEq
def size (c:Cp):Nat:=if c.k=2 then (cpts c.t).length else c.n.toNat
end Go.Proofs
end
-- HAw1
section
namespace Go.Proofs
open Go Go.Rw
set_option maxRecDepth 100000
def part (c:Cp) (dn m:Nat):Cp:=if c.k=2 then ⟨c.k,c.n,encs (((cpts c.t).drop dn).take m)⟩ else ⟨c.k,m,c.t⟩
def advR (c:Cp) (r:List Cp) (dn m:Nat):List Cp:=if dn+m=size c then r else c::r
def advD (c:Cp) (dn m:Nat):Nat:=if dn+m=size c then 0 else dn+m
end Go.Proofs
end
-- HAw2
section
namespace Go.Proofs
open Go Go.Rw
set_option maxRecDepth 100000
def adv (w:List Cp×Nat) (n:Nat):List Cp×Nat:=match w with
 | ([],a)=>([],a)
 | (c::r,a)=>(advR c r a n,advD c a n)
def piece (w:List Cp×Nat) (n:Nat):Cp:=match w with
 | ([],_)=>⟨0,0,[]⟩
 | (c::_,a)=>part c a n
end Go.Proofs
end
-- HAw3
section
namespace Go.Proofs
open Go Go.Rw
set_option maxRecDepth 100000
end Go.Proofs
end
-- HAw4
section
namespace Go.Proofs
open Go Go.Rw
set_option maxRecDepth 100000
end Go.Proofs
end
-- HAw5
section
namespace Go.Proofs
open Go Go.Rw
set_option maxRecDepth 100000
end Go.Proofs
end
-- HAw6
section
namespace Go.Proofs
open Go Go.Rw
set_option maxRecDepth 100000
end Go.Proofs
end
-- HAw7
section
namespace Go.Proofs
open Go Go.Rw
set_option maxRecDepth 100000
def edits (l:List (List Cp)):List AV:=l.map fun x=>.sl 0 3 (qA x)
end Go.Proofs
end
-- HAq1
section
namespace Go.Proofs
open Go Go.Rw
set_option maxRecDepth 100000
end Go.Proofs
end
-- HAw9
section
namespace Go.Proofs
open Go Go.Rw
set_option maxRecDepth 100000
end Go.Proofs
end
-- HUk3
section
namespace Go.Proofs
open Go Go.Rw
set_option maxRecDepth 100000
end Go.Proofs
end
-- HUk4
section
namespace Go.Proofs
open Go Go.Rw
set_option maxRecDepth 100000
theorem one_ok {a:Ac} (h:badA a=false):oneI a=if a.k=4 then qV a.ops else 0:=by rw[oneI,h];rfl
end Go.Proofs
end
-- HUk5
section
namespace Go.Proofs
open Go Go.Rw
set_option maxRecDepth 100000
end Go.Proofs
end
-- HUe5
section
namespace Go.Proofs
open Go Go.Rw
set_option maxRecDepth 100000
end Go.Proofs
end
-- HUeL
section
namespace Go.Proofs
open Go.Shelf
end Go.Proofs
end
-- HUe4
section
namespace Go.Proofs
open Go Go.Shelf Go.RowKit Go.Lib Go.Sort
set_option maxRecDepth 100000
end Go.Proofs
end
-- HUe3
section
namespace Go.Proofs
open Go Go.Rw
set_option maxRecDepth 100000
end Go.Proofs
end
-- HAx1
section
namespace Go.Proofs
open Go Go.Rw
set_option maxRecDepth 100000
end Go.Proofs
end
-- HAx2
section
namespace Go.Proofs
open Go Go.Rw
set_option maxRecDepth 100000
end Go.Proofs
end
-- HAx4
section
namespace Go.Proofs
open Go Go.Rw
set_option maxRecDepth 100000
end Go.Proofs
end
-- HUe6
section
namespace Go.Proofs
open Go Go.Rw
set_option maxRecDepth 100000
end Go.Proofs
end
-- HAw8
section
namespace Go.Proofs
open Go Go.Rw
set_option maxRecDepth 100000
end Go.Proofs
end
-- HAw10
section
namespace Go.Proofs
open Go Go.Rw
set_option maxRecDepth 100000
end Go.Proofs
end
-- HAx5
section
namespace Go.Proofs
open Go Go.Rw
set_option maxRecDepth 100000
end Go.Proofs
end
-- HAx3
section
namespace Go.Proofs
open Go Go.Rw
set_option maxRecDepth 100000
end Go.Proofs
end
-- HUe7
section
namespace Go.Proofs
open Go Go.Rw
set_option maxRecDepth 100000
end Go.Proofs
end
-- HUe8
section
namespace Go.Proofs
open Go Go.Rw
set_option maxRecDepth 100000
end Go.Proofs
end
-- HUe9
section
namespace Go.Proofs
open Go Go.Rw
set_option maxRecDepth 100000
end Go.Proofs
end
-- HUe10
section
namespace Go.Proofs
open Go Go.Rw
set_option maxRecDepth 100000
end Go.Proofs
end
-- HUe13
section
namespace Go.Proofs
open Go Go.Rw
set_option maxRecDepth 100000
end Go.Proofs
end
-- HUe14
section
namespace Go.Proofs
open Go Go.Rw
set_option maxRecDepth 100000
end Go.Proofs
end
-- HUn4
section
namespace Go.Proofs
open Go Go.Rw
set_option maxRecDepth 100000
end Go.Proofs
end
-- HUn5
section
namespace Go.Proofs
open Go Go.Rw
set_option maxRecDepth 100000
end Go.Proofs
end
-- HUn6
section
namespace Go.Proofs
open Go Go.Rw
set_option maxRecDepth 100000
structure Reb where
 out:List Ac
 left:List On
 e:Int
 deriving DecidableEq
theorem call_tcheck {Γ:Env} (hf:Γ.get 56=some kCX) {n:Nat} {t:Nat→AV} {hd:Nat→Nat→AV} {nh nl:Nat} {h:Nat→Option AO} {fm:Nat→Nat} {lv:Nat→Option (Nat×Nat)} {mu:Bool} {l:List Ac} {t1:Nat} {ys:List AV} {d:Option Nat} {K:AS→Prop} (hy:ys=acts l) (hl:l.length≤1000000) (ho:∀ a∈l,okA a)
    (hk:cont ⟨n,t,hd,⟨nh,h,nl,fm,lv,mu⟩⟩ d (.v (.int .i64 (txnE l))) K):kP Tryz.prog Γ false ⟨n,t,hd,⟨nh,h,nl,fm,lv,mu⟩⟩ 56 [.sl t1 6 ys] d K:=by
 subst hy
 exact kQ (C:=kCX) (i:=⟨l,hl,ho⟩) hf rfl rfl rfl (by simp[AV.erL,AV.er,j7]) (fun _ h=>h) rfl hk
end Go.Proofs
end
-- HUe11
section
namespace Go.Proofs
open Go Go.Rw
set_option maxRecDepth 100000
end Go.Proofs
end
-- HUk8
section
namespace Go.Proofs
open Go Go.Rw
set_option maxRecDepth 100000
def srtN (l:List Nd):Prop:=(l.map Nd.id).Pairwise (·< ·)
def atI (i:Int):List Nd→Option Nd
 | []=>none
 | x::l=>if x.id=i then some x else atI i l
theorem at_ndx (i:Int):∀ l:List Nd,atI i l=if ndx i l < l.length then some (l.getD (ndx i l) kBy) else none
 | []=>by simp [atI,ndx]
 | x::l=>by
   rw[atI,ndx,at_ndx i l]
   by_cases h:x.id=i
   ·simp[h]
   ·simp only[if_neg h,List.length_cons,Nat.add_lt_add_iff_right,List.getD_cons_succ]
theorem at_none {i:Int}:∀ {l:List Nd},(∀ x∈l,x.id≠i)→atI i l=none
 | [],_=>rfl
 | x::l,h=>by rw [atI,if_neg (h x (List.mem_cons_self ..)),at_none fun y hy=>h y (List.mem_cons_of_mem _ hy)]
theorem at_some {i:Int} {x:Nd}:∀ {l:List Nd},atI i l=some x→x∈l∧x.id=i
 | [],h=>by simp [atI] at h
 | y::l,h=>by
   rw[atI]at h
   split at h
   ·rename_i hy;cases h;exact ⟨List.mem_cons_self ..,hy⟩
   ·exact ⟨List.mem_cons_of_mem _ (at_some h).1,(at_some h).2⟩
theorem srt_cons {x:Nd} {l:List Nd}:srtN (x::l)↔(∀ y∈l,x.id < y.id)∧srtN l:=by
 simp only[srtN,List.map_cons,List.pairwise_cons,List.mem_map,forall_exists_index,and_imp,forall_apply_eq_imp_iff₂]
def insN (x:Nd):List Nd→List Nd
 | []=>[x]
 | y::l=>if y.id < x.id then y::insN x l else x::y::l
theorem ins_eq (x:Nd):∀ l:List Nd,l.take (atN x.id l)++x::l.drop (atN x.id l)=insN x l
 | []=>rfl
 | y::l=>by
   rw[atN,insN]
   split
   ·rw[List.take_succ_cons,List.drop_succ_cons,List.cons_append,ins_eq x l]
   ·simp
theorem ins_mem (x y:Nd):∀ l:List Nd,y∈insN x l→y=x∨y∈l
 | [],h=>.inl (by simpa [insN] using h)
 | z::l,h=>by
   rw[insN]at h
   split at h
   ·rcases List.mem_cons.1 h with h|h
    ·exact .inr (by simp[h])
    ·rcases ins_mem x y l h with h|h
     ·exact .inl h
     ·exact .inr (List.mem_cons_of_mem _ h)
   ·rcases List.mem_cons.1 h with h|h
    ·exact .inl h
    ·exact .inr h
theorem ins_srt (x:Nd):∀ l:List Nd,srtN l→(∀ y∈l,y.id≠x.id)→srtN (insN x l)
 | [],_,_=>by simp [insN,srtN]
 | y::l,h,hn=>by
   obtain ⟨h1,h2⟩:=srt_cons.1 h
   have hy:=hn y (List.mem_cons_self ..)
   rw[insN]
   split
   ·rename_i hlt
    refine srt_cons.2 ⟨fun z hz=>?_,ins_srt x l h2 fun z hz=>hn z (List.mem_cons_of_mem _ hz)⟩
    rcases ins_mem x z l hz with rfl|hz
    ·exact hlt
    ·exact h1 z hz
   ·refine srt_cons.2 ⟨fun z hz=>?_,h⟩
    rcases List.mem_cons.1 hz with rfl|hz
    ·omega
    ·have:=h1 z hz;omega
theorem ins_at (x:Nd) (i:Int):∀ l:List Nd,(∀ y∈l,y.id≠x.id)→atI i (insN x l)=if i=x.id then some x else atI i l
 | [],_=>by
   by_cases h:i=x.id
   ·rw[if_pos h,insN,atI,if_pos h.symm]
   ·rw[if_neg h,insN];simp[atI,Ne.symm h]
 | y::l,hn=>by
   have hy:=hn y (List.mem_cons_self ..)
   have ih:=ins_at x i l fun z hz=>hn z (List.mem_cons_of_mem _ hz)
   rw[insN]
   split
   ·rw[atI,ih,atI]
    by_cases h:i=x.id
    ·rw[if_neg (by rw[h];exact hy),if_pos h,if_pos h]
    ·rw[if_neg h,if_neg h]
   ·rw[atI]
    by_cases h:i=x.id
    ·rw[if_pos h.symm,if_pos h]
    ·rw[if_neg (Ne.symm h),if_neg h]
def delN (i:Int):List Nd→List Nd
 | []=>[]
 | x::l=>if x.id=i then l else x::delN i l
theorem del_eq (i:Int):∀ l:List Nd,l.take (ndx i l)++l.drop (ndx i l+1)=delN i l
 | []=>rfl
 | x::l=>by
   rw[ndx,delN]
   split
   ·simp
   ·rw[List.take_succ_cons,List.drop_succ_cons,List.cons_append,del_eq i l]
theorem del_mem (i:Int) (y:Nd):∀ l:List Nd,y∈delN i l→y∈l
 | [],h=>h
 | x::l,h=>by
   rw[delN]at h
   split at h
   ·exact List.mem_cons_of_mem _ h
   ·rcases List.mem_cons.1 h with h|h
    ·simp[h]
    ·exact List.mem_cons_of_mem _ (del_mem i y l h)
theorem del_srt (i:Int):∀ l:List Nd,srtN l→srtN (delN i l)
 | [],h=>h
 | x::l,h=>by
   obtain ⟨h1,h2⟩:=srt_cons.1 h
   rw[delN]
   split
   ·exact h2
   ·exact srt_cons.2 ⟨fun y hy=>h1 y (del_mem i y l hy),del_srt i l h2⟩
theorem del_at (k i:Int):∀ l:List Nd,srtN l→atI i (delN k l)=if i=k then none else atI i l
 | [],h=>by simp [delN,atI]
 | x::l,h=>by
   obtain ⟨h1,h2⟩:=srt_cons.1 h
   rw[delN]
   by_cases hx:x.id=k
   ·rw[if_pos hx,atI]
    by_cases hi:i=k
    ·rw[if_pos hi,at_none fun y hy=>by have:=h1 y hy;omega]
    ·rw[if_neg hi,if_neg (by omega)]
   ·rw[if_neg hx,atI,atI,del_at k i l h2]
    by_cases hi:i=k
    ·rw[if_neg (by omega),if_pos hi,if_pos hi]
    ·rw[if_neg hi,if_neg hi]
theorem set_srt {i:Int} {y:Nd} (hy:y.id=i):∀ l:List Nd,(l.set (ndx i l) y).map Nd.id=l.map Nd.id
 | []=>rfl
 | x::l=>by
   rw[ndx]
   split
   ·rename_i h;simp[hy,h]
   ·rw[List.set_cons_succ,List.map_cons,set_srt hy l,List.map_cons]
theorem set_at {k:Int} {y:Nd} (hy:y.id=k) (i:Int):∀ l:List Nd,ndx k l < l.length→atI i (l.set (ndx k l) y)=if i=k then some y else atI i l
 | [],h=>by simp [ndx] at h
 | x::l,h=>by
   rw[ndx]at h ⊢
   by_cases hx:x.id=k
   ·rw[if_pos hx,List.set_cons_zero,atI,atI]
    by_cases hi:i=k
    ·rw[if_pos hi,if_pos (by omega)]
    ·rw[if_neg hi,if_neg (by omega),if_neg (by omega)]
   ·rw[if_neg hx]at h ⊢
    rw[List.set_cons_succ,atI,atI,set_at hy i l (by simpa using h)]
    by_cases hi:i=k
    ·rw[if_neg (by omega),if_pos hi,if_pos hi]
    ·rw[if_neg hi,if_neg hi]
def kC6 (a:Ac) (o:Option Nd):Option Nd :=
 if a.k=1 then some ⟨a.id,a.par,a.nm,a.dir,[]⟩ else if a.k=2 then none
 else if a.k=3 then o.map fun x=>⟨x.id,a.par,a.nm,x.dir,x.text⟩ else o.map fun x=>⟨x.id,x.par,x.nm,x.dir,z6 x.text a.ops⟩
theorem kFH {l:List Nd} {a:Ac} (h:(doN l a).2=0) (hs:srtN l):srtN (doN l a).1∧∀ i,atI i (doN l a).1=if i=a.id then kC6 a (atI i l) else atI i l:=by
 have hid:ndx a.id l < l.length→(l.getD (ndx a.id l) kBy).id=a.id:=fun hl=>by
  rw[List.getD_eq_getElem?_getD,List.getElem?_eq_getElem hl];exact ndx_get a.id l hl
 have hset:∀ (y:Nd) (f:Nd→Nd),ndx a.id l < l.length→y=f (l.getD (ndx a.id l) kBy)→(∀ x,(f x).id=x.id)→srtN (l.set (ndx a.id l) y)∧∀ i,atI i (l.set (ndx a.id l) y)=if i=a.id then (atI i l).map f else atI i l:=fun y f hl hy hf=>by
  have e:y.id=a.id:=by rw[hy,hf,hid hl]
  refine ⟨by rw[srtN,set_srt e];exact hs,fun i=>?_⟩
  rw[set_at e i l hl]
  by_cases hi:i=a.id
  ·rw[if_pos hi,if_pos hi,hi,at_ndx,if_pos hl,hy];rfl
  ·rw[if_neg hi,if_neg hi]
 unfold doN at h ⊢
 simp only at h ⊢
 by_cases k1:a.k=1
 ·simp only[k1,if_true]at h ⊢
  by_cases c1:a.id < 1∨a.id > 1099511627776∨qY a.nm=false
  ·rw[if_pos c1]at h;simp at h
  rw[if_neg c1]at h ⊢
  by_cases c2:ndx a.id l < l.length
  ·rw[if_pos c2]at h;simp at h
  rw[if_neg c2]at h ⊢
  by_cases c3:jT l a.par a.nm 0≠0
  ·rw[if_pos c3]at h;exact absurd h c3
  rw[if_neg c3]at h ⊢
  by_cases c4:l.length ≥ 100
  ·rw[if_pos c4]at h;simp at h
  rw[if_neg c4]
  have hn:∀ y∈l,y.id≠a.id:=fun y hy e=>c2 ((ndx_mem a.id l).2 ⟨y,hy,e⟩)
  have e1:=ins_eq ⟨a.id,a.par,a.nm,a.dir,[]⟩ l
  simp only at e1 ⊢
  rw[e1]
  refine ⟨ins_srt _ l hs hn,fun i=>?_⟩
  rw[ins_at _ i l hn]
  simp only[kC6,k1,if_true]
 simp only[k1,if_false]at h ⊢
 by_cases k2:a.k=2
 ·simp only[k2,if_true]at h ⊢
  by_cases c1:¬ ndx a.id l < l.length
  ·rw[if_pos c1]at h;simp at h
  rw[if_neg c1]at h ⊢
  by_cases c2:(l.any fun y=>decide (y.par=a.id))=true
  ·rw[if_pos c2]at h;simp at h
  rw[if_neg c2]
  simp only
  rw[del_eq]
  refine ⟨del_srt _ l hs,fun i=>?_⟩
  rw[del_at _ i l hs]
  simp[kC6,k2]
 simp only[k2,if_false]at h ⊢
 by_cases k3:a.k=3
 ·simp only[k3,if_true]at h ⊢
  by_cases c1:qY a.nm=false
  ·rw[if_pos c1]at h;simp at h
  rw[if_neg c1]at h ⊢
  by_cases c2:¬ ndx a.id l < l.length
  ·rw[if_pos c2]at h;simp at h
  rw[if_neg c2]at h ⊢
  by_cases c3:jT l a.par a.nm a.id≠0
  ·rw[if_pos c3]at h;exact absurd h c3
  rw[if_neg c3]
  have:=hset _ (fun x=>⟨x.id,a.par,a.nm,x.dir,x.text⟩) (Decidable.not_not.1 c2) rfl (fun _=>rfl)
  simpa [kC6,k3] using this
 simp only[k3,if_false]at h ⊢
 by_cases k4:a.k=4
 ·simp only[k4,if_true]at h ⊢
  by_cases c2:¬ ndx a.id l < l.length
  ·rw[if_pos c2]at h;simp at h
  rw[if_neg c2]at h ⊢
  by_cases c1:(l.getD (ndx a.id l) kBy).dir=true
  ·rw[if_pos c1]at h;simp at h
  rw[if_neg c1]at h ⊢
  by_cases c3:errI (l.getD (ndx a.id l) kBy).text a.ops≠0
  ·rw[if_pos c3]at h;exact absurd h c3
  rw[if_neg c3]at h ⊢
  split at h
  ·simp at h
  rename_i c5
  rw[if_neg c5]
  have:=hset _ (fun x=>⟨x.id,x.par,x.nm,x.dir,z6 x.text a.ops⟩) (Decidable.not_not.1 c2) rfl (fun _=>rfl)
  simpa [kC6,k4] using this
 ·simp only[k4,if_false]at h
  simp at h
end Go.Proofs
end
-- HUn7
section
namespace Go.Proofs
open Go Go.Rw
set_option maxRecDepth 100000
end Go.Proofs
end
-- HUk11
section
namespace Go.Proofs
open Go Go.Rw
set_option maxRecDepth 100000
structure Cm where
 rev:Int
 client:Int
 seq:Int
 acs:List Ac
 deriving Inhabited,DecidableEq
def cmA (c:Cm):AV:=.agg [.v (.int .i64 c.rev),.v (.int .i64 c.client),.v (.int .i64 c.seq),.sl 0 6 (acts c.acs)]
def cms (l:List Cm):List AV:=l.map cmA
theorem zC (l:List Cm):(cms l).length=l.length:=by simp[cms]
theorem kCr:cms []=[]:=rfl
theorem cms_getD (l:List Cm) {i:Nat} (h:i < l.length):(cms l).getD i .any=cmA l[i]:=by simp[cms,List.getD_eq_getElem?_getD,h]
theorem cmA_er (c:Cm):(cmA c).er=cmA c:=by simp[cmA,AV.er,AV.erL,j7]
theorem cms_er:∀ l:List Cm,AV.erL (cms l)=cms l
 | []=>rfl
 | x::l=>by simp only [cms,List.map_cons,AV.erL,cmA_er];rw [show List.map cmA l=cms l from rfl,cms_er l]
abbrev okCm (c:Cm):Prop:=c.acs.length≤1000000∧∀ a∈c.acs,okA a
abbrev townCon:Con where
 ι:=ActsN
 args:=fun p=>[.sl 0 6 (acts p.1)]
 post:=fun p r=>r = .sl 0 6 (acts p.1)
theorem town_good:Rw.Good Tryz.prog 57 townCon:=by
 have hΓ:kM Tryz.prog [(80,kCU)]:=(kJ kFT kL)
 refine k6 (nn:=21) hΓ Tryz.func57 (by kernel_rfl) rfl (show Tryz.f57.results.toList=[.tmp 2] from rfl) (fun _=>rfl) (fun x=>by simp[AV.erL,AV.er,j7]) ?_
 rintro ⟨l,hl,ho⟩
 simp only[aR,seval,qF]
 obtain ⟨St,hSt⟩:∃ St:{ i:Nat // i≤l.length }→AS,∀ i,St i=AS.of 21 [(2,.sl 2 6 (acts (l.take i.1))),(5,.sl 0 6 (acts l)),(6,.v (.int .i64 l.length)),(7,.v (.int .i64 i.1))] [] [(i.1,55)]:=⟨_,fun _=>rfl⟩
 refine zA hΓ St (fun i=>l.length - i.1) ⟨0,by omega⟩ (by rw[hSt];refine kR [] [.nil 6] ?_;simp only[aR,seval,List.take_zero,acts,List.map_nil]<;>((repeat' apply And.intro)<;>first|rfl|omega|trivial)) ?_
 rintro ⟨i,hi⟩
 rw[hSt]
 simp only
 simp only[aR,seval,qF]
 (with_reducible first|refine kD (fun h=>?_) (fun h=>?_)|refine kH (fun h=>?_) (fun h=>?_))
 ·have hlt:i < l.length:=by omega
  have e1:=kAy l hlt
  have ha:=ho _ (List.getElem_mem hlt)
  have e2:acts (l.take (i+1))=acts (l.take i)++[aA l[i]]:=by
   show (l.take (i+1)).map aA=(l.take i).map aA++[aA l[i]]
   rw[List.take_succ_eq_append_getElem hlt,List.map_append];rfl
  generalize l[i]=a at *
  obtain ⟨k,id,par,nm,dir,ops⟩:=a
  simp only[aR,seval,h,e1,qF,aA]
  (repeat (with_reducible refine And.intro ?_ ?_;focus (first|omega|exact kE|kernel_rfl)))
  refine kFD (by simp[kG]) rfl ha.1 ?_
  simp only[aR,seval,qF,List.map_cons,List.map_nil,List.length_take,show min i l.length=i by omega,kC (n:=(i:Int)+1) (by omega) (by omega)]
  (repeat (with_reducible refine And.intro ?_ ?_;focus (first|omega|exact kE|kernel_rfl)))
  refine kO ⟨i+1,by omega⟩ (by simp only;omega) ?_
  rw[hSt];refine kR [] [.live 2] ?_
  simp only[aR,seval,e2,aA,qF,List.length_append,List.length_cons,List.length_nil,List.length_take,show min i l.length=i by omega]<;>((repeat' apply And.intro)<;>first|rfl|omega|trivial)
 ·simp only[aR,seval,h,show i=l.length by omega,List.take_length]
theorem call_town {Γ:Env} (hf:Γ.get 57=some townCon) {σ:AS} {dr:Bool} {l:List Ac} {ys:List AV} {d:Option Nat} {K:AS→Prop} (hy:ys=acts l) (hl:l.length≤1000000) (ho:∀ a∈l,okA a)
    (hk:cont σ d (.sl 0 6 (acts l)) K):kP Tryz.prog Γ dr σ 57 [.sl 0 6 ys] d K:=by
 subst hy
 exact jN (C:=townCon) (i:=⟨l,hl,ho⟩) (r:=.sl 0 6 (acts l)) hf rfl rfl (by simp[AV.erL,AV.er,j7]) rfl (fun _ h=>h) (by simp only[AV.er,j7];exact hk)
abbrev CmsN:={ l:List Cm // l.length≤1099511627776∧∀ c∈l,okCm c }
end Go.Proofs
end
-- HTh1
section
namespace Go.Proofs
open Go Go.Rw
structure Hs where
 rev:Int
 s:List Nd
 keep:Int
 l:List Cm
def addN (h:Hs) (c:Cm):Hs×Int :=
 if c.rev≠h.rev+1∨c.client < 1∨c.seq < 1 then (h,1)
 else if (allN h.s c.acs).e≠0 then (h,(allN h.s c.acs).e)
 else (⟨c.rev,(allN h.s c.acs).now,h.keep,(h.l++[c]).drop (h.l.length+1 - h.keep.toNat)⟩,0)
theorem allN_nil (s:List Nd) (h:txnE []=0):allN s []=⟨s,0,0⟩:=by simp[allN,h,allF]
def trC (rev:Int) (i:Nat):Cm:=⟨rev+i,1+(i:Int) % 4,i,[]⟩
def trL (rev:Int) (keep i:Nat):List Cm:=((List.range i).map fun j=>trC rev (j+1)).drop (i - keep)
theorem kDF (rev:Int) (keep i:Nat):(trL rev keep i).length=min i keep:=by simp[trL];omega
theorem trL_succ (rev:Int) (keep i:Nat) (hk:1≤keep):(trL rev keep i++[trC rev (i+1)]).drop ((trL rev keep i).length+1 - keep)=trL rev keep (i+1):=by
 rw[kDF]
 unfold trL
 rw[List.range_succ,List.map_append,List.map_cons,List.map_nil]
 by_cases h:i < keep
 ·rw[show i - keep=0 by omega,show min i keep+1 - keep=0 by omega,show i+1 - keep=0 by omega];simp only[List.drop_zero]
 ·rw[show min i keep+1 - keep=1 by omega,← List.drop_append_of_le_length (by simp),List.drop_drop,show i - keep+1=i+1 - keep by omega]
def trH (rev:Int) (keep i:Nat):Hs:=⟨rev+i,[],keep,trL rev keep i⟩
theorem tr_add (h0:txnE []=0) (rev:Int) (keep i:Nat) (hk:1≤keep):addN (trH rev keep i) (trC rev (i+1))=(trH rev keep (i+1),0):=by
 have hr:(trC rev (i+1)).rev=rev+i+1:=by simp only[trC];omega
 have hc:¬ ((trC rev (i+1)).rev≠(trH rev keep i).rev+1∨(trC rev (i+1)).client < 1∨(trC rev (i+1)).seq < 1):=by
  simp only[trC,trH];omega
 unfold addN
 rw[if_neg hc]
 have ha:(trC rev (i+1)).acs=[]:=rfl
 rw[ha,allN_nil _ h0,if_neg (by simp)]
 simp only[trH,Int.toNat_natCast,trL_succ rev keep i hk,hr,Prod.mk.injEq,and_true,Hs.mk.injEq,true_and]
 omega
theorem tr_not (rev:Int) (keep i:Nat):addN (trH rev keep (i+1)) ⟨rev+(i+1:Nat),1,(i+1:Nat),[]⟩=(trH rev keep (i+1),1):=by
 unfold addN
 rw[if_pos (.inl (by simp only[trH];omega))]
def ofN (l:List Cm) (k:Int):List Cm:=l.filter fun c=>decide (c.client=k)
theorem tr_of:∀ l:List Cm,(∀ c∈l,1≤c.client∧c.client≤4)→(ofN l 0).length+(ofN l 1).length+(ofN l 2).length+(ofN l 3).length+(ofN l 4).length+(ofN l 5).length=l.length
 | [],_=>rfl
 | c::r,h=>by
   have ih:=tr_of r fun x hx=>h x (List.mem_cons_of_mem _ hx)
   obtain ⟨h1,h2⟩:=h c (List.mem_cons_self ..)
   simp only[ofN,List.filter_cons,List.length_cons]at ih ⊢
   rcases (show c.client=1∨c.client=2∨c.client=3∨c.client=4 by omega) with e|e|e|e<;>simp[e]<;>omega
theorem trL_cl (rev:Int) (keep i:Nat):∀ c∈trL rev keep i,1≤c.client∧c.client≤4:=by
 intro c hc
 have:=List.mem_of_mem_drop hc
 obtain ⟨j,_,rfl⟩:=List.mem_map.1 this
 simp only[trC];omega
theorem tr_sum (rev:Int) (keep i:Nat):(ofN (trL rev keep i) 0).length+(ofN (trL rev keep i) 1).length+(ofN (trL rev keep i) 2).length+(ofN (trL rev keep i) 3).length+(ofN (trL rev keep i) 4).length+(ofN (trL rev keep i) 5).length=min i keep:=by
 rw[tr_of _ (trL_cl rev keep i),kDF]
end Go.Proofs
end
-- HUk9
section
namespace Go.Proofs
open Go Go.Rw
set_option maxRecDepth 100000
end Go.Proofs
end
-- HUk13
section
namespace Go.Proofs
open Go Go.Rw
set_option maxRecDepth 100000
end Go.Proofs
end
-- HTr0
section
namespace Go.Proofs
open Go Go.Rw
set_option maxRecDepth 100000
def nV (x:Nd):Value:=.agg #[.int .i64 x.id,.int .i64 x.par,sv x.nm,.bool x.dir,sv x.text]
def ents (l:List Nd):List (Int×Value):=l.map fun x=>(x.id,nV x)
def hasN (l:List Nd) (id:Int):Bool:=decide (ndx id l < l.length)
def gN (l:List Nd) (id:Int):Nd:=l.getD (ndx id l) kBy
theorem qR (l:List Nd) (id:Int):hasN l id=true↔ndx id l < l.length:=by simp[hasN]
theorem lk_ents (k:Int):∀ l:List Nd,lkG k (ents l)=if hasN l k=true then some (nV (gN l k)) else none
 | []=>rfl
 | x::l=>by
   have ih:=lk_ents k l
   rw[ents,List.map_cons,lkG,show List.map (fun x:Nd=>(x.id,nV x)) l=ents l from rfl,ih]
   by_cases h:x.id=k
   ·simp[h,hasN,ndx,gN]
   ·simp only[if_neg h,hasN,ndx,gN,List.length_cons,decide_eq_true_eq,Nat.add_lt_add_iff_right,List.getD_cons_succ]
def TM (es:Array MapEntry) (cl:Nat) (l:List Nd):Prop:=MapG es cl (ents l)∧srtN l
theorem zero_node:kAA Tryz.prog 82=some (nA kBy):=by kernel_rfl
theorem elem_node:kDG Tryz.prog 69=some 82:=by kernel_rfl
theorem kCB {es:Array MapEntry} {cl:Nat} {l:List Nd} (h:TM es cl l) (id:Int) (c:Bool):kCI Tryz.prog 69 (.int .i64) (.int .i64 id) es.toList c=some (kCu c (nA (gN l id)) (hasN l id)):=by
 rw[lkG_look h.1,lk_ents]
 by_cases hh:hasN l id=true
 ·rw[if_pos hh,hh];rfl
 ·rw[if_neg hh,elem_node]
  simp only[zero_node,Option.map_some]
  have e1:hasN l id=false:=by simpa using hh
  have e2:gN l id=kBy:=by
   unfold gN
   rw[List.getD_eq_getElem?_getD,List.getElem?_eq_none (by simp[hasN]at hh;omega)];rfl
  rw[e1,e2]
theorem kES {es:Array MapEntry} {cl:Nat} {l:List Nd} (h:TM es cl l):es.size=l.length:=by rw[h.1.size,ents,List.length_map]
theorem tm_empty:TM #[] 0 []:=⟨MapG.empty,by simp[srtN]⟩
def setT (x:Nd) (l:List Nd):List Nd:=if hasN l x.id=true then l.set (ndx x.id l) x else l.take (atN x.id l)++x::l.drop (atN x.id l)
theorem srt_mem {l:List Nd} (h:srtN l):(l.map Nd.id).Nodup:=by
 unfold srtN at h
 exact h.imp fun h1=>by omega
theorem ndx_self {x:Nd}:∀ {l:List Nd},(l.map Nd.id).Nodup→∀ i,l[i]? = some x→ndx x.id l=i
 | [],_,_,h=>by simp at h
 | y::l,hu,0,h=>by
   simp only[List.getElem?_cons_zero,Option.some.injEq]at h
   rw[ndx,if_pos (by rw[h])]
 | y::l,hu,i+1,h=>by
   simp only[List.getElem?_cons_succ]at h
   simp only[List.map_cons,List.nodup_cons]at hu
   rw[ndx,if_neg,ndx_self hu.2 i h]
   intro he
   apply hu.1
   rw[he]
   exact List.mem_map.2 ⟨x,List.mem_of_getElem? h,rfl⟩
theorem kCb {l:List Nd} {id:Int} (h:hasN l id=true):∃ hh:ndx id l < l.length,gN l id=l[ndx id l]∧(l[ndx id l]).id=id:=by
 have hh:=(qR l id).1 h
 refine ⟨hh,?_,ndx_get id l hh⟩
 unfold gN
 rw[List.getD_eq_getElem?_getD,List.getElem?_eq_getElem hh];rfl
theorem put_ents {l:List Nd} (hs:(l.map Nd.id).Nodup) (x:Nd):(putG x.id (nV x) (ents l)).Perm (ents (setT x l)):=by
 unfold putG setT
 rw[lk_ents]
 by_cases hh:hasN l x.id=true
 ·rw[if_pos hh,if_pos hh]
  obtain ⟨h1,h2,h3⟩:=kCb hh
  rw[if_pos (show (some (nV (gN l x.id))).isSome=true from rfl)]
  have hk:kAX (ents l):=by
   unfold kAX ents
   rw[List.map_map];exact hs
  have hat:(ents l)[ndx x.id l]? = some (x.id,nV l[ndx x.id l]):=by
   unfold ents
   rw[List.getElem?_map,List.getElem?_eq_getElem h1]
   simp[h3]
  rw[map_one hk hat]
  unfold ents
  rw[List.map_set]
 ·rw[if_neg hh,if_neg hh]
  simp only[Option.isSome_none,Bool.false_eq_true,if_false]
  unfold ents
  rw[List.map_append,List.map_cons]
  have e:l.map (fun x=>(x.id,nV x))=(l.take (atN x.id l)).map (fun x=>(x.id,nV x))++(l.drop (atN x.id l)).map (fun x=>(x.id,nV x)):=by
   rw[← List.map_append,List.take_append_drop]
  rw[e]
  refine (List.perm_append_comm).trans ?_
  simp only[List.singleton_append]
  exact List.perm_middle.symm
theorem ndx_ids {l:List Nd} {k:Int} (h:¬ ndx k l < l.length):∀ x∈l,x.id≠k:=fun x hx he=>h ((ndx_mem k l).2 ⟨x,hx,he⟩)
theorem atN_lo {k:Int}:∀ (l:List Nd),∀ x∈l.take (atN k l),x.id < k
 | [],x,h=>by simp [atN] at h
 | y::l,x,h=>by
   rw[atN]at h
   split at h
   ·rename_i hy
    rw[List.take_succ_cons]at h
    rcases List.mem_cons.1 h with rfl|h1
    ·exact hy
    ·exact atN_lo l x h1
   ·simp at h
theorem atN_hi {k:Int}:∀ (l:List Nd),srtN l→∀ x∈l.drop (atN k l),k≤x.id
 | [],_,x,h=>by simp at h
 | y::l,hs,x,h=>by
   simp only[srtN,List.map_cons,List.pairwise_cons]at hs
   rw[atN]at h
   split at h
   ·rw[List.drop_succ_cons]at h
    exact atN_hi l hs.2 x h
   ·rename_i hy
    simp only[List.drop_zero]at h
    rcases List.mem_cons.1 h with rfl|h1
    ·omega
    ·have:=hs.1 x.id (List.mem_map.2 ⟨x,h1,rfl⟩);omega
theorem srt_put {l:List Nd} (hs:srtN l) (x:Nd):srtN (setT x l):=by
 unfold setT
 split
 ·rename_i hh
  obtain ⟨h1,h2,h3⟩:=kCb hh
  unfold srtN at hs ⊢
  rw[List.map_set]
  have:(l.map Nd.id).set (ndx x.id l) x.id=l.map Nd.id:=by
   apply List.ext_getElem (by simp)
   intro j h4 h5
   rw[List.getElem_set]
   split
   ·rename_i hij;subst hij;simp[h3]
   ·rfl
  rw[this];exact hs
 ·rename_i hh
  have hne:=ndx_ids (k:=x.id) (l:=l) (by simpa [hasN] using hh)
  unfold srtN
  rw[List.map_append,List.map_cons,List.pairwise_append]
  have hsub:∀ {m:List Nd},m.Sublist l→(m.map Nd.id).Pairwise (·< ·):=fun h=>List.Pairwise.sublist (h.map _) hs
  refine ⟨hsub (List.take_sublist _ _),?_,?_⟩
  ·rw[List.pairwise_cons]
   refine ⟨fun a ha=>?_,hsub (List.drop_sublist _ _)⟩
   obtain ⟨y,hy,rfl⟩:=List.mem_map.1 ha
   have h1:=atN_hi l hs y hy
   have h2:=hne y (List.mem_of_mem_drop hy)
   omega
  ·intro a ha b hb
   obtain ⟨y,hy,rfl⟩:=List.mem_map.1 ha
   have h1:=atN_lo l y hy
   rcases List.mem_cons.1 hb with rfl|hb
   ·exact h1
   ·obtain ⟨z,hz,rfl⟩:=List.mem_map.1 hb
    have h2:=atN_hi l hs z hz
    omega
theorem put_tm {es:Array MapEntry} {cl:Nat} {l:List Nd} (h:TM es cl l) (x:Nd):∃ es' cl',updO (.int .i64) (.int .i64 x.id) (nV x) (some (.map es cl))=some (.map es' cl')∧TM es' cl' (setT x l):=by
 obtain ⟨es',cl',h1,h2⟩:=h.1.upd (j:=.i64) x.id (nV x)
 exact ⟨es',cl',h1,h2.perm (put_ents (srt_mem h.2) x),srt_put h.2 x⟩
def offT (id:Int) (l:List Nd):List Nd:=l.take (ndx id l)++l.drop (ndx id l+1)
theorem kFN {id:Int}:∀ {l:List Nd},(l.map Nd.id).Nodup→offT id l=l.filter fun x=>x.id≠id
 | [],_=>rfl
 | y::l,hu=>by
   simp only[List.map_cons,List.nodup_cons]at hu
   have ih:=kFN (id:=id) hu.2
   unfold offT at ih ⊢
   rw[ndx]
   by_cases h:y.id=id
   ·rw[if_pos h,List.filter_cons_of_neg (by simp[h])]
    simp only[List.take_zero,List.nil_append,Nat.zero_add,List.drop_succ_cons,List.drop_zero]
    symm
    rw[List.filter_eq_self]
    intro z hz
    simp only[ne_eq,decide_not,Bool.not_eq_eq_eq_not,Bool.not_true,decide_eq_false_iff_not]
    intro hk
    apply hu.1
    rw[h,← hk]
    exact List.mem_map.2 ⟨z,hz,rfl⟩
   ·rw[if_neg h,List.filter_cons_of_pos (by simpa using h),List.take_succ_cons,List.drop_succ_cons,List.cons_append,ih]
theorem off_tm {es:Array MapEntry} {cl:Nat} {l:List Nd} (h:TM es cl l) (id:Int):∃ es' cl',delO (.int .i64) (.int .i64 id) (some (.map es cl))=some (.map es' cl')∧TM es' cl' (offT id l):=by
 obtain ⟨es',cl',h1,h2⟩:=h.1.del (j:=.i64) id
 rw[kFN (srt_mem h.2)]
 refine ⟨es',cl',h1,?_,List.Pairwise.sublist (List.Sublist.map _ List.filter_sublist) h.2⟩
 have e:delG id (ents l)=ents (l.filter fun x=>x.id≠id):=by
  unfold delG ents
  rw[List.filter_map];rfl
 rw[← e];exact h2
end Go.Proofs
end
-- HTr1
section
namespace Go.Proofs
open Go Go.Rw
set_option maxRecDepth 100000
abbrev tnewCon:ConO where
 ι:=Unit
 objs:=fun _=>[]
 args:=fun _=>[]
 post:=fun _ objs lvs r=>objs=[.cells [.mp 1],.map #[] 0]∧lvs=[]∧r = .ptr 0 0
theorem tnew_good:jX Tryz.prog 9 tnewCon:=by
 have hΓ:kM Tryz.prog []:=kL
 refine qQ (nn:=4) Tryz.func9 (by kernel_rfl) rfl (show Tryz.f9.results.toList=[.tmp 0] from rfl) (fun _=>rfl) ?_
 rintro ⟨⟩
 refine qN hΓ (Ws:=[]) _ ?_
 simp only[aR,seval,kA,kB,]
 refine kV [1,0] [] [.cells [.mp 1],.map #[] 0] [] (.ptr 0 0) ⟨rfl,rfl,rfl⟩ ?_
 simp only[aR,seval,kA,kB,]<;>((repeat' apply And.intro)<;>first|rfl|omega|trivial)
structure TS where
 es:Array MapEntry
 cl:Nat
 l:List Nd
 h:TM es cl l
def tsO:Option TS→List AO
 | none=>[]
 | some s=>[.cells [.mp 1],.map s.es s.cl]
def tsA:Option TS→AV
 | none=>.v (.pointer none)
 | some _=>.ptr 0 0
def tsL:Option TS→List Nd
 | none=>[]
 | some s=>s.l
theorem tsO_none:tsO none=[]:=rfl
theorem tsO_some {s:TS}:tsO (some s)=[.cells [.mp 1],.map s.es s.cl]:=rfl
theorem tsA_none:tsA none = .v (.pointer none):=rfl
theorem tsA_some {s:TS}:tsA (some s) = .ptr 0 0:=rfl
def kF:=(And.intro @tsO_none (And.intro @tsO_some (And.intro @tsA_none @tsA_some)))
def dirI (l:List Nd) (par:Int):Int:=if par=0 then 0 else if hasN l par=true then (if (gN l par).dir=true then 0 else 8) else 5
abbrev tdirCon:ConO where
 ι:=TS×Int
 objs:=fun p=>tsO (some p.1)
 args:=fun p=>[.ptr 0 0,.v (.int .i64 p.2)]
 post:=fun p objs lvs r=>objs=tsO (some p.1)∧lvs=[]∧r = .v (.int .i64 (dirI p.1.l p.2))
theorem tdir_good:jX Tryz.prog 69 tdirCon:=by
 have hΓ:kM Tryz.prog []:=kL
 refine qQ (nn:=26) Tryz.func69 (by kernel_rfl) rfl (show Tryz.f69.results.toList=[.tmp 4] from rfl) (fun _=>rfl) ?_
 rintro ⟨s,par⟩
 refine qN hΓ (Ws:=[]) _ ?_
 have e1:=kCB s.h
 have fin:∀ {σ:AS} {v:Int},dirI s.l par=v→RetG tdirCon (s,par) σ [.v (.int .i64 v)]→RetG tdirCon (s,par) σ [.v (.int .i64 (dirI s.l par))]:=fun h1 h2=>by rw[h1];exact h2
 simp only[aR,seval,kA,kB,kF,e1,nA]
 (repeat (with_reducible refine And.intro ?_ ?_;focus (first|omega|exact kE|kernel_rfl)))
 by_cases h1:par=0
 ·simp only[aR,seval,kA,kB,kF,e1,nA,h1]
  refine kV [0,1] [] (tsO (some s)) [] (.v (.int .i64 0)) ⟨rfl,rfl,by simp[dirI]⟩ ?_
  simp only[aR,seval,kA,kB,kF,nA]<;>((repeat' apply And.intro)<;>first|rfl|omega|trivial)
 cases h2:hasN s.l par
 ·simp only[aR,seval,kA,kB,kF,e1,nA,h1,h2]
  refine kV [0,1] [] (tsO (some s)) [] (.v (.int .i64 5)) ⟨rfl,rfl,by simp[dirI,h1,h2]⟩ ?_
  simp only[aR,seval,kA,kB,kF,nA]<;>((repeat' apply And.intro)<;>first|rfl|omega|trivial)
 cases h3:(gN s.l par).dir
 ·simp only[aR,seval,kA,kB,kF,e1,nA,h1,h2,h3]
  refine kV [0,1] [] (tsO (some s)) [] (.v (.int .i64 8)) ⟨rfl,rfl,by simp[dirI,h1,h2,h3]⟩ ?_
  simp only[aR,seval,kA,kB,kF,nA]<;>((repeat' apply And.intro)<;>first|rfl|omega|trivial)
 ·simp only[aR,seval,kA,kB,kF,e1,nA,h1,h2,h3]
  refine kV [0,1] [] (tsO (some s)) [] (.v (.int .i64 0)) ⟨rfl,rfl,by simp[dirI,h1,h2,h3]⟩ ?_
  simp only[aR,seval,kA,kB,kF,nA]<;>((repeat' apply And.intro)<;>first|rfl|omega|trivial)
end Go.Proofs
end
