/-
  A transaction,done on a copy of a tree. The IDs of a transaction's acts,by a map. law14: what the document fixes. Is a tree qV. Whose qI a transaction touches. What the document fixes of rebase. RebaseApart answers true. law14: small; TxnAsks answers true. TxnAsks answers true. Acts,and what was done,given: opened. A transaction behind commits. How much a message is,where it bears commits alone. A tree given,commits given: opened. Acts given,their numbers within bounds: opened. From the laws' functions to their rows: the tables as they are laid; a world for the witness.
-/
import Derived.Test.YtfhipjafkdembaaGreatDoorXETr7
import Derived.Test.YtfhipjafkdembaaGreatDoorXEUk4
import Derived.Test.YtfhipjafkdembaaGreatDoorRwO
import Derived.Test.YtfhipjafkdembaaGreatDoorXESh
import Derived.Test.YtfhipjafkdembaaGreatDoorRwI
import Derived.Test.YtfhipjafkdembaaGreatDoorRwG
import Derived.Test.YtfhipjafkdembaaGreatDoorCards
import Derived.Test.YtfhipjafkdembaaGreatDoorTie
import Derived.Lib.LaidIn
import Derived.Lib.LaidU8T
import Derived.Deep.DeepHandedRow
import Derived.Deep.DeepWitnessRowRef
import Derived.ProofKit
import Derived.OpenShut
import Derived.SizedLaws
import Derived.SevenTiedAt
set_option linter.unusedSimpArgs false
set_option linter.unusedVariables false
set_option linter.defProp false
set_option linter.unusedSectionVars false

-- ETr13
section
namespace Go.Proofs
open Go Go.Rw
open _root_.Nat renaming reduceAdd → N0, reduceSub → N1, reduceMul → N2, reduceLT → N3, reduceLeDiff → N4, reduceEqDiff → N5
open _root_.Int renaming reduceNeg → Z0, reduceAdd → Z1, reduceSub → Z2, reduceMul → Z3, reduceGT → Z4, reduceGE → Z5, reduceLT → Z6, reduceLE → Z7, reduceEq → Z8, reduceNe → Z9, reduceToNat → Z10, cast_ofNat_Int → Zc
set_option maxRecDepth 100000
theorem valid_len {t:List UInt8} (h:(pts t).isSome=true):t.length≤4 * cnt t:=by
  rw [kBl]
  have:=kFQ (cs:=cpts t)
  rwa [(kB9 h).1] at this
theorem snd_ok {l:List Nd} (S:sndN l):trOk l:=by
  have hl:=S.len
  refine ⟨⟨by omega,fun x hx=>?_⟩,fun x hx=>(S.node x hx).id.1,?_,fun x hx=>?_⟩
  · have:=(S.node x hx).id; omega
  · have:=S.tot; omega
  · have:=valid_len (S.node x hx).valid
    have:=(S.node x hx).cnt; omega
theorem snd_doOk {l:List Nd} (S:sndN l) {a:Ac} (ho:okA a):doOk l a:=⟨snd_ok S,snd_rt S,ho.2,ho.1⟩
def txnP (s:TS) (l:List Ac) (objs:List AO) (lvs:List (Nat×Nat)) (r:AV):Prop :=
  lvs=[]∧((allN s.l l).e=0∧(∃ s':TS,s'.l=(allN s.l l).now∧sndN s'.l∧objs=tsO (some s)++[.cells [.mp 3],.map s'.es s'.cl])∧r = .tup [.ptr 2 0,.v (.int .i64 (allN s.l l).n),.v (.int .i64 0)] ∨
    (allN s.l l).e≠0∧objs=tsO (some s)∧r = .tup [.v (.pointer none),.v (.int .i64 (allN s.l l).n),.v (.int .i64 (allN s.l l).e)])
abbrev ttxnCon:ConO where
  ι:={ p:TS×List Ac // sndN p.1.l∧p.2.length≤1000000∧∀ a∈p.2,okA a }
  objs:=fun p=>tsO (some p.1.1)
  args:=fun p=>[.ptr 0 0,.sl 0 6 (acts p.1.2)]
  post:=fun p=>txnP p.1.1 p.1.2
theorem allF_cons (t:List Nd) (a:Ac) (r:List Ac) (n:Nat):allF t (a::r) n=if (doN t a).2≠0 then ⟨[],n,(doN t a).2⟩ else allF (doN t a).1 r (n+1):=rfl
set_option maxHeartbeats 2000000 in
theorem ttxn_good:kAY Tryz.prog 46 ttxnCon:=by
  have hΓ:kL Tryz.prog [(35,z7)]:=(kH kCS kJ)
  refine zG (nn:=33) Tryz.func46 (by kernel_rfl) rfl (show Tryz.f46.results.toList=[.tmp 4,.tmp 5,.tmp 6] from rfl) (fun _=>rfl) ?_
  rintro ⟨⟨s,l⟩,hS,hl,ho⟩
  simp only at hS hl ho
  refine qX hΓ (Ws:=[]) _ ?_
  simp only [aR,N0,N1,N2,N3,N4,N5,Z0,Z1,Z2,Z3,Z4,Z5,Z6,Z7,Z8,Z9,Z10,Zc,↓reduceIte,reduceCtorEq,kB,kC,kG]
  refine vcM_sc ?_
  refine vc_scopeM [] hΓ 1 ?_
  simp only [aR,N0,N1,N2,N3,N4,N5,Z0,Z1,Z2,Z3,Z4,Z5,Z6,Z7,Z8,Z9,Z10,Zc,↓reduceIte,reduceCtorEq,kB,kC,kG]
  (repeat (with_reducible refine And.intro ?_ ?_; focus (first | omega | exact kF | kernel_rfl)))
  refine kEn (by simp [kI]) rfl hl ho ?_
  by_cases hc:txnE l=0
  case neg =>
    have e0:allN s.l l=⟨[],-1,txnE l⟩:=by unfold allN; rw [if_pos hc]
    simp only [aR,N0,N1,N2,N3,N4,N5,Z0,Z1,Z2,Z3,Z4,Z5,Z6,Z7,Z8,Z9,Z10,Zc,↓reduceIte,reduceCtorEq,kB,kC,kG,hc]
    (repeat (with_reducible refine And.intro ?_ ?_; focus (first | omega | exact kF | kernel_rfl)))
    refine kZ [0,1] [] (tsO (some s)) [] (.tup [.v (.pointer none),.v (.int .i64 (-1)),.v (.int .i64 (txnE l))]) ⟨rfl,.inr ⟨by rw [e0]; exact hc,rfl,by rw [e0]⟩⟩ ?_
    simp only [aR,N0,N1,N2,N3,N4,N5,Z0,Z1,Z2,Z3,Z4,Z5,Z6,Z7,Z8,Z9,Z10,Zc,↓reduceIte,reduceCtorEq,kB,kC,kG] <;> ((repeat' apply And.intro) <;> first | rfl | omega | trivial)
  have e0:allN s.l l=allF s.l l 0:=by unfold allN; rw [if_neg (fun hh=>hh hc)]
  simp only [aR,N0,N1,N2,N3,N4,N5,Z0,Z1,Z2,Z3,Z4,Z5,Z6,Z7,Z8,Z9,Z10,Zc,↓reduceIte,reduceCtorEq,kB,kC,kG,hc]
  (repeat (with_reducible refine And.intro ?_ ?_; focus (first | omega | exact kF | kernel_rfl)))
  refine call_tcopy (s:=s) (o:=0) (ob:=1) (by simp [kI,k9]) (by simp [zF]) ?_
  simp only [aR,N0,N1,N2,N3,N4,N5,Z0,Z1,Z2,Z3,Z4,Z5,Z6,Z7,Z8,Z9,Z10,Zc,↓reduceIte,reduceCtorEq,kB,kC,kG,kS]
  (repeat (with_reducible refine And.intro ?_ ?_; focus (first | omega | exact kF | kernel_rfl)))
  obtain ⟨St,hSt⟩:∃ St:{ p:Nat×TS // p.1≤l.length∧sndN p.2.l∧allF s.l l 0=allF p.2.l (l.drop p.1) p.1 }→AS,∀ p,St p=AS.ofH 33 [(1,.sl 0 6 (acts l)),(4,.ptr 2 0),(15,.v (.int .i64 l.length)),(16,.v (.int .i64 p.1.1))] [(0,.ptr 0 0),(1,.mp 1)] (tsO (some s)++[.cells [.mp 3],.map p.1.2.es p.1.2.cl]) []:=⟨_,fun _=>rfl⟩
  refine kEb ?_
  refine kBF [] hΓ St (fun p=>l.length - p.1.1) ⟨(0,s),by omega,hS,rfl⟩ (by rw [hSt]; refine zJ [0,1,2,3] [] ?_; simp only [aR,N0,N1,N2,N3,N4,N5,Z0,Z1,Z2,Z3,Z4,Z5,Z6,Z7,Z8,Z9,Z10,Zc,↓reduceIte,reduceCtorEq,kB,kC,kG,kS,List.cons_append,List.nil_append] <;> ((repeat' apply And.intro) <;> first | rfl | omega | trivial)) ?_
  rintro ⟨⟨i,s'⟩,hi,hS',hf⟩
  simp only at hi hS' hf
  rw [hSt]
  simp only
  simp only [aR,N0,N1,N2,N3,N4,N5,Z0,Z1,Z2,Z3,Z4,Z5,Z6,Z7,Z8,Z9,Z10,Zc,↓reduceIte,reduceCtorEq,kB,kC,kG,kS,List.cons_append,List.nil_append]
  (with_reducible first | refine kD (fun h=>?_) (fun h=>?_) | refine kE (fun h=>?_) (fun h=>?_))
  · have hlt:i < l.length:=by omega
    have e1:=zD l hlt
    have hoa:=ho l[i] (List.getElem_mem hlt)
    rw [List.drop_eq_getElem_cons hlt,allF_cons] at hf
    generalize l[i]=a at *
    simp only [aR,N0,N1,N2,N3,N4,N5,Z0,Z1,Z2,Z3,Z4,Z5,Z6,Z7,Z8,Z9,Z10,Zc,↓reduceIte,reduceCtorEq,kB,kC,kG,h,e1,kS,aA]
    (repeat (with_reducible refine And.intro ?_ ?_; focus (first | omega | exact kF | kernel_rfl)))
    refine kCx (s:=s') (o:=2) (ob:=3) (q:=dotN s'.l a) tdo_good (by simp [kI,k9]) ⟨(s',a),snd_doOk hS' hoa⟩ rfl (by simp [zF]) (by simp [dnL,dn,aA]) (by simp [AV.tagsL,AV.tags]) (fun _ _ _ hp=>hp) ?_
    rw [dot_eq hS']
    intro s'' hs
    have hS2:sndN s''.l:=by rw [hs]; exact snd_do hS' a
    by_cases he:(doN s'.l a).2=0
    · rw [if_neg (fun hh=>hh he),← hs] at hf
      simp only [aR,N0,N1,N2,N3,N4,N5,Z0,Z1,Z2,Z3,Z4,Z5,Z6,Z7,Z8,Z9,Z10,Zc,↓reduceIte,reduceCtorEq,kB,kC,kG,he,kA (n:=(i:Int)+1) (by omega) (by omega)]
      (repeat (with_reducible refine And.intro ?_ ?_; focus (first | omega | exact kF | kernel_rfl)))
      refine kO ⟨(i+1,s''),by simp only; omega,hS2,hf⟩ (by simp only; omega) ?_
      rw [hSt]; refine zJ [0,1,2,3] [] ?_
      simp only [aR,N0,N1,N2,N3,N4,N5,Z0,Z1,Z2,Z3,Z4,Z5,Z6,Z7,Z8,Z9,Z10,Zc,↓reduceIte,reduceCtorEq,kB,kC,kG,List.cons_append,List.nil_append] <;> ((repeat' apply And.intro) <;> first | rfl | omega | trivial)
    · rw [if_pos he,← e0] at hf
      simp only [aR,N0,N1,N2,N3,N4,N5,Z0,Z1,Z2,Z3,Z4,Z5,Z6,Z7,Z8,Z9,Z10,Zc,↓reduceIte,reduceCtorEq,kB,kC,kG,he]
      (repeat (with_reducible refine And.intro ?_ ?_; focus (first | omega | exact kF | kernel_rfl)))
      refine ⟨_,rfl,?_⟩
      simp only [aR,N0,N1,N2,N3,N4,N5,Z0,Z1,Z2,Z3,Z4,Z5,Z6,Z7,Z8,Z9,Z10,Zc,↓reduceIte,reduceCtorEq,kB,kC,kG,he]
      (repeat (with_reducible refine And.intro ?_ ?_; focus (first | omega | exact kF | kernel_rfl)))
      refine kZ [0,1] [] (tsO (some s)) [] (.tup [.v (.pointer none),.v (.int .i64 i),.v (.int .i64 (doN s'.l a).2)]) ⟨rfl,.inr ⟨by rw [hf]; exact he,rfl,by rw [hf]⟩⟩ ?_
      simp only [aR,N0,N1,N2,N3,N4,N5,Z0,Z1,Z2,Z3,Z4,Z5,Z6,Z7,Z8,Z9,Z10,Zc,↓reduceIte,reduceCtorEq,kB,kC,kG] <;> ((repeat' apply And.intro) <;> first | rfl | omega | trivial)
  · have hi2:i=l.length:=by omega
    subst hi2
    rw [List.drop_length,allF,← e0] at hf
    simp only [aR,N0,N1,N2,N3,N4,N5,Z0,Z1,Z2,Z3,Z4,Z5,Z6,Z7,Z8,Z9,Z10,Zc,↓reduceIte,reduceCtorEq,kB,kC,kG,h,kS]
    (repeat (with_reducible refine And.intro ?_ ?_; focus (first | omega | exact kF | kernel_rfl)))
    refine kZ [0,1,2,3] [] (tsO (some s)++[.cells [.mp 3],.map s'.es s'.cl]) [] (.tup [.ptr 2 0,.v (.int .i64 l.length),.v (.int .i64 0)]) ⟨rfl,.inl ⟨by rw [hf],⟨s',by rw [hf],hS',rfl⟩,by rw [hf]⟩⟩ ?_
    simp only [aR,N0,N1,N2,N3,N4,N5,Z0,Z1,Z2,Z3,Z4,Z5,Z6,Z7,Z8,Z9,Z10,Zc,↓reduceIte,reduceCtorEq,kB,kC,kG,List.cons_append,List.nil_append] <;> ((repeat' apply And.intro) <;> first | rfl | omega | trivial)
end Go.Proofs
end
-- ETr14
section
namespace Go.Proofs
open Go Go.Rw
open _root_.Nat renaming reduceAdd → N0, reduceSub → N1, reduceMul → N2, reduceLT → N3, reduceLeDiff → N4, reduceEqDiff → N5
open _root_.Int renaming reduceNeg → Z0, reduceAdd → Z1, reduceSub → Z2, reduceMul → Z3, reduceGT → Z4, reduceGE → Z5, reduceLT → Z6, reduceLE → Z7, reduceEq → Z8, reduceNe → Z9, reduceToNat → Z10, cast_ofNat_Int → Zc
set_option maxRecDepth 100000
theorem bkI_hi (x:Int) (l:List Int):∀ k,k≤l.length→∀ j,bkI x l k≤j→(h:j < l.length)→j < k→l[j] > x
  | 0,_,j,_,_,h=>by omega
  | k+1,hk,j,hb,hl,hj=>by
    rw [bkI] at hb
    split at hb
    · rename_i h1
      by_cases hjk:j < k
      · exact bkI_hi x l k (by omega) j hb hl hjk
      · have:j=k:=by omega
        subst this
        rwa [List.getD_eq_getElem?_getD,List.getElem?_eq_getElem hl] at h1
    · omega
theorem bkI_lo (x:Int) (l:List Int):∀ k,k≤l.length→0 < bkI x l k→l.getD (bkI x l k - 1) 0≤x
  | 0,_,h=>by rw [bkI] at h; omega
  | k+1,hk,h=>by
    rw [bkI] at h ⊢
    split at h
    · rename_i h1
      rw [if_pos h1]; exact bkI_lo x l k (by omega) h
    · rename_i h1
      rw [if_neg h1]
      simp only [Nat.add_sub_cancel]; omega
def risI (l:List Int):Prop:=l.Pairwise (· < ·)
theorem insI_ris {l:List Int} (h:risI l) (x:Int):risI (insI l x):=by
  have hb:=bkI_le x l l.length
  unfold insI
  split
  · exact h
  · rename_i hn
    have hlo:=bkI_lo x l l.length (Nat.le_refl _)
    have hhi:=bkI_hi x l l.length (Nat.le_refl _)
    generalize bkI x l l.length=b at *
    unfold risI at *
    have h0:=h
    rw [← List.take_append_drop b l,List.pairwise_append] at h
    obtain ⟨h1,h2,h3⟩:=h
    have hd:∀ y∈l.drop b,x < y:=fun y hy=>by
      obtain ⟨j,hj,rfl⟩:=List.getElem_of_mem hy
      simp only [List.length_drop] at hj
      rw [List.getElem_drop]
      exact hhi (b+j) (by omega) (by omega) (by omega)
    have ht:∀ y∈l.take b,y < x:=fun y hy=>by
      obtain ⟨j,hj,rfl⟩:=List.getElem_of_mem hy
      simp only [List.length_take] at hj
      rw [List.getElem_take]
      have h4:0 < b:=by omega
      have h5:=hlo h4
      have h6:l.getD (b - 1) 0=l[b - 1]'(by omega):=by rw [List.getD_eq_getElem?_getD,List.getElem?_eq_getElem (by omega)]; rfl
      have h7:l.getD (b - 1) 0≠x:=fun hc=>hn ⟨h4,hc⟩
      rw [h6] at h5 h7
      by_cases hj2:j=b - 1
      · subst hj2; omega
      · have:=List.pairwise_iff_getElem.1 h0 j (b - 1) (by omega) (by omega) (by omega)
        omega
    rw [List.pairwise_append,List.pairwise_cons]
    refine ⟨h1,⟨hd,h2⟩,fun y hy z hz=>?_⟩
    rcases List.mem_cons.1 hz with rfl | hz
    · exact ht y hy
    · have:=ht y hy; have:=hd z hz; omega
theorem fold_ris:∀ (xs:List Int) {l:List Int},risI l→risI (xs.foldl insI l)
  | [],l,h=>h
  | x::xs,l,h=>fold_ris xs (insI_ris h x)
theorem touch_ris:∀ (l:List Ac) {out:List Int},risI out→risI (jP out l)
  | [],out,h=>h
  | a::l,out,h=>touch_ris l (fold_ris _ h)
theorem ris_ext {a b:List Int} (ha:risI a) (hb:risI b) (h:∀ x,x∈a↔x∈b):a=b:=by
  have na:a.Nodup:=ha.imp fun h=>by omega
  have nb:b.Nodup:=hb.imp fun h=>by omega
  exact List.Perm.eq_of_pairwise (le:=(· < ·)) (fun x y _ _ h1 h2=>by omega) ha hb ((List.perm_ext_iff_of_nodup na nb).2 h)
theorem keys_ris {ps:List (Int×Value)} (h:kAZ ps):risI (zZ ps):=by
  have h1:(zZ ps).Pairwise fun x y=>decide (x≤y)=true:=List.pairwise_mergeSort (fun a b c h1 h2=>by simp only [decide_eq_true_eq] at *; omega) (fun a b=>by simp only [Bool.or_eq_true,decide_eq_true_eq]; omega) _
  have h2:(zZ ps).Nodup:=(List.mergeSort_perm _ _).nodup_iff.2 h
  unfold risI
  refine (List.pairwise_and_iff.2 ⟨h1,h2⟩).imp fun hh=>?_
  have:=of_decide_eq_true hh.1
  have:=hh.2
  omega
theorem keys_mem {ps:List (Int×Value)} {x:Int}:x∈zZ ps↔x∈ps.map Prod.fst:=(List.mergeSort_perm _ _).mem_iff
theorem put_mem {k:Int} {v:Value} {ps:List (Int×Value)} {x:Int}:x∈(putG k v ps).map Prod.fst↔x∈ps.map Prod.fst∨x=k:=by
  unfold putG
  split
  · rename_i h
    have e:(ps.map fun p=>if p.1=k then (k,v) else p).map Prod.fst=ps.map Prod.fst:=by
      rw [List.map_map]
      refine List.map_congr_left fun p _=>?_
      simp only [Function.comp]
      split <;> simp_all
    rw [e]
    constructor
    · exact .inl
    · rintro (h1 | rfl)
      · exact h1
      · obtain ⟨v',hv⟩:=Option.isSome_iff_exists.1 h
        refine Classical.byContradiction fun hc=>?_
        have:=lkG_none.2 fun p hp (he:p.1=x)=>hc (List.mem_map.2 ⟨p,hp,he⟩)
        rw [this] at hv; cases hv
  · simp
structure CI where
  es:Array MapEntry
  cl:Nat
  ps:List (Int×Value)
  h:MapG es cl ps
  v:∀ p∈ps,∃ c,p.2 = .int .i64 c
  b:∀ p∈ps,-9223372036854775808≤p.1∧p.1≤9223372036854775807
theorem zero_int:kAB Tryz.prog 3=some (.v (.int .i64 0)):=by kernel_rfl
theorem elem_int:kCX Tryz.prog 117=some 3:=by kernel_rfl
theorem ci_look (s:CI) (k:Int):∃ c,kBR Tryz.prog 117 (.int .i64) (.int .i64 k) s.es.toList false=some (kCQ false (.v (.int .i64 c)) true)∨kBR Tryz.prog 117 (.int .i64) (.int .i64 k) s.es.toList false=some (kCQ false (.v (.int .i64 c)) false):=by
  rw [lkG_look s.h]
  cases hl:lkG k s.ps with
  | none =>
    refine ⟨0,.inr ?_⟩
    simp only [elem_int,zero_int,Option.map_some]
  | some v =>
    obtain ⟨c,hc⟩:=s.v _ ((lkG_mem s.h.1).1 hl)
    simp only at hc
    exact ⟨c,.inl (by rw [hc]; rfl)⟩
theorem ci_look' (s:CI) (k:Int):∃ c,kBR Tryz.prog 117 (.int .i64) (.int .i64 k) s.es.toList false=some (.v (.int .i64 c)):=by
  obtain ⟨c,h | h⟩:=ci_look s k <;> exact ⟨c,h⟩
theorem ci_put (s:CI) {k:Int} (hk:-9223372036854775808≤k∧k≤9223372036854775807) (c:Int):∃ s':CI,updO (.int .i64) (.int .i64 k) (.int .i64 c) (some (.map s.es s.cl))=some (.map s'.es s'.cl)∧s'.ps.length≤s.ps.length+1∧∀ x,x∈s'.ps.map Prod.fst↔x∈s.ps.map Prod.fst∨x=k:=by
  obtain ⟨es',cl',h1,h2⟩:=s.h.upd (j:=.i64) k (.int .i64 c)
  have hm:∀ p∈putG k (.int .i64 c) s.ps,p∈s.ps∨p=(k,.int .i64 c):=fun p hp=>by
    unfold putG at hp
    split at hp
    · obtain ⟨q,hq,rfl⟩:=List.mem_map.1 hp
      split
      · exact .inr rfl
      · exact .inl hq
    · simpa using hp
  refine ⟨⟨es',cl',_,h2,fun p hp=>?_,fun p hp=>?_⟩,h1,by simp only [putG]; split <;> simp,fun x=>put_mem⟩
  · rcases hm p hp with h | rfl
    · exact s.v p h
    · exact ⟨c,rfl⟩
  · rcases hm p hp with h | rfl
    · exact s.b p h
    · exact hk
theorem ci_touch {s:CI} {l:List Ac} (h:∀ x,x∈s.ps.map Prod.fst↔∃ a∈l,x∈jU a):zZ s.ps=jP [] l:=by
  refine ris_ext (keys_ris s.h.1) (touch_ris l List.Pairwise.nil) fun x=>?_
  rw [keys_mem,h,mem_touch]
  simp
def bndA (a:Ac):Prop:=(-9223372036854775808≤a.id∧a.id≤9223372036854775807)∧-9223372036854775808≤a.par∧a.par≤9223372036854775807
abbrev kFY:Con where
  ι:={ l:List Ac // l.length≤400000∧∀ a∈l,bndA a }
  args:=fun p=>[.sl 0 6 (acts p.1)]
  post:=fun p r=>r = .sl 0 1 (ints .i64 (jP [] p.1))
set_option maxHeartbeats 2000000 in
theorem ptouch_good:Rw.Good Tryz.prog 44 kFY:=by
  have hΓ:kL Tryz.prog [(91,kC7)]:=(kH kFs kJ)
  refine kEY (nn:=34) Tryz.func44 (by kernel_rfl) rfl (show Tryz.f44.results.toList=[.tmp 2] from rfl) (fun _=>rfl) (fun x=>by simp [AV.erL,AV.er,jT]) ?_
  rintro ⟨l,hl,hb⟩
  refine qX hΓ (Ws:=[]) _ ?_
  simp only [aR,N0,N1,N2,N3,N4,N5,Z0,Z1,Z2,Z3,Z4,Z5,Z6,Z7,Z8,Z9,Z10,Zc,↓reduceIte,reduceCtorEq,kB,kC,kS]
  (repeat (with_reducible refine And.intro ?_ ?_; focus (first | omega | exact kF | kernel_rfl)))
  obtain ⟨St,hSt⟩:∃ St:{ p:Nat×CI // p.1≤l.length∧p.2.ps.length≤2 * p.1∧∀ x,x∈p.2.ps.map Prod.fst↔∃ a∈l.take p.1,x∈jU a }→AS,∀ p,St p=AS.of 34 [(3,.mp 0),(7,.sl 0 6 (acts l)),(8,.v (.int .i64 l.length)),(9,.v (.int .i64 p.1.1))] [.map p.1.2.es p.1.2.cl] []:=⟨_,fun _=>rfl⟩
  refine kEb ?_
  refine kBF [] hΓ St (fun p=>l.length - p.1.1) ⟨(0,⟨#[],0,[],MapG.empty,by simp,by simp⟩),by simp only; omega,by simp,by simp⟩ (by rw [hSt]; refine kN [0] [] ?_; simp only [aR,N0,N1,N2,N3,N4,N5,Z0,Z1,Z2,Z3,Z4,Z5,Z6,Z7,Z8,Z9,Z10,Zc,↓reduceIte,reduceCtorEq,kB,kC,kS] <;> ((repeat' apply And.intro) <;> first | rfl | omega | trivial)) ?_
  rintro ⟨⟨i,s⟩,hi,hsl,hm⟩
  simp only at hi hsl hm
  rw [hSt]
  simp only
  simp only [aR,N0,N1,N2,N3,N4,N5,Z0,Z1,Z2,Z3,Z4,Z5,Z6,Z7,Z8,Z9,Z10,Zc,↓reduceIte,reduceCtorEq,kB,kC,kS]
  (with_reducible first | refine kD (fun h=>?_) (fun h=>?_) | refine kE (fun h=>?_) (fun h=>?_))
  · have hlt:i < l.length:=by omega
    have e1:=zD l hlt
    have hba:=hb l[i] (List.getElem_mem hlt)
    have hm2:∀ s':CI,(∀ x,x∈s'.ps.map Prod.fst↔x∈s.ps.map Prod.fst∨x∈jU l[i])→∀ x,x∈s'.ps.map Prod.fst↔∃ a∈l.take (i+1),x∈jU a:=fun s' hs x=>by
      rw [hs,hm,List.take_succ_eq_append_getElem hlt]
      simp only [List.mem_append,List.mem_singleton]
      constructor
      · rintro (⟨a,ha,hx⟩ | hx)
        · exact ⟨a,.inl ha,hx⟩
        · exact ⟨_,.inr rfl,hx⟩
      · rintro ⟨a,ha | rfl,hx⟩
        · exact .inl ⟨a,ha,hx⟩
        · exact .inr hx
    generalize l[i]=a at *
    obtain ⟨k,id,par,nm,dir,ops⟩:=a
    obtain ⟨hbi,hbp⟩:=hba
    simp only at hbi hbp
    obtain ⟨c,hc⟩:=ci_look' s id
    obtain ⟨s1,p1,q1,p2⟩:=ci_put s hbi (IntKind.i64.wrap (c+1))
    simp only [aR,N0,N1,N2,N3,N4,N5,Z0,Z1,Z2,Z3,Z4,Z5,Z6,Z7,Z8,Z9,Z10,Zc,↓reduceIte,reduceCtorEq,kB,kC,h,e1,kS,aA,hc,p1]
    (repeat (with_reducible refine And.intro ?_ ?_; focus (first | omega | exact kF | kernel_rfl)))
    refine kFx (a:=Ac.mk k id par nm dir ops) (by simp [kI]) rfl ?_
    have done:∀ s':CI,(kBT (Ac.mk k id par nm dir ops)=false∨par=0)→(∀ x,x∈s1.ps.map Prod.fst↔x∈s.ps.map Prod.fst∨x∈jU (Ac.mk k id par nm dir ops)):=fun _ hh x=>by
      rw [p2]
      unfold jU
      rw [if_neg (by rintro ⟨h1,h2⟩; rcases hh with hh | hh; rw [hh] at h1; cases h1; exact h2 hh)]
      simp
    rcases Bool.eq_false_or_eq_true (kBT (Ac.mk k id par nm dir ops)) with hn | hn
    · by_cases hp:par=0
      · subst hp
        have h5:=hm2 s1 (done s1 (.inr rfl))
        simp only [aR,N0,N1,N2,N3,N4,N5,Z0,Z1,Z2,Z3,Z4,Z5,Z6,Z7,Z8,Z9,Z10,Zc,↓reduceIte,reduceCtorEq,kB,kC,hn,kA (n:=(i:Int)+1) (by omega) (by omega)]
        refine kO ⟨(i+1,s1),by simp only; omega,by simp only; omega,h5⟩ (by simp only; omega) ?_
        rw [hSt]; refine kN [0] [] ?_
        simp only [aR,N0,N1,N2,N3,N4,N5,Z0,Z1,Z2,Z3,Z4,Z5,Z6,Z7,Z8,Z9,Z10,Zc,↓reduceIte,reduceCtorEq,kB,kC,kS] <;> ((repeat' apply And.intro) <;> first | rfl | omega | trivial)
      · obtain ⟨c2,hc2⟩:=ci_look' s1 par
        obtain ⟨s2,r1,r2,r3⟩:=ci_put s1 hbp (IntKind.i64.wrap (c2+1))
        have h5:=hm2 s2 (fun x=>by
          rw [r3,p2]
          unfold jU
          rw [if_pos ⟨hn,hp⟩]
          simp only [List.mem_cons,List.not_mem_nil,or_false]
          exact or_assoc)
        simp only [aR,N0,N1,N2,N3,N4,N5,Z0,Z1,Z2,Z3,Z4,Z5,Z6,Z7,Z8,Z9,Z10,Zc,↓reduceIte,reduceCtorEq,kB,kC,hn,hp,hc2,r1,kA (n:=(i:Int)+1) (by omega) (by omega)]
        (repeat (with_reducible refine And.intro ?_ ?_; focus (first | omega | exact kF | kernel_rfl)))
        refine kO ⟨(i+1,s2),by simp only; omega,by simp only; omega,h5⟩ (by simp only; omega) ?_
        rw [hSt]; refine kN [0] [] ?_
        simp only [aR,N0,N1,N2,N3,N4,N5,Z0,Z1,Z2,Z3,Z4,Z5,Z6,Z7,Z8,Z9,Z10,Zc,↓reduceIte,reduceCtorEq,kB,kC,kS] <;> ((repeat' apply And.intro) <;> first | rfl | omega | trivial)
    · have h5:=hm2 s1 (done s1 (.inl hn))
      simp only [aR,N0,N1,N2,N3,N4,N5,Z0,Z1,Z2,Z3,Z4,Z5,Z6,Z7,Z8,Z9,Z10,Zc,↓reduceIte,reduceCtorEq,kB,kC,hn,kA (n:=(i:Int)+1) (by omega) (by omega)]
      refine kO ⟨(i+1,s1),by simp only; omega,by simp only; omega,h5⟩ (by simp only; omega) ?_
      rw [hSt]; refine kN [0] [] ?_
      simp only [aR,N0,N1,N2,N3,N4,N5,Z0,Z1,Z2,Z3,Z4,Z5,Z6,Z7,Z8,Z9,Z10,Zc,↓reduceIte,reduceCtorEq,kB,kC,kS] <;> ((repeat' apply And.intro) <;> first | rfl | omega | trivial)
  · have hi2:i=l.length:=by omega
    subst hi2
    rw [List.take_length] at hm
    have e6:=ci_touch hm
    simp only [aR,N0,N1,N2,N3,N4,N5,Z0,Z1,Z2,Z3,Z4,Z5,Z6,Z7,Z8,Z9,Z10,Zc,↓reduceIte,reduceCtorEq,kB,kC,h]
    (repeat (with_reducible refine And.intro ?_ ?_; focus (first | omega | exact kF | kernel_rfl)))
    refine jY (nn:=4) hΓ [] (by first | assumption | simp [kI,k9]) Tryz.func92 (by kernel_rfl) rfl (show Tryz.f92.results.toList=[.tmp 2] from rfl) rfl ?_
    simp only [aR,N0,N1,N2,N3,N4,N5,Z0,Z1,Z2,Z3,Z4,Z5,Z6,Z7,Z8,Z9,Z10,Zc,↓reduceIte,reduceCtorEq,kB,kC,]
    (repeat (with_reducible refine And.intro ?_ ?_; focus (first | omega | exact kF | kernel_rfl)))
    refine kAK (by simp [kI,k9]) (kFd Tryz.keysB Tryz.sortedA Tryz.sortA rfl rfl rfl (bx:=1) (ob:=0) (es:=s.es) (cl:=s.cl) (by simp [upd]) (by simp [upd]) s.h s.b (by rw [s.h.size]; omega) ?_)
    rw [e6]
    simp only [aR,N0,N1,N2,N3,N4,N5,Z0,Z1,Z2,Z3,Z4,Z5,Z6,Z7,Z8,Z9,Z10,Zc,↓reduceIte,reduceCtorEq,kB,kC,]
end Go.Proofs
end
-- ETr15
section
namespace Go.Proofs
open Go Go.Rw
open _root_.Nat renaming reduceAdd → N0, reduceSub → N1, reduceMul → N2, reduceLT → N3, reduceLeDiff → N4, reduceEqDiff → N5
open _root_.Int renaming reduceNeg → Z0, reduceAdd → Z1, reduceSub → Z2, reduceMul → Z3, reduceGT → Z4, reduceGE → Z5, reduceLT → Z6, reduceLE → Z7, reduceEq → Z8, reduceNe → Z9, reduceToNat → Z10, cast_ofNat_Int → Zc
set_option maxRecDepth 100000
def ts0:TS:=⟨#[],0,[],tm_empty⟩
section
variable {Γ:Env} {n:Nat} {t:Nat→AV} {hd:Nat→Nat→AV} {d:Option Nat} {K:AS→Prop}
variable {nh nl:Nat} {h:Nat→Option AO} {fm:Nat→Nat} {lv:Nat→Option (Nat×Nat)} {mu:Bool}
theorem call_tnew (hC:Γ.get 28=none)
    (hk:cont ⟨n,t,hd,⟨nh+2,upd (upd h nh (some (.cells [.mp (nh+1)]))) (nh+1) (some (.map #[] 0)),nl,fm,lv,mu⟩⟩ d (.ptr nh 0) K):kR Tryz.prog Γ false ⟨n,t,hd,⟨nh,h,nl,fm,lv,mu⟩⟩ 28 [] d K:=by
  refine vc_obj tnew_good hC () [] ⟨by simp,by simp [dnL],by simp [dnOs],rfl,rfl⟩ ?_
  rintro objs lvs r ⟨rfl,rfl,rfl⟩ hl
  have e3:[AO.cells [.mp 1],.map #[] 0].length - ([]:List Nat).length=2:=rfl
  rw [e3]
  simp only [kAN,kAj,kAO,kCA,kAp,kBo,kFo,kBu,kBm,kD8,kAM,kAi,kAl,kAv,kAt,kE7,List.length_nil,Nat.add_zero]
  exact hk
theorem call_ttxn (hC:Γ.get 46=none) {s:TS} {l:List Ac} (hS:sndN s.l) (hl:l.length≤1000000) (ho:∀ a∈l,okA a) {o ob:Nat} (hT:zF h o ob s) {lt:Nat}
    (hk1:(allN s.l l).e=0→∀ s':TS,s'.l=(allN s.l l).now→sndN s'.l→cont ⟨n,t,hd,⟨nh+2,upd (upd h nh (some (.cells [.mp (nh+1)]))) (nh+1) (some (.map s'.es s'.cl)),nl,fm,kill fm (AV.tagsL [.ptr o 0,.sl lt 6 (acts l)]) lv,mu⟩⟩ d (.tup [.ptr nh 0,.v (.int .i64 (allN s.l l).n),.v (.int .i64 0)]) K)
    (hk2:(allN s.l l).e≠0→cont ⟨n,t,hd,⟨nh,h,nl,fm,kill fm (AV.tagsL [.ptr o 0,.sl lt 6 (acts l)]) lv,mu⟩⟩ d (.tup [.v (.pointer none),.v (.int .i64 (allN s.l l).n),.v (.int .i64 (allN s.l l).e)]) K) :
    kR Tryz.prog Γ false ⟨n,t,hd,⟨nh,h,nl,fm,lv,mu⟩⟩ 46 [.ptr o 0,.sl lt 6 (acts l)] d K:=by
  obtain ⟨h1,h2,h3⟩:=hT
  have e1:upd h o (some (.cells [.mp ob]))=h:=upd_it h1
  have e2:upd h ob (some (.map s.es s.cl))=h:=upd_it h2
  have et:kAr h [o,ob]=[]:=by simp [kAV,kAw,h1,h2,kEh,AO.tags,AV.tagsL,AV.tags]
  refine vcCall_objK ttxn_good hC ⟨(s,l),hS,hl,ho⟩ [o,ob] ⟨by simp [h3],by simp [dnL,dn],?_⟩ ?_
  · simp only [tsO,kBa,kCg,h1,h2,kAn,kCm,kDI,kEv,dn_mp]
    simp
  · intro objs lvs r hp hl
    show cont ⟨n,t,hd,AM.call ⟨nh,h,nl,fm,kill fm (AV.tagsL [.ptr o 0,.sl lt 6 (acts l)]++kAr h [o,ob]) lv,mu⟩ [o,ob] objs lvs⟩ d _ K
    rw [et,List.append_nil]
    obtain ⟨rfl,hp⟩:=hp
    rcases hp with ⟨he,⟨s',h4,h5,rfl⟩,rfl⟩ | ⟨he,rfl,rfl⟩
    · have:=hk1 he s' h4 h5
      rw [kFW]
      have e3:(tsO (some s)++[AO.cells [.mp 3],.map s'.es s'.cl]).length - [o,ob].length=2:=rfl
      rw [e3]
      simp only [tsO,List.cons_append,List.nil_append,kAN,kAj,kAO,kCA,kAp,kBo,kFo,kBu,kBm,kD8,kAM,kAi,kAl,kAv,kAt,kE7,emb_tup,emb_v,List.length_nil,Nat.add_zero,e1,e2]
      exact this
    · have:=hk2 he
      rw [kFW]
      have e3:(tsO (some s)).length - [o,ob].length=0:=rfl
      rw [e3]
      simp only [tsO,List.cons_append,List.nil_append,kAN,kAj,kAO,kCA,kAp,kBo,kFo,kBu,kBm,kD8,kAM,kAi,kAl,kAv,kAt,kE7,emb_tup,emb_v,List.length_nil,Nat.add_zero,e1,e2]
      exact this
end
def aw1:List Ac:=[⟨1,1,0,[97],false,[]⟩,⟨4,1,0,[],false,[⟨2,0,[120]⟩]⟩]
def aw2:List Ac:=[⟨1,1,0,[97],false,[]⟩,⟨2,2,0,[],false,[]⟩]
theorem aw1_all:(allN [] aw1).e=0∧(allN [] aw1).n=2∧(allN [] aw1).now.length=1:=by decide +kernel
theorem aw2_all:(allN [] aw2).e=5∧(allN [] aw2).n=1:=by decide +kernel
theorem aw3_chk:txnE [⟨9,1,0,[],false,[]⟩]=1:=by decide +kernel
theorem aw_ok:(∀ a∈aw1,okA a)∧(∀ a∈aw2,okA a)∧∀ a∈[(⟨9,1,0,[],false,[]⟩:Ac)],okA a:=by
  refine ⟨?_,?_,?_⟩
  · intro a ha
    simp only [aw1,List.mem_cons,List.not_mem_nil,or_false] at ha
    rcases ha with rfl | rfl
    · exact ⟨by unfold okL; decide,by decide⟩
    · exact ⟨by unfold okL; decide,by decide⟩
  · intro a ha
    simp only [aw2,List.mem_cons,List.not_mem_nil,or_false] at ha
    rcases ha with rfl | rfl
    · exact ⟨by unfold okL; decide,by decide⟩
    · exact ⟨by unfold okL; decide,by decide⟩
  · intro a ha
    simp only [List.mem_cons,List.not_mem_nil,or_false] at ha
    subst ha
    exact ⟨by unfold okL; decide,by decide⟩
abbrev kEN:Con where
  ι:=Unit
  args:=fun _=>[]
  post:=fun _ r=>r = .v (.bool true)
set_option maxHeartbeats 2000000 in
theorem awake14_good:Rw.Good Tryz.prog 32 kEN:=by
  have hΓ:kL Tryz.prog [(35,z7)]:=(kH kCS kJ)
  refine kEY (nn:=69) Tryz.func32 (by kernel_rfl) rfl (show Tryz.f32.results.toList=[.tmp 0] from rfl) (fun _=>rfl) (fun x=>by simp [AV.erL,AV.er]) ?_
  rintro ⟨⟩
  refine qX hΓ (Ws:=[]) _ ?_
  simp only [aR,N0,N1,N2,N3,N4,N5,Z0,Z1,Z2,Z3,Z4,Z5,Z6,Z7,Z8,Z9,Z10,Zc,↓reduceIte,reduceCtorEq,kB,kC,]
  refine call_tnew (by simp [kI,k9]) ?_
  simp only [aR,N0,N1,N2,N3,N4,N5,Z0,Z1,Z2,Z3,Z4,Z5,Z6,Z7,Z8,Z9,Z10,Zc,↓reduceIte,reduceCtorEq,kB,kC,]
  (repeat (with_reducible refine And.intro ?_ ?_; focus (first | omega | exact kF | kernel_rfl)))
  refine call_ttxn (l:=aw1) (lt:=3) (s:=ts0) (o:=0) (ob:=1) (by simp [kI,k9]) snd_nil (by decide) aw_ok.1 (by simp [zF,upd,ts0]) ?_ (fun hc=>absurd aw1_all.1 hc)
  intro _ s1 hs1 hS1
  have hl1:s1.l.length=1:=by rw [hs1]; exact aw1_all.2.2
  rw [show (allN ts0.l aw1).n=2 from aw1_all.2.1]
  simp only [aR,N0,N1,N2,N3,N4,N5,Z0,Z1,Z2,Z3,Z4,Z5,Z6,Z7,Z8,Z9,Z10,Zc,↓reduceIte,reduceCtorEq,kB,kC,acts,aw1,aA,List.map_cons,List.map_nil,zP]
  (repeat (with_reducible refine And.intro ?_ ?_; focus (first | omega | exact kF | kernel_rfl)))
  refine call_ttxn (l:=aw2) (lt:=4) (s:=ts0) (o:=0) (ob:=1) (by simp [kI,k9]) snd_nil (by decide) aw_ok.2.1 (by simp [zF,upd,ts0]) (fun hc=>absurd hc (by rw [show (allN ts0.l aw2).e=5 from aw2_all.1]; decide)) ?_
  intro _
  rw [show (allN ts0.l aw2).n=1 from aw2_all.2,show (allN ts0.l aw2).e=5 from aw2_all.1]
  simp only [aR,N0,N1,N2,N3,N4,N5,Z0,Z1,Z2,Z3,Z4,Z5,Z6,Z7,Z8,Z9,Z10,Zc,↓reduceIte,reduceCtorEq,kB,kC,acts,aw2,aA,List.map_cons,List.map_nil,zP]
  (repeat (with_reducible refine And.intro ?_ ?_; focus (first | omega | exact kF | kernel_rfl)))
  refine kBB (s:=s1) (o:=2) (ob:=3) (by simp [kI,k9]) (snd_ok hS1).1 (by simp [zF,upd]) ?_
  simp only [aR,N0,N1,N2,N3,N4,N5,Z0,Z1,Z2,Z3,Z4,Z5,Z6,Z7,Z8,Z9,Z10,Zc,↓reduceIte,reduceCtorEq,kB,kC,kV,hl1]
  (repeat (with_reducible refine And.intro ?_ ?_; focus (first | omega | exact kF | kernel_rfl)))
  refine kBB (s:=ts0) (o:=0) (ob:=1) (by simp [kI,k9]) (snd_ok snd_nil).1 (by simp [zF,upd,ts0]) ?_
  simp only [aR,N0,N1,N2,N3,N4,N5,Z0,Z1,Z2,Z3,Z4,Z5,Z6,Z7,Z8,Z9,Z10,Zc,↓reduceIte,reduceCtorEq,kB,kC,kV,ts0,kEf,List.length_nil]
  (repeat (with_reducible refine And.intro ?_ ?_; focus (first | omega | exact kF | kernel_rfl)))
  refine kEn (l:=[⟨9,1,0,[],false,[]⟩]) (by simp [kI]) rfl (by decide) aw_ok.2.2 ?_
  rw [aw3_chk]
  simp only [aR,N0,N1,N2,N3,N4,N5,Z0,Z1,Z2,Z3,Z4,Z5,Z6,Z7,Z8,Z9,Z10,Zc,↓reduceIte,reduceCtorEq,kB,kC,]
end Go.Proofs
end
-- EUk9s
section
namespace Go.Proofs
open Go Go.Rw
open _root_.Nat renaming reduceAdd → N0, reduceSub → N1, reduceMul → N2, reduceLT → N3, reduceLeDiff → N4, reduceEqDiff → N5
open _root_.Int renaming reduceNeg → Z0, reduceAdd → Z1, reduceSub → Z2, reduceMul → Z3, reduceGT → Z4, reduceGE → Z5, reduceLT → Z6, reduceLE → Z7, reduceEq → Z8, reduceNe → Z9, reduceToNat → Z10, cast_ofNat_Int → Zc
set_option maxRecDepth 100000
end Go.Proofs
end
-- EUk9t
section
namespace Go.Proofs
open Go Go.Rw
open _root_.Nat renaming reduceAdd → N0, reduceSub → N1, reduceMul → N2, reduceLT → N3, reduceLeDiff → N4, reduceEqDiff → N5
open _root_.Int renaming reduceNeg → Z0, reduceAdd → Z1, reduceSub → Z2, reduceMul → Z3, reduceGT → Z4, reduceGE → Z5, reduceLT → Z6, reduceLE → Z7, reduceEq → Z8, reduceNe → Z9, reduceToNat → Z10, cast_ofNat_Int → Zc
set_option maxRecDepth 100000
theorem kEI (l:List Int) (x:Int):(insI l x).length≤l.length+1:=by
  unfold insI
  split
  · omega
  · simp only [List.length_append,List.length_cons,List.length_take,List.length_drop]; omega
theorem foldI_len:∀ (xs out:List Int),(xs.foldl insI out).length≤out.length+xs.length
  | [],out=>by simp
  | x::xs,out=>by
    have h1:=kEI out x
    have h2:=foldI_len xs (insI out x)
    rw [List.foldl_cons,List.length_cons]; omega
theorem names_len (a:Ac):(jU a).length≤2:=by unfold jU; split <;> simp
theorem kCv {k:IntKind} {l:List Int} {i j:Nat} (hj:j≤l.length):kBW 0 1 (ints k l) i j = .sl 0 1 (ints k ((l.drop i).take (j - i))):=by
  unfold kBW
  simp only [zN]
  split
  · rename_i h
    obtain ⟨rfl,h2⟩:=h
    rw [List.drop_zero,Nat.sub_zero,List.take_of_length_le (by omega)]
  · simp [ints,List.map_take,List.map_drop]
theorem vcD_lp {Γ:Env} {Ws:List (Nat×List Nat×List Nat)} {c:Code} {Q:Exit→AS→Prop} {σ:AS} (h:vc Tryz.prog Γ (.loop c) Q σ):vcD Tryz.prog Γ Ws (.loop c) Q σ:=h
abbrev touchCon:Con where
  ι:={ l:List Ac // l.length≤1000000 }
  args:=fun p=>[.sl 0 6 (acts p.1)]
  post:=fun p r=>r = .sl 0 1 (ints .i64 (jP [] p.1))
theorem touch_good:Rw.Good Tryz.prog 45 touchCon:=by
  have hΓ:kL Tryz.prog []:=kJ
  refine kW (nn:=104) hΓ Tryz.func45 (by kernel_rfl) rfl (show Tryz.f45.results.toList=[.tmp 2] from rfl) (fun _=>rfl) (fun x=>by simp [AV.erL,AV.er]) ?_
  rintro ⟨l,hl⟩
  simp only [aR,N0,N1,N2,N3,N4,N5,Z0,Z1,Z2,Z3,Z4,Z5,Z6,Z7,Z8,Z9,Z10,Zc,↓reduceIte,reduceCtorEq,kS]
  obtain ⟨St,hSt⟩:∃ St:{ p:List Int×Nat // p.2≤l.length∧jP p.1 (l.drop p.2)=jP [] l∧p.1.length≤2 * p.2 }→AS,∀ p,St p=AS.of 104 [(0,.sl 0 6 (acts l)),(3,.sl 0 1 (ints .i64 p.1.1)),(4,.v (.int .i64 p.1.2))] [] []:=⟨_,fun _=>rfl⟩
  refine qE hΓ St (fun p=>l.length - p.1.2) ⟨([],0),by simp,rfl,by simp⟩ (by rw [hSt]; refine kN [] [] ?_; simp only [aR,N0,N1,N2,N3,N4,N5,Z0,Z1,Z2,Z3,Z4,Z5,Z6,Z7,Z8,Z9,Z10,Zc,↓reduceIte,reduceCtorEq,ints,List.map_nil] <;> ((repeat' apply And.intro) <;> first | rfl | omega | trivial)) ?_
  rintro ⟨⟨out,i⟩,hi,hf,hlen⟩
  simp only at hi hf hlen
  rw [hSt]
  simp only
  simp only [aR,N0,N1,N2,N3,N4,N5,Z0,Z1,Z2,Z3,Z4,Z5,Z6,Z7,Z8,Z9,Z10,Zc,↓reduceIte,reduceCtorEq,kS]
  (with_reducible first | refine kD (fun h=>?_) (fun h=>?_) | refine kE (fun h=>?_) (fun h=>?_))
  · have hlt:i < l.length:=by omega
    have e1:=zD l hlt
    rw [List.drop_eq_getElem_cons hlt,jP] at hf
    have hnl:=names_len l[i]
    generalize l[i]=a at *
    obtain ⟨k,id,par,nm,dir,ops⟩:=a
    obtain ⟨ns,hns⟩:∃ ns,jU ⟨k,id,par,nm,dir,ops⟩=ns:=⟨_,rfl⟩
    rw [hns] at hf hnl
    have cs:(k=1∧par≠0∧ns=[id,par])∨(k=3∧par≠0∧ns=[id,par])∨(¬ k=1∧¬ k=3∧ns=[id])∨(k=1∧par=0∧ns=[id])∨(k=3∧par=0∧ns=[id]):=by
      by_cases c1:k=1
      · by_cases c2:par=0
        · right; right; right; left; exact ⟨c1,c2,by rw [← hns]; simp [jU,c2]⟩
        · left; exact ⟨c1,c2,by rw [← hns]; simp [jU,kBT,c1,c2]⟩
      · by_cases c3:k=3
        · by_cases c2:par=0
          · right; right; right; right; exact ⟨c3,c2,by rw [← hns]; simp [jU,c2]⟩
          · right; left; exact ⟨c3,c2,by rw [← hns]; simp [jU,kBT,c3,c2]⟩
        · right; right; left; exact ⟨c1,c3,by rw [← hns]; simp [jU,kBT,c1,c3]⟩
    clear hns
    rcases cs with ⟨ck,cp,hns⟩ | ⟨ck,cp,hns⟩ | ⟨ck,cp,hns⟩ | ⟨ck,cp,hns⟩ | ⟨ck,cp,hns⟩
    all_goals
      first
        | simp only [aR,N0,N1,N2,N3,N4,N5,Z0,Z1,Z2,Z3,Z4,Z5,Z6,Z7,Z8,Z9,Z10,Zc,↓reduceIte,reduceCtorEq,h,e1,kS,aA,ck,eq_false cp,List.map_cons,List.map_nil]
          (repeat (with_reducible refine And.intro ?_ ?_; focus (first | omega | exact kF | kernel_rfl)))
        | subst cp
          simp only [aR,N0,N1,N2,N3,N4,N5,Z0,Z1,Z2,Z3,Z4,Z5,Z6,Z7,Z8,Z9,Z10,Zc,↓reduceIte,reduceCtorEq,h,e1,kS,aA,ck,List.map_cons,List.map_nil]
          (repeat (with_reducible refine And.intro ?_ ?_; focus (first | omega | exact kF | kernel_rfl)))
      obtain ⟨Su,hSu⟩:∃ Su:{ p:List Int×Nat // p.2≤ns.length∧(ns.drop p.2).foldl insI p.1=ns.foldl insI out∧p.1.length≤2 * i+p.2 }→AS,∀ p,Su p=AS.of 104 [(0,.sl 0 6 (acts l)),(3,.sl 0 1 (ints .i64 p.1.1)),(4,.v (.int .i64 i)),(5,.sl 0 1 (ints .i64 ns)),(6,.v (.int .i64 p.1.2))] [] []:=⟨_,fun _=>rfl⟩
      refine vc_loopD [(15,[2009],[])] hΓ Su (fun p=>ns.length - p.1.2) ⟨(out,0),by simp,rfl,by simpa using hlen⟩ (by rw [hSu]; refine kN [] [] ?_; rw [hns]; simp only [aR,N0,N1,N2,N3,N4,N5,Z0,Z1,Z2,Z3,Z4,Z5,Z6,Z7,Z8,Z9,Z10,Zc,↓reduceIte,reduceCtorEq,ints,List.map_cons,List.map_nil] <;> ((repeat' apply And.intro) <;> first | rfl | omega | trivial)) ?_
      rintro ⟨⟨o2,j⟩,hj,hg,hl2⟩
      simp only at hj hg hl2
      rw [hSu]
      simp only
      simp only [aR,N0,N1,N2,N3,N4,N5,Z0,Z1,Z2,Z3,Z4,Z5,Z6,Z7,Z8,Z9,Z10,Zc,↓reduceIte,reduceCtorEq,kY,zN]
      (with_reducible first | refine kD (fun h2=>?_) (fun h2=>?_) | refine kE (fun h2=>?_) (fun h2=>?_))
      · have hjt:j < ns.length:=by omega
        have e2:(ints .i64 ns).getD j .any = .v (.int .i64 ns[j]):=by rw [kCa hjt,List.getD_eq_getElem?_getD,List.getElem?_eq_getElem hjt]; rfl
        rw [List.drop_eq_getElem_cons hjt,List.foldl_cons] at hg
        generalize ns[j]=x at *
        simp only [aR,N0,N1,N2,N3,N4,N5,Z0,Z1,Z2,Z3,Z4,Z5,Z6,Z7,Z8,Z9,Z10,Zc,↓reduceIte,reduceCtorEq,kY,h2,e2,zN]
        obtain ⟨Sv,hSv⟩:∃ Sv:{ k:Nat // k≤o2.length∧bkI x o2 k=bkI x o2 o2.length }→AS,∀ k,Sv k=AS.of 104 [(0,.sl 0 6 (acts l)),(3,.sl 0 1 (ints .i64 o2)),(4,.v (.int .i64 i)),(5,.sl 0 1 (ints .i64 ns)),(6,.v (.int .i64 j)),(7,.v (.int .i64 k.1))] [] []:=⟨_,fun _=>rfl⟩
        refine vcD_lp ?_
        refine qE hΓ Sv (fun k=>k.1) ⟨o2.length,Nat.le_refl _,rfl⟩ (by rw [hSv]; refine kN [] [] ?_; simp only [aR,N0,N1,N2,N3,N4,N5,Z0,Z1,Z2,Z3,Z4,Z5,Z6,Z7,Z8,Z9,Z10,Zc,↓reduceIte,reduceCtorEq,zN] <;> ((repeat' apply And.intro) <;> first | rfl | omega | trivial)) ?_
        rintro ⟨k,hk,hbk⟩
        rw [hSv]
        simp only
        cases k with
        | zero =>
          have hbk':bkI x o2 o2.length=0:=by rw [← hbk]; rfl
          have hin:insI o2 x=x::o2:=by rw [insI,hbk',if_neg (by simp)]; simp
          have p1:kBW 0 1 (ints .i64 o2) 0 0 = .sl 0 1 []:=by rw [kCv (by omega)]; simp [ints]
          have p2:kBW 0 1 (ints .i64 o2) 0 o2.length = .sl 0 1 (ints .i64 o2):=by rw [kCv (by omega)]; simp
          simp only [aR,N0,N1,N2,N3,N4,N5,Z0,Z1,Z2,Z3,Z4,Z5,Z6,Z7,Z8,Z9,Z10,Zc,↓reduceIte,reduceCtorEq,zN]
          (repeat (with_reducible refine And.intro ?_ ?_; focus (first | omega | exact kF | kernel_rfl)))
          simp only [aR,N0,N1,N2,N3,N4,N5,Z0,Z1,Z2,Z3,Z4,Z5,Z6,Z7,Z8,Z9,Z10,Zc,↓reduceIte,reduceCtorEq,kY,zN,e2,List.map_cons,List.map_nil,p1,p2]
          (repeat (with_reducible refine And.intro ?_ ?_; focus (first | omega | exact kF | kernel_rfl)))
          simp only [aR,N0,N1,N2,N3,N4,N5,Z0,Z1,Z2,Z3,Z4,Z5,Z6,Z7,Z8,Z9,Z10,Zc,↓reduceIte,reduceCtorEq,kY,zN,e2,List.map_cons,List.map_nil,p1,p2,kA (n:=(j:Int)+1) (by omega) (by omega)]
          refine kO ⟨(insI o2 x,j+1),by simp only; omega,hg,by have:=kEI o2 x; simp only; omega⟩ (by simp only; omega) ?_
          rw [hSu]; refine kN [] [] ?_
          simp only [aR,N0,N1,N2,N3,N4,N5,Z0,Z1,Z2,Z3,Z4,Z5,Z6,Z7,Z8,Z9,Z10,Zc,↓reduceIte,reduceCtorEq,hin,ints,List.map_cons,List.map_nil,List.map_append,List.nil_append,List.append_assoc,List.cons_append] <;> ((repeat' apply And.intro) <;> first | rfl | omega | trivial)
        | succ k =>
          have hkt:k < o2.length:=by omega
          have e3:(ints .i64 o2).getD k .any = .v (.int .i64 o2[k]):=by rw [kCa hkt,List.getD_eq_getElem?_getD,List.getElem?_eq_getElem hkt]; rfl
          have hw:IntKind.wrap .i64 (((k+1:Nat):Int) - 1)=k:=by rw [kA (by omega) (by omega)]; omega
          have hgd:o2.getD k 0=o2[k]:=by rw [List.getD_eq_getElem?_getD,List.getElem?_eq_getElem hkt]; rfl
          rw [bkI,hgd] at hbk
          have hin:insI o2 x=if 0 < bkI x o2 o2.length∧o2.getD (bkI x o2 o2.length - 1) 0=x then o2 else o2.take (bkI x o2 o2.length)++x::o2.drop (bkI x o2 o2.length):=rfl
          generalize o2[k]=y at *
          have hp:((k+1:Nat):Int) > 0:=by omega
          simp only [aR,N0,N1,N2,N3,N4,N5,Z0,Z1,Z2,Z3,Z4,Z5,Z6,Z7,Z8,Z9,Z10,Zc,↓reduceIte,reduceCtorEq,zN,hw,e3,hp,e2]
          (repeat (with_reducible refine And.intro ?_ ?_; focus (first | omega | exact kF | kernel_rfl)))
          (with_reducible first | refine kD (fun h3=>?_) (fun h3=>?_) | refine kE (fun h3=>?_) (fun h3=>?_))
          · rw [if_pos h3] at hbk
            simp only [aR,N0,N1,N2,N3,N4,N5,Z0,Z1,Z2,Z3,Z4,Z5,Z6,Z7,Z8,Z9,Z10,Zc,↓reduceIte,reduceCtorEq,kY,h3,hw]
            refine kO ⟨k,by omega,hbk⟩ (by simp only; omega) ?_
            rw [hSv]; refine kN [] [] ?_
            simp only [aR,N0,N1,N2,N3,N4,N5,Z0,Z1,Z2,Z3,Z4,Z5,Z6,Z7,Z8,Z9,Z10,Zc,↓reduceIte,reduceCtorEq] <;> ((repeat' apply And.intro) <;> first | rfl | omega | trivial)
          · rw [if_neg h3] at hbk
            rw [← hbk,show k+1 - 1=k by omega,hgd] at hin
            have p1:kBW 0 1 (ints .i64 o2) 0 (k+1) = .sl 0 1 (ints .i64 (o2.take (k+1))):=by rw [kCv (by omega)]; simp
            have p2:kBW 0 1 (ints .i64 o2) (k+1) o2.length = .sl 0 1 (ints .i64 (o2.drop (k+1))):=by rw [kCv (by omega),List.take_of_length_le (by simp)]
            by_cases h4:y=x
            · rw [if_pos ⟨by omega,h4⟩] at hin
              simp only [aR,N0,N1,N2,N3,N4,N5,Z0,Z1,Z2,Z3,Z4,Z5,Z6,Z7,Z8,Z9,Z10,Zc,↓reduceIte,reduceCtorEq,kY,h3,zN,e2,e3,hw,hp,h4,List.map_cons,List.map_nil]
              (repeat (with_reducible refine And.intro ?_ ?_; focus (first | omega | exact kF | kernel_rfl)))
              simp only [aR,N0,N1,N2,N3,N4,N5,Z0,Z1,Z2,Z3,Z4,Z5,Z6,Z7,Z8,Z9,Z10,Zc,↓reduceIte,reduceCtorEq,kY,kA (n:=(j:Int)+1) (by omega) (by omega)]
              refine kO ⟨(insI o2 x,j+1),by simp only; omega,hg,by have:=kEI o2 x; simp only; omega⟩ (by simp only; omega) ?_
              rw [hSu]; refine kN [] [] ?_
              simp only [aR,N0,N1,N2,N3,N4,N5,Z0,Z1,Z2,Z3,Z4,Z5,Z6,Z7,Z8,Z9,Z10,Zc,↓reduceIte,reduceCtorEq,hin,ints,List.map_cons,List.map_nil,List.map_append,List.nil_append,List.append_assoc,List.cons_append] <;> ((repeat' apply And.intro) <;> first | rfl | omega | trivial)
            · rw [if_neg (by omega)] at hin
              simp only [aR,N0,N1,N2,N3,N4,N5,Z0,Z1,Z2,Z3,Z4,Z5,Z6,Z7,Z8,Z9,Z10,Zc,↓reduceIte,reduceCtorEq,kY,h3,zN,e2,e3,hw,hp,h4,List.map_cons,List.map_nil,p1,p2,List.length_append,List.length_take,List.length_drop,List.length_cons,List.length_nil,show min (k+1) o2.length=k+1 by omega]
              (repeat (with_reducible refine And.intro ?_ ?_; focus (first | omega | exact kF | kernel_rfl)))
              simp only [aR,N0,N1,N2,N3,N4,N5,Z0,Z1,Z2,Z3,Z4,Z5,Z6,Z7,Z8,Z9,Z10,Zc,↓reduceIte,reduceCtorEq,kY,zN,e2,List.map_cons,List.map_nil,p1,p2,List.length_append,List.length_take,List.length_drop,List.length_cons,List.length_nil,show min (k+1) o2.length=k+1 by omega,kA (n:=(j:Int)+1) (by omega) (by omega)]
              refine kO ⟨(insI o2 x,j+1),by simp only; omega,hg,by have:=kEI o2 x; simp only; omega⟩ (by simp only; omega) ?_
              rw [hSu]; refine kN [] [] ?_
              simp only [aR,N0,N1,N2,N3,N4,N5,Z0,Z1,Z2,Z3,Z4,Z5,Z6,Z7,Z8,Z9,Z10,Zc,↓reduceIte,reduceCtorEq,hin,ints,List.map_cons,List.map_nil,List.map_append,List.nil_append,List.append_assoc,List.cons_append] <;> ((repeat' apply And.intro) <;> first | rfl | omega | trivial)
      · rw [List.drop_of_length_le (by omega),List.foldl_nil] at hg
        rw [← hg] at hf
        simp only [aR,N0,N1,N2,N3,N4,N5,Z0,Z1,Z2,Z3,Z4,Z5,Z6,Z7,Z8,Z9,Z10,Zc,↓reduceIte,reduceCtorEq,kY,h2,kA (n:=(i:Int)+1) (by omega) (by omega)]
        refine kO ⟨(o2,i+1),by simp only; omega,hf,by simp only; omega⟩ (by simp only; omega) ?_
        rw [hSt]; refine kN [] [] ?_
        simp only [aR,N0,N1,N2,N3,N4,N5,Z0,Z1,Z2,Z3,Z4,Z5,Z6,Z7,Z8,Z9,Z10,Zc,↓reduceIte,reduceCtorEq] <;> ((repeat' apply And.intro) <;> first | rfl | omega | trivial)
  · rw [List.drop_of_length_le (by omega),jP] at hf
    simp only [aR,N0,N1,N2,N3,N4,N5,Z0,Z1,Z2,Z3,Z4,Z5,Z6,Z7,Z8,Z9,Z10,Zc,↓reduceIte,reduceCtorEq,h,kS,hf]
end Go.Proofs
end
-- EUn7
section
namespace Go.Proofs
open Go Go.Rw
set_option maxRecDepth 100000
end Go.Proofs
end
-- EUk10
section
namespace Go.Proofs
open Go Go.Rw
set_option maxRecDepth 100000
theorem touch_len:∀ (l:List Ac) (out:List Int),(jP out l).length≤out.length+2 * l.length
  | [],out=>by simp [jP]
  | a::l,out=>by
    have h1:=touch_len l ((jU a).foldl insI out)
    have h2:=foldI_len (jU a) out
    have h3:=names_len a
    rw [jP,List.length_cons]; omega
theorem acts_okA {l:List Ac} {m:Int} (hm:m≤1000000) (h2:∀ a∈l,a.nm.length≤9223372036854775807∧kCY a.ops) (h:wF m 0 (wA l)≤m):l.length≤1000000∧∀ a∈l,okA a:=by
  obtain ⟨h3,h4⟩:=acts_ok hm h2 h
  obtain ⟨_,h5⟩:=wF_le (by omega) (wA l) (Int.le_refl 0) h
  exact ⟨h3,fun a ha=>⟨h4 a ha,by have:=(h5 (a.nm.length,a.ops) (List.mem_map.2 ⟨a,ha,rfl⟩)).1; omega⟩⟩
end Go.Proofs
end
-- ETr16
section
namespace Go.Proofs
open Go Go.Rw
open _root_.Nat renaming reduceAdd → N0, reduceSub → N1, reduceMul → N2, reduceLT → N3, reduceLeDiff → N4, reduceEqDiff → N5
open _root_.Int renaming reduceNeg → Z0, reduceAdd → Z1, reduceSub → Z2, reduceMul → Z3, reduceGT → Z4, reduceGE → Z5, reduceLT → Z6, reduceLE → Z7, reduceEq → Z8, reduceNe → Z9, reduceToNat → Z10, cast_ofNat_Int → Zc
set_option maxRecDepth 100000
def kDT (t:List Nd) (l:List Ac):Bool:=decide (nF 4000 0 t≤4000∧wF 4000 0 (wA l)≤4000∧l.length≤60)
abbrev kBq:Con where
  ι:=GivenN×GivenA
  args:=fun p=>[.sl 0 5 (qI p.1.1),.sl 0 6 (acts p.2.1)]
  post:=fun p r=>r = .v (.bool (kDT p.1.1 p.2.1))
  plain:=true
theorem small14_good:Rw.Good Tryz.prog 36 kBq:=by
  have hΓ:kL Tryz.prog [(49,kDE),(50,actsCon)]:=(kH wnodes_good (kH acts_good kJ))
  refine kW (nn:=18) hΓ Tryz.func36 (by kernel_rfl) rfl (show Tryz.f36.results.toList=[.tmp 4] from rfl) (fun _=>rfl) (fun x=>by simp [AV.erL,AV.er,kEQ,jT]) ?_
  rintro ⟨⟨t,ht,htc⟩,⟨l,hl,hlc⟩⟩
  simp only [aR,N0,N1,N2,N3,N4,N5,Z0,Z1,Z2,Z3,Z4,Z5,Z6,Z7,Z8,Z9,Z10,Zc,↓reduceIte,reduceCtorEq]
  refine call_wnodes (by simp [kI]) rfl ht htc (by omega) ?_
  by_cases h1:nF 4000 0 t≤4000
  case neg=>simp only [aR,N0,N1,N2,N3,N4,N5,Z0,Z1,Z2,Z3,Z4,Z5,Z6,Z7,Z8,Z9,Z10,Zc,↓reduceIte,reduceCtorEq,h1,kDT,false_and]
  simp only [aR,N0,N1,N2,N3,N4,N5,Z0,Z1,Z2,Z3,Z4,Z5,Z6,Z7,Z8,Z9,Z10,Zc,↓reduceIte,reduceCtorEq,h1]
  refine call_acts (by simp [kI]) rfl hl hlc (by omega) ?_
  by_cases h2:wF 4000 0 (wA l)≤4000
  case neg=>simp only [aR,N0,N1,N2,N3,N4,N5,Z0,Z1,Z2,Z3,Z4,Z5,Z6,Z7,Z8,Z9,Z10,Zc,↓reduceIte,reduceCtorEq,h1,h2,kDT,false_and,true_and]
  simp only [aR,N0,N1,N2,N3,N4,N5,Z0,Z1,Z2,Z3,Z4,Z5,Z6,Z7,Z8,Z9,Z10,Zc,↓reduceIte,reduceCtorEq,h1,h2,kS]
  unfold kDT
  exact decide_eq_decide.2 ⟨fun h=>⟨h1,h2,by omega⟩,fun h=>by omega⟩
theorem kBb {Γ:Env} (hf:Γ.get 36=some kBq) {σ:AS} {dr:Bool} {t:List Nd} {l:List Ac} {xs ys:List AV} {t1 t2:Nat} {d:Option Nat} {K:AS→Prop} (hx:xs=qI t) (hy:ys=acts l) (h1:t.length≤9223372036854775807) (h2:∀ a∈t,a.nm.length≤9223372036854775807∧a.text.length≤9223372036854775807) (h3:l.length≤9223372036854775807) (h4:∀ a∈l,a.nm.length≤9223372036854775807∧kCY a.ops)
    (hk:cont σ d (.v (.bool (kDT t l))) K):kR Tryz.prog Γ dr σ 36 [.sl t1 5 xs,.sl t2 6 ys] d K:=by
  subst hx hy
  exact kP (C:=kBq) (i:=(⟨t,h1,h2⟩,⟨l,h3,h4⟩)) hf rfl rfl rfl (by simp [AV.erL,AV.er]) (fun _ h=>h) rfl hk
theorem kDU {t:List Nd} {l:List Ac} (h:kDT t l=true) (h4:∀ a∈l,a.nm.length≤9223372036854775807∧kCY a.ops):l.length≤60∧∀ a∈l,okA a:=by
  obtain ⟨_,h1,h2⟩:=of_decide_eq_true h
  exact ⟨h2,(acts_okA (by omega) h4 h1).2⟩
set_option maxHeartbeats 1000000 in
theorem tsame_good:Rw.Good Tryz.prog 38 kBf:=by
  have hΓ:kL Tryz.prog [(88,jR)]:=(kH kF6 kJ)
  refine kW (nn:=8) hΓ Tryz.func38 (by kernel_rfl) rfl (show Tryz.f38.results.toList=[.tmp 4] from rfl) (fun _=>rfl) (fun x=>by simp [AV.erL,AV.er]) ?_
  rintro ⟨⟨a,ha,hao⟩,⟨b,hb,hbo⟩⟩
  simp only [aR,N0,N1,N2,N3,N4,N5,Z0,Z1,Z2,Z3,Z4,Z5,Z6,Z7,Z8,Z9,Z10,Zc,↓reduceIte,reduceCtorEq]
  refine kBx (nn:=32) hΓ (by first | assumption | simp [kI,k9]) Tryz.func87 (by kernel_rfl) rfl (show Tryz.f87.results.toList=[.tmp 6] from rfl) rfl ?_
  simp only [aR,N0,N1,N2,N3,N4,N5,Z0,Z1,Z2,Z3,Z4,Z5,Z6,Z7,Z8,Z9,Z10,Zc,↓reduceIte,reduceCtorEq,kS]
  by_cases hl:a.length=b.length
  case neg =>
    have hne:a≠b:=fun e=>hl (by rw [e])
    simp only [aR,N0,N1,N2,N3,N4,N5,Z0,Z1,Z2,Z3,Z4,Z5,Z6,Z7,Z8,Z9,Z10,Zc,↓reduceIte,reduceCtorEq,show ((a.length:Int)=b.length)=False from eq_false (by omega),hne]
  simp only [aR,N0,N1,N2,N3,N4,N5,Z0,Z1,Z2,Z3,Z4,Z5,Z6,Z7,Z8,Z9,Z10,Zc,↓reduceIte,reduceCtorEq,hl,kS]
  refine kDr hΓ (fun i:{ i:Nat // i≤b.length∧a.take i=b.take i }=>[(0,.sl 0 6 (acts a)),(1,.sl 0 6 (acts b)),(2,.fn 88 []),(15,.sl 0 6 (acts a)),(16,.v (.int .i64 b.length)),(17,.v (.int .i64 i.1))]) (fun i=>b.length - i.1) ⟨0,by omega,by simp⟩ (by simp only [aR,N0,N1,N2,N3,N4,N5,Z0,Z1,Z2,Z3,Z4,Z5,Z6,Z7,Z8,Z9,Z10,Zc,↓reduceIte,reduceCtorEq] <;> ((repeat' apply And.intro) <;> first | rfl | omega | trivial)) ?_
  rintro ⟨i,hi,hs⟩ q hq
  simp only
  simp only [aR,N0,N1,N2,N3,N4,N5,Z0,Z1,Z2,Z3,Z4,Z5,Z6,Z7,Z8,Z9,Z10,Zc,↓reduceIte,reduceCtorEq,kS]
  (with_reducible first | refine kD (fun h=>?_) (fun h=>?_) | refine kE (fun h=>?_) (fun h=>?_))
  · have hlt:i < a.length:=by omega
    have hlt2:i < b.length:=by omega
    have e1:=zD a hlt
    have e2:=zD b hlt2
    have hx:=hao _ (List.getElem_mem hlt)
    have hy:=hbo _ (List.getElem_mem hlt2)
    have ta:=List.take_succ_eq_append_getElem hlt
    have tb:=List.take_succ_eq_append_getElem hlt2
    have hab:a[i]=b[i]→a.take (i+1)=b.take (i+1):=fun he=>by rw [ta,tb,he,hs]
    have hne:¬ a[i]=b[i]→a≠b:=fun he hh=>he (by subst hh; rfl)
    generalize a[i]=x at *
    generalize b[i]=y at *
    have hq1:(q=q+1)=False:=eq_false (by omega)
    simp only [aR,N0,N1,N2,N3,N4,N5,Z0,Z1,Z2,Z3,Z4,Z5,Z6,Z7,Z8,Z9,Z10,Zc,↓reduceIte,reduceCtorEq,h,e1,e2,aA,kS,hl,hq1]
    (repeat (with_reducible refine And.intro ?_ ?_; focus (first | omega | exact kF | kernel_rfl)))
    refine kP (C:=jR) (i:=(⟨x,hx⟩,⟨y,hy⟩)) (by simp [kI]) rfl rfl rfl (by simp [AV.erL,AV.er,aA,kDL]) (fun _ h=>h) rfl ?_
    by_cases hxy:x=y
    · simp only [aR,N0,N1,N2,N3,N4,N5,Z0,Z1,Z2,Z3,Z4,Z5,Z6,Z7,Z8,Z9,Z10,Zc,↓reduceIte,reduceCtorEq,hxy,kA (n:=(i:Int)+1) (by omega) (by omega)]
      refine keep_end ⟨i+1,by omega,hab hxy⟩ (by simp only; omega) (by omega) ?_ ?_ ⟨rfl,rfl,rfl⟩
      · simp only [aR,N0,N1,N2,N3,N4,N5,Z0,Z1,Z2,Z3,Z4,Z5,Z6,Z7,Z8,Z9,Z10,Zc,↓reduceIte,reduceCtorEq] <;> ((repeat' apply And.intro) <;> first | rfl | omega | trivial)
      · repeat' first | (intro o z h; cases h; done) | exact (fun _ _ h=>h) | refine keep_new ?_ ?_
    · simp only [aR,N0,N1,N2,N3,N4,N5,Z0,Z1,Z2,Z3,Z4,Z5,Z6,Z7,Z8,Z9,Z10,Zc,↓reduceIte,reduceCtorEq,hxy,hne hxy]
  · have e1:a.take i=a:=List.take_of_length_le (by omega)
    have e2:b.take i=b:=List.take_of_length_le (by omega)
    rw [e1,e2] at hs
    simp only [aR,N0,N1,N2,N3,N4,N5,Z0,Z1,Z2,Z3,Z4,Z5,Z6,Z7,Z8,Z9,Z10,Zc,↓reduceIte,reduceCtorEq,h,hs]
end Go.Proofs
end
-- ETr17
section
namespace Go.Proofs
open Go Go.Rw
open _root_.Nat renaming reduceAdd → N0, reduceSub → N1, reduceMul → N2, reduceLT → N3, reduceLeDiff → N4, reduceEqDiff → N5
open _root_.Int renaming reduceNeg → Z0, reduceAdd → Z1, reduceSub → Z2, reduceMul → Z3, reduceGT → Z4, reduceGE → Z5, reduceLT → Z6, reduceLE → Z7, reduceEq → Z8, reduceNe → Z9, reduceToNat → Z10, cast_ofNat_Int → Zc
set_option maxRecDepth 100000
theorem kA6 {Γ:Env} (hf:Γ.get 32=some kEN) {n:Nat} {t:Nat→AV} {hd:Nat→Nat→AV} {nh nl:Nat} {h:Nat→Option AO} {fm:Nat→Nat} {lv:Nat→Option (Nat×Nat)} {mu:Bool} {dr:Bool} {d:Option Nat} {K:AS→Prop}
    (hk:cont ⟨n,t,hd,⟨nh,h,nl,fm,lv,mu⟩⟩ d (.v (.bool true)) K):kR Tryz.prog Γ dr ⟨n,t,hd,⟨nh,h,nl,fm,lv,mu⟩⟩ 32 [] d K :=
  kAX (C:=kEN) (i:=()) (r:=.v (.bool true)) hf rfl rfl (by simp [AV.erL]) rfl (fun _ h=>h) (by simp only [AV.er]; exact hk)
theorem kCj {Γ:Env} {f:Nat} (hf:Γ.get f=some z7) {σ:AS} {dr:Bool} {l:List Ac} {t1:Nat} {ys:List AV} {d:Option Nat} {K:AS→Prop} (hy:ys=acts l) (hl:l.length≤1000000) (ho:∀ a∈l,okA a)
    (hk:cont σ d (.v (.int .i64 (txnE l))) K):kR Tryz.prog Γ dr σ f [.sl t1 6 ys] d K:=by
  subst hy
  exact kP (C:=z7) (i:=⟨l,hl,ho⟩) hf rfl rfl rfl (by simp [AV.erL,AV.er,jT]) (fun _ h=>h) rfl hk
theorem kDq {Γ:Env} {f:Nat} (hf:Γ.get f=some kBf) {σ:AS} {dr:Bool} {a b:List Ac} {t1 t2:Nat} {xs ys:List AV} {d:Option Nat} {K:AS→Prop} (hx:xs=acts a) (hy:ys=acts b) (ha:a.length≤1099511627776) (hao:∀ x∈a,okL x.ops) (hb:b.length≤1099511627776) (hbo:∀ x∈b,okL x.ops)
    (hk:cont σ d (.v (.bool (decide (a=b)))) K):kR Tryz.prog Γ dr σ f [.sl t1 6 xs,.sl t2 6 ys] d K:=by
  subst hx hy
  exact kP (C:=kBf) (i:=(⟨a,ha,hao⟩,⟨b,hb,hbo⟩)) hf rfl rfl rfl (by simp [AV.erL,AV.er]) (fun _ h=>h) rfl hk
abbrev GivenAB:={ l:List Ac // l.length≤9223372036854775807∧∀ a∈l,(a.nm.length≤9223372036854775807∧kCY a.ops)∧bndA a }
abbrev asks14Con:Con where
  ι:=GivenAB×GivenAB×{ a:Ac // a.nm.length≤9223372036854775807∧kCY a.ops }
  args:=fun p=>[.sl 0 6 (acts p.1.1),.sl 0 6 (acts p.2.1.1),aA p.2.2.1]
  post:=fun _ r=>r = .v (.bool true)
  plain:=true
set_option maxHeartbeats 4000000 in
theorem asks14_good:Rw.Good Tryz.prog 9 asks14Con:=by
  have hΓ:kL Tryz.prog [(32,kEN),(36,kBq),(35,z7),(37,z7),(38,kBf),(39,kBf),(41,kA9),(42,kA9),(40,jR),(44,kFY),(45,touchCon),(43,intsCon)]:=(kH awake14_good (kH small14_good (kH kCS (kH rtcheck_good (kH tsame_good (kH sacts_good (kH kFz (kH kFK (kH kCR (kH ptouch_good (kH touch_good (kH ints_good kJ))))))))))))
  refine kW (nn:=53) hΓ Tryz.func9 (by kernel_rfl) rfl (show Tryz.f9.results.toList=[.tmp 6] from rfl) (fun _=>rfl) (fun x=>by simp [AV.erL,AV.er,jT,kEA]) ?_
  rintro ⟨⟨l,hl,hlc⟩,⟨m,hm,hmc⟩,⟨a,han,hac⟩⟩
  have hlb:∀ a∈l,bndA a:=fun a ha=>(hlc a ha).2
  have hlc:∀ a∈l,a.nm.length≤9223372036854775807∧kCY a.ops:=fun a ha=>(hlc a ha).1
  have hmc:∀ a∈m,a.nm.length≤9223372036854775807∧kCY a.ops:=fun a ha=>(hmc a ha).1
  obtain ⟨k,id,par,nm,dir,ops⟩:=a
  simp only at han hac
  simp only [aR,N0,N1,N2,N3,N4,N5,Z0,Z1,Z2,Z3,Z4,Z5,Z6,Z7,Z8,Z9,Z10,Zc,↓reduceIte,reduceCtorEq,aA]
  refine kBb (t:=[]) (by simp [kI]) rfl rfl (by simp) (by simp) hl hlc ?_
  rcases Bool.eq_false_or_eq_true (kDT [] l) with h1 | h1
  case inr =>
    simp only [aR,N0,N1,N2,N3,N4,N5,Z0,Z1,Z2,Z3,Z4,Z5,Z6,Z7,Z8,Z9,Z10,Zc,↓reduceIte,reduceCtorEq,h1]
    refine kA6 (by simp [kI]) ?_
    simp only [aR,N0,N1,N2,N3,N4,N5,Z0,Z1,Z2,Z3,Z4,Z5,Z6,Z7,Z8,Z9,Z10,Zc,↓reduceIte,reduceCtorEq]
  simp only [aR,N0,N1,N2,N3,N4,N5,Z0,Z1,Z2,Z3,Z4,Z5,Z6,Z7,Z8,Z9,Z10,Zc,↓reduceIte,reduceCtorEq,h1]
  refine kBb (t:=[]) (by simp [kI]) rfl rfl (by simp) (by simp) hm hmc ?_
  rcases Bool.eq_false_or_eq_true (kDT [] m) with h2 | h2
  case inr =>
    simp only [aR,N0,N1,N2,N3,N4,N5,Z0,Z1,Z2,Z3,Z4,Z5,Z6,Z7,Z8,Z9,Z10,Zc,↓reduceIte,reduceCtorEq,h2]
    refine kA6 (by simp [kI]) ?_
    simp only [aR,N0,N1,N2,N3,N4,N5,Z0,Z1,Z2,Z3,Z4,Z5,Z6,Z7,Z8,Z9,Z10,Zc,↓reduceIte,reduceCtorEq]
  simp only [aR,N0,N1,N2,N3,N4,N5,Z0,Z1,Z2,Z3,Z4,Z5,Z6,Z7,Z8,Z9,Z10,Zc,↓reduceIte,reduceCtorEq,h2,List.map_cons,List.map_nil]
  refine kBb (t:=[]) (l:=[⟨k,id,par,nm,dir,ops⟩]) (by simp [kI]) rfl rfl (by simp) (by simp) (by simp) (by simpa using ⟨han,hac⟩) ?_
  rcases Bool.eq_false_or_eq_true (kDT [] [(⟨k,id,par,nm,dir,ops⟩:Ac)]) with h3 | h3
  case inr =>
    simp only [aR,N0,N1,N2,N3,N4,N5,Z0,Z1,Z2,Z3,Z4,Z5,Z6,Z7,Z8,Z9,Z10,Zc,↓reduceIte,reduceCtorEq,h3]
    refine kA6 (by simp [kI]) ?_
    simp only [aR,N0,N1,N2,N3,N4,N5,Z0,Z1,Z2,Z3,Z4,Z5,Z6,Z7,Z8,Z9,Z10,Zc,↓reduceIte,reduceCtorEq]
  obtain ⟨ll,lok⟩:=kDU h1 hlc
  obtain ⟨ml,mok⟩:=kDU h2 hmc
  obtain ⟨_,aok⟩:=kDU h3 (by simpa using ⟨han,hac⟩)
  have ak:=aok _ (List.mem_singleton.2 rfl)
  simp only [aR,N0,N1,N2,N3,N4,N5,Z0,Z1,Z2,Z3,Z4,Z5,Z6,Z7,Z8,Z9,Z10,Zc,↓reduceIte,reduceCtorEq,h3]
  (repeat (with_reducible refine And.intro ?_ ?_; focus (first | omega | exact kF | kernel_rfl)))
  refine kCj (by simp [kI]) rfl (by omega) lok ?_
  simp only [aR,N0,N1,N2,N3,N4,N5,Z0,Z1,Z2,Z3,Z4,Z5,Z6,Z7,Z8,Z9,Z10,Zc,↓reduceIte,reduceCtorEq]
  refine kCj (by simp [kI]) rfl (by omega) lok ?_
  simp only [aR,N0,N1,N2,N3,N4,N5,Z0,Z1,Z2,Z3,Z4,Z5,Z6,Z7,Z8,Z9,Z10,Zc,↓reduceIte,reduceCtorEq]
  refine kDq (by simp [kI]) rfl rfl (by omega) (fun z hz=>(lok z hz).1) (by omega) (fun z hz=>(mok z hz).1) ?_
  simp only [aR,N0,N1,N2,N3,N4,N5,Z0,Z1,Z2,Z3,Z4,Z5,Z6,Z7,Z8,Z9,Z10,Zc,↓reduceIte,reduceCtorEq]
  refine kDq (by simp [kI]) rfl rfl (by omega) (fun z hz=>(lok z hz).1) (by omega) (fun z hz=>(mok z hz).1) ?_
  simp only [aR,N0,N1,N2,N3,N4,N5,Z0,Z1,Z2,Z3,Z4,Z5,Z6,Z7,Z8,Z9,Z10,Zc,↓reduceIte,reduceCtorEq,beq_self_eq_true]
  have oka:=kFR ak.1
  refine kBn (a:=Ac.mk k id par nm dir ops) (by simp [kI]) rfl ak.1 ?_
  obtain ⟨pa,hpa⟩:∃ pa,zH (Ac.mk k id par nm dir ops)=pa:=⟨_,rfl⟩
  rw [hpa] at oka ⊢
  simp only [aR,N0,N1,N2,N3,N4,N5,Z0,Z1,Z2,Z3,Z4,Z5,Z6,Z7,Z8,Z9,Z10,Zc,↓reduceIte,reduceCtorEq]
  refine kBn (a:=Ac.mk k id par nm dir ops) (by simp [kI]) rfl ak.1 ?_
  rw [hpa]
  simp only [aR,N0,N1,N2,N3,N4,N5,Z0,Z1,Z2,Z3,Z4,Z5,Z6,Z7,Z8,Z9,Z10,Zc,↓reduceIte,reduceCtorEq]
  refine kD0 (a:=pa) (b:=pa) (by simp [kI]) rfl rfl oka oka ?_
  simp only [aR,N0,N1,N2,N3,N4,N5,Z0,Z1,Z2,Z3,Z4,Z5,Z6,Z7,Z8,Z9,Z10,Zc,↓reduceIte,reduceCtorEq]
  refine kAX (C:=kFY) (i:=⟨l,by omega,hlb⟩) (r:=.sl 0 1 (ints .i64 (jP [] l))) (by simp [kI]) rfl rfl (by simp [AV.erL,AV.er,jT]) rfl (fun _ h=>h) ?_
  simp only [aR,N0,N1,N2,N3,N4,N5,Z0,Z1,Z2,Z3,Z4,Z5,Z6,Z7,Z8,Z9,Z10,Zc,↓reduceIte,reduceCtorEq]
  refine kAX (C:=touchCon) (i:=⟨l,by omega⟩) (r:=.sl 0 1 (ints .i64 (jP [] l))) (by simp [kI]) rfl rfl (by simp [AV.erL,AV.er,jT]) rfl (fun _ h=>h) ?_
  simp only [aR,N0,N1,N2,N3,N4,N5,Z0,Z1,Z2,Z3,Z4,Z5,Z6,Z7,Z8,Z9,Z10,Zc,↓reduceIte,reduceCtorEq]
  have tl:=touch_len l []
  simp only [List.length_nil] at tl
  refine kP (C:=intsCon) (i:=⟨(jP [] l,jP [] l),by simp only; omega,by simp only; omega⟩) (by simp [kI]) rfl rfl rfl (by simp [AV.erL,AV.er]) (fun _ h=>h) rfl ?_
  simp only [aR,N0,N1,N2,N3,N4,N5,Z0,Z1,Z2,Z3,Z4,Z5,Z6,Z7,Z8,Z9,Z10,Zc,↓reduceIte,reduceCtorEq]
  refine kA6 (by simp [kI]) ?_
  simp only [aR,N0,N1,N2,N3,N4,N5,Z0,Z1,Z2,Z3,Z4,Z5,Z6,Z7,Z8,Z9,Z10,Zc,↓reduceIte,reduceCtorEq]
end Go.Proofs
end
-- EUeR
section
namespace Go.Proofs
open Go Go.Rw Go.RowKit Go.ChangeShapes Go.WideShapes Go.ChangeAt Go.Deep
set_option maxRecDepth 100000
theorem i64_rng {n:Int} (h:(Lit.int .i64 n).wf=true):-9223372036854775808≤n∧n≤9223372036854775807:=by
  simp [Lit.wf,IntKind.min,IntKind.max,IntKind.signed,IntKind.bits] at h; omega
abbrev tyC:Ty:=.st [.int .i64,.int .i64,.str]
abbrev tyA:Ty:=.st [.int .i64,.int .i64,.int .i64,.str,.bool,.slc tyC]
theorem fit_comp {ds:List AV} (h:Fits tyC ds):∃ c:Cp,kDF tyC ds=cA c∧(-9223372036854775808≤c.n∧c.n≤9223372036854775807)∧c.t.length≤9223372036854775807:=by
  simp only [tyC,Fits,FitsL] at h
  obtain ⟨a,b,rfl,⟨k,rfl,hk⟩,a2,b2,rfl,⟨n,rfl,hn⟩,a3,b3,rfl,⟨t,rfl,ht⟩,rfl⟩:=h
  exact ⟨⟨k,n,t⟩,rfl,i64_rng hn,ht⟩
theorem fit_comps {cs:List AV} (h:Fits (.slc tyC) cs):∃ l:List Cp,cs=[.sl 0 3 (qB l)]∧kCY l:=by
  rw [Fits] at h
  obtain ⟨xs,rfl,h1,h2⟩:=h
  obtain ⟨l,rfl,h3⟩:=fits_map cA (fun c=>(-9223372036854775808≤c.n∧c.n≤9223372036854775807)∧c.t.length≤9223372036854775807) (fun ds hd=>fit_comp hd) xs h2
  exact ⟨l,rfl,by simpa using h1,h3⟩
theorem fit_act {ds:List AV} (h:Fits tyA ds):∃ a:Ac,kDF tyA ds=aA a∧a.nm.length≤9223372036854775807∧kCY a.ops:=by
  simp only [tyA,Fits.eq_5,FitsL] at h
  obtain ⟨a,b,rfl,h1,a2,b2,rfl,h2,a3,b3,rfl,h3,a4,b4,rfl,h4,a5,b5,rfl,h5,a6,b6,rfl,h6,rfl⟩:=h
  obtain ⟨l,rfl,hl⟩:=fit_comps h6
  simp only [Fits] at h1 h2 h3 h4 h5
  obtain ⟨k,rfl,_⟩:=h1
  obtain ⟨id,rfl,_⟩:=h2
  obtain ⟨par,rfl,_⟩:=h3
  obtain ⟨nm,rfl,hn⟩:=h4
  obtain ⟨dir,rfl⟩:=h5
  exact ⟨⟨k,id,par,nm,dir,l⟩,rfl,hn,hl⟩
section
variable {P:Program} {W:World} {H:Type} {enc:TypeId×Value→H}
end
end Go.Proofs
end
-- EUk11
section
namespace Go.Proofs
open Go Go.Rw
set_option maxRecDepth 100000
structure Cm where
  rev:Int
  client:Int
  seq:Int
  acs:List Ac
  deriving Inhabited,DecidableEq
end Go.Proofs
end
-- EUk13
section
namespace Go.Proofs
open Go Go.Rw
set_option maxRecDepth 100000
end Go.Proofs
end
-- EUkR
section
namespace Go.Proofs
open Go Go.Rw Go.RowKit Go.ChangeShapes Go.WideShapes Go.ChangeAt Go.Deep
set_option maxRecDepth 100000
theorem open_act {P:Program} {W:World} {H:Type} {enc:TypeId×Value→H} {t:TypeId} {cs:Array Value} {d:DataW H} {p:List MemPlace} (ht:isTy P t tyA=true) (h:DataW.Trod enc P W 0 (fun _=>true) true t (.agg cs) d p) :
    ∃ a:Ac,a.nm.length≤9223372036854775807∧kCY a.ops∧VR (Gin (Fw W) none) W (.agg cs) (aA a):=by
  obtain ⟨bs,h1,h2⟩:=open_arg ht h
  obtain ⟨a,e,hn,hc⟩:=fit_act h1
  refine ⟨a,hn,hc,?_⟩
  rw [← e]
  have hs:cs.size=bs.length:=by have:=h2.1; simpa [Value.cells] using this
  refine VR.agg cs bs hs fun k hk=>?_
  have g:=(h2.2 k hk).2
  have e2:(Value.agg cs).cells.toList.getD k undef=cs.getD k default:=by
    show cs.toList.getD k undef=cs.getD k default
    have hk2:k < cs.size:=by omega
    rw [List.getD_eq_getElem?_getD,Array.getElem?_toList,Array.getElem?_eq_getElem hk2]
    simp [Array.getD,hk2]
  rw [e2] at g
  exact g
end Go.Proofs
end
-- ETrR
section
namespace Go.Proofs
open Go Go.Rw Go.RowKit Go.ChangeShapes Go.WideShapes Go.ChangeAt Go.Deep
set_option maxRecDepth 100000
theorem fit_actB {ds:List AV} (h:Fits tyA ds):∃ a:Ac,kDF tyA ds=aA a∧(a.nm.length≤9223372036854775807∧kCY a.ops)∧bndA a:=by
  simp only [tyA,Fits.eq_5,FitsL] at h
  obtain ⟨a,b,rfl,h1,a2,b2,rfl,h2,a3,b3,rfl,h3,a4,b4,rfl,h4,a5,b5,rfl,h5,a6,b6,rfl,h6,rfl⟩:=h
  obtain ⟨l,rfl,hl⟩:=fit_comps h6
  simp only [Fits] at h1 h2 h3 h4 h5
  obtain ⟨k,rfl,_⟩:=h1
  obtain ⟨id,rfl,hi⟩:=h2
  obtain ⟨par,rfl,hp⟩:=h3
  obtain ⟨nm,rfl,hn⟩:=h4
  obtain ⟨dir,rfl⟩:=h5
  exact ⟨⟨k,id,par,nm,dir,l⟩,rfl,⟨hn,hl⟩,i64_rng hi,i64_rng hp⟩
theorem kFa {P:Program} {W:World} {H:Type} {enc:TypeId×Value→H} {t:TypeId} {v:Value} {d:DataW H} {p:List MemPlace} (ht:isTy P t (.slc tyA)=true) (hv:∃ A n c,v = .slice A n c) (h:DataW.Trod enc P W 0 (fun _=>true) true t v d p) :
    ∃ l:List Ac,l.length≤9223372036854775807∧(∀ a∈l,(a.nm.length≤9223372036854775807∧kCY a.ops)∧bndA a)∧VR (Gin (Fw W) none) W v (.sl 0 6 (acts l)) :=
  arg_slc aA _ (fun ds hd=>fit_actB hd) ht hv h
end Go.Proofs
end
-- EUr1
section
namespace Go.Proofs.YtfhipjafkdembaaGreatDoor
open Go Go.ChangeShapes Go.WideShapes Go.ChangeAt Go.RowKit Go.Rw Go.Lib
open Go.ChangeMaps (open_string shut_string)
set_option maxRecDepth 100000
theorem own:ownKnob Tryz.prog.godebug=none:=by kernel_rfl
theorem laidOut:laidOutB Tryz.prog=true:=by kernel_rfl
noncomputable def kCl (os:Os):World :=
  let w0:=World.holding Tryz.prog os ⟨#[],#[],[]⟩
  let put (h:Array Obj) (g:Nat) (cs:Array Value):Array Obj:=h.modify g fun
    | .cells _ t frozen=>.cells cs t frozen
    | o=>o
  let h1:=put w0.heap 0 (Lib.firstTab.map fun z=>Value.int .u8 z).toArray
  let h2:=put h1 1 ((List.range 16).flatMap fun i=>[Value.int .u8 (Lib.accLo i),Value.int .u8 (Lib.accHi i)]).toArray
  { w0 with heap:=h2 }
abbrev laidL : List (String × DataW Unit) := [("unicode/utf8.acceptRanges", Lib.acceptData), ("unicode/utf8.first", Lib.firstData)]
theorem laid_met (os:Os) (args:Array Value):laidMet Tryz.prog laidL ((kCl os).forCall (fun _ _=>0) ⟨#[],args,[]⟩).memory :=
  (LaidIn.of_run (l:=laidL) [1,0] 8 (by kernel_rfl) (by kernel_rfl) (by kernel_rfl) (by kernel_rfl)).met
theorem tabs_of {W:World} (hL:laidMet Tryz.prog laidL W):TabOk W (kX none):=by
  have htab:Lib.Utf8Tabs 0 1 W :=
    utf8Tabs_of_readsT (U8Types.of196 Tryz.lays196) ⟨by kernel_rfl,by kernel_rfl,by kernel_rfl,by kernel_rfl,by kernel_rfl,by kernel_rfl,by kernel_rfl⟩ (Lib.laidMet.reads hL (.tail _ (.head _))) (Lib.laidMet.reads hL (.head _))
  refine ⟨htab,fun g hg=>⟨?_,by rintro ⟨k,hk,_⟩; cases hk⟩⟩
  have key:∀ g i v,W.cell? ⟨g,i,none⟩=some v→g < W.heap.size:=fun g i v h=>Fw_lt (Nat.lt_of_le_of_lt (Nat.zero_le i) (Fw_cell h))
  rcases hg with rfl | rfl
  · exact key 0 _ _ (htab.1 0 (by omega))
  · exact key 1 _ _ (htab.2 0 (by omega)).1
end Go.Proofs.YtfhipjafkdembaaGreatDoor
end
