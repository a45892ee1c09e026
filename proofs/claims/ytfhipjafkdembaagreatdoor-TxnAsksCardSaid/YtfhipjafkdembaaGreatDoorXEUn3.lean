/-
  Transactions: whether they may be. txn.one,puts,Check. An edit of a place; what does nothing; the law's own readiness. OpOf answers true. Sums,held; how much an edit takes. Laws of the normal form. What the normal form keeps. Edits done,undone,found. Plain. Edits done by the program. Which edits may be,as the document says.
-/
import Derived.Test.YtfhipjafkdembaaGreatDoorXEUo1
import Derived.Test.YtfhipjafkdembaaGreatDoorRwF
set_option linter.unusedSimpArgs false
set_option linter.unusedVariables false
set_option linter.defProp false
set_option linter.unusedSectionVars false

-- EUn3
section
namespace Go.Proofs
open Go Go.Rw
open _root_.Nat renaming reduceAdd → N0, reduceSub → N1, reduceMul → N2, reduceLT → N3, reduceLeDiff → N4, reduceEqDiff → N5
open _root_.Int renaming reduceNeg → Z0, reduceAdd → Z1, reduceSub → Z2, reduceMul → Z3, reduceGT → Z4, reduceGE → Z5, reduceLT → Z6, reduceLE → Z7, reduceEq → Z8, reduceNe → Z9, reduceToNat → Z10, cast_ofNat_Int → Zc
set_option maxRecDepth 100000
def badA (a:Ac):Bool:=decide (a.k < 1∨a.k > 4∨¬ a=zH a∨a.id < 1∨a.id > 1099511627776∨a.par < 0∨a.par > 1099511627776∨((a.k=1∨a.k=3)∧qG a.nm=false))
def oneI (a:Ac):Int:=if badA a then 1 else if a.k=4 then qS a.ops else 0
abbrev AcN:={ a:Ac // okL a.ops∧a.nm.length≤1099511627776 }
abbrev oneCon:Con where
  ι:=AcN
  args:=fun a=>[aA a.1]
  post:=fun a r=>r = .v (.int .i64 (oneI a.1))
  plain:=true
theorem one_good:Rw.Good Tryz.prog 82 oneCon:=by
  have hΓ:kL Tryz.prog [(41,kA9),(88,jR),(91,kC7),(30,kB4),(113,kAJ)]:=(kH kFz (kH kF6 (kH kFs (kH kEt (kH kGJ kJ)))))
  refine kW (nn:=58) hΓ Tryz.func82 (by kernel_rfl) rfl (show Tryz.f82.results.toList=[.tmp 2] from rfl) (fun _=>rfl) (fun x=>by simp [AV.erL,kEA]) ?_
  rintro ⟨a,oa,hn⟩
  obtain ⟨k,id,par,nm,dir,ops⟩:=a
  simp only at oa hn
  simp only [aR,N0,N1,N2,N3,N4,N5,Z0,Z1,Z2,Z3,Z4,Z5,Z6,Z7,Z8,Z9,Z10,Zc,↓reduceIte,reduceCtorEq,aA]
  (repeat (with_reducible refine And.intro ?_ ?_; focus (first | omega | exact kF | kernel_rfl)))
  by_cases h1:k < 1
  · simp only [aR,N0,N1,N2,N3,N4,N5,Z0,Z1,Z2,Z3,Z4,Z5,Z6,Z7,Z8,Z9,Z10,Zc,↓reduceIte,reduceCtorEq,h1]
    simp [oneI,badA,h1]
  by_cases h2:k > 4
  · simp only [aR,N0,N1,N2,N3,N4,N5,Z0,Z1,Z2,Z3,Z4,Z5,Z6,Z7,Z8,Z9,Z10,Zc,↓reduceIte,reduceCtorEq,h1,h2]
    simp [oneI,badA,h2]
  simp only [aR,N0,N1,N2,N3,N4,N5,Z0,Z1,Z2,Z3,Z4,Z5,Z6,Z7,Z8,Z9,Z10,Zc,↓reduceIte,reduceCtorEq,h1,h2]
  refine kBn (by simp [kI]) (a:=⟨k,id,par,nm,dir,ops⟩) rfl oa ?_
  simp only [aR,N0,N1,N2,N3,N4,N5,Z0,Z1,Z2,Z3,Z4,Z5,Z6,Z7,Z8,Z9,Z10,Zc,↓reduceIte,reduceCtorEq,h1,h2]
  refine kD0 (by simp [kI]) (a:=⟨k,id,par,nm,dir,ops⟩) rfl rfl oa (kFR (a:=⟨k,id,par,nm,dir,ops⟩) oa) ?_
  obtain ⟨b,hb⟩:∃ b,decide ((⟨k,id,par,nm,dir,ops⟩:Ac)=zH ⟨k,id,par,nm,dir,ops⟩)=b:=⟨_,rfl⟩
  rw [hb]
  cases b
  · have hb2:¬ (⟨k,id,par,nm,dir,ops⟩:Ac)=zH ⟨k,id,par,nm,dir,ops⟩:=of_decide_eq_false hb
    simp only [aR,N0,N1,N2,N3,N4,N5,Z0,Z1,Z2,Z3,Z4,Z5,Z6,Z7,Z8,Z9,Z10,Zc,↓reduceIte,reduceCtorEq,h1,h2]
    simp [oneI,badA,hb2]
  have hb2:(⟨k,id,par,nm,dir,ops⟩:Ac)=zH ⟨k,id,par,nm,dir,ops⟩:=of_decide_eq_true hb
  have e0:badA ⟨k,id,par,nm,dir,ops⟩=decide (id < 1∨id > 1099511627776∨par < 0∨par > 1099511627776∨((k=1∨k=3)∧qG nm=false)):=by
    unfold badA
    rw [Bool.eq_iff_iff,decide_eq_true_eq,decide_eq_true_eq]
    constructor
    · rintro (h | h | h | h)
      · exact absurd h h1
      · exact absurd h h2
      · exact absurd hb2 h
      · exact h
    · exact fun h=>.inr (.inr (.inr h))
  clear hb hb2
  by_cases h3:id < 1
  · simp only [aR,N0,N1,N2,N3,N4,N5,Z0,Z1,Z2,Z3,Z4,Z5,Z6,Z7,Z8,Z9,Z10,Zc,↓reduceIte,reduceCtorEq,h1,h2,h3]
    simp [oneI,e0,h3]
  by_cases h4:id > 1099511627776
  · simp only [aR,N0,N1,N2,N3,N4,N5,Z0,Z1,Z2,Z3,Z4,Z5,Z6,Z7,Z8,Z9,Z10,Zc,↓reduceIte,reduceCtorEq,h1,h2,h3,h4]
    simp [oneI,e0,h4]
  by_cases h5:par < 0
  · simp only [aR,N0,N1,N2,N3,N4,N5,Z0,Z1,Z2,Z3,Z4,Z5,Z6,Z7,Z8,Z9,Z10,Zc,↓reduceIte,reduceCtorEq,h1,h2,h3,h4,h5]
    simp [oneI,e0,h5]
  by_cases h6:par > 1099511627776
  · simp only [aR,N0,N1,N2,N3,N4,N5,Z0,Z1,Z2,Z3,Z4,Z5,Z6,Z7,Z8,Z9,Z10,Zc,↓reduceIte,reduceCtorEq,h1,h2,h3,h4,h5,h6]
    simp [oneI,e0,h6]
  simp only [aR,N0,N1,N2,N3,N4,N5,Z0,Z1,Z2,Z3,Z4,Z5,Z6,Z7,Z8,Z9,Z10,Zc,↓reduceIte,reduceCtorEq,h1,h2,h3,h4,h5,h6]
  refine kFx (by simp [kI]) (a:=⟨k,id,par,nm,dir,ops⟩) rfl ?_
  obtain ⟨b,hb⟩:∃ b,kBT ⟨k,id,par,nm,dir,ops⟩=b:=⟨_,rfl⟩
  have hb2:(k=1∨k=3)↔b=true:=by rw [← hb,kBT]; simp
  rw [hb]
  have last:∀ e1:badA ⟨k,id,par,nm,dir,ops⟩=false,oneI ⟨k,id,par,nm,dir,ops⟩=if k=4 then qS ops else 0:=fun e1=>by
    rw [oneI,e1]; rfl
  cases b
  · have e1:badA ⟨k,id,par,nm,dir,ops⟩=false:=by
      rw [e0,decide_eq_false_iff_not]
      rintro (h | h | h | h | h)
      · exact h3 h
      · exact h4 h
      · exact h5 h
      · exact h6 h
      · exact absurd (hb2.1 h.1) (by simp)
    have e2:=last e1
    by_cases h7:k=4
    · subst h7
      rw [if_pos rfl] at e2
      simp only [aR,N0,N1,N2,N3,N4,N5,Z0,Z1,Z2,Z3,Z4,Z5,Z6,Z7,Z8,Z9,Z10,Zc,↓reduceIte,reduceCtorEq,e2]
      refine kGE (by simp [kI]) rfl oa ?_
      simp only [aR,N0,N1,N2,N3,N4,N5,Z0,Z1,Z2,Z3,Z4,Z5,Z6,Z7,Z8,Z9,Z10,Zc,↓reduceIte,reduceCtorEq,e2]
    · rw [if_neg h7] at e2
      simp only [aR,N0,N1,N2,N3,N4,N5,Z0,Z1,Z2,Z3,Z4,Z5,Z6,Z7,Z8,Z9,Z10,Zc,↓reduceIte,reduceCtorEq,h7,e2]
  · simp only [aR,N0,N1,N2,N3,N4,N5,Z0,Z1,Z2,Z3,Z4,Z5,Z6,Z7,Z8,Z9,Z10,Zc,↓reduceIte,reduceCtorEq]
    refine kB1 (by simp [kI]) hn ?_
    cases hnm:qG nm
    · have e1:badA ⟨k,id,par,nm,dir,ops⟩=true:=by
        rw [e0,decide_eq_true_eq]
        exact .inr (.inr (.inr (.inr ⟨hb2.2 rfl,hnm⟩)))
      simp only [aR,N0,N1,N2,N3,N4,N5,Z0,Z1,Z2,Z3,Z4,Z5,Z6,Z7,Z8,Z9,Z10,Zc,↓reduceIte,reduceCtorEq]
      simp [oneI,e1]
    · have e1:badA ⟨k,id,par,nm,dir,ops⟩=false:=by
        rw [e0,decide_eq_false_iff_not]
        rintro (h | h | h | h | h)
        · exact h3 h
        · exact h4 h
        · exact h5 h
        · exact h6 h
        · rw [hnm] at h; exact absurd h.2 (by simp)
      have e2:=last e1
      have h7:¬ k=4:=fun h=>by have:=hb2.2 rfl; omega
      rw [if_neg h7] at e2
      simp only [aR,N0,N1,N2,N3,N4,N5,Z0,Z1,Z2,Z3,Z4,Z5,Z6,Z7,Z8,Z9,Z10,Zc,↓reduceIte,reduceCtorEq,h7,e2]
def putC:List Cp→Nat
  | []=>0
  | c::r=>(if c.k=2 then lc c.t else 0)+putC r
def putS:List Ac→Nat
  | []=>0
  | a::r=>putC a.ops+putS r
theorem putC_tot:∀ l:List Cp,putC l≤tot l
  | []=>Nat.le_refl _
  | c::r=>by
    have:=putC_tot r
    have:=lc_len c.t
    rw [putC,tot]
    split <;> omega
theorem putC_take {l:List Cp} {i:Nat} (h:i < l.length):putC (l.drop i)=(if l[i].k=2 then lc l[i].t else 0)+putC (l.drop (i+1)):=by
  rw [List.drop_eq_getElem_cons h,putC]
theorem putS_take {l:List Ac} {i:Nat} (h:i < l.length):putS (l.drop i)=putC l[i].ops+putS (l.drop (i+1)):=by
  rw [List.drop_eq_getElem_cons h,putS]
theorem putS_le:∀ (l:List Ac),(∀ a∈l,okL a.ops)→putS l≤l.length * 1099511627776
  | [],_=>by simp [putS]
  | a::l,h=>by
    have h1:=putS_le l fun b hb=>h b (List.mem_cons_of_mem _ hb)
    have h2:=(h a (List.mem_cons_self ..)).2.1
    have h3:=putC_tot a.ops
    rw [putS,List.length_cons,Nat.add_mul]; omega
abbrev okA (a:Ac):Prop:=okL a.ops∧a.nm.length≤1099511627776
abbrev ActsN:={ l:List Ac // l.length≤1000000∧∀ a∈l,okL a.ops∧a.nm.length≤1099511627776 }
abbrev putsCon:Con where
  ι:=ActsN
  args:=fun l=>[.sl 0 6 (acts l.1)]
  post:=fun l r=>r = .v (.int .i64 (putS l.1))
  plain:=true
theorem puts_good:Rw.Good Tryz.prog 85 putsCon:=by
  have hΓ:kL Tryz.prog [(115,rcCon)]:=(kH rc_good kJ)
  refine kW (nn:=31) hΓ Tryz.func85 (by kernel_rfl) rfl (show Tryz.f85.results.toList=[.tmp 2] from rfl) (fun _=>rfl) (fun x=>by simp [AV.erL,AV.er,jT]) ?_
  rintro ⟨l,hl,ho⟩
  have hb:=putS_le l fun a ha=>(ho a ha).1
  simp only [aR,N0,N1,N2,N3,N4,N5,Z0,Z1,Z2,Z3,Z4,Z5,Z6,Z7,Z8,Z9,Z10,Zc,↓reduceIte,reduceCtorEq,kS]
  obtain ⟨St,hSt⟩:∃ St:{ p:Nat×Nat // p.2≤l.length∧p.1+putS (l.drop p.2)=putS l }→AS,∀ p,St p=AS.of 31 [(2,.v (.int .i64 p.1.1)),(7,.sl 0 6 (acts l)),(8,.v (.int .i64 l.length)),(9,.v (.int .i64 p.1.2))] [] []:=⟨_,fun _=>rfl⟩
  refine qE hΓ St (fun p=>l.length - p.1.2) ⟨(0,0),by simp,by simp⟩ (by rw [hSt]; refine kN [] [] ?_; simp only [aR,N0,N1,N2,N3,N4,N5,Z0,Z1,Z2,Z3,Z4,Z5,Z6,Z7,Z8,Z9,Z10,Zc,↓reduceIte,reduceCtorEq] <;> ((repeat' apply And.intro) <;> first | rfl | omega | trivial)) ?_
  rintro ⟨⟨n,i⟩,hi,hs⟩
  simp only at hi hs
  rw [hSt]
  simp only
  simp only [aR,N0,N1,N2,N3,N4,N5,Z0,Z1,Z2,Z3,Z4,Z5,Z6,Z7,Z8,Z9,Z10,Zc,↓reduceIte,reduceCtorEq,kS]
  (with_reducible first | refine kD (fun h=>?_) (fun h=>?_) | refine kE (fun h=>?_) (fun h=>?_))
  · have hlt:i < l.length:=by omega
    have e1:=zD l hlt
    have ha:=ho _ (List.getElem_mem hlt)
    rw [putS_take hlt] at hs
    generalize l[i]=a at *
    obtain ⟨k,id,par,nm,dir,ops⟩:=a
    obtain ⟨oa,_⟩:=ha
    simp only at hs oa
    have hol:=oa.1
    simp only [aR,N0,N1,N2,N3,N4,N5,Z0,Z1,Z2,Z3,Z4,Z5,Z6,Z7,Z8,Z9,Z10,Zc,↓reduceIte,reduceCtorEq,h,e1,aA,kS,kK]
    (repeat (with_reducible refine And.intro ?_ ?_; focus (first | omega | exact kF | kernel_rfl)))
    obtain ⟨Sb,hSb⟩:∃ Sb:{ p:Nat×Nat // p.2≤ops.length∧p.1+putC (ops.drop p.2)=n+putC ops }→AS,∀ p,Sb p=AS.of 31 [(2,.v (.int .i64 p.1.1)),(7,.sl 0 6 (acts l)),(8,.v (.int .i64 l.length)),(9,.v (.int .i64 i)),(14,.sl 0 3 (qB ops)),(15,.v (.int .i64 ops.length)),(16,.v (.int .i64 p.1.2))] [] []:=⟨_,fun _=>rfl⟩
    refine qE hΓ Sb (fun p=>ops.length - p.1.2) ⟨(n,0),by simp,by simp⟩ (by rw [hSb]; refine kN [] [] ?_; simp only [aR,N0,N1,N2,N3,N4,N5,Z0,Z1,Z2,Z3,Z4,Z5,Z6,Z7,Z8,Z9,Z10,Zc,↓reduceIte,reduceCtorEq] <;> ((repeat' apply And.intro) <;> first | rfl | omega | trivial)) ?_
    rintro ⟨⟨m,j⟩,hj,hm⟩
    simp only at hj hm
    rw [hSb]
    simp only
    simp only [aR,N0,N1,N2,N3,N4,N5,Z0,Z1,Z2,Z3,Z4,Z5,Z6,Z7,Z8,Z9,Z10,Zc,↓reduceIte,reduceCtorEq,kK]
    (with_reducible first | refine kD (fun h2=>?_) (fun h2=>?_) | refine kE (fun h2=>?_) (fun h2=>?_))
    · have hlt2:j < ops.length:=by omega
      have e3:=qH ops hlt2
      have hct:=okL.text oa (List.getElem_mem hlt2)
      rw [putC_take hlt2] at hm
      generalize ops[j]=c at *
      obtain ⟨ck,cn,ct⟩:=c
      simp only at hm hct
      by_cases hk:ck=2
      · rw [if_pos hk] at hm
        simp only [aR,N0,N1,N2,N3,N4,N5,Z0,Z1,Z2,Z3,Z4,Z5,Z6,Z7,Z8,Z9,Z10,Zc,↓reduceIte,reduceCtorEq,h2,e3,cA,kK,hk]
        (repeat (with_reducible refine And.intro ?_ ?_; focus (first | omega | exact kF | kernel_rfl)))
        refine call_rc (by simp [kI]) hct ?_
        simp only [aR,N0,N1,N2,N3,N4,N5,Z0,Z1,Z2,Z3,Z4,Z5,Z6,Z7,Z8,Z9,Z10,Zc,↓reduceIte,reduceCtorEq,kA (n:=(m:Int)+lc ct) (by omega) (by omega),kA (n:=(j:Int)+1) (by omega) (by omega)]
        refine kO ⟨(m+lc ct,j+1),by simp only; omega,by simp only; omega⟩ (by simp only; omega) ?_
        rw [hSb]; refine kN [] [] ?_
        simp only [aR,N0,N1,N2,N3,N4,N5,Z0,Z1,Z2,Z3,Z4,Z5,Z6,Z7,Z8,Z9,Z10,Zc,↓reduceIte,reduceCtorEq] <;> ((repeat' apply And.intro) <;> first | rfl | omega | trivial)
      · rw [if_neg hk] at hm
        simp only [aR,N0,N1,N2,N3,N4,N5,Z0,Z1,Z2,Z3,Z4,Z5,Z6,Z7,Z8,Z9,Z10,Zc,↓reduceIte,reduceCtorEq,h2,e3,cA,kK,hk,kA (n:=(j:Int)+1) (by omega) (by omega)]
        (repeat (with_reducible refine And.intro ?_ ?_; focus (first | omega | exact kF | kernel_rfl)))
        refine kO ⟨(m,j+1),by simp only; omega,by simp only; omega⟩ (by simp only; omega) ?_
        rw [hSb]; refine kN [] [] ?_
        simp only [aR,N0,N1,N2,N3,N4,N5,Z0,Z1,Z2,Z3,Z4,Z5,Z6,Z7,Z8,Z9,Z10,Zc,↓reduceIte,reduceCtorEq] <;> ((repeat' apply And.intro) <;> first | rfl | omega | trivial)
    · rw [List.drop_of_length_le (by omega),putC] at hm
      simp only [aR,N0,N1,N2,N3,N4,N5,Z0,Z1,Z2,Z3,Z4,Z5,Z6,Z7,Z8,Z9,Z10,Zc,↓reduceIte,reduceCtorEq,h2,kA (n:=(i:Int)+1) (by omega) (by omega)]
      refine kO ⟨(m,i+1),by simp only; omega,by simp only; omega⟩ (by simp only; omega) ?_
      rw [hSt]; refine kN [] [] ?_
      simp only [aR,N0,N1,N2,N3,N4,N5,Z0,Z1,Z2,Z3,Z4,Z5,Z6,Z7,Z8,Z9,Z10,Zc,↓reduceIte,reduceCtorEq] <;> ((repeat' apply And.intro) <;> first | rfl | omega | trivial)
  · rw [List.drop_of_length_le (by omega),putS] at hs
    simp only [aR,N0,N1,N2,N3,N4,N5,Z0,Z1,Z2,Z3,Z4,Z5,Z6,Z7,Z8,Z9,Z10,Zc,↓reduceIte,reduceCtorEq,h]
    omega
theorem call_puts {Γ:Env} (hf:Γ.get 85=some putsCon) {σ:AS} {dr:Bool} {l:List Ac} {ys:List AV} {d:Option Nat} {K:AS→Prop} (hy:ys=acts l) (hl:l.length≤1000000) (ho:∀ a∈l,okL a.ops∧a.nm.length≤1099511627776)
    (hk:cont σ d (.v (.int .i64 (putS l))) K):kR Tryz.prog Γ dr σ 85 [.sl 0 6 ys] d K:=by
  subst hy
  exact kP (C:=putsCon) (i:=⟨l,hl,ho⟩) hf rfl rfl rfl (by simp [AV.erL,AV.er,jT]) (fun _ h=>h) rfl hk
def kDC (pre:List Ac) (a:Ac):Bool:=pre.any fun b=>decide (b.k=4∧b.id=a.id)
def jS:List Ac→List Ac→Int
  | _,[]=>0
  | pre,a::r=>if oneI a≠0 then oneI a else if a.k=4∧kDC pre a=true then 1 else jS (pre++[a]) r
def txnE (l:List Ac):Int:=if l.length > 20 then 3 else if jS [] l≠0 then jS [] l else if (putS l:Int) > 2000 then 3 else 0
abbrev z7:Con where
  ι:=ActsN
  args:=fun l=>[.sl 0 6 (acts l.1)]
  post:=fun l r=>r = .v (.int .i64 (txnE l.1))
  plain:=true
theorem kCS:Rw.Good Tryz.prog 35 z7:=by
  have hΓ:kL Tryz.prog [(82,oneCon),(85,putsCon)]:=(kH one_good (kH puts_good kJ))
  refine kW (nn:=34) hΓ Tryz.func35 (by kernel_rfl) rfl (show Tryz.f35.results.toList=[.tmp 2] from rfl) (fun _=>rfl) (fun x=>by simp [AV.erL,AV.er,jT]) ?_
  rintro ⟨l,hl,ho⟩
  simp only [aR,N0,N1,N2,N3,N4,N5,Z0,Z1,Z2,Z3,Z4,Z5,Z6,Z7,Z8,Z9,Z10,Zc,↓reduceIte,reduceCtorEq]
  refine vc_scope hΓ 1 ?_
  simp only [aR,N0,N1,N2,N3,N4,N5,Z0,Z1,Z2,Z3,Z4,Z5,Z6,Z7,Z8,Z9,Z10,Zc,↓reduceIte,reduceCtorEq,kS]
  by_cases hlen:(l.length:Int) > 20
  · have e0:txnE l=3:=by unfold txnE; rw [if_pos (by omega)]
    simp only [aR,N0,N1,N2,N3,N4,N5,Z0,Z1,Z2,Z3,Z4,Z5,Z6,Z7,Z8,Z9,Z10,Zc,↓reduceIte,reduceCtorEq,hlen,e0]
  have e0:txnE l=if jS [] l≠0 then jS [] l else if (putS l:Int) > 2000 then 3 else 0:=by unfold txnE; rw [if_neg (by omega)]
  simp only [aR,N0,N1,N2,N3,N4,N5,Z0,Z1,Z2,Z3,Z4,Z5,Z6,Z7,Z8,Z9,Z10,Zc,↓reduceIte,reduceCtorEq,hlen,kS]
  obtain ⟨St,hSt⟩:∃ St:{ i:Nat // i≤l.length∧jS (l.take i) (l.drop i)=jS [] l }→AS,∀ i,St i=AS.of 34 [(0,.sl 0 6 (acts l)),(2,.v (.int .i64 0)),(8,.sl 0 6 (acts l)),(9,.v (.int .i64 l.length)),(10,.v (.int .i64 i.1))] [] []:=⟨_,fun _=>rfl⟩
  refine qE hΓ St (fun i=>l.length - i.1) ⟨0,by omega,by simp⟩ (by rw [hSt]; refine kN [] [] ?_; simp only [aR,N0,N1,N2,N3,N4,N5,Z0,Z1,Z2,Z3,Z4,Z5,Z6,Z7,Z8,Z9,Z10,Zc,↓reduceIte,reduceCtorEq] <;> ((repeat' apply And.intro) <;> first | rfl | omega | trivial)) ?_
  rintro ⟨i,hi,hc⟩
  rw [hSt]
  simp only
  simp only [aR,N0,N1,N2,N3,N4,N5,Z0,Z1,Z2,Z3,Z4,Z5,Z6,Z7,Z8,Z9,Z10,Zc,↓reduceIte,reduceCtorEq,kS]
  (with_reducible first | refine kD (fun h=>?_) (fun h=>?_) | refine kE (fun h=>?_) (fun h=>?_))
  · have hlt:i < l.length:=by omega
    have e1:=zD l hlt
    have ha:=ho _ (List.getElem_mem hlt)
    rw [List.drop_eq_getElem_cons hlt,jS,← List.take_succ_eq_append_getElem hlt] at hc
    generalize l[i]=a at *
    obtain ⟨k,id,par,nm,dir,ops⟩:=a
    simp only [aR,N0,N1,N2,N3,N4,N5,Z0,Z1,Z2,Z3,Z4,Z5,Z6,Z7,Z8,Z9,Z10,Zc,↓reduceIte,reduceCtorEq,h,e1,aA,kS]
    (repeat (with_reducible refine And.intro ?_ ?_; focus (first | omega | exact kF | kernel_rfl)))
    refine kP (C:=oneCon) (i:=⟨⟨k,id,par,nm,dir,ops⟩,ha⟩) (by simp [kI]) rfl rfl rfl (by simp [AV.erL,AV.er,aA,kDL]) (fun _ h=>h) rfl ?_
    by_cases h1:oneI ⟨k,id,par,nm,dir,ops⟩=0
    case neg =>
      rw [if_pos h1] at hc
      rw [← hc,if_pos h1] at e0
      simp only [aR,N0,N1,N2,N3,N4,N5,Z0,Z1,Z2,Z3,Z4,Z5,Z6,Z7,Z8,Z9,Z10,Zc,↓reduceIte,reduceCtorEq,h1]
      refine ⟨_,rfl,?_⟩
      simp only [aR,N0,N1,N2,N3,N4,N5,Z0,Z1,Z2,Z3,Z4,Z5,Z6,Z7,Z8,Z9,Z10,Zc,↓reduceIte,reduceCtorEq,e0]
    rw [if_neg (by simpa using h1)] at hc
    by_cases h4:k=4
    · subst h4
      have hpa:kBW 0 6 (acts l) 0 i = .sl 0 6 (acts (l.take i)):=by
        unfold kBW
        split
        · rename_i h5
          rw [List.take_of_length_le (by have:=h5.2; rw [kS] at this; omega)]
        · simp [acts,List.map_take]
      have htl:(l.take i).length=i:=by rw [List.length_take]; omega
      have hcb:∀ x:Bool,kDC (l.take i) ⟨4,id,par,nm,dir,ops⟩=x→(if x=true then 1 else jS (l.take (i+1)) (l.drop (i+1)))=jS [] l:=fun x hx=>by
        subst hx
        rw [← hc]
        by_cases h5:kDC (l.take i) ⟨4,id,par,nm,dir,ops⟩=true
        · rw [if_pos h5,if_pos ⟨rfl,h5⟩]
        · rw [if_neg h5,if_neg (fun hh=>h5 hh.2)]
      have hcl:kDC (l.take i) ⟨4,id,par,nm,dir,ops⟩=(l.take i).any fun b=>decide (b.k=4∧b.id=id):=rfl
      obtain ⟨pre,hpre⟩:∃ pre,l.take i=pre:=⟨_,rfl⟩
      rw [hpre] at hpa htl hcb hcl
      simp only [aR,N0,N1,N2,N3,N4,N5,Z0,Z1,Z2,Z3,Z4,Z5,Z6,Z7,Z8,Z9,Z10,Zc,↓reduceIte,reduceCtorEq,h1,hpa,kS,List.map_cons,List.map_nil]
      (repeat (with_reducible refine And.intro ?_ ?_; focus (first | omega | exact kF | kernel_rfl)))
      refine kBx (nn:=9) hΓ (by first | assumption | simp [kI,k9]) Tryz.func83 (by kernel_rfl) rfl (show Tryz.f83.results.toList=[.tmp 4] from rfl) rfl ?_
      simp only [aR,N0,N1,N2,N3,N4,N5,Z0,Z1,Z2,Z3,Z4,Z5,Z6,Z7,Z8,Z9,Z10,Zc,↓reduceIte,reduceCtorEq]
      refine kBx (nn:=19) hΓ (by first | assumption | simp [kI,k9]) Tryz.func114 (by kernel_rfl) rfl (show Tryz.f114.results.toList=[.tmp 4] from rfl) rfl ?_
      simp only [aR,N0,N1,N2,N3,N4,N5,Z0,Z1,Z2,Z3,Z4,Z5,Z6,Z7,Z8,Z9,Z10,Zc,↓reduceIte,reduceCtorEq,kS,htl]
      refine kDr hΓ (fun j:{ j:Nat // j≤i∧(pre.any fun b=>decide (b.k=4∧b.id=id))=(pre.drop j).any fun b=>decide (b.k=4∧b.id=id) }=>[(0,.sl 0 6 (acts pre)),(1,.fn 84 [.ptr 0 0]),(7,.v (.int .i64 i)),(8,.v (.int .i64 j.1))]) (fun j=>i - j.1) ⟨0,Nat.zero_le _,by simp⟩ (by simp only [aR,N0,N1,N2,N3,N4,N5,Z0,Z1,Z2,Z3,Z4,Z5,Z6,Z7,Z8,Z9,Z10,Zc,↓reduceIte,reduceCtorEq] <;> ((repeat' apply And.intro) <;> first | rfl | omega | trivial)) ?_
      rintro ⟨j,hj,hn⟩ q hq
      simp only
      simp only [aR,N0,N1,N2,N3,N4,N5,Z0,Z1,Z2,Z3,Z4,Z5,Z6,Z7,Z8,Z9,Z10,Zc,↓reduceIte,reduceCtorEq,List.map_cons,List.map_nil]
      (with_reducible first | refine kD (fun h2=>?_) (fun h2=>?_) | refine kE (fun h2=>?_) (fun h2=>?_))
      · have hlt2:j < pre.length:=by omega
        have e3:=zD pre hlt2
        rw [List.drop_eq_getElem_cons hlt2,List.any_cons] at hn
        generalize pre[j]=b at *
        obtain ⟨bk,bid,bpar,bnm,bdir,bops⟩:=b
        simp only at hn
        simp only [aR,N0,N1,N2,N3,N4,N5,Z0,Z1,Z2,Z3,Z4,Z5,Z6,Z7,Z8,Z9,Z10,Zc,↓reduceIte,reduceCtorEq,h2,e3,kS,htl,aA]
        (repeat (with_reducible refine And.intro ?_ ?_; focus (first | omega | exact kF | kernel_rfl)))
        refine kBx (nn:=14) hΓ (by first | assumption | simp [kI,k9]) Tryz.func84 (by kernel_rfl) rfl (show Tryz.f84.results.toList=[.tmp 3] from rfl) rfl ?_
        have hk0:(0=q)=False:=eq_false (by omega)
        simp only [aR,N0,N1,N2,N3,N4,N5,Z0,Z1,Z2,Z3,Z4,Z5,Z6,Z7,Z8,Z9,Z10,Zc,↓reduceIte,reduceCtorEq,aA,hk0]
        have go:(pre.any fun b=>decide (b.k=4∧b.id=id))=((pre.drop (j+1)).any fun b=>decide (b.k=4∧b.id=id))→∃ y:{ j:Nat // j≤i∧(pre.any fun b=>decide (b.k=4∧b.id=id))=(pre.drop j).any fun b=>decide (b.k=4∧b.id=id) },y.1=j+1∧i - y.1 < i - j:=fun hh=>⟨⟨j+1,by omega,hh⟩,rfl,by simp only; omega⟩
        by_cases h5:bk=4
        · by_cases h6:bid=id
          · have hT:kDC pre ⟨4,id,par,nm,dir,ops⟩=true:=by rw [hcl,hn]; simp [h5,h6]
            have h7:=hcb _ hT
            rw [if_pos rfl] at h7
            rw [← h7,if_pos (by omega)] at e0
            simp only [aR,N0,N1,N2,N3,N4,N5,Z0,Z1,Z2,Z3,Z4,Z5,Z6,Z7,Z8,Z9,Z10,Zc,↓reduceIte,reduceCtorEq,h5,h6,hk0,show ((j:Int) ≥ 0)=True from eq_true (by omega)]
            refine ⟨_,rfl,?_⟩
            simp only [aR,N0,N1,N2,N3,N4,N5,Z0,Z1,Z2,Z3,Z4,Z5,Z6,Z7,Z8,Z9,Z10,Zc,↓reduceIte,reduceCtorEq,e0]
          · obtain ⟨y,hy,hy2⟩:=go (by rw [hn]; simp [h6])
            simp only [aR,N0,N1,N2,N3,N4,N5,Z0,Z1,Z2,Z3,Z4,Z5,Z6,Z7,Z8,Z9,Z10,Zc,↓reduceIte,reduceCtorEq,h5,h6,hk0,kA (n:=(j:Int)+1) (by omega) (by omega)]
            refine keep_end y hy2 ?_ ?_ (keep_new ?_ fun _ _ h=>h) ⟨rfl,rfl,rfl⟩
            · omega
            · simp only [aR,N0,N1,N2,N3,N4,N5,Z0,Z1,Z2,Z3,Z4,Z5,Z6,Z7,Z8,Z9,Z10,Zc,↓reduceIte,reduceCtorEq,hy] <;> ((repeat' apply And.intro) <;> first | rfl | omega | trivial)
            · intro o x h
              simp only [upd] at h
              repeat' split at h
              all_goals first | omega | cases h
        · obtain ⟨y,hy,hy2⟩:=go (by rw [hn]; simp [h5])
          simp only [aR,N0,N1,N2,N3,N4,N5,Z0,Z1,Z2,Z3,Z4,Z5,Z6,Z7,Z8,Z9,Z10,Zc,↓reduceIte,reduceCtorEq,h5,hk0,kA (n:=(j:Int)+1) (by omega) (by omega)]
          refine keep_end y hy2 ?_ ?_ (keep_new ?_ fun _ _ h=>h) ⟨rfl,rfl,rfl⟩
          · omega
          · simp only [aR,N0,N1,N2,N3,N4,N5,Z0,Z1,Z2,Z3,Z4,Z5,Z6,Z7,Z8,Z9,Z10,Zc,↓reduceIte,reduceCtorEq,hy] <;> ((repeat' apply And.intro) <;> first | rfl | omega | trivial)
          · intro o x h
            simp only [upd] at h
            repeat' split at h
            all_goals first | omega | cases h
      · have hF:kDC pre ⟨4,id,par,nm,dir,ops⟩=false:=by rw [hcl,hn,List.drop_of_length_le (by omega)]; rfl
        have h7:=hcb _ hF
        rw [if_neg (by simp)] at h7
        simp only [aR,N0,N1,N2,N3,N4,N5,Z0,Z1,Z2,Z3,Z4,Z5,Z6,Z7,Z8,Z9,Z10,Zc,↓reduceIte,reduceCtorEq,h2,kA (n:=(i:Int)+1) (by omega) (by omega)]
        refine kO ⟨i+1,by omega,h7⟩ (by simp only; omega) ?_
        rw [hSt]; refine kN [] [] ?_
        simp only [aR,N0,N1,N2,N3,N4,N5,Z0,Z1,Z2,Z3,Z4,Z5,Z6,Z7,Z8,Z9,Z10,Zc,↓reduceIte,reduceCtorEq] <;> ((repeat' apply And.intro) <;> first | rfl | omega | trivial)
    · rw [if_neg (fun hh=>h4 hh.1)] at hc
      simp only [aR,N0,N1,N2,N3,N4,N5,Z0,Z1,Z2,Z3,Z4,Z5,Z6,Z7,Z8,Z9,Z10,Zc,↓reduceIte,reduceCtorEq,h1,h4,kA (n:=(i:Int)+1) (by omega) (by omega)]
      refine kO ⟨i+1,by omega,hc⟩ (by simp only; omega) ?_
      rw [hSt]; refine kN [] [] ?_
      simp only [aR,N0,N1,N2,N3,N4,N5,Z0,Z1,Z2,Z3,Z4,Z5,Z6,Z7,Z8,Z9,Z10,Zc,↓reduceIte,reduceCtorEq] <;> ((repeat' apply And.intro) <;> first | rfl | omega | trivial)
  · rw [List.drop_of_length_le (by omega),jS] at hc
    rw [← hc,if_neg (by simp)] at e0
    simp only [aR,N0,N1,N2,N3,N4,N5,Z0,Z1,Z2,Z3,Z4,Z5,Z6,Z7,Z8,Z9,Z10,Zc,↓reduceIte,reduceCtorEq,h]
    refine call_puts (by simp [kI]) rfl hl ho ?_
    by_cases hp:(putS l:Int) > 2000
    · rw [if_pos hp] at e0
      simp only [aR,N0,N1,N2,N3,N4,N5,Z0,Z1,Z2,Z3,Z4,Z5,Z6,Z7,Z8,Z9,Z10,Zc,↓reduceIte,reduceCtorEq,hp,e0]
    · rw [if_neg hp] at e0
      simp only [aR,N0,N1,N2,N3,N4,N5,Z0,Z1,Z2,Z3,Z4,Z5,Z6,Z7,Z8,Z9,Z10,Zc,↓reduceIte,reduceCtorEq,hp,e0]
end Go.Proofs
end
-- EUo6
section
namespace Go.Proofs
open Go Go.Rw
set_option maxRecDepth 100000
def ofBad (n a b:Int) (t:List UInt8):Prop:=a < 0∨b < a∨n < b∨pts t=none
instance (n a b:Int) (t:List UInt8):Decidable (ofBad n a b t):=by unfold ofBad; exact inferInstance
end Go.Proofs
end
-- EUo7
section
namespace Go.Proofs
open Go Go.Rw
set_option maxRecDepth 100000
theorem addI_eq {n m:Int} (h1:n+m≤1099511627776):addI n m=n+m:=by unfold addI; omega
end Go.Proofs
end
-- EUo8
section
namespace Go.Proofs
open Go Go.Rw
open _root_.Nat renaming reduceAdd → N0, reduceSub → N1, reduceMul → N2, reduceLT → N3, reduceLeDiff → N4, reduceEqDiff → N5
open _root_.Int renaming reduceNeg → Z0, reduceAdd → Z1, reduceSub → Z2, reduceMul → Z3, reduceGT → Z4, reduceGE → Z5, reduceLT → Z6, reduceLE → Z7, reduceEq → Z8, reduceNe → Z9, reduceToNat → Z10, cast_ofNat_Int → Zc
set_option maxRecDepth 100000
def sumF (x:Int) (ys:List Int):Int:=ys.foldl addI x
theorem sumF_top:∀ (ys:List Int),(∀ y∈ys,0≤y)→sumF 1099511627776 ys=1099511627776
  | [],_=>rfl
  | y::ys,h=>by
    show sumF (addI 1099511627776 y) ys=_
    have:=h y (by simp)
    rw [show addI 1099511627776 y=1099511627776 by unfold addI; omega,sumF_top ys fun z hz=>h z (by simp [hz])]
abbrev Sm:={ p:Int×List Int // (0≤p.1∧p.1≤1099511627776)∧(∀ y∈p.2,0≤y∧y≤9223372036854775807)∧p.2.length≤9223372036854775807 }
abbrev kGC:Con where
  ι:=Sm
  args:=fun p=>[.v (.int .i64 p.1.1),.sl 0 1 (ints .i64 p.1.2)]
  post:=fun p r=>r = .v (.int .i64 (sumF p.1.1 p.1.2))
  plain:=true
theorem sum_good:Rw.Good Tryz.prog 93 kGC:=by
  have hΓ:kL Tryz.prog []:=kJ
  refine kW (nn:=30) hΓ Tryz.func93 (by kernel_rfl) rfl (show Tryz.f93.results.toList=[.tmp 4] from rfl) (fun _=>rfl) (fun _=>rfl) ?_
  rintro ⟨⟨x,ys⟩,hx,hy,hl⟩
  simp only at hx hy hl
  simp only [aR,N0,N1,N2,N3,N4,N5,Z0,Z1,Z2,Z3,Z4,Z5,Z6,Z7,Z8,Z9,Z10,Zc,↓reduceIte,reduceCtorEq,jB]
  obtain ⟨St,hSt⟩:∃ St:{ p:Int×Nat // p.2≤ys.length∧(0≤p.1∧p.1≤1099511627776)∧sumF x ys=sumF p.1 (ys.drop p.2) }→AS,∀ p,St p=AS.of 30 [(0,.v (.int .i64 p.1.1)),(1,.sl 0 1 (ints .i64 ys)),(5,.v (.int .i64 p.1.2))] [] []:=⟨_,fun _=>rfl⟩
  refine qE hΓ St (fun p=>ys.length - p.1.2) ⟨(x,0),by omega,hx,rfl⟩ (by rw [hSt]; refine kN [] [] ?_; simp only [aR,N0,N1,N2,N3,N4,N5,Z0,Z1,Z2,Z3,Z4,Z5,Z6,Z7,Z8,Z9,Z10,Zc,↓reduceIte,reduceCtorEq] <;> ((repeat' apply And.intro) <;> first | rfl | omega | trivial)) ?_
  rintro ⟨⟨s,i⟩,hi,hs,hb⟩
  simp only at hi hs hb
  rw [hSt]
  simp only
  simp only [aR,N0,N1,N2,N3,N4,N5,Z0,Z1,Z2,Z3,Z4,Z5,Z6,Z7,Z8,Z9,Z10,Zc,↓reduceIte,reduceCtorEq,jB]
  (with_reducible first | refine kD (fun h=>?_) (fun h=>?_) | refine kE (fun h=>?_) (fun h=>?_))
  · have hlt:i < ys.length:=by omega
    have hyi:=hy ys[i] (List.getElem_mem hlt)
    have hge:∀ y∈ys.drop i,0≤y:=fun y hm=>(hy y (List.mem_of_mem_drop hm)).1
    rw [List.drop_eq_getElem_cons hlt] at hb hge
    have e1:(ints .i64 ys).getD i .any = .v (.int .i64 ys[i]):=by simp [ints,List.getD_eq_getElem?_getD,hlt]
    have hs2:¬ s > 1099511627776:=by omega
    have early:ys[i] > 1099511627776 - s→sumF x ys=1099511627776:=fun h=>by
      rw [hb]
      show sumF (addI s ys[i]) _=_
      rw [show addI s ys[i]=1099511627776 by unfold addI; omega,sumF_top _ fun z hz=>hge z (List.mem_cons_of_mem _ hz)]
    generalize ys[i]=y at *
    simp (disch:=omega) only [aR,N0,N1,N2,N3,N4,N5,Z0,Z1,Z2,Z3,Z4,Z5,Z6,Z7,Z8,Z9,Z10,Zc,↓reduceIte,reduceCtorEq,kA,h,hs2,e1,jB]
    (repeat (with_reducible refine And.intro ?_ ?_; focus (first | omega | exact kF | kernel_rfl)))
    (with_reducible first | refine kD (fun h2=>?_) (fun h2=>?_) | refine kE (fun h2=>?_) (fun h2=>?_))
    · simp (disch:=omega) only [aR,N0,N1,N2,N3,N4,N5,Z0,Z1,Z2,Z3,Z4,Z5,Z6,Z7,Z8,Z9,Z10,Zc,↓reduceIte,reduceCtorEq,kA,h2,e1,jB]
      rw [early h2]
    · simp (disch:=omega) only [aR,N0,N1,N2,N3,N4,N5,Z0,Z1,Z2,Z3,Z4,Z5,Z6,Z7,Z8,Z9,Z10,Zc,↓reduceIte,reduceCtorEq,kA,h2,e1,jB]
      (repeat (with_reducible refine And.intro ?_ ?_; focus (first | omega | exact kF | kernel_rfl)))
      have hr:addI s y=s+y:=addI_eq (by omega)
      refine kO ⟨(s+y,i+1),by simp only; omega,by simp only; omega,by rw [hb,← hr]; rfl⟩ (by simp only; omega) ?_
      rw [hSt]; refine kN [] [] ?_
      simp only [aR,N0,N1,N2,N3,N4,N5,Z0,Z1,Z2,Z3,Z4,Z5,Z6,Z7,Z8,Z9,Z10,Zc,↓reduceIte,reduceCtorEq] <;> ((repeat' apply And.intro) <;> first | rfl | omega | trivial)
  · simp only [aR,N0,N1,N2,N3,N4,N5,Z0,Z1,Z2,Z3,Z4,Z5,Z6,Z7,Z8,Z9,Z10,Zc,↓reduceIte,reduceCtorEq,h]
    rw [List.drop_of_length_le (by omega)] at hb
    rw [hb]; rfl
theorem call_sum {Γ:Env} (hf:Γ.get 93=some kGC) {σ:AS} {dr:Bool} {x:Int} {y:List Int} {t:Nat} {ys:List AV} {d:Option Nat} {K:AS→Prop} (hy:ys=ints .i64 y) (h1:0≤x∧x≤1099511627776) (h2:∀ z∈y,0≤z∧z≤9223372036854775807) (h3:y.length≤9223372036854775807)
    (hk:cont σ d (.v (.int .i64 (sumF x y))) K):kR Tryz.prog Γ dr σ 93 [.v (.int .i64 x),.sl t 1 ys] d K:=by
  subst hy
  exact kP (C:=kGC) (i:=⟨(x,y),h1,h2,h3⟩) hf rfl rfl rfl rfl (fun _ h=>h) rfl hk
theorem kAx:∀ (ys:List Int) {x:Int},(0≤x∧x≤1099511627776)→(∀ y∈ys,0≤y)→x≤sumF x ys∧sumF x ys≤1099511627776
  | [],x,h,_=>by simp [sumF]; omega
  | y::ys,x,h,hy=>by
    have h1:=hy y (by simp)
    have h2:=qR h.1 h1
    have h3:x≤addI x y:=by unfold addI; omega
    have h4:=kAx ys h2 fun z hz=>hy z (by simp [hz])
    show x≤sumF (addI x y) ys∧sumF (addI x y) ys≤_
    omega
def zM (m:Int):Int→List Cp→Int
  | s,[]=>s
  | s,c::r=>if s≤m then zM m (sumF s [c.t.length,2]) r else s
theorem compsF_le {m:Int} (hm:m < 1099511627776):∀ (l:List Cp) {s:Int},0≤s→zM m s l≤m→s+tot l+2 * l.length≤m
  | [],s,_,h=>by simp only [zM] at h; simp [tot]; exact h
  | c::r,s,hs,h=>by
    simp only [zM] at h
    split at h
    · rename_i h1
      have e:sumF s [(c.t.length:Int),2]=addI (addI s c.t.length) 2:=rfl
      have h2:0≤addI (addI s c.t.length) 2:=by unfold addI; omega
      rw [e] at h
      have h3:=compsF_le hm r h2 h
      simp only [tot,List.length_cons]
      have h4:addI (addI s c.t.length) 2≤m:=by omega
      have h5:addI (addI s c.t.length) 2=s+c.t.length+2:=by unfold addI at h4 ⊢; omega
      omega
    · omega
abbrev Wide:={ l:List Cp // l.length≤9223372036854775807∧∀ c∈l,c.t.length≤9223372036854775807 }
end Go.Proofs
end
-- EUo9
section
namespace Go.Proofs
open Go Go.Rw
set_option maxRecDepth 100000
def fol (q k:Int):Bool:=!(decide (q=k) || (decide (q=3) && decide (k=2)))
def neat (c:Cp):Bool:=if c.k=2 then decide (c.n=0) && decide (c.t≠[]) else (decide (c.k=1) || decide (c.k=3)) && decide (0 < c.n) && decide (c.n≤1099511627776) && decide (c.t=[])
def shape:Int→List Cp→Bool
  | _,[]=>true
  | q,c::r=>neat c && fol q c.k && shape c.k r
end Go.Proofs
end
-- EUo10
section
namespace Go.Proofs
open Go Go.Rw
set_option maxRecDepth 100000
def tn:List Cp→Int
  | []=>0
  | c::r=>max c.n 0+tn r
def sumN:Int→List Cp→Int
  | s,[]=>s
  | s,c::r=>sumN (addI s (max c.n 0)) r
theorem tn_pos:∀ l:List Cp,0≤tn l
  | []=>by simp [tn]
  | c::r=>by simp only [tn]; have:=tn_pos r; omega
theorem sumN_eq:∀ (l:List Cp) {s:Int},(0≤s∧s≤1099511627776)→sumN s l=min (s+tn l) 1099511627776
  | [],s,h=>by simp only [sumN,tn]; omega
  | c::r,s,h=>by
    have h2:=qR h.1 (show 0≤max c.n 0 by omega)
    have:=tn_pos r
    simp only [sumN,tn]
    rw [sumN_eq r h2]
    unfold addI
    omega
def allV (l:List Cp):Bool:=l.all fun c=>(pts c.t).isSome
theorem addI_z {x:Int} (h:x≤1099511627776):addI x 0=x:=by unfold addI; omega
end Go.Proofs
end
-- EAp0
section
namespace Go.Proofs
open Go Go.Rw
def cpts (t:List UInt8):List Nat:=(pts t).getD []
theorem kCn {t:List UInt8} {cs:List Nat} (h:pts t=some cs):cpts t=cs:=by unfold cpts; rw [h]; rfl
theorem cpts_nil:cpts []=[]:=rfl
theorem cpts_enc {cs:List Nat} (h:∀ c∈cs,okc c):cpts (encs cs)=cs:=kCn (pts_enc h)
theorem isSome_cpts {t:List UInt8} (h:(pts t).isSome=true):pts t=some (cpts t):=by
  obtain ⟨cs,hc⟩:=Option.isSome_iff_exists.1 h
  rw [hc,kCn hc]
theorem kB9 {t:List UInt8} (h:(pts t).isSome=true):encs (cpts t)=t∧∀ c∈cpts t,okc c:=by
  obtain ⟨h1,h2⟩:=kBE (isSome_cpts h)
  exact ⟨h2.symm,h1⟩
theorem lc_cpts {t:List UInt8} (h:(pts t).isSome=true):lc t=(cpts t).length:=by
  obtain ⟨e1,o1⟩:=kB9 h
  conv=>lhs; rw [← e1]
  exact lc_encs _ o1
theorem okc_take {cs:List Nat} (h:∀ c∈cs,okc c) (n:Nat):∀ c∈cs.take n,okc c:=fun c hc=>h c (List.mem_of_mem_take hc)
theorem okc_drop {cs:List Nat} (h:∀ c∈cs,okc c) (n:Nat):∀ c∈cs.drop n,okc c:=fun c hc=>h c (List.mem_of_mem_drop hc)
theorem kFQ {cs:List Nat}:(encs cs).length≤4 * cs.length:=by
  induction cs with
  | nil=>simp [kDB]
  | cons c cs ih=>rw [kBJ,List.length_cons]; have:=wid_le c; omega
def doL:List Nat→List Cp→List Nat
  | _,[]=>[]
  | cs,c::r=>if someC c=false then doL cs r else if c.k=2 then cpts c.t++doL cs r else if c.k=3 then doL (cs.drop c.n.toNat) r else cs.take c.n.toNat++doL (cs.drop c.n.toNat) r
theorem do_ins {cs:List Nat} {c:Cp} {r:List Cp} (h:someC c=true) (h2:c.k=2):doL cs (c::r)=cpts c.t++doL cs r:=by rw [doL,if_neg (by rw [h]; decide),if_pos h2]
theorem do_del {cs:List Nat} {c:Cp} {r:List Cp} (h:someC c=true) (h2:c.k=3):doL cs (c::r)=doL (cs.drop c.n.toNat) r:=by rw [doL,if_neg (by rw [h]; decide),if_neg (by omega),if_pos h2]
theorem do_ret {cs:List Nat} {c:Cp} {r:List Cp} (h:someC c=true) (h2:¬ c.k=2) (h3:¬ c.k=3):doL cs (c::r)=cs.take c.n.toNat++doL (cs.drop c.n.toNat) r:=by rw [doL,if_neg (by rw [h]; decide),if_neg h2,if_neg h3]
def fit (cs:List Nat) (l:List Cp):Prop:=(∀ c∈l,qV c=true)∧(cs.length:Int)=tn l
theorem zQ {c:Cp} (h:qV c=true):(c.k=2∧c.n=0∧c.t≠[]∧(pts c.t).isSome=true)∨((c.k=1∨c.k=3)∧0 < c.n∧c.t=[]):=by
  unfold qV at h
  split at h
  · rename_i h2
    simp at h
    exact .inl ⟨h2,h.1.1,h.1.2,h.2⟩
  · split at h
    · rename_i h13
      simp at h
      exact .inr ⟨h13,h.1,h.2⟩
    · cases h
theorem kF7 {c:Cp} (h:qV c=true):someC c=true:=by
  unfold someC
  rcases zQ h with ⟨h2,_,h3,_⟩ | ⟨h13,h4,_⟩
  · rw [if_pos h2]; simp [h3]
  · rw [if_neg (by omega)]
    rcases h13 with h | h <;> simp [h,h4]
theorem fit_cons {cs:List Nat} {c:Cp} {r:List Cp} (h:fit cs (c::r)):qV c=true∧0≤c.n∧c.n.toNat≤cs.length∧fit (cs.drop c.n.toNat) r:=by
  obtain ⟨h1,h2⟩:=h
  have hs:=h1 c (by simp)
  have hp:=tn_pos r
  have hn:0≤c.n:=by rcases zQ hs with ⟨_,h,_⟩ | ⟨_,h,_⟩ <;> omega
  simp only [tn] at h2
  exact ⟨hs,hn,by omega,fun x hx=>h1 x (by simp [hx]),by rw [List.length_drop]; omega⟩
theorem kFI:∀ (l:List Cp) (m:Int),(0≤m∧m≤1099511627776)→(∀ c∈l,qV c=true)→kEC m l=sumN m l
  | [],_,_,_=>rfl
  | c::r,m,hm,h=>by
    have hr:=fun x hx=>h x (List.mem_cons_of_mem c hx)
    have hs:=zQ (h c (by simp))
    simp only [kEC,sumN]
    by_cases h13:c.k=1∨c.k=3
    · rw [if_pos h13]
      exact kFI r _ (qR hm.1 (by omega)) hr
    · rw [if_neg h13]
      rcases hs with ⟨_,h0,_⟩ | ⟨h,_⟩
      · rw [h0,show max (0:Int) 0=0 from rfl,addI_z hm.2]
        exact kFI r m hm hr
      · exact absurd h h13
theorem kDv:∀ (l:List Cp) (p:Option Cp),zX p l=true→∀ c∈l,qV c=true
  | [],_,_,c,hc=>by cases hc
  | c::r,p,h,x,hx=>by
    simp only [zX,Bool.and_eq_true] at h
    rcases List.mem_cons.1 hx with rfl | hx
    · exact h.1.1
    · exact kDv r (some c) h.2 x hx
theorem jD {l:List Cp} (h:qS l=0):l.length≤100∧qJ l=true∧(∀ c∈l,qV c=true)∧kA0 l=tn l∧tn l≤2000∧outL l≤2000:=by
  unfold qS at h
  split at h
  · cases h
  · split at h
    · cases h
    · split at h
      · cases h
      · rename_i h1 h2 h3
        have h4:qJ l=true:=by simpa using h2
        have h5:=kDv l none h4
        have h6:kA0 l=min (0+tn l) 1099511627776:=by
          unfold kA0
          rw [kFI l 0 (by omega) h5,sumN_eq l (by omega)]
        have h7:=tn_pos l
        exact ⟨by omega,h4,h5,by omega,by omega,by omega⟩
theorem fit_check {l:List Cp} (h:qS l=0) {cs:List Nat} (hb:(cs.length:Int)=kA0 l):fit cs l:=by
  obtain ⟨_,_,h1,h2,_,_⟩:=jD h
  exact ⟨h1,by rw [hb,h2]⟩
theorem out_do:∀ (l:List Cp) (cs:List Nat) (m:Int),0≤m→fit cs l→outF m l≤2000→outF m l=m+(doL cs l).length
  | [],_,m,_,_,_=>by simp [outF,doL]
  | c::r,cs,m,hm,hf,ho=>by
    obtain ⟨hs,hn,hle,hf2⟩:=fit_cons hf
    have hso:=kF7 hs
    simp only [outF] at ho ⊢
    have mono:∀ (l:List Cp) (m:Int),0≤m→m≤1099511627776→m≤outF m l:=by
      intro l
      induction l with
      | nil=>intro m _ _; simp [outF]
      | cons c r ih =>
        intro m h1 h2
        simp only [outF]
        split
        · have h3:=qR h1 (show 0≤max c.n 0 by omega)
          have h4:=ih _ h3.1 h3.2
          have:m≤addI m (max c.n 0):=by unfold addI; omega
          omega
        · split
          · have h3:=qR h1 (show 0≤(lc c.t:Int) by omega)
            have h4:=ih _ h3.1 h3.2
            have:m≤addI m (lc c.t):=by unfold addI; omega
            omega
          · exact ih m h1 h2
    rcases zQ hs with ⟨h2,h0,_,hv⟩ | ⟨h13,hp,_⟩
    · rw [if_neg (by omega),if_pos h2] at ho ⊢
      have hb:=qR hm (show 0≤(lc c.t:Int) by omega)
      have hm2:=mono r _ hb.1 hb.2
      have hm3:addI m (lc c.t)≤2000:=by omega
      have e:addI m (lc c.t)=m+lc c.t:=by unfold addI at hm3 ⊢; omega
      rw [e] at ho ⊢
      rw [h0] at hf2
      have:=out_do r cs (m+lc c.t) (by omega) (by simpa using hf2) ho
      rw [this,do_ins hso h2,List.length_append,lc_cpts hv]; omega
    · by_cases h1:c.k=1
      · rw [if_pos h1] at ho ⊢
        have hb:=qR hm (show 0≤max c.n 0 by omega)
        have hm2:=mono r _ hb.1 hb.2
        have hm3:addI m (max c.n 0)≤2000:=by omega
        have e:addI m (max c.n 0)=m+c.n:=by unfold addI at hm3 ⊢; omega
        rw [e] at ho ⊢
        have:=out_do r _ (m+c.n) (by omega) hf2 ho
        rw [this,do_ret hso (by omega) (by omega),List.length_append,List.length_take]; omega
      · rw [if_neg h1,if_neg (by omega)] at ho ⊢
        have:=out_do r _ m hm hf2 ho
        rw [this,do_del hso (by omega)]
theorem do_okc:∀ (l:List Cp) (cs:List Nat),(∀ c∈cs,okc c)→allV l=true→∀ c∈doL cs l,okc c
  | [],_,_,_,c,h=>by cases h
  | c::r,cs,hc,hv,x,hx=>by
    simp only [allV,List.all_cons,Bool.and_eq_true] at hv
    rw [doL] at hx
    split at hx
    · exact do_okc r cs hc hv.2 x hx
    · split at hx
      · rcases List.mem_append.1 hx with h | h
        · exact (kB9 hv.1).2 x h
        · exact do_okc r cs hc hv.2 x h
      · split at hx
        · exact do_okc r _ (okc_drop hc _) hv.2 x hx
        · rcases List.mem_append.1 hx with h | h
          · exact okc_take hc _ x h
          · exact do_okc r _ (okc_drop hc _) hv.2 x h
theorem sound_texts {l:List Cp} (h:∀ c∈l,qV c=true):allV l=true:=by
  unfold allV
  rw [List.all_eq_true]
  intro c hc
  rcases zQ (h c hc) with ⟨_,_,_,hv⟩ | ⟨_,_,ht⟩
  · exact hv
  · rw [ht,pts_nil]; rfl
structure Sp where
  c:Cp
  was:List UInt8
  puts:List UInt8
def kBZ:List Nat→List Cp→List Sp
  | _,[]=>[]
  | cs,c::r=>⟨c,if c.k=2 then [] else encs (cs.take c.n.toNat),if c.k=2 then c.t else if c.k=3 then [] else encs (cs.take c.n.toNat)⟩::kBZ (cs.drop c.n.toNat) r
theorem kE6:∀ (l:List Cp) (cs:List Nat),(kBZ cs l).length=l.length
  | [],_=>rfl
  | c::r,cs=>by rw [kBZ,List.length_cons,kE6 r,List.length_cons]
theorem kFb:∀ (l:List Cp) (cs:List Nat),fit cs l→(kBZ cs l).flatMap Sp.puts=encs (doL cs l)
  | [],_,_=>rfl
  | c::r,cs,h=>by
    obtain ⟨hs,hn,hle,hf⟩:=fit_cons h
    have hso:=kF7 hs
    rw [kBZ,List.flatMap_cons,kFb r _ hf]
    simp only
    rcases zQ hs with ⟨h2,h0,_,hv⟩ | ⟨h13,hp,_⟩
    · rw [if_pos h2,do_ins hso h2,kA5,(kB9 hv).1,h0]; rfl
    · rw [if_neg (by omega)]
      by_cases h3:c.k=3
      · rw [if_pos h3,do_del hso h3]; rfl
      · rw [if_neg h3,do_ret hso (by omega) h3,kA5]
def undoS (x:Sp):Cp:=if x.c.k=2 then ⟨3,(cpts x.puts).length,[]⟩ else if x.c.k=3 then ⟨2,0,x.was⟩ else x.c
def undoL (cs:List Nat) (l:List Cp):List Cp:=(kBZ cs l).map undoS
def errI (s:List UInt8) (l:List Cp):Int:=if qS l=0 then (match pts s with | none=>2 | some cs=>if (cs.length:Int)=kA0 l then 0 else 11) else qS l
theorem err_zero {s:List UInt8} {l:List Cp} (h:errI s l=0):qS l=0∧pts s=some (cpts s)∧((cpts s).length:Int)=kA0 l∧fit (cpts s) l:=by
  unfold errI at h
  split at h
  · rename_i hc
    split at h
    · cases h
    · rename_i cs hp
      split at h
      · rename_i hb
        rw [kCn hp]
        exact ⟨hc,hp,hb,fit_check hc hb⟩
      · cases h
  · rename_i hc; exact absurd h hc
def stp (s:List UInt8) (l:List Cp):List Sp:=if errI s l=0 then kBZ (cpts s) l else []
def jK (s:List UInt8) (l:List Cp):List UInt8:=if errI s l=0 then encs (doL (cpts s) l) else []
def undone (s:List UInt8) (l:List Cp):List Cp:=if errI s l=0 then nf (undoL (cpts s) l) else []
end Go.Proofs
end
-- EAp1
section
namespace Go.Proofs
open Go Go.Rw
open _root_.Nat renaming reduceAdd → N0, reduceSub → N1, reduceMul → N2, reduceLT → N3, reduceLeDiff → N4, reduceEqDiff → N5
open _root_.Int renaming reduceNeg → Z0, reduceAdd → Z1, reduceSub → Z2, reduceMul → Z3, reduceGT → Z4, reduceGE → Z5, reduceLT → Z6, reduceLE → Z7, reduceEq → Z8, reduceNe → Z9, reduceToNat → Z10, cast_ofNat_Int → Zc
set_option maxRecDepth 100000
def stA (x:Sp):AV:=.agg [.v (.int .i64 x.c.k),.v (.int .i64 x.c.n),.v (sv x.c.t),.v (sv x.was),.v (sv x.puts)]
def sts (l:List Sp):List AV:=l.map stA
theorem sts_nil:sts []=[]:=rfl
theorem kB7 (l:List Sp):(sts l).length=l.length:=by simp [sts]
theorem sts_snoc (l:List Sp) (k n:Int) (t w p:List UInt8):sts l++[.agg [.v (.int .i64 k),.v (.int .i64 n),.v (sv t),.v (sv w),.v (sv p)]]=sts (l++[⟨⟨k,n,t⟩,w,p⟩]):=by simp [sts,stA]
theorem sts_getD (l:List Sp) {i:Nat} (h:i < l.length):(sts l).getD i .any = .agg [.v (.int .i64 l[i].c.k),.v (.int .i64 l[i].c.n),.v (sv l[i].c.t),.v (sv l[i].was),.v (sv l[i].puts)]:=by
  simp [sts,stA,List.getD_eq_getElem?_getD,h]
theorem part_le {l sz i j:Nat} {xs:List AV} (h:j≤xs.length):kBW l sz xs i j = .sl l sz ((xs.drop i).take (j - i)):=by
  unfold kBW
  split
  · rename_i hc
    obtain ⟨rfl,rfl⟩:=hc
    simp
  · rfl
def kCM (s:List UInt8) (l:List Cp):AV:=res2 (.sl 0 5 (sts (stp s l))) (errI s l)
theorem stepsR_er (s:List UInt8) (l:List Cp):(kCM s l).er=kCM s l:=by
  have:∀ l:List Sp,AV.erL (sts l)=sts l:=fun l=>by
    induction l with
    | nil=>rfl
    | cons c r ih=>show AV.er (stA c)::AV.erL (sts r)=_; rw [ih]; rfl
  rfl
abbrev kEL:Con where
  ι:=Str×Ed
  args:=fun p=>[.v (sv p.1.1),.sl 0 3 (qB p.2.1)]
  post:=fun p r=>r=kCM p.1.1 p.2.1
abbrev SSt (cs:List Nat) (l:List Cp):={ p:List Sp×List Nat×Nat // p.2.2≤l.length∧fit p.2.1 (l.drop p.2.2)∧p.1++kBZ p.2.1 (l.drop p.2.2)=kBZ cs l∧∀ c∈p.2.1,okc c }
theorem steps_good:Rw.Good Tryz.prog 125 kEL:=by
  have hΓ:kL Tryz.prog [(113,kAJ),(95,kBv),(144,kBD)]:=(kH kGJ (kH kDZ (kH base_good kJ)))
  refine kW (nn:=72) hΓ Tryz.func125 (by kernel_rfl) rfl (show Tryz.f125.results.toList=[.tmp 4,.tmp 5] from rfl) (fun _=>rfl) (fun _=>rfl) ?_
  rintro ⟨⟨s,hs⟩,⟨l,hl⟩⟩
  simp only [aR,N0,N1,N2,N3,N4,N5,Z0,Z1,Z2,Z3,Z4,Z5,Z6,Z7,Z8,Z9,Z10,Zc,↓reduceIte,reduceCtorEq]
  refine vc_scope hΓ 1 ?_
  simp only [aR,N0,N1,N2,N3,N4,N5,Z0,Z1,Z2,Z3,Z4,Z5,Z6,Z7,Z8,Z9,Z10,Zc,↓reduceIte,reduceCtorEq]
  refine kGE (by simp [kI]) rfl hl ?_
  by_cases hc:qS l=0
  · simp only [aR,N0,N1,N2,N3,N4,N5,Z0,Z1,Z2,Z3,Z4,Z5,Z6,Z7,Z8,Z9,Z10,Zc,↓reduceIte,reduceCtorEq,hc]
    refine kBw (by simp [kI]) hs ?_
    rcases kDS (pts s) with hp | ⟨cs,hp⟩
    · have he:errI s l=2:=by unfold errI; rw [if_pos hc,hp]
      simp only [aR,N0,N1,N2,N3,N4,N5,Z0,Z1,Z2,Z3,Z4,Z5,Z6,Z7,Z8,Z9,Z10,Zc,↓reduceIte,reduceCtorEq,kCL,hp,res2]
      refine ⟨_,rfl,?_⟩
      simp only [aR,N0,N1,N2,N3,N4,N5,Z0,Z1,Z2,Z3,Z4,Z5,Z6,Z7,Z8,Z9,Z10,Zc,↓reduceIte,reduceCtorEq]
      unfold kCM stp
      rw [he]; rfl
    · simp only [aR,N0,N1,N2,N3,N4,N5,Z0,Z1,Z2,Z3,Z4,Z5,Z6,Z7,Z8,Z9,Z10,Zc,↓reduceIte,reduceCtorEq,kCL,hp,res2]
      refine call_base (by simp [kI]) rfl hl ?_
      by_cases hb:(cs.length:Int)=kA0 l
      · have he:errI s l=0:=by unfold errI; rw [if_pos hc,hp]; simp only; rw [if_pos hb]
        have hfit:=fit_check hc hb
        obtain ⟨hok,hse⟩:=kBE hp
        have hr:=runesA_pts hp
        have hlen:=(jD hc).1
        have hcl:=kCn hp
        simp only [aR,N0,N1,N2,N3,N4,N5,Z0,Z1,Z2,Z3,Z4,Z5,Z6,Z7,Z8,Z9,Z10,Zc,↓reduceIte,reduceCtorEq,hb,hr,kEO]
        refine ⟨by omega,?_⟩
        obtain ⟨St,hSt⟩:∃ St:SSt cs l→AS,∀ p,St p=AS.of 72 [(4,.sl 2 5 (sts p.1.1)),(5,.v (.int .i64 0)),(7,.sl 0 1 (i32s p.1.2.1)),(28,.sl 0 3 (qB l)),(29,.v (.int .i64 l.length)),(30,.v (.int .i64 p.1.2.2))] [] [(p.1.1.length,154)]:=⟨_,fun _=>rfl⟩
        refine qE hΓ St (fun p=>l.length - p.1.2.2) ⟨([],cs,0),by simp,hfit,rfl,hok⟩ (by rw [hSt]; refine kN [] [.nil 5] ?_; simp only [aR,N0,N1,N2,N3,N4,N5,Z0,Z1,Z2,Z3,Z4,Z5,Z6,Z7,Z8,Z9,Z10,Zc,↓reduceIte,reduceCtorEq,sts_nil,kK] <;> ((repeat' apply And.intro) <;> first | rfl | omega | trivial)) ?_
        rintro ⟨⟨out,ds,i⟩,hi,hf,ho,hdk⟩
        simp only at hi hf ho hdk
        rw [hSt]
        simp only
        simp only [aR,N0,N1,N2,N3,N4,N5,Z0,Z1,Z2,Z3,Z4,Z5,Z6,Z7,Z8,Z9,Z10,Zc,↓reduceIte,reduceCtorEq,kK]
        (with_reducible first | refine kD (fun h=>?_) (fun h=>?_) | refine kE (fun h=>?_) (fun h=>?_))
        · have hlt:i < l.length:=by omega
          have e1:=qH l hlt
          have hct:=okL.text hl (List.getElem_mem hlt)
          rw [List.drop_eq_getElem_cons hlt] at hf ho
          obtain ⟨hso,hn0,hnl,hf2⟩:=fit_cons hf
          rw [kBZ] at ho
          have hcs:=zQ hso
          have hol:out.length≤100:=by
            have:=congrArg List.length ho
            rw [List.length_append,kE6] at this
            omega
          generalize l[i]=c at *
          obtain ⟨k,n,t⟩:=c
          simp only at *
          have htk:utfL ((ds.take n.toNat).map fun (c:Nat)=>(c:Int))=encs (ds.take n.toNat):=utfL_encs (okc_take hdk _)
          have again:∀ (σ:AS) (x:Sp),x=⟨⟨k,n,t⟩,if k=2 then [] else encs (ds.take n.toNat),if k=2 then t else if k=3 then [] else encs (ds.take n.toNat)⟩→Weak σ (AS.of 72 [(4,.sl 2 5 (sts (out++[x]))),(5,.v (.int .i64 0)),(7,.sl 0 1 (i32s (ds.drop n.toNat))),(28,.sl 0 3 (qB l)),(29,.v (.int .i64 l.length)),(30,.v (.int .i64 (i+1:Nat)))] [] [((out++[x]).length,154)])→∃ y:SSt cs l,l.length - y.1.2.2 < l.length - i∧Weak σ (St y):=fun σ x hx hw =>
            ⟨⟨(out++[x],ds.drop n.toNat,i+1),by simp only; omega,hf2,by simp only; rw [← ho,hx]; simp,okc_drop hdk _⟩,by simp only; omega,by rw [hSt]; exact hw⟩
          have p1:kBW 0 1 (i32s ds) 0 n.toNat = .sl 0 1 (i32s (ds.take n.toNat)):=by rw [part_le (by rw [kEO]; omega),i32s_part]; simp
          have p2:kBW 0 1 (i32s ds) n.toNat ds.length = .sl 0 1 (i32s (ds.drop n.toNat)):=by rw [part_le (by rw [kEO]; omega),i32s_part,List.take_of_length_le (by rw [List.length_drop]; omega)]
          simp (disch:=omega) only [aR,N0,N1,N2,N3,N4,N5,Z0,Z1,Z2,Z3,Z4,Z5,Z6,Z7,Z8,Z9,Z10,Zc,↓reduceIte,reduceCtorEq,kA,h,e1,kK,kEO,p1,p2,i32sOf_i32s,htk,Int.toNat_natCast]
          (repeat (with_reducible refine And.intro ?_ ?_; focus (first | omega | exact kF | kernel_rfl)))
          (with_reducible first | refine kD (fun h2=>?_) (fun h2=>?_) | refine kE (fun h2=>?_) (fun h2=>?_))
          · subst h2
            simp (disch:=omega) only [aR,N0,N1,N2,N3,N4,N5,Z0,Z1,Z2,Z3,Z4,Z5,Z6,Z7,Z8,Z9,Z10,Zc,↓reduceIte,reduceCtorEq,kA,kB7,sts_snoc,List.map_cons,List.map_nil]
            (repeat (with_reducible refine And.intro ?_ ?_; focus (first | omega | exact kF | kernel_rfl)))
            refine again _ ⟨⟨2,n,t⟩,[],t⟩ ?_ ?_
            rotate_left
            · refine kN [] [.live 2] ?_
              simp only [aR,N0,N1,N2,N3,N4,N5,Z0,Z1,Z2,Z3,Z4,Z5,Z6,Z7,Z8,Z9,Z10,Zc,↓reduceIte,reduceCtorEq,kB7,List.length_append] <;> ((repeat' apply And.intro) <;> first | rfl | omega | trivial)
            · simp
          · simp (disch:=omega) only [aR,N0,N1,N2,N3,N4,N5,Z0,Z1,Z2,Z3,Z4,Z5,Z6,Z7,Z8,Z9,Z10,Zc,↓reduceIte,reduceCtorEq,kA,h2]
            (with_reducible first | refine kD (fun h3=>?_) (fun h3=>?_) | refine kE (fun h3=>?_) (fun h3=>?_))
            · subst h3
              simp (disch:=omega) only [aR,N0,N1,N2,N3,N4,N5,Z0,Z1,Z2,Z3,Z4,Z5,Z6,Z7,Z8,Z9,Z10,Zc,↓reduceIte,reduceCtorEq,kA,kB7,sts_snoc,List.map_cons,List.map_nil]
              (repeat (with_reducible refine And.intro ?_ ?_; focus (first | omega | exact kF | kernel_rfl)))
              refine again _ ⟨⟨3,n,t⟩,encs (ds.take n.toNat),[]⟩ ?_ ?_
              rotate_left
              · refine kN [] [.live 2] ?_
                simp only [aR,N0,N1,N2,N3,N4,N5,Z0,Z1,Z2,Z3,Z4,Z5,Z6,Z7,Z8,Z9,Z10,Zc,↓reduceIte,reduceCtorEq,kB7,List.length_append] <;> ((repeat' apply And.intro) <;> first | rfl | omega | trivial)
              · simp
            · simp (disch:=omega) only [aR,N0,N1,N2,N3,N4,N5,Z0,Z1,Z2,Z3,Z4,Z5,Z6,Z7,Z8,Z9,Z10,Zc,↓reduceIte,reduceCtorEq,kA,h3,kB7,sts_snoc,List.map_cons,List.map_nil]
              (repeat (with_reducible refine And.intro ?_ ?_; focus (first | omega | exact kF | kernel_rfl)))
              refine again _ ⟨⟨k,n,t⟩,encs (ds.take n.toNat),encs (ds.take n.toNat)⟩ ?_ ?_
              rotate_left
              · refine kN [] [.live 2] ?_
                simp only [aR,N0,N1,N2,N3,N4,N5,Z0,Z1,Z2,Z3,Z4,Z5,Z6,Z7,Z8,Z9,Z10,Zc,↓reduceIte,reduceCtorEq,kB7,List.length_append] <;> ((repeat' apply And.intro) <;> first | rfl | omega | trivial)
              · simp [h2,h3]
        · have hin:i=l.length:=by omega
          simp only [aR,N0,N1,N2,N3,N4,N5,Z0,Z1,Z2,Z3,Z4,Z5,Z6,Z7,Z8,Z9,Z10,Zc,↓reduceIte,reduceCtorEq,h]
          rw [hin,List.drop_length,kBZ,List.append_nil] at ho
          unfold kCM stp
          rw [if_pos he,he,hcl,ho]; rfl
      · have he:errI s l=11:=by unfold errI; rw [if_pos hc,hp]; simp only; rw [if_neg hb]
        simp only [aR,N0,N1,N2,N3,N4,N5,Z0,Z1,Z2,Z3,Z4,Z5,Z6,Z7,Z8,Z9,Z10,Zc,↓reduceIte,reduceCtorEq,hb]
        refine ⟨_,rfl,?_⟩
        simp only [aR,N0,N1,N2,N3,N4,N5,Z0,Z1,Z2,Z3,Z4,Z5,Z6,Z7,Z8,Z9,Z10,Zc,↓reduceIte,reduceCtorEq]
        unfold kCM stp
        rw [he]; rfl
  · have he:errI s l=qS l:=by unfold errI; rw [if_neg hc]
    simp only [aR,N0,N1,N2,N3,N4,N5,Z0,Z1,Z2,Z3,Z4,Z5,Z6,Z7,Z8,Z9,Z10,Zc,↓reduceIte,reduceCtorEq,hc]
    refine ⟨_,rfl,?_⟩
    simp only [aR,N0,N1,N2,N3,N4,N5,Z0,Z1,Z2,Z3,Z4,Z5,Z6,Z7,Z8,Z9,Z10,Zc,↓reduceIte,reduceCtorEq]
    unfold kCM stp
    rw [he,if_neg hc]; rfl
theorem call_steps {Γ:Env} (hf:Γ.get 125=some kEL) {σ:AS} {dr:Bool} {s:List UInt8} {l:List Cp} {t:Nat} {ys:List AV} {d:Option Nat} {K:AS→Prop} (hy:ys=qB l) (hs:s.length≤1099511627776) (hl:okL l) (ht:t < 2)
    (hk:cont σ d (kCM s l) K):kR Tryz.prog Γ dr σ 125 [.v (sv s),.sl t 3 ys] d K:=by
  subst hy
  refine kAX (C:=kEL) (i:=(⟨s,hs⟩,⟨l,hl⟩)) (r:=kCM s l) hf rfl rfl rfl ?_ (fun _ h=>h) (by rw [stepsR_er]; exact hk) <;> simp [AV.erL,AV.er,AV.tagsL,AV.tags,kDL] <;> omega
end Go.Proofs
end
-- EAp2
section
namespace Go.Proofs
open Go Go.Rw
open _root_.Nat renaming reduceAdd → N0, reduceSub → N1, reduceMul → N2, reduceLT → N3, reduceLeDiff → N4, reduceEqDiff → N5
open _root_.Int renaming reduceNeg → Z0, reduceAdd → Z1, reduceSub → Z2, reduceMul → Z3, reduceGT → Z4, reduceGE → Z5, reduceLT → Z6, reduceLE → Z7, reduceEq → Z8, reduceNe → Z9, reduceToNat → Z10, cast_ofNat_Int → Zc
set_option maxRecDepth 100000
theorem pnt_width {l:List UInt8} (h:l≠[]):max ((pnt l).2:Int) 1=(Lib.decodeL l).2∧1≤(Lib.decodeL l).2:=by
  have hw:=Lib.decodeL_width l
  refine ⟨?_,hw⟩
  unfold pnt
  split
  · rename_i hc
    rcases hc with ⟨_,h2⟩ | h2
    · simp only; omega
    · by_cases hv:(Lib.decodeL l).1=65533∧(Lib.decodeL l).2=1
      · simp only; omega
      · obtain ⟨_,h3,_⟩:=kC2 h hv
        rw [h2] at h3
        simp only
        rw [h3]; rfl
  · omega
theorem head_zero {l:List UInt8} (h:l≠[]) (h0:l.getD 0 0=0):(Lib.decodeL l).2=1:=by
  cases l with
  | nil=>exact absurd rfl h
  | cons x r =>
    simp only [List.getD_cons_zero] at h0
    subst h0
    have:=kBt (c:=0) (.inr rfl) r
    have e:enc 0++r=0::r:=rfl
    rw [e] at this
    rw [this]; rfl
theorem loose_good:Rw.Good Tryz.prog 146 rcCon:=by
  have hΓ:kL Tryz.prog [(122,pntCon)]:=(kH kFg kJ)
  refine kW (nn:=27) hΓ Tryz.func146 (by kernel_rfl) rfl (show Tryz.f146.results.toList=[.tmp 2] from rfl) (fun _=>rfl) (fun _=>rfl) ?_
  rintro ⟨s,hs⟩
  simp only [aR,N0,N1,N2,N3,N4,N5,Z0,Z1,Z2,Z3,Z4,Z5,Z6,Z7,Z8,Z9,Z10,Zc,↓reduceIte,reduceCtorEq]
  obtain ⟨St,hSt⟩:∃ St:{ p:Nat×Nat // p.1+lc (s.drop p.2)=lc s }→AS,∀ p,St p=AS.of 27 [(0,.v (sv s)),(3,.v (.int .i64 p.1.1)),(4,.v (.int .i64 p.1.2))] [] []:=⟨_,fun _=>rfl⟩
  refine qE hΓ St (fun p=>s.length - p.1.2) ⟨(0,0),by simp⟩ (by rw [hSt]; refine kN [] [] ?_; simp only [aR,N0,N1,N2,N3,N4,N5,Z0,Z1,Z2,Z3,Z4,Z5,Z6,Z7,Z8,Z9,Z10,Zc,↓reduceIte,reduceCtorEq] <;> ((repeat' apply And.intro) <;> first | rfl | omega | trivial)) ?_
  rintro ⟨⟨k,i⟩,hk⟩
  simp only at hk
  have hlk:=lc_len s
  rw [hSt]
  simp only
  simp only [aR,N0,N1,N2,N3,N4,N5,Z0,Z1,Z2,Z3,Z4,Z5,Z6,Z7,Z8,Z9,Z10,Zc,↓reduceIte,reduceCtorEq]
  (with_reducible first | refine kD (fun h=>?_) (fun h=>?_) | refine kE (fun h=>?_) (fun h=>?_))
  · have hlt:i < s.length:=by omega
    have hne:=drop_ne hlt
    have hw:=pnt_width hne
    have hsm:=pnt_small (s.drop i)
    have hle:(Lib.decodeL (s.drop i)).2≤4:=by omega
    rw [lc_step hne,List.drop_drop] at hk
    have again:∀ σ:AS,Weak σ (AS.of 27 [(0,.v (sv s)),(3,.v (.int .i64 (k+1:Nat))),(4,.v (.int .i64 (i+(Lib.decodeL (s.drop i)).2:Nat)))] [] [])→∃ y:{ p:Nat×Nat // p.1+lc (s.drop p.2)=lc s },s.length - y.1.2 < s.length - i∧Weak σ (St y):=fun σ hw2 =>
      ⟨⟨(k+1,i+(Lib.decodeL (s.drop i)).2),by simp only; omega⟩,by simp only; omega,by rw [hSt]; exact hw2⟩
    simp (disch:=omega) only [aR,N0,N1,N2,N3,N4,N5,Z0,Z1,Z2,Z3,Z4,Z5,Z6,Z7,Z8,Z9,Z10,Zc,↓reduceIte,reduceCtorEq,kA,h]
    (repeat (with_reducible refine And.intro ?_ ?_; focus (first | omega | exact kF | kernel_rfl)))
    (with_reducible first | refine kD (fun h2=>?_) (fun h2=>?_) | refine kE (fun h2=>?_) (fun h2=>?_))
    · simp (disch:=omega) only [aR,N0,N1,N2,N3,N4,N5,Z0,Z1,Z2,Z3,Z4,Z5,Z6,Z7,Z8,Z9,Z10,Zc,↓reduceIte,reduceCtorEq,kA,h2]
      refine kFu (by simp [kI]) hs hlt ?_
      unfold pntR
      simp (disch:=omega) only [aR,N0,N1,N2,N3,N4,N5,Z0,Z1,Z2,Z3,Z4,Z5,Z6,Z7,Z8,Z9,Z10,Zc,↓reduceIte,reduceCtorEq,kA,z8,hw.1]
      refine again _ ?_
      refine kN [] [] ?_
      simp only [aR,N0,N1,N2,N3,N4,N5,Z0,Z1,Z2,Z3,Z4,Z5,Z6,Z7,Z8,Z9,Z10,Zc,↓reduceIte,reduceCtorEq] <;> ((repeat' apply And.intro) <;> first | rfl | omega | trivial)
    · have h3:(s.drop i).getD 0 0=0:=by
        have h4:((s.getD i 0).toNat:Int)=0:=by omega
        have h5:s.getD i 0=0:=by
          have:(s.getD i 0).toNat=0:=by omega
          exact UInt8.toNat_inj.1 (by simpa using this)
        simp only [List.getD_eq_getElem?_getD,List.getElem?_drop,Nat.add_zero] at h5 ⊢
        exact h5
      have h6:=head_zero hne h3
      simp (disch:=omega) only [aR,N0,N1,N2,N3,N4,N5,Z0,Z1,Z2,Z3,Z4,Z5,Z6,Z7,Z8,Z9,Z10,Zc,↓reduceIte,reduceCtorEq,kA,h2,z8,show max (1:Int) 1=1 from rfl]
      refine again _ ?_
      rw [h6]
      refine kN [] [] ?_
      simp only [aR,N0,N1,N2,N3,N4,N5,Z0,Z1,Z2,Z3,Z4,Z5,Z6,Z7,Z8,Z9,Z10,Zc,↓reduceIte,reduceCtorEq] <;> ((repeat' apply And.intro) <;> first | rfl | omega | trivial)
  · simp only [aR,N0,N1,N2,N3,N4,N5,Z0,Z1,Z2,Z3,Z4,Z5,Z6,Z7,Z8,Z9,Z10,Zc,↓reduceIte,reduceCtorEq,h]
    rw [List.drop_of_length_le (by omega),lc_nil] at hk
    omega
theorem call_loose {Γ:Env} (hf:Γ.get 146=some rcCon) {σ:AS} {dr:Bool} {l:List UInt8} {d:Option Nat} {K:AS→Prop} (h:l.length≤1099511627776)
    (hk:cont σ d (.v (.int .i64 (lc l))) K):kR Tryz.prog Γ dr σ 146 [.v (sv l)] d K :=
  kP (C:=rcCon) (i:=⟨l,h⟩) hf rfl rfl rfl rfl (fun _ h=>h) rfl hk
theorem rbase_good:Rw.Good Tryz.prog 97 kBD:=by
  have hΓ:kL Tryz.prog [(123,kFB)]:=(kH held_good kJ)
  refine kW (nn:=33) hΓ Tryz.func97 (by kernel_rfl) rfl (show Tryz.f97.results.toList=[.tmp 2] from rfl) (fun _=>rfl) (fun _=>rfl) ?_
  rintro ⟨l,hl,htot,hc⟩
  simp only [aR,N0,N1,N2,N3,N4,N5,Z0,Z1,Z2,Z3,Z4,Z5,Z6,Z7,Z8,Z9,Z10,Zc,↓reduceIte,reduceCtorEq,kK]
  obtain ⟨St,hSt⟩:∃ St:{ p:Int×Nat // p.2≤l.length∧0≤p.1∧p.1≤1099511627776∧kA0 l=kEC p.1 (l.drop p.2) }→AS,∀ p,St p=AS.of 33 [(0,.sl 0 3 (qB l)),(3,.v (.int .i64 p.1.1)),(4,.v (.int .i64 p.1.2))] [] []:=⟨_,fun _=>rfl⟩
  refine qE hΓ St (fun p=>l.length - p.1.2) ⟨(0,0),by omega,by omega,by omega,rfl⟩ (by rw [hSt]; refine kN [] [] ?_; simp only [aR,N0,N1,N2,N3,N4,N5,Z0,Z1,Z2,Z3,Z4,Z5,Z6,Z7,Z8,Z9,Z10,Zc,↓reduceIte,reduceCtorEq] <;> ((repeat' apply And.intro) <;> first | rfl | omega | trivial)) ?_
  rintro ⟨⟨n,i⟩,hi,hn1,hn2,hb⟩
  simp only at hi hn1 hn2 hb
  rw [hSt]
  simp only
  simp only [aR,N0,N1,N2,N3,N4,N5,Z0,Z1,Z2,Z3,Z4,Z5,Z6,Z7,Z8,Z9,Z10,Zc,↓reduceIte,reduceCtorEq,kK]
  (with_reducible first | refine kD (fun h=>?_) (fun h=>?_) | refine kE (fun h=>?_) (fun h=>?_))
  · have hlt:i < l.length:=by omega
    have hcn:=hc l[i] (List.getElem_mem hlt)
    have e1:=qH l hlt
    rw [List.drop_eq_getElem_cons hlt] at hb
    simp only [kEC] at hb
    generalize l[i]=c at *
    obtain ⟨k,m,t⟩:=c
    simp only at hcn hb e1
    have yes:(k=1∨k=3)→kA0 l=kEC (addI n (max m 0)) (l.drop (i+1)):=fun h=>by rw [hb,if_pos h]
    have no:¬ (k=1∨k=3)→kA0 l=kEC n (l.drop (i+1)):=fun h=>by rw [hb,if_neg h]
    have hr:=qR hn1 (show 0≤max m 0 by omega)
    simp (disch:=omega) only [aR,N0,N1,N2,N3,N4,N5,Z0,Z1,Z2,Z3,Z4,Z5,Z6,Z7,Z8,Z9,Z10,Zc,↓reduceIte,reduceCtorEq,kA,h,e1,kK]
    (repeat (with_reducible refine And.intro ?_ ?_; focus (first | omega | exact kF | kernel_rfl)))
    (try ((with_reducible first | refine kD (fun q1=>?_) (fun q1=>?_) | refine kE (fun q1=>?_) (fun q1=>?_)) <;> simp (disch:=omega) only [aR,N0,N1,N2,N3,N4,N5,Z0,Z1,Z2,Z3,Z4,Z5,Z6,Z7,Z8,Z9,Z10,Zc,↓reduceIte,reduceCtorEq,kA,q1,e1,kK] <;> (with_reducible first | (refine And.intro ?_ ?_; focus (first | omega | exact kF | kernel_rfl)); (repeat (with_reducible refine And.intro ?_ ?_; focus (first | omega | exact kF | kernel_rfl))); (try simp (disch:=omega) only [aR,N0,N1,N2,N3,N4,N5,Z0,Z1,Z2,Z3,Z4,Z5,Z6,Z7,Z8,Z9,Z10,Zc,↓reduceIte,reduceCtorEq,kA,q1,e1,kK]) | skip) <;> (try ((with_reducible first | refine kD (fun q2=>?_) (fun q2=>?_) | refine kE (fun q2=>?_) (fun q2=>?_)) <;> simp (disch:=omega) only [aR,N0,N1,N2,N3,N4,N5,Z0,Z1,Z2,Z3,Z4,Z5,Z6,Z7,Z8,Z9,Z10,Zc,↓reduceIte,reduceCtorEq,kA,q2,e1,kK] <;> (with_reducible first | (refine And.intro ?_ ?_; focus (first | omega | exact kF | kernel_rfl)); (repeat (with_reducible refine And.intro ?_ ?_; focus (first | omega | exact kF | kernel_rfl))); (try simp (disch:=omega) only [aR,N0,N1,N2,N3,N4,N5,Z0,Z1,Z2,Z3,Z4,Z5,Z6,Z7,Z8,Z9,Z10,Zc,↓reduceIte,reduceCtorEq,kA,q2,e1,kK]) | skip) <;> skip))))
    all_goals first
      | (refine kFJ (by simp [kI]) ⟨hn1,hn2⟩ hcn ?_
         simp (disch:=omega) only [aR,N0,N1,N2,N3,N4,N5,Z0,Z1,Z2,Z3,Z4,Z5,Z6,Z7,Z8,Z9,Z10,Zc,↓reduceIte,reduceCtorEq,kA]
         refine kO ⟨(addI n (max m 0),i+1),by omega,hr.1,hr.2,yes (by omega)⟩ (by simp only; omega) ?_
         rw [hSt]; refine kN [] [] ?_
         simp only [aR,N0,N1,N2,N3,N4,N5,Z0,Z1,Z2,Z3,Z4,Z5,Z6,Z7,Z8,Z9,Z10,Zc,↓reduceIte,reduceCtorEq] <;> ((repeat' apply And.intro) <;> first | rfl | omega | trivial))
      | (refine kO ⟨(n,i+1),by omega,hn1,hn2,no (by omega)⟩ (by simp only; omega) ?_
         rw [hSt]; refine kN [] [] ?_
         simp only [aR,N0,N1,N2,N3,N4,N5,Z0,Z1,Z2,Z3,Z4,Z5,Z6,Z7,Z8,Z9,Z10,Zc,↓reduceIte,reduceCtorEq] <;> ((repeat' apply And.intro) <;> first | rfl | omega | trivial))
      | trace_state
  · simp only [aR,N0,N1,N2,N3,N4,N5,Z0,Z1,Z2,Z3,Z4,Z5,Z6,Z7,Z8,Z9,Z10,Zc,↓reduceIte,reduceCtorEq,h]
    rw [List.drop_of_length_le (by omega)] at hb
    rw [hb]; rfl
theorem call_rbase {Γ:Env} (hf:Γ.get 97=some kBD) {σ:AS} {dr:Bool} {l:List Cp} {t:Nat} {ys:List AV} {d:Option Nat} {K:AS→Prop} (hy:ys=qB l) (h:okL l)
    (hk:cont σ d (.v (.int .i64 (kA0 l))) K):kR Tryz.prog Γ dr σ 97 [.sl t 3 ys] d K:=by
  subst hy
  exact kP (C:=kBD) (i:=⟨l,h⟩) hf rfl rfl rfl rfl (fun _ h=>h) rfl hk
theorem rout_good:Rw.Good Tryz.prog 117 kDo:=by
  have hΓ:kL Tryz.prog [(123,kFB),(146,rcCon)]:=(kH held_good (kH loose_good kJ))
  refine kW (nn:=36) hΓ Tryz.func117 (by kernel_rfl) rfl (show Tryz.f117.results.toList=[.tmp 2] from rfl) (fun _=>rfl) (fun _=>rfl) ?_
  rintro ⟨l,hl,htot,hc⟩
  simp only [aR,N0,N1,N2,N3,N4,N5,Z0,Z1,Z2,Z3,Z4,Z5,Z6,Z7,Z8,Z9,Z10,Zc,↓reduceIte,reduceCtorEq,kK]
  obtain ⟨St,hSt⟩:∃ St:{ p:Int×Nat // p.2≤l.length∧0≤p.1∧p.1≤1099511627776∧outL l=outF p.1 (l.drop p.2) }→AS,∀ p,St p=AS.of 36 [(0,.sl 0 3 (qB l)),(3,.v (.int .i64 p.1.1)),(4,.v (.int .i64 p.1.2))] [] []:=⟨_,fun _=>rfl⟩
  refine qE hΓ St (fun p=>l.length - p.1.2) ⟨(0,0),by omega,by omega,by omega,rfl⟩ (by rw [hSt]; refine kN [] [] ?_; simp only [aR,N0,N1,N2,N3,N4,N5,Z0,Z1,Z2,Z3,Z4,Z5,Z6,Z7,Z8,Z9,Z10,Zc,↓reduceIte,reduceCtorEq] <;> ((repeat' apply And.intro) <;> first | rfl | omega | trivial)) ?_
  rintro ⟨⟨n,i⟩,hi,hn1,hn2,hb⟩
  simp only at hi hn1 hn2 hb
  rw [hSt]
  simp only
  simp only [aR,N0,N1,N2,N3,N4,N5,Z0,Z1,Z2,Z3,Z4,Z5,Z6,Z7,Z8,Z9,Z10,Zc,↓reduceIte,reduceCtorEq,kK]
  (with_reducible first | refine kD (fun h=>?_) (fun h=>?_) | refine kE (fun h=>?_) (fun h=>?_))
  · have hlt:i < l.length:=by omega
    have hcn:=hc l[i] (List.getElem_mem hlt)
    have hct:=okL.text ⟨hl,htot,hc⟩ (List.getElem_mem hlt)
    have e1:=qH l hlt
    rw [List.drop_eq_getElem_cons hlt] at hb
    simp only [outF] at hb
    generalize l[i]=c at *
    obtain ⟨k,m,t⟩:=c
    simp only at hcn hct hb e1
    have hl1:k=1→outL l=outF (addI n (max m 0)) (l.drop (i+1)):=fun h=>by rw [hb,if_pos h]
    have hl2:¬ k=1→k=2→outL l=outF (addI n (lc t)) (l.drop (i+1)):=fun h h2=>by rw [hb,if_neg h,if_pos h2]
    have hl3:¬ k=1→¬ k=2→outL l=outF n (l.drop (i+1)):=fun h h2=>by rw [hb,if_neg h,if_neg h2]
    have hr:=qR hn1 (show 0≤max m 0 by omega)
    have hr2:=qR hn1 (show 0≤(lc t:Int) by omega)
    have hlt2:=lc_len t
    simp (disch:=omega) only [aR,N0,N1,N2,N3,N4,N5,Z0,Z1,Z2,Z3,Z4,Z5,Z6,Z7,Z8,Z9,Z10,Zc,↓reduceIte,reduceCtorEq,kA,h,e1,kK]
    (repeat (with_reducible refine And.intro ?_ ?_; focus (first | omega | exact kF | kernel_rfl)))
    (try ((with_reducible first | refine kD (fun q1=>?_) (fun q1=>?_) | refine kE (fun q1=>?_) (fun q1=>?_)) <;> simp (disch:=omega) only [aR,N0,N1,N2,N3,N4,N5,Z0,Z1,Z2,Z3,Z4,Z5,Z6,Z7,Z8,Z9,Z10,Zc,↓reduceIte,reduceCtorEq,kA,q1,e1,kK] <;> (with_reducible first | (refine And.intro ?_ ?_; focus (first | omega | exact kF | kernel_rfl)); (repeat (with_reducible refine And.intro ?_ ?_; focus (first | omega | exact kF | kernel_rfl))); (try simp (disch:=omega) only [aR,N0,N1,N2,N3,N4,N5,Z0,Z1,Z2,Z3,Z4,Z5,Z6,Z7,Z8,Z9,Z10,Zc,↓reduceIte,reduceCtorEq,kA,q1,e1,kK]) | skip) <;> (try ((with_reducible first | refine kD (fun q2=>?_) (fun q2=>?_) | refine kE (fun q2=>?_) (fun q2=>?_)) <;> simp (disch:=omega) only [aR,N0,N1,N2,N3,N4,N5,Z0,Z1,Z2,Z3,Z4,Z5,Z6,Z7,Z8,Z9,Z10,Zc,↓reduceIte,reduceCtorEq,kA,q2,e1,kK] <;> (with_reducible first | (refine And.intro ?_ ?_; focus (first | omega | exact kF | kernel_rfl)); (repeat (with_reducible refine And.intro ?_ ?_; focus (first | omega | exact kF | kernel_rfl))); (try simp (disch:=omega) only [aR,N0,N1,N2,N3,N4,N5,Z0,Z1,Z2,Z3,Z4,Z5,Z6,Z7,Z8,Z9,Z10,Zc,↓reduceIte,reduceCtorEq,kA,q2,e1,kK]) | skip) <;> skip))))
    all_goals first
      | (refine kFJ (by simp [kI]) ⟨hn1,hn2⟩ hcn ?_
         simp (disch:=omega) only [aR,N0,N1,N2,N3,N4,N5,Z0,Z1,Z2,Z3,Z4,Z5,Z6,Z7,Z8,Z9,Z10,Zc,↓reduceIte,reduceCtorEq,kA]
         refine kO ⟨(addI n (max m 0),i+1),by omega,hr.1,hr.2,hl1 (by omega)⟩ (by simp only; omega) ?_
         rw [hSt]; refine kN [] [] ?_
         simp only [aR,N0,N1,N2,N3,N4,N5,Z0,Z1,Z2,Z3,Z4,Z5,Z6,Z7,Z8,Z9,Z10,Zc,↓reduceIte,reduceCtorEq] <;> ((repeat' apply And.intro) <;> first | rfl | omega | trivial))
      | (refine call_loose (by simp [kI]) hct ?_
         simp (disch:=omega) only [aR,N0,N1,N2,N3,N4,N5,Z0,Z1,Z2,Z3,Z4,Z5,Z6,Z7,Z8,Z9,Z10,Zc,↓reduceIte,reduceCtorEq,kA]
         refine kFJ (by simp [kI]) ⟨hn1,hn2⟩ (by omega) ?_
         simp (disch:=omega) only [aR,N0,N1,N2,N3,N4,N5,Z0,Z1,Z2,Z3,Z4,Z5,Z6,Z7,Z8,Z9,Z10,Zc,↓reduceIte,reduceCtorEq,kA]
         refine kO ⟨(addI n (lc t),i+1),by omega,hr2.1,hr2.2,hl2 (by omega) (by omega)⟩ (by simp only; omega) ?_
         rw [hSt]; refine kN [] [] ?_
         simp only [aR,N0,N1,N2,N3,N4,N5,Z0,Z1,Z2,Z3,Z4,Z5,Z6,Z7,Z8,Z9,Z10,Zc,↓reduceIte,reduceCtorEq,show max (lc t:Int) 0=lc t by omega] <;> ((repeat' apply And.intro) <;> first | rfl | omega | trivial))
      | (refine kO ⟨(n,i+1),by omega,hn1,hn2,hl3 (by omega) (by omega)⟩ (by simp only; omega) ?_
         rw [hSt]; refine kN [] [] ?_
         simp only [aR,N0,N1,N2,N3,N4,N5,Z0,Z1,Z2,Z3,Z4,Z5,Z6,Z7,Z8,Z9,Z10,Zc,↓reduceIte,reduceCtorEq] <;> ((repeat' apply And.intro) <;> first | rfl | omega | trivial))
      | trace_state
  · simp only [aR,N0,N1,N2,N3,N4,N5,Z0,Z1,Z2,Z3,Z4,Z5,Z6,Z7,Z8,Z9,Z10,Zc,↓reduceIte,reduceCtorEq,h]
    rw [List.drop_of_length_le (by omega)] at hb
    rw [hb]; rfl
theorem call_rout {Γ:Env} (hf:Γ.get 117=some kDo) {σ:AS} {dr:Bool} {l:List Cp} {t:Nat} {ys:List AV} {d:Option Nat} {K:AS→Prop} (hy:ys=qB l) (h:okL l)
    (hk:cont σ d (.v (.int .i64 (outL l))) K):kR Tryz.prog Γ dr σ 117 [.sl t 3 ys] d K:=by
  subst hy
  exact kP (C:=kDo) (i:=⟨l,h⟩) hf rfl rfl rfl rfl (fun _ h=>h) rfl hk
end Go.Proofs
end
