/-
  Edits done,undone,by the program. Edits done,undone,by the program. How much is given; texts and their code points. The document's tree: qI by their IDs; what an act does. Plain. The document's tree: looking qI up. Nodes held against each other,field by field. The document's tree: names,texts; acts held against each other. Edits undone,by the program; both,by the document. Edits,unit by unit. Plain. Walks along an edit: their Kind,Len and Take,reckoned in place. Two edits as one,piece by piece. Plain. compose.Two,walked. compose.Two,walked. The document's walks. The document's Two. Keep,All: the program's,the document's. What an edit in its normal form does. Plain. The normal form,unit by unit; what two edits do as one. Plain. The document's tree: an act.
-/
import Derived.Test.YtfhipjafkdembaaGreatDoorXEUn3
import Derived.Test.YtfhipjafkdembaaGreatDoorXEUo1
import Derived.Test.YtfhipjafkdembaaGreatDoorRwJ
set_option linter.unusedSimpArgs false
set_option linter.unusedVariables false
set_option linter.defProp false
set_option linter.unusedSectionVars false

-- EAp3
section
namespace Go.Proofs
open Go Go.Rw
open _root_.Nat renaming reduceAdd → N0, reduceSub → N1, reduceMul → N2, reduceLT → N3, reduceLeDiff → N4, reduceEqDiff → N5
open _root_.Int renaming reduceNeg → Z0, reduceAdd → Z1, reduceSub → Z2, reduceMul → Z3, reduceGT → Z4, reduceGE → Z5, reduceLT → Z6, reduceLE → Z7, reduceEq → Z8, reduceNe → Z9, reduceToNat → Z10, cast_ofNat_Int → Zc
set_option maxRecDepth 100000
theorem rnormal_good:Rw.Good Tryz.prog 116 kAA:=by
  have hΓ:kL Tryz.prog [(55,kAH)]:=(kH rvalid_good kJ)
  refine kW (nn:=70) hΓ Tryz.func116 (by kernel_rfl) rfl (show Tryz.f116.results.toList=[.tmp 2] from rfl) (fun _=>rfl) (fun _=>rfl) ?_
  rintro ⟨l,hl,htot,hc⟩
  simp only [aR,N0,N1,N2,N3,N4,N5,Z0,Z1,Z2,Z3,Z4,Z5,Z6,Z7,Z8,Z9,Z10,Zc,↓reduceIte,reduceCtorEq,kK]
  obtain ⟨St,hSt⟩:∃ St:{ i:Nat // i≤l.length∧qJ l=zX (ahead l i) (l.drop i) }→AS,∀ i,St i=AS.of 70 [(0,.sl 0 3 (qB l)),(3,.v (.int .i64 i.1))] [] []:=⟨_,fun _=>rfl⟩
  refine qE hΓ St (fun i=>l.length - i.1) ⟨0,by omega,rfl⟩ (by rw [hSt]; refine kN [] [] ?_; simp only [aR,N0,N1,N2,N3,N4,N5,Z0,Z1,Z2,Z3,Z4,Z5,Z6,Z7,Z8,Z9,Z10,Zc,↓reduceIte,reduceCtorEq] <;> ((repeat' apply And.intro) <;> first | rfl | omega | trivial)) ?_
  rintro ⟨i,hi,hb⟩
  rw [hSt]
  simp only
  simp only [aR,N0,N1,N2,N3,N4,N5,Z0,Z1,Z2,Z3,Z4,Z5,Z6,Z7,Z8,Z9,Z10,Zc,↓reduceIte,reduceCtorEq,kK]
  (with_reducible first | refine kD (fun h=>?_) (fun h=>?_) | refine kE (fun h=>?_) (fun h=>?_))
  · have hlt:i < l.length:=by omega
    have hci:=okL.text ⟨hl,htot,hc⟩ (List.getElem_mem hlt)
    have e1:=qH l hlt
    rw [List.drop_eq_getElem_cons hlt] at hb
    simp only [zX] at hb
    have hne:ahead l (i+1)=some l[i]:=by simp [ahead,hlt]
    rw [← hne] at hb
    have again:∀ σ:AS,Weak σ (AS.of 70 [(0,.sl 0 3 (qB l)),(3,.v (.int .i64 (i+1:Nat)))] [] [])→qJ l=zX (ahead l (i+1)) (l.drop (i+1))→∃ y:{ i:Nat // i≤l.length∧qJ l=zX (ahead l i) (l.drop i) },l.length - y.1 < l.length - i∧Weak σ (St y):=fun σ hw hb2 =>
      ⟨⟨i+1,by omega,hb2⟩,by simp only; omega,by rw [hSt]; exact hw⟩
    by_cases h0:i=0
    · have hp:ahead l i=none:=by simp [ahead,h0]
      rw [hp] at hb
      simp only [Bool.and_true] at hb
      have no:qV l[i]=false∨False→qJ l=false:=fun h=>by
        rcases h with h | h
        · rw [hb,h]; rfl
        · exact h.elim
      have yes:qV l[i]=true→qJ l=zX (ahead l (i+1)) (l.drop (i+1)):=fun h=>by rw [hb,h]; rfl
      generalize l[i]=c at *
      obtain ⟨k,n,t⟩:=c
      simp only at *
      have hz:¬ (i:Int) > 0:=by omega
      have hi3:0≤(i:Int):=by omega
      by_cases k13:k=1∨k=3
      · rcases k13 with rfl | rfl
        all_goals
          by_cases n1:n < 1
          · have n2:¬ n > 0:=by omega
            simp (disch:=omega) only [aR,N0,N1,N2,N3,N4,N5,Z0,Z1,Z2,Z3,Z4,Z5,Z6,Z7,Z8,Z9,Z10,Zc,↓reduceIte,reduceCtorEq,kA,h,e1,kK,hz,hi3,n1,no (.inl (by simp [qV,n2]))]
          · have n2:n > 0:=by omega
            by_cases t0:t=[]
            · subst t0
              simp (disch:=omega) only [aR,N0,N1,N2,N3,N4,N5,Z0,Z1,Z2,Z3,Z4,Z5,Z6,Z7,Z8,Z9,Z10,Zc,↓reduceIte,reduceCtorEq,kA,h,e1,kK,hz,hi3,n1]
              (repeat (with_reducible refine And.intro ?_ ?_; focus (first | omega | exact kF | kernel_rfl)))
              refine again _ ?_ (yes (by simp [qV,n2]))
              refine kN [] [] ?_
              simp only [aR,N0,N1,N2,N3,N4,N5,Z0,Z1,Z2,Z3,Z4,Z5,Z6,Z7,Z8,Z9,Z10,Zc,↓reduceIte,reduceCtorEq] <;> ((repeat' apply And.intro) <;> first | rfl | omega | trivial)
            · simp (disch:=omega) only [aR,N0,N1,N2,N3,N4,N5,Z0,Z1,Z2,Z3,Z4,Z5,Z6,Z7,Z8,Z9,Z10,Zc,↓reduceIte,reduceCtorEq,kA,h,e1,kK,hz,hi3,n1,t0,no (.inl (by simp [qV,t0]))]
      · have k1:¬ k=1:=by omega
        have k3:¬ k=3:=by omega
        by_cases k2:k=2
        · subst k2
          by_cases n0:n=0
          · subst n0
            by_cases t0:t=[]
            · subst t0
              simp (disch:=omega) only [aR,N0,N1,N2,N3,N4,N5,Z0,Z1,Z2,Z3,Z4,Z5,Z6,Z7,Z8,Z9,Z10,Zc,↓reduceIte,reduceCtorEq,kA,h,e1,kK,hz,hi3,no (.inl (by simp [qV]))]
            · simp (disch:=omega) only [aR,N0,N1,N2,N3,N4,N5,Z0,Z1,Z2,Z3,Z4,Z5,Z6,Z7,Z8,Z9,Z10,Zc,↓reduceIte,reduceCtorEq,kA,h,e1,kK,hz,hi3,t0]
              refine kFG (by simp [kI]) hci ?_
              cases hv:(pts t).isSome with
              | false=>simp (disch:=omega) only [aR,N0,N1,N2,N3,N4,N5,Z0,Z1,Z2,Z3,Z4,Z5,Z6,Z7,Z8,Z9,Z10,Zc,↓reduceIte,reduceCtorEq,kA,h,e1,kK,hz,hi3,hv,no (.inl (by simp [qV,hv]))]
              | true =>
                simp (disch:=omega) only [aR,N0,N1,N2,N3,N4,N5,Z0,Z1,Z2,Z3,Z4,Z5,Z6,Z7,Z8,Z9,Z10,Zc,↓reduceIte,reduceCtorEq,kA,h,e1,kK,hz,hi3,hv]
                (repeat (with_reducible refine And.intro ?_ ?_; focus (first | omega | exact kF | kernel_rfl)))
                refine again _ ?_ (yes (by simp [qV,hv,t0]))
                refine kN [] [] ?_
                simp only [aR,N0,N1,N2,N3,N4,N5,Z0,Z1,Z2,Z3,Z4,Z5,Z6,Z7,Z8,Z9,Z10,Zc,↓reduceIte,reduceCtorEq] <;> ((repeat' apply And.intro) <;> first | rfl | omega | trivial)
          · simp (disch:=omega) only [aR,N0,N1,N2,N3,N4,N5,Z0,Z1,Z2,Z3,Z4,Z5,Z6,Z7,Z8,Z9,Z10,Zc,↓reduceIte,reduceCtorEq,kA,h,e1,kK,hz,hi3,n0,no (.inl (by simp [qV,n0]))]
        · simp (disch:=omega) only [aR,N0,N1,N2,N3,N4,N5,Z0,Z1,Z2,Z3,Z4,Z5,Z6,Z7,Z8,Z9,Z10,Zc,↓reduceIte,reduceCtorEq,kA,h,e1,kK,hz,hi3,k1,k2,k3,no (.inl (by simp [qV,k1,k2,k3]))]
    · have hp:ahead l i=some l[i - 1]:=by simp [ahead,h0]
      have e2:(qB l).getD (i - 1) .any = .agg [.v (.int .i64 l[i - 1].k),.v (.int .i64 l[i - 1].n),.v (sv l[i - 1].t)]:=qH l (by omega)
      have e3:((i:Int) - 1).toNat=i - 1:=by omega
      rw [hp] at hb
      simp only at hb
      have no:qV l[i]=false∨follows l[i - 1] l[i]=false→qJ l=false:=fun h=>by
        rcases h with h | h
        · rw [hb,h]; rfl
        · rw [hb,h]; simp
      have yes:qV l[i]=true→follows l[i - 1] l[i]=true→qJ l=zX (ahead l (i+1)) (l.drop (i+1)):=fun h h2=>by rw [hb,h,h2]; rfl
      generalize l[i - 1]=pc at *
      generalize l[i]=c at *
      obtain ⟨k,n,t⟩:=c
      obtain ⟨pk0,pn,pt⟩:=pc
      simp only at *
      have hz:(i:Int) > 0:=by omega
      have hi3:0≤(i:Int):=by omega
      have hi4:0≤(i:Int) - 1∧(i:Int) - 1 < l.length:=by omega
      by_cases k13:k=1∨k=3
      · rcases k13 with rfl | rfl
        all_goals
          by_cases n1:n < 1
          · have n2:¬ n > 0:=by omega
            simp (disch:=omega) only [aR,N0,N1,N2,N3,N4,N5,Z0,Z1,Z2,Z3,Z4,Z5,Z6,Z7,Z8,Z9,Z10,Zc,↓reduceIte,reduceCtorEq,kA,h,e1,e2,e3,kK,hz,hi3,hi4,n1,no (.inl (by simp [qV,n2]))]
          · have n2:n > 0:=by omega
            by_cases t0:t=[]
            · subst t0
              first
                | (by_cases pk:pk0=1
                   · simp (disch:=omega) only [aR,N0,N1,N2,N3,N4,N5,Z0,Z1,Z2,Z3,Z4,Z5,Z6,Z7,Z8,Z9,Z10,Zc,↓reduceIte,reduceCtorEq,kA,h,e1,e2,e3,kK,hz,hi3,hi4,n1,pk,no (.inr (by simp [follows,pk]; done))]
                     all_goals exact ⟨kF,by kernel_rfl⟩
                   · simp (disch:=omega) only [aR,N0,N1,N2,N3,N4,N5,Z0,Z1,Z2,Z3,Z4,Z5,Z6,Z7,Z8,Z9,Z10,Zc,↓reduceIte,reduceCtorEq,kA,h,e1,e2,e3,kK,hz,hi3,hi4,n1,pk]
                     (repeat (with_reducible refine And.intro ?_ ?_; focus (first | omega | exact kF | kernel_rfl)))
                     refine again _ ?_ (yes (by simp [qV,n2]) (by simp [follows,pk]; done))
                     refine kN [] [] ?_
                     simp only [aR,N0,N1,N2,N3,N4,N5,Z0,Z1,Z2,Z3,Z4,Z5,Z6,Z7,Z8,Z9,Z10,Zc,↓reduceIte,reduceCtorEq] <;> ((repeat' apply And.intro) <;> first | rfl | omega | trivial))
                | (by_cases pk:pk0=3
                   · simp (disch:=omega) only [aR,N0,N1,N2,N3,N4,N5,Z0,Z1,Z2,Z3,Z4,Z5,Z6,Z7,Z8,Z9,Z10,Zc,↓reduceIte,reduceCtorEq,kA,h,e1,e2,e3,kK,hz,hi3,hi4,n1,pk,no (.inr (by simp [follows,pk]; done))]
                     all_goals exact ⟨kF,by kernel_rfl⟩
                   · simp (disch:=omega) only [aR,N0,N1,N2,N3,N4,N5,Z0,Z1,Z2,Z3,Z4,Z5,Z6,Z7,Z8,Z9,Z10,Zc,↓reduceIte,reduceCtorEq,kA,h,e1,e2,e3,kK,hz,hi3,hi4,n1,pk]
                     (repeat (with_reducible refine And.intro ?_ ?_; focus (first | omega | exact kF | kernel_rfl)))
                     refine again _ ?_ (yes (by simp [qV,n2]) (by simp [follows,pk]; done))
                     refine kN [] [] ?_
                     simp only [aR,N0,N1,N2,N3,N4,N5,Z0,Z1,Z2,Z3,Z4,Z5,Z6,Z7,Z8,Z9,Z10,Zc,↓reduceIte,reduceCtorEq] <;> ((repeat' apply And.intro) <;> first | rfl | omega | trivial))
            · simp (disch:=omega) only [aR,N0,N1,N2,N3,N4,N5,Z0,Z1,Z2,Z3,Z4,Z5,Z6,Z7,Z8,Z9,Z10,Zc,↓reduceIte,reduceCtorEq,kA,h,e1,e2,e3,kK,hz,hi3,hi4,n1,t0,no (.inl (by simp [qV,t0]))]
      · have k1:¬ k=1:=by omega
        have k3:¬ k=3:=by omega
        by_cases k2:k=2
        · subst k2
          by_cases n0:n=0
          · subst n0
            by_cases t0:t=[]
            · subst t0
              simp (disch:=omega) only [aR,N0,N1,N2,N3,N4,N5,Z0,Z1,Z2,Z3,Z4,Z5,Z6,Z7,Z8,Z9,Z10,Zc,↓reduceIte,reduceCtorEq,kA,h,e1,e2,e3,kK,hz,hi3,hi4,no (.inl (by simp [qV]))]
            · simp (disch:=omega) only [aR,N0,N1,N2,N3,N4,N5,Z0,Z1,Z2,Z3,Z4,Z5,Z6,Z7,Z8,Z9,Z10,Zc,↓reduceIte,reduceCtorEq,kA,h,e1,e2,e3,kK,hz,hi3,hi4,t0]
              refine kFG (by simp [kI]) hci ?_
              cases hv:(pts t).isSome with
              | false=>simp (disch:=omega) only [aR,N0,N1,N2,N3,N4,N5,Z0,Z1,Z2,Z3,Z4,Z5,Z6,Z7,Z8,Z9,Z10,Zc,↓reduceIte,reduceCtorEq,kA,h,e1,e2,e3,kK,hz,hi3,hi4,hv,no (.inl (by simp [qV,hv]))]
              | true =>
                by_cases pk:pk0=3
                · simp (disch:=omega) only [aR,N0,N1,N2,N3,N4,N5,Z0,Z1,Z2,Z3,Z4,Z5,Z6,Z7,Z8,Z9,Z10,Zc,↓reduceIte,reduceCtorEq,kA,h,e1,e2,e3,kK,hz,hi3,hi4,hv,pk,no (.inr (by simp [follows,pk]))]
                  all_goals exact ⟨kF,by kernel_rfl⟩
                · by_cases pl:pk0=2
                  · simp (disch:=omega) only [aR,N0,N1,N2,N3,N4,N5,Z0,Z1,Z2,Z3,Z4,Z5,Z6,Z7,Z8,Z9,Z10,Zc,↓reduceIte,reduceCtorEq,kA,h,e1,e2,e3,kK,hz,hi3,hi4,hv,pl,no (.inr (by simp [follows,pl]))]
                    all_goals exact ⟨kF,by kernel_rfl⟩
                  · simp (disch:=omega) only [aR,N0,N1,N2,N3,N4,N5,Z0,Z1,Z2,Z3,Z4,Z5,Z6,Z7,Z8,Z9,Z10,Zc,↓reduceIte,reduceCtorEq,kA,h,e1,e2,e3,kK,hz,hi3,hi4,hv,pk,pl]
                    (repeat (with_reducible refine And.intro ?_ ?_; focus (first | omega | exact kF | kernel_rfl)))
                    refine again _ ?_ (yes (by simp [qV,hv,t0]) (by simp [follows,pk,pl]))
                    refine kN [] [] ?_
                    simp only [aR,N0,N1,N2,N3,N4,N5,Z0,Z1,Z2,Z3,Z4,Z5,Z6,Z7,Z8,Z9,Z10,Zc,↓reduceIte,reduceCtorEq] <;> ((repeat' apply And.intro) <;> first | rfl | omega | trivial)
          · simp (disch:=omega) only [aR,N0,N1,N2,N3,N4,N5,Z0,Z1,Z2,Z3,Z4,Z5,Z6,Z7,Z8,Z9,Z10,Zc,↓reduceIte,reduceCtorEq,kA,h,e1,e2,e3,kK,hz,hi3,hi4,n0,no (.inl (by simp [qV,n0]))]
        · simp (disch:=omega) only [aR,N0,N1,N2,N3,N4,N5,Z0,Z1,Z2,Z3,Z4,Z5,Z6,Z7,Z8,Z9,Z10,Zc,↓reduceIte,reduceCtorEq,kA,h,e1,e2,e3,kK,hz,hi3,hi4,k1,k2,k3,no (.inl (by simp [qV,k1,k2,k3]))]
  · simp only [aR,N0,N1,N2,N3,N4,N5,Z0,Z1,Z2,Z3,Z4,Z5,Z6,Z7,Z8,Z9,Z10,Zc,↓reduceIte,reduceCtorEq,h]
    rw [List.drop_of_length_le (by omega)] at hb
    rw [hb]; rfl
end Go.Proofs
end
-- EAp4
section
namespace Go.Proofs
open Go Go.Rw
open _root_.Nat renaming reduceAdd → N0, reduceSub → N1, reduceMul → N2, reduceLT → N3, reduceLeDiff → N4, reduceEqDiff → N5
open _root_.Int renaming reduceNeg → Z0, reduceAdd → Z1, reduceSub → Z2, reduceMul → Z3, reduceGT → Z4, reduceGE → Z5, reduceLT → Z6, reduceLE → Z7, reduceEq → Z8, reduceNe → Z9, reduceToNat → Z10, cast_ofNat_Int → Zc
set_option maxRecDepth 100000
theorem call_rnormal {Γ:Env} (hf:Γ.get 116=some kAA) {σ:AS} {dr:Bool} {l:List Cp} {t:Nat} {ys:List AV} {d:Option Nat} {K:AS→Prop} (hy:ys=qB l) (h:okL l)
    (hk:cont σ d (.v (.bool (qJ l))) K):kR Tryz.prog Γ dr σ 116 [.sl t 3 ys] d K:=by
  subst hy
  exact kP (C:=kAA) (i:=⟨l,h⟩) hf rfl rfl rfl rfl (fun _ h=>h) rfl hk
theorem rcheck_good:Rw.Good Tryz.prog 86 kAJ:=by
  have hΓ:kL Tryz.prog [(116,kAA),(97,kBD),(117,kDo)]:=(kH rnormal_good (kH rbase_good (kH rout_good kJ)))
  refine kW (nn:=20) hΓ Tryz.func86 (by kernel_rfl) rfl (show Tryz.f86.results.toList=[.tmp 2] from rfl) (fun _=>rfl) (fun _=>rfl) ?_
  rintro ⟨l,hl⟩
  simp only [aR,N0,N1,N2,N3,N4,N5,Z0,Z1,Z2,Z3,Z4,Z5,Z6,Z7,Z8,Z9,Z10,Zc,↓reduceIte,reduceCtorEq,kK]
  have c1:100 < (l.length:Int)→qS l=3:=fun h=>by rw [qS,if_pos (by omega)]
  have c2:¬ 100 < (l.length:Int)→qJ l=false→qS l=1:=fun h h2=>by rw [qS,if_neg (by omega),if_pos h2]
  have c3:¬ 100 < (l.length:Int)→qJ l=true→(kA0 l > 2000∨outL l > 2000)→qS l=3:=fun h h2 h3=>by rw [qS,if_neg (by omega),if_neg (by rw [h2]; decide),if_pos h3]
  have c4:¬ 100 < (l.length:Int)→qJ l=true→¬ (kA0 l > 2000∨outL l > 2000)→qS l=0:=fun h h2 h3=>by rw [qS,if_neg (by omega),if_neg (by rw [h2]; decide),if_neg h3]
  (with_reducible first | refine kD (fun h=>?_) (fun h=>?_) | refine kE (fun h=>?_) (fun h=>?_))
  · simp only [aR,N0,N1,N2,N3,N4,N5,Z0,Z1,Z2,Z3,Z4,Z5,Z6,Z7,Z8,Z9,Z10,Zc,↓reduceIte,reduceCtorEq,h,c1 (by omega)]
  · simp only [aR,N0,N1,N2,N3,N4,N5,Z0,Z1,Z2,Z3,Z4,Z5,Z6,Z7,Z8,Z9,Z10,Zc,↓reduceIte,reduceCtorEq,h]
    refine call_rnormal (by simp [kI]) rfl hl ?_
    cases hn:qJ l with
    | false=>simp only [aR,N0,N1,N2,N3,N4,N5,Z0,Z1,Z2,Z3,Z4,Z5,Z6,Z7,Z8,Z9,Z10,Zc,↓reduceIte,reduceCtorEq,hn,c2 (by omega) hn]
    | true =>
      simp only [aR,N0,N1,N2,N3,N4,N5,Z0,Z1,Z2,Z3,Z4,Z5,Z6,Z7,Z8,Z9,Z10,Zc,↓reduceIte,reduceCtorEq,hn]
      refine call_rbase (by simp [kI]) rfl hl ?_
      simp only [aR,N0,N1,N2,N3,N4,N5,Z0,Z1,Z2,Z3,Z4,Z5,Z6,Z7,Z8,Z9,Z10,Zc,↓reduceIte,reduceCtorEq]
      by_cases h1:kA0 l > 2000
      · simp only [aR,N0,N1,N2,N3,N4,N5,Z0,Z1,Z2,Z3,Z4,Z5,Z6,Z7,Z8,Z9,Z10,Zc,↓reduceIte,reduceCtorEq,h1,c3 (by omega) hn (.inl (by omega))]
      · simp only [aR,N0,N1,N2,N3,N4,N5,Z0,Z1,Z2,Z3,Z4,Z5,Z6,Z7,Z8,Z9,Z10,Zc,↓reduceIte,reduceCtorEq,h1]
        refine call_rout (by simp [kI]) rfl hl ?_
        simp only [aR,N0,N1,N2,N3,N4,N5,Z0,Z1,Z2,Z3,Z4,Z5,Z6,Z7,Z8,Z9,Z10,Zc,↓reduceIte,reduceCtorEq]
        by_cases h2:outL l > 2000
        · simp only [aR,N0,N1,N2,N3,N4,N5,Z0,Z1,Z2,Z3,Z4,Z5,Z6,Z7,Z8,Z9,Z10,Zc,↓reduceIte,reduceCtorEq,h2,c3 (by omega) hn (.inr (by omega))]
        · simp only [aR,N0,N1,N2,N3,N4,N5,Z0,Z1,Z2,Z3,Z4,Z5,Z6,Z7,Z8,Z9,Z10,Zc,↓reduceIte,reduceCtorEq,h2,c4 (by omega) hn (by omega)]
theorem call_rcheck {Γ:Env} (hf:Γ.get 86=some kAJ) {σ:AS} {dr:Bool} {l:List Cp} {t:Nat} {ys:List AV} {d:Option Nat} {K:AS→Prop} (hy:ys=qB l) (h:okL l)
    (hk:cont σ d (.v (.int .i64 (qS l))) K):kR Tryz.prog Γ dr σ 86 [.sl t 3 ys] d K:=by
  subst hy
  exact kP (C:=kAJ) (i:=⟨l,h⟩) hf rfl rfl rfl rfl (fun _ h=>h) rfl hk
def doR (s:List UInt8) (l:List Cp):AV:=res2 (.v (sv (jK s l))) (errI s l)
abbrev doCon:Con where
  ι:=Str×Ed
  args:=fun p=>[.v (sv p.1.1),.sl 0 3 (qB p.2.1)]
  post:=fun p r=>r=doR p.1.1 p.2.1
  plain:=true
theorem stp_puts (s:List UInt8) (l:List Cp):(stp s l).flatMap Sp.puts=jK s l∧(jK s l).length≤8000:=by
  unfold stp jK
  by_cases he:errI s l=0
  · rw [if_pos he,if_pos he]
    obtain ⟨hc,_,hb,hf⟩:=err_zero he
    have hcc:=jD hc
    have ho:=out_do l (cpts s) 0 (by omega) hf hcc.2.2.2.2.2
    have h4:=kFQ (cs:=doL (cpts s) l)
    have:outL l=outF 0 l:=rfl
    exact ⟨kFb l _ hf,by omega⟩
  · rw [if_neg he,if_neg he]; exact ⟨rfl,by simp⟩
theorem take_puts (S:List Sp) (i:Nat) (h:i < S.length):(S.take (i+1)).flatMap Sp.puts=(S.take i).flatMap Sp.puts++S[i].puts:=by
  rw [List.take_succ_eq_append_getElem h,List.flatMap_append]; simp
theorem take_puts_le (S:List Sp) (i:Nat):((S.take i).flatMap Sp.puts).length≤(S.flatMap Sp.puts).length:=by
  conv=>rhs; rw [← List.take_append_drop i S]
  rw [List.flatMap_append,List.length_append]; omega
theorem stp_len (s:List UInt8) (l:List Cp):(stp s l).length≤100:=by
  unfold stp
  split
  · rename_i he
    have:=(jD (err_zero he).1).1
    rw [kE6]; exact this
  · simp
theorem do_good:Rw.Good Tryz.prog 100 doCon:=by
  have hΓ:kL Tryz.prog [(125,kEL)]:=(kH steps_good kJ)
  refine kW (nn:=30) hΓ Tryz.func100 (by kernel_rfl) rfl (show Tryz.f100.results.toList=[.tmp 4,.tmp 5] from rfl) (fun _=>rfl) (fun _=>rfl) ?_
  rintro ⟨⟨s,hs⟩,⟨l,hl⟩⟩
  simp only [aR,N0,N1,N2,N3,N4,N5,Z0,Z1,Z2,Z3,Z4,Z5,Z6,Z7,Z8,Z9,Z10,Zc,↓reduceIte,reduceCtorEq]
  refine call_steps (by simp [kI]) rfl hs hl (by omega) ?_
  obtain ⟨hp1,hp2⟩:=stp_puts s l
  have hle:=take_puts_le (stp s l)
  have hlen:=stp_len s l
  have hdo:doR s l=res2 (.v (sv ((stp s l).flatMap Sp.puts))) (errI s l):=by unfold doR; rw [hp1]
  rw [← hp1] at hp2
  simp only [aR,N0,N1,N2,N3,N4,N5,Z0,Z1,Z2,Z3,Z4,Z5,Z6,Z7,Z8,Z9,Z10,Zc,↓reduceIte,reduceCtorEq,kCM,res2,kB7]
  generalize stp s l=S at *
  obtain ⟨St,hSt⟩:∃ St:{ i:Nat // i≤S.length }→AS,∀ i,St i=AS.of 30 [(6,.v (sv ((S.take i.1).flatMap Sp.puts))),(8,.v (.int .i64 (errI s l))),(17,.sl 0 5 (sts S)),(18,.v (.int .i64 S.length)),(19,.v (.int .i64 i.1))] [] []:=⟨_,fun _=>rfl⟩
  refine qE hΓ St (fun i=>S.length - i.1) ⟨0,by omega⟩ (by rw [hSt]; refine kN [] [] ?_; simp only [aR,N0,N1,N2,N3,N4,N5,Z0,Z1,Z2,Z3,Z4,Z5,Z6,Z7,Z8,Z9,Z10,Zc,↓reduceIte,reduceCtorEq,List.take_zero,List.flatMap_nil] <;> ((repeat' apply And.intro) <;> first | rfl | omega | trivial)) ?_
  rintro ⟨i,hi⟩
  rw [hSt]
  simp only
  simp only [aR,N0,N1,N2,N3,N4,N5,Z0,Z1,Z2,Z3,Z4,Z5,Z6,Z7,Z8,Z9,Z10,Zc,↓reduceIte,reduceCtorEq]
  (with_reducible first | refine kD (fun h=>?_) (fun h=>?_) | refine kE (fun h=>?_) (fun h=>?_))
  · have hlt:i < S.length:=by omega
    have e1:=sts_getD S hlt
    have h1:=hle i
    have h2:=hle (i+1)
    have htp:=take_puts S i hlt
    rw [htp,List.length_append] at h2
    simp (disch:=omega) only [aR,N0,N1,N2,N3,N4,N5,Z0,Z1,Z2,Z3,Z4,Z5,Z6,Z7,Z8,Z9,Z10,Zc,↓reduceIte,reduceCtorEq,kA,h,e1,kB7]
    (repeat (with_reducible refine And.intro ?_ ?_; focus (first | omega | exact kF | kernel_rfl)))
    refine kO ⟨i+1,by omega⟩ (by simp only; omega) ?_
    rw [hSt]
    simp only
    rw [htp]
    refine kN [] [] ?_
    simp only [aR,N0,N1,N2,N3,N4,N5,Z0,Z1,Z2,Z3,Z4,Z5,Z6,Z7,Z8,Z9,Z10,Zc,↓reduceIte,reduceCtorEq] <;> ((repeat' apply And.intro) <;> first | rfl | omega | trivial)
  · have hin:i=S.length:=by omega
    simp only [aR,N0,N1,N2,N3,N4,N5,Z0,Z1,Z2,Z3,Z4,Z5,Z6,Z7,Z8,Z9,Z10,Zc,↓reduceIte,reduceCtorEq,h,hin,List.take_length]
    rw [hdo]; rfl
theorem call_do {Γ:Env} {f:Nat} (hf:Γ.get f=some doCon) {σ:AS} {dr:Bool} {s:List UInt8} {l:List Cp} {t:Nat} {ys:List AV} {d:Option Nat} {K:AS→Prop} (hy:ys=qB l) (hs:s.length≤1099511627776) (hl:okL l)
    (hk:cont σ d (doR s l) K):kR Tryz.prog Γ dr σ f [.v (sv s),.sl t 3 ys] d K:=by
  subst hy
  exact kP (C:=doCon) (i:=(⟨s,hs⟩,⟨l,hl⟩)) hf rfl rfl rfl rfl (fun _ h=>h) rfl hk
end Go.Proofs
end
-- EAq0
section
namespace Go.Proofs
open Go Go.Rw
open _root_.Nat renaming reduceAdd → N0, reduceSub → N1, reduceMul → N2, reduceLT → N3, reduceLeDiff → N4, reduceEqDiff → N5
open _root_.Int renaming reduceNeg → Z0, reduceAdd → Z1, reduceSub → Z2, reduceMul → Z3, reduceGT → Z4, reduceGE → Z5, reduceLT → Z6, reduceLE → Z7, reduceEq → Z8, reduceNe → Z9, reduceToNat → Z10, cast_ofNat_Int → Zc
set_option maxRecDepth 100000
abbrev kEJ:Con where
  ι:=Wide×{ m:Int // 0≤m∧m≤1000000 }
  args:=fun p=>[.sl 0 3 (qB p.1.1),.v (.int .i64 p.2.1)]
  post:=fun p r=>r = .v (.int .i64 (zM p.2.1 0 p.1.1))
  plain:=true
theorem weigh_good:Rw.Good Tryz.prog 94 kEJ:=by
  have hΓ:kL Tryz.prog [(93,kGC)]:=(kH sum_good kJ)
  refine kW (nn:=28) hΓ Tryz.func94 (by kernel_rfl) rfl (show Tryz.f94.results.toList=[.tmp 4] from rfl) (fun _=>rfl) (fun _=>rfl) ?_
  rintro ⟨⟨l,hl,hc⟩,⟨m,hm⟩⟩
  simp only [aR,N0,N1,N2,N3,N4,N5,Z0,Z1,Z2,Z3,Z4,Z5,Z6,Z7,Z8,Z9,Z10,Zc,↓reduceIte,reduceCtorEq,kK]
  obtain ⟨St,hSt⟩:∃ St:{ p:Int×Nat // p.2≤l.length∧(0≤p.1∧p.1≤1099511627776)∧zM m 0 l=zM m p.1 (l.drop p.2) }→AS,∀ p,St p=AS.of 28 [(0,.sl 0 3 (qB l)),(1,.v (.int .i64 m)),(5,.v (.int .i64 p.1.1)),(6,.v (.int .i64 p.1.2))] [] []:=⟨_,fun _=>rfl⟩
  refine qE hΓ St (fun p=>l.length - p.1.2) ⟨(0,0),by omega,by simp only; omega,rfl⟩ (by rw [hSt]; refine kN [] [] ?_; simp only [aR,N0,N1,N2,N3,N4,N5,Z0,Z1,Z2,Z3,Z4,Z5,Z6,Z7,Z8,Z9,Z10,Zc,↓reduceIte,reduceCtorEq] <;> ((repeat' apply And.intro) <;> first | rfl | omega | trivial)) ?_
  rintro ⟨⟨s,i⟩,hi,hs,hb⟩
  simp only at hi hs hb
  rw [hSt]
  simp only
  simp only [aR,N0,N1,N2,N3,N4,N5,Z0,Z1,Z2,Z3,Z4,Z5,Z6,Z7,Z8,Z9,Z10,Zc,↓reduceIte,reduceCtorEq,kK]
  (with_reducible first | refine kD (fun h=>?_) (fun h=>?_) | refine kE (fun h=>?_) (fun h=>?_))
  · have hlt:i < l.length:=by omega
    have hci:=hc l[i] (List.getElem_mem hlt)
    have e1:=qH l hlt
    rw [List.drop_eq_getElem_cons hlt,zM] at hb
    generalize l[i]=c at *
    obtain ⟨k,n,t⟩:=c
    simp only at hci hb e1
    simp (disch:=omega) only [aR,N0,N1,N2,N3,N4,N5,Z0,Z1,Z2,Z3,Z4,Z5,Z6,Z7,Z8,Z9,Z10,Zc,↓reduceIte,reduceCtorEq,kA,h]
    (with_reducible first | refine kD (fun h2=>?_) (fun h2=>?_) | refine kE (fun h2=>?_) (fun h2=>?_))
    · simp (disch:=omega) only [aR,N0,N1,N2,N3,N4,N5,Z0,Z1,Z2,Z3,Z4,Z5,Z6,Z7,Z8,Z9,Z10,Zc,↓reduceIte,reduceCtorEq,kA,h2,e1,kK]
      (repeat (with_reducible refine And.intro ?_ ?_; focus (first | omega | exact kF | kernel_rfl)))
      refine call_sum (by simp [kI]) (y:=[(t.length:Int),2]) rfl hs (by simp; omega) (by simp) ?_
      simp (disch:=omega) only [aR,N0,N1,N2,N3,N4,N5,Z0,Z1,Z2,Z3,Z4,Z5,Z6,Z7,Z8,Z9,Z10,Zc,↓reduceIte,reduceCtorEq,kA]
      rw [if_pos h2] at hb
      have hr:=kAx [(t.length:Int),2] hs (by simp)
      refine kO ⟨(sumF s [(t.length:Int),2],i+1),by simp only; omega,by simp only; omega,hb⟩ (by simp only; omega) ?_
      rw [hSt]; refine kN [] [] ?_
      simp only [aR,N0,N1,N2,N3,N4,N5,Z0,Z1,Z2,Z3,Z4,Z5,Z6,Z7,Z8,Z9,Z10,Zc,↓reduceIte,reduceCtorEq] <;> ((repeat' apply And.intro) <;> first | rfl | omega | trivial)
    · simp (disch:=omega) only [aR,N0,N1,N2,N3,N4,N5,Z0,Z1,Z2,Z3,Z4,Z5,Z6,Z7,Z8,Z9,Z10,Zc,↓reduceIte,reduceCtorEq,kA,h2]
      rw [hb,if_neg h2]
  · simp only [aR,N0,N1,N2,N3,N4,N5,Z0,Z1,Z2,Z3,Z4,Z5,Z6,Z7,Z8,Z9,Z10,Zc,↓reduceIte,reduceCtorEq,h]
    rw [List.drop_of_length_le (by omega)] at hb
    rw [hb]; rfl
theorem call_weigh {Γ:Env} (hf:Γ.get 94=some kEJ) {σ:AS} {dr:Bool} {l:List Cp} {m:Int} {t:Nat} {ys:List AV} {d:Option Nat} {K:AS→Prop} (hy:ys=qB l) (h1:l.length≤9223372036854775807) (h2:∀ c∈l,c.t.length≤9223372036854775807) (hm:0≤m∧m≤1000000)
    (hk:cont σ d (.v (.int .i64 (zM m 0 l))) K):kR Tryz.prog Γ dr σ 94 [.sl t 3 ys,.v (.int .i64 m)] d K:=by
  subst hy
  exact kP (C:=kEJ) (i:=(⟨l,h1,h2⟩,⟨m,hm⟩)) hf rfl rfl rfl rfl (fun _ h=>h) rfl hk
theorem weigh_ok {l:List Cp} {m:Int} (hm:m≤1000000) (hc:∀ c∈l,(-9223372036854775808≤c.n∧c.n≤9223372036854775807)∧c.t.length≤9223372036854775807) (h:zM m 0 l≤m):okL l∧(tot l:Int)+2 * l.length≤m:=by
  have hle:=compsF_le (m:=m) (by omega) l (s:=0) (by omega) h
  exact ⟨⟨by omega,by omega,fun c hc'=>(hc c hc').1⟩,by omega⟩
theorem cpts_len (t:List UInt8):(cpts t).length≤t.length:=by
  unfold cpts
  cases h:pts t with
  | none=>simp
  | some cs =>
    obtain ⟨_,e⟩:=kBE h
    have:=encs_le cs
    rw [← e] at this
    exact this
theorem kBl (t:List UInt8):cnt t=(cpts t).length:=by
  unfold cnt cpts
  cases h:pts t <;> rfl
end Go.Proofs
end
-- EUk0
section
namespace Go.Proofs
open Go Go.Rw
set_option maxRecDepth 100000
structure Nd where
  id:Int
  par:Int
  nm:List UInt8
  dir:Bool
  text:List UInt8
  deriving Inhabited,DecidableEq
def nA (x:Nd):AV:=.agg [.v (.int .i64 x.id),.v (.int .i64 x.par),.v (sv x.nm),.v (.bool x.dir),.v (sv x.text)]
def qI (l:List Nd):List AV:=l.map nA
theorem kEf:qI []=[]:=rfl
theorem kV (l:List Nd):(qI l).length=l.length:=by simp [qI]
theorem j3 (l:List Nd) {i:Nat} (h:i < l.length):(qI l).getD i .any=nA l[i]:=by simp [qI,List.getD_eq_getElem?_getD,h]
theorem nodes_take (l:List Nd) (i:Nat):(qI l).take i=qI (l.take i):=by simp [qI,List.map_take]
theorem nA_er (x:Nd):(nA x).er=nA x:=by simp [nA,AV.er,AV.erL]
theorem kEQ:∀ l:List Nd,AV.erL (qI l)=qI l
  | []=>rfl
  | x::l=>by simp only [qI,List.map_cons,AV.erL,nA_er]; rw [show List.map nA l=qI l from rfl,kEQ l]
def kC0:Nd:=⟨0,0,[],false,[]⟩
def ndx (id:Int):List Nd→Nat
  | []=>0
  | x::l=>if x.id=id then 0 else ndx id l+1
theorem ndx_get (id:Int):∀ (l:List Nd) (h:ndx id l < l.length),(l[ndx id l]).id=id
  | x::l,h=>by
    by_cases hx:x.id=id
    · simp [ndx,hx]
    · have e:ndx id (x::l)=ndx id l+1:=by rw [ndx,if_neg hx]
      simp only [e,List.getElem_cons_succ]
      exact ndx_get id l (by rw [e] at h; simpa using h)
theorem ndx_mem (id:Int):∀ l:List Nd,ndx id l < l.length↔∃ x∈l,x.id=id
  | []=>by simp [ndx]
  | x::l=>by
    rw [ndx]
    by_cases hx:x.id=id
    · rw [if_pos hx]; simp [hx]
    · rw [if_neg hx]; simp [hx,ndx_mem id l]
def kid (par:Int) (nm:List UInt8):List Nd→Int
  | []=>-1
  | x::l=>if x.par=par∧x.nm=nm then x.id else kid par nm l
def inN (l:List Nd) (top:Int):Nat→Int→Bool
  | 0,_=>true
  | n+1,id=>if id=top then true else if ndx id l < l.length then inN l top n (l.getD (ndx id l) kC0).par else false
def kBG (l:List Nd) (id top:Int):Bool:=inN l top (l.length+1) id
def kE5 (l:List Nd) (par:Int) (nm:List UInt8) (id:Int):Int:=if 0≤kid par nm l∧kid par nm l≠id then 6 else 0
def kAD (l:List Nd) (par:Int) (nm:List UInt8) (id:Int):Int :=
  if par=0 then kE5 l par nm id
  else if ndx par l < l.length then (if (l.getD (ndx par l) kC0).dir=false then 8 else if id > 0∧kBG l par id=true then 10 else kE5 l par nm id)
  else 5
def totN:List Nd→Nat
  | []=>0
  | x::l=>cnt x.text+totN l
def atN (id:Int):List Nd→Nat
  | []=>0
  | x::l=>if x.id < id then atN id l+1 else 0
theorem atN_le (id:Int):∀ l:List Nd,atN id l≤l.length
  | []=>Nat.le_refl _
  | x::l=>by
    have:=atN_le id l
    rw [atN]; split <;> simp only [List.length_cons] <;> omega
def doN (l:List Nd) (a:Ac):List Nd×Int :=
  let x:=l.getD (ndx a.id l) kC0
  if a.k=1 then
    if a.id < 1∨a.id > 1099511627776∨qG a.nm=false then (l,1)
    else if ndx a.id l < l.length then (l,6)
    else if kAD l a.par a.nm 0≠0 then (l,kAD l a.par a.nm 0)
    else if l.length ≥ 100 then (l,4)
    else (l.take (atN a.id l)++⟨a.id,a.par,a.nm,a.dir,[]⟩::l.drop (atN a.id l),0)
  else if a.k=2 then
    if ¬ ndx a.id l < l.length then (l,5)
    else if (l.any fun y=>decide (y.par=a.id))=true then (l,9)
    else (l.take (ndx a.id l)++l.drop (ndx a.id l+1),0)
  else if a.k=3 then
    if qG a.nm=false then (l,1)
    else if ¬ ndx a.id l < l.length then (l,5)
    else if kAD l a.par a.nm a.id≠0 then (l,kAD l a.par a.nm a.id)
    else (l.set (ndx a.id l) ⟨x.id,a.par,a.nm,x.dir,x.text⟩,0)
  else if a.k=4 then
    if ¬ ndx a.id l < l.length then (l,5)
    else if x.dir=true then (l,8)
    else if errI x.text a.ops≠0 then (l,errI x.text a.ops)
    else if (totN (l.set (ndx a.id l) ⟨x.id,x.par,x.nm,x.dir,jK x.text a.ops⟩):Int) > 10000 then (l,4)
    else (l.set (ndx a.id l) ⟨x.id,x.par,x.nm,x.dir,jK x.text a.ops⟩,0)
  else (l,1)
structure Alln where
  now:List Nd
  n:Int
  e:Int
  deriving DecidableEq
def allF (t:List Nd):List Ac→Nat→Alln
  | [],n=>⟨t,n,0⟩
  | a::r,n=>if (doN t a).2≠0 then ⟨[],n,(doN t a).2⟩ else allF (doN t a).1 r (n+1)
def allN (t:List Nd) (l:List Ac):Alln:=if txnE l≠0 then ⟨[],-1,txnE l⟩ else allF t l 0
def bkI (x:Int) (l:List Int):Nat→Nat
  | 0=>0
  | k+1=>if l.getD k 0 > x then bkI x l k else k+1
def insI (l:List Int) (x:Int):List Int:=if 0 < bkI x l l.length∧l.getD (bkI x l l.length - 1) 0=x then l else l.take (bkI x l l.length)++x::l.drop (bkI x l l.length)
def jU (a:Ac):List Int:=a.id::(if kBT a=true∧a.par≠0 then [a.par] else [])
def jP:List Int→List Ac→List Int
  | out,[]=>out
  | out,a::r=>jP ((jU a).foldl insI out) r
theorem bkI_le (x:Int) (l:List Int):∀ k,bkI x l k≤k
  | 0=>Nat.le_refl _
  | k+1=>by
    have:=bkI_le x l k
    rw [bkI]; split <;> omega
theorem mem_insI (l:List Int) (x y:Int):y∈insI l x↔y∈l∨y=x:=by
  have hb:=bkI_le x l l.length
  unfold insI
  split
  · rename_i h
    constructor
    · exact .inl
    · rintro (h1 | h1)
      · exact h1
      · rw [h1,← h.2,List.getD_eq_getElem?_getD,List.getElem?_eq_getElem (by omega)]
        exact List.getElem_mem _
  · have e:l=l.take (bkI x l l.length)++l.drop (bkI x l l.length):=(List.take_append_drop _ _).symm
    rw [List.mem_append,List.mem_cons]
    constructor
    · rintro (h1 | h1 | h1)
      · exact .inl (List.mem_of_mem_take h1)
      · exact .inr h1
      · exact .inl (List.mem_of_mem_drop h1)
    · rintro (h1 | h1)
      · rw [e,List.mem_append] at h1
        rcases h1 with h1 | h1
        · exact .inl h1
        · exact .inr (.inr h1)
      · exact .inr (.inl h1)
theorem mem_foldI:∀ (xs out:List Int) (y:Int),y∈xs.foldl insI out↔y∈out∨y∈xs
  | [],out,y=>by simp
  | x::xs,out,y=>by
    rw [List.foldl_cons,mem_foldI xs,mem_insI]
    simp only [List.mem_cons]
    constructor
    · rintro ((h | h) | h)
      · exact .inl h
      · exact .inr (.inl h)
      · exact .inr (.inr h)
    · rintro (h | h | h)
      · exact .inl (.inl h)
      · exact .inl (.inr h)
      · exact .inr h
theorem mem_touch:∀ (l:List Ac) (out:List Int) (y:Int),y∈jP out l↔y∈out∨∃ a∈l,y∈jU a
  | [],out,y=>by simp [jP]
  | a::l,out,y=>by
    rw [jP,mem_touch l,mem_foldI]
    simp only [List.mem_cons,exists_eq_or_imp]
    constructor
    · rintro ((h | h) | h)
      · exact .inl h
      · exact .inr (.inl h)
      · exact .inr (.inr h)
    · rintro (h | h | h)
      · exact .inl (.inl h)
      · exact .inl (.inr h)
      · exact .inr h
end Go.Proofs
end
-- EUk1
section
namespace Go.Proofs
open Go Go.Rw
open _root_.Nat renaming reduceAdd → N0, reduceSub → N1, reduceMul → N2, reduceLT → N3, reduceLeDiff → N4, reduceEqDiff → N5
open _root_.Int renaming reduceNeg → Z0, reduceAdd → Z1, reduceSub → Z2, reduceMul → Z3, reduceGT → Z4, reduceGE → Z5, reduceLT → Z6, reduceLE → Z7, reduceEq → Z8, reduceNe → Z9, reduceToNat → Z10, cast_ofNat_Int → Zc
set_option maxRecDepth 100000
end Go.Proofs
end
-- EUk1e
section
namespace Go.Proofs
open Go Go.Rw
set_option maxRecDepth 100000
section
variable {P:Program}
end
end Go.Proofs
end
-- EUk2
section
namespace Go.Proofs
open Go Go.Rw
open _root_.Nat renaming reduceAdd → N0, reduceSub → N1, reduceMul → N2, reduceLT → N3, reduceLeDiff → N4, reduceEqDiff → N5
open _root_.Int renaming reduceNeg → Z0, reduceAdd → Z1, reduceSub → Z2, reduceMul → Z3, reduceGT → Z4, reduceGE → Z5, reduceLT → Z6, reduceLE → Z7, reduceEq → Z8, reduceNe → Z9, reduceToNat → Z10, cast_ofNat_Int → Zc
set_option maxRecDepth 100000
theorem rname_good:Rw.Good Tryz.prog 31 kB4:=by
  have hΓ:kL Tryz.prog []:=kJ
  refine kW (nn:=56) hΓ Tryz.func31 (by kernel_rfl) rfl (show Tryz.f31.results.toList=[.tmp 2] from rfl) (fun _=>rfl) (fun _=>rfl) ?_
  rintro ⟨s,hs⟩
  simp only [aR,N0,N1,N2,N3,N4,N5,Z0,Z1,Z2,Z3,Z4,Z5,Z6,Z7,Z8,Z9,Z10,Zc,↓reduceIte,reduceCtorEq]
  have e0:qG s=(s.all zR && decide (1≤s.length∧s.length≤20∧s≠[46]∧s≠[46,46])):=rfl
  by_cases h1:(s.length:Int) < 1
  · have e1:qG s=false:=by rw [e0,decide_eq_false (by omega),Bool.and_false]
    simp only [aR,N0,N1,N2,N3,N4,N5,Z0,Z1,Z2,Z3,Z4,Z5,Z6,Z7,Z8,Z9,Z10,Zc,↓reduceIte,reduceCtorEq,h1,e1]
  by_cases h2:(s.length:Int) > 20
  · have e1:qG s=false:=by rw [e0,decide_eq_false (by omega),Bool.and_false]
    simp only [aR,N0,N1,N2,N3,N4,N5,Z0,Z1,Z2,Z3,Z4,Z5,Z6,Z7,Z8,Z9,Z10,Zc,↓reduceIte,reduceCtorEq,h1,h2,e1]
  by_cases h3:s=[46]
  · have e1:qG s=false:=by rw [e0,decide_eq_false (fun hh=>hh.2.2.1 h3),Bool.and_false]
    have h4:decide (s=[46])=true:=decide_eq_true h3
    clear h3
    simp only [aR,N0,N1,N2,N3,N4,N5,Z0,Z1,Z2,Z3,Z4,Z5,Z6,Z7,Z8,Z9,Z10,Zc,↓reduceIte,reduceCtorEq,h1,h2,h4,e1]
  by_cases h4:s=[46,46]
  · have e1:qG s=false:=by rw [e0,decide_eq_false (fun hh=>hh.2.2.2 h4),Bool.and_false]
    have h5:decide (s=[46,46])=true:=decide_eq_true h4
    clear h4
    simp only [aR,N0,N1,N2,N3,N4,N5,Z0,Z1,Z2,Z3,Z4,Z5,Z6,Z7,Z8,Z9,Z10,Zc,↓reduceIte,reduceCtorEq,h1,h2,h3,h5,e1]
  rw [decide_eq_true (by refine ⟨by omega,by omega,h3,h4⟩),Bool.and_true] at e0
  simp only [aR,N0,N1,N2,N3,N4,N5,Z0,Z1,Z2,Z3,Z4,Z5,Z6,Z7,Z8,Z9,Z10,Zc,↓reduceIte,reduceCtorEq,h1,h2,h3,h4]
  obtain ⟨St,hSt⟩:∃ St:{ i:Nat // i≤s.length∧(s.take i).all zR=true }→AS,∀ i,St i=AS.of 56 [(0,.v (sv s)),(3,.v (.int .i64 i.1))] [] []:=⟨_,fun _=>rfl⟩
  refine qE hΓ St (fun i=>s.length - i.1) ⟨0,by omega,by simp⟩ (by rw [hSt]; refine kN [] [] ?_; simp only [aR,N0,N1,N2,N3,N4,N5,Z0,Z1,Z2,Z3,Z4,Z5,Z6,Z7,Z8,Z9,Z10,Zc,↓reduceIte,reduceCtorEq] <;> ((repeat' apply And.intro) <;> first | rfl | omega | trivial)) ?_
  rintro ⟨i,hi,ha⟩
  rw [hSt]
  simp only
  simp only [aR,N0,N1,N2,N3,N4,N5,Z0,Z1,Z2,Z3,Z4,Z5,Z6,Z7,Z8,Z9,Z10,Zc,↓reduceIte,reduceCtorEq]
  (with_reducible first | refine kD (fun h=>?_) (fun h=>?_) | refine kE (fun h=>?_) (fun h=>?_))
  · have hlt:i < s.length:=by omega
    have e2:(s.take (i+1)).all zR=zR s[i]:=by rw [List.take_succ_eq_append_getElem hlt,List.all_append,ha]; simp
    have e3:zR s[i]=false→qG s=false:=fun hc=>by
      rw [e0]; exact List.all_eq_false.2 ⟨s[i],List.getElem_mem hlt,by simp [hc]⟩
    have e4:s.getD i 0=s[i]:=by simp [List.getD_eq_getElem?_getD,hlt]
    have e5:zR s[i]=decide ((97≤s[i].toNat∧s[i].toNat≤122)∨(48≤s[i].toNat∧s[i].toNat≤57)∨s[i].toNat=46∨s[i].toNat=45∨s[i].toNat=95):=rfl
    generalize s[i]=c at *
    cases hc:zR c
    · have e6:=e3 hc
      rw [hc] at e5
      have e7:=of_decide_eq_false e5.symm
      clear e5 e3 e2 e0
      simp only [aR,N0,N1,N2,N3,N4,N5,Z0,Z1,Z2,Z3,Z4,Z5,Z6,Z7,Z8,Z9,Z10,Zc,↓reduceIte,reduceCtorEq,h,e4]
      (repeat (with_reducible refine And.intro ?_ ?_; focus (first | omega | exact kF | kernel_rfl)))
      (try ((with_reducible first | refine kD (fun q1=>?_) (fun q1=>?_) | refine kE (fun q1=>?_) (fun q1=>?_)) <;> simp (disch:=omega) only [aR,N0,N1,N2,N3,N4,N5,Z0,Z1,Z2,Z3,Z4,Z5,Z6,Z7,Z8,Z9,Z10,Zc,↓reduceIte,reduceCtorEq,kA,q1,e6] <;> (with_reducible first | (refine And.intro ?_ ?_; focus (first | omega | exact kF | kernel_rfl)); (repeat (with_reducible refine And.intro ?_ ?_; focus (first | omega | exact kF | kernel_rfl))); (try simp (disch:=omega) only [aR,N0,N1,N2,N3,N4,N5,Z0,Z1,Z2,Z3,Z4,Z5,Z6,Z7,Z8,Z9,Z10,Zc,↓reduceIte,reduceCtorEq,kA,q1,e6]) | skip) <;> (try ((with_reducible first | refine kD (fun q2=>?_) (fun q2=>?_) | refine kE (fun q2=>?_) (fun q2=>?_)) <;> simp (disch:=omega) only [aR,N0,N1,N2,N3,N4,N5,Z0,Z1,Z2,Z3,Z4,Z5,Z6,Z7,Z8,Z9,Z10,Zc,↓reduceIte,reduceCtorEq,kA,q2,e6] <;> (with_reducible first | (refine And.intro ?_ ?_; focus (first | omega | exact kF | kernel_rfl)); (repeat (with_reducible refine And.intro ?_ ?_; focus (first | omega | exact kF | kernel_rfl))); (try simp (disch:=omega) only [aR,N0,N1,N2,N3,N4,N5,Z0,Z1,Z2,Z3,Z4,Z5,Z6,Z7,Z8,Z9,Z10,Zc,↓reduceIte,reduceCtorEq,kA,q2,e6]) | skip) <;> (try ((with_reducible first | refine kD (fun q3=>?_) (fun q3=>?_) | refine kE (fun q3=>?_) (fun q3=>?_)) <;> simp (disch:=omega) only [aR,N0,N1,N2,N3,N4,N5,Z0,Z1,Z2,Z3,Z4,Z5,Z6,Z7,Z8,Z9,Z10,Zc,↓reduceIte,reduceCtorEq,kA,q3,e6] <;> (with_reducible first | (refine And.intro ?_ ?_; focus (first | omega | exact kF | kernel_rfl)); (repeat (with_reducible refine And.intro ?_ ?_; focus (first | omega | exact kF | kernel_rfl))); (try simp (disch:=omega) only [aR,N0,N1,N2,N3,N4,N5,Z0,Z1,Z2,Z3,Z4,Z5,Z6,Z7,Z8,Z9,Z10,Zc,↓reduceIte,reduceCtorEq,kA,q3,e6]) | skip) <;> (try ((with_reducible first | refine kD (fun q4=>?_) (fun q4=>?_) | refine kE (fun q4=>?_) (fun q4=>?_)) <;> simp (disch:=omega) only [aR,N0,N1,N2,N3,N4,N5,Z0,Z1,Z2,Z3,Z4,Z5,Z6,Z7,Z8,Z9,Z10,Zc,↓reduceIte,reduceCtorEq,kA,q4,e6] <;> (with_reducible first | (refine And.intro ?_ ?_; focus (first | omega | exact kF | kernel_rfl)); (repeat (with_reducible refine And.intro ?_ ?_; focus (first | omega | exact kF | kernel_rfl))); (try simp (disch:=omega) only [aR,N0,N1,N2,N3,N4,N5,Z0,Z1,Z2,Z3,Z4,Z5,Z6,Z7,Z8,Z9,Z10,Zc,↓reduceIte,reduceCtorEq,kA,q4,e6]) | skip) <;> (try ((with_reducible first | refine kD (fun q5=>?_) (fun q5=>?_) | refine kE (fun q5=>?_) (fun q5=>?_)) <;> simp (disch:=omega) only [aR,N0,N1,N2,N3,N4,N5,Z0,Z1,Z2,Z3,Z4,Z5,Z6,Z7,Z8,Z9,Z10,Zc,↓reduceIte,reduceCtorEq,kA,q5,e6] <;> (with_reducible first | (refine And.intro ?_ ?_; focus (first | omega | exact kF | kernel_rfl)); (repeat (with_reducible refine And.intro ?_ ?_; focus (first | omega | exact kF | kernel_rfl))); (try simp (disch:=omega) only [aR,N0,N1,N2,N3,N4,N5,Z0,Z1,Z2,Z3,Z4,Z5,Z6,Z7,Z8,Z9,Z10,Zc,↓reduceIte,reduceCtorEq,kA,q5,e6]) | skip) <;> (try ((with_reducible first | refine kD (fun q6=>?_) (fun q6=>?_) | refine kE (fun q6=>?_) (fun q6=>?_)) <;> simp (disch:=omega) only [aR,N0,N1,N2,N3,N4,N5,Z0,Z1,Z2,Z3,Z4,Z5,Z6,Z7,Z8,Z9,Z10,Zc,↓reduceIte,reduceCtorEq,kA,q6,e6] <;> (with_reducible first | (refine And.intro ?_ ?_; focus (first | omega | exact kF | kernel_rfl)); (repeat (with_reducible refine And.intro ?_ ?_; focus (first | omega | exact kF | kernel_rfl))); (try simp (disch:=omega) only [aR,N0,N1,N2,N3,N4,N5,Z0,Z1,Z2,Z3,Z4,Z5,Z6,Z7,Z8,Z9,Z10,Zc,↓reduceIte,reduceCtorEq,kA,q6,e6]) | skip) <;> (try ((with_reducible first | refine kD (fun q7=>?_) (fun q7=>?_) | refine kE (fun q7=>?_) (fun q7=>?_)) <;> simp (disch:=omega) only [aR,N0,N1,N2,N3,N4,N5,Z0,Z1,Z2,Z3,Z4,Z5,Z6,Z7,Z8,Z9,Z10,Zc,↓reduceIte,reduceCtorEq,kA,q7,e6] <;> (with_reducible first | (refine And.intro ?_ ?_; focus (first | omega | exact kF | kernel_rfl)); (repeat (with_reducible refine And.intro ?_ ?_; focus (first | omega | exact kF | kernel_rfl))); (try simp (disch:=omega) only [aR,N0,N1,N2,N3,N4,N5,Z0,Z1,Z2,Z3,Z4,Z5,Z6,Z7,Z8,Z9,Z10,Zc,↓reduceIte,reduceCtorEq,kA,q7,e6]) | skip) <;> skip))))))))))))))
      all_goals (exfalso; omega)
    · rw [hc] at e5 e2
      have e7:=of_decide_eq_true e5.symm
      clear e5 e3
      simp only [aR,N0,N1,N2,N3,N4,N5,Z0,Z1,Z2,Z3,Z4,Z5,Z6,Z7,Z8,Z9,Z10,Zc,↓reduceIte,reduceCtorEq,h,e4]
      (repeat (with_reducible refine And.intro ?_ ?_; focus (first | omega | exact kF | kernel_rfl)))
      (try ((with_reducible first | refine kD (fun q1=>?_) (fun q1=>?_) | refine kE (fun q1=>?_) (fun q1=>?_)) <;> simp (disch:=omega) only [aR,N0,N1,N2,N3,N4,N5,Z0,Z1,Z2,Z3,Z4,Z5,Z6,Z7,Z8,Z9,Z10,Zc,↓reduceIte,reduceCtorEq,kA,q1,kA (n:=(i:Int)+1) (by omega) (by omega)] <;> (with_reducible first | (refine And.intro ?_ ?_; focus (first | omega | exact kF | kernel_rfl)); (repeat (with_reducible refine And.intro ?_ ?_; focus (first | omega | exact kF | kernel_rfl))); (try simp (disch:=omega) only [aR,N0,N1,N2,N3,N4,N5,Z0,Z1,Z2,Z3,Z4,Z5,Z6,Z7,Z8,Z9,Z10,Zc,↓reduceIte,reduceCtorEq,kA,q1,kA (n:=(i:Int)+1) (by omega) (by omega)]) | skip) <;> (try ((with_reducible first | refine kD (fun q2=>?_) (fun q2=>?_) | refine kE (fun q2=>?_) (fun q2=>?_)) <;> simp (disch:=omega) only [aR,N0,N1,N2,N3,N4,N5,Z0,Z1,Z2,Z3,Z4,Z5,Z6,Z7,Z8,Z9,Z10,Zc,↓reduceIte,reduceCtorEq,kA,q2,kA (n:=(i:Int)+1) (by omega) (by omega)] <;> (with_reducible first | (refine And.intro ?_ ?_; focus (first | omega | exact kF | kernel_rfl)); (repeat (with_reducible refine And.intro ?_ ?_; focus (first | omega | exact kF | kernel_rfl))); (try simp (disch:=omega) only [aR,N0,N1,N2,N3,N4,N5,Z0,Z1,Z2,Z3,Z4,Z5,Z6,Z7,Z8,Z9,Z10,Zc,↓reduceIte,reduceCtorEq,kA,q2,kA (n:=(i:Int)+1) (by omega) (by omega)]) | skip) <;> (try ((with_reducible first | refine kD (fun q3=>?_) (fun q3=>?_) | refine kE (fun q3=>?_) (fun q3=>?_)) <;> simp (disch:=omega) only [aR,N0,N1,N2,N3,N4,N5,Z0,Z1,Z2,Z3,Z4,Z5,Z6,Z7,Z8,Z9,Z10,Zc,↓reduceIte,reduceCtorEq,kA,q3,kA (n:=(i:Int)+1) (by omega) (by omega)] <;> (with_reducible first | (refine And.intro ?_ ?_; focus (first | omega | exact kF | kernel_rfl)); (repeat (with_reducible refine And.intro ?_ ?_; focus (first | omega | exact kF | kernel_rfl))); (try simp (disch:=omega) only [aR,N0,N1,N2,N3,N4,N5,Z0,Z1,Z2,Z3,Z4,Z5,Z6,Z7,Z8,Z9,Z10,Zc,↓reduceIte,reduceCtorEq,kA,q3,kA (n:=(i:Int)+1) (by omega) (by omega)]) | skip) <;> (try ((with_reducible first | refine kD (fun q4=>?_) (fun q4=>?_) | refine kE (fun q4=>?_) (fun q4=>?_)) <;> simp (disch:=omega) only [aR,N0,N1,N2,N3,N4,N5,Z0,Z1,Z2,Z3,Z4,Z5,Z6,Z7,Z8,Z9,Z10,Zc,↓reduceIte,reduceCtorEq,kA,q4,kA (n:=(i:Int)+1) (by omega) (by omega)] <;> (with_reducible first | (refine And.intro ?_ ?_; focus (first | omega | exact kF | kernel_rfl)); (repeat (with_reducible refine And.intro ?_ ?_; focus (first | omega | exact kF | kernel_rfl))); (try simp (disch:=omega) only [aR,N0,N1,N2,N3,N4,N5,Z0,Z1,Z2,Z3,Z4,Z5,Z6,Z7,Z8,Z9,Z10,Zc,↓reduceIte,reduceCtorEq,kA,q4,kA (n:=(i:Int)+1) (by omega) (by omega)]) | skip) <;> (try ((with_reducible first | refine kD (fun q5=>?_) (fun q5=>?_) | refine kE (fun q5=>?_) (fun q5=>?_)) <;> simp (disch:=omega) only [aR,N0,N1,N2,N3,N4,N5,Z0,Z1,Z2,Z3,Z4,Z5,Z6,Z7,Z8,Z9,Z10,Zc,↓reduceIte,reduceCtorEq,kA,q5,kA (n:=(i:Int)+1) (by omega) (by omega)] <;> (with_reducible first | (refine And.intro ?_ ?_; focus (first | omega | exact kF | kernel_rfl)); (repeat (with_reducible refine And.intro ?_ ?_; focus (first | omega | exact kF | kernel_rfl))); (try simp (disch:=omega) only [aR,N0,N1,N2,N3,N4,N5,Z0,Z1,Z2,Z3,Z4,Z5,Z6,Z7,Z8,Z9,Z10,Zc,↓reduceIte,reduceCtorEq,kA,q5,kA (n:=(i:Int)+1) (by omega) (by omega)]) | skip) <;> (try ((with_reducible first | refine kD (fun q6=>?_) (fun q6=>?_) | refine kE (fun q6=>?_) (fun q6=>?_)) <;> simp (disch:=omega) only [aR,N0,N1,N2,N3,N4,N5,Z0,Z1,Z2,Z3,Z4,Z5,Z6,Z7,Z8,Z9,Z10,Zc,↓reduceIte,reduceCtorEq,kA,q6,kA (n:=(i:Int)+1) (by omega) (by omega)] <;> (with_reducible first | (refine And.intro ?_ ?_; focus (first | omega | exact kF | kernel_rfl)); (repeat (with_reducible refine And.intro ?_ ?_; focus (first | omega | exact kF | kernel_rfl))); (try simp (disch:=omega) only [aR,N0,N1,N2,N3,N4,N5,Z0,Z1,Z2,Z3,Z4,Z5,Z6,Z7,Z8,Z9,Z10,Zc,↓reduceIte,reduceCtorEq,kA,q6,kA (n:=(i:Int)+1) (by omega) (by omega)]) | skip) <;> (try ((with_reducible first | refine kD (fun q7=>?_) (fun q7=>?_) | refine kE (fun q7=>?_) (fun q7=>?_)) <;> simp (disch:=omega) only [aR,N0,N1,N2,N3,N4,N5,Z0,Z1,Z2,Z3,Z4,Z5,Z6,Z7,Z8,Z9,Z10,Zc,↓reduceIte,reduceCtorEq,kA,q7,kA (n:=(i:Int)+1) (by omega) (by omega)] <;> (with_reducible first | (refine And.intro ?_ ?_; focus (first | omega | exact kF | kernel_rfl)); (repeat (with_reducible refine And.intro ?_ ?_; focus (first | omega | exact kF | kernel_rfl))); (try simp (disch:=omega) only [aR,N0,N1,N2,N3,N4,N5,Z0,Z1,Z2,Z3,Z4,Z5,Z6,Z7,Z8,Z9,Z10,Zc,↓reduceIte,reduceCtorEq,kA,q7,kA (n:=(i:Int)+1) (by omega) (by omega)]) | skip) <;> skip))))))))))))))
      all_goals first
        | (exfalso; omega)
        | (refine kO ⟨i+1,by omega,e2⟩ (by simp only; omega) ?_
           rw [hSt]; refine kN [] [] ?_
           simp only [aR,N0,N1,N2,N3,N4,N5,Z0,Z1,Z2,Z3,Z4,Z5,Z6,Z7,Z8,Z9,Z10,Zc,↓reduceIte,reduceCtorEq] <;> ((repeat' apply And.intro) <;> first | rfl | omega | trivial))
  · rw [List.take_of_length_le (by omega)] at ha
    simp only [aR,N0,N1,N2,N3,N4,N5,Z0,Z1,Z2,Z3,Z4,Z5,Z6,Z7,Z8,Z9,Z10,Zc,↓reduceIte,reduceCtorEq,h,e0,ha]
theorem nodes_set (l:List Nd) (i:Nat) (x:Nd):(qI l).set i (nA x)=qI (l.set i x):=by simp [qI,List.map_set]
theorem kFK:Rw.Good Tryz.prog 42 kA9:=by
  have hΓ:kL Tryz.prog []:=kJ
  refine kW (nn:=48) hΓ Tryz.func42 (by kernel_rfl) rfl (show Tryz.f42.results.toList=[.cell 2 35] from rfl) (fun _=>rfl) (fun x=>by simp [AV.erL,kEA]) ?_
  rintro ⟨a,oa⟩
  obtain ⟨k,id,par,nm,dir,ops⟩:=a
  simp only at oa
  by_cases h1:k=1
  · simp only [aR,N0,N1,N2,N3,N4,N5,Z0,Z1,Z2,Z3,Z4,Z5,Z6,Z7,Z8,Z9,Z10,Zc,↓reduceIte,reduceCtorEq,aA,h1]
    simp [zH,h1,aA,zP]
  by_cases h2:k=2
  · simp only [aR,N0,N1,N2,N3,N4,N5,Z0,Z1,Z2,Z3,Z4,Z5,Z6,Z7,Z8,Z9,Z10,Zc,↓reduceIte,reduceCtorEq,aA,h1,h2]
    simp [zH,h2,aA,zP]
  by_cases h3:k=3
  · simp only [aR,N0,N1,N2,N3,N4,N5,Z0,Z1,Z2,Z3,Z4,Z5,Z6,Z7,Z8,Z9,Z10,Zc,↓reduceIte,reduceCtorEq,aA,h1,h2,h3]
    simp [zH,h3,aA,zP]
  by_cases h4:k=4
  · simp only [aR,N0,N1,N2,N3,N4,N5,Z0,Z1,Z2,Z3,Z4,Z5,Z6,Z7,Z8,Z9,Z10,Zc,↓reduceIte,reduceCtorEq,aA,h1,h2,h3,h4]
    simp [zH,h4,aA]
  · simp only [aR,N0,N1,N2,N3,N4,N5,Z0,Z1,Z2,Z3,Z4,Z5,Z6,Z7,Z8,Z9,Z10,Zc,↓reduceIte,reduceCtorEq,aA,h1,h2,h3,h4]
    simp [zH,h1,h2,h3,h4,aA,zP]
theorem kCR:Rw.Good Tryz.prog 40 jR:=by
  have hΓ:kL Tryz.prog [(89,kDc)]:=(kH rsame_good kJ)
  refine kW (nn:=45) hΓ Tryz.func40 (by kernel_rfl) rfl (show Tryz.f40.results.toList=[.tmp 4] from rfl) (fun _=>rfl) (fun x=>by simp [AV.erL,kEA]) ?_
  rintro ⟨⟨x,hx⟩,⟨y,hy⟩⟩
  have dk:decide (x=y)=decide (x.k=y.k∧x.id=y.id∧x.par=y.par∧x.nm=y.nm∧x.dir=y.dir∧x.ops=y.ops):=by
    cases x; cases y
    simp only [Ac.mk.injEq]
  simp only [dk]
  obtain ⟨k,id,par,nm,dir,ops⟩:=x
  obtain ⟨k',id',par',nm',dir',ops'⟩:=y
  simp only [aR,N0,N1,N2,N3,N4,N5,Z0,Z1,Z2,Z3,Z4,Z5,Z6,Z7,Z8,Z9,Z10,Zc,↓reduceIte,reduceCtorEq,aA]
  by_cases h1:k=k'
  case neg =>
    simp only [aR,N0,N1,N2,N3,N4,N5,Z0,Z1,Z2,Z3,Z4,Z5,Z6,Z7,Z8,Z9,Z10,Zc,↓reduceIte,reduceCtorEq,h1]
    simp [h1]
  by_cases h2:id=id'
  case neg =>
    simp only [aR,N0,N1,N2,N3,N4,N5,Z0,Z1,Z2,Z3,Z4,Z5,Z6,Z7,Z8,Z9,Z10,Zc,↓reduceIte,reduceCtorEq,h2,h1]
    simp [h2]
  by_cases h3:par=par'
  case neg =>
    simp only [aR,N0,N1,N2,N3,N4,N5,Z0,Z1,Z2,Z3,Z4,Z5,Z6,Z7,Z8,Z9,Z10,Zc,↓reduceIte,reduceCtorEq,h3,h1,h2]
    simp [h3]
  by_cases h4:nm=nm'
  case neg =>
    simp only [aR,N0,N1,N2,N3,N4,N5,Z0,Z1,Z2,Z3,Z4,Z5,Z6,Z7,Z8,Z9,Z10,Zc,↓reduceIte,reduceCtorEq,h4,h1,h2,h3]
    simp [h4]
  by_cases h5:dir=dir'
  case neg =>
    have nn:(dir == dir')=false:=by simp [h5]
    simp only [aR,N0,N1,N2,N3,N4,N5,Z0,Z1,Z2,Z3,Z4,Z5,Z6,Z7,Z8,Z9,Z10,Zc,↓reduceIte,reduceCtorEq,nn,h1,h2,h3,h4]
    simp [h5]
  have b5:(dir == dir')=true:=by simp [h5]
  simp only [aR,N0,N1,N2,N3,N4,N5,Z0,Z1,Z2,Z3,Z4,Z5,Z6,Z7,Z8,Z9,Z10,Zc,↓reduceIte,reduceCtorEq,h1,h2,h3,h4,b5]
  refine call_same (by simp [kI]) rfl rfl (by have:=hx.1; simp only at this; omega) (by have:=hy.1; simp only at this; omega) ?_
  simp only [aR,N0,N1,N2,N3,N4,N5,Z0,Z1,Z2,Z3,Z4,Z5,Z6,Z7,Z8,Z9,Z10,Zc,↓reduceIte,reduceCtorEq,h1,h2,h3,h4,b5]
  simp [h1,h2,h3,h4,h5]
abbrev ActsS:={ l:List Ac // l.length≤1099511627776∧∀ a∈l,okL a.ops }
abbrev kBf:Con where
  ι:=ActsS×ActsS
  args:=fun p=>[.sl 0 6 (acts p.1.1),.sl 0 6 (acts p.2.1)]
  post:=fun p r=>r = .v (.bool (decide (p.1.1=p.2.1)))
  plain:=true
theorem sacts_good:Rw.Good Tryz.prog 39 kBf:=by
  have hΓ:kL Tryz.prog [(40,jR)]:=(kH kCR kJ)
  refine kW (nn:=27) hΓ Tryz.func39 (by kernel_rfl) rfl (show Tryz.f39.results.toList=[.tmp 4] from rfl) (fun _=>rfl) (fun x=>by simp [AV.erL,AV.er]) ?_
  rintro ⟨⟨a,ha,hao⟩,⟨b,hb,hbo⟩⟩
  simp only [aR,N0,N1,N2,N3,N4,N5,Z0,Z1,Z2,Z3,Z4,Z5,Z6,Z7,Z8,Z9,Z10,Zc,↓reduceIte,reduceCtorEq,kS]
  by_cases hl:a.length=b.length
  case neg =>
    have hne:a≠b:=fun e=>hl (by rw [e])
    simp only [aR,N0,N1,N2,N3,N4,N5,Z0,Z1,Z2,Z3,Z4,Z5,Z6,Z7,Z8,Z9,Z10,Zc,↓reduceIte,reduceCtorEq,show ((a.length:Int)=b.length)=False from eq_false (by omega),hne]
  simp only [aR,N0,N1,N2,N3,N4,N5,Z0,Z1,Z2,Z3,Z4,Z5,Z6,Z7,Z8,Z9,Z10,Zc,↓reduceIte,reduceCtorEq,hl,kS]
  obtain ⟨St,hSt⟩:∃ St:{ i:Nat // i≤b.length∧a.take i=b.take i }→AS,∀ i,St i=AS.of 27 [(0,.sl 0 6 (acts a)),(1,.sl 0 6 (acts b)),(5,.v (.int .i64 i.1))] [] []:=⟨_,fun _=>rfl⟩
  refine qE hΓ St (fun i=>b.length - i.1) ⟨0,by omega,by simp⟩ (by rw [hSt]; refine kN [] [] ?_; simp only [aR,N0,N1,N2,N3,N4,N5,Z0,Z1,Z2,Z3,Z4,Z5,Z6,Z7,Z8,Z9,Z10,Zc,↓reduceIte,reduceCtorEq] <;> ((repeat' apply And.intro) <;> first | rfl | omega | trivial)) ?_
  rintro ⟨i,hi,hs⟩
  rw [hSt]
  simp only
  simp only [aR,N0,N1,N2,N3,N4,N5,Z0,Z1,Z2,Z3,Z4,Z5,Z6,Z7,Z8,Z9,Z10,Zc,↓reduceIte,reduceCtorEq,kS]
  (with_reducible first | refine kD (fun h=>?_) (fun h=>?_) | refine kE (fun h=>?_) (fun h=>?_))
  · have hlt:i < a.length:=by omega
    have hlt2:i < b.length:=by omega
    have e1:=zD a hlt
    have e2:=zD b hlt2
    have hx:=hao _ (List.getElem_mem hlt)
    have hy:=hbo _ (List.getElem_mem hlt2)
    have ta:=List.take_succ_eq_append_getElem hlt
    have tb:=List.take_succ_eq_append_getElem hlt2
    have hab:a[i]=b[i]→a.take (i+1)=b.take (i+1):=fun he=>by rw [ta,tb,he,hs]
    have hne:¬ a[i]=b[i]→a≠b:=fun he hh=>he (by subst hh; rfl)
    generalize a[i]=x at *
    generalize b[i]=y at *
    simp only [aR,N0,N1,N2,N3,N4,N5,Z0,Z1,Z2,Z3,Z4,Z5,Z6,Z7,Z8,Z9,Z10,Zc,↓reduceIte,reduceCtorEq,h,e1,e2,aA,kS]
    (repeat (with_reducible refine And.intro ?_ ?_; focus (first | omega | exact kF | kernel_rfl)))
    refine kP (C:=jR) (i:=(⟨x,hx⟩,⟨y,hy⟩)) (by simp [kI]) rfl rfl rfl (by simp [AV.erL,AV.er,aA,kDL]) (fun _ h=>h) rfl ?_
    by_cases hxy:x=y
    · simp only [aR,N0,N1,N2,N3,N4,N5,Z0,Z1,Z2,Z3,Z4,Z5,Z6,Z7,Z8,Z9,Z10,Zc,↓reduceIte,reduceCtorEq,hxy,kA (n:=(i:Int)+1) (by omega) (by omega)]
      refine kO ⟨i+1,by omega,hab hxy⟩ (by simp only; omega) ?_
      rw [hSt]; refine kN [] [] ?_
      simp only [aR,N0,N1,N2,N3,N4,N5,Z0,Z1,Z2,Z3,Z4,Z5,Z6,Z7,Z8,Z9,Z10,Zc,↓reduceIte,reduceCtorEq] <;> ((repeat' apply And.intro) <;> first | rfl | omega | trivial)
    · simp only [aR,N0,N1,N2,N3,N4,N5,Z0,Z1,Z2,Z3,Z4,Z5,Z6,Z7,Z8,Z9,Z10,Zc,↓reduceIte,reduceCtorEq,hxy,hne hxy]
  · have e1:a.take i=a:=List.take_of_length_le (by omega)
    have e2:b.take i=b:=List.take_of_length_le (by omega)
    rw [e1,e2] at hs
    simp only [aR,N0,N1,N2,N3,N4,N5,Z0,Z1,Z2,Z3,Z4,Z5,Z6,Z7,Z8,Z9,Z10,Zc,↓reduceIte,reduceCtorEq,h,hs]
end Go.Proofs
end
-- EAp5
section
namespace Go.Proofs
open Go Go.Rw
open _root_.Nat renaming reduceAdd → N0, reduceSub → N1, reduceMul → N2, reduceLT → N3, reduceLeDiff → N4, reduceEqDiff → N5
open _root_.Int renaming reduceNeg → Z0, reduceAdd → Z1, reduceSub → Z2, reduceMul → Z3, reduceGT → Z4, reduceGE → Z5, reduceLT → Z6, reduceLE → Z7, reduceEq → Z8, reduceNe → Z9, reduceToNat → Z10, cast_ofNat_Int → Zc
set_option maxRecDepth 100000
end Go.Proofs
end
-- EAw0
section
namespace Go.Proofs
open Go Go.Rw
set_option maxRecDepth 100000
inductive Un where
  | r
  | d
  | i (c:Nat)
  deriving DecidableEq
def size (c:Cp):Nat:=if c.k=2 then (cpts c.t).length else c.n.toNat
end Go.Proofs
end
-- EAw1
section
namespace Go.Proofs
open Go Go.Rw
set_option maxRecDepth 100000
def part (c:Cp) (dn m:Nat):Cp:=if c.k=2 then ⟨c.k,c.n,encs (((cpts c.t).drop dn).take m)⟩ else ⟨c.k,m,c.t⟩
end Go.Proofs
end
-- EAw2
section
namespace Go.Proofs
open Go Go.Rw
set_option maxRecDepth 100000
def piece (w:List Cp×Nat) (n:Nat):Cp:=match w with
  | ([],_)=>⟨0,0,[]⟩
  | (c::_,a)=>part c a n
end Go.Proofs
end
-- EAw3
section
namespace Go.Proofs
open Go Go.Rw
set_option maxRecDepth 100000
end Go.Proofs
end
-- EAw4
section
namespace Go.Proofs
open Go Go.Rw
set_option maxRecDepth 100000
end Go.Proofs
end
-- EAw5
section
namespace Go.Proofs
open Go Go.Rw
set_option maxRecDepth 100000
end Go.Proofs
end
-- EAw6
section
namespace Go.Proofs
open Go Go.Rw
set_option maxRecDepth 100000
end Go.Proofs
end
-- EAw7
section
namespace Go.Proofs
open Go Go.Rw
set_option maxRecDepth 100000
def edits (l:List (List Cp)):List AV:=l.map fun x=>.sl 0 3 (qB x)
end Go.Proofs
end
-- EAq1
section
namespace Go.Proofs
open Go Go.Rw
set_option maxRecDepth 100000
end Go.Proofs
end
-- EAw9
section
namespace Go.Proofs
open Go Go.Rw
set_option maxRecDepth 100000
end Go.Proofs
end
-- EUk3
section
namespace Go.Proofs
open Go Go.Rw
open _root_.Nat renaming reduceAdd → N0, reduceSub → N1, reduceMul → N2, reduceLT → N3, reduceLeDiff → N4, reduceEqDiff → N5
open _root_.Int renaming reduceNeg → Z0, reduceAdd → Z1, reduceSub → Z2, reduceMul → Z3, reduceGT → Z4, reduceGE → Z5, reduceLT → Z6, reduceLE → Z7, reduceEq → Z8, reduceNe → Z9, reduceToNat → Z10, cast_ofNat_Int → Zc
set_option maxRecDepth 100000
end Go.Proofs
end
