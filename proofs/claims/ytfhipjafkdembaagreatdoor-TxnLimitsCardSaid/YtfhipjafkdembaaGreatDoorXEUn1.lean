/-
  Names: what may be one. Transactions: their acts,one by one. txn.names,Plain,same. Transactions: whether they may be. txn.one,puts,Check. An edit of a place; what does nothing; the law's own readiness. OpOf answers true. Sums,held; how much an edit takes. Laws of the normal form. What the normal form keeps. Edits done,undone,found. Plain. Edits done by the program. Which edits may be,as the document says. Edits done,undone,by the program. Edits done,undone,by the program. How much is given; texts and their code points.
-/
import Derived.Test.YtfhipjafkdembaaGreatDoorXESh
import Derived.Test.YtfhipjafkdembaaGreatDoorRwF
set_option linter.unusedSimpArgs false
set_option linter.unusedVariables false
set_option linter.defProp false
set_option linter.unusedSectionVars false

-- EUn1
section
namespace Go.Proofs
open Go Go.Rw
open _root_.Nat renaming reduceAdd → N0, reduceSub → N1, reduceMul → N2, reduceLT → N3, reduceLeDiff → N4, reduceEqDiff → N5
open _root_.Int renaming reduceNeg → Z0, reduceAdd → Z1, reduceSub → Z2, reduceMul → Z3, reduceGT → Z4, reduceGE → Z5, reduceLT → Z6, reduceLE → Z7, reduceEq → Z8, reduceNe → Z9, reduceToNat → Z10, cast_ofNat_Int → Zc
set_option maxRecDepth 100000
def kAV (c:UInt8):Bool:=decide ((97≤c.toNat∧c.toNat≤122)∨(48≤c.toNat∧c.toNat≤57)∨c.toNat=46∨c.toNat=45∨c.toNat=95)
def qR (s:List UInt8):Bool:=s.all kAV && decide (1≤s.length∧s.length≤20∧s≠[46]∧s≠[46,46])
theorem bytesA_eq (l:List UInt8):kEq l=l.map fun b=>.v (.int .u8 b.toNat):=by simp [kEq,zI]
theorem kCl (l:List UInt8):(kEq l).length=l.length:=by simp [bytesA_eq]
theorem bytesA_getD (l:List UInt8) {i:Nat} (h:i < l.length):(kEq l).getD i .any = .v (.int .u8 l[i].toNat):=by simp [bytesA_eq,List.getD_eq_getElem?_getD,h]
abbrev kCC:Con where
  ι:=UInt8
  args:=fun b=>[.v (.int .u8 b.toNat)]
  post:=fun b r=>r = .v (.bool (kAV b))
  plain:=true
theorem letter_good:Rw.Good Tryz.prog 81 kCC:=by
  have hΓ:kL Tryz.prog []:=kK
  refine k9 (nn:=29) hΓ Tryz.func81 (by kernel_rfl) rfl (show Tryz.f81.results.toList=[.tmp 2] from rfl) (fun _=>rfl) (fun _=>rfl) ?_
  intro b
  simp only [aR,N0,N1,N2,N3,N4,N5,Z0,Z1,Z2,Z3,Z4,Z5,Z6,Z7,Z8,Z9,Z10,Zc,↓reduceIte,reduceCtorEq]
  (try ((with_reducible first | refine kF (fun q1=>?_) (fun q1=>?_) | refine kH (fun q1=>?_) (fun q1=>?_)) <;> simp (disch:=omega) only [aR,N0,N1,N2,N3,N4,N5,Z0,Z1,Z2,Z3,Z4,Z5,Z6,Z7,Z8,Z9,Z10,Zc,↓reduceIte,reduceCtorEq,kD,q1] <;> (with_reducible first | (refine And.intro ?_ ?_; focus (first | omega | exact kE | kernel_rfl)); (repeat (with_reducible refine And.intro ?_ ?_; focus (first | omega | exact kE | kernel_rfl))); (try simp (disch:=omega) only [aR,N0,N1,N2,N3,N4,N5,Z0,Z1,Z2,Z3,Z4,Z5,Z6,Z7,Z8,Z9,Z10,Zc,↓reduceIte,reduceCtorEq,kD,q1]) | skip) <;> (try ((with_reducible first | refine kF (fun q2=>?_) (fun q2=>?_) | refine kH (fun q2=>?_) (fun q2=>?_)) <;> simp (disch:=omega) only [aR,N0,N1,N2,N3,N4,N5,Z0,Z1,Z2,Z3,Z4,Z5,Z6,Z7,Z8,Z9,Z10,Zc,↓reduceIte,reduceCtorEq,kD,q2] <;> (with_reducible first | (refine And.intro ?_ ?_; focus (first | omega | exact kE | kernel_rfl)); (repeat (with_reducible refine And.intro ?_ ?_; focus (first | omega | exact kE | kernel_rfl))); (try simp (disch:=omega) only [aR,N0,N1,N2,N3,N4,N5,Z0,Z1,Z2,Z3,Z4,Z5,Z6,Z7,Z8,Z9,Z10,Zc,↓reduceIte,reduceCtorEq,kD,q2]) | skip) <;> (try ((with_reducible first | refine kF (fun q3=>?_) (fun q3=>?_) | refine kH (fun q3=>?_) (fun q3=>?_)) <;> simp (disch:=omega) only [aR,N0,N1,N2,N3,N4,N5,Z0,Z1,Z2,Z3,Z4,Z5,Z6,Z7,Z8,Z9,Z10,Zc,↓reduceIte,reduceCtorEq,kD,q3] <;> (with_reducible first | (refine And.intro ?_ ?_; focus (first | omega | exact kE | kernel_rfl)); (repeat (with_reducible refine And.intro ?_ ?_; focus (first | omega | exact kE | kernel_rfl))); (try simp (disch:=omega) only [aR,N0,N1,N2,N3,N4,N5,Z0,Z1,Z2,Z3,Z4,Z5,Z6,Z7,Z8,Z9,Z10,Zc,↓reduceIte,reduceCtorEq,kD,q3]) | skip) <;> (try ((with_reducible first | refine kF (fun q4=>?_) (fun q4=>?_) | refine kH (fun q4=>?_) (fun q4=>?_)) <;> simp (disch:=omega) only [aR,N0,N1,N2,N3,N4,N5,Z0,Z1,Z2,Z3,Z4,Z5,Z6,Z7,Z8,Z9,Z10,Zc,↓reduceIte,reduceCtorEq,kD,q4] <;> (with_reducible first | (refine And.intro ?_ ?_; focus (first | omega | exact kE | kernel_rfl)); (repeat (with_reducible refine And.intro ?_ ?_; focus (first | omega | exact kE | kernel_rfl))); (try simp (disch:=omega) only [aR,N0,N1,N2,N3,N4,N5,Z0,Z1,Z2,Z3,Z4,Z5,Z6,Z7,Z8,Z9,Z10,Zc,↓reduceIte,reduceCtorEq,kD,q4]) | skip) <;> (try ((with_reducible first | refine kF (fun q5=>?_) (fun q5=>?_) | refine kH (fun q5=>?_) (fun q5=>?_)) <;> simp (disch:=omega) only [aR,N0,N1,N2,N3,N4,N5,Z0,Z1,Z2,Z3,Z4,Z5,Z6,Z7,Z8,Z9,Z10,Zc,↓reduceIte,reduceCtorEq,kD,q5] <;> (with_reducible first | (refine And.intro ?_ ?_; focus (first | omega | exact kE | kernel_rfl)); (repeat (with_reducible refine And.intro ?_ ?_; focus (first | omega | exact kE | kernel_rfl))); (try simp (disch:=omega) only [aR,N0,N1,N2,N3,N4,N5,Z0,Z1,Z2,Z3,Z4,Z5,Z6,Z7,Z8,Z9,Z10,Zc,↓reduceIte,reduceCtorEq,kD,q5]) | skip) <;> (try ((with_reducible first | refine kF (fun q6=>?_) (fun q6=>?_) | refine kH (fun q6=>?_) (fun q6=>?_)) <;> simp (disch:=omega) only [aR,N0,N1,N2,N3,N4,N5,Z0,Z1,Z2,Z3,Z4,Z5,Z6,Z7,Z8,Z9,Z10,Zc,↓reduceIte,reduceCtorEq,kD,q6] <;> (with_reducible first | (refine And.intro ?_ ?_; focus (first | omega | exact kE | kernel_rfl)); (repeat (with_reducible refine And.intro ?_ ?_; focus (first | omega | exact kE | kernel_rfl))); (try simp (disch:=omega) only [aR,N0,N1,N2,N3,N4,N5,Z0,Z1,Z2,Z3,Z4,Z5,Z6,Z7,Z8,Z9,Z10,Zc,↓reduceIte,reduceCtorEq,kD,q6]) | skip) <;> (try ((with_reducible first | refine kF (fun q7=>?_) (fun q7=>?_) | refine kH (fun q7=>?_) (fun q7=>?_)) <;> simp (disch:=omega) only [aR,N0,N1,N2,N3,N4,N5,Z0,Z1,Z2,Z3,Z4,Z5,Z6,Z7,Z8,Z9,Z10,Zc,↓reduceIte,reduceCtorEq,kD,q7] <;> (with_reducible first | (refine And.intro ?_ ?_; focus (first | omega | exact kE | kernel_rfl)); (repeat (with_reducible refine And.intro ?_ ?_; focus (first | omega | exact kE | kernel_rfl))); (try simp (disch:=omega) only [aR,N0,N1,N2,N3,N4,N5,Z0,Z1,Z2,Z3,Z4,Z5,Z6,Z7,Z8,Z9,Z10,Zc,↓reduceIte,reduceCtorEq,kD,q7]) | skip) <;> skip))))))))))))))
  all_goals (unfold kAV; rw [Bool.eq_iff_iff]; simp only [decide_eq_true_eq,Bool.false_eq_true,true_iff,false_iff,iff_true,iff_false]; omega)
theorem call_letter {Γ:Env} (hf:Γ.get 81=some kCC) {σ:AS} {dr:Bool} {b:UInt8} {n:Int} {d:Option Nat} {K:AS→Prop} (hn:n=b.toNat)
    (hk:cont σ d (.v (.bool (kAV b))) K):kQ Tryz.prog Γ dr σ 81 [.v (.int .u8 n)] d K:=by
  subst hn
  exact kP (C:=kCC) (i:=b) hf rfl rfl rfl rfl (fun _ h=>h) rfl hk
abbrev kCv:Con where
  ι:=Str
  args:=fun s=>[.v (sv s.1)]
  post:=fun s r=>r = .v (.bool (qR s.1))
  plain:=true
theorem kEP:Rw.Good Tryz.prog 30 kCv:=by
  have hΓ:kL Tryz.prog [(81,kCC)]:=(kJ letter_good kK)
  refine k9 (nn:=32) hΓ Tryz.func30 (by kernel_rfl) rfl (show Tryz.f30.results.toList=[.tmp 2] from rfl) (fun _=>rfl) (fun _=>rfl) ?_
  rintro ⟨s,hs⟩
  simp only [aR,N0,N1,N2,N3,N4,N5,Z0,Z1,Z2,Z3,Z4,Z5,Z6,Z7,Z8,Z9,Z10,Zc,↓reduceIte,reduceCtorEq,kCl]
  (repeat (with_reducible refine And.intro ?_ ?_; focus (first | omega | exact kE | kernel_rfl)))
  obtain ⟨St,hSt⟩:∃ St:{ i:Nat // i≤s.length∧(s.take i).all kAV=true }→AS,∀ i,St i=AS.of 32 [(0,.v (sv s)),(6,.sl 0 1 (kEq s)),(7,.v (.int .i64 s.length)),(8,.v (.int .i64 i.1))] [] []:=⟨_,fun _=>rfl⟩
  refine zZ hΓ St (fun i=>s.length - i.1) ⟨0,by omega,by simp⟩ (by rw [hSt]; refine kW [] [] ?_; simp only [aR,N0,N1,N2,N3,N4,N5,Z0,Z1,Z2,Z3,Z4,Z5,Z6,Z7,Z8,Z9,Z10,Zc,↓reduceIte,reduceCtorEq] <;> ((repeat' apply And.intro) <;> first | rfl | omega | trivial)) ?_
  rintro ⟨i,hi,ha⟩
  rw [hSt]
  simp only
  simp only [aR,N0,N1,N2,N3,N4,N5,Z0,Z1,Z2,Z3,Z4,Z5,Z6,Z7,Z8,Z9,Z10,Zc,↓reduceIte,reduceCtorEq,kCl]
  (with_reducible first | refine kF (fun h=>?_) (fun h=>?_) | refine kH (fun h=>?_) (fun h=>?_))
  · have hlt:i < s.length:=by omega
    have e1:=bytesA_getD s hlt
    have e2:(s.take (i+1)).all kAV=kAV s[i]:=by rw [List.take_succ_eq_append_getElem hlt,List.all_append,ha]; simp
    have e3:kAV s[i]=false→qR s=false:=fun hc=>by
      have:s.all kAV=false:=List.all_eq_false.2 ⟨s[i],List.getElem_mem hlt,by simp [hc]⟩
      rw [qR,this]; rfl
    generalize s[i]=c at *
    simp only [aR,N0,N1,N2,N3,N4,N5,Z0,Z1,Z2,Z3,Z4,Z5,Z6,Z7,Z8,Z9,Z10,Zc,↓reduceIte,reduceCtorEq,h,e1,kCl]
    (repeat (with_reducible refine And.intro ?_ ?_; focus (first | omega | exact kE | kernel_rfl)))
    refine call_letter (by simp [kG]) rfl ?_
    cases hc:kAV c
    · simp only [aR,N0,N1,N2,N3,N4,N5,Z0,Z1,Z2,Z3,Z4,Z5,Z6,Z7,Z8,Z9,Z10,Zc,↓reduceIte,reduceCtorEq,hc]
      rw [e3 hc]
    · rw [hc] at e2
      simp only [aR,N0,N1,N2,N3,N4,N5,Z0,Z1,Z2,Z3,Z4,Z5,Z6,Z7,Z8,Z9,Z10,Zc,↓reduceIte,reduceCtorEq,hc,kD (n:=(i:Int)+1) (by omega) (by omega)]
      refine kT ⟨i+1,by omega,e2⟩ (by simp only; omega) ?_
      rw [hSt]; refine kW [] [] ?_
      simp only [aR,N0,N1,N2,N3,N4,N5,Z0,Z1,Z2,Z3,Z4,Z5,Z6,Z7,Z8,Z9,Z10,Zc,↓reduceIte,reduceCtorEq] <;> ((repeat' apply And.intro) <;> first | rfl | omega | trivial)
  · rw [List.take_of_length_le (by omega)] at ha
    have e0:qR s=decide (1≤s.length∧s.length≤20∧s≠[46]∧s≠[46,46]):=by rw [qR,ha]; rfl
    simp only [aR,N0,N1,N2,N3,N4,N5,Z0,Z1,Z2,Z3,Z4,Z5,Z6,Z7,Z8,Z9,Z10,Zc,↓reduceIte,reduceCtorEq,h,e0]
    (try ((with_reducible first | refine kF (fun q1=>?_) (fun q1=>?_) | refine kH (fun q1=>?_) (fun q1=>?_)) <;> simp (disch:=omega) only [aR,N0,N1,N2,N3,N4,N5,Z0,Z1,Z2,Z3,Z4,Z5,Z6,Z7,Z8,Z9,Z10,Zc,↓reduceIte,reduceCtorEq,kD,q1] <;> (with_reducible first | (refine And.intro ?_ ?_; focus (first | omega | exact kE | kernel_rfl)); (repeat (with_reducible refine And.intro ?_ ?_; focus (first | omega | exact kE | kernel_rfl))); (try simp (disch:=omega) only [aR,N0,N1,N2,N3,N4,N5,Z0,Z1,Z2,Z3,Z4,Z5,Z6,Z7,Z8,Z9,Z10,Zc,↓reduceIte,reduceCtorEq,kD,q1]) | skip) <;> (try ((with_reducible first | refine kF (fun q2=>?_) (fun q2=>?_) | refine kH (fun q2=>?_) (fun q2=>?_)) <;> simp (disch:=omega) only [aR,N0,N1,N2,N3,N4,N5,Z0,Z1,Z2,Z3,Z4,Z5,Z6,Z7,Z8,Z9,Z10,Zc,↓reduceIte,reduceCtorEq,kD,q2] <;> (with_reducible first | (refine And.intro ?_ ?_; focus (first | omega | exact kE | kernel_rfl)); (repeat (with_reducible refine And.intro ?_ ?_; focus (first | omega | exact kE | kernel_rfl))); (try simp (disch:=omega) only [aR,N0,N1,N2,N3,N4,N5,Z0,Z1,Z2,Z3,Z4,Z5,Z6,Z7,Z8,Z9,Z10,Zc,↓reduceIte,reduceCtorEq,kD,q2]) | skip) <;> (try ((with_reducible first | refine kF (fun q3=>?_) (fun q3=>?_) | refine kH (fun q3=>?_) (fun q3=>?_)) <;> simp (disch:=omega) only [aR,N0,N1,N2,N3,N4,N5,Z0,Z1,Z2,Z3,Z4,Z5,Z6,Z7,Z8,Z9,Z10,Zc,↓reduceIte,reduceCtorEq,kD,q3] <;> (with_reducible first | (refine And.intro ?_ ?_; focus (first | omega | exact kE | kernel_rfl)); (repeat (with_reducible refine And.intro ?_ ?_; focus (first | omega | exact kE | kernel_rfl))); (try simp (disch:=omega) only [aR,N0,N1,N2,N3,N4,N5,Z0,Z1,Z2,Z3,Z4,Z5,Z6,Z7,Z8,Z9,Z10,Zc,↓reduceIte,reduceCtorEq,kD,q3]) | skip) <;> (try ((with_reducible first | refine kF (fun q4=>?_) (fun q4=>?_) | refine kH (fun q4=>?_) (fun q4=>?_)) <;> simp (disch:=omega) only [aR,N0,N1,N2,N3,N4,N5,Z0,Z1,Z2,Z3,Z4,Z5,Z6,Z7,Z8,Z9,Z10,Zc,↓reduceIte,reduceCtorEq,kD,q4] <;> (with_reducible first | (refine And.intro ?_ ?_; focus (first | omega | exact kE | kernel_rfl)); (repeat (with_reducible refine And.intro ?_ ?_; focus (first | omega | exact kE | kernel_rfl))); (try simp (disch:=omega) only [aR,N0,N1,N2,N3,N4,N5,Z0,Z1,Z2,Z3,Z4,Z5,Z6,Z7,Z8,Z9,Z10,Zc,↓reduceIte,reduceCtorEq,kD,q4]) | skip) <;> skip))))))))
    all_goals (rw [e0,Bool.eq_iff_iff]; simp only [decide_eq_true_eq,Bool.false_eq_true,false_iff,ne_eq])
    all_goals first
      | exact ⟨fun h5=>⟨by omega,by omega,by assumption,h5⟩,fun h5=>h5.2.2.2⟩
      | (rintro ⟨h5,h6,h7,h8⟩; first | omega | contradiction)
theorem kE8 {Γ:Env} {f:Nat} (hf:Γ.get f=some kCv) {σ:AS} {dr:Bool} {s:List UInt8} {d:Option Nat} {K:AS→Prop} (hs:s.length≤1099511627776)
    (hk:cont σ d (.v (.bool (qR s))) K):kQ Tryz.prog Γ dr σ f [.v (sv s)] d K :=
  kP (C:=kCv) (i:=⟨s,hs⟩) hf rfl rfl rfl rfl (fun _ h=>h) rfl hk
end Go.Proofs
end
-- EUn2
section
namespace Go.Proofs
open Go Go.Rw
open _root_.Nat renaming reduceAdd → N0, reduceSub → N1, reduceMul → N2, reduceLT → N3, reduceLeDiff → N4, reduceEqDiff → N5
open _root_.Int renaming reduceNeg → Z0, reduceAdd → Z1, reduceSub → Z2, reduceMul → Z3, reduceGT → Z4, reduceGE → Z5, reduceLT → Z6, reduceLE → Z7, reduceEq → Z8, reduceNe → Z9, reduceToNat → Z10, cast_ofNat_Int → Zc
set_option maxRecDepth 100000
def kFD (a:Ac):Bool:=decide (a.k=1∨a.k=3)
def j8 (a:Ac):Ac :=
  if a.k=1 then ⟨1,a.id,a.par,a.nm,a.dir,[]⟩ else if a.k=2 then ⟨2,a.id,0,[],false,[]⟩ else if a.k=3 then ⟨3,a.id,a.par,a.nm,false,[]⟩
  else if a.k=4 then ⟨4,a.id,0,[],false,a.ops⟩ else ⟨a.k,0,0,[],false,[]⟩
theorem plainA_ok {a:Ac} (h:okL a.ops):okL (j8 a).ops:=by
  have h0:okL ([]:List Cp):=⟨by decide,by decide,fun c hc=>by cases hc⟩
  unfold j8
  repeat' split
  all_goals first | exact h0 | exact h
abbrev AcS:={ a:Ac // okL a.ops }
abbrev kDc:Con where
  ι:=Ac
  args:=fun a=>[aA a]
  post:=fun a r=>r = .v (.bool (kFD a))
  plain:=true
theorem names_good:Rw.Good Tryz.prog 91 kDc:=by
  have hΓ:kL Tryz.prog []:=kK
  refine k9 (nn:=11) hΓ Tryz.func91 (by kernel_rfl) rfl (show Tryz.f91.results.toList=[.tmp 2] from rfl) (fun _=>rfl) (fun x=>by simp [AV.erL,aA_er]) ?_
  intro a
  obtain ⟨k,id,par,nm,dir,ops⟩:=a
  simp only [aR,N0,N1,N2,N3,N4,N5,Z0,Z1,Z2,Z3,Z4,Z5,Z6,Z7,Z8,Z9,Z10,Zc,↓reduceIte,reduceCtorEq,aA]
  by_cases h1:k=1
  · subst h1
    simp only [aR,N0,N1,N2,N3,N4,N5,Z0,Z1,Z2,Z3,Z4,Z5,Z6,Z7,Z8,Z9,Z10,Zc,↓reduceIte,reduceCtorEq,kFD]
  · simp only [aR,N0,N1,N2,N3,N4,N5,Z0,Z1,Z2,Z3,Z4,Z5,Z6,Z7,Z8,Z9,Z10,Zc,↓reduceIte,reduceCtorEq,h1]
    simp [kFD,h1]
abbrev kDX:Con where
  ι:=AcS
  args:=fun a=>[aA a.1]
  post:=fun a r=>r=aA (j8 a.1)
theorem plain_good:Rw.Good Tryz.prog 41 kDX:=by
  have hΓ:kL Tryz.prog [(90,kDU)]:=(kJ clone_good kK)
  refine good_fna Tryz.func41 (by kernel_rfl) rfl (show Tryz.f41.results.toList=[.cell 2 35] from rfl) (nn:=49) (fun _=>rfl) (fun x=>by simp [AV.erL,aA_er]) ?_
  rintro ⟨a,oa⟩
  refine kEs hΓ (Ws:=[(4,[2],[]),(8,[2],[]),(10,[2],[])]) _ ?_
  obtain ⟨k,id,par,nm,dir,ops⟩:=a
  simp only at oa
  by_cases h1:k=1
  · simp only [aR,N0,N1,N2,N3,N4,N5,Z0,Z1,Z2,Z3,Z4,Z5,Z6,Z7,Z8,Z9,Z10,Zc,↓reduceIte,reduceCtorEq,jI,aA,h1]
    (repeat (with_reducible refine And.intro ?_ ?_; focus (first | omega | exact kE | kernel_rfl)))
    simp [j8,h1,aA,jJ]
  by_cases h2:k=2
  · simp only [aR,N0,N1,N2,N3,N4,N5,Z0,Z1,Z2,Z3,Z4,Z5,Z6,Z7,Z8,Z9,Z10,Zc,↓reduceIte,reduceCtorEq,jI,aA,h1,h2]
    simp [j8,h2,aA,jJ]
  by_cases h3:k=3
  · simp only [aR,N0,N1,N2,N3,N4,N5,Z0,Z1,Z2,Z3,Z4,Z5,Z6,Z7,Z8,Z9,Z10,Zc,↓reduceIte,reduceCtorEq,jI,aA,h1,h2,h3]
    (repeat (with_reducible refine And.intro ?_ ?_; focus (first | omega | exact kE | kernel_rfl)))
    simp [j8,h3,aA,jJ]
  by_cases h4:k=4
  · simp only [aR,N0,N1,N2,N3,N4,N5,Z0,Z1,Z2,Z3,Z4,Z5,Z6,Z7,Z8,Z9,Z10,Zc,↓reduceIte,reduceCtorEq,jI,aA,h1,h2,h3,h4]
    (repeat (with_reducible refine And.intro ?_ ?_; focus (first | omega | exact kE | kernel_rfl)))
    refine call_clone (by simp [kG]) rfl oa ?_
    simp only [aR,N0,N1,N2,N3,N4,N5,Z0,Z1,Z2,Z3,Z4,Z5,Z6,Z7,Z8,Z9,Z10,Zc,↓reduceIte,reduceCtorEq,jI,aA]
    simp [j8]
  · simp only [aR,N0,N1,N2,N3,N4,N5,Z0,Z1,Z2,Z3,Z4,Z5,Z6,Z7,Z8,Z9,Z10,Zc,↓reduceIte,reduceCtorEq,jI,aA,h1,h2,h3,h4]
    simp [j8,h1,h2,h3,h4,aA,jJ]
theorem call_plain {Γ:Env} {f:Nat} (hf:Γ.get f=some kDX) {σ:AS} {dr:Bool} {a:Ac} {y:AV} {d:Option Nat} {K:AS→Prop} (hy:y=aA a) (oa:okL a.ops)
    (hk:cont σ d (aA (j8 a)) K):kQ Tryz.prog Γ dr σ f [y] d K:=by
  subst hy
  exact kCA (C:=kDX) (i:=⟨a,oa⟩) (r:=aA (j8 a)) hf rfl rfl (by simp [AV.erL,aA_er]) rfl (fun _ h=>h) (by rw [aA_er]; exact hk)
theorem call_names {Γ:Env} (hf:Γ.get 91=some kDc) {σ:AS} {dr:Bool} {a:Ac} {y:AV} {d:Option Nat} {K:AS→Prop} (hy:y=aA a)
    (hk:cont σ d (.v (.bool (kFD a))) K):kQ Tryz.prog Γ dr σ 91 [y] d K:=by
  subst hy
  exact kP (C:=kDc) (i:=a) hf rfl rfl rfl (by simp [AV.erL,aA_er]) (fun _ h=>h) rfl hk
abbrev kDY:Con where
  ι:=AcS×AcS
  args:=fun p=>[aA p.1.1,aA p.2.1]
  post:=fun p r=>r = .v (.bool (decide (p.1.1=p.2.1)))
  plain:=true
theorem same1_good:Rw.Good Tryz.prog 88 kDY:=by
  have hΓ:kL Tryz.prog [(118,sameCon)]:=(kJ sequal_good kK)
  refine k9 (nn:=47) hΓ Tryz.func88 (by kernel_rfl) rfl (show Tryz.f88.results.toList=[.tmp 4] from rfl) (fun _=>rfl) (fun x=>by simp [AV.erL,aA_er]) ?_
  rintro ⟨⟨x,hx⟩,⟨y,hy⟩⟩
  have dk:decide (x=y)=decide (x.k=y.k∧x.id=y.id∧x.par=y.par∧x.nm=y.nm∧x.dir=y.dir∧x.ops=y.ops):=by
    cases x; cases y
    simp only [Ac.mk.injEq]
  simp only [dk]
  obtain ⟨k,id,par,nm,dir,ops⟩:=x
  obtain ⟨k',id',par',nm',dir',ops'⟩:=y
  simp only [aR,N0,N1,N2,N3,N4,N5,Z0,Z1,Z2,Z3,Z4,Z5,Z6,Z7,Z8,Z9,Z10,Zc,↓reduceIte,reduceCtorEq,aA]
  by_cases h1:k=k'
  case neg =>
    simp only [aR,N0,N1,N2,N3,N4,N5,Z0,Z1,Z2,Z3,Z4,Z5,Z6,Z7,Z8,Z9,Z10,Zc,↓reduceIte,reduceCtorEq,h1]
    simp [h1]
  by_cases h2:id=id'
  case neg =>
    simp only [aR,N0,N1,N2,N3,N4,N5,Z0,Z1,Z2,Z3,Z4,Z5,Z6,Z7,Z8,Z9,Z10,Zc,↓reduceIte,reduceCtorEq,h2,h1]
    simp [h2]
  by_cases h3:par=par'
  case neg =>
    simp only [aR,N0,N1,N2,N3,N4,N5,Z0,Z1,Z2,Z3,Z4,Z5,Z6,Z7,Z8,Z9,Z10,Zc,↓reduceIte,reduceCtorEq,h3,h1,h2]
    simp [h3]
  by_cases h4:nm=nm'
  case neg =>
    simp only [aR,N0,N1,N2,N3,N4,N5,Z0,Z1,Z2,Z3,Z4,Z5,Z6,Z7,Z8,Z9,Z10,Zc,↓reduceIte,reduceCtorEq,h4,h1,h2,h3]
    simp [h4]
  by_cases h5:dir=dir'
  case neg =>
    have nn:(dir == dir')=false:=by simp [h5]
    simp only [aR,N0,N1,N2,N3,N4,N5,Z0,Z1,Z2,Z3,Z4,Z5,Z6,Z7,Z8,Z9,Z10,Zc,↓reduceIte,reduceCtorEq,nn,h1,h2,h3,h4]
    simp [h5]
  have b5:(dir == dir')=true:=by simp [h5]
  simp only [aR,N0,N1,N2,N3,N4,N5,Z0,Z1,Z2,Z3,Z4,Z5,Z6,Z7,Z8,Z9,Z10,Zc,↓reduceIte,reduceCtorEq,h1,h2,h3,h4,b5]
  refine call_same (by simp [kG]) rfl rfl (by have:=hx.1; simp only at this; omega) (by have:=hy.1; simp only at this; omega) ?_
  simp only [aR,N0,N1,N2,N3,N4,N5,Z0,Z1,Z2,Z3,Z4,Z5,Z6,Z7,Z8,Z9,Z10,Zc,↓reduceIte,reduceCtorEq,h1,h2,h3,h4,b5]
  simp [h1,h2,h3,h4,h5]
theorem call_same1 {Γ:Env} {f:Nat} (hf:Γ.get f=some kDY) {σ:AS} {dr:Bool} {a b:Ac} {x y:AV} {d:Option Nat} {K:AS→Prop} (hx:x=aA a) (hy:y=aA b) (oa:okL a.ops) (ob:okL b.ops)
    (hk:cont σ d (.v (.bool (decide (a=b)))) K):kQ Tryz.prog Γ dr σ f [x,y] d K:=by
  subst hx hy
  exact kP (C:=kDY) (i:=(⟨a,oa⟩,⟨b,ob⟩)) hf rfl rfl rfl (by simp [AV.erL,aA_er]) (fun _ h=>h) rfl hk
end Go.Proofs
end
-- EUn3
section
namespace Go.Proofs
open Go Go.Rw
open _root_.Nat renaming reduceAdd → N0, reduceSub → N1, reduceMul → N2, reduceLT → N3, reduceLeDiff → N4, reduceEqDiff → N5
open _root_.Int renaming reduceNeg → Z0, reduceAdd → Z1, reduceSub → Z2, reduceMul → Z3, reduceGT → Z4, reduceGE → Z5, reduceLT → Z6, reduceLE → Z7, reduceEq → Z8, reduceNe → Z9, reduceToNat → Z10, cast_ofNat_Int → Zc
set_option maxRecDepth 100000
def badA (a:Ac):Bool:=decide (a.k < 1∨a.k > 4∨¬ a=j8 a∨a.id < 1∨a.id > 1099511627776∨a.par < 0∨a.par > 1099511627776∨((a.k=1∨a.k=3)∧qR a.nm=false))
def oneI (a:Ac):Int:=if badA a then 1 else if a.k=4 then zA a.ops else 0
abbrev AcN:={ a:Ac // okL a.ops∧a.nm.length≤1099511627776 }
abbrev oneCon:Con where
  ι:=AcN
  args:=fun a=>[aA a.1]
  post:=fun a r=>r = .v (.int .i64 (oneI a.1))
  plain:=true
theorem one_good:Rw.Good Tryz.prog 82 oneCon:=by
  have hΓ:kL Tryz.prog [(41,kDX),(88,kDY),(91,kDc),(30,kCv),(113,kC2)]:=(kJ plain_good (kJ same1_good (kJ names_good (kJ kEP (kJ kEh kK)))))
  refine k9 (nn:=58) hΓ Tryz.func82 (by kernel_rfl) rfl (show Tryz.f82.results.toList=[.tmp 2] from rfl) (fun _=>rfl) (fun x=>by simp [AV.erL,aA_er]) ?_
  rintro ⟨a,oa,hn⟩
  obtain ⟨k,id,par,nm,dir,ops⟩:=a
  simp only at oa hn
  simp only [aR,N0,N1,N2,N3,N4,N5,Z0,Z1,Z2,Z3,Z4,Z5,Z6,Z7,Z8,Z9,Z10,Zc,↓reduceIte,reduceCtorEq,aA]
  (repeat (with_reducible refine And.intro ?_ ?_; focus (first | omega | exact kE | kernel_rfl)))
  by_cases h1:k < 1
  · simp only [aR,N0,N1,N2,N3,N4,N5,Z0,Z1,Z2,Z3,Z4,Z5,Z6,Z7,Z8,Z9,Z10,Zc,↓reduceIte,reduceCtorEq,h1]
    simp [oneI,badA,h1]
  by_cases h2:k > 4
  · simp only [aR,N0,N1,N2,N3,N4,N5,Z0,Z1,Z2,Z3,Z4,Z5,Z6,Z7,Z8,Z9,Z10,Zc,↓reduceIte,reduceCtorEq,h1,h2]
    simp [oneI,badA,h2]
  simp only [aR,N0,N1,N2,N3,N4,N5,Z0,Z1,Z2,Z3,Z4,Z5,Z6,Z7,Z8,Z9,Z10,Zc,↓reduceIte,reduceCtorEq,h1,h2]
  refine call_plain (by simp [kG]) (a:=⟨k,id,par,nm,dir,ops⟩) rfl oa ?_
  simp only [aR,N0,N1,N2,N3,N4,N5,Z0,Z1,Z2,Z3,Z4,Z5,Z6,Z7,Z8,Z9,Z10,Zc,↓reduceIte,reduceCtorEq,h1,h2]
  refine call_same1 (by simp [kG]) (a:=⟨k,id,par,nm,dir,ops⟩) rfl rfl oa (plainA_ok (a:=⟨k,id,par,nm,dir,ops⟩) oa) ?_
  obtain ⟨b,hb⟩:∃ b,decide ((⟨k,id,par,nm,dir,ops⟩:Ac)=j8 ⟨k,id,par,nm,dir,ops⟩)=b:=⟨_,rfl⟩
  rw [hb]
  cases b
  · have hb2:¬ (⟨k,id,par,nm,dir,ops⟩:Ac)=j8 ⟨k,id,par,nm,dir,ops⟩:=of_decide_eq_false hb
    simp only [aR,N0,N1,N2,N3,N4,N5,Z0,Z1,Z2,Z3,Z4,Z5,Z6,Z7,Z8,Z9,Z10,Zc,↓reduceIte,reduceCtorEq,h1,h2]
    simp [oneI,badA,hb2]
  have hb2:(⟨k,id,par,nm,dir,ops⟩:Ac)=j8 ⟨k,id,par,nm,dir,ops⟩:=of_decide_eq_true hb
  have e0:badA ⟨k,id,par,nm,dir,ops⟩=decide (id < 1∨id > 1099511627776∨par < 0∨par > 1099511627776∨((k=1∨k=3)∧qR nm=false)):=by
    unfold badA
    rw [Bool.eq_iff_iff,decide_eq_true_eq,decide_eq_true_eq]
    constructor
    · rintro (h | h | h | h)
      · exact absurd h h1
      · exact absurd h h2
      · exact absurd hb2 h
      · exact h
    · exact fun h=>.inr (.inr (.inr h))
  clear hb hb2
  by_cases h3:id < 1
  · simp only [aR,N0,N1,N2,N3,N4,N5,Z0,Z1,Z2,Z3,Z4,Z5,Z6,Z7,Z8,Z9,Z10,Zc,↓reduceIte,reduceCtorEq,h1,h2,h3]
    simp [oneI,e0,h3]
  by_cases h4:id > 1099511627776
  · simp only [aR,N0,N1,N2,N3,N4,N5,Z0,Z1,Z2,Z3,Z4,Z5,Z6,Z7,Z8,Z9,Z10,Zc,↓reduceIte,reduceCtorEq,h1,h2,h3,h4]
    simp [oneI,e0,h4]
  by_cases h5:par < 0
  · simp only [aR,N0,N1,N2,N3,N4,N5,Z0,Z1,Z2,Z3,Z4,Z5,Z6,Z7,Z8,Z9,Z10,Zc,↓reduceIte,reduceCtorEq,h1,h2,h3,h4,h5]
    simp [oneI,e0,h5]
  by_cases h6:par > 1099511627776
  · simp only [aR,N0,N1,N2,N3,N4,N5,Z0,Z1,Z2,Z3,Z4,Z5,Z6,Z7,Z8,Z9,Z10,Zc,↓reduceIte,reduceCtorEq,h1,h2,h3,h4,h5,h6]
    simp [oneI,e0,h6]
  simp only [aR,N0,N1,N2,N3,N4,N5,Z0,Z1,Z2,Z3,Z4,Z5,Z6,Z7,Z8,Z9,Z10,Zc,↓reduceIte,reduceCtorEq,h1,h2,h3,h4,h5,h6]
  refine call_names (by simp [kG]) (a:=⟨k,id,par,nm,dir,ops⟩) rfl ?_
  obtain ⟨b,hb⟩:∃ b,kFD ⟨k,id,par,nm,dir,ops⟩=b:=⟨_,rfl⟩
  have hb2:(k=1∨k=3)↔b=true:=by rw [← hb,kFD]; simp
  rw [hb]
  have last:∀ e1:badA ⟨k,id,par,nm,dir,ops⟩=false,oneI ⟨k,id,par,nm,dir,ops⟩=if k=4 then zA ops else 0:=fun e1=>by
    rw [oneI,e1]; rfl
  cases b
  · have e1:badA ⟨k,id,par,nm,dir,ops⟩=false:=by
      rw [e0,decide_eq_false_iff_not]
      rintro (h | h | h | h | h)
      · exact h3 h
      · exact h4 h
      · exact h5 h
      · exact h6 h
      · exact absurd (hb2.1 h.1) (by simp)
    have e2:=last e1
    by_cases h7:k=4
    · subst h7
      rw [if_pos rfl] at e2
      simp only [aR,N0,N1,N2,N3,N4,N5,Z0,Z1,Z2,Z3,Z4,Z5,Z6,Z7,Z8,Z9,Z10,Zc,↓reduceIte,reduceCtorEq,e2]
      refine kFG (by simp [kG]) rfl oa ?_
      simp only [aR,N0,N1,N2,N3,N4,N5,Z0,Z1,Z2,Z3,Z4,Z5,Z6,Z7,Z8,Z9,Z10,Zc,↓reduceIte,reduceCtorEq,e2]
    · rw [if_neg h7] at e2
      simp only [aR,N0,N1,N2,N3,N4,N5,Z0,Z1,Z2,Z3,Z4,Z5,Z6,Z7,Z8,Z9,Z10,Zc,↓reduceIte,reduceCtorEq,h7,e2]
  · simp only [aR,N0,N1,N2,N3,N4,N5,Z0,Z1,Z2,Z3,Z4,Z5,Z6,Z7,Z8,Z9,Z10,Zc,↓reduceIte,reduceCtorEq]
    refine kE8 (by simp [kG]) hn ?_
    cases hnm:qR nm
    · have e1:badA ⟨k,id,par,nm,dir,ops⟩=true:=by
        rw [e0,decide_eq_true_eq]
        exact .inr (.inr (.inr (.inr ⟨hb2.2 rfl,hnm⟩)))
      simp only [aR,N0,N1,N2,N3,N4,N5,Z0,Z1,Z2,Z3,Z4,Z5,Z6,Z7,Z8,Z9,Z10,Zc,↓reduceIte,reduceCtorEq]
      simp [oneI,e1]
    · have e1:badA ⟨k,id,par,nm,dir,ops⟩=false:=by
        rw [e0,decide_eq_false_iff_not]
        rintro (h | h | h | h | h)
        · exact h3 h
        · exact h4 h
        · exact h5 h
        · exact h6 h
        · rw [hnm] at h; exact absurd h.2 (by simp)
      have e2:=last e1
      have h7:¬ k=4:=fun h=>by have:=hb2.2 rfl; omega
      rw [if_neg h7] at e2
      simp only [aR,N0,N1,N2,N3,N4,N5,Z0,Z1,Z2,Z3,Z4,Z5,Z6,Z7,Z8,Z9,Z10,Zc,↓reduceIte,reduceCtorEq,h7,e2]
def putC:List Cp→Nat
  | []=>0
  | c::r=>(if c.k=2 then lc c.t else 0)+putC r
def putS:List Ac→Nat
  | []=>0
  | a::r=>putC a.ops+putS r
theorem putC_tot:∀ l:List Cp,putC l≤tot l
  | []=>Nat.le_refl _
  | c::r=>by
    have:=putC_tot r
    have:=lc_len c.t
    rw [putC,tot]
    split <;> omega
theorem putC_take {l:List Cp} {i:Nat} (h:i < l.length):putC (l.drop i)=(if l[i].k=2 then lc l[i].t else 0)+putC (l.drop (i+1)):=by
  rw [List.drop_eq_getElem_cons h,putC]
theorem putS_take {l:List Ac} {i:Nat} (h:i < l.length):putS (l.drop i)=putC l[i].ops+putS (l.drop (i+1)):=by
  rw [List.drop_eq_getElem_cons h,putS]
theorem putS_le:∀ (l:List Ac),(∀ a∈l,okL a.ops)→putS l≤l.length * 1099511627776
  | [],_=>by simp [putS]
  | a::l,h=>by
    have h1:=putS_le l fun b hb=>h b (List.mem_cons_of_mem _ hb)
    have h2:=(h a (List.mem_cons_self ..)).2.1
    have h3:=putC_tot a.ops
    rw [putS,List.length_cons,Nat.add_mul]; omega
abbrev okA (a:Ac):Prop:=okL a.ops∧a.nm.length≤1099511627776
abbrev ActsN:={ l:List Ac // l.length≤1000000∧∀ a∈l,okL a.ops∧a.nm.length≤1099511627776 }
abbrev putsCon:Con where
  ι:=ActsN
  args:=fun l=>[.sl 0 6 (acts l.1)]
  post:=fun l r=>r = .v (.int .i64 (putS l.1))
  plain:=true
theorem puts_good:Rw.Good Tryz.prog 85 putsCon:=by
  have hΓ:kL Tryz.prog [(115,rcCon)]:=(kJ rc_good kK)
  refine k9 (nn:=31) hΓ Tryz.func85 (by kernel_rfl) rfl (show Tryz.f85.results.toList=[.tmp 2] from rfl) (fun _=>rfl) (fun x=>by simp [AV.erL,AV.er,kCp]) ?_
  rintro ⟨l,hl,ho⟩
  have hb:=putS_le l fun a ha=>(ho a ha).1
  simp only [aR,N0,N1,N2,N3,N4,N5,Z0,Z1,Z2,Z3,Z4,Z5,Z6,Z7,Z8,Z9,Z10,Zc,↓reduceIte,reduceCtorEq,qL]
  obtain ⟨St,hSt⟩:∃ St:{ p:Nat×Nat // p.2≤l.length∧p.1+putS (l.drop p.2)=putS l }→AS,∀ p,St p=AS.of 31 [(2,.v (.int .i64 p.1.1)),(7,.sl 0 6 (acts l)),(8,.v (.int .i64 l.length)),(9,.v (.int .i64 p.1.2))] [] []:=⟨_,fun _=>rfl⟩
  refine zZ hΓ St (fun p=>l.length - p.1.2) ⟨(0,0),by simp,by simp⟩ (by rw [hSt]; refine kW [] [] ?_; simp only [aR,N0,N1,N2,N3,N4,N5,Z0,Z1,Z2,Z3,Z4,Z5,Z6,Z7,Z8,Z9,Z10,Zc,↓reduceIte,reduceCtorEq] <;> ((repeat' apply And.intro) <;> first | rfl | omega | trivial)) ?_
  rintro ⟨⟨n,i⟩,hi,hs⟩
  simp only at hi hs
  rw [hSt]
  simp only
  simp only [aR,N0,N1,N2,N3,N4,N5,Z0,Z1,Z2,Z3,Z4,Z5,Z6,Z7,Z8,Z9,Z10,Zc,↓reduceIte,reduceCtorEq,qL]
  (with_reducible first | refine kF (fun h=>?_) (fun h=>?_) | refine kH (fun h=>?_) (fun h=>?_))
  · have hlt:i < l.length:=by omega
    have e1:=kCB l hlt
    have ha:=ho _ (List.getElem_mem hlt)
    rw [putS_take hlt] at hs
    generalize l[i]=a at *
    obtain ⟨k,id,par,nm,dir,ops⟩:=a
    obtain ⟨oa,_⟩:=ha
    simp only at hs oa
    have hol:=oa.1
    simp only [aR,N0,N1,N2,N3,N4,N5,Z0,Z1,Z2,Z3,Z4,Z5,Z6,Z7,Z8,Z9,Z10,Zc,↓reduceIte,reduceCtorEq,h,e1,aA,qL,kV]
    (repeat (with_reducible refine And.intro ?_ ?_; focus (first | omega | exact kE | kernel_rfl)))
    obtain ⟨Sb,hSb⟩:∃ Sb:{ p:Nat×Nat // p.2≤ops.length∧p.1+putC (ops.drop p.2)=n+putC ops }→AS,∀ p,Sb p=AS.of 31 [(2,.v (.int .i64 p.1.1)),(7,.sl 0 6 (acts l)),(8,.v (.int .i64 l.length)),(9,.v (.int .i64 i)),(14,.sl 0 3 (qJ ops)),(15,.v (.int .i64 ops.length)),(16,.v (.int .i64 p.1.2))] [] []:=⟨_,fun _=>rfl⟩
    refine zZ hΓ Sb (fun p=>ops.length - p.1.2) ⟨(n,0),by simp,by simp⟩ (by rw [hSb]; refine kW [] [] ?_; simp only [aR,N0,N1,N2,N3,N4,N5,Z0,Z1,Z2,Z3,Z4,Z5,Z6,Z7,Z8,Z9,Z10,Zc,↓reduceIte,reduceCtorEq] <;> ((repeat' apply And.intro) <;> first | rfl | omega | trivial)) ?_
    rintro ⟨⟨m,j⟩,hj,hm⟩
    simp only at hj hm
    rw [hSb]
    simp only
    simp only [aR,N0,N1,N2,N3,N4,N5,Z0,Z1,Z2,Z3,Z4,Z5,Z6,Z7,Z8,Z9,Z10,Zc,↓reduceIte,reduceCtorEq,kV]
    (with_reducible first | refine kF (fun h2=>?_) (fun h2=>?_) | refine kH (fun h2=>?_) (fun h2=>?_))
    · have hlt2:j < ops.length:=by omega
      have e3:=zT ops hlt2
      have hct:=okL.text oa (List.getElem_mem hlt2)
      rw [putC_take hlt2] at hm
      generalize ops[j]=c at *
      obtain ⟨ck,cn,ct⟩:=c
      simp only at hm hct
      by_cases hk:ck=2
      · rw [if_pos hk] at hm
        simp only [aR,N0,N1,N2,N3,N4,N5,Z0,Z1,Z2,Z3,Z4,Z5,Z6,Z7,Z8,Z9,Z10,Zc,↓reduceIte,reduceCtorEq,h2,e3,cA,kV,hk]
        (repeat (with_reducible refine And.intro ?_ ?_; focus (first | omega | exact kE | kernel_rfl)))
        refine call_rc (by simp [kG]) hct ?_
        simp only [aR,N0,N1,N2,N3,N4,N5,Z0,Z1,Z2,Z3,Z4,Z5,Z6,Z7,Z8,Z9,Z10,Zc,↓reduceIte,reduceCtorEq,kD (n:=(m:Int)+lc ct) (by omega) (by omega),kD (n:=(j:Int)+1) (by omega) (by omega)]
        refine kT ⟨(m+lc ct,j+1),by simp only; omega,by simp only; omega⟩ (by simp only; omega) ?_
        rw [hSb]; refine kW [] [] ?_
        simp only [aR,N0,N1,N2,N3,N4,N5,Z0,Z1,Z2,Z3,Z4,Z5,Z6,Z7,Z8,Z9,Z10,Zc,↓reduceIte,reduceCtorEq] <;> ((repeat' apply And.intro) <;> first | rfl | omega | trivial)
      · rw [if_neg hk] at hm
        simp only [aR,N0,N1,N2,N3,N4,N5,Z0,Z1,Z2,Z3,Z4,Z5,Z6,Z7,Z8,Z9,Z10,Zc,↓reduceIte,reduceCtorEq,h2,e3,cA,kV,hk,kD (n:=(j:Int)+1) (by omega) (by omega)]
        (repeat (with_reducible refine And.intro ?_ ?_; focus (first | omega | exact kE | kernel_rfl)))
        refine kT ⟨(m,j+1),by simp only; omega,by simp only; omega⟩ (by simp only; omega) ?_
        rw [hSb]; refine kW [] [] ?_
        simp only [aR,N0,N1,N2,N3,N4,N5,Z0,Z1,Z2,Z3,Z4,Z5,Z6,Z7,Z8,Z9,Z10,Zc,↓reduceIte,reduceCtorEq] <;> ((repeat' apply And.intro) <;> first | rfl | omega | trivial)
    · rw [List.drop_of_length_le (by omega),putC] at hm
      simp only [aR,N0,N1,N2,N3,N4,N5,Z0,Z1,Z2,Z3,Z4,Z5,Z6,Z7,Z8,Z9,Z10,Zc,↓reduceIte,reduceCtorEq,h2,kD (n:=(i:Int)+1) (by omega) (by omega)]
      refine kT ⟨(m,i+1),by simp only; omega,by simp only; omega⟩ (by simp only; omega) ?_
      rw [hSt]; refine kW [] [] ?_
      simp only [aR,N0,N1,N2,N3,N4,N5,Z0,Z1,Z2,Z3,Z4,Z5,Z6,Z7,Z8,Z9,Z10,Zc,↓reduceIte,reduceCtorEq] <;> ((repeat' apply And.intro) <;> first | rfl | omega | trivial)
  · rw [List.drop_of_length_le (by omega),putS] at hs
    simp only [aR,N0,N1,N2,N3,N4,N5,Z0,Z1,Z2,Z3,Z4,Z5,Z6,Z7,Z8,Z9,Z10,Zc,↓reduceIte,reduceCtorEq,h]
    omega
theorem call_puts {Γ:Env} (hf:Γ.get 85=some putsCon) {σ:AS} {dr:Bool} {l:List Ac} {ys:List AV} {d:Option Nat} {K:AS→Prop} (hy:ys=acts l) (hl:l.length≤1000000) (ho:∀ a∈l,okL a.ops∧a.nm.length≤1099511627776)
    (hk:cont σ d (.v (.int .i64 (putS l))) K):kQ Tryz.prog Γ dr σ 85 [.sl 0 6 ys] d K:=by
  subst hy
  exact kP (C:=putsCon) (i:=⟨l,hl,ho⟩) hf rfl rfl rfl (by simp [AV.erL,AV.er,kCp]) (fun _ h=>h) rfl hk
def kDq (pre:List Ac) (a:Ac):Bool:=pre.any fun b=>decide (b.k=4∧b.id=a.id)
def kAd:List Ac→List Ac→Int
  | _,[]=>0
  | pre,a::r=>if oneI a≠0 then oneI a else if a.k=4∧kDq pre a=true then 1 else kAd (pre++[a]) r
def txnE (l:List Ac):Int:=if l.length > 20 then 3 else if kAd [] l≠0 then kAd [] l else if (putS l:Int) > 2000 then 3 else 0
abbrev jK:Con where
  ι:=ActsN
  args:=fun l=>[.sl 0 6 (acts l.1)]
  post:=fun l r=>r = .v (.int .i64 (txnE l.1))
  plain:=true
theorem kBq:Rw.Good Tryz.prog 35 jK:=by
  have hΓ:kL Tryz.prog [(82,oneCon),(85,putsCon)]:=(kJ one_good (kJ puts_good kK))
  refine k9 (nn:=34) hΓ Tryz.func35 (by kernel_rfl) rfl (show Tryz.f35.results.toList=[.tmp 2] from rfl) (fun _=>rfl) (fun x=>by simp [AV.erL,AV.er,kCp]) ?_
  rintro ⟨l,hl,ho⟩
  simp only [aR,N0,N1,N2,N3,N4,N5,Z0,Z1,Z2,Z3,Z4,Z5,Z6,Z7,Z8,Z9,Z10,Zc,↓reduceIte,reduceCtorEq]
  refine vc_scope hΓ 1 ?_
  simp only [aR,N0,N1,N2,N3,N4,N5,Z0,Z1,Z2,Z3,Z4,Z5,Z6,Z7,Z8,Z9,Z10,Zc,↓reduceIte,reduceCtorEq,qL]
  by_cases hlen:(l.length:Int) > 20
  · have e0:txnE l=3:=by unfold txnE; rw [if_pos (by omega)]
    simp only [aR,N0,N1,N2,N3,N4,N5,Z0,Z1,Z2,Z3,Z4,Z5,Z6,Z7,Z8,Z9,Z10,Zc,↓reduceIte,reduceCtorEq,hlen,e0]
  have e0:txnE l=if kAd [] l≠0 then kAd [] l else if (putS l:Int) > 2000 then 3 else 0:=by unfold txnE; rw [if_neg (by omega)]
  simp only [aR,N0,N1,N2,N3,N4,N5,Z0,Z1,Z2,Z3,Z4,Z5,Z6,Z7,Z8,Z9,Z10,Zc,↓reduceIte,reduceCtorEq,hlen,qL]
  obtain ⟨St,hSt⟩:∃ St:{ i:Nat // i≤l.length∧kAd (l.take i) (l.drop i)=kAd [] l }→AS,∀ i,St i=AS.of 34 [(0,.sl 0 6 (acts l)),(2,.v (.int .i64 0)),(8,.sl 0 6 (acts l)),(9,.v (.int .i64 l.length)),(10,.v (.int .i64 i.1))] [] []:=⟨_,fun _=>rfl⟩
  refine zZ hΓ St (fun i=>l.length - i.1) ⟨0,by omega,by simp⟩ (by rw [hSt]; refine kW [] [] ?_; simp only [aR,N0,N1,N2,N3,N4,N5,Z0,Z1,Z2,Z3,Z4,Z5,Z6,Z7,Z8,Z9,Z10,Zc,↓reduceIte,reduceCtorEq] <;> ((repeat' apply And.intro) <;> first | rfl | omega | trivial)) ?_
  rintro ⟨i,hi,hc⟩
  rw [hSt]
  simp only
  simp only [aR,N0,N1,N2,N3,N4,N5,Z0,Z1,Z2,Z3,Z4,Z5,Z6,Z7,Z8,Z9,Z10,Zc,↓reduceIte,reduceCtorEq,qL]
  (with_reducible first | refine kF (fun h=>?_) (fun h=>?_) | refine kH (fun h=>?_) (fun h=>?_))
  · have hlt:i < l.length:=by omega
    have e1:=kCB l hlt
    have ha:=ho _ (List.getElem_mem hlt)
    rw [List.drop_eq_getElem_cons hlt,kAd,← List.take_succ_eq_append_getElem hlt] at hc
    generalize l[i]=a at *
    obtain ⟨k,id,par,nm,dir,ops⟩:=a
    simp only [aR,N0,N1,N2,N3,N4,N5,Z0,Z1,Z2,Z3,Z4,Z5,Z6,Z7,Z8,Z9,Z10,Zc,↓reduceIte,reduceCtorEq,h,e1,aA,qL]
    (repeat (with_reducible refine And.intro ?_ ?_; focus (first | omega | exact kE | kernel_rfl)))
    refine kP (C:=oneCon) (i:=⟨⟨k,id,par,nm,dir,ops⟩,ha⟩) (by simp [kG]) rfl rfl rfl (by simp [AV.erL,AV.er,aA,comps_er]) (fun _ h=>h) rfl ?_
    by_cases h1:oneI ⟨k,id,par,nm,dir,ops⟩=0
    case neg =>
      rw [if_pos h1] at hc
      rw [← hc,if_pos h1] at e0
      simp only [aR,N0,N1,N2,N3,N4,N5,Z0,Z1,Z2,Z3,Z4,Z5,Z6,Z7,Z8,Z9,Z10,Zc,↓reduceIte,reduceCtorEq,h1]
      refine ⟨_,rfl,?_⟩
      simp only [aR,N0,N1,N2,N3,N4,N5,Z0,Z1,Z2,Z3,Z4,Z5,Z6,Z7,Z8,Z9,Z10,Zc,↓reduceIte,reduceCtorEq,e0]
    rw [if_neg (by simpa using h1)] at hc
    by_cases h4:k=4
    · subst h4
      have hpa:kDQ 0 6 (acts l) 0 i = .sl 0 6 (acts (l.take i)):=by
        unfold kDQ
        split
        · rename_i h5
          rw [List.take_of_length_le (by have:=h5.2; rw [qL] at this; omega)]
        · simp [acts,List.map_take]
      have htl:(l.take i).length=i:=by rw [List.length_take]; omega
      have hcb:∀ x:Bool,kDq (l.take i) ⟨4,id,par,nm,dir,ops⟩=x→(if x=true then 1 else kAd (l.take (i+1)) (l.drop (i+1)))=kAd [] l:=fun x hx=>by
        subst hx
        rw [← hc]
        by_cases h5:kDq (l.take i) ⟨4,id,par,nm,dir,ops⟩=true
        · rw [if_pos h5,if_pos ⟨rfl,h5⟩]
        · rw [if_neg h5,if_neg (fun hh=>h5 hh.2)]
      have hcl:kDq (l.take i) ⟨4,id,par,nm,dir,ops⟩=(l.take i).any fun b=>decide (b.k=4∧b.id=id):=rfl
      obtain ⟨pre,hpre⟩:∃ pre,l.take i=pre:=⟨_,rfl⟩
      rw [hpre] at hpa htl hcb hcl
      simp only [aR,N0,N1,N2,N3,N4,N5,Z0,Z1,Z2,Z3,Z4,Z5,Z6,Z7,Z8,Z9,Z10,Zc,↓reduceIte,reduceCtorEq,h1,hpa,qL,List.map_cons,List.map_nil]
      (repeat (with_reducible refine And.intro ?_ ?_; focus (first | omega | exact kE | kernel_rfl)))
      refine jH (nn:=9) hΓ (by first | assumption | simp [kG,kY]) Tryz.func83 (by kernel_rfl) rfl (show Tryz.f83.results.toList=[.tmp 4] from rfl) rfl ?_
      simp only [aR,N0,N1,N2,N3,N4,N5,Z0,Z1,Z2,Z3,Z4,Z5,Z6,Z7,Z8,Z9,Z10,Zc,↓reduceIte,reduceCtorEq]
      refine jH (nn:=19) hΓ (by first | assumption | simp [kG,kY]) Tryz.func114 (by kernel_rfl) rfl (show Tryz.f114.results.toList=[.tmp 4] from rfl) rfl ?_
      simp only [aR,N0,N1,N2,N3,N4,N5,Z0,Z1,Z2,Z3,Z4,Z5,Z6,Z7,Z8,Z9,Z10,Zc,↓reduceIte,reduceCtorEq,qL,htl]
      refine vc_loop_keep hΓ (fun j:{ j:Nat // j≤i∧(pre.any fun b=>decide (b.k=4∧b.id=id))=(pre.drop j).any fun b=>decide (b.k=4∧b.id=id) }=>[(0,.sl 0 6 (acts pre)),(1,.fn 84 [.ptr 0 0]),(7,.v (.int .i64 i)),(8,.v (.int .i64 j.1))]) (fun j=>i - j.1) ⟨0,Nat.zero_le _,by simp⟩ (by simp only [aR,N0,N1,N2,N3,N4,N5,Z0,Z1,Z2,Z3,Z4,Z5,Z6,Z7,Z8,Z9,Z10,Zc,↓reduceIte,reduceCtorEq] <;> ((repeat' apply And.intro) <;> first | rfl | omega | trivial)) ?_
      rintro ⟨j,hj,hn⟩ q hq
      simp only
      simp only [aR,N0,N1,N2,N3,N4,N5,Z0,Z1,Z2,Z3,Z4,Z5,Z6,Z7,Z8,Z9,Z10,Zc,↓reduceIte,reduceCtorEq,List.map_cons,List.map_nil]
      (with_reducible first | refine kF (fun h2=>?_) (fun h2=>?_) | refine kH (fun h2=>?_) (fun h2=>?_))
      · have hlt2:j < pre.length:=by omega
        have e3:=kCB pre hlt2
        rw [List.drop_eq_getElem_cons hlt2,List.any_cons] at hn
        generalize pre[j]=b at *
        obtain ⟨bk,bid,bpar,bnm,bdir,bops⟩:=b
        simp only at hn
        simp only [aR,N0,N1,N2,N3,N4,N5,Z0,Z1,Z2,Z3,Z4,Z5,Z6,Z7,Z8,Z9,Z10,Zc,↓reduceIte,reduceCtorEq,h2,e3,qL,htl,aA]
        (repeat (with_reducible refine And.intro ?_ ?_; focus (first | omega | exact kE | kernel_rfl)))
        refine jH (nn:=14) hΓ (by first | assumption | simp [kG,kY]) Tryz.func84 (by kernel_rfl) rfl (show Tryz.f84.results.toList=[.tmp 3] from rfl) rfl ?_
        have hk0:(0=q)=False:=eq_false (by omega)
        simp only [aR,N0,N1,N2,N3,N4,N5,Z0,Z1,Z2,Z3,Z4,Z5,Z6,Z7,Z8,Z9,Z10,Zc,↓reduceIte,reduceCtorEq,aA,hk0]
        have go:(pre.any fun b=>decide (b.k=4∧b.id=id))=((pre.drop (j+1)).any fun b=>decide (b.k=4∧b.id=id))→∃ y:{ j:Nat // j≤i∧(pre.any fun b=>decide (b.k=4∧b.id=id))=(pre.drop j).any fun b=>decide (b.k=4∧b.id=id) },y.1=j+1∧i - y.1 < i - j:=fun hh=>⟨⟨j+1,by omega,hh⟩,rfl,by simp only; omega⟩
        by_cases h5:bk=4
        · by_cases h6:bid=id
          · have hT:kDq pre ⟨4,id,par,nm,dir,ops⟩=true:=by rw [hcl,hn]; simp [h5,h6]
            have h7:=hcb _ hT
            rw [if_pos rfl] at h7
            rw [← h7,if_pos (by omega)] at e0
            simp only [aR,N0,N1,N2,N3,N4,N5,Z0,Z1,Z2,Z3,Z4,Z5,Z6,Z7,Z8,Z9,Z10,Zc,↓reduceIte,reduceCtorEq,h5,h6,hk0,show ((j:Int) ≥ 0)=True from eq_true (by omega)]
            refine ⟨_,rfl,?_⟩
            simp only [aR,N0,N1,N2,N3,N4,N5,Z0,Z1,Z2,Z3,Z4,Z5,Z6,Z7,Z8,Z9,Z10,Zc,↓reduceIte,reduceCtorEq,e0]
          · obtain ⟨y,hy,hy2⟩:=go (by rw [hn]; simp [h6])
            simp only [aR,N0,N1,N2,N3,N4,N5,Z0,Z1,Z2,Z3,Z4,Z5,Z6,Z7,Z8,Z9,Z10,Zc,↓reduceIte,reduceCtorEq,h5,h6,hk0,kD (n:=(j:Int)+1) (by omega) (by omega)]
            refine keep_end y hy2 ?_ ?_ (keep_new ?_ fun _ _ h=>h) ⟨rfl,rfl,rfl⟩
            · omega
            · simp only [aR,N0,N1,N2,N3,N4,N5,Z0,Z1,Z2,Z3,Z4,Z5,Z6,Z7,Z8,Z9,Z10,Zc,↓reduceIte,reduceCtorEq,hy] <;> ((repeat' apply And.intro) <;> first | rfl | omega | trivial)
            · intro o x h
              simp only [upd] at h
              repeat' split at h
              all_goals first | omega | cases h
        · obtain ⟨y,hy,hy2⟩:=go (by rw [hn]; simp [h5])
          simp only [aR,N0,N1,N2,N3,N4,N5,Z0,Z1,Z2,Z3,Z4,Z5,Z6,Z7,Z8,Z9,Z10,Zc,↓reduceIte,reduceCtorEq,h5,hk0,kD (n:=(j:Int)+1) (by omega) (by omega)]
          refine keep_end y hy2 ?_ ?_ (keep_new ?_ fun _ _ h=>h) ⟨rfl,rfl,rfl⟩
          · omega
          · simp only [aR,N0,N1,N2,N3,N4,N5,Z0,Z1,Z2,Z3,Z4,Z5,Z6,Z7,Z8,Z9,Z10,Zc,↓reduceIte,reduceCtorEq,hy] <;> ((repeat' apply And.intro) <;> first | rfl | omega | trivial)
          · intro o x h
            simp only [upd] at h
            repeat' split at h
            all_goals first | omega | cases h
      · have hF:kDq pre ⟨4,id,par,nm,dir,ops⟩=false:=by rw [hcl,hn,List.drop_of_length_le (by omega)]; rfl
        have h7:=hcb _ hF
        rw [if_neg (by simp)] at h7
        simp only [aR,N0,N1,N2,N3,N4,N5,Z0,Z1,Z2,Z3,Z4,Z5,Z6,Z7,Z8,Z9,Z10,Zc,↓reduceIte,reduceCtorEq,h2,kD (n:=(i:Int)+1) (by omega) (by omega)]
        refine kT ⟨i+1,by omega,h7⟩ (by simp only; omega) ?_
        rw [hSt]; refine kW [] [] ?_
        simp only [aR,N0,N1,N2,N3,N4,N5,Z0,Z1,Z2,Z3,Z4,Z5,Z6,Z7,Z8,Z9,Z10,Zc,↓reduceIte,reduceCtorEq] <;> ((repeat' apply And.intro) <;> first | rfl | omega | trivial)
    · rw [if_neg (fun hh=>h4 hh.1)] at hc
      simp only [aR,N0,N1,N2,N3,N4,N5,Z0,Z1,Z2,Z3,Z4,Z5,Z6,Z7,Z8,Z9,Z10,Zc,↓reduceIte,reduceCtorEq,h1,h4,kD (n:=(i:Int)+1) (by omega) (by omega)]
      refine kT ⟨i+1,by omega,hc⟩ (by simp only; omega) ?_
      rw [hSt]; refine kW [] [] ?_
      simp only [aR,N0,N1,N2,N3,N4,N5,Z0,Z1,Z2,Z3,Z4,Z5,Z6,Z7,Z8,Z9,Z10,Zc,↓reduceIte,reduceCtorEq] <;> ((repeat' apply And.intro) <;> first | rfl | omega | trivial)
  · rw [List.drop_of_length_le (by omega),kAd] at hc
    rw [← hc,if_neg (by simp)] at e0
    simp only [aR,N0,N1,N2,N3,N4,N5,Z0,Z1,Z2,Z3,Z4,Z5,Z6,Z7,Z8,Z9,Z10,Zc,↓reduceIte,reduceCtorEq,h]
    refine call_puts (by simp [kG]) rfl hl ho ?_
    by_cases hp:(putS l:Int) > 2000
    · rw [if_pos hp] at e0
      simp only [aR,N0,N1,N2,N3,N4,N5,Z0,Z1,Z2,Z3,Z4,Z5,Z6,Z7,Z8,Z9,Z10,Zc,↓reduceIte,reduceCtorEq,hp,e0]
    · rw [if_neg hp] at e0
      simp only [aR,N0,N1,N2,N3,N4,N5,Z0,Z1,Z2,Z3,Z4,Z5,Z6,Z7,Z8,Z9,Z10,Zc,↓reduceIte,reduceCtorEq,hp,e0]
end Go.Proofs
end
-- EUo6
section
namespace Go.Proofs
open Go Go.Rw
set_option maxRecDepth 100000
def ofBad (n a b:Int) (t:List UInt8):Prop:=a < 0∨b < a∨n < b∨pts t=none
instance (n a b:Int) (t:List UInt8):Decidable (ofBad n a b t):=by unfold ofBad; exact inferInstance
end Go.Proofs
end
-- EUo7
section
namespace Go.Proofs
open Go Go.Rw
set_option maxRecDepth 100000
end Go.Proofs
end
-- EUo8
section
namespace Go.Proofs
open Go Go.Rw
open _root_.Nat renaming reduceAdd → N0, reduceSub → N1, reduceMul → N2, reduceLT → N3, reduceLeDiff → N4, reduceEqDiff → N5
open _root_.Int renaming reduceNeg → Z0, reduceAdd → Z1, reduceSub → Z2, reduceMul → Z3, reduceGT → Z4, reduceGE → Z5, reduceLT → Z6, reduceLE → Z7, reduceEq → Z8, reduceNe → Z9, reduceToNat → Z10, cast_ofNat_Int → Zc
set_option maxRecDepth 100000
end Go.Proofs
end
-- EUo9
section
namespace Go.Proofs
open Go Go.Rw
set_option maxRecDepth 100000
def fol (q k:Int):Bool:=!(decide (q=k) || (decide (q=3) && decide (k=2)))
def neat (c:Cp):Bool:=if c.k=2 then decide (c.n=0) && decide (c.t≠[]) else (decide (c.k=1) || decide (c.k=3)) && decide (0 < c.n) && decide (c.n≤1099511627776) && decide (c.t=[])
def shape:Int→List Cp→Bool
  | _,[]=>true
  | q,c::r=>neat c && fol q c.k && shape c.k r
end Go.Proofs
end
-- EUo10
section
namespace Go.Proofs
open Go Go.Rw
set_option maxRecDepth 100000
def tn:List Cp→Int
  | []=>0
  | c::r=>max c.n 0+tn r
def sumN:Int→List Cp→Int
  | s,[]=>s
  | s,c::r=>sumN (addI s (max c.n 0)) r
theorem tn_pos:∀ l:List Cp,0≤tn l
  | []=>by simp [tn]
  | c::r=>by simp only [tn]; have:=tn_pos r; omega
theorem sumN_eq:∀ (l:List Cp) {s:Int},(0≤s∧s≤1099511627776)→sumN s l=min (s+tn l) 1099511627776
  | [],s,h=>by simp only [sumN,tn]; omega
  | c::r,s,h=>by
    have h2:=zF h.1 (show 0≤max c.n 0 by omega)
    have:=tn_pos r
    simp only [sumN,tn]
    rw [sumN_eq r h2]
    unfold addI
    omega
def allV (l:List Cp):Bool:=l.all fun c=>(pts c.t).isSome
theorem addI_z {x:Int} (h:x≤1099511627776):addI x 0=x:=by unfold addI; omega
end Go.Proofs
end
-- EAp0
section
namespace Go.Proofs
open Go Go.Rw
def cpts (t:List UInt8):List Nat:=(pts t).getD []
theorem kCL {t:List UInt8} {cs:List Nat} (h:pts t=some cs):cpts t=cs:=by unfold cpts; rw [h]; rfl
theorem cpts_nil:cpts []=[]:=rfl
theorem cpts_enc {cs:List Nat} (h:∀ c∈cs,okc c):cpts (encs cs)=cs:=kCL (kE4 h)
theorem isSome_cpts {t:List UInt8} (h:(pts t).isSome=true):pts t=some (cpts t):=by
  obtain ⟨cs,hc⟩:=Option.isSome_iff_exists.1 h
  rw [hc,kCL hc]
theorem kAy {t:List UInt8} (h:(pts t).isSome=true):encs (cpts t)=t∧∀ c∈cpts t,okc c:=by
  obtain ⟨h1,h2⟩:=kAi (isSome_cpts h)
  exact ⟨h2.symm,h1⟩
theorem lc_cpts {t:List UInt8} (h:(pts t).isSome=true):lc t=(cpts t).length:=by
  obtain ⟨e1,o1⟩:=kAy h
  conv=>lhs; rw [← e1]
  exact lc_encs _ o1
theorem okc_take {cs:List Nat} (h:∀ c∈cs,okc c) (n:Nat):∀ c∈cs.take n,okc c:=fun c hc=>h c (List.mem_of_mem_take hc)
theorem okc_drop {cs:List Nat} (h:∀ c∈cs,okc c) (n:Nat):∀ c∈cs.drop n,okc c:=fun c hc=>h c (List.mem_of_mem_drop hc)
theorem kEZ {cs:List Nat}:(encs cs).length≤4 * cs.length:=by
  induction cs with
  | nil=>simp [kCT]
  | cons c cs ih=>rw [kAl,List.length_cons]; have:=wid_le c; omega
def doL:List Nat→List Cp→List Nat
  | _,[]=>[]
  | cs,c::r=>if someC c=false then doL cs r else if c.k=2 then cpts c.t++doL cs r else if c.k=3 then doL (cs.drop c.n.toNat) r else cs.take c.n.toNat++doL (cs.drop c.n.toNat) r
theorem do_ins {cs:List Nat} {c:Cp} {r:List Cp} (h:someC c=true) (h2:c.k=2):doL cs (c::r)=cpts c.t++doL cs r:=by rw [doL,if_neg (by rw [h]; decide),if_pos h2]
theorem do_del {cs:List Nat} {c:Cp} {r:List Cp} (h:someC c=true) (h2:c.k=3):doL cs (c::r)=doL (cs.drop c.n.toNat) r:=by rw [doL,if_neg (by rw [h]; decide),if_neg (by omega),if_pos h2]
theorem do_ret {cs:List Nat} {c:Cp} {r:List Cp} (h:someC c=true) (h2:¬ c.k=2) (h3:¬ c.k=3):doL cs (c::r)=cs.take c.n.toNat++doL (cs.drop c.n.toNat) r:=by rw [doL,if_neg (by rw [h]; decide),if_neg h2,if_neg h3]
def fit (cs:List Nat) (l:List Cp):Prop:=(∀ c∈l,jP c=true)∧(cs.length:Int)=tn l
theorem zO {c:Cp} (h:jP c=true):(c.k=2∧c.n=0∧c.t≠[]∧(pts c.t).isSome=true)∨((c.k=1∨c.k=3)∧0 < c.n∧c.t=[]):=by
  unfold jP at h
  split at h
  · rename_i h2
    simp at h
    exact .inl ⟨h2,h.1.1,h.1.2,h.2⟩
  · split at h
    · rename_i h13
      simp at h
      exact .inr ⟨h13,h.1,h.2⟩
    · cases h
theorem kEv {c:Cp} (h:jP c=true):someC c=true:=by
  unfold someC
  rcases zO h with ⟨h2,_,h3,_⟩ | ⟨h13,h4,_⟩
  · rw [if_pos h2]; simp [h3]
  · rw [if_neg (by omega)]
    rcases h13 with h | h <;> simp [h,h4]
theorem fit_cons {cs:List Nat} {c:Cp} {r:List Cp} (h:fit cs (c::r)):jP c=true∧0≤c.n∧c.n.toNat≤cs.length∧fit (cs.drop c.n.toNat) r:=by
  obtain ⟨h1,h2⟩:=h
  have hs:=h1 c (by simp)
  have hp:=tn_pos r
  have hn:0≤c.n:=by rcases zO hs with ⟨_,h,_⟩ | ⟨_,h,_⟩ <;> omega
  simp only [tn] at h2
  exact ⟨hs,hn,by omega,fun x hx=>h1 x (by simp [hx]),by rw [List.length_drop]; omega⟩
theorem kDj:∀ (l:List Cp) (m:Int),(0≤m∧m≤1099511627776)→(∀ c∈l,jP c=true)→baseF m l=sumN m l
  | [],_,_,_=>rfl
  | c::r,m,hm,h=>by
    have hr:=fun x hx=>h x (List.mem_cons_of_mem c hx)
    have hs:=zO (h c (by simp))
    simp only [baseF,sumN]
    by_cases h13:c.k=1∨c.k=3
    · rw [if_pos h13]
      exact kDj r _ (zF hm.1 (by omega)) hr
    · rw [if_neg h13]
      rcases hs with ⟨_,h0,_⟩ | ⟨h,_⟩
      · rw [h0,show max (0:Int) 0=0 from rfl,addI_z hm.2]
        exact kDj r m hm hr
      · exact absurd h h13
theorem kDL:∀ (l:List Cp) (p:Option Cp),j5 p l=true→∀ c∈l,jP c=true
  | [],_,_,c,hc=>by cases hc
  | c::r,p,h,x,hx=>by
    simp only [j5,Bool.and_eq_true] at h
    rcases List.mem_cons.1 hx with rfl | hx
    · exact h.1.1
    · exact kDL r (some c) h.2 x hx
theorem j9 {l:List Cp} (h:zA l=0):l.length≤100∧zD l=true∧(∀ c∈l,jP c=true)∧kBH l=tn l∧tn l≤2000∧outL l≤2000:=by
  unfold zA at h
  split at h
  · cases h
  · split at h
    · cases h
    · split at h
      · cases h
      · rename_i h1 h2 h3
        have h4:zD l=true:=by simpa using h2
        have h5:=kDL l none h4
        have h6:kBH l=min (0+tn l) 1099511627776:=by
          unfold kBH
          rw [kDj l 0 (by omega) h5,sumN_eq l (by omega)]
        have h7:=tn_pos l
        exact ⟨by omega,h4,h5,by omega,by omega,by omega⟩
theorem fit_check {l:List Cp} (h:zA l=0) {cs:List Nat} (hb:(cs.length:Int)=kBH l):fit cs l:=by
  obtain ⟨_,_,h1,h2,_,_⟩:=j9 h
  exact ⟨h1,by rw [hb,h2]⟩
theorem out_do:∀ (l:List Cp) (cs:List Nat) (m:Int),0≤m→fit cs l→outF m l≤2000→outF m l=m+(doL cs l).length
  | [],_,m,_,_,_=>by simp [outF,doL]
  | c::r,cs,m,hm,hf,ho=>by
    obtain ⟨hs,hn,hle,hf2⟩:=fit_cons hf
    have hso:=kEv hs
    simp only [outF] at ho ⊢
    have mono:∀ (l:List Cp) (m:Int),0≤m→m≤1099511627776→m≤outF m l:=by
      intro l
      induction l with
      | nil=>intro m _ _; simp [outF]
      | cons c r ih =>
        intro m h1 h2
        simp only [outF]
        split
        · have h3:=zF h1 (show 0≤max c.n 0 by omega)
          have h4:=ih _ h3.1 h3.2
          have:m≤addI m (max c.n 0):=by unfold addI; omega
          omega
        · split
          · have h3:=zF h1 (show 0≤(lc c.t:Int) by omega)
            have h4:=ih _ h3.1 h3.2
            have:m≤addI m (lc c.t):=by unfold addI; omega
            omega
          · exact ih m h1 h2
    rcases zO hs with ⟨h2,h0,_,hv⟩ | ⟨h13,hp,_⟩
    · rw [if_neg (by omega),if_pos h2] at ho ⊢
      have hb:=zF hm (show 0≤(lc c.t:Int) by omega)
      have hm2:=mono r _ hb.1 hb.2
      have hm3:addI m (lc c.t)≤2000:=by omega
      have e:addI m (lc c.t)=m+lc c.t:=by unfold addI at hm3 ⊢; omega
      rw [e] at ho ⊢
      rw [h0] at hf2
      have:=out_do r cs (m+lc c.t) (by omega) (by simpa using hf2) ho
      rw [this,do_ins hso h2,List.length_append,lc_cpts hv]; omega
    · by_cases h1:c.k=1
      · rw [if_pos h1] at ho ⊢
        have hb:=zF hm (show 0≤max c.n 0 by omega)
        have hm2:=mono r _ hb.1 hb.2
        have hm3:addI m (max c.n 0)≤2000:=by omega
        have e:addI m (max c.n 0)=m+c.n:=by unfold addI at hm3 ⊢; omega
        rw [e] at ho ⊢
        have:=out_do r _ (m+c.n) (by omega) hf2 ho
        rw [this,do_ret hso (by omega) (by omega),List.length_append,List.length_take]; omega
      · rw [if_neg h1,if_neg (by omega)] at ho ⊢
        have:=out_do r _ m hm hf2 ho
        rw [this,do_del hso (by omega)]
theorem do_okc:∀ (l:List Cp) (cs:List Nat),(∀ c∈cs,okc c)→allV l=true→∀ c∈doL cs l,okc c
  | [],_,_,_,c,h=>by cases h
  | c::r,cs,hc,hv,x,hx=>by
    simp only [allV,List.all_cons,Bool.and_eq_true] at hv
    rw [doL] at hx
    split at hx
    · exact do_okc r cs hc hv.2 x hx
    · split at hx
      · rcases List.mem_append.1 hx with h | h
        · exact (kAy hv.1).2 x h
        · exact do_okc r cs hc hv.2 x h
      · split at hx
        · exact do_okc r _ (okc_drop hc _) hv.2 x hx
        · rcases List.mem_append.1 hx with h | h
          · exact okc_take hc _ x h
          · exact do_okc r _ (okc_drop hc _) hv.2 x h
theorem sound_texts {l:List Cp} (h:∀ c∈l,jP c=true):allV l=true:=by
  unfold allV
  rw [List.all_eq_true]
  intro c hc
  rcases zO (h c hc) with ⟨_,_,_,hv⟩ | ⟨_,_,ht⟩
  · exact hv
  · rw [ht,pts_nil]; rfl
structure Sp where
  c:Cp
  was:List UInt8
  puts:List UInt8
def kBG:List Nat→List Cp→List Sp
  | _,[]=>[]
  | cs,c::r=>⟨c,if c.k=2 then [] else encs (cs.take c.n.toNat),if c.k=2 then c.t else if c.k=3 then [] else encs (cs.take c.n.toNat)⟩::kBG (cs.drop c.n.toNat) r
theorem kDp:∀ (l:List Cp) (cs:List Nat),(kBG cs l).length=l.length
  | [],_=>rfl
  | c::r,cs=>by rw [kBG,List.length_cons,kDp r,List.length_cons]
theorem kEp:∀ (l:List Cp) (cs:List Nat),fit cs l→(kBG cs l).flatMap Sp.puts=encs (doL cs l)
  | [],_,_=>rfl
  | c::r,cs,h=>by
    obtain ⟨hs,hn,hle,hf⟩:=fit_cons h
    have hso:=kEv hs
    rw [kBG,List.flatMap_cons,kEp r _ hf]
    simp only
    rcases zO hs with ⟨h2,h0,_,hv⟩ | ⟨h13,hp,_⟩
    · rw [if_pos h2,do_ins hso h2,kAL,(kAy hv).1,h0]; rfl
    · rw [if_neg (by omega)]
      by_cases h3:c.k=3
      · rw [if_pos h3,do_del hso h3]; rfl
      · rw [if_neg h3,do_ret hso (by omega) h3,kAL]
def undoS (x:Sp):Cp:=if x.c.k=2 then ⟨3,(cpts x.puts).length,[]⟩ else if x.c.k=3 then ⟨2,0,x.was⟩ else x.c
def undoL (cs:List Nat) (l:List Cp):List Cp:=(kBG cs l).map undoS
def errI (s:List UInt8) (l:List Cp):Int:=if zA l=0 then (match pts s with | none=>2 | some cs=>if (cs.length:Int)=kBH l then 0 else 11) else zA l
theorem err_zero {s:List UInt8} {l:List Cp} (h:errI s l=0):zA l=0∧pts s=some (cpts s)∧((cpts s).length:Int)=kBH l∧fit (cpts s) l:=by
  unfold errI at h
  split at h
  · rename_i hc
    split at h
    · cases h
    · rename_i cs hp
      split at h
      · rename_i hb
        rw [kCL hp]
        exact ⟨hc,hp,hb,fit_check hc hb⟩
      · cases h
  · rename_i hc; exact absurd h hc
def stp (s:List UInt8) (l:List Cp):List Sp:=if errI s l=0 then kBG (cpts s) l else []
def zU (s:List UInt8) (l:List Cp):List UInt8:=if errI s l=0 then encs (doL (cpts s) l) else []
def undone (s:List UInt8) (l:List Cp):List Cp:=if errI s l=0 then nf (undoL (cpts s) l) else []
end Go.Proofs
end
-- EAp1
section
namespace Go.Proofs
open Go Go.Rw
open _root_.Nat renaming reduceAdd → N0, reduceSub → N1, reduceMul → N2, reduceLT → N3, reduceLeDiff → N4, reduceEqDiff → N5
open _root_.Int renaming reduceNeg → Z0, reduceAdd → Z1, reduceSub → Z2, reduceMul → Z3, reduceGT → Z4, reduceGE → Z5, reduceLT → Z6, reduceLE → Z7, reduceEq → Z8, reduceNe → Z9, reduceToNat → Z10, cast_ofNat_Int → Zc
set_option maxRecDepth 100000
def stA (x:Sp):AV:=.agg [.v (.int .i64 x.c.k),.v (.int .i64 x.c.n),.v (sv x.c.t),.v (sv x.was),.v (sv x.puts)]
def sts (l:List Sp):List AV:=l.map stA
theorem sts_nil:sts []=[]:=rfl
theorem kBI (l:List Sp):(sts l).length=l.length:=by simp [sts]
theorem sts_snoc (l:List Sp) (k n:Int) (t w p:List UInt8):sts l++[.agg [.v (.int .i64 k),.v (.int .i64 n),.v (sv t),.v (sv w),.v (sv p)]]=sts (l++[⟨⟨k,n,t⟩,w,p⟩]):=by simp [sts,stA]
theorem sts_getD (l:List Sp) {i:Nat} (h:i < l.length):(sts l).getD i .any = .agg [.v (.int .i64 l[i].c.k),.v (.int .i64 l[i].c.n),.v (sv l[i].c.t),.v (sv l[i].was),.v (sv l[i].puts)]:=by
  simp [sts,stA,List.getD_eq_getElem?_getD,h]
theorem part_le {l sz i j:Nat} {xs:List AV} (h:j≤xs.length):kDQ l sz xs i j = .sl l sz ((xs.drop i).take (j - i)):=by
  unfold kDQ
  split
  · rename_i hc
    obtain ⟨rfl,rfl⟩:=hc
    simp
  · rfl
def kBf (s:List UInt8) (l:List Cp):AV:=res2 (.sl 0 5 (sts (stp s l))) (errI s l)
theorem stepsR_er (s:List UInt8) (l:List Cp):(kBf s l).er=kBf s l:=by
  have:∀ l:List Sp,AV.erL (sts l)=sts l:=fun l=>by
    induction l with
    | nil=>rfl
    | cons c r ih=>show AV.er (stA c)::AV.erL (sts r)=_; rw [ih]; rfl
  rfl
abbrev kD9:Con where
  ι:=Str×Ed
  args:=fun p=>[.v (sv p.1.1),.sl 0 3 (qJ p.2.1)]
  post:=fun p r=>r=kBf p.1.1 p.2.1
abbrev SSt (cs:List Nat) (l:List Cp):={ p:List Sp×List Nat×Nat // p.2.2≤l.length∧fit p.2.1 (l.drop p.2.2)∧p.1++kBG p.2.1 (l.drop p.2.2)=kBG cs l∧∀ c∈p.2.1,okc c }
theorem steps_good:Rw.Good Tryz.prog 125 kD9:=by
  have hΓ:kL Tryz.prog [(113,kC2),(95,kBR),(144,kDy)]:=(kJ kEh (kJ kCg (kJ base_good kK)))
  refine k9 (nn:=72) hΓ Tryz.func125 (by kernel_rfl) rfl (show Tryz.f125.results.toList=[.tmp 4,.tmp 5] from rfl) (fun _=>rfl) (fun _=>rfl) ?_
  rintro ⟨⟨s,hs⟩,⟨l,hl⟩⟩
  simp only [aR,N0,N1,N2,N3,N4,N5,Z0,Z1,Z2,Z3,Z4,Z5,Z6,Z7,Z8,Z9,Z10,Zc,↓reduceIte,reduceCtorEq]
  refine vc_scope hΓ 1 ?_
  simp only [aR,N0,N1,N2,N3,N4,N5,Z0,Z1,Z2,Z3,Z4,Z5,Z6,Z7,Z8,Z9,Z10,Zc,↓reduceIte,reduceCtorEq]
  refine kFG (by simp [kG]) rfl hl ?_
  by_cases hc:zA l=0
  · simp only [aR,N0,N1,N2,N3,N4,N5,Z0,Z1,Z2,Z3,Z4,Z5,Z6,Z7,Z8,Z9,Z10,Zc,↓reduceIte,reduceCtorEq,hc]
    refine kB4 (by simp [kG]) hs ?_
    rcases opt_cases (pts s) with hp | ⟨cs,hp⟩
    · have he:errI s l=2:=by unfold errI; rw [if_pos hc,hp]
      simp only [aR,N0,N1,N2,N3,N4,N5,Z0,Z1,Z2,Z3,Z4,Z5,Z6,Z7,Z8,Z9,Z10,Zc,↓reduceIte,reduceCtorEq,kBc,hp,res2]
      refine ⟨_,rfl,?_⟩
      simp only [aR,N0,N1,N2,N3,N4,N5,Z0,Z1,Z2,Z3,Z4,Z5,Z6,Z7,Z8,Z9,Z10,Zc,↓reduceIte,reduceCtorEq]
      unfold kBf stp
      rw [he]; rfl
    · simp only [aR,N0,N1,N2,N3,N4,N5,Z0,Z1,Z2,Z3,Z4,Z5,Z6,Z7,Z8,Z9,Z10,Zc,↓reduceIte,reduceCtorEq,kBc,hp,res2]
      refine call_base (by simp [kG]) rfl hl ?_
      by_cases hb:(cs.length:Int)=kBH l
      · have he:errI s l=0:=by unfold errI; rw [if_pos hc,hp]; simp only; rw [if_pos hb]
        have hfit:=fit_check hc hb
        obtain ⟨hok,hse⟩:=kAi hp
        have hr:=runesA_pts hp
        have hlen:=(j9 hc).1
        have hcl:=kCL hp
        simp only [aR,N0,N1,N2,N3,N4,N5,Z0,Z1,Z2,Z3,Z4,Z5,Z6,Z7,Z8,Z9,Z10,Zc,↓reduceIte,reduceCtorEq,hb,hr,kDZ]
        refine ⟨by omega,?_⟩
        obtain ⟨St,hSt⟩:∃ St:SSt cs l→AS,∀ p,St p=AS.of 72 [(4,.sl 2 5 (sts p.1.1)),(5,.v (.int .i64 0)),(7,.sl 0 1 (i32s p.1.2.1)),(28,.sl 0 3 (qJ l)),(29,.v (.int .i64 l.length)),(30,.v (.int .i64 p.1.2.2))] [] [(p.1.1.length,154)]:=⟨_,fun _=>rfl⟩
        refine zZ hΓ St (fun p=>l.length - p.1.2.2) ⟨([],cs,0),by simp,hfit,rfl,hok⟩ (by rw [hSt]; refine kW [] [.nil 5] ?_; simp only [aR,N0,N1,N2,N3,N4,N5,Z0,Z1,Z2,Z3,Z4,Z5,Z6,Z7,Z8,Z9,Z10,Zc,↓reduceIte,reduceCtorEq,sts_nil,kV] <;> ((repeat' apply And.intro) <;> first | rfl | omega | trivial)) ?_
        rintro ⟨⟨out,ds,i⟩,hi,hf,ho,hdk⟩
        simp only at hi hf ho hdk
        rw [hSt]
        simp only
        simp only [aR,N0,N1,N2,N3,N4,N5,Z0,Z1,Z2,Z3,Z4,Z5,Z6,Z7,Z8,Z9,Z10,Zc,↓reduceIte,reduceCtorEq,kV]
        (with_reducible first | refine kF (fun h=>?_) (fun h=>?_) | refine kH (fun h=>?_) (fun h=>?_))
        · have hlt:i < l.length:=by omega
          have e1:=zT l hlt
          have hct:=okL.text hl (List.getElem_mem hlt)
          rw [List.drop_eq_getElem_cons hlt] at hf ho
          obtain ⟨hso,hn0,hnl,hf2⟩:=fit_cons hf
          rw [kBG] at ho
          have hcs:=zO hso
          have hol:out.length≤100:=by
            have:=congrArg List.length ho
            rw [List.length_append,kDp] at this
            omega
          generalize l[i]=c at *
          obtain ⟨k,n,t⟩:=c
          simp only at *
          have htk:utfL ((ds.take n.toNat).map fun (c:Nat)=>(c:Int))=encs (ds.take n.toNat):=utfL_encs (okc_take hdk _)
          have again:∀ (σ:AS) (x:Sp),x=⟨⟨k,n,t⟩,if k=2 then [] else encs (ds.take n.toNat),if k=2 then t else if k=3 then [] else encs (ds.take n.toNat)⟩→Weak σ (AS.of 72 [(4,.sl 2 5 (sts (out++[x]))),(5,.v (.int .i64 0)),(7,.sl 0 1 (i32s (ds.drop n.toNat))),(28,.sl 0 3 (qJ l)),(29,.v (.int .i64 l.length)),(30,.v (.int .i64 (i+1:Nat)))] [] [((out++[x]).length,154)])→∃ y:SSt cs l,l.length - y.1.2.2 < l.length - i∧Weak σ (St y):=fun σ x hx hw =>
            ⟨⟨(out++[x],ds.drop n.toNat,i+1),by simp only; omega,hf2,by simp only; rw [← ho,hx]; simp,okc_drop hdk _⟩,by simp only; omega,by rw [hSt]; exact hw⟩
          have p1:kDQ 0 1 (i32s ds) 0 n.toNat = .sl 0 1 (i32s (ds.take n.toNat)):=by rw [part_le (by rw [kDZ]; omega),i32s_part]; simp
          have p2:kDQ 0 1 (i32s ds) n.toNat ds.length = .sl 0 1 (i32s (ds.drop n.toNat)):=by rw [part_le (by rw [kDZ]; omega),i32s_part,List.take_of_length_le (by rw [List.length_drop]; omega)]
          simp (disch:=omega) only [aR,N0,N1,N2,N3,N4,N5,Z0,Z1,Z2,Z3,Z4,Z5,Z6,Z7,Z8,Z9,Z10,Zc,↓reduceIte,reduceCtorEq,kD,h,e1,kV,kDZ,p1,p2,i32sOf_i32s,htk,Int.toNat_natCast]
          (repeat (with_reducible refine And.intro ?_ ?_; focus (first | omega | exact kE | kernel_rfl)))
          (with_reducible first | refine kF (fun h2=>?_) (fun h2=>?_) | refine kH (fun h2=>?_) (fun h2=>?_))
          · subst h2
            simp (disch:=omega) only [aR,N0,N1,N2,N3,N4,N5,Z0,Z1,Z2,Z3,Z4,Z5,Z6,Z7,Z8,Z9,Z10,Zc,↓reduceIte,reduceCtorEq,kD,kBI,sts_snoc,List.map_cons,List.map_nil]
            (repeat (with_reducible refine And.intro ?_ ?_; focus (first | omega | exact kE | kernel_rfl)))
            refine again _ ⟨⟨2,n,t⟩,[],t⟩ ?_ ?_
            rotate_left
            · refine kW [] [.live 2] ?_
              simp only [aR,N0,N1,N2,N3,N4,N5,Z0,Z1,Z2,Z3,Z4,Z5,Z6,Z7,Z8,Z9,Z10,Zc,↓reduceIte,reduceCtorEq,kBI,List.length_append] <;> ((repeat' apply And.intro) <;> first | rfl | omega | trivial)
            · simp
          · simp (disch:=omega) only [aR,N0,N1,N2,N3,N4,N5,Z0,Z1,Z2,Z3,Z4,Z5,Z6,Z7,Z8,Z9,Z10,Zc,↓reduceIte,reduceCtorEq,kD,h2]
            (with_reducible first | refine kF (fun h3=>?_) (fun h3=>?_) | refine kH (fun h3=>?_) (fun h3=>?_))
            · subst h3
              simp (disch:=omega) only [aR,N0,N1,N2,N3,N4,N5,Z0,Z1,Z2,Z3,Z4,Z5,Z6,Z7,Z8,Z9,Z10,Zc,↓reduceIte,reduceCtorEq,kD,kBI,sts_snoc,List.map_cons,List.map_nil]
              (repeat (with_reducible refine And.intro ?_ ?_; focus (first | omega | exact kE | kernel_rfl)))
              refine again _ ⟨⟨3,n,t⟩,encs (ds.take n.toNat),[]⟩ ?_ ?_
              rotate_left
              · refine kW [] [.live 2] ?_
                simp only [aR,N0,N1,N2,N3,N4,N5,Z0,Z1,Z2,Z3,Z4,Z5,Z6,Z7,Z8,Z9,Z10,Zc,↓reduceIte,reduceCtorEq,kBI,List.length_append] <;> ((repeat' apply And.intro) <;> first | rfl | omega | trivial)
              · simp
            · simp (disch:=omega) only [aR,N0,N1,N2,N3,N4,N5,Z0,Z1,Z2,Z3,Z4,Z5,Z6,Z7,Z8,Z9,Z10,Zc,↓reduceIte,reduceCtorEq,kD,h3,kBI,sts_snoc,List.map_cons,List.map_nil]
              (repeat (with_reducible refine And.intro ?_ ?_; focus (first | omega | exact kE | kernel_rfl)))
              refine again _ ⟨⟨k,n,t⟩,encs (ds.take n.toNat),encs (ds.take n.toNat)⟩ ?_ ?_
              rotate_left
              · refine kW [] [.live 2] ?_
                simp only [aR,N0,N1,N2,N3,N4,N5,Z0,Z1,Z2,Z3,Z4,Z5,Z6,Z7,Z8,Z9,Z10,Zc,↓reduceIte,reduceCtorEq,kBI,List.length_append] <;> ((repeat' apply And.intro) <;> first | rfl | omega | trivial)
              · simp [h2,h3]
        · have hin:i=l.length:=by omega
          simp only [aR,N0,N1,N2,N3,N4,N5,Z0,Z1,Z2,Z3,Z4,Z5,Z6,Z7,Z8,Z9,Z10,Zc,↓reduceIte,reduceCtorEq,h]
          rw [hin,List.drop_length,kBG,List.append_nil] at ho
          unfold kBf stp
          rw [if_pos he,he,hcl,ho]; rfl
      · have he:errI s l=11:=by unfold errI; rw [if_pos hc,hp]; simp only; rw [if_neg hb]
        simp only [aR,N0,N1,N2,N3,N4,N5,Z0,Z1,Z2,Z3,Z4,Z5,Z6,Z7,Z8,Z9,Z10,Zc,↓reduceIte,reduceCtorEq,hb]
        refine ⟨_,rfl,?_⟩
        simp only [aR,N0,N1,N2,N3,N4,N5,Z0,Z1,Z2,Z3,Z4,Z5,Z6,Z7,Z8,Z9,Z10,Zc,↓reduceIte,reduceCtorEq]
        unfold kBf stp
        rw [he]; rfl
  · have he:errI s l=zA l:=by unfold errI; rw [if_neg hc]
    simp only [aR,N0,N1,N2,N3,N4,N5,Z0,Z1,Z2,Z3,Z4,Z5,Z6,Z7,Z8,Z9,Z10,Zc,↓reduceIte,reduceCtorEq,hc]
    refine ⟨_,rfl,?_⟩
    simp only [aR,N0,N1,N2,N3,N4,N5,Z0,Z1,Z2,Z3,Z4,Z5,Z6,Z7,Z8,Z9,Z10,Zc,↓reduceIte,reduceCtorEq]
    unfold kBf stp
    rw [he,if_neg hc]; rfl
theorem call_steps {Γ:Env} (hf:Γ.get 125=some kD9) {σ:AS} {dr:Bool} {s:List UInt8} {l:List Cp} {t:Nat} {ys:List AV} {d:Option Nat} {K:AS→Prop} (hy:ys=qJ l) (hs:s.length≤1099511627776) (hl:okL l) (ht:t < 2)
    (hk:cont σ d (kBf s l) K):kQ Tryz.prog Γ dr σ 125 [.v (sv s),.sl t 3 ys] d K:=by
  subst hy
  refine kCA (C:=kD9) (i:=(⟨s,hs⟩,⟨l,hl⟩)) (r:=kBf s l) hf rfl rfl rfl ?_ (fun _ h=>h) (by rw [stepsR_er]; exact hk) <;> simp [AV.erL,AV.er,AV.tagsL,AV.tags,comps_er] <;> omega
end Go.Proofs
end
-- EAp2
section
namespace Go.Proofs
open Go Go.Rw
open _root_.Nat renaming reduceAdd → N0, reduceSub → N1, reduceMul → N2, reduceLT → N3, reduceLeDiff → N4, reduceEqDiff → N5
open _root_.Int renaming reduceNeg → Z0, reduceAdd → Z1, reduceSub → Z2, reduceMul → Z3, reduceGT → Z4, reduceGE → Z5, reduceLT → Z6, reduceLE → Z7, reduceEq → Z8, reduceNe → Z9, reduceToNat → Z10, cast_ofNat_Int → Zc
set_option maxRecDepth 100000
end Go.Proofs
end
-- EAp3
section
namespace Go.Proofs
open Go Go.Rw
open _root_.Nat renaming reduceAdd → N0, reduceSub → N1, reduceMul → N2, reduceLT → N3, reduceLeDiff → N4, reduceEqDiff → N5
open _root_.Int renaming reduceNeg → Z0, reduceAdd → Z1, reduceSub → Z2, reduceMul → Z3, reduceGT → Z4, reduceGE → Z5, reduceLT → Z6, reduceLE → Z7, reduceEq → Z8, reduceNe → Z9, reduceToNat → Z10, cast_ofNat_Int → Zc
set_option maxRecDepth 100000
end Go.Proofs
end
-- EAp4
section
namespace Go.Proofs
open Go Go.Rw
open _root_.Nat renaming reduceAdd → N0, reduceSub → N1, reduceMul → N2, reduceLT → N3, reduceLeDiff → N4, reduceEqDiff → N5
open _root_.Int renaming reduceNeg → Z0, reduceAdd → Z1, reduceSub → Z2, reduceMul → Z3, reduceGT → Z4, reduceGE → Z5, reduceLT → Z6, reduceLE → Z7, reduceEq → Z8, reduceNe → Z9, reduceToNat → Z10, cast_ofNat_Int → Zc
set_option maxRecDepth 100000
def doR (s:List UInt8) (l:List Cp):AV:=res2 (.v (sv (zU s l))) (errI s l)
abbrev doCon:Con where
  ι:=Str×Ed
  args:=fun p=>[.v (sv p.1.1),.sl 0 3 (qJ p.2.1)]
  post:=fun p r=>r=doR p.1.1 p.2.1
  plain:=true
theorem stp_puts (s:List UInt8) (l:List Cp):(stp s l).flatMap Sp.puts=zU s l∧(zU s l).length≤8000:=by
  unfold stp zU
  by_cases he:errI s l=0
  · rw [if_pos he,if_pos he]
    obtain ⟨hc,_,hb,hf⟩:=err_zero he
    have hcc:=j9 hc
    have ho:=out_do l (cpts s) 0 (by omega) hf hcc.2.2.2.2.2
    have h4:=kEZ (cs:=doL (cpts s) l)
    have:outL l=outF 0 l:=rfl
    exact ⟨kEp l _ hf,by omega⟩
  · rw [if_neg he,if_neg he]; exact ⟨rfl,by simp⟩
theorem take_puts (S:List Sp) (i:Nat) (h:i < S.length):(S.take (i+1)).flatMap Sp.puts=(S.take i).flatMap Sp.puts++S[i].puts:=by
  rw [List.take_succ_eq_append_getElem h,List.flatMap_append]; simp
theorem take_puts_le (S:List Sp) (i:Nat):((S.take i).flatMap Sp.puts).length≤(S.flatMap Sp.puts).length:=by
  conv=>rhs; rw [← List.take_append_drop i S]
  rw [List.flatMap_append,List.length_append]; omega
theorem stp_len (s:List UInt8) (l:List Cp):(stp s l).length≤100:=by
  unfold stp
  split
  · rename_i he
    have:=(j9 (err_zero he).1).1
    rw [kDp]; exact this
  · simp
theorem do_good:Rw.Good Tryz.prog 100 doCon:=by
  have hΓ:kL Tryz.prog [(125,kD9)]:=(kJ steps_good kK)
  refine k9 (nn:=30) hΓ Tryz.func100 (by kernel_rfl) rfl (show Tryz.f100.results.toList=[.tmp 4,.tmp 5] from rfl) (fun _=>rfl) (fun _=>rfl) ?_
  rintro ⟨⟨s,hs⟩,⟨l,hl⟩⟩
  simp only [aR,N0,N1,N2,N3,N4,N5,Z0,Z1,Z2,Z3,Z4,Z5,Z6,Z7,Z8,Z9,Z10,Zc,↓reduceIte,reduceCtorEq]
  refine call_steps (by simp [kG]) rfl hs hl (by omega) ?_
  obtain ⟨hp1,hp2⟩:=stp_puts s l
  have hle:=take_puts_le (stp s l)
  have hlen:=stp_len s l
  have hdo:doR s l=res2 (.v (sv ((stp s l).flatMap Sp.puts))) (errI s l):=by unfold doR; rw [hp1]
  rw [← hp1] at hp2
  simp only [aR,N0,N1,N2,N3,N4,N5,Z0,Z1,Z2,Z3,Z4,Z5,Z6,Z7,Z8,Z9,Z10,Zc,↓reduceIte,reduceCtorEq,kBf,res2,kBI]
  generalize stp s l=S at *
  obtain ⟨St,hSt⟩:∃ St:{ i:Nat // i≤S.length }→AS,∀ i,St i=AS.of 30 [(6,.v (sv ((S.take i.1).flatMap Sp.puts))),(8,.v (.int .i64 (errI s l))),(17,.sl 0 5 (sts S)),(18,.v (.int .i64 S.length)),(19,.v (.int .i64 i.1))] [] []:=⟨_,fun _=>rfl⟩
  refine zZ hΓ St (fun i=>S.length - i.1) ⟨0,by omega⟩ (by rw [hSt]; refine kW [] [] ?_; simp only [aR,N0,N1,N2,N3,N4,N5,Z0,Z1,Z2,Z3,Z4,Z5,Z6,Z7,Z8,Z9,Z10,Zc,↓reduceIte,reduceCtorEq,List.take_zero,List.flatMap_nil] <;> ((repeat' apply And.intro) <;> first | rfl | omega | trivial)) ?_
  rintro ⟨i,hi⟩
  rw [hSt]
  simp only
  simp only [aR,N0,N1,N2,N3,N4,N5,Z0,Z1,Z2,Z3,Z4,Z5,Z6,Z7,Z8,Z9,Z10,Zc,↓reduceIte,reduceCtorEq]
  (with_reducible first | refine kF (fun h=>?_) (fun h=>?_) | refine kH (fun h=>?_) (fun h=>?_))
  · have hlt:i < S.length:=by omega
    have e1:=sts_getD S hlt
    have h1:=hle i
    have h2:=hle (i+1)
    have htp:=take_puts S i hlt
    rw [htp,List.length_append] at h2
    simp (disch:=omega) only [aR,N0,N1,N2,N3,N4,N5,Z0,Z1,Z2,Z3,Z4,Z5,Z6,Z7,Z8,Z9,Z10,Zc,↓reduceIte,reduceCtorEq,kD,h,e1,kBI]
    (repeat (with_reducible refine And.intro ?_ ?_; focus (first | omega | exact kE | kernel_rfl)))
    refine kT ⟨i+1,by omega⟩ (by simp only; omega) ?_
    rw [hSt]
    simp only
    rw [htp]
    refine kW [] [] ?_
    simp only [aR,N0,N1,N2,N3,N4,N5,Z0,Z1,Z2,Z3,Z4,Z5,Z6,Z7,Z8,Z9,Z10,Zc,↓reduceIte,reduceCtorEq] <;> ((repeat' apply And.intro) <;> first | rfl | omega | trivial)
  · have hin:i=S.length:=by omega
    simp only [aR,N0,N1,N2,N3,N4,N5,Z0,Z1,Z2,Z3,Z4,Z5,Z6,Z7,Z8,Z9,Z10,Zc,↓reduceIte,reduceCtorEq,h,hin,List.take_length]
    rw [hdo]; rfl
theorem call_do {Γ:Env} {f:Nat} (hf:Γ.get f=some doCon) {σ:AS} {dr:Bool} {s:List UInt8} {l:List Cp} {t:Nat} {ys:List AV} {d:Option Nat} {K:AS→Prop} (hy:ys=qJ l) (hs:s.length≤1099511627776) (hl:okL l)
    (hk:cont σ d (doR s l) K):kQ Tryz.prog Γ dr σ f [.v (sv s),.sl t 3 ys] d K:=by
  subst hy
  exact kP (C:=doCon) (i:=(⟨s,hs⟩,⟨l,hl⟩)) hf rfl rfl rfl rfl (fun _ h=>h) rfl hk
end Go.Proofs
end
-- EAq0
section
namespace Go.Proofs
open Go Go.Rw
open _root_.Nat renaming reduceAdd → N0, reduceSub → N1, reduceMul → N2, reduceLT → N3, reduceLeDiff → N4, reduceEqDiff → N5
open _root_.Int renaming reduceNeg → Z0, reduceAdd → Z1, reduceSub → Z2, reduceMul → Z3, reduceGT → Z4, reduceGE → Z5, reduceLT → Z6, reduceLE → Z7, reduceEq → Z8, reduceNe → Z9, reduceToNat → Z10, cast_ofNat_Int → Zc
set_option maxRecDepth 100000
theorem cpts_len (t:List UInt8):(cpts t).length≤t.length:=by
  unfold cpts
  cases h:pts t with
  | none=>simp
  | some cs =>
    obtain ⟨_,e⟩:=kAi h
    have:=encs_le cs
    rw [← e] at this
    exact this
theorem kBz (t:List UInt8):cnt t=(cpts t).length:=by
  unfold cnt cpts
  cases h:pts t <;> rfl
end Go.Proofs
end
