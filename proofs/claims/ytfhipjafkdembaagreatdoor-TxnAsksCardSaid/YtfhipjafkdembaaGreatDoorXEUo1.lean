/-
  Counts of an edit's parts; which parts may be. What was done: rows of it; whom it was done to. An act,taken in. An act,taken in: the call,reckoned in place. Which edits may be. Parts put behind others; the normal form. The document's normal form. Parts held against each other; edits that are alike. Names: what may be one. Transactions: their acts,one by one. txn.names,Plain,same.
-/
import Derived.Test.YtfhipjafkdembaaGreatDoorXESh
import Derived.Test.YtfhipjafkdembaaGreatDoorRwF
import Derived.Test.YtfhipjafkdembaaGreatDoorRwJ
set_option linter.unusedSimpArgs false
set_option linter.unusedVariables false
set_option linter.defProp false
set_option linter.unusedSectionVars false

-- EUo1
section
namespace Go.Proofs
open Go Go.Rw
open _root_.Nat renaming reduceAdd → N0, reduceSub → N1, reduceMul → N2, reduceLT → N3, reduceLeDiff → N4, reduceEqDiff → N5
open _root_.Int renaming reduceNeg → Z0, reduceAdd → Z1, reduceSub → Z2, reduceMul → Z3, reduceGT → Z4, reduceGE → Z5, reduceLT → Z6, reduceLE → Z7, reduceEq → Z8, reduceNe → Z9, reduceToNat → Z10, cast_ofNat_Int → Zc
set_option maxRecDepth 100000
abbrev addCon:Con where
  ι:={ p:Int×Int // 0≤p.1∧p.1≤1099511627776∧0≤p.2∧p.2≤9223372036854775807 }
  args:=fun p=>[.v (.int .i64 p.1.1),.v (.int .i64 p.1.2)]
  post:=fun p r=>r = .v (.int .i64 (addI p.1.1 p.1.2))
  plain:=true
theorem add_good:Rw.Good Tryz.prog 169 addCon:=by
  have hΓ:kL Tryz.prog []:=kJ
  refine kW (nn:=12) hΓ Tryz.func169 (by kernel_rfl) rfl (show Tryz.f169.results.toList=[.tmp 4] from rfl) (fun _=>rfl) (fun _=>rfl) ?_
  rintro ⟨⟨n,m⟩,h1,h2,h3,h4⟩
  simp only at h1 h2 h3 h4 ⊢
  simp (disch:=omega) only [aR,N0,N1,N2,N3,N4,N5,Z0,Z1,Z2,Z3,Z4,Z5,Z6,Z7,Z8,Z9,Z10,Zc,↓reduceIte,reduceCtorEq,kA]
  (try ((with_reducible first | refine kD (fun q1=>?_) (fun q1=>?_) | refine kE (fun q1=>?_) (fun q1=>?_)) <;> simp (disch:=omega) only [aR,N0,N1,N2,N3,N4,N5,Z0,Z1,Z2,Z3,Z4,Z5,Z6,Z7,Z8,Z9,Z10,Zc,↓reduceIte,reduceCtorEq,kA,q1] <;> (with_reducible first | (refine And.intro ?_ ?_; focus (first | omega | exact kF | kernel_rfl)); (repeat (with_reducible refine And.intro ?_ ?_; focus (first | omega | exact kF | kernel_rfl))); (try simp (disch:=omega) only [aR,N0,N1,N2,N3,N4,N5,Z0,Z1,Z2,Z3,Z4,Z5,Z6,Z7,Z8,Z9,Z10,Zc,↓reduceIte,reduceCtorEq,kA,q1]) | skip) <;> skip))
  all_goals (unfold addI; omega)
theorem call_add {Γ:Env} (hf:Γ.get 169=some addCon) {σ:AS} {dr:Bool} {n m:Int} {d:Option Nat} {K:AS→Prop} (h:0≤n∧n≤1099511627776) (h2:0≤m∧m≤9223372036854775807)
    (hk:cont σ d (.v (.int .i64 (addI n m))) K):kR Tryz.prog Γ dr σ 169 [.v (.int .i64 n),.v (.int .i64 m)] d K :=
  kP (C:=addCon) (i:=⟨(n,m),h.1,h.2,h2.1,h2.2⟩) hf rfl rfl rfl rfl (fun _ h=>h) rfl hk
abbrev Ed:={ l:List Cp // okL l }
theorem kDL (l:List Cp):AV.erL (qB l)=qB l:=by
  induction l with
  | nil=>rfl
  | cons c r ih=>show AV.er (cA c)::AV.erL (qB r)=_; rw [ih]; rfl
abbrev kBD:Con where
  ι:=Ed
  args:=fun l=>[.sl 0 3 (qB l.1)]
  post:=fun l r=>r = .v (.int .i64 (kA0 l.1))
  plain:=true
theorem base_good:Rw.Good Tryz.prog 144 kBD:=by
  have hΓ:kL Tryz.prog [(169,addCon)]:=(kH add_good kJ)
  refine kW (nn:=26) hΓ Tryz.func144 (by kernel_rfl) rfl (show Tryz.f144.results.toList=[.tmp 2] from rfl) (fun _=>rfl) (fun _=>rfl) ?_
  rintro ⟨l,hl,htot,hc⟩
  simp only [aR,N0,N1,N2,N3,N4,N5,Z0,Z1,Z2,Z3,Z4,Z5,Z6,Z7,Z8,Z9,Z10,Zc,↓reduceIte,reduceCtorEq,kK]
  obtain ⟨St,hSt⟩:∃ St:{ p:Int×Nat // p.2≤l.length∧0≤p.1∧p.1≤1099511627776∧kA0 l=kEC p.1 (l.drop p.2) }→AS,∀ p,St p=AS.of 26 [(2,.v (.int .i64 p.1.1)),(5,.sl 0 3 (qB l)),(6,.v (.int .i64 l.length)),(7,.v (.int .i64 p.1.2))] [] []:=⟨_,fun _=>rfl⟩
  refine qE hΓ St (fun p=>l.length - p.1.2) ⟨(0,0),by omega,by omega,by omega,rfl⟩ (by rw [hSt]; refine kN [] [] ?_; simp only [aR,N0,N1,N2,N3,N4,N5,Z0,Z1,Z2,Z3,Z4,Z5,Z6,Z7,Z8,Z9,Z10,Zc,↓reduceIte,reduceCtorEq] <;> ((repeat' apply And.intro) <;> first | rfl | omega | trivial)) ?_
  rintro ⟨⟨n,i⟩,hi,hn1,hn2,hb⟩
  simp only at hi hn1 hn2 hb
  rw [hSt]
  simp only
  simp only [aR,N0,N1,N2,N3,N4,N5,Z0,Z1,Z2,Z3,Z4,Z5,Z6,Z7,Z8,Z9,Z10,Zc,↓reduceIte,reduceCtorEq]
  (with_reducible first | refine kD (fun h=>?_) (fun h=>?_) | refine kE (fun h=>?_) (fun h=>?_))
  · have hlt:i < l.length:=by omega
    have hci:=And.intro (hc l[i] (List.getElem_mem hlt)) (okL.text ⟨hl,htot,hc⟩ (List.getElem_mem hlt))
    have e1:=qH l hlt
    rw [List.drop_eq_getElem_cons hlt] at hb
    simp only [kEC] at hb
    generalize l[i]=c at *
    obtain ⟨k,m,t⟩:=c
    simp only at hci hb e1
    have yes:(k=1∨k=3)→kA0 l=kEC (addI n (max m 0)) (l.drop (i+1)):=fun h=>by rw [hb,if_pos h]
    have no:¬ (k=1∨k=3)→kA0 l=kEC n (l.drop (i+1)):=fun h=>by rw [hb,if_neg h]
    have hr:=qR hn1 (show 0≤max m 0 by omega)
    simp (disch:=omega) only [aR,N0,N1,N2,N3,N4,N5,Z0,Z1,Z2,Z3,Z4,Z5,Z6,Z7,Z8,Z9,Z10,Zc,↓reduceIte,reduceCtorEq,kA,h,e1,kK]
    (repeat (with_reducible refine And.intro ?_ ?_; focus (first | omega | exact kF | kernel_rfl)))
    (try ((with_reducible first | refine kD (fun q1=>?_) (fun q1=>?_) | refine kE (fun q1=>?_) (fun q1=>?_)) <;> simp (disch:=omega) only [aR,N0,N1,N2,N3,N4,N5,Z0,Z1,Z2,Z3,Z4,Z5,Z6,Z7,Z8,Z9,Z10,Zc,↓reduceIte,reduceCtorEq,kA,q1,z8] <;> (with_reducible first | (refine And.intro ?_ ?_; focus (first | omega | exact kF | kernel_rfl)); (repeat (with_reducible refine And.intro ?_ ?_; focus (first | omega | exact kF | kernel_rfl))); (try simp (disch:=omega) only [aR,N0,N1,N2,N3,N4,N5,Z0,Z1,Z2,Z3,Z4,Z5,Z6,Z7,Z8,Z9,Z10,Zc,↓reduceIte,reduceCtorEq,kA,q1,z8]) | skip) <;> (try ((with_reducible first | refine kD (fun q2=>?_) (fun q2=>?_) | refine kE (fun q2=>?_) (fun q2=>?_)) <;> simp (disch:=omega) only [aR,N0,N1,N2,N3,N4,N5,Z0,Z1,Z2,Z3,Z4,Z5,Z6,Z7,Z8,Z9,Z10,Zc,↓reduceIte,reduceCtorEq,kA,q2,z8] <;> (with_reducible first | (refine And.intro ?_ ?_; focus (first | omega | exact kF | kernel_rfl)); (repeat (with_reducible refine And.intro ?_ ?_; focus (first | omega | exact kF | kernel_rfl))); (try simp (disch:=omega) only [aR,N0,N1,N2,N3,N4,N5,Z0,Z1,Z2,Z3,Z4,Z5,Z6,Z7,Z8,Z9,Z10,Zc,↓reduceIte,reduceCtorEq,kA,q2,z8]) | skip) <;> skip))))
    all_goals first
      | (refine call_add (by simp [kI]) ⟨hn1,hn2⟩ (by omega) ?_
         simp (disch:=omega) only [aR,N0,N1,N2,N3,N4,N5,Z0,Z1,Z2,Z3,Z4,Z5,Z6,Z7,Z8,Z9,Z10,Zc,↓reduceIte,reduceCtorEq,kA]
         refine kO ⟨(addI n (max m 0),i+1),by omega,hr.1,hr.2,yes (by omega)⟩ (by simp only; omega) ?_
         rw [hSt]; refine kN [] [] ?_
         simp only [aR,N0,N1,N2,N3,N4,N5,Z0,Z1,Z2,Z3,Z4,Z5,Z6,Z7,Z8,Z9,Z10,Zc,↓reduceIte,reduceCtorEq] <;> ((repeat' apply And.intro) <;> first | rfl | omega | trivial))
      | (refine kO ⟨(n,i+1),by omega,hn1,hn2,no (by omega)⟩ (by simp only; omega) ?_
         rw [hSt]; refine kN [] [] ?_
         simp only [aR,N0,N1,N2,N3,N4,N5,Z0,Z1,Z2,Z3,Z4,Z5,Z6,Z7,Z8,Z9,Z10,Zc,↓reduceIte,reduceCtorEq] <;> ((repeat' apply And.intro) <;> first | rfl | omega | trivial))
      | trace_state
  · simp only [aR,N0,N1,N2,N3,N4,N5,Z0,Z1,Z2,Z3,Z4,Z5,Z6,Z7,Z8,Z9,Z10,Zc,↓reduceIte,reduceCtorEq,h]
    rw [List.drop_of_length_le (by omega)] at hb
    rw [hb]; rfl
theorem call_base {Γ:Env} (hf:Γ.get 144=some kBD) {σ:AS} {dr:Bool} {l:List Cp} {t:Nat} {ys:List AV} {d:Option Nat} {K:AS→Prop} (hy:ys=qB l) (h:okL l)
    (hk:cont σ d (.v (.int .i64 (kA0 l))) K):kR Tryz.prog Γ dr σ 144 [.sl t 3 ys] d K:=by
  subst hy
  exact kP (C:=kBD) (i:=⟨l,h⟩) hf rfl rfl rfl rfl (fun _ h=>h) rfl hk
abbrev rcCon:Con where
  ι:=Str
  args:=fun s=>[.v (sv s.1)]
  post:=fun s r=>r = .v (.int .i64 (lc s.1))
  plain:=true
theorem dec2_lc {s:List UInt8} {p:Nat}:dec2 s p=(Lib.decodeL (s.drop p)).2:=by unfold dec2; rw [kCy]
theorem rc_good:Rw.Good Tryz.prog 115 rcCon:=by
  have hΓ:kL Tryz.prog []:=kJ
  refine kW (nn:=10) hΓ Tryz.func115 (by kernel_rfl) rfl (show Tryz.f115.results.toList=[.tmp 2] from rfl) (fun _=>rfl) (fun _=>rfl) ?_
  rintro ⟨s,hs⟩
  simp only [aR,N0,N1,N2,N3,N4,N5,Z0,Z1,Z2,Z3,Z4,Z5,Z6,Z7,Z8,Z9,Z10,Zc,↓reduceIte,reduceCtorEq]
  have hll:=lc_len s
  obtain ⟨St,hSt⟩:∃ St:{ p:Nat×Nat // p.1+lc (s.drop p.2)=lc s }→AS,∀ p,St p=AS.of 10 [(2,.v (.int .i64 p.1.1)),(4,.ptr 0 0)] [.iter ⟨s.toArray⟩ p.1.2] []:=⟨_,fun _=>rfl⟩
  refine qE hΓ St (fun p=>s.length - p.1.2) ⟨(0,0),by simp⟩ (by rw [hSt]; refine kN [0] [] ?_; simp only [aR,N0,N1,N2,N3,N4,N5,Z0,Z1,Z2,Z3,Z4,Z5,Z6,Z7,Z8,Z9,Z10,Zc,↓reduceIte,reduceCtorEq] <;> ((repeat' apply And.intro) <;> first | rfl | omega | trivial)) ?_
  rintro ⟨⟨n,p⟩,hn⟩
  simp only at hn
  rw [hSt]
  simp only
  simp only [aR,N0,N1,N2,N3,N4,N5,Z0,Z1,Z2,Z3,Z4,Z5,Z6,Z7,Z8,Z9,Z10,Zc,↓reduceIte,reduceCtorEq]
  by_cases hp:p < s.length
  · rw [nextO_in hp]
    have hw:=Lib.decodeL_width (s.drop p)
    rw [lc_step (drop_ne hp),List.drop_drop] at hn
    simp (disch:=omega) only [aR,N0,N1,N2,N3,N4,N5,Z0,Z1,Z2,Z3,Z4,Z5,Z6,Z7,Z8,Z9,Z10,Zc,↓reduceIte,reduceCtorEq,kA,dec2_lc]
    refine kO ⟨(n+1,p+(Lib.decodeL (s.drop p)).2),by simp only; omega⟩ (by simp only; omega) ?_
    rw [hSt]; refine kN [0] [] ?_
    simp only [aR,N0,N1,N2,N3,N4,N5,Z0,Z1,Z2,Z3,Z4,Z5,Z6,Z7,Z8,Z9,Z10,Zc,↓reduceIte,reduceCtorEq] <;> ((repeat' apply And.intro) <;> first | rfl | omega | trivial)
  · rw [nextO_end hp]
    rw [List.drop_of_length_le (by omega),lc_nil] at hn
    simp only [aR,N0,N1,N2,N3,N4,N5,Z0,Z1,Z2,Z3,Z4,Z5,Z6,Z7,Z8,Z9,Z10,Zc,↓reduceIte,reduceCtorEq]
    omega
theorem call_rc {Γ:Env} (hf:Γ.get 115=some rcCon) {σ:AS} {dr:Bool} {l:List UInt8} {d:Option Nat} {K:AS→Prop} (h:l.length≤1099511627776)
    (hk:cont σ d (.v (.int .i64 (lc l))) K):kR Tryz.prog Γ dr σ 115 [.v (sv l)] d K :=
  kP (C:=rcCon) (i:=⟨l,h⟩) hf rfl rfl rfl rfl (fun _ h=>h) rfl hk
abbrev kDo:Con where
  ι:=Ed
  args:=fun l=>[.sl 0 3 (qB l.1)]
  post:=fun l r=>r = .v (.int .i64 (outL l.1))
  plain:=true
theorem out_good:Rw.Good Tryz.prog 145 kDo:=by
  have hΓ:kL Tryz.prog [(169,addCon),(115,rcCon)]:=(kH add_good (kH rc_good kJ))
  refine kW (nn:=29) hΓ Tryz.func145 (by kernel_rfl) rfl (show Tryz.f145.results.toList=[.tmp 2] from rfl) (fun _=>rfl) (fun _=>rfl) ?_
  rintro ⟨l,hl,htot,hc⟩
  simp only [aR,N0,N1,N2,N3,N4,N5,Z0,Z1,Z2,Z3,Z4,Z5,Z6,Z7,Z8,Z9,Z10,Zc,↓reduceIte,reduceCtorEq,kK]
  obtain ⟨St,hSt⟩:∃ St:{ p:Int×Nat // p.2≤l.length∧0≤p.1∧p.1≤1099511627776∧outL l=outF p.1 (l.drop p.2) }→AS,∀ p,St p=AS.of 29 [(2,.v (.int .i64 p.1.1)),(5,.sl 0 3 (qB l)),(6,.v (.int .i64 l.length)),(7,.v (.int .i64 p.1.2))] [] []:=⟨_,fun _=>rfl⟩
  refine qE hΓ St (fun p=>l.length - p.1.2) ⟨(0,0),by omega,by omega,by omega,rfl⟩ (by rw [hSt]; refine kN [] [] ?_; simp only [aR,N0,N1,N2,N3,N4,N5,Z0,Z1,Z2,Z3,Z4,Z5,Z6,Z7,Z8,Z9,Z10,Zc,↓reduceIte,reduceCtorEq] <;> ((repeat' apply And.intro) <;> first | rfl | omega | trivial)) ?_
  rintro ⟨⟨n,i⟩,hi,hn1,hn2,hb⟩
  simp only at hi hn1 hn2 hb
  rw [hSt]
  simp only
  simp only [aR,N0,N1,N2,N3,N4,N5,Z0,Z1,Z2,Z3,Z4,Z5,Z6,Z7,Z8,Z9,Z10,Zc,↓reduceIte,reduceCtorEq]
  (with_reducible first | refine kD (fun h=>?_) (fun h=>?_) | refine kE (fun h=>?_) (fun h=>?_))
  · have hlt:i < l.length:=by omega
    have hci:=And.intro (hc l[i] (List.getElem_mem hlt)) (okL.text ⟨hl,htot,hc⟩ (List.getElem_mem hlt))
    have e1:=qH l hlt
    rw [List.drop_eq_getElem_cons hlt] at hb
    simp only [outF] at hb
    generalize l[i]=c at *
    obtain ⟨k,m,t⟩:=c
    simp only at hci hb e1
    have hl1:k=1→outL l=outF (addI n (max m 0)) (l.drop (i+1)):=fun h=>by rw [hb,if_pos h]
    have hl2:¬ k=1→k=2→outL l=outF (addI n (lc t)) (l.drop (i+1)):=fun h h2=>by rw [hb,if_neg h,if_pos h2]
    have hl3:¬ k=1→¬ k=2→outL l=outF n (l.drop (i+1)):=fun h h2=>by rw [hb,if_neg h,if_neg h2]
    have hr:=qR hn1 (show 0≤max m 0 by omega)
    have hr2:=qR hn1 (show 0≤(lc t:Int) by omega)
    have hlt2:=lc_len t
    simp (disch:=omega) only [aR,N0,N1,N2,N3,N4,N5,Z0,Z1,Z2,Z3,Z4,Z5,Z6,Z7,Z8,Z9,Z10,Zc,↓reduceIte,reduceCtorEq,kA,h,e1,kK]
    (repeat (with_reducible refine And.intro ?_ ?_; focus (first | omega | exact kF | kernel_rfl)))
    (try ((with_reducible first | refine kD (fun q1=>?_) (fun q1=>?_) | refine kE (fun q1=>?_) (fun q1=>?_)) <;> simp (disch:=omega) only [aR,N0,N1,N2,N3,N4,N5,Z0,Z1,Z2,Z3,Z4,Z5,Z6,Z7,Z8,Z9,Z10,Zc,↓reduceIte,reduceCtorEq,kA,q1,z8] <;> (with_reducible first | (refine And.intro ?_ ?_; focus (first | omega | exact kF | kernel_rfl)); (repeat (with_reducible refine And.intro ?_ ?_; focus (first | omega | exact kF | kernel_rfl))); (try simp (disch:=omega) only [aR,N0,N1,N2,N3,N4,N5,Z0,Z1,Z2,Z3,Z4,Z5,Z6,Z7,Z8,Z9,Z10,Zc,↓reduceIte,reduceCtorEq,kA,q1,z8]) | skip) <;> (try ((with_reducible first | refine kD (fun q2=>?_) (fun q2=>?_) | refine kE (fun q2=>?_) (fun q2=>?_)) <;> simp (disch:=omega) only [aR,N0,N1,N2,N3,N4,N5,Z0,Z1,Z2,Z3,Z4,Z5,Z6,Z7,Z8,Z9,Z10,Zc,↓reduceIte,reduceCtorEq,kA,q2,z8] <;> (with_reducible first | (refine And.intro ?_ ?_; focus (first | omega | exact kF | kernel_rfl)); (repeat (with_reducible refine And.intro ?_ ?_; focus (first | omega | exact kF | kernel_rfl))); (try simp (disch:=omega) only [aR,N0,N1,N2,N3,N4,N5,Z0,Z1,Z2,Z3,Z4,Z5,Z6,Z7,Z8,Z9,Z10,Zc,↓reduceIte,reduceCtorEq,kA,q2,z8]) | skip) <;> skip))))
    all_goals first
      | (refine call_add (by simp [kI]) ⟨hn1,hn2⟩ (by omega) ?_
         simp (disch:=omega) only [aR,N0,N1,N2,N3,N4,N5,Z0,Z1,Z2,Z3,Z4,Z5,Z6,Z7,Z8,Z9,Z10,Zc,↓reduceIte,reduceCtorEq,kA]
         refine kO ⟨(addI n (max m 0),i+1),by omega,hr.1,hr.2,hl1 (by omega)⟩ (by simp only; omega) ?_
         rw [hSt]; refine kN [] [] ?_
         simp only [aR,N0,N1,N2,N3,N4,N5,Z0,Z1,Z2,Z3,Z4,Z5,Z6,Z7,Z8,Z9,Z10,Zc,↓reduceIte,reduceCtorEq] <;> ((repeat' apply And.intro) <;> first | rfl | omega | trivial))
      | (refine call_rc (by simp [kI]) hci.2 ?_
         simp (disch:=omega) only [aR,N0,N1,N2,N3,N4,N5,Z0,Z1,Z2,Z3,Z4,Z5,Z6,Z7,Z8,Z9,Z10,Zc,↓reduceIte,reduceCtorEq,kA]
         refine call_add (by simp [kI]) ⟨hn1,hn2⟩ (by omega) ?_
         simp (disch:=omega) only [aR,N0,N1,N2,N3,N4,N5,Z0,Z1,Z2,Z3,Z4,Z5,Z6,Z7,Z8,Z9,Z10,Zc,↓reduceIte,reduceCtorEq,kA]
         refine kO ⟨(addI n (lc t),i+1),by omega,hr2.1,hr2.2,hl2 (by omega) (by omega)⟩ (by simp only; omega) ?_
         rw [hSt]; refine kN [] [] ?_
         simp only [aR,N0,N1,N2,N3,N4,N5,Z0,Z1,Z2,Z3,Z4,Z5,Z6,Z7,Z8,Z9,Z10,Zc,↓reduceIte,reduceCtorEq] <;> ((repeat' apply And.intro) <;> first | rfl | omega | trivial))
      | (refine kO ⟨(n,i+1),by omega,hn1,hn2,hl3 (by omega) (by omega)⟩ (by simp only; omega) ?_
         rw [hSt]; refine kN [] [] ?_
         simp only [aR,N0,N1,N2,N3,N4,N5,Z0,Z1,Z2,Z3,Z4,Z5,Z6,Z7,Z8,Z9,Z10,Zc,↓reduceIte,reduceCtorEq] <;> ((repeat' apply And.intro) <;> first | rfl | omega | trivial))
      | trace_state
  · simp only [aR,N0,N1,N2,N3,N4,N5,Z0,Z1,Z2,Z3,Z4,Z5,Z6,Z7,Z8,Z9,Z10,Zc,↓reduceIte,reduceCtorEq,h]
    rw [List.drop_of_length_le (by omega)] at hb
    rw [hb]; rfl
theorem call_out {Γ:Env} (hf:Γ.get 145=some kDo) {σ:AS} {dr:Bool} {l:List Cp} {t:Nat} {ys:List AV} {d:Option Nat} {K:AS→Prop} (hy:ys=qB l) (h:okL l)
    (hk:cont σ d (.v (.int .i64 (outL l))) K):kR Tryz.prog Γ dr σ 145 [.sl t 3 ys] d K:=by
  subst hy
  exact kP (C:=kDo) (i:=⟨l,h⟩) hf rfl rfl rfl rfl (fun _ h=>h) rfl hk
abbrev partCon (F:Cp→Bool):Con where
  ι:={ c:Cp // c.t.length≤1099511627776 }
  args:=fun c=>[cA c.1]
  post:=fun c r=>r = .v (.bool (F c.1))
  plain:=true
theorem sound_good:Rw.Good Tryz.prog 168 (partCon qV):=by
  have hΓ:kL Tryz.prog [(120,kAH)]:=(kH kGI kJ)
  refine kW (nn:=31) hΓ Tryz.func168 (by kernel_rfl) rfl (show Tryz.f168.results.toList=[.tmp 2] from rfl) (fun _=>rfl) (fun _=>rfl) ?_
  rintro ⟨⟨k,n,t⟩,ht⟩
  simp only at ht
  simp only [aR,N0,N1,N2,N3,N4,N5,Z0,Z1,Z2,Z3,Z4,Z5,Z6,Z7,Z8,Z9,Z10,Zc,↓reduceIte,reduceCtorEq,cA,qV]
  (try ((with_reducible first | refine kD (fun q1=>?_) (fun q1=>?_) | refine kE (fun q1=>?_) (fun q1=>?_)) <;> simp (disch:=omega) only [aR,N0,N1,N2,N3,N4,N5,Z0,Z1,Z2,Z3,Z4,Z5,Z6,Z7,Z8,Z9,Z10,Zc,↓reduceIte,reduceCtorEq,kA,q1] <;> (with_reducible first | (refine And.intro ?_ ?_; focus (first | omega | exact kF | kernel_rfl)); (repeat (with_reducible refine And.intro ?_ ?_; focus (first | omega | exact kF | kernel_rfl))); (try simp (disch:=omega) only [aR,N0,N1,N2,N3,N4,N5,Z0,Z1,Z2,Z3,Z4,Z5,Z6,Z7,Z8,Z9,Z10,Zc,↓reduceIte,reduceCtorEq,kA,q1]) | skip) <;> (try ((with_reducible first | refine kD (fun q2=>?_) (fun q2=>?_) | refine kE (fun q2=>?_) (fun q2=>?_)) <;> simp (disch:=omega) only [aR,N0,N1,N2,N3,N4,N5,Z0,Z1,Z2,Z3,Z4,Z5,Z6,Z7,Z8,Z9,Z10,Zc,↓reduceIte,reduceCtorEq,kA,q2] <;> (with_reducible first | (refine And.intro ?_ ?_; focus (first | omega | exact kF | kernel_rfl)); (repeat (with_reducible refine And.intro ?_ ?_; focus (first | omega | exact kF | kernel_rfl))); (try simp (disch:=omega) only [aR,N0,N1,N2,N3,N4,N5,Z0,Z1,Z2,Z3,Z4,Z5,Z6,Z7,Z8,Z9,Z10,Zc,↓reduceIte,reduceCtorEq,kA,q2]) | skip) <;> (try ((with_reducible first | refine kD (fun q3=>?_) (fun q3=>?_) | refine kE (fun q3=>?_) (fun q3=>?_)) <;> simp (disch:=omega) only [aR,N0,N1,N2,N3,N4,N5,Z0,Z1,Z2,Z3,Z4,Z5,Z6,Z7,Z8,Z9,Z10,Zc,↓reduceIte,reduceCtorEq,kA,q3] <;> (with_reducible first | (refine And.intro ?_ ?_; focus (first | omega | exact kF | kernel_rfl)); (repeat (with_reducible refine And.intro ?_ ?_; focus (first | omega | exact kF | kernel_rfl))); (try simp (disch:=omega) only [aR,N0,N1,N2,N3,N4,N5,Z0,Z1,Z2,Z3,Z4,Z5,Z6,Z7,Z8,Z9,Z10,Zc,↓reduceIte,reduceCtorEq,kA,q3]) | skip) <;> (try ((with_reducible first | refine kD (fun q4=>?_) (fun q4=>?_) | refine kE (fun q4=>?_) (fun q4=>?_)) <;> simp (disch:=omega) only [aR,N0,N1,N2,N3,N4,N5,Z0,Z1,Z2,Z3,Z4,Z5,Z6,Z7,Z8,Z9,Z10,Zc,↓reduceIte,reduceCtorEq,kA,q4] <;> (with_reducible first | (refine And.intro ?_ ?_; focus (first | omega | exact kF | kernel_rfl)); (repeat (with_reducible refine And.intro ?_ ?_; focus (first | omega | exact kF | kernel_rfl))); (try simp (disch:=omega) only [aR,N0,N1,N2,N3,N4,N5,Z0,Z1,Z2,Z3,Z4,Z5,Z6,Z7,Z8,Z9,Z10,Zc,↓reduceIte,reduceCtorEq,kA,q4]) | skip) <;> skip))))))))
  all_goals first
    | done
    | (refine kGA (by simp [kI]) ht ?_
       simp only [aR,N0,N1,N2,N3,N4,N5,Z0,Z1,Z2,Z3,Z4,Z5,Z6,Z7,Z8,Z9,Z10,Zc,↓reduceIte,reduceCtorEq] <;> simp [*])
    | (simp [*]; done)
    | trace_state
theorem call_sound {Γ:Env} (hf:Γ.get 168=some (partCon qV)) {σ:AS} {dr:Bool} {c:Cp} {d:Option Nat} {K:AS→Prop} (h:c.t.length≤1099511627776)
    (hk:cont σ d (.v (.bool (qV c))) K):kR Tryz.prog Γ dr σ 168 [.agg [.v (.int .i64 c.k),.v (.int .i64 c.n),.v (sv c.t)]] d K :=
  kP (C:=partCon qV) (i:=⟨c,h⟩) hf rfl rfl rfl rfl (fun _ h=>h) rfl hk
end Go.Proofs
end
-- EUe1
section
namespace Go.Proofs
open Go Go.Rw
set_option maxRecDepth 100000
structure On where
  id:Int
  ops:List Cp
  ed:Bool
  rm:Bool
  cr:Bool
  mv:Bool
  par:Int
  nm:List UInt8
  deriving Inhabited,DecidableEq
structure Ac where
  k:Int
  id:Int
  par:Int
  nm:List UInt8
  dir:Bool
  ops:List Cp
  deriving Inhabited,DecidableEq
def oA (x:On):AV:=.agg [.v (.int .i64 x.id),.sl 0 3 (qB x.ops),.v (.bool x.ed),.v (.bool x.rm),.v (.bool x.cr),.v (.bool x.mv),.v (.int .i64 x.par),.v (sv x.nm)]
def aA (x:Ac):AV:=.agg [.v (.int .i64 x.k),.v (.int .i64 x.id),.v (.int .i64 x.par),.v (sv x.nm),.v (.bool x.dir),.sl 0 3 (qB x.ops)]
def ones (l:List On):List AV:=l.map oA
def acts (l:List Ac):List AV:=l.map aA
theorem kS (l:List Ac):(acts l).length=l.length:=by simp [acts]
theorem zD (l:List Ac) {i:Nat} (h:i < l.length):(acts l).getD i .any=aA l[i]:=by simp [acts,List.getD_eq_getElem?_getD,h]
theorem kEA (x:Ac):(aA x).er=aA x:=by simp [aA,AV.er,AV.erL,kDL]
theorem jT:∀ l:List Ac,AV.erL (acts l)=acts l
  | []=>rfl
  | x::l=>by show (aA x).er::AV.erL (acts l)=_; rw [kEA,jT l]; rfl
end Go.Proofs
end
-- EUe2
section
namespace Go.Proofs
open Go Go.Rw
open _root_.Nat renaming reduceAdd → N0, reduceSub → N1, reduceMul → N2, reduceLT → N3, reduceLeDiff → N4, reduceEqDiff → N5
open _root_.Int renaming reduceNeg → Z0, reduceAdd → Z1, reduceSub → Z2, reduceMul → Z3, reduceGT → Z4, reduceGE → Z5, reduceLT → Z6, reduceLE → Z7, reduceEq → Z8, reduceNe → Z9, reduceToNat → Z10, cast_ofNat_Int → Zc
set_option maxRecDepth 100000
abbrev kEZ:Con where
  ι:=Ed
  args:=fun l=>[.sl 0 3 (qB l.1)]
  post:=fun l r=>r = .sl 0 3 (qB l.1)
theorem clone_good:Rw.Good Tryz.prog 90 kEZ:=by
  have hΓ:kL Tryz.prog []:=kJ
  refine kW (nn:=8) hΓ Tryz.func90 (by kernel_rfl) rfl (show Tryz.f90.results.toList=[.tmp 2] from rfl) (fun _=>rfl) (fun _=>rfl) ?_
  rintro ⟨l,ol⟩
  have hl:=ol.1
  simp only [aR,N0,N1,N2,N3,N4,N5,Z0,Z1,Z2,Z3,Z4,Z5,Z6,Z7,Z8,Z9,Z10,Zc,↓reduceIte,reduceCtorEq,kK]
  refine ⟨fun h=>?_,fun _=>?_⟩
  · have he:l=[]:=by
      rcases h with h | h
      · cases h
      · cases l with
        | nil=>rfl
        | cons c l=>cases h
    subst he
    simp only [aR,N0,N1,N2,N3,N4,N5,Z0,Z1,Z2,Z3,Z4,Z5,Z6,Z7,Z8,Z9,Z10,Zc,↓reduceIte,reduceCtorEq,zP]
  · simp only [aR,N0,N1,N2,N3,N4,N5,Z0,Z1,Z2,Z3,Z4,Z5,Z6,Z7,Z8,Z9,Z10,Zc,↓reduceIte,reduceCtorEq,kK,List.length_nil]
    try (repeat (with_reducible refine And.intro ?_ ?_; focus (first | omega | exact kF | kernel_rfl)))
    ((repeat' apply And.intro) <;> first | rfl | omega | trivial)
theorem call_clone {Γ:Env} (hf:Γ.get 90=some kEZ) {σ:AS} {dr:Bool} {a:List Cp} {ys:List AV} {d:Option Nat} {K:AS→Prop} (hy:ys=qB a) (oa:okL a)
    (hk:cont σ d (.sl 0 3 (qB a)) K):kR Tryz.prog Γ dr σ 90 [.sl 0 3 ys] d K:=by
  subst hy
  exact kAX (C:=kEZ) (i:=⟨a,oa⟩) (r:=.sl 0 3 (qB a)) hf rfl rfl rfl rfl (fun _ h=>h) hk
end Go.Proofs
end
-- EUe2b
section
namespace Go.Proofs
open Go Go.Rw
set_option maxRecDepth 100000
end Go.Proofs
end
-- EUo2
section
namespace Go.Proofs
open Go Go.Rw
open _root_.Nat renaming reduceAdd → N0, reduceSub → N1, reduceMul → N2, reduceLT → N3, reduceLeDiff → N4, reduceEqDiff → N5
open _root_.Int renaming reduceNeg → Z0, reduceAdd → Z1, reduceSub → Z2, reduceMul → Z3, reduceGT → Z4, reduceGE → Z5, reduceLT → Z6, reduceLE → Z7, reduceEq → Z8, reduceNe → Z9, reduceToNat → Z10, cast_ofNat_Int → Zc
set_option maxRecDepth 100000
abbrev soundCon:Con:=partCon qV
def ahead (l:List Cp) (i:Nat):Option Cp:=if i=0 then none else l[i - 1]?
abbrev kAA:Con where
  ι:=Ed
  args:=fun l=>[.sl 0 3 (qB l.1)]
  post:=fun l r=>r = .v (.bool (qJ l.1))
  plain:=true
theorem normal_good:Rw.Good Tryz.prog 143 kAA:=by
  have hΓ:kL Tryz.prog [(168,soundCon)]:=(kH sound_good kJ)
  refine kW (nn:=45) hΓ Tryz.func143 (by kernel_rfl) rfl (show Tryz.f143.results.toList=[.tmp 2] from rfl) (fun _=>rfl) (fun _=>rfl) ?_
  rintro ⟨l,hl,htot,hc⟩
  simp only [aR,N0,N1,N2,N3,N4,N5,Z0,Z1,Z2,Z3,Z4,Z5,Z6,Z7,Z8,Z9,Z10,Zc,↓reduceIte,reduceCtorEq,kK]
  obtain ⟨St,hSt⟩:∃ St:{ i:Nat // i≤l.length∧qJ l=zX (ahead l i) (l.drop i) }→AS,∀ i,St i=AS.of 45 [(0,.sl 0 3 (qB l)),(5,.sl 0 3 (qB l)),(6,.v (.int .i64 l.length)),(7,.v (.int .i64 i.1))] [] []:=⟨_,fun _=>rfl⟩
  refine qE hΓ St (fun i=>l.length - i.1) ⟨0,by omega,rfl⟩ (by rw [hSt]; refine kN [] [] ?_; simp only [aR,N0,N1,N2,N3,N4,N5,Z0,Z1,Z2,Z3,Z4,Z5,Z6,Z7,Z8,Z9,Z10,Zc,↓reduceIte,reduceCtorEq] <;> ((repeat' apply And.intro) <;> first | rfl | omega | trivial)) ?_
  rintro ⟨i,hi,hb⟩
  rw [hSt]
  simp only
  simp only [aR,N0,N1,N2,N3,N4,N5,Z0,Z1,Z2,Z3,Z4,Z5,Z6,Z7,Z8,Z9,Z10,Zc,↓reduceIte,reduceCtorEq]
  (with_reducible first | refine kD (fun h=>?_) (fun h=>?_) | refine kE (fun h=>?_) (fun h=>?_))
  · have hlt:i < l.length:=by omega
    have hci:=okL.text ⟨hl,htot,hc⟩ (List.getElem_mem hlt)
    have e1:=qH l hlt
    rw [List.drop_eq_getElem_cons hlt] at hb
    simp only [zX] at hb
    have hne:ahead l (i+1)=some l[i]:=by simp [ahead,hlt]
    rw [← hne] at hb
    simp (disch:=omega) only [aR,N0,N1,N2,N3,N4,N5,Z0,Z1,Z2,Z3,Z4,Z5,Z6,Z7,Z8,Z9,Z10,Zc,↓reduceIte,reduceCtorEq,kA,h,e1,kK]
    (repeat (with_reducible refine And.intro ?_ ?_; focus (first | omega | exact kF | kernel_rfl)))
    refine call_sound (by simp [kI]) hci ?_
    have again:∀ σ:AS,Weak σ (AS.of 45 [(0,.sl 0 3 (qB l)),(5,.sl 0 3 (qB l)),(6,.v (.int .i64 l.length)),(7,.v (.int .i64 (i+1:Nat)))] [] [])→qJ l=zX (ahead l (i+1)) (l.drop (i+1))→∀ (x:{ i:Nat // i≤l.length∧qJ l=zX (ahead l i) (l.drop i) }),x.1=i→kDk St (fun i=>l.length - i.1) x σ:=fun σ hw hb2 x hx =>
      kO ⟨i+1,by omega,hb2⟩ (by simp only; omega) (by rw [hSt]; exact hw)
    cases hs:qV l[i] with
    | false =>
      simp only [aR,N0,N1,N2,N3,N4,N5,Z0,Z1,Z2,Z3,Z4,Z5,Z6,Z7,Z8,Z9,Z10,Zc,↓reduceIte,reduceCtorEq,hs]
      rw [hb,hs]; rfl
    | true =>
      rw [hs,Bool.true_and] at hb
      by_cases h0:i=0
      · subst h0
        simp only [aR,N0,N1,N2,N3,N4,N5,Z0,Z1,Z2,Z3,Z4,Z5,Z6,Z7,Z8,Z9,Z10,Zc,↓reduceIte,reduceCtorEq,hs]
        have hb3:qJ l=zX (ahead l (0+1)) (l.drop (0+1)):=by
          rw [hb]; rfl
        refine again _ ?_ hb3 _ rfl
        refine kN [] [] ?_
        simp only [aR,N0,N1,N2,N3,N4,N5,Z0,Z1,Z2,Z3,Z4,Z5,Z6,Z7,Z8,Z9,Z10,Zc,↓reduceIte,reduceCtorEq] <;> ((repeat' apply And.intro) <;> first | rfl | omega | trivial)
      · have hp:ahead l i=some l[i - 1]:=by simp [ahead,h0]
        have e2:(qB l).getD (i - 1) .any = .agg [.v (.int .i64 l[i - 1].k),.v (.int .i64 l[i - 1].n),.v (sv l[i - 1].t)]:=qH l (by omega)
        have e3:((i:Int) - 1).toNat=i - 1:=by omega
        rw [hp] at hb
        simp only at hb
        simp (disch:=omega) only [aR,N0,N1,N2,N3,N4,N5,Z0,Z1,Z2,Z3,Z4,Z5,Z6,Z7,Z8,Z9,Z10,Zc,↓reduceIte,reduceCtorEq,kA,hs,show (i:Int) > 0 by omega,kK,e3,e2]
        (repeat (with_reducible refine And.intro ?_ ?_; focus (first | omega | exact kF | kernel_rfl)))
        have fol:follows l[i - 1] l[i]=true→qJ l=zX (ahead l (i+1)) (l.drop (i+1)):=fun h=>by rw [hb,h,Bool.true_and]
        have nof:follows l[i - 1] l[i]=false→qJ l=false:=fun h=>by rw [hb,h,Bool.false_and]
        (try ((with_reducible first | refine kD (fun q1=>?_) (fun q1=>?_) | refine kE (fun q1=>?_) (fun q1=>?_)) <;> simp (disch:=omega) only [aR,N0,N1,N2,N3,N4,N5,Z0,Z1,Z2,Z3,Z4,Z5,Z6,Z7,Z8,Z9,Z10,Zc,↓reduceIte,reduceCtorEq,kA,q1,kK,e3,e2] <;> (with_reducible first | (refine And.intro ?_ ?_; focus (first | omega | exact kF | kernel_rfl)); (repeat (with_reducible refine And.intro ?_ ?_; focus (first | omega | exact kF | kernel_rfl))); (try simp (disch:=omega) only [aR,N0,N1,N2,N3,N4,N5,Z0,Z1,Z2,Z3,Z4,Z5,Z6,Z7,Z8,Z9,Z10,Zc,↓reduceIte,reduceCtorEq,kA,q1,kK,e3,e2]) | skip) <;> (try ((with_reducible first | refine kD (fun q2=>?_) (fun q2=>?_) | refine kE (fun q2=>?_) (fun q2=>?_)) <;> simp (disch:=omega) only [aR,N0,N1,N2,N3,N4,N5,Z0,Z1,Z2,Z3,Z4,Z5,Z6,Z7,Z8,Z9,Z10,Zc,↓reduceIte,reduceCtorEq,kA,q2,kK,e3,e2] <;> (with_reducible first | (refine And.intro ?_ ?_; focus (first | omega | exact kF | kernel_rfl)); (repeat (with_reducible refine And.intro ?_ ?_; focus (first | omega | exact kF | kernel_rfl))); (try simp (disch:=omega) only [aR,N0,N1,N2,N3,N4,N5,Z0,Z1,Z2,Z3,Z4,Z5,Z6,Z7,Z8,Z9,Z10,Zc,↓reduceIte,reduceCtorEq,kA,q2,kK,e3,e2]) | skip) <;> (try ((with_reducible first | refine kD (fun q3=>?_) (fun q3=>?_) | refine kE (fun q3=>?_) (fun q3=>?_)) <;> simp (disch:=omega) only [aR,N0,N1,N2,N3,N4,N5,Z0,Z1,Z2,Z3,Z4,Z5,Z6,Z7,Z8,Z9,Z10,Zc,↓reduceIte,reduceCtorEq,kA,q3,kK,e3,e2] <;> (with_reducible first | (refine And.intro ?_ ?_; focus (first | omega | exact kF | kernel_rfl)); (repeat (with_reducible refine And.intro ?_ ?_; focus (first | omega | exact kF | kernel_rfl))); (try simp (disch:=omega) only [aR,N0,N1,N2,N3,N4,N5,Z0,Z1,Z2,Z3,Z4,Z5,Z6,Z7,Z8,Z9,Z10,Zc,↓reduceIte,reduceCtorEq,kA,q3,kK,e3,e2]) | skip) <;> (try ((with_reducible first | refine kD (fun q4=>?_) (fun q4=>?_) | refine kE (fun q4=>?_) (fun q4=>?_)) <;> simp (disch:=omega) only [aR,N0,N1,N2,N3,N4,N5,Z0,Z1,Z2,Z3,Z4,Z5,Z6,Z7,Z8,Z9,Z10,Zc,↓reduceIte,reduceCtorEq,kA,q4,kK,e3,e2] <;> (with_reducible first | (refine And.intro ?_ ?_; focus (first | omega | exact kF | kernel_rfl)); (repeat (with_reducible refine And.intro ?_ ?_; focus (first | omega | exact kF | kernel_rfl))); (try simp (disch:=omega) only [aR,N0,N1,N2,N3,N4,N5,Z0,Z1,Z2,Z3,Z4,Z5,Z6,Z7,Z8,Z9,Z10,Zc,↓reduceIte,reduceCtorEq,kA,q4,kK,e3,e2]) | skip) <;> skip))))))))
        all_goals first
          | (rw [nof (by simp [follows]; omega)])
          | (refine again _ ?_ (fol (by simp [follows]; omega)) _ rfl
             refine kN [] [] ?_
             simp only [aR,N0,N1,N2,N3,N4,N5,Z0,Z1,Z2,Z3,Z4,Z5,Z6,Z7,Z8,Z9,Z10,Zc,↓reduceIte,reduceCtorEq] <;> ((repeat' apply And.intro) <;> first | rfl | omega | trivial))
          | trace_state
  · simp only [aR,N0,N1,N2,N3,N4,N5,Z0,Z1,Z2,Z3,Z4,Z5,Z6,Z7,Z8,Z9,Z10,Zc,↓reduceIte,reduceCtorEq,h]
    rw [List.drop_of_length_le (by omega)] at hb
    rw [hb]; rfl
theorem call_normal {Γ:Env} (hf:Γ.get 143=some kAA) {σ:AS} {dr:Bool} {l:List Cp} {t:Nat} {ys:List AV} {d:Option Nat} {K:AS→Prop} (hy:ys=qB l) (h:okL l)
    (hk:cont σ d (.v (.bool (qJ l))) K):kR Tryz.prog Γ dr σ 143 [.sl t 3 ys] d K:=by
  subst hy
  exact kP (C:=kAA) (i:=⟨l,h⟩) hf rfl rfl rfl rfl (fun _ h=>h) rfl hk
abbrev kAJ:Con where
  ι:=Ed
  args:=fun l=>[.sl 0 3 (qB l.1)]
  post:=fun l r=>r = .v (.int .i64 (qS l.1))
  plain:=true
theorem kGJ:Rw.Good Tryz.prog 113 kAJ:=by
  have hΓ:kL Tryz.prog [(143,kAA),(144,kBD),(145,kDo)]:=(kH normal_good (kH base_good (kH out_good kJ)))
  refine kW (nn:=20) hΓ Tryz.func113 (by kernel_rfl) rfl (show Tryz.f113.results.toList=[.tmp 2] from rfl) (fun _=>rfl) (fun _=>rfl) ?_
  rintro ⟨l,hl⟩
  simp only [aR,N0,N1,N2,N3,N4,N5,Z0,Z1,Z2,Z3,Z4,Z5,Z6,Z7,Z8,Z9,Z10,Zc,↓reduceIte,reduceCtorEq,kK]
  have c1:100 < (l.length:Int)→qS l=3:=fun h=>by rw [qS,if_pos (by omega)]
  have c2:¬ 100 < (l.length:Int)→qJ l=false→qS l=1:=fun h h2=>by rw [qS,if_neg (by omega),if_pos h2]
  have c3:¬ 100 < (l.length:Int)→qJ l=true→(kA0 l > 2000∨outL l > 2000)→qS l=3:=fun h h2 h3=>by rw [qS,if_neg (by omega),if_neg (by rw [h2]; decide),if_pos h3]
  have c4:¬ 100 < (l.length:Int)→qJ l=true→¬ (kA0 l > 2000∨outL l > 2000)→qS l=0:=fun h h2 h3=>by rw [qS,if_neg (by omega),if_neg (by rw [h2]; decide),if_neg h3]
  (with_reducible first | refine kD (fun h=>?_) (fun h=>?_) | refine kE (fun h=>?_) (fun h=>?_))
  · simp only [aR,N0,N1,N2,N3,N4,N5,Z0,Z1,Z2,Z3,Z4,Z5,Z6,Z7,Z8,Z9,Z10,Zc,↓reduceIte,reduceCtorEq,h,c1 (by omega)]
  · simp only [aR,N0,N1,N2,N3,N4,N5,Z0,Z1,Z2,Z3,Z4,Z5,Z6,Z7,Z8,Z9,Z10,Zc,↓reduceIte,reduceCtorEq,h]
    refine call_normal (by simp [kI]) rfl hl ?_
    cases hn:qJ l with
    | false=>simp only [aR,N0,N1,N2,N3,N4,N5,Z0,Z1,Z2,Z3,Z4,Z5,Z6,Z7,Z8,Z9,Z10,Zc,↓reduceIte,reduceCtorEq,hn,c2 (by omega) hn]
    | true =>
      simp only [aR,N0,N1,N2,N3,N4,N5,Z0,Z1,Z2,Z3,Z4,Z5,Z6,Z7,Z8,Z9,Z10,Zc,↓reduceIte,reduceCtorEq,hn]
      refine call_base (by simp [kI]) rfl hl ?_
      simp only [aR,N0,N1,N2,N3,N4,N5,Z0,Z1,Z2,Z3,Z4,Z5,Z6,Z7,Z8,Z9,Z10,Zc,↓reduceIte,reduceCtorEq]
      (with_reducible first | refine kD (fun h1=>?_) (fun h1=>?_) | refine kE (fun h1=>?_) (fun h1=>?_))
      · simp only [aR,N0,N1,N2,N3,N4,N5,Z0,Z1,Z2,Z3,Z4,Z5,Z6,Z7,Z8,Z9,Z10,Zc,↓reduceIte,reduceCtorEq,h1,c3 (by omega) hn (.inl (by omega))]
      · simp only [aR,N0,N1,N2,N3,N4,N5,Z0,Z1,Z2,Z3,Z4,Z5,Z6,Z7,Z8,Z9,Z10,Zc,↓reduceIte,reduceCtorEq,h1]
        refine call_out (by simp [kI]) rfl hl ?_
        simp only [aR,N0,N1,N2,N3,N4,N5,Z0,Z1,Z2,Z3,Z4,Z5,Z6,Z7,Z8,Z9,Z10,Zc,↓reduceIte,reduceCtorEq]
        (with_reducible first | refine kD (fun h2=>?_) (fun h2=>?_) | refine kE (fun h2=>?_) (fun h2=>?_))
        · simp only [aR,N0,N1,N2,N3,N4,N5,Z0,Z1,Z2,Z3,Z4,Z5,Z6,Z7,Z8,Z9,Z10,Zc,↓reduceIte,reduceCtorEq,h2,c3 (by omega) hn (.inr (by omega))]
        · simp only [aR,N0,N1,N2,N3,N4,N5,Z0,Z1,Z2,Z3,Z4,Z5,Z6,Z7,Z8,Z9,Z10,Zc,↓reduceIte,reduceCtorEq,h2,c4 (by omega) hn (by omega)]
theorem kGE {Γ:Env} (hf:Γ.get 113=some kAJ) {σ:AS} {dr:Bool} {l:List Cp} {t:Nat} {ys:List AV} {d:Option Nat} {K:AS→Prop} (hy:ys=qB l) (h:okL l)
    (hk:cont σ d (.v (.int .i64 (qS l))) K):kR Tryz.prog Γ dr σ 113 [.sl t 3 ys] d K:=by
  subst hy
  exact kP (C:=kAJ) (i:=⟨l,h⟩) hf rfl rfl rfl rfl (fun _ h=>h) rfl hk
end Go.Proofs
end
-- EUo3
section
namespace Go.Proofs
open Go Go.Rw
set_option maxRecDepth 100000
end Go.Proofs
end
-- EUo4
section
namespace Go.Proofs
open Go Go.Rw
open _root_.Nat renaming reduceAdd → N0, reduceSub → N1, reduceMul → N2, reduceLT → N3, reduceLeDiff → N4, reduceEqDiff → N5
open _root_.Int renaming reduceNeg → Z0, reduceAdd → Z1, reduceSub → Z2, reduceMul → Z3, reduceGT → Z4, reduceGE → Z5, reduceLT → Z6, reduceLE → Z7, reduceEq → Z8, reduceNe → Z9, reduceToNat → Z10, cast_ofNat_Int → Zc
set_option maxRecDepth 100000
def heldI (a b:Int):Int:=min (min (max a 0) 1099511627776+min (max b 0) 1099511627776) 1099511627776
theorem heldI_eq {a b:Int} (ha:0≤a∧a≤1099511627776):heldI a b=addI a (max b 0):=by unfold heldI addI; omega
abbrev kFB:Con where
  ι:=I64×I64
  args:=fun p=>[.v (.int .i64 p.1.1),.v (.int .i64 p.2.1)]
  post:=fun p r=>r = .v (.int .i64 (heldI p.1.1 p.2.1))
  plain:=true
theorem held_good:Rw.Good Tryz.prog 123 kFB:=by
  have hΓ:kL Tryz.prog []:=kJ
  refine kW (nn:=15) hΓ Tryz.func123 (by kernel_rfl) rfl (show Tryz.f123.results.toList=[.tmp 4] from rfl) (fun _=>rfl) (fun _=>rfl) ?_
  rintro ⟨⟨a,ha1,ha2⟩,⟨b,hb1,hb2⟩⟩
  simp (disch:=omega) only [aR,N0,N1,N2,N3,N4,N5,Z0,Z1,Z2,Z3,Z4,Z5,Z6,Z7,Z8,Z9,Z10,Zc,↓reduceIte,reduceCtorEq,kA,z8,min2_int]
  unfold heldI
  rfl
theorem kFJ {Γ:Env} (hf:Γ.get 123=some kFB) {σ:AS} {dr:Bool} {a b:Int} {d:Option Nat} {K:AS→Prop} (ha:0≤a∧a≤1099511627776) (hb:-9223372036854775808≤b∧b≤9223372036854775807)
    (hk:cont σ d (.v (.int .i64 (addI a (max b 0)))) K):kR Tryz.prog Γ dr σ 123 [.v (.int .i64 a),.v (.int .i64 b)] d K :=
  kP (C:=kFB) (i:=(⟨a,by omega,by omega⟩,⟨b,hb⟩)) hf rfl rfl rfl rfl (fun _ h=>h) rfl (by rw [heldI_eq ha]; exact hk)
end Go.Proofs
end
-- EUo5
section
namespace Go.Proofs
open Go Go.Rw
open _root_.Nat renaming reduceAdd → N0, reduceSub → N1, reduceMul → N2, reduceLT → N3, reduceLeDiff → N4, reduceEqDiff → N5
open _root_.Int renaming reduceNeg → Z0, reduceAdd → Z1, reduceSub → Z2, reduceMul → Z3, reduceGT → Z4, reduceGE → Z5, reduceLT → Z6, reduceLE → Z7, reduceEq → Z8, reduceNe → Z9, reduceToNat → Z10, cast_ofNat_Int → Zc
set_option maxRecDepth 100000
section
variable {P:Program}
theorem kDj {t:TypeId} {cs:Array Value} {off:Nat} {v:Value} {td:TypeDesc} (ht:P.underlying t=some td) (ha:(match td with | .struct _ | .array _ _=>true | _=>false)=false) (hv:cs[off]? = some v):calm P (part t cs off)=some v:=by
  simp only [part,isAgg,underlying,kT,qA,Option.bind_some,ht,zO]
  cases td <;> first | (cases ha; done) | (simp [hv,kT])
theorem calm_eqI {d:Nat} {t:TypeId} {k k':IntKind} {a b:Int} (h:P.underlying t=some (.int k')):calm P (Op.equalIn (d+1) t (.int k a) (.int k b))=some (a == b):=by
  simp [Op.equalIn,kT,underlying,h]
theorem calm_eqS {d:Nat} {t:TypeId} {a b:List UInt8} (h:P.underlying t=some .string):calm P (Op.equalIn (d+1) t (.string ⟨a.toArray⟩) (.string ⟨b.toArray⟩))=some (a == b):=by
  simp [Op.equalIn,kT,underlying,h]
  show (a.toArray == b.toArray)=(a == b)
  simp
theorem calm_eq3 {d:Nat} {t ti ts:TypeId} {k:IntKind} {f1 f2 f3:Field} {a b a' b':Int} {s s':List UInt8} (ht:P.underlying t=some (.struct #[f1,f2,f3])) (hp:P.stoodInHeld t=false) (hi:P.underlying ti=some (.int k)) (hs:P.underlying ts=some .string)
    (h1 : f1.type = ti ∧ f1.offset = 0 ∧ f1.name ≠ "_") (h2 : f2.type = ti ∧ f2.offset = 1 ∧ f2.name ≠ "_") (h3 : f3.type = ts ∧ f3.offset = 2 ∧ f3.name ≠ "_") :
    calm P (Op.equalIn (d+2) t (.agg #[.int .i64 a,.int .i64 b,.string ⟨s.toArray⟩]) (.agg #[.int .i64 a',.int .i64 b',.string ⟨s'.toArray⟩]))=some (a == a' && b == b' && s == s'):=by
  obtain ⟨rfl,o1,n1⟩:=h1
  obtain ⟨e2,o2,n2⟩:=h2
  obtain ⟨rfl,o3,n3⟩:=h3
  have p0:∀ (a b:Int) (s:List UInt8),calm P (part f1.type #[.int .i64 a,.int .i64 b,.string ⟨s.toArray⟩] 0)=some (.int .i64 a):=fun a b s=>kDj hi rfl rfl
  have p1:∀ (a b:Int) (s:List UInt8),calm P (part f1.type #[.int .i64 a,.int .i64 b,.string ⟨s.toArray⟩] 1)=some (.int .i64 b):=fun a b s=>kDj hi rfl rfl
  have p2:∀ (a b:Int) (s:List UInt8),calm P (part f3.type #[.int .i64 a,.int .i64 b,.string ⟨s.toArray⟩] 2)=some (.string ⟨s.toArray⟩):=fun a b s=>kDj hs rfl rfl
  rw [Op.equalIn]
  simp only [kT,underlying,qA,Option.bind_some,ht,zO,hp,Bool.false_eq_true,if_false,← Array.forIn_toList,List.forIn_cons,List.forIn_nil,n1,n2,n3,o1,o2,o3,e2,p0,p1,p2,calm_eqI hi,calm_eqS hs,if_true,ne_eq,not_false_eq_true]
  by_cases c1:a=a' <;> by_cases c2:b=b' <;> by_cases c3:s=s' <;> simp [c1,c2,c3,kT,p0,p1,p2,calm_eqI hi,calm_eqS hs]
theorem bin_neq3 {t ti ts:TypeId} {x y:Operand} {k:IntKind} {f1 f2 f3:Field} {a b a' b':Int} {s s':List UInt8} (hg:P.eqGuardType P.depth t=false) (ht:P.underlying t=some (.struct #[f1,f2,f3])) (hp:P.stoodInHeld t=false) (hi:P.underlying ti=some (.int k)) (hs:P.underlying ts=some .string)
    (h1 : f1.type = ti ∧ f1.offset = 0 ∧ f1.name ≠ "_") (h2 : f2.type = ti ∧ f2.offset = 1 ∧ f2.name ≠ "_") (h3 : f3.type = ts ∧ f3.offset = 2 ∧ f3.name ≠ "_") :
    binA P .neq t x y (.agg [.v (.int .i64 a),.v (.int .i64 b),.v (sv s)]) (.agg [.v (.int .i64 a'),.v (.int .i64 b'),.v (sv s')])=some (.v (.bool (decide (¬ (a=a'∧b=b'∧s=s'))))):=by
  have e:Op.maxDepth=9998+2:=rfl
  have hq:=calm_eq3 (P:=P) (d:=9998) (a:=a) (b:=b) (a':=a') (b':=b') (s:=s) (s':=s') ht hp hi hs h1 h2 h3
  unfold binA
  rw [show binV P .neq t x y (.agg [.v (.int .i64 a),.v (.int .i64 b),.v (sv s)]) (.agg [.v (.int .i64 a'),.v (.int .i64 b'),.v (sv s')])=none from rfl]
  simp only [kA1,kAb,Option.map_some,Option.none_or,res,kT,eqGuard,sv,qA,Option.bind_some,hg]
  simp [kT,kCd,binOp,Op.equal,e,hq,hg]
  by_cases c1:a=a' <;> by_cases c2:b=b' <;> by_cases c3:s=s' <;> simp [c1,c2,c3]
def is3 (P:Program) (t ti ts:TypeId):Bool:=match P.underlying t with
  | some (.struct fs)=>match fs.toList with
    | [f1, f2, f3] => (f1.type == ti && (f1.offset == 0 && f1.name != "_")) && ((f2.type == ti && (f2.offset == 1 && f2.name != "_")) && (f3.type == ts && (f3.offset == 2 && f3.name != "_")))
    | _=>false
  | _=>false
theorem bin_neq4 {t ti ts:TypeId} {x y:Operand} {k:IntKind} {a b a' b':Int} {s s':List UInt8} (hg:P.eqGuardType P.depth t=false) (h3:is3 P t ti ts=true) (hp:P.stoodInHeld t=false) (hi:P.underlying ti=some (.int k)) (hs:P.underlying ts=some .string) :
    binA P .neq t x y (.agg [.v (.int .i64 a),.v (.int .i64 b),.v (sv s)]) (.agg [.v (.int .i64 a'),.v (.int .i64 b'),.v (sv s')])=some (.v (.bool (decide (¬ (a=a'∧b=b'∧s=s'))))):=by
  unfold is3 at h3
  split at h3
  · rename_i fs hf
    split at h3
    · rename_i f1 f2 f3 hl
      have:fs = #[f1,f2,f3]:=by rw [← hl]
      subst this
      simp only [Bool.and_eq_true,beq_iff_eq,bne_iff_ne] at h3
      exact bin_neq3 hg hf hp hi hs h3.1 h3.2.1 h3.2.2
    · cases h3
  · cases h3
end
theorem comp_neq {x y:Operand} {a b a' b':Int} {s s':List UInt8}:binA Tryz.prog .neq 60 x y (.agg [.v (.int .i64 a),.v (.int .i64 b),.v (sv s)]) (.agg [.v (.int .i64 a'),.v (.int .i64 b'),.v (sv s')])=some (.v (.bool (decide (¬ (a=a'∧b=b'∧s=s'))))) :=
  bin_neq4 (ti:=3) (ts:=9) (k:=.i64) (by kernel_rfl) (by kernel_rfl) (by kernel_rfl) (by kernel_rfl) (by kernel_rfl)
abbrev Cps:={ p:List Cp×List Cp // p.1.length≤4000000000000∧p.2.length≤4000000000000 }
abbrev kDc:Con where
  ι:=Cps
  args:=fun p=>[.sl 0 3 (qB p.1.1),.sl 0 3 (qB p.1.2)]
  post:=fun p r=>r = .v (.bool (decide (p.1.1=p.1.2)))
  plain:=true
theorem call_same {Γ:Env} {f:Nat} (hf:Γ.get f=some kDc) {σ:AS} {dr:Bool} {x y:List Cp} {s t:Nat} {xs ys:List AV} {d:Option Nat} {K:AS→Prop} (hx:xs=qB x) (hy:ys=qB y) (h1:x.length≤4000000000000) (h2:y.length≤4000000000000)
    (hk:cont σ d (.v (.bool (decide (x=y)))) K):kR Tryz.prog Γ dr σ f [.sl s 3 xs,.sl t 3 ys] d K:=by
  subst hx; subst hy
  exact kP (C:=kDc) (i:=⟨(x,y),h1,h2⟩) hf rfl rfl rfl rfl (fun _ h=>h) rfl hk
theorem drop_eq2 {x y:List Cp} {i:Nat} (h1:i < x.length) (h2:i < y.length):(x.drop i=y.drop i)↔((x[i].k=y[i].k∧x[i].n=y[i].n∧x[i].t=y[i].t)∧x.drop (i+1)=y.drop (i+1)):=by
  rw [List.drop_eq_getElem_cons h1,List.drop_eq_getElem_cons h2,List.cons.injEq]
  constructor
  · rintro ⟨h,h3⟩; exact ⟨by rw [h]; exact ⟨rfl,rfl,rfl⟩,h3⟩
  · rintro ⟨⟨a,b,c⟩,h3⟩
    refine ⟨?_,h3⟩
    generalize x[i]=u at *
    generalize y[i]=v at *
    cases u; cases v
    simp only at a b c
    subst a; subst b; subst c; rfl
theorem rsame_good:Rw.Good Tryz.prog 89 kDc:=by
  have hΓ:kL Tryz.prog []:=kJ
  refine kW (nn:=54) hΓ Tryz.func89 (by kernel_rfl) rfl (show Tryz.f89.results.toList=[.tmp 4] from rfl) (fun _=>rfl) (fun _=>rfl) ?_
  rintro ⟨⟨x,y⟩,hx,hy⟩
  simp only at hx hy
  simp only [aR,N0,N1,N2,N3,N4,N5,Z0,Z1,Z2,Z3,Z4,Z5,Z6,Z7,Z8,Z9,Z10,Zc,↓reduceIte,reduceCtorEq,kK]
  (with_reducible first | refine kD (fun h=>?_) (fun h=>?_) | refine kE (fun h=>?_) (fun h=>?_))
  · simp only [aR,N0,N1,N2,N3,N4,N5,Z0,Z1,Z2,Z3,Z4,Z5,Z6,Z7,Z8,Z9,Z10,Zc,↓reduceIte,reduceCtorEq,h]
    have:¬ x=y:=fun e=>h (by rw [e])
    simp [this]
  · simp only [aR,N0,N1,N2,N3,N4,N5,Z0,Z1,Z2,Z3,Z4,Z5,Z6,Z7,Z8,Z9,Z10,Zc,↓reduceIte,reduceCtorEq,h]
    have hxy:x.length=y.length:=by omega
    obtain ⟨St,hSt⟩:∃ St:{ i:Nat // i≤x.length∧(x=y↔x.drop i=y.drop i) }→AS,∀ i,St i=AS.of 54 [(0,.sl 0 3 (qB x)),(1,.sl 0 3 (qB y)),(5,.v (.int .i64 i.1))] [] []:=⟨_,fun _=>rfl⟩
    refine qE hΓ St (fun i=>x.length - i.1) ⟨0,by omega,Iff.rfl⟩ (by rw [hSt]; refine kN [] [] ?_; simp only [aR,N0,N1,N2,N3,N4,N5,Z0,Z1,Z2,Z3,Z4,Z5,Z6,Z7,Z8,Z9,Z10,Zc,↓reduceIte,reduceCtorEq] <;> ((repeat' apply And.intro) <;> first | rfl | omega | trivial)) ?_
    rintro ⟨i,hi,hb⟩
    rw [hSt]
    simp only
    simp only [aR,N0,N1,N2,N3,N4,N5,Z0,Z1,Z2,Z3,Z4,Z5,Z6,Z7,Z8,Z9,Z10,Zc,↓reduceIte,reduceCtorEq,kK]
    (with_reducible first | refine kD (fun h2=>?_) (fun h2=>?_) | refine kE (fun h2=>?_) (fun h2=>?_))
    · have h3:i < x.length:=by omega
      have h4:i < y.length:=by omega
      have e1:=qH x h3
      have e2:=qH y h4
      rw [drop_eq2 h3 h4] at hb
      have again:∀ σ:AS,Weak σ (AS.of 54 [(0,.sl 0 3 (qB x)),(1,.sl 0 3 (qB y)),(5,.v (.int .i64 (i+1:Nat)))] [] [])→(x[i].k=y[i].k∧x[i].n=y[i].n∧x[i].t=y[i].t)→∀ (z:{ i:Nat // i≤x.length∧(x=y↔x.drop i=y.drop i) }),z.1=i→kDk St (fun i=>x.length - i.1) z σ:=fun σ hw h z hz =>
        kO ⟨i+1,by omega,by rw [hb]; exact ⟨fun a=>a.2,fun a=>⟨h,a⟩⟩⟩ (by simp only; omega) (by rw [hSt]; exact hw)
      have no:¬ (x[i].k=y[i].k∧x[i].n=y[i].n∧x[i].t=y[i].t)→decide (x=y)=false:=fun h=>by rw [decide_eq_false_iff_not,hb]; exact fun a=>h a.1
      generalize x[i]=u at *
      generalize y[i]=v at *
      obtain ⟨k,n,t⟩:=u
      obtain ⟨k',n',t'⟩:=v
      simp only at no again e1 e2
      simp (disch:=omega) only [aR,N0,N1,N2,N3,N4,N5,Z0,Z1,Z2,Z3,Z4,Z5,Z6,Z7,Z8,Z9,Z10,Zc,↓reduceIte,reduceCtorEq,kA,h2,kK,e1,e2]
      (repeat (with_reducible refine And.intro ?_ ?_; focus (first | omega | exact kF | kernel_rfl)))
      (try ((with_reducible first | refine kD (fun q1=>?_) (fun q1=>?_) | refine kE (fun q1=>?_) (fun q1=>?_)) <;> simp (disch:=omega) only [aR,N0,N1,N2,N3,N4,N5,Z0,Z1,Z2,Z3,Z4,Z5,Z6,Z7,Z8,Z9,Z10,Zc,↓reduceIte,reduceCtorEq,kA,q1,kK,e1,e2] <;> (with_reducible first | (refine And.intro ?_ ?_; focus (first | omega | exact kF | kernel_rfl)); (repeat (with_reducible refine And.intro ?_ ?_; focus (first | omega | exact kF | kernel_rfl))); (try simp (disch:=omega) only [aR,N0,N1,N2,N3,N4,N5,Z0,Z1,Z2,Z3,Z4,Z5,Z6,Z7,Z8,Z9,Z10,Zc,↓reduceIte,reduceCtorEq,kA,q1,kK,e1,e2]) | skip) <;> (try ((with_reducible first | refine kD (fun q2=>?_) (fun q2=>?_) | refine kE (fun q2=>?_) (fun q2=>?_)) <;> simp (disch:=omega) only [aR,N0,N1,N2,N3,N4,N5,Z0,Z1,Z2,Z3,Z4,Z5,Z6,Z7,Z8,Z9,Z10,Zc,↓reduceIte,reduceCtorEq,kA,q2,kK,e1,e2] <;> (with_reducible first | (refine And.intro ?_ ?_; focus (first | omega | exact kF | kernel_rfl)); (repeat (with_reducible refine And.intro ?_ ?_; focus (first | omega | exact kF | kernel_rfl))); (try simp (disch:=omega) only [aR,N0,N1,N2,N3,N4,N5,Z0,Z1,Z2,Z3,Z4,Z5,Z6,Z7,Z8,Z9,Z10,Zc,↓reduceIte,reduceCtorEq,kA,q2,kK,e1,e2]) | skip) <;> (try ((with_reducible first | refine kD (fun q3=>?_) (fun q3=>?_) | refine kE (fun q3=>?_) (fun q3=>?_)) <;> simp (disch:=omega) only [aR,N0,N1,N2,N3,N4,N5,Z0,Z1,Z2,Z3,Z4,Z5,Z6,Z7,Z8,Z9,Z10,Zc,↓reduceIte,reduceCtorEq,kA,q3,kK,e1,e2] <;> (with_reducible first | (refine And.intro ?_ ?_; focus (first | omega | exact kF | kernel_rfl)); (repeat (with_reducible refine And.intro ?_ ?_; focus (first | omega | exact kF | kernel_rfl))); (try simp (disch:=omega) only [aR,N0,N1,N2,N3,N4,N5,Z0,Z1,Z2,Z3,Z4,Z5,Z6,Z7,Z8,Z9,Z10,Zc,↓reduceIte,reduceCtorEq,kA,q3,kK,e1,e2]) | skip) <;> skip))))))
      all_goals first
        | (rw [no (by intro a; first | exact q1 a.1 | exact q2 a.2.1 | exact q3 a.2.2)]; done)
        | (refine again _ ?_ ⟨Decidable.not_not.1 q1,Decidable.not_not.1 q2,Decidable.not_not.1 q3⟩ _ rfl
           refine kN [] [] ?_
           simp only [aR,N0,N1,N2,N3,N4,N5,Z0,Z1,Z2,Z3,Z4,Z5,Z6,Z7,Z8,Z9,Z10,Zc,↓reduceIte,reduceCtorEq] <;> ((repeat' apply And.intro) <;> first | rfl | omega | trivial))
        | trace_state
    · simp only [aR,N0,N1,N2,N3,N4,N5,Z0,Z1,Z2,Z3,Z4,Z5,Z6,Z7,Z8,Z9,Z10,Zc,↓reduceIte,reduceCtorEq,h2]
      rw [List.drop_of_length_le (by omega),List.drop_of_length_le (by omega)] at hb
      rw [decide_eq_true (hb.2 rfl)]
theorem sequal_good:Rw.Good Tryz.prog 118 kDc:=by
  have hΓ:kL Tryz.prog []:=kJ
  refine kW (nn:=26) hΓ Tryz.func118 (by kernel_rfl) rfl (show Tryz.f118.results.toList=[.tmp 4] from rfl) (fun _=>rfl) (fun _=>rfl) ?_
  rintro ⟨⟨x,y⟩,hx,hy⟩
  simp only at hx hy
  simp only [aR,N0,N1,N2,N3,N4,N5,Z0,Z1,Z2,Z3,Z4,Z5,Z6,Z7,Z8,Z9,Z10,Zc,↓reduceIte,reduceCtorEq,kK]
  (with_reducible first | refine kD (fun h=>?_) (fun h=>?_) | refine kE (fun h=>?_) (fun h=>?_))
  · simp only [aR,N0,N1,N2,N3,N4,N5,Z0,Z1,Z2,Z3,Z4,Z5,Z6,Z7,Z8,Z9,Z10,Zc,↓reduceIte,reduceCtorEq,h]
    have:¬ x=y:=fun e=>h (by rw [e])
    simp [this]
  · simp only [aR,N0,N1,N2,N3,N4,N5,Z0,Z1,Z2,Z3,Z4,Z5,Z6,Z7,Z8,Z9,Z10,Zc,↓reduceIte,reduceCtorEq,h]
    have hxy:x.length=y.length:=by omega
    obtain ⟨St,hSt⟩:∃ St:{ i:Nat // i≤x.length∧(x=y↔x.drop i=y.drop i) }→AS,∀ i,St i=AS.of 26 [(0,.sl 0 3 (qB x)),(1,.sl 0 3 (qB y)),(12,.v (.int .i64 x.length)),(13,.v (.int .i64 i.1))] [] []:=⟨_,fun _=>rfl⟩
    refine qE hΓ St (fun i=>x.length - i.1) ⟨0,by omega,Iff.rfl⟩ (by rw [hSt]; refine kN [] [] ?_; simp only [aR,N0,N1,N2,N3,N4,N5,Z0,Z1,Z2,Z3,Z4,Z5,Z6,Z7,Z8,Z9,Z10,Zc,↓reduceIte,reduceCtorEq,kK] <;> ((repeat' apply And.intro) <;> first | rfl | omega | trivial)) ?_
    rintro ⟨i,hi,hb⟩
    rw [hSt]
    simp only
    simp only [aR,N0,N1,N2,N3,N4,N5,Z0,Z1,Z2,Z3,Z4,Z5,Z6,Z7,Z8,Z9,Z10,Zc,↓reduceIte,reduceCtorEq,kK]
    (with_reducible first | refine kD (fun h2=>?_) (fun h2=>?_) | refine kE (fun h2=>?_) (fun h2=>?_))
    · have h3:i < x.length:=by omega
      have h4:i < y.length:=by omega
      have e1:=qH x h3
      have e2:=qH y h4
      rw [drop_eq2 h3 h4] at hb
      have again:∀ σ:AS,Weak σ (AS.of 26 [(0,.sl 0 3 (qB x)),(1,.sl 0 3 (qB y)),(12,.v (.int .i64 x.length)),(13,.v (.int .i64 (i+1:Nat)))] [] [])→(x[i].k=y[i].k∧x[i].n=y[i].n∧x[i].t=y[i].t)→∀ (z:{ i:Nat // i≤x.length∧(x=y↔x.drop i=y.drop i) }),z.1=i→kDk St (fun i=>x.length - i.1) z σ:=fun σ hw h z hz =>
        kO ⟨i+1,by omega,by rw [hb]; exact ⟨fun a=>a.2,fun a=>⟨h,a⟩⟩⟩ (by simp only; omega) (by rw [hSt]; exact hw)
      have no:¬ (x[i].k=y[i].k∧x[i].n=y[i].n∧x[i].t=y[i].t)→decide (x=y)=false:=fun h=>by rw [decide_eq_false_iff_not,hb]; exact fun a=>h a.1
      generalize x[i]=u at *
      generalize y[i]=v at *
      obtain ⟨k,n,t⟩:=u
      obtain ⟨k',n',t'⟩:=v
      simp only at no again e1 e2
      simp (disch:=omega) only [aR,N0,N1,N2,N3,N4,N5,Z0,Z1,Z2,Z3,Z4,Z5,Z6,Z7,Z8,Z9,Z10,Zc,↓reduceIte,reduceCtorEq,kA,h2,kK,e1,e2,comp_neq]
      (repeat (with_reducible refine And.intro ?_ ?_; focus (first | omega | exact kF | kernel_rfl)))
      (with_reducible first | refine kD (fun q1=>?_) (fun q1=>?_) | refine kE (fun q1=>?_) (fun q1=>?_))
      · simp (disch:=omega) only [aR,N0,N1,N2,N3,N4,N5,Z0,Z1,Z2,Z3,Z4,Z5,Z6,Z7,Z8,Z9,Z10,Zc,↓reduceIte,reduceCtorEq,kA,q1]
        rw [no q1]
      · simp (disch:=omega) only [aR,N0,N1,N2,N3,N4,N5,Z0,Z1,Z2,Z3,Z4,Z5,Z6,Z7,Z8,Z9,Z10,Zc,↓reduceIte,reduceCtorEq,kA,q1]
        refine again _ ?_ (Decidable.not_not.1 q1) _ rfl
        refine kN [] [] ?_
        simp only [aR,N0,N1,N2,N3,N4,N5,Z0,Z1,Z2,Z3,Z4,Z5,Z6,Z7,Z8,Z9,Z10,Zc,↓reduceIte,reduceCtorEq] <;> ((repeat' apply And.intro) <;> first | rfl | omega | trivial)
    · simp only [aR,N0,N1,N2,N3,N4,N5,Z0,Z1,Z2,Z3,Z4,Z5,Z6,Z7,Z8,Z9,Z10,Zc,↓reduceIte,reduceCtorEq,h2]
      rw [List.drop_of_length_le (by omega),List.drop_of_length_le (by omega)] at hb
      rw [decide_eq_true (hb.2 rfl)]
end Go.Proofs
end
-- EUn1
section
namespace Go.Proofs
open Go Go.Rw
open _root_.Nat renaming reduceAdd → N0, reduceSub → N1, reduceMul → N2, reduceLT → N3, reduceLeDiff → N4, reduceEqDiff → N5
open _root_.Int renaming reduceNeg → Z0, reduceAdd → Z1, reduceSub → Z2, reduceMul → Z3, reduceGT → Z4, reduceGE → Z5, reduceLT → Z6, reduceLE → Z7, reduceEq → Z8, reduceNe → Z9, reduceToNat → Z10, cast_ofNat_Int → Zc
set_option maxRecDepth 100000
def zR (c:UInt8):Bool:=decide ((97≤c.toNat∧c.toNat≤122)∨(48≤c.toNat∧c.toNat≤57)∨c.toNat=46∨c.toNat=45∨c.toNat=95)
def qG (s:List UInt8):Bool:=s.all zR && decide (1≤s.length∧s.length≤20∧s≠[46]∧s≠[46,46])
theorem bytesA_eq (l:List UInt8):kFq l=l.map fun b=>.v (.int .u8 b.toNat):=by simp [kFq,zW]
theorem kDe (l:List UInt8):(kFq l).length=l.length:=by simp [bytesA_eq]
theorem bytesA_getD (l:List UInt8) {i:Nat} (h:i < l.length):(kFq l).getD i .any = .v (.int .u8 l[i].toNat):=by simp [bytesA_eq,List.getD_eq_getElem?_getD,h]
abbrev kDQ:Con where
  ι:=UInt8
  args:=fun b=>[.v (.int .u8 b.toNat)]
  post:=fun b r=>r = .v (.bool (zR b))
  plain:=true
theorem letter_good:Rw.Good Tryz.prog 81 kDQ:=by
  have hΓ:kL Tryz.prog []:=kJ
  refine kW (nn:=29) hΓ Tryz.func81 (by kernel_rfl) rfl (show Tryz.f81.results.toList=[.tmp 2] from rfl) (fun _=>rfl) (fun _=>rfl) ?_
  intro b
  simp only [aR,N0,N1,N2,N3,N4,N5,Z0,Z1,Z2,Z3,Z4,Z5,Z6,Z7,Z8,Z9,Z10,Zc,↓reduceIte,reduceCtorEq]
  (try ((with_reducible first | refine kD (fun q1=>?_) (fun q1=>?_) | refine kE (fun q1=>?_) (fun q1=>?_)) <;> simp (disch:=omega) only [aR,N0,N1,N2,N3,N4,N5,Z0,Z1,Z2,Z3,Z4,Z5,Z6,Z7,Z8,Z9,Z10,Zc,↓reduceIte,reduceCtorEq,kA,q1] <;> (with_reducible first | (refine And.intro ?_ ?_; focus (first | omega | exact kF | kernel_rfl)); (repeat (with_reducible refine And.intro ?_ ?_; focus (first | omega | exact kF | kernel_rfl))); (try simp (disch:=omega) only [aR,N0,N1,N2,N3,N4,N5,Z0,Z1,Z2,Z3,Z4,Z5,Z6,Z7,Z8,Z9,Z10,Zc,↓reduceIte,reduceCtorEq,kA,q1]) | skip) <;> (try ((with_reducible first | refine kD (fun q2=>?_) (fun q2=>?_) | refine kE (fun q2=>?_) (fun q2=>?_)) <;> simp (disch:=omega) only [aR,N0,N1,N2,N3,N4,N5,Z0,Z1,Z2,Z3,Z4,Z5,Z6,Z7,Z8,Z9,Z10,Zc,↓reduceIte,reduceCtorEq,kA,q2] <;> (with_reducible first | (refine And.intro ?_ ?_; focus (first | omega | exact kF | kernel_rfl)); (repeat (with_reducible refine And.intro ?_ ?_; focus (first | omega | exact kF | kernel_rfl))); (try simp (disch:=omega) only [aR,N0,N1,N2,N3,N4,N5,Z0,Z1,Z2,Z3,Z4,Z5,Z6,Z7,Z8,Z9,Z10,Zc,↓reduceIte,reduceCtorEq,kA,q2]) | skip) <;> (try ((with_reducible first | refine kD (fun q3=>?_) (fun q3=>?_) | refine kE (fun q3=>?_) (fun q3=>?_)) <;> simp (disch:=omega) only [aR,N0,N1,N2,N3,N4,N5,Z0,Z1,Z2,Z3,Z4,Z5,Z6,Z7,Z8,Z9,Z10,Zc,↓reduceIte,reduceCtorEq,kA,q3] <;> (with_reducible first | (refine And.intro ?_ ?_; focus (first | omega | exact kF | kernel_rfl)); (repeat (with_reducible refine And.intro ?_ ?_; focus (first | omega | exact kF | kernel_rfl))); (try simp (disch:=omega) only [aR,N0,N1,N2,N3,N4,N5,Z0,Z1,Z2,Z3,Z4,Z5,Z6,Z7,Z8,Z9,Z10,Zc,↓reduceIte,reduceCtorEq,kA,q3]) | skip) <;> (try ((with_reducible first | refine kD (fun q4=>?_) (fun q4=>?_) | refine kE (fun q4=>?_) (fun q4=>?_)) <;> simp (disch:=omega) only [aR,N0,N1,N2,N3,N4,N5,Z0,Z1,Z2,Z3,Z4,Z5,Z6,Z7,Z8,Z9,Z10,Zc,↓reduceIte,reduceCtorEq,kA,q4] <;> (with_reducible first | (refine And.intro ?_ ?_; focus (first | omega | exact kF | kernel_rfl)); (repeat (with_reducible refine And.intro ?_ ?_; focus (first | omega | exact kF | kernel_rfl))); (try simp (disch:=omega) only [aR,N0,N1,N2,N3,N4,N5,Z0,Z1,Z2,Z3,Z4,Z5,Z6,Z7,Z8,Z9,Z10,Zc,↓reduceIte,reduceCtorEq,kA,q4]) | skip) <;> (try ((with_reducible first | refine kD (fun q5=>?_) (fun q5=>?_) | refine kE (fun q5=>?_) (fun q5=>?_)) <;> simp (disch:=omega) only [aR,N0,N1,N2,N3,N4,N5,Z0,Z1,Z2,Z3,Z4,Z5,Z6,Z7,Z8,Z9,Z10,Zc,↓reduceIte,reduceCtorEq,kA,q5] <;> (with_reducible first | (refine And.intro ?_ ?_; focus (first | omega | exact kF | kernel_rfl)); (repeat (with_reducible refine And.intro ?_ ?_; focus (first | omega | exact kF | kernel_rfl))); (try simp (disch:=omega) only [aR,N0,N1,N2,N3,N4,N5,Z0,Z1,Z2,Z3,Z4,Z5,Z6,Z7,Z8,Z9,Z10,Zc,↓reduceIte,reduceCtorEq,kA,q5]) | skip) <;> (try ((with_reducible first | refine kD (fun q6=>?_) (fun q6=>?_) | refine kE (fun q6=>?_) (fun q6=>?_)) <;> simp (disch:=omega) only [aR,N0,N1,N2,N3,N4,N5,Z0,Z1,Z2,Z3,Z4,Z5,Z6,Z7,Z8,Z9,Z10,Zc,↓reduceIte,reduceCtorEq,kA,q6] <;> (with_reducible first | (refine And.intro ?_ ?_; focus (first | omega | exact kF | kernel_rfl)); (repeat (with_reducible refine And.intro ?_ ?_; focus (first | omega | exact kF | kernel_rfl))); (try simp (disch:=omega) only [aR,N0,N1,N2,N3,N4,N5,Z0,Z1,Z2,Z3,Z4,Z5,Z6,Z7,Z8,Z9,Z10,Zc,↓reduceIte,reduceCtorEq,kA,q6]) | skip) <;> (try ((with_reducible first | refine kD (fun q7=>?_) (fun q7=>?_) | refine kE (fun q7=>?_) (fun q7=>?_)) <;> simp (disch:=omega) only [aR,N0,N1,N2,N3,N4,N5,Z0,Z1,Z2,Z3,Z4,Z5,Z6,Z7,Z8,Z9,Z10,Zc,↓reduceIte,reduceCtorEq,kA,q7] <;> (with_reducible first | (refine And.intro ?_ ?_; focus (first | omega | exact kF | kernel_rfl)); (repeat (with_reducible refine And.intro ?_ ?_; focus (first | omega | exact kF | kernel_rfl))); (try simp (disch:=omega) only [aR,N0,N1,N2,N3,N4,N5,Z0,Z1,Z2,Z3,Z4,Z5,Z6,Z7,Z8,Z9,Z10,Zc,↓reduceIte,reduceCtorEq,kA,q7]) | skip) <;> skip))))))))))))))
  all_goals (unfold zR; rw [Bool.eq_iff_iff]; simp only [decide_eq_true_eq,Bool.false_eq_true,true_iff,false_iff,iff_true,iff_false]; omega)
theorem call_letter {Γ:Env} (hf:Γ.get 81=some kDQ) {σ:AS} {dr:Bool} {b:UInt8} {n:Int} {d:Option Nat} {K:AS→Prop} (hn:n=b.toNat)
    (hk:cont σ d (.v (.bool (zR b))) K):kR Tryz.prog Γ dr σ 81 [.v (.int .u8 n)] d K:=by
  subst hn
  exact kP (C:=kDQ) (i:=b) hf rfl rfl rfl rfl (fun _ h=>h) rfl hk
abbrev kB4:Con where
  ι:=Str
  args:=fun s=>[.v (sv s.1)]
  post:=fun s r=>r = .v (.bool (qG s.1))
  plain:=true
theorem kEt:Rw.Good Tryz.prog 30 kB4:=by
  have hΓ:kL Tryz.prog [(81,kDQ)]:=(kH letter_good kJ)
  refine kW (nn:=32) hΓ Tryz.func30 (by kernel_rfl) rfl (show Tryz.f30.results.toList=[.tmp 2] from rfl) (fun _=>rfl) (fun _=>rfl) ?_
  rintro ⟨s,hs⟩
  simp only [aR,N0,N1,N2,N3,N4,N5,Z0,Z1,Z2,Z3,Z4,Z5,Z6,Z7,Z8,Z9,Z10,Zc,↓reduceIte,reduceCtorEq,kDe]
  (repeat (with_reducible refine And.intro ?_ ?_; focus (first | omega | exact kF | kernel_rfl)))
  obtain ⟨St,hSt⟩:∃ St:{ i:Nat // i≤s.length∧(s.take i).all zR=true }→AS,∀ i,St i=AS.of 32 [(0,.v (sv s)),(6,.sl 0 1 (kFq s)),(7,.v (.int .i64 s.length)),(8,.v (.int .i64 i.1))] [] []:=⟨_,fun _=>rfl⟩
  refine qE hΓ St (fun i=>s.length - i.1) ⟨0,by omega,by simp⟩ (by rw [hSt]; refine kN [] [] ?_; simp only [aR,N0,N1,N2,N3,N4,N5,Z0,Z1,Z2,Z3,Z4,Z5,Z6,Z7,Z8,Z9,Z10,Zc,↓reduceIte,reduceCtorEq] <;> ((repeat' apply And.intro) <;> first | rfl | omega | trivial)) ?_
  rintro ⟨i,hi,ha⟩
  rw [hSt]
  simp only
  simp only [aR,N0,N1,N2,N3,N4,N5,Z0,Z1,Z2,Z3,Z4,Z5,Z6,Z7,Z8,Z9,Z10,Zc,↓reduceIte,reduceCtorEq,kDe]
  (with_reducible first | refine kD (fun h=>?_) (fun h=>?_) | refine kE (fun h=>?_) (fun h=>?_))
  · have hlt:i < s.length:=by omega
    have e1:=bytesA_getD s hlt
    have e2:(s.take (i+1)).all zR=zR s[i]:=by rw [List.take_succ_eq_append_getElem hlt,List.all_append,ha]; simp
    have e3:zR s[i]=false→qG s=false:=fun hc=>by
      have:s.all zR=false:=List.all_eq_false.2 ⟨s[i],List.getElem_mem hlt,by simp [hc]⟩
      rw [qG,this]; rfl
    generalize s[i]=c at *
    simp only [aR,N0,N1,N2,N3,N4,N5,Z0,Z1,Z2,Z3,Z4,Z5,Z6,Z7,Z8,Z9,Z10,Zc,↓reduceIte,reduceCtorEq,h,e1,kDe]
    (repeat (with_reducible refine And.intro ?_ ?_; focus (first | omega | exact kF | kernel_rfl)))
    refine call_letter (by simp [kI]) rfl ?_
    cases hc:zR c
    · simp only [aR,N0,N1,N2,N3,N4,N5,Z0,Z1,Z2,Z3,Z4,Z5,Z6,Z7,Z8,Z9,Z10,Zc,↓reduceIte,reduceCtorEq,hc]
      rw [e3 hc]
    · rw [hc] at e2
      simp only [aR,N0,N1,N2,N3,N4,N5,Z0,Z1,Z2,Z3,Z4,Z5,Z6,Z7,Z8,Z9,Z10,Zc,↓reduceIte,reduceCtorEq,hc,kA (n:=(i:Int)+1) (by omega) (by omega)]
      refine kO ⟨i+1,by omega,e2⟩ (by simp only; omega) ?_
      rw [hSt]; refine kN [] [] ?_
      simp only [aR,N0,N1,N2,N3,N4,N5,Z0,Z1,Z2,Z3,Z4,Z5,Z6,Z7,Z8,Z9,Z10,Zc,↓reduceIte,reduceCtorEq] <;> ((repeat' apply And.intro) <;> first | rfl | omega | trivial)
  · rw [List.take_of_length_le (by omega)] at ha
    have e0:qG s=decide (1≤s.length∧s.length≤20∧s≠[46]∧s≠[46,46]):=by rw [qG,ha]; rfl
    simp only [aR,N0,N1,N2,N3,N4,N5,Z0,Z1,Z2,Z3,Z4,Z5,Z6,Z7,Z8,Z9,Z10,Zc,↓reduceIte,reduceCtorEq,h,e0]
    (try ((with_reducible first | refine kD (fun q1=>?_) (fun q1=>?_) | refine kE (fun q1=>?_) (fun q1=>?_)) <;> simp (disch:=omega) only [aR,N0,N1,N2,N3,N4,N5,Z0,Z1,Z2,Z3,Z4,Z5,Z6,Z7,Z8,Z9,Z10,Zc,↓reduceIte,reduceCtorEq,kA,q1] <;> (with_reducible first | (refine And.intro ?_ ?_; focus (first | omega | exact kF | kernel_rfl)); (repeat (with_reducible refine And.intro ?_ ?_; focus (first | omega | exact kF | kernel_rfl))); (try simp (disch:=omega) only [aR,N0,N1,N2,N3,N4,N5,Z0,Z1,Z2,Z3,Z4,Z5,Z6,Z7,Z8,Z9,Z10,Zc,↓reduceIte,reduceCtorEq,kA,q1]) | skip) <;> (try ((with_reducible first | refine kD (fun q2=>?_) (fun q2=>?_) | refine kE (fun q2=>?_) (fun q2=>?_)) <;> simp (disch:=omega) only [aR,N0,N1,N2,N3,N4,N5,Z0,Z1,Z2,Z3,Z4,Z5,Z6,Z7,Z8,Z9,Z10,Zc,↓reduceIte,reduceCtorEq,kA,q2] <;> (with_reducible first | (refine And.intro ?_ ?_; focus (first | omega | exact kF | kernel_rfl)); (repeat (with_reducible refine And.intro ?_ ?_; focus (first | omega | exact kF | kernel_rfl))); (try simp (disch:=omega) only [aR,N0,N1,N2,N3,N4,N5,Z0,Z1,Z2,Z3,Z4,Z5,Z6,Z7,Z8,Z9,Z10,Zc,↓reduceIte,reduceCtorEq,kA,q2]) | skip) <;> (try ((with_reducible first | refine kD (fun q3=>?_) (fun q3=>?_) | refine kE (fun q3=>?_) (fun q3=>?_)) <;> simp (disch:=omega) only [aR,N0,N1,N2,N3,N4,N5,Z0,Z1,Z2,Z3,Z4,Z5,Z6,Z7,Z8,Z9,Z10,Zc,↓reduceIte,reduceCtorEq,kA,q3] <;> (with_reducible first | (refine And.intro ?_ ?_; focus (first | omega | exact kF | kernel_rfl)); (repeat (with_reducible refine And.intro ?_ ?_; focus (first | omega | exact kF | kernel_rfl))); (try simp (disch:=omega) only [aR,N0,N1,N2,N3,N4,N5,Z0,Z1,Z2,Z3,Z4,Z5,Z6,Z7,Z8,Z9,Z10,Zc,↓reduceIte,reduceCtorEq,kA,q3]) | skip) <;> (try ((with_reducible first | refine kD (fun q4=>?_) (fun q4=>?_) | refine kE (fun q4=>?_) (fun q4=>?_)) <;> simp (disch:=omega) only [aR,N0,N1,N2,N3,N4,N5,Z0,Z1,Z2,Z3,Z4,Z5,Z6,Z7,Z8,Z9,Z10,Zc,↓reduceIte,reduceCtorEq,kA,q4] <;> (with_reducible first | (refine And.intro ?_ ?_; focus (first | omega | exact kF | kernel_rfl)); (repeat (with_reducible refine And.intro ?_ ?_; focus (first | omega | exact kF | kernel_rfl))); (try simp (disch:=omega) only [aR,N0,N1,N2,N3,N4,N5,Z0,Z1,Z2,Z3,Z4,Z5,Z6,Z7,Z8,Z9,Z10,Zc,↓reduceIte,reduceCtorEq,kA,q4]) | skip) <;> skip))))))))
    all_goals (rw [e0,Bool.eq_iff_iff]; simp only [decide_eq_true_eq,Bool.false_eq_true,false_iff,ne_eq])
    all_goals first
      | exact ⟨fun h5=>⟨by omega,by omega,by assumption,h5⟩,fun h5=>h5.2.2.2⟩
      | (rintro ⟨h5,h6,h7,h8⟩; first | omega | contradiction)
theorem kB1 {Γ:Env} {f:Nat} (hf:Γ.get f=some kB4) {σ:AS} {dr:Bool} {s:List UInt8} {d:Option Nat} {K:AS→Prop} (hs:s.length≤1099511627776)
    (hk:cont σ d (.v (.bool (qG s))) K):kR Tryz.prog Γ dr σ f [.v (sv s)] d K :=
  kP (C:=kB4) (i:=⟨s,hs⟩) hf rfl rfl rfl rfl (fun _ h=>h) rfl hk
end Go.Proofs
end
-- EUn2
section
namespace Go.Proofs
open Go Go.Rw
open _root_.Nat renaming reduceAdd → N0, reduceSub → N1, reduceMul → N2, reduceLT → N3, reduceLeDiff → N4, reduceEqDiff → N5
open _root_.Int renaming reduceNeg → Z0, reduceAdd → Z1, reduceSub → Z2, reduceMul → Z3, reduceGT → Z4, reduceGE → Z5, reduceLT → Z6, reduceLE → Z7, reduceEq → Z8, reduceNe → Z9, reduceToNat → Z10, cast_ofNat_Int → Zc
set_option maxRecDepth 100000
def kBT (a:Ac):Bool:=decide (a.k=1∨a.k=3)
def zH (a:Ac):Ac :=
  if a.k=1 then ⟨1,a.id,a.par,a.nm,a.dir,[]⟩ else if a.k=2 then ⟨2,a.id,0,[],false,[]⟩ else if a.k=3 then ⟨3,a.id,a.par,a.nm,false,[]⟩
  else if a.k=4 then ⟨4,a.id,0,[],false,a.ops⟩ else ⟨a.k,0,0,[],false,[]⟩
theorem kFR {a:Ac} (h:okL a.ops):okL (zH a).ops:=by
  have h0:okL ([]:List Cp):=⟨by decide,by decide,fun c hc=>by cases hc⟩
  unfold zH
  repeat' split
  all_goals first | exact h0 | exact h
abbrev AcS:={ a:Ac // okL a.ops }
abbrev kC7:Con where
  ι:=Ac
  args:=fun a=>[aA a]
  post:=fun a r=>r = .v (.bool (kBT a))
  plain:=true
theorem kFs:Rw.Good Tryz.prog 91 kC7:=by
  have hΓ:kL Tryz.prog []:=kJ
  refine kW (nn:=11) hΓ Tryz.func91 (by kernel_rfl) rfl (show Tryz.f91.results.toList=[.tmp 2] from rfl) (fun _=>rfl) (fun x=>by simp [AV.erL,kEA]) ?_
  intro a
  obtain ⟨k,id,par,nm,dir,ops⟩:=a
  simp only [aR,N0,N1,N2,N3,N4,N5,Z0,Z1,Z2,Z3,Z4,Z5,Z6,Z7,Z8,Z9,Z10,Zc,↓reduceIte,reduceCtorEq,aA]
  by_cases h1:k=1
  · subst h1
    simp only [aR,N0,N1,N2,N3,N4,N5,Z0,Z1,Z2,Z3,Z4,Z5,Z6,Z7,Z8,Z9,Z10,Zc,↓reduceIte,reduceCtorEq,kBT]
  · simp only [aR,N0,N1,N2,N3,N4,N5,Z0,Z1,Z2,Z3,Z4,Z5,Z6,Z7,Z8,Z9,Z10,Zc,↓reduceIte,reduceCtorEq,h1]
    simp [kBT,h1]
abbrev kA9:Con where
  ι:=AcS
  args:=fun a=>[aA a.1]
  post:=fun a r=>r=aA (zH a.1)
theorem kFz:Rw.Good Tryz.prog 41 kA9:=by
  have hΓ:kL Tryz.prog [(90,kEZ)]:=(kH clone_good kJ)
  refine kEY Tryz.func41 (by kernel_rfl) rfl (show Tryz.f41.results.toList=[.cell 2 35] from rfl) (nn:=49) (fun _=>rfl) (fun x=>by simp [AV.erL,kEA]) ?_
  rintro ⟨a,oa⟩
  refine kFE hΓ (Ws:=[(4,[2],[]),(8,[2],[]),(10,[2],[])]) _ ?_
  obtain ⟨k,id,par,nm,dir,ops⟩:=a
  simp only at oa
  by_cases h1:k=1
  · simp only [aR,N0,N1,N2,N3,N4,N5,Z0,Z1,Z2,Z3,Z4,Z5,Z6,Z7,Z8,Z9,Z10,Zc,↓reduceIte,reduceCtorEq,kY,aA,h1]
    (repeat (with_reducible refine And.intro ?_ ?_; focus (first | omega | exact kF | kernel_rfl)))
    simp [zH,h1,aA,zP]
  by_cases h2:k=2
  · simp only [aR,N0,N1,N2,N3,N4,N5,Z0,Z1,Z2,Z3,Z4,Z5,Z6,Z7,Z8,Z9,Z10,Zc,↓reduceIte,reduceCtorEq,kY,aA,h1,h2]
    simp [zH,h2,aA,zP]
  by_cases h3:k=3
  · simp only [aR,N0,N1,N2,N3,N4,N5,Z0,Z1,Z2,Z3,Z4,Z5,Z6,Z7,Z8,Z9,Z10,Zc,↓reduceIte,reduceCtorEq,kY,aA,h1,h2,h3]
    (repeat (with_reducible refine And.intro ?_ ?_; focus (first | omega | exact kF | kernel_rfl)))
    simp [zH,h3,aA,zP]
  by_cases h4:k=4
  · simp only [aR,N0,N1,N2,N3,N4,N5,Z0,Z1,Z2,Z3,Z4,Z5,Z6,Z7,Z8,Z9,Z10,Zc,↓reduceIte,reduceCtorEq,kY,aA,h1,h2,h3,h4]
    (repeat (with_reducible refine And.intro ?_ ?_; focus (first | omega | exact kF | kernel_rfl)))
    refine call_clone (by simp [kI]) rfl oa ?_
    simp only [aR,N0,N1,N2,N3,N4,N5,Z0,Z1,Z2,Z3,Z4,Z5,Z6,Z7,Z8,Z9,Z10,Zc,↓reduceIte,reduceCtorEq,kY,aA]
    simp [zH]
  · simp only [aR,N0,N1,N2,N3,N4,N5,Z0,Z1,Z2,Z3,Z4,Z5,Z6,Z7,Z8,Z9,Z10,Zc,↓reduceIte,reduceCtorEq,kY,aA,h1,h2,h3,h4]
    simp [zH,h1,h2,h3,h4,aA,zP]
theorem kBn {Γ:Env} {f:Nat} (hf:Γ.get f=some kA9) {σ:AS} {dr:Bool} {a:Ac} {y:AV} {d:Option Nat} {K:AS→Prop} (hy:y=aA a) (oa:okL a.ops)
    (hk:cont σ d (aA (zH a)) K):kR Tryz.prog Γ dr σ f [y] d K:=by
  subst hy
  exact kAX (C:=kA9) (i:=⟨a,oa⟩) (r:=aA (zH a)) hf rfl rfl (by simp [AV.erL,kEA]) rfl (fun _ h=>h) (by rw [kEA]; exact hk)
theorem kFx {Γ:Env} (hf:Γ.get 91=some kC7) {σ:AS} {dr:Bool} {a:Ac} {y:AV} {d:Option Nat} {K:AS→Prop} (hy:y=aA a)
    (hk:cont σ d (.v (.bool (kBT a))) K):kR Tryz.prog Γ dr σ 91 [y] d K:=by
  subst hy
  exact kP (C:=kC7) (i:=a) hf rfl rfl rfl (by simp [AV.erL,kEA]) (fun _ h=>h) rfl hk
abbrev jR:Con where
  ι:=AcS×AcS
  args:=fun p=>[aA p.1.1,aA p.2.1]
  post:=fun p r=>r = .v (.bool (decide (p.1.1=p.2.1)))
  plain:=true
theorem kF6:Rw.Good Tryz.prog 88 jR:=by
  have hΓ:kL Tryz.prog [(118,kDc)]:=(kH sequal_good kJ)
  refine kW (nn:=47) hΓ Tryz.func88 (by kernel_rfl) rfl (show Tryz.f88.results.toList=[.tmp 4] from rfl) (fun _=>rfl) (fun x=>by simp [AV.erL,kEA]) ?_
  rintro ⟨⟨x,hx⟩,⟨y,hy⟩⟩
  have dk:decide (x=y)=decide (x.k=y.k∧x.id=y.id∧x.par=y.par∧x.nm=y.nm∧x.dir=y.dir∧x.ops=y.ops):=by
    cases x; cases y
    simp only [Ac.mk.injEq]
  simp only [dk]
  obtain ⟨k,id,par,nm,dir,ops⟩:=x
  obtain ⟨k',id',par',nm',dir',ops'⟩:=y
  simp only [aR,N0,N1,N2,N3,N4,N5,Z0,Z1,Z2,Z3,Z4,Z5,Z6,Z7,Z8,Z9,Z10,Zc,↓reduceIte,reduceCtorEq,aA]
  by_cases h1:k=k'
  case neg =>
    simp only [aR,N0,N1,N2,N3,N4,N5,Z0,Z1,Z2,Z3,Z4,Z5,Z6,Z7,Z8,Z9,Z10,Zc,↓reduceIte,reduceCtorEq,h1]
    simp [h1]
  by_cases h2:id=id'
  case neg =>
    simp only [aR,N0,N1,N2,N3,N4,N5,Z0,Z1,Z2,Z3,Z4,Z5,Z6,Z7,Z8,Z9,Z10,Zc,↓reduceIte,reduceCtorEq,h2,h1]
    simp [h2]
  by_cases h3:par=par'
  case neg =>
    simp only [aR,N0,N1,N2,N3,N4,N5,Z0,Z1,Z2,Z3,Z4,Z5,Z6,Z7,Z8,Z9,Z10,Zc,↓reduceIte,reduceCtorEq,h3,h1,h2]
    simp [h3]
  by_cases h4:nm=nm'
  case neg =>
    simp only [aR,N0,N1,N2,N3,N4,N5,Z0,Z1,Z2,Z3,Z4,Z5,Z6,Z7,Z8,Z9,Z10,Zc,↓reduceIte,reduceCtorEq,h4,h1,h2,h3]
    simp [h4]
  by_cases h5:dir=dir'
  case neg =>
    have nn:(dir == dir')=false:=by simp [h5]
    simp only [aR,N0,N1,N2,N3,N4,N5,Z0,Z1,Z2,Z3,Z4,Z5,Z6,Z7,Z8,Z9,Z10,Zc,↓reduceIte,reduceCtorEq,nn,h1,h2,h3,h4]
    simp [h5]
  have b5:(dir == dir')=true:=by simp [h5]
  simp only [aR,N0,N1,N2,N3,N4,N5,Z0,Z1,Z2,Z3,Z4,Z5,Z6,Z7,Z8,Z9,Z10,Zc,↓reduceIte,reduceCtorEq,h1,h2,h3,h4,b5]
  refine call_same (by simp [kI]) rfl rfl (by have:=hx.1; simp only at this; omega) (by have:=hy.1; simp only at this; omega) ?_
  simp only [aR,N0,N1,N2,N3,N4,N5,Z0,Z1,Z2,Z3,Z4,Z5,Z6,Z7,Z8,Z9,Z10,Zc,↓reduceIte,reduceCtorEq,h1,h2,h3,h4,b5]
  simp [h1,h2,h3,h4,h5]
theorem kD0 {Γ:Env} {f:Nat} (hf:Γ.get f=some jR) {σ:AS} {dr:Bool} {a b:Ac} {x y:AV} {d:Option Nat} {K:AS→Prop} (hx:x=aA a) (hy:y=aA b) (oa:okL a.ops) (ob:okL b.ops)
    (hk:cont σ d (.v (.bool (decide (a=b)))) K):kR Tryz.prog Γ dr σ f [x,y] d K:=by
  subst hx hy
  exact kP (C:=jR) (i:=(⟨a,oa⟩,⟨b,ob⟩)) hf rfl rfl rfl (by simp [AV.erL,kEA]) (fun _ h=>h) rfl hk
end Go.Proofs
end
