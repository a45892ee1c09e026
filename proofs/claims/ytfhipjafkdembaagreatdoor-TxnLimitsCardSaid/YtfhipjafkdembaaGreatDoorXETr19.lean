/-
  TxnLimits answers true. From the laws' functions to their rows: the tables as they are laid; a world for the witness.
-/
import Derived.Test.YtfhipjafkdembaaGreatDoorXETr9
import Derived.Test.YtfhipjafkdembaaGreatDoorXESh
import Derived.Test.YtfhipjafkdembaaGreatDoorRwG
import Derived.Test.YtfhipjafkdembaaGreatDoorCards
import Derived.Test.YtfhipjafkdembaaGreatDoorTie
import Derived.Lib.LaidIn
import Derived.Lib.LaidU8T
import Derived.Deep.DeepHandedRow
import Derived.Deep.DeepWitnessRowRef
import Derived.ProofKit
import Derived.OpenShut
import Derived.SizedLaws
import Derived.SevenTiedAt
set_option linter.unusedSimpArgs false
set_option linter.unusedVariables false
set_option linter.defProp false
set_option linter.unusedSectionVars false

-- ETr19
section
namespace Go.Proofs
open Go Go.Rw
open _root_.Nat renaming reduceAdd → N0, reduceSub → N1, reduceMul → N2, reduceLT → N3, reduceLeDiff → N4, reduceEqDiff → N5
open _root_.Int renaming reduceNeg → Z0, reduceAdd → Z1, reduceSub → Z2, reduceMul → Z3, reduceGT → Z4, reduceGE → Z5, reduceLT → Z6, reduceLE → Z7, reduceEq → Z8, reduceNe → Z9, reduceToNat → Z10, cast_ofNat_Int → Zc
set_option maxRecDepth 100000
def remA (i:Nat):Ac:=⟨2,(i:Int)+1,0,[],false,[]⟩
def remL (n:Nat):List Ac:=(List.range n).map remA
theorem remL_len (n:Nat):(remL n).length=n:=by simp [remL]
theorem remL_succ (n:Nat):remL (n+1)=remL n++[remA n]:=by simp [remL,List.range_succ]
theorem remL_all:∀ n:Fin 23,txnE (remL n)=if (n:Nat) > 20 then 3 else 0:=by decide +kernel
theorem remL_e {n:Nat} (h:n≤22):txnE (remL n)=if n > 20 then 3 else 0:=remL_all ⟨n,by omega⟩
def insL (k:Nat):List Cp:=[⟨2,0,blk 1 k⟩]
theorem insL_ok {k:Nat} (h:1≤k∧k≤1500):okL (insL k)∧zA (insL k)=0∧putC (insL k)=k:=by
  have hlc:=blk_lc 1 k
  have hl:=blk_len 1 k
  have hp:=blk_pts 1 k
  have hne:blk 1 k≠[]:=by intro h; rw [h] at hl; simp at hl; omega
  refine ⟨⟨by simp [insL],by simp only [insL,tot,hl]; omega,by simp [insL]⟩,?_,by simp [insL,putC,hlc]⟩
  have e2:zD (insL k)=true:=by simp [insL,zD,j5,jP,follows,hne,hp]
  have e3:kBH (insL k)=0:=by simp only [insL,kBH,baseF,addI]; simp
  have e4:outL (insL k)=k:=by simp only [insL,outL,outF,addI,hlc]; simp; omega
  rw [zA,if_neg (by simp [insL]),if_neg (by rw [e2]; decide),e3,e4,if_neg (by omega)]
def ediA (id:Int) (k:Nat):Ac:=⟨4,id,0,[],false,insL k⟩
theorem edi_one {id:Int} {k:Nat} (hi:1≤id∧id≤10) (h:1≤k∧k≤1500):oneI (ediA id k)=0:=by
  have hb:badA (ediA id k)=false:=by
    unfold badA
    rw [decide_eq_false_iff_not]
    simp only [ediA,j8]
    simp
    omega
  unfold oneI
  rw [if_neg (by rw [hb]; decide)]
  show (if (4:Int)=4 then zA (insL k) else 0)=0
  rw [if_pos rfl]
  exact (insL_ok h).2.1
theorem two_e {a b:Nat} (ha:1≤a∧a≤1500) (hb:1≤b∧b≤1500):txnE [ediA 1 a,ediA 2 b]=if a+b > 2000 then 3 else 0:=by
  have h1:=edi_one (id:=1) (by omega) ha
  have h2:=edi_one (id:=2) (by omega) hb
  have hc:kAd [] [ediA 1 a,ediA 2 b]=0:=by
    simp only [kAd,h1,h2,kDq]
    simp [ediA]
  unfold txnE
  rw [if_neg (by simp),if_neg (by rw [hc]; decide)]
  simp only [putS,ediA,(insL_ok ha).2.2,(insL_ok hb).2.2]
  by_cases h:a+b > 2000
  · rw [if_pos h,if_pos (by omega)]
  · rw [if_neg h,if_neg (by omega)]
theorem same_e:txnE [ediA 1 1,ediA 1 1]=1:=by decide +kernel
theorem rem_e1:txnE [⟨2,1,0,[97],false,[]⟩]=1:=by decide +kernel
theorem rem_e2:txnE [⟨2,0,0,[],false,[]⟩]=1:=by decide +kernel
theorem okA_nil {k id par:Int} {nm:List UInt8} {dir:Bool} (h:nm.length≤10):okA ⟨k,id,par,nm,dir,[]⟩:=⟨⟨by simp,by simp [tot],by simp⟩,by simp only; omega⟩
theorem okA_edi {id:Int} {k:Nat} (h:1≤k∧k≤1500):okA (ediA id k):=⟨(insL_ok h).1,by simp [ediA]⟩
theorem remL_ok (n:Nat):∀ a∈remL n,okA a:=fun a ha=>by
  obtain ⟨i,_,rfl⟩:=List.mem_map.1 ha
  exact okA_nil (by simp)
theorem acts_snoc' (l:List Ac) (a:Ac):acts (l++[a])=acts l++[aA a]:=by simp [acts]
abbrev lim14Con:Con where
  ι:={ n:Int // -9223372036854775808≤n∧n≤9223372036854775807 }×{ n:Int // -9223372036854775808≤n∧n≤9223372036854775807 }×{ n:Int // -9223372036854775808≤n∧n≤9223372036854775807 }
  args:=fun p=>[.v (.int .i64 p.1.1),.v (.int .i64 p.2.1.1),.v (.int .i64 p.2.2.1)]
  post:=fun _ r=>r = .v (.bool true)
  plain:=true
set_option maxHeartbeats 4000000 in
theorem lim14_good:Rw.Good Tryz.prog 8 lim14Con:=by
  have hΓ:kL Tryz.prog [(32,kDf),(34,kD2),(35,jK)]:=(kJ awake14_good (kJ block_good (kJ kBq kK)))
  refine k9 (nn:=100) hΓ Tryz.func8 (by kernel_rfl) rfl (show Tryz.f8.results.toList=[.tmp 6] from rfl) (fun _=>rfl) (fun x=>by simp [AV.erL,AV.er]) ?_
  rintro ⟨⟨n,hn⟩,⟨a,ha⟩,⟨b,hb⟩⟩
  simp only [aR,N0,N1,N2,N3,N4,N5,Z0,Z1,Z2,Z3,Z4,Z5,Z6,Z7,Z8,Z9,Z10,Zc,↓reduceIte,reduceCtorEq]
  by_cases hg:n < 0∨n > 22∨a < 1∨a > 1500∨b < 1∨b > 1500
  · (try ((with_reducible first | refine kF (fun q1=>?_) (fun q1=>?_) | refine kH (fun q1=>?_) (fun q1=>?_)) <;> simp (disch:=omega) only [aR,N0,N1,N2,N3,N4,N5,Z0,Z1,Z2,Z3,Z4,Z5,Z6,Z7,Z8,Z9,Z10,Zc,↓reduceIte,reduceCtorEq,kD,q1] <;> (with_reducible first | (refine And.intro ?_ ?_; focus (first | omega | exact kE | kernel_rfl)); (repeat (with_reducible refine And.intro ?_ ?_; focus (first | omega | exact kE | kernel_rfl))); (try simp (disch:=omega) only [aR,N0,N1,N2,N3,N4,N5,Z0,Z1,Z2,Z3,Z4,Z5,Z6,Z7,Z8,Z9,Z10,Zc,↓reduceIte,reduceCtorEq,kD,q1]) | skip) <;> (try ((with_reducible first | refine kF (fun q2=>?_) (fun q2=>?_) | refine kH (fun q2=>?_) (fun q2=>?_)) <;> simp (disch:=omega) only [aR,N0,N1,N2,N3,N4,N5,Z0,Z1,Z2,Z3,Z4,Z5,Z6,Z7,Z8,Z9,Z10,Zc,↓reduceIte,reduceCtorEq,kD,q2] <;> (with_reducible first | (refine And.intro ?_ ?_; focus (first | omega | exact kE | kernel_rfl)); (repeat (with_reducible refine And.intro ?_ ?_; focus (first | omega | exact kE | kernel_rfl))); (try simp (disch:=omega) only [aR,N0,N1,N2,N3,N4,N5,Z0,Z1,Z2,Z3,Z4,Z5,Z6,Z7,Z8,Z9,Z10,Zc,↓reduceIte,reduceCtorEq,kD,q2]) | skip) <;> (try ((with_reducible first | refine kF (fun q3=>?_) (fun q3=>?_) | refine kH (fun q3=>?_) (fun q3=>?_)) <;> simp (disch:=omega) only [aR,N0,N1,N2,N3,N4,N5,Z0,Z1,Z2,Z3,Z4,Z5,Z6,Z7,Z8,Z9,Z10,Zc,↓reduceIte,reduceCtorEq,kD,q3] <;> (with_reducible first | (refine And.intro ?_ ?_; focus (first | omega | exact kE | kernel_rfl)); (repeat (with_reducible refine And.intro ?_ ?_; focus (first | omega | exact kE | kernel_rfl))); (try simp (disch:=omega) only [aR,N0,N1,N2,N3,N4,N5,Z0,Z1,Z2,Z3,Z4,Z5,Z6,Z7,Z8,Z9,Z10,Zc,↓reduceIte,reduceCtorEq,kD,q3]) | skip) <;> (try ((with_reducible first | refine kF (fun q4=>?_) (fun q4=>?_) | refine kH (fun q4=>?_) (fun q4=>?_)) <;> simp (disch:=omega) only [aR,N0,N1,N2,N3,N4,N5,Z0,Z1,Z2,Z3,Z4,Z5,Z6,Z7,Z8,Z9,Z10,Zc,↓reduceIte,reduceCtorEq,kD,q4] <;> (with_reducible first | (refine And.intro ?_ ?_; focus (first | omega | exact kE | kernel_rfl)); (repeat (with_reducible refine And.intro ?_ ?_; focus (first | omega | exact kE | kernel_rfl))); (try simp (disch:=omega) only [aR,N0,N1,N2,N3,N4,N5,Z0,Z1,Z2,Z3,Z4,Z5,Z6,Z7,Z8,Z9,Z10,Zc,↓reduceIte,reduceCtorEq,kD,q4]) | skip) <;> (try ((with_reducible first | refine kF (fun q5=>?_) (fun q5=>?_) | refine kH (fun q5=>?_) (fun q5=>?_)) <;> simp (disch:=omega) only [aR,N0,N1,N2,N3,N4,N5,Z0,Z1,Z2,Z3,Z4,Z5,Z6,Z7,Z8,Z9,Z10,Zc,↓reduceIte,reduceCtorEq,kD,q5] <;> (with_reducible first | (refine And.intro ?_ ?_; focus (first | omega | exact kE | kernel_rfl)); (repeat (with_reducible refine And.intro ?_ ?_; focus (first | omega | exact kE | kernel_rfl))); (try simp (disch:=omega) only [aR,N0,N1,N2,N3,N4,N5,Z0,Z1,Z2,Z3,Z4,Z5,Z6,Z7,Z8,Z9,Z10,Zc,↓reduceIte,reduceCtorEq,kD,q5]) | skip) <;> (try ((with_reducible first | refine kF (fun q6=>?_) (fun q6=>?_) | refine kH (fun q6=>?_) (fun q6=>?_)) <;> simp (disch:=omega) only [aR,N0,N1,N2,N3,N4,N5,Z0,Z1,Z2,Z3,Z4,Z5,Z6,Z7,Z8,Z9,Z10,Zc,↓reduceIte,reduceCtorEq,kD,q6] <;> (with_reducible first | (refine And.intro ?_ ?_; focus (first | omega | exact kE | kernel_rfl)); (repeat (with_reducible refine And.intro ?_ ?_; focus (first | omega | exact kE | kernel_rfl))); (try simp (disch:=omega) only [aR,N0,N1,N2,N3,N4,N5,Z0,Z1,Z2,Z3,Z4,Z5,Z6,Z7,Z8,Z9,Z10,Zc,↓reduceIte,reduceCtorEq,kD,q6]) | skip) <;> skip))))))))))))
    all_goals first
      | (refine kDM (by simp [kG]) ?_
         simp only [aR,N0,N1,N2,N3,N4,N5,Z0,Z1,Z2,Z3,Z4,Z5,Z6,Z7,Z8,Z9,Z10,Zc,↓reduceIte,reduceCtorEq]
         done)
      | (exfalso; omega)
  · have g1:¬ n < 0:=by omega
    have g2:¬ n > 22:=by omega
    have g3:¬ a < 1:=by omega
    have g4:¬ a > 1500:=by omega
    have g5:¬ b < 1:=by omega
    have g6:¬ b > 1500:=by omega
    obtain ⟨k,rfl⟩:∃ k:Nat,n=k:=⟨n.toNat,by omega⟩
    obtain ⟨a,rfl⟩:∃ k:Nat,a=k:=⟨a.toNat,by omega⟩
    obtain ⟨b,rfl⟩:∃ k:Nat,b=k:=⟨b.toNat,by omega⟩
    simp only [aR,N0,N1,N2,N3,N4,N5,Z0,Z1,Z2,Z3,Z4,Z5,Z6,Z7,Z8,Z9,Z10,Zc,↓reduceIte,reduceCtorEq,g1,g2,g3,g4,g5,g6]
    obtain ⟨St,hSt⟩:∃ St:{ i:Nat // i≤k }→AS,∀ i,St i=AS.of 100 [(0,.v (.int .i64 k)),(1,.v (.int .i64 a)),(2,.v (.int .i64 b)),(7,.sl 2 6 (acts (remL i.1))),(8,.v (.int .i64 i.1))] [] [(i.1,35)]:=⟨_,fun _=>rfl⟩
    refine zZ hΓ St (fun i=>k - i.1) ⟨0,by omega⟩ (by rw [hSt]; refine kW [] [.nil 6] ?_; simp only [aR,N0,N1,N2,N3,N4,N5,Z0,Z1,Z2,Z3,Z4,Z5,Z6,Z7,Z8,Z9,Z10,Zc,↓reduceIte,reduceCtorEq,remL,acts,List.range_zero,List.map_nil] <;> ((repeat' apply And.intro) <;> first | rfl | omega | trivial)) ?_
    rintro ⟨i,hi⟩
    rw [hSt]
    simp only
    simp only [aR,N0,N1,N2,N3,N4,N5,Z0,Z1,Z2,Z3,Z4,Z5,Z6,Z7,Z8,Z9,Z10,Zc,↓reduceIte,reduceCtorEq,qL,remL_len]
    (with_reducible first | refine kF (fun h=>?_) (fun h=>?_) | refine kH (fun h=>?_) (fun h=>?_))
    · simp only [aR,N0,N1,N2,N3,N4,N5,Z0,Z1,Z2,Z3,Z4,Z5,Z6,Z7,Z8,Z9,Z10,Zc,↓reduceIte,reduceCtorEq,h,qL,remL_len,kD (n:=(i:Int)+1) (by omega) (by omega)]
      (repeat (with_reducible refine And.intro ?_ ?_; focus (first | omega | exact kE | kernel_rfl)))
      refine kT ⟨i+1,by omega⟩ (by simp only; omega) ?_
      rw [hSt]; refine kW [] [.live 2] ?_
      simp only [aR,N0,N1,N2,N3,N4,N5,Z0,Z1,Z2,Z3,Z4,Z5,Z6,Z7,Z8,Z9,Z10,Zc,↓reduceIte,reduceCtorEq,remL_succ,acts_snoc',remA,aA,jJ] <;> ((repeat' apply And.intro) <;> first | rfl | omega | trivial)
    · have hi2:i=k:=by omega
      subst hi2
      have ka:1≤a∧a≤1500:=by omega
      have kb:1≤b∧b≤1500:=by omega
      simp only [aR,N0,N1,N2,N3,N4,N5,Z0,Z1,Z2,Z3,Z4,Z5,Z6,Z7,Z8,Z9,Z10,Zc,↓reduceIte,reduceCtorEq,h]
      refine jH (nn:=7) hΓ (by first | assumption | simp [kG,kY]) Tryz.func33 (by kernel_rfl) rfl (show Tryz.f33.results.toList=[.tmp 2] from rfl) rfl ?_
      simp only [aR,N0,N1,N2,N3,N4,N5,Z0,Z1,Z2,Z3,Z4,Z5,Z6,Z7,Z8,Z9,Z10,Zc,↓reduceIte,reduceCtorEq]
      refine kB0 (by simp [kG]) (by omega) (by omega) ?_
      simp only [aR,N0,N1,N2,N3,N4,N5,Z0,Z1,Z2,Z3,Z4,Z5,Z6,Z7,Z8,Z9,Z10,Zc,↓reduceIte,reduceCtorEq,Int.toNat_natCast]
      (repeat (with_reducible refine And.intro ?_ ?_; focus (first | omega | exact kE | kernel_rfl)))
      refine jH (nn:=7) hΓ (by first | assumption | simp [kG,kY]) Tryz.func33 (by kernel_rfl) rfl (show Tryz.f33.results.toList=[.tmp 2] from rfl) rfl ?_
      simp only [aR,N0,N1,N2,N3,N4,N5,Z0,Z1,Z2,Z3,Z4,Z5,Z6,Z7,Z8,Z9,Z10,Zc,↓reduceIte,reduceCtorEq]
      refine kB0 (by simp [kG]) (by omega) (by omega) ?_
      simp only [aR,N0,N1,N2,N3,N4,N5,Z0,Z1,Z2,Z3,Z4,Z5,Z6,Z7,Z8,Z9,Z10,Zc,↓reduceIte,reduceCtorEq,Int.toNat_natCast]
      (repeat (with_reducible refine And.intro ?_ ?_; focus (first | omega | exact kE | kernel_rfl)))
      refine jH (nn:=7) hΓ (by first | assumption | simp [kG,kY]) Tryz.func33 (by kernel_rfl) rfl (show Tryz.f33.results.toList=[.tmp 2] from rfl) rfl ?_
      simp only [aR,N0,N1,N2,N3,N4,N5,Z0,Z1,Z2,Z3,Z4,Z5,Z6,Z7,Z8,Z9,Z10,Zc,↓reduceIte,reduceCtorEq]
      refine kB0 (by simp [kG]) (by omega) (by omega) ?_
      simp only [aR,N0,N1,N2,N3,N4,N5,Z0,Z1,Z2,Z3,Z4,Z5,Z6,Z7,Z8,Z9,Z10,Zc,↓reduceIte,reduceCtorEq]
      (repeat (with_reducible refine And.intro ?_ ?_; focus (first | omega | exact kE | kernel_rfl)))
      refine jH (nn:=7) hΓ (by first | assumption | simp [kG,kY]) Tryz.func33 (by kernel_rfl) rfl (show Tryz.f33.results.toList=[.tmp 2] from rfl) rfl ?_
      simp only [aR,N0,N1,N2,N3,N4,N5,Z0,Z1,Z2,Z3,Z4,Z5,Z6,Z7,Z8,Z9,Z10,Zc,↓reduceIte,reduceCtorEq]
      refine kB0 (by simp [kG]) (by omega) (by omega) ?_
      simp only [aR,N0,N1,N2,N3,N4,N5,Z0,Z1,Z2,Z3,Z4,Z5,Z6,Z7,Z8,Z9,Z10,Zc,↓reduceIte,reduceCtorEq]
      (repeat (with_reducible refine And.intro ?_ ?_; focus (first | omega | exact kE | kernel_rfl)))
      have e1:txnE (remL i)=if (i:Int) > 20 then 3 else 0:=by
        rw [remL_e (by omega)]
        by_cases q:i > 20
        · rw [if_pos q,if_pos (by omega)]
        · rw [if_neg q,if_neg (by omega)]
      have e2:txnE [ediA 1 a,ediA 2 b]=if (a:Int)+b > 2000 then 3 else 0:=by
        rw [two_e ka kb]
        by_cases q:a+b > 2000
        · rw [if_pos q,if_pos (by omega)]
        · rw [if_neg q,if_neg (by omega)]
      have o2:∀ z∈[ediA 1 a,ediA 2 b],okA z:=fun z hz=>by
        simp only [List.mem_cons,List.not_mem_nil,or_false] at hz
        rcases hz with rfl | rfl
        · exact okA_edi ka
        · exact okA_edi kb
      have o3:∀ z∈[ediA 1 1,ediA 1 1],okA z:=fun z hz=>by
        simp only [List.mem_cons,List.not_mem_nil,or_false] at hz
        rcases hz with rfl | rfl <;> exact okA_edi (by omega)
      have w2:IntKind.wrap .i64 ((a:Int)+b)=(a:Int)+b:=kD (by omega) (by omega)
      by_cases q1:(i:Int) > 20 <;> by_cases q2:(a:Int)+b > 2000
      all_goals
        first | rw [if_pos q1] at e1 | rw [if_neg q1] at e1
        first | rw [if_pos q2] at e2 | rw [if_neg q2] at e2
        simp only [aR,N0,N1,N2,N3,N4,N5,Z0,Z1,Z2,Z3,Z4,Z5,Z6,Z7,Z8,Z9,Z10,Zc,↓reduceIte,reduceCtorEq,q1,q2,w2]
        (repeat (with_reducible refine And.intro ?_ ?_; focus (first | omega | exact kE | kernel_rfl)))
        refine z7 (l:=remL i) (by simp [kG]) rfl (by rw [remL_len]; omega) (remL_ok i) ?_
        rw [e1]
        simp only [aR,N0,N1,N2,N3,N4,N5,Z0,Z1,Z2,Z3,Z4,Z5,Z6,Z7,Z8,Z9,Z10,Zc,↓reduceIte,reduceCtorEq]
        refine z7 (l:=[ediA 1 a,ediA 2 b]) (by simp [kG]) rfl (by simp) o2 ?_
        rw [e2]
        simp only [aR,N0,N1,N2,N3,N4,N5,Z0,Z1,Z2,Z3,Z4,Z5,Z6,Z7,Z8,Z9,Z10,Zc,↓reduceIte,reduceCtorEq]
        refine z7 (l:=[ediA 1 1,ediA 1 1]) (by simp [kG]) rfl (by decide) o3 ?_
        rw [same_e]
        simp only [aR,N0,N1,N2,N3,N4,N5,Z0,Z1,Z2,Z3,Z4,Z5,Z6,Z7,Z8,Z9,Z10,Zc,↓reduceIte,reduceCtorEq]
        (repeat (with_reducible refine And.intro ?_ ?_; focus (first | omega | exact kE | kernel_rfl)))
        refine z7 (l:=[⟨2,1,0,[97],false,[]⟩]) (by simp [kG]) rfl (by decide) (fun z hz=>by rw [List.mem_singleton.1 hz]; exact okA_nil (by simp)) ?_
        rw [rem_e1]
        simp only [aR,N0,N1,N2,N3,N4,N5,Z0,Z1,Z2,Z3,Z4,Z5,Z6,Z7,Z8,Z9,Z10,Zc,↓reduceIte,reduceCtorEq]
        (repeat (with_reducible refine And.intro ?_ ?_; focus (first | omega | exact kE | kernel_rfl)))
        refine z7 (l:=[⟨2,0,0,[],false,[]⟩]) (by simp [kG]) rfl (by decide) (fun z hz=>by rw [List.mem_singleton.1 hz]; exact okA_nil (by simp)) ?_
        rw [rem_e2]
        simp only [aR,N0,N1,N2,N3,N4,N5,Z0,Z1,Z2,Z3,Z4,Z5,Z6,Z7,Z8,Z9,Z10,Zc,↓reduceIte,reduceCtorEq]
        refine kDM (by simp [kG]) ?_
        simp only [aR,N0,N1,N2,N3,N4,N5,Z0,Z1,Z2,Z3,Z4,Z5,Z6,Z7,Z8,Z9,Z10,Zc,↓reduceIte,reduceCtorEq]
end Go.Proofs
end
-- EUr1
section
namespace Go.Proofs.YtfhipjafkdembaaGreatDoor
open Go Go.ChangeShapes Go.WideShapes Go.ChangeAt Go.RowKit Go.Rw Go.Lib
open Go.ChangeMaps (open_string shut_string)
set_option maxRecDepth 100000
theorem own:ownKnob Tryz.prog.godebug=none:=by kernel_rfl
theorem laidOut:laidOutB Tryz.prog=true:=by kernel_rfl
noncomputable def kCH (os:Os):World :=
  let w0:=World.holding Tryz.prog os ⟨#[],#[],[]⟩
  let put (h:Array Obj) (g:Nat) (cs:Array Value):Array Obj:=h.modify g fun
    | .cells _ t frozen=>.cells cs t frozen
    | o=>o
  let h1:=put w0.heap 0 (Lib.firstTab.map fun z=>Value.int .u8 z).toArray
  let h2:=put h1 1 ((List.range 16).flatMap fun i=>[Value.int .u8 (Lib.accLo i),Value.int .u8 (Lib.accHi i)]).toArray
  { w0 with heap:=h2 }
abbrev laidL : List (String × DataW Unit) := [("unicode/utf8.acceptRanges", Lib.acceptData), ("unicode/utf8.first", Lib.firstData)]
theorem laid_met (os:Os) (args:Array Value):laidMet Tryz.prog laidL ((kCH os).forCall (fun _ _=>0) ⟨#[],args,[]⟩).memory :=
  (LaidIn.of_run (l:=laidL) [1,0] 8 (by kernel_rfl) (by kernel_rfl) (by kernel_rfl) (by kernel_rfl)).met
theorem tabs_of {W:World} (hL:laidMet Tryz.prog laidL W):TabOk W (kS none):=by
  have htab:Lib.Utf8Tabs 0 1 W :=
    utf8Tabs_of_readsT (U8Types.of196 Tryz.lays196) ⟨by kernel_rfl,by kernel_rfl,by kernel_rfl,by kernel_rfl,by kernel_rfl,by kernel_rfl,by kernel_rfl⟩ (Lib.laidMet.reads hL (.tail _ (.head _))) (Lib.laidMet.reads hL (.head _))
  refine ⟨htab,fun g hg=>⟨?_,by rintro ⟨k,hk,_⟩; cases hk⟩⟩
  have key:∀ g i v,W.cell? ⟨g,i,none⟩=some v→g < W.heap.size:=fun g i v h=>Fw_lt (Nat.lt_of_le_of_lt (Nat.zero_le i) (Fw_cell h))
  rcases hg with rfl | rfl
  · exact key 0 _ _ (htab.1 0 (by omega))
  · exact key 1 _ _ (htab.2 0 (by omega)).1
theorem i64_wf {n:Int} (h:(Lit.int .i64 n).wf=true):-9223372036854775808≤n∧n≤9223372036854775807:=by
  simp [Lit.wf,IntKind.min,IntKind.max,IntKind.signed,IntKind.bits] at h; omega
end Go.Proofs.YtfhipjafkdembaaGreatDoor
end
