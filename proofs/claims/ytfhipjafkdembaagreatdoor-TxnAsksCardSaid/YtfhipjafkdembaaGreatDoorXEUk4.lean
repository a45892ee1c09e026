/-
  The document's Check of a transaction. The document's transaction on a tree. What the acts did,in the order of the IDs. Plain. Library functions' bodies at this dump,compared by the kernel: slices.SortFunc,cmp.Compare. The order of what was done: by ID. effect.Of,up to the sort. An edit behind another one,unit by unit and piece by piece. Plain. xform.Over,walked. What an edit behind another one does. Plain. effect: own,Get,behind,Over. ComposeAsks answers true. ComposeDoes answers true. XformMeets answers true. The document's Over. EffectSees answers true. How much is given; lists of what was done,the document's and the program's. Lists of what was done: the document's and the program's. effect.Same. The document's SameOnes. EffectKeeps answers true. rebase: why an act clashes; an edit behind what was done. rebase: a transaction behind what was done. rebase.Over. What the acts did,ID by ID. Plain. Two transactions with nothing in common. Plain. How much a tree is; is it qV; whose qI a transaction touches. The program's tree: a map of qI,by their IDs. What the map has. The program's tree: new ones; looking at qI. Library functions' bodies at this dump,compared by the kernel: maps.Keys,slices.Sorted,slices.Sort,maps.Clone.
-/
import Derived.Test.YtfhipjafkdembaaGreatDoorXEAp3
import Derived.Test.YtfhipjafkdembaaGreatDoorXEUo1
import Derived.Test.YtfhipjafkdembaaGreatDoorXETi
import Derived.Shelf.SlLaysF0
import Derived.Shelf.SlicesG.Cmp
import Derived.Test.YtfhipjafkdembaaGreatDoorRwK
import Derived.Test.YtfhipjafkdembaaGreatDoorXEUn3
import Derived.Test.YtfhipjafkdembaaGreatDoorRwO
import Derived.Shelf.SlIterI.Sorted
import Derived.Shelf.SlIterI.Nil
import Derived.Shelf.SlMaps.Clone
import Derived.Shelf.SortM.Plain
import Derived.Shelf.SortM.SortNone
set_option linter.unusedSimpArgs false
set_option linter.unusedVariables false
set_option linter.defProp false
set_option linter.unusedSectionVars false

-- EUk4
section
namespace Go.Proofs
open Go Go.Rw
open _root_.Nat renaming reduceAdd → N0, reduceSub → N1, reduceMul → N2, reduceLT → N3, reduceLeDiff → N4, reduceEqDiff → N5
open _root_.Int renaming reduceNeg → Z0, reduceAdd → Z1, reduceSub → Z2, reduceMul → Z3, reduceGT → Z4, reduceGE → Z5, reduceLT → Z6, reduceLE → Z7, reduceEq → Z8, reduceNe → Z9, reduceToNat → Z10, cast_ofNat_Int → Zc
set_option maxRecDepth 100000
theorem cnt_part {c:Cp} (h:qV c=true):cnt c.t=if c.k=2 then lc c.t else 0:=by
  rcases zQ h with ⟨h1,_,_,h2⟩ | ⟨h1,_,h2⟩
  · rw [if_pos h1,kBl,lc_cpts h2]
  · rw [if_neg (by omega),h2]; rfl
theorem bad_rest {a:Ac} (h1:¬ a.k < 1) (h2:¬ a.k > 4) (h3:a=zH a):badA a=decide (a.id < 1∨a.id > 1099511627776∨a.par < 0∨a.par > 1099511627776∨((a.k=1∨a.k=3)∧qG a.nm=false)):=by
  unfold badA
  rw [Bool.eq_iff_iff,decide_eq_true_eq,decide_eq_true_eq]
  constructor
  · rintro (h | h | h | h)
    · exact absurd h h1
    · exact absurd h h2
    · exact absurd h3 h
    · exact h
  · exact fun h=>.inr (.inr (.inr h))
theorem plain_ops {a:Ac} (h:a=zH a) (hk:a.k≠4):a.ops=[]:=by
  rw [h]
  unfold zH
  repeat' split
  all_goals first | rfl | contradiction
theorem one_bad {a:Ac} (h:badA a=true):oneI a=1:=by rw [oneI,h]; rfl
theorem one_ok {a:Ac} (h:badA a=false):oneI a=if a.k=4 then qS a.ops else 0:=by rw [oneI,h]; rfl
theorem putS_snoc {l:List Ac} {i:Nat} (h:i < l.length):putS (l.take (i+1))=putS (l.take i)+putC l[i].ops:=by
  rw [List.take_succ_eq_append_getElem h]
  generalize l.take i=x
  generalize l[i]=a
  induction x with
  | nil=>simp [putS]
  | cons b x ih=>simp only [List.cons_append,putS,ih]; omega
theorem putC_snoc {l:List Cp} {i:Nat} (h:i < l.length):putC (l.take (i+1))=putC (l.take i)+(if l[i].k=2 then lc l[i].t else 0):=by
  rw [List.take_succ_eq_append_getElem h]
  generalize l.take i=x
  generalize l[i]=a
  induction x with
  | nil=>simp [putC]
  | cons b x ih=>simp only [List.cons_append,putC,ih]; omega
theorem putC_le (l:List Cp) (i:Nat):putC (l.take i)≤putC l:=by
  induction l generalizing i with
  | nil=>simp [putC]
  | cons c l ih =>
    cases i with
    | zero=>simp [putC]
    | succ i=>rw [List.take_succ_cons,putC,putC]; have:=ih i; omega
set_option maxHeartbeats 8000000 in
theorem rtcheck_good:Rw.Good Tryz.prog 37 z7:=by
  have hΓ:kL Tryz.prog [(42,kA9),(40,jR),(31,kB4),(86,kAJ),(56,kDH)]:=(kH kFK (kH kCR (kH rname_good (kH rcheck_good (kH rcount_good kJ)))))
  refine kW (nn:=121) hΓ Tryz.func37 (by kernel_rfl) rfl (show Tryz.f37.results.toList=[.tmp 2] from rfl) (fun _=>rfl) (fun x=>by simp [AV.erL,AV.er,jT]) ?_
  rintro ⟨l,hl,ho⟩
  simp only [aR,N0,N1,N2,N3,N4,N5,Z0,Z1,Z2,Z3,Z4,Z5,Z6,Z7,Z8,Z9,Z10,Zc,↓reduceIte,reduceCtorEq,kS]
  by_cases hlen:(l.length:Int) > 20
  · have e0:txnE l=3:=by unfold txnE; rw [if_pos (by omega)]
    simp only [aR,N0,N1,N2,N3,N4,N5,Z0,Z1,Z2,Z3,Z4,Z5,Z6,Z7,Z8,Z9,Z10,Zc,↓reduceIte,reduceCtorEq,hlen,e0]
  have e0:txnE l=if jS [] l≠0 then jS [] l else if (putS l:Int) > 2000 then 3 else 0:=by unfold txnE; rw [if_neg (by omega)]
  have hsl:=putS_le l fun a ha=>(ho a ha).1
  simp only [aR,N0,N1,N2,N3,N4,N5,Z0,Z1,Z2,Z3,Z4,Z5,Z6,Z7,Z8,Z9,Z10,Zc,↓reduceIte,reduceCtorEq,hlen,kS]
  obtain ⟨St,hSt⟩:∃ St:{ i:Nat // i≤l.length∧jS (l.take i) (l.drop i)=jS [] l∧putS (l.take i)≤i * 1099511627776 }→AS,∀ i,St i=AS.of 121 [(0,.sl 0 6 (acts l)),(3,.v (.int .i64 (putS (l.take i.1)))),(4,.v (.int .i64 i.1))] [] []:=⟨_,fun _=>rfl⟩
  refine qE hΓ St (fun i=>l.length - i.1) ⟨0,by omega,by simp,by simp [putS]⟩ (by rw [hSt]; refine kN [] [] ?_; simp only [aR,N0,N1,N2,N3,N4,N5,Z0,Z1,Z2,Z3,Z4,Z5,Z6,Z7,Z8,Z9,Z10,Zc,↓reduceIte,reduceCtorEq,List.take_zero,putS] <;> ((repeat' apply And.intro) <;> first | rfl | omega | trivial)) ?_
  rintro ⟨i,hi,hc,hpi⟩
  rw [hSt]
  simp only
  simp only [aR,N0,N1,N2,N3,N4,N5,Z0,Z1,Z2,Z3,Z4,Z5,Z6,Z7,Z8,Z9,Z10,Zc,↓reduceIte,reduceCtorEq,kS]
  (with_reducible first | refine kD (fun h=>?_) (fun h=>?_) | refine kE (fun h=>?_) (fun h=>?_))
  · have hlt:i < l.length:=by omega
    have e1:=zD l hlt
    have ha:=ho _ (List.getElem_mem hlt)
    have hps:=putS_snoc hlt
    rw [List.drop_eq_getElem_cons hlt,jS,← List.take_succ_eq_append_getElem hlt] at hc
    have hcl:kDC (l.take i) l[i]=(l.take i).any fun b=>decide (b.k=4∧b.id=l[i].id):=rfl
    generalize l[i]=a at *
    obtain ⟨k,id,par,nm,dir,ops⟩:=a
    obtain ⟨oa,hn⟩:=ha
    simp only at oa hn hps
    have wr1:=kA (n:=(i:Int)+1) (by omega) (by omega)
    have bad:badA ⟨k,id,par,nm,dir,ops⟩=true→txnE l=1:=fun hb=>by
      have h1:=one_bad hb
      rw [if_pos (by rw [h1]; decide),h1] at hc
      rw [e0,← hc]; rfl
    simp only [aR,N0,N1,N2,N3,N4,N5,Z0,Z1,Z2,Z3,Z4,Z5,Z6,Z7,Z8,Z9,Z10,Zc,↓reduceIte,reduceCtorEq,h,e1,aA,kS]
    (repeat (with_reducible refine And.intro ?_ ?_; focus (first | omega | exact kF | kernel_rfl)))
    by_cases h1:k < 1
    · have eb:=bad (by simp [badA,h1])
      simp only [aR,N0,N1,N2,N3,N4,N5,Z0,Z1,Z2,Z3,Z4,Z5,Z6,Z7,Z8,Z9,Z10,Zc,↓reduceIte,reduceCtorEq,h1,eb]
    by_cases h2:k > 4
    · have eb:=bad (by simp [badA,h2])
      simp only [aR,N0,N1,N2,N3,N4,N5,Z0,Z1,Z2,Z3,Z4,Z5,Z6,Z7,Z8,Z9,Z10,Zc,↓reduceIte,reduceCtorEq,h1,h2,eb]
    simp only [aR,N0,N1,N2,N3,N4,N5,Z0,Z1,Z2,Z3,Z4,Z5,Z6,Z7,Z8,Z9,Z10,Zc,↓reduceIte,reduceCtorEq,h1,h2]
    refine kBn (by simp [kI]) (a:=⟨k,id,par,nm,dir,ops⟩) rfl oa ?_
    simp only [aR,N0,N1,N2,N3,N4,N5,Z0,Z1,Z2,Z3,Z4,Z5,Z6,Z7,Z8,Z9,Z10,Zc,↓reduceIte,reduceCtorEq,h1,h2]
    refine kD0 (by simp [kI]) (a:=⟨k,id,par,nm,dir,ops⟩) rfl rfl oa (kFR (a:=⟨k,id,par,nm,dir,ops⟩) oa) ?_
    obtain ⟨b,hb⟩:∃ b,decide ((⟨k,id,par,nm,dir,ops⟩:Ac)=zH ⟨k,id,par,nm,dir,ops⟩)=b:=⟨_,rfl⟩
    rw [hb]
    cases b
    · have hb2:¬ (⟨k,id,par,nm,dir,ops⟩:Ac)=zH ⟨k,id,par,nm,dir,ops⟩:=of_decide_eq_false hb
      have eb:=bad (by simp [badA,hb2])
      simp only [aR,N0,N1,N2,N3,N4,N5,Z0,Z1,Z2,Z3,Z4,Z5,Z6,Z7,Z8,Z9,Z10,Zc,↓reduceIte,reduceCtorEq,h1,h2,eb]
    have hb2:(⟨k,id,par,nm,dir,ops⟩:Ac)=zH ⟨k,id,par,nm,dir,ops⟩:=of_decide_eq_true hb
    have br:=bad_rest (a:=⟨k,id,par,nm,dir,ops⟩) h1 h2 hb2
    have hpl:=plain_ops hb2
    simp only at br hpl
    clear hb hb2
    by_cases h3:id < 1
    · have eb:=bad (by rw [br]; simp [h3])
      simp only [aR,N0,N1,N2,N3,N4,N5,Z0,Z1,Z2,Z3,Z4,Z5,Z6,Z7,Z8,Z9,Z10,Zc,↓reduceIte,reduceCtorEq,h1,h2,h3,eb]
    by_cases h4:id > 1099511627776
    · have eb:=bad (by rw [br]; simp [h4])
      simp only [aR,N0,N1,N2,N3,N4,N5,Z0,Z1,Z2,Z3,Z4,Z5,Z6,Z7,Z8,Z9,Z10,Zc,↓reduceIte,reduceCtorEq,h1,h2,h3,h4,eb]
    by_cases h5:par < 0
    · have eb:=bad (by rw [br]; simp [h5])
      simp only [aR,N0,N1,N2,N3,N4,N5,Z0,Z1,Z2,Z3,Z4,Z5,Z6,Z7,Z8,Z9,Z10,Zc,↓reduceIte,reduceCtorEq,h1,h2,h3,h4,h5,eb]
    by_cases h6:par > 1099511627776
    · have eb:=bad (by rw [br]; simp [h6])
      simp only [aR,N0,N1,N2,N3,N4,N5,Z0,Z1,Z2,Z3,Z4,Z5,Z6,Z7,Z8,Z9,Z10,Zc,↓reduceIte,reduceCtorEq,h1,h2,h3,h4,h5,h6,eb]
    have good:¬ ((k=1∨k=3)∧qG nm=false)→badA ⟨k,id,par,nm,dir,ops⟩=false:=fun hh=>by
      rw [br,decide_eq_false_iff_not]
      rintro (h | h | h | h | h)
      · exact h3 h
      · exact h4 h
      · exact h5 h
      · exact h6 h
      · exact hh h
    -- whatever is not an edit
    have other:k≠4→badA ⟨k,id,par,nm,dir,ops⟩=false→jS (l.take (i+1)) (l.drop (i+1))=jS [] l∧putS (l.take (i+1))=putS (l.take i):=fun hk hbd=>by
      have g1:=one_ok hbd
      rw [if_neg hk] at g1
      rw [if_neg (by rw [g1]; simp),if_neg (fun hh=>hk hh.1)] at hc
      refine ⟨hc,?_⟩
      rw [hps,hpl hk]; simp [putC]
    by_cases k1:k=1
    · subst k1
      simp only [aR,N0,N1,N2,N3,N4,N5,Z0,Z1,Z2,Z3,Z4,Z5,Z6,Z7,Z8,Z9,Z10,Zc,↓reduceIte,reduceCtorEq,h3,h4,h5,h6]
      refine kB1 (by simp [kI]) hn ?_
      cases hnm:qG nm
      · have eb:=bad (by rw [br]; simp [hnm])
        simp only [aR,N0,N1,N2,N3,N4,N5,Z0,Z1,Z2,Z3,Z4,Z5,Z6,Z7,Z8,Z9,Z10,Zc,↓reduceIte,reduceCtorEq,eb]
      · obtain ⟨g1,g2⟩:=other (by decide) (good (by simp [hnm]))
        simp only [aR,N0,N1,N2,N3,N4,N5,Z0,Z1,Z2,Z3,Z4,Z5,Z6,Z7,Z8,Z9,Z10,Zc,↓reduceIte,reduceCtorEq,wr1]
        refine kO ⟨i+1,by omega,g1,by omega⟩ (by simp only; omega) ?_
        rw [hSt]; refine kN [] [] ?_
        simp only [aR,N0,N1,N2,N3,N4,N5,Z0,Z1,Z2,Z3,Z4,Z5,Z6,Z7,Z8,Z9,Z10,Zc,↓reduceIte,reduceCtorEq,g2] <;> ((repeat' apply And.intro) <;> first | rfl | omega | trivial)
    by_cases k3:k=3
    · subst k3
      simp only [aR,N0,N1,N2,N3,N4,N5,Z0,Z1,Z2,Z3,Z4,Z5,Z6,Z7,Z8,Z9,Z10,Zc,↓reduceIte,reduceCtorEq,h3,h4,h5,h6]
      refine kB1 (by simp [kI]) hn ?_
      cases hnm:qG nm
      · have eb:=bad (by rw [br]; simp [hnm])
        simp only [aR,N0,N1,N2,N3,N4,N5,Z0,Z1,Z2,Z3,Z4,Z5,Z6,Z7,Z8,Z9,Z10,Zc,↓reduceIte,reduceCtorEq,eb]
      · obtain ⟨g1,g2⟩:=other (by decide) (good (by simp [hnm]))
        simp only [aR,N0,N1,N2,N3,N4,N5,Z0,Z1,Z2,Z3,Z4,Z5,Z6,Z7,Z8,Z9,Z10,Zc,↓reduceIte,reduceCtorEq,wr1]
        refine kO ⟨i+1,by omega,g1,by omega⟩ (by simp only; omega) ?_
        rw [hSt]; refine kN [] [] ?_
        simp only [aR,N0,N1,N2,N3,N4,N5,Z0,Z1,Z2,Z3,Z4,Z5,Z6,Z7,Z8,Z9,Z10,Zc,↓reduceIte,reduceCtorEq,g2] <;> ((repeat' apply And.intro) <;> first | rfl | omega | trivial)
    have gd:=good (fun hh=>by rcases hh.1 with h | h; exact k1 h; exact k3 h)
    by_cases k4:k=4
    case neg =>
      obtain ⟨g1,g2⟩:=other k4 gd
      simp only [aR,N0,N1,N2,N3,N4,N5,Z0,Z1,Z2,Z3,Z4,Z5,Z6,Z7,Z8,Z9,Z10,Zc,↓reduceIte,reduceCtorEq,h1,h2,h3,h4,h5,h6,k1,k3,k4,wr1]
      refine kO ⟨i+1,by omega,g1,by omega⟩ (by simp only; omega) ?_
      rw [hSt]; refine kN [] [] ?_
      simp only [aR,N0,N1,N2,N3,N4,N5,Z0,Z1,Z2,Z3,Z4,Z5,Z6,Z7,Z8,Z9,Z10,Zc,↓reduceIte,reduceCtorEq,g2] <;> ((repeat' apply And.intro) <;> first | rfl | omega | trivial)
    subst k4
    have g1:=one_ok gd
    rw [if_pos rfl] at g1
    simp only at g1
    simp only [aR,N0,N1,N2,N3,N4,N5,Z0,Z1,Z2,Z3,Z4,Z5,Z6,Z7,Z8,Z9,Z10,Zc,↓reduceIte,reduceCtorEq,h3,h4,h5,h6]
    refine call_rcheck (by simp [kI]) rfl oa ?_
    by_cases hck:qS ops=0
    case neg =>
      rw [if_pos (by rw [g1]; exact hck),g1] at hc
      rw [← hc,if_pos hck] at e0
      simp only [aR,N0,N1,N2,N3,N4,N5,Z0,Z1,Z2,Z3,Z4,Z5,Z6,Z7,Z8,Z9,Z10,Zc,↓reduceIte,reduceCtorEq,hck,e0]
    rw [if_neg (by rw [g1,hck]; simp)] at hc
    have hso:=(jD hck).2.2.1
    have hol:=(jD hck).1
    simp only [aR,N0,N1,N2,N3,N4,N5,Z0,Z1,Z2,Z3,Z4,Z5,Z6,Z7,Z8,Z9,Z10,Zc,↓reduceIte,reduceCtorEq,hck]
    obtain ⟨Sb,hSb⟩:∃ Sb:{ j:Nat // j≤i∧((l.take i).any fun b=>decide (b.k=4∧b.id=id))=((l.take i).drop j).any fun b=>decide (b.k=4∧b.id=id) }→AS,∀ j,Sb j=AS.of 121 [(0,.sl 0 6 (acts l)),(3,.v (.int .i64 (putS (l.take i)))),(4,.v (.int .i64 i)),(5,.ptr 0 0),(7,.v (.int .i64 j.1))] [.cells [.v (.int .i64 4),.v (.int .i64 id),.v (.int .i64 par),.v (sv nm),.v (.bool dir),.sl 0 3 (qB ops)]] []:=⟨_,fun _=>rfl⟩
    refine qE hΓ Sb (fun j=>i - j.1) ⟨0,by omega,by simp⟩ (by rw [hSb]; refine kN [0] [] ?_; simp only [aR,N0,N1,N2,N3,N4,N5,Z0,Z1,Z2,Z3,Z4,Z5,Z6,Z7,Z8,Z9,Z10,Zc,↓reduceIte,reduceCtorEq] <;> ((repeat' apply And.intro) <;> first | rfl | omega | trivial)) ?_
    rintro ⟨j,hj,hcj⟩
    rw [hSb]
    simp only
    simp only [aR,N0,N1,N2,N3,N4,N5,Z0,Z1,Z2,Z3,Z4,Z5,Z6,Z7,Z8,Z9,Z10,Zc,↓reduceIte,reduceCtorEq]
    (with_reducible first | refine kD (fun h7=>?_) (fun h7=>?_) | refine kE (fun h7=>?_) (fun h7=>?_))
    · have hlt2:j < l.length:=by omega
      have hlt3:j < (l.take i).length:=by rw [List.length_take]; omega
      have e3:=zD l hlt2
      rw [List.drop_eq_getElem_cons hlt3,List.any_cons,List.getElem_take] at hcj
      generalize l[j]=b at *
      obtain ⟨bk,bid,bpar,bnm,bdir,bops⟩:=b
      simp only at hcj
      have wr2:=kA (n:=(j:Int)+1) (by omega) (by omega)
      by_cases k5:bk=4
      · by_cases k6:bid=id
        · have hT:kDC (l.take i) ⟨4,id,par,nm,dir,ops⟩=true:=by rw [hcl,hcj]; simp [k5,k6]
          rw [if_pos ⟨rfl,hT⟩] at hc
          rw [← hc,if_pos (by omega)] at e0
          simp only [aR,N0,N1,N2,N3,N4,N5,Z0,Z1,Z2,Z3,Z4,Z5,Z6,Z7,Z8,Z9,Z10,Zc,↓reduceIte,reduceCtorEq,h7,e3,aA,kS,k5,k6,e0]
          (repeat (with_reducible refine And.intro ?_ ?_; focus (first | omega | exact kF | kernel_rfl)))
          ((repeat' apply And.intro) <;> first | rfl | omega | trivial)
        · simp only [aR,N0,N1,N2,N3,N4,N5,Z0,Z1,Z2,Z3,Z4,Z5,Z6,Z7,Z8,Z9,Z10,Zc,↓reduceIte,reduceCtorEq,h7,e3,aA,kS,k5,k6,wr2]
          (repeat (with_reducible refine And.intro ?_ ?_; focus (first | omega | exact kF | kernel_rfl)))
          refine kO ⟨j+1,by omega,by rw [hcj]; simp [k6]⟩ (by simp only; omega) ?_
          rw [hSb]; refine kN [0] [] ?_
          simp only [aR,N0,N1,N2,N3,N4,N5,Z0,Z1,Z2,Z3,Z4,Z5,Z6,Z7,Z8,Z9,Z10,Zc,↓reduceIte,reduceCtorEq] <;> ((repeat' apply And.intro) <;> first | rfl | omega | trivial)
      · simp only [aR,N0,N1,N2,N3,N4,N5,Z0,Z1,Z2,Z3,Z4,Z5,Z6,Z7,Z8,Z9,Z10,Zc,↓reduceIte,reduceCtorEq,h7,e3,aA,kS,k5,wr2]
        (repeat (with_reducible refine And.intro ?_ ?_; focus (first | omega | exact kF | kernel_rfl)))
        refine kO ⟨j+1,by omega,by rw [hcj]; simp [k5]⟩ (by simp only; omega) ?_
        rw [hSb]; refine kN [0] [] ?_
        simp only [aR,N0,N1,N2,N3,N4,N5,Z0,Z1,Z2,Z3,Z4,Z5,Z6,Z7,Z8,Z9,Z10,Zc,↓reduceIte,reduceCtorEq] <;> ((repeat' apply And.intro) <;> first | rfl | omega | trivial)
    · rw [List.drop_of_length_le (by rw [List.length_take]; omega)] at hcj
      have hF:kDC (l.take i) ⟨4,id,par,nm,dir,ops⟩=false:=by rw [hcl,hcj]; rfl
      rw [if_neg (by rw [hF]; simp)] at hc
      have hpt:=putC_tot ops
      have hot:=oa.2.1
      simp only [aR,N0,N1,N2,N3,N4,N5,Z0,Z1,Z2,Z3,Z4,Z5,Z6,Z7,Z8,Z9,Z10,Zc,↓reduceIte,reduceCtorEq,h7]
      obtain ⟨Sd,hSd⟩:∃ Sd:{ t:Nat // t≤ops.length }→AS,∀ t,Sd t=AS.of 121 [(0,.sl 0 6 (acts l)),(3,.v (.int .i64 ((putS (l.take i)+putC (ops.take t.1):Nat):Int))),(4,.v (.int .i64 i)),(5,.ptr 0 0),(8,.v (.int .i64 t.1))] [.cells [.v (.int .i64 4),.v (.int .i64 id),.v (.int .i64 par),.v (sv nm),.v (.bool dir),.sl 0 3 (qB ops)]] []:=⟨_,fun _=>rfl⟩
      refine qE hΓ Sd (fun t=>ops.length - t.1) ⟨0,by omega⟩ (by rw [hSd]; refine kN [0] [] ?_; simp only [aR,N0,N1,N2,N3,N4,N5,Z0,Z1,Z2,Z3,Z4,Z5,Z6,Z7,Z8,Z9,Z10,Zc,↓reduceIte,reduceCtorEq,List.take_zero,putC] <;> ((repeat' apply And.intro) <;> first | rfl | omega | trivial)) ?_
      rintro ⟨t,ht⟩
      rw [hSd]
      simp only
      simp only [aR,N0,N1,N2,N3,N4,N5,Z0,Z1,Z2,Z3,Z4,Z5,Z6,Z7,Z8,Z9,Z10,Zc,↓reduceIte,reduceCtorEq,kK]
      (with_reducible first | refine kD (fun h8=>?_) (fun h8=>?_) | refine kE (fun h8=>?_) (fun h8=>?_))
      · have hlt4:t < ops.length:=by omega
        have e4:=qH ops hlt4
        have hct:=okL.text oa (List.getElem_mem hlt4)
        have hcp:=cnt_part (hso _ (List.getElem_mem hlt4))
        have hpc:=putC_snoc hlt4
        have hpl1:=putC_le ops (t+1)
        have hpl2:=putC_le ops t
        rw [← hcp] at hpc
        generalize ops[t]=c at *
        obtain ⟨ck,cn,ct⟩:=c
        simp only at hct hpc
        simp only [aR,N0,N1,N2,N3,N4,N5,Z0,Z1,Z2,Z3,Z4,Z5,Z6,Z7,Z8,Z9,Z10,Zc,↓reduceIte,reduceCtorEq,h8,e4,cA,kK]
        (repeat (with_reducible refine And.intro ?_ ?_; focus (first | omega | exact kF | kernel_rfl)))
        refine call_rcount (by simp [kI]) hct ?_
        simp only [aR,N0,N1,N2,N3,N4,N5,Z0,Z1,Z2,Z3,Z4,Z5,Z6,Z7,Z8,Z9,Z10,Zc,↓reduceIte,reduceCtorEq,kA (n:=((putS (l.take i)+putC (ops.take t):Nat):Int)+cnt ct) (by omega) (by omega),kA (n:=(t:Int)+1) (by omega) (by omega)]
        refine kO ⟨t+1,by omega⟩ (by simp only; omega) ?_
        rw [hSd]; refine kN [0] [] ?_
        simp only [aR,N0,N1,N2,N3,N4,N5,Z0,Z1,Z2,Z3,Z4,Z5,Z6,Z7,Z8,Z9,Z10,Zc,↓reduceIte,reduceCtorEq,hpc] <;> ((repeat' apply And.intro) <;> first | rfl | omega | trivial)
      · have e5:ops.take t=ops:=List.take_of_length_le (by omega)
        simp only [aR,N0,N1,N2,N3,N4,N5,Z0,Z1,Z2,Z3,Z4,Z5,Z6,Z7,Z8,Z9,Z10,Zc,↓reduceIte,reduceCtorEq,h8,e5,wr1]
        refine kO ⟨i+1,by omega,hc,by omega⟩ (by simp only; omega) ?_
        rw [hSt]; refine kN [] [] ?_
        simp only [aR,N0,N1,N2,N3,N4,N5,Z0,Z1,Z2,Z3,Z4,Z5,Z6,Z7,Z8,Z9,Z10,Zc,↓reduceIte,reduceCtorEq,hps] <;> ((repeat' apply And.intro) <;> first | rfl | omega | trivial)
  · rw [List.drop_of_length_le (by omega),jS] at hc
    rw [← hc,if_neg (by simp)] at e0
    simp only [aR,N0,N1,N2,N3,N4,N5,Z0,Z1,Z2,Z3,Z4,Z5,Z6,Z7,Z8,Z9,Z10,Zc,↓reduceIte,reduceCtorEq,h,show l.take i=l from List.take_of_length_le (by omega)]
    by_cases hp:(putS l:Int) > 2000
    · rw [if_pos hp] at e0
      simp only [aR,N0,N1,N2,N3,N4,N5,Z0,Z1,Z2,Z3,Z4,Z5,Z6,Z7,Z8,Z9,Z10,Zc,↓reduceIte,reduceCtorEq,hp,e0]
    · rw [if_neg hp] at e0
      simp only [aR,N0,N1,N2,N3,N4,N5,Z0,Z1,Z2,Z3,Z4,Z5,Z6,Z7,Z8,Z9,Z10,Zc,↓reduceIte,reduceCtorEq,hp,e0]
end Go.Proofs
end
-- EUk5
section
namespace Go.Proofs
open Go Go.Rw
open _root_.Nat renaming reduceAdd → N0, reduceSub → N1, reduceMul → N2, reduceLT → N3, reduceLeDiff → N4, reduceEqDiff → N5
open _root_.Int renaming reduceNeg → Z0, reduceAdd → Z1, reduceSub → Z2, reduceMul → Z3, reduceGT → Z4, reduceGE → Z5, reduceLT → Z6, reduceLE → Z7, reduceEq → Z8, reduceNe → Z9, reduceToNat → Z10, cast_ofNat_Int → Zc
set_option maxRecDepth 100000
end Go.Proofs
end
-- EUe5
section
namespace Go.Proofs
open Go Go.Rw
set_option maxRecDepth 100000
end Go.Proofs
end
-- EUeL
section
namespace Go.Proofs
open Go.Shelf
end Go.Proofs
end
-- EUe4
section
namespace Go.Proofs
open Go Go.Shelf Go.RowKit Go.Lib Go.Sort
set_option maxRecDepth 100000
end Go.Proofs
end
-- EUe3
section
namespace Go.Proofs
open Go Go.Rw
set_option maxRecDepth 100000
end Go.Proofs
end
-- EAx1
section
namespace Go.Proofs
open Go Go.Rw
set_option maxRecDepth 100000
end Go.Proofs
end
-- EAx2
section
namespace Go.Proofs
open Go Go.Rw
set_option maxRecDepth 100000
end Go.Proofs
end
-- EAx4
section
namespace Go.Proofs
open Go Go.Rw
set_option maxRecDepth 100000
end Go.Proofs
end
-- EUe6
section
namespace Go.Proofs
open Go Go.Rw
set_option maxRecDepth 100000
end Go.Proofs
end
-- EAw8
section
namespace Go.Proofs
open Go Go.Rw
set_option maxRecDepth 100000
end Go.Proofs
end
-- EAw10
section
namespace Go.Proofs
open Go Go.Rw
set_option maxRecDepth 100000
end Go.Proofs
end
-- EAx5
section
namespace Go.Proofs
open Go Go.Rw
set_option maxRecDepth 100000
end Go.Proofs
end
-- EAx3
section
namespace Go.Proofs
open Go Go.Rw
set_option maxRecDepth 100000
end Go.Proofs
end
-- EUe7
section
namespace Go.Proofs
open Go Go.Rw
set_option maxRecDepth 100000
end Go.Proofs
end
-- EUe8
section
namespace Go.Proofs
open Go Go.Rw
open _root_.Nat renaming reduceAdd → N0, reduceSub → N1, reduceMul → N2, reduceLT → N3, reduceLeDiff → N4, reduceEqDiff → N5
open _root_.Int renaming reduceNeg → Z0, reduceAdd → Z1, reduceSub → Z2, reduceMul → Z3, reduceGT → Z4, reduceGE → Z5, reduceLT → Z6, reduceLE → Z7, reduceEq → Z8, reduceNe → Z9, reduceToNat → Z10, cast_ofNat_Int → Zc
set_option maxRecDepth 100000
def wF (m:Int):Int→List (Nat×List Cp)→Int
  | s,[]=>s
  | s,(n,c)::r=>if s≤m then wF m (sumF s [(n:Int),zM m 0 c,3]) r else s
theorem kDd (m:Int):∀ (l:List Cp) (s:Int),0≤s→s≤1099511627776→0≤zM m s l∧zM m s l≤1099511627776
  | [],s,h,h2=>⟨h,h2⟩
  | c::r,s,h,h2=>by
    rw [zM]
    split
    · have:=kAx [(c.t.length:Int),2] (x:=s) ⟨h,h2⟩ (by simp)
      exact kDd m r _ (by omega) this.2
    · exact ⟨h,h2⟩
theorem wF_le {m:Int} (hm:m < 1099511627776):∀ (l:List (Nat×List Cp)) {s:Int},0≤s→wF m s l≤m→s+3 * l.length≤m∧∀ p∈l,(p.1:Int)≤m∧zM m 0 p.2≤m
  | [],s,_,h=>by simp only [wF] at h; simp; exact h
  | (n,c)::r,s,hs,h=>by
    simp only [wF] at h
    split at h
    · rename_i h1
      have hc:=kDd m c 0 (by omega) (by omega)
      have e:sumF s [(n:Int),zM m 0 c,3]=addI (addI (addI s n) (zM m 0 c)) 3:=rfl
      have h2:0≤addI (addI (addI s n) (zM m 0 c)) 3:=by unfold addI; omega
      rw [e] at h
      obtain ⟨h3,h4⟩:=wF_le hm r h2 h
      have h5:addI (addI (addI s n) (zM m 0 c)) 3≤m:=by omega
      have h6:addI (addI (addI s n) (zM m 0 c)) 3=s+n+zM m 0 c+3:=by unfold addI at h5 ⊢; omega
      refine ⟨by simp only [List.length_cons]; omega,fun p hp=>?_⟩
      rcases List.mem_cons.1 hp with rfl | hp
      · exact ⟨by simp only; omega,by simp only; omega⟩
      · exact h4 p hp
    · omega
abbrev kCY (c:List Cp):Prop:=c.length≤9223372036854775807∧∀ x∈c,(-9223372036854775808≤x.n∧x.n≤9223372036854775807)∧x.t.length≤9223372036854775807
abbrev GivenA:={ l:List Ac // l.length≤9223372036854775807∧∀ a∈l,a.nm.length≤9223372036854775807∧kCY a.ops }
def wA (l:List Ac):List (Nat×List Cp):=l.map fun a=>(a.nm.length,a.ops)
theorem wA_cons (a:Ac) (l:List Ac):wA (a::l)=(a.nm.length,a.ops)::wA l:=rfl
abbrev actsCon:Con where
  ι:=GivenA×{ m:Int // 0≤m∧m≤1000000 }
  args:=fun p=>[.sl 0 6 (acts p.1.1),.v (.int .i64 p.2.1)]
  post:=fun p r=>r = .v (.int .i64 (wF p.2.1 0 (wA p.1.1)))
  plain:=true
theorem acts_good:Rw.Good Tryz.prog 50 actsCon:=by
  have hΓ:kL Tryz.prog [(93,kGC),(94,kEJ)]:=(kH sum_good (kH weigh_good kJ))
  refine kW (nn:=35) hΓ Tryz.func50 (by kernel_rfl) rfl (show Tryz.f50.results.toList=[.tmp 4] from rfl) (fun _=>rfl) (fun x=>by simp [AV.erL,AV.er,jT]) ?_
  rintro ⟨⟨l,hl,hc⟩,⟨m,hm⟩⟩
  simp only [aR,N0,N1,N2,N3,N4,N5,Z0,Z1,Z2,Z3,Z4,Z5,Z6,Z7,Z8,Z9,Z10,Zc,↓reduceIte,reduceCtorEq,kS]
  obtain ⟨St,hSt⟩:∃ St:{ p:Int×Nat // p.2≤l.length∧(0≤p.1∧p.1≤1099511627776)∧wF m 0 (wA l)=wF m p.1 (wA (l.drop p.2)) }→AS,∀ p,St p=AS.of 35 [(0,.sl 0 6 (acts l)),(1,.v (.int .i64 m)),(5,.v (.int .i64 p.1.1)),(6,.v (.int .i64 p.1.2))] [] []:=⟨_,fun _=>rfl⟩
  refine vc_loopD [(5,[],[])] hΓ St (fun p=>l.length - p.1.2) ⟨(0,0),by omega,by simp only; omega,rfl⟩ (by rw [hSt]; refine kN [] [] ?_; simp only [aR,N0,N1,N2,N3,N4,N5,Z0,Z1,Z2,Z3,Z4,Z5,Z6,Z7,Z8,Z9,Z10,Zc,↓reduceIte,reduceCtorEq] <;> ((repeat' apply And.intro) <;> first | rfl | omega | trivial)) ?_
  rintro ⟨⟨s,i⟩,hi,hs,hb⟩
  simp only at hi hs hb
  rw [hSt]
  simp only
  simp only [aR,N0,N1,N2,N3,N4,N5,Z0,Z1,Z2,Z3,Z4,Z5,Z6,Z7,Z8,Z9,Z10,Zc,↓reduceIte,reduceCtorEq,kY,kS]
  (with_reducible first | refine kD (fun h=>?_) (fun h=>?_) | refine kE (fun h=>?_) (fun h=>?_))
  · have hlt:i < l.length:=by omega
    have hci:=hc l[i] (List.getElem_mem hlt)
    have e1:=zD l hlt
    rw [List.drop_eq_getElem_cons hlt,wA_cons,wF] at hb
    generalize l[i]=a at *
    obtain ⟨k,id,par,nm,dir,ops⟩:=a
    obtain ⟨hn,ho,hoc⟩:=hci
    simp only at hn ho hoc hb e1
    simp (disch:=omega) only [aR,N0,N1,N2,N3,N4,N5,Z0,Z1,Z2,Z3,Z4,Z5,Z6,Z7,Z8,Z9,Z10,Zc,↓reduceIte,reduceCtorEq,kA,kY,h]
    (with_reducible first | refine kD (fun h2=>?_) (fun h2=>?_) | refine kE (fun h2=>?_) (fun h2=>?_))
    · simp (disch:=omega) only [aR,N0,N1,N2,N3,N4,N5,Z0,Z1,Z2,Z3,Z4,Z5,Z6,Z7,Z8,Z9,Z10,Zc,↓reduceIte,reduceCtorEq,kA,kY,h2,e1,aA,kS]
      (repeat (with_reducible refine And.intro ?_ ?_; focus (first | omega | exact kF | kernel_rfl)))
      refine call_weigh (by simp [kI]) rfl ho (fun c h=>(hoc c h).2) hm ?_
      have hcb:=kDd m ops 0 (by omega) (by omega)
      simp (disch:=omega) only [aR,N0,N1,N2,N3,N4,N5,Z0,Z1,Z2,Z3,Z4,Z5,Z6,Z7,Z8,Z9,Z10,Zc,↓reduceIte,reduceCtorEq,kA,kY]
      refine call_sum (by simp [kI]) (y:=[(nm.length:Int),zM m 0 ops,3]) rfl hs (by simp; omega) (by simp) ?_
      simp (disch:=omega) only [aR,N0,N1,N2,N3,N4,N5,Z0,Z1,Z2,Z3,Z4,Z5,Z6,Z7,Z8,Z9,Z10,Zc,↓reduceIte,reduceCtorEq,kA,kY]
      rw [if_pos h2] at hb
      have hr:=kAx [(nm.length:Int),zM m 0 ops,3] hs (by simp; omega)
      refine kO ⟨(sumF s [(nm.length:Int),zM m 0 ops,3],i+1),by simp only; omega,by simp only; omega,hb⟩ (by simp only; omega) ?_
      rw [hSt]; refine kN [] [] ?_
      simp only [aR,N0,N1,N2,N3,N4,N5,Z0,Z1,Z2,Z3,Z4,Z5,Z6,Z7,Z8,Z9,Z10,Zc,↓reduceIte,reduceCtorEq] <;> ((repeat' apply And.intro) <;> first | rfl | omega | trivial)
    · simp (disch:=omega) only [aR,N0,N1,N2,N3,N4,N5,Z0,Z1,Z2,Z3,Z4,Z5,Z6,Z7,Z8,Z9,Z10,Zc,↓reduceIte,reduceCtorEq,kA,kY,h2]
      rw [hb,if_neg h2]
  · simp only [aR,N0,N1,N2,N3,N4,N5,Z0,Z1,Z2,Z3,Z4,Z5,Z6,Z7,Z8,Z9,Z10,Zc,↓reduceIte,reduceCtorEq,kY,h]
    rw [List.drop_of_length_le (by omega)] at hb
    rw [hb]; rfl
theorem call_acts {Γ:Env} (hf:Γ.get 50=some actsCon) {σ:AS} {dr:Bool} {l:List Ac} {m:Int} {ys:List AV} {d:Option Nat} {K:AS→Prop} (hy:ys=acts l) (h1:l.length≤9223372036854775807) (h2:∀ a∈l,a.nm.length≤9223372036854775807∧kCY a.ops) (hm:0≤m∧m≤1000000)
    (hk:cont σ d (.v (.int .i64 (wF m 0 (wA l)))) K):kR Tryz.prog Γ dr σ 50 [.sl 0 6 ys,.v (.int .i64 m)] d K:=by
  subst hy
  exact kP (C:=actsCon) (i:=(⟨l,h1,h2⟩,⟨m,hm⟩)) hf rfl rfl rfl (by simp [AV.erL,AV.er,jT]) (fun _ h=>h) rfl hk
theorem acts_ok {l:List Ac} {m:Int} (hm:m≤1000000) (h2:∀ a∈l,a.nm.length≤9223372036854775807∧kCY a.ops) (h:wF m 0 (wA l)≤m):l.length≤1000000∧∀ a∈l,okL a.ops:=by
  obtain ⟨h3,h4⟩:=wF_le (by omega) (wA l) (Int.le_refl 0) h
  simp only [wA,List.length_map] at h3
  refine ⟨by omega,fun a ha=>(weigh_ok hm (h2 a ha).2.2 (h4 (a.nm.length,a.ops) (List.mem_map.2 ⟨a,ha,rfl⟩)).2).1⟩
end Go.Proofs
end
-- EUe9
section
namespace Go.Proofs
open Go Go.Rw
set_option maxRecDepth 100000
end Go.Proofs
end
-- EUe10
section
namespace Go.Proofs
open Go Go.Rw
set_option maxRecDepth 100000
end Go.Proofs
end
-- EUe13
section
namespace Go.Proofs
open Go Go.Rw
set_option maxRecDepth 100000
end Go.Proofs
end
-- EUe14
section
namespace Go.Proofs
open Go Go.Rw
set_option maxRecDepth 100000
end Go.Proofs
end
-- EUn4
section
namespace Go.Proofs
open Go Go.Rw
set_option maxRecDepth 100000
end Go.Proofs
end
-- EUn5
section
namespace Go.Proofs
open Go Go.Rw
set_option maxRecDepth 100000
end Go.Proofs
end
-- EUn6
section
namespace Go.Proofs
open Go Go.Rw
set_option maxRecDepth 100000
structure Reb where
  out:List Ac
  left:List On
  e:Int
  deriving DecidableEq
theorem kEn {Γ:Env} (hf:Γ.get 35=some z7) {n:Nat} {t:Nat→AV} {hd:Nat→Nat→AV} {nh nl:Nat} {h:Nat→Option AO} {fm:Nat→Nat} {lv:Nat→Option (Nat×Nat)} {mu:Bool} {l:List Ac} {t1:Nat} {ys:List AV} {d:Option Nat} {K:AS→Prop} (hy:ys=acts l) (hl:l.length≤1000000) (ho:∀ a∈l,okA a)
    (hk:cont ⟨n,t,hd,⟨nh,h,nl,fm,lv,mu⟩⟩ d (.v (.int .i64 (txnE l))) K):kR Tryz.prog Γ false ⟨n,t,hd,⟨nh,h,nl,fm,lv,mu⟩⟩ 35 [.sl t1 6 ys] d K:=by
  subst hy
  exact kP (C:=z7) (i:=⟨l,hl,ho⟩) hf rfl rfl rfl (by simp [AV.erL,AV.er,jT]) (fun _ h=>h) rfl hk
end Go.Proofs
end
-- EUe11
section
namespace Go.Proofs
open Go Go.Rw
set_option maxRecDepth 100000
end Go.Proofs
end
-- EUk8
section
namespace Go.Proofs
open Go Go.Rw
set_option maxRecDepth 100000
def srtN (l:List Nd):Prop:=(l.map Nd.id).Pairwise (· < ·)
def atI (i:Int):List Nd→Option Nd
  | []=>none
  | x::l=>if x.id=i then some x else atI i l
theorem at_ndx (i:Int):∀ l:List Nd,atI i l=if ndx i l < l.length then some (l.getD (ndx i l) kC0) else none
  | []=>by simp [atI,ndx]
  | x::l=>by
    rw [atI,ndx,at_ndx i l]
    by_cases h:x.id=i
    · simp [h]
    · simp only [if_neg h,List.length_cons,Nat.add_lt_add_iff_right,List.getD_cons_succ]
theorem at_none {i:Int}:∀ {l:List Nd},(∀ x∈l,x.id≠i)→atI i l=none
  | [],_=>rfl
  | x::l,h=>by rw [atI,if_neg (h x (List.mem_cons_self ..)),at_none fun y hy=>h y (List.mem_cons_of_mem _ hy)]
theorem at_some {i:Int} {x:Nd}:∀ {l:List Nd},atI i l=some x→x∈l∧x.id=i
  | [],h=>by simp [atI] at h
  | y::l,h=>by
    rw [atI] at h
    split at h
    · rename_i hy; cases h; exact ⟨List.mem_cons_self ..,hy⟩
    · exact ⟨List.mem_cons_of_mem _ (at_some h).1,(at_some h).2⟩
theorem srt_cons {x:Nd} {l:List Nd}:srtN (x::l)↔(∀ y∈l,x.id < y.id)∧srtN l:=by
  simp only [srtN,List.map_cons,List.pairwise_cons,List.mem_map,forall_exists_index,and_imp,forall_apply_eq_imp_iff₂]
def insN (x:Nd):List Nd→List Nd
  | []=>[x]
  | y::l=>if y.id < x.id then y::insN x l else x::y::l
theorem ins_eq (x:Nd):∀ l:List Nd,l.take (atN x.id l)++x::l.drop (atN x.id l)=insN x l
  | []=>rfl
  | y::l=>by
    rw [atN,insN]
    split
    · rw [List.take_succ_cons,List.drop_succ_cons,List.cons_append,ins_eq x l]
    · simp
theorem ins_mem (x y:Nd):∀ l:List Nd,y∈insN x l→y=x∨y∈l
  | [],h=>.inl (by simpa [insN] using h)
  | z::l,h=>by
    rw [insN] at h
    split at h
    · rcases List.mem_cons.1 h with h | h
      · exact .inr (by simp [h])
      · rcases ins_mem x y l h with h | h
        · exact .inl h
        · exact .inr (List.mem_cons_of_mem _ h)
    · rcases List.mem_cons.1 h with h | h
      · exact .inl h
      · exact .inr h
theorem ins_srt (x:Nd):∀ l:List Nd,srtN l→(∀ y∈l,y.id≠x.id)→srtN (insN x l)
  | [],_,_=>by simp [insN,srtN]
  | y::l,h,hn=>by
    obtain ⟨h1,h2⟩:=srt_cons.1 h
    have hy:=hn y (List.mem_cons_self ..)
    rw [insN]
    split
    · rename_i hlt
      refine srt_cons.2 ⟨fun z hz=>?_,ins_srt x l h2 fun z hz=>hn z (List.mem_cons_of_mem _ hz)⟩
      rcases ins_mem x z l hz with rfl | hz
      · exact hlt
      · exact h1 z hz
    · refine srt_cons.2 ⟨fun z hz=>?_,h⟩
      rcases List.mem_cons.1 hz with rfl | hz
      · omega
      · have:=h1 z hz; omega
theorem ins_at (x:Nd) (i:Int):∀ l:List Nd,(∀ y∈l,y.id≠x.id)→atI i (insN x l)=if i=x.id then some x else atI i l
  | [],_=>by
    by_cases h:i=x.id
    · rw [if_pos h,insN,atI,if_pos h.symm]
    · rw [if_neg h,insN]; simp [atI,Ne.symm h]
  | y::l,hn=>by
    have hy:=hn y (List.mem_cons_self ..)
    have ih:=ins_at x i l fun z hz=>hn z (List.mem_cons_of_mem _ hz)
    rw [insN]
    split
    · rw [atI,ih,atI]
      by_cases h:i=x.id
      · rw [if_neg (by rw [h]; exact hy),if_pos h,if_pos h]
      · rw [if_neg h,if_neg h]
    · rw [atI]
      by_cases h:i=x.id
      · rw [if_pos h.symm,if_pos h]
      · rw [if_neg (Ne.symm h),if_neg h]
def delN (i:Int):List Nd→List Nd
  | []=>[]
  | x::l=>if x.id=i then l else x::delN i l
theorem del_eq (i:Int):∀ l:List Nd,l.take (ndx i l)++l.drop (ndx i l+1)=delN i l
  | []=>rfl
  | x::l=>by
    rw [ndx,delN]
    split
    · simp
    · rw [List.take_succ_cons,List.drop_succ_cons,List.cons_append,del_eq i l]
theorem del_mem (i:Int) (y:Nd):∀ l:List Nd,y∈delN i l→y∈l
  | [],h=>h
  | x::l,h=>by
    rw [delN] at h
    split at h
    · exact List.mem_cons_of_mem _ h
    · rcases List.mem_cons.1 h with h | h
      · simp [h]
      · exact List.mem_cons_of_mem _ (del_mem i y l h)
theorem del_srt (i:Int):∀ l:List Nd,srtN l→srtN (delN i l)
  | [],h=>h
  | x::l,h=>by
    obtain ⟨h1,h2⟩:=srt_cons.1 h
    rw [delN]
    split
    · exact h2
    · exact srt_cons.2 ⟨fun y hy=>h1 y (del_mem i y l hy),del_srt i l h2⟩
theorem del_at (k i:Int):∀ l:List Nd,srtN l→atI i (delN k l)=if i=k then none else atI i l
  | [],h=>by simp [delN,atI]
  | x::l,h=>by
    obtain ⟨h1,h2⟩:=srt_cons.1 h
    rw [delN]
    by_cases hx:x.id=k
    · rw [if_pos hx,atI]
      by_cases hi:i=k
      · rw [if_pos hi,at_none fun y hy=>by have:=h1 y hy; omega]
      · rw [if_neg hi,if_neg (by omega)]
    · rw [if_neg hx,atI,atI,del_at k i l h2]
      by_cases hi:i=k
      · rw [if_neg (by omega),if_pos hi,if_pos hi]
      · rw [if_neg hi,if_neg hi]
theorem set_srt {i:Int} {y:Nd} (hy:y.id=i):∀ l:List Nd,(l.set (ndx i l) y).map Nd.id=l.map Nd.id
  | []=>rfl
  | x::l=>by
    rw [ndx]
    split
    · rename_i h; simp [hy,h]
    · rw [List.set_cons_succ,List.map_cons,set_srt hy l,List.map_cons]
theorem set_at {k:Int} {y:Nd} (hy:y.id=k) (i:Int):∀ l:List Nd,ndx k l < l.length→atI i (l.set (ndx k l) y)=if i=k then some y else atI i l
  | [],h=>by simp [ndx] at h
  | x::l,h=>by
    rw [ndx] at h ⊢
    by_cases hx:x.id=k
    · rw [if_pos hx,List.set_cons_zero,atI,atI]
      by_cases hi:i=k
      · rw [if_pos hi,if_pos (by omega)]
      · rw [if_neg hi,if_neg (by omega),if_neg (by omega)]
    · rw [if_neg hx] at h ⊢
      rw [List.set_cons_succ,atI,atI,set_at hy i l (by simpa using h)]
      by_cases hi:i=k
      · rw [if_neg (by omega),if_pos hi,if_pos hi]
      · rw [if_neg hi,if_neg hi]
def kDG (a:Ac) (o:Option Nd):Option Nd :=
  if a.k=1 then some ⟨a.id,a.par,a.nm,a.dir,[]⟩ else if a.k=2 then none
  else if a.k=3 then o.map fun x=>⟨x.id,a.par,a.nm,x.dir,x.text⟩ else o.map fun x=>⟨x.id,x.par,x.nm,x.dir,jK x.text a.ops⟩
theorem kF5 {l:List Nd} {a:Ac} (h:(doN l a).2=0) (hs:srtN l):srtN (doN l a).1∧∀ i,atI i (doN l a).1=if i=a.id then kDG a (atI i l) else atI i l:=by
  have hid:ndx a.id l < l.length→(l.getD (ndx a.id l) kC0).id=a.id:=fun hl=>by
    rw [List.getD_eq_getElem?_getD,List.getElem?_eq_getElem hl]; exact ndx_get a.id l hl
  have hset:∀ (y:Nd) (f:Nd→Nd),ndx a.id l < l.length→y=f (l.getD (ndx a.id l) kC0)→(∀ x,(f x).id=x.id)→srtN (l.set (ndx a.id l) y)∧∀ i,atI i (l.set (ndx a.id l) y)=if i=a.id then (atI i l).map f else atI i l:=fun y f hl hy hf=>by
    have e:y.id=a.id:=by rw [hy,hf,hid hl]
    refine ⟨by rw [srtN,set_srt e]; exact hs,fun i=>?_⟩
    rw [set_at e i l hl]
    by_cases hi:i=a.id
    · rw [if_pos hi,if_pos hi,hi,at_ndx,if_pos hl,hy]; rfl
    · rw [if_neg hi,if_neg hi]
  unfold doN at h ⊢
  simp only at h ⊢
  by_cases k1:a.k=1
  · simp only [k1,if_true] at h ⊢
    by_cases c1:a.id < 1∨a.id > 1099511627776∨qG a.nm=false
    · rw [if_pos c1] at h; simp at h
    rw [if_neg c1] at h ⊢
    by_cases c2:ndx a.id l < l.length
    · rw [if_pos c2] at h; simp at h
    rw [if_neg c2] at h ⊢
    by_cases c3:kAD l a.par a.nm 0≠0
    · rw [if_pos c3] at h; exact absurd h c3
    rw [if_neg c3] at h ⊢
    by_cases c4:l.length ≥ 100
    · rw [if_pos c4] at h; simp at h
    rw [if_neg c4]
    have hn:∀ y∈l,y.id≠a.id:=fun y hy e=>c2 ((ndx_mem a.id l).2 ⟨y,hy,e⟩)
    have e1:=ins_eq ⟨a.id,a.par,a.nm,a.dir,[]⟩ l
    simp only at e1 ⊢
    rw [e1]
    refine ⟨ins_srt _ l hs hn,fun i=>?_⟩
    rw [ins_at _ i l hn]
    simp only [kDG,k1,if_true]
  simp only [k1,if_false] at h ⊢
  by_cases k2:a.k=2
  · simp only [k2,if_true] at h ⊢
    by_cases c1:¬ ndx a.id l < l.length
    · rw [if_pos c1] at h; simp at h
    rw [if_neg c1] at h ⊢
    by_cases c2:(l.any fun y=>decide (y.par=a.id))=true
    · rw [if_pos c2] at h; simp at h
    rw [if_neg c2]
    simp only
    rw [del_eq]
    refine ⟨del_srt _ l hs,fun i=>?_⟩
    rw [del_at _ i l hs]
    simp [kDG,k2]
  simp only [k2,if_false] at h ⊢
  by_cases k3:a.k=3
  · simp only [k3,if_true] at h ⊢
    by_cases c1:qG a.nm=false
    · rw [if_pos c1] at h; simp at h
    rw [if_neg c1] at h ⊢
    by_cases c2:¬ ndx a.id l < l.length
    · rw [if_pos c2] at h; simp at h
    rw [if_neg c2] at h ⊢
    by_cases c3:kAD l a.par a.nm a.id≠0
    · rw [if_pos c3] at h; exact absurd h c3
    rw [if_neg c3]
    have:=hset _ (fun x=>⟨x.id,a.par,a.nm,x.dir,x.text⟩) (Decidable.not_not.1 c2) rfl (fun _=>rfl)
    simpa [kDG,k3] using this
  simp only [k3,if_false] at h ⊢
  by_cases k4:a.k=4
  · simp only [k4,if_true] at h ⊢
    by_cases c2:¬ ndx a.id l < l.length
    · rw [if_pos c2] at h; simp at h
    rw [if_neg c2] at h ⊢
    by_cases c1:(l.getD (ndx a.id l) kC0).dir=true
    · rw [if_pos c1] at h; simp at h
    rw [if_neg c1] at h ⊢
    by_cases c3:errI (l.getD (ndx a.id l) kC0).text a.ops≠0
    · rw [if_pos c3] at h; exact absurd h c3
    rw [if_neg c3] at h ⊢
    split at h
    · simp at h
    rename_i c5
    rw [if_neg c5]
    have:=hset _ (fun x=>⟨x.id,x.par,x.nm,x.dir,jK x.text a.ops⟩) (Decidable.not_not.1 c2) rfl (fun _=>rfl)
    simpa [kDG,k4] using this
  · simp only [k4,if_false] at h
    simp at h
end Go.Proofs
end
-- EUk9
section
namespace Go.Proofs
open Go Go.Rw
open _root_.Nat renaming reduceAdd → N0, reduceSub → N1, reduceMul → N2, reduceLT → N3, reduceLeDiff → N4, reduceEqDiff → N5
open _root_.Int renaming reduceNeg → Z0, reduceAdd → Z1, reduceSub → Z2, reduceMul → Z3, reduceGT → Z4, reduceGE → Z5, reduceLT → Z6, reduceLE → Z7, reduceEq → Z8, reduceNe → Z9, reduceToNat → Z10, cast_ofNat_Int → Zc
set_option maxRecDepth 100000
def nF (m:Int):Int→List Nd→Int
  | s,[]=>s
  | s,x::r=>if s≤m then nF m (sumF s [(x.nm.length:Int),(x.text.length:Int),3]) r else s
abbrev GivenN:={ l:List Nd // l.length≤9223372036854775807∧∀ x∈l,x.nm.length≤9223372036854775807∧x.text.length≤9223372036854775807 }
abbrev kDE:Con where
  ι:=GivenN×{ m:Int // 0≤m∧m≤1000000 }
  args:=fun p=>[.sl 0 5 (qI p.1.1),.v (.int .i64 p.2.1)]
  post:=fun p r=>r = .v (.int .i64 (nF p.2.1 0 p.1.1))
  plain:=true
theorem wnodes_good:Rw.Good Tryz.prog 49 kDE:=by
  have hΓ:kL Tryz.prog [(93,kGC)]:=(kH sum_good kJ)
  refine kW (nn:=34) hΓ Tryz.func49 (by kernel_rfl) rfl (show Tryz.f49.results.toList=[.tmp 4] from rfl) (fun _=>rfl) (fun x=>by simp [AV.erL,AV.er,kEQ]) ?_
  rintro ⟨⟨l,hl,hc⟩,⟨m,hm⟩⟩
  simp only [aR,N0,N1,N2,N3,N4,N5,Z0,Z1,Z2,Z3,Z4,Z5,Z6,Z7,Z8,Z9,Z10,Zc,↓reduceIte,reduceCtorEq,kV]
  obtain ⟨St,hSt⟩:∃ St:{ p:Int×Nat // p.2≤l.length∧(0≤p.1∧p.1≤1099511627776)∧nF m 0 l=nF m p.1 (l.drop p.2) }→AS,∀ p,St p=AS.of 34 [(0,.sl 0 5 (qI l)),(1,.v (.int .i64 m)),(5,.v (.int .i64 p.1.1)),(6,.v (.int .i64 p.1.2))] [] []:=⟨_,fun _=>rfl⟩
  refine vc_loopD [(5,[],[])] hΓ St (fun p=>l.length - p.1.2) ⟨(0,0),by omega,by simp only; omega,rfl⟩ (by rw [hSt]; refine kN [] [] ?_; simp only [aR,N0,N1,N2,N3,N4,N5,Z0,Z1,Z2,Z3,Z4,Z5,Z6,Z7,Z8,Z9,Z10,Zc,↓reduceIte,reduceCtorEq] <;> ((repeat' apply And.intro) <;> first | rfl | omega | trivial)) ?_
  rintro ⟨⟨s,i⟩,hi,hs,hb⟩
  simp only at hi hs hb
  rw [hSt]
  simp only
  simp only [aR,N0,N1,N2,N3,N4,N5,Z0,Z1,Z2,Z3,Z4,Z5,Z6,Z7,Z8,Z9,Z10,Zc,↓reduceIte,reduceCtorEq,kY,kV]
  (with_reducible first | refine kD (fun h=>?_) (fun h=>?_) | refine kE (fun h=>?_) (fun h=>?_))
  · have hlt:i < l.length:=by omega
    have hci:=hc l[i] (List.getElem_mem hlt)
    have e1:=j3 l hlt
    rw [List.drop_eq_getElem_cons hlt,nF] at hb
    generalize l[i]=a at *
    obtain ⟨id,par,nm,dir,tx⟩:=a
    obtain ⟨hn,ho⟩:=hci
    simp only at hn ho hb e1
    simp (disch:=omega) only [aR,N0,N1,N2,N3,N4,N5,Z0,Z1,Z2,Z3,Z4,Z5,Z6,Z7,Z8,Z9,Z10,Zc,↓reduceIte,reduceCtorEq,kA,kY,h]
    (with_reducible first | refine kD (fun h2=>?_) (fun h2=>?_) | refine kE (fun h2=>?_) (fun h2=>?_))
    · simp (disch:=omega) only [aR,N0,N1,N2,N3,N4,N5,Z0,Z1,Z2,Z3,Z4,Z5,Z6,Z7,Z8,Z9,Z10,Zc,↓reduceIte,reduceCtorEq,kA,kY,h2,e1,nA,kV]
      (repeat (with_reducible refine And.intro ?_ ?_; focus (first | omega | exact kF | kernel_rfl)))
      refine call_sum (by simp [kI]) (y:=[(nm.length:Int),(tx.length:Int),3]) rfl hs (by simp; omega) (by simp) ?_
      simp (disch:=omega) only [aR,N0,N1,N2,N3,N4,N5,Z0,Z1,Z2,Z3,Z4,Z5,Z6,Z7,Z8,Z9,Z10,Zc,↓reduceIte,reduceCtorEq,kA,kY]
      rw [if_pos h2] at hb
      have hr:=kAx [(nm.length:Int),(tx.length:Int),3] hs (by simp)
      refine kO ⟨(sumF s [(nm.length:Int),(tx.length:Int),3],i+1),by simp only; omega,by simp only; omega,hb⟩ (by simp only; omega) ?_
      rw [hSt]; refine kN [] [] ?_
      simp only [aR,N0,N1,N2,N3,N4,N5,Z0,Z1,Z2,Z3,Z4,Z5,Z6,Z7,Z8,Z9,Z10,Zc,↓reduceIte,reduceCtorEq] <;> ((repeat' apply And.intro) <;> first | rfl | omega | trivial)
    · simp (disch:=omega) only [aR,N0,N1,N2,N3,N4,N5,Z0,Z1,Z2,Z3,Z4,Z5,Z6,Z7,Z8,Z9,Z10,Zc,↓reduceIte,reduceCtorEq,kA,kY,h2]
      rw [hb,if_neg h2]
  · simp only [aR,N0,N1,N2,N3,N4,N5,Z0,Z1,Z2,Z3,Z4,Z5,Z6,Z7,Z8,Z9,Z10,Zc,↓reduceIte,reduceCtorEq,kY,h]
    rw [List.drop_of_length_le (by omega)] at hb
    rw [hb]; rfl
theorem call_wnodes {Γ:Env} (hf:Γ.get 49=some kDE) {σ:AS} {dr:Bool} {l:List Nd} {m:Int} {ys:List AV} {d:Option Nat} {K:AS→Prop} (hy:ys=qI l) (h1:l.length≤9223372036854775807) (h2:∀ a∈l,a.nm.length≤9223372036854775807∧a.text.length≤9223372036854775807) (hm:0≤m∧m≤1000000)
    (hk:cont σ d (.v (.int .i64 (nF m 0 l))) K):kR Tryz.prog Γ dr σ 49 [.sl 0 5 ys,.v (.int .i64 m)] d K:=by
  subst hy
  exact kP (C:=kDE) (i:=(⟨l,h1,h2⟩,⟨m,hm⟩)) hf rfl rfl rfl (by simp [AV.erL,AV.er,kEQ]) (fun _ h=>h) rfl hk
end Go.Proofs
end
-- ETr0
section
namespace Go.Proofs
open Go Go.Rw
set_option maxRecDepth 100000
def nV (x:Nd):Value:=.agg #[.int .i64 x.id,.int .i64 x.par,sv x.nm,.bool x.dir,sv x.text]
def ents (l:List Nd):List (Int×Value):=l.map fun x=>(x.id,nV x)
def hasN (l:List Nd) (id:Int):Bool:=decide (ndx id l < l.length)
def gN (l:List Nd) (id:Int):Nd:=l.getD (ndx id l) kC0
theorem qU (l:List Nd) (id:Int):hasN l id=true↔ndx id l < l.length:=by simp [hasN]
theorem lk_ents (k:Int):∀ l:List Nd,lkG k (ents l)=if hasN l k=true then some (nV (gN l k)) else none
  | []=>rfl
  | x::l=>by
    have ih:=lk_ents k l
    rw [ents,List.map_cons,lkG,show List.map (fun x:Nd=>(x.id,nV x)) l=ents l from rfl,ih]
    by_cases h:x.id=k
    · simp [h,hasN,ndx,gN]
    · simp only [if_neg h,hasN,ndx,gN,List.length_cons,decide_eq_true_eq,Nat.add_lt_add_iff_right,List.getD_cons_succ]
def TM (es:Array MapEntry) (cl:Nat) (l:List Nd):Prop:=MapG es cl (ents l)∧srtN l
theorem zero_node:kAB Tryz.prog 42=some (nA kC0):=by kernel_rfl
theorem elem_node:kCX Tryz.prog 79=some 42:=by kernel_rfl
theorem kDX {es:Array MapEntry} {cl:Nat} {l:List Nd} (h:TM es cl l) (id:Int) (c:Bool):kBR Tryz.prog 79 (.int .i64) (.int .i64 id) es.toList c=some (kCQ c (nA (gN l id)) (hasN l id)):=by
  rw [lkG_look h.1,lk_ents]
  by_cases hh:hasN l id=true
  · rw [if_pos hh,hh]; rfl
  · rw [if_neg hh,elem_node]
    simp only [zero_node,Option.map_some]
    have e1:hasN l id=false:=by simpa using hh
    have e2:gN l id=kC0:=by
      unfold gN
      rw [List.getD_eq_getElem?_getD,List.getElem?_eq_none (by simp [hasN] at hh; omega)]; rfl
    rw [e1,e2]
theorem size_tm {es:Array MapEntry} {cl:Nat} {l:List Nd} (h:TM es cl l):es.size=l.length:=by rw [h.1.size,ents,List.length_map]
theorem tm_empty:TM #[] 0 []:=⟨MapG.empty,by simp [srtN]⟩
def setT (x:Nd) (l:List Nd):List Nd:=if hasN l x.id=true then l.set (ndx x.id l) x else l.take (atN x.id l)++x::l.drop (atN x.id l)
theorem srt_mem {l:List Nd} (h:srtN l):(l.map Nd.id).Nodup:=by
  unfold srtN at h
  exact h.imp fun h1=>by omega
theorem ndx_self {x:Nd}:∀ {l:List Nd},(l.map Nd.id).Nodup→∀ i,l[i]? = some x→ndx x.id l=i
  | [],_,_,h=>by simp at h
  | y::l,hu,0,h=>by
    simp only [List.getElem?_cons_zero,Option.some.injEq] at h
    rw [ndx,if_pos (by rw [h])]
  | y::l,hu,i+1,h=>by
    simp only [List.getElem?_cons_succ] at h
    simp only [List.map_cons,List.nodup_cons] at hu
    rw [ndx,if_neg,ndx_self hu.2 i h]
    intro he
    apply hu.1
    rw [he]
    exact List.mem_map.2 ⟨x,List.mem_of_getElem? h,rfl⟩
theorem kCw {l:List Nd} {id:Int} (h:hasN l id=true):∃ hh:ndx id l < l.length,gN l id=l[ndx id l]∧(l[ndx id l]).id=id:=by
  have hh:=(qU l id).1 h
  refine ⟨hh,?_,ndx_get id l hh⟩
  unfold gN
  rw [List.getD_eq_getElem?_getD,List.getElem?_eq_getElem hh]; rfl
theorem put_ents {l:List Nd} (hs:(l.map Nd.id).Nodup) (x:Nd):(putG x.id (nV x) (ents l)).Perm (ents (setT x l)):=by
  unfold putG setT
  rw [lk_ents]
  by_cases hh:hasN l x.id=true
  · rw [if_pos hh,if_pos hh]
    obtain ⟨h1,h2,h3⟩:=kCw hh
    rw [if_pos (show (some (nV (gN l x.id))).isSome=true from rfl)]
    have hk:kAZ (ents l):=by
      unfold kAZ ents
      rw [List.map_map]; exact hs
    have hat:(ents l)[ndx x.id l]? = some (x.id,nV l[ndx x.id l]):=by
      unfold ents
      rw [List.getElem?_map,List.getElem?_eq_getElem h1]
      simp [h3]
    rw [map_one hk hat]
    unfold ents
    rw [List.map_set]
  · rw [if_neg hh,if_neg hh]
    simp only [Option.isSome_none,Bool.false_eq_true,if_false]
    unfold ents
    rw [List.map_append,List.map_cons]
    have e:l.map (fun x=>(x.id,nV x))=(l.take (atN x.id l)).map (fun x=>(x.id,nV x))++(l.drop (atN x.id l)).map (fun x=>(x.id,nV x)):=by
      rw [← List.map_append,List.take_append_drop]
    rw [e]
    refine (List.perm_append_comm).trans ?_
    simp only [List.singleton_append]
    exact List.perm_middle.symm
theorem ndx_ids {l:List Nd} {k:Int} (h:¬ ndx k l < l.length):∀ x∈l,x.id≠k:=fun x hx he=>h ((ndx_mem k l).2 ⟨x,hx,he⟩)
theorem atN_lo {k:Int}:∀ (l:List Nd),∀ x∈l.take (atN k l),x.id < k
  | [],x,h=>by simp [atN] at h
  | y::l,x,h=>by
    rw [atN] at h
    split at h
    · rename_i hy
      rw [List.take_succ_cons] at h
      rcases List.mem_cons.1 h with rfl | h1
      · exact hy
      · exact atN_lo l x h1
    · simp at h
theorem atN_hi {k:Int}:∀ (l:List Nd),srtN l→∀ x∈l.drop (atN k l),k≤x.id
  | [],_,x,h=>by simp at h
  | y::l,hs,x,h=>by
    simp only [srtN,List.map_cons,List.pairwise_cons] at hs
    rw [atN] at h
    split at h
    · rw [List.drop_succ_cons] at h
      exact atN_hi l hs.2 x h
    · rename_i hy
      simp only [List.drop_zero] at h
      rcases List.mem_cons.1 h with rfl | h1
      · omega
      · have:=hs.1 x.id (List.mem_map.2 ⟨x,h1,rfl⟩); omega
theorem srt_put {l:List Nd} (hs:srtN l) (x:Nd):srtN (setT x l):=by
  unfold setT
  split
  · rename_i hh
    obtain ⟨h1,h2,h3⟩:=kCw hh
    unfold srtN at hs ⊢
    rw [List.map_set]
    have:(l.map Nd.id).set (ndx x.id l) x.id=l.map Nd.id:=by
      apply List.ext_getElem (by simp)
      intro j h4 h5
      rw [List.getElem_set]
      split
      · rename_i hij; subst hij; simp [h3]
      · rfl
    rw [this]; exact hs
  · rename_i hh
    have hne:=ndx_ids (k:=x.id) (l:=l) (by simpa [hasN] using hh)
    unfold srtN
    rw [List.map_append,List.map_cons,List.pairwise_append]
    have hsub:∀ {m:List Nd},m.Sublist l→(m.map Nd.id).Pairwise (· < ·):=fun h=>List.Pairwise.sublist (h.map _) hs
    refine ⟨hsub (List.take_sublist _ _),?_,?_⟩
    · rw [List.pairwise_cons]
      refine ⟨fun a ha=>?_,hsub (List.drop_sublist _ _)⟩
      obtain ⟨y,hy,rfl⟩:=List.mem_map.1 ha
      have h1:=atN_hi l hs y hy
      have h2:=hne y (List.mem_of_mem_drop hy)
      omega
    · intro a ha b hb
      obtain ⟨y,hy,rfl⟩:=List.mem_map.1 ha
      have h1:=atN_lo l y hy
      rcases List.mem_cons.1 hb with rfl | hb
      · exact h1
      · obtain ⟨z,hz,rfl⟩:=List.mem_map.1 hb
        have h2:=atN_hi l hs z hz
        omega
theorem put_tm {es:Array MapEntry} {cl:Nat} {l:List Nd} (h:TM es cl l) (x:Nd):∃ es' cl',updO (.int .i64) (.int .i64 x.id) (nV x) (some (.map es cl))=some (.map es' cl')∧TM es' cl' (setT x l):=by
  obtain ⟨es',cl',h1,h2⟩:=h.1.upd (j:=.i64) x.id (nV x)
  exact ⟨es',cl',h1,h2.perm (put_ents (srt_mem h.2) x),srt_put h.2 x⟩
def offT (id:Int) (l:List Nd):List Nd:=l.take (ndx id l)++l.drop (ndx id l+1)
theorem kFw {id:Int}:∀ {l:List Nd},(l.map Nd.id).Nodup→offT id l=l.filter fun x=>x.id≠id
  | [],_=>rfl
  | y::l,hu=>by
    simp only [List.map_cons,List.nodup_cons] at hu
    have ih:=kFw (id:=id) hu.2
    unfold offT at ih ⊢
    rw [ndx]
    by_cases h:y.id=id
    · rw [if_pos h,List.filter_cons_of_neg (by simp [h])]
      simp only [List.take_zero,List.nil_append,Nat.zero_add,List.drop_succ_cons,List.drop_zero]
      symm
      rw [List.filter_eq_self]
      intro z hz
      simp only [ne_eq,decide_not,Bool.not_eq_eq_eq_not,Bool.not_true,decide_eq_false_iff_not]
      intro hk
      apply hu.1
      rw [h,← hk]
      exact List.mem_map.2 ⟨z,hz,rfl⟩
    · rw [if_neg h,List.filter_cons_of_pos (by simpa using h),List.take_succ_cons,List.drop_succ_cons,List.cons_append,ih]
theorem off_tm {es:Array MapEntry} {cl:Nat} {l:List Nd} (h:TM es cl l) (id:Int):∃ es' cl',delO (.int .i64) (.int .i64 id) (some (.map es cl))=some (.map es' cl')∧TM es' cl' (offT id l):=by
  obtain ⟨es',cl',h1,h2⟩:=h.1.del (j:=.i64) id
  rw [kFw (srt_mem h.2)]
  refine ⟨es',cl',h1,?_,List.Pairwise.sublist (List.Sublist.map _ List.filter_sublist) h.2⟩
  have e:delG id (ents l)=ents (l.filter fun x=>x.id≠id):=by
    unfold delG ents
    rw [List.filter_map]; rfl
  rw [← e]; exact h2
end Go.Proofs
end
-- ETr1
section
namespace Go.Proofs
open Go Go.Rw
open _root_.Nat renaming reduceAdd → N0, reduceSub → N1, reduceMul → N2, reduceLT → N3, reduceLeDiff → N4, reduceEqDiff → N5
open _root_.Int renaming reduceNeg → Z0, reduceAdd → Z1, reduceSub → Z2, reduceMul → Z3, reduceGT → Z4, reduceGE → Z5, reduceLT → Z6, reduceLE → Z7, reduceEq → Z8, reduceNe → Z9, reduceToNat → Z10, cast_ofNat_Int → Zc
set_option maxRecDepth 100000
abbrev tnewCon:ConO where
  ι:=Unit
  objs:=fun _=>[]
  args:=fun _=>[]
  post:=fun _ objs lvs r=>objs=[.cells [.mp 1],.map #[] 0]∧lvs=[]∧r = .ptr 0 0
theorem tnew_good:kAY Tryz.prog 28 tnewCon:=by
  have hΓ:kL Tryz.prog []:=kJ
  refine zG (nn:=4) Tryz.func28 (by kernel_rfl) rfl (show Tryz.f28.results.toList=[.tmp 0] from rfl) (fun _=>rfl) ?_
  rintro ⟨⟩
  refine qX hΓ (Ws:=[]) _ ?_
  simp only [aR,N0,N1,N2,N3,N4,N5,Z0,Z1,Z2,Z3,Z4,Z5,Z6,Z7,Z8,Z9,Z10,Zc,↓reduceIte,reduceCtorEq,kB,kC,]
  refine kZ [1,0] [] [.cells [.mp 1],.map #[] 0] [] (.ptr 0 0) ⟨rfl,rfl,rfl⟩ ?_
  simp only [aR,N0,N1,N2,N3,N4,N5,Z0,Z1,Z2,Z3,Z4,Z5,Z6,Z7,Z8,Z9,Z10,Zc,↓reduceIte,reduceCtorEq,kB,kC,] <;> ((repeat' apply And.intro) <;> first | rfl | omega | trivial)
structure TS where
  es:Array MapEntry
  cl:Nat
  l:List Nd
  h:TM es cl l
def tsO:Option TS→List AO
  | none=>[]
  | some s=>[.cells [.mp 1],.map s.es s.cl]
def tsA:Option TS→AV
  | none=>.v (.pointer none)
  | some _=>.ptr 0 0
def tsL:Option TS→List Nd
  | none=>[]
  | some s=>s.l
theorem tsO_none:tsO none=[]:=rfl
theorem tsO_some {s:TS}:tsO (some s)=[.cells [.mp 1],.map s.es s.cl]:=rfl
theorem tsA_none:tsA none = .v (.pointer none):=rfl
theorem tsA_some {s:TS}:tsA (some s) = .ptr 0 0:=rfl
theorem tsL_some {s:TS}:tsL (some s)=s.l:=rfl
def kG:=And.intro @tsO_none (And.intro @tsO_some (And.intro @tsA_none (And.intro @tsA_some @tsL_some)))
def dirI (l:List Nd) (par:Int):Int:=if par=0 then 0 else if hasN l par=true then (if (gN l par).dir=true then 0 else 8) else 5
abbrev tdirCon:ConO where
  ι:=TS×Int
  objs:=fun p=>tsO (some p.1)
  args:=fun p=>[.ptr 0 0,.v (.int .i64 p.2)]
  post:=fun p objs lvs r=>objs=tsO (some p.1)∧lvs=[]∧r = .v (.int .i64 (dirI p.1.l p.2))
theorem tdir_good:kAY Tryz.prog 99 tdirCon:=by
  have hΓ:kL Tryz.prog []:=kJ
  refine zG (nn:=26) Tryz.func99 (by kernel_rfl) rfl (show Tryz.f99.results.toList=[.tmp 4] from rfl) (fun _=>rfl) ?_
  rintro ⟨s,par⟩
  refine qX hΓ (Ws:=[]) _ ?_
  have e1:=kDX s.h
  have fin:∀ {σ:AS} {v:Int},dirI s.l par=v→RetG tdirCon (s,par) σ [.v (.int .i64 v)]→RetG tdirCon (s,par) σ [.v (.int .i64 (dirI s.l par))]:=fun h1 h2=>by rw [h1]; exact h2
  simp only [aR,N0,N1,N2,N3,N4,N5,Z0,Z1,Z2,Z3,Z4,Z5,Z6,Z7,Z8,Z9,Z10,Zc,↓reduceIte,reduceCtorEq,kB,kC,kG,e1,nA]
  (repeat (with_reducible refine And.intro ?_ ?_; focus (first | omega | exact kF | kernel_rfl)))
  by_cases h1:par=0
  · simp only [aR,N0,N1,N2,N3,N4,N5,Z0,Z1,Z2,Z3,Z4,Z5,Z6,Z7,Z8,Z9,Z10,Zc,↓reduceIte,reduceCtorEq,kB,kC,kG,e1,nA,h1]
    refine kZ [0,1] [] (tsO (some s)) [] (.v (.int .i64 0)) ⟨rfl,rfl,by simp [dirI]⟩ ?_
    simp only [aR,N0,N1,N2,N3,N4,N5,Z0,Z1,Z2,Z3,Z4,Z5,Z6,Z7,Z8,Z9,Z10,Zc,↓reduceIte,reduceCtorEq,kB,kC,kG,nA] <;> ((repeat' apply And.intro) <;> first | rfl | omega | trivial)
  cases h2:hasN s.l par
  · simp only [aR,N0,N1,N2,N3,N4,N5,Z0,Z1,Z2,Z3,Z4,Z5,Z6,Z7,Z8,Z9,Z10,Zc,↓reduceIte,reduceCtorEq,kB,kC,kG,e1,nA,h1,h2]
    refine kZ [0,1] [] (tsO (some s)) [] (.v (.int .i64 5)) ⟨rfl,rfl,by simp [dirI,h1,h2]⟩ ?_
    simp only [aR,N0,N1,N2,N3,N4,N5,Z0,Z1,Z2,Z3,Z4,Z5,Z6,Z7,Z8,Z9,Z10,Zc,↓reduceIte,reduceCtorEq,kB,kC,kG,nA] <;> ((repeat' apply And.intro) <;> first | rfl | omega | trivial)
  cases h3:(gN s.l par).dir
  · simp only [aR,N0,N1,N2,N3,N4,N5,Z0,Z1,Z2,Z3,Z4,Z5,Z6,Z7,Z8,Z9,Z10,Zc,↓reduceIte,reduceCtorEq,kB,kC,kG,e1,nA,h1,h2,h3]
    refine kZ [0,1] [] (tsO (some s)) [] (.v (.int .i64 8)) ⟨rfl,rfl,by simp [dirI,h1,h2,h3]⟩ ?_
    simp only [aR,N0,N1,N2,N3,N4,N5,Z0,Z1,Z2,Z3,Z4,Z5,Z6,Z7,Z8,Z9,Z10,Zc,↓reduceIte,reduceCtorEq,kB,kC,kG,nA] <;> ((repeat' apply And.intro) <;> first | rfl | omega | trivial)
  · simp only [aR,N0,N1,N2,N3,N4,N5,Z0,Z1,Z2,Z3,Z4,Z5,Z6,Z7,Z8,Z9,Z10,Zc,↓reduceIte,reduceCtorEq,kB,kC,kG,e1,nA,h1,h2,h3]
    refine kZ [0,1] [] (tsO (some s)) [] (.v (.int .i64 0)) ⟨rfl,rfl,by simp [dirI,h1,h2,h3]⟩ ?_
    simp only [aR,N0,N1,N2,N3,N4,N5,Z0,Z1,Z2,Z3,Z4,Z5,Z6,Z7,Z8,Z9,Z10,Zc,↓reduceIte,reduceCtorEq,kB,kC,kG,nA] <;> ((repeat' apply And.intro) <;> first | rfl | omega | trivial)
end Go.Proofs
end
-- ETrL
section
namespace Go.Proofs
open Go.Shelf
def Tryz.keysA_ren:Go.Shelf.Ren:=⟨fun | 7=>72 | 10=>104 | n=>n,fun | 23=>79 | 26=>3 | 3=>42 | 28=>100 | 0=>0 | 27=>99 | 33=>83 | 4=>4 | n=>n,fun | n=>n⟩
theorem Tryz.keysA:Go.Proofs.SlLaysZI.n7 Tryz.prog Tryz.keysA_ren where
  mixed:=by kernel_rfl
  f7 := ⟨"maps.Keys[map[int]ropewalk/api.Node,int,ropewalk/api.Node]", by decide, Tryz.func72.trans (congrArg some (by kernel_rfl))⟩
  f10 := ⟨"maps.Keys[map[int]ropewalk/api.Node,int,ropewalk/api.Node]$1", by decide, Tryz.func104.trans (congrArg some (by kernel_rfl))⟩
  t0:=Tryz.underlying0
  a0:=Tryz.isAgg0
  z0:=Tryz.sizeOf0
  v0:=Tryz.zeroValue0
  t4:=Tryz.underlying4
  a4:=Tryz.isAgg4
  z4:=Tryz.sizeOf4
  v4:=Tryz.zeroValue4
  t23:=Tryz.underlying79
  a23:=Tryz.isAgg79
  z23:=Tryz.sizeOf79
  v23:=Tryz.zeroValue79
  t26:=Tryz.underlying3
  a26:=Tryz.isAgg3
  z26:=Tryz.sizeOf3
  v26:=Tryz.zeroValue3
  t27:=Tryz.underlying99
  a27:=Tryz.isAgg99
  z27:=Tryz.sizeOf99
  v27:=Tryz.zeroValue99
  t28:=Tryz.underlying100
  a28:=Tryz.isAgg100
  z28:=Tryz.sizeOf100
  v28:=Tryz.zeroValue100
  t33:=Tryz.underlying83
  a33:=Tryz.isAgg83
  z33:=Tryz.sizeOf83
  v33:=Tryz.zeroValue83
def Tryz.keysB_ren:Go.Shelf.Ren:=⟨fun | 7=>92 | 10=>119 | n=>n,fun | 23=>117 | 26=>3 | 3=>3 | 28=>100 | 0=>0 | 27=>99 | 33=>83 | 4=>4 | n=>n,fun | n=>n⟩
theorem Tryz.keysB:Go.Proofs.SlLaysZI.n7 Tryz.prog Tryz.keysB_ren where
  mixed:=by kernel_rfl
  f7 := ⟨"maps.Keys[map[int]int,int,int]", by decide, Tryz.func92.trans (congrArg some (by kernel_rfl))⟩
  f10 := ⟨"maps.Keys[map[int]int,int,int]$1", by decide, Tryz.func119.trans (congrArg some (by kernel_rfl))⟩
  t0:=Tryz.underlying0
  a0:=Tryz.isAgg0
  z0:=Tryz.sizeOf0
  v0:=Tryz.zeroValue0
  t4:=Tryz.underlying4
  a4:=Tryz.isAgg4
  z4:=Tryz.sizeOf4
  v4:=Tryz.zeroValue4
  t23:=Tryz.underlying117
  a23:=Tryz.isAgg117
  z23:=Tryz.sizeOf117
  v23:=Tryz.zeroValue117
  t26:=Tryz.underlying3
  a26:=Tryz.isAgg3
  z26:=Tryz.sizeOf3
  v26:=Tryz.zeroValue3
  t27:=Tryz.underlying99
  a27:=Tryz.isAgg99
  z27:=Tryz.sizeOf99
  v27:=Tryz.zeroValue99
  t28:=Tryz.underlying100
  a28:=Tryz.isAgg100
  z28:=Tryz.sizeOf100
  v28:=Tryz.zeroValue100
  t33:=Tryz.underlying83
  a33:=Tryz.isAgg83
  z33:=Tryz.sizeOf83
  v33:=Tryz.zeroValue83
def Tryz.sortedA_ren:Go.Shelf.Ren:=⟨fun | 6=>71 | 8=>102 | 9=>103 | 11=>126 | 13=>111 | 12=>127 | 23=>141 | 24=>142 | 14=>149 | 15=>150 | 16=>151 | 17=>152 | 18=>153 | 19=>154 | 20=>155 | 21=>156 | 22=>157 | 25=>171 | 26=>164 | 27=>165 | 28=>172 | 29=>173 | 30=>174 | 31=>181 | n=>n,fun | 26=>3 | 28=>100 | 24=>50 | 0=>0 | 3=>3 | 37=>143 | 48=>167 | 50=>169 | 4=>4 | 40=>161 | 39=>160 | 45=>47 | 5=>5 | 9=>9 | 51=>184 | 55=>188 | 57=>199 | 58=>147 | 33=>83 | n=>n,fun | n=>n⟩
theorem Tryz.sortedA:Go.Proofs.SlLaysZI.n6 Tryz.prog Tryz.sortedA_ren where
  mixed:=by kernel_rfl
  f6 := ⟨"slices.Sorted[int]", by decide, Tryz.func71.trans (congrArg some (by kernel_rfl))⟩
  f8 := ⟨"slices.Collect[int]", by decide, Tryz.func102.trans (congrArg some (by kernel_rfl))⟩
  f11 := ⟨"slices.AppendSeq[[]int,int]", by decide, Tryz.func126.trans (congrArg some (by kernel_rfl))⟩
  t0:=Tryz.underlying0
  a0:=Tryz.isAgg0
  z0:=Tryz.sizeOf0
  v0:=Tryz.zeroValue0
  t24:=Tryz.underlying50
  a24:=Tryz.isAgg50
  z24:=Tryz.sizeOf50
  v24:=Tryz.zeroValue50
  t26:=Tryz.underlying3
  a26:=Tryz.isAgg3
  z26:=Tryz.sizeOf3
  v26:=Tryz.zeroValue3
  t28:=Tryz.underlying100
  a28:=Tryz.isAgg100
  z28:=Tryz.sizeOf100
  v28:=Tryz.zeroValue100
  i26:=by kernel_rfl
def Tryz.sortA_ren:Go.Shelf.Ren:=⟨fun | 5=>103 | 8=>111 | 7=>127 | 19=>141 | 20=>142 | 10=>149 | 11=>150 | 12=>151 | 13=>152 | 14=>153 | 15=>154 | 16=>155 | 17=>156 | 18=>157 | 30=>171 | 31=>164 | 32=>165 | 33=>172 | 34=>173 | 35=>174 | 40=>181 | n=>n,fun | 23=>50 | 25=>3 | 3=>3 | 32=>143 | 22=>50 | 0=>0 | 44=>167 | 46=>169 | 4=>4 | 36=>161 | 35=>160 | 41=>47 | 5=>5 | 9=>9 | 53=>184 | 57=>188 | 63=>199 | 64=>147 | n=>n,fun | n=>n⟩
theorem Tryz.sortA:Go.Proofs.SlLaysM.n5 Tryz.prog Tryz.sortA_ren where
  mixed:=by kernel_rfl
  f5 := ⟨"slices.Sort[[]int,int]", by decide, Tryz.func103.trans (congrArg some (by kernel_rfl))⟩
  f7 := ⟨"slices.pdqsortOrdered[int]", by decide, Tryz.func127.trans (congrArg some (by kernel_rfl))⟩
  f8:=Tryz.func111.trans (congrArg some (by kernel_rfl))
  f10 := ⟨"slices.insertionSortOrdered[int]", by decide, Tryz.func149.trans (congrArg some (by kernel_rfl))⟩
  f11 := ⟨"slices.heapSortOrdered[int]", by decide, Tryz.func150.trans (congrArg some (by kernel_rfl))⟩
  f12 := ⟨"slices.breakPatternsOrdered[int]", by decide, Tryz.func151.trans (congrArg some (by kernel_rfl))⟩
  f13 := ⟨"slices.choosePivotOrdered[int]", by decide, Tryz.func152.trans (congrArg some (by kernel_rfl))⟩
  f14 := ⟨"slices.reverseRangeOrdered[int]", by decide, Tryz.func153.trans (congrArg some (by kernel_rfl))⟩
  f15 := ⟨"slices.partialInsertionSortOrdered[int]", by decide, Tryz.func154.trans (congrArg some (by kernel_rfl))⟩
  f16 := ⟨"cmp.Less[int]", by decide, Tryz.func155.trans (congrArg some (by kernel_rfl))⟩
  f17 := ⟨"slices.partitionEqualOrdered[int]", by decide, Tryz.func156.trans (congrArg some (by kernel_rfl))⟩
  f18 := ⟨"slices.partitionOrdered[int]", by decide, Tryz.func157.trans (congrArg some (by kernel_rfl))⟩
  f19:=Tryz.func141.trans (congrArg some (by kernel_rfl))
  f20:=Tryz.func142.trans (congrArg some (by kernel_rfl))
  f30 := ⟨"slices.siftDownOrdered[int]", by decide, Tryz.func171.trans (congrArg some (by kernel_rfl))⟩
  f31:=Tryz.func164.trans (congrArg some (by kernel_rfl))
  f32:=Tryz.func165.trans (congrArg some (by kernel_rfl))
  f33 := ⟨"slices.medianAdjacentOrdered[int]", by decide, Tryz.func172.trans (congrArg some (by kernel_rfl))⟩
  f34 := ⟨"slices.medianOrdered[int]", by decide, Tryz.func173.trans (congrArg some (by kernel_rfl))⟩
  f35 := ⟨"cmp.isNaN[int]", by decide, Tryz.func174.trans (congrArg some (by kernel_rfl))⟩
  f40 := ⟨"slices.order2Ordered[int]", by decide, Tryz.func181.trans (congrArg some (by kernel_rfl))⟩
  t0:=Tryz.underlying0
  a0:=Tryz.isAgg0
  z0:=Tryz.sizeOf0
  v0:=Tryz.zeroValue0
  t3:=Tryz.underlying3
  a3:=Tryz.isAgg3
  z3:=Tryz.sizeOf3
  v3:=Tryz.zeroValue3
  t4:=Tryz.underlying4
  a4:=Tryz.isAgg4
  z4:=Tryz.sizeOf4
  v4:=Tryz.zeroValue4
  t5:=Tryz.underlying5
  a5:=Tryz.isAgg5
  z5:=Tryz.sizeOf5
  v5:=Tryz.zeroValue5
  t9:=Tryz.underlying9
  a9:=Tryz.isAgg9
  z9:=Tryz.sizeOf9
  v9:=Tryz.zeroValue9
  t22:=Tryz.underlying50
  a22:=Tryz.isAgg50
  z22:=Tryz.sizeOf50
  v22:=Tryz.zeroValue50
  t23:=Tryz.underlying50
  a23:=Tryz.isAgg50
  z23:=Tryz.sizeOf50
  v23:=Tryz.zeroValue50
  t25:=Tryz.underlying3
  a25:=Tryz.isAgg3
  z25:=Tryz.sizeOf3
  v25:=Tryz.zeroValue3
  t32:=Tryz.underlying143
  a32:=Tryz.isAgg143
  z32:=Tryz.sizeOf143
  v32:=Tryz.zeroValue143
  t35:=Tryz.underlying160
  a35:=Tryz.isAgg160
  z35:=Tryz.sizeOf160
  v35:=Tryz.zeroValue160
  t36:=Tryz.underlying161
  a36:=Tryz.isAgg161
  z36:=Tryz.sizeOf161
  v36:=Tryz.zeroValue161
  t41:=Tryz.underlying47
  a41:=Tryz.isAgg47
  z41:=Tryz.sizeOf47
  v41:=Tryz.zeroValue47
  t44:=Tryz.underlying167
  a44:=Tryz.isAgg167
  z44:=Tryz.sizeOf167
  v44:=Tryz.zeroValue167
  t46:=Tryz.underlying169
  a46:=Tryz.isAgg169
  z46:=Tryz.sizeOf169
  v46:=Tryz.zeroValue169
  t53:=Tryz.underlying184
  a53:=Tryz.isAgg184
  z53:=Tryz.sizeOf184
  v53:=Tryz.zeroValue184
  t57:=Tryz.underlying188
  a57:=Tryz.isAgg188
  z57:=Tryz.sizeOf188
  v57:=Tryz.zeroValue188
  t63:=Tryz.underlying199
  a63:=Tryz.isAgg199
  z63:=Tryz.sizeOf199
  v63:=Tryz.zeroValue199
  t64:=Tryz.underlying147
  a64:=Tryz.isAgg147
  z64:=Tryz.sizeOf147
  v64:=Tryz.zeroValue147
def Tryz.cloneA_ren:Go.Shelf.Ren:=⟨fun | 5=>69 | 7=>101 | n=>n,fun | 23=>79 | 25=>3 | 3=>42 | 4=>4 | 20=>20 | n=>n,fun | n=>n⟩
theorem Tryz.cloneA:Go.Proofs.SlLaysW.n5 Tryz.prog Tryz.cloneA_ren where
  mixed:=by kernel_rfl
  f5 := ⟨"maps.Clone[map[int]ropewalk/api.Node,int,ropewalk/api.Node]", by decide, Tryz.func69.trans (congrArg some (by kernel_rfl))⟩
  f7:=Tryz.func101.trans (congrArg some (by kernel_rfl))
  t4:=Tryz.underlying4
  a4:=Tryz.isAgg4
  z4:=Tryz.sizeOf4
  v4:=Tryz.zeroValue4
  t20:=Tryz.underlying20
  a20:=Tryz.isAgg20
  z20:=Tryz.sizeOf20
  v20:=Tryz.zeroValue20
  t23:=Tryz.underlying79
  a23:=Tryz.isAgg79
  z23:=Tryz.sizeOf79
  v23:=Tryz.zeroValue79
end Go.Proofs
end
