/-
 Nodes held against each other,field by field. The document's tree: names,texts;acts held against each other. Edits undone,by the program;both,by the document. Edits,unit by unit. Plain. Walks along an edit: their Kind,Len and Take,reckoned in place. Two edits as one,piece by piece. Plain. compose.Two,walked. compose.Two,walked. The document's walks. The document's Two. Keep,All: the program's,the document's. What an edit in its normal form does. Plain. The normal form,unit by unit;what two edits do as one. Plain. The document's tree: an act. The document's Check of a transaction.
-/
import Derived.Test.YtnpofobcbfbfnaaGreatDoorXHAp0
import Derived.Test.YtnpofobcbfbfnaaGreatDoorXHUo2
import Derived.Test.YtnpofobcbfbfnaaGreatDoorRwJ
set_option linter.unusedSimpArgs false
set_option linter.unusedVariables false
set_option linter.unusedSectionVars false

set_option maxRecDepth 100000
-- HUk1e
namespace Go.Proofs
open Go Go.Rw
section
variable {P:Program}
theorem calm_eqB {d:Nat} {t:TypeId} {a b:Bool} (h:P.underlying t=some .bool):calm P (Op.equalIn (d+1) t (.bool a) (.bool b))=some (a == b):=by
 simp[Op.equalIn,k7,underlying,h]
def is5 (P:Program) (t ti ts tb:TypeId):Bool:=match P.underlying t with
 | some (.struct fs)=>match fs.toList with
   | [f1, f2, f3, f4, f5] => (f1.type == ti && (f1.offset == 0 && f1.name != "_")) && ((f2.type == ti && (f2.offset == 1 && f2.name != "_")) && ((f3.type == ts && (f3.offset == 2 && f3.name != "_")) && ((f4.type == tb && (f4.offset == 3 && f4.name != "_")) && (f5.type == ts && (f5.offset == 4 && f5.name != "_")))))
   | _=>false
 | _=>false
theorem calm_eq5 {d:Nat} {t ti ts tb:TypeId} {k:IntKind} {a b a' b':Int} {s s' u u':List UInt8} {q q':Bool} (h5:is5 P t ti ts tb=true) (hp:P.stoodInHeld t=false) (hi:P.underlying ti=some (.int k)) (hs:P.underlying ts=some .string) (hb:P.underlying tb=some .bool) :
    calm P (Op.equalIn (d+2) t (.agg #[.int .i64 a,.int .i64 b,.string ⟨s.toArray⟩,.bool q,.string ⟨u.toArray⟩]) (.agg #[.int .i64 a',.int .i64 b',.string ⟨s'.toArray⟩,.bool q',.string ⟨u'.toArray⟩]))=some (a == a' && b == b' && s == s' && q == q' && u == u'):=by
 unfold is5 at h5
 split at h5
 ·rename_i fs ht
  split at h5
  ·rename_i f1 f2 f3 f4 f5 hl
   have hfs:fs = #[f1,f2,f3,f4,f5]:=by rw[← hl]
   subst hfs
   simp only[Bool.and_eq_true,beq_iff_eq,bne_iff_ne]at h5
   obtain ⟨⟨rfl,o1,n1⟩,⟨e2,o2,n2⟩,⟨rfl,o3,n3⟩,⟨rfl,o4,n4⟩,⟨e5,o5,n5⟩⟩:=h5
   have p0:∀ (a b:Int) (s u:List UInt8) (q:Bool),calm P (part f1.type #[.int .i64 a,.int .i64 b,.string ⟨s.toArray⟩,.bool q,.string ⟨u.toArray⟩] 0)=some (.int .i64 a):=fun a b s u q=>jS hi rfl rfl
   have p1:∀ (a b:Int) (s u:List UInt8) (q:Bool),calm P (part f1.type #[.int .i64 a,.int .i64 b,.string ⟨s.toArray⟩,.bool q,.string ⟨u.toArray⟩] 1)=some (.int .i64 b):=fun a b s u q=>jS hi rfl rfl
   have p2:∀ (a b:Int) (s u:List UInt8) (q:Bool),calm P (part f3.type #[.int .i64 a,.int .i64 b,.string ⟨s.toArray⟩,.bool q,.string ⟨u.toArray⟩] 2)=some (.string ⟨s.toArray⟩):=fun a b s u q=>jS hs rfl rfl
   have p3:∀ (a b:Int) (s u:List UInt8) (q:Bool),calm P (part f4.type #[.int .i64 a,.int .i64 b,.string ⟨s.toArray⟩,.bool q,.string ⟨u.toArray⟩] 3)=some (.bool q):=fun a b s u q=>jS hb rfl rfl
   have p4:∀ (a b:Int) (s u:List UInt8) (q:Bool),calm P (part f3.type #[.int .i64 a,.int .i64 b,.string ⟨s.toArray⟩,.bool q,.string ⟨u.toArray⟩] 4)=some (.string ⟨u.toArray⟩):=fun a b s u q=>jS hs rfl rfl
   rw[Op.equalIn]
   simp only[k7,underlying,qJ,Option.bind_some,ht,zT,hp,Bool.false_eq_true,if_false,← Array.forIn_toList,List.forIn_cons,List.forIn_nil,n1,n2,n3,n4,n5,o1,o2,o3,o4,o5,e2,e5,p0,p1,p2,p3,p4,kFE hi,kFI hs,calm_eqB hb,if_true,ne_eq,not_false_eq_true]
   by_cases c1:a=a'<;>by_cases c2:b=b'<;>by_cases c3:s=s'<;>by_cases c4:q=q'<;>by_cases c5:u=u'<;>simp[c1,c2,c3,c4,c5,k7,p0,p1,p2,p3,p4,kFE hi,kFI hs,calm_eqB hb]
  ·cases h5
 ·cases h5
theorem bin_neq5 {t ti ts tb:TypeId} {x y:Operand} {k:IntKind} {a b a' b':Int} {s s' u u':List UInt8} {q q':Bool} (hg:P.eqGuardType P.depth t=false) (h5:is5 P t ti ts tb=true) (hp:P.stoodInHeld t=false) (hi:P.underlying ti=some (.int k)) (hs:P.underlying ts=some .string) (hb:P.underlying tb=some .bool) :
    binA P .neq t x y (.agg [.v (.int .i64 a),.v (.int .i64 b),.v (sv s),.v (.bool q),.v (sv u)]) (.agg [.v (.int .i64 a'),.v (.int .i64 b'),.v (sv s'),.v (.bool q'),.v (sv u')])=some (.v (.bool (decide (¬ (a=a'∧b=b'∧s=s'∧q=q'∧u=u'))))):=by
 have e:Op.maxDepth=9998+2:=rfl
 have hq:=calm_eq5 (P:=P) (d:=9998) (a:=a) (b:=b) (a':=a') (b':=b') (s:=s) (s':=s') (u:=u) (u':=u') (q:=q) (q':=q') h5 hp hi hs hb
 unfold binA
 rw[show binV P .neq t x y (.agg [.v (.int .i64 a),.v (.int .i64 b),.v (sv s),.v (.bool q),.v (sv u)]) (.agg [.v (.int .i64 a'),.v (.int .i64 b'),.v (sv s'),.v (.bool q'),.v (sv u')])=none from rfl]
 simp only[kCx,kAr,Option.map_some,Option.none_or,res,k7,eqGuard,sv,qJ,Option.bind_some,hg]
 simp[k7,kCY,binOp,Op.equal,e,hq,hg]
 by_cases c1:a=a'<;>by_cases c2:b=b'<;>by_cases c3:s=s'<;>by_cases c4:q=q'<;>by_cases c5:u=u'<;>simp[c1,c2,c3,c4,c5]
end
theorem node_neq {x y:Operand} {a b a' b':Int} {s s' u u':List UInt8} {q q':Bool}:binA Tryz.prog .neq 82 x y (.agg [.v (.int .i64 a),.v (.int .i64 b),.v (sv s),.v (.bool q),.v (sv u)]) (.agg [.v (.int .i64 a'),.v (.int .i64 b'),.v (sv s'),.v (.bool q'),.v (sv u')])=some (.v (.bool (decide (¬ (a=a'∧b=b'∧s=s'∧q=q'∧u=u'))))) :=
 bin_neq5 (ti:=3) (ts:=9) (tb:=4) (k:=.i64) (by kernel_rfl) (by kernel_rfl) (by kernel_rfl) (by kernel_rfl) (by kernel_rfl) (by kernel_rfl)
theorem nd_eq (x y:Nd):(x=y)=(x.id=y.id∧x.par=y.par∧x.nm=y.nm∧x.dir=y.dir∧x.text=y.text):=by
 cases x;cases y;simp only[Nd.mk.injEq]
end Go.Proofs
-- HUk2
namespace Go.Proofs
open Go Go.Rw
theorem kEV:Rw.Good Tryz.prog 49 kAk:=by
 have hΓ:kK Tryz.prog []:=kI
 refine kZ (nn:=56) hΓ Tryz.func49 (by kernel_rfl) rfl (show Tryz.f49.results.toList=[.tmp 2] from rfl) (fun _=>rfl) (fun _=>rfl) ?_
 rintro ⟨s,hs⟩
 simp only[aR,seval]
 have e0:qG s=(s.all z8 && decide (1≤s.length∧s.length≤20∧s≠[46]∧s≠[46,46])):=rfl
 by_cases h1:(s.length:Int) < 1
 ·have e1:qG s=false:=by rw[e0,decide_eq_false (by omega),Bool.and_false]
  simp only[aR,seval,h1,e1]
 by_cases h2:(s.length:Int) > 20
 ·have e1:qG s=false:=by rw[e0,decide_eq_false (by omega),Bool.and_false]
  simp only[aR,seval,h1,h2,e1]
 by_cases h3:s=[46]
 ·have e1:qG s=false:=by rw[e0,decide_eq_false (fun hh=>hh.2.2.1 h3),Bool.and_false]
  have h4:decide (s=[46])=true:=decide_eq_true h3
  clear h3
  simp only[aR,seval,h1,h2,h4,e1]
 by_cases h4:s=[46,46]
 ·have e1:qG s=false:=by rw[e0,decide_eq_false (fun hh=>hh.2.2.2 h4),Bool.and_false]
  have h5:decide (s=[46,46])=true:=decide_eq_true h4
  clear h4
  simp only[aR,seval,h1,h2,h3,h5,e1]
 rw[decide_eq_true (by refine ⟨by omega,by omega,h3,h4⟩),Bool.and_true]at e0
 simp only[aR,seval,h1,h2,h3,h4]
 obtain ⟨St,hSt⟩:∃ St:{ i:Nat // i≤s.length∧(s.take i).all z8=true }→AS,∀ i,St i=AS.of 56 [(0,.v (sv s)),(3,.v (.int .i64 i.1))] [] []:=⟨_,fun _=>rfl⟩
 refine qE hΓ St (fun i=>s.length - i.1) ⟨0,by omega,by simp⟩ (by rw[hSt];refine kO [] [] ?_;simp only[aR,seval]<;>(and_intros<;>first|rfl|omega|trivial)) ?_
 rintro ⟨i,hi,ha⟩
 rw[hSt]
 simp only
 simp only[aR,seval]
 (with_reducible first|refine kE (fun h=>?_) (fun h=>?_)|refine kF (fun h=>?_) (fun h=>?_))
 ·have hlt:i < s.length:=by omega
  have e2:(s.take (i+1)).all z8=z8 s[i]:=by rw[List.take_succ_eq_append_getElem hlt,List.all_append,ha];simp
  have e3:z8 s[i]=false→qG s=false:=fun hc=>by
   rw[e0];exact List.all_eq_false.2 ⟨s[i],List.getElem_mem hlt,by simp[hc]⟩
  have e4:s.getD i 0=s[i]:=by simp[List.getD_eq_getElem?_getD,hlt]
  have e5:z8 s[i]=decide ((97≤s[i].toNat∧s[i].toNat≤122)∨(48≤s[i].toNat∧s[i].toNat≤57)∨s[i].toNat=46∨s[i].toNat=45∨s[i].toNat=95):=rfl
  generalize s[i]=c at *
  cases hc:z8 c
  ·have e6:=e3 hc
   rw[hc]at e5
   have e7:=of_decide_eq_false e5.symm
   clear e5 e3 e2 e0
   simp only[aR,seval,h,e4]
   repeat (with_reducible refine And.intro ?_ ?_;focus first|omega|kernel_rfl)
   (try ((with_reducible first|refine kE (fun q1=>?_) (fun q1=>?_)|refine kF (fun q1=>?_) (fun q1=>?_))<;>simp (disch:=omega) only[aR,seval,kD,q1,e6]<;>(with_reducible first|(refine And.intro ?_ ?_;focus first|omega|kernel_rfl);(repeat (refine And.intro ?_ ?_;focus first|omega|kernel_rfl));(try simp (disch:=omega) only[aR,seval,kD,q1,e6])|skip)<;>(try ((with_reducible first|refine kE (fun q2=>?_) (fun q2=>?_)|refine kF (fun q2=>?_) (fun q2=>?_))<;>simp (disch:=omega) only[aR,seval,kD,q2,e6]<;>(with_reducible first|(refine And.intro ?_ ?_;focus first|omega|kernel_rfl);(repeat (refine And.intro ?_ ?_;focus first|omega|kernel_rfl));(try simp (disch:=omega) only[aR,seval,kD,q2,e6])|skip)<;>(try ((with_reducible first|refine kE (fun q3=>?_) (fun q3=>?_)|refine kF (fun q3=>?_) (fun q3=>?_))<;>simp (disch:=omega) only[aR,seval,kD,q3,e6]<;>(with_reducible first|(refine And.intro ?_ ?_;focus first|omega|kernel_rfl);(repeat (refine And.intro ?_ ?_;focus first|omega|kernel_rfl));(try simp (disch:=omega) only[aR,seval,kD,q3,e6])|skip)<;>(try ((with_reducible first|refine kE (fun q4=>?_) (fun q4=>?_)|refine kF (fun q4=>?_) (fun q4=>?_))<;>simp (disch:=omega) only[aR,seval,kD,q4,e6]<;>(with_reducible first|(refine And.intro ?_ ?_;focus first|omega|kernel_rfl);(repeat (refine And.intro ?_ ?_;focus first|omega|kernel_rfl));(try simp (disch:=omega) only[aR,seval,kD,q4,e6])|skip)<;>(try ((with_reducible first|refine kE (fun q5=>?_) (fun q5=>?_)|refine kF (fun q5=>?_) (fun q5=>?_))<;>simp (disch:=omega) only[aR,seval,kD,q5,e6]<;>(with_reducible first|(refine And.intro ?_ ?_;focus first|omega|kernel_rfl);(repeat (refine And.intro ?_ ?_;focus first|omega|kernel_rfl));(try simp (disch:=omega) only[aR,seval,kD,q5,e6])|skip)<;>(try ((with_reducible first|refine kE (fun q6=>?_) (fun q6=>?_)|refine kF (fun q6=>?_) (fun q6=>?_))<;>simp (disch:=omega) only[aR,seval,kD,q6,e6]<;>(with_reducible first|(refine And.intro ?_ ?_;focus first|omega|kernel_rfl);(repeat (refine And.intro ?_ ?_;focus first|omega|kernel_rfl));(try simp (disch:=omega) only[aR,seval,kD,q6,e6])|skip)<;>(try ((with_reducible first|refine kE (fun q7=>?_) (fun q7=>?_)|refine kF (fun q7=>?_) (fun q7=>?_))<;>simp (disch:=omega) only[aR,seval,kD,q7,e6]<;>(with_reducible first|(refine And.intro ?_ ?_;focus first|omega|kernel_rfl);(repeat (refine And.intro ?_ ?_;focus first|omega|kernel_rfl));(try simp (disch:=omega) only[aR,seval,kD,q7,e6])|skip)<;>skip))))))))))))))
   all_goals (exfalso;omega)
  ·rw[hc]at e5 e2
   have e7:=of_decide_eq_true e5.symm
   clear e5 e3
   simp only[aR,seval,h,e4]
   repeat (with_reducible refine And.intro ?_ ?_;focus first|omega|kernel_rfl)
   (try ((with_reducible first|refine kE (fun q1=>?_) (fun q1=>?_)|refine kF (fun q1=>?_) (fun q1=>?_))<;>simp (disch:=omega) only[aR,seval,kD,q1,wO (n:=(i:Int)+1)]<;>(with_reducible first|(refine And.intro ?_ ?_;focus first|omega|kernel_rfl);(repeat (refine And.intro ?_ ?_;focus first|omega|kernel_rfl));(try simp (disch:=omega) only[aR,seval,kD,q1,wO (n:=(i:Int)+1)])|skip)<;>(try ((with_reducible first|refine kE (fun q2=>?_) (fun q2=>?_)|refine kF (fun q2=>?_) (fun q2=>?_))<;>simp (disch:=omega) only[aR,seval,kD,q2,wO (n:=(i:Int)+1)]<;>(with_reducible first|(refine And.intro ?_ ?_;focus first|omega|kernel_rfl);(repeat (refine And.intro ?_ ?_;focus first|omega|kernel_rfl));(try simp (disch:=omega) only[aR,seval,kD,q2,wO (n:=(i:Int)+1)])|skip)<;>(try ((with_reducible first|refine kE (fun q3=>?_) (fun q3=>?_)|refine kF (fun q3=>?_) (fun q3=>?_))<;>simp (disch:=omega) only[aR,seval,kD,q3,wO (n:=(i:Int)+1)]<;>(with_reducible first|(refine And.intro ?_ ?_;focus first|omega|kernel_rfl);(repeat (refine And.intro ?_ ?_;focus first|omega|kernel_rfl));(try simp (disch:=omega) only[aR,seval,kD,q3,wO (n:=(i:Int)+1)])|skip)<;>(try ((with_reducible first|refine kE (fun q4=>?_) (fun q4=>?_)|refine kF (fun q4=>?_) (fun q4=>?_))<;>simp (disch:=omega) only[aR,seval,kD,q4,wO (n:=(i:Int)+1)]<;>(with_reducible first|(refine And.intro ?_ ?_;focus first|omega|kernel_rfl);(repeat (refine And.intro ?_ ?_;focus first|omega|kernel_rfl));(try simp (disch:=omega) only[aR,seval,kD,q4,wO (n:=(i:Int)+1)])|skip)<;>(try ((with_reducible first|refine kE (fun q5=>?_) (fun q5=>?_)|refine kF (fun q5=>?_) (fun q5=>?_))<;>simp (disch:=omega) only[aR,seval,kD,q5,wO (n:=(i:Int)+1)]<;>(with_reducible first|(refine And.intro ?_ ?_;focus first|omega|kernel_rfl);(repeat (refine And.intro ?_ ?_;focus first|omega|kernel_rfl));(try simp (disch:=omega) only[aR,seval,kD,q5,wO (n:=(i:Int)+1)])|skip)<;>(try ((with_reducible first|refine kE (fun q6=>?_) (fun q6=>?_)|refine kF (fun q6=>?_) (fun q6=>?_))<;>simp (disch:=omega) only[aR,seval,kD,q6,wO (n:=(i:Int)+1)]<;>(with_reducible first|(refine And.intro ?_ ?_;focus first|omega|kernel_rfl);(repeat (refine And.intro ?_ ?_;focus first|omega|kernel_rfl));(try simp (disch:=omega) only[aR,seval,kD,q6,wO (n:=(i:Int)+1)])|skip)<;>(try ((with_reducible first|refine kE (fun q7=>?_) (fun q7=>?_)|refine kF (fun q7=>?_) (fun q7=>?_))<;>simp (disch:=omega) only[aR,seval,kD,q7,wO (n:=(i:Int)+1)]<;>(with_reducible first|(refine And.intro ?_ ?_;focus first|omega|kernel_rfl);(repeat (refine And.intro ?_ ?_;focus first|omega|kernel_rfl));(try simp (disch:=omega) only[aR,seval,kD,q7,wO (n:=(i:Int)+1)])|skip)<;>skip))))))))))))))
   all_goals first
    | (exfalso;omega)
    | (refine kN ⟨i+1,by omega,e2⟩ (by simp only;omega) ?_
       rw[hSt];refine kO [] [] ?_
       simp only[aR,seval]<;>(and_intros<;>first|rfl|omega|trivial))
 ·rw[List.take_of_length_le (by omega)]at ha
  simp only[aR,seval,h,e0,ha]
abbrev NdsN:={ l:List Nd // l.length≤1000000∧∀ x∈l,x.text.length≤1099511627776 }
theorem totN_le:∀ (l:List Nd),(∀ x∈l,x.text.length≤1099511627776)→totN l≤l.length * 1099511627776
 | [],_=>by simp [totN]
 | x::l,h=>by
   have h1:=totN_le l fun b hb=>h b (List.mem_cons_of_mem _ hb)
   have h2:=h x (List.mem_cons_self ..)
   have h3:=kFD x.text
   rw[← kAc]at h3
   rw[totN,List.length_cons,Nat.add_mul];omega
abbrev totCon:Con where
 ι:=NdsN
 args:=fun p=>[.sl 0 5 (kT p.1)]
 post:=fun p r=>r = .v (.int .i64 (totN p.1))
 plain:=true
theorem tot_good:Rw.Good Tryz.prog 67 totCon:=by
 have hΓ:kK Tryz.prog [(52,kAq)]:=(kG kB2 kI)
 refine kZ (nn:=20) hΓ Tryz.func67 (by kernel_rfl) rfl (show Tryz.f67.results.toList=[.tmp 2] from rfl) (fun _=>rfl) (fun x=>by simp[AV.erL,AV.er]) ?_
 rintro ⟨l,hl,ht⟩
 have hb:=totN_le l ht
 simp only[aR,seval,kL]
 obtain ⟨St,hSt⟩:∃ St:{ p:Nat×Nat // p.2≤l.length∧p.1+totN (l.drop p.2)=totN l }→AS,∀ p,St p=AS.of 20 [(0,.sl 0 5 (kT l)),(3,.v (.int .i64 p.1.1)),(4,.v (.int .i64 p.1.2))] [] []:=⟨_,fun _=>rfl⟩
 refine qE hΓ St (fun p=>l.length - p.1.2) ⟨(0,0),by simp,by simp⟩ (by rw[hSt];refine kO [] [] ?_;simp only[aR,seval]<;>(and_intros<;>first|rfl|omega|trivial)) ?_
 rintro ⟨⟨n,i⟩,hi,hn⟩
 simp only at hi hn
 rw[hSt]
 simp only
 simp only[aR,seval,kL]
 (with_reducible first|refine kE (fun h=>?_) (fun h=>?_)|refine kF (fun h=>?_) (fun h=>?_))
 ·have hlt:i < l.length:=by omega
  have e1:=qB l hlt
  have hx:=ht _ (List.getElem_mem hlt)
  rw[List.drop_eq_getElem_cons hlt,totN]at hn
  generalize l[i]=x at *
  simp only[aR,seval,h,e1,nA,kL]
  repeat (with_reducible refine And.intro ?_ ?_;focus first|omega|kernel_rfl)
  refine kAn (by simp[kC]) hx ?_
  simp only[aR,seval,wO (n:=(n:Int)+cnt x.text),wO (n:=(i:Int)+1)]
  refine kN ⟨(n+cnt x.text,i+1),by simp only;omega,by simp only;omega⟩ (by simp only;omega) ?_
  rw[hSt];refine kO [] [] ?_
  simp only[aR,seval]<;>(and_intros<;>first|rfl|omega|trivial)
 ·rw[List.drop_of_length_le (by omega),totN]at hn
  simp only[aR,seval,h]
  omega
theorem call_tot {Γ:Env} (hf:Γ.get 67=some totCon) {σ:AS} {dr:Bool} {l:List Nd} {ys:List AV} {d:Option Nat} {K:AS→Prop} (hy:ys=kT l) (hl:l.length≤1000000) (ht:∀ x∈l,x.text.length≤1099511627776)
    (hk:cont σ d (.v (.int .i64 (totN l))) K):kS Tryz.prog Γ dr σ 67 [.sl 0 5 ys] d K:=by
 subst hy
 exact kP (C:=totCon) (i:=⟨l,hl,ht⟩) hf rfl rfl rfl (by simp[AV.erL,AV.er]) (fun _ h=>h) rfl hk
abbrev withCon:Con where
 ι:={ p:List Nd×Nat×Nd // p.1.length≤1000000∧p.2.1 < p.1.length }
 args:=fun p=>[.sl 0 5 (kT p.1.1),.v (.int .i64 p.1.2.1),nA p.1.2.2]
 post:=fun p r=>r = .sl 0 5 (kT (p.1.1.set p.1.2.1 p.1.2.2))
theorem nodes_set (l:List Nd) (i:Nat) (x:Nd):(kT l).set i (nA x)=kT (l.set i x):=by simp[kT,List.map_set]
theorem with_good:Rw.Good Tryz.prog 65 withCon:=by
 have hΓ:kK Tryz.prog []:=kI
 refine kZ (nn:=16) hΓ Tryz.func65 (by kernel_rfl) rfl (show Tryz.f65.results.toList=[.tmp 6] from rfl) (fun _=>rfl) (fun x=>by simp[AV.erL,AV.er,nA_er]) ?_
 rintro ⟨⟨l,k,x⟩,hl,hk⟩
 simp only at hl hk
 simp only[aR,seval,kL,nA,List.map_nil]
 refine ⟨by omega,by omega,by omega,hk,?_⟩
 rw[qB l hk,← nodes_set]
 rfl
theorem call_with {Γ:Env} (hf:Γ.get 65=some withCon) {σ:AS} {dr:Bool} {l:List Nd} {k:Nat} {n:Int} {x:Nd} {ys:List AV} {y:AV} {d:Option Nat} {K:AS→Prop} (hy:ys=kT l) (hn:n=k) (hx:y=nA x) (hl:l.length≤1000000) (hk':k < l.length)
    (hk:cont σ d (.sl 0 5 (kT (l.set k x))) K):kS Tryz.prog Γ dr σ 65 [.sl 0 5 ys,.v (.int .i64 n),y] d K:=by
 subst hy hn hx
 exact jH (C:=withCon) (i:=⟨(l,k,x),hl,hk'⟩) (r:=.sl 0 5 (kT (l.set k x))) hf rfl rfl (by simp[AV.erL,AV.er,nA_er]) rfl (fun _ h=>h) hk
abbrev kBV:Con where
 ι:=NdsL×NdsL
 args:=fun p=>[.sl 0 5 (kT p.1.1),.sl 0 5 (kT p.2.1)]
 post:=fun p r=>r = .v (.bool (decide (p.1.1=p.2.1)))
 plain:=true
theorem snodes_good:Rw.Good Tryz.prog 19 kBV:=by
 have hΓ:kK Tryz.prog []:=kI
 refine kZ (nn:=26) hΓ Tryz.func19 (by kernel_rfl) rfl (show Tryz.f19.results.toList=[.tmp 4] from rfl) (fun _=>rfl) (fun x=>by simp[AV.erL,AV.er]) ?_
 rintro ⟨⟨a,ha⟩,⟨b,hb⟩⟩
 simp only[aR,seval,kL]
 by_cases hl:a.length=b.length
 case neg =>
  have hne:a≠b:=fun e=>hl (by rw[e])
  simp only[aR,seval,show ((a.length:Int)=b.length)=False from eq_false (by omega),hne]
 simp only[aR,seval,hl,kL]
 obtain ⟨St,hSt⟩:∃ St:{ i:Nat // i≤b.length∧a.take i=b.take i }→AS,∀ i,St i=AS.of 26 [(0,.sl 0 5 (kT a)),(1,.sl 0 5 (kT b)),(5,.v (.int .i64 i.1))] [] []:=⟨_,fun _=>rfl⟩
 refine qE hΓ St (fun i=>b.length - i.1) ⟨0,by omega,by simp⟩ (by rw[hSt];refine kO [] [] ?_;simp only[aR,seval]<;>(and_intros<;>first|rfl|omega|trivial)) ?_
 rintro ⟨i,hi,hs⟩
 rw[hSt]
 simp only
 simp only[aR,seval,kL]
 (with_reducible first|refine kE (fun h=>?_) (fun h=>?_)|refine kF (fun h=>?_) (fun h=>?_))
 ·have hlt:i < a.length:=by omega
  have hlt2:i < b.length:=by omega
  have e1:=qB a hlt
  have e2:=qB b hlt2
  have ta:=List.take_succ_eq_append_getElem hlt
  have tb:=List.take_succ_eq_append_getElem hlt2
  have hab:a[i]=b[i]→a.take (i+1)=b.take (i+1):=fun he=>by rw[ta,tb,he,hs]
  have hne:¬ a[i]=b[i]→a≠b:=fun he hh=>he (by subst hh;rfl)
  generalize a[i]=x at *
  generalize b[i]=y at *
  have key:decide (¬ (x.id=y.id∧x.par=y.par∧x.nm=y.nm∧x.dir=y.dir∧x.text=y.text))=decide (¬ x=y):=by simp only[nd_eq]
  simp only[aR,seval,h,e1,e2,nA,kL,node_neq,key]
  repeat (with_reducible refine And.intro ?_ ?_;focus first|omega|kernel_rfl)
  by_cases hxy:x=y
  ·simp only[aR,seval,hxy,wO (n:=(i:Int)+1)]
   refine kN ⟨i+1,by omega,hab hxy⟩ (by simp only;omega) ?_
   rw[hSt];refine kO [] [] ?_
   simp only[aR,seval]<;>(and_intros<;>first|rfl|omega|trivial)
  ·simp only[aR,seval,hxy,hne hxy]
 ·have e1:a.take i=a:=List.take_of_length_le (by omega)
  have e2:b.take i=b:=List.take_of_length_le (by omega)
  rw[e1,e2]at hs
  simp only[aR,seval,h,hs]
theorem rplain_good:Rw.Good Tryz.prog 62 kC4:=by
 have hΓ:kK Tryz.prog []:=kI
 refine kZ (nn:=48) hΓ Tryz.func62 (by kernel_rfl) rfl (show Tryz.f62.results.toList=[.cell 2 55] from rfl) (fun _=>rfl) (fun x=>by simp[AV.erL,kEm]) ?_
 rintro ⟨a,oa⟩
 obtain ⟨k,id,par,nm,dir,ops⟩:=a
 simp only at oa
 by_cases h1:k=1
 ·simp only[aR,seval,aA,h1]
  simp[zU,h1,aA,kAD]
 by_cases h2:k=2
 ·simp only[aR,seval,aA,h1,h2]
  simp[zU,h2,aA,kAD]
 by_cases h3:k=3
 ·simp only[aR,seval,aA,h1,h2,h3]
  simp[zU,h3,aA,kAD]
 by_cases h4:k=4
 ·simp only[aR,seval,aA,h1,h2,h3,h4]
  simp[zU,h4,aA]
 ·simp only[aR,seval,aA,h1,h2,h3,h4]
  simp[zU,h1,h2,h3,h4,aA,kAD]
theorem kGZ:Rw.Good Tryz.prog 61 kAv:=by
 have hΓ:kK Tryz.prog [(84,kEI)]:=(kG rsame_good kI)
 refine kZ (nn:=45) hΓ Tryz.func61 (by kernel_rfl) rfl (show Tryz.f61.results.toList=[.tmp 4] from rfl) (fun _=>rfl) (fun x=>by simp[AV.erL,kEm]) ?_
 rintro ⟨⟨x,hx⟩,⟨y,hy⟩⟩
 have dk:decide (x=y)=decide (x.k=y.k∧x.id=y.id∧x.par=y.par∧x.nm=y.nm∧x.dir=y.dir∧x.ops=y.ops):=by
  cases x;cases y
  simp only[Ac.mk.injEq]
 simp only[dk]
 obtain ⟨k,id,par,nm,dir,ops⟩:=x
 obtain ⟨k',id',par',nm',dir',ops'⟩:=y
 simp only[aR,seval,aA]
 by_cases h1:k=k'
 case neg =>
  simp only[aR,seval,h1]
  simp[h1]
 by_cases h2:id=id'
 case neg =>
  simp only[aR,seval,h2,h1]
  simp[h2]
 by_cases h3:par=par'
 case neg =>
  simp only[aR,seval,h3,h1,h2]
  simp[h3]
 by_cases h4:nm=nm'
 case neg =>
  simp only[aR,seval,h4,h1,h2,h3]
  simp[h4]
 by_cases h5:dir=dir'
 case neg =>
  have nn:(dir == dir')=false:=by simp[h5]
  simp only[aR,seval,nn,h1,h2,h3,h4]
  simp[h5]
 have b5:(dir == dir')=true:=by simp[h5]
 simp only[aR,seval,h1,h2,h3,h4,b5]
 refine call_same (by simp[kC]) rfl rfl (by have:=hx.1;simp only at this;omega) (by have:=hy.1;simp only at this;omega) ?_
 simp only[aR,seval,h1,h2,h3,h4,b5]
 simp[h1,h2,h3,h4,h5]
abbrev ActsS:={ l:List Ac // l.length≤1099511627776∧∀ a∈l,okL a.ops }
abbrev kFC:Con where
 ι:=ActsS×ActsS
 args:=fun p=>[.sl 0 6 (acts p.1.1),.sl 0 6 (acts p.2.1)]
 post:=fun p r=>r = .v (.bool (decide (p.1.1=p.2.1)))
 plain:=true
theorem sacts_good:Rw.Good Tryz.prog 44 kFC:=by
 have hΓ:kK Tryz.prog [(61,kAv)]:=(kG kGZ kI)
 refine kZ (nn:=27) hΓ Tryz.func44 (by kernel_rfl) rfl (show Tryz.f44.results.toList=[.tmp 4] from rfl) (fun _=>rfl) (fun x=>by simp[AV.erL,AV.er]) ?_
 rintro ⟨⟨a,ha,hao⟩,⟨b,hb,hbo⟩⟩
 simp only[aR,seval,k9]
 by_cases hl:a.length=b.length
 case neg =>
  have hne:a≠b:=fun e=>hl (by rw[e])
  simp only[aR,seval,show ((a.length:Int)=b.length)=False from eq_false (by omega),hne]
 simp only[aR,seval,hl,k9]
 obtain ⟨St,hSt⟩:∃ St:{ i:Nat // i≤b.length∧a.take i=b.take i }→AS,∀ i,St i=AS.of 27 [(0,.sl 0 6 (acts a)),(1,.sl 0 6 (acts b)),(5,.v (.int .i64 i.1))] [] []:=⟨_,fun _=>rfl⟩
 refine qE hΓ St (fun i=>b.length - i.1) ⟨0,by omega,by simp⟩ (by rw[hSt];refine kO [] [] ?_;simp only[aR,seval]<;>(and_intros<;>first|rfl|omega|trivial)) ?_
 rintro ⟨i,hi,hs⟩
 rw[hSt]
 simp only
 simp only[aR,seval,k9]
 (with_reducible first|refine kE (fun h=>?_) (fun h=>?_)|refine kF (fun h=>?_) (fun h=>?_))
 ·have hlt:i < a.length:=by omega
  have hlt2:i < b.length:=by omega
  have e1:=z6 a hlt
  have e2:=z6 b hlt2
  have hx:=hao _ (List.getElem_mem hlt)
  have hy:=hbo _ (List.getElem_mem hlt2)
  have ta:=List.take_succ_eq_append_getElem hlt
  have tb:=List.take_succ_eq_append_getElem hlt2
  have hab:a[i]=b[i]→a.take (i+1)=b.take (i+1):=fun he=>by rw[ta,tb,he,hs]
  have hne:¬ a[i]=b[i]→a≠b:=fun he hh=>he (by subst hh;rfl)
  generalize a[i]=x at *
  generalize b[i]=y at *
  simp only[aR,seval,h,e1,e2,aA,k9]
  repeat (with_reducible refine And.intro ?_ ?_;focus first|omega|kernel_rfl)
  refine kP (C:=kAv) (i:=(⟨x,hx⟩,⟨y,hy⟩)) (by simp[kC]) rfl rfl rfl (by simp[AV.erL,AV.er,aA,kDp]) (fun _ h=>h) rfl ?_
  by_cases hxy:x=y
  ·simp only[aR,seval,hxy,wO (n:=(i:Int)+1)]
   refine kN ⟨i+1,by omega,hab hxy⟩ (by simp only;omega) ?_
   rw[hSt];refine kO [] [] ?_
   simp only[aR,seval]<;>(and_intros<;>first|rfl|omega|trivial)
  ·simp only[aR,seval,hxy,hne hxy]
 ·have e1:a.take i=a:=List.take_of_length_le (by omega)
  have e2:b.take i=b:=List.take_of_length_le (by omega)
  rw[e1,e2]at hs
  simp only[aR,seval,h,hs]
theorem kGH {Γ:Env} (hf:Γ.get 19=some kBV) {σ:AS} {dr:Bool} {a b:List Nd} {t1 t2:Nat} {xs ys:List AV} {d:Option Nat} {K:AS→Prop} (hx:xs=kT a) (hy:ys=kT b) (ha:a.length≤1099511627776) (hb:b.length≤1099511627776)
    (hk:cont σ d (.v (.bool (decide (a=b)))) K):kS Tryz.prog Γ dr σ 19 [.sl t1 5 xs,.sl t2 5 ys] d K:=by
 subst hx hy
 exact kP (C:=kBV) (i:=(⟨a,ha⟩,⟨b,hb⟩)) hf rfl rfl rfl (by simp[AV.erL,AV.er]) (fun _ h=>h) rfl hk
end Go.Proofs
-- HAp5
namespace Go.Proofs
open Go Go.Rw
abbrev RDo (cs:List Nat) (l:List Cp):={ p:List UInt8×Nat×Nat // p.2.2≤l.length∧fit (cs.drop p.2.1) (l.drop p.2.2)∧p.2.1≤cs.length∧p.1++encs (doL (cs.drop p.2.1) (l.drop p.2.2))=encs (doL cs l) }
theorem rdo_good:Rw.Good Tryz.prog 66 doCon:=by
 have hΓ:kK Tryz.prog [(63,kAR),(51,j9),(52,kAq),(86,kBL),(88,kDW)]:=(kG kGE (kG kDG (kG kB2 (kG kHD (kG rslice_good kI)))))
 refine kZ (nn:=74) hΓ Tryz.func66 (by kernel_rfl) rfl (show Tryz.f66.results.toList=[.tmp 4,.tmp 5] from rfl) (fun _=>rfl) (fun _=>rfl) ?_
 rintro ⟨⟨s,hs⟩,⟨l,hl⟩⟩
 have e0:∀ e,errI s l=e→e≠0→doR s l=res2 (.v (sv [])) e:=fun e h h2=>by unfold doR zL;rw[h,if_neg h2]
 simp only[aR,seval]
 refine kFi (by simp[kC]) rfl hl ?_
 by_cases hc:qV l=0
 ·simp only[aR,seval,hc]
  refine kAl (by simp[kC]) hs ?_
  rcases kCO (pts s) with hp|⟨cs,hp⟩
  ·have he:errI s l=2:=by unfold errI;rw[if_pos hc,hp]
   simp only[aR,seval,hp,Option.isSome_none]
   rw[e0 2 he (by decide)];rfl
  ·simp only[aR,seval,hp,Option.isSome_some]
   refine kAn (by simp[kC]) hs ?_
   simp only[aR,seval,cnt,hp]
   refine kHZ (by simp[kC]) rfl hl ?_
   by_cases hb:(cs.length:Int)=kA9 l
   ·have he:errI s l=0:=by unfold errI;rw[if_pos hc,hp];simp only;rw[if_pos hb]
    have hfit:=kGI hc hb
    obtain ⟨hok,hse⟩:=kA5 hp
    have hcl:=kCL hp
    have hcc:=zK hc
    have hen:=kBf (cs:=doL cs l)
    have hou:=kF2 l cs 0 (by omega) hfit hcc.2.2.2.2.2
    have ho2:outL l=outF 0 l:=rfl
    simp only[aR,seval,hb,kM]
    obtain ⟨St,hSt⟩:∃ St:RDo cs l→AS,∀ p,St p=AS.of 74 [(0,.v (sv s)),(1,.sl 0 3 (qI l)),(7,.v (sv p.1.1)),(8,.v (.int .i64 p.1.2.1)),(9,.v (.int .i64 p.1.2.2))] [] []:=⟨_,fun _=>rfl⟩
    refine qE hΓ St (fun p=>l.length - p.1.2.2) ⟨([],0,0),by simp,by simpa using hfit,by simp,by simp⟩ (by rw[hSt];refine kO [] [] ?_;simp only[aR,seval]<;>(and_intros<;>first|rfl|omega|trivial)) ?_
    rintro ⟨⟨out,a,i⟩,hi,hf,ha,ho⟩
    simp only at hi hf ha ho
    have hle:out.length≤8000:=by
     have:=congrArg List.length ho
     rw[List.length_append]at this
     omega
    rw[hSt]
    simp only
    simp only[aR,seval,kM]
    (with_reducible first|refine kE (fun h=>?_) (fun h=>?_)|refine kF (fun h=>?_) (fun h=>?_))
    ·have hlt:i < l.length:=by omega
     have e1:=qN l hlt
     have hct:=okL.text hl (List.getElem_mem hlt)
     rw[List.drop_eq_getElem_cons hlt]at hf ho
     obtain ⟨hso,hn0,hnl,hf2⟩:=kFF hf
     have hso2:=kAd hso
     have hcs:=zC hso
     rw[List.drop_drop]at hf2
     rw[List.length_drop]at hnl
     have d1:=fun h=>do_ins (cs:=cs.drop a) (r:=l.drop (i+1)) hso2 h
     have d2:=fun h=>do_del (cs:=cs.drop a) (r:=l.drop (i+1)) hso2 h
     have d3:=fun h h'=>do_ret (cs:=cs.drop a) (r:=l.drop (i+1)) hso2 h h'
     generalize l[i]=c at *
     obtain ⟨k,n,t⟩:=c
     simp only at *
     have again:∀ (σ:AS) (out2:List UInt8) (a2:Nat),Weak σ (AS.of 74 [(0,.v (sv s)),(1,.sl 0 3 (qI l)),(7,.v (sv out2)),(8,.v (.int .i64 a2)),(9,.v (.int .i64 (i+1:Nat)))] [] [])→fit (cs.drop a2) (l.drop (i+1))→a2≤cs.length→out2++encs (doL (cs.drop a2) (l.drop (i+1)))=encs (doL cs l)→∃ y:RDo cs l,l.length - y.1.2.2 < l.length - i∧Weak σ (St y):=fun σ o2 a2 hw h1 h2 h3 =>
      ⟨⟨(o2,a2,i+1),by simp only;omega,h1,h2,h3⟩,by simp only;omega,by rw[hSt];exact hw⟩
     simp (disch:=omega) only[aR,seval,kD,h,e1,kM]
     repeat (with_reducible refine And.intro ?_ ?_;focus first|omega|kernel_rfl)
     (with_reducible first|refine kE (fun h1=>?_) (fun h1=>?_)|refine kF (fun h1=>?_) (fun h1=>?_))
     ·subst h1
      rw[d3 (by decide) (by decide),List.drop_drop]at ho
      have hab:0≤(a:Int)∧(a:Int)≤(a:Int)+n∧(a:Int)+n≤(cs.length:Int):=by omega
      have hsl:((a:Int)+n).toNat - a=n.toNat:=by omega
      have hlen4:=kBf (cs:=(cs.drop a).take n.toNat)
      rw[List.length_take]at hlen4
      simp (disch:=omega) only[aR,seval,kD,e1,kM]
      repeat (with_reducible refine And.intro ?_ ?_;focus first|omega|kernel_rfl)
      subst hse
      refine call_rslice (by simp[kC]) hok hs hab ?_
      simp (disch:=omega) only[aR,seval,kD,hsl,e1,kM]
      repeat (with_reducible refine And.intro ?_ ?_;focus first|omega|kernel_rfl)
      refine again _ (out++encs ((cs.drop a).take n.toNat)) (a+n.toNat) ?_ hf2 (by omega) (by rw[← ho,jK,List.append_assoc])
      refine kO [] [] ?_
      simp only[aR,seval]<;>(and_intros<;>first|rfl|omega|trivial)
     ·simp (disch:=omega) only[aR,seval,kD,h1]
      (with_reducible first|refine kE (fun h2=>?_) (fun h2=>?_)|refine kF (fun h2=>?_) (fun h2=>?_))
      ·subst h2
       rw[d1 rfl]at ho
       rcases hcs with ⟨_,hz,_,hv⟩|⟨h13,_⟩
       ·subst hz
        simp (disch:=omega) only[aR,seval,kD,e1,kM]
        repeat (with_reducible refine And.intro ?_ ?_;focus first|omega|kernel_rfl)
        refine again _ (out++t) a ?_ (by simpa using hf2) ha (by rw[← ho,jK,List.append_assoc,(kBW hv).1])
        refine kO [] [] ?_
        simp only[aR,seval]<;>(and_intros<;>first|rfl|omega|trivial)
       ·omega
      ·simp (disch:=omega) only[aR,seval,kD,h2]
       have h3:k=3:=by omega
       subst h3
       rw[d2 rfl,List.drop_drop]at ho
       simp (disch:=omega) only[aR,seval,kD,e1,kM]
       repeat (with_reducible refine And.intro ?_ ?_;focus first|omega|kernel_rfl)
       refine again _ out (a+n.toNat) ?_ hf2 (by omega) ho
       refine kO [] [] ?_
       simp only[aR,seval]<;>(and_intros<;>first|rfl|omega|trivial)
    ·have hin:i=l.length:=by omega
     simp only[aR,seval,h]
     rw[hin,List.drop_length,doL,kC7,List.append_nil]at ho
     unfold doR zL
     rw[he,if_pos rfl,hcl,ho];rfl
   ·have he:errI s l=11:=by unfold errI;rw[if_pos hc,hp];simp only;rw[if_neg hb]
    simp only[aR,seval,hb]
    rw[e0 11 he (by decide)];rfl
 ·have he:errI s l=qV l:=by unfold errI;rw[if_neg hc]
  simp only[aR,seval,hc]
  rw[e0 _ he hc];rfl
end Go.Proofs
-- HAw0
namespace Go.Proofs
open Go Go.Rw
inductive Un where
 | r
 | d
 | i (c:Nat)
 deriving DecidableEq
def size (c:Cp):Nat:=if c.k=2 then (cpts c.t).length else c.n.toNat
def unP (c:Cp):List Un:=if c.k=2 then (cpts c.t).map .i else if c.k=1 then List.replicate c.n.toNat .r else if c.k=3 then List.replicate c.n.toNat .d else []
def unL:List Cp→List Un
 | []=>[]
 | c::r=>unP c++unL r
def doU:List Nat→List Un→List Nat
 | _,[]=>[]
 | cs,.i c::u=>c::doU cs u
 | cs,.d::u=>doU cs.tail u
 | [],.r::u=>doU [] u
 | c::cs,.r::u=>c::doU cs u
theorem doU_ins:∀ (xs cs:List Nat) (u:List Un),doU cs (xs.map .i++u)=xs++doU cs u
 | [],_,_=>rfl
 | x::xs,cs,u=>by simp only [List.map_cons,List.cons_append,doU];rw [doU_ins xs cs u]
theorem doU_del:∀ (n:Nat) (cs:List Nat) (u:List Un),doU cs (List.replicate n .d++u)=doU (cs.drop n) u
 | 0,_,_=>rfl
 | n+1,cs,u=>by
   simp only[List.replicate_succ,List.cons_append,doU]
   rw[doU_del n]
   cases cs<;>simp
theorem doU_ret:∀ (n:Nat) (cs:List Nat) (u:List Un),doU cs (List.replicate n .r++u)=cs.take n++doU (cs.drop n) u
 | 0,_,_=>rfl
 | n+1,[],u=>by
   simp only[List.replicate_succ,List.cons_append,doU]
   rw[doU_ret n];simp
 | n+1,c::cs,u=>by
   simp only[List.replicate_succ,List.cons_append,doU]
   rw[doU_ret n];simp
theorem kDZ:∀ (l:List Cp) (cs:List Nat),(∀ c∈l,qY c=true)→doL cs l=doU cs (unL l)
 | [],_,_=>rfl
 | c::r,cs,h=>by
   have hs:=h c (by simp)
   have hr:=fun x hx=>h x (List.mem_cons_of_mem c hx)
   rcases zC hs with ⟨h2,_⟩|⟨h1|h3,_⟩
   ·rw[do_ins (kAd hs) h2,unL,unP,if_pos h2,doU_ins,kDZ r _ hr]
   ·rw[do_ret (kAd hs) (by omega) (by omega),unL,unP,if_neg (by omega),if_pos h1,doU_ret,kDZ r _ hr]
   ·rw[do_del (kAd hs) h3,unL,unP,if_neg (by omega),if_neg (by omega),if_pos h3,doU_del,kDZ r _ hr]
def bU:List Un→Nat
 | []=>0
 | .i _::u=>bU u
 | _::u=>bU u+1
def oU:List Un→Nat
 | []=>0
 | .d::u=>oU u
 | _::u=>oU u+1
theorem kGg:∀ a b:List Un,bU (a++b)=bU a+bU b
 | [],b=>by simp [bU]
 | .i _::a,b=>by simp [bU,kGg a b]
 | .r::a,b=>by simp [bU,kGg a b];omega
 | .d::a,b=>by simp [bU,kGg a b];omega
theorem bU_i:∀ xs:List Nat,bU (xs.map .i)=0
 | []=>rfl
 | x::xs=>by simp [bU,bU_i xs]
theorem bU_r:∀ n,bU (List.replicate n .r)=n
 | 0=>rfl
 | n+1=>by simp [List.replicate_succ,bU,bU_r n]
theorem bU_d:∀ n,bU (List.replicate n .d)=n
 | 0=>rfl
 | n+1=>by simp [List.replicate_succ,bU,bU_d n]
theorem kHP:∀ (l:List Cp),(∀ c∈l,qY c=true)→(bU (unL l):Int)=tn l
 | [],_=>rfl
 | c::r,h=>by
   have hr:=kHP r (fun x hx=>h x (List.mem_cons_of_mem c hx))
   rcases zC (h c (by simp)) with ⟨h2,h0,_⟩|⟨h1|h3,h0,_⟩
   ·simp only[unL,tn,kGg];rw[unP,if_pos h2,bU_i];omega
   ·simp only[unL,tn,kGg];rw[unP,if_neg (by omega),if_pos h1,bU_r];omega
   ·simp only[unL,tn,kGg];rw[unP,if_neg (by omega),if_neg (by omega),if_pos h3,bU_d];omega
theorem do_len:∀ (u:List Un) (cs:List Nat),cs.length=bU u→(doU cs u).length=oU u
 | [],_,_=>rfl
 | .i c::u,cs,h=>by simp only [doU,oU,List.length_cons];rw [do_len u cs h]
 | .d::u,cs,h=>by
   simp only[doU,oU]
   rw[do_len u cs.tail (by simp only[bU]at h;rw[List.length_tail];omega)]
 | .r::u,[],h=>by simp [bU] at h
 | .r::u,c::cs,h=>by
   simp only[doU,oU,List.length_cons]
   rw[do_len u cs (by simpa [bU] using h)]
end Go.Proofs
-- HAw1
namespace Go.Proofs
open Go Go.Rw
def part (c:Cp) (dn m:Nat):Cp:=if c.k=2 then ⟨c.k,c.n,encs (((cpts c.t).drop dn).take m)⟩ else ⟨c.k,m,c.t⟩
def advR (c:Cp) (r:List Cp) (dn m:Nat):List Cp:=if dn+m=size c then r else c::r
def advD (c:Cp) (dn m:Nat):Nat:=if dn+m=size c then 0 else dn+m
end Go.Proofs
-- HAw2
namespace Go.Proofs
open Go Go.Rw
def adv (w:List Cp×Nat) (n:Nat):List Cp×Nat:=match w with
 | ([],a)=>([],a)
 | (c::r,a)=>(advR c r a n,advD c a n)
def piece (w:List Cp×Nat) (n:Nat):Cp:=match w with
 | ([],_)=>⟨0,0,[]⟩
 | (c::_,a)=>part c a n
end Go.Proofs
-- HAw3
namespace Go.Proofs
open Go Go.Rw
theorem ulen_le:∀ u:List Un,u.length≤bU u+oU u
 | []=>by simp [bU,oU]
 | .r::u=>by have:=ulen_le u;simp only [List.length_cons,bU,oU];omega
 | .d::u=>by have:=ulen_le u;simp only [List.length_cons,bU,oU];omega
 | .i _::u=>by have:=ulen_le u;simp only [List.length_cons,bU,oU];omega
theorem out_units {l:List Cp} (h:qV l=0):outL l=oU (unL l)∧kA9 l=bU (unL l)∧(unL l).length≤4000:=by
 obtain ⟨h1,h2,h3,h4,h5,h6⟩:=zK h
 have hb:=kHP l h3
 have hf:fit (List.replicate (bU (unL l)) 1) l:=⟨h3,by rw[List.length_replicate];omega⟩
 have h7:=kF2 l (List.replicate (bU (unL l)) 1) 0 (by omega) hf h6
 rw[kDZ l _ h3,do_len _ _ (by simp)]at h7
 have h8:=ulen_le (unL l)
 have h9:outL l=outF 0 l:=rfl
 omega
end Go.Proofs
-- HAw4
namespace Go.Proofs
open Go Go.Rw
end Go.Proofs
-- HAw5
namespace Go.Proofs
open Go Go.Rw
end Go.Proofs
-- HAw6
namespace Go.Proofs
open Go Go.Rw
end Go.Proofs
-- HAw7
namespace Go.Proofs
open Go Go.Rw
def edits (l:List (List Cp)):List AV:=l.map fun x=>.sl 0 3 (qI x)
end Go.Proofs
-- HAq1
namespace Go.Proofs
open Go Go.Rw
end Go.Proofs
-- HAw9
namespace Go.Proofs
open Go Go.Rw
theorem done_law {s:List UInt8} {l:List Cp} (he:errI s l=0):pts (zL s l)=some (doL (cpts s) l)∧((doL (cpts s) l).length:Int)=outL l∧(zL s l).length≤8000:=by
 obtain ⟨h1,h2,h3,h4⟩:=kEs he
 obtain ⟨c1,c2,c3,c4,c5,c6⟩:=zK h1
 obtain ⟨o1,o2,o3⟩:=out_units h1
 have ho:=(kA5 h2).1
 have hd:=kHS l (cpts s) ho (kFh c3)
 have hl:(doL (cpts s) l).length=oU (unL l):=by rw[kDZ l _ c3];exact do_len _ _ (by omega)
 have hx:zL s l=encs (doL (cpts s) l):=by unfold zL;rw[if_pos he]
 have hy:=encs_ge (doL (cpts s) l)
 rw[hx]
 exact ⟨kFb hd,by omega,by omega⟩
theorem kHK (s:List UInt8) (l:List Cp):(zL s l).length≤8000:=by
 by_cases he:errI s l=0
 ·exact (done_law he).2.2
 ·unfold zL;rw[if_neg he];simp
end Go.Proofs
-- HUk3
namespace Go.Proofs
open Go Go.Rw
abbrev okT (l:List Nd):Prop:=l.length≤1000000∧∀ x∈l,x.text.length≤1099511627776
abbrev doAcon:Con where
 ι:={ p:List Nd×Ac // okT p.1∧okA p.2 }
 args:=fun p=>[.sl 0 5 (kT p.1.1),aA p.1.2]
 post:=fun p r=>r = .tup [.sl 0 5 (kT (doN p.1.1 p.1.2).1),.v (.int .i64 (doN p.1.1 p.1.2).2)]
theorem atN_drop (id:Int):∀ (l:List Nd) (i:Nat),i≤atN id l→atN id l=i+atN id (l.drop i)
 | l,0,_=>by simp
 | [],i+1,h=>by simp [atN] at h
 | x::l,i+1,h=>by
   rw[atN]at h ⊢
   split at h
   ·rename_i hx
    rw[if_pos hx,List.drop_succ_cons,atN_drop id l i (by omega)];omega
   ·omega
theorem kC3 {l:List Nd} {i j:Nat} (hj:j≤l.length):kBt 0 5 (kT l) i j = .sl 0 5 (kT ((l.drop i).take (j - i))):=by
 unfold kBt
 split
 ·rename_i h
  obtain ⟨rfl,h2⟩:=h
  rw[kL]at h2
  rw[List.drop_zero,Nat.sub_zero,List.take_of_length_le (by omega)]
 ·rw[nodes_drop,kGt]
set_option maxHeartbeats 8000000 in
theorem doA_good:Rw.Good Tryz.prog 37 doAcon:=by
 have hΓ:kK Tryz.prog [(53,kB7),(49,kAk),(64,kEr),(65,withCon),(67,totCon),(66,doCon)]:=(kG kCc (kG kEV (kG place_good (kG with_good (kG tot_good (kG rdo_good kI))))))
 refine kC8 Tryz.func37 (by kernel_rfl) rfl (show Tryz.f37.results.toList=[.tmp 4,.tmp 5] from rfl) (nn:=202) (fun _=>rfl) (fun x=>by simp[AV.erL,AV.er,kEm]) ?_
 rintro ⟨⟨l,a⟩,⟨hl,ht⟩,oa,hn⟩
 obtain ⟨k,id,par,nm,dir,ops⟩:=a
 simp only at hl ht oa hn
 refine kE8 hΓ (Ws:=[(17,[2006],[]),(26,[],[])]) _ ?_
 simp only[aR,seval,kR,aA]
 refine kBX (by simp[kC]) rfl (by omega) ?_
 have nf:¬ ndx id l < l.length→ndI id l = -1:=fun h=>by rw[ndI,if_neg h]
 have yf:ndx id l < l.length→ndI id l=(ndx id l:Int):=fun h=>by rw[ndI,if_pos h]
 by_cases k1:k=1
 ·subst k1
  have e0:doN l ⟨1,id,par,nm,dir,ops⟩=if id < 1∨id > 1099511627776∨qG nm=false then (l,1) else if ndx id l < l.length then (l,6) else if zF l par nm 0≠0 then (l,zF l par nm 0) else if l.length ≥ 100 then (l,4) else (l.take (atN id l)++⟨id,par,nm,dir,[]⟩::l.drop (atN id l),0):=rfl
  simp only[aR,seval,kR]
  by_cases h1:id < 1
  ·rw[if_pos (.inl h1)]at e0
   simp only[aR,seval,kR,h1,e0]
  by_cases h2:id > 1099511627776
  ·rw[if_pos (.inr (.inl h2))]at e0
   simp only[aR,seval,kR,h1,h2,e0]
  simp only[aR,seval,kR,h1,h2]
  refine jG (by simp[kC]) hn ?_
  cases hnm:qG nm
  ·rw[if_pos (.inr (.inr hnm))]at e0
   simp only[aR,seval,kR,e0]
  rw[if_neg (by rintro (h|h|h);exact h1 h;exact h2 h;rw[hnm]at h;cases h)]at e0
  by_cases hf:ndx id l < l.length
  ·rw[if_pos hf]at e0
   simp only[aR,seval,kR,yf hf,show ((ndx id l:Int) ≥ 0)=True from eq_true (by omega),e0]
  rw[if_neg hf]at e0
  simp only[aR,seval,kR,nf hf]
  refine kGk (by simp[kC]) rfl (by omega) ?_
  by_cases hp:zF l par nm 0=0
  case neg =>
   rw[if_pos hp]at e0
   simp only[aR,seval,kR,hp,e0]
  rw[if_neg (by simpa using hp)]at e0
  by_cases h5:(l.length:Int) ≥ 100
  ·rw[if_pos (by omega)]at e0
   simp only[aR,seval,kR,hp,kL,h5,e0]
  rw[if_neg (by omega)]at e0
  simp only[aR,seval,kR,hp,kL,h5]
  obtain ⟨St,hSt⟩:∃ St:{ i:Nat // i≤atN id l }→AS,∀ i,St i=AS.of 202 [(0,.sl 0 5 (kT l)),(3,.ptr 0 0),(8,.v (.int .i64 i.1))] [.cells [.v (.int .i64 1),.v (.int .i64 id),.v (.int .i64 par),.v (sv nm),.v (.bool dir),.sl 0 3 (qI ops)]] []:=⟨_,fun _=>rfl⟩
  have hal:=atN_le id l
  refine kFW [(17,[2006],[])] hΓ St (fun i=>l.length - i.1) ⟨0,by omega⟩ (by rw[hSt];refine kO [0] [] ?_;simp only[aR,seval]<;>(and_intros<;>first|rfl|omega|trivial)) ?_
  rintro ⟨i,hi⟩
  have hdr:=atN_drop id l i hi
  rw[hSt]
  simp only
  simp only[aR,seval,kR,kL]
  repeat (with_reducible refine And.intro ?_ ?_;focus first|omega|kernel_rfl)
  have hp1:∀ j,j≤l.length→kBt 0 5 (kT l) 0 j = .sl 0 5 (kT (l.take j)):=fun j hj=>by rw[kC3 hj,List.drop_zero,Nat.sub_zero]
  have hp2:∀ j,j≤l.length→kBt 0 5 (kT l) j l.length = .sl 0 5 (kT (l.drop j)):=fun j hj=>by rw[kC3 (Nat.le_refl _),List.take_of_length_le (by rw[List.length_drop];exact Nat.le_refl _)]
  by_cases h:(i:Int) < l.length
  ·have hlt:i < l.length:=by omega
   have e1:=qB l hlt
   rw[List.drop_eq_getElem_cons hlt,atN]at hdr
   by_cases hx:l[i].id < id
   ·rw[if_pos hx]at hdr
    generalize l[i]=x at *
    simp only[aR,seval,kR,h,e1,nA,kL,hx,wO (n:=(i:Int)+1)]
    repeat (with_reducible refine And.intro ?_ ?_;focus first|omega|kernel_rfl)
    refine kN ⟨i+1,by omega⟩ (by simp only;omega) ?_
    rw[hSt];refine kO [0] [] ?_
    simp only[aR,seval]<;>(and_intros<;>first|rfl|omega|trivial)
   ·rw[if_neg hx]at hdr
    have hi2:atN id l=i:=by omega
    rw[hi2]at e0
    generalize l[i]=x at *
    simp only[aR,seval,kR,h,e1,nA,kL,hx,hp1 i (by omega),hp2 i (by omega),List.map_nil,List.map_cons,List.length_append,List.length_take,List.length_drop,show min i l.length=i by omega]
    repeat (with_reducible refine And.intro ?_ ?_;focus first|omega|kernel_rfl)
    rw[e0];simp[kT,nA]
  ·have hi2:atN id l=i:=by omega
   rw[hi2]at e0
   simp only[aR,seval,kR,h,kL,hp1 i (by omega),hp2 i (by omega),List.map_nil,List.map_cons,List.length_append,List.length_take,List.length_drop,show min i l.length=i by omega]
   repeat (with_reducible refine And.intro ?_ ?_;focus first|omega|kernel_rfl)
   rw[e0];simp[kT,nA]
 by_cases k2:k=2
 ·subst k2
  have e0:doN l ⟨2,id,par,nm,dir,ops⟩=if ¬ ndx id l < l.length then (l,5) else if (l.any fun y=>decide (y.par=id))=true then (l,9) else (l.take (ndx id l)++l.drop (ndx id l+1),0):=rfl
  by_cases hf:ndx id l < l.length
  case neg =>
   rw[if_pos hf]at e0
   simp only[aR,seval,kR,nf hf,e0]
  rw[if_neg (by simpa using hf)]at e0
  rw[yf hf]
  simp only[aR,seval,kR,show ((ndx id l:Int) < 0)=False from eq_false (by omega)]
  obtain ⟨St,hSt⟩:∃ St:{ i:Nat // i≤l.length∧(l.any fun y=>decide (y.par=id))=(l.drop i).any fun y=>decide (y.par=id) }→AS,∀ i,St i=AS.of 202 [(0,.sl 0 5 (kT l)),(3,.ptr 0 0),(6,.v (.int .i64 (ndx id l))),(10,.v (.int .i64 i.1))] [.cells [.v (.int .i64 2),.v (.int .i64 id),.v (.int .i64 par),.v (sv nm),.v (.bool dir),.sl 0 3 (qI ops)]] []:=⟨_,fun _=>rfl⟩
  refine kFW [] hΓ St (fun i=>l.length - i.1) ⟨0,by omega,by simp⟩ (by rw[hSt];refine kO [0] [] ?_;simp only[aR,seval]<;>(and_intros<;>first|rfl|omega|trivial)) ?_
  rintro ⟨i,hi,ha⟩
  rw[hSt]
  simp only
  simp only[aR,seval,kR,kL]
  (with_reducible first|refine kE (fun h=>?_) (fun h=>?_)|refine kF (fun h=>?_) (fun h=>?_))
  ·have hlt:i < l.length:=by omega
   have e1:=qB l hlt
   rw[List.drop_eq_getElem_cons hlt,List.any_cons]at ha
   generalize l[i]=x at *
   by_cases hx:x.par=id
   ·rw[if_pos (by rw[ha];simp[hx])]at e0
    simp only[aR,seval,kR,h,e1,nA,kL,hx,e0]
    repeat (with_reducible refine And.intro ?_ ?_;focus first|omega|kernel_rfl)
    (and_intros<;>first|rfl|omega|trivial)
   ·simp only[aR,seval,kR,h,e1,nA,kL,hx,wO (n:=(i:Int)+1)]
    repeat (with_reducible refine And.intro ?_ ?_;focus first|omega|kernel_rfl)
    refine kN ⟨i+1,by omega,by rw[ha];simp[hx]⟩ (by simp only;omega) ?_
    rw[hSt];refine kO [0] [] ?_
    simp only[aR,seval]<;>(and_intros<;>first|rfl|omega|trivial)
  ·rw[List.drop_of_length_le (by omega)]at ha
   rw[if_neg (by rw[ha];simp)]at e0
   have hp1:kBt 0 5 (kT l) 0 (ndx id l) = .sl 0 5 (kT (l.take (ndx id l))):=by rw[kC3 (by omega),List.drop_zero,Nat.sub_zero]
   have hp2:kBt 0 5 (kT l) (ndx id l+1) l.length = .sl 0 5 (kT (l.drop (ndx id l+1))):=by rw[kC3 (Nat.le_refl _),List.take_of_length_le (by rw[List.length_drop];exact Nat.le_refl _)]
   simp only[aR,seval,kR,h,kL,wO (n:=(ndx id l:Int)+1),show ((ndx id l:Int)+1).toNat=ndx id l+1 by omega,hp1,hp2,List.map_nil,List.map_cons,List.length_append,List.length_take,List.length_drop,show min (ndx id l) l.length=ndx id l by omega]
   repeat (with_reducible refine And.intro ?_ ?_;focus first|omega|kernel_rfl)
   rw[e0];simp[kT]
 by_cases k3:k=3
 ·subst k3
  have e0:doN l ⟨3,id,par,nm,dir,ops⟩=if qG nm=false then (l,1) else if ¬ ndx id l < l.length then (l,5) else if zF l par nm id≠0 then (l,zF l par nm id) else (l.set (ndx id l) ⟨(l.getD (ndx id l) zO).id,par,nm,(l.getD (ndx id l) zO).dir,(l.getD (ndx id l) zO).text⟩,0):=rfl
  simp only[aR,seval,kR]
  refine jG (by simp[kC]) hn ?_
  cases hnm:qG nm
  ·rw[if_pos hnm]at e0
   simp only[aR,seval,kR,e0]
  rw[if_neg (by rw[hnm];simp)]at e0
  by_cases hf:ndx id l < l.length
  case neg =>
   rw[if_pos hf]at e0
   simp only[aR,seval,kR,nf hf,e0]
  rw[if_neg (by simpa using hf)]at e0
  rw[yf hf]
  simp only[aR,seval,kR,show ((ndx id l:Int) < 0)=False from eq_false (by omega)]
  refine kGk (by simp[kC]) rfl (by omega) ?_
  by_cases hp:zF l par nm id=0
  case neg =>
   rw[if_pos hp]at e0
   simp only[aR,seval,kR,hp,e0]
  rw[if_neg (by simpa using hp)]at e0
  have e1:=qB l hf
  have e3:l.getD (ndx id l) zO=l[ndx id l]:=by simp[List.getD_eq_getElem?_getD,hf]
  rw[e3]at e0
  generalize l[ndx id l]=x at *
  simp only[aR,seval,kR,hp,e1,nA,kL,List.map_nil,List.map_cons]
  repeat (with_reducible refine And.intro ?_ ?_;focus first|omega|kernel_rfl)
  refine call_with (by simp[kC]) rfl rfl (x:=⟨x.id,par,nm,x.dir,x.text⟩) rfl hl hf ?_
  simp only[aR,seval,kR,e0]
 by_cases k4:k=4
 ·subst k4
  have e0:doN l ⟨4,id,par,nm,dir,ops⟩=if ¬ ndx id l < l.length then (l,5) else if (l.getD (ndx id l) zO).dir=true then (l,8) else if errI (l.getD (ndx id l) zO).text ops≠0 then (l,errI (l.getD (ndx id l) zO).text ops)
   else if (totN (l.set (ndx id l) ⟨(l.getD (ndx id l) zO).id,(l.getD (ndx id l) zO).par,(l.getD (ndx id l) zO).nm,(l.getD (ndx id l) zO).dir,zL (l.getD (ndx id l) zO).text ops⟩):Int) > 10000 then (l,4)
   else (l.set (ndx id l) ⟨(l.getD (ndx id l) zO).id,(l.getD (ndx id l) zO).par,(l.getD (ndx id l) zO).nm,(l.getD (ndx id l) zO).dir,zL (l.getD (ndx id l) zO).text ops⟩,0):=rfl
  by_cases hf:ndx id l < l.length
  case neg =>
   rw[if_pos hf]at e0
   simp only[aR,seval,kR,nf hf,e0]
  rw[if_neg (by simpa using hf)]at e0
  rw[yf hf]
  have e1:=qB l hf
  have e3:l.getD (ndx id l) zO=l[ndx id l]:=by simp[List.getD_eq_getElem?_getD,hf]
  have hxt:=ht _ (List.getElem_mem hf)
  rw[e3]at e0
  generalize l[ndx id l]=x at *
  obtain ⟨xi,xp,xn,xd,xt⟩:=x
  simp only at e0 hxt
  cases xd
  case true =>
   rw[if_pos rfl]at e0
   simp only[aR,seval,kR,show ((ndx id l:Int) < 0)=False from eq_false (by omega),e1,nA,kL,e0]<;>(and_intros<;>first|rfl|omega|trivial)
  rw[if_neg (by simp)]at e0
  simp only[aR,seval,kR,show ((ndx id l:Int) < 0)=False from eq_false (by omega),e1,nA,kL]
  repeat (with_reducible refine And.intro ?_ ?_;focus first|omega|kernel_rfl)
  refine call_do (by simp[kC]) rfl hxt oa ?_
  by_cases he:errI xt ops=0
  case neg =>
   rw[if_pos he]at e0
   simp only[aR,seval,kR,doR,res2,he,e0]
  rw[if_neg (by simpa using he)]at e0
  simp only[aR,seval,kR,doR,res2,he,e1,nA,kL,List.map_nil,List.map_cons]
  repeat (with_reducible refine And.intro ?_ ?_;focus first|omega|kernel_rfl)
  refine call_with (by simp[kC]) rfl rfl (x:=⟨xi,xp,xn,false,zL xt ops⟩) rfl hl hf ?_
  simp only[aR,seval,kR]
  refine call_tot (by simp[kC]) rfl (by rw[List.length_set];exact hl) (fun y hy=>?_) ?_
  ·rcases List.mem_or_eq_of_mem_set hy with h|h
   ·exact ht y h
   ·rw[h]
    have:=kHK xt ops
    simp only;omega
  by_cases h6:(totN (l.set (ndx id l) ⟨xi,xp,xn,false,zL xt ops⟩):Int) > 10000
  ·rw[if_pos h6]at e0
   simp only[aR,seval,kR,h6,e0]
  ·rw[if_neg h6]at e0
   simp only[aR,seval,kR,h6,e0]
 ·have e0:doN l ⟨k,id,par,nm,dir,ops⟩=(l,1):=by simp[doN,k1,k2,k3,k4]
  simp only[aR,seval,kR,k1,k2,k3,k4,e0]
end Go.Proofs
-- HUk4
namespace Go.Proofs
open Go Go.Rw
theorem cnt_part {c:Cp} (h:qY c=true):cnt c.t=if c.k=2 then lc c.t else 0:=by
 rcases zC h with ⟨h1,_,_,h2⟩|⟨h1,_,h2⟩
 ·rw[if_pos h1,kAc,lc_cpts h2]
 ·rw[if_neg (by omega),h2];rfl
theorem bad_rest {a:Ac} (h1:¬ a.k < 1) (h2:¬ a.k > 4) (h3:a=zU a):badA a=decide (a.id < 1∨a.id > 1099511627776∨a.par < 0∨a.par > 1099511627776∨((a.k=1∨a.k=3)∧qG a.nm=false)):=by
 unfold badA
 rw[Bool.eq_iff_iff,decide_eq_true_eq,decide_eq_true_eq]
 constructor
 ·rintro (h|h|h|h)
  ·exact absurd h h1
  ·exact absurd h h2
  ·exact absurd h3 h
  ·exact h
 ·exact fun h=>.inr (.inr (.inr h))
theorem plain_ops {a:Ac} (h:a=zU a) (hk:a.k≠4):a.ops=[]:=by
 rw[h]
 unfold zU
 repeat' split
 all_goals first|rfl|contradiction
theorem one_bad {a:Ac} (h:badA a=true):oneI a=1:=by rw[oneI,h];rfl
theorem one_ok {a:Ac} (h:badA a=false):oneI a=if a.k=4 then qV a.ops else 0:=by rw[oneI,h];rfl
theorem putS_snoc {l:List Ac} {i:Nat} (h:i < l.length):putS (l.take (i+1))=putS (l.take i)+putC l[i].ops:=by
 rw[List.take_succ_eq_append_getElem h]
 generalize l.take i=x
 generalize l[i]=a
 induction x with
 | nil=>simp [putS]
 | cons b x ih=>simp only [List.cons_append,putS,ih];omega
theorem putC_snoc {l:List Cp} {i:Nat} (h:i < l.length):putC (l.take (i+1))=putC (l.take i)+(if l[i].k=2 then lc l[i].t else 0):=by
 rw[List.take_succ_eq_append_getElem h]
 generalize l.take i=x
 generalize l[i]=a
 induction x with
 | nil=>simp [putC]
 | cons b x ih=>simp only [List.cons_append,putC,ih];omega
theorem putC_le (l:List Cp) (i:Nat):putC (l.take i)≤putC l:=by
 induction l generalizing i with
 | nil=>simp [putC]
 | cons c l ih =>
   cases i with
   | zero=>simp [putC]
   | succ i=>rw [List.take_succ_cons,putC,putC];have:=ih i;omega
set_option maxHeartbeats 8000000 in
theorem rtcheck_good:Rw.Good Tryz.prog 36 kAg:=by
 have hΓ:kK Tryz.prog [(62,kC4),(61,kAv),(49,kAk),(63,kAR),(52,kAq)]:=(kG rplain_good (kG kGZ (kG kEV (kG kGE (kG kB2 kI)))))
 refine kZ (nn:=121) hΓ Tryz.func36 (by kernel_rfl) rfl (show Tryz.f36.results.toList=[.tmp 2] from rfl) (fun _=>rfl) (fun x=>by simp[AV.erL,AV.er,j7]) ?_
 rintro ⟨l,hl,ho⟩
 simp only[aR,seval,k9]
 by_cases hlen:(l.length:Int) > 20
 ·have e0:txnE l=3:=by unfold txnE;rw[if_pos (by omega)]
  simp only[aR,seval,hlen,e0]
 have e0:txnE l=if kAE [] l≠0 then kAE [] l else if (putS l:Int) > 2000 then 3 else 0:=by unfold txnE;rw[if_neg (by omega)]
 have hsl:=putS_le l fun a ha=>(ho a ha).1
 simp only[aR,seval,hlen,k9]
 obtain ⟨St,hSt⟩:∃ St:{ i:Nat // i≤l.length∧kAE (l.take i) (l.drop i)=kAE [] l∧putS (l.take i)≤i * 1099511627776 }→AS,∀ i,St i=AS.of 121 [(0,.sl 0 6 (acts l)),(3,.v (.int .i64 (putS (l.take i.1)))),(4,.v (.int .i64 i.1))] [] []:=⟨_,fun _=>rfl⟩
 refine qE hΓ St (fun i=>l.length - i.1) ⟨0,by omega,by simp,by simp[putS]⟩ (by rw[hSt];refine kO [] [] ?_;simp only[aR,seval,List.take_zero,putS]<;>(and_intros<;>first|rfl|omega|trivial)) ?_
 rintro ⟨i,hi,hc,hpi⟩
 rw[hSt]
 simp only
 simp only[aR,seval,k9]
 (with_reducible first|refine kE (fun h=>?_) (fun h=>?_)|refine kF (fun h=>?_) (fun h=>?_))
 ·have hlt:i < l.length:=by omega
  have e1:=z6 l hlt
  have ha:=ho _ (List.getElem_mem hlt)
  have hps:=putS_snoc hlt
  rw[List.drop_eq_getElem_cons hlt,kAE,← List.take_succ_eq_append_getElem hlt]at hc
  have hcl:kDh (l.take i) l[i]=(l.take i).any fun b=>decide (b.k=4∧b.id=l[i].id):=rfl
  generalize l[i]=a at *
  obtain ⟨k,id,par,nm,dir,ops⟩:=a
  obtain ⟨oa,hn⟩:=ha
  simp only at oa hn hps
  have wr1:=wO (n:=(i:Int)+1)
  have bad:badA ⟨k,id,par,nm,dir,ops⟩=true→txnE l=1:=fun hb=>by
   have h1:=one_bad hb
   rw[if_pos (by rw[h1];decide),h1]at hc
   rw[e0,← hc];rfl
  simp only[aR,seval,h,e1,aA,k9]
  repeat (with_reducible refine And.intro ?_ ?_;focus first|omega|kernel_rfl)
  by_cases h1:k < 1
  ·have eb:=bad (by simp[badA,h1])
   simp only[aR,seval,h1,eb]
  by_cases h2:k > 4
  ·have eb:=bad (by simp[badA,h2])
   simp only[aR,seval,h1,h2,eb]
  simp only[aR,seval,h1,h2]
  refine kHT (by simp[kC]) (a:=⟨k,id,par,nm,dir,ops⟩) rfl oa ?_
  simp only[aR,seval,h1,h2]
  refine kGs (by simp[kC]) (a:=⟨k,id,par,nm,dir,ops⟩) rfl rfl oa (plainA_ok (a:=⟨k,id,par,nm,dir,ops⟩) oa) ?_
  obtain ⟨b,hb⟩:∃ b,decide ((⟨k,id,par,nm,dir,ops⟩:Ac)=zU ⟨k,id,par,nm,dir,ops⟩)=b:=⟨_,rfl⟩
  rw[hb]
  cases b
  ·have hb2:¬ (⟨k,id,par,nm,dir,ops⟩:Ac)=zU ⟨k,id,par,nm,dir,ops⟩:=of_decide_eq_false hb
   have eb:=bad (by simp[badA,hb2])
   simp only[aR,seval,h1,h2,eb]
  have hb2:(⟨k,id,par,nm,dir,ops⟩:Ac)=zU ⟨k,id,par,nm,dir,ops⟩:=of_decide_eq_true hb
  have br:=bad_rest (a:=⟨k,id,par,nm,dir,ops⟩) h1 h2 hb2
  have hpl:=plain_ops hb2
  simp only at br hpl
  clear hb hb2
  by_cases h3:id < 1
  ·have eb:=bad (by rw[br];simp[h3])
   simp only[aR,seval,h1,h2,h3,eb]
  by_cases h4:id > 1099511627776
  ·have eb:=bad (by rw[br];simp[h4])
   simp only[aR,seval,h1,h2,h3,h4,eb]
  by_cases h5:par < 0
  ·have eb:=bad (by rw[br];simp[h5])
   simp only[aR,seval,h1,h2,h3,h4,h5,eb]
  by_cases h6:par > 1099511627776
  ·have eb:=bad (by rw[br];simp[h6])
   simp only[aR,seval,h1,h2,h3,h4,h5,h6,eb]
  have good:¬ ((k=1∨k=3)∧qG nm=false)→badA ⟨k,id,par,nm,dir,ops⟩=false:=fun hh=>by
   rw[br,decide_eq_false_iff_not]
   rintro (h|h|h|h|h)
   ·exact h3 h
   ·exact h4 h
   ·exact h5 h
   ·exact h6 h
   ·exact hh h
  -- whatever is not an edit
  have other:k≠4→badA ⟨k,id,par,nm,dir,ops⟩=false→kAE (l.take (i+1)) (l.drop (i+1))=kAE [] l∧putS (l.take (i+1))=putS (l.take i):=fun hk hbd=>by
   have g1:=one_ok hbd
   rw[if_neg hk]at g1
   rw[if_neg (by rw[g1];simp),if_neg (fun hh=>hk hh.1)]at hc
   refine ⟨hc,?_⟩
   rw[hps,hpl hk];simp[putC]
  by_cases k1:k=1
  ·subst k1
   simp only[aR,seval,h3,h4,h5,h6]
   refine jG (by simp[kC]) hn ?_
   cases hnm:qG nm
   ·have eb:=bad (by rw[br];simp[hnm])
    simp only[aR,seval,eb]
   ·obtain ⟨g1,g2⟩:=other (by decide) (good (by simp[hnm]))
    simp only[aR,seval,wr1]
    refine kN ⟨i+1,by omega,g1,by omega⟩ (by simp only;omega) ?_
    rw[hSt];refine kO [] [] ?_
    simp only[aR,seval,g2]<;>(and_intros<;>first|rfl|omega|trivial)
  by_cases k3:k=3
  ·subst k3
   simp only[aR,seval,h3,h4,h5,h6]
   refine jG (by simp[kC]) hn ?_
   cases hnm:qG nm
   ·have eb:=bad (by rw[br];simp[hnm])
    simp only[aR,seval,eb]
   ·obtain ⟨g1,g2⟩:=other (by decide) (good (by simp[hnm]))
    simp only[aR,seval,wr1]
    refine kN ⟨i+1,by omega,g1,by omega⟩ (by simp only;omega) ?_
    rw[hSt];refine kO [] [] ?_
    simp only[aR,seval,g2]<;>(and_intros<;>first|rfl|omega|trivial)
  have gd:=good (fun hh=>by rcases hh.1 with h|h;exact k1 h;exact k3 h)
  by_cases k4:k=4
  case neg =>
   obtain ⟨g1,g2⟩:=other k4 gd
   simp only[aR,seval,h1,h2,h3,h4,h5,h6,k1,k3,k4,wr1]
   refine kN ⟨i+1,by omega,g1,by omega⟩ (by simp only;omega) ?_
   rw[hSt];refine kO [] [] ?_
   simp only[aR,seval,g2]<;>(and_intros<;>first|rfl|omega|trivial)
  subst k4
  have g1:=one_ok gd
  rw[if_pos rfl]at g1
  simp only at g1
  simp only[aR,seval,h3,h4,h5,h6]
  refine kFi (by simp[kC]) rfl oa ?_
  by_cases hck:qV ops=0
  case neg =>
   rw[if_pos (by rw[g1];exact hck),g1]at hc
   rw[← hc,if_pos hck]at e0
   simp only[aR,seval,hck,e0]
  rw[if_neg (by rw[g1,hck];simp)]at hc
  have hso:=(zK hck).2.2.1
  have hol:=(zK hck).1
  simp only[aR,seval,hck]
  obtain ⟨Sb,hSb⟩:∃ Sb:{ j:Nat // j≤i∧((l.take i).any fun b=>decide (b.k=4∧b.id=id))=((l.take i).drop j).any fun b=>decide (b.k=4∧b.id=id) }→AS,∀ j,Sb j=AS.of 121 [(0,.sl 0 6 (acts l)),(3,.v (.int .i64 (putS (l.take i)))),(4,.v (.int .i64 i)),(5,.ptr 0 0),(7,.v (.int .i64 j.1))] [.cells [.v (.int .i64 4),.v (.int .i64 id),.v (.int .i64 par),.v (sv nm),.v (.bool dir),.sl 0 3 (qI ops)]] []:=⟨_,fun _=>rfl⟩
  refine qE hΓ Sb (fun j=>i - j.1) ⟨0,by omega,by simp⟩ (by rw[hSb];refine kO [0] [] ?_;simp only[aR,seval]<;>(and_intros<;>first|rfl|omega|trivial)) ?_
  rintro ⟨j,hj,hcj⟩
  rw[hSb]
  simp only
  simp only[aR,seval]
  (with_reducible first|refine kE (fun h7=>?_) (fun h7=>?_)|refine kF (fun h7=>?_) (fun h7=>?_))
  ·have hlt2:j < l.length:=by omega
   have hlt3:j < (l.take i).length:=by rw[List.length_take];omega
   have e3:=z6 l hlt2
   rw[List.drop_eq_getElem_cons hlt3,List.any_cons,List.getElem_take]at hcj
   generalize l[j]=b at *
   obtain ⟨bk,bid,bpar,bnm,bdir,bops⟩:=b
   simp only at hcj
   have wr2:=wO (n:=(j:Int)+1)
   by_cases k5:bk=4
   ·by_cases k6:bid=id
    ·have hT:kDh (l.take i) ⟨4,id,par,nm,dir,ops⟩=true:=by rw[hcl,hcj];simp[k5,k6]
     rw[if_pos ⟨rfl,hT⟩]at hc
     rw[← hc,if_pos (by omega)]at e0
     simp only[aR,seval,h7,e3,aA,k9,k5,k6,e0]
     repeat (with_reducible refine And.intro ?_ ?_;focus first|omega|kernel_rfl)
     (and_intros<;>first|rfl|omega|trivial)
    ·simp only[aR,seval,h7,e3,aA,k9,k5,k6,wr2]
     repeat (with_reducible refine And.intro ?_ ?_;focus first|omega|kernel_rfl)
     refine kN ⟨j+1,by omega,by rw[hcj];simp[k6]⟩ (by simp only;omega) ?_
     rw[hSb];refine kO [0] [] ?_
     simp only[aR,seval]<;>(and_intros<;>first|rfl|omega|trivial)
   ·simp only[aR,seval,h7,e3,aA,k9,k5,wr2]
    repeat (with_reducible refine And.intro ?_ ?_;focus first|omega|kernel_rfl)
    refine kN ⟨j+1,by omega,by rw[hcj];simp[k5]⟩ (by simp only;omega) ?_
    rw[hSb];refine kO [0] [] ?_
    simp only[aR,seval]<;>(and_intros<;>first|rfl|omega|trivial)
  ·rw[List.drop_of_length_le (by rw[List.length_take];omega)]at hcj
   have hF:kDh (l.take i) ⟨4,id,par,nm,dir,ops⟩=false:=by rw[hcl,hcj];rfl
   rw[if_neg (by rw[hF];simp)]at hc
   have hpt:=putC_tot ops
   have hot:=oa.2.1
   simp only[aR,seval,h7]
   obtain ⟨Sd,hSd⟩:∃ Sd:{ t:Nat // t≤ops.length }→AS,∀ t,Sd t=AS.of 121 [(0,.sl 0 6 (acts l)),(3,.v (.int .i64 ((putS (l.take i)+putC (ops.take t.1):Nat):Int))),(4,.v (.int .i64 i)),(5,.ptr 0 0),(8,.v (.int .i64 t.1))] [.cells [.v (.int .i64 4),.v (.int .i64 id),.v (.int .i64 par),.v (sv nm),.v (.bool dir),.sl 0 3 (qI ops)]] []:=⟨_,fun _=>rfl⟩
   refine qE hΓ Sd (fun t=>ops.length - t.1) ⟨0,by omega⟩ (by rw[hSd];refine kO [0] [] ?_;simp only[aR,seval,List.take_zero,putC]<;>(and_intros<;>first|rfl|omega|trivial)) ?_
   rintro ⟨t,ht⟩
   rw[hSd]
   simp only
   simp only[aR,seval,kM]
   (with_reducible first|refine kE (fun h8=>?_) (fun h8=>?_)|refine kF (fun h8=>?_) (fun h8=>?_))
   ·have hlt4:t < ops.length:=by omega
    have e4:=qN ops hlt4
    have hct:=okL.text oa (List.getElem_mem hlt4)
    have hcp:=cnt_part (hso _ (List.getElem_mem hlt4))
    have hpc:=putC_snoc hlt4
    have hpl1:=putC_le ops (t+1)
    have hpl2:=putC_le ops t
    rw[← hcp]at hpc
    generalize ops[t]=c at *
    obtain ⟨ck,cn,ct⟩:=c
    simp only at hct hpc
    simp only[aR,seval,h8,e4,cA,kM]
    repeat (with_reducible refine And.intro ?_ ?_;focus first|omega|kernel_rfl)
    refine kAn (by simp[kC]) hct ?_
    simp only[aR,seval,kD (n:=((putS (l.take i)+putC (ops.take t):Nat):Int)+cnt ct) (by omega) (by omega),wO (n:=(t:Int)+1)]
    refine kN ⟨t+1,by omega⟩ (by simp only;omega) ?_
    rw[hSd];refine kO [0] [] ?_
    simp only[aR,seval,hpc]<;>(and_intros<;>first|rfl|omega|trivial)
   ·have e5:ops.take t=ops:=List.take_of_length_le (by omega)
    simp only[aR,seval,h8,e5,wr1]
    refine kN ⟨i+1,by omega,hc,by omega⟩ (by simp only;omega) ?_
    rw[hSt];refine kO [] [] ?_
    simp only[aR,seval,hps]<;>(and_intros<;>first|rfl|omega|trivial)
 ·rw[List.drop_of_length_le (by omega),kAE]at hc
  rw[← hc,if_neg (by simp)]at e0
  simp only[aR,seval,h,show l.take i=l from List.take_of_length_le (by omega)]
  by_cases hp:(putS l:Int) > 2000
  ·rw[if_pos hp]at e0
   simp only[aR,seval,hp,e0]
  ·rw[if_neg hp]at e0
   simp only[aR,seval,hp,e0]
end Go.Proofs
