/-
 Parts held against each other;edits that are alike. Names: what may be one. Transactions: their acts,one by one. txn.names,Plain,same. Transactions: whether they may be. txn.one,puts,Check. An edit of a place;what does nothing;the law's own readiness. OpOf answers true. Sums,held;how much an edit takes. Laws of the normal form. What the normal form keeps. Edits done,undone,found. Plain. Edits done by the program.
-/
import Derived.Test.YtnpofobcbfbfnaaGreatDoorXHSh
import Derived.Test.YtnpofobcbfbfnaaGreatDoorRwF
set_option linter.unusedSimpArgs false
set_option linter.unusedVariables false
set_option linter.defProp false
set_option linter.unusedSectionVars false

-- HUo5
section
namespace Go.Proofs
open Go Go.Rw
set_option maxRecDepth 100000
section
variable {P:Program}
theorem kCy {t:TypeId} {cs:Array Value} {off:Nat} {v:Value} {td:TypeDesc} (ht:P.underlying t=some td) (ha:(match td with|.struct _|.array _ _=>true|_=>false)=false) (hv:cs[off]? = some v):calm P (part t cs off)=some v:=by
 simp only[part,isAgg,underlying,kZ,qM,Option.bind_some,ht,kCi]
 cases td<;>first|(cases ha;done)|(simp[hv,kZ])
theorem calm_eqI {d:Nat} {t:TypeId} {k k':IntKind} {a b:Int} (h:P.underlying t=some (.int k')):calm P (Op.equalIn (d+1) t (.int k a) (.int k b))=some (a == b):=by
 simp[Op.equalIn,kZ,underlying,h]
theorem calm_eqS {d:Nat} {t:TypeId} {a b:List UInt8} (h:P.underlying t=some .string):calm P (Op.equalIn (d+1) t (.string ⟨a.toArray⟩) (.string ⟨b.toArray⟩))=some (a == b):=by
 simp[Op.equalIn,kZ,underlying,h]
 show (a.toArray == b.toArray)=(a == b)
 simp
theorem calm_eq3 {d:Nat} {t ti ts:TypeId} {k:IntKind} {f1 f2 f3:Field} {a b a' b':Int} {s s':List UInt8} (ht:P.underlying t=some (.struct #[f1,f2,f3])) (hp:P.stoodInHeld t=false) (hi:P.underlying ti=some (.int k)) (hs:P.underlying ts=some .string)
    (h1 : f1.type = ti ∧ f1.offset = 0 ∧ f1.name ≠ "_") (h2 : f2.type = ti ∧ f2.offset = 1 ∧ f2.name ≠ "_") (h3 : f3.type = ts ∧ f3.offset = 2 ∧ f3.name ≠ "_") :
    calm P (Op.equalIn (d+2) t (.agg #[.int .i64 a,.int .i64 b,.string ⟨s.toArray⟩]) (.agg #[.int .i64 a',.int .i64 b',.string ⟨s'.toArray⟩]))=some (a == a' && b == b' && s == s'):=by
 obtain ⟨rfl,o1,n1⟩:=h1
 obtain ⟨e2,o2,n2⟩:=h2
 obtain ⟨rfl,o3,n3⟩:=h3
 have p0:∀ (a b:Int) (s:List UInt8),calm P (part f1.type #[.int .i64 a,.int .i64 b,.string ⟨s.toArray⟩] 0)=some (.int .i64 a):=fun a b s=>kCy hi rfl rfl
 have p1:∀ (a b:Int) (s:List UInt8),calm P (part f1.type #[.int .i64 a,.int .i64 b,.string ⟨s.toArray⟩] 1)=some (.int .i64 b):=fun a b s=>kCy hi rfl rfl
 have p2:∀ (a b:Int) (s:List UInt8),calm P (part f3.type #[.int .i64 a,.int .i64 b,.string ⟨s.toArray⟩] 2)=some (.string ⟨s.toArray⟩):=fun a b s=>kCy hs rfl rfl
 rw[Op.equalIn]
 simp only[kZ,underlying,qM,Option.bind_some,ht,kCi,hp,Bool.false_eq_true,if_false,← Array.forIn_toList,List.forIn_cons,List.forIn_nil,n1,n2,n3,o1,o2,o3,e2,p0,p1,p2,calm_eqI hi,calm_eqS hs,if_true,ne_eq,not_false_eq_true]
 by_cases c1:a=a'<;>by_cases c2:b=b'<;>by_cases c3:s=s'<;>simp[c1,c2,c3,kZ,p0,p1,p2,calm_eqI hi,calm_eqS hs]
theorem bin_neq3 {t ti ts:TypeId} {x y:Operand} {k:IntKind} {f1 f2 f3:Field} {a b a' b':Int} {s s':List UInt8} (hg:P.eqGuardType P.depth t=false) (ht:P.underlying t=some (.struct #[f1,f2,f3])) (hp:P.stoodInHeld t=false) (hi:P.underlying ti=some (.int k)) (hs:P.underlying ts=some .string)
    (h1 : f1.type = ti ∧ f1.offset = 0 ∧ f1.name ≠ "_") (h2 : f2.type = ti ∧ f2.offset = 1 ∧ f2.name ≠ "_") (h3 : f3.type = ts ∧ f3.offset = 2 ∧ f3.name ≠ "_") :
    binA P .neq t x y (.agg [.v (.int .i64 a),.v (.int .i64 b),.v (sv s)]) (.agg [.v (.int .i64 a'),.v (.int .i64 b'),.v (sv s')])=some (.v (.bool (decide (¬ (a=a'∧b=b'∧s=s'))))):=by
 have e:Op.maxDepth=9998+2:=rfl
 have hq:=calm_eq3 (P:=P) (d:=9998) (a:=a) (b:=b) (a':=a') (b':=b') (s:=s) (s':=s') ht hp hi hs h1 h2 h3
 unfold binA
 rw[show binV P .neq t x y (.agg [.v (.int .i64 a),.v (.int .i64 b),.v (sv s)]) (.agg [.v (.int .i64 a'),.v (.int .i64 b'),.v (sv s')])=none from rfl]
 simp only[kDY,kAZ,Option.map_some,Option.none_or,res,kZ,eqGuard,sv,qM,Option.bind_some,hg]
 simp[kZ,kDt,binOp,Op.equal,e,hq,hg]
 by_cases c1:a=a'<;>by_cases c2:b=b'<;>by_cases c3:s=s'<;>simp[c1,c2,c3]
def is3 (P:Program) (t ti ts:TypeId):Bool:=match P.underlying t with
 | some (.struct fs)=>match fs.toList with
   | [f1, f2, f3] => (f1.type == ti && (f1.offset == 0 && f1.name != "_")) && ((f2.type == ti && (f2.offset == 1 && f2.name != "_")) && (f3.type == ts && (f3.offset == 2 && f3.name != "_")))
   | _=>false
 | _=>false
theorem bin_neq4 {t ti ts:TypeId} {x y:Operand} {k:IntKind} {a b a' b':Int} {s s':List UInt8} (hg:P.eqGuardType P.depth t=false) (h3:is3 P t ti ts=true) (hp:P.stoodInHeld t=false) (hi:P.underlying ti=some (.int k)) (hs:P.underlying ts=some .string) :
    binA P .neq t x y (.agg [.v (.int .i64 a),.v (.int .i64 b),.v (sv s)]) (.agg [.v (.int .i64 a'),.v (.int .i64 b'),.v (sv s')])=some (.v (.bool (decide (¬ (a=a'∧b=b'∧s=s'))))):=by
 unfold is3 at h3
 split at h3
 ·rename_i fs hf
  split at h3
  ·rename_i f1 f2 f3 hl
   have:fs = #[f1,f2,f3]:=by rw[← hl]
   subst this
   simp only[Bool.and_eq_true,beq_iff_eq,bne_iff_ne]at h3
   exact bin_neq3 hg hf hp hi hs h3.1 h3.2.1 h3.2.2
  ·cases h3
 ·cases h3
end
theorem comp_neq {x y:Operand} {a b a' b':Int} {s s':List UInt8}:binA Tryz.prog .neq 103 x y (.agg [.v (.int .i64 a),.v (.int .i64 b),.v (sv s)]) (.agg [.v (.int .i64 a'),.v (.int .i64 b'),.v (sv s')])=some (.v (.bool (decide (¬ (a=a'∧b=b'∧s=s'))))) :=
 bin_neq4 (ti:=3) (ts:=9) (k:=.i64) (by kernel_rfl) (by kernel_rfl) (by kernel_rfl) (by kernel_rfl) (by kernel_rfl)
abbrev Cps:={ p:List Cp×List Cp // p.1.length≤4000000000000∧p.2.length≤4000000000000 }
abbrev kEN:Con where
 ι:=Cps
 args:=fun p=>[.sl 0 3 (qA p.1.1),.sl 0 3 (qA p.1.2)]
 post:=fun p r=>r = .v (.bool (decide (p.1.1=p.1.2)))
 plain:=true
theorem call_same {Γ:Env} {f:Nat} (hf:Γ.get f=some kEN) {σ:AS} {dr:Bool} {x y:List Cp} {s t:Nat} {xs ys:List AV} {d:Option Nat} {K:AS→Prop} (hx:xs=qA x) (hy:ys=qA y) (h1:x.length≤4000000000000) (h2:y.length≤4000000000000)
    (hk:cont σ d (.v (.bool (decide (x=y)))) K):kP Tryz.prog Γ dr σ f [.sl s 3 xs,.sl t 3 ys] d K:=by
 subst hx;subst hy
 exact kQ (C:=kEN) (i:=⟨(x,y),h1,h2⟩) hf rfl rfl rfl rfl (fun _ h=>h) rfl hk
theorem drop_eq2 {x y:List Cp} {i:Nat} (h1:i < x.length) (h2:i < y.length):(x.drop i=y.drop i)↔((x[i].k=y[i].k∧x[i].n=y[i].n∧x[i].t=y[i].t)∧x.drop (i+1)=y.drop (i+1)):=by
 rw[List.drop_eq_getElem_cons h1,List.drop_eq_getElem_cons h2,List.cons.injEq]
 constructor
 ·rintro ⟨h,h3⟩;exact ⟨by rw[h];exact ⟨rfl,rfl,rfl⟩,h3⟩
 ·rintro ⟨⟨a,b,c⟩,h3⟩
  refine ⟨?_,h3⟩
  generalize x[i]=u at *
  generalize y[i]=v at *
  cases u;cases v
  simp only at a b c
  subst a;subst b;subst c;rfl
theorem rsame_good:Rw.Good Tryz.prog 84 kEN:=by
 have hΓ:kM Tryz.prog []:=kL
 refine k6 (nn:=54) hΓ Tryz.func84 (by kernel_rfl) rfl (show Tryz.f84.results.toList=[.tmp 4] from rfl) (fun _=>rfl) (fun _=>rfl) ?_
 rintro ⟨⟨x,y⟩,hx,hy⟩
 simp only at hx hy
 simp only[aR,seval,kK]
 (with_reducible first|refine kD (fun h=>?_) (fun h=>?_)|refine kH (fun h=>?_) (fun h=>?_))
 ·simp only[aR,seval,h]
  have:¬ x=y:=fun e=>h (by rw[e])
  simp[this]
 ·simp only[aR,seval,h]
  have hxy:x.length=y.length:=by omega
  obtain ⟨St,hSt⟩:∃ St:{ i:Nat // i≤x.length∧(x=y↔x.drop i=y.drop i) }→AS,∀ i,St i=AS.of 54 [(0,.sl 0 3 (qA x)),(1,.sl 0 3 (qA y)),(5,.v (.int .i64 i.1))] [] []:=⟨_,fun _=>rfl⟩
  refine zA hΓ St (fun i=>x.length - i.1) ⟨0,by omega,Iff.rfl⟩ (by rw[hSt];refine kR [] [] ?_;simp only[aR,seval]<;>((repeat' apply And.intro)<;>first|rfl|omega|trivial)) ?_
  rintro ⟨i,hi,hb⟩
  rw[hSt]
  simp only
  simp only[aR,seval,kK]
  (with_reducible first|refine kD (fun h2=>?_) (fun h2=>?_)|refine kH (fun h2=>?_) (fun h2=>?_))
  ·have h3:i < x.length:=by omega
   have h4:i < y.length:=by omega
   have e1:=qH x h3
   have e2:=qH y h4
   rw[drop_eq2 h3 h4]at hb
   have again:∀ σ:AS,Weak σ (AS.of 54 [(0,.sl 0 3 (qA x)),(1,.sl 0 3 (qA y)),(5,.v (.int .i64 (i+1:Nat)))] [] [])→(x[i].k=y[i].k∧x[i].n=y[i].n∧x[i].t=y[i].t)→∀ (z:{ i:Nat // i≤x.length∧(x=y↔x.drop i=y.drop i) }),z.1=i→kEx St (fun i=>x.length - i.1) z σ:=fun σ hw h z hz =>
    kO ⟨i+1,by omega,by rw[hb];exact ⟨fun a=>a.2,fun a=>⟨h,a⟩⟩⟩ (by simp only;omega) (by rw[hSt];exact hw)
   have no:¬ (x[i].k=y[i].k∧x[i].n=y[i].n∧x[i].t=y[i].t)→decide (x=y)=false:=fun h=>by rw[decide_eq_false_iff_not,hb];exact fun a=>h a.1
   generalize x[i]=u at *
   generalize y[i]=v at *
   obtain ⟨k,n,t⟩:=u
   obtain ⟨k',n',t'⟩:=v
   simp only at no again e1 e2
   simp (disch:=omega) only[aR,seval,kC,h2,kK,e1,e2]
   (repeat (with_reducible refine And.intro ?_ ?_;focus (first|omega|exact kE|kernel_rfl)))
   (try ((with_reducible first|refine kD (fun q1=>?_) (fun q1=>?_)|refine kH (fun q1=>?_) (fun q1=>?_))<;>simp (disch:=omega) only[aR,seval,kC,q1,kK,e1,e2]<;>(with_reducible first|(refine And.intro ?_ ?_;focus (first|omega|exact kE|kernel_rfl));(repeat (with_reducible refine And.intro ?_ ?_;focus (first|omega|exact kE|kernel_rfl)));(try simp (disch:=omega) only[aR,seval,kC,q1,kK,e1,e2])|skip)<;>(try ((with_reducible first|refine kD (fun q2=>?_) (fun q2=>?_)|refine kH (fun q2=>?_) (fun q2=>?_))<;>simp (disch:=omega) only[aR,seval,kC,q2,kK,e1,e2]<;>(with_reducible first|(refine And.intro ?_ ?_;focus (first|omega|exact kE|kernel_rfl));(repeat (with_reducible refine And.intro ?_ ?_;focus (first|omega|exact kE|kernel_rfl)));(try simp (disch:=omega) only[aR,seval,kC,q2,kK,e1,e2])|skip)<;>(try ((with_reducible first|refine kD (fun q3=>?_) (fun q3=>?_)|refine kH (fun q3=>?_) (fun q3=>?_))<;>simp (disch:=omega) only[aR,seval,kC,q3,kK,e1,e2]<;>(with_reducible first|(refine And.intro ?_ ?_;focus (first|omega|exact kE|kernel_rfl));(repeat (with_reducible refine And.intro ?_ ?_;focus (first|omega|exact kE|kernel_rfl)));(try simp (disch:=omega) only[aR,seval,kC,q3,kK,e1,e2])|skip)<;>skip))))))
   all_goals first
    | (rw [no (by intro a;first|exact q1 a.1|exact q2 a.2.1|exact q3 a.2.2)];done)
    | (refine again _ ?_ ⟨Decidable.not_not.1 q1,Decidable.not_not.1 q2,Decidable.not_not.1 q3⟩ _ rfl
       refine kR [] [] ?_
       simp only[aR,seval]<;>((repeat' apply And.intro)<;>first|rfl|omega|trivial))
    | trace_state
  ·simp only[aR,seval,h2]
   rw[List.drop_of_length_le (by omega),List.drop_of_length_le (by omega)]at hb
   rw[decide_eq_true (hb.2 rfl)]
theorem sequal_good:Rw.Good Tryz.prog 125 kEN:=by
 have hΓ:kM Tryz.prog []:=kL
 refine k6 (nn:=26) hΓ Tryz.func125 (by kernel_rfl) rfl (show Tryz.f125.results.toList=[.tmp 4] from rfl) (fun _=>rfl) (fun _=>rfl) ?_
 rintro ⟨⟨x,y⟩,hx,hy⟩
 simp only at hx hy
 simp only[aR,seval,kK]
 (with_reducible first|refine kD (fun h=>?_) (fun h=>?_)|refine kH (fun h=>?_) (fun h=>?_))
 ·simp only[aR,seval,h]
  have:¬ x=y:=fun e=>h (by rw[e])
  simp[this]
 ·simp only[aR,seval,h]
  have hxy:x.length=y.length:=by omega
  obtain ⟨St,hSt⟩:∃ St:{ i:Nat // i≤x.length∧(x=y↔x.drop i=y.drop i) }→AS,∀ i,St i=AS.of 26 [(0,.sl 0 3 (qA x)),(1,.sl 0 3 (qA y)),(12,.v (.int .i64 x.length)),(13,.v (.int .i64 i.1))] [] []:=⟨_,fun _=>rfl⟩
  refine zA hΓ St (fun i=>x.length - i.1) ⟨0,by omega,Iff.rfl⟩ (by rw[hSt];refine kR [] [] ?_;simp only[aR,seval,kK]<;>((repeat' apply And.intro)<;>first|rfl|omega|trivial)) ?_
  rintro ⟨i,hi,hb⟩
  rw[hSt]
  simp only
  simp only[aR,seval,kK]
  (with_reducible first|refine kD (fun h2=>?_) (fun h2=>?_)|refine kH (fun h2=>?_) (fun h2=>?_))
  ·have h3:i < x.length:=by omega
   have h4:i < y.length:=by omega
   have e1:=qH x h3
   have e2:=qH y h4
   rw[drop_eq2 h3 h4]at hb
   have again:∀ σ:AS,Weak σ (AS.of 26 [(0,.sl 0 3 (qA x)),(1,.sl 0 3 (qA y)),(12,.v (.int .i64 x.length)),(13,.v (.int .i64 (i+1:Nat)))] [] [])→(x[i].k=y[i].k∧x[i].n=y[i].n∧x[i].t=y[i].t)→∀ (z:{ i:Nat // i≤x.length∧(x=y↔x.drop i=y.drop i) }),z.1=i→kEx St (fun i=>x.length - i.1) z σ:=fun σ hw h z hz =>
    kO ⟨i+1,by omega,by rw[hb];exact ⟨fun a=>a.2,fun a=>⟨h,a⟩⟩⟩ (by simp only;omega) (by rw[hSt];exact hw)
   have no:¬ (x[i].k=y[i].k∧x[i].n=y[i].n∧x[i].t=y[i].t)→decide (x=y)=false:=fun h=>by rw[decide_eq_false_iff_not,hb];exact fun a=>h a.1
   generalize x[i]=u at *
   generalize y[i]=v at *
   obtain ⟨k,n,t⟩:=u
   obtain ⟨k',n',t'⟩:=v
   simp only at no again e1 e2
   simp (disch:=omega) only[aR,seval,kC,h2,kK,e1,e2,comp_neq]
   (repeat (with_reducible refine And.intro ?_ ?_;focus (first|omega|exact kE|kernel_rfl)))
   (with_reducible first|refine kD (fun q1=>?_) (fun q1=>?_)|refine kH (fun q1=>?_) (fun q1=>?_))
   ·simp (disch:=omega) only[aR,seval,kC,q1]
    rw[no q1]
   ·simp (disch:=omega) only[aR,seval,kC,q1]
    refine again _ ?_ (Decidable.not_not.1 q1) _ rfl
    refine kR [] [] ?_
    simp only[aR,seval]<;>((repeat' apply And.intro)<;>first|rfl|omega|trivial)
  ·simp only[aR,seval,h2]
   rw[List.drop_of_length_le (by omega),List.drop_of_length_le (by omega)]at hb
   rw[decide_eq_true (hb.2 rfl)]
end Go.Proofs
end
-- HUn1
section
namespace Go.Proofs
open Go Go.Rw
set_option maxRecDepth 100000
def kAT (c:UInt8):Bool:=decide ((97≤c.toNat∧c.toNat≤122)∨(48≤c.toNat∧c.toNat≤57)∨c.toNat=46∨c.toNat=45∨c.toNat=95)
def qY (s:List UInt8):Bool:=s.all kAT && decide (1≤s.length∧s.length≤20∧s≠[46]∧s≠[46,46])
theorem bytesA_eq (l:List UInt8):kFR l=l.map fun b=>.v (.int .u8 b.toNat):=by simp[kFR,zL]
theorem kCo (l:List UInt8):(kFR l).length=l.length:=by simp[bytesA_eq]
theorem bytesA_getD (l:List UInt8) {i:Nat} (h:i < l.length):(kFR l).getD i .any = .v (.int .u8 l[i].toNat):=by simp[bytesA_eq,List.getD_eq_getElem?_getD,h]
abbrev kCc:Con where
 ι:=UInt8
 args:=fun b=>[.v (.int .u8 b.toNat)]
 post:=fun b r=>r = .v (.bool (kAT b))
 plain:=true
theorem letter_good:Rw.Good Tryz.prog 89 kCc:=by
 have hΓ:kM Tryz.prog []:=kL
 refine k6 (nn:=29) hΓ Tryz.func89 (by kernel_rfl) rfl (show Tryz.f89.results.toList=[.tmp 2] from rfl) (fun _=>rfl) (fun _=>rfl) ?_
 intro b
 simp only[aR,seval]
 (try ((with_reducible first|refine kD (fun q1=>?_) (fun q1=>?_)|refine kH (fun q1=>?_) (fun q1=>?_))<;>simp (disch:=omega) only[aR,seval,kC,q1]<;>(with_reducible first|(refine And.intro ?_ ?_;focus (first|omega|exact kE|kernel_rfl));(repeat (with_reducible refine And.intro ?_ ?_;focus (first|omega|exact kE|kernel_rfl)));(try simp (disch:=omega) only[aR,seval,kC,q1])|skip)<;>(try ((with_reducible first|refine kD (fun q2=>?_) (fun q2=>?_)|refine kH (fun q2=>?_) (fun q2=>?_))<;>simp (disch:=omega) only[aR,seval,kC,q2]<;>(with_reducible first|(refine And.intro ?_ ?_;focus (first|omega|exact kE|kernel_rfl));(repeat (with_reducible refine And.intro ?_ ?_;focus (first|omega|exact kE|kernel_rfl)));(try simp (disch:=omega) only[aR,seval,kC,q2])|skip)<;>(try ((with_reducible first|refine kD (fun q3=>?_) (fun q3=>?_)|refine kH (fun q3=>?_) (fun q3=>?_))<;>simp (disch:=omega) only[aR,seval,kC,q3]<;>(with_reducible first|(refine And.intro ?_ ?_;focus (first|omega|exact kE|kernel_rfl));(repeat (with_reducible refine And.intro ?_ ?_;focus (first|omega|exact kE|kernel_rfl)));(try simp (disch:=omega) only[aR,seval,kC,q3])|skip)<;>(try ((with_reducible first|refine kD (fun q4=>?_) (fun q4=>?_)|refine kH (fun q4=>?_) (fun q4=>?_))<;>simp (disch:=omega) only[aR,seval,kC,q4]<;>(with_reducible first|(refine And.intro ?_ ?_;focus (first|omega|exact kE|kernel_rfl));(repeat (with_reducible refine And.intro ?_ ?_;focus (first|omega|exact kE|kernel_rfl)));(try simp (disch:=omega) only[aR,seval,kC,q4])|skip)<;>(try ((with_reducible first|refine kD (fun q5=>?_) (fun q5=>?_)|refine kH (fun q5=>?_) (fun q5=>?_))<;>simp (disch:=omega) only[aR,seval,kC,q5]<;>(with_reducible first|(refine And.intro ?_ ?_;focus (first|omega|exact kE|kernel_rfl));(repeat (with_reducible refine And.intro ?_ ?_;focus (first|omega|exact kE|kernel_rfl)));(try simp (disch:=omega) only[aR,seval,kC,q5])|skip)<;>(try ((with_reducible first|refine kD (fun q6=>?_) (fun q6=>?_)|refine kH (fun q6=>?_) (fun q6=>?_))<;>simp (disch:=omega) only[aR,seval,kC,q6]<;>(with_reducible first|(refine And.intro ?_ ?_;focus (first|omega|exact kE|kernel_rfl));(repeat (with_reducible refine And.intro ?_ ?_;focus (first|omega|exact kE|kernel_rfl)));(try simp (disch:=omega) only[aR,seval,kC,q6])|skip)<;>(try ((with_reducible first|refine kD (fun q7=>?_) (fun q7=>?_)|refine kH (fun q7=>?_) (fun q7=>?_))<;>simp (disch:=omega) only[aR,seval,kC,q7]<;>(with_reducible first|(refine And.intro ?_ ?_;focus (first|omega|exact kE|kernel_rfl));(repeat (with_reducible refine And.intro ?_ ?_;focus (first|omega|exact kE|kernel_rfl)));(try simp (disch:=omega) only[aR,seval,kC,q7])|skip)<;>skip))))))))))))))
 all_goals (unfold kAT;rw[Bool.eq_iff_iff];simp only[decide_eq_true_eq,Bool.false_eq_true,true_iff,false_iff,iff_true,iff_false];omega)
theorem call_letter {Γ:Env} (hf:Γ.get 89=some kCc) {σ:AS} {dr:Bool} {b:UInt8} {n:Int} {d:Option Nat} {K:AS→Prop} (hn:n=b.toNat)
    (hk:cont σ d (.v (.bool (kAT b))) K):kP Tryz.prog Γ dr σ 89 [.v (.int .u8 n)] d K:=by
 subst hn
 exact kQ (C:=kCc) (i:=b) hf rfl rfl rfl rfl (fun _ h=>h) rfl hk
abbrev kCq:Con where
 ι:=Str
 args:=fun s=>[.v (sv s.1)]
 post:=fun s r=>r = .v (.bool (qY s.1))
 plain:=true
theorem kEC:Rw.Good Tryz.prog 68 kCq:=by
 have hΓ:kM Tryz.prog [(89,kCc)]:=(kJ letter_good kL)
 refine k6 (nn:=32) hΓ Tryz.func68 (by kernel_rfl) rfl (show Tryz.f68.results.toList=[.tmp 2] from rfl) (fun _=>rfl) (fun _=>rfl) ?_
 rintro ⟨s,hs⟩
 simp only[aR,seval,kCo]
 (repeat (with_reducible refine And.intro ?_ ?_;focus (first|omega|exact kE|kernel_rfl)))
 obtain ⟨St,hSt⟩:∃ St:{ i:Nat // i≤s.length∧(s.take i).all kAT=true }→AS,∀ i,St i=AS.of 32 [(0,.v (sv s)),(6,.sl 0 1 (kFR s)),(7,.v (.int .i64 s.length)),(8,.v (.int .i64 i.1))] [] []:=⟨_,fun _=>rfl⟩
 refine zA hΓ St (fun i=>s.length - i.1) ⟨0,by omega,by simp⟩ (by rw[hSt];refine kR [] [] ?_;simp only[aR,seval]<;>((repeat' apply And.intro)<;>first|rfl|omega|trivial)) ?_
 rintro ⟨i,hi,ha⟩
 rw[hSt]
 simp only
 simp only[aR,seval,kCo]
 (with_reducible first|refine kD (fun h=>?_) (fun h=>?_)|refine kH (fun h=>?_) (fun h=>?_))
 ·have hlt:i < s.length:=by omega
  have e1:=bytesA_getD s hlt
  have e2:(s.take (i+1)).all kAT=kAT s[i]:=by rw[List.take_succ_eq_append_getElem hlt,List.all_append,ha];simp
  have e3:kAT s[i]=false→qY s=false:=fun hc=>by
   have:s.all kAT=false:=List.all_eq_false.2 ⟨s[i],List.getElem_mem hlt,by simp[hc]⟩
   rw[qY,this];rfl
  generalize s[i]=c at *
  simp only[aR,seval,h,e1,kCo]
  (repeat (with_reducible refine And.intro ?_ ?_;focus (first|omega|exact kE|kernel_rfl)))
  refine call_letter (by simp[kG]) rfl ?_
  cases hc:kAT c
  ·simp only[aR,seval,hc]
   rw[e3 hc]
  ·rw[hc]at e2
   simp only[aR,seval,hc,kC (n:=(i:Int)+1) (by omega) (by omega)]
   refine kO ⟨i+1,by omega,e2⟩ (by simp only;omega) ?_
   rw[hSt];refine kR [] [] ?_
   simp only[aR,seval]<;>((repeat' apply And.intro)<;>first|rfl|omega|trivial)
 ·rw[List.take_of_length_le (by omega)]at ha
  have e0:qY s=decide (1≤s.length∧s.length≤20∧s≠[46]∧s≠[46,46]):=by rw[qY,ha];rfl
  simp only[aR,seval,h,e0]
  (try ((with_reducible first|refine kD (fun q1=>?_) (fun q1=>?_)|refine kH (fun q1=>?_) (fun q1=>?_))<;>simp (disch:=omega) only[aR,seval,kC,q1]<;>(with_reducible first|(refine And.intro ?_ ?_;focus (first|omega|exact kE|kernel_rfl));(repeat (with_reducible refine And.intro ?_ ?_;focus (first|omega|exact kE|kernel_rfl)));(try simp (disch:=omega) only[aR,seval,kC,q1])|skip)<;>(try ((with_reducible first|refine kD (fun q2=>?_) (fun q2=>?_)|refine kH (fun q2=>?_) (fun q2=>?_))<;>simp (disch:=omega) only[aR,seval,kC,q2]<;>(with_reducible first|(refine And.intro ?_ ?_;focus (first|omega|exact kE|kernel_rfl));(repeat (with_reducible refine And.intro ?_ ?_;focus (first|omega|exact kE|kernel_rfl)));(try simp (disch:=omega) only[aR,seval,kC,q2])|skip)<;>(try ((with_reducible first|refine kD (fun q3=>?_) (fun q3=>?_)|refine kH (fun q3=>?_) (fun q3=>?_))<;>simp (disch:=omega) only[aR,seval,kC,q3]<;>(with_reducible first|(refine And.intro ?_ ?_;focus (first|omega|exact kE|kernel_rfl));(repeat (with_reducible refine And.intro ?_ ?_;focus (first|omega|exact kE|kernel_rfl)));(try simp (disch:=omega) only[aR,seval,kC,q3])|skip)<;>(try ((with_reducible first|refine kD (fun q4=>?_) (fun q4=>?_)|refine kH (fun q4=>?_) (fun q4=>?_))<;>simp (disch:=omega) only[aR,seval,kC,q4]<;>(with_reducible first|(refine And.intro ?_ ?_;focus (first|omega|exact kE|kernel_rfl));(repeat (with_reducible refine And.intro ?_ ?_;focus (first|omega|exact kE|kernel_rfl)));(try simp (disch:=omega) only[aR,seval,kC,q4])|skip)<;>skip))))))))
  all_goals (rw[e0,Bool.eq_iff_iff];simp only[decide_eq_true_eq,Bool.false_eq_true,false_iff,ne_eq])
  all_goals first
   | exact ⟨fun h5=>⟨by omega,by omega,by assumption,h5⟩,fun h5=>h5.2.2.2⟩
   | (rintro ⟨h5,h6,h7,h8⟩;first|omega|contradiction)
theorem kEe {Γ:Env} {f:Nat} (hf:Γ.get f=some kCq) {σ:AS} {dr:Bool} {s:List UInt8} {d:Option Nat} {K:AS→Prop} (hs:s.length≤1099511627776)
    (hk:cont σ d (.v (.bool (qY s))) K):kP Tryz.prog Γ dr σ f [.v (sv s)] d K :=
 kQ (C:=kCq) (i:=⟨s,hs⟩) hf rfl rfl rfl rfl (fun _ h=>h) rfl hk
end Go.Proofs
end
-- HUn2
section
namespace Go.Proofs
open Go Go.Rw
set_option maxRecDepth 100000
def kFU (a:Ac):Bool:=decide (a.k=1∨a.k=3)
def kAM (a:Ac):Ac :=
 if a.k=1 then ⟨1,a.id,a.par,a.nm,a.dir,[]⟩ else if a.k=2 then ⟨2,a.id,0,[],false,[]⟩ else if a.k=3 then ⟨3,a.id,a.par,a.nm,false,[]⟩
 else if a.k=4 then ⟨4,a.id,0,[],false,a.ops⟩ else ⟨a.k,0,0,[],false,[]⟩
theorem plainA_ok {a:Ac} (h:okL a.ops):okL (kAM a).ops:=by
 have h0:okL ([]:List Cp):=⟨by decide,by decide,fun c hc=>by cases hc⟩
 unfold kAM
 repeat' split
 all_goals first|exact h0|exact h
abbrev AcS:={ a:Ac // okL a.ops }
abbrev kDg:Con where
 ι:=Ac
 args:=fun a=>[aA a]
 post:=fun a r=>r = .v (.bool (kFU a))
 plain:=true
theorem names_good:Rw.Good Tryz.prog 101 kDg:=by
 have hΓ:kM Tryz.prog []:=kL
 refine k6 (nn:=11) hΓ Tryz.func101 (by kernel_rfl) rfl (show Tryz.f101.results.toList=[.tmp 2] from rfl) (fun _=>rfl) (fun x=>by simp[AV.erL,aA_er]) ?_
 intro a
 obtain ⟨k,id,par,nm,dir,ops⟩:=a
 simp only[aR,seval,aA]
 by_cases h1:k=1
 ·subst h1
  simp only[aR,seval,kFU]
 ·simp only[aR,seval,h1]
  simp[kFU,h1]
abbrev kDp:Con where
 ι:=AcS
 args:=fun a=>[aA a.1]
 post:=fun a r=>r=aA (kAM a.1)
theorem plain_good:Rw.Good Tryz.prog 100 kDp:=by
 have hΓ:kM Tryz.prog [(80,kCU)]:=(kJ kFT kL)
 refine kDy Tryz.func100 (by kernel_rfl) rfl (show Tryz.f100.results.toList=[.cell 2 55] from rfl) (nn:=49) (fun _=>rfl) (fun x=>by simp[AV.erL,aA_er]) ?_
 rintro ⟨a,oa⟩
 refine kFb hΓ (Ws:=[(4,[2],[]),(8,[2],[]),(10,[2],[])]) _ ?_
 obtain ⟨k,id,par,nm,dir,ops⟩:=a
 simp only at oa
 by_cases h1:k=1
 ·simp only[aR,seval,zF,aA,h1]
  (repeat (with_reducible refine And.intro ?_ ?_;focus (first|omega|exact kE|kernel_rfl)))
  simp[kAM,h1,aA,kBG]
 by_cases h2:k=2
 ·simp only[aR,seval,zF,aA,h1,h2]
  simp[kAM,h2,aA,kBG]
 by_cases h3:k=3
 ·simp only[aR,seval,zF,aA,h1,h2,h3]
  (repeat (with_reducible refine And.intro ?_ ?_;focus (first|omega|exact kE|kernel_rfl)))
  simp[kAM,h3,aA,kBG]
 by_cases h4:k=4
 ·simp only[aR,seval,zF,aA,h1,h2,h3,h4]
  (repeat (with_reducible refine And.intro ?_ ?_;focus (first|omega|exact kE|kernel_rfl)))
  refine kFD (by simp[kG]) rfl oa ?_
  simp only[aR,seval,zF,aA]
  simp[kAM]
 ·simp only[aR,seval,zF,aA,h1,h2,h3,h4]
  simp[kAM,h1,h2,h3,h4,aA,kBG]
theorem call_plain {Γ:Env} {f:Nat} (hf:Γ.get f=some kDp) {σ:AS} {dr:Bool} {a:Ac} {y:AV} {d:Option Nat} {K:AS→Prop} (hy:y=aA a) (oa:okL a.ops)
    (hk:cont σ d (aA (kAM a)) K):kP Tryz.prog Γ dr σ f [y] d K:=by
 subst hy
 exact jN (C:=kDp) (i:=⟨a,oa⟩) (r:=aA (kAM a)) hf rfl rfl (by simp[AV.erL,aA_er]) rfl (fun _ h=>h) (by rw[aA_er];exact hk)
theorem call_names {Γ:Env} (hf:Γ.get 101=some kDg) {σ:AS} {dr:Bool} {a:Ac} {y:AV} {d:Option Nat} {K:AS→Prop} (hy:y=aA a)
    (hk:cont σ d (.v (.bool (kFU a))) K):kP Tryz.prog Γ dr σ 101 [y] d K:=by
 subst hy
 exact kQ (C:=kDg) (i:=a) hf rfl rfl rfl (by simp[AV.erL,aA_er]) (fun _ h=>h) rfl hk
abbrev kDf:Con where
 ι:=AcS×AcS
 args:=fun p=>[aA p.1.1,aA p.2.1]
 post:=fun p r=>r = .v (.bool (decide (p.1.1=p.2.1)))
 plain:=true
theorem same1_good:Rw.Good Tryz.prog 99 kDf:=by
 have hΓ:kM Tryz.prog [(125,kEN)]:=(kJ sequal_good kL)
 refine k6 (nn:=47) hΓ Tryz.func99 (by kernel_rfl) rfl (show Tryz.f99.results.toList=[.tmp 4] from rfl) (fun _=>rfl) (fun x=>by simp[AV.erL,aA_er]) ?_
 rintro ⟨⟨x,hx⟩,⟨y,hy⟩⟩
 have dk:decide (x=y)=decide (x.k=y.k∧x.id=y.id∧x.par=y.par∧x.nm=y.nm∧x.dir=y.dir∧x.ops=y.ops):=by
  cases x;cases y
  simp only[Ac.mk.injEq]
 simp only[dk]
 obtain ⟨k,id,par,nm,dir,ops⟩:=x
 obtain ⟨k',id',par',nm',dir',ops'⟩:=y
 simp only[aR,seval,aA]
 by_cases h1:k=k'
 case neg =>
  simp only[aR,seval,h1]
  simp[h1]
 by_cases h2:id=id'
 case neg =>
  simp only[aR,seval,h2,h1]
  simp[h2]
 by_cases h3:par=par'
 case neg =>
  simp only[aR,seval,h3,h1,h2]
  simp[h3]
 by_cases h4:nm=nm'
 case neg =>
  simp only[aR,seval,h4,h1,h2,h3]
  simp[h4]
 by_cases h5:dir=dir'
 case neg =>
  have nn:(dir == dir')=false:=by simp[h5]
  simp only[aR,seval,nn,h1,h2,h3,h4]
  simp[h5]
 have b5:(dir == dir')=true:=by simp[h5]
 simp only[aR,seval,h1,h2,h3,h4,b5]
 refine call_same (by simp[kG]) rfl rfl (by have:=hx.1;simp only at this;omega) (by have:=hy.1;simp only at this;omega) ?_
 simp only[aR,seval,h1,h2,h3,h4,b5]
 simp[h1,h2,h3,h4,h5]
theorem call_same1 {Γ:Env} {f:Nat} (hf:Γ.get f=some kDf) {σ:AS} {dr:Bool} {a b:Ac} {x y:AV} {d:Option Nat} {K:AS→Prop} (hx:x=aA a) (hy:y=aA b) (oa:okL a.ops) (ob:okL b.ops)
    (hk:cont σ d (.v (.bool (decide (a=b)))) K):kP Tryz.prog Γ dr σ f [x,y] d K:=by
 subst hx hy
 exact kQ (C:=kDf) (i:=(⟨a,oa⟩,⟨b,ob⟩)) hf rfl rfl rfl (by simp[AV.erL,aA_er]) (fun _ h=>h) rfl hk
end Go.Proofs
end
-- HUn3
section
namespace Go.Proofs
open Go Go.Rw
set_option maxRecDepth 100000
def badA (a:Ac):Bool:=decide (a.k < 1∨a.k > 4∨¬ a=kAM a∨a.id < 1∨a.id > 1099511627776∨a.par < 0∨a.par > 1099511627776∨((a.k=1∨a.k=3)∧qY a.nm=false))
def oneI (a:Ac):Int:=if badA a then 1 else if a.k=4 then qV a.ops else 0
abbrev AcN:={ a:Ac // okL a.ops∧a.nm.length≤1099511627776 }
abbrev oneCon:Con where
 ι:=AcN
 args:=fun a=>[aA a.1]
 post:=fun a r=>r = .v (.int .i64 (oneI a.1))
 plain:=true
theorem one_good:Rw.Good Tryz.prog 76 oneCon:=by
 have hΓ:kM Tryz.prog [(100,kDp),(99,kDf),(101,kDg),(68,kCq),(102,kB9)]:=(kJ plain_good (kJ same1_good (kJ names_good (kJ kEC (kJ kFS kL)))))
 refine k6 (nn:=58) hΓ Tryz.func76 (by kernel_rfl) rfl (show Tryz.f76.results.toList=[.tmp 2] from rfl) (fun _=>rfl) (fun x=>by simp[AV.erL,aA_er]) ?_
 rintro ⟨a,oa,hn⟩
 obtain ⟨k,id,par,nm,dir,ops⟩:=a
 simp only at oa hn
 simp only[aR,seval,aA]
 (repeat (with_reducible refine And.intro ?_ ?_;focus (first|omega|exact kE|kernel_rfl)))
 by_cases h1:k < 1
 ·simp only[aR,seval,h1]
  simp[oneI,badA,h1]
 by_cases h2:k > 4
 ·simp only[aR,seval,h1,h2]
  simp[oneI,badA,h2]
 simp only[aR,seval,h1,h2]
 refine call_plain (by simp[kG]) (a:=⟨k,id,par,nm,dir,ops⟩) rfl oa ?_
 simp only[aR,seval,h1,h2]
 refine call_same1 (by simp[kG]) (a:=⟨k,id,par,nm,dir,ops⟩) rfl rfl oa (plainA_ok (a:=⟨k,id,par,nm,dir,ops⟩) oa) ?_
 obtain ⟨b,hb⟩:∃ b,decide ((⟨k,id,par,nm,dir,ops⟩:Ac)=kAM ⟨k,id,par,nm,dir,ops⟩)=b:=⟨_,rfl⟩
 rw[hb]
 cases b
 ·have hb2:¬ (⟨k,id,par,nm,dir,ops⟩:Ac)=kAM ⟨k,id,par,nm,dir,ops⟩:=of_decide_eq_false hb
  simp only[aR,seval,h1,h2]
  simp[oneI,badA,hb2]
 have hb2:(⟨k,id,par,nm,dir,ops⟩:Ac)=kAM ⟨k,id,par,nm,dir,ops⟩:=of_decide_eq_true hb
 have e0:badA ⟨k,id,par,nm,dir,ops⟩=decide (id < 1∨id > 1099511627776∨par < 0∨par > 1099511627776∨((k=1∨k=3)∧qY nm=false)):=by
  unfold badA
  rw[Bool.eq_iff_iff,decide_eq_true_eq,decide_eq_true_eq]
  constructor
  ·rintro (h|h|h|h)
   ·exact absurd h h1
   ·exact absurd h h2
   ·exact absurd hb2 h
   ·exact h
  ·exact fun h=>.inr (.inr (.inr h))
 clear hb hb2
 by_cases h3:id < 1
 ·simp only[aR,seval,h1,h2,h3]
  simp[oneI,e0,h3]
 by_cases h4:id > 1099511627776
 ·simp only[aR,seval,h1,h2,h3,h4]
  simp[oneI,e0,h4]
 by_cases h5:par < 0
 ·simp only[aR,seval,h1,h2,h3,h4,h5]
  simp[oneI,e0,h5]
 by_cases h6:par > 1099511627776
 ·simp only[aR,seval,h1,h2,h3,h4,h5,h6]
  simp[oneI,e0,h6]
 simp only[aR,seval,h1,h2,h3,h4,h5,h6]
 refine call_names (by simp[kG]) (a:=⟨k,id,par,nm,dir,ops⟩) rfl ?_
 obtain ⟨b,hb⟩:∃ b,kFU ⟨k,id,par,nm,dir,ops⟩=b:=⟨_,rfl⟩
 have hb2:(k=1∨k=3)↔b=true:=by rw[← hb,kFU];simp
 rw[hb]
 have last:∀ e1:badA ⟨k,id,par,nm,dir,ops⟩=false,oneI ⟨k,id,par,nm,dir,ops⟩=if k=4 then qV ops else 0:=fun e1=>by
  rw[oneI,e1];rfl
 cases b
 ·have e1:badA ⟨k,id,par,nm,dir,ops⟩=false:=by
    rw[e0,decide_eq_false_iff_not]
    rintro (h|h|h|h|h)
    ·exact h3 h
    ·exact h4 h
    ·exact h5 h
    ·exact h6 h
    ·exact absurd (hb2.1 h.1) (by simp)
  have e2:=last e1
  by_cases h7:k=4
  ·subst h7
   rw[if_pos rfl]at e2
   simp only[aR,seval,e2]
   refine kFL (by simp[kG]) rfl oa ?_
   simp only[aR,seval,e2]
  ·rw[if_neg h7]at e2
   simp only[aR,seval,h7,e2]
 ·simp only[aR,seval]
  refine kEe (by simp[kG]) hn ?_
  cases hnm:qY nm
  ·have e1:badA ⟨k,id,par,nm,dir,ops⟩=true:=by
     rw[e0,decide_eq_true_eq]
     exact .inr (.inr (.inr (.inr ⟨hb2.2 rfl,hnm⟩)))
   simp only[aR,seval]
   simp[oneI,e1]
  ·have e1:badA ⟨k,id,par,nm,dir,ops⟩=false:=by
     rw[e0,decide_eq_false_iff_not]
     rintro (h|h|h|h|h)
     ·exact h3 h
     ·exact h4 h
     ·exact h5 h
     ·exact h6 h
     ·rw[hnm]at h;exact absurd h.2 (by simp)
   have e2:=last e1
   have h7:¬ k=4:=fun h=>by have:=hb2.2 rfl;omega
   rw[if_neg h7]at e2
   simp only[aR,seval,h7,e2]
def putC:List Cp→Nat
 | []=>0
 | c::r=>(if c.k=2 then lc c.t else 0)+putC r
def putS:List Ac→Nat
 | []=>0
 | a::r=>putC a.ops+putS r
theorem putC_tot:∀ l:List Cp,putC l≤tot l
 | []=>Nat.le_refl _
 | c::r=>by
   have:=putC_tot r
   have:=lc_len c.t
   rw[putC,tot]
   split<;>omega
theorem putC_take {l:List Cp} {i:Nat} (h:i < l.length):putC (l.drop i)=(if l[i].k=2 then lc l[i].t else 0)+putC (l.drop (i+1)):=by
 rw[List.drop_eq_getElem_cons h,putC]
theorem putS_take {l:List Ac} {i:Nat} (h:i < l.length):putS (l.drop i)=putC l[i].ops+putS (l.drop (i+1)):=by
 rw[List.drop_eq_getElem_cons h,putS]
theorem putS_le:∀ (l:List Ac),(∀ a∈l,okL a.ops)→putS l≤l.length * 1099511627776
 | [],_=>by simp [putS]
 | a::l,h=>by
   have h1:=putS_le l fun b hb=>h b (List.mem_cons_of_mem _ hb)
   have h2:=(h a (List.mem_cons_self ..)).2.1
   have h3:=putC_tot a.ops
   rw[putS,List.length_cons,Nat.add_mul];omega
abbrev okA (a:Ac):Prop:=okL a.ops∧a.nm.length≤1099511627776
abbrev ActsN:={ l:List Ac // l.length≤1000000∧∀ a∈l,okL a.ops∧a.nm.length≤1099511627776 }
abbrev putsCon:Con where
 ι:=ActsN
 args:=fun l=>[.sl 0 6 (acts l.1)]
 post:=fun l r=>r = .v (.int .i64 (putS l.1))
 plain:=true
theorem puts_good:Rw.Good Tryz.prog 79 putsCon:=by
 have hΓ:kM Tryz.prog [(104,rcCon)]:=(kJ rc_good kL)
 refine k6 (nn:=31) hΓ Tryz.func79 (by kernel_rfl) rfl (show Tryz.f79.results.toList=[.tmp 2] from rfl) (fun _=>rfl) (fun x=>by simp[AV.erL,AV.er,j7]) ?_
 rintro ⟨l,hl,ho⟩
 have hb:=putS_le l fun a ha=>(ho a ha).1
 simp only[aR,seval,qF]
 obtain ⟨St,hSt⟩:∃ St:{ p:Nat×Nat // p.2≤l.length∧p.1+putS (l.drop p.2)=putS l }→AS,∀ p,St p=AS.of 31 [(2,.v (.int .i64 p.1.1)),(7,.sl 0 6 (acts l)),(8,.v (.int .i64 l.length)),(9,.v (.int .i64 p.1.2))] [] []:=⟨_,fun _=>rfl⟩
 refine zA hΓ St (fun p=>l.length - p.1.2) ⟨(0,0),by simp,by simp⟩ (by rw[hSt];refine kR [] [] ?_;simp only[aR,seval]<;>((repeat' apply And.intro)<;>first|rfl|omega|trivial)) ?_
 rintro ⟨⟨n,i⟩,hi,hs⟩
 simp only at hi hs
 rw[hSt]
 simp only
 simp only[aR,seval,qF]
 (with_reducible first|refine kD (fun h=>?_) (fun h=>?_)|refine kH (fun h=>?_) (fun h=>?_))
 ·have hlt:i < l.length:=by omega
  have e1:=kAy l hlt
  have ha:=ho _ (List.getElem_mem hlt)
  rw[putS_take hlt]at hs
  generalize l[i]=a at *
  obtain ⟨k,id,par,nm,dir,ops⟩:=a
  obtain ⟨oa,_⟩:=ha
  simp only at hs oa
  have hol:=oa.1
  simp only[aR,seval,h,e1,aA,qF,kK]
  (repeat (with_reducible refine And.intro ?_ ?_;focus (first|omega|exact kE|kernel_rfl)))
  obtain ⟨Sb,hSb⟩:∃ Sb:{ p:Nat×Nat // p.2≤ops.length∧p.1+putC (ops.drop p.2)=n+putC ops }→AS,∀ p,Sb p=AS.of 31 [(2,.v (.int .i64 p.1.1)),(7,.sl 0 6 (acts l)),(8,.v (.int .i64 l.length)),(9,.v (.int .i64 i)),(14,.sl 0 3 (qA ops)),(15,.v (.int .i64 ops.length)),(16,.v (.int .i64 p.1.2))] [] []:=⟨_,fun _=>rfl⟩
  refine zA hΓ Sb (fun p=>ops.length - p.1.2) ⟨(n,0),by simp,by simp⟩ (by rw[hSb];refine kR [] [] ?_;simp only[aR,seval]<;>((repeat' apply And.intro)<;>first|rfl|omega|trivial)) ?_
  rintro ⟨⟨m,j⟩,hj,hm⟩
  simp only at hj hm
  rw[hSb]
  simp only
  simp only[aR,seval,kK]
  (with_reducible first|refine kD (fun h2=>?_) (fun h2=>?_)|refine kH (fun h2=>?_) (fun h2=>?_))
  ·have hlt2:j < ops.length:=by omega
   have e3:=qH ops hlt2
   have hct:=okL.text oa (List.getElem_mem hlt2)
   rw[putC_take hlt2]at hm
   generalize ops[j]=c at *
   obtain ⟨ck,cn,ct⟩:=c
   simp only at hm hct
   by_cases hk:ck=2
   ·rw[if_pos hk]at hm
    simp only[aR,seval,h2,e3,cA,kK,hk]
    (repeat (with_reducible refine And.intro ?_ ?_;focus (first|omega|exact kE|kernel_rfl)))
    refine call_rc (by simp[kG]) hct ?_
    simp only[aR,seval,kC (n:=(m:Int)+lc ct) (by omega) (by omega),kC (n:=(j:Int)+1) (by omega) (by omega)]
    refine kO ⟨(m+lc ct,j+1),by simp only;omega,by simp only;omega⟩ (by simp only;omega) ?_
    rw[hSb];refine kR [] [] ?_
    simp only[aR,seval]<;>((repeat' apply And.intro)<;>first|rfl|omega|trivial)
   ·rw[if_neg hk]at hm
    simp only[aR,seval,h2,e3,cA,kK,hk,kC (n:=(j:Int)+1) (by omega) (by omega)]
    (repeat (with_reducible refine And.intro ?_ ?_;focus (first|omega|exact kE|kernel_rfl)))
    refine kO ⟨(m,j+1),by simp only;omega,by simp only;omega⟩ (by simp only;omega) ?_
    rw[hSb];refine kR [] [] ?_
    simp only[aR,seval]<;>((repeat' apply And.intro)<;>first|rfl|omega|trivial)
  ·rw[List.drop_of_length_le (by omega),putC]at hm
   simp only[aR,seval,h2,kC (n:=(i:Int)+1) (by omega) (by omega)]
   refine kO ⟨(m,i+1),by simp only;omega,by simp only;omega⟩ (by simp only;omega) ?_
   rw[hSt];refine kR [] [] ?_
   simp only[aR,seval]<;>((repeat' apply And.intro)<;>first|rfl|omega|trivial)
 ·rw[List.drop_of_length_le (by omega),putS]at hs
  simp only[aR,seval,h]
  omega
theorem call_puts {Γ:Env} (hf:Γ.get 79=some putsCon) {σ:AS} {dr:Bool} {l:List Ac} {ys:List AV} {d:Option Nat} {K:AS→Prop} (hy:ys=acts l) (hl:l.length≤1000000) (ho:∀ a∈l,okL a.ops∧a.nm.length≤1099511627776)
    (hk:cont σ d (.v (.int .i64 (putS l))) K):kP Tryz.prog Γ dr σ 79 [.sl 0 6 ys] d K:=by
 subst hy
 exact kQ (C:=putsCon) (i:=⟨l,hl,ho⟩) hf rfl rfl rfl (by simp[AV.erL,AV.er,j7]) (fun _ h=>h) rfl hk
def kFJ (pre:List Ac) (a:Ac):Bool:=pre.any fun b=>decide (b.k=4∧b.id=a.id)
def kBI:List Ac→List Ac→Int
 | _,[]=>0
 | pre,a::r=>if oneI a≠0 then oneI a else if a.k=4∧kFJ pre a=true then 1 else kBI (pre++[a]) r
def txnE (l:List Ac):Int:=if l.length > 20 then 3 else if kBI [] l≠0 then kBI [] l else if (putS l:Int) > 2000 then 3 else 0
abbrev kCX:Con where
 ι:=ActsN
 args:=fun l=>[.sl 0 6 (acts l.1)]
 post:=fun l r=>r = .v (.int .i64 (txnE l.1))
 plain:=true
theorem tcheck_good:Rw.Good Tryz.prog 56 kCX:=by
 have hΓ:kM Tryz.prog [(76,oneCon),(79,putsCon)]:=(kJ one_good (kJ puts_good kL))
 refine k6 (nn:=34) hΓ Tryz.func56 (by kernel_rfl) rfl (show Tryz.f56.results.toList=[.tmp 2] from rfl) (fun _=>rfl) (fun x=>by simp[AV.erL,AV.er,j7]) ?_
 rintro ⟨l,hl,ho⟩
 simp only[aR,seval]
 refine vc_scope hΓ 1 ?_
 simp only[aR,seval,qF]
 by_cases hlen:(l.length:Int) > 20
 ·have e0:txnE l=3:=by unfold txnE;rw[if_pos (by omega)]
  simp only[aR,seval,hlen,e0]
 have e0:txnE l=if kBI [] l≠0 then kBI [] l else if (putS l:Int) > 2000 then 3 else 0:=by unfold txnE;rw[if_neg (by omega)]
 simp only[aR,seval,hlen,qF]
 obtain ⟨St,hSt⟩:∃ St:{ i:Nat // i≤l.length∧kBI (l.take i) (l.drop i)=kBI [] l }→AS,∀ i,St i=AS.of 34 [(0,.sl 0 6 (acts l)),(2,.v (.int .i64 0)),(8,.sl 0 6 (acts l)),(9,.v (.int .i64 l.length)),(10,.v (.int .i64 i.1))] [] []:=⟨_,fun _=>rfl⟩
 refine zA hΓ St (fun i=>l.length - i.1) ⟨0,by omega,by simp⟩ (by rw[hSt];refine kR [] [] ?_;simp only[aR,seval]<;>((repeat' apply And.intro)<;>first|rfl|omega|trivial)) ?_
 rintro ⟨i,hi,hc⟩
 rw[hSt]
 simp only
 simp only[aR,seval,qF]
 (with_reducible first|refine kD (fun h=>?_) (fun h=>?_)|refine kH (fun h=>?_) (fun h=>?_))
 ·have hlt:i < l.length:=by omega
  have e1:=kAy l hlt
  have ha:=ho _ (List.getElem_mem hlt)
  rw[List.drop_eq_getElem_cons hlt,kBI,← List.take_succ_eq_append_getElem hlt]at hc
  generalize l[i]=a at *
  obtain ⟨k,id,par,nm,dir,ops⟩:=a
  simp only[aR,seval,h,e1,aA,qF]
  (repeat (with_reducible refine And.intro ?_ ?_;focus (first|omega|exact kE|kernel_rfl)))
  refine kQ (C:=oneCon) (i:=⟨⟨k,id,par,nm,dir,ops⟩,ha⟩) (by simp[kG]) rfl rfl rfl (by simp[AV.erL,AV.er,aA,comps_er]) (fun _ h=>h) rfl ?_
  by_cases h1:oneI ⟨k,id,par,nm,dir,ops⟩=0
  case neg =>
   rw[if_pos h1]at hc
   rw[← hc,if_pos h1]at e0
   simp only[aR,seval,h1]
   refine ⟨_,rfl,?_⟩
   simp only[aR,seval,e0]
  rw[if_neg (by simpa using h1)]at hc
  by_cases h4:k=4
  ·subst h4
   have hpa:kDa 0 6 (acts l) 0 i = .sl 0 6 (acts (l.take i)):=by
    unfold kDa
    split
    ·rename_i h5
     rw[List.take_of_length_le (by have:=h5.2;rw[qF]at this;omega)]
    ·simp[acts,List.map_take]
   have htl:(l.take i).length=i:=by rw[List.length_take];omega
   have hcb:∀ x:Bool,kFJ (l.take i) ⟨4,id,par,nm,dir,ops⟩=x→(if x=true then 1 else kBI (l.take (i+1)) (l.drop (i+1)))=kBI [] l:=fun x hx=>by
    subst hx
    rw[← hc]
    by_cases h5:kFJ (l.take i) ⟨4,id,par,nm,dir,ops⟩=true
    ·rw[if_pos h5,if_pos ⟨rfl,h5⟩]
    ·rw[if_neg h5,if_neg (fun hh=>h5 hh.2)]
   have hcl:kFJ (l.take i) ⟨4,id,par,nm,dir,ops⟩=(l.take i).any fun b=>decide (b.k=4∧b.id=id):=rfl
   obtain ⟨pre,hpre⟩:∃ pre,l.take i=pre:=⟨_,rfl⟩
   rw[hpre]at hpa htl hcb hcl
   simp only[aR,seval,h1,hpa,qF,List.map_cons,List.map_nil]
   (repeat (with_reducible refine And.intro ?_ ?_;focus (first|omega|exact kE|kernel_rfl)))
   refine kCv (nn:=9) hΓ (by first|assumption|simp[kG,kN]) Tryz.func77 (by kernel_rfl) rfl (show Tryz.f77.results.toList=[.tmp 4] from rfl) rfl ?_
   simp only[aR,seval]
   refine kCv (nn:=19) hΓ (by first|assumption|simp[kG,kN]) Tryz.func103 (by kernel_rfl) rfl (show Tryz.f103.results.toList=[.tmp 4] from rfl) rfl ?_
   simp only[aR,seval,qF,htl]
   refine vc_loop_keep hΓ (fun j:{ j:Nat // j≤i∧(pre.any fun b=>decide (b.k=4∧b.id=id))=(pre.drop j).any fun b=>decide (b.k=4∧b.id=id) }=>[(0,.sl 0 6 (acts pre)),(1,.fn 78 [.ptr 0 0]),(7,.v (.int .i64 i)),(8,.v (.int .i64 j.1))]) (fun j=>i - j.1) ⟨0,Nat.zero_le _,by simp⟩ (by simp only[aR,seval]<;>((repeat' apply And.intro)<;>first|rfl|omega|trivial)) ?_
   rintro ⟨j,hj,hn⟩ q hq
   simp only
   simp only[aR,seval,List.map_cons,List.map_nil]
   (with_reducible first|refine kD (fun h2=>?_) (fun h2=>?_)|refine kH (fun h2=>?_) (fun h2=>?_))
   ·have hlt2:j < pre.length:=by omega
    have e3:=kAy pre hlt2
    rw[List.drop_eq_getElem_cons hlt2,List.any_cons]at hn
    generalize pre[j]=b at *
    obtain ⟨bk,bid,bpar,bnm,bdir,bops⟩:=b
    simp only at hn
    simp only[aR,seval,h2,e3,qF,htl,aA]
    (repeat (with_reducible refine And.intro ?_ ?_;focus (first|omega|exact kE|kernel_rfl)))
    refine kCv (nn:=14) hΓ (by first|assumption|simp[kG,kN]) Tryz.func78 (by kernel_rfl) rfl (show Tryz.f78.results.toList=[.tmp 3] from rfl) rfl ?_
    have hk0:(0=q)=False:=eq_false (by omega)
    simp only[aR,seval,aA,hk0]
    have go:(pre.any fun b=>decide (b.k=4∧b.id=id))=((pre.drop (j+1)).any fun b=>decide (b.k=4∧b.id=id))→∃ y:{ j:Nat // j≤i∧(pre.any fun b=>decide (b.k=4∧b.id=id))=(pre.drop j).any fun b=>decide (b.k=4∧b.id=id) },y.1=j+1∧i - y.1 < i - j:=fun hh=>⟨⟨j+1,by omega,hh⟩,rfl,by simp only;omega⟩
    by_cases h5:bk=4
    ·by_cases h6:bid=id
     ·have hT:kFJ pre ⟨4,id,par,nm,dir,ops⟩=true:=by rw[hcl,hn];simp[h5,h6]
      have h7:=hcb _ hT
      rw[if_pos rfl]at h7
      rw[← h7,if_pos (by omega)]at e0
      simp only[aR,seval,h5,h6,hk0,show ((j:Int) ≥ 0)=True from eq_true (by omega)]
      refine ⟨_,rfl,?_⟩
      simp only[aR,seval,e0]
     ·obtain ⟨y,hy,hy2⟩:=go (by rw[hn];simp[h6])
      simp only[aR,seval,h5,h6,hk0,kC (n:=(j:Int)+1) (by omega) (by omega)]
      refine keep_end y hy2 ?_ ?_ (keep_new ?_ fun _ _ h=>h) ⟨rfl,rfl,rfl⟩
      ·omega
      ·simp only[aR,seval,hy]<;>((repeat' apply And.intro)<;>first|rfl|omega|trivial)
      ·intro o x h
       simp only[upd]at h
       repeat' split at h
       all_goals first|omega|cases h
    ·obtain ⟨y,hy,hy2⟩:=go (by rw[hn];simp[h5])
     simp only[aR,seval,h5,hk0,kC (n:=(j:Int)+1) (by omega) (by omega)]
     refine keep_end y hy2 ?_ ?_ (keep_new ?_ fun _ _ h=>h) ⟨rfl,rfl,rfl⟩
     ·omega
     ·simp only[aR,seval,hy]<;>((repeat' apply And.intro)<;>first|rfl|omega|trivial)
     ·intro o x h
      simp only[upd]at h
      repeat' split at h
      all_goals first|omega|cases h
   ·have hF:kFJ pre ⟨4,id,par,nm,dir,ops⟩=false:=by rw[hcl,hn,List.drop_of_length_le (by omega)];rfl
    have h7:=hcb _ hF
    rw[if_neg (by simp)]at h7
    simp only[aR,seval,h2,kC (n:=(i:Int)+1) (by omega) (by omega)]
    refine kO ⟨i+1,by omega,h7⟩ (by simp only;omega) ?_
    rw[hSt];refine kR [] [] ?_
    simp only[aR,seval]<;>((repeat' apply And.intro)<;>first|rfl|omega|trivial)
  ·rw[if_neg (fun hh=>h4 hh.1)]at hc
   simp only[aR,seval,h1,h4,kC (n:=(i:Int)+1) (by omega) (by omega)]
   refine kO ⟨i+1,by omega,hc⟩ (by simp only;omega) ?_
   rw[hSt];refine kR [] [] ?_
   simp only[aR,seval]<;>((repeat' apply And.intro)<;>first|rfl|omega|trivial)
 ·rw[List.drop_of_length_le (by omega),kBI]at hc
  rw[← hc,if_neg (by simp)]at e0
  simp only[aR,seval,h]
  refine call_puts (by simp[kG]) rfl hl ho ?_
  by_cases hp:(putS l:Int) > 2000
  ·rw[if_pos hp]at e0
   simp only[aR,seval,hp,e0]
  ·rw[if_neg hp]at e0
   simp only[aR,seval,hp,e0]
end Go.Proofs
end
-- HUo6
section
namespace Go.Proofs
open Go Go.Rw
set_option maxRecDepth 100000
def ofBad (n a b:Int) (t:List UInt8):Prop:=a < 0∨b < a∨n < b∨pts t=none
instance (n a b:Int) (t:List UInt8):Decidable (ofBad n a b t):=by unfold ofBad;exact inferInstance
end Go.Proofs
end
-- HUo7
section
namespace Go.Proofs
open Go Go.Rw
set_option maxRecDepth 100000
end Go.Proofs
end
-- HUo8
section
namespace Go.Proofs
open Go Go.Rw
set_option maxRecDepth 100000
end Go.Proofs
end
-- HUo9
section
namespace Go.Proofs
open Go Go.Rw
set_option maxRecDepth 100000
def fol (q k:Int):Bool:=!(decide (q=k) || (decide (q=3) && decide (k=2)))
def neat (c:Cp):Bool:=if c.k=2 then decide (c.n=0) && decide (c.t≠[]) else (decide (c.k=1) || decide (c.k=3)) && decide (0 < c.n) && decide (c.n≤1099511627776) && decide (c.t=[])
def shape:Int→List Cp→Bool
 | _,[]=>true
 | q,c::r=>neat c && fol q c.k && shape c.k r
end Go.Proofs
end
-- HUo10
section
namespace Go.Proofs
open Go Go.Rw
set_option maxRecDepth 100000
def tn:List Cp→Int
 | []=>0
 | c::r=>max c.n 0+tn r
def sumN:Int→List Cp→Int
 | s,[]=>s
 | s,c::r=>sumN (addI s (max c.n 0)) r
theorem tn_pos:∀ l:List Cp,0≤tn l
 | []=>by simp [tn]
 | c::r=>by simp only [tn];have:=tn_pos r;omega
theorem sumN_eq:∀ (l:List Cp) {s:Int},(0≤s∧s≤1099511627776)→sumN s l=min (s+tn l) 1099511627776
 | [],s,h=>by simp only [sumN,tn];omega
 | c::r,s,h=>by
   have h2:=qT h.1 (show 0≤max c.n 0 by omega)
   have:=tn_pos r
   simp only[sumN,tn]
   rw[sumN_eq r h2]
   unfold addI
   omega
def allV (l:List Cp):Bool:=l.all fun c=>(pts c.t).isSome
theorem addI_z {x:Int} (h:x≤1099511627776):addI x 0=x:=by unfold addI;omega
end Go.Proofs
end
-- HAp0
section
namespace Go.Proofs
open Go Go.Rw
def cpts (t:List UInt8):List Nat:=(pts t).getD []
theorem kCe {t:List UInt8} {cs:List Nat} (h:pts t=some cs):cpts t=cs:=by unfold cpts;rw[h];rfl
theorem cpts_nil:cpts []=[]:=rfl
theorem cpts_enc {cs:List Nat} (h:∀ c∈cs,okc c):cpts (encs cs)=cs:=kCe (pts_enc h)
theorem isSome_cpts {t:List UInt8} (h:(pts t).isSome=true):pts t=some (cpts t):=by
 obtain ⟨cs,hc⟩:=Option.isSome_iff_exists.1 h
 rw[hc,kCe hc]
theorem kBC {t:List UInt8} (h:(pts t).isSome=true):encs (cpts t)=t∧∀ c∈cpts t,okc c:=by
 obtain ⟨h1,h2⟩:=kAh (isSome_cpts h)
 exact ⟨h2.symm,h1⟩
theorem lc_cpts {t:List UInt8} (h:(pts t).isSome=true):lc t=(cpts t).length:=by
 obtain ⟨e1,o1⟩:=kBC h
 conv=>lhs;rw[← e1]
 exact lc_encs _ o1
theorem okc_take {cs:List Nat} (h:∀ c∈cs,okc c) (n:Nat):∀ c∈cs.take n,okc c:=fun c hc=>h c (List.mem_of_mem_take hc)
theorem okc_drop {cs:List Nat} (h:∀ c∈cs,okc c) (n:Nat):∀ c∈cs.drop n,okc c:=fun c hc=>h c (List.mem_of_mem_drop hc)
theorem kE6 {cs:List Nat}:(encs cs).length≤4 * cs.length:=by
 induction cs with
 | nil=>simp [kCT]
 | cons c cs ih=>rw [kAo,List.length_cons];have:=wid_le c;omega
def doL:List Nat→List Cp→List Nat
 | _,[]=>[]
 | cs,c::r=>if someC c=false then doL cs r else if c.k=2 then cpts c.t++doL cs r else if c.k=3 then doL (cs.drop c.n.toNat) r else cs.take c.n.toNat++doL (cs.drop c.n.toNat) r
theorem do_ins {cs:List Nat} {c:Cp} {r:List Cp} (h:someC c=true) (h2:c.k=2):doL cs (c::r)=cpts c.t++doL cs r:=by rw[doL,if_neg (by rw[h];decide),if_pos h2]
theorem do_del {cs:List Nat} {c:Cp} {r:List Cp} (h:someC c=true) (h2:c.k=3):doL cs (c::r)=doL (cs.drop c.n.toNat) r:=by rw[doL,if_neg (by rw[h];decide),if_neg (by omega),if_pos h2]
theorem do_ret {cs:List Nat} {c:Cp} {r:List Cp} (h:someC c=true) (h2:¬ c.k=2) (h3:¬ c.k=3):doL cs (c::r)=cs.take c.n.toNat++doL (cs.drop c.n.toNat) r:=by rw[doL,if_neg (by rw[h];decide),if_neg h2,if_neg h3]
def fit (cs:List Nat) (l:List Cp):Prop:=(∀ c∈l,qS c=true)∧(cs.length:Int)=tn l
theorem zU {c:Cp} (h:qS c=true):(c.k=2∧c.n=0∧c.t≠[]∧(pts c.t).isSome=true)∨((c.k=1∨c.k=3)∧0 < c.n∧c.t=[]):=by
 unfold qS at h
 split at h
 ·rename_i h2
  simp at h
  exact .inl ⟨h2,h.1.1,h.1.2,h.2⟩
 ·split at h
  ·rename_i h13
   simp at h
   exact .inr ⟨h13,h.1,h.2⟩
  ·cases h
theorem kFa {c:Cp} (h:qS c=true):someC c=true:=by
 unfold someC
 rcases zU h with ⟨h2,_,h3,_⟩|⟨h13,h4,_⟩
 ·rw[if_pos h2];simp[h3]
 ·rw[if_neg (by omega)]
  rcases h13 with h|h<;>simp[h,h4]
theorem fit_cons {cs:List Nat} {c:Cp} {r:List Cp} (h:fit cs (c::r)):qS c=true∧0≤c.n∧c.n.toNat≤cs.length∧fit (cs.drop c.n.toNat) r:=by
 obtain ⟨h1,h2⟩:=h
 have hs:=h1 c (by simp)
 have hp:=tn_pos r
 have hn:0≤c.n:=by rcases zU hs with ⟨_,h,_⟩|⟨_,h,_⟩<;>omega
 simp only[tn]at h2
 exact ⟨hs,hn,by omega,fun x hx=>h1 x (by simp[hx]),by rw[List.length_drop];omega⟩
theorem kE9:∀ (l:List Cp) (m:Int),(0≤m∧m≤1099511627776)→(∀ c∈l,qS c=true)→kDb m l=sumN m l
 | [],_,_,_=>rfl
 | c::r,m,hm,h=>by
   have hr:=fun x hx=>h x (List.mem_cons_of_mem c hx)
   have hs:=zU (h c (by simp))
   simp only[kDb,sumN]
   by_cases h13:c.k=1∨c.k=3
   ·rw[if_pos h13]
    exact kE9 r _ (qT hm.1 (by omega)) hr
   ·rw[if_neg h13]
    rcases hs with ⟨_,h0,_⟩|⟨h,_⟩
    ·rw[h0,show max (0:Int) 0=0 from rfl,addI_z hm.2]
     exact kE9 r m hm hr
    ·exact absurd h h13
theorem kDW:∀ (l:List Cp) (p:Option Cp),zN p l=true→∀ c∈l,qS c=true
 | [],_,_,c,hc=>by cases hc
 | c::r,p,h,x,hx=>by
   simp only[zN,Bool.and_eq_true]at h
   rcases List.mem_cons.1 hx with rfl|hx
   ·exact h.1.1
   ·exact kDW r (some c) h.2 x hx
theorem kAI {l:List Cp} (h:qV l=0):l.length≤100∧qC l=true∧(∀ c∈l,qS c=true)∧kAJ l=tn l∧tn l≤2000∧outL l≤2000:=by
 unfold qV at h
 split at h
 ·cases h
 ·split at h
  ·cases h
  ·split at h
   ·cases h
   ·rename_i h1 h2 h3
    have h4:qC l=true:=by simpa using h2
    have h5:=kDW l none h4
    have h6:kAJ l=min (0+tn l) 1099511627776:=by
     unfold kAJ
     rw[kE9 l 0 (by omega) h5,sumN_eq l (by omega)]
    have h7:=tn_pos l
    exact ⟨by omega,h4,h5,by omega,by omega,by omega⟩
theorem fit_check {l:List Cp} (h:qV l=0) {cs:List Nat} (hb:(cs.length:Int)=kAJ l):fit cs l:=by
 obtain ⟨_,_,h1,h2,_,_⟩:=kAI h
 exact ⟨h1,by rw[hb,h2]⟩
theorem out_do:∀ (l:List Cp) (cs:List Nat) (m:Int),0≤m→fit cs l→outF m l≤2000→outF m l=m+(doL cs l).length
 | [],_,m,_,_,_=>by simp [outF,doL]
 | c::r,cs,m,hm,hf,ho=>by
   obtain ⟨hs,hn,hle,hf2⟩:=fit_cons hf
   have hso:=kFa hs
   simp only[outF]at ho ⊢
   have mono:∀ (l:List Cp) (m:Int),0≤m→m≤1099511627776→m≤outF m l:=by
    intro l
    induction l with
    | nil=>intro m _ _;simp [outF]
    | cons c r ih =>
      intro m h1 h2
      simp only[outF]
      split
      ·have h3:=qT h1 (show 0≤max c.n 0 by omega)
       have h4:=ih _ h3.1 h3.2
       have:m≤addI m (max c.n 0):=by unfold addI;omega
       omega
      ·split
       ·have h3:=qT h1 (show 0≤(lc c.t:Int) by omega)
        have h4:=ih _ h3.1 h3.2
        have:m≤addI m (lc c.t):=by unfold addI;omega
        omega
       ·exact ih m h1 h2
   rcases zU hs with ⟨h2,h0,_,hv⟩|⟨h13,hp,_⟩
   ·rw[if_neg (by omega),if_pos h2]at ho ⊢
    have hb:=qT hm (show 0≤(lc c.t:Int) by omega)
    have hm2:=mono r _ hb.1 hb.2
    have hm3:addI m (lc c.t)≤2000:=by omega
    have e:addI m (lc c.t)=m+lc c.t:=by unfold addI at hm3 ⊢;omega
    rw[e]at ho ⊢
    rw[h0]at hf2
    have:=out_do r cs (m+lc c.t) (by omega) (by simpa using hf2) ho
    rw[this,do_ins hso h2,List.length_append,lc_cpts hv];omega
   ·by_cases h1:c.k=1
    ·rw[if_pos h1]at ho ⊢
     have hb:=qT hm (show 0≤max c.n 0 by omega)
     have hm2:=mono r _ hb.1 hb.2
     have hm3:addI m (max c.n 0)≤2000:=by omega
     have e:addI m (max c.n 0)=m+c.n:=by unfold addI at hm3 ⊢;omega
     rw[e]at ho ⊢
     have:=out_do r _ (m+c.n) (by omega) hf2 ho
     rw[this,do_ret hso (by omega) (by omega),List.length_append,List.length_take];omega
    ·rw[if_neg h1,if_neg (by omega)]at ho ⊢
     have:=out_do r _ m hm hf2 ho
     rw[this,do_del hso (by omega)]
theorem do_okc:∀ (l:List Cp) (cs:List Nat),(∀ c∈cs,okc c)→allV l=true→∀ c∈doL cs l,okc c
 | [],_,_,_,c,h=>by cases h
 | c::r,cs,hc,hv,x,hx=>by
   simp only[allV,List.all_cons,Bool.and_eq_true]at hv
   rw[doL]at hx
   split at hx
   ·exact do_okc r cs hc hv.2 x hx
   ·split at hx
    ·rcases List.mem_append.1 hx with h|h
     ·exact (kBC hv.1).2 x h
     ·exact do_okc r cs hc hv.2 x h
    ·split at hx
     ·exact do_okc r _ (okc_drop hc _) hv.2 x hx
     ·rcases List.mem_append.1 hx with h|h
      ·exact okc_take hc _ x h
      ·exact do_okc r _ (okc_drop hc _) hv.2 x h
theorem sound_texts {l:List Cp} (h:∀ c∈l,qS c=true):allV l=true:=by
 unfold allV
 rw[List.all_eq_true]
 intro c hc
 rcases zU (h c hc) with ⟨_,_,_,hv⟩|⟨_,_,ht⟩
 ·exact hv
 ·rw[ht,pts_nil];rfl
structure Sp where
 c:Cp
 was:List UInt8
 puts:List UInt8
def kBB:List Nat→List Cp→List Sp
 | _,[]=>[]
 | cs,c::r=>⟨c,if c.k=2 then [] else encs (cs.take c.n.toNat),if c.k=2 then c.t else if c.k=3 then [] else encs (cs.take c.n.toNat)⟩::kBB (cs.drop c.n.toNat) r
theorem kEl:∀ (l:List Cp) (cs:List Nat),(kBB cs l).length=l.length
 | [],_=>rfl
 | c::r,cs=>by rw [kBB,List.length_cons,kEl r,List.length_cons]
theorem kFQ:∀ (l:List Cp) (cs:List Nat),fit cs l→(kBB cs l).flatMap Sp.puts=encs (doL cs l)
 | [],_,_=>rfl
 | c::r,cs,h=>by
   obtain ⟨hs,hn,hle,hf⟩:=fit_cons h
   have hso:=kFa hs
   rw[kBB,List.flatMap_cons,kFQ r _ hf]
   simp only
   rcases zU hs with ⟨h2,h0,_,hv⟩|⟨h13,hp,_⟩
   ·rw[if_pos h2,do_ins hso h2,kAN,(kBC hv).1,h0];rfl
   ·rw[if_neg (by omega)]
    by_cases h3:c.k=3
    ·rw[if_pos h3,do_del hso h3];rfl
    ·rw[if_neg h3,do_ret hso (by omega) h3,kAN]
def undoS (x:Sp):Cp:=if x.c.k=2 then ⟨3,(cpts x.puts).length,[]⟩ else if x.c.k=3 then ⟨2,0,x.was⟩ else x.c
def undoL (cs:List Nat) (l:List Cp):List Cp:=(kBB cs l).map undoS
def errI (s:List UInt8) (l:List Cp):Int:=if qV l=0 then (match pts s with|none=>2|some cs=>if (cs.length:Int)=kAJ l then 0 else 11) else qV l
theorem err_zero {s:List UInt8} {l:List Cp} (h:errI s l=0):qV l=0∧pts s=some (cpts s)∧((cpts s).length:Int)=kAJ l∧fit (cpts s) l:=by
 unfold errI at h
 split at h
 ·rename_i hc
  split at h
  ·cases h
  ·rename_i cs hp
   split at h
   ·rename_i hb
    rw[kCe hp]
    exact ⟨hc,hp,hb,fit_check hc hb⟩
   ·cases h
 ·rename_i hc;exact absurd h hc
def stp (s:List UInt8) (l:List Cp):List Sp:=if errI s l=0 then kBB (cpts s) l else []
def z6 (s:List UInt8) (l:List Cp):List UInt8:=if errI s l=0 then encs (doL (cpts s) l) else []
def undone (s:List UInt8) (l:List Cp):List Cp:=if errI s l=0 then nf (undoL (cpts s) l) else []
end Go.Proofs
end
-- HAp1
section
namespace Go.Proofs
open Go Go.Rw
set_option maxRecDepth 100000
def stA (x:Sp):AV:=.agg [.v (.int .i64 x.c.k),.v (.int .i64 x.c.n),.v (sv x.c.t),.v (sv x.was),.v (sv x.puts)]
def sts (l:List Sp):List AV:=l.map stA
theorem sts_nil:sts []=[]:=rfl
theorem kAz (l:List Sp):(sts l).length=l.length:=by simp[sts]
theorem sts_snoc (l:List Sp) (k n:Int) (t w p:List UInt8):sts l++[.agg [.v (.int .i64 k),.v (.int .i64 n),.v (sv t),.v (sv w),.v (sv p)]]=sts (l++[⟨⟨k,n,t⟩,w,p⟩]):=by simp[sts,stA]
theorem sts_getD (l:List Sp) {i:Nat} (h:i < l.length):(sts l).getD i .any = .agg [.v (.int .i64 l[i].c.k),.v (.int .i64 l[i].c.n),.v (sv l[i].c.t),.v (sv l[i].was),.v (sv l[i].puts)]:=by
 simp[sts,stA,List.getD_eq_getElem?_getD,h]
theorem part_le {l sz i j:Nat} {xs:List AV} (h:j≤xs.length):kDa l sz xs i j = .sl l sz ((xs.drop i).take (j - i)):=by
 unfold kDa
 split
 ·rename_i hc
  obtain ⟨rfl,rfl⟩:=hc
  simp
 ·rfl
def kBo (s:List UInt8) (l:List Cp):AV:=res2 (.sl 0 5 (sts (stp s l))) (errI s l)
theorem stepsR_er (s:List UInt8) (l:List Cp):(kBo s l).er=kBo s l:=by
 have:∀ l:List Sp,AV.erL (sts l)=sts l:=fun l=>by
  induction l with
  | nil=>rfl
  | cons c r ih=>show AV.er (stA c)::AV.erL (sts r)=_;rw [ih];rfl
 rfl
abbrev kDl:Con where
 ι:=Str×Ed
 args:=fun p=>[.v (sv p.1.1),.sl 0 3 (qA p.2.1)]
 post:=fun p r=>r=kBo p.1.1 p.2.1
abbrev SSt (cs:List Nat) (l:List Cp):={ p:List Sp×List Nat×Nat // p.2.2≤l.length∧fit p.2.1 (l.drop p.2.2)∧p.1++kBB p.2.1 (l.drop p.2.2)=kBB cs l∧∀ c∈p.2.1,okc c }
theorem steps_good:Rw.Good Tryz.prog 95 kDl:=by
 have hΓ:kM Tryz.prog [(102,kB9),(73,kBX),(122,kAp)]:=(kJ kFS (kJ kDV (kJ base_good kL)))
 refine k6 (nn:=72) hΓ Tryz.func95 (by kernel_rfl) rfl (show Tryz.f95.results.toList=[.tmp 4,.tmp 5] from rfl) (fun _=>rfl) (fun _=>rfl) ?_
 rintro ⟨⟨s,hs⟩,⟨l,hl⟩⟩
 simp only[aR,seval]
 refine vc_scope hΓ 1 ?_
 simp only[aR,seval]
 refine kFL (by simp[kG]) rfl hl ?_
 by_cases hc:qV l=0
 ·simp only[aR,seval,hc]
  refine kB0 (by simp[kG]) hs ?_
  rcases kEj (pts s) with hp|⟨cs,hp⟩
  ·have he:errI s l=2:=by unfold errI;rw[if_pos hc,hp]
   simp only[aR,seval,kBi,hp,res2]
   refine ⟨_,rfl,?_⟩
   simp only[aR,seval]
   unfold kBo stp
   rw[he];rfl
  ·simp only[aR,seval,kBi,hp,res2]
   refine call_base (by simp[kG]) rfl hl ?_
   by_cases hb:(cs.length:Int)=kAJ l
   ·have he:errI s l=0:=by unfold errI;rw[if_pos hc,hp];simp only;rw[if_pos hb]
    have hfit:=fit_check hc hb
    obtain ⟨hok,hse⟩:=kAh hp
    have hr:=runesA_pts hp
    have hlen:=(kAI hc).1
    have hcl:=kCe hp
    simp only[aR,seval,hb,hr,kDk]
    refine ⟨by omega,?_⟩
    obtain ⟨St,hSt⟩:∃ St:SSt cs l→AS,∀ p,St p=AS.of 72 [(4,.sl 2 5 (sts p.1.1)),(5,.v (.int .i64 0)),(7,.sl 0 1 (i32s p.1.2.1)),(28,.sl 0 3 (qA l)),(29,.v (.int .i64 l.length)),(30,.v (.int .i64 p.1.2.2))] [] [(p.1.1.length,144)]:=⟨_,fun _=>rfl⟩
    refine zA hΓ St (fun p=>l.length - p.1.2.2) ⟨([],cs,0),by simp,hfit,rfl,hok⟩ (by rw[hSt];refine kR [] [.nil 5] ?_;simp only[aR,seval,sts_nil,kK]<;>((repeat' apply And.intro)<;>first|rfl|omega|trivial)) ?_
    rintro ⟨⟨out,ds,i⟩,hi,hf,ho,hdk⟩
    simp only at hi hf ho hdk
    rw[hSt]
    simp only
    simp only[aR,seval,kK]
    (with_reducible first|refine kD (fun h=>?_) (fun h=>?_)|refine kH (fun h=>?_) (fun h=>?_))
    ·have hlt:i < l.length:=by omega
     have e1:=qH l hlt
     have hct:=okL.text hl (List.getElem_mem hlt)
     rw[List.drop_eq_getElem_cons hlt]at hf ho
     obtain ⟨hso,hn0,hnl,hf2⟩:=fit_cons hf
     rw[kBB]at ho
     have hcs:=zU hso
     have hol:out.length≤100:=by
      have:=congrArg List.length ho
      rw[List.length_append,kEl]at this
      omega
     generalize l[i]=c at *
     obtain ⟨k,n,t⟩:=c
     simp only at *
     have htk:utfL ((ds.take n.toNat).map fun (c:Nat)=>(c:Int))=encs (ds.take n.toNat):=utfL_encs (okc_take hdk _)
     have again:∀ (σ:AS) (x:Sp),x=⟨⟨k,n,t⟩,if k=2 then [] else encs (ds.take n.toNat),if k=2 then t else if k=3 then [] else encs (ds.take n.toNat)⟩→Weak σ (AS.of 72 [(4,.sl 2 5 (sts (out++[x]))),(5,.v (.int .i64 0)),(7,.sl 0 1 (i32s (ds.drop n.toNat))),(28,.sl 0 3 (qA l)),(29,.v (.int .i64 l.length)),(30,.v (.int .i64 (i+1:Nat)))] [] [((out++[x]).length,144)])→∃ y:SSt cs l,l.length - y.1.2.2 < l.length - i∧Weak σ (St y):=fun σ x hx hw =>
      ⟨⟨(out++[x],ds.drop n.toNat,i+1),by simp only;omega,hf2,by simp only;rw[← ho,hx];simp,okc_drop hdk _⟩,by simp only;omega,by rw[hSt];exact hw⟩
     have p1:kDa 0 1 (i32s ds) 0 n.toNat = .sl 0 1 (i32s (ds.take n.toNat)):=by rw[part_le (by rw[kDk];omega),i32s_part];simp
     have p2:kDa 0 1 (i32s ds) n.toNat ds.length = .sl 0 1 (i32s (ds.drop n.toNat)):=by rw[part_le (by rw[kDk];omega),i32s_part,List.take_of_length_le (by rw[List.length_drop];omega)]
     simp (disch:=omega) only[aR,seval,kC,h,e1,kK,kDk,p1,p2,i32sOf_i32s,htk,Int.toNat_natCast]
     (repeat (with_reducible refine And.intro ?_ ?_;focus (first|omega|exact kE|kernel_rfl)))
     (with_reducible first|refine kD (fun h2=>?_) (fun h2=>?_)|refine kH (fun h2=>?_) (fun h2=>?_))
     ·subst h2
      simp (disch:=omega) only[aR,seval,kC,kAz,sts_snoc,List.map_cons,List.map_nil]
      (repeat (with_reducible refine And.intro ?_ ?_;focus (first|omega|exact kE|kernel_rfl)))
      refine again _ ⟨⟨2,n,t⟩,[],t⟩ ?_ ?_
      rotate_left
      ·refine kR [] [.live 2] ?_
       simp only[aR,seval,kAz,List.length_append]<;>((repeat' apply And.intro)<;>first|rfl|omega|trivial)
      ·simp
     ·simp (disch:=omega) only[aR,seval,kC,h2]
      (with_reducible first|refine kD (fun h3=>?_) (fun h3=>?_)|refine kH (fun h3=>?_) (fun h3=>?_))
      ·subst h3
       simp (disch:=omega) only[aR,seval,kC,kAz,sts_snoc,List.map_cons,List.map_nil]
       (repeat (with_reducible refine And.intro ?_ ?_;focus (first|omega|exact kE|kernel_rfl)))
       refine again _ ⟨⟨3,n,t⟩,encs (ds.take n.toNat),[]⟩ ?_ ?_
       rotate_left
       ·refine kR [] [.live 2] ?_
        simp only[aR,seval,kAz,List.length_append]<;>((repeat' apply And.intro)<;>first|rfl|omega|trivial)
       ·simp
      ·simp (disch:=omega) only[aR,seval,kC,h3,kAz,sts_snoc,List.map_cons,List.map_nil]
       (repeat (with_reducible refine And.intro ?_ ?_;focus (first|omega|exact kE|kernel_rfl)))
       refine again _ ⟨⟨k,n,t⟩,encs (ds.take n.toNat),encs (ds.take n.toNat)⟩ ?_ ?_
       rotate_left
       ·refine kR [] [.live 2] ?_
        simp only[aR,seval,kAz,List.length_append]<;>((repeat' apply And.intro)<;>first|rfl|omega|trivial)
       ·simp[h2,h3]
    ·have hin:i=l.length:=by omega
     simp only[aR,seval,h]
     rw[hin,List.drop_length,kBB,List.append_nil]at ho
     unfold kBo stp
     rw[if_pos he,he,hcl,ho];rfl
   ·have he:errI s l=11:=by unfold errI;rw[if_pos hc,hp];simp only;rw[if_neg hb]
    simp only[aR,seval,hb]
    refine ⟨_,rfl,?_⟩
    simp only[aR,seval]
    unfold kBo stp
    rw[he];rfl
 ·have he:errI s l=qV l:=by unfold errI;rw[if_neg hc]
  simp only[aR,seval,hc]
  refine ⟨_,rfl,?_⟩
  simp only[aR,seval]
  unfold kBo stp
  rw[he,if_neg hc];rfl
theorem call_steps {Γ:Env} (hf:Γ.get 95=some kDl) {σ:AS} {dr:Bool} {s:List UInt8} {l:List Cp} {t:Nat} {ys:List AV} {d:Option Nat} {K:AS→Prop} (hy:ys=qA l) (hs:s.length≤1099511627776) (hl:okL l) (ht:t < 2)
    (hk:cont σ d (kBo s l) K):kP Tryz.prog Γ dr σ 95 [.v (sv s),.sl t 3 ys] d K:=by
 subst hy
 refine jN (C:=kDl) (i:=(⟨s,hs⟩,⟨l,hl⟩)) (r:=kBo s l) hf rfl rfl rfl ?_ (fun _ h=>h) (by rw[stepsR_er];exact hk)<;>simp[AV.erL,AV.er,AV.tagsL,AV.tags,comps_er]<;>omega
end Go.Proofs
end
