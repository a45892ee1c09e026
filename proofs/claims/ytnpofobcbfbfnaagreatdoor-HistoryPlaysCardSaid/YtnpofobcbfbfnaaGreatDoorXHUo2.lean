/-
 Which edits may be. Parts put behind others;the normal form. The document's normal form. Parts held against each other;edits that are alike. Names: what may be one. Transactions: their acts,one by one. txn.names,Plain,same. Transactions: whether they may be. txn.one,puts,Check. An edit of a place;what does nothing;the law's own readiness. OpOf answers true. Sums,held;how much an edit takes. Laws of the normal form. What the normal form keeps.
-/
import Derived.Test.YtnpofobcbfbfnaaGreatDoorXHSh
set_option linter.unusedSimpArgs false
set_option linter.unusedVariables false
set_option linter.unusedSectionVars false

set_option maxRecDepth 100000
-- HUo2
namespace Go.Proofs
open Go Go.Rw
abbrev soundCon:Con:=partCon qY
def ahead (l:List Cp) (i:Nat):Option Cp:=if i=0 then none else l[i - 1]?
abbrev kAU:Con where
 ι:=Ed
 args:=fun l=>[.sl 0 3 (qI l.1)]
 post:=fun l r=>r = .v (.bool (qT l.1))
 plain:=true
theorem normal_good:Rw.Good Tryz.prog 126 kAU:=by
 have hΓ:kK Tryz.prog [(145,soundCon)]:=(kG sound_good kI)
 refine kZ (nn:=45) hΓ Tryz.func126 (by kernel_rfl) rfl (show Tryz.f126.results.toList=[.tmp 2] from rfl) (fun _=>rfl) (fun _=>rfl) ?_
 rintro ⟨l,hl,htot,hc⟩
 simp only[aR,seval,kM]
 obtain ⟨St,hSt⟩:∃ St:{ i:Nat // i≤l.length∧qT l=jF (ahead l i) (l.drop i) }→AS,∀ i,St i=AS.of 45 [(0,.sl 0 3 (qI l)),(5,.sl 0 3 (qI l)),(6,.v (.int .i64 l.length)),(7,.v (.int .i64 i.1))] [] []:=⟨_,fun _=>rfl⟩
 refine qE hΓ St (fun i=>l.length - i.1) ⟨0,by omega,rfl⟩ (by rw[hSt];refine kO [] [] ?_;simp only[aR,seval]<;>(and_intros<;>first|rfl|omega|trivial)) ?_
 rintro ⟨i,hi,hb⟩
 rw[hSt]
 simp only
 simp only[aR,seval]
 (with_reducible first|refine kE (fun h=>?_) (fun h=>?_)|refine kF (fun h=>?_) (fun h=>?_))
 ·have hlt:i < l.length:=by omega
  have hci:=okL.text ⟨hl,htot,hc⟩ (List.getElem_mem hlt)
  have e1:=qN l hlt
  rw[List.drop_eq_getElem_cons hlt]at hb
  simp only[jF]at hb
  have hne:ahead l (i+1)=some l[i]:=by simp[ahead,hlt]
  rw[← hne]at hb
  simp (disch:=omega) only[aR,seval,kD,h,e1,kM]
  repeat (with_reducible refine And.intro ?_ ?_;focus first|omega|kernel_rfl)
  refine call_sound (by simp[kC]) hci ?_
  have again:∀ σ:AS,Weak σ (AS.of 45 [(0,.sl 0 3 (qI l)),(5,.sl 0 3 (qI l)),(6,.v (.int .i64 l.length)),(7,.v (.int .i64 (i+1:Nat)))] [] [])→qT l=jF (ahead l (i+1)) (l.drop (i+1))→∀ (x:{ i:Nat // i≤l.length∧qT l=jF (ahead l i) (l.drop i) }),x.1=i→kFm St (fun i=>l.length - i.1) x σ:=fun σ hw hb2 x hx =>
   kN ⟨i+1,by omega,hb2⟩ (by simp only;omega) (by rw[hSt];exact hw)
  cases hs:qY l[i] with
  | false =>
    simp only[aR,seval,hs]
    rw[hb,hs];rfl
  | true =>
    rw[hs,Bool.true_and]at hb
    by_cases h0:i=0
    ·subst h0
     simp only[aR,seval,hs]
     have hb3:qT l=jF (ahead l (0+1)) (l.drop (0+1)):=by
      rw[hb];rfl
     refine again _ ?_ hb3 _ rfl
     refine kO [] [] ?_
     simp only[aR,seval]<;>(and_intros<;>first|rfl|omega|trivial)
    ·have hp:ahead l i=some l[i - 1]:=by simp[ahead,h0]
     have e2:(qI l).getD (i - 1) .any = .agg [.v (.int .i64 l[i - 1].k),.v (.int .i64 l[i - 1].n),.v (sv l[i - 1].t)]:=qN l (by omega)
     have e3:((i:Int) - 1).toNat=i - 1:=by omega
     rw[hp]at hb
     simp only at hb
     simp (disch:=omega) only[aR,seval,kD,hs,show (i:Int) > 0 by omega,kM,e3,e2]
     repeat (with_reducible refine And.intro ?_ ?_;focus first|omega|kernel_rfl)
     have fol:follows l[i - 1] l[i]=true→qT l=jF (ahead l (i+1)) (l.drop (i+1)):=fun h=>by rw[hb,h,Bool.true_and]
     have nof:follows l[i - 1] l[i]=false→qT l=false:=fun h=>by rw[hb,h,Bool.false_and]
     (try ((with_reducible first|refine kE (fun q1=>?_) (fun q1=>?_)|refine kF (fun q1=>?_) (fun q1=>?_))<;>simp (disch:=omega) only[aR,seval,kD,q1,kM,e3,e2]<;>(with_reducible first|(refine And.intro ?_ ?_;focus first|omega|kernel_rfl);(repeat (refine And.intro ?_ ?_;focus first|omega|kernel_rfl));(try simp (disch:=omega) only[aR,seval,kD,q1,kM,e3,e2])|skip)<;>(try ((with_reducible first|refine kE (fun q2=>?_) (fun q2=>?_)|refine kF (fun q2=>?_) (fun q2=>?_))<;>simp (disch:=omega) only[aR,seval,kD,q2,kM,e3,e2]<;>(with_reducible first|(refine And.intro ?_ ?_;focus first|omega|kernel_rfl);(repeat (refine And.intro ?_ ?_;focus first|omega|kernel_rfl));(try simp (disch:=omega) only[aR,seval,kD,q2,kM,e3,e2])|skip)<;>(try ((with_reducible first|refine kE (fun q3=>?_) (fun q3=>?_)|refine kF (fun q3=>?_) (fun q3=>?_))<;>simp (disch:=omega) only[aR,seval,kD,q3,kM,e3,e2]<;>(with_reducible first|(refine And.intro ?_ ?_;focus first|omega|kernel_rfl);(repeat (refine And.intro ?_ ?_;focus first|omega|kernel_rfl));(try simp (disch:=omega) only[aR,seval,kD,q3,kM,e3,e2])|skip)<;>(try ((with_reducible first|refine kE (fun q4=>?_) (fun q4=>?_)|refine kF (fun q4=>?_) (fun q4=>?_))<;>simp (disch:=omega) only[aR,seval,kD,q4,kM,e3,e2]<;>(with_reducible first|(refine And.intro ?_ ?_;focus first|omega|kernel_rfl);(repeat (refine And.intro ?_ ?_;focus first|omega|kernel_rfl));(try simp (disch:=omega) only[aR,seval,kD,q4,kM,e3,e2])|skip)<;>skip))))))))
     all_goals first
      | (rw [nof (by simp [follows];omega)])
      | (refine again _ ?_ (fol (by simp [follows];omega)) _ rfl
         refine kO [] [] ?_
         simp only[aR,seval]<;>(and_intros<;>first|rfl|omega|trivial))
      | trace_state
 ·simp only[aR,seval,h]
  rw[List.drop_of_length_le (by omega)]at hb
  rw[hb];rfl
theorem call_normal {Γ:Env} (hf:Γ.get 126=some kAU) {σ:AS} {dr:Bool} {l:List Cp} {t:Nat} {ys:List AV} {d:Option Nat} {K:AS→Prop} (hy:ys=qI l) (h:okL l)
    (hk:cont σ d (.v (.bool (qT l))) K):kS Tryz.prog Γ dr σ 126 [.sl t 3 ys] d K:=by
 subst hy
 exact kP (C:=kAU) (i:=⟨l,h⟩) hf rfl rfl rfl rfl (fun _ h=>h) rfl hk
abbrev kAR:Con where
 ι:=Ed
 args:=fun l=>[.sl 0 3 (qI l.1)]
 post:=fun l r=>r = .v (.int .i64 (qV l.1))
 plain:=true
theorem kH1:Rw.Good Tryz.prog 102 kAR:=by
 have hΓ:kK Tryz.prog [(126,kAU),(122,kBL),(127,kEf)]:=(kG normal_good (kG base_good (kG out_good kI)))
 refine kZ (nn:=20) hΓ Tryz.func102 (by kernel_rfl) rfl (show Tryz.f102.results.toList=[.tmp 2] from rfl) (fun _=>rfl) (fun _=>rfl) ?_
 rintro ⟨l,hl⟩
 simp only[aR,seval,kM]
 have c1:100 < (l.length:Int)→qV l=3:=fun h=>by rw[qV,if_pos (by omega)]
 have c2:¬ 100 < (l.length:Int)→qT l=false→qV l=1:=fun h h2=>by rw[qV,if_neg (by omega),if_pos h2]
 have c3:¬ 100 < (l.length:Int)→qT l=true→(kA9 l > 2000∨outL l > 2000)→qV l=3:=fun h h2 h3=>by rw[qV,if_neg (by omega),if_neg (by rw[h2];decide),if_pos h3]
 have c4:¬ 100 < (l.length:Int)→qT l=true→¬ (kA9 l > 2000∨outL l > 2000)→qV l=0:=fun h h2 h3=>by rw[qV,if_neg (by omega),if_neg (by rw[h2];decide),if_neg h3]
 (with_reducible first|refine kE (fun h=>?_) (fun h=>?_)|refine kF (fun h=>?_) (fun h=>?_))
 ·simp only[aR,seval,h,c1 (by omega)]
 ·simp only[aR,seval,h]
  refine call_normal (by simp[kC]) rfl hl ?_
  cases hn:qT l with
  | false=>simp only [aR,seval,hn,c2 (by omega) hn]
  | true =>
    simp only[aR,seval,hn]
    refine call_base (by simp[kC]) rfl hl ?_
    simp only[aR,seval]
    (with_reducible first|refine kE (fun h1=>?_) (fun h1=>?_)|refine kF (fun h1=>?_) (fun h1=>?_))
    ·simp only[aR,seval,h1,c3 (by omega) hn (.inl (by omega))]
    ·simp only[aR,seval,h1]
     refine call_out (by simp[kC]) rfl hl ?_
     simp only[aR,seval]
     (with_reducible first|refine kE (fun h2=>?_) (fun h2=>?_)|refine kF (fun h2=>?_) (fun h2=>?_))
     ·simp only[aR,seval,h2,c3 (by omega) hn (.inr (by omega))]
     ·simp only[aR,seval,h2,c4 (by omega) hn (by omega)]
theorem kGy {Γ:Env} (hf:Γ.get 102=some kAR) {σ:AS} {dr:Bool} {l:List Cp} {t:Nat} {ys:List AV} {d:Option Nat} {K:AS→Prop} (hy:ys=qI l) (h:okL l)
    (hk:cont σ d (.v (.int .i64 (qV l))) K):kS Tryz.prog Γ dr σ 102 [.sl t 3 ys] d K:=by
 subst hy
 exact kP (C:=kAR) (i:=⟨l,h⟩) hf rfl rfl rfl rfl (fun _ h=>h) rfl hk
end Go.Proofs
-- HUo3
namespace Go.Proofs
open Go Go.Rw
end Go.Proofs
-- HUo4
namespace Go.Proofs
open Go Go.Rw
def heldI (a b:Int):Int:=min (min (max a 0) 1099511627776+min (max b 0) 1099511627776) 1099511627776
theorem heldI_eq {a b:Int} (ha:0≤a∧a≤1099511627776):heldI a b=addI a (max b 0):=by unfold heldI addI;omega
abbrev kG4:Con where
 ι:=I64×I64
 args:=fun p=>[.v (.int .i64 p.1.1),.v (.int .i64 p.2.1)]
 post:=fun p r=>r = .v (.int .i64 (heldI p.1.1 p.2.1))
 plain:=true
theorem held_good:Rw.Good Tryz.prog 116 kG4:=by
 have hΓ:kK Tryz.prog []:=kI
 refine kZ (nn:=15) hΓ Tryz.func116 (by kernel_rfl) rfl (show Tryz.f116.results.toList=[.tmp 4] from rfl) (fun _=>rfl) (fun _=>rfl) ?_
 rintro ⟨⟨a,ha1,ha2⟩,⟨b,hb1,hb2⟩⟩
 simp (disch:=omega) only[aR,seval,kD,jA,min2_int]
 unfold heldI
 rfl
theorem kFl {Γ:Env} (hf:Γ.get 116=some kG4) {σ:AS} {dr:Bool} {a b:Int} {d:Option Nat} {K:AS→Prop} (ha:0≤a∧a≤1099511627776) (hb:-9223372036854775808≤b∧b≤9223372036854775807)
    (hk:cont σ d (.v (.int .i64 (addI a (max b 0)))) K):kS Tryz.prog Γ dr σ 116 [.v (.int .i64 a),.v (.int .i64 b)] d K :=
 kP (C:=kG4) (i:=(⟨a,by omega,by omega⟩,⟨b,hb⟩)) hf rfl rfl rfl rfl (fun _ h=>h) rfl (by rw[heldI_eq ha];exact hk)
end Go.Proofs
-- HUo5
namespace Go.Proofs
open Go Go.Rw
section
variable {P:Program}
theorem jS {t:TypeId} {cs:Array Value} {off:Nat} {v:Value} {td:TypeDesc} (ht:P.underlying t=some td) (ha:(match td with|.struct _|.array _ _=>true|_=>false)=false) (hv:cs[off]? = some v):calm P (part t cs off)=some v:=by
 simp only[part,isAgg,underlying,k7,qJ,Option.bind_some,ht,zT]
 cases td<;>first|(cases ha;done)|(simp[hv,k7])
theorem kFE {d:Nat} {t:TypeId} {k k':IntKind} {a b:Int} (h:P.underlying t=some (.int k')):calm P (Op.equalIn (d+1) t (.int k a) (.int k b))=some (a == b):=by
 simp[Op.equalIn,k7,underlying,h]
theorem kFI {d:Nat} {t:TypeId} {a b:List UInt8} (h:P.underlying t=some .string):calm P (Op.equalIn (d+1) t (.string ⟨a.toArray⟩) (.string ⟨b.toArray⟩))=some (a == b):=by
 simp[Op.equalIn,k7,underlying,h]
 show (a.toArray == b.toArray)=(a == b)
 simp
theorem calm_eq3 {d:Nat} {t ti ts:TypeId} {k:IntKind} {f1 f2 f3:Field} {a b a' b':Int} {s s':List UInt8} (ht:P.underlying t=some (.struct #[f1,f2,f3])) (hp:P.stoodInHeld t=false) (hi:P.underlying ti=some (.int k)) (hs:P.underlying ts=some .string)
    (h1 : f1.type = ti ∧ f1.offset = 0 ∧ f1.name ≠ "_") (h2 : f2.type = ti ∧ f2.offset = 1 ∧ f2.name ≠ "_") (h3 : f3.type = ts ∧ f3.offset = 2 ∧ f3.name ≠ "_") :
    calm P (Op.equalIn (d+2) t (.agg #[.int .i64 a,.int .i64 b,.string ⟨s.toArray⟩]) (.agg #[.int .i64 a',.int .i64 b',.string ⟨s'.toArray⟩]))=some (a == a' && b == b' && s == s'):=by
 obtain ⟨rfl,o1,n1⟩:=h1
 obtain ⟨e2,o2,n2⟩:=h2
 obtain ⟨rfl,o3,n3⟩:=h3
 have p0:∀ (a b:Int) (s:List UInt8),calm P (part f1.type #[.int .i64 a,.int .i64 b,.string ⟨s.toArray⟩] 0)=some (.int .i64 a):=fun a b s=>jS hi rfl rfl
 have p1:∀ (a b:Int) (s:List UInt8),calm P (part f1.type #[.int .i64 a,.int .i64 b,.string ⟨s.toArray⟩] 1)=some (.int .i64 b):=fun a b s=>jS hi rfl rfl
 have p2:∀ (a b:Int) (s:List UInt8),calm P (part f3.type #[.int .i64 a,.int .i64 b,.string ⟨s.toArray⟩] 2)=some (.string ⟨s.toArray⟩):=fun a b s=>jS hs rfl rfl
 rw[Op.equalIn]
 simp only[k7,underlying,qJ,Option.bind_some,ht,zT,hp,Bool.false_eq_true,if_false,← Array.forIn_toList,List.forIn_cons,List.forIn_nil,n1,n2,n3,o1,o2,o3,e2,p0,p1,p2,kFE hi,kFI hs,if_true,ne_eq,not_false_eq_true]
 by_cases c1:a=a'<;>by_cases c2:b=b'<;>by_cases c3:s=s'<;>simp[c1,c2,c3,k7,p0,p1,p2,kFE hi,kFI hs]
theorem bin_neq3 {t ti ts:TypeId} {x y:Operand} {k:IntKind} {f1 f2 f3:Field} {a b a' b':Int} {s s':List UInt8} (hg:P.eqGuardType P.depth t=false) (ht:P.underlying t=some (.struct #[f1,f2,f3])) (hp:P.stoodInHeld t=false) (hi:P.underlying ti=some (.int k)) (hs:P.underlying ts=some .string)
    (h1 : f1.type = ti ∧ f1.offset = 0 ∧ f1.name ≠ "_") (h2 : f2.type = ti ∧ f2.offset = 1 ∧ f2.name ≠ "_") (h3 : f3.type = ts ∧ f3.offset = 2 ∧ f3.name ≠ "_") :
    binA P .neq t x y (.agg [.v (.int .i64 a),.v (.int .i64 b),.v (sv s)]) (.agg [.v (.int .i64 a'),.v (.int .i64 b'),.v (sv s')])=some (.v (.bool (decide (¬ (a=a'∧b=b'∧s=s'))))):=by
 have e:Op.maxDepth=9998+2:=rfl
 have hq:=calm_eq3 (P:=P) (d:=9998) (a:=a) (b:=b) (a':=a') (b':=b') (s:=s) (s':=s') ht hp hi hs h1 h2 h3
 unfold binA
 rw[show binV P .neq t x y (.agg [.v (.int .i64 a),.v (.int .i64 b),.v (sv s)]) (.agg [.v (.int .i64 a'),.v (.int .i64 b'),.v (sv s')])=none from rfl]
 simp only[kCx,kAr,Option.map_some,Option.none_or,res,k7,eqGuard,sv,qJ,Option.bind_some,hg]
 simp[k7,kCY,binOp,Op.equal,e,hq,hg]
 by_cases c1:a=a'<;>by_cases c2:b=b'<;>by_cases c3:s=s'<;>simp[c1,c2,c3]
def is3 (P:Program) (t ti ts:TypeId):Bool:=match P.underlying t with
 | some (.struct fs)=>match fs.toList with
   | [f1, f2, f3] => (f1.type == ti && (f1.offset == 0 && f1.name != "_")) && ((f2.type == ti && (f2.offset == 1 && f2.name != "_")) && (f3.type == ts && (f3.offset == 2 && f3.name != "_")))
   | _=>false
 | _=>false
theorem bin_neq4 {t ti ts:TypeId} {x y:Operand} {k:IntKind} {a b a' b':Int} {s s':List UInt8} (hg:P.eqGuardType P.depth t=false) (h3:is3 P t ti ts=true) (hp:P.stoodInHeld t=false) (hi:P.underlying ti=some (.int k)) (hs:P.underlying ts=some .string) :
    binA P .neq t x y (.agg [.v (.int .i64 a),.v (.int .i64 b),.v (sv s)]) (.agg [.v (.int .i64 a'),.v (.int .i64 b'),.v (sv s')])=some (.v (.bool (decide (¬ (a=a'∧b=b'∧s=s'))))):=by
 unfold is3 at h3
 split at h3
 ·rename_i fs hf
  split at h3
  ·rename_i f1 f2 f3 hl
   have:fs = #[f1,f2,f3]:=by rw[← hl]
   subst this
   simp only[Bool.and_eq_true,beq_iff_eq,bne_iff_ne]at h3
   exact bin_neq3 hg hf hp hi hs h3.1 h3.2.1 h3.2.2
  ·cases h3
 ·cases h3
end
theorem comp_neq {x y:Operand} {a b a' b':Int} {s s':List UInt8}:binA Tryz.prog .neq 103 x y (.agg [.v (.int .i64 a),.v (.int .i64 b),.v (sv s)]) (.agg [.v (.int .i64 a'),.v (.int .i64 b'),.v (sv s')])=some (.v (.bool (decide (¬ (a=a'∧b=b'∧s=s'))))) :=
 bin_neq4 (ti:=3) (ts:=9) (k:=.i64) (by kernel_rfl) (by kernel_rfl) (by kernel_rfl) (by kernel_rfl) (by kernel_rfl)
abbrev Cps:={ p:List Cp×List Cp // p.1.length≤4000000000000∧p.2.length≤4000000000000 }
abbrev kEI:Con where
 ι:=Cps
 args:=fun p=>[.sl 0 3 (qI p.1.1),.sl 0 3 (qI p.1.2)]
 post:=fun p r=>r = .v (.bool (decide (p.1.1=p.1.2)))
 plain:=true
theorem call_same {Γ:Env} {f:Nat} (hf:Γ.get f=some kEI) {σ:AS} {dr:Bool} {x y:List Cp} {s t:Nat} {xs ys:List AV} {d:Option Nat} {K:AS→Prop} (hx:xs=qI x) (hy:ys=qI y) (h1:x.length≤4000000000000) (h2:y.length≤4000000000000)
    (hk:cont σ d (.v (.bool (decide (x=y)))) K):kS Tryz.prog Γ dr σ f [.sl s 3 xs,.sl t 3 ys] d K:=by
 subst hx;subst hy
 exact kP (C:=kEI) (i:=⟨(x,y),h1,h2⟩) hf rfl rfl rfl rfl (fun _ h=>h) rfl hk
theorem drop_eq2 {x y:List Cp} {i:Nat} (h1:i < x.length) (h2:i < y.length):(x.drop i=y.drop i)↔((x[i].k=y[i].k∧x[i].n=y[i].n∧x[i].t=y[i].t)∧x.drop (i+1)=y.drop (i+1)):=by
 rw[List.drop_eq_getElem_cons h1,List.drop_eq_getElem_cons h2,List.cons.injEq]
 constructor
 ·rintro ⟨h,h3⟩;exact ⟨by rw[h];exact ⟨rfl,rfl,rfl⟩,h3⟩
 ·rintro ⟨⟨a,b,c⟩,h3⟩
  refine ⟨?_,h3⟩
  generalize x[i]=u at *
  generalize y[i]=v at *
  cases u;cases v
  simp only at a b c
  subst a;subst b;subst c;rfl
theorem rsame_good:Rw.Good Tryz.prog 84 kEI:=by
 have hΓ:kK Tryz.prog []:=kI
 refine kZ (nn:=54) hΓ Tryz.func84 (by kernel_rfl) rfl (show Tryz.f84.results.toList=[.tmp 4] from rfl) (fun _=>rfl) (fun _=>rfl) ?_
 rintro ⟨⟨x,y⟩,hx,hy⟩
 simp only at hx hy
 simp only[aR,seval,kM]
 (with_reducible first|refine kE (fun h=>?_) (fun h=>?_)|refine kF (fun h=>?_) (fun h=>?_))
 ·simp only[aR,seval,h]
  have:¬ x=y:=fun e=>h (by rw[e])
  simp[this]
 ·simp only[aR,seval,h]
  have hxy:x.length=y.length:=by omega
  obtain ⟨St,hSt⟩:∃ St:{ i:Nat // i≤x.length∧(x=y↔x.drop i=y.drop i) }→AS,∀ i,St i=AS.of 54 [(0,.sl 0 3 (qI x)),(1,.sl 0 3 (qI y)),(5,.v (.int .i64 i.1))] [] []:=⟨_,fun _=>rfl⟩
  refine qE hΓ St (fun i=>x.length - i.1) ⟨0,by omega,Iff.rfl⟩ (by rw[hSt];refine kO [] [] ?_;simp only[aR,seval]<;>(and_intros<;>first|rfl|omega|trivial)) ?_
  rintro ⟨i,hi,hb⟩
  rw[hSt]
  simp only
  simp only[aR,seval,kM]
  (with_reducible first|refine kE (fun h2=>?_) (fun h2=>?_)|refine kF (fun h2=>?_) (fun h2=>?_))
  ·have h3:i < x.length:=by omega
   have h4:i < y.length:=by omega
   have e1:=qN x h3
   have e2:=qN y h4
   rw[drop_eq2 h3 h4]at hb
   have again:∀ σ:AS,Weak σ (AS.of 54 [(0,.sl 0 3 (qI x)),(1,.sl 0 3 (qI y)),(5,.v (.int .i64 (i+1:Nat)))] [] [])→(x[i].k=y[i].k∧x[i].n=y[i].n∧x[i].t=y[i].t)→∀ (z:{ i:Nat // i≤x.length∧(x=y↔x.drop i=y.drop i) }),z.1=i→kFm St (fun i=>x.length - i.1) z σ:=fun σ hw h z hz =>
    kN ⟨i+1,by omega,by rw[hb];exact ⟨fun a=>a.2,fun a=>⟨h,a⟩⟩⟩ (by simp only;omega) (by rw[hSt];exact hw)
   have no:¬ (x[i].k=y[i].k∧x[i].n=y[i].n∧x[i].t=y[i].t)→decide (x=y)=false:=fun h=>by rw[decide_eq_false_iff_not,hb];exact fun a=>h a.1
   generalize x[i]=u at *
   generalize y[i]=v at *
   obtain ⟨k,n,t⟩:=u
   obtain ⟨k',n',t'⟩:=v
   simp only at no again e1 e2
   simp (disch:=omega) only[aR,seval,kD,h2,kM,e1,e2]
   repeat (with_reducible refine And.intro ?_ ?_;focus first|omega|kernel_rfl)
   (try ((with_reducible first|refine kE (fun q1=>?_) (fun q1=>?_)|refine kF (fun q1=>?_) (fun q1=>?_))<;>simp (disch:=omega) only[aR,seval,kD,q1,kM,e1,e2]<;>(with_reducible first|(refine And.intro ?_ ?_;focus first|omega|kernel_rfl);(repeat (refine And.intro ?_ ?_;focus first|omega|kernel_rfl));(try simp (disch:=omega) only[aR,seval,kD,q1,kM,e1,e2])|skip)<;>(try ((with_reducible first|refine kE (fun q2=>?_) (fun q2=>?_)|refine kF (fun q2=>?_) (fun q2=>?_))<;>simp (disch:=omega) only[aR,seval,kD,q2,kM,e1,e2]<;>(with_reducible first|(refine And.intro ?_ ?_;focus first|omega|kernel_rfl);(repeat (refine And.intro ?_ ?_;focus first|omega|kernel_rfl));(try simp (disch:=omega) only[aR,seval,kD,q2,kM,e1,e2])|skip)<;>(try ((with_reducible first|refine kE (fun q3=>?_) (fun q3=>?_)|refine kF (fun q3=>?_) (fun q3=>?_))<;>simp (disch:=omega) only[aR,seval,kD,q3,kM,e1,e2]<;>(with_reducible first|(refine And.intro ?_ ?_;focus first|omega|kernel_rfl);(repeat (refine And.intro ?_ ?_;focus first|omega|kernel_rfl));(try simp (disch:=omega) only[aR,seval,kD,q3,kM,e1,e2])|skip)<;>skip))))))
   all_goals first
    | (rw [no (by intro a;first|exact q1 a.1|exact q2 a.2.1|exact q3 a.2.2)];done)
    | (refine again _ ?_ ⟨Decidable.not_not.1 q1,Decidable.not_not.1 q2,Decidable.not_not.1 q3⟩ _ rfl
       refine kO [] [] ?_
       simp only[aR,seval]<;>(and_intros<;>first|rfl|omega|trivial))
    | trace_state
  ·simp only[aR,seval,h2]
   rw[List.drop_of_length_le (by omega),List.drop_of_length_le (by omega)]at hb
   rw[decide_eq_true (hb.2 rfl)]
theorem sequal_good:Rw.Good Tryz.prog 125 kEI:=by
 have hΓ:kK Tryz.prog []:=kI
 refine kZ (nn:=26) hΓ Tryz.func125 (by kernel_rfl) rfl (show Tryz.f125.results.toList=[.tmp 4] from rfl) (fun _=>rfl) (fun _=>rfl) ?_
 rintro ⟨⟨x,y⟩,hx,hy⟩
 simp only at hx hy
 simp only[aR,seval,kM]
 (with_reducible first|refine kE (fun h=>?_) (fun h=>?_)|refine kF (fun h=>?_) (fun h=>?_))
 ·simp only[aR,seval,h]
  have:¬ x=y:=fun e=>h (by rw[e])
  simp[this]
 ·simp only[aR,seval,h]
  have hxy:x.length=y.length:=by omega
  obtain ⟨St,hSt⟩:∃ St:{ i:Nat // i≤x.length∧(x=y↔x.drop i=y.drop i) }→AS,∀ i,St i=AS.of 26 [(0,.sl 0 3 (qI x)),(1,.sl 0 3 (qI y)),(12,.v (.int .i64 x.length)),(13,.v (.int .i64 i.1))] [] []:=⟨_,fun _=>rfl⟩
  refine qE hΓ St (fun i=>x.length - i.1) ⟨0,by omega,Iff.rfl⟩ (by rw[hSt];refine kO [] [] ?_;simp only[aR,seval,kM]<;>(and_intros<;>first|rfl|omega|trivial)) ?_
  rintro ⟨i,hi,hb⟩
  rw[hSt]
  simp only
  simp only[aR,seval,kM]
  (with_reducible first|refine kE (fun h2=>?_) (fun h2=>?_)|refine kF (fun h2=>?_) (fun h2=>?_))
  ·have h3:i < x.length:=by omega
   have h4:i < y.length:=by omega
   have e1:=qN x h3
   have e2:=qN y h4
   rw[drop_eq2 h3 h4]at hb
   have again:∀ σ:AS,Weak σ (AS.of 26 [(0,.sl 0 3 (qI x)),(1,.sl 0 3 (qI y)),(12,.v (.int .i64 x.length)),(13,.v (.int .i64 (i+1:Nat)))] [] [])→(x[i].k=y[i].k∧x[i].n=y[i].n∧x[i].t=y[i].t)→∀ (z:{ i:Nat // i≤x.length∧(x=y↔x.drop i=y.drop i) }),z.1=i→kFm St (fun i=>x.length - i.1) z σ:=fun σ hw h z hz =>
    kN ⟨i+1,by omega,by rw[hb];exact ⟨fun a=>a.2,fun a=>⟨h,a⟩⟩⟩ (by simp only;omega) (by rw[hSt];exact hw)
   have no:¬ (x[i].k=y[i].k∧x[i].n=y[i].n∧x[i].t=y[i].t)→decide (x=y)=false:=fun h=>by rw[decide_eq_false_iff_not,hb];exact fun a=>h a.1
   generalize x[i]=u at *
   generalize y[i]=v at *
   obtain ⟨k,n,t⟩:=u
   obtain ⟨k',n',t'⟩:=v
   simp only at no again e1 e2
   simp (disch:=omega) only[aR,seval,kD,h2,kM,e1,e2,comp_neq]
   repeat (with_reducible refine And.intro ?_ ?_;focus first|omega|kernel_rfl)
   (with_reducible first|refine kE (fun q1=>?_) (fun q1=>?_)|refine kF (fun q1=>?_) (fun q1=>?_))
   ·simp (disch:=omega) only[aR,seval,kD,q1]
    rw[no q1]
   ·simp (disch:=omega) only[aR,seval,kD,q1]
    refine again _ ?_ (Decidable.not_not.1 q1) _ rfl
    refine kO [] [] ?_
    simp only[aR,seval]<;>(and_intros<;>first|rfl|omega|trivial)
  ·simp only[aR,seval,h2]
   rw[List.drop_of_length_le (by omega),List.drop_of_length_le (by omega)]at hb
   rw[decide_eq_true (hb.2 rfl)]
end Go.Proofs
-- HUn1
namespace Go.Proofs
open Go Go.Rw
def z8 (c:UInt8):Bool:=decide ((97≤c.toNat∧c.toNat≤122)∨(48≤c.toNat∧c.toNat≤57)∨c.toNat=46∨c.toNat=45∨c.toNat=95)
def qG (s:List UInt8):Bool:=s.all z8 && decide (1≤s.length∧s.length≤20∧s≠[46]∧s≠[46,46])
theorem bytesA_eq (l:List UInt8):kGv l=l.map fun b=>.v (.int .u8 b.toNat):=by simp[kGv,jD]
theorem kEK (l:List UInt8):(kGv l).length=l.length:=by simp[bytesA_eq]
theorem bytesA_getD (l:List UInt8) {i:Nat} (h:i < l.length):(kGv l).getD i .any = .v (.int .u8 l[i].toNat):=by simp[bytesA_eq,List.getD_eq_getElem?_getD,h]
abbrev kDn:Con where
 ι:=UInt8
 args:=fun b=>[.v (.int .u8 b.toNat)]
 post:=fun b r=>r = .v (.bool (z8 b))
 plain:=true
theorem letter_good:Rw.Good Tryz.prog 89 kDn:=by
 have hΓ:kK Tryz.prog []:=kI
 refine kZ (nn:=29) hΓ Tryz.func89 (by kernel_rfl) rfl (show Tryz.f89.results.toList=[.tmp 2] from rfl) (fun _=>rfl) (fun _=>rfl) ?_
 intro b
 simp only[aR,seval]
 (try ((with_reducible first|refine kE (fun q1=>?_) (fun q1=>?_)|refine kF (fun q1=>?_) (fun q1=>?_))<;>simp (disch:=omega) only[aR,seval,kD,q1]<;>(with_reducible first|(refine And.intro ?_ ?_;focus first|omega|kernel_rfl);(repeat (refine And.intro ?_ ?_;focus first|omega|kernel_rfl));(try simp (disch:=omega) only[aR,seval,kD,q1])|skip)<;>(try ((with_reducible first|refine kE (fun q2=>?_) (fun q2=>?_)|refine kF (fun q2=>?_) (fun q2=>?_))<;>simp (disch:=omega) only[aR,seval,kD,q2]<;>(with_reducible first|(refine And.intro ?_ ?_;focus first|omega|kernel_rfl);(repeat (refine And.intro ?_ ?_;focus first|omega|kernel_rfl));(try simp (disch:=omega) only[aR,seval,kD,q2])|skip)<;>(try ((with_reducible first|refine kE (fun q3=>?_) (fun q3=>?_)|refine kF (fun q3=>?_) (fun q3=>?_))<;>simp (disch:=omega) only[aR,seval,kD,q3]<;>(with_reducible first|(refine And.intro ?_ ?_;focus first|omega|kernel_rfl);(repeat (refine And.intro ?_ ?_;focus first|omega|kernel_rfl));(try simp (disch:=omega) only[aR,seval,kD,q3])|skip)<;>(try ((with_reducible first|refine kE (fun q4=>?_) (fun q4=>?_)|refine kF (fun q4=>?_) (fun q4=>?_))<;>simp (disch:=omega) only[aR,seval,kD,q4]<;>(with_reducible first|(refine And.intro ?_ ?_;focus first|omega|kernel_rfl);(repeat (refine And.intro ?_ ?_;focus first|omega|kernel_rfl));(try simp (disch:=omega) only[aR,seval,kD,q4])|skip)<;>(try ((with_reducible first|refine kE (fun q5=>?_) (fun q5=>?_)|refine kF (fun q5=>?_) (fun q5=>?_))<;>simp (disch:=omega) only[aR,seval,kD,q5]<;>(with_reducible first|(refine And.intro ?_ ?_;focus first|omega|kernel_rfl);(repeat (refine And.intro ?_ ?_;focus first|omega|kernel_rfl));(try simp (disch:=omega) only[aR,seval,kD,q5])|skip)<;>(try ((with_reducible first|refine kE (fun q6=>?_) (fun q6=>?_)|refine kF (fun q6=>?_) (fun q6=>?_))<;>simp (disch:=omega) only[aR,seval,kD,q6]<;>(with_reducible first|(refine And.intro ?_ ?_;focus first|omega|kernel_rfl);(repeat (refine And.intro ?_ ?_;focus first|omega|kernel_rfl));(try simp (disch:=omega) only[aR,seval,kD,q6])|skip)<;>(try ((with_reducible first|refine kE (fun q7=>?_) (fun q7=>?_)|refine kF (fun q7=>?_) (fun q7=>?_))<;>simp (disch:=omega) only[aR,seval,kD,q7]<;>(with_reducible first|(refine And.intro ?_ ?_;focus first|omega|kernel_rfl);(repeat (refine And.intro ?_ ?_;focus first|omega|kernel_rfl));(try simp (disch:=omega) only[aR,seval,kD,q7])|skip)<;>skip))))))))))))))
 all_goals (unfold z8;rw[Bool.eq_iff_iff];simp only[decide_eq_true_eq,Bool.false_eq_true,true_iff,false_iff,iff_true,iff_false];omega)
theorem call_letter {Γ:Env} (hf:Γ.get 89=some kDn) {σ:AS} {dr:Bool} {b:UInt8} {n:Int} {d:Option Nat} {K:AS→Prop} (hn:n=b.toNat)
    (hk:cont σ d (.v (.bool (z8 b))) K):kS Tryz.prog Γ dr σ 89 [.v (.int .u8 n)] d K:=by
 subst hn
 exact kP (C:=kDn) (i:=b) hf rfl rfl rfl rfl (fun _ h=>h) rfl hk
abbrev kAk:Con where
 ι:=Str
 args:=fun s=>[.v (sv s.1)]
 post:=fun s r=>r = .v (.bool (qG s.1))
 plain:=true
theorem kD4:Rw.Good Tryz.prog 68 kAk:=by
 have hΓ:kK Tryz.prog [(89,kDn)]:=(kG letter_good kI)
 refine kZ (nn:=32) hΓ Tryz.func68 (by kernel_rfl) rfl (show Tryz.f68.results.toList=[.tmp 2] from rfl) (fun _=>rfl) (fun _=>rfl) ?_
 rintro ⟨s,hs⟩
 simp only[aR,seval,kEK]
 repeat (with_reducible refine And.intro ?_ ?_;focus first|omega|kernel_rfl)
 obtain ⟨St,hSt⟩:∃ St:{ i:Nat // i≤s.length∧(s.take i).all z8=true }→AS,∀ i,St i=AS.of 32 [(0,.v (sv s)),(6,.sl 0 1 (kGv s)),(7,.v (.int .i64 s.length)),(8,.v (.int .i64 i.1))] [] []:=⟨_,fun _=>rfl⟩
 refine qE hΓ St (fun i=>s.length - i.1) ⟨0,by omega,by simp⟩ (by rw[hSt];refine kO [] [] ?_;simp only[aR,seval]<;>(and_intros<;>first|rfl|omega|trivial)) ?_
 rintro ⟨i,hi,ha⟩
 rw[hSt]
 simp only
 simp only[aR,seval,kEK]
 (with_reducible first|refine kE (fun h=>?_) (fun h=>?_)|refine kF (fun h=>?_) (fun h=>?_))
 ·have hlt:i < s.length:=by omega
  have e1:=bytesA_getD s hlt
  have e2:(s.take (i+1)).all z8=z8 s[i]:=by rw[List.take_succ_eq_append_getElem hlt,List.all_append,ha];simp
  have e3:z8 s[i]=false→qG s=false:=fun hc=>by
   have:s.all z8=false:=List.all_eq_false.2 ⟨s[i],List.getElem_mem hlt,by simp[hc]⟩
   rw[qG,this];rfl
  generalize s[i]=c at *
  simp only[aR,seval,h,e1,kEK]
  repeat (with_reducible refine And.intro ?_ ?_;focus first|omega|kernel_rfl)
  refine call_letter (by simp[kC]) rfl ?_
  cases hc:z8 c
  ·simp only[aR,seval,hc]
   rw[e3 hc]
  ·rw[hc]at e2
   simp only[aR,seval,hc,wO (n:=(i:Int)+1)]
   refine kN ⟨i+1,by omega,e2⟩ (by simp only;omega) ?_
   rw[hSt];refine kO [] [] ?_
   simp only[aR,seval]<;>(and_intros<;>first|rfl|omega|trivial)
 ·rw[List.take_of_length_le (by omega)]at ha
  have e0:qG s=decide (1≤s.length∧s.length≤20∧s≠[46]∧s≠[46,46]):=by rw[qG,ha];rfl
  simp only[aR,seval,h,e0]
  (try ((with_reducible first|refine kE (fun q1=>?_) (fun q1=>?_)|refine kF (fun q1=>?_) (fun q1=>?_))<;>simp (disch:=omega) only[aR,seval,kD,q1]<;>(with_reducible first|(refine And.intro ?_ ?_;focus first|omega|kernel_rfl);(repeat (refine And.intro ?_ ?_;focus first|omega|kernel_rfl));(try simp (disch:=omega) only[aR,seval,kD,q1])|skip)<;>(try ((with_reducible first|refine kE (fun q2=>?_) (fun q2=>?_)|refine kF (fun q2=>?_) (fun q2=>?_))<;>simp (disch:=omega) only[aR,seval,kD,q2]<;>(with_reducible first|(refine And.intro ?_ ?_;focus first|omega|kernel_rfl);(repeat (refine And.intro ?_ ?_;focus first|omega|kernel_rfl));(try simp (disch:=omega) only[aR,seval,kD,q2])|skip)<;>(try ((with_reducible first|refine kE (fun q3=>?_) (fun q3=>?_)|refine kF (fun q3=>?_) (fun q3=>?_))<;>simp (disch:=omega) only[aR,seval,kD,q3]<;>(with_reducible first|(refine And.intro ?_ ?_;focus first|omega|kernel_rfl);(repeat (refine And.intro ?_ ?_;focus first|omega|kernel_rfl));(try simp (disch:=omega) only[aR,seval,kD,q3])|skip)<;>(try ((with_reducible first|refine kE (fun q4=>?_) (fun q4=>?_)|refine kF (fun q4=>?_) (fun q4=>?_))<;>simp (disch:=omega) only[aR,seval,kD,q4]<;>(with_reducible first|(refine And.intro ?_ ?_;focus first|omega|kernel_rfl);(repeat (refine And.intro ?_ ?_;focus first|omega|kernel_rfl));(try simp (disch:=omega) only[aR,seval,kD,q4])|skip)<;>skip))))))))
  all_goals (rw[e0,Bool.eq_iff_iff];simp only[decide_eq_true_eq,Bool.false_eq_true,false_iff,ne_eq])
  all_goals first
   | exact ⟨fun h5=>⟨by omega,by omega,by assumption,h5⟩,fun h5=>h5.2.2.2⟩
   | (rintro ⟨h5,h6,h7,h8⟩;first|omega|contradiction)
theorem jG {Γ:Env} {f:Nat} (hf:Γ.get f=some kAk) {σ:AS} {dr:Bool} {s:List UInt8} {d:Option Nat} {K:AS→Prop} (hs:s.length≤1099511627776)
    (hk:cont σ d (.v (.bool (qG s))) K):kS Tryz.prog Γ dr σ f [.v (sv s)] d K :=
 kP (C:=kAk) (i:=⟨s,hs⟩) hf rfl rfl rfl rfl (fun _ h=>h) rfl hk
end Go.Proofs
-- HUn2
namespace Go.Proofs
open Go Go.Rw
def kHB (a:Ac):Bool:=decide (a.k=1∨a.k=3)
def zU (a:Ac):Ac :=
 if a.k=1 then ⟨1,a.id,a.par,a.nm,a.dir,[]⟩ else if a.k=2 then ⟨2,a.id,0,[],false,[]⟩ else if a.k=3 then ⟨3,a.id,a.par,a.nm,false,[]⟩
 else if a.k=4 then ⟨4,a.id,0,[],false,a.ops⟩ else ⟨a.k,0,0,[],false,[]⟩
theorem plainA_ok {a:Ac} (h:okL a.ops):okL (zU a).ops:=by
 have h0:okL ([]:List Cp):=⟨by decide,by decide,fun c hc=>by cases hc⟩
 unfold zU
 repeat' split
 all_goals first|exact h0|exact h
abbrev AcS:={ a:Ac // okL a.ops }
abbrev kEv:Con where
 ι:=Ac
 args:=fun a=>[aA a]
 post:=fun a r=>r = .v (.bool (kHB a))
 plain:=true
theorem names_good:Rw.Good Tryz.prog 101 kEv:=by
 have hΓ:kK Tryz.prog []:=kI
 refine kZ (nn:=11) hΓ Tryz.func101 (by kernel_rfl) rfl (show Tryz.f101.results.toList=[.tmp 2] from rfl) (fun _=>rfl) (fun x=>by simp[AV.erL,kEm]) ?_
 intro a
 obtain ⟨k,id,par,nm,dir,ops⟩:=a
 simp only[aR,seval,aA]
 by_cases h1:k=1
 ·subst h1
  simp only[aR,seval,kHB]
 ·simp only[aR,seval,h1]
  simp[kHB,h1]
abbrev kC4:Con where
 ι:=AcS
 args:=fun a=>[aA a.1]
 post:=fun a r=>r=aA (zU a.1)
theorem plain_good:Rw.Good Tryz.prog 100 kC4:=by
 have hΓ:kK Tryz.prog [(80,kD3)]:=(kG kHV kI)
 refine kC8 Tryz.func100 (by kernel_rfl) rfl (show Tryz.f100.results.toList=[.cell 2 55] from rfl) (nn:=49) (fun _=>rfl) (fun x=>by simp[AV.erL,kEm]) ?_
 rintro ⟨a,oa⟩
 refine kE8 hΓ (Ws:=[(4,[2],[]),(8,[2],[]),(10,[2],[])]) _ ?_
 obtain ⟨k,id,par,nm,dir,ops⟩:=a
 simp only at oa
 by_cases h1:k=1
 ·simp only[aR,seval,kR,aA,h1]
  repeat (with_reducible refine And.intro ?_ ?_;focus first|omega|kernel_rfl)
  simp[zU,h1,aA,kAD]
 by_cases h2:k=2
 ·simp only[aR,seval,kR,aA,h1,h2]
  simp[zU,h2,aA,kAD]
 by_cases h3:k=3
 ·simp only[aR,seval,kR,aA,h1,h2,h3]
  repeat (with_reducible refine And.intro ?_ ?_;focus first|omega|kernel_rfl)
  simp[zU,h3,aA,kAD]
 by_cases h4:k=4
 ·simp only[aR,seval,kR,aA,h1,h2,h3,h4]
  repeat (with_reducible refine And.intro ?_ ?_;focus first|omega|kernel_rfl)
  refine kHW (by simp[kC]) rfl oa ?_
  simp only[aR,seval,kR,aA]
  simp[zU]
 ·simp only[aR,seval,kR,aA,h1,h2,h3,h4]
  simp[zU,h1,h2,h3,h4,aA,kAD]
theorem kHT {Γ:Env} {f:Nat} (hf:Γ.get f=some kC4) {σ:AS} {dr:Bool} {a:Ac} {y:AV} {d:Option Nat} {K:AS→Prop} (hy:y=aA a) (oa:okL a.ops)
    (hk:cont σ d (aA (zU a)) K):kS Tryz.prog Γ dr σ f [y] d K:=by
 subst hy
 exact jH (C:=kC4) (i:=⟨a,oa⟩) (r:=aA (zU a)) hf rfl rfl (by simp[AV.erL,kEm]) rfl (fun _ h=>h) (by rw[kEm];exact hk)
theorem call_names {Γ:Env} (hf:Γ.get 101=some kEv) {σ:AS} {dr:Bool} {a:Ac} {y:AV} {d:Option Nat} {K:AS→Prop} (hy:y=aA a)
    (hk:cont σ d (.v (.bool (kHB a))) K):kS Tryz.prog Γ dr σ 101 [y] d K:=by
 subst hy
 exact kP (C:=kEv) (i:=a) hf rfl rfl rfl (by simp[AV.erL,kEm]) (fun _ h=>h) rfl hk
abbrev kAv:Con where
 ι:=AcS×AcS
 args:=fun p=>[aA p.1.1,aA p.2.1]
 post:=fun p r=>r = .v (.bool (decide (p.1.1=p.2.1)))
 plain:=true
theorem same1_good:Rw.Good Tryz.prog 99 kAv:=by
 have hΓ:kK Tryz.prog [(125,kEI)]:=(kG sequal_good kI)
 refine kZ (nn:=47) hΓ Tryz.func99 (by kernel_rfl) rfl (show Tryz.f99.results.toList=[.tmp 4] from rfl) (fun _=>rfl) (fun x=>by simp[AV.erL,kEm]) ?_
 rintro ⟨⟨x,hx⟩,⟨y,hy⟩⟩
 have dk:decide (x=y)=decide (x.k=y.k∧x.id=y.id∧x.par=y.par∧x.nm=y.nm∧x.dir=y.dir∧x.ops=y.ops):=by
  cases x;cases y
  simp only[Ac.mk.injEq]
 simp only[dk]
 obtain ⟨k,id,par,nm,dir,ops⟩:=x
 obtain ⟨k',id',par',nm',dir',ops'⟩:=y
 simp only[aR,seval,aA]
 by_cases h1:k=k'
 case neg =>
  simp only[aR,seval,h1]
  simp[h1]
 by_cases h2:id=id'
 case neg =>
  simp only[aR,seval,h2,h1]
  simp[h2]
 by_cases h3:par=par'
 case neg =>
  simp only[aR,seval,h3,h1,h2]
  simp[h3]
 by_cases h4:nm=nm'
 case neg =>
  simp only[aR,seval,h4,h1,h2,h3]
  simp[h4]
 by_cases h5:dir=dir'
 case neg =>
  have nn:(dir == dir')=false:=by simp[h5]
  simp only[aR,seval,nn,h1,h2,h3,h4]
  simp[h5]
 have b5:(dir == dir')=true:=by simp[h5]
 simp only[aR,seval,h1,h2,h3,h4,b5]
 refine call_same (by simp[kC]) rfl rfl (by have:=hx.1;simp only at this;omega) (by have:=hy.1;simp only at this;omega) ?_
 simp only[aR,seval,h1,h2,h3,h4,b5]
 simp[h1,h2,h3,h4,h5]
theorem kGs {Γ:Env} {f:Nat} (hf:Γ.get f=some kAv) {σ:AS} {dr:Bool} {a b:Ac} {x y:AV} {d:Option Nat} {K:AS→Prop} (hx:x=aA a) (hy:y=aA b) (oa:okL a.ops) (ob:okL b.ops)
    (hk:cont σ d (.v (.bool (decide (a=b)))) K):kS Tryz.prog Γ dr σ f [x,y] d K:=by
 subst hx hy
 exact kP (C:=kAv) (i:=(⟨a,oa⟩,⟨b,ob⟩)) hf rfl rfl rfl (by simp[AV.erL,kEm]) (fun _ h=>h) rfl hk
end Go.Proofs
-- HUn3
namespace Go.Proofs
open Go Go.Rw
def badA (a:Ac):Bool:=decide (a.k < 1∨a.k > 4∨¬ a=zU a∨a.id < 1∨a.id > 1099511627776∨a.par < 0∨a.par > 1099511627776∨((a.k=1∨a.k=3)∧qG a.nm=false))
def oneI (a:Ac):Int:=if badA a then 1 else if a.k=4 then qV a.ops else 0
abbrev AcN:={ a:Ac // okL a.ops∧a.nm.length≤1099511627776 }
abbrev oneCon:Con where
 ι:=AcN
 args:=fun a=>[aA a.1]
 post:=fun a r=>r = .v (.int .i64 (oneI a.1))
 plain:=true
theorem one_good:Rw.Good Tryz.prog 76 oneCon:=by
 have hΓ:kK Tryz.prog [(100,kC4),(99,kAv),(101,kEv),(68,kAk),(102,kAR)]:=(kG plain_good (kG same1_good (kG names_good (kG kD4 (kG kH1 kI)))))
 refine kZ (nn:=58) hΓ Tryz.func76 (by kernel_rfl) rfl (show Tryz.f76.results.toList=[.tmp 2] from rfl) (fun _=>rfl) (fun x=>by simp[AV.erL,kEm]) ?_
 rintro ⟨a,oa,hn⟩
 obtain ⟨k,id,par,nm,dir,ops⟩:=a
 simp only at oa hn
 simp only[aR,seval,aA]
 repeat (with_reducible refine And.intro ?_ ?_;focus first|omega|kernel_rfl)
 by_cases h1:k < 1
 ·simp only[aR,seval,h1]
  simp[oneI,badA,h1]
 by_cases h2:k > 4
 ·simp only[aR,seval,h1,h2]
  simp[oneI,badA,h2]
 simp only[aR,seval,h1,h2]
 refine kHT (by simp[kC]) (a:=⟨k,id,par,nm,dir,ops⟩) rfl oa ?_
 simp only[aR,seval,h1,h2]
 refine kGs (by simp[kC]) (a:=⟨k,id,par,nm,dir,ops⟩) rfl rfl oa (plainA_ok (a:=⟨k,id,par,nm,dir,ops⟩) oa) ?_
 obtain ⟨b,hb⟩:∃ b,decide ((⟨k,id,par,nm,dir,ops⟩:Ac)=zU ⟨k,id,par,nm,dir,ops⟩)=b:=⟨_,rfl⟩
 rw[hb]
 cases b
 ·have hb2:¬ (⟨k,id,par,nm,dir,ops⟩:Ac)=zU ⟨k,id,par,nm,dir,ops⟩:=of_decide_eq_false hb
  simp only[aR,seval,h1,h2]
  simp[oneI,badA,hb2]
 have hb2:(⟨k,id,par,nm,dir,ops⟩:Ac)=zU ⟨k,id,par,nm,dir,ops⟩:=of_decide_eq_true hb
 have e0:badA ⟨k,id,par,nm,dir,ops⟩=decide (id < 1∨id > 1099511627776∨par < 0∨par > 1099511627776∨((k=1∨k=3)∧qG nm=false)):=by
  unfold badA
  rw[Bool.eq_iff_iff,decide_eq_true_eq,decide_eq_true_eq]
  constructor
  ·rintro (h|h|h|h)
   ·exact absurd h h1
   ·exact absurd h h2
   ·exact absurd hb2 h
   ·exact h
  ·exact fun h=>.inr (.inr (.inr h))
 clear hb hb2
 by_cases h3:id < 1
 ·simp only[aR,seval,h1,h2,h3]
  simp[oneI,e0,h3]
 by_cases h4:id > 1099511627776
 ·simp only[aR,seval,h1,h2,h3,h4]
  simp[oneI,e0,h4]
 by_cases h5:par < 0
 ·simp only[aR,seval,h1,h2,h3,h4,h5]
  simp[oneI,e0,h5]
 by_cases h6:par > 1099511627776
 ·simp only[aR,seval,h1,h2,h3,h4,h5,h6]
  simp[oneI,e0,h6]
 simp only[aR,seval,h1,h2,h3,h4,h5,h6]
 refine call_names (by simp[kC]) (a:=⟨k,id,par,nm,dir,ops⟩) rfl ?_
 obtain ⟨b,hb⟩:∃ b,kHB ⟨k,id,par,nm,dir,ops⟩=b:=⟨_,rfl⟩
 have hb2:(k=1∨k=3)↔b=true:=by rw[← hb,kHB];simp
 rw[hb]
 have last:∀ e1:badA ⟨k,id,par,nm,dir,ops⟩=false,oneI ⟨k,id,par,nm,dir,ops⟩=if k=4 then qV ops else 0:=fun e1=>by
  rw[oneI,e1];rfl
 cases b
 ·have e1:badA ⟨k,id,par,nm,dir,ops⟩=false:=by
    rw[e0,decide_eq_false_iff_not]
    rintro (h|h|h|h|h)
    ·exact h3 h
    ·exact h4 h
    ·exact h5 h
    ·exact h6 h
    ·exact absurd (hb2.1 h.1) (by simp)
  have e2:=last e1
  by_cases h7:k=4
  ·subst h7
   rw[if_pos rfl]at e2
   simp only[aR,seval,e2]
   refine kGy (by simp[kC]) rfl oa ?_
   simp only[aR,seval,e2]
  ·rw[if_neg h7]at e2
   simp only[aR,seval,h7,e2]
 ·simp only[aR,seval]
  refine jG (by simp[kC]) hn ?_
  cases hnm:qG nm
  ·have e1:badA ⟨k,id,par,nm,dir,ops⟩=true:=by
     rw[e0,decide_eq_true_eq]
     exact .inr (.inr (.inr (.inr ⟨hb2.2 rfl,hnm⟩)))
   simp only[aR,seval]
   simp[oneI,e1]
  ·have e1:badA ⟨k,id,par,nm,dir,ops⟩=false:=by
     rw[e0,decide_eq_false_iff_not]
     rintro (h|h|h|h|h)
     ·exact h3 h
     ·exact h4 h
     ·exact h5 h
     ·exact h6 h
     ·rw[hnm]at h;exact absurd h.2 (by simp)
   have e2:=last e1
   have h7:¬ k=4:=fun h=>by have:=hb2.2 rfl;omega
   rw[if_neg h7]at e2
   simp only[aR,seval,h7,e2]
def putC:List Cp→Nat
 | []=>0
 | c::r=>(if c.k=2 then lc c.t else 0)+putC r
def putS:List Ac→Nat
 | []=>0
 | a::r=>putC a.ops+putS r
theorem putC_tot:∀ l:List Cp,putC l≤tot l
 | []=>Nat.le_refl _
 | c::r=>by
   have:=putC_tot r
   have:=lc_len c.t
   rw[putC,tot]
   split<;>omega
theorem putC_take {l:List Cp} {i:Nat} (h:i < l.length):putC (l.drop i)=(if l[i].k=2 then lc l[i].t else 0)+putC (l.drop (i+1)):=by
 rw[List.drop_eq_getElem_cons h,putC]
theorem putS_take {l:List Ac} {i:Nat} (h:i < l.length):putS (l.drop i)=putC l[i].ops+putS (l.drop (i+1)):=by
 rw[List.drop_eq_getElem_cons h,putS]
theorem putS_le:∀ (l:List Ac),(∀ a∈l,okL a.ops)→putS l≤l.length * 1099511627776
 | [],_=>by simp [putS]
 | a::l,h=>by
   have h1:=putS_le l fun b hb=>h b (List.mem_cons_of_mem _ hb)
   have h2:=(h a (List.mem_cons_self ..)).2.1
   have h3:=putC_tot a.ops
   rw[putS,List.length_cons,Nat.add_mul];omega
abbrev okA (a:Ac):Prop:=okL a.ops∧a.nm.length≤1099511627776
abbrev ActsN:={ l:List Ac // l.length≤1000000∧∀ a∈l,okL a.ops∧a.nm.length≤1099511627776 }
abbrev putsCon:Con where
 ι:=ActsN
 args:=fun l=>[.sl 0 6 (acts l.1)]
 post:=fun l r=>r = .v (.int .i64 (putS l.1))
 plain:=true
theorem puts_good:Rw.Good Tryz.prog 79 putsCon:=by
 have hΓ:kK Tryz.prog [(104,rcCon)]:=(kG rc_good kI)
 refine kZ (nn:=31) hΓ Tryz.func79 (by kernel_rfl) rfl (show Tryz.f79.results.toList=[.tmp 2] from rfl) (fun _=>rfl) (fun x=>by simp[AV.erL,AV.er,j7]) ?_
 rintro ⟨l,hl,ho⟩
 have hb:=putS_le l fun a ha=>(ho a ha).1
 simp only[aR,seval,k9]
 obtain ⟨St,hSt⟩:∃ St:{ p:Nat×Nat // p.2≤l.length∧p.1+putS (l.drop p.2)=putS l }→AS,∀ p,St p=AS.of 31 [(2,.v (.int .i64 p.1.1)),(7,.sl 0 6 (acts l)),(8,.v (.int .i64 l.length)),(9,.v (.int .i64 p.1.2))] [] []:=⟨_,fun _=>rfl⟩
 refine qE hΓ St (fun p=>l.length - p.1.2) ⟨(0,0),by simp,by simp⟩ (by rw[hSt];refine kO [] [] ?_;simp only[aR,seval]<;>(and_intros<;>first|rfl|omega|trivial)) ?_
 rintro ⟨⟨n,i⟩,hi,hs⟩
 simp only at hi hs
 rw[hSt]
 simp only
 simp only[aR,seval,k9]
 (with_reducible first|refine kE (fun h=>?_) (fun h=>?_)|refine kF (fun h=>?_) (fun h=>?_))
 ·have hlt:i < l.length:=by omega
  have e1:=z6 l hlt
  have ha:=ho _ (List.getElem_mem hlt)
  rw[putS_take hlt]at hs
  generalize l[i]=a at *
  obtain ⟨k,id,par,nm,dir,ops⟩:=a
  obtain ⟨oa,_⟩:=ha
  simp only at hs oa
  have hol:=oa.1
  simp only[aR,seval,h,e1,aA,k9,kM]
  repeat (with_reducible refine And.intro ?_ ?_;focus first|omega|kernel_rfl)
  obtain ⟨Sb,hSb⟩:∃ Sb:{ p:Nat×Nat // p.2≤ops.length∧p.1+putC (ops.drop p.2)=n+putC ops }→AS,∀ p,Sb p=AS.of 31 [(2,.v (.int .i64 p.1.1)),(7,.sl 0 6 (acts l)),(8,.v (.int .i64 l.length)),(9,.v (.int .i64 i)),(14,.sl 0 3 (qI ops)),(15,.v (.int .i64 ops.length)),(16,.v (.int .i64 p.1.2))] [] []:=⟨_,fun _=>rfl⟩
  refine qE hΓ Sb (fun p=>ops.length - p.1.2) ⟨(n,0),by simp,by simp⟩ (by rw[hSb];refine kO [] [] ?_;simp only[aR,seval]<;>(and_intros<;>first|rfl|omega|trivial)) ?_
  rintro ⟨⟨m,j⟩,hj,hm⟩
  simp only at hj hm
  rw[hSb]
  simp only
  simp only[aR,seval,kM]
  (with_reducible first|refine kE (fun h2=>?_) (fun h2=>?_)|refine kF (fun h2=>?_) (fun h2=>?_))
  ·have hlt2:j < ops.length:=by omega
   have e3:=qN ops hlt2
   have hct:=okL.text oa (List.getElem_mem hlt2)
   rw[putC_take hlt2]at hm
   generalize ops[j]=c at *
   obtain ⟨ck,cn,ct⟩:=c
   simp only at hm hct
   by_cases hk:ck=2
   ·rw[if_pos hk]at hm
    simp only[aR,seval,h2,e3,cA,kM,hk]
    repeat (with_reducible refine And.intro ?_ ?_;focus first|omega|kernel_rfl)
    refine call_rc (by simp[kC]) hct ?_
    simp only[aR,seval,wO (n:=(m:Int)+lc ct),wO (n:=(j:Int)+1)]
    refine kN ⟨(m+lc ct,j+1),by simp only;omega,by simp only;omega⟩ (by simp only;omega) ?_
    rw[hSb];refine kO [] [] ?_
    simp only[aR,seval]<;>(and_intros<;>first|rfl|omega|trivial)
   ·rw[if_neg hk]at hm
    simp only[aR,seval,h2,e3,cA,kM,hk,wO (n:=(j:Int)+1)]
    repeat (with_reducible refine And.intro ?_ ?_;focus first|omega|kernel_rfl)
    refine kN ⟨(m,j+1),by simp only;omega,by simp only;omega⟩ (by simp only;omega) ?_
    rw[hSb];refine kO [] [] ?_
    simp only[aR,seval]<;>(and_intros<;>first|rfl|omega|trivial)
  ·rw[List.drop_of_length_le (by omega),putC]at hm
   simp only[aR,seval,h2,wO (n:=(i:Int)+1)]
   refine kN ⟨(m,i+1),by simp only;omega,by simp only;omega⟩ (by simp only;omega) ?_
   rw[hSt];refine kO [] [] ?_
   simp only[aR,seval]<;>(and_intros<;>first|rfl|omega|trivial)
 ·rw[List.drop_of_length_le (by omega),putS]at hs
  simp only[aR,seval,h]
  omega
theorem call_puts {Γ:Env} (hf:Γ.get 79=some putsCon) {σ:AS} {dr:Bool} {l:List Ac} {ys:List AV} {d:Option Nat} {K:AS→Prop} (hy:ys=acts l) (hl:l.length≤1000000) (ho:∀ a∈l,okL a.ops∧a.nm.length≤1099511627776)
    (hk:cont σ d (.v (.int .i64 (putS l))) K):kS Tryz.prog Γ dr σ 79 [.sl 0 6 ys] d K:=by
 subst hy
 exact kP (C:=putsCon) (i:=⟨l,hl,ho⟩) hf rfl rfl rfl (by simp[AV.erL,AV.er,j7]) (fun _ h=>h) rfl hk
def kDh (pre:List Ac) (a:Ac):Bool:=pre.any fun b=>decide (b.k=4∧b.id=a.id)
def kAE:List Ac→List Ac→Int
 | _,[]=>0
 | pre,a::r=>if oneI a≠0 then oneI a else if a.k=4∧kDh pre a=true then 1 else kAE (pre++[a]) r
def txnE (l:List Ac):Int:=if l.length > 20 then 3 else if kAE [] l≠0 then kAE [] l else if (putS l:Int) > 2000 then 3 else 0
abbrev kAg:Con where
 ι:=ActsN
 args:=fun l=>[.sl 0 6 (acts l.1)]
 post:=fun l r=>r = .v (.int .i64 (txnE l.1))
 plain:=true
theorem tcheck_good:Rw.Good Tryz.prog 56 kAg:=by
 have hΓ:kK Tryz.prog [(76,oneCon),(79,putsCon)]:=(kG one_good (kG puts_good kI))
 refine kZ (nn:=34) hΓ Tryz.func56 (by kernel_rfl) rfl (show Tryz.f56.results.toList=[.tmp 2] from rfl) (fun _=>rfl) (fun x=>by simp[AV.erL,AV.er,j7]) ?_
 rintro ⟨l,hl,ho⟩
 simp only[aR,seval]
 refine vc_scope hΓ 1 ?_
 simp only[aR,seval,k9]
 by_cases hlen:(l.length:Int) > 20
 ·have e0:txnE l=3:=by unfold txnE;rw[if_pos (by omega)]
  simp only[aR,seval,hlen,e0]
 have e0:txnE l=if kAE [] l≠0 then kAE [] l else if (putS l:Int) > 2000 then 3 else 0:=by unfold txnE;rw[if_neg (by omega)]
 simp only[aR,seval,hlen,k9]
 obtain ⟨St,hSt⟩:∃ St:{ i:Nat // i≤l.length∧kAE (l.take i) (l.drop i)=kAE [] l }→AS,∀ i,St i=AS.of 34 [(0,.sl 0 6 (acts l)),(2,.v (.int .i64 0)),(8,.sl 0 6 (acts l)),(9,.v (.int .i64 l.length)),(10,.v (.int .i64 i.1))] [] []:=⟨_,fun _=>rfl⟩
 refine qE hΓ St (fun i=>l.length - i.1) ⟨0,by omega,by simp⟩ (by rw[hSt];refine kO [] [] ?_;simp only[aR,seval]<;>(and_intros<;>first|rfl|omega|trivial)) ?_
 rintro ⟨i,hi,hc⟩
 rw[hSt]
 simp only
 simp only[aR,seval,k9]
 (with_reducible first|refine kE (fun h=>?_) (fun h=>?_)|refine kF (fun h=>?_) (fun h=>?_))
 ·have hlt:i < l.length:=by omega
  have e1:=z6 l hlt
  have ha:=ho _ (List.getElem_mem hlt)
  rw[List.drop_eq_getElem_cons hlt,kAE,← List.take_succ_eq_append_getElem hlt]at hc
  generalize l[i]=a at *
  obtain ⟨k,id,par,nm,dir,ops⟩:=a
  simp only[aR,seval,h,e1,aA,k9]
  repeat (with_reducible refine And.intro ?_ ?_;focus first|omega|kernel_rfl)
  refine kP (C:=oneCon) (i:=⟨⟨k,id,par,nm,dir,ops⟩,ha⟩) (by simp[kC]) rfl rfl rfl (by simp[AV.erL,AV.er,aA,kDp]) (fun _ h=>h) rfl ?_
  by_cases h1:oneI ⟨k,id,par,nm,dir,ops⟩=0
  case neg =>
   rw[if_pos h1]at hc
   rw[← hc,if_pos h1]at e0
   simp only[aR,seval,h1]
   refine ⟨_,rfl,?_⟩
   simp only[aR,seval,e0]
  rw[if_neg (by simpa using h1)]at hc
  by_cases h4:k=4
  ·subst h4
   have hpa:kBt 0 6 (acts l) 0 i = .sl 0 6 (acts (l.take i)):=by
    unfold kBt
    split
    ·rename_i h5
     rw[List.take_of_length_le (by have:=h5.2;rw[k9]at this;omega)]
    ·simp[acts,List.map_take]
   have htl:(l.take i).length=i:=by rw[List.length_take];omega
   have hcb:∀ x:Bool,kDh (l.take i) ⟨4,id,par,nm,dir,ops⟩=x→(if x=true then 1 else kAE (l.take (i+1)) (l.drop (i+1)))=kAE [] l:=fun x hx=>by
    subst hx
    rw[← hc]
    by_cases h5:kDh (l.take i) ⟨4,id,par,nm,dir,ops⟩=true
    ·rw[if_pos h5,if_pos ⟨rfl,h5⟩]
    ·rw[if_neg h5,if_neg (fun hh=>h5 hh.2)]
   have hcl:kDh (l.take i) ⟨4,id,par,nm,dir,ops⟩=(l.take i).any fun b=>decide (b.k=4∧b.id=id):=rfl
   obtain ⟨pre,hpre⟩:∃ pre,l.take i=pre:=⟨_,rfl⟩
   rw[hpre]at hpa htl hcb hcl
   simp only[aR,seval,h1,hpa,k9,List.map_cons,List.map_nil]
   repeat (with_reducible refine And.intro ?_ ?_;focus first|omega|kernel_rfl)
   refine kER (nn:=9) hΓ (by first|assumption|simp[kC,kQ]) Tryz.func77 (by kernel_rfl) rfl (show Tryz.f77.results.toList=[.tmp 4] from rfl) rfl ?_
   simp only[aR,seval]
   refine kER (nn:=19) hΓ (by first|assumption|simp[kC,kQ]) Tryz.func103 (by kernel_rfl) rfl (show Tryz.f103.results.toList=[.tmp 4] from rfl) rfl ?_
   simp only[aR,seval,k9,htl]
   refine vc_loop_keep hΓ (fun j:{ j:Nat // j≤i∧(pre.any fun b=>decide (b.k=4∧b.id=id))=(pre.drop j).any fun b=>decide (b.k=4∧b.id=id) }=>[(0,.sl 0 6 (acts pre)),(1,.fn 78 [.ptr 0 0]),(7,.v (.int .i64 i)),(8,.v (.int .i64 j.1))]) (fun j=>i - j.1) ⟨0,Nat.zero_le _,by simp⟩ (by simp only[aR,seval]<;>(and_intros<;>first|rfl|omega|trivial)) ?_
   rintro ⟨j,hj,hn⟩ q hq
   simp only
   simp only[aR,seval,List.map_cons,List.map_nil]
   (with_reducible first|refine kE (fun h2=>?_) (fun h2=>?_)|refine kF (fun h2=>?_) (fun h2=>?_))
   ·have hlt2:j < pre.length:=by omega
    have e3:=z6 pre hlt2
    rw[List.drop_eq_getElem_cons hlt2,List.any_cons]at hn
    generalize pre[j]=b at *
    obtain ⟨bk,bid,bpar,bnm,bdir,bops⟩:=b
    simp only at hn
    simp only[aR,seval,h2,e3,k9,htl,aA]
    repeat (with_reducible refine And.intro ?_ ?_;focus first|omega|kernel_rfl)
    refine kER (nn:=14) hΓ (by first|assumption|simp[kC,kQ]) Tryz.func78 (by kernel_rfl) rfl (show Tryz.f78.results.toList=[.tmp 3] from rfl) rfl ?_
    have hk0:(0=q)=False:=eq_false (by omega)
    simp only[aR,seval,aA,hk0]
    have go:(pre.any fun b=>decide (b.k=4∧b.id=id))=((pre.drop (j+1)).any fun b=>decide (b.k=4∧b.id=id))→∃ y:{ j:Nat // j≤i∧(pre.any fun b=>decide (b.k=4∧b.id=id))=(pre.drop j).any fun b=>decide (b.k=4∧b.id=id) },y.1=j+1∧i - y.1 < i - j:=fun hh=>⟨⟨j+1,by omega,hh⟩,rfl,by simp only;omega⟩
    by_cases h5:bk=4
    ·by_cases h6:bid=id
     ·have hT:kDh pre ⟨4,id,par,nm,dir,ops⟩=true:=by rw[hcl,hn];simp[h5,h6]
      have h7:=hcb _ hT
      rw[if_pos rfl]at h7
      rw[← h7,if_pos (by omega)]at e0
      simp only[aR,seval,h5,h6,hk0,show ((j:Int) ≥ 0)=True from eq_true (by omega)]
      refine ⟨_,rfl,?_⟩
      simp only[aR,seval,e0]
     ·obtain ⟨y,hy,hy2⟩:=go (by rw[hn];simp[h6])
      simp only[aR,seval,h5,h6,hk0,wO (n:=(j:Int)+1)]
      refine keep_end y hy2 ?_ ?_ (keep_new ?_ fun _ _ h=>h) ⟨rfl,rfl,rfl⟩
      ·omega
      ·simp only[aR,seval,hy]<;>(and_intros<;>first|rfl|omega|trivial)
      ·intro o x h
       simp only[upd]at h
       repeat' split at h
       all_goals first|omega|cases h
    ·obtain ⟨y,hy,hy2⟩:=go (by rw[hn];simp[h5])
     simp only[aR,seval,h5,hk0,wO (n:=(j:Int)+1)]
     refine keep_end y hy2 ?_ ?_ (keep_new ?_ fun _ _ h=>h) ⟨rfl,rfl,rfl⟩
     ·omega
     ·simp only[aR,seval,hy]<;>(and_intros<;>first|rfl|omega|trivial)
     ·intro o x h
      simp only[upd]at h
      repeat' split at h
      all_goals first|omega|cases h
   ·have hF:kDh pre ⟨4,id,par,nm,dir,ops⟩=false:=by rw[hcl,hn,List.drop_of_length_le (by omega)];rfl
    have h7:=hcb _ hF
    rw[if_neg (by simp)]at h7
    simp only[aR,seval,h2,wO (n:=(i:Int)+1)]
    refine kN ⟨i+1,by omega,h7⟩ (by simp only;omega) ?_
    rw[hSt];refine kO [] [] ?_
    simp only[aR,seval]<;>(and_intros<;>first|rfl|omega|trivial)
  ·rw[if_neg (fun hh=>h4 hh.1)]at hc
   simp only[aR,seval,h1,h4,wO (n:=(i:Int)+1)]
   refine kN ⟨i+1,by omega,hc⟩ (by simp only;omega) ?_
   rw[hSt];refine kO [] [] ?_
   simp only[aR,seval]<;>(and_intros<;>first|rfl|omega|trivial)
 ·rw[List.drop_of_length_le (by omega),kAE]at hc
  rw[← hc,if_neg (by simp)]at e0
  simp only[aR,seval,h]
  refine call_puts (by simp[kC]) rfl hl ho ?_
  by_cases hp:(putS l:Int) > 2000
  ·rw[if_pos hp]at e0
   simp only[aR,seval,hp,e0]
  ·rw[if_neg hp]at e0
   simp only[aR,seval,hp,e0]
end Go.Proofs
-- HUo6
namespace Go.Proofs
open Go Go.Rw
def ofBad (n a b:Int) (t:List UInt8):Prop:=a < 0∨b < a∨n < b∨pts t=none
instance (n a b:Int) (t:List UInt8):Decidable (ofBad n a b t):=by unfold ofBad;exact inferInstance
end Go.Proofs
-- HUo7
namespace Go.Proofs
open Go Go.Rw
theorem addI_eq {n m:Int} (h1:n+m≤1099511627776):addI n m=n+m:=by unfold addI;omega
end Go.Proofs
-- HUo8
namespace Go.Proofs
open Go Go.Rw
def sumF (x:Int) (ys:List Int):Int:=ys.foldl addI x
theorem sumF_top:∀ (ys:List Int),(∀ y∈ys,0≤y)→sumF 1099511627776 ys=1099511627776
 | [],_=>rfl
 | y::ys,h=>by
   show sumF (addI 1099511627776 y) ys=_
   have:=h y (by simp)
   rw[show addI 1099511627776 y=1099511627776 by unfold addI;omega,sumF_top ys fun z hz=>h z (by simp[hz])]
abbrev Sm:={ p:Int×List Int // (0≤p.1∧p.1≤1099511627776)∧(∀ y∈p.2,0≤y∧y≤9223372036854775807)∧p.2.length≤9223372036854775807 }
abbrev kFy:Con where
 ι:=Sm
 args:=fun p=>[.v (.int .i64 p.1.1),.sl 0 1 (ints .i64 p.1.2)]
 post:=fun p r=>r = .v (.int .i64 (sumF p.1.1 p.1.2))
 plain:=true
theorem kEq:Rw.Good Tryz.prog 32 kFy:=by
 have hΓ:kK Tryz.prog []:=kI
 refine kZ (nn:=30) hΓ Tryz.func32 (by kernel_rfl) rfl (show Tryz.f32.results.toList=[.tmp 4] from rfl) (fun _=>rfl) (fun _=>rfl) ?_
 rintro ⟨⟨x,ys⟩,hx,hy,hl⟩
 simp only at hx hy hl
 simp only[aR,seval,jN]
 obtain ⟨St,hSt⟩:∃ St:{ p:Int×Nat // p.2≤ys.length∧(0≤p.1∧p.1≤1099511627776)∧sumF x ys=sumF p.1 (ys.drop p.2) }→AS,∀ p,St p=AS.of 30 [(0,.v (.int .i64 p.1.1)),(1,.sl 0 1 (ints .i64 ys)),(5,.v (.int .i64 p.1.2))] [] []:=⟨_,fun _=>rfl⟩
 refine qE hΓ St (fun p=>ys.length - p.1.2) ⟨(x,0),by omega,hx,rfl⟩ (by rw[hSt];refine kO [] [] ?_;simp only[aR,seval]<;>(and_intros<;>first|rfl|omega|trivial)) ?_
 rintro ⟨⟨s,i⟩,hi,hs,hb⟩
 simp only at hi hs hb
 rw[hSt]
 simp only
 simp only[aR,seval,jN]
 (with_reducible first|refine kE (fun h=>?_) (fun h=>?_)|refine kF (fun h=>?_) (fun h=>?_))
 ·have hlt:i < ys.length:=by omega
  have hyi:=hy ys[i] (List.getElem_mem hlt)
  have hge:∀ y∈ys.drop i,0≤y:=fun y hm=>(hy y (List.mem_of_mem_drop hm)).1
  rw[List.drop_eq_getElem_cons hlt]at hb hge
  have e1:(ints .i64 ys).getD i .any = .v (.int .i64 ys[i]):=by simp[ints,List.getD_eq_getElem?_getD,hlt]
  have hs2:¬ s > 1099511627776:=by omega
  have early:ys[i] > 1099511627776 - s→sumF x ys=1099511627776:=fun h=>by
   rw[hb]
   show sumF (addI s ys[i]) _=_
   rw[show addI s ys[i]=1099511627776 by unfold addI;omega,sumF_top _ fun z hz=>hge z (List.mem_cons_of_mem _ hz)]
  generalize ys[i]=y at *
  simp (disch:=omega) only[aR,seval,kD,h,hs2,e1,jN]
  repeat (with_reducible refine And.intro ?_ ?_;focus first|omega|kernel_rfl)
  (with_reducible first|refine kE (fun h2=>?_) (fun h2=>?_)|refine kF (fun h2=>?_) (fun h2=>?_))
  ·simp (disch:=omega) only[aR,seval,kD,h2,e1,jN]
   rw[early h2]
  ·simp (disch:=omega) only[aR,seval,kD,h2,e1,jN]
   repeat (with_reducible refine And.intro ?_ ?_;focus first|omega|kernel_rfl)
   have hr:addI s y=s+y:=addI_eq (by omega)
   refine kN ⟨(s+y,i+1),by simp only;omega,by simp only;omega,by rw[hb,← hr];rfl⟩ (by simp only;omega) ?_
   rw[hSt];refine kO [] [] ?_
   simp only[aR,seval]<;>(and_intros<;>first|rfl|omega|trivial)
 ·simp only[aR,seval,h]
  rw[List.drop_of_length_le (by omega)]at hb
  rw[hb];rfl
theorem kDk {Γ:Env} (hf:Γ.get 32=some kFy) {σ:AS} {dr:Bool} {x:Int} {y:List Int} {t:Nat} {ys:List AV} {d:Option Nat} {K:AS→Prop} (hy:ys=ints .i64 y) (h1:0≤x∧x≤1099511627776) (h2:∀ z∈y,0≤z∧z≤9223372036854775807) (h3:y.length≤9223372036854775807)
    (hk:cont σ d (.v (.int .i64 (sumF x y))) K):kS Tryz.prog Γ dr σ 32 [.v (.int .i64 x),.sl t 1 ys] d K:=by
 subst hy
 exact kP (C:=kFy) (i:=⟨(x,y),h1,h2,h3⟩) hf rfl rfl rfl rfl (fun _ h=>h) rfl hk
theorem kAQ:∀ (ys:List Int) {x:Int},(0≤x∧x≤1099511627776)→(∀ y∈ys,0≤y)→x≤sumF x ys∧sumF x ys≤1099511627776
 | [],x,h,_=>by simp [sumF];omega
 | y::ys,x,h,hy=>by
   have h1:=hy y (by simp)
   have h2:=zA h.1 h1
   have h3:x≤addI x y:=by unfold addI;omega
   have h4:=kAQ ys h2 fun z hz=>hy z (by simp[hz])
   show x≤sumF (addI x y) ys∧sumF (addI x y) ys≤_
   omega
def zS (m:Int):Int→List Cp→Int
 | s,[]=>s
 | s,c::r=>if s≤m then zS m (sumF s [c.t.length,2]) r else s
theorem compsF_le {m:Int} (hm:m < 1099511627776):∀ (l:List Cp) {s:Int},0≤s→zS m s l≤m→s+tot l+2 * l.length≤m
 | [],s,_,h=>by simp only [zS] at h;simp [tot];exact h
 | c::r,s,hs,h=>by
   simp only[zS]at h
   split at h
   ·rename_i h1
    have e:sumF s [(c.t.length:Int),2]=addI (addI s c.t.length) 2:=rfl
    have h2:0≤addI (addI s c.t.length) 2:=by unfold addI;omega
    rw[e]at h
    have h3:=compsF_le hm r h2 h
    simp only[tot,List.length_cons]
    have h4:addI (addI s c.t.length) 2≤m:=by omega
    have h5:addI (addI s c.t.length) 2=s+c.t.length+2:=by unfold addI at h4 ⊢;omega
    omega
   ·omega
abbrev Wide:={ l:List Cp // l.length≤9223372036854775807∧∀ c∈l,c.t.length≤9223372036854775807 }
end Go.Proofs
-- HUo9
namespace Go.Proofs
open Go Go.Rw
def fol (q k:Int):Bool:=!(decide (q=k) || (decide (q=3) && decide (k=2)))
def neat (c:Cp):Bool:=if c.k=2 then decide (c.n=0) && decide (c.t≠[]) else (decide (c.k=1) || decide (c.k=3)) && decide (0 < c.n) && decide (c.n≤1099511627776) && decide (c.t=[])
def shape:Int→List Cp→Bool
 | _,[]=>true
 | q,c::r=>neat c && fol q c.k && shape c.k r
end Go.Proofs
-- HUo10
namespace Go.Proofs
open Go Go.Rw
def tn:List Cp→Int
 | []=>0
 | c::r=>max c.n 0+tn r
def sumN:Int→List Cp→Int
 | s,[]=>s
 | s,c::r=>sumN (addI s (max c.n 0)) r
theorem tn_pos:∀ l:List Cp,0≤tn l
 | []=>by simp [tn]
 | c::r=>by simp only [tn];have:=tn_pos r;omega
theorem sumN_eq:∀ (l:List Cp) {s:Int},(0≤s∧s≤1099511627776)→sumN s l=min (s+tn l) 1099511627776
 | [],s,h=>by simp only [sumN,tn];omega
 | c::r,s,h=>by
   have h2:=zA h.1 (show 0≤max c.n 0 by omega)
   have:=tn_pos r
   simp only[sumN,tn]
   rw[sumN_eq r h2]
   unfold addI
   omega
def allV (l:List Cp):Bool:=l.all fun c=>(pts c.t).isSome
theorem addI_z {x:Int} (h:x≤1099511627776):addI x 0=x:=by unfold addI;omega
end Go.Proofs
