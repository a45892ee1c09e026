/-
 Which edits may be. Parts put behind others;the normal form. The document's normal form. Parts held against each other;edits that are alike. Names: what may be one. Transactions: their acts,one by one. txn.names,Plain,same. Transactions: whether they may be. txn.one,puts,Check. An edit of a place;what does nothing;the law's own readiness. OpOf answers true. Sums,held;how much an edit takes. Laws of the normal form. What the normal form keeps.
-/
import Derived.Test.YtnpofobcbfbfnaaGreatDoorXHSh
set_option linter.unusedSimpArgs false
set_option linter.unusedVariables false
set_option linter.defProp false
set_option linter.unusedSectionVars false

-- HUo2
section
namespace Go.Proofs
open Go Go.Rw
set_option maxRecDepth 100000
abbrev soundCon:Con:=partCon qW
def ahead (l:List Cp) (i:Nat):Option Cp:=if i=0 then none else l[i - 1]?
abbrev kAE:Con where
 ι:=Ed
 args:=fun l=>[.sl 0 3 (qD l.1)]
 post:=fun l r=>r = .v (.bool (qP l.1))
 plain:=true
theorem normal_good:Rw.Good Tryz.prog 126 kAE:=by
 have hΓ:kK Tryz.prog [(145,soundCon)]:=(kH sound_good kJ)
 refine kW (nn:=45) hΓ Tryz.func126 (by kernel_rfl) rfl (show Tryz.f126.results.toList=[.tmp 2] from rfl) (fun _=>rfl) (fun _=>rfl) ?_
 rintro ⟨l,hl,htot,hc⟩
 simp only[aR,seval,kL]
 obtain ⟨St,hSt⟩:∃ St:{ i:Nat // i≤l.length∧qP l=zY (ahead l i) (l.drop i) }→AS,∀ i,St i=AS.of 45 [(0,.sl 0 3 (qD l)),(5,.sl 0 3 (qD l)),(6,.v (.int .i64 l.length)),(7,.v (.int .i64 i.1))] [] []:=⟨_,fun _=>rfl⟩
 refine qE hΓ St (fun i=>l.length - i.1) ⟨0,by omega,rfl⟩ (by rw[hSt];refine kO [] [] ?_;simp only[aR,seval]<;>((repeat' apply And.intro)<;>first|rfl|omega|trivial)) ?_
 rintro ⟨i,hi,hb⟩
 rw[hSt]
 simp only
 simp only[aR,seval]
 (with_reducible first|refine kE (fun h=>?_) (fun h=>?_)|refine kG (fun h=>?_) (fun h=>?_))
 ·have hlt:i < l.length:=by omega
  have hci:=okL.text ⟨hl,htot,hc⟩ (List.getElem_mem hlt)
  have e1:=qL l hlt
  rw[List.drop_eq_getElem_cons hlt]at hb
  simp only[zY]at hb
  have hne:ahead l (i+1)=some l[i]:=by simp[ahead,hlt]
  rw[← hne]at hb
  simp (disch:=omega) only[aR,seval,kC,h,e1,kL]
  (repeat (with_reducible refine And.intro ?_ ?_;focus (first|omega|exact kF|kernel_rfl)))
  refine call_sound (by simp[kD]) hci ?_
  have again:∀ σ:AS,Weak σ (AS.of 45 [(0,.sl 0 3 (qD l)),(5,.sl 0 3 (qD l)),(6,.v (.int .i64 l.length)),(7,.v (.int .i64 (i+1:Nat)))] [] [])→qP l=zY (ahead l (i+1)) (l.drop (i+1))→∀ (x:{ i:Nat // i≤l.length∧qP l=zY (ahead l i) (l.drop i) }),x.1=i→kFJ St (fun i=>l.length - i.1) x σ:=fun σ hw hb2 x hx =>
   kN ⟨i+1,by omega,hb2⟩ (by simp only;omega) (by rw[hSt];exact hw)
  cases hs:qW l[i] with
  | false =>
    simp only[aR,seval,hs]
    rw[hb,hs];rfl
  | true =>
    rw[hs,Bool.true_and]at hb
    by_cases h0:i=0
    ·subst h0
     simp only[aR,seval,hs]
     have hb3:qP l=zY (ahead l (0+1)) (l.drop (0+1)):=by
      rw[hb];rfl
     refine again _ ?_ hb3 _ rfl
     refine kO [] [] ?_
     simp only[aR,seval]<;>((repeat' apply And.intro)<;>first|rfl|omega|trivial)
    ·have hp:ahead l i=some l[i - 1]:=by simp[ahead,h0]
     have e2:(qD l).getD (i - 1) .any = .agg [.v (.int .i64 l[i - 1].k),.v (.int .i64 l[i - 1].n),.v (sv l[i - 1].t)]:=qL l (by omega)
     have e3:((i:Int) - 1).toNat=i - 1:=by omega
     rw[hp]at hb
     simp only at hb
     simp (disch:=omega) only[aR,seval,kC,hs,show (i:Int) > 0 by omega,kL,e3,e2]
     (repeat (with_reducible refine And.intro ?_ ?_;focus (first|omega|exact kF|kernel_rfl)))
     have fol:follows l[i - 1] l[i]=true→qP l=zY (ahead l (i+1)) (l.drop (i+1)):=fun h=>by rw[hb,h,Bool.true_and]
     have nof:follows l[i - 1] l[i]=false→qP l=false:=fun h=>by rw[hb,h,Bool.false_and]
     (try ((with_reducible first|refine kE (fun q1=>?_) (fun q1=>?_)|refine kG (fun q1=>?_) (fun q1=>?_))<;>simp (disch:=omega) only[aR,seval,kC,q1,kL,e3,e2]<;>(with_reducible first|(refine And.intro ?_ ?_;focus (first|omega|exact kF|kernel_rfl));(repeat (with_reducible refine And.intro ?_ ?_;focus (first|omega|exact kF|kernel_rfl)));(try simp (disch:=omega) only[aR,seval,kC,q1,kL,e3,e2])|skip)<;>(try ((with_reducible first|refine kE (fun q2=>?_) (fun q2=>?_)|refine kG (fun q2=>?_) (fun q2=>?_))<;>simp (disch:=omega) only[aR,seval,kC,q2,kL,e3,e2]<;>(with_reducible first|(refine And.intro ?_ ?_;focus (first|omega|exact kF|kernel_rfl));(repeat (with_reducible refine And.intro ?_ ?_;focus (first|omega|exact kF|kernel_rfl)));(try simp (disch:=omega) only[aR,seval,kC,q2,kL,e3,e2])|skip)<;>(try ((with_reducible first|refine kE (fun q3=>?_) (fun q3=>?_)|refine kG (fun q3=>?_) (fun q3=>?_))<;>simp (disch:=omega) only[aR,seval,kC,q3,kL,e3,e2]<;>(with_reducible first|(refine And.intro ?_ ?_;focus (first|omega|exact kF|kernel_rfl));(repeat (with_reducible refine And.intro ?_ ?_;focus (first|omega|exact kF|kernel_rfl)));(try simp (disch:=omega) only[aR,seval,kC,q3,kL,e3,e2])|skip)<;>(try ((with_reducible first|refine kE (fun q4=>?_) (fun q4=>?_)|refine kG (fun q4=>?_) (fun q4=>?_))<;>simp (disch:=omega) only[aR,seval,kC,q4,kL,e3,e2]<;>(with_reducible first|(refine And.intro ?_ ?_;focus (first|omega|exact kF|kernel_rfl));(repeat (with_reducible refine And.intro ?_ ?_;focus (first|omega|exact kF|kernel_rfl)));(try simp (disch:=omega) only[aR,seval,kC,q4,kL,e3,e2])|skip)<;>skip))))))))
     all_goals first
      | (rw [nof (by simp [follows];omega)])
      | (refine again _ ?_ (fol (by simp [follows];omega)) _ rfl
         refine kO [] [] ?_
         simp only[aR,seval]<;>((repeat' apply And.intro)<;>first|rfl|omega|trivial))
      | trace_state
 ·simp only[aR,seval,h]
  rw[List.drop_of_length_le (by omega)]at hb
  rw[hb];rfl
theorem call_normal {Γ:Env} (hf:Γ.get 126=some kAE) {σ:AS} {dr:Bool} {l:List Cp} {t:Nat} {ys:List AV} {d:Option Nat} {K:AS→Prop} (hy:ys=qD l) (h:okL l)
    (hk:cont σ d (.v (.bool (qP l))) K):kS Tryz.prog Γ dr σ 126 [.sl t 3 ys] d K:=by
 subst hy
 exact kR (C:=kAE) (i:=⟨l,h⟩) hf rfl rfl rfl rfl (fun _ h=>h) rfl hk
abbrev kAA:Con where
 ι:=Ed
 args:=fun l=>[.sl 0 3 (qD l.1)]
 post:=fun l r=>r = .v (.int .i64 (qQ l.1))
 plain:=true
theorem kGF:Rw.Good Tryz.prog 102 kAA:=by
 have hΓ:kK Tryz.prog [(126,kAE),(122,kAk),(127,kEE)]:=(kH normal_good (kH base_good (kH out_good kJ)))
 refine kW (nn:=20) hΓ Tryz.func102 (by kernel_rfl) rfl (show Tryz.f102.results.toList=[.tmp 2] from rfl) (fun _=>rfl) (fun _=>rfl) ?_
 rintro ⟨l,hl⟩
 simp only[aR,seval,kL]
 have c1:100 < (l.length:Int)→qQ l=3:=fun h=>by rw[qQ,if_pos (by omega)]
 have c2:¬ 100 < (l.length:Int)→qP l=false→qQ l=1:=fun h h2=>by rw[qQ,if_neg (by omega),if_pos h2]
 have c3:¬ 100 < (l.length:Int)→qP l=true→(kAN l > 2000∨outL l > 2000)→qQ l=3:=fun h h2 h3=>by rw[qQ,if_neg (by omega),if_neg (by rw[h2];decide),if_pos h3]
 have c4:¬ 100 < (l.length:Int)→qP l=true→¬ (kAN l > 2000∨outL l > 2000)→qQ l=0:=fun h h2 h3=>by rw[qQ,if_neg (by omega),if_neg (by rw[h2];decide),if_neg h3]
 (with_reducible first|refine kE (fun h=>?_) (fun h=>?_)|refine kG (fun h=>?_) (fun h=>?_))
 ·simp only[aR,seval,h,c1 (by omega)]
 ·simp only[aR,seval,h]
  refine call_normal (by simp[kD]) rfl hl ?_
  cases hn:qP l with
  | false=>simp only [aR,seval,hn,c2 (by omega) hn]
  | true =>
    simp only[aR,seval,hn]
    refine call_base (by simp[kD]) rfl hl ?_
    simp only[aR,seval]
    (with_reducible first|refine kE (fun h1=>?_) (fun h1=>?_)|refine kG (fun h1=>?_) (fun h1=>?_))
    ·simp only[aR,seval,h1,c3 (by omega) hn (.inl (by omega))]
    ·simp only[aR,seval,h1]
     refine call_out (by simp[kD]) rfl hl ?_
     simp only[aR,seval]
     (with_reducible first|refine kE (fun h2=>?_) (fun h2=>?_)|refine kG (fun h2=>?_) (fun h2=>?_))
     ·simp only[aR,seval,h2,c3 (by omega) hn (.inr (by omega))]
     ·simp only[aR,seval,h2,c4 (by omega) hn (by omega)]
theorem kG8 {Γ:Env} (hf:Γ.get 102=some kAA) {σ:AS} {dr:Bool} {l:List Cp} {t:Nat} {ys:List AV} {d:Option Nat} {K:AS→Prop} (hy:ys=qD l) (h:okL l)
    (hk:cont σ d (.v (.int .i64 (qQ l))) K):kS Tryz.prog Γ dr σ 102 [.sl t 3 ys] d K:=by
 subst hy
 exact kR (C:=kAA) (i:=⟨l,h⟩) hf rfl rfl rfl rfl (fun _ h=>h) rfl hk
end Go.Proofs
end
-- HUo3
section
namespace Go.Proofs
open Go Go.Rw
set_option maxRecDepth 100000
end Go.Proofs
end
-- HUo4
section
namespace Go.Proofs
open Go Go.Rw
set_option maxRecDepth 100000
def heldI (a b:Int):Int:=min (min (max a 0) 1099511627776+min (max b 0) 1099511627776) 1099511627776
theorem heldI_eq {a b:Int} (ha:0≤a∧a≤1099511627776):heldI a b=addI a (max b 0):=by unfold heldI addI;omega
abbrev kFY:Con where
 ι:=I64×I64
 args:=fun p=>[.v (.int .i64 p.1.1),.v (.int .i64 p.2.1)]
 post:=fun p r=>r = .v (.int .i64 (heldI p.1.1 p.2.1))
 plain:=true
theorem held_good:Rw.Good Tryz.prog 116 kFY:=by
 have hΓ:kK Tryz.prog []:=kJ
 refine kW (nn:=15) hΓ Tryz.func116 (by kernel_rfl) rfl (show Tryz.f116.results.toList=[.tmp 4] from rfl) (fun _=>rfl) (fun _=>rfl) ?_
 rintro ⟨⟨a,ha1,ha2⟩,⟨b,hb1,hb2⟩⟩
 simp (disch:=omega) only[aR,seval,kC,zU,min2_int]
 unfold heldI
 rfl
theorem kFk {Γ:Env} (hf:Γ.get 116=some kFY) {σ:AS} {dr:Bool} {a b:Int} {d:Option Nat} {K:AS→Prop} (ha:0≤a∧a≤1099511627776) (hb:-9223372036854775808≤b∧b≤9223372036854775807)
    (hk:cont σ d (.v (.int .i64 (addI a (max b 0)))) K):kS Tryz.prog Γ dr σ 116 [.v (.int .i64 a),.v (.int .i64 b)] d K :=
 kR (C:=kFY) (i:=(⟨a,by omega,by omega⟩,⟨b,hb⟩)) hf rfl rfl rfl rfl (fun _ h=>h) rfl (by rw[heldI_eq ha];exact hk)
end Go.Proofs
end
-- HUo5
section
namespace Go.Proofs
open Go Go.Rw
set_option maxRecDepth 100000
section
variable {P:Program}
theorem jK {t:TypeId} {cs:Array Value} {off:Nat} {v:Value} {td:TypeDesc} (ht:P.underlying t=some td) (ha:(match td with|.struct _|.array _ _=>true|_=>false)=false) (hv:cs[off]? = some v):calm P (part t cs off)=some v:=by
 simp only[part,isAgg,underlying,kY,qH,Option.bind_some,ht,z7]
 cases td<;>first|(cases ha;done)|(simp[hv,kY])
theorem kEU {d:Nat} {t:TypeId} {k k':IntKind} {a b:Int} (h:P.underlying t=some (.int k')):calm P (Op.equalIn (d+1) t (.int k a) (.int k b))=some (a == b):=by
 simp[Op.equalIn,kY,underlying,h]
theorem kEb {d:Nat} {t:TypeId} {a b:List UInt8} (h:P.underlying t=some .string):calm P (Op.equalIn (d+1) t (.string ⟨a.toArray⟩) (.string ⟨b.toArray⟩))=some (a == b):=by
 simp[Op.equalIn,kY,underlying,h]
 show (a.toArray == b.toArray)=(a == b)
 simp
theorem calm_eq3 {d:Nat} {t ti ts:TypeId} {k:IntKind} {f1 f2 f3:Field} {a b a' b':Int} {s s':List UInt8} (ht:P.underlying t=some (.struct #[f1,f2,f3])) (hp:P.stoodInHeld t=false) (hi:P.underlying ti=some (.int k)) (hs:P.underlying ts=some .string)
    (h1 : f1.type = ti ∧ f1.offset = 0 ∧ f1.name ≠ "_") (h2 : f2.type = ti ∧ f2.offset = 1 ∧ f2.name ≠ "_") (h3 : f3.type = ts ∧ f3.offset = 2 ∧ f3.name ≠ "_") :
    calm P (Op.equalIn (d+2) t (.agg #[.int .i64 a,.int .i64 b,.string ⟨s.toArray⟩]) (.agg #[.int .i64 a',.int .i64 b',.string ⟨s'.toArray⟩]))=some (a == a' && b == b' && s == s'):=by
 obtain ⟨rfl,o1,n1⟩:=h1
 obtain ⟨e2,o2,n2⟩:=h2
 obtain ⟨rfl,o3,n3⟩:=h3
 have p0:∀ (a b:Int) (s:List UInt8),calm P (part f1.type #[.int .i64 a,.int .i64 b,.string ⟨s.toArray⟩] 0)=some (.int .i64 a):=fun a b s=>jK hi rfl rfl
 have p1:∀ (a b:Int) (s:List UInt8),calm P (part f1.type #[.int .i64 a,.int .i64 b,.string ⟨s.toArray⟩] 1)=some (.int .i64 b):=fun a b s=>jK hi rfl rfl
 have p2:∀ (a b:Int) (s:List UInt8),calm P (part f3.type #[.int .i64 a,.int .i64 b,.string ⟨s.toArray⟩] 2)=some (.string ⟨s.toArray⟩):=fun a b s=>jK hs rfl rfl
 rw[Op.equalIn]
 simp only[kY,underlying,qH,Option.bind_some,ht,z7,hp,Bool.false_eq_true,if_false,← Array.forIn_toList,List.forIn_cons,List.forIn_nil,n1,n2,n3,o1,o2,o3,e2,p0,p1,p2,kEU hi,kEb hs,if_true,ne_eq,not_false_eq_true]
 by_cases c1:a=a'<;>by_cases c2:b=b'<;>by_cases c3:s=s'<;>simp[c1,c2,c3,kY,p0,p1,p2,kEU hi,kEb hs]
theorem bin_neq3 {t ti ts:TypeId} {x y:Operand} {k:IntKind} {f1 f2 f3:Field} {a b a' b':Int} {s s':List UInt8} (hg:P.eqGuardType P.depth t=false) (ht:P.underlying t=some (.struct #[f1,f2,f3])) (hp:P.stoodInHeld t=false) (hi:P.underlying ti=some (.int k)) (hs:P.underlying ts=some .string)
    (h1 : f1.type = ti ∧ f1.offset = 0 ∧ f1.name ≠ "_") (h2 : f2.type = ti ∧ f2.offset = 1 ∧ f2.name ≠ "_") (h3 : f3.type = ts ∧ f3.offset = 2 ∧ f3.name ≠ "_") :
    binA P .neq t x y (.agg [.v (.int .i64 a),.v (.int .i64 b),.v (sv s)]) (.agg [.v (.int .i64 a'),.v (.int .i64 b'),.v (sv s')])=some (.v (.bool (decide (¬ (a=a'∧b=b'∧s=s'))))):=by
 have e:Op.maxDepth=9998+2:=rfl
 have hq:=calm_eq3 (P:=P) (d:=9998) (a:=a) (b:=b) (a':=a') (b':=b') (s:=s) (s':=s') ht hp hi hs h1 h2 h3
 unfold binA
 rw[show binV P .neq t x y (.agg [.v (.int .i64 a),.v (.int .i64 b),.v (sv s)]) (.agg [.v (.int .i64 a'),.v (.int .i64 b'),.v (sv s')])=none from rfl]
 simp only[kCl,kA2,Option.map_some,Option.none_or,res,kY,eqGuard,sv,qH,Option.bind_some,hg]
 simp[kY,kDU,binOp,Op.equal,e,hq,hg]
 by_cases c1:a=a'<;>by_cases c2:b=b'<;>by_cases c3:s=s'<;>simp[c1,c2,c3]
def is3 (P:Program) (t ti ts:TypeId):Bool:=match P.underlying t with
 | some (.struct fs)=>match fs.toList with
   | [f1, f2, f3] => (f1.type == ti && (f1.offset == 0 && f1.name != "_")) && ((f2.type == ti && (f2.offset == 1 && f2.name != "_")) && (f3.type == ts && (f3.offset == 2 && f3.name != "_")))
   | _=>false
 | _=>false
theorem bin_neq4 {t ti ts:TypeId} {x y:Operand} {k:IntKind} {a b a' b':Int} {s s':List UInt8} (hg:P.eqGuardType P.depth t=false) (h3:is3 P t ti ts=true) (hp:P.stoodInHeld t=false) (hi:P.underlying ti=some (.int k)) (hs:P.underlying ts=some .string) :
    binA P .neq t x y (.agg [.v (.int .i64 a),.v (.int .i64 b),.v (sv s)]) (.agg [.v (.int .i64 a'),.v (.int .i64 b'),.v (sv s')])=some (.v (.bool (decide (¬ (a=a'∧b=b'∧s=s'))))):=by
 unfold is3 at h3
 split at h3
 ·rename_i fs hf
  split at h3
  ·rename_i f1 f2 f3 hl
   have:fs = #[f1,f2,f3]:=by rw[← hl]
   subst this
   simp only[Bool.and_eq_true,beq_iff_eq,bne_iff_ne]at h3
   exact bin_neq3 hg hf hp hi hs h3.1 h3.2.1 h3.2.2
  ·cases h3
 ·cases h3
end
theorem comp_neq {x y:Operand} {a b a' b':Int} {s s':List UInt8}:binA Tryz.prog .neq 103 x y (.agg [.v (.int .i64 a),.v (.int .i64 b),.v (sv s)]) (.agg [.v (.int .i64 a'),.v (.int .i64 b'),.v (sv s')])=some (.v (.bool (decide (¬ (a=a'∧b=b'∧s=s'))))) :=
 bin_neq4 (ti:=3) (ts:=9) (k:=.i64) (by kernel_rfl) (by kernel_rfl) (by kernel_rfl) (by kernel_rfl) (by kernel_rfl)
abbrev Cps:={ p:List Cp×List Cp // p.1.length≤4000000000000∧p.2.length≤4000000000000 }
abbrev kDh:Con where
 ι:=Cps
 args:=fun p=>[.sl 0 3 (qD p.1.1),.sl 0 3 (qD p.1.2)]
 post:=fun p r=>r = .v (.bool (decide (p.1.1=p.1.2)))
 plain:=true
theorem call_same {Γ:Env} {f:Nat} (hf:Γ.get f=some kDh) {σ:AS} {dr:Bool} {x y:List Cp} {s t:Nat} {xs ys:List AV} {d:Option Nat} {K:AS→Prop} (hx:xs=qD x) (hy:ys=qD y) (h1:x.length≤4000000000000) (h2:y.length≤4000000000000)
    (hk:cont σ d (.v (.bool (decide (x=y)))) K):kS Tryz.prog Γ dr σ f [.sl s 3 xs,.sl t 3 ys] d K:=by
 subst hx;subst hy
 exact kR (C:=kDh) (i:=⟨(x,y),h1,h2⟩) hf rfl rfl rfl rfl (fun _ h=>h) rfl hk
theorem drop_eq2 {x y:List Cp} {i:Nat} (h1:i < x.length) (h2:i < y.length):(x.drop i=y.drop i)↔((x[i].k=y[i].k∧x[i].n=y[i].n∧x[i].t=y[i].t)∧x.drop (i+1)=y.drop (i+1)):=by
 rw[List.drop_eq_getElem_cons h1,List.drop_eq_getElem_cons h2,List.cons.injEq]
 constructor
 ·rintro ⟨h,h3⟩;exact ⟨by rw[h];exact ⟨rfl,rfl,rfl⟩,h3⟩
 ·rintro ⟨⟨a,b,c⟩,h3⟩
  refine ⟨?_,h3⟩
  generalize x[i]=u at *
  generalize y[i]=v at *
  cases u;cases v
  simp only at a b c
  subst a;subst b;subst c;rfl
theorem rsame_good:Rw.Good Tryz.prog 84 kDh:=by
 have hΓ:kK Tryz.prog []:=kJ
 refine kW (nn:=54) hΓ Tryz.func84 (by kernel_rfl) rfl (show Tryz.f84.results.toList=[.tmp 4] from rfl) (fun _=>rfl) (fun _=>rfl) ?_
 rintro ⟨⟨x,y⟩,hx,hy⟩
 simp only at hx hy
 simp only[aR,seval,kL]
 (with_reducible first|refine kE (fun h=>?_) (fun h=>?_)|refine kG (fun h=>?_) (fun h=>?_))
 ·simp only[aR,seval,h]
  have:¬ x=y:=fun e=>h (by rw[e])
  simp[this]
 ·simp only[aR,seval,h]
  have hxy:x.length=y.length:=by omega
  obtain ⟨St,hSt⟩:∃ St:{ i:Nat // i≤x.length∧(x=y↔x.drop i=y.drop i) }→AS,∀ i,St i=AS.of 54 [(0,.sl 0 3 (qD x)),(1,.sl 0 3 (qD y)),(5,.v (.int .i64 i.1))] [] []:=⟨_,fun _=>rfl⟩
  refine qE hΓ St (fun i=>x.length - i.1) ⟨0,by omega,Iff.rfl⟩ (by rw[hSt];refine kO [] [] ?_;simp only[aR,seval]<;>((repeat' apply And.intro)<;>first|rfl|omega|trivial)) ?_
  rintro ⟨i,hi,hb⟩
  rw[hSt]
  simp only
  simp only[aR,seval,kL]
  (with_reducible first|refine kE (fun h2=>?_) (fun h2=>?_)|refine kG (fun h2=>?_) (fun h2=>?_))
  ·have h3:i < x.length:=by omega
   have h4:i < y.length:=by omega
   have e1:=qL x h3
   have e2:=qL y h4
   rw[drop_eq2 h3 h4]at hb
   have again:∀ σ:AS,Weak σ (AS.of 54 [(0,.sl 0 3 (qD x)),(1,.sl 0 3 (qD y)),(5,.v (.int .i64 (i+1:Nat)))] [] [])→(x[i].k=y[i].k∧x[i].n=y[i].n∧x[i].t=y[i].t)→∀ (z:{ i:Nat // i≤x.length∧(x=y↔x.drop i=y.drop i) }),z.1=i→kFJ St (fun i=>x.length - i.1) z σ:=fun σ hw h z hz =>
    kN ⟨i+1,by omega,by rw[hb];exact ⟨fun a=>a.2,fun a=>⟨h,a⟩⟩⟩ (by simp only;omega) (by rw[hSt];exact hw)
   have no:¬ (x[i].k=y[i].k∧x[i].n=y[i].n∧x[i].t=y[i].t)→decide (x=y)=false:=fun h=>by rw[decide_eq_false_iff_not,hb];exact fun a=>h a.1
   generalize x[i]=u at *
   generalize y[i]=v at *
   obtain ⟨k,n,t⟩:=u
   obtain ⟨k',n',t'⟩:=v
   simp only at no again e1 e2
   simp (disch:=omega) only[aR,seval,kC,h2,kL,e1,e2]
   (repeat (with_reducible refine And.intro ?_ ?_;focus (first|omega|exact kF|kernel_rfl)))
   (try ((with_reducible first|refine kE (fun q1=>?_) (fun q1=>?_)|refine kG (fun q1=>?_) (fun q1=>?_))<;>simp (disch:=omega) only[aR,seval,kC,q1,kL,e1,e2]<;>(with_reducible first|(refine And.intro ?_ ?_;focus (first|omega|exact kF|kernel_rfl));(repeat (with_reducible refine And.intro ?_ ?_;focus (first|omega|exact kF|kernel_rfl)));(try simp (disch:=omega) only[aR,seval,kC,q1,kL,e1,e2])|skip)<;>(try ((with_reducible first|refine kE (fun q2=>?_) (fun q2=>?_)|refine kG (fun q2=>?_) (fun q2=>?_))<;>simp (disch:=omega) only[aR,seval,kC,q2,kL,e1,e2]<;>(with_reducible first|(refine And.intro ?_ ?_;focus (first|omega|exact kF|kernel_rfl));(repeat (with_reducible refine And.intro ?_ ?_;focus (first|omega|exact kF|kernel_rfl)));(try simp (disch:=omega) only[aR,seval,kC,q2,kL,e1,e2])|skip)<;>(try ((with_reducible first|refine kE (fun q3=>?_) (fun q3=>?_)|refine kG (fun q3=>?_) (fun q3=>?_))<;>simp (disch:=omega) only[aR,seval,kC,q3,kL,e1,e2]<;>(with_reducible first|(refine And.intro ?_ ?_;focus (first|omega|exact kF|kernel_rfl));(repeat (with_reducible refine And.intro ?_ ?_;focus (first|omega|exact kF|kernel_rfl)));(try simp (disch:=omega) only[aR,seval,kC,q3,kL,e1,e2])|skip)<;>skip))))))
   all_goals first
    | (rw [no (by intro a;first|exact q1 a.1|exact q2 a.2.1|exact q3 a.2.2)];done)
    | (refine again _ ?_ ⟨Decidable.not_not.1 q1,Decidable.not_not.1 q2,Decidable.not_not.1 q3⟩ _ rfl
       refine kO [] [] ?_
       simp only[aR,seval]<;>((repeat' apply And.intro)<;>first|rfl|omega|trivial))
    | trace_state
  ·simp only[aR,seval,h2]
   rw[List.drop_of_length_le (by omega),List.drop_of_length_le (by omega)]at hb
   rw[decide_eq_true (hb.2 rfl)]
theorem sequal_good:Rw.Good Tryz.prog 125 kDh:=by
 have hΓ:kK Tryz.prog []:=kJ
 refine kW (nn:=26) hΓ Tryz.func125 (by kernel_rfl) rfl (show Tryz.f125.results.toList=[.tmp 4] from rfl) (fun _=>rfl) (fun _=>rfl) ?_
 rintro ⟨⟨x,y⟩,hx,hy⟩
 simp only at hx hy
 simp only[aR,seval,kL]
 (with_reducible first|refine kE (fun h=>?_) (fun h=>?_)|refine kG (fun h=>?_) (fun h=>?_))
 ·simp only[aR,seval,h]
  have:¬ x=y:=fun e=>h (by rw[e])
  simp[this]
 ·simp only[aR,seval,h]
  have hxy:x.length=y.length:=by omega
  obtain ⟨St,hSt⟩:∃ St:{ i:Nat // i≤x.length∧(x=y↔x.drop i=y.drop i) }→AS,∀ i,St i=AS.of 26 [(0,.sl 0 3 (qD x)),(1,.sl 0 3 (qD y)),(12,.v (.int .i64 x.length)),(13,.v (.int .i64 i.1))] [] []:=⟨_,fun _=>rfl⟩
  refine qE hΓ St (fun i=>x.length - i.1) ⟨0,by omega,Iff.rfl⟩ (by rw[hSt];refine kO [] [] ?_;simp only[aR,seval,kL]<;>((repeat' apply And.intro)<;>first|rfl|omega|trivial)) ?_
  rintro ⟨i,hi,hb⟩
  rw[hSt]
  simp only
  simp only[aR,seval,kL]
  (with_reducible first|refine kE (fun h2=>?_) (fun h2=>?_)|refine kG (fun h2=>?_) (fun h2=>?_))
  ·have h3:i < x.length:=by omega
   have h4:i < y.length:=by omega
   have e1:=qL x h3
   have e2:=qL y h4
   rw[drop_eq2 h3 h4]at hb
   have again:∀ σ:AS,Weak σ (AS.of 26 [(0,.sl 0 3 (qD x)),(1,.sl 0 3 (qD y)),(12,.v (.int .i64 x.length)),(13,.v (.int .i64 (i+1:Nat)))] [] [])→(x[i].k=y[i].k∧x[i].n=y[i].n∧x[i].t=y[i].t)→∀ (z:{ i:Nat // i≤x.length∧(x=y↔x.drop i=y.drop i) }),z.1=i→kFJ St (fun i=>x.length - i.1) z σ:=fun σ hw h z hz =>
    kN ⟨i+1,by omega,by rw[hb];exact ⟨fun a=>a.2,fun a=>⟨h,a⟩⟩⟩ (by simp only;omega) (by rw[hSt];exact hw)
   have no:¬ (x[i].k=y[i].k∧x[i].n=y[i].n∧x[i].t=y[i].t)→decide (x=y)=false:=fun h=>by rw[decide_eq_false_iff_not,hb];exact fun a=>h a.1
   generalize x[i]=u at *
   generalize y[i]=v at *
   obtain ⟨k,n,t⟩:=u
   obtain ⟨k',n',t'⟩:=v
   simp only at no again e1 e2
   simp (disch:=omega) only[aR,seval,kC,h2,kL,e1,e2,comp_neq]
   (repeat (with_reducible refine And.intro ?_ ?_;focus (first|omega|exact kF|kernel_rfl)))
   (with_reducible first|refine kE (fun q1=>?_) (fun q1=>?_)|refine kG (fun q1=>?_) (fun q1=>?_))
   ·simp (disch:=omega) only[aR,seval,kC,q1]
    rw[no q1]
   ·simp (disch:=omega) only[aR,seval,kC,q1]
    refine again _ ?_ (Decidable.not_not.1 q1) _ rfl
    refine kO [] [] ?_
    simp only[aR,seval]<;>((repeat' apply And.intro)<;>first|rfl|omega|trivial)
  ·simp only[aR,seval,h2]
   rw[List.drop_of_length_le (by omega),List.drop_of_length_le (by omega)]at hb
   rw[decide_eq_true (hb.2 rfl)]
end Go.Proofs
end
-- HUn1
section
namespace Go.Proofs
open Go Go.Rw
set_option maxRecDepth 100000
def zT (c:UInt8):Bool:=decide ((97≤c.toNat∧c.toNat≤122)∨(48≤c.toNat∧c.toNat≤57)∨c.toNat=46∨c.toNat=45∨c.toNat=95)
def qJ (s:List UInt8):Bool:=s.all zT && decide (1≤s.length∧s.length≤20∧s≠[46]∧s≠[46,46])
theorem bytesA_eq (l:List UInt8):kG1 l=l.map fun b=>.v (.int .u8 b.toNat):=by simp[kG1,zW]
theorem kDg (l:List UInt8):(kG1 l).length=l.length:=by simp[bytesA_eq]
theorem bytesA_getD (l:List UInt8) {i:Nat} (h:i < l.length):(kG1 l).getD i .any = .v (.int .u8 l[i].toNat):=by simp[bytesA_eq,List.getD_eq_getElem?_getD,h]
abbrev kCx:Con where
 ι:=UInt8
 args:=fun b=>[.v (.int .u8 b.toNat)]
 post:=fun b r=>r = .v (.bool (zT b))
 plain:=true
theorem letter_good:Rw.Good Tryz.prog 89 kCx:=by
 have hΓ:kK Tryz.prog []:=kJ
 refine kW (nn:=29) hΓ Tryz.func89 (by kernel_rfl) rfl (show Tryz.f89.results.toList=[.tmp 2] from rfl) (fun _=>rfl) (fun _=>rfl) ?_
 intro b
 simp only[aR,seval]
 (try ((with_reducible first|refine kE (fun q1=>?_) (fun q1=>?_)|refine kG (fun q1=>?_) (fun q1=>?_))<;>simp (disch:=omega) only[aR,seval,kC,q1]<;>(with_reducible first|(refine And.intro ?_ ?_;focus (first|omega|exact kF|kernel_rfl));(repeat (with_reducible refine And.intro ?_ ?_;focus (first|omega|exact kF|kernel_rfl)));(try simp (disch:=omega) only[aR,seval,kC,q1])|skip)<;>(try ((with_reducible first|refine kE (fun q2=>?_) (fun q2=>?_)|refine kG (fun q2=>?_) (fun q2=>?_))<;>simp (disch:=omega) only[aR,seval,kC,q2]<;>(with_reducible first|(refine And.intro ?_ ?_;focus (first|omega|exact kF|kernel_rfl));(repeat (with_reducible refine And.intro ?_ ?_;focus (first|omega|exact kF|kernel_rfl)));(try simp (disch:=omega) only[aR,seval,kC,q2])|skip)<;>(try ((with_reducible first|refine kE (fun q3=>?_) (fun q3=>?_)|refine kG (fun q3=>?_) (fun q3=>?_))<;>simp (disch:=omega) only[aR,seval,kC,q3]<;>(with_reducible first|(refine And.intro ?_ ?_;focus (first|omega|exact kF|kernel_rfl));(repeat (with_reducible refine And.intro ?_ ?_;focus (first|omega|exact kF|kernel_rfl)));(try simp (disch:=omega) only[aR,seval,kC,q3])|skip)<;>(try ((with_reducible first|refine kE (fun q4=>?_) (fun q4=>?_)|refine kG (fun q4=>?_) (fun q4=>?_))<;>simp (disch:=omega) only[aR,seval,kC,q4]<;>(with_reducible first|(refine And.intro ?_ ?_;focus (first|omega|exact kF|kernel_rfl));(repeat (with_reducible refine And.intro ?_ ?_;focus (first|omega|exact kF|kernel_rfl)));(try simp (disch:=omega) only[aR,seval,kC,q4])|skip)<;>(try ((with_reducible first|refine kE (fun q5=>?_) (fun q5=>?_)|refine kG (fun q5=>?_) (fun q5=>?_))<;>simp (disch:=omega) only[aR,seval,kC,q5]<;>(with_reducible first|(refine And.intro ?_ ?_;focus (first|omega|exact kF|kernel_rfl));(repeat (with_reducible refine And.intro ?_ ?_;focus (first|omega|exact kF|kernel_rfl)));(try simp (disch:=omega) only[aR,seval,kC,q5])|skip)<;>(try ((with_reducible first|refine kE (fun q6=>?_) (fun q6=>?_)|refine kG (fun q6=>?_) (fun q6=>?_))<;>simp (disch:=omega) only[aR,seval,kC,q6]<;>(with_reducible first|(refine And.intro ?_ ?_;focus (first|omega|exact kF|kernel_rfl));(repeat (with_reducible refine And.intro ?_ ?_;focus (first|omega|exact kF|kernel_rfl)));(try simp (disch:=omega) only[aR,seval,kC,q6])|skip)<;>(try ((with_reducible first|refine kE (fun q7=>?_) (fun q7=>?_)|refine kG (fun q7=>?_) (fun q7=>?_))<;>simp (disch:=omega) only[aR,seval,kC,q7]<;>(with_reducible first|(refine And.intro ?_ ?_;focus (first|omega|exact kF|kernel_rfl));(repeat (with_reducible refine And.intro ?_ ?_;focus (first|omega|exact kF|kernel_rfl)));(try simp (disch:=omega) only[aR,seval,kC,q7])|skip)<;>skip))))))))))))))
 all_goals (unfold zT;rw[Bool.eq_iff_iff];simp only[decide_eq_true_eq,Bool.false_eq_true,true_iff,false_iff,iff_true,iff_false];omega)
theorem call_letter {Γ:Env} (hf:Γ.get 89=some kCx) {σ:AS} {dr:Bool} {b:UInt8} {n:Int} {d:Option Nat} {K:AS→Prop} (hn:n=b.toNat)
    (hk:cont σ d (.v (.bool (zT b))) K):kS Tryz.prog Γ dr σ 89 [.v (.int .u8 n)] d K:=by
 subst hn
 exact kR (C:=kCx) (i:=b) hf rfl rfl rfl rfl (fun _ h=>h) rfl hk
abbrev kBG:Con where
 ι:=Str
 args:=fun s=>[.v (sv s.1)]
 post:=fun s r=>r = .v (.bool (qJ s.1))
 plain:=true
theorem kF3:Rw.Good Tryz.prog 68 kBG:=by
 have hΓ:kK Tryz.prog [(89,kCx)]:=(kH letter_good kJ)
 refine kW (nn:=32) hΓ Tryz.func68 (by kernel_rfl) rfl (show Tryz.f68.results.toList=[.tmp 2] from rfl) (fun _=>rfl) (fun _=>rfl) ?_
 rintro ⟨s,hs⟩
 simp only[aR,seval,kDg]
 (repeat (with_reducible refine And.intro ?_ ?_;focus (first|omega|exact kF|kernel_rfl)))
 obtain ⟨St,hSt⟩:∃ St:{ i:Nat // i≤s.length∧(s.take i).all zT=true }→AS,∀ i,St i=AS.of 32 [(0,.v (sv s)),(6,.sl 0 1 (kG1 s)),(7,.v (.int .i64 s.length)),(8,.v (.int .i64 i.1))] [] []:=⟨_,fun _=>rfl⟩
 refine qE hΓ St (fun i=>s.length - i.1) ⟨0,by omega,by simp⟩ (by rw[hSt];refine kO [] [] ?_;simp only[aR,seval]<;>((repeat' apply And.intro)<;>first|rfl|omega|trivial)) ?_
 rintro ⟨i,hi,ha⟩
 rw[hSt]
 simp only
 simp only[aR,seval,kDg]
 (with_reducible first|refine kE (fun h=>?_) (fun h=>?_)|refine kG (fun h=>?_) (fun h=>?_))
 ·have hlt:i < s.length:=by omega
  have e1:=bytesA_getD s hlt
  have e2:(s.take (i+1)).all zT=zT s[i]:=by rw[List.take_succ_eq_append_getElem hlt,List.all_append,ha];simp
  have e3:zT s[i]=false→qJ s=false:=fun hc=>by
   have:s.all zT=false:=List.all_eq_false.2 ⟨s[i],List.getElem_mem hlt,by simp[hc]⟩
   rw[qJ,this];rfl
  generalize s[i]=c at *
  simp only[aR,seval,h,e1,kDg]
  (repeat (with_reducible refine And.intro ?_ ?_;focus (first|omega|exact kF|kernel_rfl)))
  refine call_letter (by simp[kD]) rfl ?_
  cases hc:zT c
  ·simp only[aR,seval,hc]
   rw[e3 hc]
  ·rw[hc]at e2
   simp only[aR,seval,hc,kC (n:=(i:Int)+1) (by omega) (by omega)]
   refine kN ⟨i+1,by omega,e2⟩ (by simp only;omega) ?_
   rw[hSt];refine kO [] [] ?_
   simp only[aR,seval]<;>((repeat' apply And.intro)<;>first|rfl|omega|trivial)
 ·rw[List.take_of_length_le (by omega)]at ha
  have e0:qJ s=decide (1≤s.length∧s.length≤20∧s≠[46]∧s≠[46,46]):=by rw[qJ,ha];rfl
  simp only[aR,seval,h,e0]
  (try ((with_reducible first|refine kE (fun q1=>?_) (fun q1=>?_)|refine kG (fun q1=>?_) (fun q1=>?_))<;>simp (disch:=omega) only[aR,seval,kC,q1]<;>(with_reducible first|(refine And.intro ?_ ?_;focus (first|omega|exact kF|kernel_rfl));(repeat (with_reducible refine And.intro ?_ ?_;focus (first|omega|exact kF|kernel_rfl)));(try simp (disch:=omega) only[aR,seval,kC,q1])|skip)<;>(try ((with_reducible first|refine kE (fun q2=>?_) (fun q2=>?_)|refine kG (fun q2=>?_) (fun q2=>?_))<;>simp (disch:=omega) only[aR,seval,kC,q2]<;>(with_reducible first|(refine And.intro ?_ ?_;focus (first|omega|exact kF|kernel_rfl));(repeat (with_reducible refine And.intro ?_ ?_;focus (first|omega|exact kF|kernel_rfl)));(try simp (disch:=omega) only[aR,seval,kC,q2])|skip)<;>(try ((with_reducible first|refine kE (fun q3=>?_) (fun q3=>?_)|refine kG (fun q3=>?_) (fun q3=>?_))<;>simp (disch:=omega) only[aR,seval,kC,q3]<;>(with_reducible first|(refine And.intro ?_ ?_;focus (first|omega|exact kF|kernel_rfl));(repeat (with_reducible refine And.intro ?_ ?_;focus (first|omega|exact kF|kernel_rfl)));(try simp (disch:=omega) only[aR,seval,kC,q3])|skip)<;>(try ((with_reducible first|refine kE (fun q4=>?_) (fun q4=>?_)|refine kG (fun q4=>?_) (fun q4=>?_))<;>simp (disch:=omega) only[aR,seval,kC,q4]<;>(with_reducible first|(refine And.intro ?_ ?_;focus (first|omega|exact kF|kernel_rfl));(repeat (with_reducible refine And.intro ?_ ?_;focus (first|omega|exact kF|kernel_rfl)));(try simp (disch:=omega) only[aR,seval,kC,q4])|skip)<;>skip))))))))
  all_goals (rw[e0,Bool.eq_iff_iff];simp only[decide_eq_true_eq,Bool.false_eq_true,false_iff,ne_eq])
  all_goals first
   | exact ⟨fun h5=>⟨by omega,by omega,by assumption,h5⟩,fun h5=>h5.2.2.2⟩
   | (rintro ⟨h5,h6,h7,h8⟩;first|omega|contradiction)
theorem kA6 {Γ:Env} {f:Nat} (hf:Γ.get f=some kBG) {σ:AS} {dr:Bool} {s:List UInt8} {d:Option Nat} {K:AS→Prop} (hs:s.length≤1099511627776)
    (hk:cont σ d (.v (.bool (qJ s))) K):kS Tryz.prog Γ dr σ f [.v (sv s)] d K :=
 kR (C:=kBG) (i:=⟨s,hs⟩) hf rfl rfl rfl rfl (fun _ h=>h) rfl hk
end Go.Proofs
end
-- HUn2
section
namespace Go.Proofs
open Go Go.Rw
set_option maxRecDepth 100000
def kGC (a:Ac):Bool:=decide (a.k=1∨a.k=3)
def zO (a:Ac):Ac :=
 if a.k=1 then ⟨1,a.id,a.par,a.nm,a.dir,[]⟩ else if a.k=2 then ⟨2,a.id,0,[],false,[]⟩ else if a.k=3 then ⟨3,a.id,a.par,a.nm,false,[]⟩
 else if a.k=4 then ⟨4,a.id,0,[],false,a.ops⟩ else ⟨a.k,0,0,[],false,[]⟩
theorem plainA_ok {a:Ac} (h:okL a.ops):okL (zO a).ops:=by
 have h0:okL ([]:List Cp):=⟨by decide,by decide,fun c hc=>by cases hc⟩
 unfold zO
 repeat' split
 all_goals first|exact h0|exact h
abbrev AcS:={ a:Ac // okL a.ops }
abbrev kEg:Con where
 ι:=Ac
 args:=fun a=>[aA a]
 post:=fun a r=>r = .v (.bool (kGC a))
 plain:=true
theorem names_good:Rw.Good Tryz.prog 101 kEg:=by
 have hΓ:kK Tryz.prog []:=kJ
 refine kW (nn:=11) hΓ Tryz.func101 (by kernel_rfl) rfl (show Tryz.f101.results.toList=[.tmp 2] from rfl) (fun _=>rfl) (fun x=>by simp[AV.erL,kES]) ?_
 intro a
 obtain ⟨k,id,par,nm,dir,ops⟩:=a
 simp only[aR,seval,aA]
 by_cases h1:k=1
 ·subst h1
  simp only[aR,seval,kGC]
 ·simp only[aR,seval,h1]
  simp[kGC,h1]
abbrev kBz:Con where
 ι:=AcS
 args:=fun a=>[aA a.1]
 post:=fun a r=>r=aA (zO a.1)
theorem plain_good:Rw.Good Tryz.prog 100 kBz:=by
 have hΓ:kK Tryz.prog [(80,kDX)]:=(kH kG6 kJ)
 refine kDA Tryz.func100 (by kernel_rfl) rfl (show Tryz.f100.results.toList=[.cell 2 55] from rfl) (nn:=49) (fun _=>rfl) (fun x=>by simp[AV.erL,kES]) ?_
 rintro ⟨a,oa⟩
 refine kEC hΓ (Ws:=[(4,[2],[]),(8,[2],[]),(10,[2],[])]) _ ?_
 obtain ⟨k,id,par,nm,dir,ops⟩:=a
 simp only at oa
 by_cases h1:k=1
 ·simp only[aR,seval,kT,aA,h1]
  (repeat (with_reducible refine And.intro ?_ ?_;focus (first|omega|exact kF|kernel_rfl)))
  simp[zO,h1,aA,jU]
 by_cases h2:k=2
 ·simp only[aR,seval,kT,aA,h1,h2]
  simp[zO,h2,aA,jU]
 by_cases h3:k=3
 ·simp only[aR,seval,kT,aA,h1,h2,h3]
  (repeat (with_reducible refine And.intro ?_ ?_;focus (first|omega|exact kF|kernel_rfl)))
  simp[zO,h3,aA,jU]
 by_cases h4:k=4
 ·simp only[aR,seval,kT,aA,h1,h2,h3,h4]
  (repeat (with_reducible refine And.intro ?_ ?_;focus (first|omega|exact kF|kernel_rfl)))
  refine kGT (by simp[kD]) rfl oa ?_
  simp only[aR,seval,kT,aA]
  simp[zO]
 ·simp only[aR,seval,kT,aA,h1,h2,h3,h4]
  simp[zO,h1,h2,h3,h4,aA,jU]
theorem kGB {Γ:Env} {f:Nat} (hf:Γ.get f=some kBz) {σ:AS} {dr:Bool} {a:Ac} {y:AV} {d:Option Nat} {K:AS→Prop} (hy:y=aA a) (oa:okL a.ops)
    (hk:cont σ d (aA (zO a)) K):kS Tryz.prog Γ dr σ f [y] d K:=by
 subst hy
 exact z8 (C:=kBz) (i:=⟨a,oa⟩) (r:=aA (zO a)) hf rfl rfl (by simp[AV.erL,kES]) rfl (fun _ h=>h) (by rw[kES];exact hk)
theorem call_names {Γ:Env} (hf:Γ.get 101=some kEg) {σ:AS} {dr:Bool} {a:Ac} {y:AV} {d:Option Nat} {K:AS→Prop} (hy:y=aA a)
    (hk:cont σ d (.v (.bool (kGC a))) K):kS Tryz.prog Γ dr σ 101 [y] d K:=by
 subst hy
 exact kR (C:=kEg) (i:=a) hf rfl rfl rfl (by simp[AV.erL,kES]) (fun _ h=>h) rfl hk
abbrev kBj:Con where
 ι:=AcS×AcS
 args:=fun p=>[aA p.1.1,aA p.2.1]
 post:=fun p r=>r = .v (.bool (decide (p.1.1=p.2.1)))
 plain:=true
theorem same1_good:Rw.Good Tryz.prog 99 kBj:=by
 have hΓ:kK Tryz.prog [(125,kDh)]:=(kH sequal_good kJ)
 refine kW (nn:=47) hΓ Tryz.func99 (by kernel_rfl) rfl (show Tryz.f99.results.toList=[.tmp 4] from rfl) (fun _=>rfl) (fun x=>by simp[AV.erL,kES]) ?_
 rintro ⟨⟨x,hx⟩,⟨y,hy⟩⟩
 have dk:decide (x=y)=decide (x.k=y.k∧x.id=y.id∧x.par=y.par∧x.nm=y.nm∧x.dir=y.dir∧x.ops=y.ops):=by
  cases x;cases y
  simp only[Ac.mk.injEq]
 simp only[dk]
 obtain ⟨k,id,par,nm,dir,ops⟩:=x
 obtain ⟨k',id',par',nm',dir',ops'⟩:=y
 simp only[aR,seval,aA]
 by_cases h1:k=k'
 case neg =>
  simp only[aR,seval,h1]
  simp[h1]
 by_cases h2:id=id'
 case neg =>
  simp only[aR,seval,h2,h1]
  simp[h2]
 by_cases h3:par=par'
 case neg =>
  simp only[aR,seval,h3,h1,h2]
  simp[h3]
 by_cases h4:nm=nm'
 case neg =>
  simp only[aR,seval,h4,h1,h2,h3]
  simp[h4]
 by_cases h5:dir=dir'
 case neg =>
  have nn:(dir == dir')=false:=by simp[h5]
  simp only[aR,seval,nn,h1,h2,h3,h4]
  simp[h5]
 have b5:(dir == dir')=true:=by simp[h5]
 simp only[aR,seval,h1,h2,h3,h4,b5]
 refine call_same (by simp[kD]) rfl rfl (by have:=hx.1;simp only at this;omega) (by have:=hy.1;simp only at this;omega) ?_
 simp only[aR,seval,h1,h2,h3,h4,b5]
 simp[h1,h2,h3,h4,h5]
theorem kFz {Γ:Env} {f:Nat} (hf:Γ.get f=some kBj) {σ:AS} {dr:Bool} {a b:Ac} {x y:AV} {d:Option Nat} {K:AS→Prop} (hx:x=aA a) (hy:y=aA b) (oa:okL a.ops) (ob:okL b.ops)
    (hk:cont σ d (.v (.bool (decide (a=b)))) K):kS Tryz.prog Γ dr σ f [x,y] d K:=by
 subst hx hy
 exact kR (C:=kBj) (i:=(⟨a,oa⟩,⟨b,ob⟩)) hf rfl rfl rfl (by simp[AV.erL,kES]) (fun _ h=>h) rfl hk
end Go.Proofs
end
-- HUn3
section
namespace Go.Proofs
open Go Go.Rw
set_option maxRecDepth 100000
def badA (a:Ac):Bool:=decide (a.k < 1∨a.k > 4∨¬ a=zO a∨a.id < 1∨a.id > 1099511627776∨a.par < 0∨a.par > 1099511627776∨((a.k=1∨a.k=3)∧qJ a.nm=false))
def oneI (a:Ac):Int:=if badA a then 1 else if a.k=4 then qQ a.ops else 0
abbrev AcN:={ a:Ac // okL a.ops∧a.nm.length≤1099511627776 }
abbrev oneCon:Con where
 ι:=AcN
 args:=fun a=>[aA a.1]
 post:=fun a r=>r = .v (.int .i64 (oneI a.1))
 plain:=true
theorem one_good:Rw.Good Tryz.prog 76 oneCon:=by
 have hΓ:kK Tryz.prog [(100,kBz),(99,kBj),(101,kEg),(68,kBG),(102,kAA)]:=(kH plain_good (kH same1_good (kH names_good (kH kF3 (kH kGF kJ)))))
 refine kW (nn:=58) hΓ Tryz.func76 (by kernel_rfl) rfl (show Tryz.f76.results.toList=[.tmp 2] from rfl) (fun _=>rfl) (fun x=>by simp[AV.erL,kES]) ?_
 rintro ⟨a,oa,hn⟩
 obtain ⟨k,id,par,nm,dir,ops⟩:=a
 simp only at oa hn
 simp only[aR,seval,aA]
 (repeat (with_reducible refine And.intro ?_ ?_;focus (first|omega|exact kF|kernel_rfl)))
 by_cases h1:k < 1
 ·simp only[aR,seval,h1]
  simp[oneI,badA,h1]
 by_cases h2:k > 4
 ·simp only[aR,seval,h1,h2]
  simp[oneI,badA,h2]
 simp only[aR,seval,h1,h2]
 refine kGB (by simp[kD]) (a:=⟨k,id,par,nm,dir,ops⟩) rfl oa ?_
 simp only[aR,seval,h1,h2]
 refine kFz (by simp[kD]) (a:=⟨k,id,par,nm,dir,ops⟩) rfl rfl oa (plainA_ok (a:=⟨k,id,par,nm,dir,ops⟩) oa) ?_
 obtain ⟨b,hb⟩:∃ b,decide ((⟨k,id,par,nm,dir,ops⟩:Ac)=zO ⟨k,id,par,nm,dir,ops⟩)=b:=⟨_,rfl⟩
 rw[hb]
 cases b
 ·have hb2:¬ (⟨k,id,par,nm,dir,ops⟩:Ac)=zO ⟨k,id,par,nm,dir,ops⟩:=of_decide_eq_false hb
  simp only[aR,seval,h1,h2]
  simp[oneI,badA,hb2]
 have hb2:(⟨k,id,par,nm,dir,ops⟩:Ac)=zO ⟨k,id,par,nm,dir,ops⟩:=of_decide_eq_true hb
 have e0:badA ⟨k,id,par,nm,dir,ops⟩=decide (id < 1∨id > 1099511627776∨par < 0∨par > 1099511627776∨((k=1∨k=3)∧qJ nm=false)):=by
  unfold badA
  rw[Bool.eq_iff_iff,decide_eq_true_eq,decide_eq_true_eq]
  constructor
  ·rintro (h|h|h|h)
   ·exact absurd h h1
   ·exact absurd h h2
   ·exact absurd hb2 h
   ·exact h
  ·exact fun h=>.inr (.inr (.inr h))
 clear hb hb2
 by_cases h3:id < 1
 ·simp only[aR,seval,h1,h2,h3]
  simp[oneI,e0,h3]
 by_cases h4:id > 1099511627776
 ·simp only[aR,seval,h1,h2,h3,h4]
  simp[oneI,e0,h4]
 by_cases h5:par < 0
 ·simp only[aR,seval,h1,h2,h3,h4,h5]
  simp[oneI,e0,h5]
 by_cases h6:par > 1099511627776
 ·simp only[aR,seval,h1,h2,h3,h4,h5,h6]
  simp[oneI,e0,h6]
 simp only[aR,seval,h1,h2,h3,h4,h5,h6]
 refine call_names (by simp[kD]) (a:=⟨k,id,par,nm,dir,ops⟩) rfl ?_
 obtain ⟨b,hb⟩:∃ b,kGC ⟨k,id,par,nm,dir,ops⟩=b:=⟨_,rfl⟩
 have hb2:(k=1∨k=3)↔b=true:=by rw[← hb,kGC];simp
 rw[hb]
 have last:∀ e1:badA ⟨k,id,par,nm,dir,ops⟩=false,oneI ⟨k,id,par,nm,dir,ops⟩=if k=4 then qQ ops else 0:=fun e1=>by
  rw[oneI,e1];rfl
 cases b
 ·have e1:badA ⟨k,id,par,nm,dir,ops⟩=false:=by
    rw[e0,decide_eq_false_iff_not]
    rintro (h|h|h|h|h)
    ·exact h3 h
    ·exact h4 h
    ·exact h5 h
    ·exact h6 h
    ·exact absurd (hb2.1 h.1) (by simp)
  have e2:=last e1
  by_cases h7:k=4
  ·subst h7
   rw[if_pos rfl]at e2
   simp only[aR,seval,e2]
   refine kG8 (by simp[kD]) rfl oa ?_
   simp only[aR,seval,e2]
  ·rw[if_neg h7]at e2
   simp only[aR,seval,h7,e2]
 ·simp only[aR,seval]
  refine kA6 (by simp[kD]) hn ?_
  cases hnm:qJ nm
  ·have e1:badA ⟨k,id,par,nm,dir,ops⟩=true:=by
     rw[e0,decide_eq_true_eq]
     exact .inr (.inr (.inr (.inr ⟨hb2.2 rfl,hnm⟩)))
   simp only[aR,seval]
   simp[oneI,e1]
  ·have e1:badA ⟨k,id,par,nm,dir,ops⟩=false:=by
     rw[e0,decide_eq_false_iff_not]
     rintro (h|h|h|h|h)
     ·exact h3 h
     ·exact h4 h
     ·exact h5 h
     ·exact h6 h
     ·rw[hnm]at h;exact absurd h.2 (by simp)
   have e2:=last e1
   have h7:¬ k=4:=fun h=>by have:=hb2.2 rfl;omega
   rw[if_neg h7]at e2
   simp only[aR,seval,h7,e2]
def putC:List Cp→Nat
 | []=>0
 | c::r=>(if c.k=2 then lc c.t else 0)+putC r
def putS:List Ac→Nat
 | []=>0
 | a::r=>putC a.ops+putS r
theorem putC_tot:∀ l:List Cp,putC l≤tot l
 | []=>Nat.le_refl _
 | c::r=>by
   have:=putC_tot r
   have:=lc_len c.t
   rw[putC,tot]
   split<;>omega
theorem putC_take {l:List Cp} {i:Nat} (h:i < l.length):putC (l.drop i)=(if l[i].k=2 then lc l[i].t else 0)+putC (l.drop (i+1)):=by
 rw[List.drop_eq_getElem_cons h,putC]
theorem putS_take {l:List Ac} {i:Nat} (h:i < l.length):putS (l.drop i)=putC l[i].ops+putS (l.drop (i+1)):=by
 rw[List.drop_eq_getElem_cons h,putS]
theorem putS_le:∀ (l:List Ac),(∀ a∈l,okL a.ops)→putS l≤l.length * 1099511627776
 | [],_=>by simp [putS]
 | a::l,h=>by
   have h1:=putS_le l fun b hb=>h b (List.mem_cons_of_mem _ hb)
   have h2:=(h a (List.mem_cons_self ..)).2.1
   have h3:=putC_tot a.ops
   rw[putS,List.length_cons,Nat.add_mul];omega
abbrev okA (a:Ac):Prop:=okL a.ops∧a.nm.length≤1099511627776
abbrev ActsN:={ l:List Ac // l.length≤1000000∧∀ a∈l,okL a.ops∧a.nm.length≤1099511627776 }
abbrev putsCon:Con where
 ι:=ActsN
 args:=fun l=>[.sl 0 6 (acts l.1)]
 post:=fun l r=>r = .v (.int .i64 (putS l.1))
 plain:=true
theorem puts_good:Rw.Good Tryz.prog 79 putsCon:=by
 have hΓ:kK Tryz.prog [(104,rcCon)]:=(kH rc_good kJ)
 refine kW (nn:=31) hΓ Tryz.func79 (by kernel_rfl) rfl (show Tryz.f79.results.toList=[.tmp 2] from rfl) (fun _=>rfl) (fun x=>by simp[AV.erL,AV.er,jV]) ?_
 rintro ⟨l,hl,ho⟩
 have hb:=putS_le l fun a ha=>(ho a ha).1
 simp only[aR,seval,qA]
 obtain ⟨St,hSt⟩:∃ St:{ p:Nat×Nat // p.2≤l.length∧p.1+putS (l.drop p.2)=putS l }→AS,∀ p,St p=AS.of 31 [(2,.v (.int .i64 p.1.1)),(7,.sl 0 6 (acts l)),(8,.v (.int .i64 l.length)),(9,.v (.int .i64 p.1.2))] [] []:=⟨_,fun _=>rfl⟩
 refine qE hΓ St (fun p=>l.length - p.1.2) ⟨(0,0),by simp,by simp⟩ (by rw[hSt];refine kO [] [] ?_;simp only[aR,seval]<;>((repeat' apply And.intro)<;>first|rfl|omega|trivial)) ?_
 rintro ⟨⟨n,i⟩,hi,hs⟩
 simp only at hi hs
 rw[hSt]
 simp only
 simp only[aR,seval,qA]
 (with_reducible first|refine kE (fun h=>?_) (fun h=>?_)|refine kG (fun h=>?_) (fun h=>?_))
 ·have hlt:i < l.length:=by omega
  have e1:=jQ l hlt
  have ha:=ho _ (List.getElem_mem hlt)
  rw[putS_take hlt]at hs
  generalize l[i]=a at *
  obtain ⟨k,id,par,nm,dir,ops⟩:=a
  obtain ⟨oa,_⟩:=ha
  simp only at hs oa
  have hol:=oa.1
  simp only[aR,seval,h,e1,aA,qA,kL]
  (repeat (with_reducible refine And.intro ?_ ?_;focus (first|omega|exact kF|kernel_rfl)))
  obtain ⟨Sb,hSb⟩:∃ Sb:{ p:Nat×Nat // p.2≤ops.length∧p.1+putC (ops.drop p.2)=n+putC ops }→AS,∀ p,Sb p=AS.of 31 [(2,.v (.int .i64 p.1.1)),(7,.sl 0 6 (acts l)),(8,.v (.int .i64 l.length)),(9,.v (.int .i64 i)),(14,.sl 0 3 (qD ops)),(15,.v (.int .i64 ops.length)),(16,.v (.int .i64 p.1.2))] [] []:=⟨_,fun _=>rfl⟩
  refine qE hΓ Sb (fun p=>ops.length - p.1.2) ⟨(n,0),by simp,by simp⟩ (by rw[hSb];refine kO [] [] ?_;simp only[aR,seval]<;>((repeat' apply And.intro)<;>first|rfl|omega|trivial)) ?_
  rintro ⟨⟨m,j⟩,hj,hm⟩
  simp only at hj hm
  rw[hSb]
  simp only
  simp only[aR,seval,kL]
  (with_reducible first|refine kE (fun h2=>?_) (fun h2=>?_)|refine kG (fun h2=>?_) (fun h2=>?_))
  ·have hlt2:j < ops.length:=by omega
   have e3:=qL ops hlt2
   have hct:=okL.text oa (List.getElem_mem hlt2)
   rw[putC_take hlt2]at hm
   generalize ops[j]=c at *
   obtain ⟨ck,cn,ct⟩:=c
   simp only at hm hct
   by_cases hk:ck=2
   ·rw[if_pos hk]at hm
    simp only[aR,seval,h2,e3,cA,kL,hk]
    (repeat (with_reducible refine And.intro ?_ ?_;focus (first|omega|exact kF|kernel_rfl)))
    refine call_rc (by simp[kD]) hct ?_
    simp only[aR,seval,kC (n:=(m:Int)+lc ct) (by omega) (by omega),kC (n:=(j:Int)+1) (by omega) (by omega)]
    refine kN ⟨(m+lc ct,j+1),by simp only;omega,by simp only;omega⟩ (by simp only;omega) ?_
    rw[hSb];refine kO [] [] ?_
    simp only[aR,seval]<;>((repeat' apply And.intro)<;>first|rfl|omega|trivial)
   ·rw[if_neg hk]at hm
    simp only[aR,seval,h2,e3,cA,kL,hk,kC (n:=(j:Int)+1) (by omega) (by omega)]
    (repeat (with_reducible refine And.intro ?_ ?_;focus (first|omega|exact kF|kernel_rfl)))
    refine kN ⟨(m,j+1),by simp only;omega,by simp only;omega⟩ (by simp only;omega) ?_
    rw[hSb];refine kO [] [] ?_
    simp only[aR,seval]<;>((repeat' apply And.intro)<;>first|rfl|omega|trivial)
  ·rw[List.drop_of_length_le (by omega),putC]at hm
   simp only[aR,seval,h2,kC (n:=(i:Int)+1) (by omega) (by omega)]
   refine kN ⟨(m,i+1),by simp only;omega,by simp only;omega⟩ (by simp only;omega) ?_
   rw[hSt];refine kO [] [] ?_
   simp only[aR,seval]<;>((repeat' apply And.intro)<;>first|rfl|omega|trivial)
 ·rw[List.drop_of_length_le (by omega),putS]at hs
  simp only[aR,seval,h]
  omega
theorem call_puts {Γ:Env} (hf:Γ.get 79=some putsCon) {σ:AS} {dr:Bool} {l:List Ac} {ys:List AV} {d:Option Nat} {K:AS→Prop} (hy:ys=acts l) (hl:l.length≤1000000) (ho:∀ a∈l,okL a.ops∧a.nm.length≤1099511627776)
    (hk:cont σ d (.v (.int .i64 (putS l))) K):kS Tryz.prog Γ dr σ 79 [.sl 0 6 ys] d K:=by
 subst hy
 exact kR (C:=putsCon) (i:=⟨l,hl,ho⟩) hf rfl rfl rfl (by simp[AV.erL,AV.er,jV]) (fun _ h=>h) rfl hk
def kDO (pre:List Ac) (a:Ac):Bool:=pre.any fun b=>decide (b.k=4∧b.id=a.id)
def jP:List Ac→List Ac→Int
 | _,[]=>0
 | pre,a::r=>if oneI a≠0 then oneI a else if a.k=4∧kDO pre a=true then 1 else jP (pre++[a]) r
def txnE (l:List Ac):Int:=if l.length > 20 then 3 else if jP [] l≠0 then jP [] l else if (putS l:Int) > 2000 then 3 else 0
abbrev kA4:Con where
 ι:=ActsN
 args:=fun l=>[.sl 0 6 (acts l.1)]
 post:=fun l r=>r = .v (.int .i64 (txnE l.1))
 plain:=true
theorem tcheck_good:Rw.Good Tryz.prog 56 kA4:=by
 have hΓ:kK Tryz.prog [(76,oneCon),(79,putsCon)]:=(kH one_good (kH puts_good kJ))
 refine kW (nn:=34) hΓ Tryz.func56 (by kernel_rfl) rfl (show Tryz.f56.results.toList=[.tmp 2] from rfl) (fun _=>rfl) (fun x=>by simp[AV.erL,AV.er,jV]) ?_
 rintro ⟨l,hl,ho⟩
 simp only[aR,seval]
 refine vc_scope hΓ 1 ?_
 simp only[aR,seval,qA]
 by_cases hlen:(l.length:Int) > 20
 ·have e0:txnE l=3:=by unfold txnE;rw[if_pos (by omega)]
  simp only[aR,seval,hlen,e0]
 have e0:txnE l=if jP [] l≠0 then jP [] l else if (putS l:Int) > 2000 then 3 else 0:=by unfold txnE;rw[if_neg (by omega)]
 simp only[aR,seval,hlen,qA]
 obtain ⟨St,hSt⟩:∃ St:{ i:Nat // i≤l.length∧jP (l.take i) (l.drop i)=jP [] l }→AS,∀ i,St i=AS.of 34 [(0,.sl 0 6 (acts l)),(2,.v (.int .i64 0)),(8,.sl 0 6 (acts l)),(9,.v (.int .i64 l.length)),(10,.v (.int .i64 i.1))] [] []:=⟨_,fun _=>rfl⟩
 refine qE hΓ St (fun i=>l.length - i.1) ⟨0,by omega,by simp⟩ (by rw[hSt];refine kO [] [] ?_;simp only[aR,seval]<;>((repeat' apply And.intro)<;>first|rfl|omega|trivial)) ?_
 rintro ⟨i,hi,hc⟩
 rw[hSt]
 simp only
 simp only[aR,seval,qA]
 (with_reducible first|refine kE (fun h=>?_) (fun h=>?_)|refine kG (fun h=>?_) (fun h=>?_))
 ·have hlt:i < l.length:=by omega
  have e1:=jQ l hlt
  have ha:=ho _ (List.getElem_mem hlt)
  rw[List.drop_eq_getElem_cons hlt,jP,← List.take_succ_eq_append_getElem hlt]at hc
  generalize l[i]=a at *
  obtain ⟨k,id,par,nm,dir,ops⟩:=a
  simp only[aR,seval,h,e1,aA,qA]
  (repeat (with_reducible refine And.intro ?_ ?_;focus (first|omega|exact kF|kernel_rfl)))
  refine kR (C:=oneCon) (i:=⟨⟨k,id,par,nm,dir,ops⟩,ha⟩) (by simp[kD]) rfl rfl rfl (by simp[AV.erL,AV.er,aA,kE0]) (fun _ h=>h) rfl ?_
  by_cases h1:oneI ⟨k,id,par,nm,dir,ops⟩=0
  case neg =>
   rw[if_pos h1]at hc
   rw[← hc,if_pos h1]at e0
   simp only[aR,seval,h1]
   refine ⟨_,rfl,?_⟩
   simp only[aR,seval,e0]
  rw[if_neg (by simpa using h1)]at hc
  by_cases h4:k=4
  ·subst h4
   have hpa:kBW 0 6 (acts l) 0 i = .sl 0 6 (acts (l.take i)):=by
    unfold kBW
    split
    ·rename_i h5
     rw[List.take_of_length_le (by have:=h5.2;rw[qA]at this;omega)]
    ·simp[acts,List.map_take]
   have htl:(l.take i).length=i:=by rw[List.length_take];omega
   have hcb:∀ x:Bool,kDO (l.take i) ⟨4,id,par,nm,dir,ops⟩=x→(if x=true then 1 else jP (l.take (i+1)) (l.drop (i+1)))=jP [] l:=fun x hx=>by
    subst hx
    rw[← hc]
    by_cases h5:kDO (l.take i) ⟨4,id,par,nm,dir,ops⟩=true
    ·rw[if_pos h5,if_pos ⟨rfl,h5⟩]
    ·rw[if_neg h5,if_neg (fun hh=>h5 hh.2)]
   have hcl:kDO (l.take i) ⟨4,id,par,nm,dir,ops⟩=(l.take i).any fun b=>decide (b.k=4∧b.id=id):=rfl
   obtain ⟨pre,hpre⟩:∃ pre,l.take i=pre:=⟨_,rfl⟩
   rw[hpre]at hpa htl hcb hcl
   simp only[aR,seval,h1,hpa,qA,List.map_cons,List.map_nil]
   (repeat (with_reducible refine And.intro ?_ ?_;focus (first|omega|exact kF|kernel_rfl)))
   refine kDf (nn:=9) hΓ (by first|assumption|simp[kD,kP]) Tryz.func77 (by kernel_rfl) rfl (show Tryz.f77.results.toList=[.tmp 4] from rfl) rfl ?_
   simp only[aR,seval]
   refine kDf (nn:=19) hΓ (by first|assumption|simp[kD,kP]) Tryz.func103 (by kernel_rfl) rfl (show Tryz.f103.results.toList=[.tmp 4] from rfl) rfl ?_
   simp only[aR,seval,qA,htl]
   refine vc_loop_keep hΓ (fun j:{ j:Nat // j≤i∧(pre.any fun b=>decide (b.k=4∧b.id=id))=(pre.drop j).any fun b=>decide (b.k=4∧b.id=id) }=>[(0,.sl 0 6 (acts pre)),(1,.fn 78 [.ptr 0 0]),(7,.v (.int .i64 i)),(8,.v (.int .i64 j.1))]) (fun j=>i - j.1) ⟨0,Nat.zero_le _,by simp⟩ (by simp only[aR,seval]<;>((repeat' apply And.intro)<;>first|rfl|omega|trivial)) ?_
   rintro ⟨j,hj,hn⟩ q hq
   simp only
   simp only[aR,seval,List.map_cons,List.map_nil]
   (with_reducible first|refine kE (fun h2=>?_) (fun h2=>?_)|refine kG (fun h2=>?_) (fun h2=>?_))
   ·have hlt2:j < pre.length:=by omega
    have e3:=jQ pre hlt2
    rw[List.drop_eq_getElem_cons hlt2,List.any_cons]at hn
    generalize pre[j]=b at *
    obtain ⟨bk,bid,bpar,bnm,bdir,bops⟩:=b
    simp only at hn
    simp only[aR,seval,h2,e3,qA,htl,aA]
    (repeat (with_reducible refine And.intro ?_ ?_;focus (first|omega|exact kF|kernel_rfl)))
    refine kDf (nn:=14) hΓ (by first|assumption|simp[kD,kP]) Tryz.func78 (by kernel_rfl) rfl (show Tryz.f78.results.toList=[.tmp 3] from rfl) rfl ?_
    have hk0:(0=q)=False:=eq_false (by omega)
    simp only[aR,seval,aA,hk0]
    have go:(pre.any fun b=>decide (b.k=4∧b.id=id))=((pre.drop (j+1)).any fun b=>decide (b.k=4∧b.id=id))→∃ y:{ j:Nat // j≤i∧(pre.any fun b=>decide (b.k=4∧b.id=id))=(pre.drop j).any fun b=>decide (b.k=4∧b.id=id) },y.1=j+1∧i - y.1 < i - j:=fun hh=>⟨⟨j+1,by omega,hh⟩,rfl,by simp only;omega⟩
    by_cases h5:bk=4
    ·by_cases h6:bid=id
     ·have hT:kDO pre ⟨4,id,par,nm,dir,ops⟩=true:=by rw[hcl,hn];simp[h5,h6]
      have h7:=hcb _ hT
      rw[if_pos rfl]at h7
      rw[← h7,if_pos (by omega)]at e0
      simp only[aR,seval,h5,h6,hk0,show ((j:Int) ≥ 0)=True from eq_true (by omega)]
      refine ⟨_,rfl,?_⟩
      simp only[aR,seval,e0]
     ·obtain ⟨y,hy,hy2⟩:=go (by rw[hn];simp[h6])
      simp only[aR,seval,h5,h6,hk0,kC (n:=(j:Int)+1) (by omega) (by omega)]
      refine keep_end y hy2 ?_ ?_ (keep_new ?_ fun _ _ h=>h) ⟨rfl,rfl,rfl⟩
      ·omega
      ·simp only[aR,seval,hy]<;>((repeat' apply And.intro)<;>first|rfl|omega|trivial)
      ·intro o x h
       simp only[upd]at h
       repeat' split at h
       all_goals first|omega|cases h
    ·obtain ⟨y,hy,hy2⟩:=go (by rw[hn];simp[h5])
     simp only[aR,seval,h5,hk0,kC (n:=(j:Int)+1) (by omega) (by omega)]
     refine keep_end y hy2 ?_ ?_ (keep_new ?_ fun _ _ h=>h) ⟨rfl,rfl,rfl⟩
     ·omega
     ·simp only[aR,seval,hy]<;>((repeat' apply And.intro)<;>first|rfl|omega|trivial)
     ·intro o x h
      simp only[upd]at h
      repeat' split at h
      all_goals first|omega|cases h
   ·have hF:kDO pre ⟨4,id,par,nm,dir,ops⟩=false:=by rw[hcl,hn,List.drop_of_length_le (by omega)];rfl
    have h7:=hcb _ hF
    rw[if_neg (by simp)]at h7
    simp only[aR,seval,h2,kC (n:=(i:Int)+1) (by omega) (by omega)]
    refine kN ⟨i+1,by omega,h7⟩ (by simp only;omega) ?_
    rw[hSt];refine kO [] [] ?_
    simp only[aR,seval]<;>((repeat' apply And.intro)<;>first|rfl|omega|trivial)
  ·rw[if_neg (fun hh=>h4 hh.1)]at hc
   simp only[aR,seval,h1,h4,kC (n:=(i:Int)+1) (by omega) (by omega)]
   refine kN ⟨i+1,by omega,hc⟩ (by simp only;omega) ?_
   rw[hSt];refine kO [] [] ?_
   simp only[aR,seval]<;>((repeat' apply And.intro)<;>first|rfl|omega|trivial)
 ·rw[List.drop_of_length_le (by omega),jP]at hc
  rw[← hc,if_neg (by simp)]at e0
  simp only[aR,seval,h]
  refine call_puts (by simp[kD]) rfl hl ho ?_
  by_cases hp:(putS l:Int) > 2000
  ·rw[if_pos hp]at e0
   simp only[aR,seval,hp,e0]
  ·rw[if_neg hp]at e0
   simp only[aR,seval,hp,e0]
end Go.Proofs
end
-- HUo6
section
namespace Go.Proofs
open Go Go.Rw
set_option maxRecDepth 100000
def ofBad (n a b:Int) (t:List UInt8):Prop:=a < 0∨b < a∨n < b∨pts t=none
instance (n a b:Int) (t:List UInt8):Decidable (ofBad n a b t):=by unfold ofBad;exact inferInstance
end Go.Proofs
end
-- HUo7
section
namespace Go.Proofs
open Go Go.Rw
set_option maxRecDepth 100000
theorem addI_eq {n m:Int} (h1:n+m≤1099511627776):addI n m=n+m:=by unfold addI;omega
end Go.Proofs
end
-- HUo8
section
namespace Go.Proofs
open Go Go.Rw
set_option maxRecDepth 100000
def sumF (x:Int) (ys:List Int):Int:=ys.foldl addI x
theorem sumF_top:∀ (ys:List Int),(∀ y∈ys,0≤y)→sumF 1099511627776 ys=1099511627776
 | [],_=>rfl
 | y::ys,h=>by
   show sumF (addI 1099511627776 y) ys=_
   have:=h y (by simp)
   rw[show addI 1099511627776 y=1099511627776 by unfold addI;omega,sumF_top ys fun z hz=>h z (by simp[hz])]
abbrev Sm:={ p:Int×List Int // (0≤p.1∧p.1≤1099511627776)∧(∀ y∈p.2,0≤y∧y≤9223372036854775807)∧p.2.length≤9223372036854775807 }
abbrev sumCon:Con where
 ι:=Sm
 args:=fun p=>[.v (.int .i64 p.1.1),.sl 0 1 (ints .i64 p.1.2)]
 post:=fun p r=>r = .v (.int .i64 (sumF p.1.1 p.1.2))
 plain:=true
theorem sum_good:Rw.Good Tryz.prog 32 sumCon:=by
 have hΓ:kK Tryz.prog []:=kJ
 refine kW (nn:=30) hΓ Tryz.func32 (by kernel_rfl) rfl (show Tryz.f32.results.toList=[.tmp 4] from rfl) (fun _=>rfl) (fun _=>rfl) ?_
 rintro ⟨⟨x,ys⟩,hx,hy,hl⟩
 simp only at hx hy hl
 simp only[aR,seval,jD]
 obtain ⟨St,hSt⟩:∃ St:{ p:Int×Nat // p.2≤ys.length∧(0≤p.1∧p.1≤1099511627776)∧sumF x ys=sumF p.1 (ys.drop p.2) }→AS,∀ p,St p=AS.of 30 [(0,.v (.int .i64 p.1.1)),(1,.sl 0 1 (ints .i64 ys)),(5,.v (.int .i64 p.1.2))] [] []:=⟨_,fun _=>rfl⟩
 refine qE hΓ St (fun p=>ys.length - p.1.2) ⟨(x,0),by omega,hx,rfl⟩ (by rw[hSt];refine kO [] [] ?_;simp only[aR,seval]<;>((repeat' apply And.intro)<;>first|rfl|omega|trivial)) ?_
 rintro ⟨⟨s,i⟩,hi,hs,hb⟩
 simp only at hi hs hb
 rw[hSt]
 simp only
 simp only[aR,seval,jD]
 (with_reducible first|refine kE (fun h=>?_) (fun h=>?_)|refine kG (fun h=>?_) (fun h=>?_))
 ·have hlt:i < ys.length:=by omega
  have hyi:=hy ys[i] (List.getElem_mem hlt)
  have hge:∀ y∈ys.drop i,0≤y:=fun y hm=>(hy y (List.mem_of_mem_drop hm)).1
  rw[List.drop_eq_getElem_cons hlt]at hb hge
  have e1:(ints .i64 ys).getD i .any = .v (.int .i64 ys[i]):=by simp[ints,List.getD_eq_getElem?_getD,hlt]
  have hs2:¬ s > 1099511627776:=by omega
  have early:ys[i] > 1099511627776 - s→sumF x ys=1099511627776:=fun h=>by
   rw[hb]
   show sumF (addI s ys[i]) _=_
   rw[show addI s ys[i]=1099511627776 by unfold addI;omega,sumF_top _ fun z hz=>hge z (List.mem_cons_of_mem _ hz)]
  generalize ys[i]=y at *
  simp (disch:=omega) only[aR,seval,kC,h,hs2,e1,jD]
  (repeat (with_reducible refine And.intro ?_ ?_;focus (first|omega|exact kF|kernel_rfl)))
  (with_reducible first|refine kE (fun h2=>?_) (fun h2=>?_)|refine kG (fun h2=>?_) (fun h2=>?_))
  ·simp (disch:=omega) only[aR,seval,kC,h2,e1,jD]
   rw[early h2]
  ·simp (disch:=omega) only[aR,seval,kC,h2,e1,jD]
   (repeat (with_reducible refine And.intro ?_ ?_;focus (first|omega|exact kF|kernel_rfl)))
   have hr:addI s y=s+y:=addI_eq (by omega)
   refine kN ⟨(s+y,i+1),by simp only;omega,by simp only;omega,by rw[hb,← hr];rfl⟩ (by simp only;omega) ?_
   rw[hSt];refine kO [] [] ?_
   simp only[aR,seval]<;>((repeat' apply And.intro)<;>first|rfl|omega|trivial)
 ·simp only[aR,seval,h]
  rw[List.drop_of_length_le (by omega)]at hb
  rw[hb];rfl
theorem call_sum {Γ:Env} (hf:Γ.get 32=some sumCon) {σ:AS} {dr:Bool} {x:Int} {y:List Int} {t:Nat} {ys:List AV} {d:Option Nat} {K:AS→Prop} (hy:ys=ints .i64 y) (h1:0≤x∧x≤1099511627776) (h2:∀ z∈y,0≤z∧z≤9223372036854775807) (h3:y.length≤9223372036854775807)
    (hk:cont σ d (.v (.int .i64 (sumF x y))) K):kS Tryz.prog Γ dr σ 32 [.v (.int .i64 x),.sl t 1 ys] d K:=by
 subst hy
 exact kR (C:=sumCon) (i:=⟨(x,y),h1,h2,h3⟩) hf rfl rfl rfl rfl (fun _ h=>h) rfl hk
theorem kBw:∀ (ys:List Int) {x:Int},(0≤x∧x≤1099511627776)→(∀ y∈ys,0≤y)→x≤sumF x ys∧sumF x ys≤1099511627776
 | [],x,h,_=>by simp [sumF];omega
 | y::ys,x,h,hy=>by
   have h1:=hy y (by simp)
   have h2:=qX h.1 h1
   have h3:x≤addI x y:=by unfold addI;omega
   have h4:=kBw ys h2 fun z hz=>hy z (by simp[hz])
   show x≤sumF (addI x y) ys∧sumF (addI x y) ys≤_
   omega
def zR (m:Int):Int→List Cp→Int
 | s,[]=>s
 | s,c::r=>if s≤m then zR m (sumF s [c.t.length,2]) r else s
theorem compsF_le {m:Int} (hm:m < 1099511627776):∀ (l:List Cp) {s:Int},0≤s→zR m s l≤m→s+tot l+2 * l.length≤m
 | [],s,_,h=>by simp only [zR] at h;simp [tot];exact h
 | c::r,s,hs,h=>by
   simp only[zR]at h
   split at h
   ·rename_i h1
    have e:sumF s [(c.t.length:Int),2]=addI (addI s c.t.length) 2:=rfl
    have h2:0≤addI (addI s c.t.length) 2:=by unfold addI;omega
    rw[e]at h
    have h3:=compsF_le hm r h2 h
    simp only[tot,List.length_cons]
    have h4:addI (addI s c.t.length) 2≤m:=by omega
    have h5:addI (addI s c.t.length) 2=s+c.t.length+2:=by unfold addI at h4 ⊢;omega
    omega
   ·omega
abbrev Wide:={ l:List Cp // l.length≤9223372036854775807∧∀ c∈l,c.t.length≤9223372036854775807 }
end Go.Proofs
end
-- HUo9
section
namespace Go.Proofs
open Go Go.Rw
set_option maxRecDepth 100000
def fol (q k:Int):Bool:=!(decide (q=k) || (decide (q=3) && decide (k=2)))
def neat (c:Cp):Bool:=if c.k=2 then decide (c.n=0) && decide (c.t≠[]) else (decide (c.k=1) || decide (c.k=3)) && decide (0 < c.n) && decide (c.n≤1099511627776) && decide (c.t=[])
def shape:Int→List Cp→Bool
 | _,[]=>true
 | q,c::r=>neat c && fol q c.k && shape c.k r
end Go.Proofs
end
-- HUo10
section
namespace Go.Proofs
open Go Go.Rw
set_option maxRecDepth 100000
def tn:List Cp→Int
 | []=>0
 | c::r=>max c.n 0+tn r
def sumN:Int→List Cp→Int
 | s,[]=>s
 | s,c::r=>sumN (addI s (max c.n 0)) r
theorem tn_pos:∀ l:List Cp,0≤tn l
 | []=>by simp [tn]
 | c::r=>by simp only [tn];have:=tn_pos r;omega
theorem sumN_eq:∀ (l:List Cp) {s:Int},(0≤s∧s≤1099511627776)→sumN s l=min (s+tn l) 1099511627776
 | [],s,h=>by simp only [sumN,tn];omega
 | c::r,s,h=>by
   have h2:=qX h.1 (show 0≤max c.n 0 by omega)
   have:=tn_pos r
   simp only[sumN,tn]
   rw[sumN_eq r h2]
   unfold addI
   omega
def allV (l:List Cp):Bool:=l.all fun c=>(pts c.t).isSome
theorem addI_z {x:Int} (h:x≤1099511627776):addI x 0=x:=by unfold addI;omega
end Go.Proofs
end
