/-
 Names: what may be one. Transactions: their acts,one by one. txn.names,Plain,same. Transactions: whether they may be. txn.one,puts,Check. An edit of a place;what does nothing;the law's own readiness. OpOf answers true. Sums,held;how much an edit takes. Laws of the normal form. What the normal form keeps. Edits done,undone,found. Plain. Edits done by the program. Which edits may be,as the document says. Edits done,undone,by the program. Edits done,undone,by the program. How much is given;texts and their code points. The document's tree: k6 by their IDs;what an act does. Plain. The document's tree: looking k6 up.
-/
import Derived.Test.YtfhipjafkdembaaGreatDoorXESh
import Derived.Test.YtfhipjafkdembaaGreatDoorRwF
set_option linter.unusedSimpArgs false
set_option linter.unusedVariables false
set_option linter.defProp false
set_option linter.unusedSectionVars false

-- EUn1
section
namespace Go.Proofs
open Go Go.Rw
set_option maxRecDepth 100000
def kA1 (c:UInt8):Bool:=decide ((97≤c.toNat∧c.toNat≤122)∨(48≤c.toNat∧c.toNat≤57)∨c.toNat=46∨c.toNat=45∨c.toNat=95)
def qA (s:List UInt8):Bool:=s.all kA1 && decide (1≤s.length∧s.length≤20∧s≠[46]∧s≠[46,46])
theorem bytesA_eq (l:List UInt8):kFF l=l.map fun b=>.v (.int .u8 b.toNat):=by simp[kFF,zM]
theorem kCy (l:List UInt8):(kFF l).length=l.length:=by simp[bytesA_eq]
theorem bytesA_getD (l:List UInt8) {i:Nat} (h:i < l.length):(kFF l).getD i .any = .v (.int .u8 l[i].toNat):=by simp[bytesA_eq,List.getD_eq_getElem?_getD,h]
abbrev kC2:Con where
 ι:=UInt8
 args:=fun b=>[.v (.int .u8 b.toNat)]
 post:=fun b r=>r = .v (.bool (kA1 b))
 plain:=true
theorem letter_good:Rw.Good Tryz.prog 81 kC2:=by
 have hΓ:kM Tryz.prog []:=kJ
 refine k8 (nn:=29) hΓ Tryz.func81 (by kernel_rfl) rfl (show Tryz.f81.results.toList=[.tmp 2] from rfl) (fun _=>rfl) (fun _=>rfl) ?_
 intro b
 simp only[aR,seval]
 (try ((with_reducible first|refine kF (fun q1=>?_) (fun q1=>?_)|refine kG (fun q1=>?_) (fun q1=>?_))<;>simp (disch:=omega) only[aR,seval,kD,q1]<;>(with_reducible first|(refine And.intro ?_ ?_;focus (first|omega|exact kE|kernel_rfl));(repeat (with_reducible refine And.intro ?_ ?_;focus (first|omega|exact kE|kernel_rfl)));(try simp (disch:=omega) only[aR,seval,kD,q1])|skip)<;>(try ((with_reducible first|refine kF (fun q2=>?_) (fun q2=>?_)|refine kG (fun q2=>?_) (fun q2=>?_))<;>simp (disch:=omega) only[aR,seval,kD,q2]<;>(with_reducible first|(refine And.intro ?_ ?_;focus (first|omega|exact kE|kernel_rfl));(repeat (with_reducible refine And.intro ?_ ?_;focus (first|omega|exact kE|kernel_rfl)));(try simp (disch:=omega) only[aR,seval,kD,q2])|skip)<;>(try ((with_reducible first|refine kF (fun q3=>?_) (fun q3=>?_)|refine kG (fun q3=>?_) (fun q3=>?_))<;>simp (disch:=omega) only[aR,seval,kD,q3]<;>(with_reducible first|(refine And.intro ?_ ?_;focus (first|omega|exact kE|kernel_rfl));(repeat (with_reducible refine And.intro ?_ ?_;focus (first|omega|exact kE|kernel_rfl)));(try simp (disch:=omega) only[aR,seval,kD,q3])|skip)<;>(try ((with_reducible first|refine kF (fun q4=>?_) (fun q4=>?_)|refine kG (fun q4=>?_) (fun q4=>?_))<;>simp (disch:=omega) only[aR,seval,kD,q4]<;>(with_reducible first|(refine And.intro ?_ ?_;focus (first|omega|exact kE|kernel_rfl));(repeat (with_reducible refine And.intro ?_ ?_;focus (first|omega|exact kE|kernel_rfl)));(try simp (disch:=omega) only[aR,seval,kD,q4])|skip)<;>(try ((with_reducible first|refine kF (fun q5=>?_) (fun q5=>?_)|refine kG (fun q5=>?_) (fun q5=>?_))<;>simp (disch:=omega) only[aR,seval,kD,q5]<;>(with_reducible first|(refine And.intro ?_ ?_;focus (first|omega|exact kE|kernel_rfl));(repeat (with_reducible refine And.intro ?_ ?_;focus (first|omega|exact kE|kernel_rfl)));(try simp (disch:=omega) only[aR,seval,kD,q5])|skip)<;>(try ((with_reducible first|refine kF (fun q6=>?_) (fun q6=>?_)|refine kG (fun q6=>?_) (fun q6=>?_))<;>simp (disch:=omega) only[aR,seval,kD,q6]<;>(with_reducible first|(refine And.intro ?_ ?_;focus (first|omega|exact kE|kernel_rfl));(repeat (with_reducible refine And.intro ?_ ?_;focus (first|omega|exact kE|kernel_rfl)));(try simp (disch:=omega) only[aR,seval,kD,q6])|skip)<;>(try ((with_reducible first|refine kF (fun q7=>?_) (fun q7=>?_)|refine kG (fun q7=>?_) (fun q7=>?_))<;>simp (disch:=omega) only[aR,seval,kD,q7]<;>(with_reducible first|(refine And.intro ?_ ?_;focus (first|omega|exact kE|kernel_rfl));(repeat (with_reducible refine And.intro ?_ ?_;focus (first|omega|exact kE|kernel_rfl)));(try simp (disch:=omega) only[aR,seval,kD,q7])|skip)<;>skip))))))))))))))
 all_goals (unfold kA1;rw[Bool.eq_iff_iff];simp only[decide_eq_true_eq,Bool.false_eq_true,true_iff,false_iff,iff_true,iff_false];omega)
theorem call_letter {Γ:Env} (hf:Γ.get 81=some kC2) {σ:AS} {dr:Bool} {b:UInt8} {n:Int} {d:Option Nat} {K:AS→Prop} (hn:n=b.toNat)
    (hk:cont σ d (.v (.bool (kA1 b))) K):kS Tryz.prog Γ dr σ 81 [.v (.int .u8 n)] d K:=by
 subst hn
 exact kP (C:=kC2) (i:=b) hf rfl rfl rfl rfl (fun _ h=>h) rfl hk
abbrev kBt:Con where
 ι:=Str
 args:=fun s=>[.v (sv s.1)]
 post:=fun s r=>r = .v (.bool (qA s.1))
 plain:=true
theorem kC1:Rw.Good Tryz.prog 30 kBt:=by
 have hΓ:kM Tryz.prog [(81,kC2)]:=(kI letter_good kJ)
 refine k8 (nn:=32) hΓ Tryz.func30 (by kernel_rfl) rfl (show Tryz.f30.results.toList=[.tmp 2] from rfl) (fun _=>rfl) (fun _=>rfl) ?_
 rintro ⟨s,hs⟩
 simp only[aR,seval,kCy]
 (repeat (with_reducible refine And.intro ?_ ?_;focus (first|omega|exact kE|kernel_rfl)))
 obtain ⟨St,hSt⟩:∃ St:{ i:Nat // i≤s.length∧(s.take i).all kA1=true }→AS,∀ i,St i=AS.of 32 [(0,.v (sv s)),(6,.sl 0 1 (kFF s)),(7,.v (.int .i64 s.length)),(8,.v (.int .i64 i.1))] [] []:=⟨_,fun _=>rfl⟩
 refine zO hΓ St (fun i=>s.length - i.1) ⟨0,by omega,by simp⟩ (by rw[hSt];refine kT [] [] ?_;simp only[aR,seval]<;>((repeat' apply And.intro)<;>first|rfl|omega|trivial)) ?_
 rintro ⟨i,hi,ha⟩
 rw[hSt]
 simp only
 simp only[aR,seval,kCy]
 (with_reducible first|refine kF (fun h=>?_) (fun h=>?_)|refine kG (fun h=>?_) (fun h=>?_))
 ·have hlt:i < s.length:=by omega
  have e1:=bytesA_getD s hlt
  have e2:(s.take (i+1)).all kA1=kA1 s[i]:=by rw[List.take_succ_eq_append_getElem hlt,List.all_append,ha];simp
  have e3:kA1 s[i]=false→qA s=false:=fun hc=>by
   have:s.all kA1=false:=List.all_eq_false.2 ⟨s[i],List.getElem_mem hlt,by simp[hc]⟩
   rw[qA,this];rfl
  generalize s[i]=c at *
  simp only[aR,seval,h,e1,kCy]
  (repeat (with_reducible refine And.intro ?_ ?_;focus (first|omega|exact kE|kernel_rfl)))
  refine call_letter (by simp[kH]) rfl ?_
  cases hc:kA1 c
  ·simp only[aR,seval,hc]
   rw[e3 hc]
  ·rw[hc]at e2
   simp only[aR,seval,hc,kD (n:=(i:Int)+1) (by omega) (by omega)]
   refine kN ⟨i+1,by omega,e2⟩ (by simp only;omega) ?_
   rw[hSt];refine kT [] [] ?_
   simp only[aR,seval]<;>((repeat' apply And.intro)<;>first|rfl|omega|trivial)
 ·rw[List.take_of_length_le (by omega)]at ha
  have e0:qA s=decide (1≤s.length∧s.length≤20∧s≠[46]∧s≠[46,46]):=by rw[qA,ha];rfl
  simp only[aR,seval,h,e0]
  (try ((with_reducible first|refine kF (fun q1=>?_) (fun q1=>?_)|refine kG (fun q1=>?_) (fun q1=>?_))<;>simp (disch:=omega) only[aR,seval,kD,q1]<;>(with_reducible first|(refine And.intro ?_ ?_;focus (first|omega|exact kE|kernel_rfl));(repeat (with_reducible refine And.intro ?_ ?_;focus (first|omega|exact kE|kernel_rfl)));(try simp (disch:=omega) only[aR,seval,kD,q1])|skip)<;>(try ((with_reducible first|refine kF (fun q2=>?_) (fun q2=>?_)|refine kG (fun q2=>?_) (fun q2=>?_))<;>simp (disch:=omega) only[aR,seval,kD,q2]<;>(with_reducible first|(refine And.intro ?_ ?_;focus (first|omega|exact kE|kernel_rfl));(repeat (with_reducible refine And.intro ?_ ?_;focus (first|omega|exact kE|kernel_rfl)));(try simp (disch:=omega) only[aR,seval,kD,q2])|skip)<;>(try ((with_reducible first|refine kF (fun q3=>?_) (fun q3=>?_)|refine kG (fun q3=>?_) (fun q3=>?_))<;>simp (disch:=omega) only[aR,seval,kD,q3]<;>(with_reducible first|(refine And.intro ?_ ?_;focus (first|omega|exact kE|kernel_rfl));(repeat (with_reducible refine And.intro ?_ ?_;focus (first|omega|exact kE|kernel_rfl)));(try simp (disch:=omega) only[aR,seval,kD,q3])|skip)<;>(try ((with_reducible first|refine kF (fun q4=>?_) (fun q4=>?_)|refine kG (fun q4=>?_) (fun q4=>?_))<;>simp (disch:=omega) only[aR,seval,kD,q4]<;>(with_reducible first|(refine And.intro ?_ ?_;focus (first|omega|exact kE|kernel_rfl));(repeat (with_reducible refine And.intro ?_ ?_;focus (first|omega|exact kE|kernel_rfl)));(try simp (disch:=omega) only[aR,seval,kD,q4])|skip)<;>skip))))))))
  all_goals (rw[e0,Bool.eq_iff_iff];simp only[decide_eq_true_eq,Bool.false_eq_true,false_iff,ne_eq])
  all_goals first
   | exact ⟨fun h5=>⟨by omega,by omega,by assumption,h5⟩,fun h5=>h5.2.2.2⟩
   | (rintro ⟨h5,h6,h7,h8⟩;first|omega|contradiction)
theorem kBN {Γ:Env} {f:Nat} (hf:Γ.get f=some kBt) {σ:AS} {dr:Bool} {s:List UInt8} {d:Option Nat} {K:AS→Prop} (hs:s.length≤1099511627776)
    (hk:cont σ d (.v (.bool (qA s))) K):kS Tryz.prog Γ dr σ f [.v (sv s)] d K :=
 kP (C:=kBt) (i:=⟨s,hs⟩) hf rfl rfl rfl rfl (fun _ h=>h) rfl hk
end Go.Proofs
end
-- EUn2
section
namespace Go.Proofs
open Go Go.Rw
set_option maxRecDepth 100000
def plainA (a:Ac):Ac :=
 if a.k=1 then ⟨1,a.id,a.par,a.nm,a.dir,[]⟩ else if a.k=2 then ⟨2,a.id,0,[],false,[]⟩ else if a.k=3 then ⟨3,a.id,a.par,a.nm,false,[]⟩
 else if a.k=4 then ⟨4,a.id,0,[],false,a.ops⟩ else ⟨a.k,0,0,[],false,[]⟩
end Go.Proofs
end
-- EUn3
section
namespace Go.Proofs
open Go Go.Rw
set_option maxRecDepth 100000
def badA (a:Ac):Bool:=decide (a.k < 1∨a.k > 4∨¬ a=plainA a∨a.id < 1∨a.id > 1099511627776∨a.par < 0∨a.par > 1099511627776∨((a.k=1∨a.k=3)∧qA a.nm=false))
def oneI (a:Ac):Int:=if badA a then 1 else if a.k=4 then qY a.ops else 0
abbrev okA (a:Ac):Prop:=okL a.ops∧a.nm.length≤1099511627776
end Go.Proofs
end
-- EUo6
section
namespace Go.Proofs
open Go Go.Rw
set_option maxRecDepth 100000
def ofBad (n a b:Int) (t:List UInt8):Prop:=a < 0∨b < a∨n < b∨pts t=none
instance (n a b:Int) (t:List UInt8):Decidable (ofBad n a b t):=by unfold ofBad;exact inferInstance
end Go.Proofs
end
-- EUo7
section
namespace Go.Proofs
open Go Go.Rw
set_option maxRecDepth 100000
theorem addI_eq {n m:Int} (h1:n+m≤1099511627776):addI n m=n+m:=by unfold addI;omega
end Go.Proofs
end
-- EUo8
section
namespace Go.Proofs
open Go Go.Rw
set_option maxRecDepth 100000
def sumF (x:Int) (ys:List Int):Int:=ys.foldl addI x
theorem sumF_top:∀ (ys:List Int),(∀ y∈ys,0≤y)→sumF 1099511627776 ys=1099511627776
 | [],_=>rfl
 | y::ys,h=>by
   show sumF (addI 1099511627776 y) ys=_
   have:=h y (by simp)
   rw[show addI 1099511627776 y=1099511627776 by unfold addI;omega,sumF_top ys fun z hz=>h z (by simp[hz])]
abbrev Sm:={ p:Int×List Int // (0≤p.1∧p.1≤1099511627776)∧(∀ y∈p.2,0≤y∧y≤9223372036854775807)∧p.2.length≤9223372036854775807 }
abbrev kEz:Con where
 ι:=Sm
 args:=fun p=>[.v (.int .i64 p.1.1),.sl 0 1 (ints .i64 p.1.2)]
 post:=fun p r=>r = .v (.int .i64 (sumF p.1.1 p.1.2))
 plain:=true
theorem sum_good:Rw.Good Tryz.prog 93 kEz:=by
 have hΓ:kM Tryz.prog []:=kJ
 refine k8 (nn:=30) hΓ Tryz.func93 (by kernel_rfl) rfl (show Tryz.f93.results.toList=[.tmp 4] from rfl) (fun _=>rfl) (fun _=>rfl) ?_
 rintro ⟨⟨x,ys⟩,hx,hy,hl⟩
 simp only at hx hy hl
 simp only[aR,seval,zV]
 obtain ⟨St,hSt⟩:∃ St:{ p:Int×Nat // p.2≤ys.length∧(0≤p.1∧p.1≤1099511627776)∧sumF x ys=sumF p.1 (ys.drop p.2) }→AS,∀ p,St p=AS.of 30 [(0,.v (.int .i64 p.1.1)),(1,.sl 0 1 (ints .i64 ys)),(5,.v (.int .i64 p.1.2))] [] []:=⟨_,fun _=>rfl⟩
 refine zO hΓ St (fun p=>ys.length - p.1.2) ⟨(x,0),by omega,hx,rfl⟩ (by rw[hSt];refine kT [] [] ?_;simp only[aR,seval]<;>((repeat' apply And.intro)<;>first|rfl|omega|trivial)) ?_
 rintro ⟨⟨s,i⟩,hi,hs,hb⟩
 simp only at hi hs hb
 rw[hSt]
 simp only
 simp only[aR,seval,zV]
 (with_reducible first|refine kF (fun h=>?_) (fun h=>?_)|refine kG (fun h=>?_) (fun h=>?_))
 ·have hlt:i < ys.length:=by omega
  have hyi:=hy ys[i] (List.getElem_mem hlt)
  have hge:∀ y∈ys.drop i,0≤y:=fun y hm=>(hy y (List.mem_of_mem_drop hm)).1
  rw[List.drop_eq_getElem_cons hlt]at hb hge
  have e1:(ints .i64 ys).getD i .any = .v (.int .i64 ys[i]):=by simp[ints,List.getD_eq_getElem?_getD,hlt]
  have hs2:¬ s > 1099511627776:=by omega
  have early:ys[i] > 1099511627776 - s→sumF x ys=1099511627776:=fun h=>by
   rw[hb]
   show sumF (addI s ys[i]) _=_
   rw[show addI s ys[i]=1099511627776 by unfold addI;omega,sumF_top _ fun z hz=>hge z (List.mem_cons_of_mem _ hz)]
  generalize ys[i]=y at *
  simp (disch:=omega) only[aR,seval,kD,h,hs2,e1,zV]
  (repeat (with_reducible refine And.intro ?_ ?_;focus (first|omega|exact kE|kernel_rfl)))
  (with_reducible first|refine kF (fun h2=>?_) (fun h2=>?_)|refine kG (fun h2=>?_) (fun h2=>?_))
  ·simp (disch:=omega) only[aR,seval,kD,h2,e1,zV]
   rw[early h2]
  ·simp (disch:=omega) only[aR,seval,kD,h2,e1,zV]
   (repeat (with_reducible refine And.intro ?_ ?_;focus (first|omega|exact kE|kernel_rfl)))
   have hr:addI s y=s+y:=addI_eq (by omega)
   refine kN ⟨(s+y,i+1),by simp only;omega,by simp only;omega,by rw[hb,← hr];rfl⟩ (by simp only;omega) ?_
   rw[hSt];refine kT [] [] ?_
   simp only[aR,seval]<;>((repeat' apply And.intro)<;>first|rfl|omega|trivial)
 ·simp only[aR,seval,h]
  rw[List.drop_of_length_le (by omega)]at hb
  rw[hb];rfl
theorem call_sum {Γ:Env} (hf:Γ.get 93=some kEz) {σ:AS} {dr:Bool} {x:Int} {y:List Int} {t:Nat} {ys:List AV} {d:Option Nat} {K:AS→Prop} (hy:ys=ints .i64 y) (h1:0≤x∧x≤1099511627776) (h2:∀ z∈y,0≤z∧z≤9223372036854775807) (h3:y.length≤9223372036854775807)
    (hk:cont σ d (.v (.int .i64 (sumF x y))) K):kS Tryz.prog Γ dr σ 93 [.v (.int .i64 x),.sl t 1 ys] d K:=by
 subst hy
 exact kP (C:=kEz) (i:=⟨(x,y),h1,h2,h3⟩) hf rfl rfl rfl rfl (fun _ h=>h) rfl hk
theorem kA5:∀ (ys:List Int) {x:Int},(0≤x∧x≤1099511627776)→(∀ y∈ys,0≤y)→x≤sumF x ys∧sumF x ys≤1099511627776
 | [],x,h,_=>by simp [sumF];omega
 | y::ys,x,h,hy=>by
   have h1:=hy y (by simp)
   have h2:=qP h.1 h1
   have h3:x≤addI x y:=by unfold addI;omega
   have h4:=kA5 ys h2 fun z hz=>hy z (by simp[hz])
   show x≤sumF (addI x y) ys∧sumF (addI x y) ys≤_
   omega
def kA8 (m:Int):Int→List Cp→Int
 | s,[]=>s
 | s,c::r=>if s≤m then kA8 m (sumF s [c.t.length,2]) r else s
abbrev Wide:={ l:List Cp // l.length≤9223372036854775807∧∀ c∈l,c.t.length≤9223372036854775807 }
end Go.Proofs
end
-- EUo9
section
namespace Go.Proofs
open Go Go.Rw
set_option maxRecDepth 100000
def fol (q k:Int):Bool:=!(decide (q=k) || (decide (q=3) && decide (k=2)))
def neat (c:Cp):Bool:=if c.k=2 then decide (c.n=0) && decide (c.t≠[]) else (decide (c.k=1) || decide (c.k=3)) && decide (0 < c.n) && decide (c.n≤1099511627776) && decide (c.t=[])
def shape:Int→List Cp→Bool
 | _,[]=>true
 | q,c::r=>neat c && fol q c.k && shape c.k r
end Go.Proofs
end
-- EUo10
section
namespace Go.Proofs
open Go Go.Rw
set_option maxRecDepth 100000
def tn:List Cp→Int
 | []=>0
 | c::r=>max c.n 0+tn r
def sumN:Int→List Cp→Int
 | s,[]=>s
 | s,c::r=>sumN (addI s (max c.n 0)) r
theorem tn_pos:∀ l:List Cp,0≤tn l
 | []=>by simp [tn]
 | c::r=>by simp only [tn];have:=tn_pos r;omega
theorem sumN_eq:∀ (l:List Cp) {s:Int},(0≤s∧s≤1099511627776)→sumN s l=min (s+tn l) 1099511627776
 | [],s,h=>by simp only [sumN,tn];omega
 | c::r,s,h=>by
   have h2:=qP h.1 (show 0≤max c.n 0 by omega)
   have:=tn_pos r
   simp only[sumN,tn]
   rw[sumN_eq r h2]
   unfold addI
   omega
def allV (l:List Cp):Bool:=l.all fun c=>(pts c.t).isSome
theorem addI_z {x:Int} (h:x≤1099511627776):addI x 0=x:=by unfold addI;omega
end Go.Proofs
end
-- EAp0
section
namespace Go.Proofs
open Go Go.Rw
def cpts (t:List UInt8):List Nat:=(pts t).getD []
theorem kCB {t:List UInt8} {cs:List Nat} (h:pts t=some cs):cpts t=cs:=by unfold cpts;rw[h];rfl
theorem cpts_nil:cpts []=[]:=rfl
theorem cpts_enc {cs:List Nat} (h:∀ c∈cs,okc c):cpts (encs cs)=cs:=kCB (pts_enc h)
theorem isSome_cpts {t:List UInt8} (h:(pts t).isSome=true):pts t=some (cpts t):=by
 obtain ⟨cs,hc⟩:=Option.isSome_iff_exists.1 h
 rw[hc,kCB hc]
theorem kBI {t:List UInt8} (h:(pts t).isSome=true):encs (cpts t)=t∧∀ c∈cpts t,okc c:=by
 obtain ⟨h1,h2⟩:=kAp (isSome_cpts h)
 exact ⟨h2.symm,h1⟩
theorem lc_cpts {t:List UInt8} (h:(pts t).isSome=true):lc t=(cpts t).length:=by
 obtain ⟨e1,o1⟩:=kBI h
 conv=>lhs;rw[← e1]
 exact lc_encs _ o1
theorem okc_take {cs:List Nat} (h:∀ c∈cs,okc c) (n:Nat):∀ c∈cs.take n,okc c:=fun c hc=>h c (List.mem_of_mem_take hc)
theorem okc_drop {cs:List Nat} (h:∀ c∈cs,okc c) (n:Nat):∀ c∈cs.drop n,okc c:=fun c hc=>h c (List.mem_of_mem_drop hc)
theorem kEI {cs:List Nat}:(encs cs).length≤4 * cs.length:=by
 induction cs with
 | nil=>simp [kBz]
 | cons c cs ih=>rw [kAi,List.length_cons];have:=wid_le c;omega
def doL:List Nat→List Cp→List Nat
 | _,[]=>[]
 | cs,c::r=>if someC c=false then doL cs r else if c.k=2 then cpts c.t++doL cs r else if c.k=3 then doL (cs.drop c.n.toNat) r else cs.take c.n.toNat++doL (cs.drop c.n.toNat) r
theorem do_ins {cs:List Nat} {c:Cp} {r:List Cp} (h:someC c=true) (h2:c.k=2):doL cs (c::r)=cpts c.t++doL cs r:=by rw[doL,if_neg (by rw[h];decide),if_pos h2]
theorem do_del {cs:List Nat} {c:Cp} {r:List Cp} (h:someC c=true) (h2:c.k=3):doL cs (c::r)=doL (cs.drop c.n.toNat) r:=by rw[doL,if_neg (by rw[h];decide),if_neg (by omega),if_pos h2]
theorem do_ret {cs:List Nat} {c:Cp} {r:List Cp} (h:someC c=true) (h2:¬ c.k=2) (h3:¬ c.k=3):doL cs (c::r)=cs.take c.n.toNat++doL (cs.drop c.n.toNat) r:=by rw[doL,if_neg (by rw[h];decide),if_neg h2,if_neg h3]
def fit (cs:List Nat) (l:List Cp):Prop:=(∀ c∈l,qM c=true)∧(cs.length:Int)=tn l
theorem zW {c:Cp} (h:qM c=true):(c.k=2∧c.n=0∧c.t≠[]∧(pts c.t).isSome=true)∨((c.k=1∨c.k=3)∧0 < c.n∧c.t=[]):=by
 unfold qM at h
 split at h
 ·rename_i h2
  simp at h
  exact .inl ⟨h2,h.1.1,h.1.2,h.2⟩
 ·split at h
  ·rename_i h13
   simp at h
   exact .inr ⟨h13,h.1,h.2⟩
  ·cases h
theorem kFV {c:Cp} (h:qM c=true):someC c=true:=by
 unfold someC
 rcases zW h with ⟨h2,_,h3,_⟩|⟨h13,h4,_⟩
 ·rw[if_pos h2];simp[h3]
 ·rw[if_neg (by omega)]
  rcases h13 with h|h<;>simp[h,h4]
theorem fit_cons {cs:List Nat} {c:Cp} {r:List Cp} (h:fit cs (c::r)):qM c=true∧0≤c.n∧c.n.toNat≤cs.length∧fit (cs.drop c.n.toNat) r:=by
 obtain ⟨h1,h2⟩:=h
 have hs:=h1 c (by simp)
 have hp:=tn_pos r
 have hn:0≤c.n:=by rcases zW hs with ⟨_,h,_⟩|⟨_,h,_⟩<;>omega
 simp only[tn]at h2
 exact ⟨hs,hn,by omega,fun x hx=>h1 x (by simp[hx]),by rw[List.length_drop];omega⟩
theorem kE7:∀ (l:List Cp) (m:Int),(0≤m∧m≤1099511627776)→(∀ c∈l,qM c=true)→kD1 m l=sumN m l
 | [],_,_,_=>rfl
 | c::r,m,hm,h=>by
   have hr:=fun x hx=>h x (List.mem_cons_of_mem c hx)
   have hs:=zW (h c (by simp))
   simp only[kD1,sumN]
   by_cases h13:c.k=1∨c.k=3
   ·rw[if_pos h13]
    exact kE7 r _ (qP hm.1 (by omega)) hr
   ·rw[if_neg h13]
    rcases hs with ⟨_,h0,_⟩|⟨h,_⟩
    ·rw[h0,show max (0:Int) 0=0 from rfl,addI_z hm.2]
     exact kE7 r m hm hr
    ·exact absurd h h13
theorem kDU:∀ (l:List Cp) (p:Option Cp),zP p l=true→∀ c∈l,qM c=true
 | [],_,_,c,hc=>by cases hc
 | c::r,p,h,x,hx=>by
   simp only[zP,Bool.and_eq_true]at h
   rcases List.mem_cons.1 hx with rfl|hx
   ·exact h.1.1
   ·exact kDU r (some c) h.2 x hx
theorem kAI {l:List Cp} (h:qY l=0):l.length≤100∧qF l=true∧(∀ c∈l,qM c=true)∧kAL l=tn l∧tn l≤2000∧outL l≤2000:=by
 unfold qY at h
 split at h
 ·cases h
 ·split at h
  ·cases h
  ·split at h
   ·cases h
   ·rename_i h1 h2 h3
    have h4:qF l=true:=by simpa using h2
    have h5:=kDU l none h4
    have h6:kAL l=min (0+tn l) 1099511627776:=by
     unfold kAL
     rw[kE7 l 0 (by omega) h5,sumN_eq l (by omega)]
    have h7:=tn_pos l
    exact ⟨by omega,h4,h5,by omega,by omega,by omega⟩
theorem fit_check {l:List Cp} (h:qY l=0) {cs:List Nat} (hb:(cs.length:Int)=kAL l):fit cs l:=by
 obtain ⟨_,_,h1,h2,_,_⟩:=kAI h
 exact ⟨h1,by rw[hb,h2]⟩
theorem out_do:∀ (l:List Cp) (cs:List Nat) (m:Int),0≤m→fit cs l→outF m l≤2000→outF m l=m+(doL cs l).length
 | [],_,m,_,_,_=>by simp [outF,doL]
 | c::r,cs,m,hm,hf,ho=>by
   obtain ⟨hs,hn,hle,hf2⟩:=fit_cons hf
   have hso:=kFV hs
   simp only[outF]at ho ⊢
   have mono:∀ (l:List Cp) (m:Int),0≤m→m≤1099511627776→m≤outF m l:=by
    intro l
    induction l with
    | nil=>intro m _ _;simp [outF]
    | cons c r ih =>
      intro m h1 h2
      simp only[outF]
      split
      ·have h3:=qP h1 (show 0≤max c.n 0 by omega)
       have h4:=ih _ h3.1 h3.2
       have:m≤addI m (max c.n 0):=by unfold addI;omega
       omega
      ·split
       ·have h3:=qP h1 (show 0≤(lc c.t:Int) by omega)
        have h4:=ih _ h3.1 h3.2
        have:m≤addI m (lc c.t):=by unfold addI;omega
        omega
       ·exact ih m h1 h2
   rcases zW hs with ⟨h2,h0,_,hv⟩|⟨h13,hp,_⟩
   ·rw[if_neg (by omega),if_pos h2]at ho ⊢
    have hb:=qP hm (show 0≤(lc c.t:Int) by omega)
    have hm2:=mono r _ hb.1 hb.2
    have hm3:addI m (lc c.t)≤2000:=by omega
    have e:addI m (lc c.t)=m+lc c.t:=by unfold addI at hm3 ⊢;omega
    rw[e]at ho ⊢
    rw[h0]at hf2
    have:=out_do r cs (m+lc c.t) (by omega) (by simpa using hf2) ho
    rw[this,do_ins hso h2,List.length_append,lc_cpts hv];omega
   ·by_cases h1:c.k=1
    ·rw[if_pos h1]at ho ⊢
     have hb:=qP hm (show 0≤max c.n 0 by omega)
     have hm2:=mono r _ hb.1 hb.2
     have hm3:addI m (max c.n 0)≤2000:=by omega
     have e:addI m (max c.n 0)=m+c.n:=by unfold addI at hm3 ⊢;omega
     rw[e]at ho ⊢
     have:=out_do r _ (m+c.n) (by omega) hf2 ho
     rw[this,do_ret hso (by omega) (by omega),List.length_append,List.length_take];omega
    ·rw[if_neg h1,if_neg (by omega)]at ho ⊢
     have:=out_do r _ m hm hf2 ho
     rw[this,do_del hso (by omega)]
theorem do_okc:∀ (l:List Cp) (cs:List Nat),(∀ c∈cs,okc c)→allV l=true→∀ c∈doL cs l,okc c
 | [],_,_,_,c,h=>by cases h
 | c::r,cs,hc,hv,x,hx=>by
   simp only[allV,List.all_cons,Bool.and_eq_true]at hv
   rw[doL]at hx
   split at hx
   ·exact do_okc r cs hc hv.2 x hx
   ·split at hx
    ·rcases List.mem_append.1 hx with h|h
     ·exact (kBI hv.1).2 x h
     ·exact do_okc r cs hc hv.2 x h
    ·split at hx
     ·exact do_okc r _ (okc_drop hc _) hv.2 x hx
     ·rcases List.mem_append.1 hx with h|h
      ·exact okc_take hc _ x h
      ·exact do_okc r _ (okc_drop hc _) hv.2 x h
theorem sound_texts {l:List Cp} (h:∀ c∈l,qM c=true):allV l=true:=by
 unfold allV
 rw[List.all_eq_true]
 intro c hc
 rcases zW (h c hc) with ⟨_,_,_,hv⟩|⟨_,_,ht⟩
 ·exact hv
 ·rw[ht,pts_nil];rfl
structure Sp where
 c:Cp
 was:List UInt8
 puts:List UInt8
def kBL:List Nat→List Cp→List Sp
 | _,[]=>[]
 | cs,c::r=>⟨c,if c.k=2 then [] else encs (cs.take c.n.toNat),if c.k=2 then c.t else if c.k=3 then [] else encs (cs.take c.n.toNat)⟩::kBL (cs.drop c.n.toNat) r
theorem kEJ:∀ (l:List Cp) (cs:List Nat),(kBL cs l).length=l.length
 | [],_=>rfl
 | c::r,cs=>by rw [kBL,List.length_cons,kEJ r,List.length_cons]
theorem kFL:∀ (l:List Cp) (cs:List Nat),fit cs l→(kBL cs l).flatMap Sp.puts=encs (doL cs l)
 | [],_,_=>rfl
 | c::r,cs,h=>by
   obtain ⟨hs,hn,hle,hf⟩:=fit_cons h
   have hso:=kFV hs
   rw[kBL,List.flatMap_cons,kFL r _ hf]
   simp only
   rcases zW hs with ⟨h2,h0,_,hv⟩|⟨h13,hp,_⟩
   ·rw[if_pos h2,do_ins hso h2,kAP,(kBI hv).1,h0];rfl
   ·rw[if_neg (by omega)]
    by_cases h3:c.k=3
    ·rw[if_pos h3,do_del hso h3];rfl
    ·rw[if_neg h3,do_ret hso (by omega) h3,kAP]
def undoS (x:Sp):Cp:=if x.c.k=2 then ⟨3,(cpts x.puts).length,[]⟩ else if x.c.k=3 then ⟨2,0,x.was⟩ else x.c
def undoL (cs:List Nat) (l:List Cp):List Cp:=(kBL cs l).map undoS
def errI (s:List UInt8) (l:List Cp):Int:=if qY l=0 then (match pts s with|none=>2|some cs=>if (cs.length:Int)=kAL l then 0 else 11) else qY l
theorem err_zero {s:List UInt8} {l:List Cp} (h:errI s l=0):qY l=0∧pts s=some (cpts s)∧((cpts s).length:Int)=kAL l∧fit (cpts s) l:=by
 unfold errI at h
 split at h
 ·rename_i hc
  split at h
  ·cases h
  ·rename_i cs hp
   split at h
   ·rename_i hb
    rw[kCB hp]
    exact ⟨hc,hp,hb,fit_check hc hb⟩
   ·cases h
 ·rename_i hc;exact absurd h hc
def stp (s:List UInt8) (l:List Cp):List Sp:=if errI s l=0 then kBL (cpts s) l else []
def z8 (s:List UInt8) (l:List Cp):List UInt8:=if errI s l=0 then encs (doL (cpts s) l) else []
def undone (s:List UInt8) (l:List Cp):List Cp:=if errI s l=0 then nf (undoL (cpts s) l) else []
end Go.Proofs
end
-- EAp1
section
namespace Go.Proofs
open Go Go.Rw
set_option maxRecDepth 100000
def stA (x:Sp):AV:=.agg [.v (.int .i64 x.c.k),.v (.int .i64 x.c.n),.v (sv x.c.t),.v (sv x.was),.v (sv x.puts)]
def sts (l:List Sp):List AV:=l.map stA
theorem sts_nil:sts []=[]:=rfl
theorem kBP (l:List Sp):(sts l).length=l.length:=by simp[sts]
theorem sts_snoc (l:List Sp) (k n:Int) (t w p:List UInt8):sts l++[.agg [.v (.int .i64 k),.v (.int .i64 n),.v (sv t),.v (sv w),.v (sv p)]]=sts (l++[⟨⟨k,n,t⟩,w,p⟩]):=by simp[sts,stA]
theorem sts_getD (l:List Sp) {i:Nat} (h:i < l.length):(sts l).getD i .any = .agg [.v (.int .i64 l[i].c.k),.v (.int .i64 l[i].c.n),.v (sv l[i].c.t),.v (sv l[i].was),.v (sv l[i].puts)]:=by
 simp[sts,stA,List.getD_eq_getElem?_getD,h]
theorem part_le {l sz i j:Nat} {xs:List AV} (h:j≤xs.length):partA l sz xs i j = .sl l sz ((xs.drop i).take (j - i)):=by
 unfold partA
 split
 ·rename_i hc
  obtain ⟨rfl,rfl⟩:=hc
  simp
 ·rfl
def kBn (s:List UInt8) (l:List Cp):AV:=res2 (.sl 0 5 (sts (stp s l))) (errI s l)
theorem stepsR_er (s:List UInt8) (l:List Cp):(kBn s l).er=kBn s l:=by
 have:∀ l:List Sp,AV.erL (sts l)=sts l:=fun l=>by
  induction l with
  | nil=>rfl
  | cons c r ih=>show AV.er (stA c)::AV.erL (sts r)=_;rw [ih];rfl
 rfl
abbrev kDi:Con where
 ι:=Str×Ed
 args:=fun p=>[.v (sv p.1.1),.sl 0 3 (qX p.2.1)]
 post:=fun p r=>r=kBn p.1.1 p.2.1
abbrev SSt (cs:List Nat) (l:List Cp):={ p:List Sp×List Nat×Nat // p.2.2≤l.length∧fit p.2.1 (l.drop p.2.2)∧p.1++kBL p.2.1 (l.drop p.2.2)=kBL cs l∧∀ c∈p.2.1,okc c }
theorem steps_good:Rw.Good Tryz.prog 125 kDi:=by
 have hΓ:kM Tryz.prog [(113,kCb),(95,kAj),(144,kAe)]:=(kI check_good (kI kBT (kI base_good kJ)))
 refine k8 (nn:=72) hΓ Tryz.func125 (by kernel_rfl) rfl (show Tryz.f125.results.toList=[.tmp 4,.tmp 5] from rfl) (fun _=>rfl) (fun _=>rfl) ?_
 rintro ⟨⟨s,hs⟩,⟨l,hl⟩⟩
 simp only[aR,seval]
 refine vc_scope hΓ 1 ?_
 simp only[aR,seval]
 refine call_check (by simp[kH]) rfl hl ?_
 by_cases hc:qY l=0
 ·simp only[aR,seval,hc]
  refine kAb (by simp[kH]) hs ?_
  rcases kE0 (pts s) with hp|⟨cs,hp⟩
  ·have he:errI s l=2:=by unfold errI;rw[if_pos hc,hp]
   simp only[aR,seval,kBg,hp,res2]
   refine ⟨_,rfl,?_⟩
   simp only[aR,seval]
   unfold kBn stp
   rw[he];rfl
  ·simp only[aR,seval,kBg,hp,res2]
   refine call_base (by simp[kH]) rfl hl ?_
   by_cases hb:(cs.length:Int)=kAL l
   ·have he:errI s l=0:=by unfold errI;rw[if_pos hc,hp];simp only;rw[if_pos hb]
    have hfit:=fit_check hc hb
    obtain ⟨hok,hse⟩:=kAp hp
    have hr:=runesA_pts hp
    have hlen:=(kAI hc).1
    have hcl:=kCB hp
    simp only[aR,seval,hb,hr,kD2]
    refine ⟨by omega,?_⟩
    obtain ⟨St,hSt⟩:∃ St:SSt cs l→AS,∀ p,St p=AS.of 72 [(4,.sl 2 5 (sts p.1.1)),(5,.v (.int .i64 0)),(7,.sl 0 1 (i32s p.1.2.1)),(28,.sl 0 3 (qX l)),(29,.v (.int .i64 l.length)),(30,.v (.int .i64 p.1.2.2))] [] [(p.1.1.length,154)]:=⟨_,fun _=>rfl⟩
    refine zO hΓ St (fun p=>l.length - p.1.2.2) ⟨([],cs,0),by simp,hfit,rfl,hok⟩ (by rw[hSt];refine kT [] [.nil 5] ?_;simp only[aR,seval,sts_nil,kL]<;>((repeat' apply And.intro)<;>first|rfl|omega|trivial)) ?_
    rintro ⟨⟨out,ds,i⟩,hi,hf,ho,hdk⟩
    simp only at hi hf ho hdk
    rw[hSt]
    simp only
    simp only[aR,seval,kL]
    (with_reducible first|refine kF (fun h=>?_) (fun h=>?_)|refine kG (fun h=>?_) (fun h=>?_))
    ·have hlt:i < l.length:=by omega
     have e1:=zF l hlt
     have hct:=okL.text hl (List.getElem_mem hlt)
     rw[List.drop_eq_getElem_cons hlt]at hf ho
     obtain ⟨hso,hn0,hnl,hf2⟩:=fit_cons hf
     rw[kBL]at ho
     have hcs:=zW hso
     have hol:out.length≤100:=by
      have:=congrArg List.length ho
      rw[List.length_append,kEJ]at this
      omega
     generalize l[i]=c at *
     obtain ⟨k,n,t⟩:=c
     simp only at *
     have htk:utfL ((ds.take n.toNat).map fun (c:Nat)=>(c:Int))=encs (ds.take n.toNat):=utfL_encs (okc_take hdk _)
     have again:∀ (σ:AS) (x:Sp),x=⟨⟨k,n,t⟩,if k=2 then [] else encs (ds.take n.toNat),if k=2 then t else if k=3 then [] else encs (ds.take n.toNat)⟩→Weak σ (AS.of 72 [(4,.sl 2 5 (sts (out++[x]))),(5,.v (.int .i64 0)),(7,.sl 0 1 (i32s (ds.drop n.toNat))),(28,.sl 0 3 (qX l)),(29,.v (.int .i64 l.length)),(30,.v (.int .i64 (i+1:Nat)))] [] [((out++[x]).length,154)])→∃ y:SSt cs l,l.length - y.1.2.2 < l.length - i∧Weak σ (St y):=fun σ x hx hw =>
      ⟨⟨(out++[x],ds.drop n.toNat,i+1),by simp only;omega,hf2,by simp only;rw[← ho,hx];simp,okc_drop hdk _⟩,by simp only;omega,by rw[hSt];exact hw⟩
     have p1:partA 0 1 (i32s ds) 0 n.toNat = .sl 0 1 (i32s (ds.take n.toNat)):=by rw[part_le (by rw[kD2];omega),i32s_part];simp
     have p2:partA 0 1 (i32s ds) n.toNat ds.length = .sl 0 1 (i32s (ds.drop n.toNat)):=by rw[part_le (by rw[kD2];omega),i32s_part,List.take_of_length_le (by rw[List.length_drop];omega)]
     simp (disch:=omega) only[aR,seval,kD,h,e1,kL,kD2,p1,p2,i32sOf_i32s,htk,Int.toNat_natCast]
     (repeat (with_reducible refine And.intro ?_ ?_;focus (first|omega|exact kE|kernel_rfl)))
     (with_reducible first|refine kF (fun h2=>?_) (fun h2=>?_)|refine kG (fun h2=>?_) (fun h2=>?_))
     ·subst h2
      simp (disch:=omega) only[aR,seval,kD,kBP,sts_snoc,List.map_cons,List.map_nil]
      (repeat (with_reducible refine And.intro ?_ ?_;focus (first|omega|exact kE|kernel_rfl)))
      refine again _ ⟨⟨2,n,t⟩,[],t⟩ ?_ ?_
      rotate_left
      ·refine kT [] [.live 2] ?_
       simp only[aR,seval,kBP,List.length_append]<;>((repeat' apply And.intro)<;>first|rfl|omega|trivial)
      ·simp
     ·simp (disch:=omega) only[aR,seval,kD,h2]
      (with_reducible first|refine kF (fun h3=>?_) (fun h3=>?_)|refine kG (fun h3=>?_) (fun h3=>?_))
      ·subst h3
       simp (disch:=omega) only[aR,seval,kD,kBP,sts_snoc,List.map_cons,List.map_nil]
       (repeat (with_reducible refine And.intro ?_ ?_;focus (first|omega|exact kE|kernel_rfl)))
       refine again _ ⟨⟨3,n,t⟩,encs (ds.take n.toNat),[]⟩ ?_ ?_
       rotate_left
       ·refine kT [] [.live 2] ?_
        simp only[aR,seval,kBP,List.length_append]<;>((repeat' apply And.intro)<;>first|rfl|omega|trivial)
       ·simp
      ·simp (disch:=omega) only[aR,seval,kD,h3,kBP,sts_snoc,List.map_cons,List.map_nil]
       (repeat (with_reducible refine And.intro ?_ ?_;focus (first|omega|exact kE|kernel_rfl)))
       refine again _ ⟨⟨k,n,t⟩,encs (ds.take n.toNat),encs (ds.take n.toNat)⟩ ?_ ?_
       rotate_left
       ·refine kT [] [.live 2] ?_
        simp only[aR,seval,kBP,List.length_append]<;>((repeat' apply And.intro)<;>first|rfl|omega|trivial)
       ·simp[h2,h3]
    ·have hin:i=l.length:=by omega
     simp only[aR,seval,h]
     rw[hin,List.drop_length,kBL,List.append_nil]at ho
     unfold kBn stp
     rw[if_pos he,he,hcl,ho];rfl
   ·have he:errI s l=11:=by unfold errI;rw[if_pos hc,hp];simp only;rw[if_neg hb]
    simp only[aR,seval,hb]
    refine ⟨_,rfl,?_⟩
    simp only[aR,seval]
    unfold kBn stp
    rw[he];rfl
 ·have he:errI s l=qY l:=by unfold errI;rw[if_neg hc]
  simp only[aR,seval,hc]
  refine ⟨_,rfl,?_⟩
  simp only[aR,seval]
  unfold kBn stp
  rw[he,if_neg hc];rfl
theorem call_steps {Γ:Env} (hf:Γ.get 125=some kDi) {σ:AS} {dr:Bool} {s:List UInt8} {l:List Cp} {t:Nat} {ys:List AV} {d:Option Nat} {K:AS→Prop} (hy:ys=qX l) (hs:s.length≤1099511627776) (hl:okL l) (ht:t < 2)
    (hk:cont σ d (kBn s l) K):kS Tryz.prog Γ dr σ 125 [.v (sv s),.sl t 3 ys] d K:=by
 subst hy
 refine kEX (C:=kDi) (i:=(⟨s,hs⟩,⟨l,hl⟩)) (r:=kBn s l) hf rfl rfl rfl ?_ (fun _ h=>h) (by rw[stepsR_er];exact hk)<;>simp[AV.erL,AV.er,AV.tagsL,AV.tags,comps_er]<;>omega
end Go.Proofs
end
-- EAp2
section
namespace Go.Proofs
open Go Go.Rw
set_option maxRecDepth 100000
theorem pnt_width {l:List UInt8} (h:l≠[]):max ((pnt l).2:Int) 1=(Lib.decodeL l).2∧1≤(Lib.decodeL l).2:=by
 have hw:=Lib.decodeL_width l
 refine ⟨?_,hw⟩
 unfold pnt
 split
 ·rename_i hc
  rcases hc with ⟨_,h2⟩|h2
  ·simp only;omega
  ·by_cases hv:(Lib.decodeL l).1=65533∧(Lib.decodeL l).2=1
   ·simp only;omega
   ·obtain ⟨_,h3,_⟩:=kBu h hv
    rw[h2]at h3
    simp only
    rw[h3];rfl
 ·omega
theorem head_zero {l:List UInt8} (h:l≠[]) (h0:l.getD 0 0=0):(Lib.decodeL l).2=1:=by
 cases l with
 | nil=>exact absurd rfl h
 | cons x r =>
   simp only[List.getD_cons_zero]at h0
   subst h0
   have:=kB4 (c:=0) (.inr rfl) r
   have e:enc 0++r=0::r:=rfl
   rw[e]at this
   rw[this];rfl
theorem loose_good:Rw.Good Tryz.prog 146 rcCon:=by
 have hΓ:kM Tryz.prog [(122,pntCon)]:=(kI kEw kJ)
 refine k8 (nn:=27) hΓ Tryz.func146 (by kernel_rfl) rfl (show Tryz.f146.results.toList=[.tmp 2] from rfl) (fun _=>rfl) (fun _=>rfl) ?_
 rintro ⟨s,hs⟩
 simp only[aR,seval]
 obtain ⟨St,hSt⟩:∃ St:{ p:Nat×Nat // p.1+lc (s.drop p.2)=lc s }→AS,∀ p,St p=AS.of 27 [(0,.v (sv s)),(3,.v (.int .i64 p.1.1)),(4,.v (.int .i64 p.1.2))] [] []:=⟨_,fun _=>rfl⟩
 refine zO hΓ St (fun p=>s.length - p.1.2) ⟨(0,0),by simp⟩ (by rw[hSt];refine kT [] [] ?_;simp only[aR,seval]<;>((repeat' apply And.intro)<;>first|rfl|omega|trivial)) ?_
 rintro ⟨⟨k,i⟩,hk⟩
 simp only at hk
 have hlk:=lc_len s
 rw[hSt]
 simp only
 simp only[aR,seval]
 (with_reducible first|refine kF (fun h=>?_) (fun h=>?_)|refine kG (fun h=>?_) (fun h=>?_))
 ·have hlt:i < s.length:=by omega
  have hne:=drop_ne hlt
  have hw:=pnt_width hne
  have hsm:=pnt_small (s.drop i)
  have hle:(Lib.decodeL (s.drop i)).2≤4:=by omega
  rw[lc_step hne,List.drop_drop]at hk
  have again:∀ σ:AS,Weak σ (AS.of 27 [(0,.v (sv s)),(3,.v (.int .i64 (k+1:Nat))),(4,.v (.int .i64 (i+(Lib.decodeL (s.drop i)).2:Nat)))] [] [])→∃ y:{ p:Nat×Nat // p.1+lc (s.drop p.2)=lc s },s.length - y.1.2 < s.length - i∧Weak σ (St y):=fun σ hw2 =>
   ⟨⟨(k+1,i+(Lib.decodeL (s.drop i)).2),by simp only;omega⟩,by simp only;omega,by rw[hSt];exact hw2⟩
  simp (disch:=omega) only[aR,seval,kD,h]
  (repeat (with_reducible refine And.intro ?_ ?_;focus (first|omega|exact kE|kernel_rfl)))
  (with_reducible first|refine kF (fun h2=>?_) (fun h2=>?_)|refine kG (fun h2=>?_) (fun h2=>?_))
  ·simp (disch:=omega) only[aR,seval,kD,h2]
   refine kEo (by simp[kH]) hs hlt ?_
   unfold pntR
   simp (disch:=omega) only[aR,seval,kD,zS,hw.1]
   refine again _ ?_
   refine kT [] [] ?_
   simp only[aR,seval]<;>((repeat' apply And.intro)<;>first|rfl|omega|trivial)
  ·have h3:(s.drop i).getD 0 0=0:=by
     have h4:((s.getD i 0).toNat:Int)=0:=by omega
     have h5:s.getD i 0=0:=by
      have:(s.getD i 0).toNat=0:=by omega
      exact UInt8.toNat_inj.1 (by simpa using this)
     simp only[List.getD_eq_getElem?_getD,List.getElem?_drop,Nat.add_zero]at h5 ⊢
     exact h5
   have h6:=head_zero hne h3
   simp (disch:=omega) only[aR,seval,kD,h2,zS,show max (1:Int) 1=1 from rfl]
   refine again _ ?_
   rw[h6]
   refine kT [] [] ?_
   simp only[aR,seval]<;>((repeat' apply And.intro)<;>first|rfl|omega|trivial)
 ·simp only[aR,seval,h]
  rw[List.drop_of_length_le (by omega),lc_nil]at hk
  omega
theorem call_loose {Γ:Env} (hf:Γ.get 146=some rcCon) {σ:AS} {dr:Bool} {l:List UInt8} {d:Option Nat} {K:AS→Prop} (h:l.length≤1099511627776)
    (hk:cont σ d (.v (.int .i64 (lc l))) K):kS Tryz.prog Γ dr σ 146 [.v (sv l)] d K :=
 kP (C:=rcCon) (i:=⟨l,h⟩) hf rfl rfl rfl rfl (fun _ h=>h) rfl hk
theorem rbase_good:Rw.Good Tryz.prog 97 kAe:=by
 have hΓ:kM Tryz.prog [(123,kE6)]:=(kI held_good kJ)
 refine k8 (nn:=33) hΓ Tryz.func97 (by kernel_rfl) rfl (show Tryz.f97.results.toList=[.tmp 2] from rfl) (fun _=>rfl) (fun _=>rfl) ?_
 rintro ⟨l,hl,htot,hc⟩
 simp only[aR,seval,kL]
 obtain ⟨St,hSt⟩:∃ St:{ p:Int×Nat // p.2≤l.length∧0≤p.1∧p.1≤1099511627776∧kAL l=kD1 p.1 (l.drop p.2) }→AS,∀ p,St p=AS.of 33 [(0,.sl 0 3 (qX l)),(3,.v (.int .i64 p.1.1)),(4,.v (.int .i64 p.1.2))] [] []:=⟨_,fun _=>rfl⟩
 refine zO hΓ St (fun p=>l.length - p.1.2) ⟨(0,0),by omega,by omega,by omega,rfl⟩ (by rw[hSt];refine kT [] [] ?_;simp only[aR,seval]<;>((repeat' apply And.intro)<;>first|rfl|omega|trivial)) ?_
 rintro ⟨⟨n,i⟩,hi,hn1,hn2,hb⟩
 simp only at hi hn1 hn2 hb
 rw[hSt]
 simp only
 simp only[aR,seval,kL]
 (with_reducible first|refine kF (fun h=>?_) (fun h=>?_)|refine kG (fun h=>?_) (fun h=>?_))
 ·have hlt:i < l.length:=by omega
  have hcn:=hc l[i] (List.getElem_mem hlt)
  have e1:=zF l hlt
  rw[List.drop_eq_getElem_cons hlt]at hb
  simp only[kD1]at hb
  generalize l[i]=c at *
  obtain ⟨k,m,t⟩:=c
  simp only at hcn hb e1
  have yes:(k=1∨k=3)→kAL l=kD1 (addI n (max m 0)) (l.drop (i+1)):=fun h=>by rw[hb,if_pos h]
  have no:¬ (k=1∨k=3)→kAL l=kD1 n (l.drop (i+1)):=fun h=>by rw[hb,if_neg h]
  have hr:=qP hn1 (show 0≤max m 0 by omega)
  simp (disch:=omega) only[aR,seval,kD,h,e1,kL]
  (repeat (with_reducible refine And.intro ?_ ?_;focus (first|omega|exact kE|kernel_rfl)))
  (try ((with_reducible first|refine kF (fun q1=>?_) (fun q1=>?_)|refine kG (fun q1=>?_) (fun q1=>?_))<;>simp (disch:=omega) only[aR,seval,kD,q1,e1,kL]<;>(with_reducible first|(refine And.intro ?_ ?_;focus (first|omega|exact kE|kernel_rfl));(repeat (with_reducible refine And.intro ?_ ?_;focus (first|omega|exact kE|kernel_rfl)));(try simp (disch:=omega) only[aR,seval,kD,q1,e1,kL])|skip)<;>(try ((with_reducible first|refine kF (fun q2=>?_) (fun q2=>?_)|refine kG (fun q2=>?_) (fun q2=>?_))<;>simp (disch:=omega) only[aR,seval,kD,q2,e1,kL]<;>(with_reducible first|(refine And.intro ?_ ?_;focus (first|omega|exact kE|kernel_rfl));(repeat (with_reducible refine And.intro ?_ ?_;focus (first|omega|exact kE|kernel_rfl)));(try simp (disch:=omega) only[aR,seval,kD,q2,e1,kL])|skip)<;>skip))))
  all_goals first
   | (refine kEf (by simp [kH]) ⟨hn1,hn2⟩ hcn ?_
      simp (disch:=omega) only[aR,seval,kD]
      refine kN ⟨(addI n (max m 0),i+1),by omega,hr.1,hr.2,yes (by omega)⟩ (by simp only;omega) ?_
      rw[hSt];refine kT [] [] ?_
      simp only[aR,seval]<;>((repeat' apply And.intro)<;>first|rfl|omega|trivial))
   | (refine kN ⟨(n,i+1),by omega,hn1,hn2,no (by omega)⟩ (by simp only;omega) ?_
      rw[hSt];refine kT [] [] ?_
      simp only[aR,seval]<;>((repeat' apply And.intro)<;>first|rfl|omega|trivial))
   | trace_state
 ·simp only[aR,seval,h]
  rw[List.drop_of_length_le (by omega)]at hb
  rw[hb];rfl
theorem call_rbase {Γ:Env} (hf:Γ.get 97=some kAe) {σ:AS} {dr:Bool} {l:List Cp} {t:Nat} {ys:List AV} {d:Option Nat} {K:AS→Prop} (hy:ys=qX l) (h:okL l)
    (hk:cont σ d (.v (.int .i64 (kAL l))) K):kS Tryz.prog Γ dr σ 97 [.sl t 3 ys] d K:=by
 subst hy
 exact kP (C:=kAe) (i:=⟨l,h⟩) hf rfl rfl rfl rfl (fun _ h=>h) rfl hk
theorem rout_good:Rw.Good Tryz.prog 117 kDS:=by
 have hΓ:kM Tryz.prog [(123,kE6),(146,rcCon)]:=(kI held_good (kI loose_good kJ))
 refine k8 (nn:=36) hΓ Tryz.func117 (by kernel_rfl) rfl (show Tryz.f117.results.toList=[.tmp 2] from rfl) (fun _=>rfl) (fun _=>rfl) ?_
 rintro ⟨l,hl,htot,hc⟩
 simp only[aR,seval,kL]
 obtain ⟨St,hSt⟩:∃ St:{ p:Int×Nat // p.2≤l.length∧0≤p.1∧p.1≤1099511627776∧outL l=outF p.1 (l.drop p.2) }→AS,∀ p,St p=AS.of 36 [(0,.sl 0 3 (qX l)),(3,.v (.int .i64 p.1.1)),(4,.v (.int .i64 p.1.2))] [] []:=⟨_,fun _=>rfl⟩
 refine zO hΓ St (fun p=>l.length - p.1.2) ⟨(0,0),by omega,by omega,by omega,rfl⟩ (by rw[hSt];refine kT [] [] ?_;simp only[aR,seval]<;>((repeat' apply And.intro)<;>first|rfl|omega|trivial)) ?_
 rintro ⟨⟨n,i⟩,hi,hn1,hn2,hb⟩
 simp only at hi hn1 hn2 hb
 rw[hSt]
 simp only
 simp only[aR,seval,kL]
 (with_reducible first|refine kF (fun h=>?_) (fun h=>?_)|refine kG (fun h=>?_) (fun h=>?_))
 ·have hlt:i < l.length:=by omega
  have hcn:=hc l[i] (List.getElem_mem hlt)
  have hct:=okL.text ⟨hl,htot,hc⟩ (List.getElem_mem hlt)
  have e1:=zF l hlt
  rw[List.drop_eq_getElem_cons hlt]at hb
  simp only[outF]at hb
  generalize l[i]=c at *
  obtain ⟨k,m,t⟩:=c
  simp only at hcn hct hb e1
  have hl1:k=1→outL l=outF (addI n (max m 0)) (l.drop (i+1)):=fun h=>by rw[hb,if_pos h]
  have hl2:¬ k=1→k=2→outL l=outF (addI n (lc t)) (l.drop (i+1)):=fun h h2=>by rw[hb,if_neg h,if_pos h2]
  have hl3:¬ k=1→¬ k=2→outL l=outF n (l.drop (i+1)):=fun h h2=>by rw[hb,if_neg h,if_neg h2]
  have hr:=qP hn1 (show 0≤max m 0 by omega)
  have hr2:=qP hn1 (show 0≤(lc t:Int) by omega)
  have hlt2:=lc_len t
  simp (disch:=omega) only[aR,seval,kD,h,e1,kL]
  (repeat (with_reducible refine And.intro ?_ ?_;focus (first|omega|exact kE|kernel_rfl)))
  (try ((with_reducible first|refine kF (fun q1=>?_) (fun q1=>?_)|refine kG (fun q1=>?_) (fun q1=>?_))<;>simp (disch:=omega) only[aR,seval,kD,q1,e1,kL]<;>(with_reducible first|(refine And.intro ?_ ?_;focus (first|omega|exact kE|kernel_rfl));(repeat (with_reducible refine And.intro ?_ ?_;focus (first|omega|exact kE|kernel_rfl)));(try simp (disch:=omega) only[aR,seval,kD,q1,e1,kL])|skip)<;>(try ((with_reducible first|refine kF (fun q2=>?_) (fun q2=>?_)|refine kG (fun q2=>?_) (fun q2=>?_))<;>simp (disch:=omega) only[aR,seval,kD,q2,e1,kL]<;>(with_reducible first|(refine And.intro ?_ ?_;focus (first|omega|exact kE|kernel_rfl));(repeat (with_reducible refine And.intro ?_ ?_;focus (first|omega|exact kE|kernel_rfl)));(try simp (disch:=omega) only[aR,seval,kD,q2,e1,kL])|skip)<;>skip))))
  all_goals first
   | (refine kEf (by simp [kH]) ⟨hn1,hn2⟩ hcn ?_
      simp (disch:=omega) only[aR,seval,kD]
      refine kN ⟨(addI n (max m 0),i+1),by omega,hr.1,hr.2,hl1 (by omega)⟩ (by simp only;omega) ?_
      rw[hSt];refine kT [] [] ?_
      simp only[aR,seval]<;>((repeat' apply And.intro)<;>first|rfl|omega|trivial))
   | (refine call_loose (by simp [kH]) hct ?_
      simp (disch:=omega) only[aR,seval,kD]
      refine kEf (by simp[kH]) ⟨hn1,hn2⟩ (by omega) ?_
      simp (disch:=omega) only[aR,seval,kD]
      refine kN ⟨(addI n (lc t),i+1),by omega,hr2.1,hr2.2,hl2 (by omega) (by omega)⟩ (by simp only;omega) ?_
      rw[hSt];refine kT [] [] ?_
      simp only[aR,seval,show max (lc t:Int) 0=lc t by omega]<;>((repeat' apply And.intro)<;>first|rfl|omega|trivial))
   | (refine kN ⟨(n,i+1),by omega,hn1,hn2,hl3 (by omega) (by omega)⟩ (by simp only;omega) ?_
      rw[hSt];refine kT [] [] ?_
      simp only[aR,seval]<;>((repeat' apply And.intro)<;>first|rfl|omega|trivial))
   | trace_state
 ·simp only[aR,seval,h]
  rw[List.drop_of_length_le (by omega)]at hb
  rw[hb];rfl
theorem call_rout {Γ:Env} (hf:Γ.get 117=some kDS) {σ:AS} {dr:Bool} {l:List Cp} {t:Nat} {ys:List AV} {d:Option Nat} {K:AS→Prop} (hy:ys=qX l) (h:okL l)
    (hk:cont σ d (.v (.int .i64 (outL l))) K):kS Tryz.prog Γ dr σ 117 [.sl t 3 ys] d K:=by
 subst hy
 exact kP (C:=kDS) (i:=⟨l,h⟩) hf rfl rfl rfl rfl (fun _ h=>h) rfl hk
end Go.Proofs
end
-- EAp3
section
namespace Go.Proofs
open Go Go.Rw
set_option maxRecDepth 100000
theorem rnormal_good:Rw.Good Tryz.prog 116 jO:=by
 have hΓ:kM Tryz.prog [(55,j3)]:=(kI rvalid_good kJ)
 refine k8 (nn:=70) hΓ Tryz.func116 (by kernel_rfl) rfl (show Tryz.f116.results.toList=[.tmp 2] from rfl) (fun _=>rfl) (fun _=>rfl) ?_
 rintro ⟨l,hl,htot,hc⟩
 simp only[aR,seval,kL]
 obtain ⟨St,hSt⟩:∃ St:{ i:Nat // i≤l.length∧qF l=zP (ahead l i) (l.drop i) }→AS,∀ i,St i=AS.of 70 [(0,.sl 0 3 (qX l)),(3,.v (.int .i64 i.1))] [] []:=⟨_,fun _=>rfl⟩
 refine zO hΓ St (fun i=>l.length - i.1) ⟨0,by omega,rfl⟩ (by rw[hSt];refine kT [] [] ?_;simp only[aR,seval]<;>((repeat' apply And.intro)<;>first|rfl|omega|trivial)) ?_
 rintro ⟨i,hi,hb⟩
 rw[hSt]
 simp only
 simp only[aR,seval,kL]
 (with_reducible first|refine kF (fun h=>?_) (fun h=>?_)|refine kG (fun h=>?_) (fun h=>?_))
 ·have hlt:i < l.length:=by omega
  have hci:=okL.text ⟨hl,htot,hc⟩ (List.getElem_mem hlt)
  have e1:=zF l hlt
  rw[List.drop_eq_getElem_cons hlt]at hb
  simp only[zP]at hb
  have hne:ahead l (i+1)=some l[i]:=by simp[ahead,hlt]
  rw[← hne]at hb
  have again:∀ σ:AS,Weak σ (AS.of 70 [(0,.sl 0 3 (qX l)),(3,.v (.int .i64 (i+1:Nat)))] [] [])→qF l=zP (ahead l (i+1)) (l.drop (i+1))→∃ y:{ i:Nat // i≤l.length∧qF l=zP (ahead l i) (l.drop i) },l.length - y.1 < l.length - i∧Weak σ (St y):=fun σ hw hb2 =>
   ⟨⟨i+1,by omega,hb2⟩,by simp only;omega,by rw[hSt];exact hw⟩
  by_cases h0:i=0
  ·have hp:ahead l i=none:=by simp[ahead,h0]
   rw[hp]at hb
   simp only[Bool.and_true]at hb
   have no:qM l[i]=false∨False→qF l=false:=fun h=>by
    rcases h with h|h
    ·rw[hb,h];rfl
    ·exact h.elim
   have yes:qM l[i]=true→qF l=zP (ahead l (i+1)) (l.drop (i+1)):=fun h=>by rw[hb,h];rfl
   generalize l[i]=c at *
   obtain ⟨k,n,t⟩:=c
   simp only at *
   have hz:¬ (i:Int) > 0:=by omega
   have hi3:0≤(i:Int):=by omega
   by_cases k13:k=1∨k=3
   ·rcases k13 with rfl|rfl
    all_goals
     by_cases n1:n < 1
     ·have n2:¬ n > 0:=by omega
      simp (disch:=omega) only[aR,seval,kD,h,e1,kL,hz,hi3,n1,no (.inl (by simp[qM,n2]))]
     ·have n2:n > 0:=by omega
      by_cases t0:t=[]
      ·subst t0
       simp (disch:=omega) only[aR,seval,kD,h,e1,kL,hz,hi3,n1]
       (repeat (with_reducible refine And.intro ?_ ?_;focus (first|omega|exact kE|kernel_rfl)))
       refine again _ ?_ (yes (by simp[qM,n2]))
       refine kT [] [] ?_
       simp only[aR,seval]<;>((repeat' apply And.intro)<;>first|rfl|omega|trivial)
      ·simp (disch:=omega) only[aR,seval,kD,h,e1,kL,hz,hi3,n1,t0,no (.inl (by simp[qM,t0]))]
   ·have k1:¬ k=1:=by omega
    have k3:¬ k=3:=by omega
    by_cases k2:k=2
    ·subst k2
     by_cases n0:n=0
     ·subst n0
      by_cases t0:t=[]
      ·subst t0
       simp (disch:=omega) only[aR,seval,kD,h,e1,kL,hz,hi3,no (.inl (by simp[qM]))]
      ·simp (disch:=omega) only[aR,seval,kD,h,e1,kL,hz,hi3,t0]
       refine kDt (by simp[kH]) hci ?_
       cases hv:(pts t).isSome with
       | false=>simp (disch:=omega) only [aR,seval,kD,h,e1,kL,hz,hi3,hv,no (.inl (by simp [qM,hv]))]
       | true =>
         simp (disch:=omega) only[aR,seval,kD,h,e1,kL,hz,hi3,hv]
         (repeat (with_reducible refine And.intro ?_ ?_;focus (first|omega|exact kE|kernel_rfl)))
         refine again _ ?_ (yes (by simp[qM,hv,t0]))
         refine kT [] [] ?_
         simp only[aR,seval]<;>((repeat' apply And.intro)<;>first|rfl|omega|trivial)
     ·simp (disch:=omega) only[aR,seval,kD,h,e1,kL,hz,hi3,n0,no (.inl (by simp[qM,n0]))]
    ·simp (disch:=omega) only[aR,seval,kD,h,e1,kL,hz,hi3,k1,k2,k3,no (.inl (by simp[qM,k1,k2,k3]))]
  ·have hp:ahead l i=some l[i - 1]:=by simp[ahead,h0]
   have e2:(qX l).getD (i - 1) .any = .agg [.v (.int .i64 l[i - 1].k),.v (.int .i64 l[i - 1].n),.v (sv l[i - 1].t)]:=zF l (by omega)
   have e3:((i:Int) - 1).toNat=i - 1:=by omega
   rw[hp]at hb
   simp only at hb
   have no:qM l[i]=false∨follows l[i - 1] l[i]=false→qF l=false:=fun h=>by
    rcases h with h|h
    ·rw[hb,h];rfl
    ·rw[hb,h];simp
   have yes:qM l[i]=true→follows l[i - 1] l[i]=true→qF l=zP (ahead l (i+1)) (l.drop (i+1)):=fun h h2=>by rw[hb,h,h2];rfl
   generalize l[i - 1]=pc at *
   generalize l[i]=c at *
   obtain ⟨k,n,t⟩:=c
   obtain ⟨pk0,pn,pt⟩:=pc
   simp only at *
   have hz:(i:Int) > 0:=by omega
   have hi3:0≤(i:Int):=by omega
   have hi4:0≤(i:Int) - 1∧(i:Int) - 1 < l.length:=by omega
   by_cases k13:k=1∨k=3
   ·rcases k13 with rfl|rfl
    all_goals
     by_cases n1:n < 1
     ·have n2:¬ n > 0:=by omega
      simp (disch:=omega) only[aR,seval,kD,h,e1,e2,e3,kL,hz,hi3,hi4,n1,no (.inl (by simp[qM,n2]))]
     ·have n2:n > 0:=by omega
      by_cases t0:t=[]
      ·subst t0
       first
        | (by_cases pk:pk0=1
           ·simp (disch:=omega) only[aR,seval,kD,h,e1,e2,e3,kL,hz,hi3,hi4,n1,pk,no (.inr (by simp[follows,pk];done))]
            all_goals exact ⟨kE,by kernel_rfl⟩
           ·simp (disch:=omega) only[aR,seval,kD,h,e1,e2,e3,kL,hz,hi3,hi4,n1,pk]
            (repeat (with_reducible refine And.intro ?_ ?_;focus (first|omega|exact kE|kernel_rfl)))
            refine again _ ?_ (yes (by simp[qM,n2]) (by simp[follows,pk];done))
            refine kT [] [] ?_
            simp only[aR,seval]<;>((repeat' apply And.intro)<;>first|rfl|omega|trivial))
        | (by_cases pk:pk0=3
           ·simp (disch:=omega) only[aR,seval,kD,h,e1,e2,e3,kL,hz,hi3,hi4,n1,pk,no (.inr (by simp[follows,pk];done))]
            all_goals exact ⟨kE,by kernel_rfl⟩
           ·simp (disch:=omega) only[aR,seval,kD,h,e1,e2,e3,kL,hz,hi3,hi4,n1,pk]
            (repeat (with_reducible refine And.intro ?_ ?_;focus (first|omega|exact kE|kernel_rfl)))
            refine again _ ?_ (yes (by simp[qM,n2]) (by simp[follows,pk];done))
            refine kT [] [] ?_
            simp only[aR,seval]<;>((repeat' apply And.intro)<;>first|rfl|omega|trivial))
      ·simp (disch:=omega) only[aR,seval,kD,h,e1,e2,e3,kL,hz,hi3,hi4,n1,t0,no (.inl (by simp[qM,t0]))]
   ·have k1:¬ k=1:=by omega
    have k3:¬ k=3:=by omega
    by_cases k2:k=2
    ·subst k2
     by_cases n0:n=0
     ·subst n0
      by_cases t0:t=[]
      ·subst t0
       simp (disch:=omega) only[aR,seval,kD,h,e1,e2,e3,kL,hz,hi3,hi4,no (.inl (by simp[qM]))]
      ·simp (disch:=omega) only[aR,seval,kD,h,e1,e2,e3,kL,hz,hi3,hi4,t0]
       refine kDt (by simp[kH]) hci ?_
       cases hv:(pts t).isSome with
       | false=>simp (disch:=omega) only [aR,seval,kD,h,e1,e2,e3,kL,hz,hi3,hi4,hv,no (.inl (by simp [qM,hv]))]
       | true =>
         by_cases pk:pk0=3
         ·simp (disch:=omega) only[aR,seval,kD,h,e1,e2,e3,kL,hz,hi3,hi4,hv,pk,no (.inr (by simp[follows,pk]))]
          all_goals exact ⟨kE,by kernel_rfl⟩
         ·by_cases pl:pk0=2
          ·simp (disch:=omega) only[aR,seval,kD,h,e1,e2,e3,kL,hz,hi3,hi4,hv,pl,no (.inr (by simp[follows,pl]))]
           all_goals exact ⟨kE,by kernel_rfl⟩
          ·simp (disch:=omega) only[aR,seval,kD,h,e1,e2,e3,kL,hz,hi3,hi4,hv,pk,pl]
           (repeat (with_reducible refine And.intro ?_ ?_;focus (first|omega|exact kE|kernel_rfl)))
           refine again _ ?_ (yes (by simp[qM,hv,t0]) (by simp[follows,pk,pl]))
           refine kT [] [] ?_
           simp only[aR,seval]<;>((repeat' apply And.intro)<;>first|rfl|omega|trivial)
     ·simp (disch:=omega) only[aR,seval,kD,h,e1,e2,e3,kL,hz,hi3,hi4,n0,no (.inl (by simp[qM,n0]))]
    ·simp (disch:=omega) only[aR,seval,kD,h,e1,e2,e3,kL,hz,hi3,hi4,k1,k2,k3,no (.inl (by simp[qM,k1,k2,k3]))]
 ·simp only[aR,seval,h]
  rw[List.drop_of_length_le (by omega)]at hb
  rw[hb];rfl
end Go.Proofs
end
-- EAp4
section
namespace Go.Proofs
open Go Go.Rw
set_option maxRecDepth 100000
theorem call_rnormal {Γ:Env} (hf:Γ.get 116=some jO) {σ:AS} {dr:Bool} {l:List Cp} {t:Nat} {ys:List AV} {d:Option Nat} {K:AS→Prop} (hy:ys=qX l) (h:okL l)
    (hk:cont σ d (.v (.bool (qF l))) K):kS Tryz.prog Γ dr σ 116 [.sl t 3 ys] d K:=by
 subst hy
 exact kP (C:=jO) (i:=⟨l,h⟩) hf rfl rfl rfl rfl (fun _ h=>h) rfl hk
theorem rcheck_good:Rw.Good Tryz.prog 86 kCb:=by
 have hΓ:kM Tryz.prog [(116,jO),(97,kAe),(117,kDS)]:=(kI rnormal_good (kI rbase_good (kI rout_good kJ)))
 refine k8 (nn:=20) hΓ Tryz.func86 (by kernel_rfl) rfl (show Tryz.f86.results.toList=[.tmp 2] from rfl) (fun _=>rfl) (fun _=>rfl) ?_
 rintro ⟨l,hl⟩
 simp only[aR,seval,kL]
 have c1:100 < (l.length:Int)→qY l=3:=fun h=>by rw[qY,if_pos (by omega)]
 have c2:¬ 100 < (l.length:Int)→qF l=false→qY l=1:=fun h h2=>by rw[qY,if_neg (by omega),if_pos h2]
 have c3:¬ 100 < (l.length:Int)→qF l=true→(kAL l > 2000∨outL l > 2000)→qY l=3:=fun h h2 h3=>by rw[qY,if_neg (by omega),if_neg (by rw[h2];decide),if_pos h3]
 have c4:¬ 100 < (l.length:Int)→qF l=true→¬ (kAL l > 2000∨outL l > 2000)→qY l=0:=fun h h2 h3=>by rw[qY,if_neg (by omega),if_neg (by rw[h2];decide),if_neg h3]
 (with_reducible first|refine kF (fun h=>?_) (fun h=>?_)|refine kG (fun h=>?_) (fun h=>?_))
 ·simp only[aR,seval,h,c1 (by omega)]
 ·simp only[aR,seval,h]
  refine call_rnormal (by simp[kH]) rfl hl ?_
  cases hn:qF l with
  | false=>simp only [aR,seval,hn,c2 (by omega) hn]
  | true =>
    simp only[aR,seval,hn]
    refine call_rbase (by simp[kH]) rfl hl ?_
    simp only[aR,seval]
    by_cases h1:kAL l > 2000
    ·simp only[aR,seval,h1,c3 (by omega) hn (.inl (by omega))]
    ·simp only[aR,seval,h1]
     refine call_rout (by simp[kH]) rfl hl ?_
     simp only[aR,seval]
     by_cases h2:outL l > 2000
     ·simp only[aR,seval,h2,c3 (by omega) hn (.inr (by omega))]
     ·simp only[aR,seval,h2,c4 (by omega) hn (by omega)]
def doR (s:List UInt8) (l:List Cp):AV:=res2 (.v (sv (z8 s l))) (errI s l)
abbrev doCon:Con where
 ι:=Str×Ed
 args:=fun p=>[.v (sv p.1.1),.sl 0 3 (qX p.2.1)]
 post:=fun p r=>r=doR p.1.1 p.2.1
 plain:=true
theorem stp_puts (s:List UInt8) (l:List Cp):(stp s l).flatMap Sp.puts=z8 s l∧(z8 s l).length≤8000:=by
 unfold stp z8
 by_cases he:errI s l=0
 ·rw[if_pos he,if_pos he]
  obtain ⟨hc,_,hb,hf⟩:=err_zero he
  have hcc:=kAI hc
  have ho:=out_do l (cpts s) 0 (by omega) hf hcc.2.2.2.2.2
  have h4:=kEI (cs:=doL (cpts s) l)
  have:outL l=outF 0 l:=rfl
  exact ⟨kFL l _ hf,by omega⟩
 ·rw[if_neg he,if_neg he];exact ⟨rfl,by simp⟩
theorem take_puts (S:List Sp) (i:Nat) (h:i < S.length):(S.take (i+1)).flatMap Sp.puts=(S.take i).flatMap Sp.puts++S[i].puts:=by
 rw[List.take_succ_eq_append_getElem h,List.flatMap_append];simp
theorem take_puts_le (S:List Sp) (i:Nat):((S.take i).flatMap Sp.puts).length≤(S.flatMap Sp.puts).length:=by
 conv=>rhs;rw[← List.take_append_drop i S]
 rw[List.flatMap_append,List.length_append];omega
theorem stp_len (s:List UInt8) (l:List Cp):(stp s l).length≤100:=by
 unfold stp
 split
 ·rename_i he
  have:=(kAI (err_zero he).1).1
  rw[kEJ];exact this
 ·simp
theorem do_good:Rw.Good Tryz.prog 100 doCon:=by
 have hΓ:kM Tryz.prog [(125,kDi)]:=(kI steps_good kJ)
 refine k8 (nn:=30) hΓ Tryz.func100 (by kernel_rfl) rfl (show Tryz.f100.results.toList=[.tmp 4,.tmp 5] from rfl) (fun _=>rfl) (fun _=>rfl) ?_
 rintro ⟨⟨s,hs⟩,⟨l,hl⟩⟩
 simp only[aR,seval]
 refine call_steps (by simp[kH]) rfl hs hl (by omega) ?_
 obtain ⟨hp1,hp2⟩:=stp_puts s l
 have hle:=take_puts_le (stp s l)
 have hlen:=stp_len s l
 have hdo:doR s l=res2 (.v (sv ((stp s l).flatMap Sp.puts))) (errI s l):=by unfold doR;rw[hp1]
 rw[← hp1]at hp2
 simp only[aR,seval,kBn,res2,kBP]
 generalize stp s l=S at *
 obtain ⟨St,hSt⟩:∃ St:{ i:Nat // i≤S.length }→AS,∀ i,St i=AS.of 30 [(6,.v (sv ((S.take i.1).flatMap Sp.puts))),(8,.v (.int .i64 (errI s l))),(17,.sl 0 5 (sts S)),(18,.v (.int .i64 S.length)),(19,.v (.int .i64 i.1))] [] []:=⟨_,fun _=>rfl⟩
 refine zO hΓ St (fun i=>S.length - i.1) ⟨0,by omega⟩ (by rw[hSt];refine kT [] [] ?_;simp only[aR,seval,List.take_zero,List.flatMap_nil]<;>((repeat' apply And.intro)<;>first|rfl|omega|trivial)) ?_
 rintro ⟨i,hi⟩
 rw[hSt]
 simp only
 simp only[aR,seval]
 (with_reducible first|refine kF (fun h=>?_) (fun h=>?_)|refine kG (fun h=>?_) (fun h=>?_))
 ·have hlt:i < S.length:=by omega
  have e1:=sts_getD S hlt
  have h1:=hle i
  have h2:=hle (i+1)
  have htp:=take_puts S i hlt
  rw[htp,List.length_append]at h2
  simp (disch:=omega) only[aR,seval,kD,h,e1,kBP]
  (repeat (with_reducible refine And.intro ?_ ?_;focus (first|omega|exact kE|kernel_rfl)))
  refine kN ⟨i+1,by omega⟩ (by simp only;omega) ?_
  rw[hSt]
  simp only
  rw[htp]
  refine kT [] [] ?_
  simp only[aR,seval]<;>((repeat' apply And.intro)<;>first|rfl|omega|trivial)
 ·have hin:i=S.length:=by omega
  simp only[aR,seval,h,hin,List.take_length]
  rw[hdo];rfl
theorem call_do {Γ:Env} {f:Nat} (hf:Γ.get f=some doCon) {σ:AS} {dr:Bool} {s:List UInt8} {l:List Cp} {t:Nat} {ys:List AV} {d:Option Nat} {K:AS→Prop} (hy:ys=qX l) (hs:s.length≤1099511627776) (hl:okL l)
    (hk:cont σ d (doR s l) K):kS Tryz.prog Γ dr σ f [.v (sv s),.sl t 3 ys] d K:=by
 subst hy
 exact kP (C:=doCon) (i:=(⟨s,hs⟩,⟨l,hl⟩)) hf rfl rfl rfl rfl (fun _ h=>h) rfl hk
end Go.Proofs
end
-- EAq0
section
namespace Go.Proofs
open Go Go.Rw
set_option maxRecDepth 100000
abbrev kDb:Con where
 ι:=Wide×{ m:Int // 0≤m∧m≤1000000 }
 args:=fun p=>[.sl 0 3 (qX p.1.1),.v (.int .i64 p.2.1)]
 post:=fun p r=>r = .v (.int .i64 (kA8 p.2.1 0 p.1.1))
 plain:=true
theorem weigh_good:Rw.Good Tryz.prog 94 kDb:=by
 have hΓ:kM Tryz.prog [(93,kEz)]:=(kI sum_good kJ)
 refine k8 (nn:=28) hΓ Tryz.func94 (by kernel_rfl) rfl (show Tryz.f94.results.toList=[.tmp 4] from rfl) (fun _=>rfl) (fun _=>rfl) ?_
 rintro ⟨⟨l,hl,hc⟩,⟨m,hm⟩⟩
 simp only[aR,seval,kL]
 obtain ⟨St,hSt⟩:∃ St:{ p:Int×Nat // p.2≤l.length∧(0≤p.1∧p.1≤1099511627776)∧kA8 m 0 l=kA8 m p.1 (l.drop p.2) }→AS,∀ p,St p=AS.of 28 [(0,.sl 0 3 (qX l)),(1,.v (.int .i64 m)),(5,.v (.int .i64 p.1.1)),(6,.v (.int .i64 p.1.2))] [] []:=⟨_,fun _=>rfl⟩
 refine zO hΓ St (fun p=>l.length - p.1.2) ⟨(0,0),by omega,by simp only;omega,rfl⟩ (by rw[hSt];refine kT [] [] ?_;simp only[aR,seval]<;>((repeat' apply And.intro)<;>first|rfl|omega|trivial)) ?_
 rintro ⟨⟨s,i⟩,hi,hs,hb⟩
 simp only at hi hs hb
 rw[hSt]
 simp only
 simp only[aR,seval,kL]
 (with_reducible first|refine kF (fun h=>?_) (fun h=>?_)|refine kG (fun h=>?_) (fun h=>?_))
 ·have hlt:i < l.length:=by omega
  have hci:=hc l[i] (List.getElem_mem hlt)
  have e1:=zF l hlt
  rw[List.drop_eq_getElem_cons hlt,kA8]at hb
  generalize l[i]=c at *
  obtain ⟨k,n,t⟩:=c
  simp only at hci hb e1
  simp (disch:=omega) only[aR,seval,kD,h]
  (with_reducible first|refine kF (fun h2=>?_) (fun h2=>?_)|refine kG (fun h2=>?_) (fun h2=>?_))
  ·simp (disch:=omega) only[aR,seval,kD,h2,e1,kL]
   (repeat (with_reducible refine And.intro ?_ ?_;focus (first|omega|exact kE|kernel_rfl)))
   refine call_sum (by simp[kH]) (y:=[(t.length:Int),2]) rfl hs (by simp;omega) (by simp) ?_
   simp (disch:=omega) only[aR,seval,kD]
   rw[if_pos h2]at hb
   have hr:=kA5 [(t.length:Int),2] hs (by simp)
   refine kN ⟨(sumF s [(t.length:Int),2],i+1),by simp only;omega,by simp only;omega,hb⟩ (by simp only;omega) ?_
   rw[hSt];refine kT [] [] ?_
   simp only[aR,seval]<;>((repeat' apply And.intro)<;>first|rfl|omega|trivial)
  ·simp (disch:=omega) only[aR,seval,kD,h2]
   rw[hb,if_neg h2]
 ·simp only[aR,seval,h]
  rw[List.drop_of_length_le (by omega)]at hb
  rw[hb];rfl
theorem call_weigh {Γ:Env} (hf:Γ.get 94=some kDb) {σ:AS} {dr:Bool} {l:List Cp} {m:Int} {t:Nat} {ys:List AV} {d:Option Nat} {K:AS→Prop} (hy:ys=qX l) (h1:l.length≤9223372036854775807) (h2:∀ c∈l,c.t.length≤9223372036854775807) (hm:0≤m∧m≤1000000)
    (hk:cont σ d (.v (.int .i64 (kA8 m 0 l))) K):kS Tryz.prog Γ dr σ 94 [.sl t 3 ys,.v (.int .i64 m)] d K:=by
 subst hy
 exact kP (C:=kDb) (i:=(⟨l,h1,h2⟩,⟨m,hm⟩)) hf rfl rfl rfl rfl (fun _ h=>h) rfl hk
theorem cpts_len (t:List UInt8):(cpts t).length≤t.length:=by
 unfold cpts
 cases h:pts t with
 | none=>simp
 | some cs =>
   obtain ⟨_,e⟩:=kAp h
   have:=encs_le cs
   rw[← e]at this
   exact this
theorem kCC (t:List UInt8):cnt t=(cpts t).length:=by
 unfold cnt cpts
 cases h:pts t<;>rfl
end Go.Proofs
end
-- EUk0
section
namespace Go.Proofs
open Go Go.Rw
set_option maxRecDepth 100000
structure Nd where
 id:Int
 par:Int
 nm:List UInt8
 dir:Bool
 text:List UInt8
 deriving Inhabited,DecidableEq
def nA (x:Nd):AV:=.agg [.v (.int .i64 x.id),.v (.int .i64 x.par),.v (sv x.nm),.v (.bool x.dir),.v (sv x.text)]
def k6 (l:List Nd):List AV:=l.map nA
theorem nodes_nil:k6 []=[]:=rfl
theorem kO (l:List Nd):(k6 l).length=l.length:=by simp[k6]
theorem zJ (l:List Nd) {i:Nat} (h:i < l.length):(k6 l).getD i .any=nA l[i]:=by simp[k6,List.getD_eq_getElem?_getD,h]
theorem nodes_take (l:List Nd) (i:Nat):(k6 l).take i=k6 (l.take i):=by simp[k6,List.map_take]
theorem nA_er (x:Nd):(nA x).er=nA x:=by simp[nA,AV.er,AV.erL]
theorem kDl:∀ l:List Nd,AV.erL (k6 l)=k6 l
 | []=>rfl
 | x::l=>by simp only [k6,List.map_cons,AV.erL,nA_er];rw [show List.map nA l=k6 l from rfl,kDl l]
def kAv:Nd:=⟨0,0,[],false,[]⟩
def ndx (id:Int):List Nd→Nat
 | []=>0
 | x::l=>if x.id=id then 0 else ndx id l+1
theorem ndx_le (id:Int):∀ l:List Nd,ndx id l≤l.length
 | []=>Nat.le_refl _
 | x::l=>by
   have:=ndx_le id l
   rw[ndx];split<;>simp only[List.length_cons]<;>omega
theorem ndx_get (id:Int):∀ (l:List Nd) (h:ndx id l < l.length),(l[ndx id l]).id=id
 | x::l,h=>by
   by_cases hx:x.id=id
   ·simp[ndx,hx]
   ·have e:ndx id (x::l)=ndx id l+1:=by rw[ndx,if_neg hx]
    simp only[e,List.getElem_cons_succ]
    exact ndx_get id l (by rw[e]at h;simpa using h)
theorem kEA (id:Int):∀ l:List Nd,ndx id l < l.length↔∃ x∈l,x.id=id
 | []=>by simp [ndx]
 | x::l=>by
   rw[ndx]
   by_cases hx:x.id=id
   ·rw[if_pos hx];simp[hx]
   ·rw[if_neg hx];simp[hx,kEA id l]
def kid (par:Int) (nm:List UInt8):List Nd→Int
 | []=>-1
 | x::l=>if x.par=par∧x.nm=nm then x.id else kid par nm l
def inN (l:List Nd) (top:Int):Nat→Int→Bool
 | 0,_=>true
 | n+1,id=>if id=top then true else if ndx id l < l.length then inN l top n (l.getD (ndx id l) kAv).par else false
def kAG (l:List Nd) (id top:Int):Bool:=inN l top (l.length+1) id
def kBe (l:List Nd) (par:Int) (nm:List UInt8) (id:Int):Int:=if 0≤kid par nm l∧kid par nm l≠id then 6 else 0
def jG (l:List Nd) (par:Int) (nm:List UInt8) (id:Int):Int :=
 if par=0 then kBe l par nm id
 else if ndx par l < l.length then (if (l.getD (ndx par l) kAv).dir=false then 8 else if id > 0∧kAG l par id=true then 10 else kBe l par nm id)
 else 5
def totN:List Nd→Nat
 | []=>0
 | x::l=>cnt x.text+totN l
def atN (id:Int):List Nd→Nat
 | []=>0
 | x::l=>if x.id < id then atN id l+1 else 0
theorem atN_le (id:Int):∀ l:List Nd,atN id l≤l.length
 | []=>Nat.le_refl _
 | x::l=>by
   have:=atN_le id l
   rw[atN];split<;>simp only[List.length_cons]<;>omega
def doN (l:List Nd) (a:Ac):List Nd×Int :=
 let x:=l.getD (ndx a.id l) kAv
 if a.k=1 then
  if a.id < 1∨a.id > 1099511627776∨qA a.nm=false then (l,1)
  else if ndx a.id l < l.length then (l,6)
  else if jG l a.par a.nm 0≠0 then (l,jG l a.par a.nm 0)
  else if l.length ≥ 100 then (l,4)
  else (l.take (atN a.id l)++⟨a.id,a.par,a.nm,a.dir,[]⟩::l.drop (atN a.id l),0)
 else if a.k=2 then
  if ¬ ndx a.id l < l.length then (l,5)
  else if (l.any fun y=>decide (y.par=a.id))=true then (l,9)
  else (l.take (ndx a.id l)++l.drop (ndx a.id l+1),0)
 else if a.k=3 then
  if qA a.nm=false then (l,1)
  else if ¬ ndx a.id l < l.length then (l,5)
  else if jG l a.par a.nm a.id≠0 then (l,jG l a.par a.nm a.id)
  else (l.set (ndx a.id l) ⟨x.id,a.par,a.nm,x.dir,x.text⟩,0)
 else if a.k=4 then
  if ¬ ndx a.id l < l.length then (l,5)
  else if x.dir=true then (l,8)
  else if errI x.text a.ops≠0 then (l,errI x.text a.ops)
  else if (totN (l.set (ndx a.id l) ⟨x.id,x.par,x.nm,x.dir,z8 x.text a.ops⟩):Int) > 10000 then (l,4)
  else (l.set (ndx a.id l) ⟨x.id,x.par,x.nm,x.dir,z8 x.text a.ops⟩,0)
 else (l,1)
structure Alln where
 now:List Nd
 n:Int
 e:Int
 deriving DecidableEq
end Go.Proofs
end
-- EUk1
section
namespace Go.Proofs
open Go Go.Rw
set_option maxRecDepth 100000
end Go.Proofs
end
