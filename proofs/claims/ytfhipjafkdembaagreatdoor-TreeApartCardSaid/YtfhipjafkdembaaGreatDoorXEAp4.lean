/-
 Edits done,undone,by the program. How much is given;texts and their code points. The document's tree: kW by their IDs;what an act does. Plain. The document's tree: looking kW up. Nodes held against each other,field by field. The document's tree: names,texts;acts held against each other. Edits undone,by the program;both,by the document. Edits,unit by unit. Plain. Walks along an edit: their Kind,Len and Take,reckoned in place. Two edits as one,piece by piece. Plain. compose.Two,walked. compose.Two,walked. The document's walks. The document's Two. Keep,All: the program's,the document's. What an edit in its normal form does. Plain. The normal form,unit by unit;what two edits do as one. Plain.
-/
import Derived.Test.YtfhipjafkdembaaGreatDoorXEUo2
set_option linter.unusedSimpArgs false
set_option linter.unusedVariables false
set_option linter.defProp false
set_option linter.unusedSectionVars false

-- EAp4
section
namespace Go.Proofs
open Go Go.Rw
set_option maxRecDepth 100000
theorem call_rnormal {Γ:Env} (hf:Γ.get 116=some kAD) {σ:AS} {dr:Bool} {l:List Cp} {t:Nat} {ys:List AV} {d:Option Nat} {K:AS→Prop} (hy:ys=qN l) (h:okL l)
    (hk:cont σ d (.v (.bool (qM l))) K):kT Tryz.prog Γ dr σ 116 [.sl t 3 ys] d K:=by
 subst hy
 exact kO (C:=kAD) (i:=⟨l,h⟩) hf rfl rfl rfl rfl (fun _ h=>h) rfl hk
theorem rcheck_good:Rw.Good Tryz.prog 86 kAa:=by
 have hΓ:kL Tryz.prog [(116,kAD),(97,kAt),(117,kEI)]:=(kJ rnormal_good (kJ kFz (kJ rout_good kK)))
 refine k7 (nn:=20) hΓ Tryz.func86 (by kernel_rfl) rfl (show Tryz.f86.results.toList=[.tmp 2] from rfl) (fun _=>rfl) (fun _=>rfl) ?_
 rintro ⟨l,hl⟩
 simp only[aR,seval,kN]
 have c1:100 < (l.length:Int)→qS l=3:=fun h=>by rw[qS,if_pos (by omega)]
 have c2:¬ 100 < (l.length:Int)→qM l=false→qS l=1:=fun h h2=>by rw[qS,if_neg (by omega),if_pos h2]
 have c3:¬ 100 < (l.length:Int)→qM l=true→(kAN l > 2000∨outL l > 2000)→qS l=3:=fun h h2 h3=>by rw[qS,if_neg (by omega),if_neg (by rw[h2];decide),if_pos h3]
 have c4:¬ 100 < (l.length:Int)→qM l=true→¬ (kAN l > 2000∨outL l > 2000)→qS l=0:=fun h h2 h3=>by rw[qS,if_neg (by omega),if_neg (by rw[h2];decide),if_neg h3]
 (with_reducible first|refine kG (fun h=>?_) (fun h=>?_)|refine kH (fun h=>?_) (fun h=>?_))
 ·simp only[aR,seval,h,c1 (by omega)]
 ·simp only[aR,seval,h]
  refine call_rnormal (by simp[kF]) rfl hl ?_
  cases hn:qM l with
  | false=>simp only [aR,seval,hn,c2 (by omega) hn]
  | true =>
    simp only[aR,seval,hn]
    refine kGU (by simp[kF]) rfl hl ?_
    simp only[aR,seval]
    by_cases h1:kAN l > 2000
    ·simp only[aR,seval,h1,c3 (by omega) hn (.inl (by omega))]
    ·simp only[aR,seval,h1]
     refine call_rout (by simp[kF]) rfl hl ?_
     simp only[aR,seval]
     by_cases h2:outL l > 2000
     ·simp only[aR,seval,h2,c3 (by omega) hn (.inr (by omega))]
     ·simp only[aR,seval,h2,c4 (by omega) hn (by omega)]
theorem call_rcheck {Γ:Env} (hf:Γ.get 86=some kAa) {σ:AS} {dr:Bool} {l:List Cp} {t:Nat} {ys:List AV} {d:Option Nat} {K:AS→Prop} (hy:ys=qN l) (h:okL l)
    (hk:cont σ d (.v (.int .i64 (qS l))) K):kT Tryz.prog Γ dr σ 86 [.sl t 3 ys] d K:=by
 subst hy
 exact kO (C:=kAa) (i:=⟨l,h⟩) hf rfl rfl rfl rfl (fun _ h=>h) rfl hk
def doR (s:List UInt8) (l:List Cp):AV:=res2 (.v (sv (zG s l))) (errI s l)
abbrev doCon:Con where
 ι:=Str×Ed
 args:=fun p=>[.v (sv p.1.1),.sl 0 3 (qN p.2.1)]
 post:=fun p r=>r=doR p.1.1 p.2.1
 plain:=true
theorem stp_puts (s:List UInt8) (l:List Cp):(stp s l).flatMap Sp.puts=zG s l∧(zG s l).length≤8000:=by
 unfold stp zG
 by_cases he:errI s l=0
 ·rw[if_pos he,if_pos he]
  obtain ⟨hc,_,hb,hf⟩:=kE1 he
  have hcc:=zS hc
  have ho:=kFP l (cpts s) 0 (by omega) hf hcc.2.2.2.2.2
  have h4:=kBY (cs:=doL (cpts s) l)
  have:outL l=outF 0 l:=rfl
  exact ⟨kGA l _ hf,by omega⟩
 ·rw[if_neg he,if_neg he];exact ⟨rfl,by simp⟩
theorem take_puts (S:List Sp) (i:Nat) (h:i < S.length):(S.take (i+1)).flatMap Sp.puts=(S.take i).flatMap Sp.puts++S[i].puts:=by
 rw[List.take_succ_eq_append_getElem h,List.flatMap_append];simp
theorem take_puts_le (S:List Sp) (i:Nat):((S.take i).flatMap Sp.puts).length≤(S.flatMap Sp.puts).length:=by
 conv=>rhs;rw[← List.take_append_drop i S]
 rw[List.flatMap_append,List.length_append];omega
theorem stp_len (s:List UInt8) (l:List Cp):(stp s l).length≤100:=by
 unfold stp
 split
 ·rename_i he
  have:=(zS (kE1 he).1).1
  rw[kFD];exact this
 ·simp
theorem do_good:Rw.Good Tryz.prog 100 doCon:=by
 have hΓ:kL Tryz.prog [(125,kEh)]:=(kJ steps_good kK)
 refine k7 (nn:=30) hΓ Tryz.func100 (by kernel_rfl) rfl (show Tryz.f100.results.toList=[.tmp 4,.tmp 5] from rfl) (fun _=>rfl) (fun _=>rfl) ?_
 rintro ⟨⟨s,hs⟩,⟨l,hl⟩⟩
 simp only[aR,seval]
 refine call_steps (by simp[kF]) rfl hs hl (by omega) ?_
 obtain ⟨hp1,hp2⟩:=stp_puts s l
 have hle:=take_puts_le (stp s l)
 have hlen:=stp_len s l
 have hdo:doR s l=res2 (.v (sv ((stp s l).flatMap Sp.puts))) (errI s l):=by unfold doR;rw[hp1]
 rw[← hp1]at hp2
 simp only[aR,seval,kC0,res2,kB9]
 generalize stp s l=S at *
 obtain ⟨St,hSt⟩:∃ St:{ i:Nat // i≤S.length }→AS,∀ i,St i=AS.of 30 [(6,.v (sv ((S.take i.1).flatMap Sp.puts))),(8,.v (.int .i64 (errI s l))),(17,.sl 0 5 (sts S)),(18,.v (.int .i64 S.length)),(19,.v (.int .i64 i.1))] [] []:=⟨_,fun _=>rfl⟩
 refine qH hΓ St (fun i=>S.length - i.1) ⟨0,by omega⟩ (by rw[hSt];refine kR [] [] ?_;simp only[aR,seval,List.take_zero,List.flatMap_nil]<;>((repeat' apply And.intro)<;>first|rfl|omega|trivial)) ?_
 rintro ⟨i,hi⟩
 rw[hSt]
 simp only
 simp only[aR,seval]
 (with_reducible first|refine kG (fun h=>?_) (fun h=>?_)|refine kH (fun h=>?_) (fun h=>?_))
 ·have hlt:i < S.length:=by omega
  have e1:=sts_getD S hlt
  have h1:=hle i
  have h2:=hle (i+1)
  have htp:=take_puts S i hlt
  rw[htp,List.length_append]at h2
  simp (disch:=omega) only[aR,seval,kC,h,e1,kB9]
  (repeat (with_reducible refine And.intro ?_ ?_;focus (first|omega|exact kE|kernel_rfl)))
  refine kP ⟨i+1,by omega⟩ (by simp only;omega) ?_
  rw[hSt]
  simp only
  rw[htp]
  refine kR [] [] ?_
  simp only[aR,seval]<;>((repeat' apply And.intro)<;>first|rfl|omega|trivial)
 ·have hin:i=S.length:=by omega
  simp only[aR,seval,h,hin,List.take_length]
  rw[hdo];rfl
theorem call_do {Γ:Env} {f:Nat} (hf:Γ.get f=some doCon) {σ:AS} {dr:Bool} {s:List UInt8} {l:List Cp} {t:Nat} {ys:List AV} {d:Option Nat} {K:AS→Prop} (hy:ys=qN l) (hs:s.length≤1099511627776) (hl:okL l)
    (hk:cont σ d (doR s l) K):kT Tryz.prog Γ dr σ f [.v (sv s),.sl t 3 ys] d K:=by
 subst hy
 exact kO (C:=doCon) (i:=(⟨s,hs⟩,⟨l,hl⟩)) hf rfl rfl rfl rfl (fun _ h=>h) rfl hk
end Go.Proofs
end
-- EAq0
section
namespace Go.Proofs
open Go Go.Rw
set_option maxRecDepth 100000
abbrev kE6:Con where
 ι:=Wide×{ m:Int // 0≤m∧m≤1000000 }
 args:=fun p=>[.sl 0 3 (qN p.1.1),.v (.int .i64 p.2.1)]
 post:=fun p r=>r = .v (.int .i64 (zR p.2.1 0 p.1.1))
 plain:=true
theorem weigh_good:Rw.Good Tryz.prog 94 kE6:=by
 have hΓ:kL Tryz.prog [(93,kGj)]:=(kJ sum_good kK)
 refine k7 (nn:=28) hΓ Tryz.func94 (by kernel_rfl) rfl (show Tryz.f94.results.toList=[.tmp 4] from rfl) (fun _=>rfl) (fun _=>rfl) ?_
 rintro ⟨⟨l,hl,hc⟩,⟨m,hm⟩⟩
 simp only[aR,seval,kN]
 obtain ⟨St,hSt⟩:∃ St:{ p:Int×Nat // p.2≤l.length∧(0≤p.1∧p.1≤1099511627776)∧zR m 0 l=zR m p.1 (l.drop p.2) }→AS,∀ p,St p=AS.of 28 [(0,.sl 0 3 (qN l)),(1,.v (.int .i64 m)),(5,.v (.int .i64 p.1.1)),(6,.v (.int .i64 p.1.2))] [] []:=⟨_,fun _=>rfl⟩
 refine qH hΓ St (fun p=>l.length - p.1.2) ⟨(0,0),by omega,by simp only;omega,rfl⟩ (by rw[hSt];refine kR [] [] ?_;simp only[aR,seval]<;>((repeat' apply And.intro)<;>first|rfl|omega|trivial)) ?_
 rintro ⟨⟨s,i⟩,hi,hs,hb⟩
 simp only at hi hs hb
 rw[hSt]
 simp only
 simp only[aR,seval,kN]
 (with_reducible first|refine kG (fun h=>?_) (fun h=>?_)|refine kH (fun h=>?_) (fun h=>?_))
 ·have hlt:i < l.length:=by omega
  have hci:=hc l[i] (List.getElem_mem hlt)
  have e1:=zI l hlt
  rw[List.drop_eq_getElem_cons hlt,zR]at hb
  generalize l[i]=c at *
  obtain ⟨k,n,t⟩:=c
  simp only at hci hb e1
  simp (disch:=omega) only[aR,seval,kC,h]
  (with_reducible first|refine kG (fun h2=>?_) (fun h2=>?_)|refine kH (fun h2=>?_) (fun h2=>?_))
  ·simp (disch:=omega) only[aR,seval,kC,h2,e1,kN]
   (repeat (with_reducible refine And.intro ?_ ?_;focus (first|omega|exact kE|kernel_rfl)))
   refine call_sum (by simp[kF]) (y:=[(t.length:Int),2]) rfl hs (by simp;omega) (by simp) ?_
   simp (disch:=omega) only[aR,seval,kC]
   rw[if_pos h2]at hb
   have hr:=kBJ [(t.length:Int),2] hs (by simp)
   refine kP ⟨(sumF s [(t.length:Int),2],i+1),by simp only;omega,by simp only;omega,hb⟩ (by simp only;omega) ?_
   rw[hSt];refine kR [] [] ?_
   simp only[aR,seval]<;>((repeat' apply And.intro)<;>first|rfl|omega|trivial)
  ·simp (disch:=omega) only[aR,seval,kC,h2]
   rw[hb,if_neg h2]
 ·simp only[aR,seval,h]
  rw[List.drop_of_length_le (by omega)]at hb
  rw[hb];rfl
theorem call_weigh {Γ:Env} (hf:Γ.get 94=some kE6) {σ:AS} {dr:Bool} {l:List Cp} {m:Int} {t:Nat} {ys:List AV} {d:Option Nat} {K:AS→Prop} (hy:ys=qN l) (h1:l.length≤9223372036854775807) (h2:∀ c∈l,c.t.length≤9223372036854775807) (hm:0≤m∧m≤1000000)
    (hk:cont σ d (.v (.int .i64 (zR m 0 l))) K):kT Tryz.prog Γ dr σ 94 [.sl t 3 ys,.v (.int .i64 m)] d K:=by
 subst hy
 exact kO (C:=kE6) (i:=(⟨l,h1,h2⟩,⟨m,hm⟩)) hf rfl rfl rfl rfl (fun _ h=>h) rfl hk
theorem weigh_ok {l:List Cp} {m:Int} (hm:m≤1000000) (hc:∀ c∈l,(-9223372036854775808≤c.n∧c.n≤9223372036854775807)∧c.t.length≤9223372036854775807) (h:zR m 0 l≤m):okL l∧(tot l:Int)+2 * l.length≤m:=by
 have hle:=compsF_le (m:=m) (by omega) l (s:=0) (by omega) h
 exact ⟨⟨by omega,by omega,fun c hc'=>(hc c hc').1⟩,by omega⟩
theorem kEY (t:List UInt8):(cpts t).length≤t.length:=by
 unfold cpts
 cases h:pts t with
 | none=>simp
 | some cs =>
   obtain ⟨_,e⟩:=kAQ h
   have:=encs_le cs
   rw[← e]at this
   exact this
theorem kAb (t:List UInt8):cnt t=(cpts t).length:=by
 unfold cnt cpts
 cases h:pts t<;>rfl
end Go.Proofs
end
-- EUk0
section
namespace Go.Proofs
open Go Go.Rw
set_option maxRecDepth 100000
structure Nd where
 id:Int
 par:Int
 nm:List UInt8
 dir:Bool
 text:List UInt8
 deriving Inhabited,DecidableEq
def nA (x:Nd):AV:=.agg [.v (.int .i64 x.id),.v (.int .i64 x.par),.v (sv x.nm),.v (.bool x.dir),.v (sv x.text)]
def kW (l:List Nd):List AV:=l.map nA
theorem nodes_nil:kW []=[]:=rfl
theorem kI (l:List Nd):(kW l).length=l.length:=by simp[kW]
theorem kY (l:List Nd) {i:Nat} (h:i < l.length):(kW l).getD i .any=nA l[i]:=by simp[kW,List.getD_eq_getElem?_getD,h]
theorem kFy (l:List Nd) (i:Nat):(kW l).take i=kW (l.take i):=by simp[kW,List.map_take]
theorem nodes_drop (l:List Nd) (i:Nat):(kW l).drop i=kW (l.drop i):=by simp[kW,List.map_drop]
theorem nA_er (x:Nd):(nA x).er=nA x:=by simp[nA,AV.er,AV.erL]
theorem kAO:∀ l:List Nd,AV.erL (kW l)=kW l
 | []=>rfl
 | x::l=>by simp only [kW,List.map_cons,AV.erL,nA_er];rw [show List.map nA l=kW l from rfl,kAO l]
def qW:Nd:=⟨0,0,[],false,[]⟩
def ndx (id:Int):List Nd→Nat
 | []=>0
 | x::l=>if x.id=id then 0 else ndx id l+1
def ndI (id:Int) (l:List Nd):Int:=if ndx id l < l.length then (ndx id l:Int) else -1
theorem ndx_le (id:Int):∀ l:List Nd,ndx id l≤l.length
 | []=>Nat.le_refl _
 | x::l=>by
   have:=ndx_le id l
   rw[ndx];split<;>simp only[List.length_cons]<;>omega
theorem ndx_get (id:Int):∀ (l:List Nd) (h:ndx id l < l.length),(l[ndx id l]).id=id
 | x::l,h=>by
   by_cases hx:x.id=id
   ·simp[ndx,hx]
   ·have e:ndx id (x::l)=ndx id l+1:=by rw[ndx,if_neg hx]
    simp only[e,List.getElem_cons_succ]
    exact ndx_get id l (by rw[e]at h;simpa using h)
theorem ndx_mem (id:Int):∀ l:List Nd,ndx id l < l.length↔∃ x∈l,x.id=id
 | []=>by simp [ndx]
 | x::l=>by
   rw[ndx]
   by_cases hx:x.id=id
   ·rw[if_pos hx];simp[hx]
   ·rw[if_neg hx];simp[hx,ndx_mem id l]
def kid (par:Int) (nm:List UInt8):List Nd→Int
 | []=>-1
 | x::l=>if x.par=par∧x.nm=nm then x.id else kid par nm l
def inN (l:List Nd) (top:Int):Nat→Int→Bool
 | 0,_=>true
 | n+1,id=>if id=top then true else if ndx id l < l.length then inN l top n (l.getD (ndx id l) qW).par else false
def zO (l:List Nd) (id top:Int):Bool:=inN l top (l.length+1) id
def kB6 (l:List Nd) (par:Int) (nm:List UInt8) (id:Int):Int:=if 0≤kid par nm l∧kid par nm l≠id then 6 else 0
def qZ (l:List Nd) (par:Int) (nm:List UInt8) (id:Int):Int :=
 if par=0 then kB6 l par nm id
 else if ndx par l < l.length then (if (l.getD (ndx par l) qW).dir=false then 8 else if id > 0∧zO l par id=true then 10 else kB6 l par nm id)
 else 5
def totN:List Nd→Nat
 | []=>0
 | x::l=>cnt x.text+totN l
def atN (id:Int):List Nd→Nat
 | []=>0
 | x::l=>if x.id < id then atN id l+1 else 0
theorem atN_le (id:Int):∀ l:List Nd,atN id l≤l.length
 | []=>Nat.le_refl _
 | x::l=>by
   have:=atN_le id l
   rw[atN];split<;>simp only[List.length_cons]<;>omega
def doN (l:List Nd) (a:Ac):List Nd×Int :=
 let x:=l.getD (ndx a.id l) qW
 if a.k=1 then
  if a.id < 1∨a.id > 1099511627776∨qB a.nm=false then (l,1)
  else if ndx a.id l < l.length then (l,6)
  else if qZ l a.par a.nm 0≠0 then (l,qZ l a.par a.nm 0)
  else if l.length ≥ 100 then (l,4)
  else (l.take (atN a.id l)++⟨a.id,a.par,a.nm,a.dir,[]⟩::l.drop (atN a.id l),0)
 else if a.k=2 then
  if ¬ ndx a.id l < l.length then (l,5)
  else if (l.any fun y=>decide (y.par=a.id))=true then (l,9)
  else (l.take (ndx a.id l)++l.drop (ndx a.id l+1),0)
 else if a.k=3 then
  if qB a.nm=false then (l,1)
  else if ¬ ndx a.id l < l.length then (l,5)
  else if qZ l a.par a.nm a.id≠0 then (l,qZ l a.par a.nm a.id)
  else (l.set (ndx a.id l) ⟨x.id,a.par,a.nm,x.dir,x.text⟩,0)
 else if a.k=4 then
  if ¬ ndx a.id l < l.length then (l,5)
  else if x.dir=true then (l,8)
  else if errI x.text a.ops≠0 then (l,errI x.text a.ops)
  else if (totN (l.set (ndx a.id l) ⟨x.id,x.par,x.nm,x.dir,zG x.text a.ops⟩):Int) > 10000 then (l,4)
  else (l.set (ndx a.id l) ⟨x.id,x.par,x.nm,x.dir,zG x.text a.ops⟩,0)
 else (l,1)
structure Alln where
 now:List Nd
 n:Int
 e:Int
 deriving DecidableEq
end Go.Proofs
end
-- EUk1
section
namespace Go.Proofs
open Go Go.Rw
set_option maxRecDepth 100000
abbrev NdsL:={ l:List Nd // l.length≤1099511627776 }
abbrev kA9:Con where
 ι:=NdsL×Int
 args:=fun p=>[.sl 0 5 (kW p.1.1),.v (.int .i64 p.2)]
 post:=fun p r=>r = .v (.int .i64 (ndI p.2 p.1.1))
 plain:=true
theorem kBN:Rw.Good Tryz.prog 48 kA9:=by
 have hΓ:kL Tryz.prog []:=kK
 refine k7 (nn:=20) hΓ Tryz.func48 (by kernel_rfl) rfl (show Tryz.f48.results.toList=[.tmp 4] from rfl) (fun _=>rfl) (fun x=>by simp[AV.erL,AV.er]) ?_
 rintro ⟨⟨l,hl⟩,id⟩
 simp only[aR,seval,kI]
 obtain ⟨St,hSt⟩:∃ St:{ i:Nat // i≤l.length∧ndx id l=i+ndx id (l.drop i) }→AS,∀ i,St i=AS.of 20 [(0,.sl 0 5 (kW l)),(1,.v (.int .i64 id)),(5,.v (.int .i64 i.1))] [] []:=⟨_,fun _=>rfl⟩
 refine qH hΓ St (fun i=>l.length - i.1) ⟨0,by omega,by simp⟩ (by rw[hSt];refine kR [] [] ?_;simp only[aR,seval]<;>((repeat' apply And.intro)<;>first|rfl|omega|trivial)) ?_
 rintro ⟨i,hi,hf⟩
 rw[hSt]
 simp only
 simp only[aR,seval,kI]
 (with_reducible first|refine kG (fun h=>?_) (fun h=>?_)|refine kH (fun h=>?_) (fun h=>?_))
 ·have hlt:i < l.length:=by omega
  have e1:=kY l hlt
  rw[List.drop_eq_getElem_cons hlt,ndx]at hf
  generalize l[i]=x at *
  by_cases hx:x.id=id
  ·rw[if_pos hx]at hf
   simp only[aR,seval,h,e1,nA,kI,hx]
   (repeat (with_reducible refine And.intro ?_ ?_;focus (first|omega|exact kE|kernel_rfl)))
   rw[ndI,if_pos (by omega),hf,Nat.add_zero]
  ·rw[if_neg hx]at hf
   simp only[aR,seval,h,e1,nA,kI,hx,kC (n:=(i:Int)+1) (by omega) (by omega)]
   (repeat (with_reducible refine And.intro ?_ ?_;focus (first|omega|exact kE|kernel_rfl)))
   refine kP ⟨i+1,by omega,by omega⟩ (by simp only;omega) ?_
   rw[hSt];refine kR [] [] ?_
   simp only[aR,seval]<;>((repeat' apply And.intro)<;>first|rfl|omega|trivial)
 ·simp only[aR,seval,h]
  rw[List.drop_of_length_le (by omega),ndx]at hf
  rw[ndI,if_neg (by omega)]
theorem j4 {Γ:Env} (hf:Γ.get 48=some kA9) {σ:AS} {dr:Bool} {l:List Nd} {id:Int} {ys:List AV} {d:Option Nat} {K:AS→Prop} (hy:ys=kW l) (hl:l.length≤1099511627776)
    (hk:cont σ d (.v (.int .i64 (ndI id l))) K):kT Tryz.prog Γ dr σ 48 [.sl 0 5 ys,.v (.int .i64 id)] d K:=by
 subst hy
 exact kO (C:=kA9) (i:=(⟨l,hl⟩,id)) hf rfl rfl rfl (by simp[AV.erL,AV.er]) (fun _ h=>h) rfl hk
abbrev kidCon:Con where
 ι:=NdsL×Int×List UInt8
 args:=fun p=>[.sl 0 5 (kW p.1.1),.v (.int .i64 p.2.1),.v (sv p.2.2)]
 post:=fun p r=>r = .v (.int .i64 (kid p.2.1 p.2.2 p.1.1))
 plain:=true
theorem kid_good:Rw.Good Tryz.prog 54 kidCon:=by
 have hΓ:kL Tryz.prog []:=kK
 refine k7 (nn:=35) hΓ Tryz.func54 (by kernel_rfl) rfl (show Tryz.f54.results.toList=[.tmp 6] from rfl) (fun _=>rfl) (fun x=>by simp[AV.erL,AV.er]) ?_
 rintro ⟨⟨l,hl⟩,par,nm⟩
 simp only[aR,seval,kI]
 obtain ⟨St,hSt⟩:∃ St:{ i:Nat // i≤l.length∧kid par nm (l.drop i)=kid par nm l }→AS,∀ i,St i=AS.of 35 [(0,.sl 0 5 (kW l)),(1,.v (.int .i64 par)),(2,.v (sv nm)),(7,.v (.int .i64 i.1))] [] []:=⟨_,fun _=>rfl⟩
 refine qH hΓ St (fun i=>l.length - i.1) ⟨0,by omega,by simp⟩ (by rw[hSt];refine kR [] [] ?_;simp only[aR,seval]<;>((repeat' apply And.intro)<;>first|rfl|omega|trivial)) ?_
 rintro ⟨i,hi,hf⟩
 rw[hSt]
 simp only
 simp only[aR,seval,kI]
 (with_reducible first|refine kG (fun h=>?_) (fun h=>?_)|refine kH (fun h=>?_) (fun h=>?_))
 ·have hlt:i < l.length:=by omega
  have e1:=kY l hlt
  rw[List.drop_eq_getElem_cons hlt,kid]at hf
  generalize l[i]=x at *
  by_cases hx:x.par=par
  ·by_cases hy:x.nm=nm
   ·rw[if_pos ⟨hx,hy⟩]at hf
    simp only[aR,seval,h,e1,nA,kI,hx,hy,hf]<;>((repeat' apply And.intro)<;>first|rfl|omega|trivial)
   ·rw[if_neg (fun hh=>hy hh.2)]at hf
    simp only[aR,seval,h,e1,nA,kI,hx,hy,kC (n:=(i:Int)+1) (by omega) (by omega)]
    (repeat (with_reducible refine And.intro ?_ ?_;focus (first|omega|exact kE|kernel_rfl)))
    refine kP ⟨i+1,by omega,hf⟩ (by simp only;omega) ?_
    rw[hSt];refine kR [] [] ?_
    simp only[aR,seval]<;>((repeat' apply And.intro)<;>first|rfl|omega|trivial)
  ·rw[if_neg (fun hh=>hx hh.1)]at hf
   simp only[aR,seval,h,e1,nA,kI,hx,kC (n:=(i:Int)+1) (by omega) (by omega)]
   (repeat (with_reducible refine And.intro ?_ ?_;focus (first|omega|exact kE|kernel_rfl)))
   refine kP ⟨i+1,by omega,hf⟩ (by simp only;omega) ?_
   rw[hSt];refine kR [] [] ?_
   simp only[aR,seval]<;>((repeat' apply And.intro)<;>first|rfl|omega|trivial)
 ·rw[List.drop_of_length_le (by omega),kid]at hf
  simp only[aR,seval,h,hf]
theorem kD5 {Γ:Env} (hf:Γ.get 54=some kidCon) {σ:AS} {dr:Bool} {l:List Nd} {par:Int} {nm:List UInt8} {ys:List AV} {d:Option Nat} {K:AS→Prop} (hy:ys=kW l) (hl:l.length≤1099511627776)
    (hk:cont σ d (.v (.int .i64 (kid par nm l))) K):kT Tryz.prog Γ dr σ 54 [.sl 0 5 ys,.v (.int .i64 par),.v (sv nm)] d K:=by
 subst hy
 exact kO (C:=kidCon) (i:=(⟨l,hl⟩,par,nm)) hf rfl rfl rfl (by simp[AV.erL,AV.er]) (fun _ h=>h) rfl hk
abbrev kBa:Con where
 ι:=NdsL×Int×Int
 args:=fun p=>[.sl 0 5 (kW p.1.1),.v (.int .i64 p.2.1),.v (.int .i64 p.2.2)]
 post:=fun p r=>r = .v (.bool (zO p.1.1 p.2.1 p.2.2))
 plain:=true
theorem kFl:Rw.Good Tryz.prog 57 kBa:=by
 have hΓ:kL Tryz.prog [(48,kA9)]:=(kJ kBN kK)
 refine k7 (nn:=28) hΓ Tryz.func57 (by kernel_rfl) rfl (show Tryz.f57.results.toList=[.tmp 6] from rfl) (fun _=>rfl) (fun x=>by simp[AV.erL,AV.er]) ?_
 rintro ⟨⟨l,hl⟩,id,top⟩
 simp only[aR,seval,kI]
 obtain ⟨St,hSt⟩:∃ St:{ p:Nat×Int // p.1≤l.length+1∧inN l top (l.length+1 - p.1) p.2=zO l id top }→AS,∀ p,St p=AS.of 28 [(0,.sl 0 5 (kW l)),(1,.v (.int .i64 p.1.2)),(2,.v (.int .i64 top)),(7,.v (.int .i64 p.1.1))] [] []:=⟨_,fun _=>rfl⟩
 refine qH hΓ St (fun p=>l.length+1 - p.1.1) ⟨(0,id),by simp,rfl⟩ (by rw[hSt];refine kR [] [] ?_;simp only[aR,seval]<;>((repeat' apply And.intro)<;>first|rfl|omega|trivial)) ?_
 rintro ⟨⟨k,x⟩,hk,hw⟩
 simp only at hk hw
 rw[hSt]
 simp only
 simp only[aR,seval,kI]
 (with_reducible first|refine kG (fun h=>?_) (fun h=>?_)|refine kH (fun h=>?_) (fun h=>?_))
 ·have hlt:k < l.length+1:=by omega
  rw[show l.length+1 - k=(l.length - k)+1 by omega,inN]at hw
  by_cases hx:x=top
  ·rw[if_pos hx]at hw
   simp only[aR,seval,h,hx,← hw]
  ·rw[if_neg hx]at hw
   simp only[aR,seval,h,hx]
   refine j4 (by simp[kF]) rfl hl ?_
   by_cases hf:ndx x l < l.length
   ·rw[if_pos hf]at hw
    have e1:=kY l hf
    have e2:ndI x l=(ndx x l:Int):=by rw[ndI,if_pos hf]
    have e3:l.getD (ndx x l) qW=l[ndx x l]:=by simp[List.getD_eq_getElem?_getD,hf]
    rw[e3]at hw
    generalize l[ndx x l]=y at *
    rw[e2]
    simp only[aR,seval,e1,nA,kI,show ((ndx x l:Int) < 0)=False from eq_false (by omega),kC (n:=(k:Int)+1) (by omega) (by omega)]
    (repeat (with_reducible refine And.intro ?_ ?_;focus (first|omega|exact kE|kernel_rfl)))
    refine kP ⟨(k+1,y.par),by simp only;omega,by simp only;rw[show l.length+1 - (k+1)=l.length - k by omega];exact hw⟩ (by simp only;omega) ?_
    rw[hSt];refine kR [] [] ?_
    simp only[aR,seval]<;>((repeat' apply And.intro)<;>first|rfl|omega|trivial)
   ·rw[if_neg hf]at hw
    have e2:ndI x l = -1:=by rw[ndI,if_neg hf]
    rw[e2]
    simp only[aR,seval,← hw]
 ·rw[show l.length+1 - k=0 by omega,inN]at hw
  simp only[aR,seval,h,← hw]
theorem kCc {Γ:Env} (hf:Γ.get 57=some kBa) {σ:AS} {dr:Bool} {l:List Nd} {id top:Int} {ys:List AV} {d:Option Nat} {K:AS→Prop} (hy:ys=kW l) (hl:l.length≤1099511627776)
    (hk:cont σ d (.v (.bool (zO l id top))) K):kT Tryz.prog Γ dr σ 57 [.sl 0 5 ys,.v (.int .i64 id),.v (.int .i64 top)] d K:=by
 subst hy
 exact kO (C:=kBa) (i:=(⟨l,hl⟩,id,top)) hf rfl rfl rfl (by simp[AV.erL,AV.er]) (fun _ h=>h) rfl hk
abbrev kE8:Con where
 ι:=NdsL×Int×List UInt8×Int
 args:=fun p=>[.sl 0 5 (kW p.1.1),.v (.int .i64 p.2.1),.v (sv p.2.2.1),.v (.int .i64 p.2.2.2)]
 post:=fun p r=>r = .v (.int .i64 (qZ p.1.1 p.2.1 p.2.2.1 p.2.2.2))
 plain:=true
theorem place_good:Rw.Good Tryz.prog 58 kE8:=by
 have hΓ:kL Tryz.prog [(48,kA9),(57,kBa),(54,kidCon)]:=(kJ kBN (kJ kFl (kJ kid_good kK)))
 refine k7 (nn:=43) hΓ Tryz.func58 (by kernel_rfl) rfl (show Tryz.f58.results.toList=[.tmp 8] from rfl) (fun _=>rfl) (fun x=>by simp[AV.erL,AV.er]) ?_
 rintro ⟨⟨l,hl⟩,par,nm,id⟩
 by_cases h1:par=0
 ·have e0:qZ l par nm id=kB6 l par nm id:=by rw[qZ,if_pos h1]
  subst h1
  simp only[aR,seval]
  refine kD5 (by simp[kF]) rfl hl ?_
  have ec:kB6 l 0 nm id=if 0≤kid 0 nm l∧kid 0 nm l≠id then 6 else 0:=rfl
  rw[ec]at e0
  generalize kid 0 nm l=c at *
  by_cases h2:c ≥ 0
  ·by_cases h3:c=id
   ·subst h3
    rw[if_neg (fun hh=>hh.2 rfl)]at e0
    simp only[aR,seval,h2,e0]
   ·rw[if_pos ⟨h2,h3⟩]at e0
    simp only[aR,seval,h2,h3,e0]
  ·rw[if_neg (fun hh=>h2 hh.1)]at e0
   simp only[aR,seval,h2,e0]
 simp only[aR,seval,h1]
 refine j4 (by simp[kF]) rfl hl ?_
 by_cases hf:ndx par l < l.length
 case neg =>
  have e2:ndI par l = -1:=by rw[ndI,if_neg hf]
  rw[e2]
  simp only[aR,seval]
  rw[qZ,if_neg h1,if_neg hf]
 have e1:=kY l hf
 have e2:ndI par l=(ndx par l:Int):=by rw[ndI,if_pos hf]
 have e3:l.getD (ndx par l) qW=l[ndx par l]:=by simp[List.getD_eq_getElem?_getD,hf]
 have e0:qZ l par nm id=if l[ndx par l].dir=false then 8 else if id > 0∧zO l par id=true then 10 else kB6 l par nm id:=by rw[qZ,if_neg h1,if_pos hf,e3]
 have e4:((ndx par l:Int) < 0)=False:=eq_false (by omega)
 generalize l[ndx par l]=x at *
 rw[e2]
 obtain ⟨xi,xp,xn,xd,xt⟩:=x
 cases xd
 ·simp only[aR,seval,e1,nA,kI,e4]
  (repeat (with_reducible refine And.intro ?_ ?_;focus (first|omega|exact kE|kernel_rfl)))
  rw[e0];rfl
 rw[if_neg (by simp)]at e0
 simp only[aR,seval,e1,nA,kI,e4]
 (repeat (with_reducible refine And.intro ?_ ?_;focus (first|omega|exact kE|kernel_rfl)))
 by_cases h4:id > 0
 ·simp only[aR,seval,h4]
  refine kCc (by simp[kF]) rfl hl ?_
  cases hw:zO l par id
  ·rw[if_neg (by simp[hw])]at e0
   simp only[aR,seval,h4]
   refine kD5 (by simp[kF]) rfl hl ?_
   have ec:kB6 l par nm id=if 0≤kid par nm l∧kid par nm l≠id then 6 else 0:=rfl
   rw[ec]at e0
   generalize kid par nm l=c at *
   by_cases h2:c ≥ 0
   ·by_cases h3:c=id
    ·subst h3
     rw[if_neg (fun hh=>hh.2 rfl)]at e0
     simp only[aR,seval,h2,e0]
    ·rw[if_pos ⟨h2,h3⟩]at e0
     simp only[aR,seval,h2,h3,e0]
   ·rw[if_neg (fun hh=>h2 hh.1)]at e0
    simp only[aR,seval,h2,e0]
  ·rw[if_pos ⟨h4,hw⟩]at e0
   simp only[aR,seval,h4,e0]
 ·rw[if_neg (fun hh=>h4 hh.1)]at e0
  simp only[aR,seval,h4]
  refine kD5 (by simp[kF]) rfl hl ?_
  have ec:kB6 l par nm id=if 0≤kid par nm l∧kid par nm l≠id then 6 else 0:=rfl
  rw[ec]at e0
  generalize kid par nm l=c at *
  by_cases h2:c ≥ 0
  ·by_cases h3:c=id
   ·subst h3
    rw[if_neg (fun hh=>hh.2 rfl)]at e0
    simp only[aR,seval,h2,e0]
   ·rw[if_pos ⟨h2,h3⟩]at e0
    simp only[aR,seval,h2,h3,e0]
  ·rw[if_neg (fun hh=>h2 hh.1)]at e0
   simp only[aR,seval,h2,e0]
theorem kGW {Γ:Env} (hf:Γ.get 58=some kE8) {σ:AS} {dr:Bool} {l:List Nd} {par id:Int} {nm:List UInt8} {ys:List AV} {d:Option Nat} {K:AS→Prop} (hy:ys=kW l) (hl:l.length≤1099511627776)
    (hk:cont σ d (.v (.int .i64 (qZ l par nm id))) K):kT Tryz.prog Γ dr σ 58 [.sl 0 5 ys,.v (.int .i64 par),.v (sv nm),.v (.int .i64 id)] d K:=by
 subst hy
 exact kO (C:=kE8) (i:=(⟨l,hl⟩,par,nm,id)) hf rfl rfl rfl (by simp[AV.erL,AV.er]) (fun _ h=>h) rfl hk
end Go.Proofs
end
-- EUk1e
section
namespace Go.Proofs
open Go Go.Rw
set_option maxRecDepth 100000
section
variable {P:Program}
theorem calm_eqB {d:Nat} {t:TypeId} {a b:Bool} (h:P.underlying t=some .bool):calm P (Op.equalIn (d+1) t (.bool a) (.bool b))=some (a == b):=by
 simp[Op.equalIn,k6,underlying,h]
def is5 (P:Program) (t ti ts tb:TypeId):Bool:=match P.underlying t with
 | some (.struct fs)=>match fs.toList with
   | [f1, f2, f3, f4, f5] => (f1.type == ti && (f1.offset == 0 && f1.name != "_")) && ((f2.type == ti && (f2.offset == 1 && f2.name != "_")) && ((f3.type == ts && (f3.offset == 2 && f3.name != "_")) && ((f4.type == tb && (f4.offset == 3 && f4.name != "_")) && (f5.type == ts && (f5.offset == 4 && f5.name != "_")))))
   | _=>false
 | _=>false
theorem calm_eq5 {d:Nat} {t ti ts tb:TypeId} {k:IntKind} {a b a' b':Int} {s s' u u':List UInt8} {q q':Bool} (h5:is5 P t ti ts tb=true) (hp:P.stoodInHeld t=false) (hi:P.underlying ti=some (.int k)) (hs:P.underlying ts=some .string) (hb:P.underlying tb=some .bool) :
    calm P (Op.equalIn (d+2) t (.agg #[.int .i64 a,.int .i64 b,.string ⟨s.toArray⟩,.bool q,.string ⟨u.toArray⟩]) (.agg #[.int .i64 a',.int .i64 b',.string ⟨s'.toArray⟩,.bool q',.string ⟨u'.toArray⟩]))=some (a == a' && b == b' && s == s' && q == q' && u == u'):=by
 unfold is5 at h5
 split at h5
 ·rename_i fs ht
  split at h5
  ·rename_i f1 f2 f3 f4 f5 hl
   have hfs:fs = #[f1,f2,f3,f4,f5]:=by rw[← hl]
   subst hfs
   simp only[Bool.and_eq_true,beq_iff_eq,bne_iff_ne]at h5
   obtain ⟨⟨rfl,o1,n1⟩,⟨e2,o2,n2⟩,⟨rfl,o3,n3⟩,⟨rfl,o4,n4⟩,⟨e5,o5,n5⟩⟩:=h5
   have p0:∀ (a b:Int) (s u:List UInt8) (q:Bool),calm P (part f1.type #[.int .i64 a,.int .i64 b,.string ⟨s.toArray⟩,.bool q,.string ⟨u.toArray⟩] 0)=some (.int .i64 a):=fun a b s u q=>kBK hi rfl rfl
   have p1:∀ (a b:Int) (s u:List UInt8) (q:Bool),calm P (part f1.type #[.int .i64 a,.int .i64 b,.string ⟨s.toArray⟩,.bool q,.string ⟨u.toArray⟩] 1)=some (.int .i64 b):=fun a b s u q=>kBK hi rfl rfl
   have p2:∀ (a b:Int) (s u:List UInt8) (q:Bool),calm P (part f3.type #[.int .i64 a,.int .i64 b,.string ⟨s.toArray⟩,.bool q,.string ⟨u.toArray⟩] 2)=some (.string ⟨s.toArray⟩):=fun a b s u q=>kBK hs rfl rfl
   have p3:∀ (a b:Int) (s u:List UInt8) (q:Bool),calm P (part f4.type #[.int .i64 a,.int .i64 b,.string ⟨s.toArray⟩,.bool q,.string ⟨u.toArray⟩] 3)=some (.bool q):=fun a b s u q=>kBK hb rfl rfl
   have p4:∀ (a b:Int) (s u:List UInt8) (q:Bool),calm P (part f3.type #[.int .i64 a,.int .i64 b,.string ⟨s.toArray⟩,.bool q,.string ⟨u.toArray⟩] 4)=some (.string ⟨u.toArray⟩):=fun a b s u q=>kBK hs rfl rfl
   rw[Op.equalIn]
   simp only[k6,underlying,qF,Option.bind_some,ht,zU,hp,Bool.false_eq_true,if_false,← Array.forIn_toList,List.forIn_cons,List.forIn_nil,n1,n2,n3,n4,n5,o1,o2,o3,o4,o5,e2,e5,p0,p1,p2,p3,p4,calm_eqI hi,calm_eqS hs,calm_eqB hb,if_true,ne_eq,not_false_eq_true]
   by_cases c1:a=a'<;>by_cases c2:b=b'<;>by_cases c3:s=s'<;>by_cases c4:q=q'<;>by_cases c5:u=u'<;>simp[c1,c2,c3,c4,c5,k6,p0,p1,p2,p3,p4,calm_eqI hi,calm_eqS hs,calm_eqB hb]
  ·cases h5
 ·cases h5
theorem bin_neq5 {t ti ts tb:TypeId} {x y:Operand} {k:IntKind} {a b a' b':Int} {s s' u u':List UInt8} {q q':Bool} (hg:P.eqGuardType P.depth t=false) (h5:is5 P t ti ts tb=true) (hp:P.stoodInHeld t=false) (hi:P.underlying ti=some (.int k)) (hs:P.underlying ts=some .string) (hb:P.underlying tb=some .bool) :
    binA P .neq t x y (.agg [.v (.int .i64 a),.v (.int .i64 b),.v (sv s),.v (.bool q),.v (sv u)]) (.agg [.v (.int .i64 a'),.v (.int .i64 b'),.v (sv s'),.v (.bool q'),.v (sv u')])=some (.v (.bool (decide (¬ (a=a'∧b=b'∧s=s'∧q=q'∧u=u'))))):=by
 have e:Op.maxDepth=9998+2:=rfl
 have hq:=calm_eq5 (P:=P) (d:=9998) (a:=a) (b:=b) (a':=a') (b':=b') (s:=s) (s':=s') (u:=u) (u':=u') (q:=q) (q':=q') h5 hp hi hs hb
 unfold binA
 rw[show binV P .neq t x y (.agg [.v (.int .i64 a),.v (.int .i64 b),.v (sv s),.v (.bool q),.v (sv u)]) (.agg [.v (.int .i64 a'),.v (.int .i64 b'),.v (sv s'),.v (.bool q'),.v (sv u')])=none from rfl]
 simp only[kF4,kAm,Option.map_some,Option.none_or,res,k6,eqGuard,sv,qF,Option.bind_some,hg]
 simp[k6,kEp,binOp,Op.equal,e,hq,hg]
 by_cases c1:a=a'<;>by_cases c2:b=b'<;>by_cases c3:s=s'<;>by_cases c4:q=q'<;>by_cases c5:u=u'<;>simp[c1,c2,c3,c4,c5]
end
theorem node_neq {x y:Operand} {a b a' b':Int} {s s' u u':List UInt8} {q q':Bool}:binA Tryz.prog .neq 42 x y (.agg [.v (.int .i64 a),.v (.int .i64 b),.v (sv s),.v (.bool q),.v (sv u)]) (.agg [.v (.int .i64 a'),.v (.int .i64 b'),.v (sv s'),.v (.bool q'),.v (sv u')])=some (.v (.bool (decide (¬ (a=a'∧b=b'∧s=s'∧q=q'∧u=u'))))) :=
 bin_neq5 (ti:=3) (ts:=9) (tb:=4) (k:=.i64) (by kernel_rfl) (by kernel_rfl) (by kernel_rfl) (by kernel_rfl) (by kernel_rfl) (by kernel_rfl)
theorem nd_eq (x y:Nd):(x=y)=(x.id=y.id∧x.par=y.par∧x.nm=y.nm∧x.dir=y.dir∧x.text=y.text):=by
 cases x;cases y;simp only[Nd.mk.injEq]
end Go.Proofs
end
-- EUk2
section
namespace Go.Proofs
open Go Go.Rw
set_option maxRecDepth 100000
theorem kG7:Rw.Good Tryz.prog 31 kAs:=by
 have hΓ:kL Tryz.prog []:=kK
 refine k7 (nn:=56) hΓ Tryz.func31 (by kernel_rfl) rfl (show Tryz.f31.results.toList=[.tmp 2] from rfl) (fun _=>rfl) (fun _=>rfl) ?_
 rintro ⟨s,hs⟩
 simp only[aR,seval]
 have e0:qB s=(s.all zW && decide (1≤s.length∧s.length≤20∧s≠[46]∧s≠[46,46])):=rfl
 by_cases h1:(s.length:Int) < 1
 ·have e1:qB s=false:=by rw[e0,decide_eq_false (by omega),Bool.and_false]
  simp only[aR,seval,h1,e1]
 by_cases h2:(s.length:Int) > 20
 ·have e1:qB s=false:=by rw[e0,decide_eq_false (by omega),Bool.and_false]
  simp only[aR,seval,h1,h2,e1]
 by_cases h3:s=[46]
 ·have e1:qB s=false:=by rw[e0,decide_eq_false (fun hh=>hh.2.2.1 h3),Bool.and_false]
  have h4:decide (s=[46])=true:=decide_eq_true h3
  clear h3
  simp only[aR,seval,h1,h2,h4,e1]
 by_cases h4:s=[46,46]
 ·have e1:qB s=false:=by rw[e0,decide_eq_false (fun hh=>hh.2.2.2 h4),Bool.and_false]
  have h5:decide (s=[46,46])=true:=decide_eq_true h4
  clear h4
  simp only[aR,seval,h1,h2,h3,h5,e1]
 rw[decide_eq_true (by refine ⟨by omega,by omega,h3,h4⟩),Bool.and_true]at e0
 simp only[aR,seval,h1,h2,h3,h4]
 obtain ⟨St,hSt⟩:∃ St:{ i:Nat // i≤s.length∧(s.take i).all zW=true }→AS,∀ i,St i=AS.of 56 [(0,.v (sv s)),(3,.v (.int .i64 i.1))] [] []:=⟨_,fun _=>rfl⟩
 refine qH hΓ St (fun i=>s.length - i.1) ⟨0,by omega,by simp⟩ (by rw[hSt];refine kR [] [] ?_;simp only[aR,seval]<;>((repeat' apply And.intro)<;>first|rfl|omega|trivial)) ?_
 rintro ⟨i,hi,ha⟩
 rw[hSt]
 simp only
 simp only[aR,seval]
 (with_reducible first|refine kG (fun h=>?_) (fun h=>?_)|refine kH (fun h=>?_) (fun h=>?_))
 ·have hlt:i < s.length:=by omega
  have e2:(s.take (i+1)).all zW=zW s[i]:=by rw[List.take_succ_eq_append_getElem hlt,List.all_append,ha];simp
  have e3:zW s[i]=false→qB s=false:=fun hc=>by
   rw[e0];exact List.all_eq_false.2 ⟨s[i],List.getElem_mem hlt,by simp[hc]⟩
  have e4:s.getD i 0=s[i]:=by simp[List.getD_eq_getElem?_getD,hlt]
  have e5:zW s[i]=decide ((97≤s[i].toNat∧s[i].toNat≤122)∨(48≤s[i].toNat∧s[i].toNat≤57)∨s[i].toNat=46∨s[i].toNat=45∨s[i].toNat=95):=rfl
  generalize s[i]=c at *
  cases hc:zW c
  ·have e6:=e3 hc
   rw[hc]at e5
   have e7:=of_decide_eq_false e5.symm
   clear e5 e3 e2 e0
   simp only[aR,seval,h,e4]
   (repeat (with_reducible refine And.intro ?_ ?_;focus (first|omega|exact kE|kernel_rfl)))
   (try ((with_reducible first|refine kG (fun q1=>?_) (fun q1=>?_)|refine kH (fun q1=>?_) (fun q1=>?_))<;>simp (disch:=omega) only[aR,seval,kC,q1,e6]<;>(with_reducible first|(refine And.intro ?_ ?_;focus (first|omega|exact kE|kernel_rfl));(repeat (with_reducible refine And.intro ?_ ?_;focus (first|omega|exact kE|kernel_rfl)));(try simp (disch:=omega) only[aR,seval,kC,q1,e6])|skip)<;>(try ((with_reducible first|refine kG (fun q2=>?_) (fun q2=>?_)|refine kH (fun q2=>?_) (fun q2=>?_))<;>simp (disch:=omega) only[aR,seval,kC,q2,e6]<;>(with_reducible first|(refine And.intro ?_ ?_;focus (first|omega|exact kE|kernel_rfl));(repeat (with_reducible refine And.intro ?_ ?_;focus (first|omega|exact kE|kernel_rfl)));(try simp (disch:=omega) only[aR,seval,kC,q2,e6])|skip)<;>(try ((with_reducible first|refine kG (fun q3=>?_) (fun q3=>?_)|refine kH (fun q3=>?_) (fun q3=>?_))<;>simp (disch:=omega) only[aR,seval,kC,q3,e6]<;>(with_reducible first|(refine And.intro ?_ ?_;focus (first|omega|exact kE|kernel_rfl));(repeat (with_reducible refine And.intro ?_ ?_;focus (first|omega|exact kE|kernel_rfl)));(try simp (disch:=omega) only[aR,seval,kC,q3,e6])|skip)<;>(try ((with_reducible first|refine kG (fun q4=>?_) (fun q4=>?_)|refine kH (fun q4=>?_) (fun q4=>?_))<;>simp (disch:=omega) only[aR,seval,kC,q4,e6]<;>(with_reducible first|(refine And.intro ?_ ?_;focus (first|omega|exact kE|kernel_rfl));(repeat (with_reducible refine And.intro ?_ ?_;focus (first|omega|exact kE|kernel_rfl)));(try simp (disch:=omega) only[aR,seval,kC,q4,e6])|skip)<;>(try ((with_reducible first|refine kG (fun q5=>?_) (fun q5=>?_)|refine kH (fun q5=>?_) (fun q5=>?_))<;>simp (disch:=omega) only[aR,seval,kC,q5,e6]<;>(with_reducible first|(refine And.intro ?_ ?_;focus (first|omega|exact kE|kernel_rfl));(repeat (with_reducible refine And.intro ?_ ?_;focus (first|omega|exact kE|kernel_rfl)));(try simp (disch:=omega) only[aR,seval,kC,q5,e6])|skip)<;>(try ((with_reducible first|refine kG (fun q6=>?_) (fun q6=>?_)|refine kH (fun q6=>?_) (fun q6=>?_))<;>simp (disch:=omega) only[aR,seval,kC,q6,e6]<;>(with_reducible first|(refine And.intro ?_ ?_;focus (first|omega|exact kE|kernel_rfl));(repeat (with_reducible refine And.intro ?_ ?_;focus (first|omega|exact kE|kernel_rfl)));(try simp (disch:=omega) only[aR,seval,kC,q6,e6])|skip)<;>(try ((with_reducible first|refine kG (fun q7=>?_) (fun q7=>?_)|refine kH (fun q7=>?_) (fun q7=>?_))<;>simp (disch:=omega) only[aR,seval,kC,q7,e6]<;>(with_reducible first|(refine And.intro ?_ ?_;focus (first|omega|exact kE|kernel_rfl));(repeat (with_reducible refine And.intro ?_ ?_;focus (first|omega|exact kE|kernel_rfl)));(try simp (disch:=omega) only[aR,seval,kC,q7,e6])|skip)<;>skip))))))))))))))
   all_goals (exfalso;omega)
  ·rw[hc]at e5 e2
   have e7:=of_decide_eq_true e5.symm
   clear e5 e3
   simp only[aR,seval,h,e4]
   (repeat (with_reducible refine And.intro ?_ ?_;focus (first|omega|exact kE|kernel_rfl)))
   (try ((with_reducible first|refine kG (fun q1=>?_) (fun q1=>?_)|refine kH (fun q1=>?_) (fun q1=>?_))<;>simp (disch:=omega) only[aR,seval,kC,q1,kC (n:=(i:Int)+1) (by omega) (by omega)]<;>(with_reducible first|(refine And.intro ?_ ?_;focus (first|omega|exact kE|kernel_rfl));(repeat (with_reducible refine And.intro ?_ ?_;focus (first|omega|exact kE|kernel_rfl)));(try simp (disch:=omega) only[aR,seval,kC,q1,kC (n:=(i:Int)+1) (by omega) (by omega)])|skip)<;>(try ((with_reducible first|refine kG (fun q2=>?_) (fun q2=>?_)|refine kH (fun q2=>?_) (fun q2=>?_))<;>simp (disch:=omega) only[aR,seval,kC,q2,kC (n:=(i:Int)+1) (by omega) (by omega)]<;>(with_reducible first|(refine And.intro ?_ ?_;focus (first|omega|exact kE|kernel_rfl));(repeat (with_reducible refine And.intro ?_ ?_;focus (first|omega|exact kE|kernel_rfl)));(try simp (disch:=omega) only[aR,seval,kC,q2,kC (n:=(i:Int)+1) (by omega) (by omega)])|skip)<;>(try ((with_reducible first|refine kG (fun q3=>?_) (fun q3=>?_)|refine kH (fun q3=>?_) (fun q3=>?_))<;>simp (disch:=omega) only[aR,seval,kC,q3,kC (n:=(i:Int)+1) (by omega) (by omega)]<;>(with_reducible first|(refine And.intro ?_ ?_;focus (first|omega|exact kE|kernel_rfl));(repeat (with_reducible refine And.intro ?_ ?_;focus (first|omega|exact kE|kernel_rfl)));(try simp (disch:=omega) only[aR,seval,kC,q3,kC (n:=(i:Int)+1) (by omega) (by omega)])|skip)<;>(try ((with_reducible first|refine kG (fun q4=>?_) (fun q4=>?_)|refine kH (fun q4=>?_) (fun q4=>?_))<;>simp (disch:=omega) only[aR,seval,kC,q4,kC (n:=(i:Int)+1) (by omega) (by omega)]<;>(with_reducible first|(refine And.intro ?_ ?_;focus (first|omega|exact kE|kernel_rfl));(repeat (with_reducible refine And.intro ?_ ?_;focus (first|omega|exact kE|kernel_rfl)));(try simp (disch:=omega) only[aR,seval,kC,q4,kC (n:=(i:Int)+1) (by omega) (by omega)])|skip)<;>(try ((with_reducible first|refine kG (fun q5=>?_) (fun q5=>?_)|refine kH (fun q5=>?_) (fun q5=>?_))<;>simp (disch:=omega) only[aR,seval,kC,q5,kC (n:=(i:Int)+1) (by omega) (by omega)]<;>(with_reducible first|(refine And.intro ?_ ?_;focus (first|omega|exact kE|kernel_rfl));(repeat (with_reducible refine And.intro ?_ ?_;focus (first|omega|exact kE|kernel_rfl)));(try simp (disch:=omega) only[aR,seval,kC,q5,kC (n:=(i:Int)+1) (by omega) (by omega)])|skip)<;>(try ((with_reducible first|refine kG (fun q6=>?_) (fun q6=>?_)|refine kH (fun q6=>?_) (fun q6=>?_))<;>simp (disch:=omega) only[aR,seval,kC,q6,kC (n:=(i:Int)+1) (by omega) (by omega)]<;>(with_reducible first|(refine And.intro ?_ ?_;focus (first|omega|exact kE|kernel_rfl));(repeat (with_reducible refine And.intro ?_ ?_;focus (first|omega|exact kE|kernel_rfl)));(try simp (disch:=omega) only[aR,seval,kC,q6,kC (n:=(i:Int)+1) (by omega) (by omega)])|skip)<;>(try ((with_reducible first|refine kG (fun q7=>?_) (fun q7=>?_)|refine kH (fun q7=>?_) (fun q7=>?_))<;>simp (disch:=omega) only[aR,seval,kC,q7,kC (n:=(i:Int)+1) (by omega) (by omega)]<;>(with_reducible first|(refine And.intro ?_ ?_;focus (first|omega|exact kE|kernel_rfl));(repeat (with_reducible refine And.intro ?_ ?_;focus (first|omega|exact kE|kernel_rfl)));(try simp (disch:=omega) only[aR,seval,kC,q7,kC (n:=(i:Int)+1) (by omega) (by omega)])|skip)<;>skip))))))))))))))
   all_goals first
    | (exfalso;omega)
    | (refine kP ⟨i+1,by omega,e2⟩ (by simp only;omega) ?_
       rw[hSt];refine kR [] [] ?_
       simp only[aR,seval]<;>((repeat' apply And.intro)<;>first|rfl|omega|trivial))
 ·rw[List.take_of_length_le (by omega)]at ha
  simp only[aR,seval,h,e0,ha]
abbrev NdsN:={ l:List Nd // l.length≤1000000∧∀ x∈l,x.text.length≤1099511627776 }
theorem totN_le:∀ (l:List Nd),(∀ x∈l,x.text.length≤1099511627776)→totN l≤l.length * 1099511627776
 | [],_=>by simp [totN]
 | x::l,h=>by
   have h1:=totN_le l fun b hb=>h b (List.mem_cons_of_mem _ hb)
   have h2:=h x (List.mem_cons_self ..)
   have h3:=kEY x.text
   rw[← kAb]at h3
   rw[totN,List.length_cons,Nat.add_mul];omega
abbrev totCon:Con where
 ι:=NdsN
 args:=fun p=>[.sl 0 5 (kW p.1)]
 post:=fun p r=>r = .v (.int .i64 (totN p.1))
 plain:=true
theorem tot_good:Rw.Good Tryz.prog 61 totCon:=by
 have hΓ:kL Tryz.prog [(56,kBA)]:=(kJ kCk kK)
 refine k7 (nn:=20) hΓ Tryz.func61 (by kernel_rfl) rfl (show Tryz.f61.results.toList=[.tmp 2] from rfl) (fun _=>rfl) (fun x=>by simp[AV.erL,AV.er]) ?_
 rintro ⟨l,hl,ht⟩
 have hb:=totN_le l ht
 simp only[aR,seval,kI]
 obtain ⟨St,hSt⟩:∃ St:{ p:Nat×Nat // p.2≤l.length∧p.1+totN (l.drop p.2)=totN l }→AS,∀ p,St p=AS.of 20 [(0,.sl 0 5 (kW l)),(3,.v (.int .i64 p.1.1)),(4,.v (.int .i64 p.1.2))] [] []:=⟨_,fun _=>rfl⟩
 refine qH hΓ St (fun p=>l.length - p.1.2) ⟨(0,0),by simp,by simp⟩ (by rw[hSt];refine kR [] [] ?_;simp only[aR,seval]<;>((repeat' apply And.intro)<;>first|rfl|omega|trivial)) ?_
 rintro ⟨⟨n,i⟩,hi,hn⟩
 simp only at hi hn
 rw[hSt]
 simp only
 simp only[aR,seval,kI]
 (with_reducible first|refine kG (fun h=>?_) (fun h=>?_)|refine kH (fun h=>?_) (fun h=>?_))
 ·have hlt:i < l.length:=by omega
  have e1:=kY l hlt
  have hx:=ht _ (List.getElem_mem hlt)
  rw[List.drop_eq_getElem_cons hlt,totN]at hn
  generalize l[i]=x at *
  simp only[aR,seval,h,e1,nA,kI]
  (repeat (with_reducible refine And.intro ?_ ?_;focus (first|omega|exact kE|kernel_rfl)))
  refine kBQ (by simp[kF]) hx ?_
  simp only[aR,seval,kC (n:=(n:Int)+cnt x.text) (by omega) (by omega),kC (n:=(i:Int)+1) (by omega) (by omega)]
  refine kP ⟨(n+cnt x.text,i+1),by simp only;omega,by simp only;omega⟩ (by simp only;omega) ?_
  rw[hSt];refine kR [] [] ?_
  simp only[aR,seval]<;>((repeat' apply And.intro)<;>first|rfl|omega|trivial)
 ·rw[List.drop_of_length_le (by omega),totN]at hn
  simp only[aR,seval,h]
  omega
theorem call_tot {Γ:Env} (hf:Γ.get 61=some totCon) {σ:AS} {dr:Bool} {l:List Nd} {ys:List AV} {d:Option Nat} {K:AS→Prop} (hy:ys=kW l) (hl:l.length≤1000000) (ht:∀ x∈l,x.text.length≤1099511627776)
    (hk:cont σ d (.v (.int .i64 (totN l))) K):kT Tryz.prog Γ dr σ 61 [.sl 0 5 ys] d K:=by
 subst hy
 exact kO (C:=totCon) (i:=⟨l,hl,ht⟩) hf rfl rfl rfl (by simp[AV.erL,AV.er]) (fun _ h=>h) rfl hk
abbrev withCon:Con where
 ι:={ p:List Nd×Nat×Nd // p.1.length≤1000000∧p.2.1 < p.1.length }
 args:=fun p=>[.sl 0 5 (kW p.1.1),.v (.int .i64 p.1.2.1),nA p.1.2.2]
 post:=fun p r=>r = .sl 0 5 (kW (p.1.1.set p.1.2.1 p.1.2.2))
theorem kEv (l:List Nd) (i:Nat) (x:Nd):(kW l).set i (nA x)=kW (l.set i x):=by simp[kW,List.map_set]
theorem with_good:Rw.Good Tryz.prog 59 withCon:=by
 have hΓ:kL Tryz.prog []:=kK
 refine k7 (nn:=16) hΓ Tryz.func59 (by kernel_rfl) rfl (show Tryz.f59.results.toList=[.tmp 6] from rfl) (fun _=>rfl) (fun x=>by simp[AV.erL,AV.er,nA_er]) ?_
 rintro ⟨⟨l,k,x⟩,hl,hk⟩
 simp only at hl hk
 simp only[aR,seval,kI,nA,List.map_nil]
 refine ⟨by omega,by omega,by omega,hk,?_⟩
 rw[kY l hk,← kEv]
 rfl
theorem call_with {Γ:Env} (hf:Γ.get 59=some withCon) {σ:AS} {dr:Bool} {l:List Nd} {k:Nat} {n:Int} {x:Nd} {ys:List AV} {y:AV} {d:Option Nat} {K:AS→Prop} (hy:ys=kW l) (hn:n=k) (hx:y=nA x) (hl:l.length≤1000000) (hk':k < l.length)
    (hk:cont σ d (.sl 0 5 (kW (l.set k x))) K):kT Tryz.prog Γ dr σ 59 [.sl 0 5 ys,.v (.int .i64 n),y] d K:=by
 subst hy hn hx
 exact kAC (C:=withCon) (i:=⟨(l,k,x),hl,hk'⟩) (r:=.sl 0 5 (kW (l.set k x))) hf rfl rfl (by simp[AV.erL,AV.er,nA_er]) rfl (fun _ h=>h) hk
abbrev zM:Con where
 ι:=NdsL×NdsL
 args:=fun p=>[.sl 0 5 (kW p.1.1),.sl 0 5 (kW p.2.1)]
 post:=fun p r=>r = .v (.bool (decide (p.1.1=p.2.1)))
 plain:=true
theorem kFZ:Rw.Good Tryz.prog 26 zM:=by
 have hΓ:kL Tryz.prog []:=kK
 refine k7 (nn:=26) hΓ Tryz.func26 (by kernel_rfl) rfl (show Tryz.f26.results.toList=[.tmp 4] from rfl) (fun _=>rfl) (fun x=>by simp[AV.erL,AV.er]) ?_
 rintro ⟨⟨a,ha⟩,⟨b,hb⟩⟩
 simp only[aR,seval,kI]
 by_cases hl:a.length=b.length
 case neg =>
  have hne:a≠b:=fun e=>hl (by rw[e])
  simp only[aR,seval,show ((a.length:Int)=b.length)=False from eq_false (by omega),hne]
 simp only[aR,seval,hl,kI]
 obtain ⟨St,hSt⟩:∃ St:{ i:Nat // i≤b.length∧a.take i=b.take i }→AS,∀ i,St i=AS.of 26 [(0,.sl 0 5 (kW a)),(1,.sl 0 5 (kW b)),(5,.v (.int .i64 i.1))] [] []:=⟨_,fun _=>rfl⟩
 refine qH hΓ St (fun i=>b.length - i.1) ⟨0,by omega,by simp⟩ (by rw[hSt];refine kR [] [] ?_;simp only[aR,seval]<;>((repeat' apply And.intro)<;>first|rfl|omega|trivial)) ?_
 rintro ⟨i,hi,hs⟩
 rw[hSt]
 simp only
 simp only[aR,seval,kI]
 (with_reducible first|refine kG (fun h=>?_) (fun h=>?_)|refine kH (fun h=>?_) (fun h=>?_))
 ·have hlt:i < a.length:=by omega
  have hlt2:i < b.length:=by omega
  have e1:=kY a hlt
  have e2:=kY b hlt2
  have ta:=List.take_succ_eq_append_getElem hlt
  have tb:=List.take_succ_eq_append_getElem hlt2
  have hab:a[i]=b[i]→a.take (i+1)=b.take (i+1):=fun he=>by rw[ta,tb,he,hs]
  have hne:¬ a[i]=b[i]→a≠b:=fun he hh=>he (by subst hh;rfl)
  generalize a[i]=x at *
  generalize b[i]=y at *
  have key:decide (¬ (x.id=y.id∧x.par=y.par∧x.nm=y.nm∧x.dir=y.dir∧x.text=y.text))=decide (¬ x=y):=by simp only[nd_eq]
  simp only[aR,seval,h,e1,e2,nA,kI,node_neq,key]
  (repeat (with_reducible refine And.intro ?_ ?_;focus (first|omega|exact kE|kernel_rfl)))
  by_cases hxy:x=y
  ·simp only[aR,seval,hxy,kC (n:=(i:Int)+1) (by omega) (by omega)]
   refine kP ⟨i+1,by omega,hab hxy⟩ (by simp only;omega) ?_
   rw[hSt];refine kR [] [] ?_
   simp only[aR,seval]<;>((repeat' apply And.intro)<;>first|rfl|omega|trivial)
  ·simp only[aR,seval,hxy,hne hxy]
 ·have e1:a.take i=a:=List.take_of_length_le (by omega)
  have e2:b.take i=b:=List.take_of_length_le (by omega)
  rw[e1,e2]at hs
  simp only[aR,seval,h,hs]
theorem kBS {Γ:Env} (hf:Γ.get 26=some zM) {σ:AS} {dr:Bool} {a b:List Nd} {t1 t2:Nat} {xs ys:List AV} {d:Option Nat} {K:AS→Prop} (hx:xs=kW a) (hy:ys=kW b) (ha:a.length≤1099511627776) (hb:b.length≤1099511627776)
    (hk:cont σ d (.v (.bool (decide (a=b)))) K):kT Tryz.prog Γ dr σ 26 [.sl t1 5 xs,.sl t2 5 ys] d K:=by
 subst hx hy
 exact kO (C:=zM) (i:=(⟨a,ha⟩,⟨b,hb⟩)) hf rfl rfl rfl (by simp[AV.erL,AV.er]) (fun _ h=>h) rfl hk
end Go.Proofs
end
-- EAp5
section
namespace Go.Proofs
open Go Go.Rw
set_option maxRecDepth 100000
abbrev RDo (cs:List Nat) (l:List Cp):={ p:List UInt8×Nat×Nat // p.2.2≤l.length∧fit (cs.drop p.2.1) (l.drop p.2.2)∧p.2.1≤cs.length∧p.1++encs (doL (cs.drop p.2.1) (l.drop p.2.2))=encs (doL cs l) }
theorem rdo_good:Rw.Good Tryz.prog 60 doCon:=by
 have hΓ:kL Tryz.prog [(86,kAa),(55,jP),(56,kBA),(97,kAt),(98,kDN)]:=(kJ rcheck_good (kJ kCf (kJ kCk (kJ kFz (kJ rslice_good kK)))))
 refine k7 (nn:=74) hΓ Tryz.func60 (by kernel_rfl) rfl (show Tryz.f60.results.toList=[.tmp 4,.tmp 5] from rfl) (fun _=>rfl) (fun _=>rfl) ?_
 rintro ⟨⟨s,hs⟩,⟨l,hl⟩⟩
 have e0:∀ e,errI s l=e→e≠0→doR s l=res2 (.v (sv [])) e:=fun e h h2=>by unfold doR zG;rw[h,if_neg h2]
 simp only[aR,seval]
 refine call_rcheck (by simp[kF]) rfl hl ?_
 by_cases hc:qS l=0
 ·simp only[aR,seval,hc]
  refine kA4 (by simp[kF]) hs ?_
  rcases kBh (pts s) with hp|⟨cs,hp⟩
  ·have he:errI s l=2:=by unfold errI;rw[if_pos hc,hp]
   simp only[aR,seval,hp,Option.isSome_none]
   rw[e0 2 he (by decide)];rfl
  ·simp only[aR,seval,hp,Option.isSome_some]
   refine kBQ (by simp[kF]) hs ?_
   simp only[aR,seval,cnt,hp]
   refine kGU (by simp[kF]) rfl hl ?_
   by_cases hb:(cs.length:Int)=kAN l
   ·have he:errI s l=0:=by unfold errI;rw[if_pos hc,hp];simp only;rw[if_pos hb]
    have hfit:=kFY hc hb
    obtain ⟨hok,hse⟩:=kAQ hp
    have hcl:=kBi hp
    have hcc:=zS hc
    have hen:=kBY (cs:=doL cs l)
    have hou:=kFP l cs 0 (by omega) hfit hcc.2.2.2.2.2
    have ho2:outL l=outF 0 l:=rfl
    simp only[aR,seval,hb,kN]
    obtain ⟨St,hSt⟩:∃ St:RDo cs l→AS,∀ p,St p=AS.of 74 [(0,.v (sv s)),(1,.sl 0 3 (qN l)),(7,.v (sv p.1.1)),(8,.v (.int .i64 p.1.2.1)),(9,.v (.int .i64 p.1.2.2))] [] []:=⟨_,fun _=>rfl⟩
    refine qH hΓ St (fun p=>l.length - p.1.2.2) ⟨([],0,0),by simp,by simpa using hfit,by simp,by simp⟩ (by rw[hSt];refine kR [] [] ?_;simp only[aR,seval]<;>((repeat' apply And.intro)<;>first|rfl|omega|trivial)) ?_
    rintro ⟨⟨out,a,i⟩,hi,hf,ha,ho⟩
    simp only at hi hf ha ho
    have hle:out.length≤8000:=by
     have:=congrArg List.length ho
     rw[List.length_append]at this
     omega
    rw[hSt]
    simp only
    simp only[aR,seval,kN]
    (with_reducible first|refine kG (fun h=>?_) (fun h=>?_)|refine kH (fun h=>?_) (fun h=>?_))
    ·have hlt:i < l.length:=by omega
     have e1:=zI l hlt
     have hct:=okL.text hl (List.getElem_mem hlt)
     rw[List.drop_eq_getElem_cons hlt]at hf ho
     obtain ⟨hso,hn0,hnl,hf2⟩:=kE2 hf
     have hso2:=kAV hso
     have hcs:=zF hso
     rw[List.drop_drop]at hf2
     rw[List.length_drop]at hnl
     have d1:=fun h=>do_ins (cs:=cs.drop a) (r:=l.drop (i+1)) hso2 h
     have d2:=fun h=>do_del (cs:=cs.drop a) (r:=l.drop (i+1)) hso2 h
     have d3:=fun h h'=>do_ret (cs:=cs.drop a) (r:=l.drop (i+1)) hso2 h h'
     generalize l[i]=c at *
     obtain ⟨k,n,t⟩:=c
     simp only at *
     have again:∀ (σ:AS) (out2:List UInt8) (a2:Nat),Weak σ (AS.of 74 [(0,.v (sv s)),(1,.sl 0 3 (qN l)),(7,.v (sv out2)),(8,.v (.int .i64 a2)),(9,.v (.int .i64 (i+1:Nat)))] [] [])→fit (cs.drop a2) (l.drop (i+1))→a2≤cs.length→out2++encs (doL (cs.drop a2) (l.drop (i+1)))=encs (doL cs l)→∃ y:RDo cs l,l.length - y.1.2.2 < l.length - i∧Weak σ (St y):=fun σ o2 a2 hw h1 h2 h3 =>
      ⟨⟨(o2,a2,i+1),by simp only;omega,h1,h2,h3⟩,by simp only;omega,by rw[hSt];exact hw⟩
     simp (disch:=omega) only[aR,seval,kC,h,e1,kN]
     (repeat (with_reducible refine And.intro ?_ ?_;focus (first|omega|exact kE|kernel_rfl)))
     (with_reducible first|refine kG (fun h1=>?_) (fun h1=>?_)|refine kH (fun h1=>?_) (fun h1=>?_))
     ·subst h1
      rw[d3 (by decide) (by decide),List.drop_drop]at ho
      have hab:0≤(a:Int)∧(a:Int)≤(a:Int)+n∧(a:Int)+n≤(cs.length:Int):=by omega
      have hsl:((a:Int)+n).toNat - a=n.toNat:=by omega
      have hlen4:=kBY (cs:=(cs.drop a).take n.toNat)
      rw[List.length_take]at hlen4
      simp (disch:=omega) only[aR,seval,kC,e1,kN]
      (repeat (with_reducible refine And.intro ?_ ?_;focus (first|omega|exact kE|kernel_rfl)))
      subst hse
      refine call_rslice (by simp[kF]) hok hs hab ?_
      simp (disch:=omega) only[aR,seval,kC,hsl,e1,kN]
      (repeat (with_reducible refine And.intro ?_ ?_;focus (first|omega|exact kE|kernel_rfl)))
      refine again _ (out++encs ((cs.drop a).take n.toNat)) (a+n.toNat) ?_ hf2 (by omega) (by rw[← ho,jE,List.append_assoc])
      refine kR [] [] ?_
      simp only[aR,seval]<;>((repeat' apply And.intro)<;>first|rfl|omega|trivial)
     ·simp (disch:=omega) only[aR,seval,kC,h1]
      (with_reducible first|refine kG (fun h2=>?_) (fun h2=>?_)|refine kH (fun h2=>?_) (fun h2=>?_))
      ·subst h2
       rw[d1 rfl]at ho
       rcases hcs with ⟨_,hz,_,hv⟩|⟨h13,_⟩
       ·subst hz
        simp (disch:=omega) only[aR,seval,kC,e1,kN]
        (repeat (with_reducible refine And.intro ?_ ?_;focus (first|omega|exact kE|kernel_rfl)))
        refine again _ (out++t) a ?_ (by simpa using hf2) ha (by rw[← ho,jE,List.append_assoc,(kBG hv).1])
        refine kR [] [] ?_
        simp only[aR,seval]<;>((repeat' apply And.intro)<;>first|rfl|omega|trivial)
       ·omega
      ·simp (disch:=omega) only[aR,seval,kC,h2]
       have h3:k=3:=by omega
       subst h3
       rw[d2 rfl,List.drop_drop]at ho
       simp (disch:=omega) only[aR,seval,kC,e1,kN]
       (repeat (with_reducible refine And.intro ?_ ?_;focus (first|omega|exact kE|kernel_rfl)))
       refine again _ out (a+n.toNat) ?_ hf2 (by omega) ho
       refine kR [] [] ?_
       simp only[aR,seval]<;>((repeat' apply And.intro)<;>first|rfl|omega|trivial)
    ·have hin:i=l.length:=by omega
     simp only[aR,seval,h]
     rw[hin,List.drop_length,doL,kBz,List.append_nil]at ho
     unfold doR zG
     rw[he,if_pos rfl,hcl,ho];rfl
   ·have he:errI s l=11:=by unfold errI;rw[if_pos hc,hp];simp only;rw[if_neg hb]
    simp only[aR,seval,hb]
    rw[e0 11 he (by decide)];rfl
 ·have he:errI s l=qS l:=by unfold errI;rw[if_neg hc]
  simp only[aR,seval,hc]
  rw[e0 _ he hc];rfl
end Go.Proofs
end
-- EAw0
section
namespace Go.Proofs
open Go Go.Rw
set_option maxRecDepth 100000
inductive Un where
 | r
 | d
 | i (c:Nat)
 deriving DecidableEq
def size (c:Cp):Nat:=if c.k=2 then (cpts c.t).length else c.n.toNat
def unP (c:Cp):List Un:=if c.k=2 then (cpts c.t).map .i else if c.k=1 then List.replicate c.n.toNat .r else if c.k=3 then List.replicate c.n.toNat .d else []
def unL:List Cp→List Un
 | []=>[]
 | c::r=>unP c++unL r
def doU:List Nat→List Un→List Nat
 | _,[]=>[]
 | cs,.i c::u=>c::doU cs u
 | cs,.d::u=>doU cs.tail u
 | [],.r::u=>doU [] u
 | c::cs,.r::u=>c::doU cs u
theorem doU_ins:∀ (xs cs:List Nat) (u:List Un),doU cs (xs.map .i++u)=xs++doU cs u
 | [],_,_=>rfl
 | x::xs,cs,u=>by simp only [List.map_cons,List.cons_append,doU];rw [doU_ins xs cs u]
theorem doU_del:∀ (n:Nat) (cs:List Nat) (u:List Un),doU cs (List.replicate n .d++u)=doU (cs.drop n) u
 | 0,_,_=>rfl
 | n+1,cs,u=>by
   simp only[List.replicate_succ,List.cons_append,doU]
   rw[doU_del n]
   cases cs<;>simp
theorem doU_ret:∀ (n:Nat) (cs:List Nat) (u:List Un),doU cs (List.replicate n .r++u)=cs.take n++doU (cs.drop n) u
 | 0,_,_=>rfl
 | n+1,[],u=>by
   simp only[List.replicate_succ,List.cons_append,doU]
   rw[doU_ret n];simp
 | n+1,c::cs,u=>by
   simp only[List.replicate_succ,List.cons_append,doU]
   rw[doU_ret n];simp
theorem kD0:∀ (l:List Cp) (cs:List Nat),(∀ c∈l,qR c=true)→doL cs l=doU cs (unL l)
 | [],_,_=>rfl
 | c::r,cs,h=>by
   have hs:=h c (by simp)
   have hr:=fun x hx=>h x (List.mem_cons_of_mem c hx)
   rcases zF hs with ⟨h2,_⟩|⟨h1|h3,_⟩
   ·rw[do_ins (kAV hs) h2,unL,unP,if_pos h2,doU_ins,kD0 r _ hr]
   ·rw[do_ret (kAV hs) (by omega) (by omega),unL,unP,if_neg (by omega),if_pos h1,doU_ret,kD0 r _ hr]
   ·rw[do_del (kAV hs) h3,unL,unP,if_neg (by omega),if_neg (by omega),if_pos h3,doU_del,kD0 r _ hr]
def bU:List Un→Nat
 | []=>0
 | .i _::u=>bU u
 | _::u=>bU u+1
def oU:List Un→Nat
 | []=>0
 | .d::u=>oU u
 | _::u=>oU u+1
theorem kG9:∀ a b:List Un,bU (a++b)=bU a+bU b
 | [],b=>by simp [bU]
 | .i _::a,b=>by simp [bU,kG9 a b]
 | .r::a,b=>by simp [bU,kG9 a b];omega
 | .d::a,b=>by simp [bU,kG9 a b];omega
theorem bU_i:∀ xs:List Nat,bU (xs.map .i)=0
 | []=>rfl
 | x::xs=>by simp [bU,bU_i xs]
theorem bU_r:∀ n,bU (List.replicate n .r)=n
 | 0=>rfl
 | n+1=>by simp [List.replicate_succ,bU,bU_r n]
theorem bU_d:∀ n,bU (List.replicate n .d)=n
 | 0=>rfl
 | n+1=>by simp [List.replicate_succ,bU,bU_d n]
theorem kG5:∀ (l:List Cp),(∀ c∈l,qR c=true)→(bU (unL l):Int)=tn l
 | [],_=>rfl
 | c::r,h=>by
   have hr:=kG5 r (fun x hx=>h x (List.mem_cons_of_mem c hx))
   rcases zF (h c (by simp)) with ⟨h2,h0,_⟩|⟨h1|h3,h0,_⟩
   ·simp only[unL,tn,kG9];rw[unP,if_pos h2,bU_i];omega
   ·simp only[unL,tn,kG9];rw[unP,if_neg (by omega),if_pos h1,bU_r];omega
   ·simp only[unL,tn,kG9];rw[unP,if_neg (by omega),if_neg (by omega),if_pos h3,bU_d];omega
theorem do_len:∀ (u:List Un) (cs:List Nat),cs.length=bU u→(doU cs u).length=oU u
 | [],_,_=>rfl
 | .i c::u,cs,h=>by simp only [doU,oU,List.length_cons];rw [do_len u cs h]
 | .d::u,cs,h=>by
   simp only[doU,oU]
   rw[do_len u cs.tail (by simp only[bU]at h;rw[List.length_tail];omega)]
 | .r::u,[],h=>by simp [bU] at h
 | .r::u,c::cs,h=>by
   simp only[doU,oU,List.length_cons]
   rw[do_len u cs (by simpa [bU] using h)]
end Go.Proofs
end
-- EAw1
section
namespace Go.Proofs
open Go Go.Rw
set_option maxRecDepth 100000
def part (c:Cp) (dn m:Nat):Cp:=if c.k=2 then ⟨c.k,c.n,encs (((cpts c.t).drop dn).take m)⟩ else ⟨c.k,m,c.t⟩
def advR (c:Cp) (r:List Cp) (dn m:Nat):List Cp:=if dn+m=size c then r else c::r
def advD (c:Cp) (dn m:Nat):Nat:=if dn+m=size c then 0 else dn+m
end Go.Proofs
end
-- EAw2
section
namespace Go.Proofs
open Go Go.Rw
set_option maxRecDepth 100000
def adv (w:List Cp×Nat) (n:Nat):List Cp×Nat:=match w with
 | ([],a)=>([],a)
 | (c::r,a)=>(advR c r a n,advD c a n)
def piece (w:List Cp×Nat) (n:Nat):Cp:=match w with
 | ([],_)=>⟨0,0,[]⟩
 | (c::_,a)=>part c a n
end Go.Proofs
end
-- EAw3
section
namespace Go.Proofs
open Go Go.Rw
set_option maxRecDepth 100000
theorem ulen_le:∀ u:List Un,u.length≤bU u+oU u
 | []=>by simp [bU,oU]
 | .r::u=>by have:=ulen_le u;simp only [List.length_cons,bU,oU];omega
 | .d::u=>by have:=ulen_le u;simp only [List.length_cons,bU,oU];omega
 | .i _::u=>by have:=ulen_le u;simp only [List.length_cons,bU,oU];omega
theorem out_units {l:List Cp} (h:qS l=0):outL l=oU (unL l)∧kAN l=bU (unL l)∧(unL l).length≤4000:=by
 obtain ⟨h1,h2,h3,h4,h5,h6⟩:=zS h
 have hb:=kG5 l h3
 have hf:fit (List.replicate (bU (unL l)) 1) l:=⟨h3,by rw[List.length_replicate];omega⟩
 have h7:=kFP l (List.replicate (bU (unL l)) 1) 0 (by omega) hf h6
 rw[kD0 l _ h3,do_len _ _ (by simp)]at h7
 have h8:=ulen_le (unL l)
 have h9:outL l=outF 0 l:=rfl
 omega
end Go.Proofs
end
-- EAw4
section
namespace Go.Proofs
open Go Go.Rw
set_option maxRecDepth 100000
end Go.Proofs
end
-- EAw5
section
namespace Go.Proofs
open Go Go.Rw
set_option maxRecDepth 100000
end Go.Proofs
end
-- EAw6
section
namespace Go.Proofs
open Go Go.Rw
set_option maxRecDepth 100000
end Go.Proofs
end
-- EAw7
section
namespace Go.Proofs
open Go Go.Rw
set_option maxRecDepth 100000
def edits (l:List (List Cp)):List AV:=l.map fun x=>.sl 0 3 (qN x)
end Go.Proofs
end
-- EAq1
section
namespace Go.Proofs
open Go Go.Rw
set_option maxRecDepth 100000
end Go.Proofs
end
-- EAw9
section
namespace Go.Proofs
open Go Go.Rw
set_option maxRecDepth 100000
theorem done_law {s:List UInt8} {l:List Cp} (he:errI s l=0):pts (zG s l)=some (doL (cpts s) l)∧((doL (cpts s) l).length:Int)=outL l∧(zG s l).length≤8000:=by
 obtain ⟨h1,h2,h3,h4⟩:=kE1 he
 obtain ⟨c1,c2,c3,c4,c5,c6⟩:=zS h1
 obtain ⟨o1,o2,o3⟩:=out_units h1
 have ho:=(kAQ h2).1
 have hd:=kGc l (cpts s) ho (kF9 c3)
 have hl:(doL (cpts s) l).length=oU (unL l):=by rw[kD0 l _ c3];exact do_len _ _ (by omega)
 have hx:zG s l=encs (doL (cpts s) l):=by unfold zG;rw[if_pos he]
 have hy:=encs_ge (doL (cpts s) l)
 rw[hx]
 exact ⟨kFM hd,by omega,by omega⟩
theorem done_small (s:List UInt8) (l:List Cp):(zG s l).length≤8000:=by
 by_cases he:errI s l=0
 ·exact (done_law he).2.2
 ·unfold zG;rw[if_neg he];simp
end Go.Proofs
end
