/-
 What the tree does is what the document says;a qM tree stays qM. Plain. A qM tree stays qM. Plain. A transaction,done on a copy of a tree. strings.Split,strings.Join,slices.Reverse at texts,of this program. The program's tree: paths,and what has a path. The program's tree: what has a path. The document's path of a node. Whose k6 a transaction touches. The document's children of a node: in the order of their names. Names that are taken: a map whose keys are k6. Plain. A node by itself;a tree of k6. The IDs of a transaction's acts,by a map. law14: what the document fixes.
-/
import Derived.Test.YtfhipjafkdembaaGreatDoorXETr4
import Derived.Test.YtfhipjafkdembaaGreatDoorXEUk1e
import Derived.Test.YtfhipjafkdembaaGreatDoorRwR
import Derived.Test.YtfhipjafkdembaaGreatDoorProg
import Derived.KernelRfl
import Derived.Test.YtfhipjafkdembaaGreatDoorRwO
set_option linter.unusedSimpArgs false
set_option linter.unusedVariables false
set_option linter.defProp false
set_option linter.unusedSectionVars false

-- ETr11
section
namespace Go.Proofs
open Go Go.Rw
set_option maxRecDepth 100000
theorem kCx (a b:List Nd):totN (a++b)=totN a+totN b:=by
 induction a with
 | nil=>simp [totN]
 | cons x a ih=>simp [totN,ih,Nat.add_assoc]
theorem tot_set:∀ (l:List Nd) (i:Nat) (h:i < l.length) (y:Nd),totN (l.set i y)+cnt l[i].text=totN l+cnt y.text
 | [],i,h,y=>by simp at h
 | x::l,0,h,y=>by simp [totN];omega
 | x::l,i+1,h,y=>by
   have:=tot_set l i (by simpa using h) y
   simp[totN];omega
theorem kCT {l:List Nd} {par id:Int} {nm:List UInt8} (h:dirI l par≠0):jG l par nm id=dirI l par:=by
 unfold dirI at h ⊢
 unfold jG
 split
 ·rename_i h0;rw[if_pos h0]at h;exact absurd rfl h
 ·rename_i h0
  rw[if_neg h0]at h
  by_cases h1:hasN l par=true
  ·rw[if_pos h1]at h ⊢
   rw[if_pos ((qH l par).1 h1)]
   split at h
   ·exact absurd rfl h
   ·rename_i h2
    rw[if_neg h2,if_pos (by simpa [gN] using h2)]
  ·rw[if_neg h1,if_neg (fun hc=>h1 ((qH l par).2 hc))]
theorem kBO {l:List Nd} {par id:Int} {nm:List UInt8} (h:dirI l par=0):jG l par nm id=if par≠0∧id > 0∧kAG l par id=true then 10 else kBe l par nm id:=by
 unfold dirI at h
 unfold jG
 split
 ·rename_i h0;rw[if_neg (fun hc=>hc.1 h0)]
 ·rename_i h0
  rw[if_neg h0]at h
  split at h
  ·rename_i h1
   rw[if_pos ((qH l par).1 h1)]
   split at h
   ·rename_i h2
    rw[if_neg (by rw[show l.getD (ndx par l) kAv=gN l par from rfl,h2];decide)]
    by_cases h3:id > 0∧kAG l par id=true
    ·rw[if_pos h3,if_pos ⟨h0,h3⟩]
    ·rw[if_neg h3,if_neg (fun hc=>h3 hc.2)]
   ·omega
  ·omega
theorem dir_in {l:List Nd} {par:Int} (h:dirI l par=0):inT l par∧(par=0∨(hasN l par=true∧(gN l par).dir=true)):=by
 unfold dirI at h
 split at h
 ·exact ⟨.inl ‹_›,.inl ‹_›⟩
 ·split at h
  ·split at h
   ·exact ⟨.inr ‹_›,.inr ⟨‹_›,‹_›⟩⟩
   ·omega
  ·omega
theorem doN_k1 {l:List Nd} {a:Ac} (hk:a.k=1):doN l a =
    if a.id < 1∨a.id > 1099511627776∨qA a.nm=false then (l,1)
    else if ndx a.id l < l.length then (l,6)
    else if jG l a.par a.nm 0≠0 then (l,jG l a.par a.nm 0)
    else if l.length ≥ 100 then (l,4)
    else (l.take (atN a.id l)++⟨a.id,a.par,a.nm,a.dir,[]⟩::l.drop (atN a.id l),0):=by
 show (if a.k=1 then _ else _)=_
 rw[if_pos hk]
theorem doN_k2 {l:List Nd} {a:Ac} (hk:a.k=2):doN l a =
    if ¬ ndx a.id l < l.length then (l,5)
    else if (l.any fun y=>decide (y.par=a.id))=true then (l,9)
    else (l.take (ndx a.id l)++l.drop (ndx a.id l+1),0):=by
 show (if a.k=1 then _ else _)=_
 rw[if_neg (by omega)]
 show (if a.k=2 then _ else _)=_
 rw[if_pos hk]
theorem doN_k3 {l:List Nd} {a:Ac} (hk:a.k=3):doN l a =
    if qA a.nm=false then (l,1)
    else if ¬ ndx a.id l < l.length then (l,5)
    else if jG l a.par a.nm a.id≠0 then (l,jG l a.par a.nm a.id)
    else (l.set (ndx a.id l) ⟨(gN l a.id).id,a.par,a.nm,(gN l a.id).dir,(gN l a.id).text⟩,0):=by
 show (if a.k=1 then _ else _)=_
 rw[if_neg (by omega)]
 show (if a.k=2 then _ else _)=_
 rw[if_neg (by omega)]
 show (if a.k=3 then _ else _)=_
 rw[if_pos hk]
 rfl
theorem doN_k4 {l:List Nd} {a:Ac} (hk:a.k=4):doN l a =
    if ¬ ndx a.id l < l.length then (l,5)
    else if (gN l a.id).dir=true then (l,8)
    else if errI (gN l a.id).text a.ops≠0 then (l,errI (gN l a.id).text a.ops)
    else if (totN (l.set (ndx a.id l) ⟨(gN l a.id).id,(gN l a.id).par,(gN l a.id).nm,(gN l a.id).dir,z8 (gN l a.id).text a.ops⟩):Int) > 10000 then (l,4)
    else (l.set (ndx a.id l) ⟨(gN l a.id).id,(gN l a.id).par,(gN l a.id).nm,(gN l a.id).dir,z8 (gN l a.id).text a.ops⟩,0):=by
 show (if a.k=1 then _ else _)=_
 rw[if_neg (by omega)]
 show (if a.k=2 then _ else _)=_
 rw[if_neg (by omega)]
 show (if a.k=3 then _ else _)=_
 rw[if_neg (by omega)]
 show (if a.k=4 then _ else _)=_
 rw[if_pos hk]
 rfl
theorem doN_k0 {l:List Nd} {a:Ac} (hk:a.k < 1∨a.k > 4):doN l a=(l,1):=by
 show (if a.k=1 then _ else _)=_
 rw[if_neg (by omega)]
 show (if a.k=2 then _ else _)=_
 rw[if_neg (by omega)]
 show (if a.k=3 then _ else _)=_
 rw[if_neg (by omega)]
 show (if a.k=4 then _ else _)=_
 rw[if_neg (by omega)]
section
variable {l:List Nd} (S:sndN l)
include S
theorem cre_eq {a:Ac} (hk:a.k=1):creN l a=doN l a:=by
 have hp:∀ x∈l,1≤x.id:=fun x hx=>(S.node x hx).id.1
 rw[doN_k1 hk]
 unfold creN
 by_cases h1:a.id < 1∨a.id > 1099511627776∨qA a.nm=false
 ·rw[if_pos h1,if_pos h1]
 rw[if_neg h1,if_neg h1]
 by_cases h2:hasN l a.id=true
 ·rw[if_pos h2,if_pos ((qH l a.id).1 h2)]
 rw[if_neg h2,if_neg (fun hc=>h2 ((qH l a.id).2 hc))]
 by_cases h3:dirI l a.par=0
 case neg=>rw[if_pos h3,kCT h3,if_pos h3]
 rw[if_neg (fun hc=>hc h3),kBO h3,if_neg (show ¬ (a.par≠0∧(0:Int) > 0∧kAG l a.par 0=true) by omega)]
 unfold kBe
 by_cases h4:0 < kid a.par a.nm l
 ·rw[if_pos h4,if_pos (show (0≤kid a.par a.nm l∧kid a.par a.nm l≠0) by omega)];rfl
 have h5:=kDm S (par:=a.par) (nm:=a.nm) hp
 rw[if_neg h4,if_neg (show ¬ (0≤kid a.par a.nm l∧kid a.par a.nm l≠0) by omega),if_neg (show ¬ ((0:Int)≠0) by decide)]
 split
 ·rfl
 ·unfold setT
  rw[if_neg h2]
theorem rem_eq {a:Ac} (hk:a.k=2):remN l a.id=doN l a:=by
 rw[doN_k2 hk]
 unfold remN
 by_cases h2:hasN l a.id=true
 case neg =>
  rw[if_pos (show hasN l a.id=false by simpa using h2),if_pos (show ¬ ndx a.id l < l.length from fun hc=>h2 ((qH l a.id).2 hc))]
 rw[if_neg (show ¬ (hasN l a.id=false) by rw[h2];decide),if_neg (show ¬ ¬ ndx a.id l < l.length from fun hc=>hc ((qH l a.id).1 h2))]
 have e:0 < (kept a.id l).length↔(l.any fun y=>decide (y.par=a.id))=true:=by
  unfold kept
  rw[List.length_pos_iff,ne_eq,List.filter_eq_nil_iff,List.any_eq_true]
  simp
 by_cases h3:0 < (kept a.id l).length
 ·rw[if_pos h3,if_pos (e.1 h3)]
 ·rw[if_neg h3,if_neg (fun hc=>h3 (e.2 hc))];rfl
theorem mov_eq {a:Ac} (hk:a.k=3):movN l a=doN l a:=by
 have hp:∀ x∈l,1≤x.id:=fun x hx=>(S.node x hx).id.1
 rw[doN_k3 hk]
 unfold movN
 by_cases h1:qA a.nm=false
 ·rw[if_pos h1,if_pos h1]
 rw[if_neg h1,if_neg h1]
 by_cases h2:hasN l a.id=true
 case neg =>
  rw[if_pos (show hasN l a.id=false by simpa using h2),if_pos (show ¬ ndx a.id l < l.length from fun hc=>h2 ((qH l a.id).2 hc))]
 obtain ⟨h6,h7⟩:=jA h2
 have h8:=hp _ h6
 rw[h7]at h8
 rw[if_neg (show ¬ (hasN l a.id=false) by rw[h2];decide),if_neg (show ¬ ¬ ndx a.id l < l.length from fun hc=>hc ((qH l a.id).1 h2))]
 by_cases h3:dirI l a.par=0
 case neg=>rw[if_pos h3,kCT h3,if_pos h3]
 rw[if_neg (fun hc=>hc h3),kBO h3]
 obtain ⟨h9,_⟩:=dir_in h3
 by_cases h4:upB l a.id l.length a.par=true
 ·have h10:=(up_meets S h9 (show a.id≠0 by omega)).1 h4
  have h11:a.par≠0:=by
   rintro h0
   rw[h0]at h10
   obtain ⟨k,hk2⟩:=h10
   rw[kBE S]at hk2;omega
  rw[if_pos h4,if_pos (show a.par≠0∧a.id > 0∧kAG l a.par a.id=true from ⟨h11,by omega,(kAT S h9 (by omega)).2 h10⟩)];rfl
 ·rw[if_neg h4,if_neg (show ¬ (a.par≠0∧a.id > 0∧kAG l a.par a.id=true) from fun hc=>h4 ((up_meets S h9 (show a.id≠0 by omega)).2 ((kAT S h9 (by omega)).1 hc.2.2)))]
  have h5:=kDm S (par:=a.par) (nm:=a.nm) hp
  unfold kBe
  by_cases h12:0 < kid a.par a.nm l∧kid a.par a.nm l≠a.id
  ·rw[if_pos h12,if_pos (show 0≤kid a.par a.nm l∧kid a.par a.nm l≠a.id from ⟨by omega,h12.2⟩)];rfl
  ·rw[if_neg h12,if_neg (show ¬ (0≤kid a.par a.nm l∧kid a.par a.nm l≠a.id) from fun hc=>h12 ⟨by omega,hc.2⟩),if_neg (show ¬ ((0:Int)≠0) by decide)]
   unfold setT
   rw[if_pos h2]
   show (l.set (ndx a.id l) ⟨a.id,a.par,a.nm,(gN l a.id).dir,(gN l a.id).text⟩,(0:Int))=(l.set (ndx a.id l) ⟨(gN l a.id).id,a.par,a.nm,(gN l a.id).dir,(gN l a.id).text⟩,0)
   rw[h7]
theorem edi_eq {a:Ac} (hk:a.k=4):ediN l a=doN l a:=by
 rw[doN_k4 hk]
 unfold ediN
 by_cases h2:hasN l a.id=true
 case neg =>
  rw[if_pos (show hasN l a.id=false by simpa using h2),if_pos (show ¬ ndx a.id l < l.length from fun hc=>h2 ((qH l a.id).2 hc))]
 have h6:=jA h2
 rw[if_neg (show ¬ (hasN l a.id=false) by rw[h2];decide),if_neg (show ¬ ¬ ndx a.id l < l.length from fun hc=>hc ((qH l a.id).1 h2))]
 split
 ·rfl
 split
 ·rfl
 obtain ⟨h7,h8,h9⟩:=kAy h2
 have h10:=tot_set l (ndx a.id l) h7 ⟨(gN l a.id).id,(gN l a.id).par,(gN l a.id).nm,(gN l a.id).dir,z8 (gN l a.id).text a.ops⟩
 rw[← h8]at h10
 simp only at h10
 have e:(totN l:Int) - cnt (gN l a.id).text+cnt (z8 (gN l a.id).text a.ops)=(totN (l.set (ndx a.id l) ⟨(gN l a.id).id,(gN l a.id).par,(gN l a.id).nm,(gN l a.id).dir,z8 (gN l a.id).text a.ops⟩):Int):=by omega
 rw[e]
 split
 ·rfl
 ·unfold setT
  rw[if_pos h2]
  show (l.set (ndx a.id l) ⟨a.id,(gN l a.id).par,(gN l a.id).nm,(gN l a.id).dir,z8 (gN l a.id).text a.ops⟩,(0:Int))=(l.set (ndx a.id l) ⟨(gN l a.id).id,(gN l a.id).par,(gN l a.id).nm,(gN l a.id).dir,z8 (gN l a.id).text a.ops⟩,0)
  rw[h6.2]
theorem dot_eq (a:Ac):dotN l a=doN l a:=by
 unfold dotN
 by_cases h:a.k < 1∨a.k > 4
 ·rw[if_pos h,doN_k0 h]
 rw[if_neg h]
 by_cases h1:a.k=1
 ·rw[if_pos h1];exact cre_eq S h1
 rw[if_neg h1]
 by_cases h2:a.k=2
 ·rw[if_pos h2];exact rem_eq S h2
 rw[if_neg h2]
 by_cases h3:a.k=3
 ·rw[if_pos h3];exact mov_eq S h3
 rw[if_neg h3]
 exact edi_eq S (by omega)
end
end Go.Proofs
end
-- ETr12
section
namespace Go.Proofs
open Go Go.Rw
set_option maxRecDepth 100000
theorem done_ok {s:List UInt8} {l:List Cp} (h:errI s l=0):(pts (z8 s l)).isSome=true∧cnt (z8 s l)≤2000:=by
 obtain ⟨h1,h2,h3,h4⟩:=err_zero h
 obtain ⟨c1,c2,c3,c4,c5,c6⟩:=kAI h1
 have hs:(pts s).isSome=true:=by rw[h2];rfl
 have hok:=do_okc l (cpts s) (kBI hs).2 (sound_texts c3)
 have e:z8 s l=encs (doL (cpts s) l):=by unfold z8;rw[if_pos h]
 have ho:=out_do l (cpts s) 0 (by omega) h4 c6
 rw[e]
 refine ⟨by rw[pts_enc hok];rfl,?_⟩
 rw[kCC,cpts_enc hok]
 have c6':outF 0 l≤2000:=c6
 omega
theorem doN_err {l:List Nd} {a:Ac} (h:(doN l a).2≠0):(doN l a).1=l:=by
 by_cases h0:a.k < 1∨a.k > 4
 ·rw[doN_k0 h0]
 rcases (show a.k=1∨a.k=2∨a.k=3∨a.k=4 by omega) with hk|hk|hk|hk
 ·rw[doN_k1 hk]at h ⊢
  repeat' split
  all_goals first|rfl|simp_all
 ·rw[doN_k2 hk]at h ⊢
  repeat' split
  all_goals first|rfl|simp_all
 ·rw[doN_k3 hk]at h ⊢
  repeat' split
  all_goals first|rfl|simp_all
 ·rw[doN_k4 hk]at h ⊢
  repeat' split
  all_goals first|rfl|(exfalso;rename_i q1 q2 q3 q4;rw[if_neg q1,if_neg q2,if_neg q3,if_neg q4]at h;exact h rfl)
theorem kDr {l l':List Nd} (A:Int→Prop) (h1:∀ i,A i→pf l' i=pf l i) (h2:∀ i,A i→A (pf l i)):∀ (k:Nat) (i:Int),A i→upN l' k i=upN l k i
 | 0,i,_=>rfl
 | k+1,i,h=>by rw [upN,upN,h1 i h];exact kDr A h1 h2 k _ (h2 i h)
section
variable {l:List Nd} (S:sndN l) {a:Ac} (h0:(doN l a).2=0)
include S h0
theorem do_mem {x:Nd} (hx:x∈(doN l a).1):(x.id=a.id∧kCJ a (atI a.id l)=some x)∨(x∈l∧x.id≠a.id):=by
 obtain ⟨d1,d2⟩:=kFM h0 S.srt
 have:=at_mem d1 hx
 rw[d2]at this
 split at this
 ·rename_i he
  rw[he]at this
  exact .inl ⟨he,this⟩
 ·exact .inr ⟨(at_some this).1,by assumption⟩
theorem do_pf {i:Int} (hi:i≠a.id):gN (doN l a).1 i=gN l i∧hasN (doN l a).1 i=hasN l i:=by
 obtain ⟨d1,d2⟩:=kFM h0 S.srt
 rw[gN_at,gN_at,kBH,kBH,d2,if_neg hi]
 exact ⟨rfl,rfl⟩
theorem snd_cre (hk:a.k=1):sndN (doN l a).1:=by
 obtain ⟨d1,d2⟩:=kFM h0 S.srt
 have dm:=fun x hx=>do_mem S h0 (x:=x) hx
 have dp:=fun i hi=>do_pf S h0 (i:=i) hi
 have hpos:∀ x∈l,1≤x.id:=fun x hx=>(S.node x hx).id.1
 have hst:kCJ a (atI a.id l)=some ⟨a.id,a.par,a.nm,a.dir,[]⟩:=by unfold kCJ;rw[if_pos hk]
 have hat:atI a.id (doN l a).1=some ⟨a.id,a.par,a.nm,a.dir,[]⟩:=by rw[d2,if_pos rfl,hst]
 have hdo:=doN_k1 (l:=l) hk
 rw[hdo]at h0
 split at h0
 ·simp at h0
 rename_i c1
 split at h0
 ·simp at h0
 rename_i c2
 split at h0
 ·rename_i c3;exact absurd h0 c3
 rename_i c3
 split at h0
 ·simp at h0
 rename_i c4
 rw[if_neg c1,if_neg c2,if_neg c3,if_neg c4]at hdo
 have c3:jG l a.par a.nm 0=0:=Decidable.not_not.1 c3
 have hno:hasN l a.id=false:=by
  rcases Bool.eq_false_or_eq_true (hasN l a.id) with hh|hh
  ·exact absurd ((qH l a.id).1 hh) c2
  ·exact hh
 have c1a:1≤a.id∧a.id≤1099511627776:=by omega
 have c1b:qA a.nm=true:=by
  rcases Bool.eq_false_or_eq_true (qA a.nm) with hh|hh
  ·exact hh
  ·exact absurd (.inr (.inr hh)) c1
 have hd:dirI l a.par=0:=by
  refine Decidable.not_not.1 fun hc=>?_
  rw[kCT hc]at c3;exact hc c3
 rw[kBO hd,if_neg (show ¬ (a.par≠0∧(0:Int) > 0∧kAG l a.par 0=true) by omega)]at c3
 have hkid:¬ 1≤kid a.par a.nm l:=fun hc=>by
  unfold kBe at c3
  rw[if_pos (by omega)]at c3;omega
 obtain ⟨hin,hpd⟩:=dir_in hd
 have hinA:∀ i,inT l i→i≠a.id:=fun i hi=>by
  rcases hi with rfl|hi
  ·omega
  ·rintro rfl;rw[hno]at hi;cases hi
 have hup:∀ k i,inT l i→upN (doN l a).1 k i=upN l k i:=fun k i hi=>kDr (inT l) (fun i hi=>by unfold pf;rw[(dp i (hinA i hi)).1]) (fun i _=>pf_in S) k i hi
 refine ⟨d1,?_,?_,?_,?_,?_,?_⟩
 ·rw[hdo]
  have:=atN_le a.id l
  simp only[List.length_append,List.length_take,List.length_cons,List.length_drop]
  omega
 ·intro x hx
  rcases dm x hx with ⟨_,h⟩|⟨h,_⟩
  ·rw[hst]at h
   cases h
   exact ⟨c1a,c1b,fun _=>rfl,rfl,by simp[kCC,cpts_nil]⟩
  ·exact S.node x h
 ·rw[hdo]
  have e1:=kCx (l.take (atN a.id l)) (l.drop (atN a.id l))
  rw[List.take_append_drop]at e1
  have:=S.tot
  simp only[kCx,totN]
  have e2:cnt ([]:List UInt8)=0:=by simp[kCC,cpts_nil]
  omega
 ·intro x hx y hy hp hn
  rcases dm x hx with ⟨e1,h1⟩|⟨h1,_⟩<;>rcases dm y hy with ⟨e2,h2⟩|⟨h2,_⟩
  ·rw[e1,e2]
  ·rw[hst]at h1;cases h1
   exact absurd ⟨hp.symm,hn.symm⟩ (kCR hpos hkid y h2)
  ·rw[hst]at h2;cases h2
   exact absurd ⟨hp,hn⟩ (kCR hpos hkid x h1)
  ·exact S.sib x h1 y h2 hp hn
 ·intro x hx
  have key:∀ p,(p=0∨(hasN l p=true∧(gN l p).dir=true))→(p=0∨(hasN (doN l a).1 p=true∧(gN (doN l a).1 p).dir=true)):=fun p hp=>by
   rcases hp with hp|⟨h1,h2⟩
   ·exact .inl hp
   ·obtain ⟨q1,q2⟩:=dp p (hinA p (.inr h1))
    rw[q1,q2];exact .inr ⟨h1,h2⟩
  rcases dm x hx with ⟨_,h⟩|⟨h,_⟩
  ·rw[hst]at h;cases h
   exact key _ hpd
  ·exact key _ (S.par x h)
 ·intro x hx
  rcases dm x hx with ⟨e,h⟩|⟨h,_⟩
  ·obtain ⟨k,hk⟩:=rt_in S hin
   refine ⟨k+1,?_⟩
   rw[e,upN]
   have:pf (doN l a).1 a.id=a.par:=by unfold pf;rw[gN_at,hat];rfl
   rw[this,hup k _ hin,hk]
  ·obtain ⟨k,hk⟩:=S.rt x h
   exact ⟨k,by rw[hup k _ (.inr (kCg h)),hk]⟩
theorem snd_rem (hk:a.k=2):sndN (doN l a).1:=by
 obtain ⟨d1,d2⟩:=kFM h0 S.srt
 have dm:=fun x hx=>do_mem S h0 (x:=x) hx
 have dp:=fun i hi=>do_pf S h0 (i:=i) hi
 have hpos:∀ x∈l,1≤x.id:=fun x hx=>(S.node x hx).id.1
 have hst:kCJ a (atI a.id l)=none:=by unfold kCJ;rw[if_neg (by omega),if_pos hk]
 have hdo:=doN_k2 (l:=l) hk
 rw[hdo]at h0
 split at h0
 ·simp at h0
 rename_i c1
 split at h0
 ·simp at h0
 rename_i c2
 rw[if_neg c1,if_neg c2]at hdo
 have c1:=Decidable.not_not.1 c1
 obtain ⟨g1,g2⟩:=jA ((qH l a.id).2 c1)
 have hid:=hpos _ g1
 rw[g2]at hid
 have hnp:∀ x∈l,x.par≠a.id:=fun x hx he=>c2 (List.any_eq_true.2 ⟨x,hx,by simpa using he⟩)
 have dm2:∀ x∈(doN l a).1,x∈l∧x.id≠a.id:=fun x hx=>by
  rcases dm x hx with ⟨_,h⟩|h
  ·rw[hst]at h;cases h
  ·exact h
 have hup:∀ k i,i≠a.id→upN (doN l a).1 k i=upN l k i:=fun k i hi=>kDr (fun i=>i≠a.id) (fun i hi=>by unfold pf;rw[(dp i hi).1]) (fun i _=>by
  rcases Bool.eq_false_or_eq_true (hasN l i) with hh|hh
  ·exact hnp _ (jA hh).1
  ·rw[pf_no hh];omega) k i hi
 refine ⟨d1,?_,fun x hx=>S.node x (dm2 x hx).1,?_,fun x hx y hy=>S.sib x (dm2 x hx).1 y (dm2 y hy).1,?_,?_⟩
 ·rw[hdo]
  have:=S.len
  simp only[List.length_append,List.length_take,List.length_drop]
  omega
 ·rw[hdo]
  have e1:=kCx (l.take (ndx a.id l)) (l.drop (ndx a.id l))
  rw[List.take_append_drop,List.drop_eq_getElem_cons c1,totN]at e1
  have:=S.tot
  simp only[kCx]
  omega
 ·intro x hx
  have hx2:=(dm2 x hx).1
  rcases S.par x hx2 with hp|⟨h1,h2⟩
  ·exact .inl hp
  ·obtain ⟨q1,q2⟩:=dp _ (hnp x hx2)
   rw[q1,q2];exact .inr ⟨h1,h2⟩
 ·intro x hx
  obtain ⟨h1,h2⟩:=dm2 x hx
  obtain ⟨k,hk⟩:=S.rt x h1
  exact ⟨k,by rw[hup k _ h2,hk]⟩
theorem snd_mov (hk:a.k=3):sndN (doN l a).1:=by
 obtain ⟨d1,d2⟩:=kFM h0 S.srt
 have dm:=fun x hx=>do_mem S h0 (x:=x) hx
 have dp:=fun i hi=>do_pf S h0 (i:=i) hi
 have hpos:∀ x∈l,1≤x.id:=fun x hx=>(S.node x hx).id.1
 have hdo:=doN_k3 (l:=l) hk
 rw[hdo]at h0
 split at h0
 ·simp at h0
 rename_i c1
 split at h0
 ·simp at h0
 rename_i c2
 split at h0
 ·rename_i c3;exact absurd h0 c3
 rename_i c3
 rw[if_neg c1,if_neg c2,if_neg c3]at hdo
 have c3:jG l a.par a.nm a.id=0:=Decidable.not_not.1 c3
 have c2:=Decidable.not_not.1 c2
 have c2h:=(qH l a.id).2 c2
 have c1b:qA a.nm=true:=by
  rcases Bool.eq_false_or_eq_true (qA a.nm) with hh|hh
  ·exact hh
  ·exact absurd hh c1
 obtain ⟨g1,g2⟩:=jA c2h
 have hid:=hpos _ g1
 rw[g2]at hid
 have hat0:atI a.id l=some (gN l a.id):=by have:=at_mem S.srt g1;rwa [g2]at this
 have hst:kCJ a (atI a.id l)=some ⟨(gN l a.id).id,a.par,a.nm,(gN l a.id).dir,(gN l a.id).text⟩:=by
  unfold kCJ;rw[if_neg (by omega),if_neg (by omega),if_pos hk,hat0];rfl
 have hat:atI a.id (doN l a).1=some ⟨(gN l a.id).id,a.par,a.nm,(gN l a.id).dir,(gN l a.id).text⟩:=by rw[d2,if_pos rfl,hst]
 have hd:dirI l a.par=0:=by
  refine Decidable.not_not.1 fun hc=>?_
  rw[kCT hc]at c3;exact hc c3
 obtain ⟨hin,hpd⟩:=dir_in hd
 rw[kBO hd]at c3
 have hcy:¬ (a.par≠0∧a.id > 0∧kAG l a.par a.id=true):=fun hc=>by rw[if_pos hc]at c3;omega
 rw[if_neg hcy]at c3
 have hkid:1≤kid a.par a.nm l→kid a.par a.nm l=a.id:=fun hc=>by
  unfold kBe at c3
  refine Decidable.not_not.1 fun hne=>?_
  rw[if_pos ⟨by omega,hne⟩]at c3;omega
 have hnm:∀ k,upN l k a.par≠a.id:=fun k hc=>by
  by_cases hp0:a.par=0
  ·rw[hp0,kBE S]at hc;omega
  ·exact hcy ⟨hp0,by omega,(kAT S hin (by omega)).2 ⟨k,hc⟩⟩
 have dh:∀ i,hasN (doN l a).1 i=hasN l i∧(gN (doN l a).1 i).dir=(gN l i).dir:=fun i=>by
  by_cases hi:i=a.id
  ·rw[hi,kBH,kBH,gN_at,hat,hat0]
   exact ⟨rfl,rfl⟩
  ·obtain ⟨q1,q2⟩:=dp i hi
   rw[q1,q2];exact ⟨rfl,rfl⟩
 have hpf:pf (doN l a).1 a.id=a.par:=by unfold pf;rw[gN_at,hat];rfl
 -- from the new parent on the way is as it was
 have hup:∀ k,upN (doN l a).1 k a.par=upN l k a.par:=fun k =>
  kDr (fun i=>∃ j,i=upN l j a.par) (fun i hi=>by
   obtain ⟨j,rfl⟩:=hi
   unfold pf;rw[(dp _ (hnm j)).1]) (fun i hi=>by
   obtain ⟨j,rfl⟩:=hi
   exact ⟨j+1,(up_succ l j a.par).symm⟩) k a.par ⟨0,rfl⟩
 have hrt:∀ k i,upN l k i=0→∃ k',upN (doN l a).1 k' i=0:=fun k=>by
  induction k with
  | zero=>intro i hi;exact ⟨0,hi⟩
  | succ k ih =>
    intro i hi
    by_cases he:i=a.id
    ·obtain ⟨m,hm⟩:=rt_in S hin
     exact ⟨m+1,by rw[he,upN,hpf,hup,hm]⟩
    ·obtain ⟨m,hm⟩:=ih (pf l i) hi
     exact ⟨m+1,by rw[upN];unfold pf at hm ⊢;rw[(dp i he).1];exact hm⟩
 refine ⟨d1,?_,?_,?_,?_,?_,?_⟩
 ·rw[hdo]
  have:=S.len
  simpa using this
 ·intro x hx
  rcases dm x hx with ⟨_,h⟩|⟨h,_⟩
  ·rw[hst]at h;cases h
   have:=S.node _ g1
   exact ⟨this.id,c1b,this.dir,this.valid,this.cnt⟩
  ·exact S.node x h
 ·rw[hdo]
  have:=tot_set l (ndx a.id l) c2 ⟨(gN l a.id).id,a.par,a.nm,(gN l a.id).dir,(gN l a.id).text⟩
  obtain ⟨_,g4,_⟩:=kAy c2h
  rw[← g4]at this
  have:=S.tot
  simp only at *
  omega
 ·have key:∀ y∈l,y.id≠a.id→¬ (y.par=a.par∧y.nm=a.nm):=fun y hy hne hc=>by
    by_cases hk1:1≤kid a.par a.nm l
    ·obtain ⟨x,hx,h1,h2,h3⟩:=kid_iff hpos hid (hkid hk1)
     have:=S.sib x hx y hy (h1.trans hc.1.symm) (h2.trans hc.2.symm)
     omega
    ·exact kCR hpos hk1 y hy hc
  intro x hx y hy hp hn
  rcases dm x hx with ⟨e1,h1⟩|⟨h1,n1⟩<;>rcases dm y hy with ⟨e2,h2⟩|⟨h2,n2⟩
  ·rw[e1,e2]
  ·rw[hst]at h1;cases h1
   exact absurd ⟨hp.symm,hn.symm⟩ (key y h2 n2)
  ·rw[hst]at h2;cases h2
   exact absurd ⟨hp,hn⟩ (key x h1 n1)
  ·exact S.sib x h1 y h2 hp hn
 ·intro x hx
  have k2:∀ p,(p=0∨(hasN l p=true∧(gN l p).dir=true))→(p=0∨(hasN (doN l a).1 p=true∧(gN (doN l a).1 p).dir=true)):=fun p hp=>by
   rw[(dh p).1,(dh p).2];exact hp
  rcases dm x hx with ⟨_,h⟩|⟨h,_⟩
  ·rw[hst]at h;cases h
   exact k2 _ hpd
  ·exact k2 _ (S.par x h)
 ·intro x hx
  rcases dm x hx with ⟨e,_⟩|⟨h,_⟩
  ·obtain ⟨m,hm⟩:=rt_in S hin
   exact ⟨m+1,by rw[e,upN,hpf,hup,hm]⟩
  ·obtain ⟨k,hk⟩:=S.rt x h
   exact hrt k _ hk
theorem snd_edi (hk:a.k=4):sndN (doN l a).1:=by
 obtain ⟨d1,d2⟩:=kFM h0 S.srt
 have dm:=fun x hx=>do_mem S h0 (x:=x) hx
 have dp:=fun i hi=>do_pf S h0 (i:=i) hi
 have hdo:=doN_k4 (l:=l) hk
 rw[hdo]at h0
 split at h0
 ·simp at h0
 rename_i c1
 split at h0
 ·simp at h0
 rename_i c2
 split at h0
 ·rename_i c3;exact absurd h0 c3
 rename_i c3
 split at h0
 ·simp at h0
 rename_i c4
 rw[if_neg c1,if_neg c2,if_neg c3,if_neg c4]at hdo
 have c1:=Decidable.not_not.1 c1
 have c1h:=(qH l a.id).2 c1
 obtain ⟨v1,v2⟩:=done_ok (Decidable.not_not.1 c3)
 obtain ⟨g1,g2⟩:=jA c1h
 have hat0:atI a.id l=some (gN l a.id):=by have:=at_mem S.srt g1;rwa [g2]at this
 have hst:kCJ a (atI a.id l)=some ⟨(gN l a.id).id,(gN l a.id).par,(gN l a.id).nm,(gN l a.id).dir,z8 (gN l a.id).text a.ops⟩:=by
  unfold kCJ;rw[if_neg (by omega),if_neg (by omega),if_neg (by omega),hat0];rfl
 have hat:atI a.id (doN l a).1=some ⟨(gN l a.id).id,(gN l a.id).par,(gN l a.id).nm,(gN l a.id).dir,z8 (gN l a.id).text a.ops⟩:=by rw[d2,if_pos rfl,hst]
 have dh:∀ i,hasN (doN l a).1 i=hasN l i∧(gN (doN l a).1 i).dir=(gN l i).dir∧(gN (doN l a).1 i).par=(gN l i).par:=fun i=>by
  by_cases hi:i=a.id
  ·rw[hi,kBH,kBH,gN_at,hat,hat0]
   exact ⟨rfl,rfl,rfl⟩
  ·obtain ⟨q1,q2⟩:=dp i hi
   rw[q1,q2];exact ⟨rfl,rfl,rfl⟩
 have hup:∀ k i,upN (doN l a).1 k i=upN l k i:=fun k i=>kDr (fun _=>True) (fun i _=>(dh i).2.2) (fun _ _=>trivial) k i trivial
 -- each node's like in the tree as it was
 have like:∀ x∈(doN l a).1,∃ y∈l,y.id=x.id∧y.par=x.par∧y.nm=x.nm∧y.dir=x.dir:=fun x hx=>by
  rcases dm x hx with ⟨_,h⟩|⟨h,_⟩
  ·rw[hst]at h;cases h
   exact ⟨_,g1,rfl,rfl,rfl,rfl⟩
  ·exact ⟨x,h,rfl,rfl,rfl,rfl⟩
 refine ⟨d1,?_,?_,?_,?_,?_,?_⟩
 ·rw[hdo]
  have:=S.len
  simpa using this
 ·intro x hx
  rcases dm x hx with ⟨_,h⟩|⟨h,_⟩
  ·rw[hst]at h;cases h
   have:=S.node _ g1
   exact ⟨this.id,this.nm,fun hd=>absurd hd c2,v1,v2⟩
  ·exact S.node x h
 ·rw[hdo];simp only;omega
 ·intro x hx y hy hp hn
  obtain ⟨x',hx',e1,e2,e3,_⟩:=like x hx
  obtain ⟨y',hy',e5,e6,e7,_⟩:=like y hy
  rw[← e1,← e5]
  exact S.sib x' hx' y' hy' (by rw[e2,e6,hp]) (by rw[e3,e7,hn])
 ·intro x hx
  obtain ⟨x',hx',e1,e2,e3,_⟩:=like x hx
  rw[← e2,(dh _).1,(dh _).2.1]
  exact S.par x' hx'
 ·intro x hx
  obtain ⟨x',hx',e1,_⟩:=like x hx
  obtain ⟨k,hk⟩:=S.rt x' hx'
  exact ⟨k,by rw[hup,← e1,hk]⟩
omit h0 in
theorem snd_do (a:Ac):sndN (doN l a).1:=by
 by_cases h0:(doN l a).2=0
 ·by_cases hk:a.k < 1∨a.k > 4
  ·rw[doN_k0 hk];exact S
  rcases (show a.k=1∨a.k=2∨a.k=3∨a.k=4 by omega) with hk|hk|hk|hk
  ·exact snd_cre S h0 hk
  ·exact snd_rem S h0 hk
  ·exact snd_mov S h0 hk
  ·exact snd_edi S h0 hk
 ·rw[doN_err h0];exact S
end
end Go.Proofs
end
-- ETr13
section
namespace Go.Proofs
open Go Go.Rw
set_option maxRecDepth 100000
theorem valid_len {t:List UInt8} (h:(pts t).isSome=true):t.length≤4 * cnt t:=by
 rw[kCC]
 have:=kEI (cs:=cpts t)
 rwa [(kBI h).1]at this
theorem snd_ok {l:List Nd} (S:sndN l):trOk l:=by
 have hl:=S.len
 refine ⟨⟨by omega,fun x hx=>?_⟩,fun x hx=>(S.node x hx).id.1,?_,fun x hx=>?_⟩
 ·have:=(S.node x hx).id;omega
 ·have:=S.tot;omega
 ·have:=valid_len (S.node x hx).valid
  have:=(S.node x hx).cnt;omega
theorem snd_doOk {l:List Nd} (S:sndN l) {a:Ac} (ho:okA a):doOk l a:=⟨snd_ok S,snd_rt S,ho.2,ho.1⟩
end Go.Proofs
end
-- ETrS
section
namespace Go.Proofs
open Go.Shelf
def Tryz.lays146_ren:Go.Shelf.Ren:=⟨fun|138=>131|143=>132|146=>75|195=>115|197=>160|217=>176|218=>161|219=>162|221=>108|224=>178|225=>177|260=>175|266=>182|267=>179|268=>130|314=>183|n=>n,fun|0=>0|3=>3|4=>4|5=>5|9=>9|21=>21|31=>53|46=>143|51=>167|105=>181|119=>192|138=>194|139=>195|146=>202|n=>n,fun|1=>2|3=>0|4=>1|n=>n⟩
theorem Tryz.lays146:Go.Proofs.Lays.n146 Tryz.prog Tryz.lays146_ren:={
 mixed:=by kernel_rfl
 f138:=Tryz.func131.trans (congrArg some (by kernel_rfl))
 f143:=Tryz.func132.trans (congrArg some (by kernel_rfl))
 f146:=Tryz.func75.trans (congrArg some (by kernel_rfl))
 f195:=Tryz.func115.trans (congrArg some (by kernel_rfl))
 f197:=Tryz.func160.trans (congrArg some (by kernel_rfl))
 f217:=Tryz.func176.trans (congrArg some (by kernel_rfl))
 f218:=Tryz.func161.trans (congrArg some (by kernel_rfl))
 f219:=Tryz.func162.trans (congrArg some (by kernel_rfl))
 f221:=Tryz.func108.trans (congrArg some (by kernel_rfl))
 f224:=Tryz.func178.trans (congrArg some (by kernel_rfl))
 f225:=Tryz.func177.trans (congrArg some (by kernel_rfl))
 f260:=Tryz.func175.trans (congrArg some (by kernel_rfl))
 f266:=Tryz.func182.trans (congrArg some (by kernel_rfl))
 f267:=Tryz.func179.trans (congrArg some (by kernel_rfl))
 f268:=Tryz.func130.trans (congrArg some (by kernel_rfl))
 f314:=Tryz.func183.trans (congrArg some (by kernel_rfl))
 t0:=Tryz.underlying0
 a0:=Tryz.isAgg0
 z0:=Tryz.sizeOf0
 v0:=Tryz.zeroValue0
 t3:=Tryz.underlying3
 a3:=Tryz.isAgg3
 z3:=Tryz.sizeOf3
 v3:=Tryz.zeroValue3
 t4:=Tryz.underlying4
 a4:=Tryz.isAgg4
 z4:=Tryz.sizeOf4
 v4:=Tryz.zeroValue4
 t5:=Tryz.underlying5
 a5:=Tryz.isAgg5
 z5:=Tryz.sizeOf5
 v5:=Tryz.zeroValue5
 t9:=Tryz.underlying9
 a9:=Tryz.isAgg9
 z9:=Tryz.sizeOf9
 v9:=Tryz.zeroValue9
 t21:=Tryz.underlying21
 a21:=Tryz.isAgg21
 z21:=Tryz.sizeOf21
 v21:=Tryz.zeroValue21
 t31:=Tryz.underlying53
 a31:=Tryz.isAgg53
 z31:=Tryz.sizeOf53
 v31:=Tryz.zeroValue53
 t46:=Tryz.underlying143
 a46:=Tryz.isAgg143
 z46:=Tryz.sizeOf143
 v46:=Tryz.zeroValue143
 t51:=Tryz.underlying167
 a51:=Tryz.isAgg167
 z51:=Tryz.sizeOf167
 v51:=Tryz.zeroValue167
 t105:=Tryz.underlying181
 a105:=Tryz.isAgg181
 z105:=Tryz.sizeOf181
 v105:=Tryz.zeroValue181
 t119:=Tryz.underlying192
 a119:=Tryz.isAgg192
 z119:=Tryz.sizeOf192
 t138:=Tryz.underlying194
 a138:=Tryz.isAgg194
 z138:=Tryz.sizeOf194
 v138:=Tryz.zeroValue194
 t139:=Tryz.underlying195
 a139:=Tryz.isAgg195
 z139:=Tryz.sizeOf195
 v139:=Tryz.zeroValue195
 t146:=Tryz.underlying202
 a146:=Tryz.isAgg202
 z146:=Tryz.sizeOf202
 v146:=Tryz.zeroValue202
 g1:=by kernel_rfl
 g3:=by kernel_rfl
 g4:=by kernel_rfl
}
def Tryz.lays156_ren:Go.Shelf.Ren:=⟨fun|156=>74|165=>105|166=>106|169=>107|240=>128|241=>129|276=>158|277=>159|n=>n,fun|0=>0|3=>3|4=>4|5=>5|9=>9|20=>20|31=>53|37=>109|70=>130|72=>132|75=>135|76=>136|80=>138|127=>157|164=>178|n=>n,fun|n=>n⟩
theorem Tryz.lays156:Go.Proofs.Lays.n156 Tryz.prog Tryz.lays156_ren:={
 mixed:=by kernel_rfl
 f156:=Tryz.func74.trans (congrArg some (by kernel_rfl))
 f165:=Tryz.func105.trans (congrArg some (by kernel_rfl))
 f166:=Tryz.func106.trans (congrArg some (by kernel_rfl))
 f169:=Tryz.func107.trans (congrArg some (by kernel_rfl))
 f240:=Tryz.func128.trans (congrArg some (by kernel_rfl))
 f241:=Tryz.func129.trans (congrArg some (by kernel_rfl))
 f276:=Tryz.func158.trans (congrArg some (by kernel_rfl))
 f277:=Tryz.func159.trans (congrArg some (by kernel_rfl))
 t0:=Tryz.underlying0
 a0:=Tryz.isAgg0
 z0:=Tryz.sizeOf0
 v0:=Tryz.zeroValue0
 t3:=Tryz.underlying3
 a3:=Tryz.isAgg3
 z3:=Tryz.sizeOf3
 v3:=Tryz.zeroValue3
 t4:=Tryz.underlying4
 a4:=Tryz.isAgg4
 z4:=Tryz.sizeOf4
 v4:=Tryz.zeroValue4
 t9:=Tryz.underlying9
 a9:=Tryz.isAgg9
 z9:=Tryz.sizeOf9
 v9:=Tryz.zeroValue9
 t20:=Tryz.underlying20
 a20:=Tryz.isAgg20
 z20:=Tryz.sizeOf20
 v20:=Tryz.zeroValue20
 t31:=Tryz.underlying53
 a31:=Tryz.isAgg53
 z31:=Tryz.sizeOf53
 v31:=Tryz.zeroValue53
 t37:=Tryz.underlying109
 a37:=Tryz.isAgg109
 z37:=Tryz.sizeOf109
 v37:=Tryz.zeroValue109
 t70:=Tryz.underlying130
 a70:=Tryz.isAgg130
 z70:=Tryz.sizeOf130
 v70:=Tryz.zeroValue130
 t72:=Tryz.underlying132
 a72:=Tryz.isAgg132
 z72:=Tryz.sizeOf132
 v72:=Tryz.zeroValue132
 t75:=Tryz.underlying135
 a75:=Tryz.isAgg135
 z75:=Tryz.sizeOf135
 v75:=Tryz.zeroValue135
 t76:=Tryz.underlying136
 a76:=Tryz.isAgg136
 z76:=Tryz.sizeOf136
 v76:=Tryz.zeroValue136
 t127:=Tryz.underlying157
 a127:=Tryz.isAgg157
 z127:=Tryz.sizeOf157
 v127:=Tryz.zeroValue157
 t164:=Tryz.underlying178
 a164:=Tryz.isAgg178
 z164:=Tryz.sizeOf178
 v164:=Tryz.zeroValue178
}
def Tryz.revS_ren:Go.Shelf.Ren:=⟨fun|17=>73|n=>n,fun|0=>0|3=>3|4=>4|9=>9|24=>53|n=>n,fun n=>n⟩
theorem Tryz.revS:Lays2.n17 Tryz.prog Tryz.revS_ren:={
 mixed:=by kernel_rfl
 f17:=Tryz.func73.trans (congrArg some (by kernel_rfl))
 t0:=Tryz.underlying0
 a0:=Tryz.isAgg0
 z0:=Tryz.sizeOf0
 v0:=Tryz.zeroValue0
 t3:=Tryz.underlying3
 a3:=Tryz.isAgg3
 z3:=Tryz.sizeOf3
 v3:=Tryz.zeroValue3
 t4:=Tryz.underlying4
 a4:=Tryz.isAgg4
 z4:=Tryz.sizeOf4
 v4:=Tryz.zeroValue4
 t9:=Tryz.underlying9
 a9:=Tryz.isAgg9
 z9:=Tryz.sizeOf9
 v9:=Tryz.zeroValue9
 t24:=Tryz.underlying53
 a24:=Tryz.isAgg53
 z24:=Tryz.sizeOf53
 v24:=Tryz.zeroValue53
}
theorem Tryz.builderX:Builder.Extra Tryz.prog Tryz.lays156_ren where
 sizeBuilder:=by kernel_rfl
 liesBuilder:=by kernel_rfl
 t5:=Tryz.underlying5
 a5:=Tryz.isAgg5
 z5:=Tryz.sizeOf5
 v5:=Tryz.zeroValue5
 infoByte:=by kernel_rfl
 cellsByte:=by kernel_rfl
 sizeByte:=by kernel_rfl
 neB5:=by decide
end Go.Proofs
namespace Go.Proofs
open Go Go.Rw
theorem sjoin_good [Tabs]:Rw.Good Tryz.prog 74 kEg:=join_good Tryz.lays156 Tryz.builderX rfl
section
variable [Tabs] {Γ:Env} {σ:AS} {d:Option Nat} {K:AS→Prop}
theorem call_join (hf:Γ.get 74=some kEg) {dr:Bool} {l:List (List UInt8)} {t1:Nat} {xs:List AV} {sep:List UInt8} (hx:xs=zC l) (hl:l.length≤1000000) (hj:(Lib.join l sep).length≤1099511627776)
    (hk:cont σ d (.v (sv (Lib.join l sep))) K):kS Tryz.prog Γ dr σ 74 [.sl t1 1 xs,.v (sv sep)] d K:=by
 subst hx
 exact kP (C:=kEg) (i:=⟨(l,sep),hl,hj⟩) hf rfl rfl rfl (by simp only[AV.erL,AV.er]) (fun _ h=>h) rfl hk
theorem call_split (hC:Γ.get 75=none) {s:List UInt8} {x:UInt8} (hs:s.length < 4000000000)
    (hk:cont σ d (.sl 0 1 (zC (jT x s))) K):kS Tryz.prog Γ false σ 75 [.v (sv s),.v (sv [x])] d K :=
 jI hC (split_raw Tryz.lays146 (by kernel_rfl) rfl hs hk)
theorem call_revS (hC:Γ.get 73=none) {l e:Nat} {xs:List (List UInt8)} {ys:List AV} (hy:ys=zC xs) (hl2:2≤l) (hxl:xs.length≤1000000000) (hlv:σ.m.lv l=some (xs.length,e)) (hmu:σ.m.mu=true)
    (hk0:xs=[]→cont σ d (.tup []) K) (hk1:cont (σ.turned l xs.length (zC xs.reverse)) d (.tup []) K):kS Tryz.prog Γ false σ 73 [.sl l 1 ys] d K:=by
 subst hy
 exact jI hC (revS_raw Tryz.revS rfl hl2 hxl hlv hmu hk0 hk1)
end
end Go.Proofs
end
-- ETr27
section
namespace Go.Proofs
open Go Go.Rw
set_option maxRecDepth 100000
def ups (l:List Nd):Nat→Int→List (List UInt8)
 | 0,_=>[]
 | k+1,i=>if i=0 then [] else (gN l i).nm::ups l k (pf l i)
theorem ups_len (l:List Nd):∀ k i,(ups l k i).length≤k
 | 0,_=>Nat.le_refl _
 | k+1,i=>by
   rw[ups]
   split
   ·simp
   ·have:=ups_len l k (pf l i);simp;omega
def zG (l:List Nd) (i:Int):List UInt8:=Lib.join (ups l l.length i).reverse [47]
open Classical in
noncomputable def inB (l:List Nd) (i:Int):Bool:=decide (inT l i)
theorem in_no {l:List Nd} {i:Int} (h:¬ inT l i):inB l i=false:=by unfold inB;simp[h]
theorem in_yes {l:List Nd} {i:Int} (h:inT l i):inB l i=true:=by unfold inB;simp[h]
noncomputable def pathR (l:List Nd) (i:Int):AV:=.tup [.v (sv (if inB l i=true then zG l i else [])),.v (.bool (inB l i))]
theorem pathR_no {l:List Nd} {i:Int} (h:¬ inT l i):pathR l i = .tup [.v (sv []),.v (.bool false)]:=by unfold pathR;rw[in_no h];rfl
theorem kBK {l:List Nd} {i:Int} (h:inT l i):pathR l i = .tup [.v (sv (zG l i)),.v (.bool true)]:=by unfold pathR;rw[in_yes h];rfl
theorem joinL_le {c:UInt8} {n:Nat}:∀ {l:List (List UInt8)},(∀ x∈l,x.length≤n)→(Lib.join l [c]).length≤(n+1) * l.length
 | [],_=>by simp [Lib.join_nil]
 | x::r,h=>by
   rw[Lib.join_length]
   have h1:=h x (List.mem_cons_self ..)
   have:∀ {r:List (List UInt8)},(∀ y∈r,y.length≤n)→Lib.lens r≤n * r.length:=fun {r}=>by
    induction r with
    | nil=>intro _;simp [Lib.lens]
    | cons y r ih =>
      intro h
      have h2:=ih fun z hz=>h z (List.mem_cons_of_mem _ hz)
      have h3:=h y (List.mem_cons_self ..)
      unfold Lib.lens at h2 ⊢
      rw[List.map_cons,List.sum_cons,List.length_cons,Nat.mul_add];omega
   have h2:=this fun z hz=>h z (List.mem_cons_of_mem _ hz)
   have e1:Lib.lens (x::r)=x.length+Lib.lens r:=by simp[Lib.lens]
   have e2:(n+1) * (r.length+1)=n * r.length+n+r.length+1:=by rw[Nat.add_mul,Nat.mul_add];omega
   rw[e1]
   simp only[List.length_cons,List.length_nil]at *
   rw[e2]
   omega
theorem kCo {nm:List UInt8} (h:qA nm=true):nm.length≤20∧1≤nm.length:=by
 unfold qA at h
 simp only[Bool.and_eq_true,decide_eq_true_eq]at h
 omega
theorem kAR {l:List Nd} (S:sndN l):∀ k i,inT l i→∀ x∈ups l k i,qA x=true
 | 0,_,_,x,hx=>by cases hx
 | k+1,i,hi,x,hx=>by
   rw[ups]at hx
   split at hx
   ·cases hx
   ·rename_i h0
    rcases List.mem_cons.1 hx with rfl|hx
    ·rcases hi with hi|hi
     ·exact absurd hi h0
     ·exact (S.node _ (jA hi).1).nm
    ·exact kAR S k _ (pf_in S) x hx
abbrev tpathCon:ConO where
 ι:={ p:Option TS×Int // ∀ s,p.1=some s→sndN s.l }
 objs:=fun p=>tsO p.1.1
 args:=fun p=>[tsA p.1.1,.v (.int .i64 p.1.2)]
 post:=fun p objs lvs r=>objs=tsO p.1.1∧lvs=[]∧r=match p.1.1 with
  | none=>.tup [.v (sv []),.v (.bool false)]
  | some s=>pathR s.l p.1.2
set_option maxHeartbeats 1000000 in
theorem tpath_good:jJ Tryz.prog 24 tpathCon:=by
 have hΓ:kM Tryz.prog [(74,kEg)]:=(kI sjoin_good kJ)
 refine qG (nn:=35) Tryz.func24 (by kernel_rfl) rfl (show Tryz.f24.results.toList=[.tmp 4,.tmp 5] from rfl) (fun _=>rfl) ?_
 rintro ⟨⟨s,id⟩,hS⟩
 simp only at hS
 refine qQ hΓ (Ws:=[]) _ ?_
 cases s with
 | none =>
   simp only[aR,seval,kA,kB,kC]
   refine kQ [] [] [] [] (.tup [.v (sv []),.v (.bool false)]) ⟨rfl,rfl,rfl⟩ ?_
   simp only[aR,seval,kA,kB,kC]<;>((repeat' apply And.intro)<;>first|rfl|omega|trivial)
 | some s =>
   have hS:=hS s rfl
   have e1:=kA0 s.h
   have hl:=hS.len
   simp only[aR,seval,kA,kB,kC]
   by_cases hin:inT s.l id
   case neg =>
    have h0:¬ id=0:=fun hc=>hin (.inl hc)
    have hh:hasN s.l id=false:=by
     rcases Bool.eq_false_or_eq_true (hasN s.l id) with hc|hc
     ·exact absurd (.inr hc) hin
     ·exact hc
    obtain ⟨St,hSt⟩:∃ St:Unit→AS,∀ i,St i=AS.ofH 35 [(0,.ptr 0 0),(1,.v (.int .i64 id))] [(0,.ptr 0 0),(1,.mp 1)] (tsO (some s)) []:=⟨_,fun _=>rfl⟩
    refine kA3 ?_
    refine zK [] hΓ St (fun _=>0) () (by rw[hSt];refine kX [0,1] [] ?_;simp only[aR,seval,kA,kB,kC]<;>((repeat' apply And.intro)<;>first|rfl|omega|trivial)) ?_
    rintro ⟨⟩
    rw[hSt]
    simp only[aR,seval,kA,kB,kC,h0,e1,hh,nA]
    (repeat (with_reducible refine And.intro ?_ ?_;focus (first|omega|exact kE|kernel_rfl)))
    refine kQ [0,1] [] (tsO (some s)) [] (.tup [.v (sv []),.v (.bool false)]) ⟨rfl,rfl,(pathR_no hin).symm⟩ ?_
    simp only[aR,seval,kA,kB,kC]<;>((repeat' apply And.intro)<;>first|rfl|omega|trivial)
   obtain ⟨St,hSt⟩:∃ St:{ p:Nat×Int×List (List UInt8) // upN s.l p.1 p.2.1=0∧inT s.l p.2.1∧p.2.2++ups s.l p.1 p.2.1=ups s.l s.l.length id }→AS,∀ p,St p=AS.ofH 35 [(0,.ptr 0 0),(1,.v (.int .i64 p.1.2.1)),(6,.sl 2 1 (zC p.1.2.2))] [(0,.ptr 0 0),(1,.mp 1)] (tsO (some s)) [(p.1.2.2.length,9)]:=⟨_,fun _=>rfl⟩
   refine kA3 ?_
   refine zK [] hΓ St (fun p=>p.1.1) ⟨(s.l.length,id,[]),kDT hS hin,hin,rfl⟩ (by rw[hSt];refine kX [0,1] [.nil 1] ?_;simp only[aR,seval,kA,kB,kC,zC,List.map_nil]<;>((repeat' apply And.intro)<;>first|rfl|omega|trivial)) ?_
   rintro ⟨⟨k,x,acc⟩,hu,hix,ha⟩
   simp only at hu hix ha
   have hal:acc.length≤s.l.length:=by
    have h1:=ups_len s.l s.l.length id
    rw[← ha,List.length_append]at h1;omega
   rw[hSt]
   simp only
   simp only[aR,seval,kA,kB,kC]
   by_cases hx:x=0
   case neg =>
    have hh:hasN s.l x=true:=hix.resolve_left hx
    have e4:zC (acc++[(gN s.l x).nm])=zC acc++[.v (sv (gN s.l x).nm)]:=by simp[zC]
    cases k with
    | zero=>exact absurd hu hx
    | succ k =>
      rw[ups,if_neg hx]at ha
      simp only[aR,seval,kA,kB,kC,hx,e1,hh,nA,j4]
      (repeat (with_reducible refine And.intro ?_ ?_;focus (first|omega|exact kE|kernel_rfl)))
      refine kN ⟨(k,pf s.l x,acc++[(gN s.l x).nm]),hu,pf_in hS,by rw[List.append_assoc];exact ha⟩ (by simp only;omega) ?_
      rw[hSt];refine kX [0,1] [.live 2] ?_
      simp only[aR,seval,kA,kB,kC,e4,j4,List.length_append,pf]<;>((repeat' apply And.intro)<;>first|rfl|omega|trivial)
   subst hx
   have ha2:acc=ups s.l s.l.length id:=by
    rw[← ha]
    cases k<;>simp[ups]
   have hnm:=fun z hz=>(kCo (kAR hS s.l.length id hin z hz)).1
   rw[← ha2]at hnm
   have hpa:zG s.l id=Lib.join acc.reverse [47]:=by rw[zG,← ha2]
   have hjl:=joinL_le (c:=47) (n:=20) (l:=acc.reverse) fun z hz=>hnm z (List.mem_reverse.1 hz)
   rw[List.length_reverse]at hjl
   simp only[aR,seval,kA,kB,kC]
   refine call_revS (l:=2) (e:=9) (by simp[kH,kZ]) rfl (by omega) (by omega) (by simp) rfl ?_ ?_
   ·intro h0
    simp only[aR,seval,kA,kB,kC]
    (repeat (with_reducible refine And.intro ?_ ?_;focus (first|omega|exact kE|kernel_rfl)))
    refine call_join (l:=acc.reverse) (by simp[kH]) (by rw[h0];rfl) (by rw[List.length_reverse];omega) (by omega) ?_
    simp only[aR,seval,kA,kB,kC]
    refine kQ [0,1] [] (tsO (some s)) [] (.tup [.v (sv (Lib.join acc.reverse [47])),.v (.bool true)]) ⟨rfl,rfl,by rw[← hpa];exact (kBK hin).symm⟩ ?_
    simp only[aR,seval,kA,kB,kC]<;>((repeat' apply And.intro)<;>first|rfl|omega|trivial)
   ·simp only[aR,seval,kA,kB,kC,j4]
    (repeat (with_reducible refine And.intro ?_ ?_;focus (first|omega|exact kE|kernel_rfl)))
    refine call_join (l:=acc.reverse) (by simp[kH]) rfl (by rw[List.length_reverse];omega) (by omega) ?_
    simp only[aR,seval,kA,kB,kC]
    refine kQ [0,1] [] (tsO (some s)) [] (.tup [.v (sv (Lib.join acc.reverse [47])),.v (.bool true)]) ⟨rfl,rfl,by rw[← hpa];exact (kBK hin).symm⟩ ?_
    simp only[aR,seval,kA,kB,kC]<;>((repeat' apply And.intro)<;>first|rfl|omega|trivial)
end Go.Proofs
end
-- ETr28
section
namespace Go.Proofs
open Go Go.Rw
set_option maxRecDepth 100000
def kCS (l:List Nd):List (List UInt8)→Int→Option Int
 | [],i=>some i
 | n::r,i=>if 0 < kid i n l then kCS l r (kid i n l) else none
def kEH (l:List Nd) (p:List UInt8):Option Int:=if p=[] then some 0 else kCS l (jT 47 p) 0
def optR:Option Int→AV
 | some i=>.tup [.v (.int .i64 i),.v (.bool true)]
 | none=>.tup [.v (.int .i64 0),.v (.bool false)]
theorem cuts_len (c:UInt8) (s:List UInt8):(jT c s).length≤s.length+1:=by
 have h:=Lib.splitB_length_le ⟨#[c]⟩ 0 (Lib.countB ⟨s.toArray⟩ ⟨#[c]⟩) ⟨s.toArray⟩
 have h2:=Lib.countB_le ⟨#[c]⟩ (Nat.le_refl _) _ ⟨s.toArray⟩ (Nat.le_refl _)
 have e:(Lib.splitB ⟨#[c]⟩ 0 (Lib.countB ⟨s.toArray⟩ ⟨#[c]⟩) ⟨s.toArray⟩).length=(jT c s).length:=by
  rw[← List.length_map (f:=(·.data.toList)),Lib.splitB_data];rfl
 have e2:(ByteArray.mk s.toArray).size=s.length:=by simp[ByteArray.size]
 omega
abbrev tfindCon:ConO where
 ι:={ p:Option TS×List UInt8 // (∀ s,p.1=some s→trOk s.l)∧p.2.length≤1000000 }
 objs:=fun p=>tsO p.1.1
 args:=fun p=>[tsA p.1.1,.v (sv p.1.2)]
 post:=fun p objs lvs r=>objs=tsO p.1.1∧lvs=[]∧r=match p.1.1 with
  | none=>.tup [.v (.int .i64 0),.v (.bool false)]
  | some s=>optR (kEH s.l p.1.2)
set_option maxHeartbeats 1000000 in
theorem tfind_good:jJ Tryz.prog 25 tfindCon:=by
 have hΓ:kM Tryz.prog []:=kJ
 refine qG (nn:=30) Tryz.func25 (by kernel_rfl) rfl (show Tryz.f25.results.toList=[.tmp 4,.tmp 5] from rfl) (fun _=>rfl) ?_
 rintro ⟨⟨s,p⟩,hT,hp⟩
 simp only at hT hp
 refine qQ hΓ (Ws:=[]) _ ?_
 cases s with
 | none =>
   simp only[aR,seval,kA,kB,kC]
   refine kQ [] [] [] [] (.tup [.v (.int .i64 0),.v (.bool false)]) ⟨rfl,rfl,rfl⟩ ?_
   simp only[aR,seval,kA,kB,kC]<;>((repeat' apply And.intro)<;>first|rfl|omega|trivial)
 | some s =>
   obtain ⟨hi,hpos,hw⟩:=hT s rfl
   simp only[aR,seval,kA,kB,kC]
   by_cases h0:p=[]
   ·subst h0
    simp only[aR,seval,kA,kB,kC]
    refine kQ [0,1] [] (tsO (some s)) [] (.tup [.v (.int .i64 0),.v (.bool true)]) ⟨rfl,rfl,rfl⟩ ?_
    simp only[aR,seval,kA,kB,kC]<;>((repeat' apply And.intro)<;>first|rfl|omega|trivial)
   have e0:kEH s.l p=kCS s.l (jT 47 p) 0:=by unfold kEH;rw[if_neg h0]
   have hcl:=cuts_len 47 p
   simp only[aR,seval,kA,kB,kC,h0]
   refine call_split (by simp[kH,kZ]) (by omega) ?_
   generalize jT 47 p=ns at *
   simp only[aR,seval,kA,kB,kC,j4]
   obtain ⟨St,hSt⟩:∃ St:{ p:Nat×Int // p.1≤ns.length∧kCS s.l (ns.drop p.1) p.2=kCS s.l ns 0 }→AS,∀ p,St p=AS.ofH 30 [(0,.ptr 0 0),(4,.v (.int .i64 p.1.2)),(13,.sl 0 1 (zC ns)),(14,.v (.int .i64 ns.length)),(15,.v (.int .i64 p.1.1))] [(0,.ptr 0 0),(1,.mp 1)] (tsO (some s)) []:=⟨_,fun _=>rfl⟩
   refine kA3 ?_
   refine zK [] hΓ St (fun p=>ns.length - p.1.1) ⟨(0,0),by simp,rfl⟩ (by rw[hSt];refine kX [0,1] [] ?_;simp only[aR,seval,kA,kB,kC]<;>((repeat' apply And.intro)<;>first|rfl|omega|trivial)) ?_
   rintro ⟨⟨i,id⟩,hle,hf⟩
   simp only at hle hf
   rw[hSt]
   simp only
   simp only[aR,seval,kA,kB,kC]
   (with_reducible first|refine kF (fun h=>?_) (fun h=>?_)|refine kG (fun h=>?_) (fun h=>?_))
   ·have hlt:i < ns.length:=by omega
    have e1:=j8 hlt
    rw[List.drop_eq_getElem_cons hlt,kCS]at hf
    generalize ns[i]=nm at *
    simp only[aR,seval,kA,kB,kC,h,e1,j4]
    (repeat (with_reducible refine And.intro ?_ ?_;focus (first|omega|exact kE|kernel_rfl)))
    refine kBo (s:=s) (o:=0) (ob:=1) (by simp[kH,kZ]) hi hpos (by simp[qB,upd]) ?_
    by_cases hk:0 < kid id nm s.l
    ·rw[if_pos hk]at hf
     have hm:max 0 (kid id nm s.l)=kid id nm s.l:=Int.max_eq_right (by omega)
     simp only[aR,seval,kA,kB,kC,hk,hm,kD (n:=(i:Int)+1) (by omega) (by omega)]
     (repeat (with_reducible refine And.intro ?_ ?_;focus (first|omega|exact kE|kernel_rfl)))
     refine kN ⟨(i+1,kid id nm s.l),by simp only;omega,hf⟩ (by simp only;omega) ?_
     rw[hSt];refine kX [0,1] [] ?_
     simp only[aR,seval,kA,kB,kC]<;>((repeat' apply And.intro)<;>first|rfl|omega|trivial)
    ·rw[if_neg hk]at hf
     simp only[aR,seval,kA,kB,kC,hk]
     (repeat (with_reducible refine And.intro ?_ ?_;focus (first|omega|exact kE|kernel_rfl)))
     refine kQ [0,1] [] (tsO (some s)) [] (.tup [.v (.int .i64 0),.v (.bool false)]) ⟨rfl,rfl,show _=optR (kEH s.l p) by rw[e0,← hf];rfl⟩ ?_
     simp only[aR,seval,kA,kB,kC]<;>((repeat' apply And.intro)<;>first|rfl|omega|trivial)
   ·rw[List.drop_of_length_le (by omega),kCS]at hf
    simp only[aR,seval,kA,kB,kC,h]
    refine kQ [0,1] [] (tsO (some s)) [] (.tup [.v (.int .i64 id),.v (.bool true)]) ⟨rfl,rfl,show _=optR (kEH s.l p) by rw[e0,← hf];rfl⟩ ?_
    simp only[aR,seval,kA,kB,kC]<;>((repeat' apply And.intro)<;>first|rfl|omega|trivial)
section
variable {Γ:Env} {n:Nat} {t:Nat→AV} {hd:Nat→Nat→AV} {d:Option Nat} {K:AS→Prop}
variable {nh nl:Nat} {h:Nat→Option AO} {fm:Nat→Nat} {lv:Nat→Option (Nat×Nat)} {mu:Bool}
theorem kCt (hC:Γ.get 24=none) {s:TS} (S:sndN s.l) {id:Int} {o ob:Nat} (hT:qB h o ob s)
    (hk:cont ⟨n,t,hd,⟨nh,h,nl,fm,lv,mu⟩⟩ d (pathR s.l id) K):kS Tryz.prog Γ false ⟨n,t,hd,⟨nh,h,nl,fm,lv,mu⟩⟩ 24 [.ptr o 0,.v (.int .i64 id)] d K:=by
 refine kAC tpath_good hC ⟨(some s,id),fun s' hs=>by cases hs;exact S⟩ rfl hT (by simp[tsA,dnL,dn]) rfl (fun _ _ _ hp=>hp.1) ?_
 rintro lvs r ⟨_,rfl,rfl⟩
 exact hk
theorem call_tfind (hC:Γ.get 25=none) {s:TS} (hi:trOk s.l) {p:List UInt8} (hp:p.length≤1000000) {o ob:Nat} (hT:qB h o ob s)
    (hk:cont ⟨n,t,hd,⟨nh,h,nl,fm,lv,mu⟩⟩ d (optR (kEH s.l p)) K):kS Tryz.prog Γ false ⟨n,t,hd,⟨nh,h,nl,fm,lv,mu⟩⟩ 25 [.ptr o 0,.v (sv p)] d K:=by
 refine kAC tfind_good hC ⟨(some s,p),fun s' hs=>by cases hs;exact hi,hp⟩ rfl hT (by simp[tsA,dnL,dn]) rfl (fun _ _ _ hp=>hp.1) ?_
 rintro lvs r ⟨_,rfl,rfl⟩
 show cont _ d ((optR (kEH s.l p)).emb _ _) K
 generalize kEH s.l p=q at *
 cases q<;>exact hk
end
-- a path leads to who has it
theorem walk_app (l:List Nd):∀ (a b:List (List UInt8)) (i:Int),kCS l (a++b) i=(kCS l a i).bind (kCS l b)
 | [],b,i=>rfl
 | n::a,b,i=>by
   rw[List.cons_append,kCS,kCS]
   split
   ·exact walk_app l a b _
   ·rfl
section
variable {l:List Nd} (S:sndN l)
include S
theorem kid_self {x:Nd} (hx:x∈l):kid x.par x.nm l=x.id:=by
 have hpos:∀ y∈l,1≤y.id:=fun y hy=>(S.node y hy).id.1
 by_cases h:1≤kid x.par x.nm l
 ·obtain ⟨y,hy,h1,h2,h3⟩:=kid_iff hpos h rfl
  rw[← h3]
  exact S.sib y hy x hx h1 h2
 ·exact absurd ⟨rfl,rfl⟩ (kCR hpos h x hx)
theorem walk_up:∀ (k:Nat) (i:Int),inT l i→upN l k i=0→kCS l (ups l k i).reverse 0=some i
 | 0,i,_,h=>by cases h;rfl
 | k+1,i,hi,h=>by
   rw[ups]
   split
   ·rename_i h0;rw[h0];rfl
   ·rename_i h0
    have hm:=jA (hi.resolve_left h0)
    rw[List.reverse_cons,walk_app,walk_up k (pf l i) (pf_in S) h]
    have e:kid (pf l i) (gN l i).nm l=i:=by
     have:=kid_self S hm.1
     rw[hm.2]at this;exact this
    have hp:=(S.node _ hm.1).id.1
    rw[hm.2]at hp
    simp only[Option.bind_some,kCS]
    rw[e,if_pos (by omega)]
theorem ups_nil {k:Nat} {i:Int} (hi:i≠0):ups l (k+1) i≠[]:=by rw[ups,if_neg hi];simp
omit S in
theorem slash_no {nm:List UInt8} (h:qA nm=true):(47:UInt8) ∉ nm:=by
 intro hc
 unfold qA at h
 simp only[Bool.and_eq_true,List.all_eq_true]at h
 have:=h.1 47 hc
 exact absurd this (by decide)
theorem find_path {i:Int} (hi:inT l i):kEH l (zG l i)=some i:=by
 by_cases h0:i=0
 ·subst h0
  have:zG l 0=[]:=by
   unfold zG
   cases l.length<;>simp[ups,Lib.join_nil]
  unfold kEH
  rw[this,if_pos rfl]
 ·have hm:=jA (hi.resolve_left h0)
  have hlen:0 < l.length:=List.length_pos_of_mem hm.1
  obtain ⟨k,hk⟩:∃ k,l.length=k+1:=⟨l.length - 1,by omega⟩
  have hne:(ups l l.length i).reverse≠[]:=by rw[hk,ne_eq,List.reverse_eq_nil_iff];exact ups_nil S h0
  have hnm:∀ x∈(ups l l.length i).reverse,qA x=true:=fun x hx=>kAR S _ _ hi x (List.mem_reverse.1 hx)
  have hc:=kCU (c:=47) hne fun x hx=>slash_no (hnm x hx)
  have hp:zG l i≠[]:=by
   intro hc2
   have:jT 47 (zG l i)=[[]]:=by rw[hc2];rfl
   rw[show jT 47 (zG l i)=_ from hc]at this
   have:=(kCo (hnm [] (by rw[this];simp))).2
   simp at this
  unfold kEH
  rw[if_neg hp,show jT 47 (zG l i)=_ from hc]
  exact walk_up S _ _ hi (kDT S hi)
theorem path_len (i:Int) (hi:inT l i):(zG l i).length≤2100:=by
 have h:=joinL_le (c:=47) (n:=20) (l:=(ups l l.length i).reverse) fun x hx=>(kCo (kAR S _ _ hi x (List.mem_reverse.1 hx))).1
 have h2:=ups_len l l.length i
 have h3:=S.len
 rw[List.length_reverse]at h
 unfold zG
 omega
end
end Go.Proofs
end
-- ETr29
section
namespace Go.Proofs
open Go Go.Rw
set_option maxRecDepth 100000
theorem join_ne {l:List (List UInt8)} (h:l≠[]) (hn:∀ x∈l,x≠[]):Lib.join l [47]≠[]:=by
 cases l with
 | nil=>exact absurd rfl h
 | cons x r =>
   rw[Lib.join_cons]
   intro hc
   exact hn x (List.mem_cons_self ..) (List.append_eq_nil_iff.1 hc).1
end Go.Proofs
end
-- EUk9t
section
namespace Go.Proofs
open Go Go.Rw
set_option maxRecDepth 100000
end Go.Proofs
end
-- ETr30
section
namespace Go.Proofs
open Go Go.Rw
set_option maxRecDepth 100000
end Go.Proofs
end
-- ETr20
section
namespace Go.Proofs
open Go Go.Rw
set_option maxRecDepth 100000
abbrev Ky:=Int×List UInt8
def kV (p:Ky):Value:=nV ⟨0,p.1,p.2,false,[]⟩
def entL:List (Ky×Int)→Nat→List MapEntry
 | [],_=>[]
 | (p,c)::r,i=>{ key:=kV p,val:=.int .i64 c,born:=i }::entL r (i+1)
structure NM (es:Array MapEntry) (cl:Nat) (ps:List (Ky×Int)):Prop where
 es:es.toList=entL ps 0
 cl:cl=ps.length
 nd:(ps.map Prod.fst).Nodup
def fndP (p:Ky):List (Ky×Int)→Nat→Option (Nat×Value)
 | [],_=>none
 | (q,c)::r,i=>if q=p then some (i,.int .i64 c) else fndP p r (i+1)
theorem equal_kV (p q:Ky):calm Tryz.prog (Op.equal 42 (kV p) (kV q))=some (decide (p=q)):=by
 have e:Op.maxDepth=9998+2:=rfl
 have h:=calm_eq5 (P:=Tryz.prog) (d:=9998) (t:=42) (ti:=3) (ts:=9) (tb:=4) (k:=.i64) (a:=0) (a':=0) (b:=p.1) (b':=q.1) (s:=p.2) (s':=q.2) (q:=false) (q':=false) (u:=[]) (u':=[]) (by kernel_rfl) (by kernel_rfl) (by kernel_rfl) (by kernel_rfl) (by kernel_rfl)
 unfold Op.equal
 rw[e]
 refine h.trans ?_
 congr 1
 obtain ⟨p1,p2⟩:=p
 obtain ⟨q1,q2⟩:=q
 by_cases h1:p1=q1<;>by_cases h2:p2=q2<;>simp[h1,h2]
theorem ask_all (p:Ky):∀ (ps:List (Ky×Int)) (n i:Nat),calm Tryz.prog (Instr.findAsking 42 (kV p) (entL ps n) i)=some (fndP p ps i)
 | [],n,i=>rfl
 | (q,c)::r,n,i=>by
   rw[entL,Instr.findAsking,kY,equal_kV,Option.bind_some,fndP]
   by_cases h:p=q
   ·subst h;simp
   ·rw[decide_eq_false h,if_neg (Ne.symm h)]
    simpa using ask_all p r (n+1) (i+1)
theorem chk_kV (b:Bool) (p:Ky):calm Tryz.prog (Instr.checkKey b 10000 42 (kV p))=some ():=by
 obtain ⟨p1,p2⟩:=p
 rfl
theorem und_kV:Tryz.prog.underlying 82=some (.map 42 3):=by kernel_rfl
theorem ask_nm {es:Array MapEntry} {cl:Nat} {ps:List (Ky×Int)} (h:NM es cl ps) (b:Bool) (p:Ky):askK Tryz.prog 82 b (kV p) es.toList=some (fndP p ps 0):=by
 unfold askK
 rw[und_kV]
 simp only
 rw[chk_kV,Option.bind_some,h.es]
 unfold Instr.findKey
 obtain ⟨fs,hu⟩:∃ fs,Tryz.prog.underlying 42=some (.struct fs):=by
  have h5:is5 Tryz.prog 42 3 9 4=true:=by kernel_rfl
  unfold is5 at h5
  split at h5
  ·exact ⟨_,by assumption⟩
  ·cases h5
 rw[kY]
 simp only[underlying,kY,qD,Option.bind_some,hu]
 cases ps with
 | nil=>simp [entL,Instr.findNow,fndP,zI]
 | cons q r =>
   obtain ⟨q,c⟩:=q
   have:Instr.findNow (.struct fs) (kV p) (entL ((q,c)::r) 0) 0=none:=rfl
   simp only[zI,Option.bind_some,this]
   exact ask_all p _ 0 0
def cntK (p:Ky):List (Ky×Int)→Int
 | []=>0
 | (q,c)::r=>if q=p then c else cntK p r
theorem kDj {p:Ky}:∀ {ps:List (Ky×Int)} {n i:Nat} {v:Value},fndP p ps n=some (i,v)→∃ j c,i=n+j∧ps[j]? = some (p,c)∧v = .int .i64 c∧cntK p ps=c
 | [],n,i,v,h=>by cases h
 | (q,c)::r,n,i,v,h=>by
   rw[fndP]at h
   split at h
   ·rename_i hq
    subst hq
    cases h
    exact ⟨0,c,by omega,rfl,rfl,by rw[cntK,if_pos rfl]⟩
   ·rename_i hq
    obtain ⟨j,c2,h1,h2,h3,h4⟩:=kDj h
    exact ⟨j+1,c2,by omega,by simpa using h2,h3,by rw[cntK,if_neg hq,h4]⟩
theorem kCc {p:Ky}:∀ {ps:List (Ky×Int)} {n:Nat},fndP p ps n=none→p ∉ ps.map Prod.fst∧cntK p ps=0
 | [],n,_=>by simp [cntK]
 | (q,c)::r,n,h=>by
   rw[fndP]at h
   split at h
   ·cases h
   ·rename_i hq
    obtain ⟨h1,h2⟩:=kCc h
    refine ⟨?_,by rw[cntK,if_neg hq,h2]⟩
    simp only[List.map_cons,List.mem_cons,not_or]
    exact ⟨fun hc=>hq hc.symm,h1⟩
theorem look_nm {es:Array MapEntry} {cl:Nat} {ps:List (Ky×Int)} (h:NM es cl ps) (p:Ky):lookS Tryz.prog 82 (kV p) es false=some (.v (.int .i64 (cntK p ps))):=by
 unfold lookS
 rw[ask_nm h]
 cases hf:fndP p ps 0 with
 | none =>
   have e1:kB8 Tryz.prog 82=some 3:=by kernel_rfl
   have e2:jV Tryz.prog 3=some (.v (.int .i64 0)):=by kernel_rfl
   simp only[e1,e2,Option.map_some,(kCc hf).2]
   rfl
 | some q =>
   obtain ⟨i,v⟩:=q
   obtain ⟨j,c,_,_,rfl,h4⟩:=kDj hf
   rw[h4];rfl
theorem entL_len:∀ (ps:List (Ky×Int)) (n:Nat),(entL ps n).length=ps.length
 | [],_=>rfl
 | (p,c)::r,n=>by simp [entL,entL_len r]
theorem entL_get:∀ (ps:List (Ky×Int)) (n j:Nat),(entL ps n)[j]? = (ps[j]?).map fun q=>{ key:=kV q.1,val:=.int .i64 q.2,born:=n+j }
 | [],_,_=>by simp [entL]
 | (p,c)::r,n,0=>by simp [entL]
 | (p,c)::r,n,j+1=>by
   simp only[entL,List.getElem?_cons_succ]
   rw[entL_get r (n+1) j]
   cases r[j]? with
   | none=>rfl
   | some q=>simp only [Option.map_some];congr 2;omega
theorem entL_app (ps:List (Ky×Int)) (p:Ky) (c:Int) (n:Nat):entL (ps++[(p,c)]) n=entL ps n++[{ key:=kV p,val:=.int .i64 c,born:=n+ps.length }]:=by
 induction ps generalizing n with
 | nil=>rfl
 | cons q r ih =>
   obtain ⟨q,d⟩:=q
   simp only[List.cons_append,entL,ih,List.length_cons]
   congr 3;congr 1;omega
def layK (p:Ky) (ps:List (Ky×Int)):List (Ky×Int):=if (fndP p ps 0).isSome then ps else ps++[(p,0)]
theorem ba_beq (d:Array UInt8):((⟨d⟩:ByteArray) == ⟨d⟩)=true:=(beq_self_eq_true d:(d == d)=true)
theorem same_kV (p:Ky):Instr.sameBits 10000 (kV p) (kV p)=true:=by
 obtain ⟨p1,p2⟩:=p
 simp[kV,nV,Instr.sameBits,sv,ba_beq]
theorem cnt_app {p:Ky}:∀ {ps:List (Ky×Int)},p ∉ ps.map Prod.fst→cntK p (ps++[(p,0)])=0
 | [],_=>by simp [cntK]
 | (q,c)::r,h=>by
   simp only[List.map_cons,List.mem_cons,not_or]at h
   rw[List.cons_append,cntK,if_neg (Ne.symm h.1),cnt_app h.2]
theorem get_es {es:Array MapEntry} {cl:Nat} {ps:List (Ky×Int)} (h:NM es cl ps) (j:Nat):es[j]? = (ps[j]?).map fun q=>{ key:=kV q.1,val:=.int .i64 q.2,born:=j }:=by
 rw[← Array.getElem?_toList,h.es,entL_get]
 simp
theorem size_nm {es:Array MapEntry} {cl:Nat} {ps:List (Ky×Int)} (h:NM es cl ps):es.size=ps.length:=by
 rw[← Array.length_toList,h.es,entL_len]
theorem cnt_lay (p:Ky) (ps:List (Ky×Int)):cntK p (layK p ps)=cntK p ps:=by
 unfold layK
 cases hf:fndP p ps 0 with
 | none =>
   obtain ⟨h1,h2⟩:=kCc hf
   simp only[Option.isSome_none,Bool.false_eq_true,if_false]
   rw[cnt_app h1,h2]
 | some q=>rfl
theorem mod_same {es:Array MapEntry} {i:Nat} {e:MapEntry} (h:es[i]? = some e) {k:Value} (hk:e.key=k):(es.modify i fun e=>{ e with key:=k })=es:=by
 apply Array.ext (by simp)
 intro j h1 h2
 rw[Array.getElem_modify]
 split
 ·rename_i hj
  subst hj
  rw[Array.getElem?_eq_getElem h2]at h
  cases h
  subst hk
  rfl
 ·rfl
theorem ent_nm {es:Array MapEntry} {cl:Nat} {ps:List (Ky×Int)} (h:NM es cl ps) (p:Ky):∃ es' cl' i,entA Tryz.prog 82 (kV p) es cl=some (.map es' cl',.tup [.v (.int .i64 (cntK p ps)),.v (.int .i64 (i:Nat))])∧NM es' cl' (layK p ps)∧(layK p ps)[i]? = some (p,cntK p ps):=by
 have hs:=h
 unfold entA
 rw[ask_nm h]
 cases hf:fndP p ps 0 with
 | none =>
   obtain ⟨h1,h2⟩:=kCc hf
   have e1:kB8 Tryz.prog 82=some 3:=by kernel_rfl
   have e3:∃ a b c d,tiOf Tryz.prog 3=some ⟨a,b,some (.int .i64 0),c,d⟩:=by
    have:((tiOf Tryz.prog 3).bind fun ti=>ti.zero)=some (.int .i64 0):=by kernel_rfl
    obtain ⟨ti,q1,q2⟩:=Option.bind_eq_some_iff.1 this
    obtain ⟨a,b,z,c,d⟩:=ti
    simp only at q2
    subst q2
    exact ⟨a,b,c,d,q1⟩
   obtain ⟨a,b,c,d,e3⟩:=e3
   have hl:layK p ps=ps++[(p,0)]:=by unfold layK;rw[hf];rfl
   refine ⟨es.push { key:=kV p,val:=.int .i64 0,born:=cl },cl+1,cl,?_,?_,?_⟩
   ·simp only[e1,e3,h2];rfl
   ·rw[hl]
    refine ⟨?_,by rw[h.cl];simp,?_⟩
    ·rw[Array.toList_push,h.es,entL_app,h.cl];simp
    ·rw[List.map_append,List.nodup_append]
     refine ⟨h.nd,by simp,fun x hx y hy=>?_⟩
     simp only[List.map_cons,List.map_nil,List.mem_singleton]at hy
     subst hy
     rintro rfl
     exact h1 hx
   ·rw[hl,h.cl,h2];simp
 | some q =>
   obtain ⟨i,v⟩:=q
   obtain ⟨j,c,h1,h2,rfl,h4⟩:=kDj hf
   rw[Nat.zero_add]at h1
   subst h1
   have hl:layK p ps=ps:=by unfold layK;rw[hf];rfl
   have hg:es[i]? = some { key:=kV p,val:=.int .i64 c,born:=i }:=by rw[get_es h,h2];rfl
   refine ⟨es,cl,i,?_,by rw[hl];exact h,by rw[hl,h4];exact h2⟩
   simp only[hg,Option.map_some,Option.getD_some,same_kV,if_true,mod_same hg rfl,h4]
   rfl
theorem put_nm {es:Array MapEntry} {cl:Nat} {ps:List (Ky×Int)} (h:NM es cl ps) {i:Nat} {p:Ky} {c:Int} (hi:ps[i]? = some (p,c)) (c':Int) :
    es.findIdx? (fun e=>(e.born:Int) == ((i:Nat):Int))=some i∧NM (es.modify i fun e=>{ e with val:=.int .i64 c' }) cl (ps.set i (p,c')):=by
 have hlt:=(List.getElem?_eq_some_iff.1 hi).1
 have hsz:=size_nm h
 have hb:∀ (j:Nat) (hj:j < es.size),es[j].born=j:=fun j hj=>by
  have:=get_es h j
  rw[Array.getElem?_eq_getElem hj,List.getElem?_eq_getElem (by omega)]at this
  simp only[Option.map_some,Option.some.injEq]at this
  rw[this]
 refine ⟨?_,?_,by rw[List.length_set];exact h.cl,?_⟩
 ·rw[Array.findIdx?_eq_some_iff_getElem]
  refine ⟨by omega,by rw[hb];simp,fun j hj=>?_⟩
  rw[hb];simp;omega
 ·apply List.ext_getElem?
  intro j
  rw[Array.getElem?_toList,Array.getElem?_modify,entL_get,List.getElem?_set,get_es h]
  by_cases hj:i=j
  ·subst hj
   rw[if_pos rfl,if_pos rfl,if_pos hlt,hi]
   simp
  ·rw[if_neg hj,if_neg hj];simp
 ·have:(ps.set i (p,c')).map Prod.fst=ps.map Prod.fst:=by
    rw[List.map_set]
    apply List.ext_getElem?
    intro j
    rw[List.getElem?_set]
    split
    ·rename_i hj
     subst hj
     rw[List.getElem?_map,hi,List.length_map,if_pos hlt];rfl
    ·rfl
  rw[this];exact h.nd
end Go.Proofs
end
-- ETr21
section
namespace Go.Proofs
open Go Go.Rw
set_option maxRecDepth 100000
def okB (x:Nd):Bool:=decide (1≤x.id∧x.id≤1099511627776) && qA x.nm && (pts x.text).isSome && decide (cnt x.text≤2000) && (!x.dir || decide (x.text=[]))
theorem okB_iff (x:Nd):okB x=true↔okNd x:=by
 unfold okB
 simp only[Bool.and_eq_true,decide_eq_true_eq,Bool.or_eq_true,Bool.not_eq_true']
 constructor
 ·rintro ⟨⟨⟨⟨h1,h2⟩,h3⟩,h4⟩,h5⟩
  exact ⟨h1,h2,fun hd=>by rcases h5 with h5|h5;rw[hd]at h5;cases h5;exact h5,h3,h4⟩
 ·rintro ⟨h1,h2,h3,h4,h5⟩
  refine ⟨⟨⟨⟨h1,h2⟩,h4⟩,h5⟩,?_⟩
  cases hd:x.dir
  ·exact .inl rfl
  ·exact .inr (h3 hd)
abbrev okNCon:Con where
 ι:={ x:Nd // x.nm.length≤1099511627776∧x.text.length≤1099511627776 }
 args:=fun p=>[nA p.1]
 post:=fun p r=>r = .v (.bool (okB p.1))
 plain:=true
set_option maxHeartbeats 1000000 in
theorem okn_good:Rw.Good Tryz.prog 51 okNCon:=by
 have hΓ:kM Tryz.prog [(95,kAj),(30,kBt)]:=(kI kBT (kI kC1 kJ))
 refine k8 (nn:=42) hΓ Tryz.func51 (by kernel_rfl) rfl (show Tryz.f51.results.toList=[.tmp 2] from rfl) (fun _=>rfl) (fun x=>by simp[AV.erL,nA_er]) ?_
 rintro ⟨⟨id,par,nm,dir,tx⟩,hn,ht⟩
 simp only at hn ht
 simp only[aR,seval,nA]
 refine kAb (by simp[kH]) ht ?_
 rw[kBU]
 have e0:okB ⟨id,par,nm,dir,tx⟩=(decide (1≤id∧id≤1099511627776) && qA nm && (pts tx).isSome && decide (cnt tx≤2000) && (!dir || decide (tx=[]))):=rfl
 by_cases h1:id ≥ 1
 case neg =>
  simp only[aR,seval,h1]
  rw[e0,decide_eq_false (by omega)];simp
 by_cases h2:id≤1099511627776
 case neg =>
  simp only[aR,seval,h1,h2]
  rw[e0,decide_eq_false (by omega)];simp
 rw[decide_eq_true (show 1≤id∧id≤1099511627776 from ⟨h1,h2⟩)]at e0
 simp only[aR,seval,h1,h2]
 refine kBN (by simp[kH]) hn ?_
 rcases Bool.eq_false_or_eq_true (qA nm) with h3|h3
 case inr=>simp only[aR,seval,h3];rw[e0,h3];rfl
 rw[h3]at e0
 rcases Bool.eq_false_or_eq_true (pts tx).isSome with h4|h4
 case inr =>
  have h4f:((pts tx).isSome=true)=False:=by rw[h4];simp
  simp only[aR,seval,h3,h4f];rw[e0,h4];rfl
 have h4t:((pts tx).isSome=true)=True:=eq_true h4
 rw[h4]at e0
 by_cases h5:(cnt tx:Int)≤2000
 case neg =>
  simp only[aR,seval,h3,h4t,h5];rw[e0,decide_eq_false (by omega)];rfl
 rw[decide_eq_true (show cnt tx≤2000 by omega)]at e0
 cases dir
 ·simp only[aR,seval,h3,h4t,h5];rw[e0];rfl
 ·simp only[aR,seval,h3,h4t,h5];rw[e0];rfl
end Go.Proofs
end
-- ETr14
section
namespace Go.Proofs
open Go Go.Rw
set_option maxRecDepth 100000
structure CI where
 es:Array MapEntry
 cl:Nat
 ps:List (Int×Value)
 h:MapG es cl ps
 v:∀ p∈ps,∃ c,p.2 = .int .i64 c
 b:∀ p∈ps,-9223372036854775808≤p.1∧p.1≤9223372036854775807
end Go.Proofs
end
-- ETr15
section
namespace Go.Proofs
open Go Go.Rw
set_option maxRecDepth 100000
def ts0:TS:=⟨#[],0,[],tm_empty⟩
section
variable {Γ:Env} {n:Nat} {t:Nat→AV} {hd:Nat→Nat→AV} {d:Option Nat} {K:AS→Prop}
variable {nh nl:Nat} {h:Nat→Option AO} {fm:Nat→Nat} {lv:Nat→Option (Nat×Nat)} {mu:Bool}
theorem kE1 (hC:Γ.get 28=none)
    (hk:cont ⟨n,t,hd,⟨nh+2,upd (upd h nh (some (.cells [.mp (nh+1)]))) (nh+1) (some (.map #[] 0)),nl,fm,lv,mu⟩⟩ d (.ptr nh 0) K):kS Tryz.prog Γ false ⟨n,t,hd,⟨nh,h,nl,fm,lv,mu⟩⟩ 28 [] d K:=by
 refine vc_obj tnew_good hC () [] ⟨by simp,by simp[dnL],by simp[dnOs],rfl,rfl⟩ ?_
 rintro objs lvs r ⟨rfl,rfl,rfl⟩ hl
 have e3:[AO.cells [.mp 1],.map #[] 0].length - ([]:List Nat).length=2:=rfl
 rw[e3]
 simp only[kFU,kET,kFN,embO_map,kEZ,embL_nil,emb_mp,obC_succ,obC_zero,obC_nil,kEq,callH_new,kEh,kES,kEV,emb_ptr,List.length_nil,Nat.add_zero]
 exact hk
end
abbrev kD6:Con where
 ι:=Unit
 args:=fun _=>[]
 post:=fun _ r=>r = .v (.bool true)
end Go.Proofs
end
