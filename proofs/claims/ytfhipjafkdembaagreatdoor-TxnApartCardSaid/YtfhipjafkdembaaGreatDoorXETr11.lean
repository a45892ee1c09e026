/-
 What the tree does is what the document says;a qW tree stays qW. Plain. A qW tree stays qW. Plain. A transaction,done on a copy of a tree. Names that are taken: a map whose keys are k6. Plain. A node by itself;a tree of k6. The IDs of a transaction's acts,by a map. law14: what the document fixes.
-/
import Derived.Test.YtfhipjafkdembaaGreatDoorXETr4
import Derived.Test.YtfhipjafkdembaaGreatDoorXEAw0
import Derived.Test.YtfhipjafkdembaaGreatDoorXEAp1
import Derived.Test.YtfhipjafkdembaaGreatDoorRwO
set_option linter.unusedSimpArgs false
set_option linter.unusedVariables false
set_option linter.defProp false
set_option linter.unusedSectionVars false

-- ETr11
section
namespace Go.Proofs
open Go Go.Rw
set_option maxRecDepth 100000
theorem kB5 (a b:List Nd):totN (a++b)=totN a+totN b:=by
 induction a with
 | nil=>simp [totN]
 | cons x a ih=>simp [totN,ih,Nat.add_assoc]
theorem tot_set:∀ (l:List Nd) (i:Nat) (h:i < l.length) (y:Nd),totN (l.set i y)+cnt l[i].text=totN l+cnt y.text
 | [],i,h,y=>by simp at h
 | x::l,0,h,y=>by simp [totN];omega
 | x::l,i+1,h,y=>by
   have:=tot_set l i (by simpa using h) y
   simp[totN];omega
theorem kCp {l:List Nd} {par id:Int} {nm:List UInt8} (h:dirI l par≠0):j5 l par nm id=dirI l par:=by
 unfold dirI at h ⊢
 unfold j5
 split
 ·rename_i h0;rw[if_pos h0]at h;exact absurd rfl h
 ·rename_i h0
  rw[if_neg h0]at h
  by_cases h1:hasN l par=true
  ·rw[if_pos h1]at h ⊢
   rw[if_pos ((qH l par).1 h1)]
   split at h
   ·exact absurd rfl h
   ·rename_i h2
    rw[if_neg h2,if_pos (by simpa [gN] using h2)]
  ·rw[if_neg h1,if_neg (fun hc=>h1 ((qH l par).2 hc))]
theorem kC0 {l:List Nd} {par id:Int} {nm:List UInt8} (h:dirI l par=0):j5 l par nm id=if par≠0∧id > 0∧zQ l par id=true then 10 else kEt l par nm id:=by
 unfold dirI at h
 unfold j5
 split
 ·rename_i h0;rw[if_neg (fun hc=>hc.1 h0)]
 ·rename_i h0
  rw[if_neg h0]at h
  split at h
  ·rename_i h1
   rw[if_pos ((qH l par).1 h1)]
   split at h
   ·rename_i h2
    rw[if_neg (by rw[show l.getD (ndx par l) kAb=gN l par from rfl,h2];decide)]
    by_cases h3:id > 0∧zQ l par id=true
    ·rw[if_pos h3,if_pos ⟨h0,h3⟩]
    ·rw[if_neg h3,if_neg (fun hc=>h3 hc.2)]
   ·omega
  ·omega
theorem dir_in {l:List Nd} {par:Int} (h:dirI l par=0):inT l par∧(par=0∨(hasN l par=true∧(gN l par).dir=true)):=by
 unfold dirI at h
 split at h
 ·exact ⟨.inl ‹_›,.inl ‹_›⟩
 ·split at h
  ·split at h
   ·exact ⟨.inr ‹_›,.inr ⟨‹_›,‹_›⟩⟩
   ·omega
  ·omega
theorem doN_k1 {l:List Nd} {a:Ac} (hk:a.k=1):doN l a =
    if a.id < 1∨a.id > 1099511627776∨qE a.nm=false then (l,1)
    else if ndx a.id l < l.length then (l,6)
    else if j5 l a.par a.nm 0≠0 then (l,j5 l a.par a.nm 0)
    else if l.length ≥ 100 then (l,4)
    else (l.take (atN a.id l)++⟨a.id,a.par,a.nm,a.dir,[]⟩::l.drop (atN a.id l),0):=by
 show (if a.k=1 then _ else _)=_
 rw[if_pos hk]
theorem doN_k2 {l:List Nd} {a:Ac} (hk:a.k=2):doN l a =
    if ¬ ndx a.id l < l.length then (l,5)
    else if (l.any fun y=>decide (y.par=a.id))=true then (l,9)
    else (l.take (ndx a.id l)++l.drop (ndx a.id l+1),0):=by
 show (if a.k=1 then _ else _)=_
 rw[if_neg (by omega)]
 show (if a.k=2 then _ else _)=_
 rw[if_pos hk]
theorem doN_k3 {l:List Nd} {a:Ac} (hk:a.k=3):doN l a =
    if qE a.nm=false then (l,1)
    else if ¬ ndx a.id l < l.length then (l,5)
    else if j5 l a.par a.nm a.id≠0 then (l,j5 l a.par a.nm a.id)
    else (l.set (ndx a.id l) ⟨(gN l a.id).id,a.par,a.nm,(gN l a.id).dir,(gN l a.id).text⟩,0):=by
 show (if a.k=1 then _ else _)=_
 rw[if_neg (by omega)]
 show (if a.k=2 then _ else _)=_
 rw[if_neg (by omega)]
 show (if a.k=3 then _ else _)=_
 rw[if_pos hk]
 rfl
theorem doN_k4 {l:List Nd} {a:Ac} (hk:a.k=4):doN l a =
    if ¬ ndx a.id l < l.length then (l,5)
    else if (gN l a.id).dir=true then (l,8)
    else if errI (gN l a.id).text a.ops≠0 then (l,errI (gN l a.id).text a.ops)
    else if (totN (l.set (ndx a.id l) ⟨(gN l a.id).id,(gN l a.id).par,(gN l a.id).nm,(gN l a.id).dir,jE (gN l a.id).text a.ops⟩):Int) > 10000 then (l,4)
    else (l.set (ndx a.id l) ⟨(gN l a.id).id,(gN l a.id).par,(gN l a.id).nm,(gN l a.id).dir,jE (gN l a.id).text a.ops⟩,0):=by
 show (if a.k=1 then _ else _)=_
 rw[if_neg (by omega)]
 show (if a.k=2 then _ else _)=_
 rw[if_neg (by omega)]
 show (if a.k=3 then _ else _)=_
 rw[if_neg (by omega)]
 show (if a.k=4 then _ else _)=_
 rw[if_pos hk]
 rfl
theorem doN_k0 {l:List Nd} {a:Ac} (hk:a.k < 1∨a.k > 4):doN l a=(l,1):=by
 show (if a.k=1 then _ else _)=_
 rw[if_neg (by omega)]
 show (if a.k=2 then _ else _)=_
 rw[if_neg (by omega)]
 show (if a.k=3 then _ else _)=_
 rw[if_neg (by omega)]
 show (if a.k=4 then _ else _)=_
 rw[if_neg (by omega)]
section
variable {l:List Nd} (S:sndN l)
include S
theorem cre_eq {a:Ac} (hk:a.k=1):creN l a=doN l a:=by
 have hp:∀ x∈l,1≤x.id:=fun x hx=>(S.node x hx).id.1
 rw[doN_k1 hk]
 unfold creN
 by_cases h1:a.id < 1∨a.id > 1099511627776∨qE a.nm=false
 ·rw[if_pos h1,if_pos h1]
 rw[if_neg h1,if_neg h1]
 by_cases h2:hasN l a.id=true
 ·rw[if_pos h2,if_pos ((qH l a.id).1 h2)]
 rw[if_neg h2,if_neg (fun hc=>h2 ((qH l a.id).2 hc))]
 by_cases h3:dirI l a.par=0
 case neg=>rw[if_pos h3,kCp h3,if_pos h3]
 rw[if_neg (fun hc=>hc h3),kC0 h3,if_neg (show ¬ (a.par≠0∧(0:Int) > 0∧zQ l a.par 0=true) by omega)]
 unfold kEt
 by_cases h4:0 < kid a.par a.nm l
 ·rw[if_pos h4,if_pos (show (0≤kid a.par a.nm l∧kid a.par a.nm l≠0) by omega)];rfl
 have h5:=kid_some S (par:=a.par) (nm:=a.nm) hp
 rw[if_neg h4,if_neg (show ¬ (0≤kid a.par a.nm l∧kid a.par a.nm l≠0) by omega),if_neg (show ¬ ((0:Int)≠0) by decide)]
 split
 ·rfl
 ·unfold setT
  rw[if_neg h2]
theorem rem_eq {a:Ac} (hk:a.k=2):remN l a.id=doN l a:=by
 rw[doN_k2 hk]
 unfold remN
 by_cases h2:hasN l a.id=true
 case neg =>
  rw[if_pos (show hasN l a.id=false by simpa using h2),if_pos (show ¬ ndx a.id l < l.length from fun hc=>h2 ((qH l a.id).2 hc))]
 rw[if_neg (show ¬ (hasN l a.id=false) by rw[h2];decide),if_neg (show ¬ ¬ ndx a.id l < l.length from fun hc=>hc ((qH l a.id).1 h2))]
 have e:0 < (kept a.id l).length↔(l.any fun y=>decide (y.par=a.id))=true:=by
  unfold kept
  rw[List.length_pos_iff,ne_eq,List.filter_eq_nil_iff,List.any_eq_true]
  simp
 by_cases h3:0 < (kept a.id l).length
 ·rw[if_pos h3,if_pos (e.1 h3)]
 ·rw[if_neg h3,if_neg (fun hc=>h3 (e.2 hc))];rfl
theorem mov_eq {a:Ac} (hk:a.k=3):movN l a=doN l a:=by
 have hp:∀ x∈l,1≤x.id:=fun x hx=>(S.node x hx).id.1
 rw[doN_k3 hk]
 unfold movN
 by_cases h1:qE a.nm=false
 ·rw[if_pos h1,if_pos h1]
 rw[if_neg h1,if_neg h1]
 by_cases h2:hasN l a.id=true
 case neg =>
  rw[if_pos (show hasN l a.id=false by simpa using h2),if_pos (show ¬ ndx a.id l < l.length from fun hc=>h2 ((qH l a.id).2 hc))]
 obtain ⟨h6,h7⟩:=kBS h2
 have h8:=hp _ h6
 rw[h7]at h8
 rw[if_neg (show ¬ (hasN l a.id=false) by rw[h2];decide),if_neg (show ¬ ¬ ndx a.id l < l.length from fun hc=>hc ((qH l a.id).1 h2))]
 by_cases h3:dirI l a.par=0
 case neg=>rw[if_pos h3,kCp h3,if_pos h3]
 rw[if_neg (fun hc=>hc h3),kC0 h3]
 obtain ⟨h9,_⟩:=dir_in h3
 by_cases h4:upB l a.id l.length a.par=true
 ·have h10:=(up_meets S h9 (show a.id≠0 by omega)).1 h4
  have h11:a.par≠0:=by
   rintro h0
   rw[h0]at h10
   obtain ⟨k,hk2⟩:=h10
   rw[kD6 S]at hk2;omega
  rw[if_pos h4,if_pos (show a.par≠0∧a.id > 0∧zQ l a.par a.id=true from ⟨h11,by omega,(kA2 S h9 (by omega)).2 h10⟩)];rfl
 ·rw[if_neg h4,if_neg (show ¬ (a.par≠0∧a.id > 0∧zQ l a.par a.id=true) from fun hc=>h4 ((up_meets S h9 (show a.id≠0 by omega)).2 ((kA2 S h9 (by omega)).1 hc.2.2)))]
  have h5:=kid_some S (par:=a.par) (nm:=a.nm) hp
  unfold kEt
  by_cases h12:0 < kid a.par a.nm l∧kid a.par a.nm l≠a.id
  ·rw[if_pos h12,if_pos (show 0≤kid a.par a.nm l∧kid a.par a.nm l≠a.id from ⟨by omega,h12.2⟩)];rfl
  ·rw[if_neg h12,if_neg (show ¬ (0≤kid a.par a.nm l∧kid a.par a.nm l≠a.id) from fun hc=>h12 ⟨by omega,hc.2⟩),if_neg (show ¬ ((0:Int)≠0) by decide)]
   unfold setT
   rw[if_pos h2]
   show (l.set (ndx a.id l) ⟨a.id,a.par,a.nm,(gN l a.id).dir,(gN l a.id).text⟩,(0:Int))=(l.set (ndx a.id l) ⟨(gN l a.id).id,a.par,a.nm,(gN l a.id).dir,(gN l a.id).text⟩,0)
   rw[h7]
theorem edi_eq {a:Ac} (hk:a.k=4):ediN l a=doN l a:=by
 rw[doN_k4 hk]
 unfold ediN
 by_cases h2:hasN l a.id=true
 case neg =>
  rw[if_pos (show hasN l a.id=false by simpa using h2),if_pos (show ¬ ndx a.id l < l.length from fun hc=>h2 ((qH l a.id).2 hc))]
 have h6:=kBS h2
 rw[if_neg (show ¬ (hasN l a.id=false) by rw[h2];decide),if_neg (show ¬ ¬ ndx a.id l < l.length from fun hc=>hc ((qH l a.id).1 h2))]
 split
 ·rfl
 split
 ·rfl
 obtain ⟨h7,h8,h9⟩:=kC4 h2
 have h10:=tot_set l (ndx a.id l) h7 ⟨(gN l a.id).id,(gN l a.id).par,(gN l a.id).nm,(gN l a.id).dir,jE (gN l a.id).text a.ops⟩
 rw[← h8]at h10
 simp only at h10
 have e:(totN l:Int) - cnt (gN l a.id).text+cnt (jE (gN l a.id).text a.ops)=(totN (l.set (ndx a.id l) ⟨(gN l a.id).id,(gN l a.id).par,(gN l a.id).nm,(gN l a.id).dir,jE (gN l a.id).text a.ops⟩):Int):=by omega
 rw[e]
 split
 ·rfl
 ·unfold setT
  rw[if_pos h2]
  show (l.set (ndx a.id l) ⟨a.id,(gN l a.id).par,(gN l a.id).nm,(gN l a.id).dir,jE (gN l a.id).text a.ops⟩,(0:Int))=(l.set (ndx a.id l) ⟨(gN l a.id).id,(gN l a.id).par,(gN l a.id).nm,(gN l a.id).dir,jE (gN l a.id).text a.ops⟩,0)
  rw[h6.2]
theorem dot_eq (a:Ac):dotN l a=doN l a:=by
 unfold dotN
 by_cases h:a.k < 1∨a.k > 4
 ·rw[if_pos h,doN_k0 h]
 rw[if_neg h]
 by_cases h1:a.k=1
 ·rw[if_pos h1];exact cre_eq S h1
 rw[if_neg h1]
 by_cases h2:a.k=2
 ·rw[if_pos h2];exact rem_eq S h2
 rw[if_neg h2]
 by_cases h3:a.k=3
 ·rw[if_pos h3];exact mov_eq S h3
 rw[if_neg h3]
 exact edi_eq S (by omega)
end
end Go.Proofs
end
-- ETr12
section
namespace Go.Proofs
open Go Go.Rw
set_option maxRecDepth 100000
theorem done_ok {s:List UInt8} {l:List Cp} (h:errI s l=0):(pts (jE s l)).isSome=true∧cnt (jE s l)≤2000:=by
 obtain ⟨h1,h2,h3,h4⟩:=err_zero h
 obtain ⟨c1,c2,c3,c4,c5,c6⟩:=kAG h1
 have hs:(pts s).isSome=true:=by rw[h2];rfl
 have hok:=do_okc l (cpts s) (kBg hs).2 (sound_texts c3)
 have e:jE s l=encs (doL (cpts s) l):=by unfold jE;rw[if_pos h]
 have ho:=out_do l (cpts s) 0 (by omega) h4 c6
 rw[e]
 refine ⟨by rw[pts_enc hok];rfl,?_⟩
 rw[kBJ,cpts_enc hok]
 have c6':outF 0 l≤2000:=c6
 omega
theorem doN_err {l:List Nd} {a:Ac} (h:(doN l a).2≠0):(doN l a).1=l:=by
 by_cases h0:a.k < 1∨a.k > 4
 ·rw[doN_k0 h0]
 rcases (show a.k=1∨a.k=2∨a.k=3∨a.k=4 by omega) with hk|hk|hk|hk
 ·rw[doN_k1 hk]at h ⊢
  repeat' split
  all_goals first|rfl|simp_all
 ·rw[doN_k2 hk]at h ⊢
  repeat' split
  all_goals first|rfl|simp_all
 ·rw[doN_k3 hk]at h ⊢
  repeat' split
  all_goals first|rfl|simp_all
 ·rw[doN_k4 hk]at h ⊢
  repeat' split
  all_goals first|rfl|(exfalso;rename_i q1 q2 q3 q4;rw[if_neg q1,if_neg q2,if_neg q3,if_neg q4]at h;exact h rfl)
theorem kFO {l l':List Nd} (A:Int→Prop) (h1:∀ i,A i→pf l' i=pf l i) (h2:∀ i,A i→A (pf l i)):∀ (k:Nat) (i:Int),A i→upN l' k i=upN l k i
 | 0,i,_=>rfl
 | k+1,i,h=>by rw [upN,upN,h1 i h];exact kFO A h1 h2 k _ (h2 i h)
section
variable {l:List Nd} (S:sndN l) {a:Ac} (h0:(doN l a).2=0)
include S h0
theorem do_mem {x:Nd} (hx:x∈(doN l a).1):(x.id=a.id∧kCr a (atI a.id l)=some x)∨(x∈l∧x.id≠a.id):=by
 obtain ⟨d1,d2⟩:=kFN h0 S.srt
 have:=at_mem d1 hx
 rw[d2]at this
 split at this
 ·rename_i he
  rw[he]at this
  exact .inl ⟨he,this⟩
 ·exact .inr ⟨(at_some this).1,by assumption⟩
theorem do_pf {i:Int} (hi:i≠a.id):gN (doN l a).1 i=gN l i∧hasN (doN l a).1 i=hasN l i:=by
 obtain ⟨d1,d2⟩:=kFN h0 S.srt
 rw[kEi,kEi,kAg,kAg,d2,if_neg hi]
 exact ⟨rfl,rfl⟩
theorem snd_cre (hk:a.k=1):sndN (doN l a).1:=by
 obtain ⟨d1,d2⟩:=kFN h0 S.srt
 have dm:=fun x hx=>do_mem S h0 (x:=x) hx
 have dp:=fun i hi=>do_pf S h0 (i:=i) hi
 have hpos:∀ x∈l,1≤x.id:=fun x hx=>(S.node x hx).id.1
 have hst:kCr a (atI a.id l)=some ⟨a.id,a.par,a.nm,a.dir,[]⟩:=by unfold kCr;rw[if_pos hk]
 have hat:atI a.id (doN l a).1=some ⟨a.id,a.par,a.nm,a.dir,[]⟩:=by rw[d2,if_pos rfl,hst]
 have hdo:=doN_k1 (l:=l) hk
 rw[hdo]at h0
 split at h0
 ·simp at h0
 rename_i c1
 split at h0
 ·simp at h0
 rename_i c2
 split at h0
 ·rename_i c3;exact absurd h0 c3
 rename_i c3
 split at h0
 ·simp at h0
 rename_i c4
 rw[if_neg c1,if_neg c2,if_neg c3,if_neg c4]at hdo
 have c3:j5 l a.par a.nm 0=0:=Decidable.not_not.1 c3
 have hno:hasN l a.id=false:=by
  rcases Bool.eq_false_or_eq_true (hasN l a.id) with hh|hh
  ·exact absurd ((qH l a.id).1 hh) c2
  ·exact hh
 have c1a:1≤a.id∧a.id≤1099511627776:=by omega
 have c1b:qE a.nm=true:=by
  rcases Bool.eq_false_or_eq_true (qE a.nm) with hh|hh
  ·exact hh
  ·exact absurd (.inr (.inr hh)) c1
 have hd:dirI l a.par=0:=by
  refine Decidable.not_not.1 fun hc=>?_
  rw[kCp hc]at c3;exact hc c3
 rw[kC0 hd,if_neg (show ¬ (a.par≠0∧(0:Int) > 0∧zQ l a.par 0=true) by omega)]at c3
 have hkid:¬ 1≤kid a.par a.nm l:=fun hc=>by
  unfold kEt at c3
  rw[if_pos (by omega)]at c3;omega
 obtain ⟨hin,hpd⟩:=dir_in hd
 have hinA:∀ i,inT l i→i≠a.id:=fun i hi=>by
  rcases hi with rfl|hi
  ·omega
  ·rintro rfl;rw[hno]at hi;cases hi
 have hup:∀ k i,inT l i→upN (doN l a).1 k i=upN l k i:=fun k i hi=>kFO (inT l) (fun i hi=>by unfold pf;rw[(dp i (hinA i hi)).1]) (fun i _=>pf_in S) k i hi
 refine ⟨d1,?_,?_,?_,?_,?_,?_⟩
 ·rw[hdo]
  have:=atN_le a.id l
  simp only[List.length_append,List.length_take,List.length_cons,List.length_drop]
  omega
 ·intro x hx
  rcases dm x hx with ⟨_,h⟩|⟨h,_⟩
  ·rw[hst]at h
   cases h
   exact ⟨c1a,c1b,fun _=>rfl,rfl,by simp[kBJ,cpts_nil]⟩
  ·exact S.node x h
 ·rw[hdo]
  have e1:=kB5 (l.take (atN a.id l)) (l.drop (atN a.id l))
  rw[List.take_append_drop]at e1
  have:=S.tot
  simp only[kB5,totN]
  have e2:cnt ([]:List UInt8)=0:=by simp[kBJ,cpts_nil]
  omega
 ·intro x hx y hy hp hn
  rcases dm x hx with ⟨e1,h1⟩|⟨h1,_⟩<;>rcases dm y hy with ⟨e2,h2⟩|⟨h2,_⟩
  ·rw[e1,e2]
  ·rw[hst]at h1;cases h1
   exact absurd ⟨hp.symm,hn.symm⟩ (kCh hpos hkid y h2)
  ·rw[hst]at h2;cases h2
   exact absurd ⟨hp,hn⟩ (kCh hpos hkid x h1)
  ·exact S.sib x h1 y h2 hp hn
 ·intro x hx
  have key:∀ p,(p=0∨(hasN l p=true∧(gN l p).dir=true))→(p=0∨(hasN (doN l a).1 p=true∧(gN (doN l a).1 p).dir=true)):=fun p hp=>by
   rcases hp with hp|⟨h1,h2⟩
   ·exact .inl hp
   ·obtain ⟨q1,q2⟩:=dp p (hinA p (.inr h1))
    rw[q1,q2];exact .inr ⟨h1,h2⟩
  rcases dm x hx with ⟨_,h⟩|⟨h,_⟩
  ·rw[hst]at h;cases h
   exact key _ hpd
  ·exact key _ (S.par x h)
 ·intro x hx
  rcases dm x hx with ⟨e,h⟩|⟨h,_⟩
  ·obtain ⟨k,hk⟩:=rt_in S hin
   refine ⟨k+1,?_⟩
   rw[e,upN]
   have:pf (doN l a).1 a.id=a.par:=by unfold pf;rw[kEi,hat];rfl
   rw[this,hup k _ hin,hk]
  ·obtain ⟨k,hk⟩:=S.rt x h
   exact ⟨k,by rw[hup k _ (.inr (kBt h)),hk]⟩
theorem snd_rem (hk:a.k=2):sndN (doN l a).1:=by
 obtain ⟨d1,d2⟩:=kFN h0 S.srt
 have dm:=fun x hx=>do_mem S h0 (x:=x) hx
 have dp:=fun i hi=>do_pf S h0 (i:=i) hi
 have hpos:∀ x∈l,1≤x.id:=fun x hx=>(S.node x hx).id.1
 have hst:kCr a (atI a.id l)=none:=by unfold kCr;rw[if_neg (by omega),if_pos hk]
 have hdo:=doN_k2 (l:=l) hk
 rw[hdo]at h0
 split at h0
 ·simp at h0
 rename_i c1
 split at h0
 ·simp at h0
 rename_i c2
 rw[if_neg c1,if_neg c2]at hdo
 have c1:=Decidable.not_not.1 c1
 obtain ⟨g1,g2⟩:=kBS ((qH l a.id).2 c1)
 have hid:=hpos _ g1
 rw[g2]at hid
 have hnp:∀ x∈l,x.par≠a.id:=fun x hx he=>c2 (List.any_eq_true.2 ⟨x,hx,by simpa using he⟩)
 have dm2:∀ x∈(doN l a).1,x∈l∧x.id≠a.id:=fun x hx=>by
  rcases dm x hx with ⟨_,h⟩|h
  ·rw[hst]at h;cases h
  ·exact h
 have hup:∀ k i,i≠a.id→upN (doN l a).1 k i=upN l k i:=fun k i hi=>kFO (fun i=>i≠a.id) (fun i hi=>by unfold pf;rw[(dp i hi).1]) (fun i _=>by
  rcases Bool.eq_false_or_eq_true (hasN l i) with hh|hh
  ·exact hnp _ (kBS hh).1
  ·rw[pf_no hh];omega) k i hi
 refine ⟨d1,?_,fun x hx=>S.node x (dm2 x hx).1,?_,fun x hx y hy=>S.sib x (dm2 x hx).1 y (dm2 y hy).1,?_,?_⟩
 ·rw[hdo]
  have:=S.len
  simp only[List.length_append,List.length_take,List.length_drop]
  omega
 ·rw[hdo]
  have e1:=kB5 (l.take (ndx a.id l)) (l.drop (ndx a.id l))
  rw[List.take_append_drop,List.drop_eq_getElem_cons c1,totN]at e1
  have:=S.tot
  simp only[kB5]
  omega
 ·intro x hx
  have hx2:=(dm2 x hx).1
  rcases S.par x hx2 with hp|⟨h1,h2⟩
  ·exact .inl hp
  ·obtain ⟨q1,q2⟩:=dp _ (hnp x hx2)
   rw[q1,q2];exact .inr ⟨h1,h2⟩
 ·intro x hx
  obtain ⟨h1,h2⟩:=dm2 x hx
  obtain ⟨k,hk⟩:=S.rt x h1
  exact ⟨k,by rw[hup k _ h2,hk]⟩
theorem snd_mov (hk:a.k=3):sndN (doN l a).1:=by
 obtain ⟨d1,d2⟩:=kFN h0 S.srt
 have dm:=fun x hx=>do_mem S h0 (x:=x) hx
 have dp:=fun i hi=>do_pf S h0 (i:=i) hi
 have hpos:∀ x∈l,1≤x.id:=fun x hx=>(S.node x hx).id.1
 have hdo:=doN_k3 (l:=l) hk
 rw[hdo]at h0
 split at h0
 ·simp at h0
 rename_i c1
 split at h0
 ·simp at h0
 rename_i c2
 split at h0
 ·rename_i c3;exact absurd h0 c3
 rename_i c3
 rw[if_neg c1,if_neg c2,if_neg c3]at hdo
 have c3:j5 l a.par a.nm a.id=0:=Decidable.not_not.1 c3
 have c2:=Decidable.not_not.1 c2
 have c2h:=(qH l a.id).2 c2
 have c1b:qE a.nm=true:=by
  rcases Bool.eq_false_or_eq_true (qE a.nm) with hh|hh
  ·exact hh
  ·exact absurd hh c1
 obtain ⟨g1,g2⟩:=kBS c2h
 have hid:=hpos _ g1
 rw[g2]at hid
 have hat0:atI a.id l=some (gN l a.id):=by have:=at_mem S.srt g1;rwa [g2]at this
 have hst:kCr a (atI a.id l)=some ⟨(gN l a.id).id,a.par,a.nm,(gN l a.id).dir,(gN l a.id).text⟩:=by
  unfold kCr;rw[if_neg (by omega),if_neg (by omega),if_pos hk,hat0];rfl
 have hat:atI a.id (doN l a).1=some ⟨(gN l a.id).id,a.par,a.nm,(gN l a.id).dir,(gN l a.id).text⟩:=by rw[d2,if_pos rfl,hst]
 have hd:dirI l a.par=0:=by
  refine Decidable.not_not.1 fun hc=>?_
  rw[kCp hc]at c3;exact hc c3
 obtain ⟨hin,hpd⟩:=dir_in hd
 rw[kC0 hd]at c3
 have hcy:¬ (a.par≠0∧a.id > 0∧zQ l a.par a.id=true):=fun hc=>by rw[if_pos hc]at c3;omega
 rw[if_neg hcy]at c3
 have hkid:1≤kid a.par a.nm l→kid a.par a.nm l=a.id:=fun hc=>by
  unfold kEt at c3
  refine Decidable.not_not.1 fun hne=>?_
  rw[if_pos ⟨by omega,hne⟩]at c3;omega
 have hnm:∀ k,upN l k a.par≠a.id:=fun k hc=>by
  by_cases hp0:a.par=0
  ·rw[hp0,kD6 S]at hc;omega
  ·exact hcy ⟨hp0,by omega,(kA2 S hin (by omega)).2 ⟨k,hc⟩⟩
 have dh:∀ i,hasN (doN l a).1 i=hasN l i∧(gN (doN l a).1 i).dir=(gN l i).dir:=fun i=>by
  by_cases hi:i=a.id
  ·rw[hi,kAg,kAg,kEi,hat,hat0]
   exact ⟨rfl,rfl⟩
  ·obtain ⟨q1,q2⟩:=dp i hi
   rw[q1,q2];exact ⟨rfl,rfl⟩
 have hpf:pf (doN l a).1 a.id=a.par:=by unfold pf;rw[kEi,hat];rfl
 -- from the new parent on the way is as it was
 have hup:∀ k,upN (doN l a).1 k a.par=upN l k a.par:=fun k =>
  kFO (fun i=>∃ j,i=upN l j a.par) (fun i hi=>by
   obtain ⟨j,rfl⟩:=hi
   unfold pf;rw[(dp _ (hnm j)).1]) (fun i hi=>by
   obtain ⟨j,rfl⟩:=hi
   exact ⟨j+1,(up_succ l j a.par).symm⟩) k a.par ⟨0,rfl⟩
 have hrt:∀ k i,upN l k i=0→∃ k',upN (doN l a).1 k' i=0:=fun k=>by
  induction k with
  | zero=>intro i hi;exact ⟨0,hi⟩
  | succ k ih =>
    intro i hi
    by_cases he:i=a.id
    ·obtain ⟨m,hm⟩:=rt_in S hin
     exact ⟨m+1,by rw[he,upN,hpf,hup,hm]⟩
    ·obtain ⟨m,hm⟩:=ih (pf l i) hi
     exact ⟨m+1,by rw[upN];unfold pf at hm ⊢;rw[(dp i he).1];exact hm⟩
 refine ⟨d1,?_,?_,?_,?_,?_,?_⟩
 ·rw[hdo]
  have:=S.len
  simpa using this
 ·intro x hx
  rcases dm x hx with ⟨_,h⟩|⟨h,_⟩
  ·rw[hst]at h;cases h
   have:=S.node _ g1
   exact ⟨this.id,c1b,this.dir,this.valid,this.cnt⟩
  ·exact S.node x h
 ·rw[hdo]
  have:=tot_set l (ndx a.id l) c2 ⟨(gN l a.id).id,a.par,a.nm,(gN l a.id).dir,(gN l a.id).text⟩
  obtain ⟨_,g4,_⟩:=kC4 c2h
  rw[← g4]at this
  have:=S.tot
  simp only at *
  omega
 ·have key:∀ y∈l,y.id≠a.id→¬ (y.par=a.par∧y.nm=a.nm):=fun y hy hne hc=>by
    by_cases hk1:1≤kid a.par a.nm l
    ·obtain ⟨x,hx,h1,h2,h3⟩:=kid_iff hpos hid (hkid hk1)
     have:=S.sib x hx y hy (h1.trans hc.1.symm) (h2.trans hc.2.symm)
     omega
    ·exact kCh hpos hk1 y hy hc
  intro x hx y hy hp hn
  rcases dm x hx with ⟨e1,h1⟩|⟨h1,n1⟩<;>rcases dm y hy with ⟨e2,h2⟩|⟨h2,n2⟩
  ·rw[e1,e2]
  ·rw[hst]at h1;cases h1
   exact absurd ⟨hp.symm,hn.symm⟩ (key y h2 n2)
  ·rw[hst]at h2;cases h2
   exact absurd ⟨hp,hn⟩ (key x h1 n1)
  ·exact S.sib x h1 y h2 hp hn
 ·intro x hx
  have k2:∀ p,(p=0∨(hasN l p=true∧(gN l p).dir=true))→(p=0∨(hasN (doN l a).1 p=true∧(gN (doN l a).1 p).dir=true)):=fun p hp=>by
   rw[(dh p).1,(dh p).2];exact hp
  rcases dm x hx with ⟨_,h⟩|⟨h,_⟩
  ·rw[hst]at h;cases h
   exact k2 _ hpd
  ·exact k2 _ (S.par x h)
 ·intro x hx
  rcases dm x hx with ⟨e,_⟩|⟨h,_⟩
  ·obtain ⟨m,hm⟩:=rt_in S hin
   exact ⟨m+1,by rw[e,upN,hpf,hup,hm]⟩
  ·obtain ⟨k,hk⟩:=S.rt x h
   exact hrt k _ hk
theorem snd_edi (hk:a.k=4):sndN (doN l a).1:=by
 obtain ⟨d1,d2⟩:=kFN h0 S.srt
 have dm:=fun x hx=>do_mem S h0 (x:=x) hx
 have dp:=fun i hi=>do_pf S h0 (i:=i) hi
 have hdo:=doN_k4 (l:=l) hk
 rw[hdo]at h0
 split at h0
 ·simp at h0
 rename_i c1
 split at h0
 ·simp at h0
 rename_i c2
 split at h0
 ·rename_i c3;exact absurd h0 c3
 rename_i c3
 split at h0
 ·simp at h0
 rename_i c4
 rw[if_neg c1,if_neg c2,if_neg c3,if_neg c4]at hdo
 have c1:=Decidable.not_not.1 c1
 have c1h:=(qH l a.id).2 c1
 obtain ⟨v1,v2⟩:=done_ok (Decidable.not_not.1 c3)
 obtain ⟨g1,g2⟩:=kBS c1h
 have hat0:atI a.id l=some (gN l a.id):=by have:=at_mem S.srt g1;rwa [g2]at this
 have hst:kCr a (atI a.id l)=some ⟨(gN l a.id).id,(gN l a.id).par,(gN l a.id).nm,(gN l a.id).dir,jE (gN l a.id).text a.ops⟩:=by
  unfold kCr;rw[if_neg (by omega),if_neg (by omega),if_neg (by omega),hat0];rfl
 have hat:atI a.id (doN l a).1=some ⟨(gN l a.id).id,(gN l a.id).par,(gN l a.id).nm,(gN l a.id).dir,jE (gN l a.id).text a.ops⟩:=by rw[d2,if_pos rfl,hst]
 have dh:∀ i,hasN (doN l a).1 i=hasN l i∧(gN (doN l a).1 i).dir=(gN l i).dir∧(gN (doN l a).1 i).par=(gN l i).par:=fun i=>by
  by_cases hi:i=a.id
  ·rw[hi,kAg,kAg,kEi,hat,hat0]
   exact ⟨rfl,rfl,rfl⟩
  ·obtain ⟨q1,q2⟩:=dp i hi
   rw[q1,q2];exact ⟨rfl,rfl,rfl⟩
 have hup:∀ k i,upN (doN l a).1 k i=upN l k i:=fun k i=>kFO (fun _=>True) (fun i _=>(dh i).2.2) (fun _ _=>trivial) k i trivial
 -- each node's like in the tree as it was
 have like:∀ x∈(doN l a).1,∃ y∈l,y.id=x.id∧y.par=x.par∧y.nm=x.nm∧y.dir=x.dir:=fun x hx=>by
  rcases dm x hx with ⟨_,h⟩|⟨h,_⟩
  ·rw[hst]at h;cases h
   exact ⟨_,g1,rfl,rfl,rfl,rfl⟩
  ·exact ⟨x,h,rfl,rfl,rfl,rfl⟩
 refine ⟨d1,?_,?_,?_,?_,?_,?_⟩
 ·rw[hdo]
  have:=S.len
  simpa using this
 ·intro x hx
  rcases dm x hx with ⟨_,h⟩|⟨h,_⟩
  ·rw[hst]at h;cases h
   have:=S.node _ g1
   exact ⟨this.id,this.nm,fun hd=>absurd hd c2,v1,v2⟩
  ·exact S.node x h
 ·rw[hdo];simp only;omega
 ·intro x hx y hy hp hn
  obtain ⟨x',hx',e1,e2,e3,_⟩:=like x hx
  obtain ⟨y',hy',e5,e6,e7,_⟩:=like y hy
  rw[← e1,← e5]
  exact S.sib x' hx' y' hy' (by rw[e2,e6,hp]) (by rw[e3,e7,hn])
 ·intro x hx
  obtain ⟨x',hx',e1,e2,e3,_⟩:=like x hx
  rw[← e2,(dh _).1,(dh _).2.1]
  exact S.par x' hx'
 ·intro x hx
  obtain ⟨x',hx',e1,_⟩:=like x hx
  obtain ⟨k,hk⟩:=S.rt x' hx'
  exact ⟨k,by rw[hup,← e1,hk]⟩
omit h0 in
theorem snd_do (a:Ac):sndN (doN l a).1:=by
 by_cases h0:(doN l a).2=0
 ·by_cases hk:a.k < 1∨a.k > 4
  ·rw[doN_k0 hk];exact S
  rcases (show a.k=1∨a.k=2∨a.k=3∨a.k=4 by omega) with hk|hk|hk|hk
  ·exact snd_cre S h0 hk
  ·exact snd_rem S h0 hk
  ·exact snd_mov S h0 hk
  ·exact snd_edi S h0 hk
 ·rw[doN_err h0];exact S
end
end Go.Proofs
end
-- ETr13
section
namespace Go.Proofs
open Go Go.Rw
set_option maxRecDepth 100000
theorem kBZ {t:List UInt8} (h:(pts t).isSome=true):t.length≤4 * cnt t:=by
 rw[kBJ]
 have:=kFD (cs:=cpts t)
 rwa [(kBg h).1]at this
theorem snd_ok {l:List Nd} (S:sndN l):trOk l:=by
 have hl:=S.len
 refine ⟨⟨by omega,fun x hx=>?_⟩,fun x hx=>(S.node x hx).id.1,?_,fun x hx=>?_⟩
 ·have:=(S.node x hx).id;omega
 ·have:=S.tot;omega
 ·have:=kBZ (S.node x hx).valid
  have:=(S.node x hx).cnt;omega
theorem snd_doOk {l:List Nd} (S:sndN l) {a:Ac} (ho:okA a):doOk l a:=⟨snd_ok S,snd_rt S,ho.2,ho.1⟩
def txnP (s:TS) (l:List Ac) (objs:List AO) (lvs:List (Nat×Nat)) (r:AV):Prop :=
 lvs=[]∧((allN s.l l).e=0∧(∃ s':TS,s'.l=(allN s.l l).now∧sndN s'.l∧objs=tsO (some s)++[.cells [.mp 3],.map s'.es s'.cl])∧r = .tup [.ptr 2 0,.v (.int .i64 (allN s.l l).n),.v (.int .i64 0)] ∨
  (allN s.l l).e≠0∧objs=tsO (some s)∧r = .tup [.v (.pointer none),.v (.int .i64 (allN s.l l).n),.v (.int .i64 (allN s.l l).e)])
abbrev ttxnCon:ConO where
 ι:={ p:TS×List Ac // sndN p.1.l∧p.2.length≤1000000∧∀ a∈p.2,okA a }
 objs:=fun p=>tsO (some p.1.1)
 args:=fun p=>[.ptr 0 0,.sl 0 6 (acts p.1.2)]
 post:=fun p=>txnP p.1.1 p.1.2
theorem allF_cons (t:List Nd) (a:Ac) (r:List Ac) (n:Nat):allF t (a::r) n=if (doN t a).2≠0 then ⟨[],n,(doN t a).2⟩ else allF (doN t a).1 r (n+1):=rfl
set_option maxHeartbeats 2000000 in
theorem ttxn_good:jT Tryz.prog 46 ttxnCon:=by
 have hΓ:kM Tryz.prog [(35,kBc)]:=(kI kFK kJ)
 refine qS (nn:=33) Tryz.func46 (by kernel_rfl) rfl (show Tryz.f46.results.toList=[.tmp 4,.tmp 5,.tmp 6] from rfl) (fun _=>rfl) ?_
 rintro ⟨⟨s,l⟩,hS,hl,ho⟩
 simp only at hS hl ho
 refine qR hΓ (Ws:=[]) _ ?_
 simp only[aR,seval,kA,kB,kF]
 refine vcM_sc ?_
 refine vc_scopeM [] hΓ 1 ?_
 simp only[aR,seval,kA,kB,kF]
 (repeat (with_reducible refine And.intro ?_ ?_;focus (first|omega|exact kD|kernel_rfl)))
 refine kFS (by simp[kH]) rfl hl ho ?_
 by_cases hc:txnE l=0
 case neg =>
  have e0:allN s.l l=⟨[],-1,txnE l⟩:=by unfold allN;rw[if_pos hc]
  simp only[aR,seval,kA,kB,kF,hc]
  (repeat (with_reducible refine And.intro ?_ ?_;focus (first|omega|exact kD|kernel_rfl)))
  refine kT [0,1] [] (tsO (some s)) [] (.tup [.v (.pointer none),.v (.int .i64 (-1)),.v (.int .i64 (txnE l))]) ⟨rfl,.inr ⟨by rw[e0];exact hc,rfl,by rw[e0]⟩⟩ ?_
  simp only[aR,seval,kA,kB,kF]<;>((repeat' apply And.intro)<;>first|rfl|omega|trivial)
 have e0:allN s.l l=allF s.l l 0:=by unfold allN;rw[if_neg (fun hh=>hh hc)]
 simp only[aR,seval,kA,kB,kF,hc]
 (repeat (with_reducible refine And.intro ?_ ?_;focus (first|omega|exact kD|kernel_rfl)))
 refine call_tcopy (s:=s) (o:=0) (ob:=1) (by simp[kH,k5]) (by simp[qK]) ?_
 simp only[aR,seval,kA,kB,kF,k8]
 (repeat (with_reducible refine And.intro ?_ ?_;focus (first|omega|exact kD|kernel_rfl)))
 obtain ⟨St,hSt⟩:∃ St:{ p:Nat×TS // p.1≤l.length∧sndN p.2.l∧allF s.l l 0=allF p.2.l (l.drop p.1) p.1 }→AS,∀ p,St p=AS.ofH 33 [(1,.sl 0 6 (acts l)),(4,.ptr 2 0),(15,.v (.int .i64 l.length)),(16,.v (.int .i64 p.1.1))] [(0,.ptr 0 0),(1,.mp 1)] (tsO (some s)++[.cells [.mp 3],.map p.1.2.es p.1.2.cl]) []:=⟨_,fun _=>rfl⟩
 refine kA9 ?_
 refine zK [] hΓ St (fun p=>l.length - p.1.1) ⟨(0,s),by omega,hS,rfl⟩ (by rw[hSt];refine kZ [0,1,2,3] [] ?_;simp only[aR,seval,kA,kB,kF,k8,List.cons_append,List.nil_append]<;>((repeat' apply And.intro)<;>first|rfl|omega|trivial)) ?_
 rintro ⟨⟨i,s'⟩,hi,hS',hf⟩
 simp only at hi hS' hf
 rw[hSt]
 simp only
 simp only[aR,seval,kA,kB,kF,k8,List.cons_append,List.nil_append]
 (with_reducible first|refine kE (fun h=>?_) (fun h=>?_)|refine kG (fun h=>?_) (fun h=>?_))
 ·have hlt:i < l.length:=by omega
  have e1:=kAo l hlt
  have hoa:=ho l[i] (List.getElem_mem hlt)
  rw[List.drop_eq_getElem_cons hlt,allF_cons]at hf
  generalize l[i]=a at *
  simp only[aR,seval,kA,kB,kF,h,e1,k8,aA]
  (repeat (with_reducible refine And.intro ?_ ?_;focus (first|omega|exact kD|kernel_rfl)))
  refine kC2 (s:=s') (o:=2) (ob:=3) (q:=dotN s'.l a) tdo_good (by simp[kH,k5]) ⟨(s',a),snd_doOk hS' hoa⟩ rfl (by simp[qK]) (by simp[dnL,dn,aA]) (by simp[AV.tagsL,AV.tags]) (fun _ _ _ hp=>hp) ?_
  rw[dot_eq hS']
  intro s'' hs
  have hS2:sndN s''.l:=by rw[hs];exact snd_do hS' a
  by_cases he:(doN s'.l a).2=0
  ·rw[if_neg (fun hh=>hh he),← hs]at hf
   simp only[aR,seval,kA,kB,kF,he,kC (n:=(i:Int)+1) (by omega) (by omega)]
   (repeat (with_reducible refine And.intro ?_ ?_;focus (first|omega|exact kD|kernel_rfl)))
   refine kN ⟨(i+1,s''),by simp only;omega,hS2,hf⟩ (by simp only;omega) ?_
   rw[hSt];refine kZ [0,1,2,3] [] ?_
   simp only[aR,seval,kA,kB,kF,List.cons_append,List.nil_append]<;>((repeat' apply And.intro)<;>first|rfl|omega|trivial)
  ·rw[if_pos he,← e0]at hf
   simp only[aR,seval,kA,kB,kF,he]
   (repeat (with_reducible refine And.intro ?_ ?_;focus (first|omega|exact kD|kernel_rfl)))
   refine ⟨_,rfl,?_⟩
   simp only[aR,seval,kA,kB,kF,he]
   (repeat (with_reducible refine And.intro ?_ ?_;focus (first|omega|exact kD|kernel_rfl)))
   refine kT [0,1] [] (tsO (some s)) [] (.tup [.v (.pointer none),.v (.int .i64 i),.v (.int .i64 (doN s'.l a).2)]) ⟨rfl,.inr ⟨by rw[hf];exact he,rfl,by rw[hf]⟩⟩ ?_
   simp only[aR,seval,kA,kB,kF]<;>((repeat' apply And.intro)<;>first|rfl|omega|trivial)
 ·have hi2:i=l.length:=by omega
  subst hi2
  rw[List.drop_length,allF,← e0]at hf
  simp only[aR,seval,kA,kB,kF,h,k8]
  (repeat (with_reducible refine And.intro ?_ ?_;focus (first|omega|exact kD|kernel_rfl)))
  refine kT [0,1,2,3] [] (tsO (some s)++[.cells [.mp 3],.map s'.es s'.cl]) [] (.tup [.ptr 2 0,.v (.int .i64 l.length),.v (.int .i64 0)]) ⟨rfl,.inl ⟨by rw[hf],⟨s',by rw[hf],hS',rfl⟩,by rw[hf]⟩⟩ ?_
  simp only[aR,seval,kA,kB,kF,List.cons_append,List.nil_append]<;>((repeat' apply And.intro)<;>first|rfl|omega|trivial)
end Go.Proofs
end
-- ETr20
section
namespace Go.Proofs
open Go Go.Rw
set_option maxRecDepth 100000
abbrev Ky:=Int×List UInt8
def kV (p:Ky):Value:=nV ⟨0,p.1,p.2,false,[]⟩
def entL:List (Ky×Int)→Nat→List MapEntry
 | [],_=>[]
 | (p,c)::r,i=>{ key:=kV p,val:=.int .i64 c,born:=i }::entL r (i+1)
structure NM (es:Array MapEntry) (cl:Nat) (ps:List (Ky×Int)):Prop where
 es:es.toList=entL ps 0
 cl:cl=ps.length
 nd:(ps.map Prod.fst).Nodup
def fndP (p:Ky):List (Ky×Int)→Nat→Option (Nat×Value)
 | [],_=>none
 | (q,c)::r,i=>if q=p then some (i,.int .i64 c) else fndP p r (i+1)
theorem equal_kV (p q:Ky):calm Tryz.prog (Op.equal 42 (kV p) (kV q))=some (decide (p=q)):=by
 have e:Op.maxDepth=9998+2:=rfl
 have h:=calm_eq5 (P:=Tryz.prog) (d:=9998) (t:=42) (ti:=3) (ts:=9) (tb:=4) (k:=.i64) (a:=0) (a':=0) (b:=p.1) (b':=q.1) (s:=p.2) (s':=q.2) (q:=false) (q':=false) (u:=[]) (u':=[]) (by kernel_rfl) (by kernel_rfl) (by kernel_rfl) (by kernel_rfl) (by kernel_rfl)
 unfold Op.equal
 rw[e]
 refine h.trans ?_
 congr 1
 obtain ⟨p1,p2⟩:=p
 obtain ⟨q1,q2⟩:=q
 by_cases h1:p1=q1<;>by_cases h2:p2=q2<;>simp[h1,h2]
theorem ask_all (p:Ky):∀ (ps:List (Ky×Int)) (n i:Nat),calm Tryz.prog (Instr.findAsking 42 (kV p) (entL ps n) i)=some (fndP p ps i)
 | [],n,i=>rfl
 | (q,c)::r,n,i=>by
   rw[entL,Instr.findAsking,kX,equal_kV,Option.bind_some,fndP]
   by_cases h:p=q
   ·subst h;simp
   ·rw[decide_eq_false h,if_neg (Ne.symm h)]
    simpa using ask_all p r (n+1) (i+1)
theorem chk_kV (b:Bool) (p:Ky):calm Tryz.prog (Instr.checkKey b 10000 42 (kV p))=some ():=by
 obtain ⟨p1,p2⟩:=p
 rfl
theorem und_kV:Tryz.prog.underlying 82=some (.map 42 3):=by kernel_rfl
theorem ask_nm {es:Array MapEntry} {cl:Nat} {ps:List (Ky×Int)} (h:NM es cl ps) (b:Bool) (p:Ky):askK Tryz.prog 82 b (kV p) es.toList=some (fndP p ps 0):=by
 unfold askK
 rw[und_kV]
 simp only
 rw[chk_kV,Option.bind_some,h.es]
 unfold Instr.findKey
 obtain ⟨fs,hu⟩:∃ fs,Tryz.prog.underlying 42=some (.struct fs):=by
  have h5:is5 Tryz.prog 42 3 9 4=true:=by kernel_rfl
  unfold is5 at h5
  split at h5
  ·exact ⟨_,by assumption⟩
  ·cases h5
 rw[kX]
 simp only[underlying,kX,qF,Option.bind_some,hu]
 cases ps with
 | nil=>simp [entL,Instr.findNow,fndP,kAM]
 | cons q r =>
   obtain ⟨q,c⟩:=q
   have:Instr.findNow (.struct fs) (kV p) (entL ((q,c)::r) 0) 0=none:=rfl
   simp only[kAM,Option.bind_some,this]
   exact ask_all p _ 0 0
def cntK (p:Ky):List (Ky×Int)→Int
 | []=>0
 | (q,c)::r=>if q=p then c else cntK p r
theorem kEC {p:Ky}:∀ {ps:List (Ky×Int)} {n i:Nat} {v:Value},fndP p ps n=some (i,v)→∃ j c,i=n+j∧ps[j]? = some (p,c)∧v = .int .i64 c∧cntK p ps=c
 | [],n,i,v,h=>by cases h
 | (q,c)::r,n,i,v,h=>by
   rw[fndP]at h
   split at h
   ·rename_i hq
    subst hq
    cases h
    exact ⟨0,c,by omega,rfl,rfl,by rw[cntK,if_pos rfl]⟩
   ·rename_i hq
    obtain ⟨j,c2,h1,h2,h3,h4⟩:=kEC h
    exact ⟨j+1,c2,by omega,by simpa using h2,h3,by rw[cntK,if_neg hq,h4]⟩
theorem kDA {p:Ky}:∀ {ps:List (Ky×Int)} {n:Nat},fndP p ps n=none→p ∉ ps.map Prod.fst∧cntK p ps=0
 | [],n,_=>by simp [cntK]
 | (q,c)::r,n,h=>by
   rw[fndP]at h
   split at h
   ·cases h
   ·rename_i hq
    obtain ⟨h1,h2⟩:=kDA h
    refine ⟨?_,by rw[cntK,if_neg hq,h2]⟩
    simp only[List.map_cons,List.mem_cons,not_or]
    exact ⟨fun hc=>hq hc.symm,h1⟩
theorem look_nm {es:Array MapEntry} {cl:Nat} {ps:List (Ky×Int)} (h:NM es cl ps) (p:Ky):lookS Tryz.prog 82 (kV p) es false=some (.v (.int .i64 (cntK p ps))):=by
 unfold lookS
 rw[ask_nm h]
 cases hf:fndP p ps 0 with
 | none =>
   have e1:kB2 Tryz.prog 82=some 3:=by kernel_rfl
   have e2:jY Tryz.prog 3=some (.v (.int .i64 0)):=by kernel_rfl
   simp only[e1,e2,Option.map_some,(kDA hf).2]
   rfl
 | some q =>
   obtain ⟨i,v⟩:=q
   obtain ⟨j,c,_,_,rfl,h4⟩:=kEC hf
   rw[h4];rfl
theorem entL_len:∀ (ps:List (Ky×Int)) (n:Nat),(entL ps n).length=ps.length
 | [],_=>rfl
 | (p,c)::r,n=>by simp [entL,entL_len r]
theorem entL_get:∀ (ps:List (Ky×Int)) (n j:Nat),(entL ps n)[j]? = (ps[j]?).map fun q=>{ key:=kV q.1,val:=.int .i64 q.2,born:=n+j }
 | [],_,_=>by simp [entL]
 | (p,c)::r,n,0=>by simp [entL]
 | (p,c)::r,n,j+1=>by
   simp only[entL,List.getElem?_cons_succ]
   rw[entL_get r (n+1) j]
   cases r[j]? with
   | none=>rfl
   | some q=>simp only [Option.map_some];congr 2;omega
theorem entL_app (ps:List (Ky×Int)) (p:Ky) (c:Int) (n:Nat):entL (ps++[(p,c)]) n=entL ps n++[{ key:=kV p,val:=.int .i64 c,born:=n+ps.length }]:=by
 induction ps generalizing n with
 | nil=>rfl
 | cons q r ih =>
   obtain ⟨q,d⟩:=q
   simp only[List.cons_append,entL,ih,List.length_cons]
   congr 3;congr 1;omega
def layK (p:Ky) (ps:List (Ky×Int)):List (Ky×Int):=if (fndP p ps 0).isSome then ps else ps++[(p,0)]
theorem ba_beq (d:Array UInt8):((⟨d⟩:ByteArray) == ⟨d⟩)=true:=(beq_self_eq_true d:(d == d)=true)
theorem same_kV (p:Ky):Instr.sameBits 10000 (kV p) (kV p)=true:=by
 obtain ⟨p1,p2⟩:=p
 simp[kV,nV,Instr.sameBits,sv,ba_beq]
theorem cnt_app {p:Ky}:∀ {ps:List (Ky×Int)},p ∉ ps.map Prod.fst→cntK p (ps++[(p,0)])=0
 | [],_=>by simp [cntK]
 | (q,c)::r,h=>by
   simp only[List.map_cons,List.mem_cons,not_or]at h
   rw[List.cons_append,cntK,if_neg (Ne.symm h.1),cnt_app h.2]
theorem get_es {es:Array MapEntry} {cl:Nat} {ps:List (Ky×Int)} (h:NM es cl ps) (j:Nat):es[j]? = (ps[j]?).map fun q=>{ key:=kV q.1,val:=.int .i64 q.2,born:=j }:=by
 rw[← Array.getElem?_toList,h.es,entL_get]
 simp
theorem size_nm {es:Array MapEntry} {cl:Nat} {ps:List (Ky×Int)} (h:NM es cl ps):es.size=ps.length:=by
 rw[← Array.length_toList,h.es,entL_len]
theorem cnt_lay (p:Ky) (ps:List (Ky×Int)):cntK p (layK p ps)=cntK p ps:=by
 unfold layK
 cases hf:fndP p ps 0 with
 | none =>
   obtain ⟨h1,h2⟩:=kDA hf
   simp only[Option.isSome_none,Bool.false_eq_true,if_false]
   rw[cnt_app h1,h2]
 | some q=>rfl
theorem mod_same {es:Array MapEntry} {i:Nat} {e:MapEntry} (h:es[i]? = some e) {k:Value} (hk:e.key=k):(es.modify i fun e=>{ e with key:=k })=es:=by
 apply Array.ext (by simp)
 intro j h1 h2
 rw[Array.getElem_modify]
 split
 ·rename_i hj
  subst hj
  rw[Array.getElem?_eq_getElem h2]at h
  cases h
  subst hk
  rfl
 ·rfl
theorem ent_nm {es:Array MapEntry} {cl:Nat} {ps:List (Ky×Int)} (h:NM es cl ps) (p:Ky):∃ es' cl' i,entA Tryz.prog 82 (kV p) es cl=some (.map es' cl',.tup [.v (.int .i64 (cntK p ps)),.v (.int .i64 (i:Nat))])∧NM es' cl' (layK p ps)∧(layK p ps)[i]? = some (p,cntK p ps):=by
 have hs:=h
 unfold entA
 rw[ask_nm h]
 cases hf:fndP p ps 0 with
 | none =>
   obtain ⟨h1,h2⟩:=kDA hf
   have e1:kB2 Tryz.prog 82=some 3:=by kernel_rfl
   have e3:∃ a b c d,tiOf Tryz.prog 3=some ⟨a,b,some (.int .i64 0),c,d⟩:=by
    have:((tiOf Tryz.prog 3).bind fun ti=>ti.zero)=some (.int .i64 0):=by kernel_rfl
    obtain ⟨ti,q1,q2⟩:=Option.bind_eq_some_iff.1 this
    obtain ⟨a,b,z,c,d⟩:=ti
    simp only at q2
    subst q2
    exact ⟨a,b,c,d,q1⟩
   obtain ⟨a,b,c,d,e3⟩:=e3
   have hl:layK p ps=ps++[(p,0)]:=by unfold layK;rw[hf];rfl
   refine ⟨es.push { key:=kV p,val:=.int .i64 0,born:=cl },cl+1,cl,?_,?_,?_⟩
   ·simp only[e1,e3,h2];rfl
   ·rw[hl]
    refine ⟨?_,by rw[h.cl];simp,?_⟩
    ·rw[Array.toList_push,h.es,entL_app,h.cl];simp
    ·rw[List.map_append,List.nodup_append]
     refine ⟨h.nd,by simp,fun x hx y hy=>?_⟩
     simp only[List.map_cons,List.map_nil,List.mem_singleton]at hy
     subst hy
     rintro rfl
     exact h1 hx
   ·rw[hl,h.cl,h2];simp
 | some q =>
   obtain ⟨i,v⟩:=q
   obtain ⟨j,c,h1,h2,rfl,h4⟩:=kEC hf
   rw[Nat.zero_add]at h1
   subst h1
   have hl:layK p ps=ps:=by unfold layK;rw[hf];rfl
   have hg:es[i]? = some { key:=kV p,val:=.int .i64 c,born:=i }:=by rw[get_es h,h2];rfl
   refine ⟨es,cl,i,?_,by rw[hl];exact h,by rw[hl,h4];exact h2⟩
   simp only[hg,Option.map_some,Option.getD_some,same_kV,if_true,mod_same hg rfl,h4]
   rfl
theorem put_nm {es:Array MapEntry} {cl:Nat} {ps:List (Ky×Int)} (h:NM es cl ps) {i:Nat} {p:Ky} {c:Int} (hi:ps[i]? = some (p,c)) (c':Int) :
    es.findIdx? (fun e=>(e.born:Int) == ((i:Nat):Int))=some i∧NM (es.modify i fun e=>{ e with val:=.int .i64 c' }) cl (ps.set i (p,c')):=by
 have hlt:=(List.getElem?_eq_some_iff.1 hi).1
 have hsz:=size_nm h
 have hb:∀ (j:Nat) (hj:j < es.size),es[j].born=j:=fun j hj=>by
  have:=get_es h j
  rw[Array.getElem?_eq_getElem hj,List.getElem?_eq_getElem (by omega)]at this
  simp only[Option.map_some,Option.some.injEq]at this
  rw[this]
 refine ⟨?_,?_,by rw[List.length_set];exact h.cl,?_⟩
 ·rw[Array.findIdx?_eq_some_iff_getElem]
  refine ⟨by omega,by rw[hb];simp,fun j hj=>?_⟩
  rw[hb];simp;omega
 ·apply List.ext_getElem?
  intro j
  rw[Array.getElem?_toList,Array.getElem?_modify,entL_get,List.getElem?_set,get_es h]
  by_cases hj:i=j
  ·subst hj
   rw[if_pos rfl,if_pos rfl,if_pos hlt,hi]
   simp
  ·rw[if_neg hj,if_neg hj];simp
 ·have:(ps.set i (p,c')).map Prod.fst=ps.map Prod.fst:=by
    rw[List.map_set]
    apply List.ext_getElem?
    intro j
    rw[List.getElem?_set]
    split
    ·rename_i hj
     subst hj
     rw[List.getElem?_map,hi,List.length_map,if_pos hlt];rfl
    ·rfl
  rw[this];exact h.nd
end Go.Proofs
end
-- ETr21
section
namespace Go.Proofs
open Go Go.Rw
set_option maxRecDepth 100000
def okB (x:Nd):Bool:=decide (1≤x.id∧x.id≤1099511627776) && qE x.nm && (pts x.text).isSome && decide (cnt x.text≤2000) && (!x.dir || decide (x.text=[]))
theorem okB_iff (x:Nd):okB x=true↔okNd x:=by
 unfold okB
 simp only[Bool.and_eq_true,decide_eq_true_eq,Bool.or_eq_true,Bool.not_eq_true']
 constructor
 ·rintro ⟨⟨⟨⟨h1,h2⟩,h3⟩,h4⟩,h5⟩
  exact ⟨h1,h2,fun hd=>by rcases h5 with h5|h5;rw[hd]at h5;cases h5;exact h5,h3,h4⟩
 ·rintro ⟨h1,h2,h3,h4,h5⟩
  refine ⟨⟨⟨⟨h1,h2⟩,h4⟩,h5⟩,?_⟩
  cases hd:x.dir
  ·exact .inl rfl
  ·exact .inr (h3 hd)
abbrev okNCon:Con where
 ι:={ x:Nd // x.nm.length≤1099511627776∧x.text.length≤1099511627776 }
 args:=fun p=>[nA p.1]
 post:=fun p r=>r = .v (.bool (okB p.1))
 plain:=true
set_option maxHeartbeats 1000000 in
theorem okn_good:Rw.Good Tryz.prog 51 okNCon:=by
 have hΓ:kM Tryz.prog [(95,kBK),(30,kBQ)]:=(kI kBh (kI kCw kJ))
 refine kY (nn:=42) hΓ Tryz.func51 (by kernel_rfl) rfl (show Tryz.f51.results.toList=[.tmp 2] from rfl) (fun _=>rfl) (fun x=>by simp[AV.erL,nA_er]) ?_
 rintro ⟨⟨id,par,nm,dir,tx⟩,hn,ht⟩
 simp only at hn ht
 simp only[aR,seval,nA]
 refine kAk (by simp[kH]) ht ?_
 rw[kBr]
 have e0:okB ⟨id,par,nm,dir,tx⟩=(decide (1≤id∧id≤1099511627776) && qE nm && (pts tx).isSome && decide (cnt tx≤2000) && (!dir || decide (tx=[]))):=rfl
 by_cases h1:id ≥ 1
 case neg =>
  simp only[aR,seval,h1]
  rw[e0,decide_eq_false (by omega)];simp
 by_cases h2:id≤1099511627776
 case neg =>
  simp only[aR,seval,h1,h2]
  rw[e0,decide_eq_false (by omega)];simp
 rw[decide_eq_true (show 1≤id∧id≤1099511627776 from ⟨h1,h2⟩)]at e0
 simp only[aR,seval,h1,h2]
 refine kAw (by simp[kH]) hn ?_
 rcases Bool.eq_false_or_eq_true (qE nm) with h3|h3
 case inr=>simp only[aR,seval,h3];rw[e0,h3];rfl
 rw[h3]at e0
 rcases Bool.eq_false_or_eq_true (pts tx).isSome with h4|h4
 case inr =>
  have h4f:((pts tx).isSome=true)=False:=by rw[h4];simp
  simp only[aR,seval,h3,h4f];rw[e0,h4];rfl
 have h4t:((pts tx).isSome=true)=True:=eq_true h4
 rw[h4]at e0
 by_cases h5:(cnt tx:Int)≤2000
 case neg =>
  simp only[aR,seval,h3,h4t,h5];rw[e0,decide_eq_false (by omega)];rfl
 rw[decide_eq_true (show cnt tx≤2000 by omega)]at e0
 cases dir
 ·simp only[aR,seval,h3,h4t,h5];rw[e0];rfl
 ·simp only[aR,seval,h3,h4t,h5];rw[e0];rfl
end Go.Proofs
end
-- ETr14
section
namespace Go.Proofs
open Go Go.Rw
set_option maxRecDepth 100000
theorem bkI_hi (x:Int) (l:List Int):∀ k,k≤l.length→∀ j,bkI x l k≤j→(h:j < l.length)→j < k→l[j] > x
 | 0,_,j,_,_,h=>by omega
 | k+1,hk,j,hb,hl,hj=>by
   rw[bkI]at hb
   split at hb
   ·rename_i h1
    by_cases hjk:j < k
    ·exact bkI_hi x l k (by omega) j hb hl hjk
    ·have:j=k:=by omega
     subst this
     rwa [List.getD_eq_getElem?_getD,List.getElem?_eq_getElem hl]at h1
   ·omega
theorem bkI_lo (x:Int) (l:List Int):∀ k,k≤l.length→0 < bkI x l k→l.getD (bkI x l k - 1) 0≤x
 | 0,_,h=>by rw [bkI] at h;omega
 | k+1,hk,h=>by
   rw[bkI]at h ⊢
   split at h
   ·rename_i h1
    rw[if_pos h1];exact bkI_lo x l k (by omega) h
   ·rename_i h1
    rw[if_neg h1]
    simp only[Nat.add_sub_cancel];omega
def risI (l:List Int):Prop:=l.Pairwise (·< ·)
theorem insI_ris {l:List Int} (h:risI l) (x:Int):risI (insI l x):=by
 have hb:=bkI_le x l l.length
 unfold insI
 split
 ·exact h
 ·rename_i hn
  have hlo:=bkI_lo x l l.length (Nat.le_refl _)
  have hhi:=bkI_hi x l l.length (Nat.le_refl _)
  generalize bkI x l l.length=b at *
  unfold risI at *
  have h0:=h
  rw[← List.take_append_drop b l,List.pairwise_append]at h
  obtain ⟨h1,h2,h3⟩:=h
  have hd:∀ y∈l.drop b,x < y:=fun y hy=>by
   obtain ⟨j,hj,rfl⟩:=List.getElem_of_mem hy
   simp only[List.length_drop]at hj
   rw[List.getElem_drop]
   exact hhi (b+j) (by omega) (by omega) (by omega)
  have ht:∀ y∈l.take b,y < x:=fun y hy=>by
   obtain ⟨j,hj,rfl⟩:=List.getElem_of_mem hy
   simp only[List.length_take]at hj
   rw[List.getElem_take]
   have h4:0 < b:=by omega
   have h5:=hlo h4
   have h6:l.getD (b - 1) 0=l[b - 1]'(by omega):=by rw[List.getD_eq_getElem?_getD,List.getElem?_eq_getElem (by omega)];rfl
   have h7:l.getD (b - 1) 0≠x:=fun hc=>hn ⟨h4,hc⟩
   rw[h6]at h5 h7
   by_cases hj2:j=b - 1
   ·subst hj2;omega
   ·have:=List.pairwise_iff_getElem.1 h0 j (b - 1) (by omega) (by omega) (by omega)
    omega
  rw[List.pairwise_append,List.pairwise_cons]
  refine ⟨h1,⟨hd,h2⟩,fun y hy z hz=>?_⟩
  rcases List.mem_cons.1 hz with rfl|hz
  ·exact ht y hy
  ·have:=ht y hy;have:=hd z hz;omega
theorem fold_ris:∀ (xs:List Int) {l:List Int},risI l→risI (xs.foldl insI l)
 | [],l,h=>h
 | x::xs,l,h=>fold_ris xs (insI_ris h x)
theorem kEr:∀ (l:List Ac) {out:List Int},risI out→risI (kAa out l)
 | [],out,h=>h
 | a::l,out,h=>kEr l (fold_ris _ h)
theorem ris_ext {a b:List Int} (ha:risI a) (hb:risI b) (h:∀ x,x∈a↔x∈b):a=b:=by
 have na:a.Nodup:=ha.imp fun h=>by omega
 have nb:b.Nodup:=hb.imp fun h=>by omega
 exact List.Perm.eq_of_pairwise (le:=(·< ·)) (fun x y _ _ h1 h2=>by omega) ha hb ((List.perm_ext_iff_of_nodup na nb).2 h)
theorem keys_ris {ps:List (Int×Value)} (h:kAX ps):risI (zT ps):=by
 have h1:(zT ps).Pairwise fun x y=>decide (x≤y)=true:=List.pairwise_mergeSort (fun a b c h1 h2=>by simp only[decide_eq_true_eq]at *;omega) (fun a b=>by simp only[Bool.or_eq_true,decide_eq_true_eq];omega) _
 have h2:(zT ps).Nodup:=(List.mergeSort_perm _ _).nodup_iff.2 h
 unfold risI
 refine (List.pairwise_and_iff.2 ⟨h1,h2⟩).imp fun hh=>?_
 have:=of_decide_eq_true hh.1
 have:=hh.2
 omega
theorem keys_mem {ps:List (Int×Value)} {x:Int}:x∈zT ps↔x∈ps.map Prod.fst:=(List.mergeSort_perm _ _).mem_iff
theorem put_mem {k:Int} {v:Value} {ps:List (Int×Value)} {x:Int}:x∈(putG k v ps).map Prod.fst↔x∈ps.map Prod.fst∨x=k:=by
 unfold putG
 split
 ·rename_i h
  have e:(ps.map fun p=>if p.1=k then (k,v) else p).map Prod.fst=ps.map Prod.fst:=by
   rw[List.map_map]
   refine List.map_congr_left fun p _=>?_
   simp only[Function.comp]
   split<;>simp_all
  rw[e]
  constructor
  ·exact .inl
  ·rintro (h1|rfl)
   ·exact h1
   ·obtain ⟨v',hv⟩:=Option.isSome_iff_exists.1 h
    refine Classical.byContradiction fun hc=>?_
    have:=lkG_none.2 fun p hp (he:p.1=x)=>hc (List.mem_map.2 ⟨p,hp,he⟩)
    rw[this]at hv;cases hv
 ·simp
structure CI where
 es:Array MapEntry
 cl:Nat
 ps:List (Int×Value)
 h:MapG es cl ps
 v:∀ p∈ps,∃ c,p.2 = .int .i64 c
 b:∀ p∈ps,-9223372036854775808≤p.1∧p.1≤9223372036854775807
theorem zero_int:jY Tryz.prog 3=some (.v (.int .i64 0)):=by kernel_rfl
theorem elem_int:kB2 Tryz.prog 117=some 3:=by kernel_rfl
theorem ci_look (s:CI) (k:Int):∃ c,kBV Tryz.prog 117 (.int .i64) (.int .i64 k) s.es.toList false=some (kCR false (.v (.int .i64 c)) true)∨kBV Tryz.prog 117 (.int .i64) (.int .i64 k) s.es.toList false=some (kCR false (.v (.int .i64 c)) false):=by
 rw[lkG_look s.h]
 cases hl:lkG k s.ps with
 | none =>
   refine ⟨0,.inr ?_⟩
   simp only[elem_int,zero_int,Option.map_some]
 | some v =>
   obtain ⟨c,hc⟩:=s.v _ ((lkG_mem s.h.1).1 hl)
   simp only at hc
   exact ⟨c,.inl (by rw[hc];rfl)⟩
theorem ci_look' (s:CI) (k:Int):∃ c,kBV Tryz.prog 117 (.int .i64) (.int .i64 k) s.es.toList false=some (.v (.int .i64 c)):=by
 obtain ⟨c,h|h⟩:=ci_look s k<;>exact ⟨c,h⟩
theorem ci_put (s:CI) {k:Int} (hk:-9223372036854775808≤k∧k≤9223372036854775807) (c:Int):∃ s':CI,updO (.int .i64) (.int .i64 k) (.int .i64 c) (some (.map s.es s.cl))=some (.map s'.es s'.cl)∧s'.ps.length≤s.ps.length+1∧∀ x,x∈s'.ps.map Prod.fst↔x∈s.ps.map Prod.fst∨x=k:=by
 obtain ⟨es',cl',h1,h2⟩:=s.h.upd (j:=.i64) k (.int .i64 c)
 have hm:∀ p∈putG k (.int .i64 c) s.ps,p∈s.ps∨p=(k,.int .i64 c):=fun p hp=>by
  unfold putG at hp
  split at hp
  ·obtain ⟨q,hq,rfl⟩:=List.mem_map.1 hp
   split
   ·exact .inr rfl
   ·exact .inl hq
  ·simpa using hp
 refine ⟨⟨es',cl',_,h2,fun p hp=>?_,fun p hp=>?_⟩,h1,by simp only[putG];split<;>simp,fun x=>put_mem⟩
 ·rcases hm p hp with h|rfl
  ·exact s.v p h
  ·exact ⟨c,rfl⟩
 ·rcases hm p hp with h|rfl
  ·exact s.b p h
  ·exact hk
theorem ci_touch {s:CI} {l:List Ac} (h:∀ x,x∈s.ps.map Prod.fst↔∃ a∈l,x∈kAU a):zT s.ps=kAa [] l:=by
 refine ris_ext (keys_ris s.h.1) (kEr l List.Pairwise.nil) fun x=>?_
 rw[keys_mem,h,kEw]
 simp
def bndA (a:Ac):Prop:=(-9223372036854775808≤a.id∧a.id≤9223372036854775807)∧-9223372036854775808≤a.par∧a.par≤9223372036854775807
abbrev kFE:Con where
 ι:={ l:List Ac // l.length≤400000∧∀ a∈l,bndA a }
 args:=fun p=>[.sl 0 6 (acts p.1)]
 post:=fun p r=>r = .sl 0 1 (ints .i64 (kAa [] p.1))
set_option maxHeartbeats 2000000 in
theorem ptouch_good:Rw.Good Tryz.prog 44 kFE:=by
 have hΓ:kM Tryz.prog [(91,kCm)]:=(kI kF6 kJ)
 refine kC8 (nn:=34) Tryz.func44 (by kernel_rfl) rfl (show Tryz.f44.results.toList=[.tmp 2] from rfl) (fun _=>rfl) (fun x=>by simp[AV.erL,AV.er,kAN]) ?_
 rintro ⟨l,hl,hb⟩
 refine qR hΓ (Ws:=[]) _ ?_
 simp only[aR,seval,kA,kB,k8]
 (repeat (with_reducible refine And.intro ?_ ?_;focus (first|omega|exact kD|kernel_rfl)))
 obtain ⟨St,hSt⟩:∃ St:{ p:Nat×CI // p.1≤l.length∧p.2.ps.length≤2 * p.1∧∀ x,x∈p.2.ps.map Prod.fst↔∃ a∈l.take p.1,x∈kAU a }→AS,∀ p,St p=AS.of 34 [(3,.mp 0),(7,.sl 0 6 (acts l)),(8,.v (.int .i64 l.length)),(9,.v (.int .i64 p.1.1))] [.map p.1.2.es p.1.2.cl] []:=⟨_,fun _=>rfl⟩
 refine kA9 ?_
 refine zK [] hΓ St (fun p=>l.length - p.1.1) ⟨(0,⟨#[],0,[],MapG.empty,by simp,by simp⟩),by simp only;omega,by simp,by simp⟩ (by rw[hSt];refine kQ [0] [] ?_;simp only[aR,seval,kA,kB,k8]<;>((repeat' apply And.intro)<;>first|rfl|omega|trivial)) ?_
 rintro ⟨⟨i,s⟩,hi,hsl,hm⟩
 simp only at hi hsl hm
 rw[hSt]
 simp only
 simp only[aR,seval,kA,kB,k8]
 (with_reducible first|refine kE (fun h=>?_) (fun h=>?_)|refine kG (fun h=>?_) (fun h=>?_))
 ·have hlt:i < l.length:=by omega
  have e1:=kAo l hlt
  have hba:=hb l[i] (List.getElem_mem hlt)
  have hm2:∀ s':CI,(∀ x,x∈s'.ps.map Prod.fst↔x∈s.ps.map Prod.fst∨x∈kAU l[i])→∀ x,x∈s'.ps.map Prod.fst↔∃ a∈l.take (i+1),x∈kAU a:=fun s' hs x=>by
   rw[hs,hm,List.take_succ_eq_append_getElem hlt]
   simp only[List.mem_append,List.mem_singleton]
   constructor
   ·rintro (⟨a,ha,hx⟩|hx)
    ·exact ⟨a,.inl ha,hx⟩
    ·exact ⟨_,.inr rfl,hx⟩
   ·rintro ⟨a,ha|rfl,hx⟩
    ·exact .inl ⟨a,ha,hx⟩
    ·exact .inr hx
  generalize l[i]=a at *
  obtain ⟨k,id,par,nm,dir,ops⟩:=a
  obtain ⟨hbi,hbp⟩:=hba
  simp only at hbi hbp
  obtain ⟨c,hc⟩:=ci_look' s id
  obtain ⟨s1,p1,q1,p2⟩:=ci_put s hbi (IntKind.i64.wrap (c+1))
  simp only[aR,seval,kA,kB,h,e1,k8,aA,hc,p1]
  (repeat (with_reducible refine And.intro ?_ ?_;focus (first|omega|exact kD|kernel_rfl)))
  refine kFc (a:=Ac.mk k id par nm dir ops) (by simp[kH]) rfl ?_
  have done:∀ s':CI,(kCg (Ac.mk k id par nm dir ops)=false∨par=0)→(∀ x,x∈s1.ps.map Prod.fst↔x∈s.ps.map Prod.fst∨x∈kAU (Ac.mk k id par nm dir ops)):=fun _ hh x=>by
   rw[p2]
   unfold kAU
   rw[if_neg (by rintro ⟨h1,h2⟩;rcases hh with hh|hh;rw[hh]at h1;cases h1;exact h2 hh)]
   simp
  rcases Bool.eq_false_or_eq_true (kCg (Ac.mk k id par nm dir ops)) with hn|hn
  ·by_cases hp:par=0
   ·subst hp
    have h5:=hm2 s1 (done s1 (.inr rfl))
    simp only[aR,seval,kA,kB,hn,kC (n:=(i:Int)+1) (by omega) (by omega)]
    refine kN ⟨(i+1,s1),by simp only;omega,by simp only;omega,h5⟩ (by simp only;omega) ?_
    rw[hSt];refine kQ [0] [] ?_
    simp only[aR,seval,kA,kB,k8]<;>((repeat' apply And.intro)<;>first|rfl|omega|trivial)
   ·obtain ⟨c2,hc2⟩:=ci_look' s1 par
    obtain ⟨s2,r1,r2,r3⟩:=ci_put s1 hbp (IntKind.i64.wrap (c2+1))
    have h5:=hm2 s2 (fun x=>by
     rw[r3,p2]
     unfold kAU
     rw[if_pos ⟨hn,hp⟩]
     simp only[List.mem_cons,List.not_mem_nil,or_false]
     exact or_assoc)
    simp only[aR,seval,kA,kB,hn,hp,hc2,r1,kC (n:=(i:Int)+1) (by omega) (by omega)]
    (repeat (with_reducible refine And.intro ?_ ?_;focus (first|omega|exact kD|kernel_rfl)))
    refine kN ⟨(i+1,s2),by simp only;omega,by simp only;omega,h5⟩ (by simp only;omega) ?_
    rw[hSt];refine kQ [0] [] ?_
    simp only[aR,seval,kA,kB,k8]<;>((repeat' apply And.intro)<;>first|rfl|omega|trivial)
  ·have h5:=hm2 s1 (done s1 (.inl hn))
   simp only[aR,seval,kA,kB,hn,kC (n:=(i:Int)+1) (by omega) (by omega)]
   refine kN ⟨(i+1,s1),by simp only;omega,by simp only;omega,h5⟩ (by simp only;omega) ?_
   rw[hSt];refine kQ [0] [] ?_
   simp only[aR,seval,kA,kB,k8]<;>((repeat' apply And.intro)<;>first|rfl|omega|trivial)
 ·have hi2:i=l.length:=by omega
  subst hi2
  rw[List.take_length]at hm
  have e6:=ci_touch hm
  simp only[aR,seval,kA,kB,h]
  (repeat (with_reducible refine And.intro ?_ ?_;focus (first|omega|exact kD|kernel_rfl)))
  refine jP (nn:=4) hΓ [] (by first|assumption|simp[kH,k5]) Tryz.func92 (by kernel_rfl) rfl (show Tryz.f92.results.toList=[.tmp 2] from rfl) rfl ?_
  simp only[aR,seval,kA,kB,]
  (repeat (with_reducible refine And.intro ?_ ?_;focus (first|omega|exact kD|kernel_rfl)))
  refine kAA (by simp[kH,k5]) (kFx Tryz.keysB Tryz.sortedA Tryz.sortA rfl rfl rfl (bx:=1) (ob:=0) (es:=s.es) (cl:=s.cl) (by simp[upd]) (by simp[upd]) s.h s.b (by rw[s.h.size];omega) ?_)
  rw[e6]
  simp only[aR,seval,kA,kB,]
end Go.Proofs
end
-- ETr15
section
namespace Go.Proofs
open Go Go.Rw
set_option maxRecDepth 100000
def ts0:TS:=⟨#[],0,[],tm_empty⟩
section
variable {Γ:Env} {n:Nat} {t:Nat→AV} {hd:Nat→Nat→AV} {d:Option Nat} {K:AS→Prop}
variable {nh nl:Nat} {h:Nat→Option AO} {fm:Nat→Nat} {lv:Nat→Option (Nat×Nat)} {mu:Bool}
theorem call_tnew (hC:Γ.get 28=none)
    (hk:cont ⟨n,t,hd,⟨nh+2,upd (upd h nh (some (.cells [.mp (nh+1)]))) (nh+1) (some (.map #[] 0)),nl,fm,lv,mu⟩⟩ d (.ptr nh 0) K):kS Tryz.prog Γ false ⟨n,t,hd,⟨nh,h,nl,fm,lv,mu⟩⟩ 28 [] d K:=by
 refine vc_obj tnew_good hC () [] ⟨by simp,by simp[dnL],by simp[dnOs],rfl,rfl⟩ ?_
 rintro objs lvs r ⟨rfl,rfl,rfl⟩ hl
 have e3:[AO.cells [.mp 1],.map #[] 0].length - ([]:List Nat).length=2:=rfl
 rw[e3]
 simp only[j7,kAH,kAB,kBk,kAL,kBD,kFj,kBm,kBy,kD3,j8,kAp,kAE,kAQ,kAC,kEk,List.length_nil,Nat.add_zero]
 exact hk
theorem kEp (hC:Γ.get 46=none) {s:TS} {l:List Ac} (hS:sndN s.l) (hl:l.length≤1000000) (ho:∀ a∈l,okA a) {o ob:Nat} (hT:qK h o ob s) {lt:Nat}
    (hk1:(allN s.l l).e=0→∀ s':TS,s'.l=(allN s.l l).now→sndN s'.l→cont ⟨n,t,hd,⟨nh+2,upd (upd h nh (some (.cells [.mp (nh+1)]))) (nh+1) (some (.map s'.es s'.cl)),nl,fm,kill fm (AV.tagsL [.ptr o 0,.sl lt 6 (acts l)]) lv,mu⟩⟩ d (.tup [.ptr nh 0,.v (.int .i64 (allN s.l l).n),.v (.int .i64 0)]) K)
    (hk2:(allN s.l l).e≠0→cont ⟨n,t,hd,⟨nh,h,nl,fm,kill fm (AV.tagsL [.ptr o 0,.sl lt 6 (acts l)]) lv,mu⟩⟩ d (.tup [.v (.pointer none),.v (.int .i64 (allN s.l l).n),.v (.int .i64 (allN s.l l).e)]) K) :
    kS Tryz.prog Γ false ⟨n,t,hd,⟨nh,h,nl,fm,lv,mu⟩⟩ 46 [.ptr o 0,.sl lt 6 (acts l)] d K:=by
 obtain ⟨h1,h2,h3⟩:=hT
 have e1:upd h o (some (.cells [.mp ob]))=h:=upd_it h1
 have e2:upd h ob (some (.map s.es s.cl))=h:=upd_it h2
 have et:jK h [o,ob]=[]:=by simp[kAW,kAs,h1,h2,kFf,AO.tags,AV.tagsL,AV.tags]
 refine vcCall_objK ttxn_good hC ⟨(s,l),hS,hl,ho⟩ [o,ob] ⟨by simp[h3],by simp[dnL,dn],?_⟩ ?_
 ·simp only[tsO,kB1,kCt,h1,h2,kAm,kCa,kDE,kFA,dn_mp]
  simp
 ·intro objs lvs r hp hl
  show cont ⟨n,t,hd,AM.call ⟨nh,h,nl,fm,kill fm (AV.tagsL [.ptr o 0,.sl lt 6 (acts l)]++jK h [o,ob]) lv,mu⟩ [o,ob] objs lvs⟩ d _ K
  rw[et,List.append_nil]
  obtain ⟨rfl,hp⟩:=hp
  rcases hp with ⟨he,⟨s',h4,h5,rfl⟩,rfl⟩|⟨he,rfl,rfl⟩
  ·have:=hk1 he s' h4 h5
   rw[AMcall_eq]
   have e3:(tsO (some s)++[AO.cells [.mp 3],.map s'.es s'.cl]).length - [o,ob].length=2:=rfl
   rw[e3]
   simp only[tsO,List.cons_append,List.nil_append,j7,kAH,kAB,kBk,kAL,kBD,kFj,kBm,kBy,kD3,j8,kAp,kAE,kAQ,kAC,kEk,emb_tup,emb_v,List.length_nil,Nat.add_zero,e1,e2]
   exact this
  ·have:=hk2 he
   rw[AMcall_eq]
   have e3:(tsO (some s)).length - [o,ob].length=0:=rfl
   rw[e3]
   simp only[tsO,List.cons_append,List.nil_append,j7,kAH,kAB,kBk,kAL,kBD,kFj,kBm,kBy,kD3,j8,kAp,kAE,kAQ,kAC,kEk,emb_tup,emb_v,List.length_nil,Nat.add_zero,e1,e2]
   exact this
end
def aw1:List Ac:=[⟨1,1,0,[97],false,[]⟩,⟨4,1,0,[],false,[⟨2,0,[120]⟩]⟩]
def aw2:List Ac:=[⟨1,1,0,[97],false,[]⟩,⟨2,2,0,[],false,[]⟩]
theorem aw1_all:(allN [] aw1).e=0∧(allN [] aw1).n=2∧(allN [] aw1).now.length=1:=by decide +kernel
theorem aw2_all:(allN [] aw2).e=5∧(allN [] aw2).n=1:=by decide +kernel
theorem aw3_chk:txnE [⟨9,1,0,[],false,[]⟩]=1:=by decide +kernel
theorem aw_ok:(∀ a∈aw1,okA a)∧(∀ a∈aw2,okA a)∧∀ a∈[(⟨9,1,0,[],false,[]⟩:Ac)],okA a:=by
 refine ⟨?_,?_,?_⟩
 ·intro a ha
  simp only[aw1,List.mem_cons,List.not_mem_nil,or_false]at ha
  rcases ha with rfl|rfl
  ·exact ⟨by unfold okL;decide,by decide⟩
  ·exact ⟨by unfold okL;decide,by decide⟩
 ·intro a ha
  simp only[aw2,List.mem_cons,List.not_mem_nil,or_false]at ha
  rcases ha with rfl|rfl
  ·exact ⟨by unfold okL;decide,by decide⟩
  ·exact ⟨by unfold okL;decide,by decide⟩
 ·intro a ha
  simp only[List.mem_cons,List.not_mem_nil,or_false]at ha
  subst ha
  exact ⟨by unfold okL;decide,by decide⟩
abbrev kDy:Con where
 ι:=Unit
 args:=fun _=>[]
 post:=fun _ r=>r = .v (.bool true)
set_option maxHeartbeats 2000000 in
theorem awake14_good:Rw.Good Tryz.prog 32 kDy:=by
 have hΓ:kM Tryz.prog [(35,kBc)]:=(kI kFK kJ)
 refine kC8 (nn:=69) Tryz.func32 (by kernel_rfl) rfl (show Tryz.f32.results.toList=[.tmp 0] from rfl) (fun _=>rfl) (fun x=>by simp[AV.erL,AV.er]) ?_
 rintro ⟨⟩
 refine qR hΓ (Ws:=[]) _ ?_
 simp only[aR,seval,kA,kB,]
 refine call_tnew (by simp[kH,k5]) ?_
 simp only[aR,seval,kA,kB,]
 (repeat (with_reducible refine And.intro ?_ ?_;focus (first|omega|exact kD|kernel_rfl)))
 refine kEp (l:=aw1) (lt:=3) (s:=ts0) (o:=0) (ob:=1) (by simp[kH,k5]) snd_nil (by decide) aw_ok.1 (by simp[qK,upd,ts0]) ?_ (fun hc=>absurd aw1_all.1 hc)
 intro _ s1 hs1 hS1
 have hl1:s1.l.length=1:=by rw[hs1];exact aw1_all.2.2
 rw[show (allN ts0.l aw1).n=2 from aw1_all.2.1]
 simp only[aR,seval,kA,kB,acts,aw1,aA,List.map_cons,List.map_nil,kAP]
 (repeat (with_reducible refine And.intro ?_ ?_;focus (first|omega|exact kD|kernel_rfl)))
 refine kEp (l:=aw2) (lt:=4) (s:=ts0) (o:=0) (ob:=1) (by simp[kH,k5]) snd_nil (by decide) aw_ok.2.1 (by simp[qK,upd,ts0]) (fun hc=>absurd hc (by rw[show (allN ts0.l aw2).e=5 from aw2_all.1];decide)) ?_
 intro _
 rw[show (allN ts0.l aw2).n=1 from aw2_all.2,show (allN ts0.l aw2).e=5 from aw2_all.1]
 simp only[aR,seval,kA,kB,acts,aw2,aA,List.map_cons,List.map_nil,kAP]
 (repeat (with_reducible refine And.intro ?_ ?_;focus (first|omega|exact kD|kernel_rfl)))
 refine kAF (s:=s1) (o:=2) (ob:=3) (by simp[kH,k5]) (snd_ok hS1).1 (by simp[qK,upd]) ?_
 simp only[aR,seval,kA,kB,kK,hl1]
 (repeat (with_reducible refine And.intro ?_ ?_;focus (first|omega|exact kD|kernel_rfl)))
 refine kAF (s:=ts0) (o:=0) (ob:=1) (by simp[kH,k5]) (snd_ok snd_nil).1 (by simp[qK,upd,ts0]) ?_
 simp only[aR,seval,kA,kB,kK,ts0,kEy,List.length_nil]
 (repeat (with_reducible refine And.intro ?_ ?_;focus (first|omega|exact kD|kernel_rfl)))
 refine kFS (l:=[⟨9,1,0,[],false,[]⟩]) (by simp[kH]) rfl (by decide) aw_ok.2.2 ?_
 rw[aw3_chk]
 simp only[aR,seval,kA,kB,]
end Go.Proofs
end
