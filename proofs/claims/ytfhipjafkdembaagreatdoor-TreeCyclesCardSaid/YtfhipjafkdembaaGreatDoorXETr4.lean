/-
 The program's tree: a copy;k6 made. The program's tree: k6 moved,edited. Library functions' bodies at this dump,compared by the kernel: slices.SortFunc at k6. The order of names;slices.SortFunc at k6,by their names. slices.DeleteFunc at k6,as Children takes it. The program's tree: what a directory has. The program's tree: k6 taken away;any act. What a qM tree is;going up in it. Plain.
-/
import Derived.Test.YtfhipjafkdembaaGreatDoorXEUk1e
import Derived.Test.YtfhipjafkdembaaGreatDoorXEUn1
import Derived.Test.YtfhipjafkdembaaGreatDoorXETi
import Derived.Shelf.SlLaysF0
import Derived.Sort.LotA
import Derived.Test.YtfhipjafkdembaaGreatDoorRwQ
import Derived.Test.YtfhipjafkdembaaGreatDoorRwO
set_option linter.unusedSimpArgs false
set_option linter.unusedVariables false
set_option linter.defProp false
set_option linter.unusedSectionVars false

-- ETr4
section
namespace Go.Proofs
open Go Go.Rw
set_option maxRecDepth 100000
theorem clone_raw {P:Program} [Tabs] {ρ:Go.Shelf.Ren} (L:SlLaysW.n5 P ρ) {f:FuncId} (e:ρ.f 5=f) {σ:AS} {ob:Nat} {es:Array MapEntry} {cl:Nat} {d:Option Nat} {K:AS→Prop} (hob:σ.m.h ob=some (.map es cl))
    (hk:cont (σ.new (.map es cl)) d (.mp σ.m.nh) K):RawC P σ f [.mp ob] d K:=by
 subst e
 refine ⟨?_,fun w0 F0 Fp X G w a vs hr hlen hv=>?_⟩
 ·obtain ⟨nm,hn,hf⟩:=L.f5
  exact ⟨_,hf,hn,rfl⟩
 have hv0:=hv 0
 simp only[List.getD_cons_zero]at hv0
 have h0:=mp_inv hv0
 have hvs:vs = #[.map (some (G.ob ob))]:=by
  apply Array.ext (by simpa using hlen)
  intro i h1 h2
  have:i=0:=by simp at h2;omega
  subst this
  rw[← h0];simp[Array.getD,h1]
 obtain ⟨hol,hh⟩:=kAE hr hob
 rw[hvs]
 refine (AnyW.maps_Clone L (G.ob ob) es cl w hh).mono ?_
 rintro ed w' ⟨rfl,rfl⟩
 obtain ⟨hr2,hp⟩:=hr.newObj (.map es cl) (.map es cl) (.map es cl (heap_alloc_new w _))
 exact ⟨_,_,_,_,rfl,hr2,mp_of_ptr hp rfl,hk⟩
abbrev tcopyCon:ConO where
 ι:=Option TS
 objs:=tsO
 args:=fun p=>[tsA p]
 post:=fun p objs lvs r=>match p with
  | none=>objs=[]∧lvs=[]∧r = .v (.pointer none)
  | some s=>objs=tsO (some s)++[.cells [.mp 3],.map s.es s.cl]∧lvs=[]∧r = .ptr 2 0
theorem tcopy_good:jJ Tryz.prog 20 tcopyCon:=by
 have hΓ:kM Tryz.prog []:=kJ
 refine qG (nn:=12) Tryz.func20 (by kernel_rfl) rfl (show Tryz.f20.results.toList=[.tmp 2] from rfl) (fun _=>rfl) ?_
 rintro s
 refine qQ hΓ (Ws:=[]) _ ?_
 cases s with
 | none =>
   simp only[aR,seval,kA,kB,kC]
   refine kQ [] [] [] [] (.v (.pointer none)) ⟨rfl,rfl,rfl⟩ ?_
   simp only[aR,seval,kA,kB,kC]<;>((repeat' apply And.intro)<;>first|rfl|omega|trivial)
 | some s =>
   simp only[aR,seval,kA,kB,kC]
   (repeat (with_reducible refine And.intro ?_ ?_;focus (first|omega|exact kE|kernel_rfl)))
   refine jI (by simp[kH,kZ]) (clone_raw Tryz.cloneA rfl (es:=s.es) (cl:=s.cl) rfl ?_)
   simp only[aR,seval,kA,kB,kC]
   refine kQ [0,1,3,2] [] (tsO (some s)++[.cells [.mp 3],.map s.es s.cl]) [] (.ptr 2 0) ⟨rfl,rfl,rfl⟩ ?_
   simp only[aR,seval,kA,kB,kC]<;>((repeat' apply And.intro)<;>first|rfl|omega|trivial)
section
variable {Γ:Env} {n:Nat} {t:Nat→AV} {hd:Nat→Nat→AV} {d:Option Nat} {K:AS→Prop}
variable {nh nl:Nat} {h:Nat→Option AO} {fm:Nat→Nat} {lv:Nat→Option (Nat×Nat)} {mu:Bool}
theorem upd_it {α:Type} {f:Nat→α} {o:Nat} {x:α} (h:f o=x):upd f o x=f:=by
 funext j
 simp only[upd]
 split
 ·rename_i he;rw[he,h]
 ·rfl
end
def creN (l:List Nd) (a:Ac):List Nd×Int :=
 if a.id < 1∨a.id > 1099511627776∨qA a.nm=false then (l,1)
 else if hasN l a.id=true then (l,6)
 else if dirI l a.par≠0 then (l,dirI l a.par)
 else if 0 < kid a.par a.nm l then (l,6)
 else if l.length ≥ 100 then (l,4)
 else (setT ⟨a.id,a.par,a.nm,a.dir,[]⟩ l,0)
def trOk (l:List Nd):Prop:=idsOk l∧(∀ x∈l,1≤x.id)∧(totN l≤1000000000000∧∀ x∈l,x.text.length≤1099511627776)
def mutP (s:TS) (q:List Nd×Int) (objs:List AO) (lvs:List (Nat×Nat)) (r:AV):Prop :=
 ∃ s':TS,s'.l=q.1∧objs=tsO (some s')∧lvs=[]∧r = .v (.int .i64 q.2)
abbrev tcreCon:ConO where
 ι:={ p:TS×Ac // trOk p.1.l∧p.2.nm.length≤1099511627776 }
 objs:=fun p=>tsO (some p.1.1)
 args:=fun p=>[.ptr 0 0,aA p.1.2]
 post:=fun p=>mutP p.1.1 (creN p.1.1.l p.1.2)
set_option maxHeartbeats 2000000 in
theorem tcre_good:jJ Tryz.prog 62 tcreCon:=by
 have hΓ:kM Tryz.prog [(30,kBt)]:=(kI kC1 kJ)
 refine qG (nn:=73) Tryz.func62 (by kernel_rfl) rfl (show Tryz.f62.results.toList=[.tmp 4] from rfl) (fun _=>rfl) ?_
 rintro ⟨⟨s,a⟩,⟨hi,hpos,hw⟩,hn⟩
 obtain ⟨k,id,par,nm,dir,ops⟩:=a
 simp only at hi hpos hn
 refine qQ hΓ (Ws:=[]) _ ?_
 have e1:=kA0 s.h
 have e2:=kCm s.h
 simp only[aR,seval,kA,kB,kC,aA]
 (repeat (with_reducible refine And.intro ?_ ?_;focus (first|omega|exact kE|kernel_rfl)))
 have e0:creN s.l ⟨k,id,par,nm,dir,ops⟩=if id < 1∨id > 1099511627776∨qA nm=false then (s.l,1) else if hasN s.l id=true then (s.l,6) else if dirI s.l par≠0 then (s.l,dirI s.l par) else if 0 < kid par nm s.l then (s.l,6) else if s.l.length ≥ 100 then (s.l,4) else (setT ⟨id,par,nm,dir,[]⟩ s.l,0):=rfl
 by_cases h1:id < 1
 ·rw[if_pos (.inl h1)]at e0
  simp only[aR,seval,kA,kB,kC,h1]
  refine kQ [0,1] [] (tsO (some s)) [] (.v (.int .i64 1)) ⟨s,by rw[e0],rfl,rfl,by rw[e0]⟩ ?_
  simp only[aR,seval,kA,kB,kC]<;>((repeat' apply And.intro)<;>first|rfl|omega|trivial)
 by_cases h2:id > 1099511627776
 ·rw[if_pos (.inr (.inl h2))]at e0
  simp only[aR,seval,kA,kB,kC,h1,h2]
  refine kQ [0,1] [] (tsO (some s)) [] (.v (.int .i64 1)) ⟨s,by rw[e0],rfl,rfl,by rw[e0]⟩ ?_
  simp only[aR,seval,kA,kB,kC]<;>((repeat' apply And.intro)<;>first|rfl|omega|trivial)
 simp only[aR,seval,kA,kB,kC,h1,h2]
 refine kBN (by simp[kH]) hn ?_
 cases hnm:qA nm
 ·rw[if_pos (.inr (.inr hnm))]at e0
  simp only[aR,seval,kA,kB,kC,h1,h2,hnm]
  refine kQ [0,1] [] (tsO (some s)) [] (.v (.int .i64 1)) ⟨s,by rw[e0],rfl,rfl,by rw[e0]⟩ ?_
  simp only[aR,seval,kA,kB,kC]<;>((repeat' apply And.intro)<;>first|rfl|omega|trivial)
 rw[if_neg (by rintro (hh|hh|hh);exact h1 hh;exact h2 hh;rw[hnm]at hh;cases hh)]at e0
 simp only[aR,seval,kA,kB,kC,h1,h2,hnm,e1,nA]
 (repeat (with_reducible refine And.intro ?_ ?_;focus (first|omega|exact kE|kernel_rfl)))
 cases hh:hasN s.l id
 case true =>
  rw[if_pos hh]at e0
  simp only[aR,seval,kA,kB,kC,hh]
  refine kQ [0,1] [] (tsO (some s)) [] (.v (.int .i64 6)) ⟨s,by rw[e0],rfl,rfl,by rw[e0]⟩ ?_
  simp only[aR,seval,kA,kB,kC]<;>((repeat' apply And.intro)<;>first|rfl|omega|trivial)
 rw[if_neg (by rw[hh];decide)]at e0
 simp only[aR,seval,kA,kB,kC,hh]
 refine call_tdir (s:=s) (o:=0) (ob:=1) (by simp[kH,kZ]) (by simp[qB,upd]) ?_
 simp only[aR,seval,kA,kB,kC]
 (repeat (with_reducible refine And.intro ?_ ?_;focus (first|omega|exact kE|kernel_rfl)))
 by_cases hd:dirI s.l par=0
 case neg =>
  rw[if_pos hd]at e0
  simp only[aR,seval,kA,kB,kC,hd]
  refine kQ [0,1] [] (tsO (some s)) [] (.v (.int .i64 (dirI s.l par))) ⟨s,by rw[e0],rfl,rfl,by rw[e0]⟩ ?_
  simp only[aR,seval,kA,kB,kC]<;>((repeat' apply And.intro)<;>first|rfl|omega|trivial)
 rw[if_neg (fun hc=>hc hd)]at e0
 simp only[aR,seval,kA,kB,kC,hd]
 (repeat (with_reducible refine And.intro ?_ ?_;focus (first|omega|exact kE|kernel_rfl)))
 refine kBo (s:=s) (o:=0) (ob:=1) (by simp[kH,kZ]) hi hpos (by simp[qB,upd]) ?_
 simp only[aR,seval,kA,kB,kC]
 (repeat (with_reducible refine And.intro ?_ ?_;focus (first|omega|exact kE|kernel_rfl)))
 by_cases hk:0 < kid par nm s.l
 ·rw[if_pos hk]at e0
  simp only[aR,seval,kA,kB,kC,hk]
  refine kQ [0,1] [] (tsO (some s)) [] (.v (.int .i64 6)) ⟨s,by rw[e0],rfl,rfl,by rw[e0]⟩ ?_
  simp only[aR,seval,kA,kB,kC]<;>((repeat' apply And.intro)<;>first|rfl|omega|trivial)
 rw[if_neg hk]at e0
 simp only[aR,seval,kA,kB,kC,hk,e2]
 (repeat (with_reducible refine And.intro ?_ ?_;focus (first|omega|exact kE|kernel_rfl)))
 by_cases hl:s.l.length ≥ 100
 ·rw[if_pos hl]at e0
  simp only[aR,seval,kA,kB,kC,show ((s.l.length:Int) ≥ 100)=True from eq_true (by omega)]
  refine kQ [0,1] [] (tsO (some s)) [] (.v (.int .i64 4)) ⟨s,by rw[e0],rfl,rfl,by rw[e0]⟩ ?_
  simp only[aR,seval,kA,kB,kC]<;>((repeat' apply And.intro)<;>first|rfl|omega|trivial)
 rw[if_neg hl]at e0
 obtain ⟨es',cl',p1,p2⟩:=put_tm s.h ⟨id,par,nm,dir,[]⟩
 simp only[nV]at p1
 simp only[aR,seval,kA,kB,kC,show ((s.l.length:Int) ≥ 100)=False from eq_false (by omega),p1]
 (repeat (with_reducible refine And.intro ?_ ?_;focus (first|omega|exact kE|kernel_rfl)))
 refine kQ [0,1] [] (tsO (some ⟨es',cl',_,p2⟩)) [] (.v (.int .i64 0)) ⟨⟨es',cl',_,p2⟩,by rw[e0],rfl,rfl,by rw[e0]⟩ ?_
 simp only[aR,seval,kA,kB,kC]<;>((repeat' apply And.intro)<;>first|rfl|omega|trivial)
end Go.Proofs
end
-- ETr5
section
namespace Go.Proofs
open Go Go.Rw
set_option maxRecDepth 100000
def upB (l:List Nd) (id:Int):Nat→Int→Bool
 | 0,x=>decide (x=id)
 | k+1,x=>if x=id then true else if x=0 then false else upB l id k (gN l x).par
def movN (l:List Nd) (a:Ac):List Nd×Int :=
 if qA a.nm=false then (l,1)
 else if hasN l a.id=false then (l,5)
 else if dirI l a.par≠0 then (l,dirI l a.par)
 else if upB l a.id l.length a.par=true then (l,10)
 else if 0 < kid a.par a.nm l∧kid a.par a.nm l≠a.id then (l,6)
 else (setT ⟨a.id,a.par,a.nm,(gN l a.id).dir,(gN l a.id).text⟩ l,0)
def rtOk (l:List Nd):Prop:=∀ x∈l,jS l l.length x.id=true
theorem rt_of {l:List Nd} (h:rtOk l) {par:Int} (hd:dirI l par=0):jS l l.length par=true:=by
 unfold dirI at hd
 split at hd
 ·rename_i h0;rw[h0];cases l.length<;>simp[jS]
 ·split at hd
  ·rename_i h1
   obtain ⟨h2,_,h3⟩:=kAy h1
   have:=h _ (List.getElem_mem h2)
   rwa [h3]at this
  ·cases hd
abbrev tmovCon:ConO where
 ι:={ p:TS×Ac // trOk p.1.l∧rtOk p.1.l∧p.2.nm.length≤1099511627776 }
 objs:=fun p=>tsO (some p.1.1)
 args:=fun p=>[.ptr 0 0,aA p.1.2]
 post:=fun p=>mutP p.1.1 (movN p.1.1.l p.1.2)
set_option maxHeartbeats 4000000 in
theorem tmov_good:jJ Tryz.prog 64 tmovCon:=by
 have hΓ:kM Tryz.prog [(30,kBt)]:=(kI kC1 kJ)
 refine qG (nn:=75) Tryz.func64 (by kernel_rfl) rfl (show Tryz.f64.results.toList=[.tmp 4] from rfl) (fun _=>rfl) ?_
 rintro ⟨⟨s,a⟩,⟨hi,hpos,hw⟩,hrt,hn⟩
 obtain ⟨k,id,par,nm,dir,ops⟩:=a
 simp only at hi hpos hn hrt
 refine qQ hΓ (Ws:=[]) _ ?_
 have e1:=kA0 s.h
 have e2:=kCm s.h
 simp only[aR,seval,kA,kB,kC,aA]
 refine vcM_sc ?_
 have e0:movN s.l ⟨k,id,par,nm,dir,ops⟩=if qA nm=false then (s.l,1) else if hasN s.l id=false then (s.l,5) else if dirI s.l par≠0 then (s.l,dirI s.l par) else if upB s.l id s.l.length par=true then (s.l,10) else if 0 < kid par nm s.l∧kid par nm s.l≠id then (s.l,6) else (setT ⟨id,par,nm,(gN s.l id).dir,(gN s.l id).text⟩ s.l,0):=rfl
 obtain ⟨St,hSt⟩:∃ St:{ p:Nat×Int // jS s.l p.1 p.2=true∧upB s.l id p.1 p.2=upB s.l id s.l.length par∧qA nm=true∧hasN s.l id=true∧dirI s.l par=0 }→AS,∀ p,St p=AS.ofH 75 [(0,.ptr 0 0),(3,.ptr 2 0),(5,.ptr 3 0),(6,.v (.bool true)),(7,.v (.int .i64 p.1.2))] [(0,.ptr 0 0),(1,.mp 1)] [.cells [.mp 1],.map s.es s.cl,.cells [.v (.int .i64 k),.v (.int .i64 id),.v (.int .i64 par),.v (sv nm),.v (.bool dir),.sl 0 3 (qX ops)],.cells [.v (.int .i64 (gN s.l id).id),.v (.int .i64 (gN s.l id).par),.v (sv (gN s.l id).nm),.v (.bool (gN s.l id).dir),.v (sv (gN s.l id).text)]] []:=⟨_,fun _=>rfl⟩
 refine vc_labM [(20,[3],[])] hΓ 0 St (fun p=>p.1.1) 0 rfl rfl ?_ ?_
 ·rintro ⟨⟨q,x⟩,hr,hu,hnm,hh,hd⟩
  simp only at hr hu
  rw[if_neg (by rw[hnm];decide),if_neg (by rw[hh];decide),if_neg (fun hc=>hc hd)]at e0
  obtain ⟨_,_,hid⟩:=kAy hh
  rw[hSt]
  simp only
  simp only[aR,seval,kA,kB,k7,kC]
  (repeat (with_reducible refine And.intro ?_ ?_;focus (first|omega|exact kE|kernel_rfl)))
  by_cases hx:x=id
  ·have hup:upB s.l id s.l.length par=true:=by
     rw[← hu,hx]
     cases q<;>simp[upB]
   rw[if_pos hup]at e0
   simp only[aR,seval,kA,kB,k7,kC,hx]
   refine kQ [0,1] [] (tsO (some s)) [] (.v (.int .i64 10)) ⟨s,by rw[e0],rfl,rfl,by rw[e0]⟩ ?_
   simp only[aR,seval,kA,kB,kC]<;>((repeat' apply And.intro)<;>first|rfl|omega|trivial)
  by_cases h0:x=0
  case neg =>
   cases q with
   | zero=>rw [jS] at hr;simp [h0] at hr
   | succ q =>
     rw[jS,if_neg h0]at hr
     rw[upB,if_neg hx,if_neg h0]at hu
     simp only[aR,seval,kA,kB,k7,kC,hx,h0,e1,nA,kFY]
     (repeat (with_reducible refine And.intro ?_ ?_;focus (first|omega|exact kE|kernel_rfl)))
     refine kN ⟨(q,(gN s.l x).par),hr,hu,hnm,hh,hd⟩ (by simp only;omega) ?_
     rw[hSt];refine kX [0,1,2,3] [] ?_
     simp only[aR,seval,kA,kB,kC]<;>((repeat' apply And.intro)<;>first|rfl|omega|trivial)
  subst h0
  have hup:upB s.l id s.l.length par=false:=by
   rw[← hu]
   cases q with
   | zero=>rw [upB];simpa using hx
   | succ q=>rw [upB,if_neg hx,if_pos rfl]
  rw[if_neg (by rw[hup];decide)]at e0
  simp only[aR,seval,kA,kB,k7,kC,hx]
  (repeat (with_reducible refine And.intro ?_ ?_;focus (first|omega|exact kE|kernel_rfl)))
  refine kBo (s:=s) (o:=0) (ob:=1) (by simp[kH,kZ]) hi hpos (by simp[qB]) ?_
  simp only[aR,seval,kA,kB,k7,kC]
  (repeat (with_reducible refine And.intro ?_ ?_;focus (first|omega|exact kE|kernel_rfl)))
  have fin:¬ (0 < kid par nm s.l∧kid par nm s.l≠id)→movN s.l ⟨k,id,par,nm,dir,ops⟩=(setT ⟨id,par,nm,(gN s.l id).dir,(gN s.l id).text⟩ s.l,0):=fun hc=>by rw[e0,if_neg hc]
  have hgid:(gN s.l id).id=id:=by rw[(kAy hh).2.1,hid]
  obtain ⟨es',cl',p1,p2⟩:=put_tm s.h ⟨id,par,nm,(gN s.l id).dir,(gN s.l id).text⟩
  simp only[nV]at p1
  by_cases hk:0 < kid par nm s.l
  ·by_cases hk2:kid par nm s.l=id
   ·have e3:=fin (fun hc=>hc.2 hk2)
    have hm:max 0 (kid par nm s.l)=id:=by rw[Int.max_eq_right (by omega),hk2]
    rw[hk2]at hk hm
    simp only[aR,seval,kA,kB,k7,qR,kC,hk2,hk,hm,hgid,p1]
    (repeat (with_reducible refine And.intro ?_ ?_;focus (first|omega|exact kE|kernel_rfl)))
    refine kQ [0,1] [] (tsO (some ⟨es',cl',_,p2⟩)) [] (.v (.int .i64 0)) ⟨⟨es',cl',_,p2⟩,by rw[e3],rfl,rfl,by rw[e3]⟩ ?_
    simp only[aR,seval,kA,kB,kC]<;>((repeat' apply And.intro)<;>first|rfl|omega|trivial)
   ·rw[if_pos ⟨hk,hk2⟩]at e0
    have hm:max 0 (kid par nm s.l)=kid par nm s.l:=by rw[Int.max_eq_right (by omega)]
    simp only[aR,seval,kA,kB,k7,kC,hk,hm,hk2]
    refine kQ [0,1] [] (tsO (some s)) [] (.v (.int .i64 6)) ⟨s,by rw[e0],rfl,rfl,by rw[e0]⟩ ?_
    simp only[aR,seval,kA,kB,kC]<;>((repeat' apply And.intro)<;>first|rfl|omega|trivial)
  ·have e3:=fin (fun hc=>hk hc.1)
   simp only[aR,seval,kA,kB,k7,qR,kC,hk,hgid,p1]
   (repeat (with_reducible refine And.intro ?_ ?_;focus (first|omega|exact kE|kernel_rfl)))
   refine kQ [0,1] [] (tsO (some ⟨es',cl',_,p2⟩)) [] (.v (.int .i64 0)) ⟨⟨es',cl',_,p2⟩,by rw[e3],rfl,rfl,by rw[e3]⟩ ?_
   simp only[aR,seval,kA,kB,kC]<;>((repeat' apply And.intro)<;>first|rfl|omega|trivial)
 ·simp only[aR,seval,kA,kB,k7,kC]
  (repeat (with_reducible refine And.intro ?_ ?_;focus (first|omega|exact kE|kernel_rfl)))
  refine kBN (by simp[kH]) hn ?_
  rcases Bool.eq_false_or_eq_true (qA nm) with hnm|hnm
  case inr =>
   rw[if_pos hnm]at e0
   simp only[aR,seval,kA,kB,k7,kC,hnm]
   refine kQ [0,1] [] (tsO (some s)) [] (.v (.int .i64 1)) ⟨s,by rw[e0],rfl,rfl,by rw[e0]⟩ ?_
   simp only[aR,seval,kA,kB,kC]<;>((repeat' apply And.intro)<;>first|rfl|omega|trivial)
  rw[if_neg (by rw[hnm];decide)]at e0
  simp only[aR,seval,kA,kB,k7,kC,hnm,e1,nA]
  (repeat (with_reducible refine And.intro ?_ ?_;focus (first|omega|exact kE|kernel_rfl)))
  rcases Bool.eq_false_or_eq_true (hasN s.l id) with hh|hh
  case inr =>
   rw[if_pos hh]at e0
   simp only[aR,seval,kA,kB,k7,kC,hh]
   refine kQ [0,1] [] (tsO (some s)) [] (.v (.int .i64 5)) ⟨s,by rw[e0],rfl,rfl,by rw[e0]⟩ ?_
   simp only[aR,seval,kA,kB,kC]<;>((repeat' apply And.intro)<;>first|rfl|omega|trivial)
  rw[if_neg (by rw[hh];decide)]at e0
  simp only[aR,seval,kA,kB,k7,kC,hh]
  refine call_tdir (s:=s) (o:=0) (ob:=1) (by simp[kH,kZ]) (by simp[qB,upd]) ?_
  simp only[aR,seval,kA,kB,k7,kC]
  (repeat (with_reducible refine And.intro ?_ ?_;focus (first|omega|exact kE|kernel_rfl)))
  by_cases hd:dirI s.l par=0
  case neg =>
   rw[if_pos hd]at e0
   simp only[aR,seval,kA,kB,k7,kC,hd]
   refine kQ [0,1] [] (tsO (some s)) [] (.v (.int .i64 (dirI s.l par))) ⟨s,by rw[e0],rfl,rfl,by rw[e0]⟩ ?_
   simp only[aR,seval,kA,kB,kC]<;>((repeat' apply And.intro)<;>first|rfl|omega|trivial)
  simp only[aR,seval,kA,kB,k7,kC,hd]
  (repeat (with_reducible refine And.intro ?_ ?_;focus (first|omega|exact kE|kernel_rfl)))
  refine ⟨⟨(s.l.length,par),rt_of hrt hd,rfl,hnm,hh,hd⟩,?_⟩
  rw[hSt];refine kX [0,1,2,3] [] ?_
  simp only[aR,seval,kA,kB,kC]<;>((repeat' apply And.intro)<;>first|rfl|omega|trivial)
def ediN (l:List Nd) (a:Ac):List Nd×Int :=
 if hasN l a.id=false then (l,5)
 else if (gN l a.id).dir=true then (l,8)
 else if errI (gN l a.id).text a.ops≠0 then (l,errI (gN l a.id).text a.ops)
 else if (totN l:Int) - cnt (gN l a.id).text+cnt (z8 (gN l a.id).text a.ops) > 10000 then (l,4)
 else (setT ⟨a.id,(gN l a.id).par,(gN l a.id).nm,(gN l a.id).dir,z8 (gN l a.id).text a.ops⟩ l,0)
abbrev tediCon:ConO where
 ι:={ p:TS×Ac // trOk p.1.l∧okL p.2.ops }
 objs:=fun p=>tsO (some p.1.1)
 args:=fun p=>[.ptr 0 0,aA p.1.2]
 post:=fun p=>mutP p.1.1 (ediN p.1.1.l p.1.2)
set_option maxHeartbeats 4000000 in
theorem tedi_good:jJ Tryz.prog 65 tediCon:=by
 have hΓ:kM Tryz.prog [(100,doCon),(95,kAj)]:=(kI do_good (kI kBT kJ))
 refine qG (nn:=67) Tryz.func65 (by kernel_rfl) rfl (show Tryz.f65.results.toList=[.tmp 4] from rfl) (fun _=>rfl) ?_
 rintro ⟨⟨s,a⟩,⟨hi,hpos,hw⟩,oa⟩
 obtain ⟨k,id,par,nm,dir,ops⟩:=a
 simp only at hi hpos oa hw
 refine qQ hΓ (Ws:=[]) _ ?_
 have e1:=kA0 s.h
 have e2:=kCm s.h
 have e0:ediN s.l ⟨k,id,par,nm,dir,ops⟩=if hasN s.l id=false then (s.l,5) else if (gN s.l id).dir=true then (s.l,8) else if errI (gN s.l id).text ops≠0 then (s.l,errI (gN s.l id).text ops) else if (totN s.l:Int) - cnt (gN s.l id).text+cnt (z8 (gN s.l id).text ops) > 10000 then (s.l,4) else (setT ⟨id,(gN s.l id).par,(gN s.l id).nm,(gN s.l id).dir,z8 (gN s.l id).text ops⟩ s.l,0):=rfl
 simp only[aR,seval,kA,kB,kC,aA,e1,nA]
 (repeat (with_reducible refine And.intro ?_ ?_;focus (first|omega|exact kE|kernel_rfl)))
 rcases Bool.eq_false_or_eq_true (hasN s.l id) with hh|hh
 case inr =>
  rw[if_pos hh]at e0
  simp only[aR,seval,kA,kB,kC,hh]
  refine kQ [0,1] [] (tsO (some s)) [] (.v (.int .i64 5)) ⟨s,by rw[e0],rfl,rfl,by rw[e0]⟩ ?_
  simp only[aR,seval,kA,kB,kC]<;>((repeat' apply And.intro)<;>first|rfl|omega|trivial)
 rw[if_neg (by rw[hh];decide)]at e0
 obtain ⟨h1,h2,hid⟩:=kAy hh
 have hgid:(gN s.l id).id=id:=by rw[h2,hid]
 have hmem:gN s.l id∈s.l:=by rw[h2];exact List.getElem_mem h1
 have htx:=hw.2 _ hmem
 obtain ⟨es',cl',p1,p2⟩:=put_tm s.h ⟨id,(gN s.l id).par,(gN s.l id).nm,(gN s.l id).dir,z8 (gN s.l id).text ops⟩
 simp only[nV]at p1
 have hcl:=cnt_le (gN s.l id).text
 have hdl:=(stp_puts (gN s.l id).text ops).2
 have hcd:=cnt_le (z8 (gN s.l id).text ops)
 have hc1:=kBU (gN s.l id).text
 have hc2:=kBU (z8 (gN s.l id).text ops)
 generalize gN s.l id=x at *
 obtain ⟨xid,xpar,xnm,xdir,xtx⟩:=x
 simp only at *
 subst hgid
 simp only[aR,seval,kA,kB,kC,hh]
 cases xdir
 case true =>
  rw[if_pos rfl]at e0
  simp only[aR,seval,kA,kB,kC]
  refine kQ [0,1] [] (tsO (some s)) [] (.v (.int .i64 8)) ⟨s,by rw[e0],rfl,rfl,by rw[e0]⟩ ?_
  simp only[aR,seval,kA,kB,kC]<;>((repeat' apply And.intro)<;>first|rfl|omega|trivial)
 rw[if_neg (by decide)]at e0
 simp only[aR,seval,kA,kB,kC]
 (repeat (with_reducible refine And.intro ?_ ?_;focus (first|omega|exact kE|kernel_rfl)))
 refine call_do (by simp[kH]) rfl htx oa ?_
 simp only[aR,seval,kA,kB,kC,doR,res2]
 (repeat (with_reducible refine And.intro ?_ ?_;focus (first|omega|exact kE|kernel_rfl)))
 by_cases he:errI xtx ops=0
 case neg =>
  rw[if_pos he]at e0
  simp only[aR,seval,kA,kB,kC,he]
  refine kQ [0,1] [] (tsO (some s)) [] (.v (.int .i64 (errI xtx ops))) ⟨s,by rw[e0],rfl,rfl,by rw[e0]⟩ ?_
  simp only[aR,seval,kA,kB,kC]<;>((repeat' apply And.intro)<;>first|rfl|omega|trivial)
 rw[if_neg (fun hc=>hc he)]at e0
 simp only[aR,seval,kA,kB,kC,he]
 (repeat (with_reducible refine And.intro ?_ ?_;focus (first|omega|exact kE|kernel_rfl)))
 refine kAb (by simp[kH]) htx ?_
 simp only[aR,seval,kA,kB,kC,hc1]
 (repeat (with_reducible refine And.intro ?_ ?_;focus (first|omega|exact kE|kernel_rfl)))
 refine kAb (by simp[kH]) (by omega) ?_
 simp only[aR,seval,kA,kB,kC,hc2]
 (repeat (with_reducible refine And.intro ?_ ?_;focus (first|omega|exact kE|kernel_rfl)))
 refine call_tall (s:=s) (o:=0) (ob:=1) (by simp[kH,kZ]) hw (by simp[qB,upd]) ?_
 have hw1:=hw.1
 simp only[aR,seval,kA,kB,kC,kD (n:=(totN s.l:Int) - cnt xtx) (by omega) (by omega),kD (n:=(totN s.l:Int) - cnt xtx+cnt (z8 xtx ops)) (by omega) (by omega)]
 (repeat (with_reducible refine And.intro ?_ ?_;focus (first|omega|exact kE|kernel_rfl)))
 by_cases hb:(totN s.l:Int) - cnt xtx+cnt (z8 xtx ops) > 10000
 ·rw[if_pos hb]at e0
  simp only[aR,seval,kA,kB,kC,hb]
  refine kQ [0,1] [] (tsO (some s)) [] (.v (.int .i64 4)) ⟨s,by rw[e0],rfl,rfl,by rw[e0]⟩ ?_
  simp only[aR,seval,kA,kB,kC]<;>((repeat' apply And.intro)<;>first|rfl|omega|trivial)
 ·rw[if_neg hb]at e0
  simp only[aR,seval,kA,kB,kC,hb,p1]
  (repeat (with_reducible refine And.intro ?_ ?_;focus (first|omega|exact kE|kernel_rfl)))
  refine kQ [0,1] [] (tsO (some ⟨es',cl',_,p2⟩)) [] (.v (.int .i64 0)) ⟨⟨es',cl',_,p2⟩,by rw[e0],rfl,rfl,by rw[e0]⟩ ?_
  simp only[aR,seval,kA,kB,kC]<;>((repeat' apply And.intro)<;>first|rfl|omega|trivial)
end Go.Proofs
end
-- ETrLs
section
namespace Go.Proofs
open Go.Shelf
def Tryz.sortN_ren:Go.Shelf.Ren:=⟨fun|6=>78|15=>111|14=>110|28=>141|29=>142|20=>133|21=>134|22=>135|23=>136|24=>137|25=>138|26=>139|27=>140|46=>163|47=>164|48=>165|49=>166|50=>167|57=>180|n=>n,fun|22=>22|24=>42|25=>108|3=>3|39=>143|0=>0|53=>167|55=>169|4=>4|46=>161|45=>160|50=>47|5=>5|9=>9|66=>184|70=>188|76=>199|77=>147|n=>n,fun|n=>n⟩
theorem Tryz.sortN:Go.Proofs.SlLaysF0.n6 Tryz.prog Tryz.sortN_ren where
 mixed:=by kernel_rfl
 f6 := ⟨"slices.SortFunc[[]ropewalk/api.Node,ropewalk/api.Node]", by decide, Tryz.func78.trans (congrArg some (by kernel_rfl))⟩
 f14 := ⟨"slices.pdqsortCmpFunc[ropewalk/api.Node]", by decide, Tryz.func110.trans (congrArg some (by kernel_rfl))⟩
 f15:=Tryz.func111.trans (congrArg some (by kernel_rfl))
 f20 := ⟨"slices.insertionSortCmpFunc[ropewalk/api.Node]", by decide, Tryz.func133.trans (congrArg some (by kernel_rfl))⟩
 f21 := ⟨"slices.heapSortCmpFunc[ropewalk/api.Node]", by decide, Tryz.func134.trans (congrArg some (by kernel_rfl))⟩
 f22 := ⟨"slices.breakPatternsCmpFunc[ropewalk/api.Node]", by decide, Tryz.func135.trans (congrArg some (by kernel_rfl))⟩
 f23 := ⟨"slices.choosePivotCmpFunc[ropewalk/api.Node]", by decide, Tryz.func136.trans (congrArg some (by kernel_rfl))⟩
 f24 := ⟨"slices.reverseRangeCmpFunc[ropewalk/api.Node]", by decide, Tryz.func137.trans (congrArg some (by kernel_rfl))⟩
 f25 := ⟨"slices.partialInsertionSortCmpFunc[ropewalk/api.Node]", by decide, Tryz.func138.trans (congrArg some (by kernel_rfl))⟩
 f26 := ⟨"slices.partitionEqualCmpFunc[ropewalk/api.Node]", by decide, Tryz.func139.trans (congrArg some (by kernel_rfl))⟩
 f27 := ⟨"slices.partitionCmpFunc[ropewalk/api.Node]", by decide, Tryz.func140.trans (congrArg some (by kernel_rfl))⟩
 f28:=Tryz.func141.trans (congrArg some (by kernel_rfl))
 f29:=Tryz.func142.trans (congrArg some (by kernel_rfl))
 f46 := ⟨"slices.siftDownCmpFunc[ropewalk/api.Node]", by decide, Tryz.func163.trans (congrArg some (by kernel_rfl))⟩
 f47:=Tryz.func164.trans (congrArg some (by kernel_rfl))
 f48:=Tryz.func165.trans (congrArg some (by kernel_rfl))
 f49 := ⟨"slices.medianAdjacentCmpFunc[ropewalk/api.Node]", by decide, Tryz.func166.trans (congrArg some (by kernel_rfl))⟩
 f50 := ⟨"slices.medianCmpFunc[ropewalk/api.Node]", by decide, Tryz.func167.trans (congrArg some (by kernel_rfl))⟩
 f57 := ⟨"slices.order2CmpFunc[ropewalk/api.Node]", by decide, Tryz.func180.trans (congrArg some (by kernel_rfl))⟩
 t0:=Tryz.underlying0
 a0:=Tryz.isAgg0
 z0:=Tryz.sizeOf0
 v0:=Tryz.zeroValue0
 t3:=Tryz.underlying3
 a3:=Tryz.isAgg3
 z3:=Tryz.sizeOf3
 v3:=Tryz.zeroValue3
 t4:=Tryz.underlying4
 a4:=Tryz.isAgg4
 z4:=Tryz.sizeOf4
 v4:=Tryz.zeroValue4
 t5:=Tryz.underlying5
 a5:=Tryz.isAgg5
 z5:=Tryz.sizeOf5
 v5:=Tryz.zeroValue5
 t9:=Tryz.underlying9
 a9:=Tryz.isAgg9
 z9:=Tryz.sizeOf9
 v9:=Tryz.zeroValue9
 t22:=Tryz.underlying22
 a22:=Tryz.isAgg22
 z22:=Tryz.sizeOf22
 v22:=Tryz.zeroValue22
 t25:=Tryz.underlying108
 a25:=Tryz.isAgg108
 z25:=Tryz.sizeOf108
 v25:=Tryz.zeroValue108
 t39:=Tryz.underlying143
 a39:=Tryz.isAgg143
 z39:=Tryz.sizeOf143
 v39:=Tryz.zeroValue143
 t45:=Tryz.underlying160
 a45:=Tryz.isAgg160
 z45:=Tryz.sizeOf160
 v45:=Tryz.zeroValue160
 t46:=Tryz.underlying161
 a46:=Tryz.isAgg161
 z46:=Tryz.sizeOf161
 v46:=Tryz.zeroValue161
 t50:=Tryz.underlying47
 a50:=Tryz.isAgg47
 z50:=Tryz.sizeOf47
 v50:=Tryz.zeroValue47
 t53:=Tryz.underlying167
 a53:=Tryz.isAgg167
 z53:=Tryz.sizeOf167
 v53:=Tryz.zeroValue167
 t55:=Tryz.underlying169
 a55:=Tryz.isAgg169
 z55:=Tryz.sizeOf169
 v55:=Tryz.zeroValue169
 t66:=Tryz.underlying184
 a66:=Tryz.isAgg184
 z66:=Tryz.sizeOf184
 v66:=Tryz.zeroValue184
 t70:=Tryz.underlying188
 a70:=Tryz.isAgg188
 z70:=Tryz.sizeOf188
 v70:=Tryz.zeroValue188
 t76:=Tryz.underlying199
 a76:=Tryz.isAgg199
 z76:=Tryz.sizeOf199
 v76:=Tryz.zeroValue199
 t77:=Tryz.underlying147
 a77:=Tryz.isAgg147
 z77:=Tryz.sizeOf147
 v77:=Tryz.zeroValue147
end Go.Proofs
end
-- ETr6
section
namespace Go.Proofs
open Go Go.Shelf Go.RowKit Go.Lib Go.Sort
set_option maxRecDepth 100000
theorem kAQ:∀ (x y:List UInt8),Op.bytesLess x y=decide (x < y)
 | [],[]=>by simp [Op.bytesLess]
 | _::_,[]=>by simp [Op.bytesLess]
 | [],_::_=>by simp [Op.bytesLess]
 | a::x,b::y=>by
   rw[Op.bytesLess,kAQ x y]
   simp only[List.cons_lt_cons_iff]
   by_cases h1:a < b<;>by_cases h2:a=b<;>by_cases h3:x < y<;>simp[h1,h2,h3]
def cmpB (x y:List UInt8):Int:=if x < y then -1 else if y < x then 1 else 0
theorem cmpB_neg (x y:List UInt8):cmpB x y < 0↔x < y:=by
 unfold cmpB
 by_cases h:x < y
 ·simp[h]
 ·rw[if_neg h]
  split<;>simp[h]
theorem ltOf_cmpB:ltOf cmpB=ltStr:=by
 funext x y
 exact decide_eq_decide.2 (cmpB_neg x y)
theorem swo_cmpB:SWO (ltOf cmpB):=by rw[ltOf_cmpB];exact swo_ltStr
@[go_sem] theorem binOp_string_gtr_tr (t:TypeId) (a b:ByteArray):binOp .gtr t (.string a) (.string b)=pure (.bool !(Op.bytesLess a.toList b.toList || a.toList == b.toList)):=by simp[binOp,Op.stringOp]
theorem list5 {x:List Value} (h:x.length=5):∃ a b c d e,x=[a,b,c,d,e]:=by
 match x,h with
 | [a,b,c,d,e],_=>exact ⟨a,b,c,d,e,rfl⟩
theorem isNaN_str (x:ByteArray) (w:World):Calls Tryz.prog 112 #[.string x] w fun e w'=>e = .returned (.bool false)∧w'=w:=by
 go_enter Tryz.func112,Tryz.ntmps112
 go_wp2
 go_ret
 exact ⟨by simp,rfl⟩
set_option maxHeartbeats 1000000 in
theorem cmp_str (a b:List UInt8) (w:World):Calls Tryz.prog 80 #[Rw.sv a,Rw.sv b] w fun e w'=>e = .returned (.int .i64 (cmpB a b))∧w'=w:=by
 unfold Rw.sv
 go_enter Tryz.func80,Tryz.ntmps80
 go_wp2_with (go_at_call 112;refine (isNaN_str _ _).mono ?_;rintro e w' ⟨rfl,hw⟩;rw[hw])
 all_goals (rename_i hb;go_ret;refine ⟨?_,by first|assumption|rfl⟩)
 ·rw[kAQ]at hb
  simp only[cmpB,if_pos (of_decide_eq_true hb)];rfl
 ·rename_i hl _ _
  rw[kAQ]at hl
  have h1:¬ a < b:=of_decide_eq_false hl
  have h2:a≠b:=by simpa using hb
  have h3:b < a:=by
   rcases Classical.em (b < a) with h4|h4
   ·exact h4
   ·exact absurd (List.le_antisymm (List.not_lt.1 h4) (List.not_lt.1 h1)) h2
  simp only[cmpB,if_neg h1,if_pos h3];rfl
 ·rename_i hl
  rw[kAQ]at hl
  have h1:¬ a < b:=of_decide_eq_false hl
  have h2:a=b:=by simpa using hb
  subst h2
  simp only[cmpB,if_neg h1];rfl
set_option maxHeartbeats 1000000 in
theorem cmpN:Rw.CmpAt Tryz.prog 79 5 2 Rw.sv cmpB:=by
 intro x y a b W hx hy ox oy ha hb
 obtain ⟨x0,x1,x2,x3,x4,rfl⟩:=list5 hx
 obtain ⟨y0,y1,y2,y3,y4,rfl⟩:=list5 hy
 simp only[List.getD_cons_zero,List.getD_cons_succ]at ha hb
 subst ha hb
 simp only[List.mem_cons,List.not_mem_nil,or_false,forall_eq_or_imp,forall_eq]at ox oy
 obtain ⟨p0,p1,p2,p3,p4⟩:=ox
 obtain ⟨q0,q1,q2,q3,q4⟩:=oy
 have hcon:=fun W'=>cmp_str a b W'
 generalize cmpB a b=r at hcon ⊢
 clear hx hy
 simp only[Rw.sv]at *
 go_enter Tryz.func79,Tryz.ntmps79
 go_wp2_with (go_at_call 80;refine (hcon _).mono ?_;rintro e w' ⟨rfl,rfl⟩)
 go_ret
 exact ⟨rfl,0,_,by rw[alloc_eq_grow,alloc_eq_grow,grow_grow];rfl⟩
end Go.Proofs
end
-- ETr7
section
namespace Go.Proofs
open Go Go.Rw
set_option maxRecDepth 100000
def kept (par:Int) (l:List Nd):List Nd:=l.filter fun x=>decide (x.par=par)
def goI (par:Int):List Nd→Nat
 | []=>0
 | x::r=>if x.par=par then goI par r+1 else 0
theorem goI_le (par:Int):∀ l,goI par l≤l.length
 | []=>Nat.le_refl _
 | x::r=>by rw [goI];split<;>have:=goI_le par r<;>simp<;>omega
theorem goI_all (par:Int):∀ l,goI par l=l.length→kept par l=l
 | [],_=>rfl
 | x::r,h=>by
   rw[goI]at h
   split at h
   ·rename_i hx
    have:=goI_all par r (by simpa using h)
    unfold kept at *
    rw[List.filter_cons,if_pos (by simpa using hx),this]
   ·simp at h
theorem goI_take (par:Int):∀ l:List Nd,kept par (l.take (goI par l+1))=l.take (goI par l)
 | []=>rfl
 | x::r=>by
   rw[goI]
   split
   ·rename_i hx
    have:=goI_take par r
    rw[List.take_succ_cons,List.take_succ_cons,kept,List.filter_cons,if_pos (by simpa using hx)]
    exact congrArg _ this
   ·rename_i hx
    simp[kept,hx]
abbrev DelT (par:Int) (xs:List Nd):={ p:List Nd×Nat×Nat // p.1.length=xs.length∧p.2.1 < p.2.2∧p.2.2≤xs.length∧p.1.take p.2.1=kept par (xs.take p.2.2)∧p.1.drop p.2.2=xs.drop p.2.2 }
abbrev IdxT (par:Int) (xs:List Nd):={ j:Nat // j≤xs.length∧goI par xs=j+goI par (xs.drop j) }
section
variable {Γ:Env} {n:Nat} {t:Nat→AV} {hd:Nat→Nat→AV} {d:Option Nat} {K:AS→Prop}
variable {nh nl:Nat} {h:Nat→Option AO} {fm:Nat→Nat} {lv:Nat→Option (Nat×Nat)}
set_option maxHeartbeats 1000000 in
theorem call_del (hΓ:kM Tryz.prog Γ) (hC:Γ.get 76=none) (hC2:Γ.get 109=none) (hC3:Γ.get 77=none) {xs:List Nd} {l o:Nat} {par:Int} (hl2:2≤l) (hlv:lv l=some (xs.length,42)) (hlen:xs.length≤1000000)
    (hob:h o=some (.cells [.v (.int .i64 par)])) (hb:∀ o x,h o=some x→o < nh)
    (hk:∀ k' h',nh≤k'→HasO (cutO fm l h) h'→cont ⟨n,cutT fm l t,cutH fm l hd,⟨k',h',nl,fm,upd lv l (some ((kept par xs).length,42)),true⟩⟩ d (.sl l 5 (k6 (kept par xs))) K) :
    kS Tryz.prog Γ false ⟨n,t,hd,⟨nh,h,nl,fm,lv,true⟩⟩ 76 [.sl l 5 (k6 xs),.fn 77 [.ptr o 0]] d K:=by
 have hob':cutO fm l h o=some (.cells [.v (.int .i64 par)]):=by simp only[cutO,hob];rfl
 have hb':∀ o x,cutO fm l h o=some x→o < nh:=fun o x hx=>by
  obtain ⟨y,hy,_⟩:=Option.map_eq_some_iff.1 hx
  exact hb o y hy
 have hlt:=hb o _ hob
 refine kAH (nn:=42) hΓ [(11,[0,0],[]),(12,[0,0,0,0,0,0],[])] (by first|assumption|simp[kH,kZ]) Tryz.func76 (by kernel_rfl) rfl (show Tryz.f76.results.toList=[.tmp 4] from rfl) rfl ?_
 simp only[aR,seval,kA,kB,]
 refine kAH (nn:=19) hΓ [] (by first|assumption|simp[kH,kZ]) Tryz.func109 (by kernel_rfl) rfl (show Tryz.f109.results.toList=[.tmp 4] from rfl) rfl ?_
 simp only[aR,seval,kA,kB,kO]
 refine loop_cut l ?_
 refine kC6 [] hΓ (fun i:IdxT par xs=>[(0,.sl l 5 (k6 xs)),(1,.fn 77 [.ptr o 0]),(7,.v (.int .i64 xs.length)),(8,.v (.int .i64 i.1))]) (fun i=>xs.length - i.1) ⟨0,Nat.zero_le _,by simp⟩ (by simp only[aR,seval,kA,kB,]<;>((repeat' apply And.intro)<;>first|rfl|omega|trivial)) (fun _ _ hx=>hx) ?_
 rintro ⟨i,hi,hn⟩ q hq
 simp only
 simp only[aR,seval,kA,kB,kO]
 have hoq:(o=q)=False:=eq_false (by omega)
 (with_reducible first|refine kF (fun h1=>?_) (fun h1=>?_)|refine kG (fun h1=>?_) (fun h1=>?_))
 ·have hlt2:i < xs.length:=by omega
  have e1:=zJ xs hlt2
  rw[List.drop_eq_getElem_cons hlt2,goI]at hn
  generalize xs[i]=x at *
  simp only[aR,seval,kA,kB,h1,e1,nA,kO]
  (repeat (with_reducible refine And.intro ?_ ?_;focus (first|omega|exact kE|kernel_rfl)))
  refine kAH (nn:=8) hΓ [] (by first|assumption|simp[kH,kZ]) Tryz.func77 (by kernel_rfl) rfl (show Tryz.f77.results.toList=[.tmp 3] from rfl) rfl ?_
  simp only[aR,seval,kA,kB,nA,hob',hoq]
  (repeat (with_reducible refine And.intro ?_ ?_;focus (first|omega|exact kE|kernel_rfl)))
  by_cases hx:x.par=par
  ·rw[if_pos hx]at hn
   simp only[aR,seval,kA,kB,hx,kD (n:=(i:Int)+1) (by omega) (by omega)]
   refine kEj ⟨i+1,by omega,by omega⟩ (by simp only;omega) (by omega) ?_ (HasO.new ?_ HasO.refl) rfl ⟨rfl,rfl⟩
   ·simp only[aR,seval,kA,kB,]<;>((repeat' apply And.intro)<;>first|rfl|omega|trivial)
   ·intro o x h;have:=hb' o x h;omega
  ·rw[if_neg hx]at hn
   simp only[aR,seval,kA,kB,hx,show ((i:Int) = -1)=False from eq_false (by omega),kD (n:=(i:Int)+1) (by omega) (by omega)]
   have hgi:goI par xs=i:=by omega
   have hk0:=goI_take par xs
   rw[hgi]at hk0
   have hn2:nh≤q+1:=by omega
   refine kC6 [(11,[0,0],[]),(12,[0,0,0,0,0,0],[])] hΓ (nh:=q+1) (h:=cutO fm l h) (fun p:DelT par xs=>[(0,.sl l 5 (k6 p.1.1)),(1,.fn 77 [.ptr o 0]),(5,.v (.int .i64 p.1.2.1)),(6,.v (.int .i64 p.1.2.2))]) (fun p=>xs.length - p.1.2.2) ⟨(xs,i,i+1),rfl,by simp only;omega,by simp only;omega,hk0.symm,rfl⟩ (by simp only[aR,seval,kA,kB,]<;>((repeat' apply And.intro)<;>first|rfl|omega|trivial)) (HasO.new (fun o x h=>by have:=hb' o x h;omega) HasO.refl) ?_
   clear hk0 hn2 hn hgi e1
   rintro ⟨⟨ys,i,j⟩,hys,hij,hj,hta,hdr⟩ q2 hq2
   simp only at hys hij hj hta hdr
   have hoq2:(o=q2)=False:=eq_false (by omega)
   have hoq3:(o=q2+1)=False:=eq_false (by omega)
   simp only
   simp only[aR,seval,kA,kB,kO]
   (with_reducible first|refine kF (fun h2=>?_) (fun h2=>?_)|refine kG (fun h2=>?_) (fun h2=>?_))
   ·have hlt3:j < xs.length:=by omega
    have e4:ys[j]'(by omega)=xs[j]:=by
     have:=congrArg (fun l:List Nd=>l[0]?) hdr
     simp only[List.getElem?_drop,Nat.add_zero]at this
     rw[List.getElem?_eq_getElem (by omega),List.getElem?_eq_getElem hlt3]at this
     exact Option.some.inj this
    have e5:=zJ ys (i:=j) (by omega)
    rw[e4]at e5
    have e6:kept par (xs.take (j+1))=kept par (xs.take j)++kept par [xs[j]]:=by
     rw[List.take_succ_eq_append_getElem hlt3,kept,List.filter_append];rfl
    generalize xs[j]=y at *
    simp only[aR,seval,kA,kB,h2,e5,nA,kO,hys]
    (repeat (with_reducible refine And.intro ?_ ?_;focus (first|omega|exact kE|kernel_rfl)))
    refine kAH (nn:=8) hΓ [] (by first|assumption|simp[kH,kZ]) Tryz.func77 (by kernel_rfl) rfl (show Tryz.f77.results.toList=[.tmp 3] from rfl) rfl ?_
    simp only[aR,seval,kA,kB,nA,hob',hoq2,hoq3]
    (repeat (with_reducible refine And.intro ?_ ?_;focus (first|omega|exact kE|kernel_rfl)))
    by_cases hy:y.par=par
    ·have hk1:kept par [y]=[y]:=by simp[kept,hy]
     have e7:=zJ ys (i:=i) (by omega)
     have hq3:(q2=q2+1)=False:=eq_false (by omega)
     have e8:AV.agg [.v (.int .i64 y.id),.v (.int .i64 par),.v (sv y.nm),.v (.bool y.dir),.v (sv y.text)]=nA y:=by rw[← hy];rfl
     have e9:=nodes_set ys i y
     have hi9:i < xs.length:=by omega
     have e10:kCj ((k6 ys).getD i .any) 0 [.v (.int .i64 y.id),.v (.int .i64 par),.v (sv y.nm),.v (.bool y.dir),.v (sv y.text)]=nA y:=by rw[e7,← e8];rfl
     simp only[aR,seval,kA,kB,hy,nA,kO,hys,e5,hq3,hlv,hl2,e9,kD (n:=(i:Int)+1) (by omega) (by omega),kD (n:=(j:Int)+1) (by omega) (by omega)]
     (repeat (with_reducible refine And.intro ?_ ?_;focus (first|omega|exact kE|kernel_rfl)))
     refine kEj ⟨(ys.set i y,i+1,j+1),(show (ys.set i y).length=_ by rw[List.length_set];exact hys),(show i+1 < j+1 by omega),(show j+1≤xs.length by omega),?_,?_⟩ (show xs.length - (j+1) < xs.length - j by omega) (by omega) ?_ ?_ turnH_cut ⟨rfl,rfl⟩
     ·show (ys.set i y).take (i+1)=_
      rw[e6,hk1,← hta,List.take_succ_eq_append_getElem (by rw[List.length_set];omega),List.getElem_set_self,List.take_set_of_le (Nat.le_refl _)]
     ·show (ys.set i y).drop (j+1)=_
      have:=congrArg (List.drop 1) hdr
      rw[List.drop_drop,List.drop_drop]at this
      rw[List.drop_set,if_pos (by omega)]
      exact this
     ·simp only[aR,seval,kA,kB,e9,e10,kO,hys]<;>((repeat' apply And.intro)<;>first|rfl|omega|trivial)
     ·have hbq:∀ k,nh≤k→∀ o x,cutO fm l h o=some x→o < k:=fun k hk o x h=>by have:=hb' o x h;omega
      repeat' first|exact HasO.refl|refine HasO.turn ?_|refine HasO.new (hbq _ (by omega)) ?_
    ·have hk1:kept par [y]=[]:=by simp[kept,hy]
     rw[hk1,List.append_nil]at e6
     simp only[aR,seval,kA,kB,hy,kD (n:=(j:Int)+1) (by omega) (by omega)]
     refine kEj ⟨(ys,i,j+1),hys,(show i < j+1 by omega),(show j+1≤xs.length by omega),(show ys.take i=_ by rw[e6,hta]),?_⟩ (show xs.length - (j+1) < xs.length - j by omega) (by omega) ?_ ?_ rfl ⟨rfl,rfl⟩
     ·have:=congrArg (List.drop 1) hdr
      rw[List.drop_drop,List.drop_drop]at this
      exact this
     ·simp only[aR,seval,kA,kB,]<;>((repeat' apply And.intro)<;>first|rfl|omega|trivial)
     ·have hbq:∀ k,nh≤k→∀ o x,cutO fm l h o=some x→o < k:=fun k hk o x h=>by have:=hb' o x h;omega
      repeat' first|exact HasO.refl|refine HasO.turn ?_|refine HasO.new (hbq _ (by omega)) ?_
   ·have hj2:j=xs.length:=by omega
    subst hj2
    rw[List.take_length]at hta
    have hkl:(kept par xs).length=i:=by rw[← hta,List.length_take];omega
    have e11:∀ zs:List AV,(k6 (kept par xs)++zs).take i=k6 (kept par xs):=fun zs=>by
     rw[List.take_append_of_le_length (by rw[kO];omega),List.take_of_length_le (by rw[kO];omega)]
    have e12:i+(xs.length - i)=xs.length:=by omega
    simp only[aR,seval,kA,kB,kBY,h2,kO,hys,hlv,hl2,nodes_take,hta,e11,hkl,List.length_append,List.length_replicate,e12,turnH_cut,cutH_cut]
    (repeat (with_reducible refine And.intro ?_ ?_;focus (first|omega|exact kE|kernel_rfl)))
    rw[hkl]at hk
    exact hk _ _ (by omega) (HasO.cut (HasO.turn HasO.refl))
 ·have hi2:i=xs.length:=by omega
  subst hi2
  rw[List.drop_length]at hn
  have e2:=goI_all par xs hn
  simp only[aR,seval,kA,kB,h1]
  rw[e2,upd_self hlv]at hk
  exact hk _ _ hq HasO.refl
end
def unA:AV→Nd
 | .agg [.v (.int _ a),.v (.int _ b),.v (.string c),.v (.bool d),.v (.string e)]=>⟨a,b,c.data.toList,d,e.data.toList⟩
 | _=>kAv
theorem unA_nA (x:Nd):unA (nA x)=x:=by
 obtain ⟨a,b,c,d,e⟩:=x
 simp[nA,unA,sv]
section
variable {Γ:Env} {d:Option Nat} {K:AS→Prop} {σ:AS}
theorem call_sortN (hC:Γ.get 78=none) {xs:List Nd} {l:Nat} (hl2:2≤l) (hlen:xs.length≤1000000) (hlv:σ.m.lv l=some (xs.length,42)) (hmu:σ.m.mu=true)
    (hk0:xs=[]→cont σ d (.tup []) K) (hk1:∀ zs:List Nd,zs.Perm xs→zs.Pairwise (fun a b=>¬ b.nm < a.nm)→cont (σ.turned l xs.length (k6 zs)) d (.tup []) K) :
    kS Tryz.prog Γ false σ 78 [.sl l 5 (k6 xs),.fn 79 []] d K:=by
 refine jI hC (sort_rawG (ρ:=Tryz.sortN_ren) (kx:=fun z=>(unA z).nm) swo_cmpB Tryz.sortN (by omega) Tryz.isAgg42 Tryz.sizeOf42 (enters_of Tryz.func79 (by kernel_rfl) rfl) (by omega) cmpN ⟨_,Tryz.func78,by kernel_rfl,rfl⟩ hl2 (by rw[kO];omega) (by rw[kO];exact hlv) hmu ?_ ?_ ?_ ?_)
 ·intro z hz
  obtain ⟨x,_,rfl⟩:=List.mem_map.1 hz
  exact ⟨rfl,rfl⟩
 ·intro z hz
  obtain ⟨x,_,rfl⟩:=List.mem_map.1 hz
  rw[unA_nA];rfl
 ·intro h
  exact hk0 (by simpa [k6] using h)
 ·intro zs h1 h2
  have e1:zs=k6 (zs.map unA):=by
   rw[k6,List.map_map]
   refine (List.map_id' zs).symm.trans (List.map_congr_left fun z hz=>?_)
   obtain ⟨x,_,rfl⟩:=List.mem_map.1 (h1.mem_iff.1 hz)
   show nA x=nA (unA (nA x))
   rw[unA_nA]
  have e2:(zs.map unA).Perm xs:=by
   have:=h1.map unA
   rwa [k6,List.map_map,show (unA ∘ nA)=id from funext unA_nA,List.map_id]at this
  rw[e1,kO]
  refine hk1 _ e2 ?_
  rw[List.pairwise_map]
  exact h2.imp fun h3=>by rw[cmpB_neg]at h3;exact h3
end
end Go.Proofs
end
-- ETr8
section
namespace Go.Proofs
open Go Go.Rw
set_option maxRecDepth 100000
def kidsR (par:Int) (l:List Nd) (ids:List Int):Prop:=∃ zs:List Nd,zs.Perm (kept par l)∧zs.Pairwise (fun a b=>¬ b.nm < a.nm)∧ids=zs.map Nd.id
theorem kidsR_len {par:Int} {l:List Nd} {ids:List Int} (h:kidsR par l ids):ids.length=(kept par l).length:=by
 obtain ⟨zs,h1,_,rfl⟩:=h
 rw[List.length_map];exact h1.length_eq
theorem kept_len (par:Int) (l:List Nd):(kept par l).length≤l.length:=List.length_filter_le _ _
abbrev tkidsCon:ConO where
 ι:={ p:TS×Int // idsOk p.1.l }
 objs:=fun p=>tsO (some p.1.1)
 args:=fun p=>[.ptr 0 0,.v (.int .i64 p.1.2)]
 post:=fun p objs lvs r=>objs=tsO (some p.1.1)∧∃ ids,kidsR p.1.2 p.1.1.l ids∧lvs=[]∧r = .sl 0 1 (ints .i64 ids)
set_option maxHeartbeats 1000000 in
theorem tkids_good:jJ Tryz.prog 27 tkidsCon:=by
 have hΓ:kM Tryz.prog []:=kJ
 refine qG (nn:=27) Tryz.func27 (by kernel_rfl) rfl (show Tryz.f27.results.toList=[.tmp 4] from rfl) (fun _=>rfl) ?_
 rintro ⟨⟨s,par⟩,hi⟩
 simp only at hi
 have hl:=hi.1
 have hkl:=kept_len par s.l
 refine qQ hΓ (Ws:=[]) _ ?_
 simp only[aR,seval,kA,kB,kC]
 refine kAn (s:=s) (o:=0) (ob:=1) (by simp[kH,kZ]) hi (by simp[qB,upd]) ?_
 simp only[aR,seval,kA,kB,kC,kO]
 (repeat (with_reducible refine And.intro ?_ ?_;focus (first|omega|exact kE|kernel_rfl)))
 refine call_del hΓ (by simp[kH,kZ]) (by simp[kH,kZ]) (by simp[kH,kZ]) (xs:=s.l) (par:=par) (by omega) (by simp[upd]) hl (by simp[upd]) ?_ ?_
 ·intro o x h
  simp only[upd]at h
  split at h
  ·omega
  ·have:=(List.getElem?_eq_some_iff.1 h).1
   simp at this;omega
 ·intro k' h' hk' hh
  have t0:=hh 0 (.cells [.mp 1]) (by simp[cutO,upd,AO.cut,AV.cutL,AV.cut])
  have t1:=hh 1 (.map s.es s.cl) (by simp[cutO,upd,AO.cut])
  simp only[aR,seval,kA,kB,kBY,kC,kO,t0,t1]
  (repeat (with_reducible refine And.intro ?_ ?_;focus (first|omega|exact kE|kernel_rfl)))
  refine call_sortN (by simp[kH,kZ]) (by omega) (by omega) (by simp[upd]) rfl ?_ ?_
  ·intro h0
   obtain ⟨zs,hz,hp⟩:∃ zs:List Nd,kept par s.l=zs∧zs.Pairwise (fun a b=>¬ b.nm < a.nm):=⟨[],h0,List.Pairwise.nil⟩
   have hz1:zs.Perm (kept par s.l):=by rw[hz]
   rw[hz]
   have hzl:zs.length=(kept par s.l).length:=hz1.length_eq
   simp only[aR,seval,kA,kB,kBY,kC,kO,t0,t1,hzl]
   (repeat (with_reducible refine And.intro ?_ ?_;focus (first|omega|exact kE|kernel_rfl)))
   obtain ⟨St,hSt⟩:∃ St:{ i:Nat // i≤zs.length }→AS,∀ i,St i=AS.ofH 27 [(4,.sl 2 1 (ints .i64 ((zs.take i.1).map Nd.id))),(14,.sl 0 5 (k6 zs)),(15,.v (.int .i64 zs.length)),(16,.v (.int .i64 i.1))] [(0,.ptr 0 0),(1,.mp 1)] (tsO (some s)) [(i.1,3)]:=⟨_,fun _=>rfl⟩
   refine kA3 ?_
   refine zK [] hΓ St (fun i=>zs.length - i.1) ⟨0,by omega⟩ (by rw[hSt];refine kX [0,1] [.nil 1] ?_;simp only[aR,seval,kA,kB,kBY,kC,List.take_zero,List.map_nil,ints_nil,kO,hzl,t0,t1]<;>((repeat' apply And.intro)<;>first|rfl|omega|trivial)) ?_
   rintro ⟨i,hle⟩
   rw[hSt]
   simp only
   simp only[aR,seval,kA,kB,kC,kO]
   (with_reducible first|refine kF (fun h=>?_) (fun h=>?_)|refine kG (fun h=>?_) (fun h=>?_))
   ·have hlt:i < zs.length:=by omega
    have e3:=zJ zs hlt
    have e4:ints .i64 ((zs.take (i+1)).map Nd.id)=ints .i64 ((zs.take i).map Nd.id)++[.v (.int .i64 zs[i].id)]:=by
     rw[List.take_succ_eq_append_getElem hlt,List.map_append];simp[ints]
    have e5:(ints .i64 ((zs.take i).map Nd.id)).length=i:=by simp[ints];omega
    generalize zs[i]=x at *
    simp only[aR,seval,kA,kB,kC,h,e3,nA,kO,e5,kD (n:=(i:Int)+1) (by omega) (by omega)]
    (repeat (with_reducible refine And.intro ?_ ?_;focus (first|omega|exact kE|kernel_rfl)))
    refine kN ⟨i+1,by omega⟩ (by simp only;omega) ?_
    rw[hSt];refine kX [0,1] [.live 2] ?_
    simp only[aR,seval,kA,kB,kC,e4,nA]<;>((repeat' apply And.intro)<;>first|rfl|omega|trivial)
   ·have hi2:i=zs.length:=by omega
    subst hi2
    have e6:=List.take_of_length_le (Nat.le_refl zs.length)
    simp only[aR,seval,kA,kB,kC,h,e6]
    refine kQ [0,1] [] (tsO (some s)) [] (.sl 0 1 (ints .i64 (zs.map Nd.id))) ⟨rfl,zs.map Nd.id,⟨zs,hz1,hp,rfl⟩,rfl,rfl⟩ ?_
    simp only[aR,seval,kA,kB,kC]<;>((repeat' apply And.intro)<;>first|rfl|omega|trivial)
  ·intro zs hz1 hp
   have hzl:zs.length=(kept par s.l).length:=hz1.length_eq
   simp only[aR,seval,kA,kB,kBY,kC,kO,t0,t1,hzl]
   (repeat (with_reducible refine And.intro ?_ ?_;focus (first|omega|exact kE|kernel_rfl)))
   obtain ⟨St,hSt⟩:∃ St:{ i:Nat // i≤zs.length }→AS,∀ i,St i=AS.ofH 27 [(4,.sl 2 1 (ints .i64 ((zs.take i.1).map Nd.id))),(14,.sl 0 5 (k6 zs)),(15,.v (.int .i64 zs.length)),(16,.v (.int .i64 i.1))] [(0,.ptr 0 0),(1,.mp 1)] (tsO (some s)) [(i.1,3)]:=⟨_,fun _=>rfl⟩
   refine kA3 ?_
   refine zK [] hΓ St (fun i=>zs.length - i.1) ⟨0,by omega⟩ (by rw[hSt];refine kX [0,1] [.nil 1] ?_;simp only[aR,seval,kA,kB,kBY,kC,List.take_zero,List.map_nil,ints_nil,kO,hzl,t0,t1]<;>((repeat' apply And.intro)<;>first|rfl|omega|trivial)) ?_
   rintro ⟨i,hle⟩
   rw[hSt]
   simp only
   simp only[aR,seval,kA,kB,kC,kO]
   (with_reducible first|refine kF (fun h=>?_) (fun h=>?_)|refine kG (fun h=>?_) (fun h=>?_))
   ·have hlt:i < zs.length:=by omega
    have e3:=zJ zs hlt
    have e4:ints .i64 ((zs.take (i+1)).map Nd.id)=ints .i64 ((zs.take i).map Nd.id)++[.v (.int .i64 zs[i].id)]:=by
     rw[List.take_succ_eq_append_getElem hlt,List.map_append];simp[ints]
    have e5:(ints .i64 ((zs.take i).map Nd.id)).length=i:=by simp[ints];omega
    generalize zs[i]=x at *
    simp only[aR,seval,kA,kB,kC,h,e3,nA,kO,e5,kD (n:=(i:Int)+1) (by omega) (by omega)]
    (repeat (with_reducible refine And.intro ?_ ?_;focus (first|omega|exact kE|kernel_rfl)))
    refine kN ⟨i+1,by omega⟩ (by simp only;omega) ?_
    rw[hSt];refine kX [0,1] [.live 2] ?_
    simp only[aR,seval,kA,kB,kC,e4,nA]<;>((repeat' apply And.intro)<;>first|rfl|omega|trivial)
   ·have hi2:i=zs.length:=by omega
    subst hi2
    have e6:=List.take_of_length_le (Nat.le_refl zs.length)
    simp only[aR,seval,kA,kB,kC,h,e6]
    refine kQ [0,1] [] (tsO (some s)) [] (.sl 0 1 (ints .i64 (zs.map Nd.id))) ⟨rfl,zs.map Nd.id,⟨zs,hz1,hp,rfl⟩,rfl,rfl⟩ ?_
    simp only[aR,seval,kA,kB,kC]<;>((repeat' apply And.intro)<;>first|rfl|omega|trivial)
end Go.Proofs
end
-- ETr9
section
namespace Go.Proofs
open Go Go.Rw
set_option maxRecDepth 100000
section
variable {Γ:Env} {n:Nat} {t:Nat→AV} {hd:Nat→Nat→AV} {d:Option Nat} {K:AS→Prop}
variable {nh nl:Nat} {h:Nat→Option AO} {fm:Nat→Nat} {lv:Nat→Option (Nat×Nat)} {mu:Bool}
theorem call_tkids (hC:Γ.get 27=none) {s:TS} {par:Int} (hi:idsOk s.l) {o ob:Nat} (hT:qB h o ob s)
    (hk:∀ ids,kidsR par s.l ids→cont ⟨n,t,hd,⟨nh,h,nl,fm,lv,mu⟩⟩ d (.sl 0 1 (ints .i64 ids)) K):kS Tryz.prog Γ false ⟨n,t,hd,⟨nh,h,nl,fm,lv,mu⟩⟩ 27 [.ptr o 0,.v (.int .i64 par)] d K:=by
 refine kAC tkids_good hC ⟨(s,par),hi⟩ rfl hT (by simp[dnL,dn]) rfl (fun _ _ _ hp=>hp.1) ?_
 rintro lvs r ⟨_,ids,h1,rfl,rfl⟩
 exact hk ids h1
theorem kCN {f:FuncId} {C:ConO} (hG:jJ Tryz.prog f C) (hC:Γ.get f=none) (i:C.ι) {s:TS} (hobjs:C.objs i=tsO (some s)) {o ob:Nat} (hT:qB h o ob s) {bs:List AV} (ha:dnL [o,ob] bs (C.args i)) (ht:AV.tagsL bs=[]) {q:List Nd×Int}
    (hpost:∀ objs lvs r,C.post i objs lvs r→mutP s q objs lvs r)
    (hk:∀ s':TS,s'.l=q.1→cont ⟨n,t,hd,⟨nh,upd h ob (some (.map s'.es s'.cl)),nl,fm,lv,mu⟩⟩ d (.v (.int .i64 q.2)) K):kS Tryz.prog Γ false ⟨n,t,hd,⟨nh,h,nl,fm,lv,mu⟩⟩ f bs d K:=by
 obtain ⟨h1,h2,h3⟩:=hT
 refine vc_obj hG hC i [o,ob] ⟨by simp[h3],ha,?_,ht,?_⟩ ?_
 ·rw[hobjs]
  simp only[tsO,kEQ,dnOs_nil,h1,h2,kCv,dnOo_map,kDa,dnL_nil,dn_mp]
  simp
 ·simp[kBs,kB0,h1,h2,tagsO1,AO.tags,AV.tagsL,AV.tags]
 ·intro objs lvs r hp hl
  obtain ⟨s',h4,rfl,rfl,rfl⟩:=hpost _ _ _ hp
  have e1:upd h o (some (.cells [.mp ob]))=h:=upd_it h1
  have e3:(tsO (some s')).length - [o,ob].length=0:=rfl
  rw[e3]
  simp only[tsO,List.cons_append,List.nil_append,kFU,kET,kFN,embO_map,kEZ,embL_nil,emb_mp,obC_succ,obC_zero,obC_nil,kEq,callH_new,kEh,kES,kEV,emb_v,List.length_nil,Nat.add_zero,e1]
  exact hk s' h4
end
def remN (l:List Nd) (id:Int):List Nd×Int :=
 if hasN l id=false then (l,5) else if 0 < (kept id l).length then (l,9) else (offT id l,0)
abbrev tremCon:ConO where
 ι:={ p:TS×Int // idsOk p.1.l }
 objs:=fun p=>tsO (some p.1.1)
 args:=fun p=>[.ptr 0 0,.v (.int .i64 p.1.2)]
 post:=fun p=>mutP p.1.1 (remN p.1.1.l p.1.2)
set_option maxHeartbeats 1000000 in
theorem trem_good:jJ Tryz.prog 63 tremCon:=by
 have hΓ:kM Tryz.prog []:=kJ
 refine qG (nn:=28) Tryz.func63 (by kernel_rfl) rfl (show Tryz.f63.results.toList=[.tmp 4] from rfl) (fun _=>rfl) ?_
 rintro ⟨⟨s,id⟩,hi⟩
 simp only at hi
 refine qQ hΓ (Ws:=[]) _ ?_
 have e1:=kA0 s.h
 have e0:remN s.l id=if hasN s.l id=false then (s.l,5) else if 0 < (kept id s.l).length then (s.l,9) else (offT id s.l,0):=rfl
 simp only[aR,seval,kA,kB,kC,e1,nA]
 (repeat (with_reducible refine And.intro ?_ ?_;focus (first|omega|exact kE|kernel_rfl)))
 rcases Bool.eq_false_or_eq_true (hasN s.l id) with hh|hh
 case inr =>
  rw[if_pos hh]at e0
  simp only[aR,seval,kA,kB,kC,hh]
  refine kQ [0,1] [] (tsO (some s)) [] (.v (.int .i64 5)) ⟨s,by rw[e0],rfl,rfl,by rw[e0]⟩ ?_
  simp only[aR,seval,kA,kB,kC]<;>((repeat' apply And.intro)<;>first|rfl|omega|trivial)
 rw[if_neg (by rw[hh];decide)]at e0
 simp only[aR,seval,kA,kB,kC,hh]
 (repeat (with_reducible refine And.intro ?_ ?_;focus (first|omega|exact kE|kernel_rfl)))
 refine call_tkids (s:=s) (o:=0) (ob:=1) (by simp[kH,kZ]) hi (by simp[qB,upd]) ?_
 intro ids hk
 have e2:=kidsR_len hk
 have e3:(ints .i64 ids).length=ids.length:=by simp[ints]
 simp only[aR,seval,kA,kB,kC,e3,e2]
 (repeat (with_reducible refine And.intro ?_ ?_;focus (first|omega|exact kE|kernel_rfl)))
 by_cases h9:0 < (kept id s.l).length
 ·rw[if_pos h9]at e0
  simp only[aR,seval,kA,kB,kC,show (((kept id s.l).length:Int) > 0)=True from eq_true (by omega)]
  refine kQ [0,1] [] (tsO (some s)) [] (.v (.int .i64 9)) ⟨s,by rw[e0],rfl,rfl,by rw[e0]⟩ ?_
  simp only[aR,seval,kA,kB,kC]<;>((repeat' apply And.intro)<;>first|rfl|omega|trivial)
 rw[if_neg h9]at e0
 simp only[aR,seval,kA,kB,kC,show (((kept id s.l).length:Int) > 0)=False from eq_false (by omega)]
 obtain ⟨es',cl',p1,p2⟩:=off_tm s.h id
 simp only[aR,seval,kA,kB,kC,p1]
 (repeat (with_reducible refine And.intro ?_ ?_;focus (first|omega|exact kE|kernel_rfl)))
 refine kQ [0,1] [] (tsO (some ⟨es',cl',_,p2⟩)) [] (.v (.int .i64 0)) ⟨⟨es',cl',_,p2⟩,by rw[e0],rfl,rfl,by rw[e0]⟩ ?_
 simp only[aR,seval,kA,kB,kC]<;>((repeat' apply And.intro)<;>first|rfl|omega|trivial)
def dotN (l:List Nd) (a:Ac):List Nd×Int :=
 if a.k < 1∨a.k > 4 then (l,1)
 else if a.k=1 then creN l a
 else if a.k=2 then remN l a.id
 else if a.k=3 then movN l a
 else ediN l a
def doOk (l:List Nd) (a:Ac):Prop:=trOk l∧rtOk l∧a.nm.length≤1099511627776∧okL a.ops
abbrev tdoCon:ConO where
 ι:={ p:TS×Ac // doOk p.1.l p.2 }
 objs:=fun p=>tsO (some p.1.1)
 args:=fun p=>[.ptr 0 0,aA p.1.2]
 post:=fun p=>mutP p.1.1 (dotN p.1.1.l p.1.2)
set_option maxHeartbeats 4000000 in
theorem tdo_good:jJ Tryz.prog 18 tdoCon:=by
 have hΓ:kM Tryz.prog []:=kJ
 refine qG (nn:=45) Tryz.func18 (by kernel_rfl) rfl (show Tryz.f18.results.toList=[.tmp 4] from rfl) (fun _=>rfl) ?_
 rintro ⟨⟨s,a⟩,ho,hr,hn,hc⟩
 obtain ⟨k,id,par,nm,dir,ops⟩:=a
 simp only at ho hr hn hc
 refine qQ hΓ (Ws:=[]) _ ?_
 have e0:dotN s.l ⟨k,id,par,nm,dir,ops⟩=if k < 1∨k > 4 then (s.l,1) else if k=1 then creN s.l ⟨k,id,par,nm,dir,ops⟩ else if k=2 then remN s.l id else if k=3 then movN s.l ⟨k,id,par,nm,dir,ops⟩ else ediN s.l ⟨k,id,par,nm,dir,ops⟩:=rfl
 simp only[aR,seval,kA,kB,kC,aA]
 (repeat (with_reducible refine And.intro ?_ ?_;focus (first|omega|exact kE|kernel_rfl)))
 by_cases h1:k < 1
 ·rw[if_pos (.inl h1)]at e0
  simp only[aR,seval,kA,kB,kC,h1]
  refine kQ [0,1] [] (tsO (some s)) [] (.v (.int .i64 1)) ⟨s,by rw[e0],rfl,rfl,by rw[e0]⟩ ?_
  simp only[aR,seval,kA,kB,kC]<;>((repeat' apply And.intro)<;>first|rfl|omega|trivial)
 by_cases h2:k > 4
 ·rw[if_pos (.inr h2)]at e0
  simp only[aR,seval,kA,kB,kC,h1,h2]
  refine kQ [0,1] [] (tsO (some s)) [] (.v (.int .i64 1)) ⟨s,by rw[e0],rfl,rfl,by rw[e0]⟩ ?_
  simp only[aR,seval,kA,kB,kC]<;>((repeat' apply And.intro)<;>first|rfl|omega|trivial)
 rw[if_neg (by omega)]at e0
 simp only[aR,seval,kA,kB,kC,h1,h2]
 (repeat (with_reducible refine And.intro ?_ ?_;focus (first|omega|exact kE|kernel_rfl)))
 by_cases k1:k=1
 ·subst k1
  rw[if_pos rfl]at e0
  simp only[aR,seval,kA,kB,kC,aA]
  (repeat (with_reducible refine And.intro ?_ ?_;focus (first|omega|exact kE|kernel_rfl)))
  refine kCN (o:=0) (ob:=1) (q:=creN s.l ⟨1,id,par,nm,dir,ops⟩) tcre_good (by simp[kH,kZ]) ⟨(s,⟨1,id,par,nm,dir,ops⟩),ho,hn⟩ rfl (by simp[qB,upd]) (by simp[dnL,dn,aA]) (by simp[AV.tagsL,AV.tags]) (fun _ _ _ hp=>hp) ?_
  intro s' hs
  simp only[aR,seval,kA,kB,kC,h1,h2]
  (repeat (with_reducible refine And.intro ?_ ?_;focus (first|omega|exact kE|kernel_rfl)))
  refine kQ [0,1] [] (tsO (some s')) [] (.v (.int .i64 (creN s.l ⟨1,id,par,nm,dir,ops⟩).2)) ⟨s',by rw[e0];exact hs,rfl,rfl,by rw[e0]⟩ ?_
  simp only[aR,seval,kA,kB,kC]<;>((repeat' apply And.intro)<;>first|rfl|omega|trivial)
 rw[if_neg k1]at e0
 by_cases k2:k=2
 ·subst k2
  rw[if_pos rfl]at e0
  simp only[aR,seval,kA,kB,kC,aA]
  (repeat (with_reducible refine And.intro ?_ ?_;focus (first|omega|exact kE|kernel_rfl)))
  refine kCN (o:=0) (ob:=1) (q:=remN s.l id) trem_good (by simp[kH,kZ]) ⟨(s,id),ho.1⟩ rfl (by simp[qB,upd]) (by simp[dnL,dn,aA]) (by simp[AV.tagsL,AV.tags]) (fun _ _ _ hp=>hp) ?_
  intro s' hs
  simp only[aR,seval,kA,kB,kC,h1,h2]
  (repeat (with_reducible refine And.intro ?_ ?_;focus (first|omega|exact kE|kernel_rfl)))
  refine kQ [0,1] [] (tsO (some s')) [] (.v (.int .i64 (remN s.l id).2)) ⟨s',by rw[e0];exact hs,rfl,rfl,by rw[e0]⟩ ?_
  simp only[aR,seval,kA,kB,kC]<;>((repeat' apply And.intro)<;>first|rfl|omega|trivial)
 rw[if_neg k2]at e0
 by_cases k3:k=3
 ·subst k3
  rw[if_pos rfl]at e0
  simp only[aR,seval,kA,kB,kC,aA]
  (repeat (with_reducible refine And.intro ?_ ?_;focus (first|omega|exact kE|kernel_rfl)))
  refine kCN (o:=0) (ob:=1) (q:=movN s.l ⟨3,id,par,nm,dir,ops⟩) tmov_good (by simp[kH,kZ]) ⟨(s,⟨3,id,par,nm,dir,ops⟩),ho,hr,hn⟩ rfl (by simp[qB,upd]) (by simp[dnL,dn,aA]) (by simp[AV.tagsL,AV.tags]) (fun _ _ _ hp=>hp) ?_
  intro s' hs
  simp only[aR,seval,kA,kB,kC,h1,h2]
  (repeat (with_reducible refine And.intro ?_ ?_;focus (first|omega|exact kE|kernel_rfl)))
  refine kQ [0,1] [] (tsO (some s')) [] (.v (.int .i64 (movN s.l ⟨3,id,par,nm,dir,ops⟩).2)) ⟨s',by rw[e0];exact hs,rfl,rfl,by rw[e0]⟩ ?_
  simp only[aR,seval,kA,kB,kC]<;>((repeat' apply And.intro)<;>first|rfl|omega|trivial)
 rw[if_neg k3]at e0
 simp only[aR,seval,kA,kB,kC,k1,k2,k3,aA]
 (repeat (with_reducible refine And.intro ?_ ?_;focus (first|omega|exact kE|kernel_rfl)))
 refine kCN (o:=0) (ob:=1) (q:=ediN s.l ⟨k,id,par,nm,dir,ops⟩) tedi_good (by simp[kH,kZ]) ⟨(s,⟨k,id,par,nm,dir,ops⟩),ho,hc⟩ rfl (by simp[qB,upd]) (by simp[dnL,dn,aA]) (by simp[AV.tagsL,AV.tags]) (fun _ _ _ hp=>hp) ?_
 intro s' hs
 simp only[aR,seval,kA,kB,kC,h1,h2]
 (repeat (with_reducible refine And.intro ?_ ?_;focus (first|omega|exact kE|kernel_rfl)))
 refine kQ [0,1] [] (tsO (some s')) [] (.v (.int .i64 (ediN s.l ⟨k,id,par,nm,dir,ops⟩).2)) ⟨s',by rw[e0];exact hs,rfl,rfl,by rw[e0]⟩ ?_
 simp only[aR,seval,kA,kB,kC]<;>((repeat' apply And.intro)<;>first|rfl|omega|trivial)
end Go.Proofs
end
-- ETr10
section
namespace Go.Proofs
open Go Go.Rw
set_option maxRecDepth 100000
theorem gN_at (l:List Nd) (i:Int):gN l i=(atI i l).getD kAv:=by
 rw[at_ndx]
 unfold gN
 split
 ·rfl
 ·rw[List.getD_eq_getElem?_getD,List.getElem?_eq_none (by omega)]
theorem kBH (l:List Nd) (i:Int):hasN l i=(atI i l).isSome:=by
 rw[at_ndx]
 unfold hasN
 split<;>simp[*]
def pf (l:List Nd) (i:Int):Int:=(gN l i).par
def upN (l:List Nd):Nat→Int→Int
 | 0,i=>i
 | k+1,i=>upN l k (pf l i)
theorem up_add (l:List Nd):∀ (j k:Nat) (i:Int),upN l (j+k) i=upN l k (upN l j i)
 | 0,k,i=>by rw [Nat.zero_add];rfl
 | j+1,k,i=>by rw [Nat.add_right_comm];exact up_add l j k (pf l i)
theorem up_succ (l:List Nd) (k:Nat) (i:Int):upN l (k+1) i=pf l (upN l k i):=up_add l k 1 i
theorem pf_no {l:List Nd} {i:Int} (h:hasN l i=false):pf l i=0:=by
 unfold pf
 rw[gN_at]
 rw[kBH]at h
 cases h2:atI i l with
 | none=>rfl
 | some x=>rw [h2] at h;simp at h
theorem nodup_sub:∀ {a b:List Int},a.Nodup→(∀ x∈a,x∈b)→a.length≤b.length
 | [],b,_,_=>Nat.zero_le _
 | x::a,b,hn,hs=>by
   rw[List.nodup_cons]at hn
   have h1:=hs x (List.mem_cons_self ..)
   have h2:=nodup_sub (a:=a) (b:=b.erase x) hn.2 fun y hy=>(List.mem_erase_of_ne (by rintro rfl;exact hn.1 hy)).2 (hs y (List.mem_cons_of_mem _ hy))
   rw[List.length_erase_of_mem h1]at h2
   have:0 < b.length:=List.length_pos_of_mem h1
   simp only[List.length_cons];omega
structure okNd (x:Nd):Prop where
 id:1≤x.id∧x.id≤1099511627776
 nm:qA x.nm=true
 dir:x.dir=true→x.text=[]
 valid:(pts x.text).isSome=true
 cnt:cnt x.text≤2000
structure sndN (l:List Nd):Prop where
 srt:srtN l
 len:l.length≤100
 node:∀ x∈l,okNd x
 tot:totN l≤10000
 sib:∀ x∈l,∀ y∈l,x.par=y.par→x.nm=y.nm→x.id=y.id
 par:∀ x∈l,x.par=0∨(hasN l x.par=true∧(gN l x.par).dir=true)
 rt:∀ x∈l,∃ k,upN l k x.id=0
theorem snd_nil:sndN []:=⟨by simp[srtN],by simp,by simp,by simp[totN],by simp,by simp,by simp⟩
theorem at_mem {l:List Nd} (h:srtN l) {x:Nd} (hx:x∈l):atI x.id l=some x:=by
 obtain ⟨i,hi,rfl⟩:=List.getElem_of_mem hx
 have:=ndx_self (srt_mem h) i (List.getElem?_eq_getElem hi)
 rw[at_ndx,this,if_pos hi,List.getD_eq_getElem?_getD,List.getElem?_eq_getElem hi];rfl
theorem jA {l:List Nd} {i:Int} (h:hasN l i=true):gN l i∈l∧(gN l i).id=i:=by
 obtain ⟨h1,h2,h3⟩:=kAy h
 rw[h2]
 exact ⟨List.getElem_mem h1,h3⟩
theorem kCg {l:List Nd} {x:Nd} (hx:x∈l):hasN l x.id=true:=(qH l x.id).2 ((kEA x.id l).2 ⟨x,hx,rfl⟩)
theorem gN_self {l:List Nd} (h:srtN l) {x:Nd} (hx:x∈l):gN l x.id=x:=by rw[gN_at,at_mem h hx];rfl
section
variable {l:List Nd} (S:sndN l)
include S
theorem no_zero:hasN l 0=false:=by
 rcases Bool.eq_false_or_eq_true (hasN l 0) with h|h
 ·have:=jA h
  have h2:=(S.node _ this.1).id.1
  omega
 ·exact h
theorem pf_zero:pf l 0=0:=pf_no (no_zero S)
theorem kBE:∀ k,upN l k 0=0
 | 0=>rfl
 | k+1=>by rw [upN,pf_zero S];exact kBE k
theorem up_stay {j k:Nat} {i:Int} (h:upN l j i=0) (hk:j≤k):upN l k i=0:=by
 obtain ⟨m,rfl⟩:∃ m,k=j+m:=⟨k - j,by omega⟩
 rw[up_add,h,kBE S]
def inT (l:List Nd) (i:Int):Prop:=i=0∨hasN l i=true
theorem pf_in {i:Int}:inT l (pf l i):=by
 rcases Bool.eq_false_or_eq_true (hasN l i) with h|h
 ·obtain ⟨h1,h2⟩:=jA h
  rcases S.par _ h1 with h3|h3
  ·exact .inl h3
  ·exact .inr h3.1
 ·exact .inl (pf_no h)
theorem up_in {i:Int} (hi:inT l i):∀ k,inT l (upN l k i)
 | 0=>hi
 | k+1=>by rw [up_succ];exact pf_in S
theorem rt_in {i:Int} (hi:inT l i):∃ k,upN l k i=0:=by
 rcases hi with rfl|hi
 ·exact ⟨0,rfl⟩
 ·obtain ⟨h1,h2⟩:=jA hi
  have:=S.rt _ h1
  rwa [h2]at this
theorem kDT {i:Int} (hi:inT l i):upN l l.length i=0:=by
 obtain ⟨k,hk⟩:=rt_in S hi
 induction k using Nat.strongRecOn with
 | ind k ih =>
   by_cases hlt:k≤l.length
   ·exact up_stay S hk hlt
   ·-- two of the k are the same
    by_cases hall:∀ j,j < k→upN l j i≠0
    ·by_cases hnd:((List.range k).map fun j=>upN l j i).Nodup
     ·have:=nodup_sub (b:=l.map Nd.id) hnd fun y hy=>by
        obtain ⟨j,hj,rfl⟩:=List.mem_map.1 hy
        rcases up_in S hi j with h0|h0
        ·exact absurd h0 (hall j (by simpa using hj))
        ·obtain ⟨h1,h2⟩:=jA h0
         exact List.mem_map.2 ⟨_,h1,h2⟩
      simp at this
      omega
     ·exfalso
      apply hnd
      rw[List.nodup_iff_pairwise_ne,List.pairwise_map]
      rw[List.pairwise_iff_getElem]
      intro a b ha hb hab
      simp only[List.length_range]at ha hb
      simp only[List.getElem_range]
      intro he
      -- from b on as from a on: the root sooner
      have h1:upN l (a+(k - b)) i=0:=by rw[up_add,he,← up_add,show b+(k - b)=k by omega,hk]
      exact hall _ (by omega) h1
    ·have:∃ j,j < k∧upN l j i=0:=by
       refine Classical.byContradiction fun hc=>hall fun j hj h0=>hc ⟨j,hj,h0⟩
     obtain ⟨j,hj,h0⟩:=this
     exact ih j hj h0
theorem kD9 {i:Int}:∀ n,jS l n i=true↔upN l n i=0
 | 0=>by simp [jS,upN]
 | n+1=>by
   rw[jS,upN]
   split
   ·rename_i h0
    subst h0
    simp[pf_zero S,kBE S]
   ·exact kD9 n
theorem snd_rt:rtOk l:=fun x hx=>(kD9 S _).2 (kDT S (.inr (kCg hx)))
def kDX (l:List Nd) (i top:Int):Prop:=∃ k,upN l k i=top
theorem up_iff {i top:Int}:∀ n,upB l top n i=true↔∃ k,k≤n∧upN l k i=top∧∀ j,j < k→upN l j i≠0
 | 0=>by
   simp only[upB,decide_eq_true_eq]
   constructor
   ·rintro rfl;exact ⟨0,Nat.le_refl _,rfl,by omega⟩
   ·rintro ⟨k,hk,h,_⟩
    have:k=0:=by omega
    subst this;exact h
 | n+1=>by
   rw[upB]
   split
   ·rename_i h0
    simp only[true_iff]
    exact ⟨0,Nat.zero_le _,h0,by omega⟩
   ·rename_i h0
    split
    ·rename_i h1
     subst h1
     simp only[Bool.false_eq_true,false_iff]
     rintro ⟨k,hk,h,h2⟩
     cases k with
     | zero=>exact h0 h
     | succ k=>exact h2 0 (by omega) rfl
    ·rename_i h1
     rw[show (gN l i).par=pf l i from rfl,up_iff n]
     constructor
     ·rintro ⟨k,hk,h,h2⟩
      refine ⟨k+1,by omega,h,fun j hj=>?_⟩
      cases j with
      | zero=>exact h1
      | succ j=>exact h2 j (by omega)
     ·rintro ⟨k,hk,h,h2⟩
      cases k with
      | zero=>exact absurd h h0
      | succ k=>exact ⟨k,by omega,h,fun j hj=>h2 (j+1) (by omega)⟩
theorem up_meets {i top:Int} (hi:inT l i) (ht:top≠0):upB l top l.length i=true↔kDX l i top:=by
 rw[up_iff S]
 constructor
 ·rintro ⟨k,_,h,_⟩;exact ⟨k,h⟩
 ·rintro ⟨k,h⟩
  have hz:∀ j,j≤k→upN l j i≠0:=fun j hj h0=>ht (by rw[← h,up_stay S h0 hj])
  refine ⟨k,?_,h,fun j hj=>hz j (by omega)⟩
  refine Classical.byContradiction fun hc=>hz l.length (by omega) (kDT S hi)
theorem in_iff {top:Int} (ht:top≠0):∀ (n:Nat) {i:Int},inT l i→upN l n i=0→(inN l top (n+1) i=true↔kDX l i top)
 | n,i,hi,h0=>by
   rw[inN]
   split
   ·rename_i h1
    simp only[true_iff]
    exact ⟨0,h1⟩
   ·rename_i h1
    split
    ·rename_i h2
     have h3:(l.getD (ndx i l) kAv).par=pf l i:=rfl
     rw[h3]
     have h4:kDX l i top↔kDX l (pf l i) top:=by
      constructor
      ·rintro ⟨k,h⟩
       cases k with
       | zero=>exact absurd h h1
       | succ k=>exact ⟨k,h⟩
      ·rintro ⟨k,h⟩;exact ⟨k+1,h⟩
     rw[h4]
     cases n with
     | zero =>
       have:i=0:=h0
       subst this
       have:=no_zero S
       simp[hasN]at this
       omega
     | succ n=>exact in_iff ht n (pf_in S) h0
    ·rename_i h2
     have h5:i=0:=by
      rcases hi with h|h
      ·exact h
      ·exact absurd ((qH l i).1 h) h2
     subst h5
     simp only[Bool.false_eq_true,false_iff]
     rintro ⟨k,h⟩
     rw[kBE S]at h
     exact ht h.symm
theorem kAT {i top:Int} (hi:inT l i) (ht:top≠0):kAG l i top=true↔kDX l i top:=in_iff S ht l.length hi (kDT S hi)
theorem kDm {par:Int} {nm:List UInt8}:∀ {m:List Nd},(∀ x∈m,1≤x.id)→(kid par nm m = -1∨1≤kid par nm m)
 | [],_=>.inl rfl
 | x::m,h=>by
   rw[kid]
   split
   ·exact .inr (h x (List.mem_cons_self ..))
   ·exact kDm fun y hy=>h y (List.mem_cons_of_mem _ hy)
end
theorem kid_iff {par i:Int} {nm:List UInt8}:∀ {m:List Nd},(∀ x∈m,1≤x.id)→1≤i→kid par nm m=i→∃ x∈m,x.par=par∧x.nm=nm∧x.id=i
 | [],_,h1,h=>by rw [kid] at h;omega
 | x::m,hp,h1,h=>by
   rw[kid]at h
   split at h
   ·rename_i hx
    exact ⟨x,List.mem_cons_self ..,hx.1,hx.2,h⟩
   ·obtain ⟨y,hy,h2⟩:=kid_iff (fun y hy=>hp y (List.mem_cons_of_mem _ hy)) h1 h
    exact ⟨y,List.mem_cons_of_mem _ hy,h2⟩
theorem kCR {par:Int} {nm:List UInt8}:∀ {m:List Nd},(∀ x∈m,1≤x.id)→¬ 1≤kid par nm m→∀ x∈m,¬ (x.par=par∧x.nm=nm)
 | [],_,h,x,hx=>by cases hx
 | y::m,hp,h,x,hx=>by
   rw[kid]at h
   split at h
   ·exact absurd (hp y (List.mem_cons_self ..)) h
   ·rename_i hy
    rcases List.mem_cons.1 hx with rfl|hx
    ·exact hy
    ·exact kCR (fun y hy=>hp y (List.mem_cons_of_mem _ hy)) h x hx
end Go.Proofs
end
