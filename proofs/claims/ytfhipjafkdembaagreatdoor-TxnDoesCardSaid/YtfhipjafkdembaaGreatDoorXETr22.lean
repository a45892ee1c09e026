/-
 A tree of kU: what Load takes is what is qU. Is a tree qU. Whose kU a transaction touches. What the document fixes of rebase. RebaseApart answers true. law14: small;TxnAsks answers true. TxnAsks answers true. Is a tree qU: just so. TxnDoes answers true. Acts,and what was done,given: opened. A transaction behind commits. How much a message is,where it bears commits alone. A tree given,commits given: opened. From the laws' functions to their rows: the tables as they are laid;a world for the witness.
-/
import Derived.Test.YtfhipjafkdembaaGreatDoorXETr9
import Derived.Test.YtfhipjafkdembaaGreatDoorXEUk5
import Derived.Test.YtfhipjafkdembaaGreatDoorXESh
import Derived.Test.YtfhipjafkdembaaGreatDoorRwI
import Derived.Test.YtfhipjafkdembaaGreatDoorRwG
import Derived.Test.YtfhipjafkdembaaGreatDoorCards
import Derived.Test.YtfhipjafkdembaaGreatDoorTie
import Derived.Lib.LaidIn
import Derived.Lib.LaidU8T
import Derived.Deep.DeepHandedRow
import Derived.Deep.DeepWitnessRowRef
import Derived.ProofKit
import Derived.OpenShut
import Derived.SizedLaws
import Derived.SevenTiedAt
set_option linter.unusedSimpArgs false
set_option linter.unusedVariables false
set_option linter.defProp false
set_option linter.unusedSectionVars false

-- ETr22
section
namespace Go.Proofs
open Go Go.Rw
set_option maxRecDepth 100000
theorem set_end {x:Nd}:∀ {m:List Nd},(∀ y∈m,y.id < x.id)→setT x m=m++[x]:=fun {m} h=>by
 have h1:hasN m x.id=false:=by
  rcases Bool.eq_false_or_eq_true (hasN m x.id) with hh|hh
  ·obtain ⟨h2,h3⟩:=kB4 hh
   have:=h _ h2
   omega
  ·exact hh
 have h2:∀ {m:List Nd},(∀ y∈m,y.id < x.id)→atN x.id m=m.length:=fun {m}=>by
  induction m with
  | nil=>intro _;rfl
  | cons y m ih =>
    intro h
    rw[atN,if_pos (h y (List.mem_cons_self ..)),ih fun z hz=>h z (List.mem_cons_of_mem _ hz)];rfl
 unfold setT
 rw[h1,if_neg (by decide),h2 h,List.take_length,List.drop_length]
abbrev Ld1 (l:List Nd):={ p:Nat×TS×Int // p.1≤l.length∧p.2.1.l=l.take p.1∧(∀ x∈l.take p.1,okNd x∧x.id≤p.2.2)∧(0≤p.2.2∧p.2.2≤1099511627776)∧(p.2.2=0∨∃ x∈l.take p.1,x.id=p.2.2) }
def kOf (x:Nd):Ky:=(x.par,x.nm)
structure NS where
 es:Array MapEntry
 cl:Nat
 ps:List (Ky×Int)
 h:NM es cl ps
def NI (l:List Nd) (i:Nat) (ps:List (Ky×Int)):Prop:=(∀ k,k∈ps.map Prod.fst↔k∈(l.take i).map kOf)∧((ps.length=i∧((l.take i).map kOf).Nodup)∨(ps.length < i∧¬ ((l.take i).map kOf).Nodup))
def goodP (l:List Nd) (x:Nd):Prop:=(x.par=0∨(gN l x.par).dir=true)∧kAE l l.length x.id=true
abbrev Ld2 (l:List Nd):={ p:Nat×NS // p.1≤l.length∧(∀ x∈l.take p.1,goodP l x)∧NI l p.1 p.2.ps }
abbrev tloadCon:ConO where
 ι:={ l:List Nd // l.length≤1000000∧∀ x∈l,x.nm.length≤1099511627776∧x.text.length≤1099511627776 }
 objs:=fun _=>[]
 args:=fun p=>[.sl 0 5 (kU p.1)]
 post:=fun p objs lvs r=>lvs=[]∧((sndN p.1∧∃ s:TS,s.l=p.1∧objs=tsO (some s)∧r = .tup [.ptr 0 0,.v (.int .i64 0)])∨(¬ sndN p.1∧objs=[]∧r = .tup [.v (.pointer none),.v (.int .i64 1)]))
theorem steady_nm {σ:AS} {ob:Nat} {m:NS} (hob:σ.m.h ob=some (.map m.es m.cl)) {p:Ky} {es':Array MapEntry} {cl':Nat} (h':NM es' cl' (layK p m.ps)) :
    kFS Tryz.prog σ ob (.map es' cl') 82 (.agg [.v (.int .i64 0),.v (.int .i64 p.1),.v (sv p.2),.v (.bool false),.v (sv [])]):=by
 intro r hr
 have hk:keyT Tryz.prog 82=none:=by kernel_rfl
 have tv:toV (.agg [.v (.int .i64 0),.v (.int .i64 p.1),.v (sv p.2),.v (.bool false),.v (sv [])])=some (kV p):=rfl
 have e:(σ.m.setObj ob (.map es' cl')).h ob=some (.map es' cl'):=qQ ..
 unfold kB5 at hr ⊢
 simp only[hk,tv,lookK,hob,e]at hr ⊢
 rw[look_nm m.h]at hr
 rw[look_nm h',cnt_lay]
 exact hr
theorem lay_keys (p:Ky) (ps:List (Ky×Int)):(layK p ps).map Prod.fst=if p∈ps.map Prod.fst then ps.map Prod.fst else ps.map Prod.fst++[p]:=by
 unfold layK
 cases hf:fndP p ps 0 with
 | none=>rw [if_neg (kCw hf).1];simp
 | some q =>
   obtain ⟨i,v⟩:=q
   obtain ⟨j,c,_,h2,_,_⟩:=kEZ hf
   rw[if_pos (List.mem_map.2 ⟨_,List.mem_of_getElem? h2,rfl⟩)];rfl
theorem set_keys {p:Ky} {ps:List (Ky×Int)} {i:Nat} {c c':Int} (hi:ps[i]? = some (p,c)):(ps.set i (p,c')).map Prod.fst=ps.map Prod.fst:=by
 have hlt:=(List.getElem?_eq_some_iff.1 hi).1
 rw[List.map_set]
 apply List.ext_getElem?
 intro j
 rw[List.getElem?_set]
 split
 ·rename_i hj
  subst hj
  rw[List.getElem?_map,hi,List.length_map,if_pos hlt];rfl
 ·rfl
theorem ni_step {l:List Nd} {i:Nat} {ps:List (Ky×Int)} {x:Nd} (h:NI l i ps) (hx:l.take (i+1)=l.take i++[x]) {ix:Nat} {c c':Int} (hg:(layK (kOf x) ps)[ix]? = some (kOf x,c)):NI l (i+1) ((layK (kOf x) ps).set ix (kOf x,c')):=by
 obtain ⟨h1,h2⟩:=h
 have e:=lay_keys (kOf x) ps
 have e2:=set_keys (c':=c') hg
 have hlen:((layK (kOf x) ps).set ix (kOf x,c')).length=(layK (kOf x) ps).length:=List.length_set
 have hlk:(layK (kOf x) ps).length=((layK (kOf x) ps).map Prod.fst).length:=by rw[List.length_map]
 unfold NI
 rw[e2,hlen,hlk,e,hx,List.map_append]
 by_cases hm:kOf x∈ps.map Prod.fst
 ·rw[if_pos hm]
  refine ⟨fun k=>?_,.inr ⟨by rw[List.length_map];rcases h2 with h2|h2<;>omega,fun hn=>?_⟩⟩
  ·rw[h1,List.mem_append]
   simp only[List.map_cons,List.map_nil,List.mem_singleton]
   constructor
   ·exact .inl
   ·rintro (h|rfl)
    ·exact h
    ·exact (h1 _).1 hm
  ·rw[List.nodup_append]at hn
   exact hn.2.2 _ ((h1 _).1 hm) _ (by simp) rfl
 ·rw[if_neg hm]
  refine ⟨fun k=>?_,?_⟩
  ·rw[List.mem_append,h1,List.mem_append];simp
  ·rw[List.length_append,List.length_map]
   rcases h2 with ⟨h3,h4⟩|⟨h3,h4⟩
   ·refine .inl ⟨by simp;omega,?_⟩
    rw[List.nodup_append]
    refine ⟨h4,by simp,fun a ha b hb=>?_⟩
    simp only[List.map_cons,List.map_nil,List.mem_singleton]at hb
    subst hb
    rintro rfl
    exact hm ((h1 _).2 ha)
   ·refine .inr ⟨by simp;omega,fun hn=>h4 ?_⟩
    rw[List.nodup_append]at hn
    exact hn.1
theorem still_troot {m:AM} {s:TS} (hl:s.l.length≤1000000) {id:Int} {o ob:Nat} (hT:qP m.h o ob s):Still Tryz.prog m 52 [.ptr o 0,.v (.int .i64 id)] (.v (.bool (kAE s.l s.l.length id))):=by
 obtain ⟨h1,h2,h3⟩:=hT
 refine still_obj troot_good ⟨(s,id),hl⟩ [o,ob] (by simp[h3]) (by simp[dnL,dn]) ?_ rfl ?_ ?_ ?_
 ·simp only[tsO,kBo,kCy,h1,h2,kAv,kCm,kCu,kF2,dn_mp]
  simp
 ·simp[kA0,kAy,h1,h2,kFw,AO.tags,AV.tagsL,AV.tags]
 ·intro nh nl j o' x y ho hx hy
  match j,ho,hx with
  | 0,ho,hx=>cases ho;simp [tsO] at hx;subst hx;rw [h1] at hy;cases hy;rfl
  | 1,ho,hx=>cases ho;simp [tsO] at hx;subst hx;rw [h2] at hy;cases hy;rfl
  | j+2,ho,hx=>cases ho
 ·rintro objs lvs r ⟨h4,h5,h6⟩
  exact ⟨h4,h5,h6,rfl⟩
theorem vq_root {Γ:Env} {n:Nat} {t:Nat→AV} {hd:Nat→Nat→AV} {d:Option Nat} {K:AS→Prop} {nh nl:Nat} {h:Nat→Option AO} {fm:Nat→Nat} {lv:Nat→Option (Nat×Nat)} {mu:Bool} (hC:Γ.get 52=none) {s:TS} (hl:s.l.length≤1000000) {id:Int} {o ob:Nat} (hT:qP h o ob s)
    (hk:cont ⟨n,t,hd,⟨nh,h,nl,fm,lv,mu⟩⟩ d (.v (.bool (kAE s.l s.l.length id))) K):callQ.callQ2 Tryz.prog Γ d K ⟨n,t,hd,⟨nh,h,nl,fm,lv,mu⟩⟩ (Γ.get 52) 52 [.ptr o 0,.v (.int .i64 id)]:=by
 rw[hC]
 exact ⟨_,still_troot hl hT,hk⟩
theorem snd_keys {l:List Nd} (S:sndN l):(l.map kOf).Nodup:=by
 have h:=S.srt
 unfold srtN at h
 rw[List.pairwise_map]at h
 rw[List.nodup_iff_pairwise_ne,List.pairwise_map,List.pairwise_iff_getElem]
 intro i j hi hj hij he
 have h1:=List.pairwise_iff_getElem.1 h i j hi hj hij
 simp only[kOf,Prod.mk.injEq]at he
 have:=S.sib _ (List.getElem_mem hi) _ (List.getElem_mem hj) he.1 he.2
 omega
theorem root_up {l:List Nd}:∀ (n:Nat) (i:Int),kAE l n i=true→∃ k,upN l k i=0
 | 0,i,h=>⟨0,of_decide_eq_true h⟩
 | n+1,i,h=>by
   rw[kAE]at h
   split at h
   ·exact ⟨0,by assumption⟩
   ·obtain ⟨k,hk⟩:=root_up n _ h
    exact ⟨k+1,hk⟩
theorem tot_le {l:List Nd} (h:∀ x∈l,cnt x.text≤2000):totN l≤2000 * l.length:=by
 induction l with
 | nil=>simp [totN]
 | cons x l ih =>
   have h1:=h x (List.mem_cons_self ..)
   have h2:=ih fun y hy=>h y (List.mem_cons_of_mem _ hy)
   simp only[totN,List.length_cons];omega
theorem load_snd {l:List Nd} (hs:srtN l) (hl:l.length≤100) (hn:∀ x∈l,okNd x) (ht:totN l≤10000) (hk:(l.map kOf).Nodup) (hg:∀ x∈l,goodP l x):sndN l:=by
 refine ⟨hs,hl,hn,ht,fun x hx y hy h1 h2=>?_,fun x hx=>?_,fun x hx=>root_up _ _ (hg x hx).2⟩
 ·obtain ⟨i,hi,rfl⟩:=List.getElem_of_mem hx
  obtain ⟨j,hj,rfl⟩:=List.getElem_of_mem hy
  have he:kOf l[i]=kOf l[j]:=by simp only[kOf,h1,h2]
  rw[List.nodup_iff_pairwise_ne,List.pairwise_map,List.pairwise_iff_getElem]at hk
  rcases Nat.lt_trichotomy i j with h3|h3|h3
  ·exact absurd he (hk i j hi hj h3)
  ·subst h3;rfl
  ·exact absurd he.symm (hk j i hj hi h3)
 ·rcases (hg x hx).1 with h3|h3
  ·exact .inl h3
  ·refine .inr ⟨?_,h3⟩
   rcases Bool.eq_false_or_eq_true (hasN l x.par) with h4|h4
   ·exact h4
   ·rw[gN_at]at h3
    rw[kBl]at h4
    cases h5:atI x.par l with
    | none=>rw [h5] at h3;cases h3
    | some y=>rw [h5] at h4;simp at h4
set_option maxHeartbeats 4000000 in
theorem tload_good:j7 Tryz.prog 15 tloadCon:=by
 have hΓ:kM Tryz.prog [(51,okNCon)]:=(kH okn_good kJ)
 refine qT (nn:=92) Tryz.func15 (by kernel_rfl) rfl (show Tryz.f15.results.toList=[.tmp 2,.tmp 3] from rfl) (fun _=>rfl) ?_
 rintro ⟨l,hl,ht⟩
 refine qW hΓ (Ws:=[]) _ ?_
 simp only[aR,seval,kB,kC,kG]
 refine call_tnew (by simp[kI,k9]) ?_
 simp only[aR,seval,kB,kC,kG,kK]
 (repeat (with_reducible refine And.intro ?_ ?_;focus (first|omega|exact kD|kernel_rfl)))
 obtain ⟨St,hSt⟩:∃ St:Ld1 l→AS,∀ p,St p=AS.ofH 92 [(0,.sl 0 5 (kU l)),(4,.ptr 0 0),(5,.v (.int .i64 p.1.2.2)),(12,.sl 0 5 (kU l)),(13,.v (.int .i64 l.length)),(14,.v (.int .i64 p.1.1))] [] (tsO (some p.1.2.1)) []:=⟨_,fun _=>rfl⟩
 refine kEK ?_
 refine kAm [] hΓ St (fun p=>l.length - p.1.1) ⟨(0,⟨#[],0,[],tm_empty⟩,0),by simp only;omega,by simp,by simp,by simp only;omega,.inl rfl⟩ (by rw[hSt];refine qM [0,1] [] ?_;simp only[aR,seval,kB,kC,kG]<;>((repeat' apply And.intro)<;>first|rfl|omega|trivial)) ?_
 rintro ⟨⟨i,s,last⟩,hi,hs,hok,hlast,hex⟩
 simp only at hi hs hok hlast hex
 rw[hSt]
 simp only
 simp only[aR,seval,kB,kC,kG,kK]
 (with_reducible first|refine kE (fun h=>?_) (fun h=>?_)|refine kF (fun h=>?_) (fun h=>?_))
 ·have hlt:i < l.length:=by omega
  have e1:=k8 l hlt
  have hx:=ht l[i] (List.getElem_mem hlt)
  have hmem:=List.getElem_mem hlt
  have htk:=List.take_succ_eq_append_getElem hlt
  have hsrt:sndN l→∀ y∈l.take i,y.id < l[i].id:=fun S y hy=>by
   obtain ⟨j,hj,rfl⟩:=List.getElem_of_mem hy
   simp only[List.length_take]at hj
   have:=S.srt
   unfold srtN at this
   rw[List.pairwise_map]at this
   rw[List.getElem_take]
   exact List.pairwise_iff_getElem.1 this j i (by omega) hlt (by omega)
  generalize l[i]=x at *
  obtain ⟨id,par,nm,dir,tx⟩:=x
  simp only at hx hsrt
  simp only[aR,seval,kB,kC,kG,h,e1,nA,kK]
  (repeat (with_reducible refine And.intro ?_ ?_;focus (first|omega|exact kD|kernel_rfl)))
  refine kP (C:=okNCon) (i:=⟨⟨id,par,nm,dir,tx⟩,hx⟩) (by simp[kI]) rfl rfl rfl (by simp[AV.erL,AV.er,nA]) (fun _ h=>h) rfl ?_
  have fin:¬ sndN l→tloadCon.post ⟨l,hl,ht⟩ [] [] (.tup [.v (.pointer none),.v (.int .i64 1)]):=fun hn=>⟨rfl,.inr ⟨hn,rfl,rfl⟩⟩
  rcases Bool.eq_false_or_eq_true (okB ⟨id,par,nm,dir,tx⟩) with ho|ho
  case inr =>
   simp only[aR,seval,kB,kC,kG,ho]
   (repeat (with_reducible refine And.intro ?_ ?_;focus (first|omega|exact kD|kernel_rfl)))
   refine kW [] [] [] [] (.tup [.v (.pointer none),.v (.int .i64 1)]) (fin fun S=>by
    have:=(okB_iff _).2 ⟨(S.node _ hmem).id,(S.node _ hmem).nm,(S.node _ hmem).dir,(S.node _ hmem).valid,(S.node _ hmem).cnt⟩
    rw[ho]at this;cases this) ?_
   simp only[aR,seval,kB,kC,kG]<;>((repeat' apply And.intro)<;>first|rfl|omega|trivial)
  have hnd:=(okB_iff _).1 ho
  have hid:=hnd.id
  simp only at hid
  by_cases hle:id≤last
  ·simp only[aR,seval,kB,kC,kG,ho,hle]
   (repeat (with_reducible refine And.intro ?_ ?_;focus (first|omega|exact kD|kernel_rfl)))
   refine kW [] [] [] [] (.tup [.v (.pointer none),.v (.int .i64 1)]) (fin fun S=>by
    rcases hex with hex|⟨y,hy,hye⟩
    ·omega
    ·have:=hsrt S y hy;omega) ?_
   simp only[aR,seval,kB,kC,kG]<;>((repeat' apply And.intro)<;>first|rfl|omega|trivial)
  obtain ⟨es',cl',p1,p2⟩:=put_tm s.h ⟨id,par,nm,dir,tx⟩
  simp only[nV]at p1
  rw[hs,set_end (fun y hy=>by have:=(hok y hy).2;simp only;omega),← htk]at p2
  simp only[aR,seval,kB,kC,kG,ho,hle,p1,kA (n:=(i:Int)+1) (by omega) (by omega)]
  (repeat (with_reducible refine And.intro ?_ ?_;focus (first|omega|exact kD|kernel_rfl)))
  refine kN ⟨(i+1,⟨es',cl',l.take (i+1),p2⟩,id),by simp only;omega,rfl,?_,by simp only;omega,.inr ⟨⟨id,par,nm,dir,tx⟩,by simp only;rw[htk];simp,rfl⟩⟩ (by simp only;omega) ?_
  ·intro y hy
   simp only at hy ⊢
   rw[htk,List.mem_append,List.mem_singleton]at hy
   rcases hy with hy|rfl
   ·exact ⟨(hok y hy).1,by have:=(hok y hy).2;omega⟩
   ·exact ⟨hnd,by simp only;omega⟩
  ·rw[hSt];refine qM [0,1] [] ?_
   simp only[aR,seval,kB,kC,kG]<;>((repeat' apply And.intro)<;>first|rfl|omega|trivial)
 ·have hi2:i=l.length:=by omega
  subst hi2
  rw[List.take_length]at hs hok
  have hok2:∀ x∈l,okNd x:=fun x hx=>(hok x hx).1
  have e1:=kBP s.h
  have e2:=kDm s.h
  have hsr:=s.h.2
  rw[hs]at hsr e1 e2
  simp only[aR,seval,kB,kC,kG,h,kK]
  (repeat (with_reducible refine And.intro ?_ ?_;focus (first|omega|exact kD|kernel_rfl)))
  obtain ⟨St,hSt⟩:∃ St:Ld2 l→AS,∀ p,St p=AS.ofH 92 [(0,.sl 0 5 (kU l)),(4,.ptr 0 0),(8,.mp 2),(38,.sl 0 5 (kU l)),(39,.v (.int .i64 l.length)),(40,.v (.int .i64 p.1.1))] [] (tsO (some s)++[.map p.1.2.es p.1.2.cl]) []:=⟨_,fun _=>rfl⟩
  refine kEK ?_
  refine kAm [] hΓ St (fun p=>l.length - p.1.1) ⟨(0,⟨#[],0,[],⟨rfl,rfl,by simp⟩⟩),by simp only;omega,by simp,by simp[NI]⟩ (by rw[hSt];refine qM [0,1,2] [] ?_;simp only[aR,seval,kB,kC,kG,kK,List.cons_append,List.nil_append]<;>((repeat' apply And.intro)<;>first|rfl|omega|trivial)) ?_
  rintro ⟨⟨i,m⟩,hi,hg,hni⟩
  simp only at hi hg hni
  rw[hSt]
  simp only
  simp only[aR,seval,kB,kC,kG,kK,List.cons_append,List.nil_append]
  (with_reducible first|refine kE (fun h2=>?_) (fun h2=>?_)|refine kF (fun h2=>?_) (fun h2=>?_))
  ·have hlt:i < l.length:=by omega
   have e3:=k8 l hlt
   have hmem:=List.getElem_mem hlt
   have htk:=List.take_succ_eq_append_getElem hlt
   generalize l[i]=x at *
   obtain ⟨id,par,nm,dir,tx⟩:=x
   simp only[aR,seval,kB,kC,kG,h2,e3,nA,kK]
   (repeat (with_reducible refine And.intro ?_ ?_;focus (first|omega|exact kD|kernel_rfl)))
   have fin:¬ sndN l→tloadCon.post ⟨l,hl,ht⟩ [] [] (.tup [.v (.pointer none),.v (.int .i64 1)]):=fun hn=>⟨rfl,.inr ⟨hn,rfl,rfl⟩⟩
   by_cases hp:par=0
   ·subst hp
    simp only[aR,seval,kB,kC,]
    (repeat (with_reducible refine And.intro ?_ ?_;focus (first|omega|exact kD|kernel_rfl)))
    refine vq_root (by simp[kI,k9]) (s:=s) (o:=0) (ob:=1) (by rw[hs];omega) (by simp[qP,upd]) ?_
    rw[hs]
    rcases Bool.eq_false_or_eq_true (kAE l l.length id) with hr|hr
    case inr =>
     simp only[aR,seval,kB,kC,hr]
     (repeat (with_reducible refine And.intro ?_ ?_;focus (first|omega|exact kD|kernel_rfl)))
     refine kW [] [] [] [] (.tup [.v (.pointer none),.v (.int .i64 1)]) (fin fun S=>by
      have:=(kE4 S _).2 (rt_len S (.inr (kEh hmem)))
      simp only at this
      rw[hr]at this;cases this) ?_
     simp only[aR,seval,kB,kC,kG]<;>((repeat' apply And.intro)<;>first|rfl|omega|trivial)
    have q1:lookS Tryz.prog 82 (.agg #[.int .i64 0,.int .i64 0,sv nm,.bool false,sv []]) m.es false=some (.v (.int .i64 (cntK (0,nm) m.ps))):=look_nm m.h (0,nm)
    obtain ⟨es',cl',ix,n1,n2,n3⟩:=ent_nm m.h (0,nm)
    simp only[aR,seval,kB,kC,hr,q1]
    (repeat (with_reducible refine And.intro ?_ ?_;focus (first|omega|exact kD|kernel_rfl)))
    refine ⟨m.es,m.cl,.map es' cl',_,rfl,n1,steady_nm (m:=m) (p:=(0,nm)) rfl n2,?_⟩
    simp only[aR,seval,kB,kC,hr]
    (repeat (with_reducible refine And.intro ?_ ?_;focus (first|omega|exact kD|kernel_rfl)))
    refine ⟨es',cl',ix,rfl,(put_nm n2 n3 (IntKind.wrap .i64 (cntK (0,nm) m.ps+1))).1,?_⟩
    simp only[aR,seval,kB,kC,hr,kA (n:=(i:Int)+1) (by omega) (by omega)]
    (repeat (with_reducible refine And.intro ?_ ?_;focus (first|omega|exact kD|kernel_rfl)))
    refine kN ⟨(i+1,⟨_,_,_,(put_nm n2 n3 (IntKind.wrap .i64 (cntK (0,nm) m.ps+1))).2⟩),by simp only;omega,?_,ni_step hni htk (x:=⟨id,0,nm,dir,tx⟩) n3⟩ (by simp only;omega) ?_
    ·intro y hy
     simp only at hy
     rw[htk,List.mem_append,List.mem_singleton]at hy
     rcases hy with hy|rfl
     ·exact hg y hy
     ·exact ⟨.inl rfl,hr⟩
    ·rw[hSt];refine qM [0,1,2] [] ?_
     simp only[aR,seval,kB,kC,kG,kK,List.cons_append,List.nil_append]<;>((repeat' apply And.intro)<;>first|rfl|omega|trivial)
   ·rcases Bool.eq_false_or_eq_true (gN l par).dir with hdd|hdd
    case inr =>
     simp only[aR,seval,kB,kC,hp,e1,nA,hdd,kGG]
     (repeat (with_reducible refine And.intro ?_ ?_;focus (first|omega|exact kD|kernel_rfl)))
     refine kW [] [] [] [] (.tup [.v (.pointer none),.v (.int .i64 1)]) (fin fun S=>by
      rcases S.par _ hmem with h5|h5
      ·exact hp h5
      ·simp only at h5;rw[hdd]at h5;cases h5.2) ?_
     simp only[aR,seval,kB,kC,kG]<;>((repeat' apply And.intro)<;>first|rfl|omega|trivial)
    simp only[aR,seval,kB,kC,hp,e1,nA,hdd,kGG]
    (repeat (with_reducible refine And.intro ?_ ?_;focus (first|omega|exact kD|kernel_rfl)))
    refine vq_root (by simp[kI,k9]) (s:=s) (o:=0) (ob:=1) (by rw[hs];omega) (by simp[qP,upd]) ?_
    rw[hs]
    rcases Bool.eq_false_or_eq_true (kAE l l.length id) with hr|hr
    case inr =>
     simp only[aR,seval,kB,kC,hr]
     (repeat (with_reducible refine And.intro ?_ ?_;focus (first|omega|exact kD|kernel_rfl)))
     refine kW [] [] [] [] (.tup [.v (.pointer none),.v (.int .i64 1)]) (fin fun S=>by
      have:=(kE4 S _).2 (rt_len S (.inr (kEh hmem)))
      simp only at this
      rw[hr]at this;cases this) ?_
     simp only[aR,seval,kB,kC,kG]<;>((repeat' apply And.intro)<;>first|rfl|omega|trivial)
    have q1:lookS Tryz.prog 82 (.agg #[.int .i64 0,.int .i64 par,sv nm,.bool false,sv []]) m.es false=some (.v (.int .i64 (cntK (par,nm) m.ps))):=look_nm m.h (par,nm)
    obtain ⟨es',cl',ix,n1,n2,n3⟩:=ent_nm m.h (par,nm)
    simp only[aR,seval,kB,kC,hr,q1]
    (repeat (with_reducible refine And.intro ?_ ?_;focus (first|omega|exact kD|kernel_rfl)))
    refine ⟨m.es,m.cl,.map es' cl',_,rfl,n1,steady_nm (m:=m) (p:=(par,nm)) rfl n2,?_⟩
    simp only[aR,seval,kB,kC,hr]
    (repeat (with_reducible refine And.intro ?_ ?_;focus (first|omega|exact kD|kernel_rfl)))
    refine ⟨es',cl',ix,rfl,(put_nm n2 n3 (IntKind.wrap .i64 (cntK (par,nm) m.ps+1))).1,?_⟩
    simp only[aR,seval,kB,kC,hr,kA (n:=(i:Int)+1) (by omega) (by omega)]
    (repeat (with_reducible refine And.intro ?_ ?_;focus (first|omega|exact kD|kernel_rfl)))
    refine kN ⟨(i+1,⟨_,_,_,(put_nm n2 n3 (IntKind.wrap .i64 (cntK (par,nm) m.ps+1))).2⟩),by simp only;omega,?_,ni_step hni htk (x:=⟨id,par,nm,dir,tx⟩) n3⟩ (by simp only;omega) ?_
    ·intro y hy
     simp only at hy
     rw[htk,List.mem_append,List.mem_singleton]at hy
     rcases hy with hy|rfl
     ·exact hg y hy
     ·exact ⟨.inr hdd,hr⟩
    ·rw[hSt];refine qM [0,1,2] [] ?_
     simp only[aR,seval,kB,kC,kG,kK,List.cons_append,List.nil_append]<;>((repeat' apply And.intro)<;>first|rfl|omega|trivial)
  ·have hi2:i=l.length:=by omega
   subst hi2
   have fin:¬ sndN l→tloadCon.post ⟨l,hl,ht⟩ [] [] (.tup [.v (.pointer none),.v (.int .i64 1)]):=fun hn=>⟨rfl,.inr ⟨hn,rfl,rfl⟩⟩
   have hsz:=size_nm m.h
   unfold NI at hni
   rw[List.take_length]at hg hni
   simp only[aR,seval,kB,kC,kG,h2,kK,hsz]
   (repeat (with_reducible refine And.intro ?_ ?_;focus (first|omega|exact kD|kernel_rfl)))
   by_cases c1:(m.ps.length:Int) < l.length
   ·simp only[aR,seval,kB,kC,c1]
    (repeat (with_reducible refine And.intro ?_ ?_;focus (first|omega|exact kD|kernel_rfl)))
    refine kW [] [] [] [] (.tup [.v (.pointer none),.v (.int .i64 1)]) (fin fun S=>by
     rcases hni.2 with h5|h5
     ·omega
     ·exact h5.2 (snd_keys S)) ?_
    simp only[aR,seval,kB,kC,kG]<;>((repeat' apply And.intro)<;>first|rfl|omega|trivial)
   by_cases c2:(l.length:Int) > 100
   ·simp only[aR,seval,kB,kC,c1,c2,kK]
    (repeat (with_reducible refine And.intro ?_ ?_;focus (first|omega|exact kD|kernel_rfl)))
    refine kW [] [] [] [] (.tup [.v (.pointer none),.v (.int .i64 1)]) (fin fun S=>by have:=S.len;omega) ?_
    simp only[aR,seval,kB,kC,kG]<;>((repeat' apply And.intro)<;>first|rfl|omega|trivial)
   simp only[aR,seval,kB,kC,c1,c2,kK]
   (repeat (with_reducible refine And.intro ?_ ?_;focus (first|omega|exact kD|kernel_rfl)))
   have htl:=tot_le (l:=l) fun x hx=>(hok2 x hx).cnt
   refine call_tall (s:=s) (o:=0) (ob:=1) (by simp[kI,k9]) (by rw[hs];exact ⟨by omega,fun x hx=>by have:=(ht x hx).2;omega⟩) (by simp[qP,upd]) ?_
   rw[hs]
   by_cases c3:(totN l:Int) > 10000
   ·simp only[aR,seval,kB,kC,c3]
    (repeat (with_reducible refine And.intro ?_ ?_;focus (first|omega|exact kD|kernel_rfl)))
    refine kW [] [] [] [] (.tup [.v (.pointer none),.v (.int .i64 1)]) (fin fun S=>by have:=S.tot;omega) ?_
    simp only[aR,seval,kB,kC,kG]<;>((repeat' apply And.intro)<;>first|rfl|omega|trivial)
   simp only[aR,seval,kB,kC,c3]
   (repeat (with_reducible refine And.intro ?_ ?_;focus (first|omega|exact kD|kernel_rfl)))
   have hnd:(l.map kOf).Nodup:=by
    rcases hni.2 with h5|h5
    ·exact h5.2
    ·omega
   have hS:sndN l:=load_snd hsr (by omega) hok2 (by omega) hnd hg
   refine kW [0,1] [] (tsO (some s)) [] (.tup [.ptr 0 0,.v (.int .i64 0)]) ⟨rfl,.inl ⟨hS,s,hs,rfl,rfl⟩⟩ ?_
   simp only[aR,seval,kB,kC,kG]<;>((repeat' apply And.intro)<;>first|rfl|omega|trivial)
end Go.Proofs
end
-- EUk9s
section
namespace Go.Proofs
open Go Go.Rw
set_option maxRecDepth 100000
theorem srt_snoc {l:List Nd} {i:Nat} (h:i < l.length) (h1:srtN (l.take i)) (h2:∀ k,∀ hk:k+1=i,(l[k]'(by omega)).id < l[i].id):srtN (l.take (i+1)):=by
 rw[List.take_succ_eq_append_getElem h,srtN,List.map_append,List.pairwise_append]
 refine ⟨h1,by simp,fun a ha b hb=>?_⟩
 simp only[List.map_cons,List.map_nil,List.mem_singleton]at hb
 subst hb
 cases i with
 | zero=>simp at ha
 | succ k =>
   have h3:=h2 k rfl
   rw[List.take_succ_eq_append_getElem (by omega),srtN,List.map_append,List.pairwise_append]at h1
   rw[List.take_succ_eq_append_getElem (by omega),List.map_append,List.mem_append]at ha
   rcases ha with ha|ha
   ·have:=h1.2.2 a ha l[k].id (by simp)
    omega
   ·simp only[List.map_cons,List.map_nil,List.mem_singleton]at ha
    omega
end Go.Proofs
end
-- EUk9t
section
namespace Go.Proofs
open Go Go.Rw
set_option maxRecDepth 100000
end Go.Proofs
end
-- EUn7
section
namespace Go.Proofs
open Go Go.Rw
set_option maxRecDepth 100000
end Go.Proofs
end
-- EUk10
section
namespace Go.Proofs
open Go Go.Rw
set_option maxRecDepth 100000
theorem acts_okA {l:List Ac} {m:Int} (hm:m≤1000000) (h2:∀ a∈l,a.nm.length≤9223372036854775807∧wideC a.ops) (h:wF m 0 (wA l)≤m):l.length≤1000000∧∀ a∈l,okA a:=by
 obtain ⟨h3,h4⟩:=acts_ok hm h2 h
 obtain ⟨_,h5⟩:=wF_le (by omega) (wA l) (Int.le_refl 0) h
 exact ⟨h3,fun a ha=>⟨h4 a ha,by have:=(h5 (a.nm.length,a.ops) (List.mem_map.2 ⟨a,ha,rfl⟩)).1;omega⟩⟩
end Go.Proofs
end
-- ETr16
section
namespace Go.Proofs
open Go Go.Rw
set_option maxRecDepth 100000
def kEA (t:List Nd) (l:List Ac):Bool:=decide (nF 4000 0 t≤4000∧wF 4000 0 (wA l)≤4000∧l.length≤60)
abbrev kCE:Con where
 ι:=GivenN×GivenA
 args:=fun p=>[.sl 0 5 (kU p.1.1),.sl 0 6 (acts p.2.1)]
 post:=fun p r=>r = .v (.bool (kEA p.1.1 p.2.1))
 plain:=true
theorem small14_good:Rw.Good Tryz.prog 36 kCE:=by
 have hΓ:kM Tryz.prog [(49,kD2),(50,actsCon)]:=(kH wnodes_good (kH acts_good kJ))
 refine kY (nn:=18) hΓ Tryz.func36 (by kernel_rfl) rfl (show Tryz.f36.results.toList=[.tmp 4] from rfl) (fun _=>rfl) (fun x=>by simp[AV.erL,AV.er,kBR,kAt]) ?_
 rintro ⟨⟨t,ht,htc⟩,⟨l,hl,hlc⟩⟩
 simp only[aR,seval]
 refine call_wnodes (by simp[kI]) rfl ht htc (by omega) ?_
 by_cases h1:nF 4000 0 t≤4000
 case neg=>simp only[aR,seval,h1,kEA,false_and]
 simp only[aR,seval,h1]
 refine call_acts (by simp[kI]) rfl hl hlc (by omega) ?_
 by_cases h2:wF 4000 0 (wA l)≤4000
 case neg=>simp only[aR,seval,h1,h2,kEA,false_and,true_and]
 simp only[aR,seval,h1,h2,qB]
 unfold kEA
 exact decide_eq_decide.2 ⟨fun h=>⟨h1,h2,by omega⟩,fun h=>by omega⟩
theorem call_small14 {Γ:Env} (hf:Γ.get 36=some kCE) {σ:AS} {dr:Bool} {t:List Nd} {l:List Ac} {xs ys:List AV} {t1 t2:Nat} {d:Option Nat} {K:AS→Prop} (hx:xs=kU t) (hy:ys=acts l) (h1:t.length≤9223372036854775807) (h2:∀ a∈t,a.nm.length≤9223372036854775807∧a.text.length≤9223372036854775807) (h3:l.length≤9223372036854775807) (h4:∀ a∈l,a.nm.length≤9223372036854775807∧wideC a.ops)
    (hk:cont σ d (.v (.bool (kEA t l))) K):kS Tryz.prog Γ dr σ 36 [.sl t1 5 xs,.sl t2 6 ys] d K:=by
 subst hx hy
 exact kP (C:=kCE) (i:=(⟨t,h1,h2⟩,⟨l,h3,h4⟩)) hf rfl rfl rfl (by simp[AV.erL,AV.er]) (fun _ h=>h) rfl hk
theorem small_acts {t:List Nd} {l:List Ac} (h:kEA t l=true) (h4:∀ a∈l,a.nm.length≤9223372036854775807∧wideC a.ops):l.length≤60∧∀ a∈l,okA a:=by
 obtain ⟨_,h1,h2⟩:=of_decide_eq_true h
 exact ⟨h2,(acts_okA (by omega) h4 h1).2⟩
end Go.Proofs
end
-- ETr17
section
namespace Go.Proofs
open Go Go.Rw
set_option maxRecDepth 100000
theorem kAd {Γ:Env} (hf:Γ.get 32=some kEa) {n:Nat} {t:Nat→AV} {hd:Nat→Nat→AV} {nh nl:Nat} {h:Nat→Option AO} {fm:Nat→Nat} {lv:Nat→Option (Nat×Nat)} {mu:Bool} {dr:Bool} {d:Option Nat} {K:AS→Prop}
    (hk:cont ⟨n,t,hd,⟨nh,h,nl,fm,lv,mu⟩⟩ d (.v (.bool true)) K):kS Tryz.prog Γ dr ⟨n,t,hd,⟨nh,h,nl,fm,lv,mu⟩⟩ 32 [] d K :=
 kA4 (C:=kEa) (i:=()) (r:=.v (.bool true)) hf rfl rfl (by simp[AV.erL]) rfl (fun _ h=>h) (by simp only[AV.er];exact hk)
end Go.Proofs
end
-- ETr18
section
namespace Go.Proofs
open Go Go.Rw
open _root_.Nat renaming reduceAdd → N0, reduceSub → N1, reduceMul → N2, reduceLT → N3, reduceLeDiff → N4, reduceEqDiff → N5
open _root_.Int renaming reduceNeg → Z0, reduceAdd → Z1, reduceSub → Z2, reduceMul → Z3, reduceGT → Z4, reduceGE → Z5, reduceLT → Z6, reduceLE → Z7, reduceEq → Z8, reduceNe → Z9, reduceToNat → Z10, cast_ofNat_Int → Zc
set_option maxRecDepth 100000
structure chkN (l:List Nd) (x:Nd):Prop where
 id:1≤x.id∧x.id≤1099511627776
 nm:qC x.nm=true
 kid:kid x.par x.nm l=x.id
 dir:x.dir=true→x.text=[]
 valid:(pts x.text).isSome=true
 cnt:cnt x.text≤2000
 par:x.par=0∨(ndx x.par l < l.length∧(l.getD (ndx x.par l) zI).dir=true∧zS l x.par x.id=false)
theorem up_cyc {l:List Nd} {i:Int} {k:Nat} (h:upN l k i=i):∀ m,upN l (m * k) i=i
 | 0=>by rw [Nat.zero_mul];rfl
 | m+1=>by rw [Nat.add_mul,Nat.one_mul,kG3,up_cyc h m,h]
theorem snd_no_cyc {l:List Nd} (S:sndN l) {x:Nd} (hx:x∈l) {k:Nat} (h:upN l (k+1) x.id=x.id):False:=by
 obtain ⟨m,hm⟩:=S.rt x hx
 have h1:=up_cyc h m
 have h2:=up_stay S hm (k:=m * (k+1)) (by rw[Nat.mul_add];omega)
 have:=(S.node x hx).id
 omega
theorem chk_of {l:List Nd} (S:sndN l) {x:Nd} (hx:x∈l):chkN l x:=by
 have n:=S.node x hx
 have hp:∀ y∈l,1≤y.id:=fun y hy=>(S.node y hy).id.1
 refine ⟨n.id,n.nm,?_,n.dir,n.valid,n.cnt,?_⟩
 ·by_cases h1:1≤kid x.par x.nm l
  ·obtain ⟨y,hy,h2,h3,h4⟩:=kid_iff hp h1 rfl
   rw[← h4]
   exact S.sib y hy x hx h2 h3
  ·exact absurd ⟨rfl,rfl⟩ (kCk hp h1 x hx)
 ·rcases S.par x hx with h1|⟨h1,h2⟩
  ·exact .inl h1
  ·refine .inr ⟨(qL l x.par).1 h1,h2,?_⟩
   rcases Bool.eq_false_or_eq_true (zS l x.par x.id) with h3|h3
   ·exfalso
    obtain ⟨k,hk⟩:=(kAj S (.inr h1) (by have:=n.id;omega)).1 h3
    refine snd_no_cyc S hx (k:=k) ?_
    rw[upN,show pf l x.id=x.par by unfold pf;rw[gN_self S.srt hx],hk]
   ·exact h3
theorem in_miss {l:List Nd} {top:Int}:∀ (n:Nat) {i:Int},inN l top n i=false→∃ k,hasN l (upN l k i)=false
 | 0,i,h=>by rw [inN] at h;cases h
 | n+1,i,h=>by
   rw[inN]at h
   split at h
   ·cases h
   ·split at h
    ·obtain ⟨k,hk⟩:=in_miss n h
     exact ⟨k+1,hk⟩
    ·rename_i h2
     refine ⟨0,?_⟩
     rcases Bool.eq_false_or_eq_true (hasN l i) with h3|h3
     ·exact absurd ((qL l i).1 h3) h2
     ·exact h3
theorem snd_of {l:List Nd} (hs:srtN l) (hl:l.length≤100) (ht:totN l≤10000) (hc:∀ x∈l,chkN l x):sndN l:=by
 have hpar:∀ x∈l,x.par=0∨(hasN l x.par=true∧(gN l x.par).dir=true):=fun x hx=>by
  rcases (hc x hx).par with h1|h1
  ·exact .inl h1
  ·exact .inr ⟨(qL l x.par).2 h1.1,h1.2.1⟩
 have hin:∀ i,inT l (pf l i):=fun i=>by
  rcases Bool.eq_false_or_eq_true (hasN l i) with h|h
  ·rcases hpar _ (kB4 h).1 with h3|h3
   ·exact .inl h3
   ·exact .inr h3.1
  ·exact .inl (pf_no h)
 have hup:∀ k i,inT l i→inT l (upN l k i):=fun k=>by
  induction k with
  | zero=>exact fun i h=>h
  | succ k ih=>exact fun i h=>ih _ (hin i)
 refine ⟨hs,hl,fun x hx=>?_,ht,fun x hx y hy h1 h2=>?_,hpar,fun x hx=>?_⟩
 ·have:=hc x hx
  exact ⟨this.id,this.nm,this.dir,this.valid,this.cnt⟩
 ·rw[← (hc x hx).kid,← (hc y hy).kid,h1,h2]
 ·have hpx:pf l x.id=x.par:=by unfold pf;rw[gN_self hs hx]
  rcases (hc x hx).par with h1|⟨h1,_,h3⟩
  ·exact ⟨1,by rw[upN,hpx];exact h1⟩
  ·obtain ⟨k,hk⟩:=in_miss _ h3
   have h4:=hup k x.par (.inr ((qL l x.par).2 h1))
   rcases h4 with h4|h4
   ·exact ⟨k+1,by rw[upN,hpx];exact h4⟩
   ·rw[hk]at h4;cases h4
open Classical in
noncomputable def sndB (l:List Nd):Bool:=decide (sndN l)
theorem zL {l:List Nd} (h:¬ sndN l):sndB l=false:=by unfold sndB;simp[h]
theorem yes_snd {l:List Nd} (h:sndN l):sndB l=true:=by unfold sndB;simp[h]
abbrev kFB:Con where
 ι:={ l:List Nd // l.length≤1000000∧∀ x∈l,x.nm.length≤1099511627776∧x.text.length≤1099511627776 }
 args:=fun p=>[.sl 0 5 (kU p.1)]
 post:=fun p r=>r = .v (.bool (sndB p.1))
 plain:=true
set_option maxHeartbeats 4000000 in
theorem xsound_good:Rw.Good Tryz.prog 16 kFB:=by
 have hΓ:kM Tryz.prog [(31,kAY),(54,kidCon),(55,jT),(56,kAb),(48,kBM),(57,kBc)]:=(kH kD8 (kH kid_good (kH kCa (kH kBQ (kH kBu (kH kF3 kJ))))))
 refine kY (nn:=119) hΓ Tryz.func16 (by kernel_rfl) rfl (show Tryz.f16.results.toList=[.tmp 2] from rfl) (fun _=>rfl) (fun x=>by simp[AV.erL,AV.er,kBR]) ?_
 rintro ⟨l,hl,ht⟩
 by_cases h0:(l.length:Int) > 100
 ·simp only[aR,seval,kK,h0]
  rw[zL fun S=>by have:=S.len;omega]
 simp only[aR,seval,kK,h0]
 obtain ⟨St,hSt⟩:∃ St:{ p:Int×Nat // p.2≤l.length∧(0≤p.1∧p.1≤10000)∧srtN (l.take p.2)∧p.1=totN (l.take p.2)∧∀ x∈l.take p.2,chkN l x }→AS,∀ p,St p=AS.of 119 [(0,.sl 0 5 (kU l)),(3,.v (.int .i64 p.1.1)),(4,.v (.int .i64 p.1.2))] [] []:=⟨_,fun _=>rfl⟩
 refine qF hΓ St (fun p=>l.length - p.1.2) ⟨(0,0),by omega,by simp only;omega,by simp[srtN],by simp[totN],by simp⟩ (by rw[hSt];refine kO [] [] ?_;simp only[aR,seval]<;>((repeat' apply And.intro)<;>first|rfl|omega|trivial)) ?_
 rintro ⟨⟨s,i⟩,hi,hs,hb,hst,hck⟩
 simp only at hi hs hb hst hck
 rw[hSt]
 simp only
 simp only[aR,seval,kK]
 (with_reducible first|refine kE (fun h=>?_) (fun h=>?_)|refine kF (fun h=>?_) (fun h=>?_))
 ·have hlt:i < l.length:=by omega
  have hci:=ht l[i] (List.getElem_mem hlt)
  have e1:=k8 l hlt
  have hsn:=srt_snoc hlt hb
  have N:sndN l→chkN l l[i]:=fun S=>chk_of S (List.getElem_mem hlt)
  have N2:sndN l→totN (l.take i)+cnt l[i].text≤10000:=fun S=>by
   have:=S.tot
   rw[← List.take_append_drop i l,kBp,List.drop_eq_getElem_cons hlt,totN]at this
   omega
  have N3:∀ k,∀ hk:k+1=i,sndN l→(l[k]'(by omega)).id < l[i].id:=fun k hk S=>by
   have:=S.srt
   unfold srtN at this
   rw[List.pairwise_map]at this
   exact List.pairwise_iff_getElem.1 this k i (by omega) hlt (by omega)
  have nx:chkN l l[i]→∀ x∈l.take (i+1),chkN l x:=fun hx x hm=>by
   rw[List.take_succ_eq_append_getElem hlt,List.mem_append,List.mem_singleton]at hm
   rcases hm with hm|rfl
   ·exact hck x hm
   ·exact hx
  have tx1:(totN (l.take (i+1)):Int)=totN (l.take i)+cnt l[i].text:=by
   rw[List.take_succ_eq_append_getElem hlt,kBp];simp[totN]
  generalize l[i]=x at *
  obtain ⟨id,par,nm,dir,tx⟩:=x
  obtain ⟨hn,ho⟩:=hci
  simp only at hn ho e1 hsn N2 N3 tx1
  simp only[aR,seval,h,e1,kK,nA]
  (repeat (with_reducible refine And.intro ?_ ?_;focus (first|omega|exact kD|kernel_rfl)))
  by_cases c1:id < 1
  ·simp only[aR,seval,c1]
   (repeat (with_reducible refine And.intro ?_ ?_;focus (first|omega|exact kD|kernel_rfl)))
   rw[zL fun S=>by have:=(N S).id;simp only at this;omega]
  by_cases c2:id > 1099511627776
  ·simp only[aR,seval,c1,c2]
   (repeat (with_reducible refine And.intro ?_ ?_;focus (first|omega|exact kD|kernel_rfl)))
   rw[zL fun S=>by have:=(N S).id;simp only at this;omega]
  cases i with
  | zero =>
    have srt1:srtN (l.take 1):=hsn fun k hk=>by omega
    simp only[aR,seval,c1,c2]
    (repeat (with_reducible refine And.intro ?_ ?_;focus (first|omega|exact kD|kernel_rfl)))
    refine jA (by simp[kI]) hn ?_
    cases hnm:qC nm
    ·simp only[aR,seval,hnm]
     (repeat (with_reducible refine And.intro ?_ ?_;focus (first|omega|exact kD|kernel_rfl)))
     rw[zL fun S=>by have:=(N S).nm;simp only at this;rw[hnm]at this;cases this]
    simp only[aR,seval,hnm]
    (repeat (with_reducible refine And.intro ?_ ?_;focus (first|omega|exact kD|kernel_rfl)))
    refine kCh (by simp[kI]) rfl (by omega) ?_
    by_cases c4:kid par nm l=id
    case neg =>
     simp only[aR,seval,c4]
     (repeat (with_reducible refine And.intro ?_ ?_;focus (first|omega|exact kD|kernel_rfl)))
     rw[zL fun S=>c4 (N S).kid]
    by_cases c5:dir=true∧tx≠[]
    ·obtain ⟨rfl,c6⟩:=c5
     simp only[aR,seval,c4,c6]
     (repeat (with_reducible refine And.intro ?_ ?_;focus (first|omega|exact kD|kernel_rfl)))
     rw[zL fun S=>c6 ((N S).dir rfl)]
    have more:∀ Z:Prop,(dir=false→Z)→(dir=true→tx=[]→Z)→Z:=fun Z f g=>by
     cases dir
     ·exact f rfl
     ·exact g rfl (Decidable.not_not.1 fun hh=>c5 ⟨rfl,hh⟩)
    have hcl:cnt tx≤tx.length:=by rw[kAJ];exact kER tx
    refine more _ (fun hd=>?_) (fun hd he=>?_)
    all_goals
     subst hd
     by_cases c7:(tx.length:Int) > 8000
     ·first
        | simp only [aR,seval,c4,c7,eq_true he]
          (repeat (with_reducible refine And.intro ?_ ?_;focus (first|omega|exact kD|kernel_rfl)))
          rw[zL fun S=>by have h1:=kBh (N S).valid;have h2:=(N S).cnt;simp only at h1 h2;omega]
        | simp only [aR,seval,c4,c7]
          (repeat (with_reducible refine And.intro ?_ ?_;focus (first|omega|exact kD|kernel_rfl)))
          rw[zL fun S=>by have h1:=kBh (N S).valid;have h2:=(N S).cnt;simp only at h1 h2;omega]
     first
      | simp only [aR,seval,c4,c7,eq_true he]
        (repeat (with_reducible refine And.intro ?_ ?_;focus (first|omega|exact kD|kernel_rfl)))
      | simp only [aR,seval,c4,c7]
        (repeat (with_reducible refine And.intro ?_ ?_;focus (first|omega|exact kD|kernel_rfl)))
     refine kAV (by simp[kI]) (by omega) ?_
     cases hv:(pts tx).isSome
     ·simp only[aR,seval,hv]
      (repeat (with_reducible refine And.intro ?_ ?_;focus (first|omega|exact kD|kernel_rfl)))
      rw[zL fun S=>by have:=(N S).valid;simp only at this;rw[hv]at this;cases this]
     simp only[aR,seval,hv]
     (repeat (with_reducible refine And.intro ?_ ?_;focus (first|omega|exact kD|kernel_rfl)))
     refine kA6 (by simp[kI]) (by omega) ?_
     by_cases c8:(cnt tx:Int) > 2000
     ·simp only[aR,seval,c8]
      (repeat (with_reducible refine And.intro ?_ ?_;focus (first|omega|exact kD|kernel_rfl)))
      rw[zL fun S=>by have:=(N S).cnt;simp only at this;omega]
     by_cases c9:s+(cnt tx:Int) > 10000
     ·simp only[aR,seval,c8,c9,kA (n:=s+(cnt tx:Int)) (by omega) (by omega)]
      (repeat (with_reducible refine And.intro ?_ ?_;focus (first|omega|exact kD|kernel_rfl)))
      rw[zL fun S=>by have:=N2 S;omega]
     by_cases c10:par=0
     ·simp only[aR,seval,c8,c9,c10,kA (n:=s+(cnt tx:Int)) (by omega) (by omega),kA (n:=0+1) (by omega) (by omega)]
      (repeat (with_reducible refine And.intro ?_ ?_;focus (first|omega|exact kD|kernel_rfl)))
      have cx:=nx ⟨⟨by simp only;omega,by simp only;omega⟩,hnm,c4,fun hdd=>(by first|assumption|cases hdd),hv,by simp only;omega,.inl c10⟩
      refine kN ⟨(s+(cnt tx:Int),1),by simp only;omega,by simp only;omega,srt1,(by have h5:=tx1;(try simp only[Nat.zero_add]at h5);simp only;omega),cx⟩ (by simp only;omega) ?_
      rw[hSt];refine kO [] [] ?_
      simp only[aR,seval]<;>((repeat' apply And.intro)<;>first|rfl|omega|trivial|(simp[kB8];done))
     simp only[aR,seval,c8,c9,c10,kA (n:=s+(cnt tx:Int)) (by omega) (by omega)]
     (repeat (with_reducible refine And.intro ?_ ?_;focus (first|omega|exact kD|kernel_rfl)))
     refine kBE (by simp[kI]) rfl (by omega) ?_
     by_cases c11:ndx par l < l.length
     case neg =>
      simp only[aR,seval,ndI,if_neg c11]
      (repeat (with_reducible refine And.intro ?_ ?_;focus (first|omega|exact kD|kernel_rfl)))
      rw[zL fun S=>by rcases (N S).par with h1|h1;exact c10 h1;exact c11 h1.1]
     have e4:=k8 l c11
     have hg:l.getD (ndx par l) zI=l[ndx par l]:=by rw[List.getD_eq_getElem?_getD,List.getElem?_eq_getElem c11];rfl
     generalize l[ndx par l]=y at *
     obtain ⟨yid,ypar,ynm,ydir,ytx⟩:=y
     have hnn:((ndx par l:Int) < 0)=False:=eq_false (by omega)
     cases ydir
     ·simp only[aR,seval,ndI,if_pos c11,e4,nA,hnn,kK]
      (repeat (with_reducible refine And.intro ?_ ?_;focus (first|omega|exact kD|kernel_rfl)))
      rw[zL fun S=>by rcases (N S).par with h1|h1;exact c10 h1;have:=h1.2.1;simp only at this;rw[hg]at this;cases this]
     simp only[aR,seval,ndI,if_pos c11,e4,nA,hnn,kK]
     (repeat (with_reducible refine And.intro ?_ ?_;focus (first|omega|exact kD|kernel_rfl)))
     refine kCc (by simp[kI]) rfl (by omega) ?_
     cases hw:zS l par id
     case true =>
      simp only[aR,seval]
      (repeat (with_reducible refine And.intro ?_ ?_;focus (first|omega|exact kD|kernel_rfl)))
      rw[zL fun S=>by rcases (N S).par with h1|h1;exact c10 h1;have:=h1.2.2;simp only at this;rw[hw]at this;cases this]
     simp only[aR,seval,kA (n:=0+1) (by omega) (by omega)]
     (repeat (with_reducible refine And.intro ?_ ?_;focus (first|omega|exact kD|kernel_rfl)))
     have cx:=nx ⟨⟨by simp only;omega,by simp only;omega⟩,hnm,c4,fun hdd=>(by first|assumption|cases hdd),hv,by simp only;omega,.inr ⟨c11,by simp only;rw[hg],hw⟩⟩
     refine kN ⟨(s+(cnt tx:Int),1),by simp only;omega,by simp only;omega,srt1,(by have h5:=tx1;(try simp only[Nat.zero_add]at h5);simp only;omega),cx⟩ (by simp only;omega) ?_
     rw[hSt];refine kO [] [] ?_
     simp only[aR,seval]<;>((repeat' apply And.intro)<;>first|rfl|omega|trivial|(simp[kB8];done))
  | succ k =>
    have hkt:k < l.length:=by omega
    have e3:=k8 l hkt
    have hw:IntKind.wrap .i64 (((k+1:Nat):Int) - 1)=k:=by rw[kA (by omega) (by omega)];omega
    have hp:((k+1:Nat):Int) > 0:=by omega
    have srt0:l[k].id < id→srtN (l.take (k+1+1)):=fun hlt2=>hsn fun k2 hk2=>by
     have:k2=k:=by omega
     subst this;exact hlt2
    clear hsn
    have N4:=N3 k rfl
    clear N3
    generalize l[k]=z at *
    obtain ⟨zid,zpar,znm,zdir,ztx⟩:=z
    simp only at srt0 N4
    by_cases c3:zid ≥ id
    ·simp only[aR,seval,c1,c2,hw,hp,e3,nA,c3,kK]
     (repeat (with_reducible refine And.intro ?_ ?_;focus (first|omega|exact kD|kernel_rfl)))
     rw[zL fun S=>by have:=N4 S;omega]
    have srt1:=srt0 (by omega)
    simp only[aR,seval,c1,c2,hw,hp,e3,nA,c3,kK]
    (repeat (with_reducible refine And.intro ?_ ?_;focus (first|omega|exact kD|kernel_rfl)))
    refine jA (by simp[kI]) hn ?_
    cases hnm:qC nm
    ·simp only[aR,seval,hnm]
     (repeat (with_reducible refine And.intro ?_ ?_;focus (first|omega|exact kD|kernel_rfl)))
     rw[zL fun S=>by have:=(N S).nm;simp only at this;rw[hnm]at this;cases this]
    simp only[aR,seval,hnm]
    (repeat (with_reducible refine And.intro ?_ ?_;focus (first|omega|exact kD|kernel_rfl)))
    refine kCh (by simp[kI]) rfl (by omega) ?_
    by_cases c4:kid par nm l=id
    case neg =>
     simp only[aR,seval,c4]
     (repeat (with_reducible refine And.intro ?_ ?_;focus (first|omega|exact kD|kernel_rfl)))
     rw[zL fun S=>c4 (N S).kid]
    by_cases c5:dir=true∧tx≠[]
    ·obtain ⟨rfl,c6⟩:=c5
     simp only[aR,seval,c4,c6]
     (repeat (with_reducible refine And.intro ?_ ?_;focus (first|omega|exact kD|kernel_rfl)))
     rw[zL fun S=>c6 ((N S).dir rfl)]
    have more:∀ Z:Prop,(dir=false→Z)→(dir=true→tx=[]→Z)→Z:=fun Z f g=>by
     cases dir
     ·exact f rfl
     ·exact g rfl (Decidable.not_not.1 fun hh=>c5 ⟨rfl,hh⟩)
    have hcl:cnt tx≤tx.length:=by rw[kAJ];exact kER tx
    refine more _ (fun hd=>?_) (fun hd he=>?_)
    all_goals
     subst hd
     by_cases c7:(tx.length:Int) > 8000
     ·first
        | simp only [aR,seval,c4,c7,eq_true he]
          (repeat (with_reducible refine And.intro ?_ ?_;focus (first|omega|exact kD|kernel_rfl)))
          rw[zL fun S=>by have h1:=kBh (N S).valid;have h2:=(N S).cnt;simp only at h1 h2;omega]
        | simp only [aR,seval,c4,c7]
          (repeat (with_reducible refine And.intro ?_ ?_;focus (first|omega|exact kD|kernel_rfl)))
          rw[zL fun S=>by have h1:=kBh (N S).valid;have h2:=(N S).cnt;simp only at h1 h2;omega]
     first
      | simp only [aR,seval,c4,c7,eq_true he]
        (repeat (with_reducible refine And.intro ?_ ?_;focus (first|omega|exact kD|kernel_rfl)))
      | simp only [aR,seval,c4,c7]
        (repeat (with_reducible refine And.intro ?_ ?_;focus (first|omega|exact kD|kernel_rfl)))
     refine kAV (by simp[kI]) (by omega) ?_
     cases hv:(pts tx).isSome
     ·simp only[aR,seval,hv]
      (repeat (with_reducible refine And.intro ?_ ?_;focus (first|omega|exact kD|kernel_rfl)))
      rw[zL fun S=>by have:=(N S).valid;simp only at this;rw[hv]at this;cases this]
     simp only[aR,seval,hv]
     (repeat (with_reducible refine And.intro ?_ ?_;focus (first|omega|exact kD|kernel_rfl)))
     refine kA6 (by simp[kI]) (by omega) ?_
     by_cases c8:(cnt tx:Int) > 2000
     ·simp only[aR,seval,c8]
      (repeat (with_reducible refine And.intro ?_ ?_;focus (first|omega|exact kD|kernel_rfl)))
      rw[zL fun S=>by have:=(N S).cnt;simp only at this;omega]
     by_cases c9:s+(cnt tx:Int) > 10000
     ·simp only[aR,seval,c8,c9,kA (n:=s+(cnt tx:Int)) (by omega) (by omega)]
      (repeat (with_reducible refine And.intro ?_ ?_;focus (first|omega|exact kD|kernel_rfl)))
      rw[zL fun S=>by have:=N2 S;omega]
     by_cases c10:par=0
     ·simp only[aR,seval,c8,c9,c10,kA (n:=s+(cnt tx:Int)) (by omega) (by omega),kA (n:=((k+1:Nat):Int)+1) (by omega) (by omega)]
      (repeat (with_reducible refine And.intro ?_ ?_;focus (first|omega|exact kD|kernel_rfl)))
      have cx:=nx ⟨⟨by simp only;omega,by simp only;omega⟩,hnm,c4,fun hdd=>(by first|assumption|cases hdd),hv,by simp only;omega,.inl c10⟩
      refine kN ⟨(s+(cnt tx:Int),k+1+1),by simp only;omega,by simp only;omega,srt1,(by have h5:=tx1;(try simp only[Nat.zero_add]at h5);simp only;omega),cx⟩ (by simp only;omega) ?_
      rw[hSt];refine kO [] [] ?_
      simp only[aR,seval]<;>((repeat' apply And.intro)<;>first|rfl|omega|trivial|(simp[kB8];done))
     simp only[aR,seval,c8,c9,c10,kA (n:=s+(cnt tx:Int)) (by omega) (by omega)]
     (repeat (with_reducible refine And.intro ?_ ?_;focus (first|omega|exact kD|kernel_rfl)))
     refine kBE (by simp[kI]) rfl (by omega) ?_
     by_cases c11:ndx par l < l.length
     case neg =>
      simp only[aR,seval,ndI,if_neg c11]
      (repeat (with_reducible refine And.intro ?_ ?_;focus (first|omega|exact kD|kernel_rfl)))
      rw[zL fun S=>by rcases (N S).par with h1|h1;exact c10 h1;exact c11 h1.1]
     have e4:=k8 l c11
     have hg:l.getD (ndx par l) zI=l[ndx par l]:=by rw[List.getD_eq_getElem?_getD,List.getElem?_eq_getElem c11];rfl
     generalize l[ndx par l]=y at *
     obtain ⟨yid,ypar,ynm,ydir,ytx⟩:=y
     have hnn:((ndx par l:Int) < 0)=False:=eq_false (by omega)
     cases ydir
     ·simp only[aR,seval,ndI,if_pos c11,e4,nA,hnn,kK]
      (repeat (with_reducible refine And.intro ?_ ?_;focus (first|omega|exact kD|kernel_rfl)))
      rw[zL fun S=>by rcases (N S).par with h1|h1;exact c10 h1;have:=h1.2.1;simp only at this;rw[hg]at this;cases this]
     simp only[aR,seval,ndI,if_pos c11,e4,nA,hnn,kK]
     (repeat (with_reducible refine And.intro ?_ ?_;focus (first|omega|exact kD|kernel_rfl)))
     refine kCc (by simp[kI]) rfl (by omega) ?_
     cases hw:zS l par id
     case true =>
      simp only[aR,seval]
      (repeat (with_reducible refine And.intro ?_ ?_;focus (first|omega|exact kD|kernel_rfl)))
      rw[zL fun S=>by rcases (N S).par with h1|h1;exact c10 h1;have:=h1.2.2;simp only at this;rw[hw]at this;cases this]
     simp only[aR,seval,kA (n:=((k+1:Nat):Int)+1) (by omega) (by omega)]
     (repeat (with_reducible refine And.intro ?_ ?_;focus (first|omega|exact kD|kernel_rfl)))
     have cx:=nx ⟨⟨by simp only;omega,by simp only;omega⟩,hnm,c4,fun hdd=>(by first|assumption|cases hdd),hv,by simp only;omega,.inr ⟨c11,by simp only;rw[hg],hw⟩⟩
     refine kN ⟨(s+(cnt tx:Int),k+1+1),by simp only;omega,by simp only;omega,srt1,(by have h5:=tx1;(try simp only[Nat.zero_add]at h5);simp only;omega),cx⟩ (by simp only;omega) ?_
     rw[hSt];refine kO [] [] ?_
     simp only[aR,seval]<;>((repeat' apply And.intro)<;>first|rfl|omega|trivial|(simp[kB8];done))
 ·simp only[aR,seval,h,kK]
  rw[List.take_of_length_le (by omega)]at hb hst hck
  rw[yes_snd (snd_of hb (by omega) (by omega) hck)]
end Go.Proofs
end
-- ETr23
section
namespace Go.Proofs
open Go Go.Rw
set_option maxRecDepth 100000
section
variable {Γ:Env} {n:Nat} {t:Nat→AV} {hd:Nat→Nat→AV} {d:Option Nat} {K:AS→Prop}
variable {nh nl:Nat} {h:Nat→Option AO} {fm:Nat→Nat} {lv:Nat→Option (Nat×Nat)} {mu:Bool}
theorem call_tload (hC:Γ.get 15=none) {l:List Nd} {xs:List AV} (hx:xs=kU l) (hl:l.length≤1000000) (ht:∀ x∈l,x.nm.length≤1099511627776∧x.text.length≤1099511627776)
    (hk1:sndN l→∀ s:TS,s.l=l→cont ⟨n,t,hd,⟨nh+2,upd (upd h nh (some (.cells [.mp (nh+1)]))) (nh+1) (some (.map s.es s.cl)),nl,fm,lv,mu⟩⟩ d (.tup [.ptr nh 0,.v (.int .i64 0)]) K)
    (hk2:¬ sndN l→cont ⟨n,t,hd,⟨nh,h,nl,fm,lv,mu⟩⟩ d (.tup [.v (.pointer none),.v (.int .i64 1)]) K):kS Tryz.prog Γ false ⟨n,t,hd,⟨nh,h,nl,fm,lv,mu⟩⟩ 15 [.sl 0 5 xs] d K:=by
 subst hx
 refine vc_obj tload_good hC ⟨l,hl,ht⟩ [] ⟨by simp,by simp[dnL,dn],by simp[dnOs],by simp[AV.tagsL,AV.tags],rfl⟩ ?_
 rintro objs lvs r ⟨rfl,hp⟩ hll
 rcases hp with ⟨hS,s,hs,rfl,rfl⟩|⟨hS,rfl,rfl⟩
 ·have:=hk1 hS s hs
  have e3:(tsO (some s)).length - ([]:List Nat).length=2:=rfl
  rw[e3]
  simp only[tsO,kAP,kAc,kAS,kBw,kAX,kBO,kGC,kCJ,kCH,kDy,kAQ,kAw,kA5,kAU,kA8,kF5,emb_tup,emb_v,List.length_nil,Nat.add_zero]
  exact this
 ·have:=hk2 hS
  simp only[kAc,kA5,kAU,kA8,emb_tup,kAX,kBO,emb_v,List.length_nil,Nat.add_zero,Nat.sub_zero]
  exact this
end
theorem small_nodes {t:List Nd} {l:List Ac} (h:kEA t l=true):t.length≤4000∧∀ x∈t,x.nm.length≤4000∧x.text.length≤4000:=by
 obtain ⟨h1,_,_⟩:=of_decide_eq_true h
 obtain ⟨h2,h3⟩:=nF_le (by omega) t (Int.le_refl 0) h1
 exact ⟨by omega,fun x hx=>by have:=h3 x hx;omega⟩
abbrev does14Con:Con where
 ι:=GivenN×GivenA
 args:=fun p=>[.sl 0 5 (kU p.1.1),.sl 0 6 (acts p.2.1)]
 post:=fun _ r=>r = .v (.bool true)
 plain:=true
set_option maxHeartbeats 4000000 in
theorem does14_good:Rw.Good Tryz.prog 10 does14Con:=by
 have hΓ:kM Tryz.prog [(32,kEa),(36,kCE),(16,kFB),(47,kEY),(26,kDT)]:=(kH awake14_good (kH small14_good (kH xsound_good (kH rdoall_good (kH snodes_good kJ)))))
 refine kD1 (nn:=82) Tryz.func10 (by kernel_rfl) rfl (show Tryz.f10.results.toList=[.tmp 4] from rfl) (fun _=>rfl) (fun x=>by simp[AV.erL,AV.er,kBR,kAt]) ?_
 rintro ⟨⟨t,ht,htc⟩,⟨l,hl,hlc⟩⟩
 refine qW hΓ (Ws:=[]) _ ?_
 simp only[aR,seval,kB,kC,]
 refine call_small14 (by simp[kI]) rfl rfl ht htc hl hlc ?_
 rcases Bool.eq_false_or_eq_true (kEA t l) with h1|h1
 case inr =>
  simp only[aR,seval,kB,kC,h1]
  refine kAd (by simp[kI]) ?_
  simp only[aR,seval,kB,kC,]
 obtain ⟨ll,lok⟩:=small_acts h1 hlc
 obtain ⟨tl,tc⟩:=small_nodes h1
 simp only[aR,seval,kB,kC,h1]
 refine call_tload (by simp[kI,k9]) rfl (by omega) (fun x hx=>by have:=tc x hx;omega) ?_ ?_
 ·intro hS s hs
  have hS':sndN s.l:=by rw[hs];exact hS
  have tok:okT t:=⟨by omega,fun x hx=>by have:=(tc x hx).2;omega⟩
  simp only[aR,seval,kB,kC,kG]
  (repeat (with_reducible refine And.intro ?_ ?_;focus (first|omega|exact kD|kernel_rfl)))
  refine kFZ (s:=s) (o:=0) (ob:=1) (lt:=0) (by simp[kI,k9]) hS' (by omega) lok (by simp[qP,upd]) ?_ ?_
  ·intro he s' hs1 hS1
   rw[hs]at he hs1 ⊢
   simp only[aR,seval,kB,kC,]
   refine kGN (by simp[kI]) rfl rfl tok (by omega) lok (by omega) (by omega) ?_
   rw[he]
   simp only[aR,seval,kB,kC,bne_self_eq_false]
   (repeat (with_reducible refine And.intro ?_ ?_;focus (first|omega|exact kD|kernel_rfl)))
   refine jH (s:=s) (o:=0) (ob:=1) (by simp[kI,k9]) (kGf hS').1 (by simp[qP,upd]) ?_
   rw[hs]
   simp only[aR,seval,kB,kC,]
   (repeat (with_reducible refine And.intro ?_ ?_;focus (first|omega|exact kD|kernel_rfl)))
   refine kCg (by simp[kI]) rfl rfl (by omega) (by omega) ?_
   simp only[aR,seval,kB,kC,beq_self_eq_true,decide_true]
   (repeat (with_reducible refine And.intro ?_ ?_;focus (first|omega|exact kD|kernel_rfl)))
   refine jH (s:=s') (o:=2) (ob:=3) (by simp[kI,k9]) (kGf hS1).1 (by simp[qP,upd]) ?_
   have hl1:=hS1.len
   rw[hs1]at hl1 ⊢
   simp only[aR,seval,kB,kC,]
   (repeat (with_reducible refine And.intro ?_ ?_;focus (first|omega|exact kD|kernel_rfl)))
   refine kCg (by simp[kI]) rfl rfl (by omega) (by omega) ?_
   simp only[aR,seval,kB,kC,decide_true]
   (repeat (with_reducible refine And.intro ?_ ?_;focus (first|omega|exact kD|kernel_rfl)))
   refine kAd (by simp[kI]) ?_
   simp only[aR,seval,kB,kC,]
  ·intro he
   rw[hs]at he ⊢
   simp only[aR,seval,kB,kC,]
   refine kGN (by simp[kI]) rfl rfl tok (by omega) lok (by omega) (by omega) ?_
   simp only[aR,seval,kB,kC,he,decide_false,bne_self_eq_false]
   (repeat (with_reducible refine And.intro ?_ ?_;focus (first|omega|exact kD|kernel_rfl)))
   refine jH (s:=s) (o:=0) (ob:=1) (by simp[kI,k9]) (kGf hS').1 (by simp[qP,upd]) ?_
   rw[hs]
   simp only[aR,seval,kB,kC,he]
   (repeat (with_reducible refine And.intro ?_ ?_;focus (first|omega|exact kD|kernel_rfl)))
   refine kCg (by simp[kI]) rfl rfl (by omega) (by omega) ?_
   simp only[aR,seval,kB,kC,he,decide_true]
   (repeat (with_reducible refine And.intro ?_ ?_;focus (first|omega|exact kD|kernel_rfl)))
   refine kAd (by simp[kI]) ?_
   simp only[aR,seval,kB,kC,]
 ·intro hS
  simp only[aR,seval,kB,kC,]
  (repeat (with_reducible refine And.intro ?_ ?_;focus (first|omega|exact kD|kernel_rfl)))
  refine kP (C:=kFB) (i:=⟨t,by omega,fun x hx=>by have:=tc x hx;omega⟩) (by simp[kI]) rfl rfl rfl (by simp[AV.erL,AV.er,kBR]) (fun _ h=>h) rfl ?_
  simp only
  rw[zL hS]
  simp only[aR,seval,kB,kC,]
  refine kAd (by simp[kI]) ?_
  simp only[aR,seval,kB,kC,]
end Go.Proofs
end
-- EUeR
section
namespace Go.Proofs
open Go Go.Rw Go.RowKit Go.ChangeShapes Go.WideShapes Go.ChangeAt Go.Deep
set_option maxRecDepth 100000
theorem i64_rng {n:Int} (h:(Lit.int .i64 n).wf=true):-9223372036854775808≤n∧n≤9223372036854775807:=by
 simp[Lit.wf,IntKind.min,IntKind.max,IntKind.signed,IntKind.bits]at h;omega
abbrev tyC:Ty:=.st [.int .i64,.int .i64,.str]
abbrev tyA:Ty:=.st [.int .i64,.int .i64,.int .i64,.str,.bool,.slc tyC]
theorem fit_comp {ds:List AV} (h:Fits tyC ds):∃ c:Cp,kDX tyC ds=cA c∧(-9223372036854775808≤c.n∧c.n≤9223372036854775807)∧c.t.length≤9223372036854775807:=by
 simp only[tyC,Fits,FitsL]at h
 obtain ⟨a,b,rfl,⟨k,rfl,hk⟩,a2,b2,rfl,⟨n,rfl,hn⟩,a3,b3,rfl,⟨t,rfl,ht⟩,rfl⟩:=h
 exact ⟨⟨k,n,t⟩,rfl,i64_rng hn,ht⟩
theorem fit_comps {cs:List AV} (h:Fits (.slc tyC) cs):∃ l:List Cp,cs=[.sl 0 3 (qE l)]∧wideC l:=by
 rw[Fits]at h
 obtain ⟨xs,rfl,h1,h2⟩:=h
 obtain ⟨l,rfl,h3⟩:=fits_map cA (fun c=>(-9223372036854775808≤c.n∧c.n≤9223372036854775807)∧c.t.length≤9223372036854775807) (fun ds hd=>fit_comp hd) xs h2
 exact ⟨l,rfl,by simpa using h1,h3⟩
theorem fit_act {ds:List AV} (h:Fits tyA ds):∃ a:Ac,kDX tyA ds=aA a∧a.nm.length≤9223372036854775807∧wideC a.ops:=by
 simp only[tyA,Fits.eq_5,FitsL]at h
 obtain ⟨a,b,rfl,h1,a2,b2,rfl,h2,a3,b3,rfl,h3,a4,b4,rfl,h4,a5,b5,rfl,h5,a6,b6,rfl,h6,rfl⟩:=h
 obtain ⟨l,rfl,hl⟩:=fit_comps h6
 simp only[Fits]at h1 h2 h3 h4 h5
 obtain ⟨k,rfl,_⟩:=h1
 obtain ⟨id,rfl,_⟩:=h2
 obtain ⟨par,rfl,_⟩:=h3
 obtain ⟨nm,rfl,hn⟩:=h4
 obtain ⟨dir,rfl⟩:=h5
 exact ⟨⟨k,id,par,nm,dir,l⟩,rfl,hn,hl⟩
section
variable {P:Program} {W:World} {H:Type} {enc:TypeId×Value→H}
theorem open_acts {t:TypeId} {v:Value} {d:DataW H} {p:List MemPlace} (ht:isTy P t (.slc tyA)=true) (hv:∃ A n c,v = .slice A n c) (h:DataW.Trod enc P W 0 (fun _=>true) true t v d p) :
    ∃ l:List Ac,l.length≤9223372036854775807∧(∀ a∈l,a.nm.length≤9223372036854775807∧wideC a.ops)∧VR (Gin (Fw W) none) W v (.sl 0 6 (acts l)) :=
 arg_slc aA _ (fun ds hd=>fit_act hd) ht hv h
end
end Go.Proofs
end
-- EUk11
section
namespace Go.Proofs
open Go Go.Rw
set_option maxRecDepth 100000
structure Cm where
 rev:Int
 client:Int
 seq:Int
 acs:List Ac
 deriving Inhabited,DecidableEq
end Go.Proofs
end
-- EUk13
section
namespace Go.Proofs
open Go Go.Rw
set_option maxRecDepth 100000
end Go.Proofs
end
-- EUkR
section
namespace Go.Proofs
open Go Go.Rw Go.RowKit Go.ChangeShapes Go.WideShapes Go.ChangeAt Go.Deep
set_option maxRecDepth 100000
abbrev tyN:Ty:=.st [.int .i64,.int .i64,.str,.bool,.str]
theorem fit_node {ds:List AV} (h:Fits tyN ds):∃ a:Nd,kDX tyN ds=nA a∧a.nm.length≤9223372036854775807∧a.text.length≤9223372036854775807:=by
 simp only[tyN,Fits.eq_5,FitsL]at h
 obtain ⟨a,b,rfl,h1,a2,b2,rfl,h2,a3,b3,rfl,h3,a4,b4,rfl,h4,a5,b5,rfl,h5,rfl⟩:=h
 simp only[Fits]at h1 h2 h3 h4 h5
 obtain ⟨id,rfl,_⟩:=h1
 obtain ⟨par,rfl,_⟩:=h2
 obtain ⟨nm,rfl,hn⟩:=h3
 obtain ⟨dir,rfl⟩:=h4
 obtain ⟨tx,rfl,ht⟩:=h5
 exact ⟨⟨id,par,nm,dir,tx⟩,rfl,hn,ht⟩
theorem open_nodes {P:Program} {W:World} {H:Type} {enc:TypeId×Value→H} {t:TypeId} {v:Value} {d:DataW H} {p:List MemPlace} (ht:isTy P t (.slc tyN)=true) (hv:∃ A n c,v = .slice A n c) (h:DataW.Trod enc P W 0 (fun _=>true) true t v d p) :
    ∃ l:List Nd,l.length≤9223372036854775807∧(∀ a∈l,a.nm.length≤9223372036854775807∧a.text.length≤9223372036854775807)∧VR (Gin (Fw W) none) W v (.sl 0 5 (kU l)) :=
 arg_slc nA _ (fun ds hd=>fit_node hd) ht hv h
end Go.Proofs
end
-- EUr1
section
namespace Go.Proofs.YtfhipjafkdembaaGreatDoor
open Go Go.ChangeShapes Go.WideShapes Go.ChangeAt Go.RowKit Go.Rw Go.Lib
open Go.ChangeMaps (open_string shut_string)
set_option maxRecDepth 100000
theorem own:ownKnob Tryz.prog.godebug=none:=by kernel_rfl
theorem laidOut:laidOutB Tryz.prog=true:=by kernel_rfl
noncomputable def kDR (os:Os):World :=
 let w0:=World.holding Tryz.prog os ⟨#[],#[],[]⟩
 let put (h:Array Obj) (g:Nat) (cs:Array Value):Array Obj:=h.modify g fun
  | .cells _ t frozen=>.cells cs t frozen
  | o=>o
 let h1:=put w0.heap 0 (Lib.firstTab.map fun z=>Value.int .u8 z).toArray
 let h2:=put h1 1 ((List.range 16).flatMap fun i=>[Value.int .u8 (Lib.accLo i),Value.int .u8 (Lib.accHi i)]).toArray
 { w0 with heap:=h2 }
abbrev laidL : List (String × DataW Unit) := [("unicode/utf8.acceptRanges", Lib.acceptData), ("unicode/utf8.first", Lib.firstData)]
theorem laid_met (os:Os) (args:Array Value):laidMet Tryz.prog laidL ((kDR os).forCall (fun _ _=>0) ⟨#[],args,[]⟩).memory :=
 (LaidIn.of_run (l:=laidL) [1,0] 8 (by kernel_rfl) (by kernel_rfl) (by kernel_rfl) (by kernel_rfl)).met
theorem tabs_of {W:World} (hL:laidMet Tryz.prog laidL W):TabOk W (k7 none):=by
 have htab:Lib.Utf8Tabs 0 1 W :=
  utf8Tabs_of_readsT (U8Types.of196 Tryz.lays196) ⟨by kernel_rfl,by kernel_rfl,by kernel_rfl,by kernel_rfl,by kernel_rfl,by kernel_rfl,by kernel_rfl⟩ (Lib.laidMet.reads hL (.tail _ (.head _))) (Lib.laidMet.reads hL (.head _))
 refine ⟨htab,fun g hg=>⟨?_,by rintro ⟨k,hk,_⟩;cases hk⟩⟩
 have key:∀ g i v,W.cell? ⟨g,i,none⟩=some v→g < W.heap.size:=fun g i v h=>Fw_lt (Nat.lt_of_le_of_lt (Nat.zero_le i) (Fw_cell h))
 rcases hg with rfl|rfl
 ·exact key 0 _ _ (htab.1 0 (by omega))
 ·exact key 1 _ _ (htab.2 0 (by omega)).1
end Go.Proofs.YtfhipjafkdembaaGreatDoor
end
