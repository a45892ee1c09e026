/-
 A tree of k6: what Load takes is what is qM. A qM tree's children have one order;what leaves a tree as it is,in a region that draws its order. Is a tree qM. What the document fixes of rebase. RebaseApart answers true. law14: small;TxnAsks answers true. law13: a tree shows its k6. TxnAsks answers true. Is a tree qM: just so. TxnDoes answers true. law13: what the document fixes;TreeLoads answers true. Paths and children of a qM tree: what TreeOrder asks. Plain. Six directories,moved about: what TreeCycles asks. Plain. TreeOrder answers true. TreeCycles answers true. From the laws' functions to their rows: the tables as they are laid;a world for the witness.
-/
import Derived.Test.YtfhipjafkdembaaGreatDoorXETr11
import Derived.Test.YtfhipjafkdembaaGreatDoorXEUk1e
import Derived.Test.YtfhipjafkdembaaGreatDoorXESh
import Derived.Test.YtfhipjafkdembaaGreatDoorRwG
import Derived.Test.YtfhipjafkdembaaGreatDoorCards
import Derived.Test.YtfhipjafkdembaaGreatDoorTie
import Derived.Lib.LaidIn
import Derived.Lib.LaidU8T
import Derived.Deep.DeepHandedRow
import Derived.Deep.DeepWitnessRowRef
import Derived.ProofKit
import Derived.OpenShut
import Derived.SizedLaws
import Derived.SevenTiedAt
set_option linter.unusedSimpArgs false
set_option linter.unusedVariables false
set_option linter.defProp false
set_option linter.unusedSectionVars false

-- ETr22
section
namespace Go.Proofs
open Go Go.Rw
set_option maxRecDepth 100000
theorem set_end {x:Nd}:∀ {m:List Nd},(∀ y∈m,y.id < x.id)→setT x m=m++[x]:=fun {m} h=>by
 have h1:hasN m x.id=false:=by
  rcases Bool.eq_false_or_eq_true (hasN m x.id) with hh|hh
  ·obtain ⟨h2,h3⟩:=jA hh
   have:=h _ h2
   omega
  ·exact hh
 have h2:∀ {m:List Nd},(∀ y∈m,y.id < x.id)→atN x.id m=m.length:=fun {m}=>by
  induction m with
  | nil=>intro _;rfl
  | cons y m ih =>
    intro h
    rw[atN,if_pos (h y (List.mem_cons_self ..)),ih fun z hz=>h z (List.mem_cons_of_mem _ hz)];rfl
 unfold setT
 rw[h1,if_neg (by decide),h2 h,List.take_length,List.drop_length]
abbrev Ld1 (l:List Nd):={ p:Nat×TS×Int // p.1≤l.length∧p.2.1.l=l.take p.1∧(∀ x∈l.take p.1,okNd x∧x.id≤p.2.2)∧(0≤p.2.2∧p.2.2≤1099511627776)∧(p.2.2=0∨∃ x∈l.take p.1,x.id=p.2.2) }
def kOf (x:Nd):Ky:=(x.par,x.nm)
structure NS where
 es:Array MapEntry
 cl:Nat
 ps:List (Ky×Int)
 h:NM es cl ps
def NI (l:List Nd) (i:Nat) (ps:List (Ky×Int)):Prop:=(∀ k,k∈ps.map Prod.fst↔k∈(l.take i).map kOf)∧((ps.length=i∧((l.take i).map kOf).Nodup)∨(ps.length < i∧¬ ((l.take i).map kOf).Nodup))
def goodP (l:List Nd) (x:Nd):Prop:=(x.par=0∨(gN l x.par).dir=true)∧jS l l.length x.id=true
abbrev Ld2 (l:List Nd):={ p:Nat×NS // p.1≤l.length∧(∀ x∈l.take p.1,goodP l x)∧NI l p.1 p.2.ps }
abbrev tloadCon:ConO where
 ι:={ l:List Nd // l.length≤1000000∧∀ x∈l,x.nm.length≤1099511627776∧x.text.length≤1099511627776 }
 objs:=fun _=>[]
 args:=fun p=>[.sl 0 5 (k6 p.1)]
 post:=fun p objs lvs r=>lvs=[]∧((sndN p.1∧∃ s:TS,s.l=p.1∧objs=tsO (some s)∧r = .tup [.ptr 0 0,.v (.int .i64 0)])∨(¬ sndN p.1∧objs=[]∧r = .tup [.v (.pointer none),.v (.int .i64 1)]))
theorem steady_nm {σ:AS} {ob:Nat} {m:NS} (hob:σ.m.h ob=some (.map m.es m.cl)) {p:Ky} {es':Array MapEntry} {cl':Nat} (h':NM es' cl' (layK p m.ps)) :
    kEc Tryz.prog σ ob (.map es' cl') 82 (.agg [.v (.int .i64 0),.v (.int .i64 p.1),.v (sv p.2),.v (.bool false),.v (sv [])]):=by
 intro r hr
 have hk:keyT Tryz.prog 82=none:=by kernel_rfl
 have tv:toV (.agg [.v (.int .i64 0),.v (.int .i64 p.1),.v (sv p.2),.v (.bool false),.v (sv [])])=some (kV p):=rfl
 have e:(σ.m.setObj ob (.map es' cl')).h ob=some (.map es' cl'):=qE ..
 unfold kAw at hr ⊢
 simp only[hk,tv,lookK,hob,e]at hr ⊢
 rw[look_nm m.h]at hr
 rw[look_nm h',cnt_lay]
 exact hr
theorem lay_keys (p:Ky) (ps:List (Ky×Int)):(layK p ps).map Prod.fst=if p∈ps.map Prod.fst then ps.map Prod.fst else ps.map Prod.fst++[p]:=by
 unfold layK
 cases hf:fndP p ps 0 with
 | none=>rw [if_neg (kCc hf).1];simp
 | some q =>
   obtain ⟨i,v⟩:=q
   obtain ⟨j,c,_,h2,_,_⟩:=kDj hf
   rw[if_pos (List.mem_map.2 ⟨_,List.mem_of_getElem? h2,rfl⟩)];rfl
theorem set_keys {p:Ky} {ps:List (Ky×Int)} {i:Nat} {c c':Int} (hi:ps[i]? = some (p,c)):(ps.set i (p,c')).map Prod.fst=ps.map Prod.fst:=by
 have hlt:=(List.getElem?_eq_some_iff.1 hi).1
 rw[List.map_set]
 apply List.ext_getElem?
 intro j
 rw[List.getElem?_set]
 split
 ·rename_i hj
  subst hj
  rw[List.getElem?_map,hi,List.length_map,if_pos hlt];rfl
 ·rfl
theorem ni_step {l:List Nd} {i:Nat} {ps:List (Ky×Int)} {x:Nd} (h:NI l i ps) (hx:l.take (i+1)=l.take i++[x]) {ix:Nat} {c c':Int} (hg:(layK (kOf x) ps)[ix]? = some (kOf x,c)):NI l (i+1) ((layK (kOf x) ps).set ix (kOf x,c')):=by
 obtain ⟨h1,h2⟩:=h
 have e:=lay_keys (kOf x) ps
 have e2:=set_keys (c':=c') hg
 have hlen:((layK (kOf x) ps).set ix (kOf x,c')).length=(layK (kOf x) ps).length:=List.length_set
 have hlk:(layK (kOf x) ps).length=((layK (kOf x) ps).map Prod.fst).length:=by rw[List.length_map]
 unfold NI
 rw[e2,hlen,hlk,e,hx,List.map_append]
 by_cases hm:kOf x∈ps.map Prod.fst
 ·rw[if_pos hm]
  refine ⟨fun k=>?_,.inr ⟨by rw[List.length_map];rcases h2 with h2|h2<;>omega,fun hn=>?_⟩⟩
  ·rw[h1,List.mem_append]
   simp only[List.map_cons,List.map_nil,List.mem_singleton]
   constructor
   ·exact .inl
   ·rintro (h|rfl)
    ·exact h
    ·exact (h1 _).1 hm
  ·rw[List.nodup_append]at hn
   exact hn.2.2 _ ((h1 _).1 hm) _ (by simp) rfl
 ·rw[if_neg hm]
  refine ⟨fun k=>?_,?_⟩
  ·rw[List.mem_append,h1,List.mem_append];simp
  ·rw[List.length_append,List.length_map]
   rcases h2 with ⟨h3,h4⟩|⟨h3,h4⟩
   ·refine .inl ⟨by simp;omega,?_⟩
    rw[List.nodup_append]
    refine ⟨h4,by simp,fun a ha b hb=>?_⟩
    simp only[List.map_cons,List.map_nil,List.mem_singleton]at hb
    subst hb
    rintro rfl
    exact hm ((h1 _).2 ha)
   ·refine .inr ⟨by simp;omega,fun hn=>h4 ?_⟩
    rw[List.nodup_append]at hn
    exact hn.1
theorem still_troot {m:AM} {s:TS} (hl:s.l.length≤1000000) {id:Int} {o ob:Nat} (hT:qB m.h o ob s):Still Tryz.prog m 52 [.ptr o 0,.v (.int .i64 id)] (.v (.bool (jS s.l s.l.length id))):=by
 obtain ⟨h1,h2,h3⟩:=hT
 refine still_obj troot_good ⟨(s,id),hl⟩ [o,ob] (by simp[h3]) (by simp[dnL,dn]) ?_ rfl ?_ ?_ ?_
 ·simp only[tsO,kEQ,dnOs_nil,h1,h2,kCv,dnOo_map,kDa,dnL_nil,dn_mp]
  simp
 ·simp[kBs,kB0,h1,h2,tagsO1,AO.tags,AV.tagsL,AV.tags]
 ·intro nh nl j o' x y ho hx hy
  match j,ho,hx with
  | 0,ho,hx=>cases ho;simp [tsO] at hx;subst hx;rw [h1] at hy;cases hy;rfl
  | 1,ho,hx=>cases ho;simp [tsO] at hx;subst hx;rw [h2] at hy;cases hy;rfl
  | j+2,ho,hx=>cases ho
 ·rintro objs lvs r ⟨h4,h5,h6⟩
  exact ⟨h4,h5,h6,rfl⟩
theorem vq_root {Γ:Env} {n:Nat} {t:Nat→AV} {hd:Nat→Nat→AV} {d:Option Nat} {K:AS→Prop} {nh nl:Nat} {h:Nat→Option AO} {fm:Nat→Nat} {lv:Nat→Option (Nat×Nat)} {mu:Bool} (hC:Γ.get 52=none) {s:TS} (hl:s.l.length≤1000000) {id:Int} {o ob:Nat} (hT:qB h o ob s)
    (hk:cont ⟨n,t,hd,⟨nh,h,nl,fm,lv,mu⟩⟩ d (.v (.bool (jS s.l s.l.length id))) K):callQ.callQ2 Tryz.prog Γ d K ⟨n,t,hd,⟨nh,h,nl,fm,lv,mu⟩⟩ (Γ.get 52) 52 [.ptr o 0,.v (.int .i64 id)]:=by
 rw[hC]
 exact ⟨_,still_troot hl hT,hk⟩
theorem snd_keys {l:List Nd} (S:sndN l):(l.map kOf).Nodup:=by
 have h:=S.srt
 unfold srtN at h
 rw[List.pairwise_map]at h
 rw[List.nodup_iff_pairwise_ne,List.pairwise_map,List.pairwise_iff_getElem]
 intro i j hi hj hij he
 have h1:=List.pairwise_iff_getElem.1 h i j hi hj hij
 simp only[kOf,Prod.mk.injEq]at he
 have:=S.sib _ (List.getElem_mem hi) _ (List.getElem_mem hj) he.1 he.2
 omega
theorem root_up {l:List Nd}:∀ (n:Nat) (i:Int),jS l n i=true→∃ k,upN l k i=0
 | 0,i,h=>⟨0,of_decide_eq_true h⟩
 | n+1,i,h=>by
   rw[jS]at h
   split at h
   ·exact ⟨0,by assumption⟩
   ·obtain ⟨k,hk⟩:=root_up n _ h
    exact ⟨k+1,hk⟩
theorem tot_le {l:List Nd} (h:∀ x∈l,cnt x.text≤2000):totN l≤2000 * l.length:=by
 induction l with
 | nil=>simp [totN]
 | cons x l ih =>
   have h1:=h x (List.mem_cons_self ..)
   have h2:=ih fun y hy=>h y (List.mem_cons_of_mem _ hy)
   simp only[totN,List.length_cons];omega
theorem load_snd {l:List Nd} (hs:srtN l) (hl:l.length≤100) (hn:∀ x∈l,okNd x) (ht:totN l≤10000) (hk:(l.map kOf).Nodup) (hg:∀ x∈l,goodP l x):sndN l:=by
 refine ⟨hs,hl,hn,ht,fun x hx y hy h1 h2=>?_,fun x hx=>?_,fun x hx=>root_up _ _ (hg x hx).2⟩
 ·obtain ⟨i,hi,rfl⟩:=List.getElem_of_mem hx
  obtain ⟨j,hj,rfl⟩:=List.getElem_of_mem hy
  have he:kOf l[i]=kOf l[j]:=by simp only[kOf,h1,h2]
  rw[List.nodup_iff_pairwise_ne,List.pairwise_map,List.pairwise_iff_getElem]at hk
  rcases Nat.lt_trichotomy i j with h3|h3|h3
  ·exact absurd he (hk i j hi hj h3)
  ·subst h3;rfl
  ·exact absurd he.symm (hk j i hj hi h3)
 ·rcases (hg x hx).1 with h3|h3
  ·exact .inl h3
  ·refine .inr ⟨?_,h3⟩
   rcases Bool.eq_false_or_eq_true (hasN l x.par) with h4|h4
   ·exact h4
   ·rw[gN_at]at h3
    rw[kBH]at h4
    cases h5:atI x.par l with
    | none=>rw [h5] at h3;cases h3
    | some y=>rw [h5] at h4;simp at h4
set_option maxHeartbeats 4000000 in
theorem tload_good:jJ Tryz.prog 15 tloadCon:=by
 have hΓ:kM Tryz.prog [(51,okNCon)]:=(kI okn_good kJ)
 refine qG (nn:=92) Tryz.func15 (by kernel_rfl) rfl (show Tryz.f15.results.toList=[.tmp 2,.tmp 3] from rfl) (fun _=>rfl) ?_
 rintro ⟨l,hl,ht⟩
 refine qQ hΓ (Ws:=[]) _ ?_
 simp only[aR,seval,kA,kB,kC]
 refine kE1 (by simp[kH,kZ]) ?_
 simp only[aR,seval,kA,kB,kC,kO]
 (repeat (with_reducible refine And.intro ?_ ?_;focus (first|omega|exact kE|kernel_rfl)))
 obtain ⟨St,hSt⟩:∃ St:Ld1 l→AS,∀ p,St p=AS.ofH 92 [(0,.sl 0 5 (k6 l)),(4,.ptr 0 0),(5,.v (.int .i64 p.1.2.2)),(12,.sl 0 5 (k6 l)),(13,.v (.int .i64 l.length)),(14,.v (.int .i64 p.1.1))] [] (tsO (some p.1.2.1)) []:=⟨_,fun _=>rfl⟩
 refine kA3 ?_
 refine zK [] hΓ St (fun p=>l.length - p.1.1) ⟨(0,⟨#[],0,[],tm_empty⟩,0),by simp only;omega,by simp,by simp,by simp only;omega,.inl rfl⟩ (by rw[hSt];refine kX [0,1] [] ?_;simp only[aR,seval,kA,kB,kC]<;>((repeat' apply And.intro)<;>first|rfl|omega|trivial)) ?_
 rintro ⟨⟨i,s,last⟩,hi,hs,hok,hlast,hex⟩
 simp only at hi hs hok hlast hex
 rw[hSt]
 simp only
 simp only[aR,seval,kA,kB,kC,kO]
 (with_reducible first|refine kF (fun h=>?_) (fun h=>?_)|refine kG (fun h=>?_) (fun h=>?_))
 ·have hlt:i < l.length:=by omega
  have e1:=zJ l hlt
  have hx:=ht l[i] (List.getElem_mem hlt)
  have hmem:=List.getElem_mem hlt
  have htk:=List.take_succ_eq_append_getElem hlt
  have hsrt:sndN l→∀ y∈l.take i,y.id < l[i].id:=fun S y hy=>by
   obtain ⟨j,hj,rfl⟩:=List.getElem_of_mem hy
   simp only[List.length_take]at hj
   have:=S.srt
   unfold srtN at this
   rw[List.pairwise_map]at this
   rw[List.getElem_take]
   exact List.pairwise_iff_getElem.1 this j i (by omega) hlt (by omega)
  generalize l[i]=x at *
  obtain ⟨id,par,nm,dir,tx⟩:=x
  simp only at hx hsrt
  simp only[aR,seval,kA,kB,kC,h,e1,nA,kO]
  (repeat (with_reducible refine And.intro ?_ ?_;focus (first|omega|exact kE|kernel_rfl)))
  refine kP (C:=okNCon) (i:=⟨⟨id,par,nm,dir,tx⟩,hx⟩) (by simp[kH]) rfl rfl rfl (by simp[AV.erL,AV.er,nA]) (fun _ h=>h) rfl ?_
  have fin:¬ sndN l→tloadCon.post ⟨l,hl,ht⟩ [] [] (.tup [.v (.pointer none),.v (.int .i64 1)]):=fun hn=>⟨rfl,.inr ⟨hn,rfl,rfl⟩⟩
  rcases Bool.eq_false_or_eq_true (okB ⟨id,par,nm,dir,tx⟩) with ho|ho
  case inr =>
   simp only[aR,seval,kA,kB,kC,ho]
   (repeat (with_reducible refine And.intro ?_ ?_;focus (first|omega|exact kE|kernel_rfl)))
   refine kQ [] [] [] [] (.tup [.v (.pointer none),.v (.int .i64 1)]) (fin fun S=>by
    have:=(okB_iff _).2 ⟨(S.node _ hmem).id,(S.node _ hmem).nm,(S.node _ hmem).dir,(S.node _ hmem).valid,(S.node _ hmem).cnt⟩
    rw[ho]at this;cases this) ?_
   simp only[aR,seval,kA,kB,kC]<;>((repeat' apply And.intro)<;>first|rfl|omega|trivial)
  have hnd:=(okB_iff _).1 ho
  have hid:=hnd.id
  simp only at hid
  by_cases hle:id≤last
  ·simp only[aR,seval,kA,kB,kC,ho,hle]
   (repeat (with_reducible refine And.intro ?_ ?_;focus (first|omega|exact kE|kernel_rfl)))
   refine kQ [] [] [] [] (.tup [.v (.pointer none),.v (.int .i64 1)]) (fin fun S=>by
    rcases hex with hex|⟨y,hy,hye⟩
    ·omega
    ·have:=hsrt S y hy;omega) ?_
   simp only[aR,seval,kA,kB,kC]<;>((repeat' apply And.intro)<;>first|rfl|omega|trivial)
  obtain ⟨es',cl',p1,p2⟩:=put_tm s.h ⟨id,par,nm,dir,tx⟩
  simp only[nV]at p1
  rw[hs,set_end (fun y hy=>by have:=(hok y hy).2;simp only;omega),← htk]at p2
  simp only[aR,seval,kA,kB,kC,ho,hle,p1,kD (n:=(i:Int)+1) (by omega) (by omega)]
  (repeat (with_reducible refine And.intro ?_ ?_;focus (first|omega|exact kE|kernel_rfl)))
  refine kN ⟨(i+1,⟨es',cl',l.take (i+1),p2⟩,id),by simp only;omega,rfl,?_,by simp only;omega,.inr ⟨⟨id,par,nm,dir,tx⟩,by simp only;rw[htk];simp,rfl⟩⟩ (by simp only;omega) ?_
  ·intro y hy
   simp only at hy ⊢
   rw[htk,List.mem_append,List.mem_singleton]at hy
   rcases hy with hy|rfl
   ·exact ⟨(hok y hy).1,by have:=(hok y hy).2;omega⟩
   ·exact ⟨hnd,by simp only;omega⟩
  ·rw[hSt];refine kX [0,1] [] ?_
   simp only[aR,seval,kA,kB,kC]<;>((repeat' apply And.intro)<;>first|rfl|omega|trivial)
 ·have hi2:i=l.length:=by omega
  subst hi2
  rw[List.take_length]at hs hok
  have hok2:∀ x∈l,okNd x:=fun x hx=>(hok x hx).1
  have e1:=kA0 s.h
  have e2:=kCm s.h
  have hsr:=s.h.2
  rw[hs]at hsr e1 e2
  simp only[aR,seval,kA,kB,kC,h,kO]
  (repeat (with_reducible refine And.intro ?_ ?_;focus (first|omega|exact kE|kernel_rfl)))
  obtain ⟨St,hSt⟩:∃ St:Ld2 l→AS,∀ p,St p=AS.ofH 92 [(0,.sl 0 5 (k6 l)),(4,.ptr 0 0),(8,.mp 2),(38,.sl 0 5 (k6 l)),(39,.v (.int .i64 l.length)),(40,.v (.int .i64 p.1.1))] [] (tsO (some s)++[.map p.1.2.es p.1.2.cl]) []:=⟨_,fun _=>rfl⟩
  refine kA3 ?_
  refine zK [] hΓ St (fun p=>l.length - p.1.1) ⟨(0,⟨#[],0,[],⟨rfl,rfl,by simp⟩⟩),by simp only;omega,by simp,by simp[NI]⟩ (by rw[hSt];refine kX [0,1,2] [] ?_;simp only[aR,seval,kA,kB,kC,kO,List.cons_append,List.nil_append]<;>((repeat' apply And.intro)<;>first|rfl|omega|trivial)) ?_
  rintro ⟨⟨i,m⟩,hi,hg,hni⟩
  simp only at hi hg hni
  rw[hSt]
  simp only
  simp only[aR,seval,kA,kB,kC,kO,List.cons_append,List.nil_append]
  (with_reducible first|refine kF (fun h2=>?_) (fun h2=>?_)|refine kG (fun h2=>?_) (fun h2=>?_))
  ·have hlt:i < l.length:=by omega
   have e3:=zJ l hlt
   have hmem:=List.getElem_mem hlt
   have htk:=List.take_succ_eq_append_getElem hlt
   generalize l[i]=x at *
   obtain ⟨id,par,nm,dir,tx⟩:=x
   simp only[aR,seval,kA,kB,kC,h2,e3,nA,kO]
   (repeat (with_reducible refine And.intro ?_ ?_;focus (first|omega|exact kE|kernel_rfl)))
   have fin:¬ sndN l→tloadCon.post ⟨l,hl,ht⟩ [] [] (.tup [.v (.pointer none),.v (.int .i64 1)]):=fun hn=>⟨rfl,.inr ⟨hn,rfl,rfl⟩⟩
   by_cases hp:par=0
   ·subst hp
    simp only[aR,seval,kA,kB,]
    (repeat (with_reducible refine And.intro ?_ ?_;focus (first|omega|exact kE|kernel_rfl)))
    refine vq_root (by simp[kH,kZ]) (s:=s) (o:=0) (ob:=1) (by rw[hs];omega) (by simp[qB,upd]) ?_
    rw[hs]
    rcases Bool.eq_false_or_eq_true (jS l l.length id) with hr|hr
    case inr =>
     simp only[aR,seval,kA,kB,hr]
     (repeat (with_reducible refine And.intro ?_ ?_;focus (first|omega|exact kE|kernel_rfl)))
     refine kQ [] [] [] [] (.tup [.v (.pointer none),.v (.int .i64 1)]) (fin fun S=>by
      have:=(kD9 S _).2 (kDT S (.inr (kCg hmem)))
      simp only at this
      rw[hr]at this;cases this) ?_
     simp only[aR,seval,kA,kB,kC]<;>((repeat' apply And.intro)<;>first|rfl|omega|trivial)
    have q1:lookS Tryz.prog 82 (.agg #[.int .i64 0,.int .i64 0,sv nm,.bool false,sv []]) m.es false=some (.v (.int .i64 (cntK (0,nm) m.ps))):=look_nm m.h (0,nm)
    obtain ⟨es',cl',ix,n1,n2,n3⟩:=ent_nm m.h (0,nm)
    simp only[aR,seval,kA,kB,hr,q1]
    (repeat (with_reducible refine And.intro ?_ ?_;focus (first|omega|exact kE|kernel_rfl)))
    refine ⟨m.es,m.cl,.map es' cl',_,rfl,n1,steady_nm (m:=m) (p:=(0,nm)) rfl n2,?_⟩
    simp only[aR,seval,kA,kB,hr]
    (repeat (with_reducible refine And.intro ?_ ?_;focus (first|omega|exact kE|kernel_rfl)))
    refine ⟨es',cl',ix,rfl,(put_nm n2 n3 (IntKind.wrap .i64 (cntK (0,nm) m.ps+1))).1,?_⟩
    simp only[aR,seval,kA,kB,hr,kD (n:=(i:Int)+1) (by omega) (by omega)]
    (repeat (with_reducible refine And.intro ?_ ?_;focus (first|omega|exact kE|kernel_rfl)))
    refine kN ⟨(i+1,⟨_,_,_,(put_nm n2 n3 (IntKind.wrap .i64 (cntK (0,nm) m.ps+1))).2⟩),by simp only;omega,?_,ni_step hni htk (x:=⟨id,0,nm,dir,tx⟩) n3⟩ (by simp only;omega) ?_
    ·intro y hy
     simp only at hy
     rw[htk,List.mem_append,List.mem_singleton]at hy
     rcases hy with hy|rfl
     ·exact hg y hy
     ·exact ⟨.inl rfl,hr⟩
    ·rw[hSt];refine kX [0,1,2] [] ?_
     simp only[aR,seval,kA,kB,kC,kO,List.cons_append,List.nil_append]<;>((repeat' apply And.intro)<;>first|rfl|omega|trivial)
   ·rcases Bool.eq_false_or_eq_true (gN l par).dir with hdd|hdd
    case inr =>
     simp only[aR,seval,kA,kB,hp,e1,nA,hdd,kFK]
     (repeat (with_reducible refine And.intro ?_ ?_;focus (first|omega|exact kE|kernel_rfl)))
     refine kQ [] [] [] [] (.tup [.v (.pointer none),.v (.int .i64 1)]) (fin fun S=>by
      rcases S.par _ hmem with h5|h5
      ·exact hp h5
      ·simp only at h5;rw[hdd]at h5;cases h5.2) ?_
     simp only[aR,seval,kA,kB,kC]<;>((repeat' apply And.intro)<;>first|rfl|omega|trivial)
    simp only[aR,seval,kA,kB,hp,e1,nA,hdd,kFK]
    (repeat (with_reducible refine And.intro ?_ ?_;focus (first|omega|exact kE|kernel_rfl)))
    refine vq_root (by simp[kH,kZ]) (s:=s) (o:=0) (ob:=1) (by rw[hs];omega) (by simp[qB,upd]) ?_
    rw[hs]
    rcases Bool.eq_false_or_eq_true (jS l l.length id) with hr|hr
    case inr =>
     simp only[aR,seval,kA,kB,hr]
     (repeat (with_reducible refine And.intro ?_ ?_;focus (first|omega|exact kE|kernel_rfl)))
     refine kQ [] [] [] [] (.tup [.v (.pointer none),.v (.int .i64 1)]) (fin fun S=>by
      have:=(kD9 S _).2 (kDT S (.inr (kCg hmem)))
      simp only at this
      rw[hr]at this;cases this) ?_
     simp only[aR,seval,kA,kB,kC]<;>((repeat' apply And.intro)<;>first|rfl|omega|trivial)
    have q1:lookS Tryz.prog 82 (.agg #[.int .i64 0,.int .i64 par,sv nm,.bool false,sv []]) m.es false=some (.v (.int .i64 (cntK (par,nm) m.ps))):=look_nm m.h (par,nm)
    obtain ⟨es',cl',ix,n1,n2,n3⟩:=ent_nm m.h (par,nm)
    simp only[aR,seval,kA,kB,hr,q1]
    (repeat (with_reducible refine And.intro ?_ ?_;focus (first|omega|exact kE|kernel_rfl)))
    refine ⟨m.es,m.cl,.map es' cl',_,rfl,n1,steady_nm (m:=m) (p:=(par,nm)) rfl n2,?_⟩
    simp only[aR,seval,kA,kB,hr]
    (repeat (with_reducible refine And.intro ?_ ?_;focus (first|omega|exact kE|kernel_rfl)))
    refine ⟨es',cl',ix,rfl,(put_nm n2 n3 (IntKind.wrap .i64 (cntK (par,nm) m.ps+1))).1,?_⟩
    simp only[aR,seval,kA,kB,hr,kD (n:=(i:Int)+1) (by omega) (by omega)]
    (repeat (with_reducible refine And.intro ?_ ?_;focus (first|omega|exact kE|kernel_rfl)))
    refine kN ⟨(i+1,⟨_,_,_,(put_nm n2 n3 (IntKind.wrap .i64 (cntK (par,nm) m.ps+1))).2⟩),by simp only;omega,?_,ni_step hni htk (x:=⟨id,par,nm,dir,tx⟩) n3⟩ (by simp only;omega) ?_
    ·intro y hy
     simp only at hy
     rw[htk,List.mem_append,List.mem_singleton]at hy
     rcases hy with hy|rfl
     ·exact hg y hy
     ·exact ⟨.inr hdd,hr⟩
    ·rw[hSt];refine kX [0,1,2] [] ?_
     simp only[aR,seval,kA,kB,kC,kO,List.cons_append,List.nil_append]<;>((repeat' apply And.intro)<;>first|rfl|omega|trivial)
  ·have hi2:i=l.length:=by omega
   subst hi2
   have fin:¬ sndN l→tloadCon.post ⟨l,hl,ht⟩ [] [] (.tup [.v (.pointer none),.v (.int .i64 1)]):=fun hn=>⟨rfl,.inr ⟨hn,rfl,rfl⟩⟩
   have hsz:=size_nm m.h
   unfold NI at hni
   rw[List.take_length]at hg hni
   simp only[aR,seval,kA,kB,kC,h2,kO,hsz]
   (repeat (with_reducible refine And.intro ?_ ?_;focus (first|omega|exact kE|kernel_rfl)))
   by_cases c1:(m.ps.length:Int) < l.length
   ·simp only[aR,seval,kA,kB,c1]
    (repeat (with_reducible refine And.intro ?_ ?_;focus (first|omega|exact kE|kernel_rfl)))
    refine kQ [] [] [] [] (.tup [.v (.pointer none),.v (.int .i64 1)]) (fin fun S=>by
     rcases hni.2 with h5|h5
     ·omega
     ·exact h5.2 (snd_keys S)) ?_
    simp only[aR,seval,kA,kB,kC]<;>((repeat' apply And.intro)<;>first|rfl|omega|trivial)
   by_cases c2:(l.length:Int) > 100
   ·simp only[aR,seval,kA,kB,c1,c2,kO]
    (repeat (with_reducible refine And.intro ?_ ?_;focus (first|omega|exact kE|kernel_rfl)))
    refine kQ [] [] [] [] (.tup [.v (.pointer none),.v (.int .i64 1)]) (fin fun S=>by have:=S.len;omega) ?_
    simp only[aR,seval,kA,kB,kC]<;>((repeat' apply And.intro)<;>first|rfl|omega|trivial)
   simp only[aR,seval,kA,kB,c1,c2,kO]
   (repeat (with_reducible refine And.intro ?_ ?_;focus (first|omega|exact kE|kernel_rfl)))
   have htl:=tot_le (l:=l) fun x hx=>(hok2 x hx).cnt
   refine call_tall (s:=s) (o:=0) (ob:=1) (by simp[kH,kZ]) (by rw[hs];exact ⟨by omega,fun x hx=>by have:=(ht x hx).2;omega⟩) (by simp[qB,upd]) ?_
   rw[hs]
   by_cases c3:(totN l:Int) > 10000
   ·simp only[aR,seval,kA,kB,c3]
    (repeat (with_reducible refine And.intro ?_ ?_;focus (first|omega|exact kE|kernel_rfl)))
    refine kQ [] [] [] [] (.tup [.v (.pointer none),.v (.int .i64 1)]) (fin fun S=>by have:=S.tot;omega) ?_
    simp only[aR,seval,kA,kB,kC]<;>((repeat' apply And.intro)<;>first|rfl|omega|trivial)
   simp only[aR,seval,kA,kB,c3]
   (repeat (with_reducible refine And.intro ?_ ?_;focus (first|omega|exact kE|kernel_rfl)))
   have hnd:(l.map kOf).Nodup:=by
    rcases hni.2 with h5|h5
    ·exact h5.2
    ·omega
   have hS:sndN l:=load_snd hsr (by omega) hok2 (by omega) hnd hg
   refine kQ [0,1] [] (tsO (some s)) [] (.tup [.ptr 0 0,.v (.int .i64 0)]) ⟨rfl,.inl ⟨hS,s,hs,rfl,rfl⟩⟩ ?_
   simp only[aR,seval,kA,kB,kC]<;>((repeat' apply And.intro)<;>first|rfl|omega|trivial)
end Go.Proofs
end
-- ETr31
section
namespace Go.Proofs
open Go Go.Rw
set_option maxRecDepth 100000
section
variable {Γ:Env} {n:Nat} {t:Nat→AV} {hd:Nat→Nat→AV} {d:Option Nat} {K:AS→Prop} {nh nl:Nat} {h:Nat→Option AO} {fm:Nat→Nat} {lv:Nat→Option (Nat×Nat)} {mu:Bool}
end
end Go.Proofs
end
-- EUk9s
section
namespace Go.Proofs
open Go Go.Rw
set_option maxRecDepth 100000
end Go.Proofs
end
-- EUn7
section
namespace Go.Proofs
open Go Go.Rw
set_option maxRecDepth 100000
end Go.Proofs
end
-- EUk10
section
namespace Go.Proofs
open Go Go.Rw
set_option maxRecDepth 100000
end Go.Proofs
end
-- ETr16
section
namespace Go.Proofs
open Go Go.Rw
set_option maxRecDepth 100000
def smallB (t:List Nd) (l:List Ac):Bool:=decide (nF 4000 0 t≤4000∧wF 4000 0 (wA l)≤4000∧l.length≤60)
end Go.Proofs
end
-- ETr32
section
namespace Go.Proofs
open Go Go.Rw
set_option maxRecDepth 100000
section
variable {Γ:Env} {n:Nat} {t:Nat→AV} {hd:Nat→Nat→AV} {d:Option Nat} {K:AS→Prop} {nh nl:Nat} {h:Nat→Option AO} {fm:Nat→Nat} {lv:Nat→Option (Nat×Nat)} {mu:Bool}
end
end Go.Proofs
end
-- ETr17
section
namespace Go.Proofs
open Go Go.Rw
set_option maxRecDepth 100000
end Go.Proofs
end
-- ETr18
section
namespace Go.Proofs
open Go Go.Rw
open _root_.Nat renaming reduceAdd → N0, reduceSub → N1, reduceMul → N2, reduceLT → N3, reduceLeDiff → N4, reduceEqDiff → N5
open _root_.Int renaming reduceNeg → Z0, reduceAdd → Z1, reduceSub → Z2, reduceMul → Z3, reduceGT → Z4, reduceGE → Z5, reduceLT → Z6, reduceLE → Z7, reduceEq → Z8, reduceNe → Z9, reduceToNat → Z10, cast_ofNat_Int → Zc
set_option maxRecDepth 100000
structure chkN (l:List Nd) (x:Nd):Prop where
 id:1≤x.id∧x.id≤1099511627776
 nm:qA x.nm=true
 kid:kid x.par x.nm l=x.id
 dir:x.dir=true→x.text=[]
 valid:(pts x.text).isSome=true
 cnt:cnt x.text≤2000
 par:x.par=0∨(ndx x.par l < l.length∧(l.getD (ndx x.par l) kAv).dir=true∧kAG l x.par x.id=false)
end Go.Proofs
end
-- ETr23
section
namespace Go.Proofs
open Go Go.Rw
set_option maxRecDepth 100000
section
variable {Γ:Env} {n:Nat} {t:Nat→AV} {hd:Nat→Nat→AV} {d:Option Nat} {K:AS→Prop}
variable {nh nl:Nat} {h:Nat→Option AO} {fm:Nat→Nat} {lv:Nat→Option (Nat×Nat)} {mu:Bool}
end
end Go.Proofs
end
-- ETr33
section
namespace Go.Proofs
open Go Go.Rw
set_option maxRecDepth 100000
abbrev small13Con:Con where
 ι:=GivenN×GivenA
 args:=fun p=>[.sl 0 5 (k6 p.1.1),.sl 0 6 (acts p.2.1)]
 post:=fun p r=>r = .v (.bool (smallB p.1.1 p.2.1))
 plain:=true
theorem small13_good:Rw.Good Tryz.prog 13 small13Con:=by
 have hΓ:kM Tryz.prog [(49,kC3),(50,actsCon)]:=(kI wnodes_good (kI acts_good kJ))
 refine k8 (nn:=18) hΓ Tryz.func13 (by kernel_rfl) rfl (show Tryz.f13.results.toList=[.tmp 4] from rfl) (fun _=>rfl) (fun x=>by simp[AV.erL,AV.er,kDl,acts_er]) ?_
 rintro ⟨⟨t,ht,htc⟩,⟨l,hl,hlc⟩⟩
 simp only[aR,seval]
 refine call_wnodes (by simp[kH]) rfl ht htc (by omega) ?_
 by_cases h1:nF 4000 0 t≤4000
 case neg=>simp only[aR,seval,h1,smallB,false_and]
 simp only[aR,seval,h1]
 refine call_acts (by simp[kH]) rfl hl hlc (by omega) ?_
 by_cases h2:wF 4000 0 (wA l)≤4000
 case neg=>simp only[aR,seval,h1,h2,smallB,false_and,true_and]
 simp only[aR,seval,h1,h2,kDn]
 unfold smallB
 exact decide_eq_decide.2 ⟨fun h=>⟨h1,h2,by omega⟩,fun h=>by omega⟩
section
variable {Γ:Env} {n:Nat} {t:Nat→AV} {hd:Nat→Nat→AV} {d:Option Nat} {K:AS→Prop} {nh nl:Nat} {h:Nat→Option AO} {fm:Nat→Nat} {lv:Nat→Option (Nat×Nat)} {mu:Bool}
theorem call_tload0 (hC:Γ.get 15=none) {l:List Nd} (hl:l.length≤1000000) (ht:∀ x∈l,x.nm.length≤1099511627776∧x.text.length≤1099511627776) {lt:Nat} (hS:¬ sndN l)
    (hk2:cont ⟨n,t,hd,⟨nh,h,nl,fm,kill fm (AV.tagsL [.sl lt 5 (k6 l)]) lv,mu⟩⟩ d (.tup [.v (.pointer none),.v (.int .i64 1)]) K):kS Tryz.prog Γ false ⟨n,t,hd,⟨nh,h,nl,fm,lv,mu⟩⟩ 15 [.sl lt 5 (k6 l)] d K:=by
 refine vcCall_objK tload_good hC ⟨l,hl,ht⟩ [] ⟨by simp,by simp[dnL,dn],by simp[dnOs]⟩ ?_
 rintro objs lvs r ⟨rfl,hp⟩ hll
 rcases hp with ⟨h1,_⟩|⟨_,rfl,rfl⟩
 ·exact absurd h1 hS
 ·show cont ⟨n,t,hd,AM.call ⟨nh,h,nl,fm,kill fm (AV.tagsL [.sl lt 5 (k6 l)]++jM h []) lv,mu⟩ [] [] []⟩ d _ K
  rw[AMcall_eq]
  simp only[kB0,List.append_nil,kET,kEh,kES,kEV,emb_tup,kEZ,embL_nil,emb_v,List.length_nil,Nat.add_zero,Nat.sub_zero]
  exact hk2
theorem kCH (hC:Γ.get 18=none) {s:TS} {a:Ac} (S:sndN s.l) (ho:okA a) {o ob:Nat} (hT:qB h o ob s) {x:AV} (hx:dn [o,ob] x (aA a)) (ht:AV.tagsL [.ptr o 0,x]=[])
    (hk:∀ s':TS,s'.l=(doN s.l a).1→sndN s'.l→cont ⟨n,t,hd,⟨nh,upd h ob (some (.map s'.es s'.cl)),nl,fm,lv,mu⟩⟩ d (.v (.int .i64 (doN s.l a).2)) K):kS Tryz.prog Γ false ⟨n,t,hd,⟨nh,h,nl,fm,lv,mu⟩⟩ 18 [.ptr o 0,x] d K:=by
 refine kCN (s:=s) (q:=dotN s.l a) tdo_good hC ⟨(s,a),snd_doOk S ho⟩ rfl hT (by simp only[kDa,dnL_nil];exact ⟨by simp[dn],hx,trivial⟩) ht (fun _ _ _ hp=>hp) ?_
 rw[dot_eq S]
 exact fun s' hs=>hk s' hs (by rw[hs];exact snd_do S a)
end
def ax1:Ac:=⟨1,1,0,[97],false,[]⟩
def ax2:Ac:=⟨1,2,1,[98],false,[]⟩
def ax3:Ac:=⟨1,1,0,[99],false,[]⟩
def nx1:List Nd:=[⟨1,0,[97],false,[]⟩]
theorem ax_do:doN [] ax1=(nx1,0)∧doN nx1 ax2=(nx1,8)∧doN nx1 ax3=(nx1,6):=by decide +kernel
theorem ax_no:¬ sndN [⟨1,1,[97],true,[]⟩]:=fun S=>by
 obtain ⟨k,hk⟩:=S.rt _ (List.mem_singleton.2 rfl)
 have:∀ k,upN [⟨1,1,[97],true,[]⟩] k 1=1:=fun k=>by
  induction k with
  | zero=>rfl
  | succ k ih=>rw [up_succ,ih];decide
 have:=this k
 simp only at hk
 omega
theorem ax_ok (k id par:Int) (nm:List UInt8) (dir:Bool) (h:nm.length≤10):okA ⟨k,id,par,nm,dir,[]⟩:=⟨okL_nil,by simp only;omega⟩
set_option maxHeartbeats 2000000 in
theorem awake13_good:Rw.Good Tryz.prog 14 kD6:=by
 have hΓ:kM Tryz.prog [(30,kBt)]:=(kI kC1 kJ)
 refine good_fna (nn:=52) Tryz.func14 (by kernel_rfl) rfl (show Tryz.f14.results.toList=[.tmp 0] from rfl) (fun _=>rfl) (fun x=>by simp[AV.erL,AV.er]) ?_
 rintro ⟨⟩
 refine qQ hΓ (Ws:=[]) _ ?_
 obtain ⟨d1,d2,d3⟩:=ax_do
 simp only[aR,seval,kA,kB,]
 refine kE1 (by simp[kH,kZ]) ?_
 simp only[aR,seval,kA,kB,]
 (repeat (with_reducible refine And.intro ?_ ?_;focus (first|omega|exact kE|kernel_rfl)))
 refine kCH (s:=ts0) (a:=ax1) (o:=0) (ob:=1) (by simp[kH,kZ]) snd_nil (ax_ok _ _ _ _ _ (by decide)) (by simp[qB,upd,ts0]) (by simp[dn,dnL,aA,ax1,kBM]) (by simp[AV.tagsL,AV.tags]) ?_
 rw[show ts0.l=[] from rfl,d1]
 intro s1 hs1 S1
 simp only[aR,seval,kA,kB,]
 (repeat (with_reducible refine And.intro ?_ ?_;focus (first|omega|exact kE|kernel_rfl)))
 refine kCH (s:=s1) (a:=ax2) (o:=0) (ob:=1) (by simp[kH,kZ]) S1 (ax_ok _ _ _ _ _ (by decide)) (by simp[qB,upd]) (by simp[dn,dnL,aA,ax2,kBM]) (by simp[AV.tagsL,AV.tags]) ?_
 rw[hs1,d2]
 intro s2 hs2 S2
 simp only[aR,seval,kA,kB,]
 (repeat (with_reducible refine And.intro ?_ ?_;focus (first|omega|exact kE|kernel_rfl)))
 refine kCH (s:=s2) (a:=ax3) (o:=0) (ob:=1) (by simp[kH,kZ]) S2 (ax_ok _ _ _ _ _ (by decide)) (by simp[qB,upd]) (by simp[dn,dnL,aA,ax3,kBM]) (by simp[AV.tagsL,AV.tags]) ?_
 rw[hs2,d3]
 intro s3 hs3 S3
 simp only[aR,seval,kA,kB,]
 refine call_tload0 (l:=[⟨1,1,[97],true,[]⟩]) (lt:=2) (by simp[kH,kZ]) (by decide) (by simp) ax_no ?_
 simp only[aR,seval,kA,kB,]
 refine kBN (by simp[kH]) (by decide) ?_
 rw[show qA [97,46,98]=true from by decide]
 simp only[aR,seval,kA,kB,]
 (repeat (with_reducible refine And.intro ?_ ?_;focus (first|omega|exact kE|kernel_rfl)))
 refine kBN (by simp[kH]) (by decide) ?_
 rw[show qA [46,46]=false from by decide]
 simp only[aR,seval,kA,kB,]
 (repeat (with_reducible refine And.intro ?_ ?_;focus (first|omega|exact kE|kernel_rfl)))
 refine kAn (s:=s3) (o:=0) (ob:=1) (by simp[kH,kZ]) (snd_ok S3).1 (by simp[qB,upd]) ?_
 simp only[aR,seval,kA,kB,kO,hs3,nx1]
theorem kDV {Γ:Env} (hf:Γ.get 14=some kD6) {n:Nat} {t:Nat→AV} {hd:Nat→Nat→AV} {nh nl:Nat} {h:Nat→Option AO} {fm:Nat→Nat} {lv:Nat→Option (Nat×Nat)} {mu:Bool} {dr:Bool} {d:Option Nat} {K:AS→Prop}
    (hk:cont ⟨n,t,hd,⟨nh,h,nl,fm,lv,mu⟩⟩ d (.v (.bool true)) K):kS Tryz.prog Γ dr ⟨n,t,hd,⟨nh,h,nl,fm,lv,mu⟩⟩ 14 [] d K :=
 kEX (C:=kD6) (i:=()) (r:=.v (.bool true)) hf rfl rfl (by simp[AV.erL]) rfl (fun _ h=>h) (by simp only[AV.er];exact hk)
end Go.Proofs
end
-- ETr35
section
namespace Go.Proofs
open Go Go.Rw
set_option maxRecDepth 100000
theorem ups_more {l:List Nd}:∀ (k:Nat) (i:Int),upN l k i=0→ups l (k+1) i=ups l k i
 | 0,i,h=>by cases h;rfl
 | k+1,i,h=>by
   show (if i=0 then [] else (gN l i).nm::ups l (k+1) (pf l i))=(if i=0 then [] else (gN l i).nm::ups l k (pf l i))
   rw[ups_more k (pf l i) h]
theorem ups_node {l:List Nd} (S:sndN l) {x:Nd} (hx:x∈l):ups l l.length x.id=x.nm::ups l l.length x.par:=by
 obtain ⟨m,hm⟩:∃ m,l.length=m+1:=⟨l.length - 1,by have:=List.length_pos_of_mem hx;omega⟩
 have h0:=kDT S (.inr (kCg hx))
 have hid:=(S.node x hx).id.1
 have hp:pf l x.id=x.par:=by unfold pf;rw[gN_self S.srt hx]
 rw[hm]at h0 ⊢
 have h1:upN l m x.par=0:=by rw[← hp];exact h0
 rw[ups_more m x.par h1,ups,if_neg (by omega),gN_self S.srt hx,hp]
theorem join_snoc (nm:List UInt8):∀ {a:List (List UInt8)},a≠[]→Lib.join (a++[nm]) [47]=Lib.join a [47]++47::nm
 | [],h=>absurd rfl h
 | [x],_=>by simp [Lib.join_cons,Lib.joinTail]
 | x::y::a,_=>by
   have ih:=join_snoc nm (a:=y::a) (by simp)
   rw[List.cons_append,Lib.join_cons,Lib.join_cons]
   simp[Lib.joinTail]
theorem path_node {l:List Nd} (S:sndN l) {x:Nd} (hx:x∈l) (hp:inT l x.par):zG l x.id=(if zG l x.par=[] then [] else zG l x.par++[47])++x.nm:=by
 have hn:=kAR S l.length x.par hp
 unfold zG
 rw[ups_node S hx,List.reverse_cons]
 by_cases h:ups l l.length x.par=[]
 ·rw[h];simp[Lib.join_nil,Lib.join_one]
 ·have h2:(ups l l.length x.par).reverse≠[]:=by rwa [ne_eq,List.reverse_eq_nil_iff]
  have h3:=join_ne h2 fun z hz=>by
   have:=(kCo (hn z (List.mem_reverse.1 hz))).2
   intro hc;rw[hc]at this;simp at this
  rw[if_neg h3,join_snoc _ h2,List.append_assoc,List.singleton_append]
section
variable {l:List Nd} (S:sndN l)
include S
end
end Go.Proofs
end
-- ETr39
section
namespace Go.Proofs
open Go Go.Rw
set_option maxRecDepth 100000
def nmI (i:Int):List UInt8:=[(96+i).toNat.toUInt8]
def mk6 (n:Nat):List Nd:=(List.range n).map fun k:Nat=>⟨(k:Int)+1,0,nmI ((k:Int)+1),true,[]⟩
theorem mk_do:∀ i,i < 6→doN (mk6 i) ⟨1,(i:Int)+1,0,nmI ((i:Int)+1),true,[]⟩=(mk6 (i+1),0):=by decide +kernel
theorem mk_snd:∀ i,i≤6→sndN (mk6 i)
 | 0,_=>by rw [show mk6 0=[] from rfl];exact snd_nil
 | i+1,h=>by
   have:=snd_do (mk_snd i (by omega)) ⟨1,(i:Int)+1,0,nmI ((i:Int)+1),true,[]⟩
   rwa [mk_do i (by omega)]at this
theorem six {i:Int} (h:1≤i∧i≤6):i=1∨i=2∨i=3∨i=4∨i=5∨i=6:=by omega
theorem nmI_ok {i:Int} (h:1≤i∧i≤6):qA (nmI i)=true:=by
 rcases six h with rfl|rfl|rfl|rfl|rfl|rfl<;>decide
theorem nmI_inj {i j:Int} (h:1≤i∧i≤6) (h2:1≤j∧j≤6) (he:nmI i=nmI j):i=j:=by
 rcases six h with rfl|rfl|rfl|rfl|rfl|rfl<;>rcases six h2 with rfl|rfl|rfl|rfl|rfl|rfl<;>first|rfl|(exfalso;revert he;decide)
structure cyc (l:List Nd):Prop where
 snd:sndN l
 len:l.length=6
 all:∀ x∈l,(1≤x.id∧x.id≤6)∧x.nm=nmI x.id∧x.dir=true
 has:∀ i,1≤i→i≤6→hasN l i=true
theorem mk_cyc:cyc (mk6 6) where
 snd:=mk_snd 6 (by decide)
 len:=rfl
 all:=by decide +kernel
 has:=fun i h1 h2=>by rcases six ⟨h1,h2⟩ with rfl|rfl|rfl|rfl|rfl|rfl<;>decide +kernel
section
variable {l:List Nd} (C:cyc l)
include C
theorem kC0 {i:Int} (h:0≤i∧i≤6):inT l i:=by
 by_cases h0:i=0
 ·exact .inl h0
 ·exact .inr (C.has i (by omega) h.2)
theorem cyc_dir {i:Int} (h:0≤i∧i≤6):dirI l i=0:=by
 unfold dirI
 by_cases h0:i=0
 ·rw[if_pos h0]
 ·have hh:=C.has i (by omega) h.2
  rw[if_neg h0,if_pos hh,if_pos (C.all _ (jA hh).1).2.2]
theorem cyc_kid {i par:Int} (h:1≤i∧i≤6):kBe l par (nmI i) i=0:=by
 unfold kBe
 rw[if_neg]
 rintro ⟨h1,h2⟩
 have hpos:∀ x∈l,1≤x.id:=fun x hx=>(C.all x hx).1.1
 rcases kDm C.snd (par:=par) (nm:=nmI i) hpos with hk|hk
 ·omega
 ·obtain ⟨x,hx,_,h4,h5⟩:=kid_iff hpos hk rfl
  obtain ⟨h6,h7,_⟩:=C.all x hx
  exact h2 (by rw[← h5];exact nmI_inj h6 h (h7.symm.trans h4))
open Classical in
theorem cyc_mov {id tg:Int} (hi:1≤id∧id≤6) (ht:0≤tg∧tg≤6):cyc (doN l ⟨3,id,tg,nmI id,false,[]⟩).1∧(doN l ⟨3,id,tg,nmI id,false,[]⟩).2=if tg≠0∧kDX l tg id then 10 else 0:=by
 have hh:=C.has id hi.1 hi.2
 have hn:=(qH l id).1 hh
 have hp:jG l tg (nmI id) id=if tg≠0∧id > 0∧kAG l tg id=true then 10 else kBe l tg (nmI id) id:=kBO (cyc_dir C ht)
 rw[cyc_kid C hi]at hp
 have hw:=kAT C.snd (kC0 C ht) (show id≠0 by omega)
 have hp2:jG l tg (nmI id) id=if tg≠0∧kDX l tg id then 10 else 0:=by
  rw[hp]
  by_cases hc:tg≠0∧kDX l tg id
  ·rw[if_pos hc,if_pos ⟨hc.1,by omega,hw.2 hc.2⟩]
  ·rw[if_neg hc,if_neg (fun h=>hc ⟨h.1,hw.1 h.2.2⟩)]
 have hdo:=doN_k3 (l:=l) (a:=⟨3,id,tg,nmI id,false,[]⟩) rfl
 simp only at hdo
 rw[if_neg (by rw[nmI_ok hi];decide),if_neg (fun h=>h hn),hp2]at hdo
 by_cases hc:tg≠0∧kDX l tg id
 ·rw[if_pos hc]at hdo ⊢
  rw[if_pos (by decide)]at hdo
  rw[hdo]
  exact ⟨C,rfl⟩
 ·rw[if_neg hc]at hdo ⊢
  rw[if_neg (by decide)]at hdo
  obtain ⟨g1,g2⟩:=jA hh
  have hall:=C.all _ g1
  have S2:=snd_do C.snd ⟨3,id,tg,nmI id,false,[]⟩
  rw[hdo]at S2 ⊢
  simp only at S2 ⊢
  refine ⟨⟨S2,by rw[List.length_set];exact C.len,fun x hx=>?_,fun i h1 h2=>?_⟩,trivial⟩
  ·rcases List.mem_or_eq_of_mem_set hx with h|h
   ·exact C.all x h
   ·rw[h]
    refine ⟨hall.1,?_,hall.2.2⟩
    rw[g2]
  ·have h3:=C.has i h1 h2
   obtain ⟨h4,h5,h6⟩:=kAy h3
   rw[qH,kEA]
   by_cases he:ndx i l=ndx id l
   ·refine ⟨⟨(gN l id).id,tg,nmI id,(gN l id).dir,(gN l id).text⟩,List.mem_iff_getElem.2 ⟨ndx id l,by rw[List.length_set];exact hn,by rw[List.getElem_set_self]⟩,?_⟩
    simp only
    obtain ⟨q1,q2,q3⟩:=kAy hh
    have:l[ndx i l]=l[ndx id l]:=by simp only[he]
    rw[q2,← this,h6]
   ·exact ⟨l[ndx i l],List.mem_iff_getElem.2 ⟨ndx i l,by rw[List.length_set];exact h4,by rw[List.getElem_set_ne (Ne.symm he)]⟩,h6⟩
end
-- one path ahead of another
def pre (p q:List UInt8):Prop:=q=p∨∃ r,q=p++47::r
theorem cuts_app {r:List UInt8}:∀ {L:List (List UInt8)},L≠[]→(∀ x∈L,(47:UInt8) ∉ x)→jT 47 (Lib.join L [47]++47::r)=L++jT 47 r
 | [],h,_=>absurd rfl h
 | [x],_,h=>by rw [Lib.join_one,kDu (h x (List.mem_singleton.2 rfl))];rfl
 | x::y::L,_,h=>by
   have ih:=cuts_app (r:=r) (L:=y::L) (by simp) fun z hz=>h z (List.mem_cons_of_mem _ hz)
   have e:Lib.join (x::y::L) [47]++47::r=x++47::(Lib.join (y::L) [47]++47::r):=by simp[Lib.join_cons,Lib.joinTail]
   rw[e,kDu (h x (List.mem_cons_self ..)),ih];rfl
theorem ups_mem {l:List Nd}:∀ (k:Nat) (i:Int) (x:List UInt8),x∈ups l k i→∃ j,x=(gN l (upN l j i)).nm∧upN l j i≠0
 | 0,i,x,h=>by cases h
 | k+1,i,x,h=>by
   rw[ups]at h
   split at h
   ·cases h
   ·rename_i h0
    rcases List.mem_cons.1 h with rfl|h
    ·exact ⟨0,rfl,h0⟩
    ·obtain ⟨j,h1,h2⟩:=ups_mem k _ x h
     exact ⟨j+1,h1,h2⟩
section
variable {l:List Nd} (C:cyc l)
include C
theorem ups_ne {i:Int} (h:1≤i∧i≤6):ups l l.length i≠[]:=by rw[C.len];exact ups_nil C.snd (by omega)
theorem path_up {id:Int} (hi:1≤id∧id≤6):∀ (k:Nat) (tg:Int),inT l tg→upN l k tg=id→pre (zG l id) (zG l tg)
 | 0,tg,_,h=>by cases h;exact .inl rfl
 | k+1,tg,ht,h=>by
   by_cases h0:tg=id
   ·rw[h0];exact .inl rfl
   have hz:tg≠0:=by
    rintro rfl
    rw[kBE C.snd]at h;omega
   obtain ⟨g1,g2⟩:=jA (ht.resolve_left hz)
   have hp:inT l (gN l tg).par:=pf_in C.snd
   have ih:=path_up hi k (pf l tg) hp h
   have hpn:=path_node C.snd g1 hp
   rw[g2]at hpn
   have hne:zG l (gN l tg).par≠[]:=by
    intro hc
    have hpp:zG l id≠[]:=by
     refine join_ne (by rw[ne_eq,List.reverse_eq_nil_iff];exact ups_ne C hi) fun z hz=>?_
     have:=(kCo (kAR C.snd _ _ (kC0 C ⟨by omega,hi.2⟩) z (List.mem_reverse.1 hz))).2
     intro hc2;rw[hc2]at this;simp at this
    rcases ih with ih|⟨r,ih⟩
    ·exact hpp (ih.symm.trans hc)
    ·have:=ih.symm.trans hc
     simp at this
   rw[if_neg hne]at hpn
   rw[hpn]
   rcases ih with ih|⟨r,ih⟩
   ·exact .inr ⟨(gN l tg).nm,by rw[show zG l (gN l tg).par=zG l id from ih];simp⟩
   ·exact .inr ⟨r++47::(gN l tg).nm,by rw[show zG l (gN l tg).par=_ from ih];simp⟩
theorem pre_meets {id tg:Int} (hi:1≤id∧id≤6) (ht:0≤tg∧tg≤6):pre (zG l id) (zG l tg)↔kDX l tg id:=by
 constructor
 ·intro h
  have hin:=kC0 C (i:=id) ⟨by omega,hi.2⟩
  have hne:(ups l l.length id).reverse≠[]:=by rw[ne_eq,List.reverse_eq_nil_iff];exact ups_ne C hi
  have hsl:∀ i,inT l i→∀ x∈(ups l l.length i).reverse,(47:UInt8) ∉ x:=fun i hi x hx=>slash_no (kAR C.snd _ _ hi x (List.mem_reverse.1 hx))
  have hto:(ups l l.length tg).reverse≠[]:=by
   intro hc
   have hq:zG l tg=[]:=by unfold zG;rw[hc];rfl
   have hpp:zG l id≠[]:=by
    refine join_ne hne fun z hz=>?_
    have:=(kCo (kAR C.snd _ _ hin z (List.mem_reverse.1 hz))).2
    intro hc2;rw[hc2]at this;simp at this
   rcases h with h|⟨r,h⟩
   ·exact hpp (h.symm.trans hq)
   ·have:=h.symm.trans hq
    simp at this
  have c1:=kCU (c:=47) hto (hsl tg (kC0 C ht))
  have hmem:(gN l id).nm∈ups l l.length tg:=by
   rw[← List.mem_reverse,← c1]
   have h0:(gN l id).nm∈(ups l l.length id).reverse:=by
    rw[List.mem_reverse,C.len,ups,if_neg (by omega)]
    exact List.mem_cons_self ..
   rcases h with h|⟨r,h⟩
   ·rw[show Lib.join (ups l l.length tg).reverse [47]=zG l tg from rfl,h]
    rw[show jT 47 (zG l id)=_ from kCU (c:=47) hne (hsl id hin)]
    exact h0
   ·rw[show Lib.join (ups l l.length tg).reverse [47]=zG l tg from rfl,h]
    rw[show jT 47 (zG l id++47::r)=_ from cuts_app hne (hsl id hin)]
    exact List.mem_append_left _ h0
  obtain ⟨j,h1,h2⟩:=ups_mem _ _ _ hmem
  have hj:=(up_in C.snd (kC0 C ht) j).resolve_left h2
  obtain ⟨a1,a2⟩:=jA hj
  obtain ⟨b1,b2⟩:=jA (C.has id hi.1 hi.2)
  have c2:=C.all _ a1
  have c3:=C.all _ b1
  rw[c2.2.1,c3.2.1,a2,b2]at h1
  rw[a2]at c2
  exact ⟨j,(nmI_inj hi c2.1 h1).symm⟩
 ·rintro ⟨k,hk⟩
  exact path_up C hi k tg (kC0 C ht) hk
end
theorem pre_iff (p q:List UInt8):pre p q↔p.length≤q.length∧q.take p.length=p∧(q.length=p.length∨q[p.length]? = some 47):=by
 constructor
 ·rintro (rfl|⟨r,rfl⟩)
  ·exact ⟨Nat.le_refl _,List.take_length,.inl rfl⟩
  ·refine ⟨by simp,by simp,.inr (by simp)⟩
 ·rintro ⟨h1,h2,h3⟩
  have e:=List.take_append_drop p.length q
  rw[h2]at e
  by_cases h4:q.length=p.length
  ·left
   rw[List.drop_of_length_le (by omega),List.append_nil]at e
   exact e.symm
  ·have h5:=h3.resolve_left h4
   obtain ⟨h6,h7⟩:=List.getElem?_eq_some_iff.1 h5
   right
   rw[List.drop_eq_getElem_cons h6,h7]at e
   exact ⟨_,e.symm⟩
end Go.Proofs
end
-- ETr36
section
namespace Go.Proofs
open Go Go.Rw
set_option maxRecDepth 100000
theorem ints_getD3 {l:List Int} {i:Nat} (h:i < l.length):(ints .i64 l).getD i .any = .v (.int .i64 l[i]):=by simp[ints,List.getD_eq_getElem?_getD,h]
theorem kBB {l:List Int}:(ints .i64 l).length=l.length:=by simp[ints]
end Go.Proofs
end
-- ETr40
section
namespace Go.Proofs
open Go Go.Rw
set_option maxRecDepth 100000
theorem i64_rng (n:Int):-9223372036854775808≤IntKind.wrap .i64 n∧IntKind.wrap .i64 n≤9223372036854775807:=by
 simp only[IntKind.wrap,IntKind.bits,IntKind.signed,Bool.true_and]
 split<;>simp_all<;>omega
def kDW:List (List UInt8):=[[97],[98],[99],[100],[101],[102]]
theorem names6_at:∀ i:Nat,(h:i < 6)→kDW[i]'h=nmI ((i:Int)+1):=by decide +kernel
abbrev cycles13Con:Con where
 ι:={ l:List Int // l.length≤9223372036854775807∧∀ x∈l,-9223372036854775808≤x∧x≤9223372036854775807 }
 args:=fun p=>[.sl 0 1 (ints .i64 p.1)]
 post:=fun _ r=>r = .v (.bool true)
 plain:=true
set_option maxHeartbeats 4000000 in
theorem cycles13_good:Rw.Good Tryz.prog 6 cycles13Con:=by
 have hΓ:kM Tryz.prog [(14,kD6),(29,kDp)]:=(kI awake13_good (kI round_good kJ))
 refine good_fna (nn:=161) Tryz.func6 (by kernel_rfl) rfl (show Tryz.f6.results.toList=[.tmp 2] from rfl) (fun _=>rfl) (fun x=>by simp[AV.erL,AV.er]) ?_
 rintro ⟨l,hl,hb⟩
 refine qQ hΓ (Ws:=[]) _ ?_
 by_cases h0:(l.length:Int) > 60
 ·simp only[aR,seval,kA,kB,kBB,h0]
  refine kDV (by simp[kH]) ?_
  simp only[aR,seval,kA,kB,]
 simp only[aR,seval,kA,kB,kBB,h0]
 refine kE1 (by simp[kH,kZ]) ?_
 simp only[aR,seval,kA,kB,]
 (repeat (with_reducible refine And.intro ?_ ?_;focus (first|omega|exact kE|kernel_rfl)))
 obtain ⟨St,hSt⟩:∃ St:{ p:Nat×TS // p.1≤6∧p.2.l=mk6 p.1 }→AS,∀ p,St p=AS.ofH 161 [(0,.sl 0 1 (ints .i64 l)),(3,.ptr 0 0),(4,.sl 0 1 (zC kDW)),(5,.v (.int .i64 p.1.1))] [] (tsO (some p.1.2)) []:=⟨_,fun _=>rfl⟩
 refine kA3 ?_
 refine zK [] hΓ St (fun p=>6 - p.1.1) ⟨(0,ts0),by decide,rfl⟩ (by rw[hSt];refine kX [0,1] [] ?_;simp only[aR,seval,kA,kB,kC,ts0,zC,kDW,List.map_cons,List.map_nil]<;>((repeat' apply And.intro)<;>first|rfl|omega|trivial)) ?_
 rintro ⟨⟨i,s⟩,hi,hs⟩
 simp only at hi hs
 have S0:=mk_snd i hi
 rw[← hs]at S0
 rw[hSt]
 simp only
 simp only[aR,seval,kA,kB,kC]
 (with_reducible first|refine kF (fun h=>?_) (fun h=>?_)|refine kG (fun h=>?_) (fun h=>?_))
 ·have hlt:i < 6:=by omega
  have e1:=j8 (l:=kDW) (i:=i) hlt
  rw[names6_at i hlt]at e1
  have n6:(zC kDW).length=6:=rfl
  simp only[aR,seval,kA,kB,kC,h,e1,n6,kD (n:=(i:Int)+1) (by omega) (by omega)]
  (repeat (with_reducible refine And.intro ?_ ?_;focus (first|omega|exact kE|kernel_rfl)))
  refine kCH (s:=s) (a:=⟨1,(i:Int)+1,0,nmI ((i:Int)+1),true,[]⟩) (o:=0) (ob:=1) (by simp[kH,kZ]) S0 (ax_ok _ _ _ _ _ (by simp[nmI])) (by simp[qB,upd]) (by simp[dn,dnL,aA,kBM]) (by simp[AV.tagsL,AV.tags]) ?_
  have dm:=mk_do i hlt
  rw[← hs]at dm
  rw[dm]
  intro s1 hs1 S1
  simp only[aR,seval,kA,kB,kC,h,kD (n:=(i:Int)+1) (by omega) (by omega)]
  (repeat (with_reducible refine And.intro ?_ ?_;focus (first|omega|exact kE|kernel_rfl)))
  refine kN ⟨(i+1,s1),by simp only;omega,hs1⟩ (by simp only;omega) ?_
  rw[hSt];refine kX [0,1] [] ?_
  simp only[aR,seval,kA,kB,kC]<;>((repeat' apply And.intro)<;>first|rfl|omega|trivial)
 have hi6:i=6:=by omega
 subst hi6
 have C0:=mk_cyc
 rw[← hs]at C0
 simp only[aR,seval,kA,kB,kC,h]
 obtain ⟨S2,hS2⟩:∃ St:{ p:Nat×TS // p.1≤l.length∧cyc p.2.l }→AS,∀ p,St p=AS.ofH 161 [(0,.sl 0 1 (ints .i64 l)),(3,.ptr 0 0),(4,.sl 0 1 (zC kDW)),(6,.v (.int .i64 p.1.1))] [] (tsO (some p.1.2)) []:=⟨_,fun _=>rfl⟩
 refine kA3 ?_
 refine zK [] hΓ S2 (fun p=>l.length - p.1.1) ⟨(0,s),by simp,C0⟩ (by rw[hS2];refine kX [0,1] [] ?_;simp only[aR,seval,kA,kB,kC]<;>((repeat' apply And.intro)<;>first|rfl|omega|trivial)) ?_
 clear h S0 C0 hs hi
 clear s
 rintro ⟨⟨i,s⟩,hi,C⟩
 simp only at hi C
 have hS:=C.snd
 rw[hS2]
 simp only
 simp only[aR,seval,kA,kB,kC,kBB]
 (with_reducible first|refine kF (fun h=>?_) (fun h=>?_)|refine kG (fun h=>?_) (fun h=>?_))
 ·have hlt:i < l.length:=by omega
  have e1:=ints_getD3 hlt
  have hbx:=hb _ (List.getElem_mem hlt)
  generalize l[i]=x at *
  simp only[aR,seval,kA,kB,kC,h,e1,kBB]
  (repeat (with_reducible refine And.intro ?_ ?_;focus (first|omega|exact kE|kernel_rfl)))
  refine kFT (by simp[kH]) hbx (by omega) ?_
  simp only[aR,seval,kA,kB,kC,h,e1,kBB]
  (repeat (with_reducible refine And.intro ?_ ?_;focus (first|omega|exact kE|kernel_rfl)))
  have hw:=i64_rng (x.tdiv 6)
  generalize IntKind.wrap .i64 (x.tdiv 6)=y at *
  refine kFT (by simp[kH]) hw (by omega) ?_
  have m1:=Int.emod_nonneg x (show (6:Int)≠0 by decide)
  have m2:=Int.emod_lt_of_pos x (show (0:Int) < 6 by decide)
  have m3:=Int.emod_nonneg y (show (7:Int)≠0 by decide)
  have m4:=Int.emod_lt_of_pos y (show (0:Int) < 7 by decide)
  obtain ⟨id,hid⟩:∃ id,1+x % 6=id:=⟨_,rfl⟩
  obtain ⟨tg,htg⟩:∃ tg,y % 7=tg:=⟨_,rfl⟩
  have w1:IntKind.wrap .i64 (1+x % 6)=id:=by rw[kD (by omega) (by omega)];exact hid
  have hi6:1≤id∧id≤6:=by omega
  have ht6:0≤tg∧tg≤6:=by omega
  have hinI:=kC0 C (i:=id) ⟨by omega,hi6.2⟩
  have hinT:=kC0 C ht6
  simp only[aR,seval,kA,kB,kC,w1,htg]
  (repeat (with_reducible refine And.intro ?_ ?_;focus (first|omega|exact kE|kernel_rfl)))
  refine kCt (s:=s) (o:=0) (ob:=1) (by simp[kH,kZ]) hS (by simp[qB,upd]) ?_
  rw[kBK hinI]
  simp only[aR,seval,kA,kB,kC]
  (repeat (with_reducible refine And.intro ?_ ?_;focus (first|omega|exact kE|kernel_rfl)))
  refine kCt (s:=s) (o:=0) (ob:=1) (by simp[kH,kZ]) hS (by simp[qB,upd]) ?_
  rw[kBK hinT]
  obtain ⟨k,hk⟩:∃ k:Nat,id=(k:Int)+1:=⟨(id - 1).toNat,by omega⟩
  have hk6:k < 6:=by omega
  have e2:=j8 (l:=kDW) (i:=k) hk6
  rw[names6_at k hk6,← hk]at e2
  have n6:(zC kDW).length=6:=rfl
  simp only[aR,seval,kA,kB,kC,e2,n6,show id - 1=(k:Int) by omega,kD (n:=(k:Int)) (by omega) (by omega)]
  (repeat (with_reducible refine And.intro ?_ ?_;focus (first|omega|exact kE|kernel_rfl)))
  refine kCH (s:=s) (a:=⟨3,id,tg,nmI id,false,[]⟩) (o:=0) (ob:=1) (by simp[kH,kZ]) hS (ax_ok _ _ _ _ _ (by simp[nmI])) (by simp[qB,upd]) (by simp[dn,dnL,aA,kBM]) (by simp[AV.tagsL,AV.tags]) ?_
  obtain ⟨hC2,hr⟩:=cyc_mov C hi6 ht6
  have hpm:=pre_meets C hi6 ht6
  rw[pre_iff]at hpm
  intro s1 hs1 S1
  rw[← hs1]at hC2
  rw[hr]
  have hplI:=path_len hS id hinI
  have hplT:=path_len hS tg hinT
  generalize zG s.l id=p at *
  generalize zG s.l tg=q at *
  by_cases hm:kDX s.l tg id
  ·have ht0:¬ tg=0:=by
     rintro rfl
     obtain ⟨k,hk⟩:=hm
     rw[kBE hS]at hk
     omega
   rw[if_pos ⟨ht0,hm⟩]
   obtain ⟨c1,c2,c3⟩:=hpm.2 hm
   by_cases c4:q.length=p.length
   ·simp only[aR,seval,kA,kB,kC,show ((q.length:Int) ≥ p.length)=True from eq_true (by omega),Nat.sub_zero]
    (repeat (with_reducible refine And.intro ?_ ?_;focus (first|omega|exact kE|kernel_rfl)))
    simp only[aR,seval,kA,kB,kC,c2,c4,ht0,bne_self_eq_false,kD (n:=(i:Int)+1) (by omega) (by omega)]
    (repeat (with_reducible refine And.intro ?_ ?_;focus (first|omega|exact kE|kernel_rfl)))
    refine kN ⟨(i+1,s1),by simp only;omega,hC2⟩ (by simp only;omega) ?_
    rw[hS2];refine kX [0,1] [] ?_
    simp only[aR,seval,kA,kB,kC]<;>((repeat' apply And.intro)<;>first|rfl|omega|trivial)
   ·obtain ⟨c5,c6⟩:=List.getElem?_eq_some_iff.1 (c3.resolve_left c4)
    simp only[aR,seval,kA,kB,kC,show ((q.length:Int) ≥ p.length)=True from eq_true (by omega),Nat.sub_zero]
    (repeat (with_reducible refine And.intro ?_ ?_;focus (first|omega|exact kE|kernel_rfl)))
    have c7:((q.getD p.length 0).toNat:Int)=47:=by rw[List.getD_eq_getElem?_getD,List.getElem?_eq_getElem c5,c6];rfl
    simp only[aR,seval,kA,kB,kC,c2,show ((q.length:Int)=p.length)=False from eq_false (by omega),c7]
    (repeat (with_reducible refine And.intro ?_ ?_;focus (first|omega|exact kE|kernel_rfl)))
    simp only[aR,seval,kA,kB,kC,ht0,c7,bne_self_eq_false,kD (n:=(i:Int)+1) (by omega) (by omega)]
    (repeat (with_reducible refine And.intro ?_ ?_;focus (first|omega|exact kE|kernel_rfl)))
    refine kN ⟨(i+1,s1),by simp only;omega,hC2⟩ (by simp only;omega) ?_
    rw[hS2];refine kX [0,1] [] ?_
    simp only[aR,seval,kA,kB,kC]<;>((repeat' apply And.intro)<;>first|rfl|omega|trivial)
  ·rw[if_neg (fun hc=>hm hc.2)]
   have hnp:=fun hc=>hm (hpm.1 hc)
   by_cases c1:p.length≤q.length
   ·simp only[aR,seval,kA,kB,kC,show ((q.length:Int) ≥ p.length)=True from eq_true (by omega),Nat.sub_zero]
    (repeat (with_reducible refine And.intro ?_ ?_;focus (first|omega|exact kE|kernel_rfl)))
    by_cases c2:q.take p.length=p
    ·have c4:q.length≠p.length:=fun hc=>hnp ⟨c1,c2,.inl hc⟩
     have c7:¬ ((q.getD p.length 0).toNat:Int)=47:=fun hc=>by
      refine hnp ⟨c1,c2,.inr ?_⟩
      have c5:p.length < q.length:=by omega
      rw[List.getD_eq_getElem?_getD,List.getElem?_eq_getElem c5]at hc
      rw[List.getElem?_eq_getElem c5]
      simp only[Option.getD_some]at hc
      congr 1
      exact UInt8.toNat_inj.1 (by simpa using (by omega:q[p.length].toNat=47))
     simp only[aR,seval,kA,kB,kC,c2,show ((q.length:Int)=p.length)=False from eq_false (by omega),c7]
     (repeat (with_reducible refine And.intro ?_ ?_;focus (first|omega|exact kE|kernel_rfl)))
     by_cases ht0:tg=0
     ·simp only[aR,seval,kA,kB,kC,ht0,c7,bne_self_eq_false,kD (n:=(i:Int)+1) (by omega) (by omega)]
      (repeat (with_reducible refine And.intro ?_ ?_;focus (first|omega|exact kE|kernel_rfl)))
      refine kN ⟨(i+1,s1),by simp only;omega,hC2⟩ (by simp only;omega) ?_
      rw[hS2];refine kX [0,1] [] ?_
      simp only[aR,seval,kA,kB,kC]<;>((repeat' apply And.intro)<;>first|rfl|omega|trivial)
     ·simp only[aR,seval,kA,kB,kC,ht0,c7,bne_self_eq_false,kD (n:=(i:Int)+1) (by omega) (by omega)]
      (repeat (with_reducible refine And.intro ?_ ?_;focus (first|omega|exact kE|kernel_rfl)))
      refine kN ⟨(i+1,s1),by simp only;omega,hC2⟩ (by simp only;omega) ?_
      rw[hS2];refine kX [0,1] [] ?_
      simp only[aR,seval,kA,kB,kC]<;>((repeat' apply And.intro)<;>first|rfl|omega|trivial)
    ·by_cases ht0:tg=0
     ·simp only[aR,seval,kA,kB,kC,c2,ht0,bne_self_eq_false,kD (n:=(i:Int)+1) (by omega) (by omega)]
      (repeat (with_reducible refine And.intro ?_ ?_;focus (first|omega|exact kE|kernel_rfl)))
      refine kN ⟨(i+1,s1),by simp only;omega,hC2⟩ (by simp only;omega) ?_
      rw[hS2];refine kX [0,1] [] ?_
      simp only[aR,seval,kA,kB,kC]<;>((repeat' apply And.intro)<;>first|rfl|omega|trivial)
     ·simp only[aR,seval,kA,kB,kC,c2,ht0,bne_self_eq_false,kD (n:=(i:Int)+1) (by omega) (by omega)]
      (repeat (with_reducible refine And.intro ?_ ?_;focus (first|omega|exact kE|kernel_rfl)))
      refine kN ⟨(i+1,s1),by simp only;omega,hC2⟩ (by simp only;omega) ?_
      rw[hS2];refine kX [0,1] [] ?_
      simp only[aR,seval,kA,kB,kC]<;>((repeat' apply And.intro)<;>first|rfl|omega|trivial)
   ·by_cases ht0:tg=0
    ·simp only[aR,seval,kA,kB,kC,show ((q.length:Int) ≥ p.length)=False from eq_false (by omega),ht0,bne_self_eq_false,kD (n:=(i:Int)+1) (by omega) (by omega)]
     (repeat (with_reducible refine And.intro ?_ ?_;focus (first|omega|exact kE|kernel_rfl)))
     refine kN ⟨(i+1,s1),by simp only;omega,hC2⟩ (by simp only;omega) ?_
     rw[hS2];refine kX [0,1] [] ?_
     simp only[aR,seval,kA,kB,kC]<;>((repeat' apply And.intro)<;>first|rfl|omega|trivial)
    ·simp only[aR,seval,kA,kB,kC,show ((q.length:Int) ≥ p.length)=False from eq_false (by omega),ht0,bne_self_eq_false,kD (n:=(i:Int)+1) (by omega) (by omega)]
     (repeat (with_reducible refine And.intro ?_ ?_;focus (first|omega|exact kE|kernel_rfl)))
     refine kN ⟨(i+1,s1),by simp only;omega,hC2⟩ (by simp only;omega) ?_
     rw[hS2];refine kX [0,1] [] ?_
     simp only[aR,seval,kA,kB,kC]<;>((repeat' apply And.intro)<;>first|rfl|omega|trivial)
 ·simp only[aR,seval,kA,kB,kC,h]
  obtain ⟨S5,hS5⟩:∃ St:{ k:Nat // 1≤k∧k≤7 }→AS,∀ k,St k=AS.ofH 161 [(3,.ptr 0 0),(15,.v (.int .i64 k.1))] [] (tsO (some s)) []:=⟨_,fun _=>rfl⟩
  refine kA3 ?_
  refine zK [] hΓ S5 (fun k=>7 - k.1) ⟨1,by decide⟩ (by rw[hS5];refine kX [0,1] [] ?_;simp only[aR,seval,kA,kB,kC]<;>((repeat' apply And.intro)<;>first|rfl|omega|trivial)) ?_
  rintro ⟨k,hk1,hk7⟩
  rw[hS5]
  simp only
  simp only[aR,seval,kA,kB,kC]
  (with_reducible first|refine kF (fun h3=>?_) (fun h3=>?_)|refine kG (fun h3=>?_) (fun h3=>?_))
  ·have hin:=kC0 C (i:=(k:Int)) ⟨by omega,by omega⟩
   have hpl:=path_len hS k hin
   have hfp:=find_path hS hin
   simp only[aR,seval,kA,kB,kC,h3]
   refine kCt (s:=s) (o:=0) (ob:=1) (by simp[kH,kZ]) hS (by simp[qB,upd]) ?_
   rw[kBK hin]
   simp only[aR,seval,kA,kB,kC]
   (repeat (with_reducible refine And.intro ?_ ?_;focus (first|omega|exact kE|kernel_rfl)))
   refine call_tfind (s:=s) (o:=0) (ob:=1) (by simp[kH,kZ]) (snd_ok hS) (by omega) (by simp[qB,upd]) ?_
   rw[hfp,optR]
   simp only[aR,seval,kA,kB,kC,kD (n:=(k:Int)+1) (by omega) (by omega)]
   (repeat (with_reducible refine And.intro ?_ ?_;focus (first|omega|exact kE|kernel_rfl)))
   refine kN ⟨k+1,by omega,by omega⟩ (by simp only;omega) ?_
   rw[hS5];refine kX [0,1] [] ?_
   simp only[aR,seval,kA,kB,kC]<;>((repeat' apply And.intro)<;>first|rfl|omega|trivial)
  ·simp only[aR,seval,kA,kB,kC,h3]
   refine kAn (s:=s) (o:=0) (ob:=1) (by simp[kH,kZ]) (snd_ok hS).1 (by simp[qB,upd]) ?_
   simp only[aR,seval,kA,kB,kC,kO,C.len]
   (repeat (with_reducible refine And.intro ?_ ?_;focus (first|omega|exact kE|kernel_rfl)))
   refine kDV (by simp[kH]) ?_
   simp only[aR,seval,kA,kB,]
end Go.Proofs
end
-- EUr1
section
namespace Go.Proofs.YtfhipjafkdembaaGreatDoor
open Go Go.ChangeShapes Go.WideShapes Go.ChangeAt Go.RowKit Go.Rw Go.Lib
open Go.ChangeMaps (open_string shut_string)
set_option maxRecDepth 100000
theorem own:ownKnob Tryz.prog.godebug=none:=by kernel_rfl
theorem laidOut:laidOutB Tryz.prog=true:=by kernel_rfl
noncomputable def kCF (os:Os):World :=
 let w0:=World.holding Tryz.prog os ⟨#[],#[],[]⟩
 let put (h:Array Obj) (g:Nat) (cs:Array Value):Array Obj:=h.modify g fun
  | .cells _ t frozen=>.cells cs t frozen
  | o=>o
 let h1:=put w0.heap 0 (Lib.firstTab.map fun z=>Value.int .u8 z).toArray
 let h2:=put h1 1 ((List.range 16).flatMap fun i=>[Value.int .u8 (Lib.accLo i),Value.int .u8 (Lib.accHi i)]).toArray
 { w0 with heap:=h2 }
abbrev laidL : List (String × DataW Unit) := [("unicode/utf8.acceptRanges", Lib.acceptData), ("unicode/utf8.first", Lib.firstData)]
theorem laid_met (os:Os) (args:Array Value):laidMet Tryz.prog laidL ((kCF os).forCall (fun _ _=>0) ⟨#[],args,[]⟩).memory :=
 (LaidIn.of_run (l:=laidL) [1,0] 8 (by kernel_rfl) (by kernel_rfl) (by kernel_rfl) (by kernel_rfl)).met
theorem tabs_of {W:World} (hL:laidMet Tryz.prog laidL W):TabOk W (kW none):=by
 have htab:Lib.Utf8Tabs 0 1 W :=
  utf8Tabs_of_readsT (U8Types.of196 Tryz.lays196) ⟨by kernel_rfl,by kernel_rfl,by kernel_rfl,by kernel_rfl,by kernel_rfl,by kernel_rfl,by kernel_rfl⟩ (Lib.laidMet.reads hL (.tail _ (.head _))) (Lib.laidMet.reads hL (.head _))
 refine ⟨htab,fun g hg=>⟨?_,by rintro ⟨k,hk,_⟩;cases hk⟩⟩
 have key:∀ g i v,W.cell? ⟨g,i,none⟩=some v→g < W.heap.size:=fun g i v h=>Fw_lt (Nat.lt_of_le_of_lt (Nat.zero_le i) (Fw_cell h))
 rcases hg with rfl|rfl
 ·exact key 0 _ _ (htab.1 0 (by omega))
 ·exact key 1 _ _ (htab.2 0 (by omega)).1
theorem i64_wf {n:Int} (h:(Lit.int .i64 n).wf=true):-9223372036854775808≤n∧n≤9223372036854775807:=by
 simp[Lit.wf,IntKind.min,IntKind.max,IntKind.signed,IntKind.bits]at h;omega
end Go.Proofs.YtfhipjafkdembaaGreatDoor
end
