/-
 A tree of k6: what Load takes is what is qW. Is a tree qW. Whose k6 a transaction touches. What the document fixes of rebase. RebaseApart answers true. law14: small;TxnAsks answers true. TxnAsks answers true. Is a tree qW: just so. TxnDoes answers true. Two transactions one behind the other;what a transaction does not touch. Plain. Trees held against each other;TxnTwo answers true. TxnApart answers true. Acts,and what was done,given: opened. A transaction behind commits. How much a message is,where it bears commits alone. A tree given,commits given: opened.
-/
import Derived.Test.YtfhipjafkdembaaGreatDoorXETr11
import Derived.Test.YtfhipjafkdembaaGreatDoorXEAw0
import Derived.Test.YtfhipjafkdembaaGreatDoorXESh
import Derived.Test.YtfhipjafkdembaaGreatDoorRwI
set_option linter.unusedSimpArgs false
set_option linter.unusedVariables false
set_option linter.defProp false
set_option linter.unusedSectionVars false

-- ETr22
section
namespace Go.Proofs
open Go Go.Rw
set_option maxRecDepth 100000
theorem set_end {x:Nd}:∀ {m:List Nd},(∀ y∈m,y.id < x.id)→setT x m=m++[x]:=fun {m} h=>by
 have h1:hasN m x.id=false:=by
  rcases Bool.eq_false_or_eq_true (hasN m x.id) with hh|hh
  ·obtain ⟨h2,h3⟩:=kBS hh
   have:=h _ h2
   omega
  ·exact hh
 have h2:∀ {m:List Nd},(∀ y∈m,y.id < x.id)→atN x.id m=m.length:=fun {m}=>by
  induction m with
  | nil=>intro _;rfl
  | cons y m ih =>
    intro h
    rw[atN,if_pos (h y (List.mem_cons_self ..)),ih fun z hz=>h z (List.mem_cons_of_mem _ hz)];rfl
 unfold setT
 rw[h1,if_neg (by decide),h2 h,List.take_length,List.drop_length]
abbrev Ld1 (l:List Nd):={ p:Nat×TS×Int // p.1≤l.length∧p.2.1.l=l.take p.1∧(∀ x∈l.take p.1,okNd x∧x.id≤p.2.2)∧(0≤p.2.2∧p.2.2≤1099511627776)∧(p.2.2=0∨∃ x∈l.take p.1,x.id=p.2.2) }
def kOf (x:Nd):Ky:=(x.par,x.nm)
structure NS where
 es:Array MapEntry
 cl:Nat
 ps:List (Ky×Int)
 h:NM es cl ps
def NI (l:List Nd) (i:Nat) (ps:List (Ky×Int)):Prop:=(∀ k,k∈ps.map Prod.fst↔k∈(l.take i).map kOf)∧((ps.length=i∧((l.take i).map kOf).Nodup)∨(ps.length < i∧¬ ((l.take i).map kOf).Nodup))
def goodP (l:List Nd) (x:Nd):Prop:=(x.par=0∨(gN l x.par).dir=true)∧jZ l l.length x.id=true
abbrev Ld2 (l:List Nd):={ p:Nat×NS // p.1≤l.length∧(∀ x∈l.take p.1,goodP l x)∧NI l p.1 p.2.ps }
abbrev tloadCon:ConO where
 ι:={ l:List Nd // l.length≤1000000∧∀ x∈l,x.nm.length≤1099511627776∧x.text.length≤1099511627776 }
 objs:=fun _=>[]
 args:=fun p=>[.sl 0 5 (k6 p.1)]
 post:=fun p objs lvs r=>lvs=[]∧((sndN p.1∧∃ s:TS,s.l=p.1∧objs=tsO (some s)∧r = .tup [.ptr 0 0,.v (.int .i64 0)])∨(¬ sndN p.1∧objs=[]∧r = .tup [.v (.pointer none),.v (.int .i64 1)]))
theorem steady_nm {σ:AS} {ob:Nat} {m:NS} (hob:σ.m.h ob=some (.map m.es m.cl)) {p:Ky} {es':Array MapEntry} {cl':Nat} (h':NM es' cl' (layK p m.ps)) :
    kEh Tryz.prog σ ob (.map es' cl') 82 (.agg [.v (.int .i64 0),.v (.int .i64 p.1),.v (sv p.2),.v (.bool false),.v (sv [])]):=by
 intro r hr
 have hk:keyT Tryz.prog 82=none:=by kernel_rfl
 have tv:toV (.agg [.v (.int .i64 0),.v (.int .i64 p.1),.v (sv p.2),.v (.bool false),.v (sv [])])=some (kV p):=rfl
 have e:(σ.m.setObj ob (.map es' cl')).h ob=some (.map es' cl'):=qL ..
 unfold kBW at hr ⊢
 simp only[hk,tv,lookK,hob,e]at hr ⊢
 rw[look_nm m.h]at hr
 rw[look_nm h',cnt_lay]
 exact hr
theorem lay_keys (p:Ky) (ps:List (Ky×Int)):(layK p ps).map Prod.fst=if p∈ps.map Prod.fst then ps.map Prod.fst else ps.map Prod.fst++[p]:=by
 unfold layK
 cases hf:fndP p ps 0 with
 | none=>rw [if_neg (kDA hf).1];simp
 | some q =>
   obtain ⟨i,v⟩:=q
   obtain ⟨j,c,_,h2,_,_⟩:=kEC hf
   rw[if_pos (List.mem_map.2 ⟨_,List.mem_of_getElem? h2,rfl⟩)];rfl
theorem set_keys {p:Ky} {ps:List (Ky×Int)} {i:Nat} {c c':Int} (hi:ps[i]? = some (p,c)):(ps.set i (p,c')).map Prod.fst=ps.map Prod.fst:=by
 have hlt:=(List.getElem?_eq_some_iff.1 hi).1
 rw[List.map_set]
 apply List.ext_getElem?
 intro j
 rw[List.getElem?_set]
 split
 ·rename_i hj
  subst hj
  rw[List.getElem?_map,hi,List.length_map,if_pos hlt];rfl
 ·rfl
theorem ni_step {l:List Nd} {i:Nat} {ps:List (Ky×Int)} {x:Nd} (h:NI l i ps) (hx:l.take (i+1)=l.take i++[x]) {ix:Nat} {c c':Int} (hg:(layK (kOf x) ps)[ix]? = some (kOf x,c)):NI l (i+1) ((layK (kOf x) ps).set ix (kOf x,c')):=by
 obtain ⟨h1,h2⟩:=h
 have e:=lay_keys (kOf x) ps
 have e2:=set_keys (c':=c') hg
 have hlen:((layK (kOf x) ps).set ix (kOf x,c')).length=(layK (kOf x) ps).length:=List.length_set
 have hlk:(layK (kOf x) ps).length=((layK (kOf x) ps).map Prod.fst).length:=by rw[List.length_map]
 unfold NI
 rw[e2,hlen,hlk,e,hx,List.map_append]
 by_cases hm:kOf x∈ps.map Prod.fst
 ·rw[if_pos hm]
  refine ⟨fun k=>?_,.inr ⟨by rw[List.length_map];rcases h2 with h2|h2<;>omega,fun hn=>?_⟩⟩
  ·rw[h1,List.mem_append]
   simp only[List.map_cons,List.map_nil,List.mem_singleton]
   constructor
   ·exact .inl
   ·rintro (h|rfl)
    ·exact h
    ·exact (h1 _).1 hm
  ·rw[List.nodup_append]at hn
   exact hn.2.2 _ ((h1 _).1 hm) _ (by simp) rfl
 ·rw[if_neg hm]
  refine ⟨fun k=>?_,?_⟩
  ·rw[List.mem_append,h1,List.mem_append];simp
  ·rw[List.length_append,List.length_map]
   rcases h2 with ⟨h3,h4⟩|⟨h3,h4⟩
   ·refine .inl ⟨by simp;omega,?_⟩
    rw[List.nodup_append]
    refine ⟨h4,by simp,fun a ha b hb=>?_⟩
    simp only[List.map_cons,List.map_nil,List.mem_singleton]at hb
    subst hb
    rintro rfl
    exact hm ((h1 _).2 ha)
   ·refine .inr ⟨by simp;omega,fun hn=>h4 ?_⟩
    rw[List.nodup_append]at hn
    exact hn.1
theorem still_troot {m:AM} {s:TS} (hl:s.l.length≤1000000) {id:Int} {o ob:Nat} (hT:qK m.h o ob s):Still Tryz.prog m 52 [.ptr o 0,.v (.int .i64 id)] (.v (.bool (jZ s.l s.l.length id))):=by
 obtain ⟨h1,h2,h3⟩:=hT
 refine still_obj troot_good ⟨(s,id),hl⟩ [o,ob] (by simp[h3]) (by simp[dnL,dn]) ?_ rfl ?_ ?_ ?_
 ·simp only[tsO,kB1,kCt,h1,h2,kAm,kCa,kDE,kFA,dn_mp]
  simp
 ·simp[kAW,kAs,h1,h2,kFf,AO.tags,AV.tagsL,AV.tags]
 ·intro nh nl j o' x y ho hx hy
  match j,ho,hx with
  | 0,ho,hx=>cases ho;simp [tsO] at hx;subst hx;rw [h1] at hy;cases hy;rfl
  | 1,ho,hx=>cases ho;simp [tsO] at hx;subst hx;rw [h2] at hy;cases hy;rfl
  | j+2,ho,hx=>cases ho
 ·rintro objs lvs r ⟨h4,h5,h6⟩
  exact ⟨h4,h5,h6,rfl⟩
theorem vq_root {Γ:Env} {n:Nat} {t:Nat→AV} {hd:Nat→Nat→AV} {d:Option Nat} {K:AS→Prop} {nh nl:Nat} {h:Nat→Option AO} {fm:Nat→Nat} {lv:Nat→Option (Nat×Nat)} {mu:Bool} (hC:Γ.get 52=none) {s:TS} (hl:s.l.length≤1000000) {id:Int} {o ob:Nat} (hT:qK h o ob s)
    (hk:cont ⟨n,t,hd,⟨nh,h,nl,fm,lv,mu⟩⟩ d (.v (.bool (jZ s.l s.l.length id))) K):callQ.callQ2 Tryz.prog Γ d K ⟨n,t,hd,⟨nh,h,nl,fm,lv,mu⟩⟩ (Γ.get 52) 52 [.ptr o 0,.v (.int .i64 id)]:=by
 rw[hC]
 exact ⟨_,still_troot hl hT,hk⟩
theorem snd_keys {l:List Nd} (S:sndN l):(l.map kOf).Nodup:=by
 have h:=S.srt
 unfold srtN at h
 rw[List.pairwise_map]at h
 rw[List.nodup_iff_pairwise_ne,List.pairwise_map,List.pairwise_iff_getElem]
 intro i j hi hj hij he
 have h1:=List.pairwise_iff_getElem.1 h i j hi hj hij
 simp only[kOf,Prod.mk.injEq]at he
 have:=S.sib _ (List.getElem_mem hi) _ (List.getElem_mem hj) he.1 he.2
 omega
theorem root_up {l:List Nd}:∀ (n:Nat) (i:Int),jZ l n i=true→∃ k,upN l k i=0
 | 0,i,h=>⟨0,of_decide_eq_true h⟩
 | n+1,i,h=>by
   rw[jZ]at h
   split at h
   ·exact ⟨0,by assumption⟩
   ·obtain ⟨k,hk⟩:=root_up n _ h
    exact ⟨k+1,hk⟩
theorem tot_le {l:List Nd} (h:∀ x∈l,cnt x.text≤2000):totN l≤2000 * l.length:=by
 induction l with
 | nil=>simp [totN]
 | cons x l ih =>
   have h1:=h x (List.mem_cons_self ..)
   have h2:=ih fun y hy=>h y (List.mem_cons_of_mem _ hy)
   simp only[totN,List.length_cons];omega
theorem load_snd {l:List Nd} (hs:srtN l) (hl:l.length≤100) (hn:∀ x∈l,okNd x) (ht:totN l≤10000) (hk:(l.map kOf).Nodup) (hg:∀ x∈l,goodP l x):sndN l:=by
 refine ⟨hs,hl,hn,ht,fun x hx y hy h1 h2=>?_,fun x hx=>?_,fun x hx=>root_up _ _ (hg x hx).2⟩
 ·obtain ⟨i,hi,rfl⟩:=List.getElem_of_mem hx
  obtain ⟨j,hj,rfl⟩:=List.getElem_of_mem hy
  have he:kOf l[i]=kOf l[j]:=by simp only[kOf,h1,h2]
  rw[List.nodup_iff_pairwise_ne,List.pairwise_map,List.pairwise_iff_getElem]at hk
  rcases Nat.lt_trichotomy i j with h3|h3|h3
  ·exact absurd he (hk i j hi hj h3)
  ·subst h3;rfl
  ·exact absurd he.symm (hk j i hj hi h3)
 ·rcases (hg x hx).1 with h3|h3
  ·exact .inl h3
  ·refine .inr ⟨?_,h3⟩
   rcases Bool.eq_false_or_eq_true (hasN l x.par) with h4|h4
   ·exact h4
   ·rw[kEi]at h3
    rw[kAg]at h4
    cases h5:atI x.par l with
    | none=>rw [h5] at h3;cases h3
    | some y=>rw [h5] at h4;simp at h4
set_option maxHeartbeats 4000000 in
theorem tload_good:jT Tryz.prog 15 tloadCon:=by
 have hΓ:kM Tryz.prog [(51,okNCon)]:=(kI okn_good kJ)
 refine qS (nn:=92) Tryz.func15 (by kernel_rfl) rfl (show Tryz.f15.results.toList=[.tmp 2,.tmp 3] from rfl) (fun _=>rfl) ?_
 rintro ⟨l,hl,ht⟩
 refine qR hΓ (Ws:=[]) _ ?_
 simp only[aR,seval,kA,kB,kF]
 refine call_tnew (by simp[kH,k5]) ?_
 simp only[aR,seval,kA,kB,kF,kK]
 (repeat (with_reducible refine And.intro ?_ ?_;focus (first|omega|exact kD|kernel_rfl)))
 obtain ⟨St,hSt⟩:∃ St:Ld1 l→AS,∀ p,St p=AS.ofH 92 [(0,.sl 0 5 (k6 l)),(4,.ptr 0 0),(5,.v (.int .i64 p.1.2.2)),(12,.sl 0 5 (k6 l)),(13,.v (.int .i64 l.length)),(14,.v (.int .i64 p.1.1))] [] (tsO (some p.1.2.1)) []:=⟨_,fun _=>rfl⟩
 refine kA9 ?_
 refine zK [] hΓ St (fun p=>l.length - p.1.1) ⟨(0,⟨#[],0,[],tm_empty⟩,0),by simp only;omega,by simp,by simp,by simp only;omega,.inl rfl⟩ (by rw[hSt];refine kZ [0,1] [] ?_;simp only[aR,seval,kA,kB,kF]<;>((repeat' apply And.intro)<;>first|rfl|omega|trivial)) ?_
 rintro ⟨⟨i,s,last⟩,hi,hs,hok,hlast,hex⟩
 simp only at hi hs hok hlast hex
 rw[hSt]
 simp only
 simp only[aR,seval,kA,kB,kF,kK]
 (with_reducible first|refine kE (fun h=>?_) (fun h=>?_)|refine kG (fun h=>?_) (fun h=>?_))
 ·have hlt:i < l.length:=by omega
  have e1:=qA l hlt
  have hx:=ht l[i] (List.getElem_mem hlt)
  have hmem:=List.getElem_mem hlt
  have htk:=List.take_succ_eq_append_getElem hlt
  have hsrt:sndN l→∀ y∈l.take i,y.id < l[i].id:=fun S y hy=>by
   obtain ⟨j,hj,rfl⟩:=List.getElem_of_mem hy
   simp only[List.length_take]at hj
   have:=S.srt
   unfold srtN at this
   rw[List.pairwise_map]at this
   rw[List.getElem_take]
   exact List.pairwise_iff_getElem.1 this j i (by omega) hlt (by omega)
  generalize l[i]=x at *
  obtain ⟨id,par,nm,dir,tx⟩:=x
  simp only at hx hsrt
  simp only[aR,seval,kA,kB,kF,h,e1,nA,kK]
  (repeat (with_reducible refine And.intro ?_ ?_;focus (first|omega|exact kD|kernel_rfl)))
  refine kP (C:=okNCon) (i:=⟨⟨id,par,nm,dir,tx⟩,hx⟩) (by simp[kH]) rfl rfl rfl (by simp[AV.erL,AV.er,nA]) (fun _ h=>h) rfl ?_
  have fin:¬ sndN l→tloadCon.post ⟨l,hl,ht⟩ [] [] (.tup [.v (.pointer none),.v (.int .i64 1)]):=fun hn=>⟨rfl,.inr ⟨hn,rfl,rfl⟩⟩
  rcases Bool.eq_false_or_eq_true (okB ⟨id,par,nm,dir,tx⟩) with ho|ho
  case inr =>
   simp only[aR,seval,kA,kB,kF,ho]
   (repeat (with_reducible refine And.intro ?_ ?_;focus (first|omega|exact kD|kernel_rfl)))
   refine kT [] [] [] [] (.tup [.v (.pointer none),.v (.int .i64 1)]) (fin fun S=>by
    have:=(okB_iff _).2 ⟨(S.node _ hmem).id,(S.node _ hmem).nm,(S.node _ hmem).dir,(S.node _ hmem).valid,(S.node _ hmem).cnt⟩
    rw[ho]at this;cases this) ?_
   simp only[aR,seval,kA,kB,kF]<;>((repeat' apply And.intro)<;>first|rfl|omega|trivial)
  have hnd:=(okB_iff _).1 ho
  have hid:=hnd.id
  simp only at hid
  by_cases hle:id≤last
  ·simp only[aR,seval,kA,kB,kF,ho,hle]
   (repeat (with_reducible refine And.intro ?_ ?_;focus (first|omega|exact kD|kernel_rfl)))
   refine kT [] [] [] [] (.tup [.v (.pointer none),.v (.int .i64 1)]) (fin fun S=>by
    rcases hex with hex|⟨y,hy,hye⟩
    ·omega
    ·have:=hsrt S y hy;omega) ?_
   simp only[aR,seval,kA,kB,kF]<;>((repeat' apply And.intro)<;>first|rfl|omega|trivial)
  obtain ⟨es',cl',p1,p2⟩:=put_tm s.h ⟨id,par,nm,dir,tx⟩
  simp only[nV]at p1
  rw[hs,set_end (fun y hy=>by have:=(hok y hy).2;simp only;omega),← htk]at p2
  simp only[aR,seval,kA,kB,kF,ho,hle,p1,kC (n:=(i:Int)+1) (by omega) (by omega)]
  (repeat (with_reducible refine And.intro ?_ ?_;focus (first|omega|exact kD|kernel_rfl)))
  refine kN ⟨(i+1,⟨es',cl',l.take (i+1),p2⟩,id),by simp only;omega,rfl,?_,by simp only;omega,.inr ⟨⟨id,par,nm,dir,tx⟩,by simp only;rw[htk];simp,rfl⟩⟩ (by simp only;omega) ?_
  ·intro y hy
   simp only at hy ⊢
   rw[htk,List.mem_append,List.mem_singleton]at hy
   rcases hy with hy|rfl
   ·exact ⟨(hok y hy).1,by have:=(hok y hy).2;omega⟩
   ·exact ⟨hnd,by simp only;omega⟩
  ·rw[hSt];refine kZ [0,1] [] ?_
   simp only[aR,seval,kA,kB,kF]<;>((repeat' apply And.intro)<;>first|rfl|omega|trivial)
 ·have hi2:i=l.length:=by omega
  subst hi2
  rw[List.take_length]at hs hok
  have hok2:∀ x∈l,okNd x:=fun x hx=>(hok x hx).1
  have e1:=kBI s.h
  have e2:=kDa s.h
  have hsr:=s.h.2
  rw[hs]at hsr e1 e2
  simp only[aR,seval,kA,kB,kF,h,kK]
  (repeat (with_reducible refine And.intro ?_ ?_;focus (first|omega|exact kD|kernel_rfl)))
  obtain ⟨St,hSt⟩:∃ St:Ld2 l→AS,∀ p,St p=AS.ofH 92 [(0,.sl 0 5 (k6 l)),(4,.ptr 0 0),(8,.mp 2),(38,.sl 0 5 (k6 l)),(39,.v (.int .i64 l.length)),(40,.v (.int .i64 p.1.1))] [] (tsO (some s)++[.map p.1.2.es p.1.2.cl]) []:=⟨_,fun _=>rfl⟩
  refine kA9 ?_
  refine zK [] hΓ St (fun p=>l.length - p.1.1) ⟨(0,⟨#[],0,[],⟨rfl,rfl,by simp⟩⟩),by simp only;omega,by simp,by simp[NI]⟩ (by rw[hSt];refine kZ [0,1,2] [] ?_;simp only[aR,seval,kA,kB,kF,kK,List.cons_append,List.nil_append]<;>((repeat' apply And.intro)<;>first|rfl|omega|trivial)) ?_
  rintro ⟨⟨i,m⟩,hi,hg,hni⟩
  simp only at hi hg hni
  rw[hSt]
  simp only
  simp only[aR,seval,kA,kB,kF,kK,List.cons_append,List.nil_append]
  (with_reducible first|refine kE (fun h2=>?_) (fun h2=>?_)|refine kG (fun h2=>?_) (fun h2=>?_))
  ·have hlt:i < l.length:=by omega
   have e3:=qA l hlt
   have hmem:=List.getElem_mem hlt
   have htk:=List.take_succ_eq_append_getElem hlt
   generalize l[i]=x at *
   obtain ⟨id,par,nm,dir,tx⟩:=x
   simp only[aR,seval,kA,kB,kF,h2,e3,nA,kK]
   (repeat (with_reducible refine And.intro ?_ ?_;focus (first|omega|exact kD|kernel_rfl)))
   have fin:¬ sndN l→tloadCon.post ⟨l,hl,ht⟩ [] [] (.tup [.v (.pointer none),.v (.int .i64 1)]):=fun hn=>⟨rfl,.inr ⟨hn,rfl,rfl⟩⟩
   by_cases hp:par=0
   ·subst hp
    simp only[aR,seval,kA,kB,]
    (repeat (with_reducible refine And.intro ?_ ?_;focus (first|omega|exact kD|kernel_rfl)))
    refine vq_root (by simp[kH,k5]) (s:=s) (o:=0) (ob:=1) (by rw[hs];omega) (by simp[qK,upd]) ?_
    rw[hs]
    rcases Bool.eq_false_or_eq_true (jZ l l.length id) with hr|hr
    case inr =>
     simp only[aR,seval,kA,kB,hr]
     (repeat (with_reducible refine And.intro ?_ ?_;focus (first|omega|exact kD|kernel_rfl)))
     refine kT [] [] [] [] (.tup [.v (.pointer none),.v (.int .i64 1)]) (fin fun S=>by
      have:=(kDv S _).2 (rt_len S (.inr (kBt hmem)))
      simp only at this
      rw[hr]at this;cases this) ?_
     simp only[aR,seval,kA,kB,kF]<;>((repeat' apply And.intro)<;>first|rfl|omega|trivial)
    have q1:lookS Tryz.prog 82 (.agg #[.int .i64 0,.int .i64 0,sv nm,.bool false,sv []]) m.es false=some (.v (.int .i64 (cntK (0,nm) m.ps))):=look_nm m.h (0,nm)
    obtain ⟨es',cl',ix,n1,n2,n3⟩:=ent_nm m.h (0,nm)
    simp only[aR,seval,kA,kB,hr,q1]
    (repeat (with_reducible refine And.intro ?_ ?_;focus (first|omega|exact kD|kernel_rfl)))
    refine ⟨m.es,m.cl,.map es' cl',_,rfl,n1,steady_nm (m:=m) (p:=(0,nm)) rfl n2,?_⟩
    simp only[aR,seval,kA,kB,hr]
    (repeat (with_reducible refine And.intro ?_ ?_;focus (first|omega|exact kD|kernel_rfl)))
    refine ⟨es',cl',ix,rfl,(put_nm n2 n3 (IntKind.wrap .i64 (cntK (0,nm) m.ps+1))).1,?_⟩
    simp only[aR,seval,kA,kB,hr,kC (n:=(i:Int)+1) (by omega) (by omega)]
    (repeat (with_reducible refine And.intro ?_ ?_;focus (first|omega|exact kD|kernel_rfl)))
    refine kN ⟨(i+1,⟨_,_,_,(put_nm n2 n3 (IntKind.wrap .i64 (cntK (0,nm) m.ps+1))).2⟩),by simp only;omega,?_,ni_step hni htk (x:=⟨id,0,nm,dir,tx⟩) n3⟩ (by simp only;omega) ?_
    ·intro y hy
     simp only at hy
     rw[htk,List.mem_append,List.mem_singleton]at hy
     rcases hy with hy|rfl
     ·exact hg y hy
     ·exact ⟨.inl rfl,hr⟩
    ·rw[hSt];refine kZ [0,1,2] [] ?_
     simp only[aR,seval,kA,kB,kF,kK,List.cons_append,List.nil_append]<;>((repeat' apply And.intro)<;>first|rfl|omega|trivial)
   ·rcases Bool.eq_false_or_eq_true (gN l par).dir with hdd|hdd
    case inr =>
     simp only[aR,seval,kA,kB,hp,e1,nA,hdd,kF4]
     (repeat (with_reducible refine And.intro ?_ ?_;focus (first|omega|exact kD|kernel_rfl)))
     refine kT [] [] [] [] (.tup [.v (.pointer none),.v (.int .i64 1)]) (fin fun S=>by
      rcases S.par _ hmem with h5|h5
      ·exact hp h5
      ·simp only at h5;rw[hdd]at h5;cases h5.2) ?_
     simp only[aR,seval,kA,kB,kF]<;>((repeat' apply And.intro)<;>first|rfl|omega|trivial)
    simp only[aR,seval,kA,kB,hp,e1,nA,hdd,kF4]
    (repeat (with_reducible refine And.intro ?_ ?_;focus (first|omega|exact kD|kernel_rfl)))
    refine vq_root (by simp[kH,k5]) (s:=s) (o:=0) (ob:=1) (by rw[hs];omega) (by simp[qK,upd]) ?_
    rw[hs]
    rcases Bool.eq_false_or_eq_true (jZ l l.length id) with hr|hr
    case inr =>
     simp only[aR,seval,kA,kB,hr]
     (repeat (with_reducible refine And.intro ?_ ?_;focus (first|omega|exact kD|kernel_rfl)))
     refine kT [] [] [] [] (.tup [.v (.pointer none),.v (.int .i64 1)]) (fin fun S=>by
      have:=(kDv S _).2 (rt_len S (.inr (kBt hmem)))
      simp only at this
      rw[hr]at this;cases this) ?_
     simp only[aR,seval,kA,kB,kF]<;>((repeat' apply And.intro)<;>first|rfl|omega|trivial)
    have q1:lookS Tryz.prog 82 (.agg #[.int .i64 0,.int .i64 par,sv nm,.bool false,sv []]) m.es false=some (.v (.int .i64 (cntK (par,nm) m.ps))):=look_nm m.h (par,nm)
    obtain ⟨es',cl',ix,n1,n2,n3⟩:=ent_nm m.h (par,nm)
    simp only[aR,seval,kA,kB,hr,q1]
    (repeat (with_reducible refine And.intro ?_ ?_;focus (first|omega|exact kD|kernel_rfl)))
    refine ⟨m.es,m.cl,.map es' cl',_,rfl,n1,steady_nm (m:=m) (p:=(par,nm)) rfl n2,?_⟩
    simp only[aR,seval,kA,kB,hr]
    (repeat (with_reducible refine And.intro ?_ ?_;focus (first|omega|exact kD|kernel_rfl)))
    refine ⟨es',cl',ix,rfl,(put_nm n2 n3 (IntKind.wrap .i64 (cntK (par,nm) m.ps+1))).1,?_⟩
    simp only[aR,seval,kA,kB,hr,kC (n:=(i:Int)+1) (by omega) (by omega)]
    (repeat (with_reducible refine And.intro ?_ ?_;focus (first|omega|exact kD|kernel_rfl)))
    refine kN ⟨(i+1,⟨_,_,_,(put_nm n2 n3 (IntKind.wrap .i64 (cntK (par,nm) m.ps+1))).2⟩),by simp only;omega,?_,ni_step hni htk (x:=⟨id,par,nm,dir,tx⟩) n3⟩ (by simp only;omega) ?_
    ·intro y hy
     simp only at hy
     rw[htk,List.mem_append,List.mem_singleton]at hy
     rcases hy with hy|rfl
     ·exact hg y hy
     ·exact ⟨.inr hdd,hr⟩
    ·rw[hSt];refine kZ [0,1,2] [] ?_
     simp only[aR,seval,kA,kB,kF,kK,List.cons_append,List.nil_append]<;>((repeat' apply And.intro)<;>first|rfl|omega|trivial)
  ·have hi2:i=l.length:=by omega
   subst hi2
   have fin:¬ sndN l→tloadCon.post ⟨l,hl,ht⟩ [] [] (.tup [.v (.pointer none),.v (.int .i64 1)]):=fun hn=>⟨rfl,.inr ⟨hn,rfl,rfl⟩⟩
   have hsz:=size_nm m.h
   unfold NI at hni
   rw[List.take_length]at hg hni
   simp only[aR,seval,kA,kB,kF,h2,kK,hsz]
   (repeat (with_reducible refine And.intro ?_ ?_;focus (first|omega|exact kD|kernel_rfl)))
   by_cases c1:(m.ps.length:Int) < l.length
   ·simp only[aR,seval,kA,kB,c1]
    (repeat (with_reducible refine And.intro ?_ ?_;focus (first|omega|exact kD|kernel_rfl)))
    refine kT [] [] [] [] (.tup [.v (.pointer none),.v (.int .i64 1)]) (fin fun S=>by
     rcases hni.2 with h5|h5
     ·omega
     ·exact h5.2 (snd_keys S)) ?_
    simp only[aR,seval,kA,kB,kF]<;>((repeat' apply And.intro)<;>first|rfl|omega|trivial)
   by_cases c2:(l.length:Int) > 100
   ·simp only[aR,seval,kA,kB,c1,c2,kK]
    (repeat (with_reducible refine And.intro ?_ ?_;focus (first|omega|exact kD|kernel_rfl)))
    refine kT [] [] [] [] (.tup [.v (.pointer none),.v (.int .i64 1)]) (fin fun S=>by have:=S.len;omega) ?_
    simp only[aR,seval,kA,kB,kF]<;>((repeat' apply And.intro)<;>first|rfl|omega|trivial)
   simp only[aR,seval,kA,kB,c1,c2,kK]
   (repeat (with_reducible refine And.intro ?_ ?_;focus (first|omega|exact kD|kernel_rfl)))
   have htl:=tot_le (l:=l) fun x hx=>(hok2 x hx).cnt
   refine call_tall (s:=s) (o:=0) (ob:=1) (by simp[kH,k5]) (by rw[hs];exact ⟨by omega,fun x hx=>by have:=(ht x hx).2;omega⟩) (by simp[qK,upd]) ?_
   rw[hs]
   by_cases c3:(totN l:Int) > 10000
   ·simp only[aR,seval,kA,kB,c3]
    (repeat (with_reducible refine And.intro ?_ ?_;focus (first|omega|exact kD|kernel_rfl)))
    refine kT [] [] [] [] (.tup [.v (.pointer none),.v (.int .i64 1)]) (fin fun S=>by have:=S.tot;omega) ?_
    simp only[aR,seval,kA,kB,kF]<;>((repeat' apply And.intro)<;>first|rfl|omega|trivial)
   simp only[aR,seval,kA,kB,c3]
   (repeat (with_reducible refine And.intro ?_ ?_;focus (first|omega|exact kD|kernel_rfl)))
   have hnd:(l.map kOf).Nodup:=by
    rcases hni.2 with h5|h5
    ·exact h5.2
    ·omega
   have hS:sndN l:=load_snd hsr (by omega) hok2 (by omega) hnd hg
   refine kT [0,1] [] (tsO (some s)) [] (.tup [.ptr 0 0,.v (.int .i64 0)]) ⟨rfl,.inl ⟨hS,s,hs,rfl,rfl⟩⟩ ?_
   simp only[aR,seval,kA,kB,kF]<;>((repeat' apply And.intro)<;>first|rfl|omega|trivial)
end Go.Proofs
end
-- EUk9s
section
namespace Go.Proofs
open Go Go.Rw
set_option maxRecDepth 100000
theorem srt_snoc {l:List Nd} {i:Nat} (h:i < l.length) (h1:srtN (l.take i)) (h2:∀ k,∀ hk:k+1=i,(l[k]'(by omega)).id < l[i].id):srtN (l.take (i+1)):=by
 rw[List.take_succ_eq_append_getElem h,srtN,List.map_append,List.pairwise_append]
 refine ⟨h1,by simp,fun a ha b hb=>?_⟩
 simp only[List.map_cons,List.map_nil,List.mem_singleton]at hb
 subst hb
 cases i with
 | zero=>simp at ha
 | succ k =>
   have h3:=h2 k rfl
   rw[List.take_succ_eq_append_getElem (by omega),srtN,List.map_append,List.pairwise_append]at h1
   rw[List.take_succ_eq_append_getElem (by omega),List.map_append,List.mem_append]at ha
   rcases ha with ha|ha
   ·have:=h1.2.2 a ha l[k].id (by simp)
    omega
   ·simp only[List.map_cons,List.map_nil,List.mem_singleton]at ha
    omega
end Go.Proofs
end
-- EUk9t
section
namespace Go.Proofs
open Go Go.Rw
set_option maxRecDepth 100000
theorem insI_len (l:List Int) (x:Int):(insI l x).length≤l.length+1:=by
 unfold insI
 split
 ·omega
 ·simp only[List.length_append,List.length_cons,List.length_take,List.length_drop];omega
theorem foldI_len:∀ (xs out:List Int),(xs.foldl insI out).length≤out.length+xs.length
 | [],out=>by simp
 | x::xs,out=>by
   have h1:=insI_len out x
   have h2:=foldI_len xs (insI out x)
   rw[List.foldl_cons,List.length_cons];omega
theorem names_len (a:Ac):(kAU a).length≤2:=by unfold kAU;split<;>simp
end Go.Proofs
end
-- EUn7
section
namespace Go.Proofs
open Go Go.Rw
set_option maxRecDepth 100000
end Go.Proofs
end
-- EUk10
section
namespace Go.Proofs
open Go Go.Rw
set_option maxRecDepth 100000
theorem touch_len:∀ (l:List Ac) (out:List Int),(kAa out l).length≤out.length+2 * l.length
 | [],out=>by simp [kAa]
 | a::l,out=>by
   have h1:=touch_len l ((kAU a).foldl insI out)
   have h2:=foldI_len (kAU a) out
   have h3:=names_len a
   rw[kAa,List.length_cons];omega
theorem acts_okA {l:List Ac} {m:Int} (hm:m≤1000000) (h2:∀ a∈l,a.nm.length≤9223372036854775807∧kFF a.ops) (h:wF m 0 (wA l)≤m):l.length≤1000000∧∀ a∈l,okA a:=by
 obtain ⟨h3,h4⟩:=acts_ok hm h2 h
 obtain ⟨_,h5⟩:=wF_le (by omega) (wA l) (Int.le_refl 0) h
 exact ⟨h3,fun a ha=>⟨h4 a ha,by have:=(h5 (a.nm.length,a.ops) (List.mem_map.2 ⟨a,ha,rfl⟩)).1;omega⟩⟩
end Go.Proofs
end
-- ETr16
section
namespace Go.Proofs
open Go Go.Rw
set_option maxRecDepth 100000
def kDk (t:List Nd) (l:List Ac):Bool:=decide (nF 4000 0 t≤4000∧wF 4000 0 (wA l)≤4000∧l.length≤60)
abbrev kBs:Con where
 ι:=GivenN×GivenA
 args:=fun p=>[.sl 0 5 (k6 p.1.1),.sl 0 6 (acts p.2.1)]
 post:=fun p r=>r = .v (.bool (kDk p.1.1 p.2.1))
 plain:=true
theorem small14_good:Rw.Good Tryz.prog 36 kBs:=by
 have hΓ:kM Tryz.prog [(49,kDC),(50,actsCon)]:=(kI wnodes_good (kI acts_good kJ))
 refine kY (nn:=18) hΓ Tryz.func36 (by kernel_rfl) rfl (show Tryz.f36.results.toList=[.tmp 4] from rfl) (fun _=>rfl) (fun x=>by simp[AV.erL,AV.er,kBO,kAN]) ?_
 rintro ⟨⟨t,ht,htc⟩,⟨l,hl,hlc⟩⟩
 simp only[aR,seval]
 refine call_wnodes (by simp[kH]) rfl ht htc (by omega) ?_
 by_cases h1:nF 4000 0 t≤4000
 case neg=>simp only[aR,seval,h1,kDk,false_and]
 simp only[aR,seval,h1]
 refine call_acts (by simp[kH]) rfl hl hlc (by omega) ?_
 by_cases h2:wF 4000 0 (wA l)≤4000
 case neg=>simp only[aR,seval,h1,h2,kDk,false_and,true_and]
 simp only[aR,seval,h1,h2,k8]
 unfold kDk
 exact decide_eq_decide.2 ⟨fun h=>⟨h1,h2,by omega⟩,fun h=>by omega⟩
theorem call_small14 {Γ:Env} (hf:Γ.get 36=some kBs) {σ:AS} {dr:Bool} {t:List Nd} {l:List Ac} {xs ys:List AV} {t1 t2:Nat} {d:Option Nat} {K:AS→Prop} (hx:xs=k6 t) (hy:ys=acts l) (h1:t.length≤9223372036854775807) (h2:∀ a∈t,a.nm.length≤9223372036854775807∧a.text.length≤9223372036854775807) (h3:l.length≤9223372036854775807) (h4:∀ a∈l,a.nm.length≤9223372036854775807∧kFF a.ops)
    (hk:cont σ d (.v (.bool (kDk t l))) K):kS Tryz.prog Γ dr σ 36 [.sl t1 5 xs,.sl t2 6 ys] d K:=by
 subst hx hy
 exact kP (C:=kBs) (i:=(⟨t,h1,h2⟩,⟨l,h3,h4⟩)) hf rfl rfl rfl (by simp[AV.erL,AV.er]) (fun _ h=>h) rfl hk
theorem small_acts {t:List Nd} {l:List Ac} (h:kDk t l=true) (h4:∀ a∈l,a.nm.length≤9223372036854775807∧kFF a.ops):l.length≤60∧∀ a∈l,okA a:=by
 obtain ⟨_,h1,h2⟩:=of_decide_eq_true h
 exact ⟨h2,(acts_okA (by omega) h4 h1).2⟩
end Go.Proofs
end
-- ETr17
section
namespace Go.Proofs
open Go Go.Rw
set_option maxRecDepth 100000
theorem kA8 {Γ:Env} (hf:Γ.get 32=some kDy) {n:Nat} {t:Nat→AV} {hd:Nat→Nat→AV} {nh nl:Nat} {h:Nat→Option AO} {fm:Nat→Nat} {lv:Nat→Option (Nat×Nat)} {mu:Bool} {dr:Bool} {d:Option Nat} {K:AS→Prop}
    (hk:cont ⟨n,t,hd,⟨nh,h,nl,fm,lv,mu⟩⟩ d (.v (.bool true)) K):kS Tryz.prog Γ dr ⟨n,t,hd,⟨nh,h,nl,fm,lv,mu⟩⟩ 32 [] d K :=
 kAq (C:=kDy) (i:=()) (r:=.v (.bool true)) hf rfl rfl (by simp[AV.erL]) rfl (fun _ h=>h) (by simp only[AV.er];exact hk)
abbrev GivenAB:={ l:List Ac // l.length≤9223372036854775807∧∀ a∈l,(a.nm.length≤9223372036854775807∧kFF a.ops)∧bndA a }
end Go.Proofs
end
-- ETr18
section
namespace Go.Proofs
open Go Go.Rw
open _root_.Nat renaming reduceAdd → N0, reduceSub → N1, reduceMul → N2, reduceLT → N3, reduceLeDiff → N4, reduceEqDiff → N5
open _root_.Int renaming reduceNeg → Z0, reduceAdd → Z1, reduceSub → Z2, reduceMul → Z3, reduceGT → Z4, reduceGE → Z5, reduceLT → Z6, reduceLE → Z7, reduceEq → Z8, reduceNe → Z9, reduceToNat → Z10, cast_ofNat_Int → Zc
set_option maxRecDepth 100000
structure chkN (l:List Nd) (x:Nd):Prop where
 id:1≤x.id∧x.id≤1099511627776
 nm:qE x.nm=true
 kid:kid x.par x.nm l=x.id
 dir:x.dir=true→x.text=[]
 valid:(pts x.text).isSome=true
 cnt:cnt x.text≤2000
 par:x.par=0∨(ndx x.par l < l.length∧(l.getD (ndx x.par l) kAb).dir=true∧zQ l x.par x.id=false)
theorem up_cyc {l:List Nd} {i:Int} {k:Nat} (h:upN l k i=i):∀ m,upN l (m * k) i=i
 | 0=>by rw [Nat.zero_mul];rfl
 | m+1=>by rw [Nat.add_mul,Nat.one_mul,kFp,up_cyc h m,h]
theorem snd_no_cyc {l:List Nd} (S:sndN l) {x:Nd} (hx:x∈l) {k:Nat} (h:upN l (k+1) x.id=x.id):False:=by
 obtain ⟨m,hm⟩:=S.rt x hx
 have h1:=up_cyc h m
 have h2:=up_stay S hm (k:=m * (k+1)) (by rw[Nat.mul_add];omega)
 have:=(S.node x hx).id
 omega
theorem chk_of {l:List Nd} (S:sndN l) {x:Nd} (hx:x∈l):chkN l x:=by
 have n:=S.node x hx
 have hp:∀ y∈l,1≤y.id:=fun y hy=>(S.node y hy).id.1
 refine ⟨n.id,n.nm,?_,n.dir,n.valid,n.cnt,?_⟩
 ·by_cases h1:1≤kid x.par x.nm l
  ·obtain ⟨y,hy,h2,h3,h4⟩:=kid_iff hp h1 rfl
   rw[← h4]
   exact S.sib y hy x hx h2 h3
  ·exact absurd ⟨rfl,rfl⟩ (kCh hp h1 x hx)
 ·rcases S.par x hx with h1|⟨h1,h2⟩
  ·exact .inl h1
  ·refine .inr ⟨(qH l x.par).1 h1,h2,?_⟩
   rcases Bool.eq_false_or_eq_true (zQ l x.par x.id) with h3|h3
   ·exfalso
    obtain ⟨k,hk⟩:=(kA2 S (.inr h1) (by have:=n.id;omega)).1 h3
    refine snd_no_cyc S hx (k:=k) ?_
    rw[upN,show pf l x.id=x.par by unfold pf;rw[gN_self S.srt hx],hk]
   ·exact h3
theorem in_miss {l:List Nd} {top:Int}:∀ (n:Nat) {i:Int},inN l top n i=false→∃ k,hasN l (upN l k i)=false
 | 0,i,h=>by rw [inN] at h;cases h
 | n+1,i,h=>by
   rw[inN]at h
   split at h
   ·cases h
   ·split at h
    ·obtain ⟨k,hk⟩:=in_miss n h
     exact ⟨k+1,hk⟩
    ·rename_i h2
     refine ⟨0,?_⟩
     rcases Bool.eq_false_or_eq_true (hasN l i) with h3|h3
     ·exact absurd ((qH l i).1 h3) h2
     ·exact h3
theorem snd_of {l:List Nd} (hs:srtN l) (hl:l.length≤100) (ht:totN l≤10000) (hc:∀ x∈l,chkN l x):sndN l:=by
 have hpar:∀ x∈l,x.par=0∨(hasN l x.par=true∧(gN l x.par).dir=true):=fun x hx=>by
  rcases (hc x hx).par with h1|h1
  ·exact .inl h1
  ·exact .inr ⟨(qH l x.par).2 h1.1,h1.2.1⟩
 have hin:∀ i,inT l (pf l i):=fun i=>by
  rcases Bool.eq_false_or_eq_true (hasN l i) with h|h
  ·rcases hpar _ (kBS h).1 with h3|h3
   ·exact .inl h3
   ·exact .inr h3.1
  ·exact .inl (pf_no h)
 have hup:∀ k i,inT l i→inT l (upN l k i):=fun k=>by
  induction k with
  | zero=>exact fun i h=>h
  | succ k ih=>exact fun i h=>ih _ (hin i)
 refine ⟨hs,hl,fun x hx=>?_,ht,fun x hx y hy h1 h2=>?_,hpar,fun x hx=>?_⟩
 ·have:=hc x hx
  exact ⟨this.id,this.nm,this.dir,this.valid,this.cnt⟩
 ·rw[← (hc x hx).kid,← (hc y hy).kid,h1,h2]
 ·have hpx:pf l x.id=x.par:=by unfold pf;rw[gN_self hs hx]
  rcases (hc x hx).par with h1|⟨h1,_,h3⟩
  ·exact ⟨1,by rw[upN,hpx];exact h1⟩
  ·obtain ⟨k,hk⟩:=in_miss _ h3
   have h4:=hup k x.par (.inr ((qH l x.par).2 h1))
   rcases h4 with h4|h4
   ·exact ⟨k+1,by rw[upN,hpx];exact h4⟩
   ·rw[hk]at h4;cases h4
open Classical in
noncomputable def sndB (l:List Nd):Bool:=decide (sndN l)
theorem zD {l:List Nd} (h:¬ sndN l):sndB l=false:=by unfold sndB;simp[h]
theorem yes_snd {l:List Nd} (h:sndN l):sndB l=true:=by unfold sndB;simp[h]
theorem of_sndB {l:List Nd} (h:sndB l=true):sndN l:=by unfold sndB at h;simpa using h
abbrev kE1:Con where
 ι:={ l:List Nd // l.length≤1000000∧∀ x∈l,x.nm.length≤1099511627776∧x.text.length≤1099511627776 }
 args:=fun p=>[.sl 0 5 (k6 p.1)]
 post:=fun p r=>r = .v (.bool (sndB p.1))
 plain:=true
set_option maxHeartbeats 4000000 in
theorem xsound_good:Rw.Good Tryz.prog 16 kE1:=by
 have hΓ:kM Tryz.prog [(31,kBQ),(54,kidCon),(55,jR),(56,kC6),(48,kBi),(57,kDM)]:=(kI rname_good (kI kid_good (kI kEz (kI rcount_good (kI kD5 (kI within_good kJ))))))
 refine kY (nn:=119) hΓ Tryz.func16 (by kernel_rfl) rfl (show Tryz.f16.results.toList=[.tmp 2] from rfl) (fun _=>rfl) (fun x=>by simp[AV.erL,AV.er,kBO]) ?_
 rintro ⟨l,hl,ht⟩
 by_cases h0:(l.length:Int) > 100
 ·simp only[aR,seval,kK,h0]
  rw[zD fun S=>by have:=S.len;omega]
 simp only[aR,seval,kK,h0]
 obtain ⟨St,hSt⟩:∃ St:{ p:Int×Nat // p.2≤l.length∧(0≤p.1∧p.1≤10000)∧srtN (l.take p.2)∧p.1=totN (l.take p.2)∧∀ x∈l.take p.2,chkN l x }→AS,∀ p,St p=AS.of 119 [(0,.sl 0 5 (k6 l)),(3,.v (.int .i64 p.1.1)),(4,.v (.int .i64 p.1.2))] [] []:=⟨_,fun _=>rfl⟩
 refine qM hΓ St (fun p=>l.length - p.1.2) ⟨(0,0),by omega,by simp only;omega,by simp[srtN],by simp[totN],by simp⟩ (by rw[hSt];refine kQ [] [] ?_;simp only[aR,seval]<;>((repeat' apply And.intro)<;>first|rfl|omega|trivial)) ?_
 rintro ⟨⟨s,i⟩,hi,hs,hb,hst,hck⟩
 simp only at hi hs hb hst hck
 rw[hSt]
 simp only
 simp only[aR,seval,kK]
 (with_reducible first|refine kE (fun h=>?_) (fun h=>?_)|refine kG (fun h=>?_) (fun h=>?_))
 ·have hlt:i < l.length:=by omega
  have hci:=ht l[i] (List.getElem_mem hlt)
  have e1:=qA l hlt
  have hsn:=srt_snoc hlt hb
  have N:sndN l→chkN l l[i]:=fun S=>chk_of S (List.getElem_mem hlt)
  have N2:sndN l→totN (l.take i)+cnt l[i].text≤10000:=fun S=>by
   have:=S.tot
   rw[← List.take_append_drop i l,kB5,List.drop_eq_getElem_cons hlt,totN]at this
   omega
  have N3:∀ k,∀ hk:k+1=i,sndN l→(l[k]'(by omega)).id < l[i].id:=fun k hk S=>by
   have:=S.srt
   unfold srtN at this
   rw[List.pairwise_map]at this
   exact List.pairwise_iff_getElem.1 this k i (by omega) hlt (by omega)
  have nx:chkN l l[i]→∀ x∈l.take (i+1),chkN l x:=fun hx x hm=>by
   rw[List.take_succ_eq_append_getElem hlt,List.mem_append,List.mem_singleton]at hm
   rcases hm with hm|rfl
   ·exact hck x hm
   ·exact hx
  have tx1:(totN (l.take (i+1)):Int)=totN (l.take i)+cnt l[i].text:=by
   rw[List.take_succ_eq_append_getElem hlt,kB5];simp[totN]
  generalize l[i]=x at *
  obtain ⟨id,par,nm,dir,tx⟩:=x
  obtain ⟨hn,ho⟩:=hci
  simp only at hn ho e1 hsn N2 N3 tx1
  simp only[aR,seval,h,e1,kK,nA]
  (repeat (with_reducible refine And.intro ?_ ?_;focus (first|omega|exact kD|kernel_rfl)))
  by_cases c1:id < 1
  ·simp only[aR,seval,c1]
   (repeat (with_reducible refine And.intro ?_ ?_;focus (first|omega|exact kD|kernel_rfl)))
   rw[zD fun S=>by have:=(N S).id;simp only at this;omega]
  by_cases c2:id > 1099511627776
  ·simp only[aR,seval,c1,c2]
   (repeat (with_reducible refine And.intro ?_ ?_;focus (first|omega|exact kD|kernel_rfl)))
   rw[zD fun S=>by have:=(N S).id;simp only at this;omega]
  cases i with
  | zero =>
    have srt1:srtN (l.take 1):=hsn fun k hk=>by omega
    simp only[aR,seval,c1,c2]
    (repeat (with_reducible refine And.intro ?_ ?_;focus (first|omega|exact kD|kernel_rfl)))
    refine kAw (by simp[kH]) hn ?_
    cases hnm:qE nm
    ·simp only[aR,seval,hnm]
     (repeat (with_reducible refine And.intro ?_ ?_;focus (first|omega|exact kD|kernel_rfl)))
     rw[zD fun S=>by have:=(N S).nm;simp only at this;rw[hnm]at this;cases this]
    simp only[aR,seval,hnm]
    (repeat (with_reducible refine And.intro ?_ ?_;focus (first|omega|exact kD|kernel_rfl)))
    refine call_kid (by simp[kH]) rfl (by omega) ?_
    by_cases c4:kid par nm l=id
    case neg =>
     simp only[aR,seval,c4]
     (repeat (with_reducible refine And.intro ?_ ?_;focus (first|omega|exact kD|kernel_rfl)))
     rw[zD fun S=>c4 (N S).kid]
    by_cases c5:dir=true∧tx≠[]
    ·obtain ⟨rfl,c6⟩:=c5
     simp only[aR,seval,c4,c6]
     (repeat (with_reducible refine And.intro ?_ ?_;focus (first|omega|exact kD|kernel_rfl)))
     rw[zD fun S=>c6 ((N S).dir rfl)]
    have more:∀ Z:Prop,(dir=false→Z)→(dir=true→tx=[]→Z)→Z:=fun Z f g=>by
     cases dir
     ·exact f rfl
     ·exact g rfl (Decidable.not_not.1 fun hh=>c5 ⟨rfl,hh⟩)
    have hcl:cnt tx≤tx.length:=by rw[kBJ];exact cpts_len tx
    refine more _ (fun hd=>?_) (fun hd he=>?_)
    all_goals
     subst hd
     by_cases c7:(tx.length:Int) > 8000
     ·first
        | simp only [aR,seval,c4,c7,eq_true he]
          (repeat (with_reducible refine And.intro ?_ ?_;focus (first|omega|exact kD|kernel_rfl)))
          rw[zD fun S=>by have h1:=kBZ (N S).valid;have h2:=(N S).cnt;simp only at h1 h2;omega]
        | simp only [aR,seval,c4,c7]
          (repeat (with_reducible refine And.intro ?_ ?_;focus (first|omega|exact kD|kernel_rfl)))
          rw[zD fun S=>by have h1:=kBZ (N S).valid;have h2:=(N S).cnt;simp only at h1 h2;omega]
     first
      | simp only [aR,seval,c4,c7,eq_true he]
        (repeat (with_reducible refine And.intro ?_ ?_;focus (first|omega|exact kD|kernel_rfl)))
      | simp only [aR,seval,c4,c7]
        (repeat (with_reducible refine And.intro ?_ ?_;focus (first|omega|exact kD|kernel_rfl)))
     refine kBM (by simp[kH]) (by omega) ?_
     cases hv:(pts tx).isSome
     ·simp only[aR,seval,hv]
      (repeat (with_reducible refine And.intro ?_ ?_;focus (first|omega|exact kD|kernel_rfl)))
      rw[zD fun S=>by have:=(N S).valid;simp only at this;rw[hv]at this;cases this]
     simp only[aR,seval,hv]
     (repeat (with_reducible refine And.intro ?_ ?_;focus (first|omega|exact kD|kernel_rfl)))
     refine kEu (by simp[kH]) (by omega) ?_
     by_cases c8:(cnt tx:Int) > 2000
     ·simp only[aR,seval,c8]
      (repeat (with_reducible refine And.intro ?_ ?_;focus (first|omega|exact kD|kernel_rfl)))
      rw[zD fun S=>by have:=(N S).cnt;simp only at this;omega]
     by_cases c9:s+(cnt tx:Int) > 10000
     ·simp only[aR,seval,c8,c9,kC (n:=s+(cnt tx:Int)) (by omega) (by omega)]
      (repeat (with_reducible refine And.intro ?_ ?_;focus (first|omega|exact kD|kernel_rfl)))
      rw[zD fun S=>by have:=N2 S;omega]
     by_cases c10:par=0
     ·simp only[aR,seval,c8,c9,c10,kC (n:=s+(cnt tx:Int)) (by omega) (by omega),kC (n:=0+1) (by omega) (by omega)]
      (repeat (with_reducible refine And.intro ?_ ?_;focus (first|omega|exact kD|kernel_rfl)))
      have cx:=nx ⟨⟨by simp only;omega,by simp only;omega⟩,hnm,c4,fun hdd=>(by first|assumption|cases hdd),hv,by simp only;omega,.inl c10⟩
      refine kN ⟨(s+(cnt tx:Int),1),by simp only;omega,by simp only;omega,srt1,(by have h5:=tx1;(try simp only[Nat.zero_add]at h5);simp only;omega),cx⟩ (by simp only;omega) ?_
      rw[hSt];refine kQ [] [] ?_
      simp only[aR,seval]<;>((repeat' apply And.intro)<;>first|rfl|omega|trivial|(simp[kBf];done))
     simp only[aR,seval,c8,c9,c10,kC (n:=s+(cnt tx:Int)) (by omega) (by omega)]
     (repeat (with_reducible refine And.intro ?_ ?_;focus (first|omega|exact kD|kernel_rfl)))
     refine kBo (by simp[kH]) rfl (by omega) ?_
     by_cases c11:ndx par l < l.length
     case neg =>
      simp only[aR,seval,ndI,if_neg c11]
      (repeat (with_reducible refine And.intro ?_ ?_;focus (first|omega|exact kD|kernel_rfl)))
      rw[zD fun S=>by rcases (N S).par with h1|h1;exact c10 h1;exact c11 h1.1]
     have e4:=qA l c11
     have hg:l.getD (ndx par l) kAb=l[ndx par l]:=by rw[List.getD_eq_getElem?_getD,List.getElem?_eq_getElem c11];rfl
     generalize l[ndx par l]=y at *
     obtain ⟨yid,ypar,ynm,ydir,ytx⟩:=y
     have hnn:((ndx par l:Int) < 0)=False:=eq_false (by omega)
     cases ydir
     ·simp only[aR,seval,ndI,if_pos c11,e4,nA,hnn,kK]
      (repeat (with_reducible refine And.intro ?_ ?_;focus (first|omega|exact kD|kernel_rfl)))
      rw[zD fun S=>by rcases (N S).par with h1|h1;exact c10 h1;have:=h1.2.1;simp only at this;rw[hg]at this;cases this]
     simp only[aR,seval,ndI,if_pos c11,e4,nA,hnn,kK]
     (repeat (with_reducible refine And.intro ?_ ?_;focus (first|omega|exact kD|kernel_rfl)))
     refine kEV (by simp[kH]) rfl (by omega) ?_
     cases hw:zQ l par id
     case true =>
      simp only[aR,seval]
      (repeat (with_reducible refine And.intro ?_ ?_;focus (first|omega|exact kD|kernel_rfl)))
      rw[zD fun S=>by rcases (N S).par with h1|h1;exact c10 h1;have:=h1.2.2;simp only at this;rw[hw]at this;cases this]
     simp only[aR,seval,kC (n:=0+1) (by omega) (by omega)]
     (repeat (with_reducible refine And.intro ?_ ?_;focus (first|omega|exact kD|kernel_rfl)))
     have cx:=nx ⟨⟨by simp only;omega,by simp only;omega⟩,hnm,c4,fun hdd=>(by first|assumption|cases hdd),hv,by simp only;omega,.inr ⟨c11,by simp only;rw[hg],hw⟩⟩
     refine kN ⟨(s+(cnt tx:Int),1),by simp only;omega,by simp only;omega,srt1,(by have h5:=tx1;(try simp only[Nat.zero_add]at h5);simp only;omega),cx⟩ (by simp only;omega) ?_
     rw[hSt];refine kQ [] [] ?_
     simp only[aR,seval]<;>((repeat' apply And.intro)<;>first|rfl|omega|trivial|(simp[kBf];done))
  | succ k =>
    have hkt:k < l.length:=by omega
    have e3:=qA l hkt
    have hw:IntKind.wrap .i64 (((k+1:Nat):Int) - 1)=k:=by rw[kC (by omega) (by omega)];omega
    have hp:((k+1:Nat):Int) > 0:=by omega
    have srt0:l[k].id < id→srtN (l.take (k+1+1)):=fun hlt2=>hsn fun k2 hk2=>by
     have:k2=k:=by omega
     subst this;exact hlt2
    clear hsn
    have N4:=N3 k rfl
    clear N3
    generalize l[k]=z at *
    obtain ⟨zid,zpar,znm,zdir,ztx⟩:=z
    simp only at srt0 N4
    by_cases c3:zid ≥ id
    ·simp only[aR,seval,c1,c2,hw,hp,e3,nA,c3,kK]
     (repeat (with_reducible refine And.intro ?_ ?_;focus (first|omega|exact kD|kernel_rfl)))
     rw[zD fun S=>by have:=N4 S;omega]
    have srt1:=srt0 (by omega)
    simp only[aR,seval,c1,c2,hw,hp,e3,nA,c3,kK]
    (repeat (with_reducible refine And.intro ?_ ?_;focus (first|omega|exact kD|kernel_rfl)))
    refine kAw (by simp[kH]) hn ?_
    cases hnm:qE nm
    ·simp only[aR,seval,hnm]
     (repeat (with_reducible refine And.intro ?_ ?_;focus (first|omega|exact kD|kernel_rfl)))
     rw[zD fun S=>by have:=(N S).nm;simp only at this;rw[hnm]at this;cases this]
    simp only[aR,seval,hnm]
    (repeat (with_reducible refine And.intro ?_ ?_;focus (first|omega|exact kD|kernel_rfl)))
    refine call_kid (by simp[kH]) rfl (by omega) ?_
    by_cases c4:kid par nm l=id
    case neg =>
     simp only[aR,seval,c4]
     (repeat (with_reducible refine And.intro ?_ ?_;focus (first|omega|exact kD|kernel_rfl)))
     rw[zD fun S=>c4 (N S).kid]
    by_cases c5:dir=true∧tx≠[]
    ·obtain ⟨rfl,c6⟩:=c5
     simp only[aR,seval,c4,c6]
     (repeat (with_reducible refine And.intro ?_ ?_;focus (first|omega|exact kD|kernel_rfl)))
     rw[zD fun S=>c6 ((N S).dir rfl)]
    have more:∀ Z:Prop,(dir=false→Z)→(dir=true→tx=[]→Z)→Z:=fun Z f g=>by
     cases dir
     ·exact f rfl
     ·exact g rfl (Decidable.not_not.1 fun hh=>c5 ⟨rfl,hh⟩)
    have hcl:cnt tx≤tx.length:=by rw[kBJ];exact cpts_len tx
    refine more _ (fun hd=>?_) (fun hd he=>?_)
    all_goals
     subst hd
     by_cases c7:(tx.length:Int) > 8000
     ·first
        | simp only [aR,seval,c4,c7,eq_true he]
          (repeat (with_reducible refine And.intro ?_ ?_;focus (first|omega|exact kD|kernel_rfl)))
          rw[zD fun S=>by have h1:=kBZ (N S).valid;have h2:=(N S).cnt;simp only at h1 h2;omega]
        | simp only [aR,seval,c4,c7]
          (repeat (with_reducible refine And.intro ?_ ?_;focus (first|omega|exact kD|kernel_rfl)))
          rw[zD fun S=>by have h1:=kBZ (N S).valid;have h2:=(N S).cnt;simp only at h1 h2;omega]
     first
      | simp only [aR,seval,c4,c7,eq_true he]
        (repeat (with_reducible refine And.intro ?_ ?_;focus (first|omega|exact kD|kernel_rfl)))
      | simp only [aR,seval,c4,c7]
        (repeat (with_reducible refine And.intro ?_ ?_;focus (first|omega|exact kD|kernel_rfl)))
     refine kBM (by simp[kH]) (by omega) ?_
     cases hv:(pts tx).isSome
     ·simp only[aR,seval,hv]
      (repeat (with_reducible refine And.intro ?_ ?_;focus (first|omega|exact kD|kernel_rfl)))
      rw[zD fun S=>by have:=(N S).valid;simp only at this;rw[hv]at this;cases this]
     simp only[aR,seval,hv]
     (repeat (with_reducible refine And.intro ?_ ?_;focus (first|omega|exact kD|kernel_rfl)))
     refine kEu (by simp[kH]) (by omega) ?_
     by_cases c8:(cnt tx:Int) > 2000
     ·simp only[aR,seval,c8]
      (repeat (with_reducible refine And.intro ?_ ?_;focus (first|omega|exact kD|kernel_rfl)))
      rw[zD fun S=>by have:=(N S).cnt;simp only at this;omega]
     by_cases c9:s+(cnt tx:Int) > 10000
     ·simp only[aR,seval,c8,c9,kC (n:=s+(cnt tx:Int)) (by omega) (by omega)]
      (repeat (with_reducible refine And.intro ?_ ?_;focus (first|omega|exact kD|kernel_rfl)))
      rw[zD fun S=>by have:=N2 S;omega]
     by_cases c10:par=0
     ·simp only[aR,seval,c8,c9,c10,kC (n:=s+(cnt tx:Int)) (by omega) (by omega),kC (n:=((k+1:Nat):Int)+1) (by omega) (by omega)]
      (repeat (with_reducible refine And.intro ?_ ?_;focus (first|omega|exact kD|kernel_rfl)))
      have cx:=nx ⟨⟨by simp only;omega,by simp only;omega⟩,hnm,c4,fun hdd=>(by first|assumption|cases hdd),hv,by simp only;omega,.inl c10⟩
      refine kN ⟨(s+(cnt tx:Int),k+1+1),by simp only;omega,by simp only;omega,srt1,(by have h5:=tx1;(try simp only[Nat.zero_add]at h5);simp only;omega),cx⟩ (by simp only;omega) ?_
      rw[hSt];refine kQ [] [] ?_
      simp only[aR,seval]<;>((repeat' apply And.intro)<;>first|rfl|omega|trivial|(simp[kBf];done))
     simp only[aR,seval,c8,c9,c10,kC (n:=s+(cnt tx:Int)) (by omega) (by omega)]
     (repeat (with_reducible refine And.intro ?_ ?_;focus (first|omega|exact kD|kernel_rfl)))
     refine kBo (by simp[kH]) rfl (by omega) ?_
     by_cases c11:ndx par l < l.length
     case neg =>
      simp only[aR,seval,ndI,if_neg c11]
      (repeat (with_reducible refine And.intro ?_ ?_;focus (first|omega|exact kD|kernel_rfl)))
      rw[zD fun S=>by rcases (N S).par with h1|h1;exact c10 h1;exact c11 h1.1]
     have e4:=qA l c11
     have hg:l.getD (ndx par l) kAb=l[ndx par l]:=by rw[List.getD_eq_getElem?_getD,List.getElem?_eq_getElem c11];rfl
     generalize l[ndx par l]=y at *
     obtain ⟨yid,ypar,ynm,ydir,ytx⟩:=y
     have hnn:((ndx par l:Int) < 0)=False:=eq_false (by omega)
     cases ydir
     ·simp only[aR,seval,ndI,if_pos c11,e4,nA,hnn,kK]
      (repeat (with_reducible refine And.intro ?_ ?_;focus (first|omega|exact kD|kernel_rfl)))
      rw[zD fun S=>by rcases (N S).par with h1|h1;exact c10 h1;have:=h1.2.1;simp only at this;rw[hg]at this;cases this]
     simp only[aR,seval,ndI,if_pos c11,e4,nA,hnn,kK]
     (repeat (with_reducible refine And.intro ?_ ?_;focus (first|omega|exact kD|kernel_rfl)))
     refine kEV (by simp[kH]) rfl (by omega) ?_
     cases hw:zQ l par id
     case true =>
      simp only[aR,seval]
      (repeat (with_reducible refine And.intro ?_ ?_;focus (first|omega|exact kD|kernel_rfl)))
      rw[zD fun S=>by rcases (N S).par with h1|h1;exact c10 h1;have:=h1.2.2;simp only at this;rw[hw]at this;cases this]
     simp only[aR,seval,kC (n:=((k+1:Nat):Int)+1) (by omega) (by omega)]
     (repeat (with_reducible refine And.intro ?_ ?_;focus (first|omega|exact kD|kernel_rfl)))
     have cx:=nx ⟨⟨by simp only;omega,by simp only;omega⟩,hnm,c4,fun hdd=>(by first|assumption|cases hdd),hv,by simp only;omega,.inr ⟨c11,by simp only;rw[hg],hw⟩⟩
     refine kN ⟨(s+(cnt tx:Int),k+1+1),by simp only;omega,by simp only;omega,srt1,(by have h5:=tx1;(try simp only[Nat.zero_add]at h5);simp only;omega),cx⟩ (by simp only;omega) ?_
     rw[hSt];refine kQ [] [] ?_
     simp only[aR,seval]<;>((repeat' apply And.intro)<;>first|rfl|omega|trivial|(simp[kBf];done))
 ·simp only[aR,seval,h,kK]
  rw[List.take_of_length_le (by omega)]at hb hst hck
  rw[yes_snd (snd_of hb (by omega) (by omega) hck)]
end Go.Proofs
end
-- ETr23
section
namespace Go.Proofs
open Go Go.Rw
set_option maxRecDepth 100000
section
variable {Γ:Env} {n:Nat} {t:Nat→AV} {hd:Nat→Nat→AV} {d:Option Nat} {K:AS→Prop}
variable {nh nl:Nat} {h:Nat→Option AO} {fm:Nat→Nat} {lv:Nat→Option (Nat×Nat)} {mu:Bool}
theorem call_tload (hC:Γ.get 15=none) {l:List Nd} {xs:List AV} (hx:xs=k6 l) (hl:l.length≤1000000) (ht:∀ x∈l,x.nm.length≤1099511627776∧x.text.length≤1099511627776)
    (hk1:sndN l→∀ s:TS,s.l=l→cont ⟨n,t,hd,⟨nh+2,upd (upd h nh (some (.cells [.mp (nh+1)]))) (nh+1) (some (.map s.es s.cl)),nl,fm,lv,mu⟩⟩ d (.tup [.ptr nh 0,.v (.int .i64 0)]) K)
    (hk2:¬ sndN l→cont ⟨n,t,hd,⟨nh,h,nl,fm,lv,mu⟩⟩ d (.tup [.v (.pointer none),.v (.int .i64 1)]) K):kS Tryz.prog Γ false ⟨n,t,hd,⟨nh,h,nl,fm,lv,mu⟩⟩ 15 [.sl 0 5 xs] d K:=by
 subst hx
 refine vc_obj tload_good hC ⟨l,hl,ht⟩ [] ⟨by simp,by simp[dnL,dn],by simp[dnOs],by simp[AV.tagsL,AV.tags],rfl⟩ ?_
 rintro objs lvs r ⟨rfl,hp⟩ hll
 rcases hp with ⟨hS,s,hs,rfl,rfl⟩|⟨hS,rfl,rfl⟩
 ·have:=hk1 hS s hs
  have e3:(tsO (some s)).length - ([]:List Nat).length=2:=rfl
  rw[e3]
  simp only[tsO,j7,kAH,kAB,kBk,kAL,kBD,kFj,kBm,kBy,kD3,j8,kAp,kAE,kAQ,kAC,kEk,emb_tup,emb_v,List.length_nil,Nat.add_zero]
  exact this
 ·have:=hk2 hS
  simp only[kAH,kAE,kAQ,kAC,emb_tup,kAL,kBD,emb_v,List.length_nil,Nat.add_zero,Nat.sub_zero]
  exact this
end
theorem small_nodes {t:List Nd} {l:List Ac} (h:kDk t l=true):t.length≤4000∧∀ x∈t,x.nm.length≤4000∧x.text.length≤4000:=by
 obtain ⟨h1,_,_⟩:=of_decide_eq_true h
 obtain ⟨h2,h3⟩:=nF_le (by omega) t (Int.le_refl 0) h1
 exact ⟨by omega,fun x hx=>by have:=h3 x hx;omega⟩
end Go.Proofs
end
-- ETr24
section
namespace Go.Proofs
open Go Go.Rw
set_option maxRecDepth 100000
theorem allN_go {t:List Nd} {l:List Ac} (h:(allN t l).e=0):txnE l=0∧allN t l=allF t l 0:=by
 unfold allN at h ⊢
 by_cases hc:txnE l≠0
 ·rw[if_pos hc]at h;exact absurd h hc
 ·rw[if_neg hc];exact ⟨Decidable.not_not.1 hc,rfl⟩
-- what is not touched
theorem far_one {l:List Nd} (S:sndN l) {a:Ac} (h0:(doN l a).2=0) {i:Int} (h:i ∉ kAU a):atI i (doN l a).1=atI i l:=by
 rw[(kFN h0 S.srt).2,if_neg]
 rintro rfl
 exact h (List.mem_cons_self ..)
theorem far_all:∀ (l:List Ac) (t:List Nd) (k:Nat),sndN t→(allF t l k).e=0→∀ i,(∀ a∈l,i ∉ kAU a)→atI i (allF t l k).now=atI i t
 | [],t,k,_,_,i,_=>rfl
 | a::l,t,k,S,h,i,hi=>by
   unfold allF at h ⊢
   by_cases hx:(doN t a).2≠0
   ·rw[if_pos hx]at h;exact absurd h hx
   ·rw[if_neg hx]at h ⊢
    rw[far_all l _ _ (snd_do S a) h i fun b hb=>hi b (List.mem_cons_of_mem _ hb),far_one S (Decidable.not_not.1 hx) (hi a (List.mem_cons_self ..))]
theorem apart_law {t:List Nd} {l:List Ac} (S:sndN t) (h:(allN t l).e=0) {i:Int} (hi:i ∉ kAa [] l):gN (allN t l).now i=gN t i∧hasN (allN t l).now i=hasN t i:=by
 obtain ⟨_,h2⟩:=allN_go h
 rw[h2]at h ⊢
 have:=far_all l t 0 S h i fun a ha hn=>hi ((kEw l [] i).2 (.inr ⟨a,ha,hn⟩))
 rw[kEi,kEi,kAg,kAg,this]
 exact ⟨rfl,rfl⟩
end Go.Proofs
end
-- ETr25
section
namespace Go.Proofs
open Go Go.Rw
set_option maxRecDepth 100000
section
variable {Γ:Env} {n:Nat} {t:Nat→AV} {hd:Nat→Nat→AV} {d:Option Nat} {K:AS→Prop}
variable {nh nl:Nat} {h:Nat→Option AO} {fm:Nat→Nat} {lv:Nat→Option (Nat×Nat)} {mu:Bool}
end
end Go.Proofs
end
-- ETr26
section
namespace Go.Proofs
open Go Go.Rw
set_option maxRecDepth 100000
theorem ndI_hasN {l:List Nd} {id:Int}:decide (ndI id l ≥ 0)=hasN l id:=by
 unfold hasN ndI
 by_cases h:ndx id l < l.length
 ·rw[if_pos h];simp[h]
 ·rw[if_neg h];simp[h]
theorem kCA {l:List Int} {i:Nat} (h:i < l.length):(ints .i64 l).getD i .any = .v (.int .i64 l[i]):=by simp[ints,List.getD_eq_getElem?_getD,h]
theorem zV {l:List Int}:(ints .i64 l).length=l.length:=by simp[ints]
abbrev apart14Con:Con where
 ι:=GivenN×GivenAB
 args:=fun p=>[.sl 0 5 (k6 p.1.1),.sl 0 6 (acts p.2.1)]
 post:=fun _ r=>r = .v (.bool true)
 plain:=true
set_option maxHeartbeats 4000000 in
theorem apart14_good:Rw.Good Tryz.prog 12 apart14Con:=by
 have hΓ:kM Tryz.prog [(32,kDy),(36,kBs),(16,kE1),(44,kFE),(48,kBi)]:=(kI awake14_good (kI small14_good (kI xsound_good (kI ptouch_good (kI kD5 kJ)))))
 refine kC8 (nn:=165) Tryz.func12 (by kernel_rfl) rfl (show Tryz.f12.results.toList=[.tmp 4] from rfl) (fun _=>rfl) (fun x=>by simp[AV.erL,AV.er,kBO,kAN]) ?_
 rintro ⟨⟨t,ht,htc⟩,⟨l,hl,hlc⟩⟩
 have hlb:∀ a∈l,bndA a:=fun a ha=>(hlc a ha).2
 have hlc:∀ a∈l,a.nm.length≤9223372036854775807∧kFF a.ops:=fun a ha=>(hlc a ha).1
 refine qR hΓ (Ws:=[]) _ ?_
 simp only[aR,seval,kA,kB,]
 refine call_small14 (by simp[kH]) rfl rfl ht htc hl hlc ?_
 rcases Bool.eq_false_or_eq_true (kDk t l) with h1|h1
 case inr =>
  simp only[aR,seval,kA,kB,h1]
  refine kA8 (by simp[kH]) ?_
  simp only[aR,seval,kA,kB,]
 obtain ⟨ll,lok⟩:=small_acts h1 hlc
 obtain ⟨tl,tc⟩:=small_nodes h1
 simp only[aR,seval,kA,kB,h1]
 refine kP (C:=kE1) (i:=⟨t,by omega,fun x hx=>by have:=tc x hx;omega⟩) (by simp[kH]) rfl rfl rfl (by simp[AV.erL,AV.er,kBO]) (fun _ h=>h) rfl ?_
 simp only
 rcases Bool.eq_false_or_eq_true (sndB t) with h2|h2
 case inr =>
  simp only[aR,seval,kA,kB,h2]
  refine kA8 (by simp[kH]) ?_
  simp only[aR,seval,kA,kB,]
 have hS:=of_sndB h2
 simp only[aR,seval,kA,kB,h2]
 refine kAq (C:=kFE) (i:=⟨l,by omega,hlb⟩) (r:=.sl 0 1 (ints .i64 (kAa [] l))) (by simp[kH]) rfl rfl (by simp[AV.erL,AV.er,kAN]) rfl (fun _ h=>h) ?_
 have hris:risI (kAa [] l):=kEr l List.Pairwise.nil
 have tlen:=touch_len l []
 simp only[List.length_nil]at tlen
 have law:=fun h i hi=>apart_law (t:=t) (l:=l) hS h (i:=i) hi
 generalize kAa [] l=ids at *
 simp only[aR,seval,kA,kB,]
 obtain ⟨St,hSt⟩:∃ St:{ i:Nat // 1≤i∧i≤ids.length+1 }→AS,∀ i,St i=AS.of 165 [(0,.sl 0 5 (k6 t)),(1,.sl 0 6 (acts l)),(5,.sl 0 1 (ints .i64 ids)),(6,.v (.int .i64 i.1))] [] []:=⟨_,fun _=>rfl⟩
 refine kA9 ?_
 refine zK [] hΓ St (fun i=>ids.length+1 - i.1) ⟨1,by omega⟩ (by rw[hSt];refine kQ [] [] ?_;simp only[aR,seval,kA,kB,]<;>((repeat' apply And.intro)<;>first|rfl|omega|trivial)) ?_
 rintro ⟨i,hi1,hi⟩
 rw[hSt]
 simp only
 simp only[aR,seval,kA,kB,zV]
 (with_reducible first|refine kE (fun h=>?_) (fun h=>?_)|refine kG (fun h=>?_) (fun h=>?_))
 ·have hlt:i < ids.length:=by omega
  obtain ⟨j,rfl⟩:∃ j,i=j+1:=⟨i - 1,by omega⟩
  have e1:=kCA hlt
  have e2:=kCA (l:=ids) (i:=j) (by omega)
  have hr:ids[j] < ids[j+1]:=List.pairwise_iff_getElem.1 hris j (j+1) (by omega) hlt (by omega)
  generalize ids[j+1]=y at *
  generalize ids[j]'(by omega)=x at *
  simp only[aR,seval,kA,kB,h,e1,e2,zV,show ((j+1:Nat):Int) - 1=j by omega,kC (n:=(j:Int)) (by omega) (by omega),show (x ≥ y)=False from eq_false (by omega),kC (n:=((j+1:Nat):Int)+1) (by omega) (by omega)]
  (repeat (with_reducible refine And.intro ?_ ?_;focus (first|omega|exact kD|kernel_rfl)))
  refine kN ⟨j+2,by omega,by omega⟩ (by simp only;omega) ?_
  rw[hSt];refine kQ [] [] ?_
  simp only[aR,seval,kA,kB,]<;>((repeat' apply And.intro)<;>first|rfl|omega|trivial)
 simp only[aR,seval,kA,kB,h]
 refine call_tload (by simp[kH,k5]) rfl (by omega) (fun x hx=>by have:=tc x hx;omega) ?_ (fun hc=>absurd hS hc)
 intro _ s hs
 subst hs
 simp only[aR,seval,kA,kB,]
 (repeat (with_reducible refine And.intro ?_ ?_;focus (first|omega|exact kD|kernel_rfl)))
 refine kEp (s:=s) (o:=0) (ob:=1) (lt:=0) (by simp[kH,k5]) hS (by omega) lok (by simp[qK,upd]) ?_ ?_
 case refine_2 =>
  intro he
  simp only[aR,seval,kA,kB,he]
  (repeat (with_reducible refine And.intro ?_ ?_;focus (first|omega|exact kD|kernel_rfl)))
  refine kA8 (by simp[kH]) ?_
  simp only[aR,seval,kA,kB,he]
 intro he s1 hs1 hS1
 have law:=law he
 rw[← hs1]at law
 simp only[aR,seval,kA,kB,]
 (repeat (with_reducible refine And.intro ?_ ?_;focus (first|omega|exact kD|kernel_rfl)))
 obtain ⟨S1,hS1'⟩:∃ St:{ i:Nat // i≤s.l.length }→AS,∀ i,St i=AS.ofH 165 [(0,.sl 0 5 (k6 s.l)),(5,.sl 0 1 (ints .i64 ids)),(9,.ptr 0 0),(12,.v (.int .i64 i.1))] [] (tsO (some s1)) []:=⟨_,fun _=>rfl⟩
 refine kA9 ?_
 refine zK [] hΓ S1 (fun i=>s.l.length - i.1) ⟨0,by omega⟩ (by rw[hS1'];refine kZ [2,3] [] ?_;simp only[aR,seval,kA,kB,kF]<;>((repeat' apply And.intro)<;>first|rfl|omega|trivial)) ?_
 rintro ⟨i,hi⟩
 rw[hS1']
 simp only
 simp only[aR,seval,kA,kB,kF,kK]
 (with_reducible first|refine kE (fun h=>?_) (fun h=>?_)|refine kG (fun h=>?_) (fun h=>?_))
 ·have hlt:i < s.l.length:=by omega
  have e1:=qA s.l hlt
  have hmem:=List.getElem_mem hlt
  have hid:=kBt hmem
  have hg:=gN_self hS.srt hmem
  have law:=law s.l[i].id
  generalize s.l[i]=x at *
  simp only[aR,seval,kA,kB,kF,h]
  obtain ⟨S2,hS2'⟩:∃ St:{ k:Nat // k≤ids.length }→AS,∀ k,St k=AS.ofH 165 [(0,.sl 0 5 (k6 s.l)),(5,.sl 0 1 (ints .i64 ids)),(9,.ptr 0 0),(12,.v (.int .i64 i)),(13,.v (.bool (decide (x.id∈ids.take k.1)))),(14,.v (.int .i64 k.1))] [] (tsO (some s1)) []:=⟨_,fun _=>rfl⟩
  refine kA9 ?_
  refine zK [] hΓ S2 (fun k=>ids.length - k.1) ⟨0,by omega⟩ (by rw[hS2'];refine kZ [0,1] [] ?_;simp only[aR,seval,kA,kB,kF]<;>((repeat' apply And.intro)<;>first|rfl|omega|trivial)) ?_
  rintro ⟨k,hk⟩
  rw[hS2']
  simp only
  simp only[aR,seval,kA,kB,kF,zV]
  (with_reducible first|refine kE (fun h3=>?_) (fun h3=>?_)|refine kG (fun h3=>?_) (fun h3=>?_))
  ·have hlt3:k < ids.length:=by omega
   have e3:=kCA hlt3
   have e4:=List.take_succ_eq_append_getElem hlt3
   generalize ids[k]=y at *
   by_cases hb:x.id∈ids.take k
   ·simp only[aR,seval,kA,kB,h3,e1,e3,hb,nA,kK,zV,kC (n:=(k:Int)+1) (by omega) (by omega)]
    (repeat (with_reducible refine And.intro ?_ ?_;focus (first|omega|exact kD|kernel_rfl)))
    refine kN ⟨k+1,by omega⟩ (by simp only;omega) ?_
    rw[hS2'];refine kZ [0,1] [] ?_
    simp only[aR,seval,kA,kB,kF,e4,hb,List.mem_append]<;>((repeat' apply And.intro)<;>first|rfl|omega|trivial)
   ·by_cases hy:y=x.id
    ·simp only[aR,seval,kA,kB,h3,e1,e3,hb,hy,nA,kK,zV,kC (n:=(k:Int)+1) (by omega) (by omega)]
     (repeat (with_reducible refine And.intro ?_ ?_;focus (first|omega|exact kD|kernel_rfl)))
     refine kN ⟨k+1,by omega⟩ (by simp only;omega) ?_
     rw[hS2'];refine kZ [0,1] [] ?_
     simp only[aR,seval,kA,kB,kF,e4,hb,hy,List.mem_append]<;>((repeat' apply And.intro)<;>first|rfl|omega|trivial)
    ·simp only[aR,seval,kA,kB,h3,e1,e3,hb,hy,nA,kK,zV,kC (n:=(k:Int)+1) (by omega) (by omega)]
     (repeat (with_reducible refine And.intro ?_ ?_;focus (first|omega|exact kD|kernel_rfl)))
     refine kN ⟨k+1,by omega⟩ (by simp only;omega) ?_
     rw[hS2'];refine kZ [0,1] [] ?_
     simp only[aR,seval,kA,kB,kF,e4,hb,show (x.id=y)=False from eq_false (fun hc=>hy hc.symm),List.mem_append]<;>((repeat' apply And.intro)<;>first|rfl|omega|trivial)
  ·rw[List.take_of_length_le (show ids.length≤k by omega)]
   simp only[aR,seval,kA,kB,h3,e1,nA,kK]
   (repeat (with_reducible refine And.intro ?_ ?_;focus (first|omega|exact kD|kernel_rfl)))
   refine call_tget (s:=s1) (o:=0) (ob:=1) (by simp[kH,k5]) (by simp[qK,upd]) ?_
   by_cases hb:x.id∈ids
   ·simp only[aR,seval,kA,kB,hb,e1,nA,kK,kC (n:=(i:Int)+1) (by omega) (by omega)]
    (repeat (with_reducible refine And.intro ?_ ?_;focus (first|omega|exact kD|kernel_rfl)))
    refine kN ⟨i+1,by omega⟩ (by simp only;omega) ?_
    rw[hS1'];refine kZ [0,1] [] ?_
    simp only[aR,seval,kA,kB,kF]<;>((repeat' apply And.intro)<;>first|rfl|omega|trivial)
   ·obtain ⟨g1,g2⟩:=law hb
    rw[g1,g2,hg,hid]
    simp only[aR,seval,kA,kB,hb,e1,nA,kK,node_neq,decide_true,kC (n:=(i:Int)+1) (by omega) (by omega)]
    (repeat (with_reducible refine And.intro ?_ ?_;focus (first|omega|exact kD|kernel_rfl)))
    refine kN ⟨i+1,by omega⟩ (by simp only;omega) ?_
    rw[hS1'];refine kZ [0,1] [] ?_
    simp only[aR,seval,kA,kB,kF]<;>((repeat' apply And.intro)<;>first|rfl|omega|trivial)
 simp only[aR,seval,kA,kB,kF,h]
 (repeat (with_reducible refine And.intro ?_ ?_;focus (first|omega|exact kD|kernel_rfl)))
 refine kAF (s:=s1) (o:=0) (ob:=1) (by simp[kH,k5]) (snd_ok hS1).1 (by simp[qK,upd]) ?_
 simp only[aR,seval,kA,kB,kF,kK]
 have tl1:=hS1.len
 have hin:∀ x∈s1.l,hasN s.l x.id=false→x.id∈ids:=fun x hx hn=>Decidable.not_not.1 fun hc=>by
  have:=(law x.id hc).2
  rw[kBt hx,hn]at this
  cases this
 obtain ⟨S3,hS3'⟩:∃ St:{ i:Nat // i≤s1.l.length }→AS,∀ i,St i=AS.ofH 165 [(0,.sl 0 5 (k6 s.l)),(5,.sl 0 1 (ints .i64 ids)),(17,.sl 0 5 (k6 s1.l)),(18,.v (.int .i64 i.1))] [] [] []:=⟨_,fun _=>rfl⟩
 refine kA9 ?_
 refine zK [] hΓ S3 (fun i=>s1.l.length - i.1) ⟨0,by omega⟩ (by rw[hS3'];refine kZ [] [] ?_;simp only[aR,seval,kA,kB,kF]<;>((repeat' apply And.intro)<;>first|rfl|omega|trivial)) ?_
 rintro ⟨i,hi⟩
 rw[hS3']
 simp only
 simp only[aR,seval,kA,kB,kF,kK]
 (with_reducible first|refine kE (fun h3=>?_) (fun h3=>?_)|refine kG (fun h3=>?_) (fun h3=>?_))
 rotate_left
 ·simp only[aR,seval,kA,kB,h3]
  refine kA8 (by simp[kH]) ?_
  simp only[aR,seval,kA,kB,]
 have hlt:i < s1.l.length:=by omega
 have e1:=qA s1.l hlt
 have hin:=hin _ (List.getElem_mem hlt)
 generalize s1.l[i]=x at *
 simp only[aR,seval,kA,kB,h3,e1,nA,kK]
 (repeat (with_reducible refine And.intro ?_ ?_;focus (first|omega|exact kD|kernel_rfl)))
 refine kBo (by simp[kH]) rfl (by omega) ?_
 have e2:=ndI_hasN (l:=s.l) (id:=x.id)
 simp only[aR,seval,kA,kB,e2]
 obtain ⟨S4,hS4'⟩:∃ St:{ k:Nat // k≤ids.length }→AS,∀ k,St k=AS.ofH 165 [(0,.sl 0 5 (k6 s.l)),(5,.sl 0 1 (ints .i64 ids)),(17,.sl 0 5 (k6 s1.l)),(18,.v (.int .i64 i)),(19,.v (.bool (hasN s.l x.id || decide (x.id∈ids.take k.1)))),(20,.v (.int .i64 k.1))] [] [] []:=⟨_,fun _=>rfl⟩
 refine kA9 ?_
 refine zK [] hΓ S4 (fun k=>ids.length - k.1) ⟨0,by omega⟩ (by rw[hS4'];refine kZ [] [] ?_;simp only[aR,seval,kA,kB,kF]<;>((repeat' apply And.intro)<;>first|rfl|omega|trivial)) ?_
 rintro ⟨k,hk⟩
 rw[hS4']
 simp only
 simp only[aR,seval,kA,kB,kF,zV]
 (with_reducible first|refine kE (fun h4=>?_) (fun h4=>?_)|refine kG (fun h4=>?_) (fun h4=>?_))
 ·have hlt3:k < ids.length:=by omega
  have e3:=kCA hlt3
  have e4:=List.take_succ_eq_append_getElem hlt3
  generalize ids[k]=y at *
  have e5:(hasN s.l x.id || decide (x.id∈ids.take (k+1)))=((hasN s.l x.id || decide (x.id∈ids.take k)) || decide (y=x.id)):=by
   rw[e4,Bool.eq_iff_iff]
   simp only[List.mem_append,List.mem_singleton,Bool.or_eq_true,decide_eq_true_eq]
   rw[or_assoc,eq_comm (a:=x.id)]
  generalize (hasN s.l x.id || decide (x.id∈ids.take k))=b at *
  cases b
  ·by_cases hy:y=x.id
   ·simp only[aR,seval,kA,kB,h4,e1,e3,hy,nA,kK,zV,kC (n:=(k:Int)+1) (by omega) (by omega)]
    (repeat (with_reducible refine And.intro ?_ ?_;focus (first|omega|exact kD|kernel_rfl)))
    refine kN ⟨k+1,by omega⟩ (by simp only;omega) ?_
    rw[hS4',e5];refine kZ [] [] ?_
    simp only[aR,seval,kA,kB,kF,hy]<;>((repeat' apply And.intro)<;>first|rfl|omega|trivial)
   ·simp only[aR,seval,kA,kB,h4,e1,e3,hy,nA,kK,zV,kC (n:=(k:Int)+1) (by omega) (by omega)]
    (repeat (with_reducible refine And.intro ?_ ?_;focus (first|omega|exact kD|kernel_rfl)))
    refine kN ⟨k+1,by omega⟩ (by simp only;omega) ?_
    rw[hS4',e5];refine kZ [] [] ?_
    simp only[aR,seval,kA,kB,kF,hy]<;>((repeat' apply And.intro)<;>first|rfl|omega|trivial)
  ·simp only[aR,seval,kA,kB,h4,e1,e3,nA,kK,zV,kC (n:=(k:Int)+1) (by omega) (by omega)]
   (repeat (with_reducible refine And.intro ?_ ?_;focus (first|omega|exact kD|kernel_rfl)))
   refine kN ⟨k+1,by omega⟩ (by simp only;omega) ?_
   rw[hS4',e5];refine kZ [] [] ?_
   simp only[aR,seval,kA,kB,kF]<;>((repeat' apply And.intro)<;>first|rfl|omega|trivial)
 ·rw[List.take_of_length_le (show ids.length≤k by omega)]
  have e5:(hasN s.l x.id || decide (x.id∈ids))=true:=by
   rcases Bool.eq_false_or_eq_true (hasN s.l x.id) with hh|hh
   ·rw[hh];rfl
   ·rw[decide_eq_true (hin hh),Bool.or_true]
  simp only[aR,seval,kA,kB,h4,e5,kC (n:=(i:Int)+1) (by omega) (by omega)]
  refine kN ⟨i+1,by omega⟩ (by simp only;omega) ?_
  rw[hS3'];refine kZ [] [] ?_
  simp only[aR,seval,kA,kB,kF]<;>((repeat' apply And.intro)<;>first|rfl|omega|trivial)
end Go.Proofs
end
-- EUeR
section
namespace Go.Proofs
open Go Go.Rw Go.RowKit Go.ChangeShapes Go.WideShapes Go.ChangeAt Go.Deep
set_option maxRecDepth 100000
theorem i64_rng {n:Int} (h:(Lit.int .i64 n).wf=true):-9223372036854775808≤n∧n≤9223372036854775807:=by
 simp[Lit.wf,IntKind.min,IntKind.max,IntKind.signed,IntKind.bits]at h;omega
abbrev tyC:Ty:=.st [.int .i64,.int .i64,.str]
abbrev tyA:Ty:=.st [.int .i64,.int .i64,.int .i64,.str,.bool,.slc tyC]
theorem fit_comp {ds:List AV} (h:Fits tyC ds):∃ c:Cp,kDJ tyC ds=cA c∧(-9223372036854775808≤c.n∧c.n≤9223372036854775807)∧c.t.length≤9223372036854775807:=by
 simp only[tyC,Fits,FitsL]at h
 obtain ⟨a,b,rfl,⟨k,rfl,hk⟩,a2,b2,rfl,⟨n,rfl,hn⟩,a3,b3,rfl,⟨t,rfl,ht⟩,rfl⟩:=h
 exact ⟨⟨k,n,t⟩,rfl,i64_rng hn,ht⟩
theorem fit_comps {cs:List AV} (h:Fits (.slc tyC) cs):∃ l:List Cp,cs=[.sl 0 3 (qC l)]∧kFF l:=by
 rw[Fits]at h
 obtain ⟨xs,rfl,h1,h2⟩:=h
 obtain ⟨l,rfl,h3⟩:=fits_map cA (fun c=>(-9223372036854775808≤c.n∧c.n≤9223372036854775807)∧c.t.length≤9223372036854775807) (fun ds hd=>fit_comp hd) xs h2
 exact ⟨l,rfl,by simpa using h1,h3⟩
section
variable {P:Program} {W:World} {H:Type} {enc:TypeId×Value→H}
end
end Go.Proofs
end
-- EUk11
section
namespace Go.Proofs
open Go Go.Rw
set_option maxRecDepth 100000
structure Cm where
 rev:Int
 client:Int
 seq:Int
 acs:List Ac
 deriving Inhabited,DecidableEq
end Go.Proofs
end
-- EUk13
section
namespace Go.Proofs
open Go Go.Rw
set_option maxRecDepth 100000
end Go.Proofs
end
-- EUkR
section
namespace Go.Proofs
open Go Go.Rw Go.RowKit Go.ChangeShapes Go.WideShapes Go.ChangeAt Go.Deep
set_option maxRecDepth 100000
abbrev tyN:Ty:=.st [.int .i64,.int .i64,.str,.bool,.str]
theorem fit_node {ds:List AV} (h:Fits tyN ds):∃ a:Nd,kDJ tyN ds=nA a∧a.nm.length≤9223372036854775807∧a.text.length≤9223372036854775807:=by
 simp only[tyN,Fits.eq_5,FitsL]at h
 obtain ⟨a,b,rfl,h1,a2,b2,rfl,h2,a3,b3,rfl,h3,a4,b4,rfl,h4,a5,b5,rfl,h5,rfl⟩:=h
 simp only[Fits]at h1 h2 h3 h4 h5
 obtain ⟨id,rfl,_⟩:=h1
 obtain ⟨par,rfl,_⟩:=h2
 obtain ⟨nm,rfl,hn⟩:=h3
 obtain ⟨dir,rfl⟩:=h4
 obtain ⟨tx,rfl,ht⟩:=h5
 exact ⟨⟨id,par,nm,dir,tx⟩,rfl,hn,ht⟩
theorem open_nodes {P:Program} {W:World} {H:Type} {enc:TypeId×Value→H} {t:TypeId} {v:Value} {d:DataW H} {p:List MemPlace} (ht:isTy P t (.slc tyN)=true) (hv:∃ A n c,v = .slice A n c) (h:DataW.Trod enc P W 0 (fun _=>true) true t v d p) :
    ∃ l:List Nd,l.length≤9223372036854775807∧(∀ a∈l,a.nm.length≤9223372036854775807∧a.text.length≤9223372036854775807)∧VR (Gin (Fw W) none) W v (.sl 0 5 (k6 l)) :=
 arg_slc nA _ (fun ds hd=>fit_node hd) ht hv h
end Go.Proofs
end
