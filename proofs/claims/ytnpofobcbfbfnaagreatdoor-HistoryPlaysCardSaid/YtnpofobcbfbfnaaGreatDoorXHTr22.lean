/-
 A tree of kT: what Load takes is what is qY. TxnAsks answers true. Is a tree qY: just so. TxnDoes answers true. HistoryPlays answers true. Acts,and what was done,given: opened. A tree given,commits given: opened.
-/
import Derived.Test.YtnpofobcbfbfnaaGreatDoorXHTh5
import Derived.Test.YtnpofobcbfbfnaaGreatDoorXHTr9
import Derived.Test.YtnpofobcbfbfnaaGreatDoorXHUk5
import Derived.Test.YtnpofobcbfbfnaaGreatDoorRwI
set_option linter.unusedSimpArgs false
set_option linter.unusedVariables false
set_option linter.unusedSectionVars false

set_option maxRecDepth 100000
-- HTr22
namespace Go.Proofs
open Go Go.Rw
theorem set_end {x:Nd}:∀ {m:List Nd},(∀ y∈m,y.id < x.id)→setT x m=m++[x]:=fun {m} h=>by
 have h1:hasN m x.id=false:=by
  rcases Bool.eq_false_or_eq_true (hasN m x.id) with hh|hh
  ·obtain ⟨h2,h3⟩:=kBo hh
   have:=h _ h2
   omega
  ·exact hh
 have h2:∀ {m:List Nd},(∀ y∈m,y.id < x.id)→atN x.id m=m.length:=fun {m}=>by
  induction m with
  | nil=>intro _;rfl
  | cons y m ih =>
    intro h
    rw[atN,if_pos (h y (List.mem_cons_self ..)),ih fun z hz=>h z (List.mem_cons_of_mem _ hz)];rfl
 unfold setT
 rw[h1,if_neg (by decide),h2 h,List.take_length,List.drop_length]
abbrev Ld1 (l:List Nd):={ p:Nat×TS×Int // p.1≤l.length∧p.2.1.l=l.take p.1∧(∀ x∈l.take p.1,okNd x∧x.id≤p.2.2)∧(0≤p.2.2∧p.2.2≤1099511627776)∧(p.2.2=0∨∃ x∈l.take p.1,x.id=p.2.2) }
def kOf (x:Nd):Ky:=(x.par,x.nm)
structure NS where
 es:Array MapEntry
 cl:Nat
 ps:List (Ky×Int)
 h:NM es cl ps
def NI (l:List Nd) (i:Nat) (ps:List (Ky×Int)):Prop:=(∀ k,k∈ps.map Prod.fst↔k∈(l.take i).map kOf)∧((ps.length=i∧((l.take i).map kOf).Nodup)∨(ps.length < i∧¬ ((l.take i).map kOf).Nodup))
def goodP (l:List Nd) (x:Nd):Prop:=(x.par=0∨(gN l x.par).dir=true)∧kAZ l l.length x.id=true
abbrev Ld2 (l:List Nd):={ p:Nat×NS // p.1≤l.length∧(∀ x∈l.take p.1,goodP l x)∧NI l p.1 p.2.ps }
abbrev tloadCon:ConO where
 ι:={ l:List Nd // l.length≤1000000∧∀ x∈l,x.nm.length≤1099511627776∧x.text.length≤1099511627776 }
 objs:=fun _=>[]
 args:=fun p=>[.sl 0 5 (kT p.1)]
 post:=fun p objs lvs r=>lvs=[]∧((sndN p.1∧∃ s:TS,s.l=p.1∧objs=tsO (some s)∧r = .tup [.ptr 0 0,.v (.int .i64 0)])∨(¬ sndN p.1∧objs=[]∧r = .tup [.v (.pointer none),.v (.int .i64 1)]))
theorem steady_nm {σ:AS} {ob:Nat} {m:NS} (hob:σ.m.h ob=some (.map m.es m.cl)) {p:Ky} {es':Array MapEntry} {cl':Nat} (h':NM es' cl' (layK p m.ps)) :
    kFp Tryz.prog σ ob (.map es' cl') 93 (.agg [.v (.int .i64 0),.v (.int .i64 p.1),.v (sv p.2),.v (.bool false),.v (sv [])]):=by
 intro r hr
 have hk:keyT Tryz.prog 93=none:=by kernel_rfl
 have tv:toV (.agg [.v (.int .i64 0),.v (.int .i64 p.1),.v (sv p.2),.v (.bool false),.v (sv [])])=some (kV p):=rfl
 have e:(σ.m.setObj ob (.map es' cl')).h ob=some (.map es' cl'):=kU ..
 unfold kBu at hr ⊢
 simp only[hk,tv,lookK,hob,e]at hr ⊢
 rw[look_nm m.h]at hr
 rw[look_nm h',cnt_lay]
 exact hr
theorem lay_keys (p:Ky) (ps:List (Ky×Int)):(layK p ps).map Prod.fst=if p∈ps.map Prod.fst then ps.map Prod.fst else ps.map Prod.fst++[p]:=by
 unfold layK
 cases hf:fndP p ps 0 with
 | none=>rw [if_neg (kDw hf).1];simp
 | some q =>
   obtain ⟨i,v⟩:=q
   obtain ⟨j,c,_,h2,_,_⟩:=kEo hf
   rw[if_pos (List.mem_map.2 ⟨_,List.mem_of_getElem? h2,rfl⟩)];rfl
theorem set_keys {p:Ky} {ps:List (Ky×Int)} {i:Nat} {c c':Int} (hi:ps[i]? = some (p,c)):(ps.set i (p,c')).map Prod.fst=ps.map Prod.fst:=by
 have hlt:=(List.getElem?_eq_some_iff.1 hi).1
 rw[List.map_set]
 apply List.ext_getElem?
 intro j
 rw[List.getElem?_set]
 split
 ·rename_i hj
  subst hj
  rw[List.getElem?_map,hi,List.length_map,if_pos hlt];rfl
 ·rfl
theorem ni_step {l:List Nd} {i:Nat} {ps:List (Ky×Int)} {x:Nd} (h:NI l i ps) (hx:l.take (i+1)=l.take i++[x]) {ix:Nat} {c c':Int} (hg:(layK (kOf x) ps)[ix]? = some (kOf x,c)):NI l (i+1) ((layK (kOf x) ps).set ix (kOf x,c')):=by
 obtain ⟨h1,h2⟩:=h
 have e:=lay_keys (kOf x) ps
 have e2:=set_keys (c':=c') hg
 have hlen:((layK (kOf x) ps).set ix (kOf x,c')).length=(layK (kOf x) ps).length:=List.length_set
 have hlk:(layK (kOf x) ps).length=((layK (kOf x) ps).map Prod.fst).length:=by rw[List.length_map]
 unfold NI
 rw[e2,hlen,hlk,e,hx,List.map_append]
 by_cases hm:kOf x∈ps.map Prod.fst
 ·rw[if_pos hm]
  refine ⟨fun k=>?_,.inr ⟨by rw[List.length_map];rcases h2 with h2|h2<;>omega,fun hn=>?_⟩⟩
  ·rw[h1,List.mem_append]
   simp only[List.map_cons,List.map_nil,List.mem_singleton]
   constructor
   ·exact .inl
   ·rintro (h|rfl)
    ·exact h
    ·exact (h1 _).1 hm
  ·rw[List.nodup_append]at hn
   exact hn.2.2 _ ((h1 _).1 hm) _ (by simp) rfl
 ·rw[if_neg hm]
  refine ⟨fun k=>?_,?_⟩
  ·rw[List.mem_append,h1,List.mem_append];simp
  ·rw[List.length_append,List.length_map]
   rcases h2 with ⟨h3,h4⟩|⟨h3,h4⟩
   ·refine .inl ⟨by simp;omega,?_⟩
    rw[List.nodup_append]
    refine ⟨h4,by simp,fun a ha b hb=>?_⟩
    simp only[List.map_cons,List.map_nil,List.mem_singleton]at hb
    subst hb
    rintro rfl
    exact hm ((h1 _).2 ha)
   ·refine .inr ⟨by simp;omega,fun hn=>h4 ?_⟩
    rw[List.nodup_append]at hn
    exact hn.1
theorem still_troot {m:AM} {s:TS} (hl:s.l.length≤1000000) {id:Int} {o ob:Nat} (hT:qL m.h o ob s):Still Tryz.prog m 47 [.ptr o 0,.v (.int .i64 id)] (.v (.bool (kAZ s.l s.l.length id))):=by
 obtain ⟨h1,h2,h3⟩:=hT
 refine still_obj troot_good ⟨(s,id),hl⟩ [o,ob] (by simp[h3]) (by simp[dnL,dn]) ?_ rfl ?_ ?_ ?_
 ·simp only[tsO,kAV,kBE,h1,h2,jP,kBc,kAz,kBx,dn_mp]
  simp
 ·simp[z7,j3,h1,h2,kDt,AO.tags,AV.tagsL,AV.tags]
 ·intro nh nl j o' x y ho hx hy
  match j,ho,hx with
  | 0,ho,hx=>cases ho;simp [tsO] at hx;subst hx;rw [h1] at hy;cases hy;rfl
  | 1,ho,hx=>cases ho;simp [tsO] at hx;subst hx;rw [h2] at hy;cases hy;rfl
  | j+2,ho,hx=>cases ho
 ·rintro objs lvs r ⟨h4,h5,h6⟩
  exact ⟨h4,h5,h6,rfl⟩
theorem vq_root {Γ:Env} {n:Nat} {t:Nat→AV} {hd:Nat→Nat→AV} {d:Option Nat} {K:AS→Prop} {nh nl:Nat} {h:Nat→Option AO} {fm:Nat→Nat} {lv:Nat→Option (Nat×Nat)} {mu:Bool} (hC:Γ.get 47=none) {s:TS} (hl:s.l.length≤1000000) {id:Int} {o ob:Nat} (hT:qL h o ob s)
    (hk:cont ⟨n,t,hd,⟨nh,h,nl,fm,lv,mu⟩⟩ d (.v (.bool (kAZ s.l s.l.length id))) K):callQ.callQ2 Tryz.prog Γ d K ⟨n,t,hd,⟨nh,h,nl,fm,lv,mu⟩⟩ (Γ.get 47) 47 [.ptr o 0,.v (.int .i64 id)]:=by
 rw[hC]
 exact ⟨_,still_troot hl hT,hk⟩
theorem snd_keys {l:List Nd} (S:sndN l):(l.map kOf).Nodup:=by
 have h:=S.srt
 unfold srtN at h
 rw[List.pairwise_map]at h
 rw[List.nodup_iff_pairwise_ne,List.pairwise_map,List.pairwise_iff_getElem]
 intro i j hi hj hij he
 have h1:=List.pairwise_iff_getElem.1 h i j hi hj hij
 simp only[kOf,Prod.mk.injEq]at he
 have:=S.sib _ (List.getElem_mem hi) _ (List.getElem_mem hj) he.1 he.2
 omega
theorem root_up {l:List Nd}:∀ (n:Nat) (i:Int),kAZ l n i=true→∃ k,upN l k i=0
 | 0,i,h=>⟨0,of_decide_eq_true h⟩
 | n+1,i,h=>by
   rw[kAZ]at h
   split at h
   ·exact ⟨0,by assumption⟩
   ·obtain ⟨k,hk⟩:=root_up n _ h
    exact ⟨k+1,hk⟩
theorem tot_le {l:List Nd} (h:∀ x∈l,cnt x.text≤2000):totN l≤2000 * l.length:=by
 induction l with
 | nil=>simp [totN]
 | cons x l ih =>
   have h1:=h x (List.mem_cons_self ..)
   have h2:=ih fun y hy=>h y (List.mem_cons_of_mem _ hy)
   simp only[totN,List.length_cons];omega
theorem load_snd {l:List Nd} (hs:srtN l) (hl:l.length≤100) (hn:∀ x∈l,okNd x) (ht:totN l≤10000) (hk:(l.map kOf).Nodup) (hg:∀ x∈l,goodP l x):sndN l:=by
 refine ⟨hs,hl,hn,ht,fun x hx y hy h1 h2=>?_,fun x hx=>?_,fun x hx=>root_up _ _ (hg x hx).2⟩
 ·obtain ⟨i,hi,rfl⟩:=List.getElem_of_mem hx
  obtain ⟨j,hj,rfl⟩:=List.getElem_of_mem hy
  have he:kOf l[i]=kOf l[j]:=by simp only[kOf,h1,h2]
  rw[List.nodup_iff_pairwise_ne,List.pairwise_map,List.pairwise_iff_getElem]at hk
  rcases Nat.lt_trichotomy i j with h3|h3|h3
  ·exact absurd he (hk i j hi hj h3)
  ·subst h3;rfl
  ·exact absurd he.symm (hk j i hj hi h3)
 ·rcases (hg x hx).1 with h3|h3
  ·exact .inl h3
  ·refine .inr ⟨?_,h3⟩
   rcases Bool.eq_false_or_eq_true (hasN l x.par) with h4|h4
   ·exact h4
   ·rw[gN_at]at h3
    rw[kCT]at h4
    cases h5:atI x.par l with
    | none=>rw [h5] at h3;cases h3
    | some y=>rw [h5] at h4;simp at h4
set_option maxHeartbeats 4000000 in
theorem tload_good:kAJ Tryz.prog 25 tloadCon:=by
 have hΓ:kK Tryz.prog [(46,okNCon)]:=(kG okn_good kI)
 refine qQ (nn:=92) Tryz.func25 (by kernel_rfl) rfl (show Tryz.f25.results.toList=[.tmp 2,.tmp 3] from rfl) (fun _=>rfl) ?_
 rintro ⟨l,hl,ht⟩
 refine qU hΓ (Ws:=[]) _ ?_
 simp only[aR,seval,kA,kB,kH]
 refine call_tnew (by simp[kC,kQ]) ?_
 simp only[aR,seval,kA,kB,kH,kL]
 repeat (with_reducible refine And.intro ?_ ?_;focus first|omega|kernel_rfl)
 obtain ⟨St,hSt⟩:∃ St:Ld1 l→AS,∀ p,St p=AS.ofH 92 [(0,.sl 0 5 (kT l)),(4,.ptr 0 0),(5,.v (.int .i64 p.1.2.2)),(12,.sl 0 5 (kT l)),(13,.v (.int .i64 l.length)),(14,.v (.int .i64 p.1.1))] [] (tsO (some p.1.2.1)) []:=⟨_,fun _=>rfl⟩
 refine kBG ?_
 refine zX [] hΓ St (fun p=>l.length - p.1.1) ⟨(0,⟨#[],0,[],tm_empty⟩,0),by simp only;omega,by simp,by simp,by simp only;omega,.inl rfl⟩ (by rw[hSt];refine qC [0,1] [] ?_;simp only[aR,seval,kA,kB,kH]<;>(and_intros<;>first|rfl|omega|trivial)) ?_
 rintro ⟨⟨i,s,last⟩,hi,hs,hok,hlast,hex⟩
 simp only at hi hs hok hlast hex
 rw[hSt]
 simp only
 simp only[aR,seval,kA,kB,kH,kL]
 (with_reducible first|refine kE (fun h=>?_) (fun h=>?_)|refine kF (fun h=>?_) (fun h=>?_))
 ·have hlt:i < l.length:=by omega
  have e1:=qB l hlt
  have hx:=ht l[i] (List.getElem_mem hlt)
  have hmem:=List.getElem_mem hlt
  have htk:=List.take_succ_eq_append_getElem hlt
  have hsrt:sndN l→∀ y∈l.take i,y.id < l[i].id:=fun S y hy=>by
   obtain ⟨j,hj,rfl⟩:=List.getElem_of_mem hy
   simp only[List.length_take]at hj
   have:=S.srt
   unfold srtN at this
   rw[List.pairwise_map]at this
   rw[List.getElem_take]
   exact List.pairwise_iff_getElem.1 this j i (by omega) hlt (by omega)
  generalize l[i]=x at *
  obtain ⟨id,par,nm,dir,tx⟩:=x
  simp only at hx hsrt
  simp only[aR,seval,kA,kB,kH,h,e1,nA,kL]
  repeat (with_reducible refine And.intro ?_ ?_;focus first|omega|kernel_rfl)
  refine kP (C:=okNCon) (i:=⟨⟨id,par,nm,dir,tx⟩,hx⟩) (by simp[kC]) rfl rfl rfl (by simp[AV.erL,AV.er,nA]) (fun _ h=>h) rfl ?_
  have fin:¬ sndN l→tloadCon.post ⟨l,hl,ht⟩ [] [] (.tup [.v (.pointer none),.v (.int .i64 1)]):=fun hn=>⟨rfl,.inr ⟨hn,rfl,rfl⟩⟩
  rcases Bool.eq_false_or_eq_true (okB ⟨id,par,nm,dir,tx⟩) with ho|ho
  case inr =>
   simp only[aR,seval,kA,kB,kH,ho]
   repeat (with_reducible refine And.intro ?_ ?_;focus first|omega|kernel_rfl)
   refine kW [] [] [] [] (.tup [.v (.pointer none),.v (.int .i64 1)]) (fin fun S=>by
    have:=(okB_iff _).2 ⟨(S.node _ hmem).id,(S.node _ hmem).nm,(S.node _ hmem).dir,(S.node _ hmem).valid,(S.node _ hmem).cnt⟩
    rw[ho]at this;cases this) ?_
   simp only[aR,seval,kA,kB,kH]<;>(and_intros<;>first|rfl|omega|trivial)
  have hnd:=(okB_iff _).1 ho
  have hid:=hnd.id
  simp only at hid
  by_cases hle:id≤last
  ·simp only[aR,seval,kA,kB,kH,ho,hle]
   repeat (with_reducible refine And.intro ?_ ?_;focus first|omega|kernel_rfl)
   refine kW [] [] [] [] (.tup [.v (.pointer none),.v (.int .i64 1)]) (fin fun S=>by
    rcases hex with hex|⟨y,hy,hye⟩
    ·omega
    ·have:=hsrt S y hy;omega) ?_
   simp only[aR,seval,kA,kB,kH]<;>(and_intros<;>first|rfl|omega|trivial)
  obtain ⟨es',cl',p1,p2⟩:=put_tm s.h ⟨id,par,nm,dir,tx⟩
  simp only[nV]at p1
  rw[hs,set_end (fun y hy=>by have:=(hok y hy).2;simp only;omega),← htk]at p2
  simp only[aR,seval,kA,kB,kH,ho,hle,p1,wO (n:=(i:Int)+1)]
  repeat (with_reducible refine And.intro ?_ ?_;focus first|omega|kernel_rfl)
  refine kN ⟨(i+1,⟨es',cl',l.take (i+1),p2⟩,id),by simp only;omega,rfl,?_,by simp only;omega,.inr ⟨⟨id,par,nm,dir,tx⟩,by simp only;rw[htk];simp,rfl⟩⟩ (by simp only;omega) ?_
  ·intro y hy
   simp only at hy ⊢
   rw[htk,List.mem_append,List.mem_singleton]at hy
   rcases hy with hy|rfl
   ·exact ⟨(hok y hy).1,by have:=(hok y hy).2;omega⟩
   ·exact ⟨hnd,by simp only;omega⟩
  ·rw[hSt];refine qC [0,1] [] ?_
   simp only[aR,seval,kA,kB,kH]<;>(and_intros<;>first|rfl|omega|trivial)
 ·have hi2:i=l.length:=by omega
  subst hi2
  rw[List.take_length]at hs hok
  have hok2:∀ x∈l,okNd x:=fun x hx=>(hok x hx).1
  have e1:=kBe s.h
  have e2:=kEZ s.h
  have hsr:=s.h.2
  rw[hs]at hsr e1 e2
  simp only[aR,seval,kA,kB,kH,h,kL]
  repeat (with_reducible refine And.intro ?_ ?_;focus first|omega|kernel_rfl)
  obtain ⟨St,hSt⟩:∃ St:Ld2 l→AS,∀ p,St p=AS.ofH 92 [(0,.sl 0 5 (kT l)),(4,.ptr 0 0),(8,.mp 2),(38,.sl 0 5 (kT l)),(39,.v (.int .i64 l.length)),(40,.v (.int .i64 p.1.1))] [] (tsO (some s)++[.map p.1.2.es p.1.2.cl]) []:=⟨_,fun _=>rfl⟩
  refine kBG ?_
  refine zX [] hΓ St (fun p=>l.length - p.1.1) ⟨(0,⟨#[],0,[],⟨rfl,rfl,by simp⟩⟩),by simp only;omega,by simp,by simp[NI]⟩ (by rw[hSt];refine qC [0,1,2] [] ?_;simp only[aR,seval,kA,kB,kH,kL,List.cons_append,List.nil_append]<;>(and_intros<;>first|rfl|omega|trivial)) ?_
  rintro ⟨⟨i,m⟩,hi,hg,hni⟩
  simp only at hi hg hni
  rw[hSt]
  simp only
  simp only[aR,seval,kA,kB,kH,kL,List.cons_append,List.nil_append]
  (with_reducible first|refine kE (fun h2=>?_) (fun h2=>?_)|refine kF (fun h2=>?_) (fun h2=>?_))
  ·have hlt:i < l.length:=by omega
   have e3:=qB l hlt
   have hmem:=List.getElem_mem hlt
   have htk:=List.take_succ_eq_append_getElem hlt
   generalize l[i]=x at *
   obtain ⟨id,par,nm,dir,tx⟩:=x
   simp only[aR,seval,kA,kB,kH,h2,e3,nA,kL]
   repeat (with_reducible refine And.intro ?_ ?_;focus first|omega|kernel_rfl)
   have fin:¬ sndN l→tloadCon.post ⟨l,hl,ht⟩ [] [] (.tup [.v (.pointer none),.v (.int .i64 1)]):=fun hn=>⟨rfl,.inr ⟨hn,rfl,rfl⟩⟩
   by_cases hp:par=0
   ·subst hp
    simp only[aR,seval,kA,kB,]
    repeat (with_reducible refine And.intro ?_ ?_;focus first|omega|kernel_rfl)
    refine vq_root (by simp[kC,kQ]) (s:=s) (o:=0) (ob:=1) (by rw[hs];omega) (by simp[qL,upd]) ?_
    rw[hs]
    rcases Bool.eq_false_or_eq_true (kAZ l l.length id) with hr|hr
    case inr =>
     simp only[aR,seval,kA,kB,hr]
     repeat (with_reducible refine And.intro ?_ ?_;focus first|omega|kernel_rfl)
     refine kW [] [] [] [] (.tup [.v (.pointer none),.v (.int .i64 1)]) (fin fun S=>by
      have:=(kFB S _).2 (rt_len S (.inr (kFY hmem)))
      simp only at this
      rw[hr]at this;cases this) ?_
     simp only[aR,seval,kA,kB,kH]<;>(and_intros<;>first|rfl|omega|trivial)
    have q1:lookS Tryz.prog 93 (.agg #[.int .i64 0,.int .i64 0,sv nm,.bool false,sv []]) m.es false=some (.v (.int .i64 (cntK (0,nm) m.ps))):=look_nm m.h (0,nm)
    obtain ⟨es',cl',ix,n1,n2,n3⟩:=ent_nm m.h (0,nm)
    simp only[aR,seval,kA,kB,hr,q1]
    repeat (with_reducible refine And.intro ?_ ?_;focus first|omega|kernel_rfl)
    refine ⟨m.es,m.cl,.map es' cl',_,rfl,n1,steady_nm (m:=m) (p:=(0,nm)) rfl n2,?_⟩
    simp only[aR,seval,kA,kB,hr]
    repeat (with_reducible refine And.intro ?_ ?_;focus first|omega|kernel_rfl)
    refine ⟨es',cl',ix,rfl,(put_nm n2 n3 (IntKind.wrap .i64 (cntK (0,nm) m.ps+1))).1,?_⟩
    simp only[aR,seval,kA,kB,hr,wO (n:=(i:Int)+1)]
    repeat (with_reducible refine And.intro ?_ ?_;focus first|omega|kernel_rfl)
    refine kN ⟨(i+1,⟨_,_,_,(put_nm n2 n3 (IntKind.wrap .i64 (cntK (0,nm) m.ps+1))).2⟩),by simp only;omega,?_,ni_step hni htk (x:=⟨id,0,nm,dir,tx⟩) n3⟩ (by simp only;omega) ?_
    ·intro y hy
     simp only at hy
     rw[htk,List.mem_append,List.mem_singleton]at hy
     rcases hy with hy|rfl
     ·exact hg y hy
     ·exact ⟨.inl rfl,hr⟩
    ·rw[hSt];refine qC [0,1,2] [] ?_
     simp only[aR,seval,kA,kB,kH,kL,List.cons_append,List.nil_append]<;>(and_intros<;>first|rfl|omega|trivial)
   ·rcases Bool.eq_false_or_eq_true (gN l par).dir with hdd|hdd
    case inr =>
     simp only[aR,seval,kA,kB,hp,e1,nA,hdd,kH0]
     repeat (with_reducible refine And.intro ?_ ?_;focus first|omega|kernel_rfl)
     refine kW [] [] [] [] (.tup [.v (.pointer none),.v (.int .i64 1)]) (fin fun S=>by
      rcases S.par _ hmem with h5|h5
      ·exact hp h5
      ·simp only at h5;rw[hdd]at h5;cases h5.2) ?_
     simp only[aR,seval,kA,kB,kH]<;>(and_intros<;>first|rfl|omega|trivial)
    simp only[aR,seval,kA,kB,hp,e1,nA,hdd,kH0]
    repeat (with_reducible refine And.intro ?_ ?_;focus first|omega|kernel_rfl)
    refine vq_root (by simp[kC,kQ]) (s:=s) (o:=0) (ob:=1) (by rw[hs];omega) (by simp[qL,upd]) ?_
    rw[hs]
    rcases Bool.eq_false_or_eq_true (kAZ l l.length id) with hr|hr
    case inr =>
     simp only[aR,seval,kA,kB,hr]
     repeat (with_reducible refine And.intro ?_ ?_;focus first|omega|kernel_rfl)
     refine kW [] [] [] [] (.tup [.v (.pointer none),.v (.int .i64 1)]) (fin fun S=>by
      have:=(kFB S _).2 (rt_len S (.inr (kFY hmem)))
      simp only at this
      rw[hr]at this;cases this) ?_
     simp only[aR,seval,kA,kB,kH]<;>(and_intros<;>first|rfl|omega|trivial)
    have q1:lookS Tryz.prog 93 (.agg #[.int .i64 0,.int .i64 par,sv nm,.bool false,sv []]) m.es false=some (.v (.int .i64 (cntK (par,nm) m.ps))):=look_nm m.h (par,nm)
    obtain ⟨es',cl',ix,n1,n2,n3⟩:=ent_nm m.h (par,nm)
    simp only[aR,seval,kA,kB,hr,q1]
    repeat (with_reducible refine And.intro ?_ ?_;focus first|omega|kernel_rfl)
    refine ⟨m.es,m.cl,.map es' cl',_,rfl,n1,steady_nm (m:=m) (p:=(par,nm)) rfl n2,?_⟩
    simp only[aR,seval,kA,kB,hr]
    repeat (with_reducible refine And.intro ?_ ?_;focus first|omega|kernel_rfl)
    refine ⟨es',cl',ix,rfl,(put_nm n2 n3 (IntKind.wrap .i64 (cntK (par,nm) m.ps+1))).1,?_⟩
    simp only[aR,seval,kA,kB,hr,wO (n:=(i:Int)+1)]
    repeat (with_reducible refine And.intro ?_ ?_;focus first|omega|kernel_rfl)
    refine kN ⟨(i+1,⟨_,_,_,(put_nm n2 n3 (IntKind.wrap .i64 (cntK (par,nm) m.ps+1))).2⟩),by simp only;omega,?_,ni_step hni htk (x:=⟨id,par,nm,dir,tx⟩) n3⟩ (by simp only;omega) ?_
    ·intro y hy
     simp only at hy
     rw[htk,List.mem_append,List.mem_singleton]at hy
     rcases hy with hy|rfl
     ·exact hg y hy
     ·exact ⟨.inr hdd,hr⟩
    ·rw[hSt];refine qC [0,1,2] [] ?_
     simp only[aR,seval,kA,kB,kH,kL,List.cons_append,List.nil_append]<;>(and_intros<;>first|rfl|omega|trivial)
  ·have hi2:i=l.length:=by omega
   subst hi2
   have fin:¬ sndN l→tloadCon.post ⟨l,hl,ht⟩ [] [] (.tup [.v (.pointer none),.v (.int .i64 1)]):=fun hn=>⟨rfl,.inr ⟨hn,rfl,rfl⟩⟩
   have hsz:=size_nm m.h
   unfold NI at hni
   rw[List.take_length]at hg hni
   simp only[aR,seval,kA,kB,kH,h2,kL,hsz]
   repeat (with_reducible refine And.intro ?_ ?_;focus first|omega|kernel_rfl)
   by_cases c1:(m.ps.length:Int) < l.length
   ·simp only[aR,seval,kA,kB,c1]
    repeat (with_reducible refine And.intro ?_ ?_;focus first|omega|kernel_rfl)
    refine kW [] [] [] [] (.tup [.v (.pointer none),.v (.int .i64 1)]) (fin fun S=>by
     rcases hni.2 with h5|h5
     ·omega
     ·exact h5.2 (snd_keys S)) ?_
    simp only[aR,seval,kA,kB,kH]<;>(and_intros<;>first|rfl|omega|trivial)
   by_cases c2:(l.length:Int) > 100
   ·simp only[aR,seval,kA,kB,c1,c2,kL]
    repeat (with_reducible refine And.intro ?_ ?_;focus first|omega|kernel_rfl)
    refine kW [] [] [] [] (.tup [.v (.pointer none),.v (.int .i64 1)]) (fin fun S=>by have:=S.len;omega) ?_
    simp only[aR,seval,kA,kB,kH]<;>(and_intros<;>first|rfl|omega|trivial)
   simp only[aR,seval,kA,kB,c1,c2,kL]
   repeat (with_reducible refine And.intro ?_ ?_;focus first|omega|kernel_rfl)
   have htl:=tot_le (l:=l) fun x hx=>(hok2 x hx).cnt
   refine call_tall (s:=s) (o:=0) (ob:=1) (by simp[kC,kQ]) (by rw[hs];exact ⟨by omega,fun x hx=>by have:=(ht x hx).2;omega⟩) (by simp[qL,upd]) ?_
   rw[hs]
   by_cases c3:(totN l:Int) > 10000
   ·simp only[aR,seval,kA,kB,c3]
    repeat (with_reducible refine And.intro ?_ ?_;focus first|omega|kernel_rfl)
    refine kW [] [] [] [] (.tup [.v (.pointer none),.v (.int .i64 1)]) (fin fun S=>by have:=S.tot;omega) ?_
    simp only[aR,seval,kA,kB,kH]<;>(and_intros<;>first|rfl|omega|trivial)
   simp only[aR,seval,kA,kB,c3]
   repeat (with_reducible refine And.intro ?_ ?_;focus first|omega|kernel_rfl)
   have hnd:(l.map kOf).Nodup:=by
    rcases hni.2 with h5|h5
    ·exact h5.2
    ·omega
   have hS:sndN l:=load_snd hsr (by omega) hok2 (by omega) hnd hg
   refine kW [0,1] [] (tsO (some s)) [] (.tup [.ptr 0 0,.v (.int .i64 0)]) ⟨rfl,.inl ⟨hS,s,hs,rfl,rfl⟩⟩ ?_
   simp only[aR,seval,kA,kB,kH]<;>(and_intros<;>first|rfl|omega|trivial)
end Go.Proofs
-- HTr17
namespace Go.Proofs
open Go Go.Rw
end Go.Proofs
-- HTr18
namespace Go.Proofs
open Go Go.Rw
open _root_.Nat renaming reduceAdd → N0, reduceSub → N1, reduceMul → N2, reduceLT → N3, reduceLeDiff → N4, reduceEqDiff → N5
open _root_.Int renaming reduceNeg → Z0, reduceAdd → Z1, reduceSub → Z2, reduceMul → Z3, reduceGT → Z4, reduceGE → Z5, reduceLT → Z6, reduceLE → Z7, reduceEq → Z8, reduceNe → Z9, reduceToNat → Z10, cast_ofNat_Int → Zc
structure chkN (l:List Nd) (x:Nd):Prop where
 id:1≤x.id∧x.id≤1099511627776
 nm:qG x.nm=true
 kid:kid x.par x.nm l=x.id
 dir:x.dir=true→x.text=[]
 valid:(pts x.text).isSome=true
 cnt:cnt x.text≤2000
 par:x.par=0∨(ndx x.par l < l.length∧(l.getD (ndx x.par l) zO).dir=true∧zW l x.par x.id=false)
theorem up_cyc {l:List Nd} {i:Int} {k:Nat} (h:upN l k i=i):∀ m,upN l (m * k) i=i
 | 0=>by rw [Nat.zero_mul];rfl
 | m+1=>by rw [Nat.add_mul,Nat.one_mul,kGu,up_cyc h m,h]
theorem snd_no_cyc {l:List Nd} (S:sndN l) {x:Nd} (hx:x∈l) {k:Nat} (h:upN l (k+1) x.id=x.id):False:=by
 obtain ⟨m,hm⟩:=S.rt x hx
 have h1:=up_cyc h m
 have h2:=up_stay S hm (k:=m * (k+1)) (by rw[Nat.mul_add];omega)
 have:=(S.node x hx).id
 omega
theorem chk_of {l:List Nd} (S:sndN l) {x:Nd} (hx:x∈l):chkN l x:=by
 have n:=S.node x hx
 have hp:∀ y∈l,1≤y.id:=fun y hy=>(S.node y hy).id.1
 refine ⟨n.id,n.nm,?_,n.dir,n.valid,n.cnt,?_⟩
 ·by_cases h1:1≤kid x.par x.nm l
  ·obtain ⟨y,hy,h2,h3,h4⟩:=kid_iff hp h1 rfl
   rw[← h4]
   exact S.sib y hy x hx h2 h3
  ·exact absurd ⟨rfl,rfl⟩ (kD0 hp h1 x hx)
 ·rcases S.par x hx with h1|⟨h1,h2⟩
  ·exact .inl h1
  ·refine .inr ⟨(qP l x.par).1 h1,h2,?_⟩
   rcases Bool.eq_false_or_eq_true (zW l x.par x.id) with h3|h3
   ·exfalso
    obtain ⟨k,hk⟩:=(kAw S (.inr h1) (by have:=n.id;omega)).1 h3
    refine snd_no_cyc S hx (k:=k) ?_
    rw[upN,show pf l x.id=x.par by unfold pf;rw[gN_self S.srt hx],hk]
   ·exact h3
theorem in_miss {l:List Nd} {top:Int}:∀ (n:Nat) {i:Int},inN l top n i=false→∃ k,hasN l (upN l k i)=false
 | 0,i,h=>by rw [inN] at h;cases h
 | n+1,i,h=>by
   rw[inN]at h
   split at h
   ·cases h
   ·split at h
    ·obtain ⟨k,hk⟩:=in_miss n h
     exact ⟨k+1,hk⟩
    ·rename_i h2
     refine ⟨0,?_⟩
     rcases Bool.eq_false_or_eq_true (hasN l i) with h3|h3
     ·exact absurd ((qP l i).1 h3) h2
     ·exact h3
theorem snd_of {l:List Nd} (hs:srtN l) (hl:l.length≤100) (ht:totN l≤10000) (hc:∀ x∈l,chkN l x):sndN l:=by
 have hpar:∀ x∈l,x.par=0∨(hasN l x.par=true∧(gN l x.par).dir=true):=fun x hx=>by
  rcases (hc x hx).par with h1|h1
  ·exact .inl h1
  ·exact .inr ⟨(qP l x.par).2 h1.1,h1.2.1⟩
 have hin:∀ i,inT l (pf l i):=fun i=>by
  rcases Bool.eq_false_or_eq_true (hasN l i) with h|h
  ·rcases hpar _ (kBo h).1 with h3|h3
   ·exact .inl h3
   ·exact .inr h3.1
  ·exact .inl (pf_no h)
 have hup:∀ k i,inT l i→inT l (upN l k i):=fun k=>by
  induction k with
  | zero=>exact fun i h=>h
  | succ k ih=>exact fun i h=>ih _ (hin i)
 refine ⟨hs,hl,fun x hx=>?_,ht,fun x hx y hy h1 h2=>?_,hpar,fun x hx=>?_⟩
 ·have:=hc x hx
  exact ⟨this.id,this.nm,this.dir,this.valid,this.cnt⟩
 ·rw[← (hc x hx).kid,← (hc y hy).kid,h1,h2]
 ·have hpx:pf l x.id=x.par:=by unfold pf;rw[gN_self hs hx]
  rcases (hc x hx).par with h1|⟨h1,_,h3⟩
  ·exact ⟨1,by rw[upN,hpx];exact h1⟩
  ·obtain ⟨k,hk⟩:=in_miss _ h3
   have h4:=hup k x.par (.inr ((qP l x.par).2 h1))
   rcases h4 with h4|h4
   ·exact ⟨k+1,by rw[upN,hpx];exact h4⟩
   ·rw[hk]at h4;cases h4
open Classical in
noncomputable def sndB (l:List Nd):Bool:=decide (sndN l)
theorem zN {l:List Nd} (h:¬ sndN l):sndB l=false:=by unfold sndB;simp[h]
theorem yes_snd {l:List Nd} (h:sndN l):sndB l=true:=by unfold sndB;simp[h]
abbrev kGP:Con where
 ι:={ l:List Nd // l.length≤1000000∧∀ x∈l,x.nm.length≤1099511627776∧x.text.length≤1099511627776 }
 args:=fun p=>[.sl 0 5 (kT p.1)]
 post:=fun p r=>r = .v (.bool (sndB p.1))
 plain:=true
set_option maxHeartbeats 4000000 in
theorem xsound_good:Rw.Good Tryz.prog 26 kGP:=by
 have hΓ:kK Tryz.prog [(49,kAk),(50,kidCon),(51,j9),(52,kAq),(53,kB7),(54,kBz)]:=(kG kEV (kG kid_good (kG kDG (kG kB2 (kG kCc (kG kGC kI))))))
 refine kZ (nn:=119) hΓ Tryz.func26 (by kernel_rfl) rfl (show Tryz.f26.results.toList=[.tmp 2] from rfl) (fun _=>rfl) (fun x=>by simp[AV.erL,AV.er,kB3]) ?_
 rintro ⟨l,hl,ht⟩
 by_cases h0:(l.length:Int) > 100
 ·simp only[aR,seval,kL,h0]
  rw[zN fun S=>by have:=S.len;omega]
 simp only[aR,seval,kL,h0]
 obtain ⟨St,hSt⟩:∃ St:{ p:Int×Nat // p.2≤l.length∧(0≤p.1∧p.1≤10000)∧srtN (l.take p.2)∧p.1=totN (l.take p.2)∧∀ x∈l.take p.2,chkN l x }→AS,∀ p,St p=AS.of 119 [(0,.sl 0 5 (kT l)),(3,.v (.int .i64 p.1.1)),(4,.v (.int .i64 p.1.2))] [] []:=⟨_,fun _=>rfl⟩
 refine qE hΓ St (fun p=>l.length - p.1.2) ⟨(0,0),by omega,by simp only;omega,by simp[srtN],by simp[totN],by simp⟩ (by rw[hSt];refine kO [] [] ?_;simp only[aR,seval]<;>(and_intros<;>first|rfl|omega|trivial)) ?_
 rintro ⟨⟨s,i⟩,hi,hs,hb,hst,hck⟩
 simp only at hi hs hb hst hck
 rw[hSt]
 simp only
 simp only[aR,seval,kL]
 (with_reducible first|refine kE (fun h=>?_) (fun h=>?_)|refine kF (fun h=>?_) (fun h=>?_))
 ·have hlt:i < l.length:=by omega
  have hci:=ht l[i] (List.getElem_mem hlt)
  have e1:=qB l hlt
  have hsn:=srt_snoc hlt hb
  have N:sndN l→chkN l l[i]:=fun S=>chk_of S (List.getElem_mem hlt)
  have N2:sndN l→totN (l.take i)+cnt l[i].text≤10000:=fun S=>by
   have:=S.tot
   rw[← List.take_append_drop i l,kCQ,List.drop_eq_getElem_cons hlt,totN]at this
   omega
  have N3:∀ k,∀ hk:k+1=i,sndN l→(l[k]'(by omega)).id < l[i].id:=fun k hk S=>by
   have:=S.srt
   unfold srtN at this
   rw[List.pairwise_map]at this
   exact List.pairwise_iff_getElem.1 this k i (by omega) hlt (by omega)
  have nx:chkN l l[i]→∀ x∈l.take (i+1),chkN l x:=fun hx x hm=>by
   rw[List.take_succ_eq_append_getElem hlt,List.mem_append,List.mem_singleton]at hm
   rcases hm with hm|rfl
   ·exact hck x hm
   ·exact hx
  have tx1:(totN (l.take (i+1)):Int)=totN (l.take i)+cnt l[i].text:=by
   rw[List.take_succ_eq_append_getElem hlt,kCQ];simp[totN]
  generalize l[i]=x at *
  obtain ⟨id,par,nm,dir,tx⟩:=x
  obtain ⟨hn,ho⟩:=hci
  simp only at hn ho e1 hsn N2 N3 tx1
  simp only[aR,seval,h,e1,kL,nA]
  repeat (with_reducible refine And.intro ?_ ?_;focus first|omega|kernel_rfl)
  by_cases c1:id < 1
  ·simp only[aR,seval,c1]
   repeat (with_reducible refine And.intro ?_ ?_;focus first|omega|kernel_rfl)
   rw[zN fun S=>by have:=(N S).id;simp only at this;omega]
  by_cases c2:id > 1099511627776
  ·simp only[aR,seval,c1,c2]
   repeat (with_reducible refine And.intro ?_ ?_;focus first|omega|kernel_rfl)
   rw[zN fun S=>by have:=(N S).id;simp only at this;omega]
  cases i with
  | zero =>
    have srt1:srtN (l.take 1):=hsn fun k hk=>by omega
    simp only[aR,seval,c1,c2]
    repeat (with_reducible refine And.intro ?_ ?_;focus first|omega|kernel_rfl)
    refine jG (by simp[kC]) hn ?_
    cases hnm:qG nm
    ·simp only[aR,seval,hnm]
     repeat (with_reducible refine And.intro ?_ ?_;focus first|omega|kernel_rfl)
     rw[zN fun S=>by have:=(N S).nm;simp only at this;rw[hnm]at this;cases this]
    simp only[aR,seval,hnm]
    repeat (with_reducible refine And.intro ?_ ?_;focus first|omega|kernel_rfl)
    refine kDr (by simp[kC]) rfl (by omega) ?_
    by_cases c4:kid par nm l=id
    case neg =>
     simp only[aR,seval,c4]
     repeat (with_reducible refine And.intro ?_ ?_;focus first|omega|kernel_rfl)
     rw[zN fun S=>c4 (N S).kid]
    by_cases c5:dir=true∧tx≠[]
    ·obtain ⟨rfl,c6⟩:=c5
     simp only[aR,seval,c4,c6]
     repeat (with_reducible refine And.intro ?_ ?_;focus first|omega|kernel_rfl)
     rw[zN fun S=>c6 ((N S).dir rfl)]
    have more:∀ Z:Prop,(dir=false→Z)→(dir=true→tx=[]→Z)→Z:=fun Z f g=>by
     cases dir
     ·exact f rfl
     ·exact g rfl (Decidable.not_not.1 fun hh=>c5 ⟨rfl,hh⟩)
    have hcl:cnt tx≤tx.length:=by rw[kAc];exact kFD tx
    refine more _ (fun hd=>?_) (fun hd he=>?_)
    all_goals
     subst hd
     by_cases c7:(tx.length:Int) > 8000
     ·first
        | simp only [aR,seval,c4,c7,eq_true he]
          repeat (with_reducible refine And.intro ?_ ?_;focus first|omega|kernel_rfl)
          rw[zN fun S=>by have h1:=kCB (N S).valid;have h2:=(N S).cnt;simp only at h1 h2;omega]
        | simp only [aR,seval,c4,c7]
          repeat (with_reducible refine And.intro ?_ ?_;focus first|omega|kernel_rfl)
          rw[zN fun S=>by have h1:=kCB (N S).valid;have h2:=(N S).cnt;simp only at h1 h2;omega]
     first
      | simp only [aR,seval,c4,c7,eq_true he]
        repeat (with_reducible refine And.intro ?_ ?_;focus first|omega|kernel_rfl)
      | simp only [aR,seval,c4,c7]
        repeat (with_reducible refine And.intro ?_ ?_;focus first|omega|kernel_rfl)
     refine kAl (by simp[kC]) (by omega) ?_
     cases hv:(pts tx).isSome
     ·simp only[aR,seval,hv]
      repeat (with_reducible refine And.intro ?_ ?_;focus first|omega|kernel_rfl)
      rw[zN fun S=>by have:=(N S).valid;simp only at this;rw[hv]at this;cases this]
     simp only[aR,seval,hv]
     repeat (with_reducible refine And.intro ?_ ?_;focus first|omega|kernel_rfl)
     refine kAn (by simp[kC]) (by omega) ?_
     by_cases c8:(cnt tx:Int) > 2000
     ·simp only[aR,seval,c8]
      repeat (with_reducible refine And.intro ?_ ?_;focus first|omega|kernel_rfl)
      rw[zN fun S=>by have:=(N S).cnt;simp only at this;omega]
     by_cases c9:s+(cnt tx:Int) > 10000
     ·simp only[aR,seval,c8,c9,wO (n:=s+(cnt tx:Int))]
      repeat (with_reducible refine And.intro ?_ ?_;focus first|omega|kernel_rfl)
      rw[zN fun S=>by have:=N2 S;omega]
     by_cases c10:par=0
     ·simp only[aR,seval,c8,c9,c10,wO (n:=s+(cnt tx:Int)),wO (n:=0+1)]
      repeat (with_reducible refine And.intro ?_ ?_;focus first|omega|kernel_rfl)
      have cx:=nx ⟨⟨by simp only;omega,by simp only;omega⟩,hnm,c4,fun hdd=>(by first|assumption|cases hdd),hv,by simp only;omega,.inl c10⟩
      refine kN ⟨(s+(cnt tx:Int),1),by simp only;omega,by simp only;omega,srt1,(by have h5:=tx1;(try simp only[Nat.zero_add]at h5);simp only;omega),cx⟩ (by simp only;omega) ?_
      rw[hSt];refine kO [] [] ?_
      simp only[aR,seval]<;>(and_intros<;>first|rfl|omega|trivial|(simp[kCC];done))
     simp only[aR,seval,c8,c9,c10,wO (n:=s+(cnt tx:Int))]
     repeat (with_reducible refine And.intro ?_ ?_;focus first|omega|kernel_rfl)
     refine kBX (by simp[kC]) rfl (by omega) ?_
     by_cases c11:ndx par l < l.length
     case neg =>
      simp only[aR,seval,ndI,if_neg c11]
      repeat (with_reducible refine And.intro ?_ ?_;focus first|omega|kernel_rfl)
      rw[zN fun S=>by rcases (N S).par with h1|h1;exact c10 h1;exact c11 h1.1]
     have e4:=qB l c11
     have hg:l.getD (ndx par l) zO=l[ndx par l]:=by rw[List.getD_eq_getElem?_getD,List.getElem?_eq_getElem c11];rfl
     generalize l[ndx par l]=y at *
     obtain ⟨yid,ypar,ynm,ydir,ytx⟩:=y
     have hnn:((ndx par l:Int) < 0)=False:=eq_false (by omega)
     cases ydir
     ·simp only[aR,seval,ndI,if_pos c11,e4,nA,hnn,kL]
      repeat (with_reducible refine And.intro ?_ ?_;focus first|omega|kernel_rfl)
      rw[zN fun S=>by rcases (N S).par with h1|h1;exact c10 h1;have:=h1.2.1;simp only at this;rw[hg]at this;cases this]
     simp only[aR,seval,ndI,if_pos c11,e4,nA,hnn,kL]
     repeat (with_reducible refine And.intro ?_ ?_;focus first|omega|kernel_rfl)
     refine kDC (by simp[kC]) rfl (by omega) ?_
     cases hw:zW l par id
     case true =>
      simp only[aR,seval]
      repeat (with_reducible refine And.intro ?_ ?_;focus first|omega|kernel_rfl)
      rw[zN fun S=>by rcases (N S).par with h1|h1;exact c10 h1;have:=h1.2.2;simp only at this;rw[hw]at this;cases this]
     simp only[aR,seval,wO (n:=0+1)]
     repeat (with_reducible refine And.intro ?_ ?_;focus first|omega|kernel_rfl)
     have cx:=nx ⟨⟨by simp only;omega,by simp only;omega⟩,hnm,c4,fun hdd=>(by first|assumption|cases hdd),hv,by simp only;omega,.inr ⟨c11,by simp only;rw[hg],hw⟩⟩
     refine kN ⟨(s+(cnt tx:Int),1),by simp only;omega,by simp only;omega,srt1,(by have h5:=tx1;(try simp only[Nat.zero_add]at h5);simp only;omega),cx⟩ (by simp only;omega) ?_
     rw[hSt];refine kO [] [] ?_
     simp only[aR,seval]<;>(and_intros<;>first|rfl|omega|trivial|(simp[kCC];done))
  | succ k =>
    have hkt:k < l.length:=by omega
    have e3:=qB l hkt
    have hw:IntKind.wrap .i64 (((k+1:Nat):Int) - 1)=k:=by rw[kD (by omega) (by omega)];omega
    have hp:((k+1:Nat):Int) > 0:=by omega
    have srt0:l[k].id < id→srtN (l.take (k+1+1)):=fun hlt2=>hsn fun k2 hk2=>by
     have:k2=k:=by omega
     subst this;exact hlt2
    clear hsn
    have N4:=N3 k rfl
    clear N3
    generalize l[k]=z at *
    obtain ⟨zid,zpar,znm,zdir,ztx⟩:=z
    simp only at srt0 N4
    by_cases c3:zid ≥ id
    ·simp only[aR,seval,c1,c2,hw,hp,e3,nA,c3,kL]
     repeat (with_reducible refine And.intro ?_ ?_;focus first|omega|kernel_rfl)
     rw[zN fun S=>by have:=N4 S;omega]
    have srt1:=srt0 (by omega)
    simp only[aR,seval,c1,c2,hw,hp,e3,nA,c3,kL]
    repeat (with_reducible refine And.intro ?_ ?_;focus first|omega|kernel_rfl)
    refine jG (by simp[kC]) hn ?_
    cases hnm:qG nm
    ·simp only[aR,seval,hnm]
     repeat (with_reducible refine And.intro ?_ ?_;focus first|omega|kernel_rfl)
     rw[zN fun S=>by have:=(N S).nm;simp only at this;rw[hnm]at this;cases this]
    simp only[aR,seval,hnm]
    repeat (with_reducible refine And.intro ?_ ?_;focus first|omega|kernel_rfl)
    refine kDr (by simp[kC]) rfl (by omega) ?_
    by_cases c4:kid par nm l=id
    case neg =>
     simp only[aR,seval,c4]
     repeat (with_reducible refine And.intro ?_ ?_;focus first|omega|kernel_rfl)
     rw[zN fun S=>c4 (N S).kid]
    by_cases c5:dir=true∧tx≠[]
    ·obtain ⟨rfl,c6⟩:=c5
     simp only[aR,seval,c4,c6]
     repeat (with_reducible refine And.intro ?_ ?_;focus first|omega|kernel_rfl)
     rw[zN fun S=>c6 ((N S).dir rfl)]
    have more:∀ Z:Prop,(dir=false→Z)→(dir=true→tx=[]→Z)→Z:=fun Z f g=>by
     cases dir
     ·exact f rfl
     ·exact g rfl (Decidable.not_not.1 fun hh=>c5 ⟨rfl,hh⟩)
    have hcl:cnt tx≤tx.length:=by rw[kAc];exact kFD tx
    refine more _ (fun hd=>?_) (fun hd he=>?_)
    all_goals
     subst hd
     by_cases c7:(tx.length:Int) > 8000
     ·first
        | simp only [aR,seval,c4,c7,eq_true he]
          repeat (with_reducible refine And.intro ?_ ?_;focus first|omega|kernel_rfl)
          rw[zN fun S=>by have h1:=kCB (N S).valid;have h2:=(N S).cnt;simp only at h1 h2;omega]
        | simp only [aR,seval,c4,c7]
          repeat (with_reducible refine And.intro ?_ ?_;focus first|omega|kernel_rfl)
          rw[zN fun S=>by have h1:=kCB (N S).valid;have h2:=(N S).cnt;simp only at h1 h2;omega]
     first
      | simp only [aR,seval,c4,c7,eq_true he]
        repeat (with_reducible refine And.intro ?_ ?_;focus first|omega|kernel_rfl)
      | simp only [aR,seval,c4,c7]
        repeat (with_reducible refine And.intro ?_ ?_;focus first|omega|kernel_rfl)
     refine kAl (by simp[kC]) (by omega) ?_
     cases hv:(pts tx).isSome
     ·simp only[aR,seval,hv]
      repeat (with_reducible refine And.intro ?_ ?_;focus first|omega|kernel_rfl)
      rw[zN fun S=>by have:=(N S).valid;simp only at this;rw[hv]at this;cases this]
     simp only[aR,seval,hv]
     repeat (with_reducible refine And.intro ?_ ?_;focus first|omega|kernel_rfl)
     refine kAn (by simp[kC]) (by omega) ?_
     by_cases c8:(cnt tx:Int) > 2000
     ·simp only[aR,seval,c8]
      repeat (with_reducible refine And.intro ?_ ?_;focus first|omega|kernel_rfl)
      rw[zN fun S=>by have:=(N S).cnt;simp only at this;omega]
     by_cases c9:s+(cnt tx:Int) > 10000
     ·simp only[aR,seval,c8,c9,wO (n:=s+(cnt tx:Int))]
      repeat (with_reducible refine And.intro ?_ ?_;focus first|omega|kernel_rfl)
      rw[zN fun S=>by have:=N2 S;omega]
     by_cases c10:par=0
     ·simp only[aR,seval,c8,c9,c10,wO (n:=s+(cnt tx:Int)),wO (n:=((k+1:Nat):Int)+1)]
      repeat (with_reducible refine And.intro ?_ ?_;focus first|omega|kernel_rfl)
      have cx:=nx ⟨⟨by simp only;omega,by simp only;omega⟩,hnm,c4,fun hdd=>(by first|assumption|cases hdd),hv,by simp only;omega,.inl c10⟩
      refine kN ⟨(s+(cnt tx:Int),k+1+1),by simp only;omega,by simp only;omega,srt1,(by have h5:=tx1;(try simp only[Nat.zero_add]at h5);simp only;omega),cx⟩ (by simp only;omega) ?_
      rw[hSt];refine kO [] [] ?_
      simp only[aR,seval]<;>(and_intros<;>first|rfl|omega|trivial|(simp[kCC];done))
     simp only[aR,seval,c8,c9,c10,wO (n:=s+(cnt tx:Int))]
     repeat (with_reducible refine And.intro ?_ ?_;focus first|omega|kernel_rfl)
     refine kBX (by simp[kC]) rfl (by omega) ?_
     by_cases c11:ndx par l < l.length
     case neg =>
      simp only[aR,seval,ndI,if_neg c11]
      repeat (with_reducible refine And.intro ?_ ?_;focus first|omega|kernel_rfl)
      rw[zN fun S=>by rcases (N S).par with h1|h1;exact c10 h1;exact c11 h1.1]
     have e4:=qB l c11
     have hg:l.getD (ndx par l) zO=l[ndx par l]:=by rw[List.getD_eq_getElem?_getD,List.getElem?_eq_getElem c11];rfl
     generalize l[ndx par l]=y at *
     obtain ⟨yid,ypar,ynm,ydir,ytx⟩:=y
     have hnn:((ndx par l:Int) < 0)=False:=eq_false (by omega)
     cases ydir
     ·simp only[aR,seval,ndI,if_pos c11,e4,nA,hnn,kL]
      repeat (with_reducible refine And.intro ?_ ?_;focus first|omega|kernel_rfl)
      rw[zN fun S=>by rcases (N S).par with h1|h1;exact c10 h1;have:=h1.2.1;simp only at this;rw[hg]at this;cases this]
     simp only[aR,seval,ndI,if_pos c11,e4,nA,hnn,kL]
     repeat (with_reducible refine And.intro ?_ ?_;focus first|omega|kernel_rfl)
     refine kDC (by simp[kC]) rfl (by omega) ?_
     cases hw:zW l par id
     case true =>
      simp only[aR,seval]
      repeat (with_reducible refine And.intro ?_ ?_;focus first|omega|kernel_rfl)
      rw[zN fun S=>by rcases (N S).par with h1|h1;exact c10 h1;have:=h1.2.2;simp only at this;rw[hw]at this;cases this]
     simp only[aR,seval,wO (n:=((k+1:Nat):Int)+1)]
     repeat (with_reducible refine And.intro ?_ ?_;focus first|omega|kernel_rfl)
     have cx:=nx ⟨⟨by simp only;omega,by simp only;omega⟩,hnm,c4,fun hdd=>(by first|assumption|cases hdd),hv,by simp only;omega,.inr ⟨c11,by simp only;rw[hg],hw⟩⟩
     refine kN ⟨(s+(cnt tx:Int),k+1+1),by simp only;omega,by simp only;omega,srt1,(by have h5:=tx1;(try simp only[Nat.zero_add]at h5);simp only;omega),cx⟩ (by simp only;omega) ?_
     rw[hSt];refine kO [] [] ?_
     simp only[aR,seval]<;>(and_intros<;>first|rfl|omega|trivial|(simp[kCC];done))
 ·simp only[aR,seval,h,kL]
  rw[List.take_of_length_le (by omega)]at hb hst hck
  rw[yes_snd (snd_of hb (by omega) (by omega) hck)]
end Go.Proofs
-- HTr23
namespace Go.Proofs
open Go Go.Rw
section
variable {Γ:Env} {n:Nat} {t:Nat→AV} {hd:Nat→Nat→AV} {d:Option Nat} {K:AS→Prop}
variable {nh nl:Nat} {h:Nat→Option AO} {fm:Nat→Nat} {lv:Nat→Option (Nat×Nat)} {mu:Bool}
theorem call_tload (hC:Γ.get 25=none) {l:List Nd} {xs:List AV} (hx:xs=kT l) (hl:l.length≤1000000) (ht:∀ x∈l,x.nm.length≤1099511627776∧x.text.length≤1099511627776)
    (hk1:sndN l→∀ s:TS,s.l=l→cont ⟨n,t,hd,⟨nh+2,upd (upd h nh (some (.cells [.mp (nh+1)]))) (nh+1) (some (.map s.es s.cl)),nl,fm,lv,mu⟩⟩ d (.tup [.ptr nh 0,.v (.int .i64 0)]) K)
    (hk2:¬ sndN l→cont ⟨n,t,hd,⟨nh,h,nl,fm,lv,mu⟩⟩ d (.tup [.v (.pointer none),.v (.int .i64 1)]) K):kS Tryz.prog Γ false ⟨n,t,hd,⟨nh,h,nl,fm,lv,mu⟩⟩ 25 [.sl 0 5 xs] d K:=by
 subst hx
 refine kFg tload_good hC ⟨l,hl,ht⟩ [] ⟨by simp,by simp[dnL,dn],by simp[dnOs],by simp[AV.tagsL,AV.tags],rfl⟩ ?_
 rintro objs lvs r ⟨rfl,hp⟩ hll
 rcases hp with ⟨hS,s,hs,rfl,rfl⟩|⟨hS,rfl,rfl⟩
 ·have:=hk1 hS s hs
  have e3:(tsO (some s)).length - ([]:List Nat).length=2:=rfl
  rw[e3]
  simp only[tsO,jV,kAB,jT,kB9,j6,kA8,kGU,kBC,kAy,kBy,jQ,kAX,kAC,kAF,kAI,kES,emb_tup,emb_v,List.length_nil,Nat.add_zero]
  exact this
 ·have:=hk2 hS
  simp only[kAB,kAC,kAF,kAI,emb_tup,j6,kA8,emb_v,List.length_nil,Nat.add_zero,Nat.sub_zero]
  exact this
end
end Go.Proofs
-- HTi3
namespace Go.Proofs
open Go Go.Rw
structure PlayI (rev keep:Int) (x:Hs) (i:Nat):Prop where
 r:rev≤x.rev∧x.rev≤rev+i
 k:x.keep=keep
 len:x.l.length≤keep.toNat
 ok:kG9 x.l
theorem add_err {x:Hs} {c:Cm} (h:(addN x c).2≠0):(addN x c).1=x:=by
 unfold addN at h ⊢
 split
 ·rfl
 ·split
  ·rfl
  ·rename_i h1 h2
   rw[if_neg h1,if_neg h2]at h
   exact absurd rfl h
theorem play_add {rev keep:Int} {x:Hs} {i:Nat} {c:Cm} (F:PlayI rev keep x i) (hc:okCm c):PlayI rev keep (addN x c).1 (i+1):=by
 obtain ⟨⟨r1,r2⟩,k,len,ok⟩:=F
 unfold addN
 split
 ·exact ⟨⟨r1,by simp only;omega⟩,k,len,ok⟩
 ·split
  ·exact ⟨⟨r1,by simp only;omega⟩,k,len,ok⟩
  ·rename_i h1 h2
   refine ⟨⟨by simp only;omega,by simp only;omega⟩,k,?_,fun d hd=>?_⟩
   ·simp only[List.length_drop,List.length_append,List.length_cons,List.length_nil]
    rw[k];omega
   ·rcases List.mem_append.1 (List.mem_of_mem_drop hd) with h|h
    ·exact ok d h
    ·rw[List.mem_singleton.1 h];exact hc
theorem cutEp {fm:Nat→Nat} {l l' sz i j:Nat} {ys:List AV}:AV.cut fm l (.ep l' sz ys i j)=if fm l'=fm l then .any else .ep l' sz ys i j:=rfl
theorem sinR_ok {x:Hs} (hx:okHs x) (ok:kG9 x.l) (r:Int):(sinR x r).1.length≤1000∧kG9 (sinR x r).1:=by
 have hl:=hx.2.2
 unfold sinR
 split
 ·exact ⟨by simp,fun c hc=>absurd hc (by simp)⟩
 ·split
  ·exact ⟨by simp,fun c hc=>absurd hc (by simp)⟩
  ·exact ⟨by simp only[List.length_drop];omega,fun c hc=>ok c (List.mem_of_mem_drop hc)⟩
theorem slot_ep {l sz i j:Nat} {xs:List AV}:(∃ l' sz' xs' i' j',AV.ep l sz xs i j = .ep l' sz' xs' i' j')=True:=eq_true ⟨_,_,_,_,_,rfl⟩
abbrev GivenI:={ l:List Int // l.length≤9223372036854775807∧∀ x∈l,-9223372036854775808≤x∧x≤9223372036854775807 }
abbrev plays17Con:Con where
 ι:=I64×GivenN×I64×GivenM×GivenI
 args:=fun p=>[.v (.int .i64 p.1.1),.sl 0 5 (kT p.2.1.1),.v (.int .i64 p.2.2.1.1),.sl 0 4 (cms p.2.2.2.1.1),.sl 0 1 (ints .i64 p.2.2.2.2.1)]
 post:=fun _ r=>r = .v (.bool true)
 plain:=true
def playL (x:Hs) (s s0:TS):List AO:=[.cells (hisC x 1 2),.cells [.mp 2],.map s.es s.cl,.cells [.mp 4],.map s0.es s0.cl,.cells (mC x)]
def kCl (x:Hs) (s s0:TS):List AO:=[.cells (hisC x 1 0),.cells [.mp 2],.map s.es s.cl,.cells [.mp 4],.map s0.es s0.cl,.cells (mC x)]
set_option maxHeartbeats 8000000 in
theorem plays17_good:Rw.Good Tryz.prog 6 plays17Con:=by
 have hΓ:kK Tryz.prog [(7,kFJ),(31,jI),(20,kCb),(26,kGP),(19,kBV),(23,kEz)]:=(kG awake17_good (kG kDL (kG small17_good (kG xsound_good (kG snodes_good (kG scoms_good kI))))))
 refine kC8 (nn:=205) Tryz.func6 (by kernel_rfl) rfl (show Tryz.f6.results.toList=[.tmp 10] from rfl) (fun _=>rfl) (fun x=>by simp[AV.erL,AV.er,kB3,kGG]) ?_
 rintro ⟨⟨rev,hrv⟩,⟨t,ht,htc⟩,⟨keep,hke⟩,⟨l,hl,hlc⟩,⟨lk,hlk,hlkb⟩⟩
 refine qU hΓ (Ws:=[(16,[],[2000000])]) _ ?_
 have hlkl:(ints .i64 lk).length=lk.length:=by simp[ints]
 simp only[aR,seval,kA,kB,]
 refine call_small17 (by simp[kC]) rfl rfl ht htc hl hlc ?_
 rcases Bool.eq_false_or_eq_true (kBg t l) with h1|h1
 case inr =>
  simp only[aR,seval,kA,kB,h1]
  refine zQ (by simp[kC]) ?_
  simp only[aR,seval,kA,kB,]
 obtain ⟨⟨tl,tc⟩,ll,lok⟩:=small17_of h1 hlc
 by_cases h2:(lk.length:Int) > 40
 ·simp only[aR,seval,kA,kB,h1,h2,hlkl]
  refine zQ (by simp[kC]) ?_
  simp only[aR,seval,kA,kB,]
 simp only[aR,seval,kA,kB,h1,h2,hlkl]
 refine call_tload (by simp[kC,kQ]) rfl (by omega) (fun x hx=>by have:=tc x hx;omega) ?_ ?_
 rotate_left
 ·intro hS
  simp only[aR,seval,kA,kB,]
  refine kP (C:=kGP) (i:=⟨t,by omega,fun x hx=>by have:=tc x hx;omega⟩) (by simp[kC]) rfl rfl rfl (by simp[AV.erL,AV.er,kB3]) (fun _ h=>h) rfl ?_
  simp only[aR,seval,kA,kB,zN hS]
  refine zQ (by simp[kC]) ?_
  simp only[aR,seval,kA,kB,]
 intro hS s0 hs0
 have S0:sndN s0.l:=by rw[hs0];exact hS
 by_cases h3:(0≤rev∧rev≤1099511627776)∧1≤keep∧keep≤1000
 case neg =>
  simp only[aR,seval,kA,kB,]
  repeat (with_reducible refine And.intro ?_ ?_;focus first|omega|kernel_rfl)
  refine call_hnewE hΓ (by simp[kC,kQ]) h3 ?_
  have fin:∀ p:Prop,p→p:=fun _ h=>h
  by_cases a1:0≤rev
  case neg =>
   simp only[aR,seval,kA,kB,a1,bne_self_eq_false]
   repeat (with_reducible refine And.intro ?_ ?_;focus first|omega|kernel_rfl)
   refine zQ (by simp[kC]) ?_
   simp only[aR,seval,kA,kB,]
  by_cases a2:rev≤1099511627776
  case neg =>
   simp only[aR,seval,kA,kB,a1,a2,bne_self_eq_false]
   repeat (with_reducible refine And.intro ?_ ?_;focus first|omega|kernel_rfl)
   refine zQ (by simp[kC]) ?_
   simp only[aR,seval,kA,kB,]
  by_cases a3:1≤keep
  case neg =>
   simp only[aR,seval,kA,kB,a1,a2,a3,bne_self_eq_false]
   repeat (with_reducible refine And.intro ?_ ?_;focus first|omega|kernel_rfl)
   refine zQ (by simp[kC]) ?_
   simp only[aR,seval,kA,kB,]
  have a4:¬ keep≤1000:=fun a4=>h3 ⟨⟨a1,a2⟩,a3,a4⟩
  simp only[aR,seval,kA,kB,a1,a2,a3,a4,bne_self_eq_false]
  repeat (with_reducible refine And.intro ?_ ?_;focus first|omega|kernel_rfl)
  refine zQ (by simp[kC]) ?_
  simp only[aR,seval,kA,kB,]
 simp only[aR,seval,kA,kB,]
 repeat (with_reducible refine And.intro ?_ ?_;focus first|omega|kernel_rfl)
 refine call_hnew hΓ (by simp[kC,kQ]) (by simp[kC,kQ]) (s:=s0) (o:=0) (ob:=1) (by simp[qL,upd]) (by omega) (by omega) ?_
 obtain ⟨⟨h31,h32⟩,h33,h34⟩:=h3
 simp only[aR,seval,kA,kB,h31,h32,h33,h34,bne_self_eq_false]
 repeat (with_reducible refine And.intro ?_ ?_;focus first|omega|kernel_rfl)
 obtain ⟨St,hSt⟩:∃ St:{ p:Nat×Hs×TS // p.1≤l.length∧PlayI rev keep p.2.1 p.1∧p.2.2.l=p.2.1.s∧sndN p.2.1.s }→AS,∀ p,St p=AS.ofH 205 [(1,.sl 0 5 (kT t)),(3,.sl 0 4 (cms l)),(4,.sl 0 1 (ints .i64 lk)),(11,.ptr 3 0),(13,.ptr 0 0),(16,.ptr 5 0),(17,.v (.int .i64 p.1.1))] [] (playL p.1.2.1 p.1.2.2 s0) [(p.1.2.1.l.length,32)]:=⟨_,fun _=>rfl⟩
 refine kBG ?_
 refine zX [(16,[],[2000000])] hΓ St (fun p=>l.length - p.1.1) ⟨(0,⟨rev,t,keep,[]⟩,s0),by simp,⟨by simp only;omega,rfl,by simp,fun c hc=>absurd hc (by simp)⟩,hs0,hS⟩ (by rw[hSt];refine qC [4,2,3,0,1,5] [.nil 4] ?_;simp only[aR,seval,kA,kB,playL,hisC,mC,kFw,List.length_nil,Int.natCast_zero]<;>(and_intros<;>first|rfl|omega|trivial)) ?_
 rintro ⟨⟨i,x,s⟩,hi,F,hs,S⟩
 simp only at hi F hs S
 rw[hSt]
 simp only
 have hi1:i≤l.length:=hi
 simp only[aR,seval,kA,kB,playL,hisC,mC,qD]
 (with_reducible first|refine kE (fun h=>?_) (fun h=>?_)|refine kF (fun h=>?_) (fun h=>?_))
 ·have hlt:i < l.length:=by omega
  have e1:=kBd l hlt
  have okc:=lok _ (List.getElem_mem hlt)
  generalize l[i]=c at *
  have ec:cmA c=cmT 0 c:=rfl
  have ecc:List.take 4 (cmA c).cells=[.v (.int .i64 c.rev),.v (.int .i64 c.client),.v (.int .i64 c.seq),.sl 0 6 (acts c.acs)]:=rfl
  have ecl:(cmA c).cells.length=4:=rfl
  simp only[aR,seval,kA,kB,playL,hisC,mC,h,e1,qD]
  refine awp_calls hΓ 12 [(5,[111,112,113,114,115]),(11,[])] [] (by kernel_rfl) (by kernel_rfl) (by kernel_rfl) (by kernel_rfl) ?_
  simp only[aR,seval,kA,kB,vcFl,pureK,kBD,slot_ep,List.take,List.map,List.mem_cons,List.not_mem_nil,or_false,false_or,true_and,e1,or_true,if_true,if_false,ecl,qD]
  repeat (with_reducible refine And.intro ?_ ?_;focus first|omega|kernel_rfl)
  unfold kCE
  refine ⟨_,_,rfl,rfl,fun M hM=>?_⟩
  have hMf:∀ k,k ∉ [111,112,113,114,115]→∀ t,kBM M t k=t k:=fun k hk t=>maskT_off (by
   cases hMk:M k with
   | false=>rfl
   | true=>exact absurd (hM k hMk) hk) t
  have m1:=hMf 105 (by simp)
  have m2:=hMf 109 (by simp)
  simp only[aR,seval,kA,kB,m1,m2]
  have okx:okHs x:=by
   obtain ⟨⟨r1,r2⟩,k,len,ok⟩:=F
   exact ⟨by omega,by omega,by omega⟩
  have hkl:x.l.length≤x.keep.toNat:=by rw[F.k];exact F.len
  have Sl:sndN s.l:=by rw[hs];exact S
  have F':=play_add F okc
  refine kGX hΓ (by simp[kC,kQ]) (by simp[kC,kQ]) (by simp[kC,kQ]) (by simp[kC]) (x:=x) (s:=s) (o:=0) (ot:=1) (om:=2) (lt:=2) (la:=0) (c:=c) rfl okx hs Sl okc rfl (by simp[qL]) (by omega) (by omega) rfl ⟨fun j y hj=>by simpa using ofL_lt j y hj,?_⟩ (by omega) (by simp) (cutT_maskT (by simp[ecc,cutT_upd,kCg,cut_v,cut_any,cut_ptr,cut_mp,cut_sl,cutEp,cut_agg,cut_tup,cut_fn,kFM,kDj,kU,kJ])) cutH_any ?_ ?_
  ·intro j hj
   match j with
   | 0=>exact absurd rfl hj
   | 1=>rfl
   | 2=>rfl
   | 3=>rfl
   | 4=>rfl
   | 5=>rfl
   | j+6=>rfl
  ·intro h1 f1 al1 hne
   have o1:h1 0=some (.cells (hisC x 1 2)):=f1 0 (by omega)
   have p1:h1 1=some (.cells [.mp 2]):=f1 1 (by omega)
   have q1:h1 2=some (.map s.es s.cl):=f1 2 (by omega)
   have p2:h1 3=some (.cells [.mp 4]):=f1 3 (by omega)
   have q2:h1 4=some (.map s0.es s0.cl):=f1 4 (by omega)
   have o2:h1 5=some (.cells (mC x)):=f1 5 (by omega)
   have hx1:=add_err hne
   refine ⟨show (_:Nat) < 205 by omega,_,_,_,rfl,?_⟩
   unfold kCE
   refine ⟨_,_,rfl,rfl,fun M2 hM2=>?_⟩
   rw[kHJ (M:=M2) (fun k=>by cases h:M2 k with|false=>rfl|true=>exact absurd (hM2 k h) (by simp))]
   simp only[aR,seval,kA,kB,]
   refine call_madd (by simp[kC,kQ]) (x:=x) (c:=c) rfl okx S okc hkl o2 ?_
   rw[hx1]
   refine ⟨show (_:Nat) < 205 by omega,_,_,_,rfl,?_⟩
   simp only[aR,seval,kA,kB,kCE,List.drop,bne_self_eq_false]
   refine kGn hΓ (by simp[kC,kQ]) (by simp[kC,kQ]) (by simp[kC,kQ]) (by simp[kC,kQ]) (by simp[kC,kQ]) (by simp[kC,kQ]) (by simp[kC,kQ]) (by simp[kC,kQ]) (by simp[kC]) (x:=x) okx Sl hs (o:=0) (ot:=1) (om:=2) (lt:=2) (q:=5) ((kJ _ _ (by omega)).trans o1) ⟨(kJ _ _ (by omega)).trans p1,(kJ _ _ (by omega)).trans q1,by omega⟩ (kU _ _ _) ?_
   simp only[aR,seval,kA,kB,wO (n:=(i:Int)+1)]
   repeat (with_reducible refine And.intro ?_ ?_;focus first|omega|kernel_rfl)
   refine kN ⟨(i+1,x,s),by simp only;omega,by simpa only[hx1] using F',hs,S⟩ (by simp only;omega) ?_
   rw[hSt];refine qC [0,1,2,3,4,5] [.live 2] ?_
   simp only[aR,seval,kA,kB,playL,hisC,mC,o1,p1,q1,p2,q2]<;>(and_intros<;>first|rfl|omega|trivial)
  ·intro h1 s1 f1 o1 al1 T1 hs1 S1 hz
   refine ⟨show (_:Nat) < 205 by omega,_,_,_,rfl,?_⟩
   unfold kCE
   refine ⟨_,_,rfl,rfl,fun M2 hM2=>?_⟩
   rw[kHJ (M:=M2) (fun k=>by cases h:M2 k with|false=>rfl|true=>exact absurd (hM2 k h) (by simp))]
   simp only[aR,seval,kA,kB,]
   have o2:h1 5=some (.cells (mC x)):=f1 5 (by omega) (by omega)
   have p2:h1 3=some (.cells [.mp 4]):=f1 3 (by omega) (by omega)
   have q2:h1 4=some (.map s0.es s0.cl):=f1 4 (by omega) (by omega)
   refine call_madd (by simp[kC,kQ]) (x:=x) (c:=c) rfl okx S okc hkl o2 ?_
   rw[hz]
   generalize hx1:(addN x c).1=x1 at *
   refine ⟨show (_:Nat) < 205 by omega,_,_,_,rfl,?_⟩
   simp only[aR,seval,kA,kB,kCE,List.drop,bne_self_eq_false]
   have okx1:okHs x1:=by
    obtain ⟨⟨r1,r2⟩,k,len,ok⟩:=F'
    exact ⟨by omega,by omega,by omega⟩
   have p1:h1 7=some (.cells [.mp 8]):=T1.1
   have q1:h1 8=some (.map s1.es s1.cl):=T1.2.1
   refine kGn hΓ (by simp[kC,kQ]) (by simp[kC,kQ]) (by simp[kC,kQ]) (by simp[kC,kQ]) (by simp[kC,kQ]) (by simp[kC,kQ]) (by simp[kC,kQ]) (by simp[kC,kQ]) (by simp[kC]) (x:=x1) okx1 S1 hs1 (o:=0) (ot:=7) (om:=8) (lt:=2) (q:=5) ((kJ _ _ (by omega)).trans o1) ⟨(kJ _ _ (by omega)).trans p1,(kJ _ _ (by omega)).trans q1,by omega⟩ (kU _ _ _) ?_
   simp only[aR,seval,kA,kB,wO (n:=(i:Int)+1)]
   repeat (with_reducible refine And.intro ?_ ?_;focus first|omega|kernel_rfl)
   refine kN ⟨(i+1,x1,s1),by simp only;omega,F',hs1,by rw[← hs1];exact S1⟩ (by simp only;omega) ?_
   rw[hSt];refine qC [0,7,8,3,4,5] [.live 2] ?_
   simp only[aR,seval,kA,kB,playL,hisC,mC,o1,p1,q1,p2,q2]<;>(and_intros<;>first|rfl|omega|trivial)
 ·have okx:okHs x:=by
    obtain ⟨⟨r1,r2⟩,k,len,ok⟩:=F
    exact ⟨by omega,by omega,by omega⟩
  have okl:=F.ok
  have Sl:sndN s.l:=by rw[hs];exact S
  have xl1:=okx.2.2
  simp only[aR,seval,kA,kB,h,qD]
  repeat (with_reducible refine And.intro ?_ ?_;focus first|omega|kernel_rfl)
  obtain ⟨S2,hS2⟩:∃ St:{ k:Nat // k≤lk.length }→AS,∀ k,St k=AS.ofH 205 [(1,.sl 0 5 (kT t)),(4,.sl 0 1 (ints .i64 lk)),(11,.ptr 3 0),(13,.ptr 0 0),(16,.ptr 5 0),(18,.v (.int .i64 k.1))] [] (kCl x s s0) []:=⟨_,fun _=>rfl⟩
  refine kBG ?_
  refine zX [] hΓ S2 (fun k=>lk.length - k.1) ⟨0,by omega⟩ (by rw[hS2];refine qC [0,1,2,3,4,5] [] ?_;simp only[aR,seval,kA,kB,kCl,hisC,mC]<;>(and_intros<;>first|rfl|omega|trivial)) ?_
  rintro ⟨k,hk⟩
  rw[hS2]
  simp only
  simp only[aR,seval,kA,kB,kCl,hlkl]
  (with_reducible first|refine kE (fun h9=>?_) (fun h9=>?_)|refine kF (fun h9=>?_) (fun h9=>?_))
  ·have hkt:k < lk.length:=by omega
   have f1:(ints .i64 lk).getD k .any = .v (.int .i64 lk[k]):=by rw[ints_getD hkt,List.getD_eq_getElem?_getD,List.getElem?_eq_getElem hkt];rfl
   have hrb:=hlkb _ (List.getElem_mem hkt)
   generalize lk[k]=r at *
   obtain ⟨n1,n2⟩:=sinR_ok okx okl r
   simp only[aR,seval,kA,kB,kCl,h9,hlkl,f1]
   repeat (with_reducible refine And.intro ?_ ?_;focus first|omega|kernel_rfl)
   refine kBa hΓ (by simp[kC,kQ]) (by simp[kC,kQ]) (by simp[kC,kQ]) (by simp[kC]) okx okl (o:=0) (ot:=1) rfl hrb ?_
   simp only[aR,seval,kA,kB,kCl,hlkl,f1]
   repeat (with_reducible refine And.intro ?_ ?_;focus first|omega|kernel_rfl)
   refine call_msince hΓ (by simp[kC,kQ]) (by simp[kC,kQ]) okx (o:=5) rfl hrb ?_
   simp only[aR,seval,kA,kB,bne_self_eq_false]
   repeat (with_reducible refine And.intro ?_ ?_;focus first|omega|kernel_rfl)
   refine kHL (a:=(sinR x r).1) (b:=(sinR x r).1) (by simp[kC]) rfl rfl (by omega) n2 (by omega) n2 ?_
   simp only[aR,seval,kA,kB,decide_true]
   repeat (with_reducible refine And.intro ?_ ?_;focus first|omega|kernel_rfl)
   obtain ⟨S3,hS3⟩:∃ St:{ j:Nat // j≤x.l.length }→AS,∀ j,St j=AS.ofH 205 [(1,.sl 0 5 (kT t)),(4,.sl 0 1 (ints .i64 lk)),(11,.ptr 3 0),(13,.ptr 0 0),(16,.ptr 5 0),(18,.v (.int .i64 k)),(23,.sl 2 4 (cms (ofN (x.l.take j.1) r))),(24,.v (.int .i64 j.1))] [] (kCl x s s0) [((ofN (x.l.take j.1) r).length,32)]:=⟨_,fun _=>rfl⟩
   refine kBG ?_
   refine zX [] hΓ S3 (fun j=>x.l.length - j.1) ⟨0,by omega⟩ (by rw[hS3];refine qC [0,1,2,3,4,5] [.nil 4] ?_;simp only[aR,seval,kA,kB,kCl,hisC,mC,List.take_zero,ofN,List.filter_nil,kFw,List.length_nil]<;>(and_intros<;>first|rfl|omega|trivial)) ?_
   rintro ⟨j,hj⟩
   rw[hS3]
   simp only
   simp only[aR,seval,kA,kB,kCl,mC,qD]
   (with_reducible first|refine kE (fun h8=>?_) (fun h8=>?_)|refine kF (fun h8=>?_) (fun h8=>?_))
   ·have hjt:j < x.l.length:=by omega
    have e1:=kBd x.l hjt
    have e2:=ofN_take x.l r hjt
    have e3:=ofN_len (x.l.take j) r
    rw[List.length_take]at e3
    generalize x.l[j]=a at *
    obtain ⟨rev',cl,sq,ac⟩:=a
    simp only at e2
    by_cases g:cl=r
    ·rw[if_pos g]at e2
     have e4:cms (ofN (x.l.take (j+1)) r)=cms (ofN (x.l.take j) r)++[.agg [.v (.int .i64 rev'),.v (.int .i64 cl),.v (.int .i64 sq),.sl 0 6 (acts ac)]]:=by rw[e2,← kHY];rfl
     have e5:(ofN (x.l.take (j+1)) r).length=(ofN (x.l.take j) r).length+1:=by rw[e2];simp
     simp only[aR,seval,kA,kB,kCl,mC,h8,e1,f1,hlkl,g,qD,cmA,wO (n:=(j:Int)+1)]
     repeat (with_reducible refine And.intro ?_ ?_;focus first|omega|kernel_rfl)
     refine kN ⟨j+1,by omega⟩ (by simp only;omega) ?_
     rw[hS3];refine qC [0,1,2,3,4,5] [.live 2] ?_
     simp only[aR,seval,kA,kB,kCl,hisC,mC,e4,e5,g]<;>(and_intros<;>first|rfl|omega|trivial)
    ·rw[if_neg g,List.append_nil]at e2
     simp only[aR,seval,kA,kB,kCl,mC,h8,e1,f1,hlkl,g,qD,cmA,wO (n:=(j:Int)+1)]
     repeat (with_reducible refine And.intro ?_ ?_;focus first|omega|kernel_rfl)
     refine kN ⟨j+1,by omega⟩ (by simp only;omega) ?_
     rw[hS3];refine qC [0,1,2,3,4,5] [.live 2] ?_
     simp only[aR,seval,kA,kB,kCl,hisC,mC,e2,g]<;>(and_intros<;>first|rfl|omega|trivial)
   ·have hi2:j=x.l.length:=by omega
    subst hi2
    have e6:=List.take_of_length_le (Nat.le_refl x.l.length)
    have e7:=ofN_len x.l r
    have e8:kG9 (ofN x.l r):=fun c hc=>okl c (List.mem_filter.1 hc).1
    simp only[aR,seval,kA,kB,kCl,h8,e6,hlkl,f1]
    repeat (with_reducible refine And.intro ?_ ?_;focus first|omega|kernel_rfl)
    refine call_hof (by simp[kC,kQ]) (x:=x) (s:=s) (o:=0) (ot:=1) (om:=2) okx okl rfl (by simp[qL]) (by omega) ?_
    simp only[aR,seval,kA,kB,]
    repeat (with_reducible refine And.intro ?_ ?_;focus first|omega|kernel_rfl)
    refine kHL (a:=ofN x.l r) (b:=ofN x.l r) (by simp[kC]) rfl rfl (by omega) e8 (by omega) e8 ?_
    simp only[aR,seval,kA,kB,decide_true,wO (n:=(k:Int)+1)]
    repeat (with_reducible refine And.intro ?_ ?_;focus first|omega|kernel_rfl)
    refine kN ⟨k+1,by omega⟩ (by simp only;omega) ?_
    rw[hS2];refine qC [0,1,2,3,4,5] [] ?_
    simp only[aR,seval,kA,kB,kCl,hisC,mC]<;>(and_intros<;>first|rfl|omega|trivial)
  ·simp only[aR,seval,kA,kB,kCl,h9,hlkl]
   repeat (with_reducible refine And.intro ?_ ?_;focus first|omega|kernel_rfl)
   refine kDB (s:=s0) (o:=3) (ob:=4) (by simp[kC,kQ]) (snd_ok S0).1 (by simp[qL]) ?_
   simp only[aR,seval,kA,kB,kCl]
   repeat (with_reducible refine And.intro ?_ ?_;focus first|omega|kernel_rfl)
   refine kGH (a:=s0.l) (b:=t) (by simp[kC]) rfl rfl (by have:=S0.len;omega) (by omega) ?_
   simp only[aR,seval,kA,kB,hs0,decide_true]
   repeat (with_reducible refine And.intro ?_ ?_;focus first|omega|kernel_rfl)
   refine zQ (by simp[kC]) ?_
   simp only[aR,seval,kA,kB,]
end Go.Proofs
-- HUeR
namespace Go.Proofs
open Go Go.Rw Go.RowKit Go.ChangeShapes Go.WideShapes Go.ChangeAt Go.Deep
theorem i64_rng {n:Int} (h:(Lit.int .i64 n).wf=true):-9223372036854775808≤n∧n≤9223372036854775807:=by
 simp[Lit.wf,IntKind.min,IntKind.max,IntKind.signed,IntKind.bits]at h;omega
abbrev tyC:Ty:=.st [.int .i64,.int .i64,.str]
abbrev tyA:Ty:=.st [.int .i64,.int .i64,.int .i64,.str,.bool,.slc tyC]
theorem fit_comp {ds:List AV} (h:Fits tyC ds):∃ c:Cp,kDE tyC ds=cA c∧(-9223372036854775808≤c.n∧c.n≤9223372036854775807)∧c.t.length≤9223372036854775807:=by
 simp only[tyC,Fits,FitsL]at h
 obtain ⟨a,b,rfl,⟨k,rfl,hk⟩,a2,b2,rfl,⟨n,rfl,hn⟩,a3,b3,rfl,⟨t,rfl,ht⟩,rfl⟩:=h
 exact ⟨⟨k,n,t⟩,rfl,i64_rng hn,ht⟩
theorem fit_comps {cs:List AV} (h:Fits (.slc tyC) cs):∃ l:List Cp,cs=[.sl 0 3 (qI l)]∧wideC l:=by
 rw[Fits]at h
 obtain ⟨xs,rfl,h1,h2⟩:=h
 obtain ⟨l,rfl,h3⟩:=kEt cA (fun c=>(-9223372036854775808≤c.n∧c.n≤9223372036854775807)∧c.t.length≤9223372036854775807) (fun ds hd=>fit_comp hd) xs h2
 exact ⟨l,rfl,by simpa using h1,h3⟩
theorem fit_act {ds:List AV} (h:Fits tyA ds):∃ a:Ac,kDE tyA ds=aA a∧a.nm.length≤9223372036854775807∧wideC a.ops:=by
 simp only[tyA,Fits.eq_5,FitsL]at h
 obtain ⟨a,b,rfl,h1,a2,b2,rfl,h2,a3,b3,rfl,h3,a4,b4,rfl,h4,a5,b5,rfl,h5,a6,b6,rfl,h6,rfl⟩:=h
 obtain ⟨l,rfl,hl⟩:=fit_comps h6
 simp only[Fits]at h1 h2 h3 h4 h5
 obtain ⟨k,rfl,_⟩:=h1
 obtain ⟨id,rfl,_⟩:=h2
 obtain ⟨par,rfl,_⟩:=h3
 obtain ⟨nm,rfl,hn⟩:=h4
 obtain ⟨dir,rfl⟩:=h5
 exact ⟨⟨k,id,par,nm,dir,l⟩,rfl,hn,hl⟩
section
variable {P:Program} {W:World} {H:Type} {enc:TypeId×Value→H}
end
end Go.Proofs
-- HUkR
namespace Go.Proofs
open Go Go.Rw Go.RowKit Go.ChangeShapes Go.WideShapes Go.ChangeAt Go.Deep
abbrev tyN:Ty:=.st [.int .i64,.int .i64,.str,.bool,.str]
theorem fit_node {ds:List AV} (h:Fits tyN ds):∃ a:Nd,kDE tyN ds=nA a∧a.nm.length≤9223372036854775807∧a.text.length≤9223372036854775807:=by
 simp only[tyN,Fits.eq_5,FitsL]at h
 obtain ⟨a,b,rfl,h1,a2,b2,rfl,h2,a3,b3,rfl,h3,a4,b4,rfl,h4,a5,b5,rfl,h5,rfl⟩:=h
 simp only[Fits]at h1 h2 h3 h4 h5
 obtain ⟨id,rfl,_⟩:=h1
 obtain ⟨par,rfl,_⟩:=h2
 obtain ⟨nm,rfl,hn⟩:=h3
 obtain ⟨dir,rfl⟩:=h4
 obtain ⟨tx,rfl,ht⟩:=h5
 exact ⟨⟨id,par,nm,dir,tx⟩,rfl,hn,ht⟩
theorem open_nodes {P:Program} {W:World} {H:Type} {enc:TypeId×Value→H} {t:TypeId} {v:Value} {d:DataW H} {p:List MemPlace} (ht:isTy P t (.slc tyN)=true) (hv:∃ A n c,v = .slice A n c) (h:DataW.Trod enc P W 0 (fun _=>true) true t v d p) :
    ∃ l:List Nd,l.length≤9223372036854775807∧(∀ a∈l,a.nm.length≤9223372036854775807∧a.text.length≤9223372036854775807)∧VR (Gin (Fw W) none) W v (.sl 0 5 (kT l)) :=
 arg_slc nA _ (fun ds hd=>fit_node hd) ht hv h
abbrev tyM:Ty:=.st [.int .i64,.int .i64,.int .i64,.slc tyA]
theorem fit_cm {ds:List AV} (h:Fits tyM ds):∃ c:Cm,kDE tyM ds=cmA c∧wideA c.acs:=by
 simp only[tyM,Fits.eq_5,FitsL]at h
 obtain ⟨a,b,rfl,h1,a2,b2,rfl,h2,a3,b3,rfl,h3,a4,b4,rfl,h4,rfl⟩:=h
 rw[Fits]at h4
 obtain ⟨xs,rfl,g1,g2⟩:=h4
 obtain ⟨l,rfl,g3⟩:=kEt aA (fun a=>a.nm.length≤9223372036854775807∧wideC a.ops) (fun ds hd=>fit_act hd) xs g2
 simp only[Fits]at h1 h2 h3
 obtain ⟨rev,rfl,_⟩:=h1
 obtain ⟨cl,rfl,_⟩:=h2
 obtain ⟨sq,rfl,_⟩:=h3
 exact ⟨⟨rev,cl,sq,l⟩,rfl,by simpa using g1,g3⟩
theorem open_cms {P:Program} {W:World} {H:Type} {enc:TypeId×Value→H} {t:TypeId} {v:Value} {d:DataW H} {p:List MemPlace} (ht:isTy P t (.slc tyM)=true) (hv:∃ A n c,v = .slice A n c) (h:DataW.Trod enc P W 0 (fun _=>true) true t v d p) :
    ∃ l:List Cm,l.length≤9223372036854775807∧(∀ c∈l,wideA c.acs)∧VR (Gin (Fw W) none) W v (.sl 0 4 (cms l)) :=
 arg_slc cmA _ (fun ds hd=>fit_cm hd) ht hv h
end Go.Proofs
