/-
 Maps of numbers: their content as a row of pairs,in whatever order. Proved over any program. Functions that are handed objects: the rules for rewriting. Proved over any program. Code where maps may be: scopes with a loop by a label. Proved over any program. A state given by lists,the frames that wait,too. Proved over any program. Loops within calls that are reckoned in place,where maps may be and a live slice may be turned: the frames that wait are let go of what is told of that slice. Proved over any program.
-/
import Derived.Test.YtnpofobcbfbfnaaGreatDoorRwN
set_option linter.unusedSimpArgs false
set_option linter.unusedVariables false
set_option linter.defProp false
set_option linter.unusedSectionVars false

set_option maxRecDepth 100000
-- RwMapG
namespace Go.Rw
open Go Go.RowKit
def lkG (k:Int):List (Int×Value)→Option Value
 | []=>none
 | p::r=>if p.1=k then some p.2 else lkG k r
def putG (k:Int) (v:Value) (ps:List (Int×Value)):List (Int×Value):=if (lkG k ps).isSome then ps.map (fun p=>if p.1=k then (k,v) else p) else ps++[(k,v)]
def delG (k:Int) (ps:List (Int×Value)):List (Int×Value):=ps.filter fun p=>p.1≠k
def kBI (ps:List (Int×Value)):Prop:=(ps.map Prod.fst).Nodup
def MapG (es:Array MapEntry) (cl:Nat) (ps:List (Int×Value)):Prop :=
 kBI ps∧∃ ps',ps'.Perm ps∧mapIs es.toList ps'∧(es.toList.map (·.born)).Nodup∧∀ e∈es.toList,e.born < cl
theorem lkG_mem {k:Int} {v:Value}:∀ {ps:List (Int×Value)},kBI ps→(lkG k ps=some v↔(k,v)∈ps)
 | [],_=>by simp [lkG]
 | p::r,h=>by
   simp only[kBI,List.map_cons,List.nodup_cons]at h
   have ih:=lkG_mem (k:=k) (v:=v) (ps:=r) h.2
   rw[lkG]
   split
   ·rename_i hk
    constructor
    ·intro he;cases he;subst hk;simp
    ·intro hm
     rcases List.mem_cons.1 hm with h1|h1
     ·rw[← h1]
     ·exfalso
      apply h.1
      rw[hk]
      exact List.mem_map.2 ⟨_,h1,rfl⟩
   ·rename_i hk
    rw[ih]
    simp only[List.mem_cons]
    constructor
    ·exact .inr
    ·rintro (h1|h1)
     ·rw[← h1]at hk;exact absurd rfl hk
     ·exact h1
theorem kFL {k:Int}:∀ {ps:List (Int×Value)},lkG k ps=none↔∀ p∈ps,p.1≠k
 | []=>by simp [lkG]
 | p::r=>by
   rw[lkG]
   split
   ·rename_i hk;simp[hk]
   ·rename_i hk
    rw[kFL (ps:=r)]
    simp[hk]
theorem kCX {ps qs:List (Int×Value)} (h:ps.Perm qs) (hu:kBI qs):kBI ps:=(h.map Prod.fst).nodup_iff.2 hu
theorem lkG_perm {k:Int} {ps qs:List (Int×Value)} (h:ps.Perm qs) (hu:kBI qs):lkG k ps=lkG k qs:=by
 have hp:=kCX h hu
 cases h1:lkG k qs with
 | none =>
   rw[kFL]at h1 ⊢
   exact fun p hp=>h1 p (h.mem_iff.1 hp)
 | some v =>
   rw[lkG_mem hu]at h1
   rw[lkG_mem hp]
   exact h.mem_iff.2 h1
theorem kFA {k:Int}:∀ {ps:List (Int×Value)},(kDA k ps).map (·.2)=lkG k ps
 | []=>rfl
 | (a,v)::r=>by
   rw[kDA,lkG]
   by_cases h:a=k
   ·simp[h]
   ·rw[if_neg h,if_neg h,← kFA (ps:=r)]
    cases kDA k r<;>rfl
theorem mfind_at {k:Int}:∀ {ps:List (Int×Value)} {i:Nat} {v:Value},kDA k ps=some (i,v)→ps[i]? = some (k,v)
 | [],_,_,h=>by simp [kDA] at h
 | (a,u)::r,i,v,h=>by
   rw[kDA]at h
   split at h
   ·rename_i hk;cases h;simp[hk]
   ·cases hm:kDA k r with
    | none=>rw [hm] at h;cases h
    | some p =>
      rw[hm]at h
      obtain ⟨j,u'⟩:=p
      cases h
      simpa using mfind_at hm
theorem MapG.find {es:Array MapEntry} {cl:Nat} {ps:List (Int×Value)} (h:MapG es cl ps) {j:IntKind} (k:Int) :
    ∃ r,Instr.findNow (.int j) (.int .i64 k) es.toList 0=some r∧r.map (·.2)=lkG k ps:=by
 obtain ⟨hu,ps',hp,hm,_,_⟩:=h
 refine ⟨_,kBj _ _ hm k 0,?_⟩
 rw[Option.map_map,← lkG_perm hp hu,← kFA]
 cases kDA k ps'<;>rfl
theorem MapG.size {es:Array MapEntry} {cl:Nat} {ps:List (Int×Value)} (h:MapG es cl ps):es.size=ps.length:=by
 obtain ⟨hu,ps',hp,hm,_,_⟩:=h
 have:=congrArg List.length hm
 simp only[List.length_map,Array.length_toList]at this
 rw[this,hp.length_eq]
theorem MapG.perm {es:Array MapEntry} {cl:Nat} {ps qs:List (Int×Value)} (h:MapG es cl ps) (hp:ps.Perm qs):MapG es cl qs:=by
 obtain ⟨hu,ps',hp',hm,h1,h2⟩:=h
 exact ⟨(hp.map Prod.fst).nodup_iff.1 hu,ps',hp'.trans hp,hm,h1,h2⟩
theorem MapG.empty:MapG #[] 0 []:=⟨by simp[kBI],[],.refl _,rfl,by simp,by simp⟩
theorem lkG_look {P:Program} {t:TypeId} {j:IntKind} {es:Array MapEntry} {cl:Nat} {ps:List (Int×Value)} (h:MapG es cl ps) (k:Int) (c:Bool) :
    kEA P t (.int j) (.int .i64 k) es.toList c=match lkG k ps with
     | some v=>some (kEY c (kEi v) true)
     | none=>match kDH P t with
       | some e=>(kA3 P e).map fun z=>kEY c z false
       | none=>none:=by
 obtain ⟨r,h1,h2⟩:=h.find (j:=j) k
 unfold kEA
 rw[h1,← h2]
 cases r with
 | none=>rfl
 | some p=>rfl
theorem keysU_put {k:Int} {v:Value} {ps:List (Int×Value)} (h:kBI ps):kBI (putG k v ps):=by
 unfold putG
 split
 ·unfold kBI at h ⊢
  rw[List.map_map]
  have:(Prod.fst ∘ fun p:Int×Value=>if p.1=k then (k,v) else p)=Prod.fst:=by
   funext p
   simp only[Function.comp]
   split
   ·rename_i h1;exact h1.symm
   ·rfl
  rw[this];exact h
 ·rename_i hn
  have hn:lkG k ps=none:=by
   cases h2:lkG k ps with
   | none=>rfl
   | some v=>simp [h2] at hn
  rw[kFL]at hn
  unfold kBI at h ⊢
  rw[List.map_append,List.nodup_append]
  refine ⟨h,by simp,fun a ha b hb=>?_⟩
  simp only[List.map_cons,List.map_nil,List.mem_singleton]at hb
  obtain ⟨p,hp,rfl⟩:=List.mem_map.1 ha
  rw[hb]
  exact hn p hp
theorem map_one {k:Int} {v:Value}:∀ {ps:List (Int×Value)} {i:Nat} {u:Value},kBI ps→ps[i]? = some (k,u)→ps.map (fun p=>if p.1=k then (k,v) else p)=ps.set i (k,v)
 | [],_,_,_,h=>by simp at h
 | p::r,0,u,hu,h=>by
   simp only[List.getElem?_cons_zero,Option.some.injEq]at h
   simp only[kBI,List.map_cons,List.nodup_cons]at hu
   rw[List.map_cons,List.set_cons_zero,if_pos (by rw[h]),h]at *
   congr 1
   conv=>rhs;rw[← List.map_id r]
   refine List.map_congr_left fun q hq=>?_
   rw[if_neg];rfl
   intro hk
   exact hu.1 (List.mem_map.2 ⟨q,hq,hk⟩)
 | p::r,i+1,u,hu,h=>by
   simp only[List.getElem?_cons_succ]at h
   simp only[kBI,List.map_cons,List.nodup_cons]at hu
   rw[List.map_cons,List.set_cons_succ,if_neg,map_one hu.2 h]
   intro hk
   apply hu.1
   rw[hk]
   exact List.mem_map.2 ⟨_,List.mem_of_getElem? h,rfl⟩
theorem MapG.upd {es:Array MapEntry} {cl:Nat} {ps:List (Int×Value)} (h:MapG es cl ps) {j:IntKind} (k:Int) (v:Value) :
    ∃ es' cl',updO (.int j) (.int .i64 k) v (some (.map es cl))=some (.map es' cl')∧MapG es' cl' (putG k v ps):=by
 have h0:=h
 obtain ⟨hu,ps',hp,hm,hb,hc⟩:=h
 have hf:=kBj (j:=j) es.toList ps' hm k 0
 have hlk:lkG k ps=(kDA k ps').map (·.2):=by rw[kFA,lkG_perm hp hu]
 unfold updO
 simp only[hf]
 cases hmf:kDA k ps' with
 | none =>
   rw[hmf]at hlk
   simp only[Option.map_none]at hlk ⊢
   refine ⟨_,_,rfl,keysU_put hu,ps'++[(k,v)],?_,?_,?_,?_⟩
   ·unfold putG;rw[hlk];exact hp.append_right _
   ·unfold mapIs at hm ⊢
    rw[Array.toList_push,List.map_append,hm,List.map_append];rfl
   ·rw[Array.toList_push,List.map_append,List.nodup_append]
    refine ⟨hb,by simp,fun a ha b hb2=>?_⟩
    simp only[List.map_cons,List.map_nil,List.mem_singleton]at hb2
    obtain ⟨e,he,rfl⟩:=List.mem_map.1 ha
    have:=hc e he
    omega
   ·intro e he
    rw[Array.toList_push,List.mem_append]at he
    rcases he with he|he
    ·have:=hc e he;omega
    ·simp only[List.mem_singleton]at he;subst he;simp
 | some p =>
   obtain ⟨i,u⟩:=p
   rw[hmf]at hlk
   simp only[Option.map_some,Nat.zero_add]at hlk ⊢
   have hat:=mfind_at hmf
   have hi:i < es.toList.length:=by
    have h1:=congrArg List.length hm
    simp only[List.length_map]at h1
    have h2:=(List.getElem?_eq_some_iff.1 hat).1
    omega
   have hke:(es.toList[i]).key = .int .i64 k:=by
    have h1:(es.toList.map fun e=>(e.key,e.val))[i]? = (ps'.map fun p=>(Value.int .i64 p.1,p.2))[i]?:=by rw[hm]
    rw[List.getElem?_map,List.getElem?_map,hat,List.getElem?_eq_getElem hi]at h1
    simp only[Option.map_some,Option.some.injEq,Prod.mk.injEq]at h1
    exact h1.1
   have hge:es[i]? = some es.toList[i]:=by rw[← Array.getElem?_toList,List.getElem?_eq_getElem hi]
   rw[hge]
   simp only[Option.map_some,Option.getD_some,hke]
   rw[if_pos (by simp[Instr.sameBits])]
   have htl:(es.modify i fun e=>{ e with key:=.int .i64 k,val:=v }).toList=es.toList.set i { es.toList[i] with key:=.int .i64 k,val:=v }:=by
    rw[Array.toList_modify,List.modify_eq_set,List.getElem?_eq_getElem hi];rfl
   refine ⟨_,_,rfl,keysU_put hu,ps'.set i (k,v),?_,?_,?_,?_⟩
   ·unfold putG
    rw[hlk,if_pos (show (some u).isSome=true from rfl),← map_one (kCX hp hu) hat]
    exact hp.map _
   ·unfold mapIs at hm ⊢
    rw[htl,List.map_set,hm,List.map_set]
   ·have e1:(es.modify i fun e=>{ e with key:=.int .i64 k,val:=v }).toList.map (·.born)=es.toList.map (·.born):=by
      rw[htl]
      apply List.ext_getElem (by simp)
      intro j h1 h2
      simp only[List.getElem_map,List.getElem_set]
      split
      ·rename_i hij;subst hij;rfl
      ·rfl
    rw[e1];exact hb
   ·intro e he
    rw[htl]at he
    rcases List.mem_or_eq_of_mem_set he with he|he
    ·exact hc e he
    ·rw[he];show es.toList[i].born < cl;exact hc _ (List.getElem_mem hi)
theorem kHR {k:Int}:∀ {ps:List (Int×Value)} {i:Nat} {u:Value},kBI ps→ps[i]? = some (k,u)→ps.filter (fun p=>p.1≠k)=ps.eraseIdx i
 | [],_,_,_,h=>by simp at h
 | p::r,0,u,hu,h=>by
   simp only[List.getElem?_cons_zero,Option.some.injEq]at h
   simp only[kBI,List.map_cons,List.nodup_cons]at hu
   rw[List.filter_cons_of_neg (by simp[h]),List.eraseIdx_cons_zero]
   rw[List.filter_eq_self]
   intro q hq
   simp only[ne_eq,decide_not,Bool.not_eq_eq_eq_not,Bool.not_true,decide_eq_false_iff_not]
   intro hk
   apply hu.1
   rw[h,← hk]
   exact List.mem_map.2 ⟨q,hq,rfl⟩
 | p::r,i+1,u,hu,h=>by
   simp only[List.getElem?_cons_succ]at h
   simp only[kBI,List.map_cons,List.nodup_cons]at hu
   have hne:p.1≠k:=by
    intro hk
    apply hu.1
    rw[hk]
    exact List.mem_map.2 ⟨_,List.mem_of_getElem? h,rfl⟩
   rw[List.filter_cons_of_pos (by simpa using hne),List.eraseIdx_cons_succ,kHR hu.2 h]
theorem kDq {α β:Type} (f:α→β):∀ (l:List α) (i:Nat),(l.eraseIdx i).map f=(l.map f).eraseIdx i
 | [],i=>by simp
 | a::r,0=>by simp
 | a::r,i+1=>by simp [kDq f r i]
theorem MapG.del {es:Array MapEntry} {cl:Nat} {ps:List (Int×Value)} (h:MapG es cl ps) {j:IntKind} (k:Int) :
    ∃ es' cl',delO (.int j) (.int .i64 k) (some (.map es cl))=some (.map es' cl')∧MapG es' cl' (delG k ps):=by
 have h0:=h
 obtain ⟨hu,ps',hp,hm,hb,hc⟩:=h
 have hf:=kBj (j:=j) es.toList ps' hm k 0
 have hud:kBI (delG k ps):=List.Nodup.sublist (List.Sublist.map _ List.filter_sublist) hu
 unfold delO
 simp only[hf]
 cases hmf:kDA k ps' with
 | none =>
   simp only[Option.map_none]
   refine ⟨_,_,rfl,hud,ps',?_,hm,hb,hc⟩
   have h1:lkG k ps=none:=by rw[← lkG_perm hp hu,← kFA,hmf];rfl
   rw[kFL]at h1
   have:delG k ps=ps:=List.filter_eq_self.2 fun p hp=>by simpa using h1 p hp
   rw[this];exact hp
 | some p =>
   obtain ⟨i,u⟩:=p
   simp only[Option.map_some,Nat.zero_add]
   have hat:=mfind_at hmf
   have htl:(es.eraseIdxIfInBounds i).toList=es.toList.eraseIdx i:=by simp
   refine ⟨_,_,rfl,hud,ps'.eraseIdx i,?_,?_,?_,?_⟩
   ·rw[← kHR (kCX hp hu) hat]
    exact hp.filter _
   ·unfold mapIs at hm ⊢
    rw[htl,kDq,hm,kDq]
   ·rw[htl,kDq]
    exact List.Nodup.sublist (List.eraseIdx_sublist ..) hb
   ·intro e he
    rw[htl]at he
    exact hc e (List.mem_of_mem_eraseIdx he)
end Go.Rw
-- RwObjR
namespace Go.Rw
open Go Go.RowKit
def hdOf (f:Nat→AV):Nat→Nat→AV:=fun j=>match j with|0=>f|_+1=>fun _=>.any
def RetG (C:ConO) (i:C.ι) (σ:AS) (bs:List AV):Prop:=∃ obs ads objs lvs r,RenIn σ obs ads objs lvs∧ren obs ads σ.m.fm (kAm bs) r∧kEh obs ads σ.m.fm (σ.hd 0) (j8 0 (C.objs i))∧(C.objs i).length≤objs.length∧C.post i objs lvs r∧σ.m.mu=true
def retOr (C:ConO) (i:C.ι) (σ:AS):Option (List AV)→Prop
 | some bs=>RetG C i σ bs
 | none=>False
section
variable {P:Program} [Tabs] {Γ:Env} {Q:Exit→AS→Prop} {σ:AS} {K:AS→Prop} {n:Nat} {t:Nat→AV} {hd:Nat→Nat→AV} {m:AM} {d:Option Nat}
variable {nh nl:Nat} {h:Nat→Option AO} {fm:Nat→Nat} {lv:Nat→Option (Nat×Nat)} {mu:Bool}
variable {obs:List Nat} {ads:List Ad} {fo fl:Nat→Nat}
theorem kW {C:ConO} {i:C.ι} {bs:List AV} (obs:List Nat) (ads:List Ad) (objs:List AO) (lvs:List (Nat×Nat)) (r:AV)
    (hp:C.post i objs lvs r) (h:(Ad.lives ads).Nodup∧obs.Nodup∧obOk obs ads σ obs objs∧adOk σ ads lvs∧ren obs ads σ.m.fm (kAm bs) r∧kEh obs ads σ.m.fm (σ.hd 0) (j8 0 (C.objs i))∧(C.objs i).length≤objs.length∧σ.m.mu=true):RetG C i σ bs :=
 ⟨obs,ads,objs,lvs,r,⟨h.1,h.2.1,h.2.2.1,h.2.2.2.1⟩,h.2.2.2.2.1,h.2.2.2.2.2.1,h.2.2.2.2.2.2.1,hp,h.2.2.2.2.2.2.2⟩
theorem retO_ret {rs:List ResultVar} {C:ConO} {i:C.ι}:retO P rs C i .ret ⟨n,t,hd,m⟩=retOr C i ⟨n,t,hd,m⟩ (resL P ⟨n,t,hd,m⟩ rs):=by
 simp only[retO,retOr,RetG]
 cases resL P ⟨n,t,hd,m⟩ rs<;>rfl
theorem retOr_some {C:ConO} {i:C.ι} {bs:List AV}:retOr C i σ (some bs)=RetG C i σ bs:=rfl
theorem AS_ofH_eq {slots hds:List (Nat×AV)} {objs:List AO} {lvs:List (Nat×Nat)} {mu:Bool}:AS.ofH n slots hds objs lvs mu=⟨n,look slots,hdOf (look hds),⟨objs.length,fun o=>objs[o]?,2+lvs.length,fun l=>l,fun l=>if l < 2 then none else lvs[l - 2]?,mu⟩⟩:=by
 show AS.mk _ _ _ _=AS.mk _ _ _ _
 congr 1
theorem hdOf_zero {f:Nat→AV}:hdOf f 0=f:=rfl
theorem hdsOk_nil {hd:Nat→AV}:kEh obs ads fm hd []=True:=rfl
theorem hdsOk_cons {hd:Nat→AV} {i:Nat} {a:AV} {r:List (Nat×AV)}:kEh obs ads fm hd ((i,a)::r)=(ren obs ads fm (hd i) a∧kEh obs ads fm hd r):=rfl
theorem rootsAt_nil {j:Nat}:j8 j []=[]:=rfl
theorem rootsAt_cons {j:Nat} {x:AO} {r:List AO}:j8 j (x::r)=(j,kGh j x)::j8 (j+1) r:=rfl
theorem rootOf_map {j cl:Nat} {es:Array MapEntry}:kGh j (.map es cl) = .mp j:=rfl
theorem rootOf_cells {j:Nat} {cs:List AV}:kGh j (.cells cs) = .ptr j 0:=rfl
theorem ren_mp {o o':Nat}:ren obs ads fm (.mp o) (.mp o')=(obs[o']? = some o):=by simp[ren]
theorem dn_v {x y:Value}:dn obs (.v x) (.v y)=(x=y):=by simp[dn]
theorem dn_sl {l sz l' sz':Nat} {xs ys:List AV}:dn obs (.sl l sz xs) (.sl l' sz' ys)=((l=1∨sz=sz')∧xs=ys∧(l'=0∨(l'=1∧l=1))):=by simp[dn]
theorem dn_ptr {o k o' k':Nat}:dn obs (.ptr o k) (.ptr o' k')=(k=k'∧obs[o']? = some o):=by simp[dn]
theorem dn_mp {o o':Nat}:dn obs (.mp o) (.mp o')=(obs[o']? = some o):=by simp[dn]
theorem kBx:dnL obs [] []=True:=by simp[dnL]
theorem kAz {a b:AV} {r s:List AV}:dnL obs (a::r) (b::s)=(dn obs a b∧dnL obs r s):=by simp[dnL]
theorem kBE:dnOs obs h [] []=True:=rfl
theorem kAV {o:Nat} {r:List Nat} {x:AO} {s:List AO}:dnOs obs h (o::r) (x::s)=(dnOo obs (h o) x∧dnOs obs h r s):=rfl
theorem jP {cs ds:List AV}:dnOo obs (some (.cells cs)) (.cells ds)=dnL obs cs ds:=rfl
theorem kBc {es es':Array MapEntry} {c c':Nat}:dnOo obs (some (.map es c)) (.map es' c')=(es=es'∧c=c'):=rfl
def kDt:Option AO→List Nat
 | some x=>x.tags
 | none=>[]
theorem j3:kAK h []=[]:=rfl
theorem z7 {o:Nat} {r:List Nat}:kAK h (o::r)=kDt (h o)++kAK h r:=rfl
theorem emb_v {x:Value}:AV.emb fo fl (.v x) = .v x:=rfl
theorem kES {o k:Nat}:AV.emb fo fl (.ptr o k) = .ptr (fo o) k:=rfl
theorem kGU {o:Nat}:AV.emb fo fl (.mp o) = .mp (fo o):=rfl
theorem emb_sl {l sz:Nat} {xs:List AV}:AV.emb fo fl (.sl l sz xs) = .sl (fl l) sz xs:=rfl
theorem emb_tup {cs:List AV}:AV.emb fo fl (.tup cs) = .tup (AV.embL fo fl cs):=rfl
theorem kA8:AV.embL fo fl []=[]:=rfl
theorem j6 {a:AV} {r:List AV}:AV.embL fo fl (a::r)=a.emb fo fl::AV.embL fo fl r:=rfl
theorem kAB:kDV fo fl []=[]:=rfl
theorem jV {x:AO} {r:List AO}:kDV fo fl (x::r)=x.emb fo fl::kDV fo fl r:=rfl
theorem jT {cs:List AV}:AO.emb fo fl (.cells cs) = .cells (AV.embL fo fl cs):=rfl
theorem kB9 {es:Array MapEntry} {c:Nat}:AO.emb fo fl (.map es c) = .map es c:=rfl
theorem kBy {o:Nat}:obC [] nh o=nh+o:=by simp[obC]
theorem kAy {x:Nat} {r:List Nat}:obC (x::r) nh 0=x:=rfl
theorem kBC {x j:Nat} {r:List Nat}:obC (x::r) nh (j+1)=obC r nh j:=by
 simp only[obC,List.getElem?_cons_succ,List.length_cons]
 split<;>first|rfl|omega
theorem lnC_zero:lnC nl 0=0:=rfl
theorem kAC:kCk nh obs [] h=h:=by cases obs<;>rfl
theorem jQ {o:Nat} {r:List Nat} {x:AO} {s:List AO}:kCk nh (o::r) (x::s) h=kCk nh r s (upd h o (some x)):=rfl
theorem kAX {x:AO} {s:List AO}:kCk nh [] (x::s) h=kCk (nh+1) [] s (upd h nh (some x)):=rfl
theorem kAF:kGR nl [] fm=fm:=rfl
theorem kAI:kF0 nl [] lv=lv:=rfl
theorem AMcall_eq {objs:List AO} {lvs:List (Nat×Nat)}:AM.call ⟨nh,h,nl,fm,lv,mu⟩ obs objs lvs=⟨nh+(objs.length - obs.length),kCk nh obs (kDV (obC obs nh) (lnC nl) objs) h,nl+lvs.length,kGR nl lvs fm,kF0 nl lvs lv,mu⟩:=rfl
def ptrT (u:Option TypeDesc) (a b:Option AV):Option AV:=match u with
 | some (.pointer _)=>a
 | _=>b
omit [Tabs] in
theorem ptrT_yes {e:TypeId} {a b:Option AV}:ptrT (some (.pointer e)) a b=a:=rfl
def binZ (P:Program) (op:BinOp) (c:TypeId) (x y:Operand) (a b:AV):Option AV:=binA P op c x y a b
omit [Tabs] in
theorem binA_eqPN {c:TypeId} {x y:Operand} {o k:Nat}:binA P .eql c x y (.ptr o k) (.v (.pointer none))=ptrT (P.underlying c) (some (.v (.bool false))) (binZ P .eql c x y (.ptr o k) (.v (.pointer none))):=by
 unfold binZ ptrT
 split
 ·rename_i e hu;simp[binA,binV,kCx,kFf,hu]
 ·rfl
omit [Tabs] in
theorem binA_nePN {c:TypeId} {x y:Operand} {o k:Nat}:binA P .neq c x y (.ptr o k) (.v (.pointer none))=ptrT (P.underlying c) (some (.v (.bool true))) (binZ P .neq c x y (.ptr o k) (.v (.pointer none))):=by
 unfold binZ ptrT
 split
 ·rename_i e hu;simp[binA,binV,kCx,kFf,hu]
 ·rfl
omit [Tabs] in
theorem calm_ptr {op:BinOp} {c e:TypeId} {x y:Operand} (hu:P.underlying c=some (.pointer e)) (hop:op = .eql∨op = .neq):calm P (do eqGuard op c x y (.pointer none) (.pointer none);binOp op c (.pointer none) (.pointer none):Sem Value)=some (.bool (op == .eql)):=by
 have e1:Op.maxDepth=9999+1:=rfl
 have heq:calm P (Op.equal c (.pointer none) (.pointer none))=some true:=by
  rw[Op.equal,e1]
  generalize 9999=dd
  simp[Op.equalIn,k7,underlying,hu]
 rcases hop with rfl|rfl
 ·simp[k7,kCY,eqGuard,binOp,heq]
 ·simp[k7,kCY,eqGuard,binOp,heq]
omit [Tabs] in
theorem binA_eqNN {c:TypeId} {x y:Operand}:binA P .eql c x y (.v (.pointer none)) (.v (.pointer none))=ptrT (P.underlying c) (some (.v (.bool true))) (binZ P .eql c x y (.v (.pointer none)) (.v (.pointer none))):=by
 unfold binZ ptrT
 split
 ·rename_i e hu
  simp only[binA,binV,res]
  rw[calm_ptr hu (.inl rfl)];rfl
 ·rfl
omit [Tabs] in
theorem binA_neNN {c:TypeId} {x y:Operand}:binA P .neq c x y (.v (.pointer none)) (.v (.pointer none))=ptrT (P.underlying c) (some (.v (.bool false))) (binZ P .neq c x y (.v (.pointer none)) (.v (.pointer none))):=by
 unfold binZ ptrT
 split
 ·rename_i e hu
  simp only[binA,binV,res]
  rw[calm_ptr hu (.inr rfl)];rfl
 ·rfl
theorem kFg {f:FuncId} {C:ConO} (hG:kAJ P f C) (hC:Γ.get f=none) {as:List AV} (i:C.ι) (obs:List Nat) (hh:obs.Nodup∧dnL obs as (C.args i)∧dnOs obs h obs (C.objs i)∧AV.tagsL as=[]∧kAK h obs=[])
    (hk:∀ objs lvs r,C.post i objs lvs r→obs.length≤objs.length→cont ⟨n,t,hd,⟨nh+(objs.length - obs.length),kCk nh obs (kDV (obC obs nh) (lnC nl) objs) h,nl+lvs.length,kGR nl lvs fm,kF0 nl lvs lv,mu⟩⟩ d (r.emb (obC obs nh) (lnC nl)) K):kS P Γ false ⟨n,t,hd,⟨nh,h,nl,fm,lv,mu⟩⟩ f as d K :=
 vcCall_obj hG hC i obs hh hk
end
def kB :=
 (aI @retO_ret (aI @retOr_some (aI @AS_ofH_eq (aI @hdOf_zero (aI @hdsOk_nil (aI @hdsOk_cons (aI @rootsAt_nil (aI @rootsAt_cons (aI @rootOf_map (aI @rootOf_cells (aI @ren_mp (aI @ptrT_yes (aI @binA_eqPN (aI @binA_nePN (aI @binA_eqNN @binA_neNN)))))))))))))))
end Go.Rw
-- RwLabM
namespace Go.Rw
open Go Go.RowKit
def labM [Tabs] {α:Type} (P:Program) (Γ:Env) (Ws:List (Nat×List Nat×List Nat)) (c:Code) (l:Nat) (St:α→AS) (μ:α→Nat) (x:Option α) (Q:Exit→AS→Prop) (n:Nat):Exit→AS→Prop
 | .goto k,σ=>if k=l then (∃ y,(∀ x',x=some x'→μ y < μ x')∧Weak σ (St y)) else ∃ rest,findLabel c k=some rest∧vcM P Γ Ws rest (fwdM P Γ Ws c Q n) σ
 | e,σ=>Q e σ
def vclM [Tabs] (P:Program) (Γ:Env) (Ws:List (Nat×List Nat×List Nat)) (l:Nat) (W:AS→Prop):Code→(Exit→AS→Prop)→AS→Prop
 | .seq (.label k) y,Q,σ=>if k=l then W σ else vclM P Γ Ws l W y Q σ
 | .seq x y,Q,σ=>vcM P Γ Ws x (kAW (vclM P Γ Ws l W y Q) Q) σ
 | c,Q,σ=>vcM P Γ Ws c Q σ
section
variable {P:Program} [Tabs] {Γ:Env} {σ:AS} {Q:Exit→AS→Prop} {K:AS→Prop} {n:Nat} {Ws:List (Nat×List Nat×List Nat)}
theorem vclM_ok (hΓ:kK P Γ) {l:Nat} {W:AS→Prop} {R:Code}:∀ (c:Code) {σ:AS},jJ l c=some R→(∀ σ,W σ→AWP P R Q σ)→vclM P Γ Ws l W c Q σ→AWP P c Q σ
 | .seq x y,σ,hs,hW,h=>by
   have gen:∀ {σ:AS},jJ l y=some R→vcM P Γ Ws x (kAW (vclM P Γ Ws l W y Q) Q) σ→AWP P (.seq x y) Q σ:=fun hs' h=>AWP.seq ((qU hΓ x h).mono fun e σ' hq=>by
    cases e with
    | normal=>exact vclM_ok hΓ y hs' hW hq
    | _=>exact hq)
   cases x with
   | label k =>
     simp only[vclM]at h
     simp only[jJ]at hs
     split at h
     ·rename_i hk
      rw[if_pos hk]at hs
      obtain rfl:=Option.some.inj hs
      exact kDz (hW _ h)
     ·rename_i hk
      rw[if_neg hk]at hs
      exact kDz (vclM_ok hΓ y hs hW h)
   | _=>exact gen hs h
 | .skip,_,hs,_,_=>by cases hs
 | .region _ _ _,_,hs,_,_=>by cases hs
 | .cond _ _ _,_,hs,_,_=>by cases hs
 | .block _ _,_,hs,_,_=>by cases hs
 | .exit _,_,hs,_,_=>by cases hs
 | .label _,_,hs,_,_=>by cases hs
 | .goto _,_,hs,_,_=>by cases hs
 | .ret,_,hs,_,_=>by cases hs
 | .loop _,_,hs,_,_=>by cases hs
 | .scope _,_,hs,_,_=>by cases hs
 | .rangeFunc _ _ _ _,_,hs,_,_=>by cases hs
 | .refuse _,_,hs,_,_=>by cases hs
theorem vc_labM (Ws:List (Nat×List Nat×List Nat)) (hΓ:kK P Γ) {α:Type} {c:Code} (l:Nat) {R:Code} (St:α→AS) (μ:α→Nat) (n:Nat) (hf:findLabel c l=some (.seq .skip R)) (hs:jJ l c=some R)
    (hr:∀ x,vcM P Γ Ws R (labM P Γ Ws c l St μ (some x) Q n) (St x))
    (h0:vclM P Γ Ws l (fun σ=>∃ y,Weak σ (St y)) c (labM P Γ Ws c l St μ none Q n) σ):AWP P (.scope c) Q σ:=by
 let J:Nat→Nat→AS→Prop:=fun k j σ=>(k=l∧∃ y,μ y+n+1=j∧σ = St y)∨(j≤n∧∃ rest,findLabel c k=some rest∧vcM P Γ Ws rest (fwdM P Γ Ws c Q j) σ)
 have fwd:∀ (j:Nat) (e:Exit) (σ:AS),j≤n→fwdM P Γ Ws c Q j e σ→hopQ J (some j) Q e σ:=by
  intro j e σ hj hq
  cases j with
  | zero=>cases e<;>first|exact hq|exact hq.elim
  | succ j =>
    cases e with
    | goto k =>
      obtain ⟨rest,h1,h2⟩:=hq
      exact ⟨j,fun i hi=>by simp at hi;omega,σ,Weak.refl σ,.inr ⟨by omega,rest,h1,h2⟩⟩
    | _=>exact hq
 have hop:∀ (x:Option α) (e:Exit) (σ':AS),labM P Γ Ws c l St μ x Q n e σ'→hopQ J (x.map fun x=>μ x+n+1) Q e σ':=by
  intro x e σ' hq
  cases e with
  | goto k =>
    simp only[labM]at hq
    split at hq
    ·rename_i hk
     obtain ⟨y,h1,h2⟩:=hq
     refine ⟨μ y+n+1,fun j hj=>?_,St y,h2,.inl ⟨hk,y,rfl,rfl⟩⟩
     cases x with
     | none=>cases hj
     | some x=>simp at hj;have:=h1 x rfl;omega
    ·obtain ⟨rest,h1,h2⟩:=hq
     refine ⟨n,fun j hj=>?_,σ',Weak.refl σ',.inr ⟨Nat.le_refl _,rest,h1,h2⟩⟩
     cases x with
     | none=>cases hj
     | some x=>simp at hj;omega
  | _=>exact hq
 refine AWP.scope J ?_ ?_
 ·rintro k j σ (⟨rfl,y,rfl,rfl⟩|⟨hj,rest,h1,h2⟩)
  ·exact ⟨_,hf,awp_skip ((qU hΓ _ (hr y)).mono (hop (some y)))⟩
  ·exact ⟨rest,h1,(qU hΓ _ h2).mono fun e σ hq=>fwd j e σ hj hq⟩
 ·refine AWP.mono (vclM_ok hΓ c hs (fun σ' hw=>?_) h0) (hop none)
  obtain ⟨y,hw⟩:=hw
  refine AWP.weak hw ((qU hΓ _ (hr y)).mono fun e σ2 hq=>?_)
  cases e with
  | goto k =>
    simp only[labM]at hq ⊢
    split at hq
    ·rename_i hk
     rw[if_pos hk]
     obtain ⟨z,_,h3⟩:=hq
     exact ⟨z,(fun x' hx=>by cases hx),h3⟩
    ·rename_i hk
     rw[if_neg hk];exact hq
  | _=>exact hq
variable {l k i:Nat} {α:Type} {St:α→AS} {μ:α→Nat} {x:Option α} {c y:Code} {W:AS→Prop}
theorem labM_ret:labM P Γ Ws c l St μ x Q n .ret σ = Q .ret σ:=rfl
theorem labM_again {x:α}:labM P Γ Ws c l St μ (some x) Q n (.goto l) σ = kFm St μ x σ:=by simp[labM,kFm]
theorem vclM_same:vclM P Γ Ws l W (.seq (.label l) y) Q σ = W σ:=by simp[vclM]
theorem vclM_region {id:Nat} {ops:Array Oper} {dr:Bool}:vclM P Γ Ws l W (.seq (.region id ops dr) y) Q σ = vcM P Γ Ws (.region id ops dr) (kAW (vclM P Γ Ws l W y Q) Q) σ:=rfl
theorem vclM_seq {u v:Code}:vclM P Γ Ws l W (.seq (.seq u v) y) Q σ = vcM P Γ Ws (.seq u v) (kAW (vclM P Γ Ws l W y Q) Q) σ:=rfl
end
def qK :=
 (aI @labM_ret (aI @labM_again (aI @vclM_same (aI @vclM_region @vclM_seq))))
end Go.Rw
-- RwFrm
namespace Go.Rw
open Go Go.RowKit
section
variable [Tabs] {σ:AS} {obs:List Nat} {ads:List Ad} {lvs:List (Nat×Nat)} {objs:List AO} {fm:Nat→Nat} {n:Nat} {slots:List (Nat×AV)} {s:List (Nat×AV)} {frs r:List (List (Nat×AV))} {hd:Nat→Nat→AV} {mu:Bool}
end
end Go.Rw
-- RwKeepM
namespace Go.Rw
open Go Go.RowKit
section
variable {P:Program} [Tabs] {Γ:Env} {Ws:List (Nat×List Nat×List Nat)} {Q:Exit→AS→Prop} {K:AS→Prop} {c:Code} {n:Nat} {t t1:Nat→AV} {hd:Nat→Nat→AV} {nh nl:Nat} {h h0 h1:Nat→Option AO} {fm:Nat→Nat} {lv:Nat→Option (Nat×Nat)} {mu:Bool} {l:Nat} {G:Gh} {w:World}
theorem kD7 (Ws:List (Nat×List Nat×List Nat)) (hΓ:kK P Γ) {α:Type} (S:α→List (Nat×AV)) (μ:α→Nat) (x0:α) (h0:kAG t (S x0)) (hh:∀ o x,h o=some x→h1 o=some x)
    (hr:∀ x k,nh≤k→vcM P Γ Ws c (kAW (KeepQ μ (μ x) S n hd nh h nl fm lv mu) Q) ⟨n,look (S x),hd,⟨k,h,nl,fm,lv,mu⟩⟩) :
    vcM P Γ Ws (.loop c) Q ⟨n,t,hd,⟨nh,h1,nl,fm,lv,mu⟩⟩:=by
 show AWP P (.loop c) Q _
 refine AWP.loop (α:=α × { k:Nat // nh≤k }) (fun p=>⟨n,look (S p.1),hd,⟨p.2.1,h,nl,fm,lv,mu⟩⟩) (fun p=>μ p.1) (x0,⟨nh,Nat.le_refl _⟩) (kDQ h0 hh) ?_
 rintro ⟨x,k,hk⟩
 refine (qU hΓ c (hr x k hk)).mono fun e σ hq=>?_
 cases e with
 | normal =>
   obtain ⟨y,t',k',h',h1,rfl,h3,h4,h5⟩:=hq
   exact ⟨(y,⟨k',h3⟩),h1,kDQ h4 h5⟩
 | _=>exact hq
theorem VR.drop {x:Value} {b:AV} (hv:VR G w x b):VR G w x (b.cut fm l):=by
 induction hv with
 | any x=>exact .any _
 | v x=>exact .v _
 | agg arr cs hs _ ih=>exact .agg arr _ (hs.trans (zD cs).symm) fun k hk=>by rw [kAA];rw [zD] at hk;exact ih k hk
 | tup arr cs hs _ ih=>exact .tup arr _ (hs.trans (zD cs).symm) fun k hk=>by rw [kAA];rw [zD] at hk;exact ih k hk
 | nil sz =>
   simp only[AV.cut]
   split
   ·exact .any _
   ·exact .nil sz
 | sl A cap l' sz xs g' off us hl h1 hc hlive hA hsz h0' hcell hh ih =>
   simp only[AV.cut]
   split
   ·exact .any _
   ·exact .sl A cap l' sz xs g' off us hl h1 hc hlive hA hsz h0' hcell hh
 | ep l' sz xs i' j' g' off us hl hlive hA hi hj hsz h0' hcell hh ih =>
   simp only[AV.cut]
   split
   ·exact .any _
   ·exact .ep l' sz xs i' j' g' off us hl hlive hA hi hj hsz h0' hcell hh
 | ptr o k ho=>exact VR.ptr o k ho
 | mp o ho=>exact VR.mp o ho
 | fn f arr cs hs _ ih=>exact .fn f arr _ (hs.trans (zD cs).symm) fun k hk=>by rw [kAA];rw [zD] at hk;exact ih k hk
def cutO (fm:Nat→Nat) (l:Nat) (h:Nat→Option AO):Nat→Option AO:=fun o=>(h o).map (AO.cut fm l)
theorem weak_cut1:Weak ⟨n,t,kB8 t1 hd,⟨nh,h,nl,fm,lv,mu⟩⟩ ⟨n,t,kB8 t1 (cutH fm l hd),⟨nh,cutO fm l h,nl,fm,lv,mu⟩⟩:=by
 intro w0 F0 Fp X G w a hr
 refine ⟨G,hr.sz,hr.df,hr.tm,fun j i=>?_,?_,hr.tb⟩
 ·cases j with
  | zero=>exact hr.hd 0 i
  | succ j=>exact (hr.hd (j+1) i).drop
 ·have hm:=hr.mm
  refine { hm with nh:=hm.nh,nl:=hm.nl,fm:=hm.fm,lv:=hm.lv,obj:=?_,mu:=hm.mu }
  intro o x hx
  simp only[cutO]at hx
  obtain ⟨y,hy,rfl⟩:=Option.map_eq_some_iff.1 hx
  obtain ⟨h3,h4⟩:=hm.obj o y hy
  refine ⟨h3,?_⟩
  cases h4 with
  | cells cs arr e2 hh hs hc=>exact .cells _ arr e2 hh (hs.trans (zD cs).symm) fun k hk=>by rw [kAA];rw [zD] at hk;exact (hc k hk).drop
  | iter s p hh=>exact .iter s p hh
  | map es c hh=>exact .map es c hh
  | mit ob si se la ho hh=>exact .mit ob si se la ho hh
theorem loop_cut (l:Nat) (hv:vcM P Γ Ws (.loop c) Q ⟨n,t,kB8 t1 (cutH fm l hd),⟨nh,cutO fm l h,nl,fm,lv,mu⟩⟩):vcM P Γ Ws (.loop c) Q ⟨n,t,kB8 t1 hd,⟨nh,h,nl,fm,lv,mu⟩⟩ :=
 show AWP P (.loop c) Q _ from AWP.weak weak_cut1 hv
mutual
theorem turn_cut {k:Nat} {zs:List AV}:∀ a:AV,(a.cut fm l).turn fm l k zs=a.cut fm l
 | .any=>rfl
 | .v x=>rfl
 | .agg cs=>by simp only [AV.cut,AV.turn,turnL_cut cs]
 | .tup cs=>by simp only [AV.cut,AV.turn,turnL_cut cs]
 | .fn f cs=>by simp only [AV.cut,AV.turn,turnL_cut cs]
 | .ptr ..=>rfl
 | .mp ..=>rfl
 | .sl l' sz ys=>by
   simp only[AV.cut]
   split
   ·rfl
   ·rename_i h;simp only[AV.turn,if_neg h]
 | .ep l' sz ys i j=>by
   simp only[AV.cut]
   split
   ·rfl
   ·rename_i h;simp only[AV.turn,if_neg h]
theorem turnL_cut {k:Nat} {zs:List AV}:∀ cs:List AV,AV.turnL fm l k zs (AV.cutL fm l cs)=AV.cutL fm l cs
 | []=>rfl
 | a::r=>by simp only [AV.cutL,AV.turnL,turn_cut a,turnL_cut r]
end
mutual
theorem cut_cut:∀ a:AV,(a.cut fm l).cut fm l=a.cut fm l
 | .any=>rfl
 | .v x=>rfl
 | .agg cs=>by simp only [AV.cut,cutL_cut cs]
 | .tup cs=>by simp only [AV.cut,cutL_cut cs]
 | .fn f cs=>by simp only [AV.cut,cutL_cut cs]
 | .ptr ..=>rfl
 | .mp ..=>rfl
 | .sl l' sz ys=>by
   simp only[AV.cut]
   split
   ·rfl
   ·rename_i h;simp only[AV.cut,if_neg h]
 | .ep l' sz ys i j=>by
   simp only[AV.cut]
   split
   ·rfl
   ·rename_i h;simp only[AV.cut,if_neg h]
theorem cutL_cut:∀ cs:List AV,AV.cutL fm l (AV.cutL fm l cs)=AV.cutL fm l cs
 | []=>rfl
 | a::r=>by simp only [AV.cutL,cut_cut a,cutL_cut r]
end
theorem turnO_cut {k:Nat} {zs:List AV} (x:AO):AO.turn fm l k zs (x.cut fm l)=x.cut fm l:=by
 cases x<;>simp[AO.cut,AO.turn,turnL_cut]
theorem cutO_cut (x:AO):AO.cut fm l (x.cut fm l)=x.cut fm l:=by
 cases x<;>simp[AO.cut,cutL_cut]
theorem turnH_cut {k:Nat} {zs:List AV}:turnH fm l k zs (cutH fm l hd)=cutH fm l hd:=by
 funext j i;exact turn_cut _
theorem cutH_cut:cutH fm l (cutH fm l hd)=cutH fm l hd:=by
 funext j i;exact cut_cut _
def HasO (h0 h:Nat→Option AO):Prop:=∀ o z,h0 o=some z→h o=some z
theorem HasO.refl:HasO h h:=fun _ _ h=>h
theorem HasO.new {c:AO} {k:Nat} (hk:∀ o x,h0 o=some x→o < k) (hh:HasO h0 h):HasO h0 (upd h k (some c)):=fun o x hx=>by
 have:=hk o x hx
 rw[upd,if_neg (by omega)];exact hh o x hx
theorem HasO.turn {k:Nat} {zs:List AV} (hh:HasO (cutO fm l h0) h):HasO (cutO fm l h0) (fun o=>(h o).map (AO.turn fm l k zs)):=fun o x hx=>by
 show (h o).map _=_
 rw[hh o x hx]
 simp only[cutO]at hx
 obtain ⟨y,hy,rfl⟩:=Option.map_eq_some_iff.1 hx
 simp[turnO_cut]
theorem HasO.cut (hh:HasO (cutO fm l h0) h):HasO (cutO fm l h0) (fun o=>(h o).map (AO.cut fm l)):=fun o x hx=>by
 show (h o).map _=_
 rw[hh o x hx]
 simp only[cutO]at hx
 obtain ⟨y,hy,rfl⟩:=Option.map_eq_some_iff.1 hx
 simp[cutO_cut]
theorem kGT {α:Type} {μ:α→Nat} {mx:Nat} {S:α→List (Nat×AV)} {nh0:Nat} {hd':Nat→Nat→AV} {fm':Nat→Nat} {lv':Nat→Option (Nat×Nat)} (y:α) (h1:μ y < mx) (h3:nh0≤nh) (h4:kAG t (S y)) (h5:HasO h0 h) (he:hd=hd') (he2:fm=fm'∧lv=lv') :
    KeepQ μ mx S n hd' nh0 h0 nl fm' lv' mu ⟨n,t,hd,⟨nh,h,nl,fm,lv,mu⟩⟩:=by
 obtain ⟨rfl,rfl⟩:=he2
 subst he
 exact ⟨y,t,nh,h,h1,rfl,h3,h4,h5⟩
theorem upd_self {v:Option (Nat×Nat)} (h:lv l=v):upd lv l v=lv:=by
 funext j
 by_cases hj:j=l
 ·subst hj;rw[kU,h]
 ·rw[kJ _ _ hj]
end
end Go.Rw
