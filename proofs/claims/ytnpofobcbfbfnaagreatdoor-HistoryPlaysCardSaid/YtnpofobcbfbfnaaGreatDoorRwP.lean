/-
 slices.Sorted at what maps.Keys hands back: a map's keys,rising. Proved over any program.
-/
import Derived.Test.YtnpofobcbfbfnaaGreatDoorRwO
import Derived.Shelf.SlIterI.Sorted
import Derived.Shelf.SortM.Plain
import Derived.Shelf.SortM.SortNone
set_option linter.unusedSimpArgs false
set_option linter.unusedVariables false
set_option linter.unusedSectionVars false

-- RwKeys
namespace Go.Rw
open Go Go.RowKit Go.Proofs Go.Shelf Go.Maps Go.Sort
def kA4 (ps:List (Int×Value)):List Int:=(ps.map Prod.fst).mergeSort fun x y=>decide (x≤y)
section
variable {P:Program} [Tabs] {ρ ρ' ρ'':Ren} {w0:World} {F0:Nat→Nat} {Fp:Nat→Prop} {X:Nat→Nat→Value} {G:Gh} {w:World} {a:Act} {σ:AS} {d:Option Nat} {K:AS→Prop}
def noR:Value→Option (DataW Unit×List MemPlace):=fun _=>some (.nil,[])
omit [Tabs] in
theorem map_owns {k:TypeId} (hk:P.underlying k=some (.int .i64)) {b:Nat} {es:Array MapEntry} {cl:Nat} {ps:List (Int×Value)} (hb:w.heap[b]? = some (.map es cl)) (hM:MapG es cl ps) (hwf:∀ p∈ps,-9223372036854775808≤p.1∧p.1≤9223372036854775807) (hmax:es.size≤maxLen) :
    ∃ D:DataW Unit,w.ownsMap P k noR b es.size D∧(intKeys D).Perm (ps.map Prod.fst)∧Maps.size D=es.size:=by
 obtain ⟨hu,ps',hp,hm,hb1,hb2⟩:=hM
 have hrd:∀ x∈es.toList,∃ z:Int,x.key = .int .i64 z∧WideElems.rd P k noR x=some (.int .i64 z,.nil):=by
  intro x hx
  obtain ⟨i,hi,rfl⟩:=List.getElem_of_mem hx
  have h1:(es.toList.map fun e=>(e.key,e.val))[i]? = (ps'.map fun p=>(Value.int .i64 p.1,p.2))[i]?:=by rw[hm]
  have hil:i < ps'.length:=by
   have:=congrArg List.length hm
   simp only[List.length_map]at this
   omega
  rw[List.getElem?_map,List.getElem?_map,List.getElem?_eq_getElem hi,List.getElem?_eq_getElem hil]at h1
  simp only[Option.map_some,Option.some.injEq,Prod.mk.injEq]at h1
  refine ⟨ps'[i].1,h1.1,?_⟩
  have hw:=hwf ps'[i] (hp.mem_iff.1 (List.getElem_mem hil))
  have hwf2:(Lit.int .i64 ps'[i].1).wf=true:=by
   have m1:IntKind.min .i64 = -9223372036854775808:=by decide
   have m2:IntKind.max .i64=9223372036854775807:=by decide
   simp only[Lit.wf,m1,m2,Bool.and_eq_true,decide_eq_true_eq]
   exact hw
  have hko:keyOf P k es.toList[i].key=some (.int .i64 ps'[i].1):=by
   rw[h1.1]
   simp[keyOf,hk,mapKey,hwf2]
  show (keyOf P k es.toList[i].key).bind _=_
  rw[hko];rfl
 have hrg:es.toList.map (WideElems.rg P k noR)=ps'.map fun p=>(Lit.int .i64 p.1,(DataW.nil:DataW Unit)):=by
  apply List.ext_getElem
  ·have:=congrArg List.length hm
   simpa using this
  ·intro i h1 h2
   simp only[List.length_map]at h1 h2
   obtain ⟨z,hz1,hz2⟩:=hrd es.toList[i] (List.getElem_mem h1)
   have h3:(es.toList.map fun e=>(e.key,e.val))[i]? = (ps'.map fun p=>(Value.int .i64 p.1,p.2))[i]?:=by rw[hm]
   rw[List.getElem?_map,List.getElem?_map,List.getElem?_eq_getElem h1,List.getElem?_eq_getElem h2]at h3
   simp only[Option.map_some,Option.some.injEq,Prod.mk.injEq]at h3
   rw[hz1]at h3
   have hz:z=ps'[i].1:=by simpa using h3.1
   simp only[List.getElem_map]
   rw[WideElems.rg_of hz2,hz]
 refine ⟨_,⟨es,cl,hb,⟨hmax,⟨hb2,hb1,?_⟩,fun x hx=>by obtain ⟨z,_,hz⟩:=hrd x hx;exact ⟨_,hz⟩⟩,Nat.le_refl _,rfl⟩,?_,?_⟩
 ·have e:es.toList.map (·.key)=ps'.map fun p=>Value.int .i64 p.1:=by
    have:=congrArg (List.map Prod.fst) hm
    simpa [List.map_map,Function.comp_def] using this
  rw[e]
  have hu':=kCX hp hu
  unfold kBI at hu'
  rw[List.nodup_iff_pairwise_ne,List.pairwise_map]at hu' ⊢
  exact hu'.imp fun h1 h2=>h1 (by simpa using h2)
 ·rw[hrg]
  show ((List.foldr DataW.insert [] _).map fun p=>intOf p.1).Perm _
  refine ((WideShapes.sorted_perm _).map _).trans ?_
  rw[List.map_map]
  exact (List.Perm.refl _).trans (hp.map Prod.fst)
 ·show (List.foldr DataW.insert [] _).length=_
  rw[(WideShapes.sorted_perm _).length_eq,List.length_map,Array.length_toList]
theorem sorted_raw (L7:SlLaysZI.n7 P ρ) (L6:SlLaysZI.n6 P ρ') (LS:SlLaysM.n5 P ρ'') {fS fI:FuncId} (e6:ρ'.f 6=fS) (e10:ρ.f 10=fI) (e9:ρ'.f 9 = ρ''.f 5) {bx ob:Nat} {es:Array MapEntry} {cl:Nat} {ps:List (Int×Value)}
    (hbx:σ.m.h bx=some (.cells [.mp ob])) (hob:σ.m.h ob=some (.map es cl)) (hM:MapG es cl ps) (hwf:∀ p∈ps,-9223372036854775808≤p.1∧p.1≤9223372036854775807) (hmax:es.size≤1000000)
    (hk:cont σ d (.sl 0 1 (ints .i64 (kA4 ps))) K):RawC P σ fS [.fn fI [.ptr bx 0]] d K:=by
 subst e6;subst e10
 have hml:es.size≤maxLen:=by unfold maxLen;omega
 have L10:SlLaysZI.n10 P ρ:={ L7 with }
 have heS:∀ args w,(callFunc (ρ'.f 9) args).run P w = .ok (.enter (ρ'.f 9) args) w:=by rw[e9];exact LS.f5.enters rfl
 have heI:∀ args w,(callFunc (ρ.f 10) args).run P w = .ok (.enter (ρ.f 10) args) w:=L10.f10.enters rfl
 have hsorts:∀ m,AnyZI.SortsIn P ρ' Fence.wide m:=fun m=>by
  refine ⟨fun blk off cap ss W hH hblk hsz=>?_,fun p cap W=>?_⟩
  ·rw[e9];exact callsIn_wide.2 (AnyM.slices_Sort_int LS blk off cap ss W hH hblk hsz)
  ·rw[e9];exact callsIn_wide.2 (AnyM.slices_Sort_int_none LS p cap W)
 refine ⟨?_,fun w0 F0 Fp X G w a vs hr hlen hv=>?_⟩
 ·obtain ⟨nm,hn,hf⟩:=L6.f6
  exact ⟨_,hf,hn,rfl⟩
 have hv0:=hv 0
 simp only[List.getD_cons_zero]at hv0
 have hvs:vs = #[vs.getD 0 undef]:=by
  apply Array.ext (by simpa using hlen)
  intro i h1 h2
  have:i=0:=by simp at h2;omega
  subst this
  simp[Array.getD,h1]
 generalize vs.getD 0 undef=v0 at hv0 hvs
 cases hv0 with
 | fn _ arr _ hs hc =>
   have hc0:=hc 0 (by simp)
   simp only[List.getD_cons_zero]at hc0
   have ha:=kFQ hc0
   have harr:arr = #[.pointer (some ⟨G.ob bx,0,none⟩)]:=by
    apply Array.ext (by simpa using hs)
    intro i h1 h2
    have:i=0:=by simp at h2;omega
    subst this
    rw[← ha];simp[Array.getD,h1]
   subst harr
   obtain ⟨hol,hh⟩:=kAh hr hob
   obtain ⟨hbl,hbo⟩:=hr.mm.obj bx _ hbx
   have hm:w.cell? ⟨G.ob bx,0,none⟩=some (.map (some (G.ob ob))):=by
    cases hbo with
    | cells cs arr2 e2 hh2 hs2 hc2 =>
      have h1:=hc2 0 (by simp)
      simp only[List.getD_cons_zero]at h1
      have h2:=mp_inv h1
      have h3:arr2[0]? = some (.map (some (G.ob ob))):=by
       have hlt:0 < arr2.size:=by rw[hs2];simp
       rw[Array.getElem?_eq_getElem hlt]
       rw[← h2];simp[Array.getD,hlt]
      simp only[World.cell?,hh2,Option.isSome_none,Bool.false_eq_true,if_false]
      rw[h3]
   obtain ⟨D,hown,hperm,hsz⟩:=map_owns (P:=P) L7.t26 hh hM hwf hml
   have hBm:G.ob bx < w.heap.size:=(hr.mm.obl bx hbl).2.2.1
   have hseq:=AnyZI.keys_gives L10 Fence.wide 2 trivial rfl (by omega) (G.ob bx) (G.ob ob) es.size D w hBm hm hown
   have cS:=AnyZI.sorted_in L6 Fence.wide 5 trivial trivial trivial trivial rfl (by omega) (hsorts _) heS (ρ.f 10) #[.pointer (some ⟨G.ob bx,0,none⟩)] trivial heI _ _ (by rw[hsz];exact hml) (by rw[hsz];omega) w hseq
   rw[hvs]
   refine ((callsIn_wide (n:=5)).1 cS).mono ?_
   rintro ed w' ⟨v,ss,rfl,hS,hrow,hnil,hbel⟩
   have hks:(ss.mergeSort fun x y=>decide (x≤y))=kA4 ps:=mergeSort_of_perm_i (hS.trans hperm)
   have hlen2:ss.length=(kA4 ps).length:=by rw[← hks,List.length_mergeSort]
   rw[hks]at hrow
   have htwo:=hr.mm.two
   have hlv0:G.lv 0=none:=hr.mm.lv_two (by omega)
   rcases hrow.2 with ⟨rfl,hz⟩|⟨gb,cap,cur,rfl,hbase,hgb,r1,r2,r3,r4⟩
   ·have hk0:kA4 ps=[]:=List.eq_nil_of_length_eq_zero (by omega)
    rw[hk0]at hk
    refine ⟨_,σ,_,G,rfl,hr.below hbel,?_,hk⟩
    exact .sl none 0 0 1 [] 0 0 (fun _=>default) (by omega) (by omega) (by simp) (fun n e hn=>by rw[hlv0]at hn;cases hn) (fun h=>absurd rfl h) (by simp[ints]) (fun h=>absurd rfl h) (by simp[ints]) (by simp[ints])
   ·have hfr:G.fr gb=0:=by
      rcases Nat.eq_zero_or_pos (G.fr gb) with h1|h1
      ·exact h1
      ·have:=hr.mm.frl _ h1;omega
    have hlin:G.lin gb=0:=hr.mm.linl _ hbase
    have hr2:=(hr.below hbel).newDead (n:=ss.length) hfr (Array.getElem?_eq_some_iff.1 hgb).1 (Nat.le_trans hr.mm.size hbase) hlin
    refine ⟨_,σ,_,_,rfl,hr2,?_,hk⟩
    have hil:(ints .i64 (kA4 ps)).length=ss.length:=by simp[ints,hlen2]
    have goal:VR (G.newDead gb ss.length) w' (.slice (some ⟨gb,0,none⟩) (ints .i64 (kA4 ps)).length cap) (.sl 0 1 (ints .i64 (kA4 ps))):=by
     refine .sl _ cap 0 1 _ gb 0 (fun k=>.int .i64 ((kA4 ps).getD k 0)) (by simp only[Gh.newDead];omega) (by omega) (by omega) (fun n e hn=>by simp only[Gh.newDead]at hn;rw[hlv0]at hn;cases hn) (fun _=>⟨rfl,.inr hlin,by simp only[Gh.newDead,kU];omega⟩) ?_ (fun _=>by omega) ?_ ?_
     ·intro x hx
      simp only[ints,List.mem_map]at hx
      obtain ⟨z,_,rfl⟩:=hx
      exact ⟨rfl,rfl⟩
     ·intro k hk
      have hk2:k < (kA4 ps).length:=by omega
      refine ⟨?_,rfl⟩
      have h4:cur[k]? = some (.int .i64 (kA4 ps)[k]):=by
       have:=congrArg (fun l=>l[k]?) r4
       simp only[List.getElem?_take,List.getElem?_map,List.getElem?_eq_getElem hk2,Array.getElem?_toList]at this
       rw[if_pos (by omega)]at this
       simpa using this
      simp only[World.cell?,hgb,Nat.zero_add,Option.isSome_none,Bool.false_eq_true,if_false,h4]
      simp[List.getD_eq_getElem?_getD,hk2]
     ·intro k hk
      have hk2:k < (kA4 ps).length:=by omega
      have e:(flat (ints .i64 (kA4 ps))).getD k .any = .v (.int .i64 ((kA4 ps).getD k 0)):=by
       have:=qX (sz:=1) (xs:=ints .i64 (kA4 ps)) (i:=k) (j:=0) (by intro x hx;simp only[ints,List.mem_map]at hx;obtain ⟨z,_,rfl⟩:=hx;rfl) (by omega)
       rw[Nat.mul_one,Nat.add_zero]at this
       rw[this]
       simp[ints,List.getD_eq_getElem?_getD,hk2,AV.cells]
      rw[e];exact .v _
    rw[hil]at goal;exact goal
end
end Go.Rw
