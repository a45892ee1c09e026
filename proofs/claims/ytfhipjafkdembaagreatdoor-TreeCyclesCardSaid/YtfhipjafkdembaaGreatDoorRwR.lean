/-
 A function that reverses the numbers of a slice in place,as the reckoning asks for it. Proved over any program. strings.Split at one byte;strings.Join. Proved over any program. slices.Reverse at a live slice of texts. Proved over any program.
-/
import Derived.Test.YtfhipjafkdembaaGreatDoorRwC
import Derived.Sort.Row
import Derived.Test.YtfhipjafkdembaaGreatDoorRwI
import Derived.Shelf.Strings.Split
import Derived.Shelf.Strings.OnBuilder
import Derived.Shelf.Slices.ReverseS
set_option linter.unusedSimpArgs false
set_option linter.unusedVariables false
set_option linter.defProp false
set_option linter.unusedSectionVars false

-- RwRev
section
namespace Go.Rw
open Go Go.RowKit Go.Sort
theorem frozen_row {w:World} {g i:Nat} {cur:Array Value} {e:TypeId} (h:w.heap[g]? = some (.cells cur e (0,0))):w.frozen? ⟨g,i,none⟩=false:=by
 simp[World.frozen?,h]
end Go.Rw
end
-- RwStr
section
namespace Go.Proofs
open Go.Shelf Go.RowKit Go.Lib
variable {P:Program} {ρ:Ren}
set_option maxHeartbeats 1000000 in
theorem split_at (L:Lays.n146 P ρ) (hi9:(P.info? (ρ.t 9)).map (fun i=>(i.zero,i.size,i.bytes))=some (some (.string ByteArray.empty),1,16)) (s sep:ByteArray) (w:World)
    (hs:s.size < 4294967281) (h1:1≤sep.size)
    (hI:∀ (x:ByteArray) (c:Array Value),x.size≤s.size→Calls P (ρ.f 143) #[.string x,.string sep] (w.alloc (.cells c (ρ.t 9))) fun e w'=>e = .returned (.int .i64 (Lib.indexB x sep))∧w'=w.alloc (.cells c (ρ.t 9)))
    (hC:Calls P (ρ.f 138) #[.string s,.string sep] w fun e w'=>e = .returned (.int .i64 (Lib.countB s sep))∧w'=w) :
    Calls P (ρ.f 146) #[.string s,.string sep] w fun e w' =>
     e = .returned (.slice (some ⟨w.heap.size,0,none⟩) (Lib.countB s sep+1) (Lib.countB s sep+1))∧w'=w.alloc (.cells ((Lib.splitB sep 0 (Lib.countB s sep) s).map Value.string).toArray (ρ.t 9)):=by
 have hle:=Lib.countB_le sep h1 s.size s (Nat.le_refl _)
 have hlen:=Lib.splitB_all sep h1 0 _ s rfl
 have c:=Any.strings_genSplit_core { L with } hi9 s sep 0 (-1) (Lib.countB s sep+1) w hs h1 (Nat.zero_le _) hI hC (by decide) (by decide) (by rw[if_pos (by decide)];omega)
 rw[Nat.add_sub_cancel,hlen]at c
 have e2:Lib.cellsOf (Lib.splitB sep 0 (Lib.countB s sep) s) (Lib.countB s sep+1)=((Lib.splitB sep 0 (Lib.countB s sep) s).map Value.string).toArray:=by rw[← hlen];exact Lib.cellsOf_full _
 rw[e2]at c
 clear hI hC
 have t3:=L.t3;have t9:=L.t9;have t31:=L.t31
 have a3:=L.a3;have a9:=L.a9;have a31:=L.a31
 have z3:=L.z3;have v3:=L.v3;have z9:=L.z9;have v9:=L.v9;have z31:=L.z31;have v31:=L.v31
 have e221:∀ args w,(callFunc (ρ.f 221) args).run P w = .ok (.enter (ρ.f 221) args) w:=enters_of L.f221 (by kernel_rfl) rfl
 go_enter L.f146,Body.n146_ntmps ρ
 go_wp2_with (go_at_fn (ρ.f 221);refine c.mono ?_;rintro e w' ⟨rfl,hw⟩;rw[hw])
 go_ret
 exact ⟨rfl,rfl⟩
theorem split_one (L:Lays.n146 P ρ) (hi9:(P.info? (ρ.t 9)).map (fun i=>(i.zero,i.size,i.bytes))=some (some (.string ByteArray.empty),1,16)) (s:ByteArray) (x:UInt8) (w:World) (hs:s.size < 4294967281) :
    Calls P (ρ.f 146) #[.string s,.string ⟨#[x]⟩] w fun e w'=>∃ l:List ByteArray,l.map (·.data.toList)=Lib.splitK [x] 0 (Lib.count s.data.toList [x]) s.data.toList∧e = .returned (.slice (some ⟨w.heap.size,0,none⟩) l.length l.length)∧w'=w.alloc (.cells (l.map Value.string).toArray (ρ.t 9)):=by
 refine (split_at L hi9 s ⟨#[x]⟩ w hs (Nat.le_refl _) (fun y cs hy=>?_) ?_).mono ?_
 ·refine (Any.strings_Index_one { L with } y x _).mono ?_
  rintro e w' ⟨rfl,rfl⟩
  exact ⟨by rw[← Lib.index_one];try rfl,rfl⟩
 ·refine (Any.strings_Count_one { L with } s x w).mono ?_
  rintro e w' ⟨rfl,rfl⟩
  refine ⟨?_,rfl⟩
  show _=Ending.returned (Value.int .i64 ((Lib.count s.data.toList [x]:Nat):Int))
  rw[Lib.count_one];rfl
 ·rintro e w' ⟨rfl,rfl⟩
  have hlen:=Lib.splitB_all ⟨#[x]⟩ (Nat.le_refl _) 0 _ s rfl
  exact ⟨_,Lib.splitB_data _ _ _ _,by rw[hlen],rfl⟩
end Go.Proofs
namespace Go.Rw
open Go Go.RowKit Go.Proofs Go.Shelf
theorem strs_er {l:List (List UInt8)}:∀ x∈zC l,x.cells.length=1∧x.er=x:=fun x hx=>by
 obtain ⟨s,_,rfl⟩:=List.mem_map.1 hx
 exact ⟨rfl,rfl⟩
theorem kC9 (l:List (List UInt8)):flat (zC l)=zC l:=by
 have e0:zC l=(l.map sv).map AV.v:=by simp[zC]
 rw[e0];exact flat_vs _
theorem j4 {l:List (List UInt8)}:(zC l).length=l.length:=by simp[zC]
theorem j8 {l:List (List UInt8)} {i:Nat} (h:i < l.length):(zC l).getD i .any = .v (sv l[i]):=by simp[zC,List.getD_eq_getElem?_getD,h]
def jT (c:UInt8) (s:List UInt8):List (List UInt8):=Lib.splitK [c] 0 (Lib.count s [c]) s
section
variable {P:Program} [Tabs] {ρ:Ren} {σ:AS} {d:Option Nat} {K:AS→Prop}
theorem split_raw (L:Lays.n146 P ρ) (hi9:(P.info? (ρ.t 9)).map (fun i=>(i.zero,i.size,i.bytes))=some (some (.string ByteArray.empty),1,16)) {f:FuncId} (e:ρ.f 146=f) {s:List UInt8} {x:UInt8} (hs:s.length < 4000000000)
    (hk:cont σ d (.sl 0 1 (zC (jT x s))) K):RawC P σ f [.v (sv s),.v (sv [x])] d K:=by
 subst e
 refine ⟨?_,fun w0 F0 Fp X G w a vs hr hlen hv=>?_⟩
 ·exact ⟨_,L.f146,rfl,rfl⟩
 have h0:=VR.v_inv (hv 0)
 have h1:=VR.v_inv (hv 1)
 have e:vs = #[sv s,sv [x]]:=by
  apply Array.ext (by simpa using hlen)
  intro i h2 h3
  rw[Array.getD_eq_getD_getElem?]at h0 h1
  have:i=0∨i=1:=by have:i < 2:=by simpa using h3
                   omega
  rcases this with rfl|rfl
  ·rw[Array.getElem?_eq_getElem h2]at h0;simpa using h0
  ·rw[Array.getElem?_eq_getElem h2]at h1;simpa using h1
 rw[e]
 refine (split_one L hi9 ⟨s.toArray⟩ x w (by simp[ByteArray.size];omega)).mono ?_
 rintro ed w' ⟨l,hd,rfl,rfl⟩
 have hfr:G.fr w.heap.size=0:=by
  rcases Nat.eq_zero_or_pos (G.fr w.heap.size) with h1|h1
  ·exact h1
  ·have:=hr.mm.frl _ h1;omega
 have hlin:G.lin w.heap.size=0:=hr.mm.linl _ (Nat.le_refl _)
 have hbel:Below w.heap.size w (w.alloc (.cells (l.map Value.string).toArray (ρ.t 9))):=(Below.refl _ _).alloc (by simp) _
 have hrow:(w.alloc (.cells (l.map Value.string).toArray (ρ.t 9))).heap[w.heap.size]? = some (.cells (l.map Value.string).toArray (ρ.t 9)):=heap_alloc_new w _
 have hr2:=(hr.below hbel).newDead (n:=l.length) hfr (Array.getElem?_eq_some_iff.1 hrow).1 hr.mm.size hlin
 have hd':jT x s=l.map (·.data.toList):=by rw[hd];rfl
 have hll:(zC (jT x s)).length=l.length:=by rw[j4,hd',List.length_map]
 have htwo:=hr.mm.two
 refine ⟨_,σ,_,_,rfl,hr2,?_,hk⟩
 have goal:VR (G.newDead w.heap.size l.length) (w.alloc (.cells (l.map Value.string).toArray (ρ.t 9))) (.slice (some ⟨w.heap.size,0,none⟩) (zC (jT x s)).length l.length) (.sl 0 1 (zC (jT x s))):=by
  refine .sl _ _ 0 1 _ w.heap.size 0 (fun k=>.string (l.getD k default)) (by simp only[Gh.newDead];omega) (by omega) (by omega) ?_ (fun _=>⟨rfl,.inr hlin,by simp only[Gh.newDead,qE];omega⟩) strs_er (fun _=>by omega) ?_ ?_
  ·intro n' e' hn'
   have h3:G.lv 0=none:=hr.mm.lv_two (by omega)
   simp only[Gh.newDead]at hn'
   rw[h3]at hn';cases hn'
  ·intro k hk
   have hk2:k < l.length:=by omega
   refine ⟨?_,rfl⟩
   simp only[World.cell?,hrow,Nat.zero_add,Option.isSome_none,Bool.false_eq_true,if_false]
   simp[List.getD_eq_getElem?_getD,hk2]
  ·intro k hk
   have hk2:k < l.length:=by omega
   have e1:(zC (jT x s)).getD k .any = .v (.string (l.getD k default)):=by
    rw[j8 (by rw[hd',List.length_map];exact hk2)]
    simp[hd',sv,List.getD_eq_getElem?_getD,hk2]
   rw[kC9,e1]
   exact .v _
 rw[hll]at goal;exact goal
end
abbrev kEg:Con where
 ι:={ p:List (List UInt8)×List UInt8 // p.1.length≤1000000∧(Lib.join p.1 p.2).length≤1099511627776 }
 args:=fun p=>[.sl 0 1 (zC p.1.1),.v (sv p.1.2)]
 post:=fun p r=>r = .v (sv (Lib.join p.1.1 p.1.2))
 plain:=true
theorem join_good {P:Program} [Tabs] {ρ:Ren} (L:Lays.n156 P ρ) (X:Builder.Extra P ρ) {f:FuncId} (e:ρ.f 156=f):Rw.Good P f kEg:=by
 subst e
 refine kDG ?_ rfl rfl fun p w F vs htb hs hv=>?_
 ·exact ⟨_,L.f156,rfl,rfl⟩
 obtain ⟨⟨l,sep⟩,hl,hj⟩:=p
 simp only at hl hj
 have h0:=hv 0
 have h1:=VR.v_inv (hv 1)
 have e:vs = #[vs.getD 0 undef,sv sep]:=by
  apply Array.ext (by simpa using hs)
  intro i h2 h3
  have:i=0∨i=1:=by have:i < 2:=by simpa using h3
                   omega
  rcases this with rfl|rfl
  ·simp[Array.getD_eq_getD_getElem?,h2]
  ·rw[Array.getD_eq_getD_getElem?,Array.getElem?_eq_getElem h2]at h1;simpa using h1
 simp only[List.getD_cons_zero]at h0
 generalize vs.getD 0 undef=v at e h0
 subst e
 have em:∀ l:List (List UInt8),(l.map fun s=>(⟨s.toArray⟩:ByteArray)).map (·.data.toList)=l:=fun l=>by
  rw[List.map_map]
  exact (List.map_congr_left fun s _=>by simp).trans (List.map_id l)
 have fin:∀ (A:Option Addr) (g off cap:Nat),l.length≤cap→v = .slice A l.length cap→(l≠[]→A=some ⟨g,off,none⟩)→(∀ j (hj:j < l.length),w.cell? ⟨g,off+j,none⟩=some (sv l[j])) →
     Calls P (ρ.f 156) #[v,sv sep] w fun e w'=>∃ v r,e = .returned v∧r = .v (sv (Lib.join l sep))∧(∀ G w,VR G w v r)∧r.plain=true∧Below w.heap.size w w':=by
  rintro A g off cap hcap rfl hA hc
  by_cases hne:l=[]
  ·subst hne
   refine (Any.strings_Join_none L X A cap ⟨sep.toArray⟩ w).mono ?_
   rintro e w' ⟨rfl,rfl⟩
   exact ⟨_,_,rfl,rfl,fun _ _=>.v _,rfl,.refl _ _⟩
  ·rw[hA hne]
   have hb:g < w.heap.size:=by
    have h2:=hc 0 (List.length_pos_iff.2 hne)
    exact World.block_lt_of_cell? _ _ h2
   have:=Any.strings_Join L X g off cap (l.map fun s=>⟨s.toArray⟩) ⟨sep.toArray⟩ w (fun j x hx=>by
    rw[List.getElem?_map]at hx
    obtain ⟨s,hs,rfl⟩:=Option.map_eq_some_iff.1 hx
    obtain ⟨hj2,rfl⟩:=List.getElem?_eq_some_iff.1 hs
    exact hc j hj2) hb (by rw[List.length_map];omega) (by rw[List.length_map];exact hcap) (by rw[em];show (Lib.join l sep).length≤_;omega)
   rw[List.length_map,em]at this
   refine this.mono ?_
   rintro e w' ⟨rfl,hb2⟩
   exact ⟨_,_,rfl,rfl,fun _ _=>.v _,rfl,hb2⟩
 have hlen:(zC l).length=l.length:=j4
 generalize hxs:zC l=xs at h0 hlen
 cases h0 with
 | sl A cap _ _ _ g off us hl2 h1 hc hlive hA hsz h0 hcell hh =>
   refine fin A g off cap (by omega) (by rw[hlen]) (fun hne=>(hA (by rw[← hxs];intro h;apply hne;exact List.map_eq_nil_iff.1 h)).1) fun j hj=>?_
   have hj2:j < xs.length * 1:=by omega
   have h2:=hh j hj2
   rw[(hcell j hj2).1]
   rw[← hxs,kC9,j8 hj]at h2
   rw[h2.v_inv]
-- cut again where it was put together
theorem cuts_none {c:UInt8} {s:List UInt8} (h:c ∉ s):jT c s=[s]:=by
 unfold jT
 rw[Lib.count_one,List.count_eq_zero_of_not_mem h];rfl
theorem kDu {c:UInt8}:∀ {x:List UInt8} (_:c ∉ x) (r:List UInt8),jT c (x++c::r)=x::jT c r:=fun {x} h r=>by
 unfold jT
 have hi:Lib.index (x++c::r) [c]=x.length:=by
  rw[Lib.index_one]
  have:∀ {x:List UInt8},c ∉ x→Lib.indexByte (x++c::r) c=x.length:=fun {x}=>by
   induction x with
   | nil=>intro _;simp [Lib.indexByte]
   | cons y x ih =>
     intro h
     rw[List.mem_cons,not_or]at h
     have:=ih h.2
     rw[List.cons_append,Lib.indexByte]
     simp[this,Ne.symm h.1]
     try omega
  exact this h
 rw[Lib.count_one,Lib.count_one,List.count_append,List.count_eq_zero_of_not_mem h,List.count_cons_self,Nat.zero_add,Lib.splitK,hi]
 rw[if_neg (by simp)]
 simp
theorem kCU {c:UInt8}:∀ {l:List (List UInt8)},l≠[]→(∀ x∈l,c ∉ x)→jT c (Lib.join l [c])=l
 | [],h,_=>absurd rfl h
 | [x],_,h=>by rw [Lib.join_one,cuts_none (h x (List.mem_singleton.2 rfl))]
 | x::y::l,_,h=>by
   have e:Lib.join (x::y::l) [c]=x++c::Lib.join (y::l) [c]:=by
    simp[Lib.join_cons,Lib.joinTail]
   rw[e,kDu (h x (List.mem_cons_self ..)),kCU (by simp) fun z hz=>h z (List.mem_cons_of_mem _ hz)]
end Go.Rw
end
-- RwStrR
section
namespace Go.Rw
open Go Go.RowKit Go.Proofs Go.Shelf Go.Sort
section
variable {P:Program} {ρ:Ren} [Tabs] {σ:AS} {d:Option Nat} {K:AS→Prop}
theorem revS_raw (L:Lays2.n17 P ρ) {f:FuncId} (ef:ρ.f 17=f) {l e:Nat} {xs:List (List UInt8)} (hl2:2≤l) (hxl:xs.length≤1000000000) (hlv:σ.m.lv l=some (xs.length,e)) (hmu:σ.m.mu=true)
    (hk0:xs=[]→cont σ d (.tup []) K) (hk1:cont (σ.turned l xs.length (zC xs.reverse)) d (.tup []) K) :
    RawC P σ f [.sl l 1 (zC xs)] d K:=by
 subst ef
 refine ⟨⟨_,L.f17,rfl,rfl⟩,fun w0 F0 Fp X G w a vs h hlen hv=>?_⟩
 have hsl:(zC xs).length=xs.length:=j4
 have hlvG:G.lv l=some (xs.length,e):=by rw[h.mm.lv];exact hlv
 have hvs:vs = #[vs.getD 0 undef]:=by
  apply Array.ext (by simpa using hlen)
  intro i h1 h2
  have:i=0:=by simpa using h2
  subst this
  simp[Array.getD_eq_getD_getElem?,h1]
 have hx:=hv 0
 simp only[List.getD_cons_zero]at hx
 rw[hvs]
 generalize vs.getD 0 undef=x at hx
 clear hv hlen hvs
 generalize hys:zC xs=ys at hx
 cases hx with
 | nil=>omega
 | sl A cap _ _ _ g off us hl' h1' hcap hlive hA hsz h0 hcell hh =>
   subst hys
   rw[hsl]at *
   obtain ⟨_,h3⟩:=hlive _ _ hlvG
   obtain ⟨h4,h5⟩:=h3 rfl
   by_cases hne:xs=[]
   ·subst hne
    refine (Any.slices_Reverse_string_empty L A cap w).mono ?_
    rintro ed w' ⟨rfl,rfl⟩
    exact ⟨_,σ,.tup [],G,rfl,h,.tup #[] [] rfl (fun j hj=>by simp at hj),hk0 rfl⟩
   ·have hne2:zC xs≠[]:=by intro hc;apply hne;exact List.map_eq_nil_iff.1 hc
    obtain ⟨_,_,hls,hlo⟩:=h.mm.live l _ e hlvG
    have hpos:0 < xs.length:=List.length_pos_iff.2 hne
    rcases hlo with h6|⟨g',cap',cur,h6,h7,h8,h9,h10,h11,h12,h13⟩
    ·omega
    ·rw[h6]at h4
     simp only[Prod.mk.injEq]at h4
     obtain ⟨rfl,rfl⟩:=h4
     obtain ⟨h15,_,_⟩:=hA hne2
     simp only[Option.some.injEq,Addr.mk.injEq,and_true]at h15
     obtain ⟨rfl,rfl⟩:=h15
     have hus:∀ k,(hk:k < xs.length)→cur[k]? = some (sv xs[k]):=by
      intro k hk
      obtain ⟨c1,c2⟩:=hcell k (by omega)
      have h2:=hh k (by omega)
      rw[kC9,j8 hk]at h2
      rw[h2.v_inv]at c1
      simpa [World.cell?,h8] using c1
     have hH:Holds encStr w g' 0 xs.toArray:=by
      intro j hj
      have hj2:j < xs.length:=by simpa using hj
      refine ⟨?_,frozen_row h8⟩
      simp only[World.cell?,h8,Nat.zero_add,Option.isSome_none,Bool.false_eq_true,if_false,hus j hj2]
      simp[getElem!_pos,hj2,encStr,sv]
     refine (Any.slices_Reverse_string L g' 0 cap xs w hH (by omega)).mono ?_
     rintro ed w' ⟨rfl,n,rfl⟩
     have hlr:xs.reverse.length=xs.length:=List.length_reverse
     have hcur:cur.size=cap:=by rw[h11,← h5,Nat.mul_one]
     have hpc:∀ j,(hj:j < xs.length)→(putCells encStr 0 xs.reverse.toArray cur).getD j default=sv (xs.reverse[j]'(by omega)):=fun j hj=>by
      have hc:j < cur.size:=by omega
      rw[Array.getD_eq_getD_getElem?]
      simp only[putCells,Array.getElem?_mapIdx,Array.getElem?_eq_getElem hc,Option.map_some]
      rw[if_pos ⟨by omega,by simp;omega⟩]
      simp[getElem!_pos,hj,encStr,sv]
     have ht:Turn G w (putRow encStr (Sort.ahead w n) g' 0 xs.reverse.toArray) l xs.length e g' cap (putCells encStr 0 xs.reverse.toArray cur) (zC xs.reverse):=by
      refine ⟨hlvG,h6,h12,h.mm.fm2 l hl2 (h.mm.lv_lt hlvG),h13,by rw[← h5];omega,⟨rfl,rfl,rfl,by simp,fun j hj=>?_⟩,?_,by rw[← h5];simp only[putCells,Array.size_mapIdx];omega,by rw[j4,hlr],h9,fun z hz=>by rw[← h5];exact strs_er z hz,fun k hk=>?_⟩
      ·simp only[putRow,mapBlock,heap_ahead,Array.getElem?_modify]
       rw[if_neg (fun h=>hj h.symm)]
      ·simp only[putRow,mapBlock,heap_ahead,Array.getElem?_modify,if_true,h8,Option.map_some,onCells]
      ·rw[← h5,Nat.mul_one]at hk
       rw[hpc k hk,kC9,j8 (by omega)]
       exact ⟨.v _,rfl⟩
     exact ⟨_,_,.tup [],G,rfl,h.turned ht hmu h10,.tup #[] [] rfl (fun j hj=>by simp at hj),hk1⟩
end
end Go.Rw
end
