/-
 A function that reverses the numbers of a slice in place,as the reckoning asks for it. Proved over any program. strings.Split at one byte;strings.Join. Proved over any program. slices.Reverse at a live slice of texts. Proved over any program.
-/
import Derived.Test.YtfhipjafkdembaaGreatDoorRwC
import Derived.Sort.Row
import Derived.Test.YtfhipjafkdembaaGreatDoorRwI
import Derived.Shelf.Strings.Split
import Derived.Shelf.Strings.OnBuilder
import Derived.Shelf.Slices.ReverseS
set_option linter.unusedSimpArgs false
set_option linter.unusedVariables false
set_option linter.defProp false
set_option linter.unusedSectionVars false

-- RwRev
section
namespace Go.Rw
open Go Go.RowKit Go.Sort
theorem frozen_row {w:World} {g i:Nat} {cur:Array Value} {e:TypeId} (h:w.heap[g]? = some (.cells cur e (0,0))):w.frozen? ⟨g,i,none⟩=false:=by
 simp[World.frozen?,h]
end Go.Rw
end
-- RwStr
section
namespace Go.Proofs
open Go.Shelf Go.RowKit Go.Lib
variable {P:Program} {ρ:Ren}
end Go.Proofs
namespace Go.Rw
open Go Go.RowKit Go.Proofs Go.Shelf
theorem strs_er {l:List (List UInt8)}:∀ x∈jQ l,x.cells.length=1∧x.er=x:=fun x hx=>by
 obtain ⟨s,_,rfl⟩:=List.mem_map.1 hx
 exact ⟨rfl,rfl⟩
theorem kEj (l:List (List UInt8)):flat (jQ l)=jQ l:=by
 have e0:jQ l=(l.map sv).map AV.v:=by simp[jQ]
 rw[e0];exact flat_vs _
theorem kB6 {l:List (List UInt8)}:(jQ l).length=l.length:=by simp[jQ]
theorem kEn {l:List (List UInt8)} {i:Nat} (h:i < l.length):(jQ l).getD i .any = .v (sv l[i]):=by simp[jQ,List.getD_eq_getElem?_getD,h]
section
variable {P:Program} [Tabs] {ρ:Ren} {σ:AS} {d:Option Nat} {K:AS→Prop}
end
abbrev kEf:Con where
 ι:={ p:List (List UInt8)×List UInt8 // p.1.length≤1000000∧(Lib.join p.1 p.2).length≤1099511627776 }
 args:=fun p=>[.sl 0 1 (jQ p.1.1),.v (sv p.1.2)]
 post:=fun p r=>r = .v (sv (Lib.join p.1.1 p.1.2))
 plain:=true
theorem join_good {P:Program} [Tabs] {ρ:Ren} (L:Lays.n156 P ρ) (X:Builder.Extra P ρ) {f:FuncId} (e:ρ.f 156=f):Rw.Good P f kEf:=by
 subst e
 refine kCv ?_ rfl rfl fun p w F vs htb hs hv=>?_
 ·exact ⟨_,L.f156,rfl,rfl⟩
 obtain ⟨⟨l,sep⟩,hl,hj⟩:=p
 simp only at hl hj
 have h0:=hv 0
 have h1:=VR.v_inv (hv 1)
 have e:vs = #[vs.getD 0 undef,sv sep]:=by
  apply Array.ext (by simpa using hs)
  intro i h2 h3
  have:i=0∨i=1:=by have:i < 2:=by simpa using h3
                   omega
  rcases this with rfl|rfl
  ·simp[Array.getD_eq_getD_getElem?,h2]
  ·rw[Array.getD_eq_getD_getElem?,Array.getElem?_eq_getElem h2]at h1;simpa using h1
 simp only[List.getD_cons_zero]at h0
 generalize vs.getD 0 undef=v at e h0
 subst e
 have em:∀ l:List (List UInt8),(l.map fun s=>(⟨s.toArray⟩:ByteArray)).map (·.data.toList)=l:=fun l=>by
  rw[List.map_map]
  exact (List.map_congr_left fun s _=>by simp).trans (List.map_id l)
 have fin:∀ (A:Option Addr) (g off cap:Nat),l.length≤cap→v = .slice A l.length cap→(l≠[]→A=some ⟨g,off,none⟩)→(∀ j (hj:j < l.length),w.cell? ⟨g,off+j,none⟩=some (sv l[j])) →
     Calls P (ρ.f 156) #[v,sv sep] w fun e w'=>∃ v r,e = .returned v∧r = .v (sv (Lib.join l sep))∧(∀ G w,VR G w v r)∧r.plain=true∧Below w.heap.size w w':=by
  rintro A g off cap hcap rfl hA hc
  by_cases hne:l=[]
  ·subst hne
   refine (Any.strings_Join_none L X A cap ⟨sep.toArray⟩ w).mono ?_
   rintro e w' ⟨rfl,rfl⟩
   exact ⟨_,_,rfl,rfl,fun _ _=>.v _,rfl,.refl _ _⟩
  ·rw[hA hne]
   have hb:g < w.heap.size:=by
    have h2:=hc 0 (List.length_pos_iff.2 hne)
    exact World.block_lt_of_cell? _ _ h2
   have:=Any.strings_Join L X g off cap (l.map fun s=>⟨s.toArray⟩) ⟨sep.toArray⟩ w (fun j x hx=>by
    rw[List.getElem?_map]at hx
    obtain ⟨s,hs,rfl⟩:=Option.map_eq_some_iff.1 hx
    obtain ⟨hj2,rfl⟩:=List.getElem?_eq_some_iff.1 hs
    exact hc j hj2) hb (by rw[List.length_map];omega) (by rw[List.length_map];exact hcap) (by rw[em];show (Lib.join l sep).length≤_;omega)
   rw[List.length_map,em]at this
   refine this.mono ?_
   rintro e w' ⟨rfl,hb2⟩
   exact ⟨_,_,rfl,rfl,fun _ _=>.v _,rfl,hb2⟩
 have hlen:(jQ l).length=l.length:=kB6
 generalize hxs:jQ l=xs at h0 hlen
 cases h0 with
 | sl A cap _ _ _ g off us hl2 h1 hc hlive hA hsz h0 hcell hh =>
   refine fin A g off cap (by omega) (by rw[hlen]) (fun hne=>(hA (by rw[← hxs];intro h;apply hne;exact List.map_eq_nil_iff.1 h)).1) fun j hj=>?_
   have hj2:j < xs.length * 1:=by omega
   have h2:=hh j hj2
   rw[(hcell j hj2).1]
   rw[← hxs,kEj,kEn hj]at h2
   rw[h2.v_inv]
end Go.Rw
end
-- RwStrR
section
namespace Go.Rw
open Go Go.RowKit Go.Proofs Go.Shelf Go.Sort
section
variable {P:Program} {ρ:Ren} [Tabs] {σ:AS} {d:Option Nat} {K:AS→Prop}
theorem revS_raw (L:Lays2.n17 P ρ) {f:FuncId} (ef:ρ.f 17=f) {l e:Nat} {xs:List (List UInt8)} (hl2:2≤l) (hxl:xs.length≤1000000000) (hlv:σ.m.lv l=some (xs.length,e)) (hmu:σ.m.mu=true)
    (hk0:xs=[]→cont σ d (.tup []) K) (hk1:cont (σ.turned l xs.length (jQ xs.reverse)) d (.tup []) K) :
    RawC P σ f [.sl l 1 (jQ xs)] d K:=by
 subst ef
 refine ⟨⟨_,L.f17,rfl,rfl⟩,fun w0 F0 Fp X G w a vs h hlen hv=>?_⟩
 have hsl:(jQ xs).length=xs.length:=kB6
 have hlvG:G.lv l=some (xs.length,e):=by rw[h.mm.lv];exact hlv
 have hvs:vs = #[vs.getD 0 undef]:=by
  apply Array.ext (by simpa using hlen)
  intro i h1 h2
  have:i=0:=by simpa using h2
  subst this
  simp[Array.getD_eq_getD_getElem?,h1]
 have hx:=hv 0
 simp only[List.getD_cons_zero]at hx
 rw[hvs]
 generalize vs.getD 0 undef=x at hx
 clear hv hlen hvs
 generalize hys:jQ xs=ys at hx
 cases hx with
 | nil=>omega
 | sl A cap _ _ _ g off us hl' h1' hcap hlive hA hsz h0 hcell hh =>
   subst hys
   rw[hsl]at *
   obtain ⟨_,h3⟩:=hlive _ _ hlvG
   obtain ⟨h4,h5⟩:=h3 rfl
   by_cases hne:xs=[]
   ·subst hne
    refine (Any.slices_Reverse_string_empty L A cap w).mono ?_
    rintro ed w' ⟨rfl,rfl⟩
    exact ⟨_,σ,.tup [],G,rfl,h,.tup #[] [] rfl (fun j hj=>by simp at hj),hk0 rfl⟩
   ·have hne2:jQ xs≠[]:=by intro hc;apply hne;exact List.map_eq_nil_iff.1 hc
    obtain ⟨_,_,hls,hlo⟩:=h.mm.live l _ e hlvG
    have hpos:0 < xs.length:=List.length_pos_iff.2 hne
    rcases hlo with h6|⟨g',cap',cur,h6,h7,h8,h9,h10,h11,h12,h13⟩
    ·omega
    ·rw[h6]at h4
     simp only[Prod.mk.injEq]at h4
     obtain ⟨rfl,rfl⟩:=h4
     obtain ⟨h15,_,_⟩:=hA hne2
     simp only[Option.some.injEq,Addr.mk.injEq,and_true]at h15
     obtain ⟨rfl,rfl⟩:=h15
     have hus:∀ k,(hk:k < xs.length)→cur[k]? = some (sv xs[k]):=by
      intro k hk
      obtain ⟨c1,c2⟩:=hcell k (by omega)
      have h2:=hh k (by omega)
      rw[kEj,kEn hk]at h2
      rw[h2.v_inv]at c1
      simpa [World.cell?,h8] using c1
     have hH:Holds encStr w g' 0 xs.toArray:=by
      intro j hj
      have hj2:j < xs.length:=by simpa using hj
      refine ⟨?_,frozen_row h8⟩
      simp only[World.cell?,h8,Nat.zero_add,Option.isSome_none,Bool.false_eq_true,if_false,hus j hj2]
      simp[getElem!_pos,hj2,encStr,sv]
     refine (Any.slices_Reverse_string L g' 0 cap xs w hH (by omega)).mono ?_
     rintro ed w' ⟨rfl,n,rfl⟩
     have hlr:xs.reverse.length=xs.length:=List.length_reverse
     have hcur:cur.size=cap:=by rw[h11,← h5,Nat.mul_one]
     have hpc:∀ j,(hj:j < xs.length)→(putCells encStr 0 xs.reverse.toArray cur).getD j default=sv (xs.reverse[j]'(by omega)):=fun j hj=>by
      have hc:j < cur.size:=by omega
      rw[Array.getD_eq_getD_getElem?]
      simp only[putCells,Array.getElem?_mapIdx,Array.getElem?_eq_getElem hc,Option.map_some]
      rw[if_pos ⟨by omega,by simp;omega⟩]
      simp[getElem!_pos,hj,encStr,sv]
     have ht:Turn G w (putRow encStr (Sort.ahead w n) g' 0 xs.reverse.toArray) l xs.length e g' cap (putCells encStr 0 xs.reverse.toArray cur) (jQ xs.reverse):=by
      refine ⟨hlvG,h6,h12,h.mm.fm2 l hl2 (h.mm.lv_lt hlvG),h13,by rw[← h5];omega,⟨rfl,rfl,rfl,by simp,fun j hj=>?_⟩,?_,by rw[← h5];simp only[putCells,Array.size_mapIdx];omega,by rw[kB6,hlr],h9,fun z hz=>by rw[← h5];exact strs_er z hz,fun k hk=>?_⟩
      ·simp only[putRow,mapBlock,heap_ahead,Array.getElem?_modify]
       rw[if_neg (fun h=>hj h.symm)]
      ·simp only[putRow,mapBlock,heap_ahead,Array.getElem?_modify,if_true,h8,Option.map_some,onCells]
      ·rw[← h5,Nat.mul_one]at hk
       rw[hpc k hk,kEj,kEn (by omega)]
       exact ⟨.v _,rfl⟩
     exact ⟨_,_,.tup [],G,rfl,h.turned ht hmu h10,.tup #[] [] rfl (fun j hj=>by simp at hj),hk1⟩
end
end Go.Rw
end
