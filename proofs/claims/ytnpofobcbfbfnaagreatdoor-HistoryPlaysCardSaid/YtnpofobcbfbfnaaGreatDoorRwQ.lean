/-
 slices.SortFunc at a live slice of structs,by whatever of their cells. Proved over any program.
-/
import Derived.Test.YtnpofobcbfbfnaaGreatDoorRwK
set_option linter.unusedSimpArgs false
set_option linter.unusedVariables false
set_option linter.unusedSectionVars false

-- RwSortG
namespace Go.Rw
open Go Go.RowKit Go.Proofs Go.Shelf Go.Sort
structure ElG {κ:Type} (enc:κ→Value) (p:Nat) (G:Gh) (w:World) (s:Nat) (kx:AV→κ) where
 vs:List Value
 z:AV
 len:vs.length=s
 one:∀ v∈vs,v.oneCell'=true
 zl:z.cells.length=s
 zc:z.er=z
 key:vs.getD p default=enc (kx z)
 rel:∀ j,j < s→VR G w (vs.getD j default) (z.cells.getD j .any)
def CmpAt {κ:Type} (P:Program) (f:FuncId) (s p:Nat) (enc:κ→Value) (cmp:κ→κ→Int):Prop:=∀ (x y:List Value) (a b:κ) (W:World),x.length=s→y.length=s→(∀ v∈x,v.oneCell'=true)→(∀ v∈y,v.oneCell'=true)→x.getD p default=enc a→y.getD p default=enc b →
 Calls P f #[.agg x.toArray,.agg y.toArray] W fun e w'=>e = .returned (.int .i64 (cmp a b))∧∃ q os',w'=grow (W.drewN q) os'
theorem swo_by {α κ:Type} {cmp:κ→κ→Int} (h:SWO (ltOf cmp)) (k:α→κ):SWO (ltOf fun x y:α=>cmp (k x) (k y)) where
 irrefl x:=h.irrefl (k x)
 trans x y z:=h.trans (k x) (k y) (k z)
 ntrans x y z:=h.ntrans (k x) (k y) (k z)
section
variable {P:Program} {ρ:Ren} {G:Gh} {w:World} {κ:Type} {enc:κ→Value} {cmp:κ→κ→Int} {p:Nat}
theorem sort_worldG (swo:SWO (ltOf cmp)) (L:SlLaysF0.n6 P ρ) {s:Nat} (s0:0 < s) (aE:∀ w,(isAgg (ρ.t 24)).run P w = .ok true w) (zE:∀ w,(Go.sizeOf (ρ.t 24)).run P w = .ok s w) {f:FuncId}
    (eg:∀ args w,(callFunc f args).run P w = .ok (.enter f args) w) (hp:p < s) (hcl:CmpAt P f s p enc cmp) {l e blk o cap:Nat} {cur:Array Value} {us:Nat→Value} {xs:List AV} {kx:AV→κ}
    (lv:G.lv l=some (xs.length,e)) (la:G.la l=(some ⟨blk,o,none⟩,cap)) (lin:G.lin blk=G.fm l) (two:2≤G.fm l) (fr:G.fr blk=o+xs.length * G.ls l) (ls:G.ls l=s)
    (row:w.heap[blk]? = some (.cells cur e (0,0))) (hsize:cur.size=o+cap * s) (hcap:xs.length≤cap) (hlen:xs.length < 4611686018427387904) (hne:xs≠[])
    (hcell:∀ k,k < xs.length * s→cur[o+k]? = some (us k)∧(us k).oneCell'=true∧VR G w (us k) ((flat xs).getD k .any))
    (hall:∀ z∈xs,z.cells.length=s∧z.er=z) (hkey:∀ z∈xs,z.cells.getD p .any = .v (enc (kx z))) :
    Calls P (ρ.f 6) #[.slice (some ⟨blk,o,none⟩) xs.length cap,.func (.func f) #[] #[]] w fun ed w'=>ed = .returned (.tuple #[]) ∧
     ∃ zs cur' w1,zs.Perm xs∧zs.Pairwise (fun a b=>¬ cmp (kx b) (kx a) < 0)∧Turn G w w1 l xs.length e blk o cap cur' zs∧Below w1.heap.size w1 w':=by
 have fl:∀ i j,j < s→(hi:i < xs.length)→(flat xs).getD (i * s+j) .any=(xs[i]).cells.getD j .any:=fun i j hj hi=>by
  rw[qX (fun x hx=>(hall x hx).1) hj,List.getElem?_eq_getElem hi]
 have inn:∀ i j,j < s→i < xs.length→i * s+j < xs.length * s:=fun i j hj hi=>by
  have:=Nat.mul_le_mul_right s (show i+1≤xs.length from hi)
  rw[Nat.add_mul,Nat.one_mul]at this
  omega
 let el:∀ i,i < xs.length→ElG enc p G w s kx:=fun i hi=>{
  vs:=(List.range s).map fun j=>us (i * s+j)
  z:=xs[i]
  len:=by simp
  one:=by
   intro v hv
   simp only[List.mem_map,List.mem_range]at hv
   obtain ⟨j,hj,rfl⟩:=hv
   exact (hcell _ (inn i j hj hi)).2.1
  zl:=(hall _ (List.getElem_mem hi)).1
  zc:=(hall _ (List.getElem_mem hi)).2
  key:=by
   have h1:=(hcell _ (inn i p hp hi)).2.2
   rw[fl i p hp hi,hkey _ (List.getElem_mem hi)]at h1
   simpa [List.getD_eq_getElem?_getD,hp] using h1.v_inv
  rel:=by
   intro j hj
   have h1:=(hcell _ (inn i j hj hi)).2.2
   rw[fl i j hj hi]at h1
   simpa [List.getD_eq_getElem?_getD,hj] using h1 }
 have hpos:0 < xs.length:=List.length_pos_iff.2 hne
 haveI:Inhabited (ElG enc p G w s kx):=⟨el 0 hpos⟩
 let d:Array (ElG enc p G w s kx):=Array.ofFn fun i:Fin xs.length=>el i.1 i.2
 have hd:d.size=xs.length:=by simp[d]
 have hdg:∀ i,(hi:i < xs.length)→d[i]! = el i hi:=fun i hi=>by
  rw[getElem!_pos d i (by omega)];simp[d]
 have hH:HoldsK ElG.vs s w blk o d:=by
  intro j hj
  rw[size_flatK]at hj
  rw[get_flatK _ _ _ _ hj]
  rw[hd]at hj
  have hq:j / s < xs.length:=by rw[Nat.div_lt_iff_lt_mul s0];exact hj
  have hr:j % s < s:=Nat.mod_lt _ s0
  have e1:(j / s) * s+j % s=j:=by rw[Nat.mul_comm];exact Nat.div_add_mod j s
  rw[hdg _ hq]
  have e2:(el (j / s) hq).vs[j % s]! = us j:=by
   show ((List.range s).map fun k=>us ((j / s) * s+k))[j % s]! = _
   rw[getElem!_pos _ _ (by simpa using hr)]
   simp[e1]
  rw[e2]
  have h1:=(hcell j hj).1
  simp only[World.cell?,World.frozen?,row,h1,id]
  simp
 have hblk:blk < w.heap.size:=(Array.getElem?_eq_some_iff.1 row).1
 have hcmp:CmpLays P f #[] ElG.vs s (fun x y:ElG enc p G w s kx=>cmp (kx x.z) (kx y.z)) blk o d.size w:=fun m os dk _ x y=>hcl x.vs y.vs _ _ _ x.len y.len x.one y.one x.key y.key
 have key:=AnyQ.slices_SortFunc L s aE zE ElG.vs (fun x=>x.len) (fun x=>x.one) (fun x y:ElG enc p G w s kx=>cmp (kx x.z) (kx y.z)) (swo_by swo fun x:ElG enc p G w s kx=>kx x.z) f #[] blk o cap d w eg hcmp hH hblk (by rw[hd];exact hlen)
 rw[hd]at key
 refine key.mono ?_
 rintro ed w' ⟨rfl,d',m,os,hp,hs,rfl⟩
 obtain ⟨hp1,_,hp3⟩:=hp
 rw[hd]at hp1
 have hp4:d'.toList.Perm d.toList:=by
  have e1:d'.extract 0 xs.length=d':=by rw[← hp1];simp
  have e2:d.extract 0 xs.length=d:=by rw[← hd];simp
  rwa [e1,e2]at hp3
 have hdz:d.toList.map ElG.z=xs:=by
  apply List.ext_getElem
  ·simp[hd]
  ·intro i h1 h2
   simp[d,el]
 have hzs:(d'.toList.map ElG.z).length=xs.length:=by simp[hp1]
 have hrow:(putRowK ElG.vs s (Sort.ahead w m) blk o d').heap[blk]? = some (.cells (putCells id o (flatK ElG.vs s d') cur) e (0,0)):=by
  simp only[putRowK,putRow,mapBlock,Sort.ahead,Array.getElem?_modify,if_true,row,Option.map_some,onCells]
 have hget:∀ k,k < xs.length * s→∃ q r,∃ (hq:q < d'.toList.length),r < s∧k=q * s+r∧(putCells id o (flatK ElG.vs s d') cur).getD (o+k) default=(d'.toList[q]).vs.getD r default:=by
  intro k hk
  have hq:k / s < xs.length:=by rw[Nat.div_lt_iff_lt_mul s0];exact hk
  have hr:k % s < s:=Nat.mod_lt _ s0
  have hq':k / s < d'.size:=by omega
  refine ⟨k / s,k % s,by simpa using hq',hr,by rw[Nat.mul_comm];exact (Nat.div_add_mod k s).symm,?_⟩
  have hk2:o+k < cur.size:=by
   rw[hsize];exact Nat.add_lt_add_left (Nat.lt_of_lt_of_le hk (Nat.mul_le_mul_right _ hcap)) o
  have hk3:k < d'.size * s:=by rw[hp1];exact hk
  have e1:(putCells id o (flatK ElG.vs s d') cur).getD (o+k) default=(flatK ElG.vs s d')[k]!:=by
   rw[Array.getD_eq_getD_getElem?,Array.getElem?_eq_getElem (by simpa [putCells] using hk2)]
   simp only[putCells,Option.getD_some,Array.getElem_mapIdx]
   rw[if_pos ⟨Nat.le_add_right _ _,by simpa using hk3⟩,Nat.add_sub_cancel_left];rfl
  rw[e1,get_flatK _ _ _ _ hk3,getElem!_pos d' _ hq',getElem!_pos _ _ (by rw[ElG.len];exact hr)]
  simp[List.getD_eq_getElem?_getD,ElG.len,hr]
 refine ⟨rfl,d'.toList.map ElG.z,putCells id o (flatK ElG.vs s d') cur,putRowK ElG.vs s (Sort.ahead w m) blk o d',?_,?_,?_,?_⟩
 ·rw[← hdz];exact hp4.map _
 ·rw[List.pairwise_iff_getElem]
  intro i j hi hj hij
  rw[hzs]at hi hj
  have h1:=hs i j (Nat.zero_le _) hij (by omega)
  rw[getElem!_pos d' i (by omega),getElem!_pos d' j (by omega)]at h1
  simp only[ltOf,decide_eq_false_iff_not]at h1
  simpa only[List.getElem_map,Array.getElem_toList] using h1
 ·refine ⟨lv,la,lin,two,fr,by rw[ls];exact s0,⟨rfl,rfl,rfl,by simp[putRowK,putRow,mapBlock,Sort.ahead],fun k hk=>?_⟩,hrow,by rw[ls];simp only[putCells,Array.size_mapIdx];exact hsize,hzs,hcap,?_,?_⟩
  ·simp only[putRowK,putRow,mapBlock,Sort.ahead,Array.getElem?_modify]
   rw[if_neg (fun h=>hk h.symm)]
  ·intro z hz
   obtain ⟨x,_,rfl⟩:=List.mem_map.1 hz
   exact ⟨by rw[ls];exact x.zl,x.zc⟩
  ·intro k hk
   rw[ls]at hk
   obtain ⟨q,r,hq,hr,rfl,hv⟩:=hget k hk
   rw[hv]
   have hm:d'.toList[q]∈d'.toList:=List.getElem_mem hq
   refine ⟨?_,?_⟩
   ·rw[qX (fun x hx=>by obtain ⟨y,_,rfl⟩:=List.mem_map.1 hx;exact y.zl) hr]
    simp only[List.getElem?_map,List.getElem?_eq_getElem hq,Option.map_some]
    exact (d'.toList[q]).rel r hr
   ·refine (d'.toList[q]).one _ ?_
    rw[List.getD_eq_getElem?_getD,List.getElem?_eq_getElem (by rw[ElG.len];exact hr)]
    exact List.getElem_mem _
 ·unfold sortWorldK
  refine ⟨rfl,rfl,rfl,by simp,fun k hk=>?_⟩
  simp only[grow,Array.getElem?_append_left hk]
end
section
variable {P:Program} {ρ:Ren} [Tabs] {σ:AS} {d:Option Nat} {K:AS→Prop}
theorem sort_rawG {κ:Type} {enc:κ→Value} {cmp:κ→κ→Int} {p:Nat} (swo:SWO (ltOf cmp)) (L:SlLaysF0.n6 P ρ) {s:Nat} (s0:0 < s) (aE:∀ w,(isAgg (ρ.t 24)).run P w = .ok true w) (zE:∀ w,(Go.sizeOf (ρ.t 24)).run P w = .ok s w) {f:FuncId}
    (eg:∀ args w,(callFunc f args).run P w = .ok (.enter f args) w) (hp:p < s) (hcl:CmpAt P f s p enc cmp) (hfn:FnOk P (ρ.f 6)) {l e:Nat} {xs:List AV} {kx:AV→κ} (hl2:2≤l) (hxl:xs.length < 4611686018427387904) (hlv:σ.m.lv l=some (xs.length,e)) (hmu:σ.m.mu=true)
    (hall:∀ z∈xs,z.cells.length=s∧z.er=z) (hkey:∀ z∈xs,z.cells.getD p .any = .v (enc (kx z)))
    (hk0:xs=[]→cont σ d (.tup []) K) (hk1:∀ zs:List AV,zs.Perm xs→zs.Pairwise (fun a b=>¬ cmp (kx b) (kx a) < 0)→cont (σ.turned l xs.length zs) d (.tup []) K) :
    RawC P σ (ρ.f 6) [.sl l s xs,.fn f []] d K:=by
 refine ⟨hfn,fun w0 F0 Fp X G w a vs h hlen hv=>?_⟩
 have hlvG:G.lv l=some (xs.length,e):=by rw[h.mm.lv];exact hlv
 have hvs:vs = #[vs.getD 0 undef,vs.getD 1 undef]:=by
  apply Array.ext (by simpa using hlen)
  intro i h1 h2
  simp only[List.size_toArray,List.length_cons,List.length_nil]at h2
  rcases (show i=0∨i=1 by omega) with rfl|rfl<;>simp[Array.getD_eq_getD_getElem?,h1]
 have hx:=hv 0
 have hy:=hv 1
 simp only[List.getD_cons_zero,List.getD_cons_succ]at hx hy
 have hy2:vs.getD 1 undef = .func (.func f) #[] #[]:=by
  generalize vs.getD 1 undef=y at hy
  cases hy with
  | fn f arr caps hs _ =>
    have:arr = #[]:=Array.eq_empty_of_size_eq_zero hs
    rw[this]
 rw[hvs,hy2]
 generalize vs.getD 0 undef=x at hx
 clear hv hlen hvs hy hy2
 generalize hys:xs=ys at hx
 cases hx with
 | nil=>omega
 | sl A cap _ _ _ g off us hl' h1' hcap hlive hA hsz h0 hcell hh =>
   subst hys
   obtain ⟨_,h3⟩:=hlive _ _ hlvG
   obtain ⟨h4,h5⟩:=h3 rfl
   by_cases hne:xs=[]
   ·subst hne
    refine (AnyF.slices_SortFunc_none L A cap _ w).mono ?_
    rintro ed w' ⟨rfl,rfl⟩
    exact ⟨_,σ,.tup [],G,rfl,h,.tup #[] [] rfl (fun j hj=>by simp at hj),hk0 rfl⟩
   ·obtain ⟨_,_,hls,hlo⟩:=h.mm.live l _ e hlvG
    have hpos:0 < xs.length:=List.length_pos_iff.2 hne
    rcases hlo with h6|⟨g',oF,cap',cur,h6,h7,h8,h9,h10,h11,h12,h13⟩
    ·omega
    ·rw[h6]at h4
     simp only[Prod.mk.injEq]at h4
     obtain ⟨rfl,rfl⟩:=h4
     obtain ⟨h15,_,_⟩:=hA hne
     simp only[Option.some.injEq,Addr.mk.injEq,and_true]at h15
     obtain ⟨rfl,rfl⟩:=h15
     have hcc:∀ k,k < xs.length * s→cur[oF+k]? = some (us k)∧(us k).oneCell'=true∧VR G w (us k) ((flat xs).getD k .any):=by
      intro k hk
      obtain ⟨c1,c2⟩:=hcell k hk
      refine ⟨?_,c2,hh k hk⟩
      simpa [World.cell?,h8] using c1
     refine (sort_worldG swo L s0 aE zE eg hp hcl (kx:=kx) hlvG h6 h12 (h.mm.fm2 l hl2 (h.mm.lv_lt hlvG)) h13 h5.symm h8 (by rw[h11,← h5]) h9 hxl hne hcc hall hkey).mono ?_
     rintro ed w' ⟨rfl,zs,cur',w1,hp,hs,ht,hb⟩
     exact ⟨_,_,.tup [],G,rfl,(h.turned ht hmu h10).below hb,.tup #[] [] rfl (fun j hj=>by simp at hj),hk1 zs hp hs⟩
end
end Go.Rw
