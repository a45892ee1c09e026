/-
 Frames that hold nothing of a family stay as they are when a slice of it is cut,or turned. Proved over any program. A call reckoned in place that leaves all as it is,for regions that draw their order. Proved over any program. A live slice that stands in an object,cut at its front by a piece of code that draws its order: what is reckoned is the slice's own value. Proved over any program. Regions that draw their order where calls turn the memory one behind the other,and what answers by slots alone may stand anywhere between them. Proved over any program.
-/
import Derived.Test.YtnpofobcbfbfnaaGreatDoorRwO
set_option linter.unusedSimpArgs false
set_option linter.unusedVariables false
set_option linter.unusedSectionVars false

-- RwFree
namespace Go.Rw
open Go Go.RowKit
theorem cutT_upd {fm:Nat→Nat} {l d:Nat} {t:Nat→AV} {a:AV}:cutT fm l (upd t d a)=upd (cutT fm l t) d (a.cut fm l):=by
 funext k
 simp only[cutT,upd]
 split<;>rfl
theorem kCg {fm:Nat→Nat} {l:Nat}:∀ {S:List (Nat×AV)},cutT fm l (look S)=look (S.map fun p=>(p.1,AV.cut fm l p.2))
 | []=>rfl
 | (i,a)::r=>by
   funext k
   have:=congrFun (kCg (fm:=fm) (l:=l) (S:=r)) k
   simp only[cutT,look,List.map_cons]at this ⊢
   split
   ·rfl
   ·exact this
end Go.Rw
-- RwStill
namespace Go.Rw
open Go Go.RowKit
mutual
def AV.obLt (k:Nat):AV→Prop
 | .ptr o _=>o < k
 | .mp o=>o < k
 | .agg cs=>AV.obLtL k cs
 | .tup cs=>AV.obLtL k cs
 | .fn _ cs=>AV.obLtL k cs
 | _=>True
def AV.obLtL (k:Nat):List AV→Prop
 | []=>True
 | a::r=>a.obLt k∧AV.obLtL k r
end
theorem obLtL_mem {k:Nat}:∀ {cs:List AV},AV.obLtL k cs↔∀ i,i < cs.length→(cs.getD i .any).obLt k
 | []=>by simp [AV.obLtL]
 | a::r=>by
   rw[AV.obLtL,obLtL_mem (cs:=r)]
   constructor
   ·rintro ⟨h1,h2⟩ i hi
    cases i with
    | zero=>simpa using h1
    | succ i=>simpa using h2 i (by simpa using hi)
   ·intro h
    exact ⟨by simpa using h 0 (by simp),fun i hi=>by simpa using h (i+1) (by simpa using hi)⟩
mutual
theorem obLt_closed {k:Nat}:∀ a:AV,a.er=a→a.obLt k
 | .any,_=>trivial
 | .v _,_=>trivial
 | .sl ..,_=>trivial
 | .ep ..,_=>trivial
 | .ptr ..,h=>by simp [AV.er] at h
 | .mp _,h=>by simp [AV.er] at h
 | .agg cs,h=>by
   simp only[AV.er,AV.agg.injEq]at h
   exact obLtL_closed cs h
 | .tup cs,h=>by
   simp only[AV.er,AV.tup.injEq]at h
   exact obLtL_closed cs h
 | .fn f cs,h=>by
   simp only[AV.er,AV.fn.injEq,true_and]at h
   exact obLtL_closed cs h
theorem obLtL_closed {k:Nat}:∀ cs:List AV,AV.erL cs=cs→AV.obLtL k cs
 | [],_=>trivial
 | a::r,h=>by
   simp only[AV.erL,List.cons.injEq]at h
   exact ⟨obLt_closed a h.1,obLtL_closed r h.2⟩
end
theorem VR.obs {G:Gh} {w:World} {x:Value} {a:AV} (h:VR G w x a):a.obLt G.nh:=by
 induction h with
 | ptr o k ho=>exact ho
 | mp o ho=>exact ho
 | agg arr cs hs _ ih=>exact obLtL_mem.2 ih
 | tup arr cs hs _ ih=>exact obLtL_mem.2 ih
 | fn f arr cs hs _ ih=>exact obLtL_mem.2 ih
 | _=>trivial
theorem VR.shrink {G:Gh} {w:World} {k:Nat} {x:Value} {a:AV} (h:VR G w x a):a.obLt k→VR { G with nh:=k } w x a:=by
 induction h with
 | any x=>exact fun _=>.any _
 | v x=>exact fun _=>.v _
 | ptr o kk ho=>exact fun h=>VR.ptr (G:={ G with nh:=k }) o kk h
 | mp o ho=>exact fun h=>VR.mp (G:={ G with nh:=k }) o h
 | agg arr cs hs _ ih=>exact fun h=>.agg arr cs hs fun i hi=>ih i hi (obLtL_mem.1 h i hi)
 | tup arr cs hs _ ih=>exact fun h=>.tup arr cs hs fun i hi=>ih i hi (obLtL_mem.1 h i hi)
 | fn f arr cs hs _ ih=>exact fun h=>.fn f arr cs hs fun i hi=>ih i hi (obLtL_mem.1 h i hi)
 | nil sz=>exact fun _=>.nil sz
 | sl A cap l sz xs g off us hl h1 hc hlive hA hsz h0 hcell _ ih =>
   exact fun _=>.sl A cap l sz xs g off us hl h1 hc hlive hA hsz h0 hcell fun j hj=>ih j hj (obLt_closed _ (qA hsz j))
 | ep l sz xs i j g off us hl hlive hA hi hj hsz h0 hcell _ ih =>
   exact fun _=>.ep l sz xs i j g off us hl hlive hA hi hj hsz h0 hcell fun q hq=>ih q hq (obLt_closed _ (qA hsz q))
def AO.obLt (k:Nat):AO→Prop
 | .cells cs=>AV.obLtL k cs
 | .mit o _ _ _=>o < k
 | _=>True
theorem OR.obs {G:Gh} {w:World} {g:Nat} {x:AO} (h:OR G w g x):x.obLt G.nh:=by
 cases h with
 | cells cs arr e hh hs hc=>exact obLtL_mem.2 fun i hi=>(hc i hi).obs
 | mit ob si se la ho hh=>exact ho
 | _=>trivial
theorem OR.shrink {G:Gh} {w:World} {g k:Nat} {x:AO} (h:OR G w g x) (hk:x.obLt k):OR { G with nh:=k } w g x:=by
 cases h with
 | cells cs arr e hh hs hc=>exact .cells cs arr e hh hs fun i hi=>(hc i hi).shrink (obLtL_mem.1 hk i hi)
 | iter s p hh=>exact .iter s p hh
 | map es c hh=>exact .map es c hh
 | mit ob si se la ho hh=>exact OR.mit (G:={ G with nh:=k }) ob si se la hk hh
section
variable {P:Program} [Tabs] {Γ:Env} {w0:World} {F0:Nat→Nat} {Fp:Nat→Prop} {X:Nat→Nat→Value} {G G0:Gh} {w wb:World} {a a0:Act} {σ σ0:AS}
theorem Rel.shrink (h:Rel w0 F0 Fp X G w a σ) (hb:Rel w0 F0 Fp X G0 wb a0 σ0) (hn:σ.n = σ0.n) (ht:σ.t = σ0.t) (hh:σ.hd = σ0.hd) (hk:σ0.m.nh≤σ.m.nh) (ho:∀ o x,σ0.m.h o=some x→σ.m.h o=some x)
    (hl:σ.m.nl = σ0.m.nl∧σ.m.fm = σ0.m.fm∧σ.m.lv = σ0.m.lv∧σ.m.mu = σ0.m.mu):Rel w0 F0 Fp X { G with nh:=σ0.m.nh } w a σ0:=by
 have e0:=hb.mm.nh
 refine ⟨h.sz.trans hn,h.df,fun i=>?_,fun j i=>?_,?_,h.tb⟩
 ·rw[← ht];refine (h.tm i).shrink ?_
  rw[ht,← e0];exact (hb.tm i).obs
 ·rw[← hh];refine (h.hd j i).shrink ?_
  rw[hh,← e0];exact (hb.hd j i).obs
 ·have hm:=h.mm
  have e1:=hm.nh
  exact { nh:=rfl,nl:=hm.nl.trans hl.1,fm:=hm.fm.trans hl.2.1,lv:=hm.lv.trans hl.2.2.1,two:=hm.two,fm0:=hm.fm0,fml:=hm.fml,fm2:=hm.fm2,fmi:=hm.fmi,
          inj:=fun o o' (h1:o < σ0.m.nh) (h2:o' < σ0.m.nh) h3=>hm.inj o o' (by omega) (by omega) h3,obl:=fun o (h1:o < σ0.m.nh)=>hm.obl o (by omega),
          obj:=fun o x hx=>⟨(show o < σ0.m.nh by rw[← e0];exact (hb.mm.obj o x hx).1),(hm.obj o x (ho o x hx)).2.shrink (by rw[← e0];exact (hb.mm.obj o x hx).2.obs)⟩,
          live:=hm.live,frl:=hm.frl,linl:=hm.linl,linn:=hm.linn,old:=hm.old,f0:=hm.f0,mu:=fun h1=>hm.mu (by rw[hl.2.2.2];exact h1),keep:=hm.keep,keepf:=hm.keepf,size:=hm.size,os:=hm.os,tape:=hm.tape,output:=hm.output }
theorem kBZ {f:FuncId} (hC:Γ.get f=none) {as:List AV} {d:Option Nat} {K:AS→Prop} (hc:kS P Γ false σ f as d K) (h:Rel w0 F0 Fp X G w a σ) {vs:Array Value} (hlen:vs.size=as.length) (hv:∀ k,VR G w (vs.getD k undef) (as.getD k .any)) :
    FnOk P f∧Calls P f vs w fun ed w'=>∃ v σ1 r G',ed = .returned v∧Rel w0 F0 Fp X G' w' a σ1∧VR G' w' v r∧cont σ1 d r K:=by
 unfold kS at hc
 rw[hC]at hc
 rcases hc.2 with h1|h1|h1
 ·obtain ⟨h2,h3⟩:=mut_call h hlen hv h1
  exact ⟨h2,h3.mono fun ed w' ⟨v,σ1,r,e1,e2,e3,e4⟩=>⟨v,σ1,r,G,e1,e2,e3,e4⟩⟩
 ·exact inl_call h hlen hv h1
 ·exact ⟨h1.1,h1.2 _ _ _ _ _ _ _ _ h hlen hv⟩
def ReadK (n:Nat) (t:Nat→AV) (hd:Nat→Nat→AV) (m:AM) (d:Nat) (r:AV) (s:AS):Prop:=∃ k h1,s=⟨n,upd t d r,hd,⟨k,h1,m.nl,m.fm,m.lv,m.mu⟩⟩∧m.nh≤k∧∀ o x,m.h o=some x→h1 o=some x
theorem kCZ {m:AM} {f:FuncId} (hC:Γ.get f=none) (hf:FnOk P f) {as:List AV} {r:AV} (hr0:∀ k,r.obLt k)
    (H:∀ (n:Nat) (t:Nat→AV) (hd:Nat→Nat→AV) (m':AM),0 < n→(∀ o x,m.h o=some x→m'.h o=some x)→kS P Γ false ⟨n,t,hd,m'⟩ f as (some 0) (ReadK n t hd m' 0 r)):Still P m f as r:=by
 refine ⟨hf,fun σ' hh w0 F0 Fp X G w a vs hr hlen hv=>?_⟩
 have hr2:Rel w0 F0 Fp (fun j i=>match j with|0=>a.tmps.getD i undef|j+1=>X j i) G w { tmps:=#[undef],defers:=[] } ⟨1,fun _=>.any,kB8 σ'.t σ'.hd,σ'.m⟩ :=
  ⟨rfl,rfl,fun _=>.any _,fun j i=>by cases j with
   | zero=>exact hr.tm i
   | succ j=>exact hr.hd j i,hr.mm,hr.tb⟩
 refine (kBZ hC (H 1 (fun _=>.any) (kB8 σ'.t σ'.hd) σ'.m (by omega) hh) hr2 hlen hv).2.mono ?_
 rintro ed w' ⟨v,σ1,r1,G',rfl,h1,h2,h3⟩
 obtain ⟨_,k,h1',h4,h5,h6⟩:=h3
 have e1:σ1.hd=kB8 σ'.t σ'.hd:=congrArg AS.hd h4
 have e2:σ1.m=⟨k,h1',σ'.m.nl,σ'.m.fm,σ'.m.lv,σ'.m.mu⟩:=congrArg AS.m h4
 have e3:r1=r:=by
  have:=congrFun (congrArg AS.t h4) 0
  simpa [AS.put] using this
 subst e3
 have h7:Rel w0 F0 Fp X G' w' a ⟨σ'.n,σ'.t,σ'.hd,⟨k,h1',σ'.m.nl,σ'.m.fm,σ'.m.lv,σ'.m.mu⟩⟩:=by
  refine ⟨hr.sz,hr.df,fun i=>?_,fun j i=>?_,?_,hr.tb⟩
  ·have:=h1.hd 0 i
   rw[e1]at this
   exact this
  ·have:=h1.hd (j+1) i
   rw[e1]at this
   exact this
  ·have:=h1.mm
   rw[e2]at this
   exact this
 exact ⟨v,_,rfl,h7.shrink hr rfl rfl rfl h5 h6 ⟨rfl,rfl,rfl,rfl⟩,h2.shrink (hr0 _)⟩
end
end Go.Rw
-- RwConc
namespace Go.Rw
open Go Go.RowKit
section
variable {P:Program} [Tabs] {w0:World} {F0:Nat→Nat} {Fp:Nat→Prop} {X:Nat→Nat→Value} {G:Gh} {w:World} {a:Act} {σ:AS}
theorem cut_ahead (h:Rel w0 F0 Fp X G w a σ) {l e sz i:Nat} {xs:List AV} {x:Value} (hx:VR G w x (.sl l sz xs)) (h2:2≤l) (hlv:σ.m.lv l=some (xs.length,e)) (hi:i < xs.length) (hmu:σ.m.mu=true) :
    ∃ g off cap G',x = .slice (some ⟨g,off,none⟩) xs.length cap∧xs.length≤cap∧cap≤maxLen∧Rel w0 F0 Fp X G' w a (σ.cut l (xs.length - i) e)∧VR G' w (.slice (some ⟨g,off+i * sz,none⟩) (xs.length - i) (cap - i)) (.sl l sz (xs.drop i))∧G'.ob=G.ob:=by
 obtain ⟨g,oF,cap,cur,us,q1,q2,q3,q4,q5,q6,q7,q8,q9,q10,q11,q12,q13,q14,q15,q16⟩:=live_at h hx h2 hlv (by omega)
 have hmul:i * sz+(xs.length - i) * sz=xs.length * sz:=by rw[← Nat.add_mul];congr 1;omega
 have hmulc:i * sz+(cap - i) * sz=cap * sz:=by rw[← Nat.add_mul];congr 1;omega
 have htl:(xs.drop i).length=xs.length - i:=List.length_drop
 have hr:=h.cut (i:=xs.length - i) (m:=oF+xs.length * sz) (A:=some ⟨g,oF+i * sz,none⟩) (c:=cap - i) q2 q4 q5 hmu q8 (.inr ⟨oF+i * sz,rfl,by omega,by omega,by rw[q10,q9];omega,by rw[q10];omega⟩)
 refine ⟨g,oF,cap,_,q1,q6,q7,hr,?_,rfl⟩
 have hfl:=h.mm.fm2 l h2 q16
 suffices hvr:VR (G.cut l g (xs.length - i) e (oF+xs.length * sz) (some ⟨g,oF+i * sz,none⟩) (cap - i)) w (.slice (some ⟨g,oF+i * sz,none⟩) (xs.drop i).length (cap - i)) (.sl l sz (xs.drop i)) by
  rw[htl]at hvr;exact hvr
 refine .sl _ (cap - i) l sz (xs.drop i) g (oF+i * sz) (fun k=>us (i * sz+k)) q16 (by omega) (by omega) ?_ ?_ (fun y hy=>q13 y (List.mem_of_mem_drop hy)) (fun _=>q12) ?_ ?_
 ·intro n' e' hn
  simp only[Gh.cut]at hn ⊢
  rw[kU]at hn
  obtain ⟨rfl,rfl⟩:=Prod.mk.injEq .. ▸ Option.some.inj hn
  exact ⟨by omega,fun _=>⟨by rw[kU],q10.symm⟩⟩
 ·intro hne
  refine ⟨rfl,.inl q4,?_⟩
  simp only[Gh.cut]
  rw[kU,htl];omega
 ·intro k hk
  rw[htl]at hk
  have:=q14 (i * sz+k) (by omega)
  rwa [← Nat.add_assoc]at this
 ·intro k hk
  rw[htl]at hk
  have h0:G.fm 0≠G.fm l:=by rw[h.mm.fm0];omega
  have hl0:G.fm l≠0:=by omega
  have h5:=(q15 (i * sz+k) (by omega)).cut (i:=xs.length - i) (e:=e) (n:=oF+xs.length * sz) (A:=some ⟨g,oF+i * sz,none⟩) (c:=cap - i) h0 hl0 q4
  rw[cut_closed h0 _ (qA q13 _)]at h5
  have e1:(flat (xs.drop i)).getD k .any=(flat xs).getD (i * sz+k) .any:=by
   have e2:flat xs=flat (xs.take i)++flat (xs.drop i):=by rw[← kAL,List.take_append_drop]
   have e3:(flat (xs.take i)).length=i * sz:=by
    rw[kAN (sz:=sz) (fun y hy=>(q13 y (List.mem_of_mem_take hy)).1),List.length_take];congr 1;omega
   rw[e2,List.getD_eq_getElem?_getD,List.getD_eq_getElem?_getD,List.getElem?_append_right (by omega),e3,Nat.add_sub_cancel_left]
  rw[e1];exact h5
variable {n:Nat} {t:Nat→AV} {hd:Nat→Nat→AV} {nh nl:Nat} {h:Nat→Option AO} {fm:Nat→Nat} {lv:Nat→Option (Nat×Nat)}
theorem kEu {cs:List AV} {k j:Nat} {y:AV} (hj:j < cs.length):(cs.set k y).getD j .any=if j=k then y else cs.getD j .any:=by
 simp only[List.getD_eq_getElem?_getD,List.getElem?_set]
 split
 ·rename_i e;subst e;simp[hj]
 ·rename_i e;rw[if_neg (fun he=>e he.symm)]
theorem awp_cutAt {c:Code} {Q:Exit→AS→Prop} {o k l sz e i:Nat} {xs cs:List AV} (S:List (Nat×AV)) (hob:h o=some (.cells cs)) (hk:cs[k]? = some (.sl l sz xs)) (h2:2≤l) (hlv:lv l=some (xs.length,e)) (hi:i < xs.length)
    (hrun:∀ g off cap,xs.length≤cap→cap≤maxLen→AWP P c (fun ex s=>ex = .normal∧∃ t',kAG t' S∧s=⟨n,t',kB8 (fun _=>.sl l sz (xs.drop i)) (cutH fm l hd),⟨nh,upd (cutO fm l h) o (some (.cells ((AV.cutL fm l cs).set k (.v (.slice (some ⟨g,off+i * sz,none⟩) (xs.length - i) (cap - i)))))),nl,fm,upd lv l (some (xs.length - i,e)),true⟩⟩)
     ⟨n,cutT fm l t,kB8 (fun _=>.sl l sz (xs.drop i)) (cutH fm l hd),⟨nh,upd (cutO fm l h) o (some (.cells ((AV.cutL fm l cs).set k (.v (.slice (some ⟨g,off,none⟩) xs.length cap))))),nl,fm,upd lv l (some (xs.length - i,e)),true⟩⟩)
    (hQ:Q .normal ⟨n,look S,cutH fm l hd,⟨nh,upd (cutO fm l h) o (some (.cells ((AV.cutL fm l cs).set k (.sl l sz (xs.drop i))))),nl,fm,upd lv l (some (xs.length - i,e)),true⟩⟩) :
    AWP P c Q ⟨n,t,hd,⟨nh,h,nl,fm,lv,true⟩⟩:=by
 intro w0 F0 Fp X G w a hr
 have hkl:k < cs.length:=(List.getElem?_eq_some_iff.1 hk).1
 obtain ⟨ho1,ho2⟩:=hr.mm.obj o _ hob
 cases ho2 with
 | cells _ arr ee hh hs hc =>
 have hxv:=hc k hkl
 rw[List.getD_eq_getElem?_getD,hk]at hxv
 simp only[Option.getD_some]at hxv
 obtain ⟨g,off,cap,G',q1,q2,q3,q4,q5,q6⟩:=cut_ahead hr hxv h2 hlv hi rfl
 have hco:OR G' w (G'.ob o) (.cells (AV.cutL fm l cs)):=(q4.mm.obj o (.cells (AV.cutL fm l cs)) (by simp only[AS.cut,hob,Option.map_some,AO.cut])).2
 have hrel:Rel w0 F0 Fp (fun j i'=>match j with|0=>Value.slice (some ⟨g,off+i * sz,none⟩) (xs.length - i) (cap - i)|j+1=>X j i') G' w a
     ⟨n,cutT fm l t,kB8 (fun _=>.sl l sz (xs.drop i)) (cutH fm l hd),⟨nh,upd (cutO fm l h) o (some (.cells ((AV.cutL fm l cs).set k (.v (.slice (some ⟨g,off,none⟩) xs.length cap))))),nl,fm,upd lv l (some (xs.length - i,e)),true⟩⟩:=by
  refine ⟨q4.sz,q4.df,q4.tm,fun j i'=>?_,?_,q4.tb⟩
  ·cases j with
   | zero=>exact q5
   | succ j=>exact q4.hd j i'
  ·have hm:=q4.mm
   refine { hm with nh:=hm.nh,nl:=hm.nl,fm:=hm.fm,lv:=hm.lv,obj:=?_,mu:=hm.mu }
   intro o' x hx
   simp only[upd]at hx
   split at hx
   ·rename_i he
    subst he
    obtain rfl:=Option.some.inj hx
    refine ⟨(hm.obj o' (.cells (AV.cutL fm l cs)) (by simp only[AS.cut,hob,Option.map_some,AO.cut])).1,?_⟩
    cases hco with
    | cells _ arr2 ee2 hh2 hs2 hc2 =>
      refine .cells _ arr2 ee2 hh2 (by rw[hs2,List.length_set]) fun j hj=>?_
      rw[List.length_set]at hj
      rw[kEu hj]
      split
      ·rename_i hjk
       subst hjk
       have e1:arr2=arr:=by
        rw[q6]at hh2
        rw[hh]at hh2
        exact (Obj.cells.inj (Option.some.inj hh2)).1.symm
       rw[e1,q1];exact .v _
      ·exact hc2 j hj
   ·exact hm.obj o' x hx
 refine wp_mono (hrun g off cap q2 q3 _ _ _ _ _ _ _ hrel) ?_
 rintro ex a' w' ⟨G2,s,hr2,rfl,t',ht',rfl⟩
 refine ⟨G2,_,?_,hQ⟩
 have hwit:VR G2 w' (Value.slice (some ⟨g,off+i * sz,none⟩) (xs.length - i) (cap - i)) (.sl l sz (xs.drop i)):=hr2.hd 0 0
 refine ⟨hr2.sz,hr2.df,fun j=>?_,fun j i'=>hr2.hd (j+1) i',?_,hr.tb⟩
 ·rcases kFt ht' j with h1|h1
  ·show VR _ _ _ (look S j);rw[h1];exact hr2.tm j
  ·show VR _ _ _ (look S j);rw[h1];exact .any _
 ·have hm:=hr2.mm
  refine { hm with nh:=hm.nh,nl:=hm.nl,fm:=hm.fm,lv:=hm.lv,obj:=?_,mu:=hm.mu }
  intro o' x hx
  simp only[upd]at hx
  split at hx
  ·rename_i he
   subst he
   obtain rfl:=Option.some.inj hx
   obtain ⟨g1,g2⟩:=hm.obj o' _ (kU _ _ _)
   refine ⟨g1,?_⟩
   cases g2 with
   | cells _ arr2 ee2 hh2 hs2 hc2 =>
     rw[List.length_set]at hs2
     refine .cells _ arr2 ee2 hh2 (by rw[hs2,List.length_set]) fun j hj=>?_
     rw[List.length_set]at hj
     have h3:=hc2 j (by rw[List.length_set];exact hj)
     rw[kEu hj]at h3 ⊢
     split
     ·rename_i hjk
      rw[if_pos hjk]at h3
      rw[h3.v_inv];exact hwit
     ·rename_i hjk
      rw[if_neg hjk]at h3;exact h3
  ·rename_i he
   exact hm.obj o' x (by simp only[upd,if_neg he];exact hx)
omit [Tabs] in
theorem lenA_slc {t e ty:TypeId} {A:Option Addr} {k cap:Nat} (hu:P.underlying t=some (.slice e)):lenA P t (.v (.slice A k cap)) #[t] ty=some (.v (.int .i64 k)):=by
 simp[lenA,res,Builtin.len_,k7,underlying,hu,goInt]
omit [Tabs] in
theorem sliceP_slc {t e sz:Nat} {g off k cap i:Nat} {z:Int} (hs:qW P t=some (e,sz)) (hz:z=(i:Nat)) (hcap:k≤cap) (hi:i < k) :
    kBs P t (.v (.slice (some ⟨g,off,none⟩) k cap)) (some (.v (.int .i64 z))) none=some (.v (.slice (some ⟨g,off+i * sz,none⟩) (k - i) (cap - i))):=by
 subst hz
 obtain ⟨hu,ie,hie,rfl⟩:=qS hs
 obtain ⟨ii,d,h1,h2,h3,_,_,_⟩:=zB hie
 have h4:¬ cap=i:=by omega
 have h5:i≤k:=by omega
 simp[kBs,optA,res,Instr.sliceAt,Instr.slice,Instr.sliceBounds,Instr.sliceBound,asIntOf,k7,underlying,hu,sizeOf,typeInfo,h1,h3,h4,h5,Addr.add]
omit [Tabs] in
theorem cellsOf_slc {A:Option Addr} {k cap:Nat}:cellsOf (.v (.slice A k cap))=some [.v (.slice A k cap)]:=rfl
omit [Tabs] in
theorem upd_twice {α:Type} {f:Nat→α} {o:Nat} {x y:α}:upd (upd f o x) o y=upd f o y:=by
 funext j;simp only[upd];split<;>rfl
theorem Rel.liveNil {σ:AS} (hr:Rel w0 F0 Fp X G w a σ) {o k sz e:Nat} {cs:List AV} (hob:σ.m.h o=some (.cells cs)) (hk:cs[k]? = some (.sl 1 sz [])) (hsz:0 < sz) :
    Rel w0 F0 Fp X (G.newNil none e sz) w a ⟨σ.n,σ.t,σ.hd,⟨σ.m.nh,upd σ.m.h o (some (.cells (cs.set k (.sl σ.m.nl sz [])))),σ.m.nl+1,upd σ.m.fm σ.m.nl σ.m.nl,upd σ.m.lv σ.m.nl (some (0,e)),σ.m.mu⟩⟩:=by
 have hg:=GLe.newNil G w none e sz
 have hm:=hr.mm.newNil none e sz hsz
 refine ⟨hr.sz,hr.df,fun i=>(hr.tm i).mono hg,fun j i=>(hr.hd j i).mono hg,?_,hr.tb⟩
 refine { hm with nh:=hm.nh,nl:=hm.nl,fm:=hm.fm,lv:=hm.lv,obj:=?_,mu:=hm.mu }
 intro o' x hx
 simp only[upd]at hx
 split at hx
 ·rename_i he
  subst he
  obtain rfl:=Option.some.inj hx
  obtain ⟨h1,h2⟩:=hm.obj o' (.cells cs) hob
  refine ⟨h1,?_⟩
  cases h2 with
  | cells _ arr ee hh hs hc =>
    refine .cells _ arr ee hh (by rw[hs,List.length_set]) fun j hj=>?_
    rw[List.length_set]at hj
    rw[kEu hj]
    split
    ·rename_i hjk
     subst hjk
     have h3:=hc j hj
     rw[List.getD_eq_getElem?_getD,hk,Option.getD_some]at h3
     generalize arr.getD j default=v at h3
     cases h3 with
     | nil =>
       have h4:=newNil_VR hr.mm none e sz
       rw[hr.mm.nl]at h4
       exact h4
     | sl A cap _ _ _ g off us hl h1' hcap hlive hA hsz2 h0 hcell hh=>exact absurd rfl h1'
    ·exact hc j hj
 ·exact hm.obj o' x hx
theorem vcCall_live {Γ:Env} {f:FuncId} (hC:Γ.get f=none) (hf:FnOk P f) {as:List AV} {d:Option Nat} {K:AS→Prop} {mu:Bool} {o k sz:Nat} (e:Nat) {cs:List AV} (hob:h o=some (.cells cs)) (hk:cs[k]? = some (.sl 1 sz [])) (hsz:0 < sz)
    (hv:kS P Γ false ⟨n,t,hd,⟨nh,upd h o (some (.cells (cs.set k (.sl nl sz [])))),nl+1,upd fm nl nl,upd lv nl (some (0,e)),mu⟩⟩ f as d K):kS P Γ false ⟨n,t,hd,⟨nh,h,nl,fm,lv,mu⟩⟩ f as d K:=by
 have hR:RawC P ⟨n,t,hd,⟨nh,h,nl,fm,lv,mu⟩⟩ f as d K:=⟨hf,fun w0 F0 Fp X G w a vs hr hlen hvs=>by
  have hr2:=hr.liveNil (e:=e) hob hk hsz
  exact (kBZ hC hv hr2 hlen fun j=>(hvs j).mono (GLe.newNil G w none e sz)).2⟩
 exact jR hC hR
theorem vcCall_dead {Γ:Env} {f:FuncId} (hC:Γ.get f=none) (hf:FnOk P f) {as bs:List AV} {d:Option Nat} {K:AS→Prop} {mu:Bool} (ts:List Nat) (hlen:bs.length=as.length) (hbs:∀ k,bs.getD k .any=as.getD k .any∨(bs.getD k .any=(as.getD k .any).er∧∀ l∈(as.getD k .any).tags,2≤l→l∈ts))
    (hv:kS P Γ false ⟨n,t,hd,⟨nh,h,nl,fm,kill fm ts lv,mu⟩⟩ f bs d K):kS P Γ false ⟨n,t,hd,⟨nh,h,nl,fm,lv,mu⟩⟩ f as d K:=by
 have hR:RawC P ⟨n,t,hd,⟨nh,h,nl,fm,lv,mu⟩⟩ f as d K:=⟨hf,fun w0 F0 Fp X G w a vs hr hl hvs=>by
  have hr2:=hr.killed ts
  refine (kBZ hC hv hr2 (hl.trans hlen.symm) fun j=>?_).2
  rcases hbs j with h1|⟨h1,h2⟩
  ·rw[h1];exact (hvs j).mono (GLe.killed G w ts)
  ·rw[h1];exact (hvs j).er hr.mm h2⟩
 exact jR hC hR
theorem vcCall_deadO {Γ:Env} {f:FuncId} (hC:Γ.get f=none) (hf:FnOk P f) {as:List AV} {d:Option Nat} {K:AS→Prop} {mu:Bool} {o k sz lt:Nat} {xs cs:List AV} (hob:h o=some (.cells cs)) (hk:cs[k]? = some (.sl lt sz xs))
    (hv:kS P Γ false ⟨n,t,hd,⟨nh,upd h o (some (.cells (cs.set k (.sl 0 sz xs)))),nl,fm,kill fm [lt] lv,mu⟩⟩ f as d K):kS P Γ false ⟨n,t,hd,⟨nh,h,nl,fm,lv,mu⟩⟩ f as d K:=by
 have hR:RawC P ⟨n,t,hd,⟨nh,h,nl,fm,lv,mu⟩⟩ f as d K:=⟨hf,fun w0 F0 Fp X G w a vs hr hl hvs=>by
  have hr2:=hr.killed [lt]
  have hr3:Rel w0 F0 Fp X (G.killed [lt]) w a ⟨n,t,hd,⟨nh,upd h o (some (.cells (cs.set k (.sl 0 sz xs)))),nl,fm,kill fm [lt] lv,mu⟩⟩:=by
   refine ⟨hr2.sz,hr2.df,hr2.tm,hr2.hd,?_,hr2.tb⟩
   have hm:=hr2.mm
   refine { hm with nh:=hm.nh,nl:=hm.nl,fm:=hm.fm,lv:=hm.lv,obj:=?_,mu:=hm.mu }
   intro o' x hx
   simp only[upd]at hx
   split at hx
   ·rename_i he
    subst he
    obtain rfl:=Option.some.inj hx
    obtain ⟨h1,h2⟩:=hr.mm.obj o' (.cells cs) hob
    refine ⟨h1,?_⟩
    cases h2 with
    | cells _ arr ee hh hs hc =>
      refine .cells _ arr ee hh (by rw[hs,List.length_set]) fun j hj=>?_
      rw[List.length_set]at hj
      rw[kEu hj]
      split
      ·rename_i hjk
       subst hjk
       have h3:=hc j hj
       rw[List.getD_eq_getElem?_getD,hk,Option.getD_some]at h3
       exact h3.er hr.mm (ts:=[lt]) fun l hl _=>by
        simp only[AV.tags]at hl
        split at hl
        ·exact hl
        ·simp at hl
      ·exact (hc j hj).mono (GLe.killed G w [lt])
   ·exact hm.obj o' x hx
  exact (kBZ hC hv hr3 hl fun j=>(hvs j).mono (GLe.killed G w [lt])).2⟩
 exact jR hC hR
end
end Go.Rw
-- RwCalls
namespace Go.Rw
open Go Go.RowKit
section
variable {P:Program} [Tabs] {Γ:Env} {ops:Array Oper} {K:AS→Prop}
def kBM (M:Nat→Bool) (t:Nat→AV):Nat→AV:=fun i=>bif M i then .any else t i
def kEk (ops:Array Oper) (i:Nat):Option Nat:=(ops[i]?).bind (·.dst)
def mskU (ops:Array Oper) (U:List Nat):Nat→Bool:=fun d=>U.any fun i=>kEk ops i == some d
def pureK (o:Oper):Bool:=match o.op with
 | .move _=>true
 | .indexAddr _ _ _=>true
 | .load _ _=>true
 | .fieldAddr _ _ _=>true
 | .nilCheck _=>true
 | _=>false
def kBD (σ:AS) (o:Oper):Prop:=match o.op with
 | .move _=>True
 | .indexAddr _ _ _=>True
 | .load _ x=>∃ l sz xs i j,ev σ x = .ep l sz xs i j
 | _=>False
theorem pure_op {σ:AS} {o:Oper} (h:pureK o=true) (hv:vcOp P Γ true σ o K):∃ a,kY P σ o=some a∧cont σ o.dst a K:=by
 obtain ⟨dst,op,type,pos,aft,guard⟩:=o
 cases op<;>first|(simp[pureK]at h;done)|exact hv
theorem pure_res {σ:AS} {o:Oper} {r:AV} (h:pureK o=true) (hr:kY P σ o=some r):aRes P Γ σ o r:=by
 obtain ⟨dst,op,type,pos,aft,guard⟩:=o
 cases op<;>first|(simp[pureK]at h;done)|exact hr
omit [Tabs] in
theorem popAll_slot {σ σ':AS} {o:Oper} (hs:kBD σ o) (he:∀ q∈o.op.operands,ev σ' q=ev σ q):kY P σ' o=kY P σ o:=by
 obtain ⟨dst,op,type,pos,aft,guard⟩:=o
 cases op with
 | move x =>
   have:=he x (by simp[Op.operands])
   simp only[kY,pop,pop2,Option.or_none]
   cases x<;>simp only[evT]at this ⊢<;>rw[this]
 | indexAddr t x i =>
   have h1:=he x (by simp[Op.operands])
   have h2:=he i (by simp[Op.operands])
   simp only[kY,pop,pop2,Option.or_none,h1,h2]
 | load t x =>
   have h1:=he x (by simp[Op.operands])
   obtain ⟨l,sz,xs,i,j,h3⟩:=hs
   rw[h3]at h1
   simp only[kY,pop,pop2,Option.or_none,h1,h3]
 | _=>exact hs.elim
omit [Tabs] in
theorem kCv {σ σ':AS} {o:Oper} (hs:kBD σ o) (he:∀ q∈o.op.operands,ev σ' q=ev σ q):kBD σ' o:=by
 obtain ⟨dst,op,type,pos,aft,guard⟩:=o
 cases op with
 | move x=>trivial
 | indexAddr t x i=>trivial
 | load t x =>
   obtain ⟨l,sz,xs,i,j,h3⟩:=hs
   exact ⟨l,sz,xs,i,j,by rw[he x (by simp[Op.operands])];exact h3⟩
 | _=>exact hs.elim
omit [Tabs] in
theorem ev_slots {σ σ':AS} {o:Oper} (h:∀ d,d∈o.looksAt ops→σ'.t d = σ.t d):∀ q∈o.op.operands,ev σ' q=ev σ q:=by
 intro q hq
 cases q with
 | tmp d=>exact h d (List.mem_append_left _ (List.mem_filterMap.2 ⟨.tmp d,by simpa using hq,rfl⟩))
 | _=>rfl
def kCE [Tabs] (P:Program) (Γ:Env) (ops:Array Oper) (l:List Oper) (K:AS→Prop):List (Nat×List Nat)→AS→Prop
 | [],σ=>jX P Γ ops l K σ
 | (c,S)::cs,σ=>∃ o d,ops[c]? = some o∧o.dst=some d∧∀ M:Nat→Bool,(∀ i,M i=true→i∈S)→vcOp P Γ false { σ with t:=kBM M σ.t } o (fun s=>∃ r hd m,s=⟨σ.n,upd (kBM M σ.t) d r,hd,m⟩∧kCE P Γ ops l K cs ⟨σ.n,upd σ.t d r,hd,m⟩)
def vcFl [Tabs] (P:Program) (Γ:Env) (C E:List Nat):Nat→List Oper→(AS→Prop)→AS→Prop
 | _,[],K,σ=>K σ
 | i,o::l,K,σ=>if i∈C then vcFl P Γ C E (i+1) l K σ else pureK o=true∧(i∈E∨kBD σ o)∧vcOp P Γ true σ o (vcFl P Γ C E (i+1) l K)
def preB (ops:Array Oper) (C:List Nat) (k i:Nat):Bool:=match ops[i]? with
 | none=>false
 | some o=>o.guard.isNone && (match o.dst with
   | none=>false
   | some d=>(List.range k).all fun j=>decide (j=i) || kEk ops j != some d) &&
   (o.after.all fun e=>!Region.binds .any e || decide (e.on < i)) &&
   (C.contains i || (List.range k).all fun j=>match kEk ops j with
    | none=>true
    | some d=>!(o.looksAt ops).contains d || (!C.contains j && kCP j o))
def chainB (ops:Array Oper):List Nat→Bool
 | []=>true
 | c::r=>r.all (fun d=>zJ ops ops.size c d) && chainB ops r
def callsB (ops:Array Oper) (k:Nat) (cs:List (Nat×List Nat)) (E:List Nat):Bool :=
 (List.range k).all (preB ops (cs.map (·.1)) k) && chainB ops (cs.map (·.1)) && decide (k≤ops.size) &&
 (cs.all fun c=>decide (c.1 < k) && (List.range k).all fun i=>(cs.map (·.1)).contains i || zJ ops ops.size i c.1 || (match kEk ops i with|some d=>c.2.contains d|none=>false)) &&
 ((List.range k).all fun i=>(cs.map (·.1)).contains i || (cs.map (·.1)).any fun c=>zJ ops ops.size i c) &&
 ((List.range ops.size).all fun j=>decide (j < k) || (cs.map (·.1)).all fun c=>zJ ops ops.size c j) &&
 (E.all fun i=>match cs with|[]=>false|c::_=>zJ ops ops.size i c.1)
structure CallsOk (ops:Array Oper) (k:Nat) (cs:List (Nat×List Nat)) (E:List Nat):Prop where
 le:k≤ops.size
 pre:∀ i,i < k→∃ o d,ops[i]? = some o∧o.dst=some d∧o.guard=none∧(∀ j,j < k→kEk ops j=some d→j=i)∧(∀ e∈o.after,Region.binds .any e=true→e.on < i) ∧
  (i ∉ cs.map (·.1)→∀ j d',j < k→kEk ops j=some d'→d'∈o.looksAt ops→j ∉ cs.map (·.1)∧j < i∧kCP j o=true)
 chain:∀ (p:List Nat) c r,cs.map (·.1)=p++c::r→∀ d∈r,zJ ops ops.size c d=true
 lt:∀ c∈cs,c.1 < k
 may:∀ c∈cs,∀ i,i < k→i ∉ cs.map (·.1)→zJ ops ops.size i c.1=false→∀ d,kEk ops i=some d→d∈c.2
 fin:∀ i,i < k→i ∉ cs.map (·.1)→∃ c∈cs.map (·.1),zJ ops ops.size i c=true
 late:∀ j,k≤j→j < ops.size→∀ c∈cs.map (·.1),zJ ops ops.size c j=true
 early:∀ i∈E,∀ c r,cs=c::r→zJ ops ops.size i c.1=true
omit [Tabs] in
theorem kGm:∀ {l:List Nat},chainB ops l=true→∀ (p:List Nat) c r,l=p++c::r→∀ d∈r,zJ ops ops.size c d=true
 | [],_,p,c,r,h=>by cases p<;>simp at h
 | x::l,hB,p,c,r,h=>by
   simp only[chainB,Bool.and_eq_true,List.all_eq_true]at hB
   cases p with
   | nil =>
     simp only[List.nil_append,List.cons.injEq]at h
     obtain ⟨rfl,rfl⟩:=h
     exact hB.1
   | cons y p =>
     simp only[List.cons_append,List.cons.injEq]at h
     exact kGm hB.2 p c r h.2
omit [Tabs] in
theorem callsB_ok {k:Nat} {cs:List (Nat×List Nat)} {E:List Nat} (h:callsB ops k cs E=true):CallsOk ops k cs E:=by
 unfold callsB at h
 simp only[Bool.and_eq_true,decide_eq_true_eq]at h
 obtain ⟨⟨⟨⟨⟨⟨h1,h2⟩,h3⟩,h4⟩,h5⟩,h6⟩,h7⟩:=h
 refine ⟨h3,fun i hi=>?_,kGm h2,fun c hc=>?_,fun c hc i hi hn hr d hd=>?_,fun i hi hn=>?_,fun j hj hjs c hc=>?_,fun i hi c r hcs=>?_⟩
 ·have h8:=List.all_eq_true.1 h1 i (by simpa using hi)
  unfold preB at h8
  split at h8
  ·cases h8
  ·rename_i o ho
   simp only[Bool.and_eq_true,Option.isNone_iff_eq_none]at h8
   obtain ⟨⟨⟨g1,g2⟩,g3⟩,g4⟩:=h8
   split at g2
   ·cases g2
   ·rename_i d hd
    refine ⟨o,d,ho,hd,g1,fun j hj hjd=>?_,fun e he hb=>?_,fun hn j d' hj hjd hl=>?_⟩
    ·have:=List.all_eq_true.1 g2 j (by simpa using hj)
     simp only[Bool.or_eq_true,decide_eq_true_eq,bne_iff_ne,ne_eq]at this
     rcases this with h9|h9
     ·exact h9
     ·exact absurd hjd h9
    ·have:=(Array.all_eq_true'.1 g3) e he
     simp only[Bool.or_eq_true,Bool.not_eq_true',decide_eq_true_eq]at this
     rcases this with h9|h9
     ·rw[hb]at h9;cases h9
     ·exact h9
    ·simp only[Bool.or_eq_true]at g4
     rcases g4 with g4|g4
     ·exact absurd (by simpa using g4) hn
     ·have:=List.all_eq_true.1 g4 j (by simpa using hj)
      rw[hjd]at this
      simp only[Bool.or_eq_true,Bool.not_eq_true',Bool.and_eq_true]at this
      rcases this with h9|⟨h9,h10⟩
      ·have:(o.looksAt ops).contains d'=true:=by simpa using hl
       rw[this]at h9;cases h9
      ·refine ⟨fun hm=>?_,?_,h10⟩
       ·have:(cs.map (·.1)).contains j=true:=by simpa using hm
        rw[this]at h9;cases h9
       ·unfold kCP at h10
        rw[Array.any_eq_true']at h10
        obtain ⟨e,he,h11⟩:=h10
        simp only[Bool.and_eq_true,beq_iff_eq]at h11
        have:=(Array.all_eq_true'.1 g3) e he
        simp only[Bool.or_eq_true,Bool.not_eq_true',decide_eq_true_eq]at this
        rcases this with h12|h12
        ·rw[h11.1]at h12;cases h12
        ·omega
 ·have:=List.all_eq_true.1 h4 c hc
  simp only[Bool.and_eq_true,decide_eq_true_eq]at this
  exact this.1
 ·have:=List.all_eq_true.1 h4 c hc
  simp only[Bool.and_eq_true,decide_eq_true_eq]at this
  have:=List.all_eq_true.1 this.2 i (by simpa using hi)
  simp only[Bool.or_eq_true]at this
  rcases this with (h8|h8)|h8
  ·exact absurd (by simpa using h8) hn
  ·rw[hr]at h8;cases h8
  ·rw[hd]at h8;simpa using h8
 ·have:=List.all_eq_true.1 h5 i (by simpa using hi)
  simp only[Bool.or_eq_true]at this
  rcases this with h8|h8
  ·exact absurd (by simpa using h8) hn
  ·rw[List.any_eq_true]at h8
   exact h8
 ·have:=List.all_eq_true.1 h6 j (by simpa using hjs)
  simp only[Bool.or_eq_true,decide_eq_true_eq]at this
  rcases this with h8|h8
  ·omega
  ·exact List.all_eq_true.1 h8 c hc
 ·have:=List.all_eq_true.1 h7 i hi
  rw[hcs]at this
  exact this
omit [Tabs] in
theorem least {p:Nat→Prop}:∀ n,(∃ i,i < n∧p i)→∃ i,i < n∧p i∧∀ j,j < i→¬ p j
 | 0,⟨i,hi,_⟩=>by omega
 | n+1,h=>by
   by_cases h1:∃ i,i < n∧p i
   ·obtain ⟨i,a,b,c⟩:=least n h1
    exact ⟨i,by omega,b,c⟩
   ·obtain ⟨i,hi,hp⟩:=h
    refine ⟨i,hi,hp,fun j hj hpj=>h1 ⟨j,by omega,hpj⟩⟩
omit [Tabs] in
theorem getD_tf {L:Array Bool} {i:Nat} (hi:i < L.size):L.getD i true=L.getD i false:=by
 simp[Array.getD_eq_getD_getElem?,hi]
structure InvC (P:Program) (ops:Array Oper) (k:Nat) (cs0 cs:List (Nat×List Nat)) (U:List Nat) (L:Array Bool) (σ:AS):Prop where
 cl:Cl ops L
 sz:L.size=ops.size
 suf:∃ p,cs0=p++cs
 nd:U.Nodup
 un:∀ i,i < k→i ∉ cs0.map (·.1)→(L.getD i true=false↔i∈U)
 uk:∀ i∈U,i < k∧i ∉ cs0.map (·.1)
 yet:∀ c∈cs,L.getD c.1 true=false
 done:∀ c∈cs0,c ∉ cs→L.getD c.1 true=true
 late:∀ j,k≤j→j < ops.size→L.getD j true=false
 val:∀ i∈U,∃ o d,ops[i]? = some o∧o.dst=some d∧d < σ.n∧kY P σ o=some (σ.t d)∧pureK o=true∧(kBD σ o∨∃ c r,cs=c::r∧zJ ops ops.size i c.1=true)
variable {w0:World} {F0:Nat→Nat} {Fp:Nat→Prop} {X:Nat→Nat→Value} {G:Gh} {w:World} {a:Act} {σ:AS}
theorem anyM_more:∀ (f:Nat) (L:Array Bool) (σ:AS),anyM P Γ ops K f L σ→anyM P Γ ops K (f+1) L σ
 | 0,L,σ,h=>⟨fun _=>h.2,fun i hi=>by rw [h.1] at hi;cases hi⟩
 | f+1,L,σ,h=>⟨h.1,fun i hi=>by
   obtain ⟨o,σ',h1,h2,h3⟩:=h.2 i hi
   exact ⟨o,σ',h1,h2,anyM_more f _ _ h3⟩⟩
omit [Tabs] in
theorem maskT_nil (t:Nat→AV):kBM (mskU ops []) t=t:=by funext i;rfl
theorem anyM_le {f g:Nat} (h:f≤g) {L:Array Bool} {σ:AS} (hv:anyM P Γ ops K f L σ):anyM P Γ ops K g L σ:=by
 obtain ⟨k,rfl⟩:=Nat.exists_eq_add_of_le h
 induction k with
 | zero=>exact hv
 | succ k ih=>exact anyM_more _ _ _ (ih (Nat.le_add_right _ _))
omit [Tabs] in
theorem kBU {U:List Nat} {s:Nat} (h:mskU ops U s=true):∃ u∈U,kEk ops u=some s:=by
 unfold mskU at h
 rw[List.any_eq_true]at h
 obtain ⟨u,hu,h2⟩:=h
 exact ⟨u,hu,by simpa using h2⟩
omit [Tabs] in
theorem mskU_of {U:List Nat} {s u:Nat} (hu:u∈U) (h:kEk ops u=some s):mskU ops U s=true:=by
 unfold mskU
 rw[List.any_eq_true]
 exact ⟨u,hu,by simpa using h⟩
omit [Tabs] in
theorem kDd {i d:Nat} {o:Oper} (h:ops[i]? = some o) (hd:o.dst=some d):kEk ops i=some d:=by simp[kEk,h,hd]
theorem calls_any (hΓ:kK P Γ) {k:Nat} {cs0:List (Nat×List Nat)} {E:List Nat} {l:List Oper} (hok:CallsOk ops k cs0 E) (hl:∀ j:Nat,l[j]? = ops[k+j]?) (hll:k+l.length=ops.size) (hM:memBM ops=true)
    (hX:Region.lexFrom .any ops l.length k (Array.replicate k true++Array.replicate l.length false)=true) {Q:Exit→Act→World→Prop} (hQ:∀ G w a σ,Rel w0 F0 Fp X G w a σ→K σ→Q .normal a w) :
    ∀ (f:Nat) (cs:List (Nat×List Nat)) (U:List Nat) (L:Array Bool) {G:Gh} {w:World} {a:Act} {σ:AS},U.length+cs.length+l.length≤f→InvC P ops k cs0 cs U L σ →
     Rel w0 F0 Fp X G w a ⟨σ.n,kBM (mskU ops U) σ.t,σ.hd,σ.m⟩→kCE P Γ ops l K cs σ→wpAny P .any ops Q f L a w:=by
 intro f
 induction f with
 | zero =>
   intro cs U L G w a σ hf inv hr hv
   have h1:cs=[]:=List.eq_nil_of_length_eq_zero (by omega)
   have h2:U=[]:=List.eq_nil_of_length_eq_zero (by omega)
   have h3:l=[]:=List.eq_nil_of_length_eq_zero (by omega)
   subst h1;subst h2
   rw[maskT_nil]at hr
   have hL:∀ j,j < k→L.getD j true=true:=fun j hj=>by
    by_cases hjc:j∈cs0.map (·.1)
    ·obtain ⟨c,hc,rfl⟩:=List.mem_map.1 hjc
     exact inv.done c hc (by simp)
    ·have:=inv.un j hj hjc
     simpa using this
   have hLe:L=Array.replicate k true++Array.replicate l.length false:=by
    refine Array.ext (by rw[inv.sz];simp[hll]) fun i h4 h5=>?_
    have:=hL i (by subst h3;simp at hll;rw[inv.sz]at h4;omega)
    simp only[Array.getD_eq_getD_getElem?,Array.getElem?_eq_getElem h4,Option.getD_some]at this
    rw[this]
    rw[Array.getElem_append_left (by subst h3;simp at hll;rw[inv.sz]at h4;simp;omega)]
    simp
   have h4:=kEy hM l k L σ hl hL (by rw[hLe];exact hX) hv
   subst h3
   exact kEG hΓ hQ _ _ hr h4
 | succ f ih =>
   intro cs U L G w a σ hf inv hr hv
   cases cs with
   | nil =>
     have hU:U=[]:=by
      cases U with
      | nil=>rfl
      | cons u r =>
        exfalso
        obtain ⟨hk,hn⟩:=inv.uk u (List.mem_cons_self ..)
        obtain ⟨c,hc,hre⟩:=hok.fin u hk hn
        obtain ⟨c',hc',rfl⟩:=List.mem_map.1 hc
        have h1:=inv.done c' hc' (by simp)
        have h2:=hok.lt c' hc'
        have hle:=hok.le
        rw[getD_tf (by rw[inv.sz];omega)]at h1
        have h3:=kCd inv.cl _ _ (inv.cl _ h1) hre
        have h4:=(inv.un u hk hn).2 (List.mem_cons_self ..)
        rw[getD_tf (by rw[inv.sz];omega)]at h4
        rw[h3]at h4;cases h4
     subst hU
     rw[maskT_nil]at hr
     have hL:∀ j,j < k→L.getD j true=true:=fun j hj=>by
      by_cases hjc:j∈cs0.map (·.1)
      ·obtain ⟨c,hc,rfl⟩:=List.mem_map.1 hjc
       exact inv.done c hc (by simp)
      ·have:=inv.un j hj hjc
       simpa using this
     have hLe:L=Array.replicate k true++Array.replicate l.length false:=by
      refine Array.ext (by rw[inv.sz];simp[hll]) fun i h4 h5=>?_
      by_cases hik:i < k
      ·have:=hL i hik
       simp only[Array.getD_eq_getD_getElem?,Array.getElem?_eq_getElem h4,Option.getD_some]at this
       rw[this,Array.getElem_append_left (by simpa using hik)]
       simp
      ·have:=inv.late i (by omega) (by rw[← inv.sz];exact h4)
       simp only[Array.getD_eq_getD_getElem?,Array.getElem?_eq_getElem h4,Option.getD_some]at this
       rw[this,Array.getElem_append_right (by simp;omega)]
       simp
     have h4:=kEy hM l k L σ hl hL (by rw[hLe];exact hX) hv
     exact kEG hΓ hQ _ _ hr (anyM_le (by simp at hf;omega) h4)
   | cons c r =>
     have hle:=hok.le
     obtain ⟨p,hp⟩:=inv.suf
     have hc0:c∈cs0:=by rw[hp];simp
     have hcm:c.1∈cs0.map (·.1):=List.mem_map.2 ⟨c,hc0,rfl⟩
     have hck:=hok.lt c hc0
     have hchain:=hok.chain (p.map (·.1)) c.1 (r.map (·.1)) (by rw[hp];simp)
     refine ⟨fun h0=>?_,fun i hi=>?_⟩
     ·exfalso
      obtain ⟨i,hik,hiu,hmin⟩:=least (p:=fun i=>L.getD i true=false) k ⟨c.1,hck,inv.yet c (List.mem_cons_self ..)⟩
      obtain ⟨o,d,ho,_,_,_,hbk,_⟩:=hok.pre i hik
      have:i∈Region.ready .any ops L:=mem_ready.2 ⟨hiu,o,ho,fun e he hb=>by
       have h1:=hbk e he hb
       have h2:=hmin _ h1
       rw[← getD_tf (by rw[inv.sz];omega)]
       simpa using h2⟩
      rw[h0]at this;cases this
     ·obtain ⟨hiun,o,ho,hall⟩:=mem_ready.1 hi
      have his:i < ops.size:=(Array.getElem?_eq_some_iff.1 ho).1
      have hil:i < L.size:=by rw[inv.sz];exact his
      by_cases hik:i < k
      case neg=>exact (kAS inv.cl hi (inv.yet c (List.mem_cons_self ..)) (hok.late i (by omega) his c.1 hcm)).elim
      obtain ⟨o',d,ho',hd,hg,hdist,hbk,hlook⟩:=hok.pre i hik
      rw[ho]at ho'
      obtain rfl:=Option.some.inj ho'
      unfold wpOp
      rw[ho]
      simp only
      rw[if_pos (kCz hr (o:=o) (b:=true) (by simp[gval,hg]))]
      by_cases hic:i∈cs0.map (·.1)
      ·obtain ⟨c',hc',hci⟩:=List.mem_map.1 hic
       have hcc:c'=c:=by
        by_cases hm:c'∈c::r
        ·rcases List.mem_cons.1 hm with h1|h1
         ·exact h1
         ·have h2:=hchain c'.1 (List.mem_map.2 ⟨c',h1,rfl⟩)
          rw[hci]at h2
          exact (kAS inv.cl hi (inv.yet c (List.mem_cons_self ..)) h2).elim
        ·have:=inv.done c' hc' hm
         rw[hci,hiun]at this;cases this
       subst hcc
       subst hci
       obtain ⟨o2,d2,ho2,hd2,H⟩:=hv
       rw[ho]at ho2
       obtain rfl:=Option.some.inj ho2
       rw[hd]at hd2
       obtain rfl:=Option.some.inj hd2
       have hnu:∀ u∈U,zJ ops ops.size u c'.1=false:=fun u hu=>by
        cases hre:zJ ops ops.size u c'.1 with
        | false=>rfl
        | true =>
          obtain ⟨h1,h2⟩:=inv.uk u hu
          exact (kAS inv.cl hi ((inv.un u h1 h2).2 hu) hre).elim
       have hmd:mskU ops U d=false:=by
        cases hm:mskU ops U d with
        | false=>rfl
        | true =>
          obtain ⟨u,hu,h1⟩:=kBU hm
          obtain ⟨h2,h3⟩:=inv.uk u hu
          have:=hdist u h2 h1
          rw[this]at h3
          exact absurd hic h3
       refine .inl (kAs hΓ hr (fun G' w' a' s hr' hs'=>?_) (H (mskU ops U) fun s hs=>?_))
       ·obtain ⟨r',hd',m',rfl,hv'⟩:=hs'
        refine ih r U (L.setIfInBounds c'.1 true) (G:=G') (σ:=⟨σ.n,upd σ.t d r',hd',m'⟩) (by simp only[List.length_cons]at hf;omega) ?_ ?_ hv'
        ·refine ⟨inv.cl.set hi,by simp[inv.sz],⟨p++[c'],by rw[hp];simp⟩,inv.nd,fun j hj hjn=>?_,inv.uk,fun e he=>?_,fun e he hn=>?_,fun j hj hjs=>?_,fun u hu=>?_⟩
         ·rw[getD_set_ne true (fun h=>by subst h;exact hjn hic)];exact inv.un j hj hjn
         ·have hne:c'.1≠e.1:=fun h=>by
            have h2:=hchain e.1 (List.mem_map.2 ⟨e,he,rfl⟩)
            rw[← h]at h2
            exact kAS inv.cl hi hiun h2
          rw[getD_set_ne true hne];exact inv.yet e (List.mem_cons_of_mem _ he)
         ·by_cases hee:c'.1=e.1
          ·rw[← hee];simp[Array.getD_eq_getD_getElem?,hil]
          ·rw[getD_set_ne true hee]
           exact inv.done e he fun hm=>by
            rcases List.mem_cons.1 hm with h1|h1
            ·subst h1;exact hee rfl
            ·exact hn h1
         ·rw[getD_set_ne true (by omega)];exact inv.late j hj hjs
         ·obtain ⟨ou,du,h1,h2,h3,h4,h5,h6⟩:=inv.val u hu
          obtain ⟨g1,g2⟩:=inv.uk u hu
          have hso:kBD σ ou:=by
           rcases h6 with h6|⟨c2,r2,h6,h7⟩
           ·exact h6
           ·simp only[List.cons.injEq]at h6
            obtain ⟨rfl,rfl⟩:=h6
            rw[hnu u hu]at h7;cases h7
          obtain ⟨ou',du',k1,k2,_,_,_,k3⟩:=hok.pre u g1
          rw[h1]at k1
          obtain rfl:=Option.some.inj k1
          have hev:∀ q∈ou.op.operands,ev ⟨σ.n,upd σ.t d r',hd',m'⟩ q=ev σ q:=ev_slots (ops:=ops) fun s hs=>by
           refine kJ _ _ fun hsd=>?_
           subst hsd
           exact (k3 g2 c'.1 s hck (kDd ho hd) hs).1 hic
          have hdu:du≠d:=fun h=>by
           subst h
           have:=hdist u g1 (kDd h1 h2)
           rw[this]at g2;exact g2 hic
          exact ⟨ou,du,h1,h2,h3,by rw[popAll_slot hso hev,h4];simp only[kJ _ _ hdu],h5,.inl (kCv hso hev)⟩
        ·have:kBM (mskU ops U) (upd σ.t d r')=upd (kBM (mskU ops U) σ.t) d r':=by
           funext s
           simp only[kBM,upd]
           by_cases hsd:s=d
           ·subst hsd;rw[hmd];simp
           ·simp[hsd]
         simp only
         rw[this];exact hr'
       ·obtain ⟨u,hu,h1⟩:=kBU hs
        obtain ⟨g1,g2⟩:=inv.uk u hu
        exact hok.may c' hc0 u g1 g2 (hnu u hu) s h1
      ·have hiU:=(inv.un i hik hic).1 hiun
       obtain ⟨o',d',ho',hd',hdn,hpop,hpure,hsl⟩:=inv.val i hiU
       rw[ho]at ho'
       obtain rfl:=Option.some.inj ho'
       rw[hd]at hd'
       obtain rfl:=Option.some.inj hd'
       have hev:∀ q∈o.op.operands,ev ⟨σ.n,kBM (mskU ops U) σ.t,σ.hd,σ.m⟩ q=ev σ q:=ev_slots (ops:=ops) fun s hs=>by
        have:mskU ops U s=false:=by
         cases hm:mskU ops U s with
         | false=>rfl
         | true =>
           obtain ⟨u,hu,h1⟩:=kBU hm
           obtain ⟨g1,g2⟩:=inv.uk u hu
           obtain ⟨_,_,hbd⟩:=hlook hic u s g1 h1 hs
           unfold kCP at hbd
           rw[Array.any_eq_true']at hbd
           obtain ⟨e,he,h11⟩:=hbd
           simp only[Bool.and_eq_true,beq_iff_eq]at h11
           have h12:=hall e he h11.1
           rw[h11.2]at h12
           have h13:=(inv.un u g1 g2).2 hu
           rw[getD_tf (by rw[inv.sz];omega),h12]at h13
           cases h13
        simp[kBM,this]
       have hpop2:kY P ⟨σ.n,kBM (mskU ops U) σ.t,σ.hd,σ.m⟩ o=some (σ.t d):=by
        rw[← hpop];exact zZ rfl hev
       refine .inl (kDM hΓ hr (pure_res hpure hpop2) (fun k' hk'=>?_) fun G' w' x hr'=>?_)
       ·rw[hd]at hk'
        obtain rfl:=Option.some.inj hk'
        exact hdn
       ·have hlen:=List.length_erase_of_mem hiU
        have hpos:=List.length_pos_of_mem hiU
        refine ih (c::r) (U.erase i) (L.setIfInBounds i true) (G:=G') (σ:=σ) (by omega) ?_ ?_ hv
        ·refine ⟨inv.cl.set hi,by simp[inv.sz],⟨p,hp⟩,inv.nd.erase _,fun j hj hjn=>?_,fun j hj=>inv.uk j (List.mem_of_mem_erase hj),fun e he=>?_,fun e he hn=>?_,fun j hj hjs=>?_,fun u hu=>inv.val u (List.mem_of_mem_erase hu)⟩
         ·by_cases hij:i=j
          ·subst hij
           simp only[Array.getD_eq_getD_getElem?]
           constructor
           ·intro h;simp[hil]at h
           ·intro h;exact absurd h (inv.nd.not_mem_erase)
          ·rw[getD_set_ne true hij,List.mem_erase_of_ne (fun h=>hij h.symm)];exact inv.un j hj hjn
         ·have he0:e∈cs0:=by rw[hp];exact List.mem_append_right _ he
          rw[getD_set_ne true (fun h=>by subst h;exact hic (List.mem_map.2 ⟨e,he0,rfl⟩))];exact inv.yet e he
         ·rw[getD_set_ne true (fun h=>by subst h;exact hic (List.mem_map.2 ⟨e,he,rfl⟩))];exact inv.done e he hn
         ·rw[getD_set_ne true (by omega)];exact inv.late j hj hjs
        ·have:upd (kBM (mskU ops U) σ.t) d (σ.t d)=kBM (mskU ops (U.erase i)) σ.t:=by
           funext s
           simp only[upd,kBM]
           by_cases hsd:s=d
           ·subst hsd
            have:mskU ops (U.erase i) s=false:=by
             cases hm:mskU ops (U.erase i) s with
             | false=>rfl
             | true =>
               obtain ⟨u,hu,h1⟩:=kBU hm
               have:=hdist u (inv.uk u (List.mem_of_mem_erase hu)).1 h1
               subst this
               exact absurd hu inv.nd.not_mem_erase
            rw[this];simp
           ·rw[if_neg hsd]
            have:mskU ops U s=mskU ops (U.erase i) s:=by
             rw[Bool.eq_iff_iff]
             constructor
             ·intro hm
              obtain ⟨u,hu,h1⟩:=kBU hm
              refine mskU_of ((List.mem_erase_of_ne fun h=>?_).2 hu) h1
              subst h
              rw[kDd ho hd]at h1
              exact hsd (Option.some.inj h1).symm
             ·intro hm
              obtain ⟨u,hu,h1⟩:=kBU hm
              exact mskU_of (List.mem_of_mem_erase hu) h1
            rw[this]
         rw[← this]
         have h9:=hr'
         rw[hd]at h9 ⊢
         exact h9
theorem kFc {k:Nat} {cs0:List (Nat×List Nat)} {E:List Nat} (hok:CallsOk ops k cs0 E):∀ (l:List Oper) (i:Nat) (σ:AS),i+l.length=k→(∀ j,j < l.length→l[j]? = ops[i+j]?)→vcFl P Γ (cs0.map (·.1)) E i l K σ →
    ∃ σP,K σP∧σP.n = σ.n∧σP.hd = σ.hd∧σP.m = σ.m∧(∀ s,(∀ j,i≤j→j < k→j ∉ cs0.map (·.1)→kEk ops j≠some s)→σP.t s = σ.t s) ∧
     ∀ j,i≤j→j < k→j ∉ cs0.map (·.1)→∃ o d,ops[j]? = some o∧o.dst=some d∧d < σ.n∧kY P σP o=some (σP.t d)∧pureK o=true∧(j∈E∨kBD σP o)
 | [],i,σ,hk,_,hv=>⟨σ,hv,rfl,rfl,rfl,fun _ _=>rfl,fun j h1 h2=>by simp at hk;omega⟩
 | o::l,i,σ,hk,hl,hv=>by
   have hk':i+1+l.length=k:=by simp only[List.length_cons]at hk;omega
   have hl':∀ j,j < l.length→l[j]? = ops[i+1+j]?:=fun j hj=>by
    have:=hl (j+1) (by simp;omega)
    rw[List.getElem?_cons_succ]at this
    rw[this];congr 1;omega
   have ho:ops[i]? = some o:=by
    have:=hl 0 (by simp)
    simpa using this.symm
   unfold vcFl at hv
   split at hv
   ·rename_i hic
    obtain ⟨σP,h1,h2,h3,h4,h5,h6⟩:=kFc hok l (i+1) σ hk' hl' hv
    refine ⟨σP,h1,h2,h3,h4,fun s hs=>h5 s fun j hj=>hs j (by omega),fun j hj hjk hjn=>?_⟩
    have:j≠i:=fun h=>by subst h;exact hjn hic
    exact h6 j (by omega) hjk hjn
   ·rename_i hic
    obtain ⟨hp,hE,hv⟩:=hv
    obtain ⟨o',d,ho',hd,hg,hdist,hbk,hlook⟩:=hok.pre i (by omega)
    rw[ho]at ho'
    obtain rfl:=Option.some.inj ho'
    obtain ⟨a,hpa,hc⟩:=pure_op hp hv
    rw[hd]at hc
    obtain ⟨hdn,hc⟩:=hc
    obtain ⟨σP,h1,h2,h3,h4,h5,h6⟩:=kFc hok l (i+1) (σ.put d a) hk' hl' hc
    have hsd:∀ s,s∈o.looksAt ops→σP.t s = σ.t s:=fun s hs=>by
     rw[h5 s fun j hj hjk hjn hjd=>by have:=(hlook hic j s hjk hjd hs).2.1;omega]
     refine kJ _ _ fun h=>?_
     subst h
     have:=(hlook hic i s (by omega) (kDd ho hd) hs).2.1
     omega
    have hev:=ev_slots (ops:=ops) (σ:=σ) (σ':=σP) (o:=o) hsd
    have htd:σP.t d=a:=by
     rw[h5 d fun j hj hjk hjn hjd=>by have:=hdist j hjk hjd;omega]
     simp[AS.put]
    refine ⟨σP,h1,h2,h3,h4,fun s hs=>?_,fun j hj hjk hjn=>?_⟩
    ·rw[h5 s fun j hj=>hs j (by omega)]
     refine kJ _ _ fun h=>?_
     subst h
     exact hs i (Nat.le_refl _) (by omega) hic (kDd ho hd)
    ·by_cases hji:j=i
     ·subst hji
      refine ⟨o,d,ho,hd,hdn,?_,hp,?_⟩
      ·rw[htd,← hpa];exact zZ h4 hev
      ·exact hE.imp_right fun hs=>kCv hs hev
     ·exact h6 j (by omega) hjk hjn
omit [Tabs] in
theorem nodup_len:∀ (l m:List Nat),l.Nodup→(∀ x∈l,x∈m)→l.length≤m.length
 | [],_,_,_=>Nat.zero_le _
 | x::l,m,hn,hs=>by
   have hx:=hs x (List.mem_cons_self ..)
   have hn':=List.nodup_cons.1 hn
   have:=nodup_len l (m.erase x) hn'.2 fun y hy=>(List.mem_erase_of_ne (fun h=>by subst h;exact hn'.1 hy)).2 (hs y (List.mem_cons_of_mem _ hy))
   rw[List.length_erase_of_mem hx]at this
   have:=List.length_pos_of_mem hx
   simp only[List.length_cons];omega
theorem awp_calls (hΓ:kK P Γ) {id:Nat} {l:List Oper} {Q:Exit→AS→Prop} (k:Nat) (cs:List (Nat×List Nat)) (E:List Nat) (hm:P.follows .mixedOrders=true) (hB:callsB (List.toArray l) k cs E=true) (hM:memBM (List.toArray l)=true)
    (hX:Region.lexFrom .any (List.toArray l) (l.length - k) k (Array.replicate k true++Array.replicate (l.length - k) false)=true)
    (hv:vcFl P Γ (cs.map (·.1)) E 0 (l.take k) (kCE P Γ (List.toArray l) (l.drop k) (Q .normal) cs) σ):AWP P (.region id (List.toArray l) true) Q σ:=by
 intro w0 F0 Fp X G w a hr
 have hok:=callsB_ok hB
 have hle:k≤l.length:=by simpa using hok.le
 show (Code.region id (List.toArray l) true).wp P _ a w
 refine wp_region_any hm ?_
 obtain ⟨σP,h1,h2,h3,h4,h5,h6⟩:=kFc (ops:=List.toArray l) hok (l.take k) 0 σ (by simp;omega) (fun j hj=>by simp only[List.length_take]at hj;simp[List.getElem?_take,show j < k by omega]) hv
 have hb:Below w.heap.size w { w with drawn:=w.drawn+1 }:=Below.drew (Below.refl _ _)
 have hr2:=hr.below hb
 have hsz:(List.toArray l).size=l.length:=by simp
 refine calls_any (K:=Q .normal) hΓ hok (l:=l.drop k) (fun j=>by simp) (by simp;omega) hM (by simpa using hX) (fun G w a σ h1 h2=>⟨G,σ,h1,h2⟩) _ cs ((List.range k).filter fun i=>!(cs.map (·.1)).contains i) (Array.replicate (List.toArray l).size false) (G:=G) (σ:=σP) ?_ ?_ ?_ h1
 ·have hcl:((List.range k).filter fun i=>!(cs.map (·.1)).contains i).length+cs.length≤k:=by
    have h7:(cs.map (·.1)).Nodup:=by
     rw[List.nodup_iff_pairwise_ne]
     rw[List.pairwise_iff_getElem]
     intro i j hi hj hij heq
     have h8:=hok.chain ((cs.map (·.1)).take i) ((cs.map (·.1))[i]) ((cs.map (·.1)).drop (i+1)) (by rw[← List.drop_eq_getElem_cons hi,List.take_append_drop]) ((cs.map (·.1))[j]) (by
      rw[List.mem_iff_getElem]
      exact ⟨j - (i+1),by simp only[List.length_drop];omega,by rw[List.getElem_drop];congr 1;omega⟩)
     rw[← heq]at h8
     -- an operation does not wait for itself
     have hlt:∀ (f a b:Nat),b < k→zJ (List.toArray l) f a b=true→a < b:=by
      intro f
      induction f with
      | zero=>intro a b _ h;cases h
      | succ f ih =>
        intro a b hbk h
        unfold zJ at h
        split at h
        ·rename_i y hy
         rw[Array.any_eq_true']at h
         obtain ⟨e,he,h9⟩:=h
         simp only[Bool.and_eq_true,Bool.or_eq_true,beq_iff_eq]at h9
         obtain ⟨o,_,ho,_,_,_,hbk2,_⟩:=hok.pre b hbk
         rw[hy]at ho
         obtain rfl:=Option.some.inj ho
         have h10:=hbk2 e he h9.1
         rcases h9.2 with h11|h11
         ·omega
         ·have:=ih a e.on (by omega) h11;omega
        ·cases h
     have hik:(cs.map (·.1))[i] < k:=by
      obtain ⟨c,hc,hce⟩:=List.mem_map.1 (List.getElem_mem hi)
      rw[← hce];exact hok.lt c hc
     have:=hlt _ _ _ hik h8
     omega
    have h8:(cs.map (·.1)).length≤((List.range k).filter fun i=>(cs.map (·.1)).contains i).length:=by
     refine nodup_len _ _ h7 fun x hx=>?_
     obtain ⟨c,hc,rfl⟩:=List.mem_map.1 hx
     rw[List.mem_filter]
     exact ⟨by simpa using hok.lt c hc,by simpa using ⟨_,hc⟩⟩
    have h9:((List.range k).filter fun i=>(cs.map (·.1)).contains i).length+((List.range k).filter fun i=>!(cs.map (·.1)).contains i).length=(List.range k).length:=by
     rw[← List.length_append]
     exact (List.filter_append_perm _ _).length_eq
    simp only[List.length_map,List.length_range]at h8 h9
    omega
  simp only[List.length_drop,hsz]
  omega
 ·refine ⟨fun j hj=>?_,by simp,⟨[],rfl⟩,List.nodup_range.filter _,fun i hi hn=>?_,fun i hi=>?_,fun c hc=>?_,fun c hc hn=>absurd hc hn,fun j hj hjs=>?_,fun i hi=>?_⟩
  ·exfalso
   simp[Array.getElem?_replicate]at hj
   split at hj<;>simp at hj
  ·rw[List.mem_filter]
   have e1:(Array.replicate (List.toArray l).size false).getD i true=false:=by simp[Array.getElem?_replicate,show i < l.length by omega]
   exact ⟨fun _=>⟨by simpa using hi,by simpa using hn⟩,fun _=>e1⟩
  ·rw[List.mem_filter]at hi
   exact ⟨by simpa using hi.1,by simpa using hi.2⟩
  ·have:=hok.lt c hc
   simp[Array.getElem?_replicate,show c.1 < l.length by omega]
  ·simp at hjs
   simp[Array.getElem?_replicate,hjs]
  ·rw[List.mem_filter]at hi
   have hik:i < k:=by simpa using hi.1
   have hin:i ∉ cs.map (·.1):=by simpa using hi.2
   obtain ⟨o,d,g1,g2,g3,g4,g5,g6⟩:=h6 i (Nat.zero_le _) hik hin
   refine ⟨o,d,g1,g2,by rw[h2];exact g3,g4,g5,?_⟩
   rcases g6 with g6|g6
   ·cases cs with
    | nil =>
      obtain ⟨c,hc,_⟩:=hok.fin i hik hin
      simp at hc
    | cons c r=>exact .inr ⟨c,r,rfl,hok.early i g6 c r rfl⟩
   ·exact .inl g6
 ·refine ⟨by rw[h2];exact hr2.sz,hr2.df,fun s=>?_,fun j s=>by rw[h3];exact hr2.hd j s,by rw[h4];exact hr2.mm,hr2.tb⟩
  simp only[kBM]
  cases hms:mskU (List.toArray l) ((List.range k).filter fun i=>!(cs.map (·.1)).contains i) s with
  | true=>exact .any _
  | false =>
    simp only[cond_false]
    rw[h5 s fun j _ hjk hjn hjd=>?_]
    ·exact hr2.tm s
    ·have:=mskU_of (U:=(List.range k).filter fun i=>!(cs.map (·.1)).contains i) (List.mem_filter.2 ⟨by simpa using hjk,by simpa using hjn⟩) hjd
     rw[hms]at this;cases this
theorem still_call2 {m:AM} {f:FuncId} (hC:Γ.get f=none) (hf:FnOk P f) {as:List AV} {r:AV} (hr0:∀ k,r.obLt k)
    (H:∀ (n:Nat) (t:Nat→AV) (hd:Nat→Nat→AV) (m':AM),0 < n→(∀ o x,m.h o=some x→m'.h o=some x)→(∀ o x,m'.h o=some x→o < m'.nh)→kS P Γ false ⟨n,t,hd,m'⟩ f as (some 0) (ReadK n t hd m' 0 r)):Still P m f as r:=by
 refine ⟨hf,fun σ' hh w0 F0 Fp X G w a vs hr hlen hv=>?_⟩
 have hr2:Rel w0 F0 Fp (fun j i=>match j with|0=>a.tmps.getD i undef|j+1=>X j i) G w { tmps:=#[undef],defers:=[] } ⟨1,fun _=>.any,kB8 σ'.t σ'.hd,σ'.m⟩ :=
  ⟨rfl,rfl,fun _=>.any _,fun j i=>by cases j with
   | zero=>exact hr.tm i
   | succ j=>exact hr.hd j i,hr.mm,hr.tb⟩
 refine (kBZ hC (H 1 (fun _=>.any) (kB8 σ'.t σ'.hd) σ'.m (by omega) hh (fun o x h=>by rw[← hr.mm.nh];exact (hr.mm.obj o x h).1)) hr2 hlen hv).2.mono ?_
 rintro ed w' ⟨v,σ1,r1,G',rfl,h1,h2,h3⟩
 obtain ⟨_,k,h1',h4,h5,h6⟩:=h3
 have e1:σ1.hd=kB8 σ'.t σ'.hd:=congrArg AS.hd h4
 have e2:σ1.m=⟨k,h1',σ'.m.nl,σ'.m.fm,σ'.m.lv,σ'.m.mu⟩:=congrArg AS.m h4
 have e3:r1=r:=by
  have:=congrFun (congrArg AS.t h4) 0
  simpa [AS.put] using this
 subst e3
 have h7:Rel w0 F0 Fp X G' w' a ⟨σ'.n,σ'.t,σ'.hd,⟨k,h1',σ'.m.nl,σ'.m.fm,σ'.m.lv,σ'.m.mu⟩⟩:=by
  refine ⟨hr.sz,hr.df,fun i=>?_,fun j i=>?_,?_,hr.tb⟩
  ·have:=h1.hd 0 i
   rw[e1]at this
   exact this
  ·have:=h1.hd (j+1) i
   rw[e1]at this
   exact this
  ·have:=h1.mm
   rw[e2]at this
   exact this
 exact ⟨v,_,rfl,h7.shrink hr rfl rfl rfl h5 h6 ⟨rfl,rfl,rfl,rfl⟩,h2.shrink (hr0 _)⟩
theorem maskT_off {M:Nat→Bool} {i:Nat} (h:M i=false) (t:Nat→AV):kBM M t i=t i:=by simp[kBM,h]
theorem kHJ {M:Nat→Bool} (h:∀ i,M i=false) (t:Nat→AV):kBM M t=t:=by funext i;exact maskT_off (h i) t
theorem cutT_maskT {fm:Nat→Nat} {l:Nat} {M:Nat→Bool} {t:Nat→AV} (h:cutT fm l t=t):cutT fm l (kBM M t)=kBM M t:=by
 funext i
 have:=congrFun h i
 simp only[cutT,kBM]at this ⊢
 cases M i with
 | true=>rfl
 | false=>exact this
end
end Go.Rw
