/-
 Frames that hold nothing of a family stay as they are when a slice of it is cut,or turned. Proved over any program. A call reckoned in place that leaves all as it is,for regions that draw their order. Proved over any program. A live slice that stands in an object,cut at its front by a piece of code that draws its order: what is reckoned is the slice's own value. Proved over any program.
-/
import Derived.Test.YtnpofobcbfbfnaaGreatDoorRwO
set_option linter.unusedSimpArgs false
set_option linter.unusedVariables false
set_option linter.defProp false
set_option linter.unusedSectionVars false

-- RwFree
section
namespace Go.Rw
open Go Go.RowKit
theorem cutT_upd {fm:Nat→Nat} {l d:Nat} {t:Nat→AV} {a:AV}:cutT fm l (upd t d a)=upd (cutT fm l t) d (a.cut fm l):=by
 funext k
 simp only[cutT,upd]
 split<;>rfl
theorem kBv {fm:Nat→Nat} {l:Nat}:∀ {S:List (Nat×AV)},cutT fm l (look S)=look (S.map fun p=>(p.1,AV.cut fm l p.2))
 | []=>rfl
 | (i,a)::r=>by
   funext k
   have:=congrFun (kBv (fm:=fm) (l:=l) (S:=r)) k
   simp only[cutT,look,List.map_cons]at this ⊢
   split
   ·rfl
   ·exact this
end Go.Rw
end
-- RwStill
section
namespace Go.Rw
open Go Go.RowKit
mutual
def AV.obLt (k:Nat):AV→Prop
 | .ptr o _=>o < k
 | .mp o=>o < k
 | .agg cs=>AV.obLtL k cs
 | .tup cs=>AV.obLtL k cs
 | .fn _ cs=>AV.obLtL k cs
 | _=>True
def AV.obLtL (k:Nat):List AV→Prop
 | []=>True
 | a::r=>a.obLt k∧AV.obLtL k r
end
theorem obLtL_mem {k:Nat}:∀ {cs:List AV},AV.obLtL k cs↔∀ i,i < cs.length→(cs.getD i .any).obLt k
 | []=>by simp [AV.obLtL]
 | a::r=>by
   rw[AV.obLtL,obLtL_mem (cs:=r)]
   constructor
   ·rintro ⟨h1,h2⟩ i hi
    cases i with
    | zero=>simpa using h1
    | succ i=>simpa using h2 i (by simpa using hi)
   ·intro h
    exact ⟨by simpa using h 0 (by simp),fun i hi=>by simpa using h (i+1) (by simpa using hi)⟩
mutual
theorem obLt_closed {k:Nat}:∀ a:AV,a.er=a→a.obLt k
 | .any,_=>trivial
 | .v _,_=>trivial
 | .sl ..,_=>trivial
 | .ep ..,_=>trivial
 | .ptr ..,h=>by simp [AV.er] at h
 | .mp _,h=>by simp [AV.er] at h
 | .agg cs,h=>by
   simp only[AV.er,AV.agg.injEq]at h
   exact obLtL_closed cs h
 | .tup cs,h=>by
   simp only[AV.er,AV.tup.injEq]at h
   exact obLtL_closed cs h
 | .fn f cs,h=>by
   simp only[AV.er,AV.fn.injEq,true_and]at h
   exact obLtL_closed cs h
theorem obLtL_closed {k:Nat}:∀ cs:List AV,AV.erL cs=cs→AV.obLtL k cs
 | [],_=>trivial
 | a::r,h=>by
   simp only[AV.erL,List.cons.injEq]at h
   exact ⟨obLt_closed a h.1,obLtL_closed r h.2⟩
end
theorem VR.obs {G:Gh} {w:World} {x:Value} {a:AV} (h:VR G w x a):a.obLt G.nh:=by
 induction h with
 | ptr o k ho=>exact ho
 | mp o ho=>exact ho
 | agg arr cs hs _ ih=>exact obLtL_mem.2 ih
 | tup arr cs hs _ ih=>exact obLtL_mem.2 ih
 | fn f arr cs hs _ ih=>exact obLtL_mem.2 ih
 | _=>trivial
theorem VR.shrink {G:Gh} {w:World} {k:Nat} {x:Value} {a:AV} (h:VR G w x a):a.obLt k→VR { G with nh:=k } w x a:=by
 induction h with
 | any x=>exact fun _=>.any _
 | v x=>exact fun _=>.v _
 | ptr o kk ho=>exact fun h=>VR.ptr (G:={ G with nh:=k }) o kk h
 | mp o ho=>exact fun h=>VR.mp (G:={ G with nh:=k }) o h
 | agg arr cs hs _ ih=>exact fun h=>.agg arr cs hs fun i hi=>ih i hi (obLtL_mem.1 h i hi)
 | tup arr cs hs _ ih=>exact fun h=>.tup arr cs hs fun i hi=>ih i hi (obLtL_mem.1 h i hi)
 | fn f arr cs hs _ ih=>exact fun h=>.fn f arr cs hs fun i hi=>ih i hi (obLtL_mem.1 h i hi)
 | nil sz=>exact fun _=>.nil sz
 | sl A cap l sz xs g off us hl h1 hc hlive hA hsz h0 hcell _ ih =>
   exact fun _=>.sl A cap l sz xs g off us hl h1 hc hlive hA hsz h0 hcell fun j hj=>ih j hj (obLt_closed _ (k9 hsz j))
 | ep l sz xs i j g off us hl hlive hA hi hj hsz h0 hcell _ ih =>
   exact fun _=>.ep l sz xs i j g off us hl hlive hA hi hj hsz h0 hcell fun q hq=>ih q hq (obLt_closed _ (k9 hsz q))
def AO.obLt (k:Nat):AO→Prop
 | .cells cs=>AV.obLtL k cs
 | .mit o _ _ _=>o < k
 | _=>True
theorem OR.obs {G:Gh} {w:World} {g:Nat} {x:AO} (h:OR G w g x):x.obLt G.nh:=by
 cases h with
 | cells cs arr e hh hs hc=>exact obLtL_mem.2 fun i hi=>(hc i hi).obs
 | mit ob si se la ho hh=>exact ho
 | _=>trivial
theorem OR.shrink {G:Gh} {w:World} {g k:Nat} {x:AO} (h:OR G w g x) (hk:x.obLt k):OR { G with nh:=k } w g x:=by
 cases h with
 | cells cs arr e hh hs hc=>exact .cells cs arr e hh hs fun i hi=>(hc i hi).shrink (obLtL_mem.1 hk i hi)
 | iter s p hh=>exact .iter s p hh
 | map es c hh=>exact .map es c hh
 | mit ob si se la ho hh=>exact OR.mit (G:={ G with nh:=k }) ob si se la hk hh
section
variable {P:Program} [Tabs] {Γ:Env} {w0:World} {F0:Nat→Nat} {Fp:Nat→Prop} {X:Nat→Nat→Value} {G G0:Gh} {w wb:World} {a a0:Act} {σ σ0:AS}
theorem Rel.shrink (h:Rel w0 F0 Fp X G w a σ) (hb:Rel w0 F0 Fp X G0 wb a0 σ0) (hn:σ.n = σ0.n) (ht:σ.t = σ0.t) (hh:σ.hd = σ0.hd) (hk:σ0.m.nh≤σ.m.nh) (ho:∀ o x,σ0.m.h o=some x→σ.m.h o=some x)
    (hl:σ.m.nl = σ0.m.nl∧σ.m.fm = σ0.m.fm∧σ.m.lv = σ0.m.lv∧σ.m.mu = σ0.m.mu):Rel w0 F0 Fp X { G with nh:=σ0.m.nh } w a σ0:=by
 have e0:=hb.mm.nh
 refine ⟨h.sz.trans hn,h.df,fun i=>?_,fun j i=>?_,?_,h.tb⟩
 ·rw[← ht];refine (h.tm i).shrink ?_
  rw[ht,← e0];exact (hb.tm i).obs
 ·rw[← hh];refine (h.hd j i).shrink ?_
  rw[hh,← e0];exact (hb.hd j i).obs
 ·have hm:=h.mm
  have e1:=hm.nh
  exact { nh:=rfl,nl:=hm.nl.trans hl.1,fm:=hm.fm.trans hl.2.1,lv:=hm.lv.trans hl.2.2.1,two:=hm.two,fm0:=hm.fm0,fml:=hm.fml,fm2:=hm.fm2,fmi:=hm.fmi,
          inj:=fun o o' (h1:o < σ0.m.nh) (h2:o' < σ0.m.nh) h3=>hm.inj o o' (by omega) (by omega) h3,obl:=fun o (h1:o < σ0.m.nh)=>hm.obl o (by omega),
          obj:=fun o x hx=>⟨(show o < σ0.m.nh by rw[← e0];exact (hb.mm.obj o x hx).1),(hm.obj o x (ho o x hx)).2.shrink (by rw[← e0];exact (hb.mm.obj o x hx).2.obs)⟩,
          live:=hm.live,frl:=hm.frl,linl:=hm.linl,linn:=hm.linn,old:=hm.old,f0:=hm.f0,mu:=fun h1=>hm.mu (by rw[hl.2.2.2];exact h1),keep:=hm.keep,keepf:=hm.keepf,size:=hm.size,os:=hm.os,tape:=hm.tape,output:=hm.output }
theorem kCH {f:FuncId} (hC:Γ.get f=none) {as:List AV} {d:Option Nat} {K:AS→Prop} (hc:kS P Γ false σ f as d K) (h:Rel w0 F0 Fp X G w a σ) {vs:Array Value} (hlen:vs.size=as.length) (hv:∀ k,VR G w (vs.getD k undef) (as.getD k .any)) :
    FnOk P f∧Calls P f vs w fun ed w'=>∃ v σ1 r G',ed = .returned v∧Rel w0 F0 Fp X G' w' a σ1∧VR G' w' v r∧cont σ1 d r K:=by
 unfold kS at hc
 rw[hC]at hc
 rcases hc.2 with h1|h1|h1
 ·obtain ⟨h2,h3⟩:=mut_call h hlen hv h1
  exact ⟨h2,h3.mono fun ed w' ⟨v,σ1,r,e1,e2,e3,e4⟩=>⟨v,σ1,r,G,e1,e2,e3,e4⟩⟩
 ·exact inl_call h hlen hv h1
 ·exact ⟨h1.1,h1.2 _ _ _ _ _ _ _ _ h hlen hv⟩
def ReadK (n:Nat) (t:Nat→AV) (hd:Nat→Nat→AV) (m:AM) (d:Nat) (r:AV) (s:AS):Prop:=∃ k h1,s=⟨n,upd t d r,hd,⟨k,h1,m.nl,m.fm,m.lv,m.mu⟩⟩∧m.nh≤k∧∀ o x,m.h o=some x→h1 o=some x
theorem kDw {m:AM} {f:FuncId} (hC:Γ.get f=none) (hf:FnOk P f) {as:List AV} {r:AV} (hr0:∀ k,r.obLt k)
    (H:∀ (n:Nat) (t:Nat→AV) (hd:Nat→Nat→AV) (m':AM),0 < n→(∀ o x,m.h o=some x→m'.h o=some x)→kS P Γ false ⟨n,t,hd,m'⟩ f as (some 0) (ReadK n t hd m' 0 r)):Still P m f as r:=by
 refine ⟨hf,fun σ' hh w0 F0 Fp X G w a vs hr hlen hv=>?_⟩
 have hr2:Rel w0 F0 Fp (fun j i=>match j with|0=>a.tmps.getD i undef|j+1=>X j i) G w { tmps:=#[undef],defers:=[] } ⟨1,fun _=>.any,kCM σ'.t σ'.hd,σ'.m⟩ :=
  ⟨rfl,rfl,fun _=>.any _,fun j i=>by cases j with
   | zero=>exact hr.tm i
   | succ j=>exact hr.hd j i,hr.mm,hr.tb⟩
 refine (kCH hC (H 1 (fun _=>.any) (kCM σ'.t σ'.hd) σ'.m (by omega) hh) hr2 hlen hv).2.mono ?_
 rintro ed w' ⟨v,σ1,r1,G',rfl,h1,h2,h3⟩
 obtain ⟨_,k,h1',h4,h5,h6⟩:=h3
 have e1:σ1.hd=kCM σ'.t σ'.hd:=congrArg AS.hd h4
 have e2:σ1.m=⟨k,h1',σ'.m.nl,σ'.m.fm,σ'.m.lv,σ'.m.mu⟩:=congrArg AS.m h4
 have e3:r1=r:=by
  have:=congrFun (congrArg AS.t h4) 0
  simpa [AS.put] using this
 subst e3
 have h7:Rel w0 F0 Fp X G' w' a ⟨σ'.n,σ'.t,σ'.hd,⟨k,h1',σ'.m.nl,σ'.m.fm,σ'.m.lv,σ'.m.mu⟩⟩:=by
  refine ⟨hr.sz,hr.df,fun i=>?_,fun j i=>?_,?_,hr.tb⟩
  ·have:=h1.hd 0 i
   rw[e1]at this
   exact this
  ·have:=h1.hd (j+1) i
   rw[e1]at this
   exact this
  ·have:=h1.mm
   rw[e2]at this
   exact this
 exact ⟨v,_,rfl,h7.shrink hr rfl rfl rfl h5 h6 ⟨rfl,rfl,rfl,rfl⟩,h2.shrink (hr0 _)⟩
end
end Go.Rw
end
-- RwConc
section
namespace Go.Rw
open Go Go.RowKit
section
variable {P:Program} [Tabs] {w0:World} {F0:Nat→Nat} {Fp:Nat→Prop} {X:Nat→Nat→Value} {G:Gh} {w:World} {a:Act} {σ:AS}
theorem cut_ahead (h:Rel w0 F0 Fp X G w a σ) {l e sz i:Nat} {xs:List AV} {x:Value} (hx:VR G w x (.sl l sz xs)) (h2:2≤l) (hlv:σ.m.lv l=some (xs.length,e)) (hi:i < xs.length) (hmu:σ.m.mu=true) :
    ∃ g off cap G',x = .slice (some ⟨g,off,none⟩) xs.length cap∧xs.length≤cap∧cap≤maxLen∧Rel w0 F0 Fp X G' w a (σ.cut l (xs.length - i) e)∧VR G' w (.slice (some ⟨g,off+i * sz,none⟩) (xs.length - i) (cap - i)) (.sl l sz (xs.drop i))∧G'.ob=G.ob:=by
 obtain ⟨g,oF,cap,cur,us,q1,q2,q3,q4,q5,q6,q7,q8,q9,q10,q11,q12,q13,q14,q15,q16⟩:=live_at h hx h2 hlv (by omega)
 have hmul:i * sz+(xs.length - i) * sz=xs.length * sz:=by rw[← Nat.add_mul];congr 1;omega
 have hmulc:i * sz+(cap - i) * sz=cap * sz:=by rw[← Nat.add_mul];congr 1;omega
 have htl:(xs.drop i).length=xs.length - i:=List.length_drop
 have hr:=h.cut (i:=xs.length - i) (m:=oF+xs.length * sz) (A:=some ⟨g,oF+i * sz,none⟩) (c:=cap - i) q2 q4 q5 hmu q8 (.inr ⟨oF+i * sz,rfl,by omega,by omega,by rw[q10,q9];omega,by rw[q10];omega⟩)
 refine ⟨g,oF,cap,_,q1,q6,q7,hr,?_,rfl⟩
 have hfl:=h.mm.fm2 l h2 q16
 suffices hvr:VR (G.cut l g (xs.length - i) e (oF+xs.length * sz) (some ⟨g,oF+i * sz,none⟩) (cap - i)) w (.slice (some ⟨g,oF+i * sz,none⟩) (xs.drop i).length (cap - i)) (.sl l sz (xs.drop i)) by
  rw[htl]at hvr;exact hvr
 refine .sl _ (cap - i) l sz (xs.drop i) g (oF+i * sz) (fun k=>us (i * sz+k)) q16 (by omega) (by omega) ?_ ?_ (fun y hy=>q13 y (List.mem_of_mem_drop hy)) (fun _=>q12) ?_ ?_
 ·intro n' e' hn
  simp only[Gh.cut]at hn ⊢
  rw[kV]at hn
  obtain ⟨rfl,rfl⟩:=Prod.mk.injEq .. ▸ Option.some.inj hn
  exact ⟨by omega,fun _=>⟨by rw[kV],q10.symm⟩⟩
 ·intro hne
  refine ⟨rfl,.inl q4,?_⟩
  simp only[Gh.cut]
  rw[kV,htl];omega
 ·intro k hk
  rw[htl]at hk
  have:=q14 (i * sz+k) (by omega)
  rwa [← Nat.add_assoc]at this
 ·intro k hk
  rw[htl]at hk
  have h0:G.fm 0≠G.fm l:=by rw[h.mm.fm0];omega
  have hl0:G.fm l≠0:=by omega
  have h5:=(q15 (i * sz+k) (by omega)).cut (i:=xs.length - i) (e:=e) (n:=oF+xs.length * sz) (A:=some ⟨g,oF+i * sz,none⟩) (c:=cap - i) h0 hl0 q4
  rw[cut_closed h0 _ (k9 q13 _)]at h5
  have e1:(flat (xs.drop i)).getD k .any=(flat xs).getD (i * sz+k) .any:=by
   have e2:flat xs=flat (xs.take i)++flat (xs.drop i):=by rw[← j3,List.take_append_drop]
   have e3:(flat (xs.take i)).length=i * sz:=by
    rw[j5 (sz:=sz) (fun y hy=>(q13 y (List.mem_of_mem_take hy)).1),List.length_take];congr 1;omega
   rw[e2,List.getD_eq_getElem?_getD,List.getD_eq_getElem?_getD,List.getElem?_append_right (by omega),e3,Nat.add_sub_cancel_left]
  rw[e1];exact h5
variable {n:Nat} {t:Nat→AV} {hd:Nat→Nat→AV} {nh nl:Nat} {h:Nat→Option AO} {fm:Nat→Nat} {lv:Nat→Option (Nat×Nat)}
theorem kEW {cs:List AV} {k j:Nat} {y:AV} (hj:j < cs.length):(cs.set k y).getD j .any=if j=k then y else cs.getD j .any:=by
 simp only[List.getD_eq_getElem?_getD,List.getElem?_set]
 split
 ·rename_i e;subst e;simp[hj]
 ·rename_i e;rw[if_neg (fun he=>e he.symm)]
theorem awp_cutAt {c:Code} {Q:Exit→AS→Prop} {o k l sz e i:Nat} {xs cs:List AV} (S:List (Nat×AV)) (hob:h o=some (.cells cs)) (hk:cs[k]? = some (.sl l sz xs)) (h2:2≤l) (hlv:lv l=some (xs.length,e)) (hi:i < xs.length)
    (hrun:∀ g off cap,xs.length≤cap→cap≤maxLen→AWP P c (fun ex s=>ex = .normal∧∃ t',jO t' S∧s=⟨n,t',kCM (fun _=>.sl l sz (xs.drop i)) (cutH fm l hd),⟨nh,upd (cutO fm l h) o (some (.cells ((AV.cutL fm l cs).set k (.v (.slice (some ⟨g,off+i * sz,none⟩) (xs.length - i) (cap - i)))))),nl,fm,upd lv l (some (xs.length - i,e)),true⟩⟩)
     ⟨n,cutT fm l t,kCM (fun _=>.sl l sz (xs.drop i)) (cutH fm l hd),⟨nh,upd (cutO fm l h) o (some (.cells ((AV.cutL fm l cs).set k (.v (.slice (some ⟨g,off,none⟩) xs.length cap))))),nl,fm,upd lv l (some (xs.length - i,e)),true⟩⟩)
    (hQ:Q .normal ⟨n,look S,cutH fm l hd,⟨nh,upd (cutO fm l h) o (some (.cells ((AV.cutL fm l cs).set k (.sl l sz (xs.drop i))))),nl,fm,upd lv l (some (xs.length - i,e)),true⟩⟩) :
    AWP P c Q ⟨n,t,hd,⟨nh,h,nl,fm,lv,true⟩⟩:=by
 intro w0 F0 Fp X G w a hr
 have hkl:k < cs.length:=(List.getElem?_eq_some_iff.1 hk).1
 obtain ⟨ho1,ho2⟩:=hr.mm.obj o _ hob
 cases ho2 with
 | cells _ arr ee hh hs hc =>
 have hxv:=hc k hkl
 rw[List.getD_eq_getElem?_getD,hk]at hxv
 simp only[Option.getD_some]at hxv
 obtain ⟨g,off,cap,G',q1,q2,q3,q4,q5,q6⟩:=cut_ahead hr hxv h2 hlv hi rfl
 have hco:OR G' w (G'.ob o) (.cells (AV.cutL fm l cs)):=(q4.mm.obj o (.cells (AV.cutL fm l cs)) (by simp only[AS.cut,hob,Option.map_some,AO.cut])).2
 have hrel:Rel w0 F0 Fp (fun j i'=>match j with|0=>Value.slice (some ⟨g,off+i * sz,none⟩) (xs.length - i) (cap - i)|j+1=>X j i') G' w a
     ⟨n,cutT fm l t,kCM (fun _=>.sl l sz (xs.drop i)) (cutH fm l hd),⟨nh,upd (cutO fm l h) o (some (.cells ((AV.cutL fm l cs).set k (.v (.slice (some ⟨g,off,none⟩) xs.length cap))))),nl,fm,upd lv l (some (xs.length - i,e)),true⟩⟩:=by
  refine ⟨q4.sz,q4.df,q4.tm,fun j i'=>?_,?_,q4.tb⟩
  ·cases j with
   | zero=>exact q5
   | succ j=>exact q4.hd j i'
  ·have hm:=q4.mm
   refine { hm with nh:=hm.nh,nl:=hm.nl,fm:=hm.fm,lv:=hm.lv,obj:=?_,mu:=hm.mu }
   intro o' x hx
   simp only[upd]at hx
   split at hx
   ·rename_i he
    subst he
    obtain rfl:=Option.some.inj hx
    refine ⟨(hm.obj o' (.cells (AV.cutL fm l cs)) (by simp only[AS.cut,hob,Option.map_some,AO.cut])).1,?_⟩
    cases hco with
    | cells _ arr2 ee2 hh2 hs2 hc2 =>
      refine .cells _ arr2 ee2 hh2 (by rw[hs2,List.length_set]) fun j hj=>?_
      rw[List.length_set]at hj
      rw[kEW hj]
      split
      ·rename_i hjk
       subst hjk
       have e1:arr2=arr:=by
        rw[q6]at hh2
        rw[hh]at hh2
        exact (Obj.cells.inj (Option.some.inj hh2)).1.symm
       rw[e1,q1];exact .v _
      ·exact hc2 j hj
   ·exact hm.obj o' x hx
 refine wp_mono (hrun g off cap q2 q3 _ _ _ _ _ _ _ hrel) ?_
 rintro ex a' w' ⟨G2,s,hr2,rfl,t',ht',rfl⟩
 refine ⟨G2,_,?_,hQ⟩
 have hwit:VR G2 w' (Value.slice (some ⟨g,off+i * sz,none⟩) (xs.length - i) (cap - i)) (.sl l sz (xs.drop i)):=hr2.hd 0 0
 refine ⟨hr2.sz,hr2.df,fun j=>?_,fun j i'=>hr2.hd (j+1) i',?_,hr.tb⟩
 ·rcases kEt ht' j with h1|h1
  ·show VR _ _ _ (look S j);rw[h1];exact hr2.tm j
  ·show VR _ _ _ (look S j);rw[h1];exact .any _
 ·have hm:=hr2.mm
  refine { hm with nh:=hm.nh,nl:=hm.nl,fm:=hm.fm,lv:=hm.lv,obj:=?_,mu:=hm.mu }
  intro o' x hx
  simp only[upd]at hx
  split at hx
  ·rename_i he
   subst he
   obtain rfl:=Option.some.inj hx
   obtain ⟨g1,g2⟩:=hm.obj o' _ (kV _ _ _)
   refine ⟨g1,?_⟩
   cases g2 with
   | cells _ arr2 ee2 hh2 hs2 hc2 =>
     rw[List.length_set]at hs2
     refine .cells _ arr2 ee2 hh2 (by rw[hs2,List.length_set]) fun j hj=>?_
     rw[List.length_set]at hj
     have h3:=hc2 j (by rw[List.length_set];exact hj)
     rw[kEW hj]at h3 ⊢
     split
     ·rename_i hjk
      rw[if_pos hjk]at h3
      rw[h3.v_inv];exact hwit
     ·rename_i hjk
      rw[if_neg hjk]at h3;exact h3
  ·rename_i he
   exact hm.obj o' x (by simp only[upd,if_neg he];exact hx)
omit [Tabs] in
theorem lenA_slc {t e ty:TypeId} {A:Option Addr} {k cap:Nat} (hu:P.underlying t=some (.slice e)):lenA P t (.v (.slice A k cap)) #[t] ty=some (.v (.int .i64 k)):=by
 simp[lenA,res,Builtin.len_,kY,underlying,hu,goInt]
omit [Tabs] in
theorem sliceP_slc {t e sz:Nat} {g off k cap i:Nat} {z:Int} (hs:qS P t=some (e,sz)) (hz:z=(i:Nat)) (hcap:k≤cap) (hi:i < k) :
    kBU P t (.v (.slice (some ⟨g,off,none⟩) k cap)) (some (.v (.int .i64 z))) none=some (.v (.slice (some ⟨g,off+i * sz,none⟩) (k - i) (cap - i))):=by
 subst hz
 obtain ⟨hu,ie,hie,rfl⟩:=qO hs
 obtain ⟨ii,d,h1,h2,h3,_,_,_⟩:=qZ hie
 have h4:¬ cap=i:=by omega
 have h5:i≤k:=by omega
 simp[kBU,optA,res,Instr.sliceAt,Instr.slice,Instr.sliceBounds,Instr.sliceBound,asIntOf,kY,underlying,hu,sizeOf,typeInfo,h1,h3,h4,h5,Addr.add]
omit [Tabs] in
theorem cellsOf_slc {A:Option Addr} {k cap:Nat}:cellsOf (.v (.slice A k cap))=some [.v (.slice A k cap)]:=rfl
omit [Tabs] in
theorem upd_twice {α:Type} {f:Nat→α} {o:Nat} {x y:α}:upd (upd f o x) o y=upd f o y:=by
 funext j;simp only[upd];split<;>rfl
theorem Rel.liveNil {σ:AS} (hr:Rel w0 F0 Fp X G w a σ) {o k sz e:Nat} {cs:List AV} (hob:σ.m.h o=some (.cells cs)) (hk:cs[k]? = some (.sl 1 sz [])) (hsz:0 < sz) :
    Rel w0 F0 Fp X (G.newNil none e sz) w a ⟨σ.n,σ.t,σ.hd,⟨σ.m.nh,upd σ.m.h o (some (.cells (cs.set k (.sl σ.m.nl sz [])))),σ.m.nl+1,upd σ.m.fm σ.m.nl σ.m.nl,upd σ.m.lv σ.m.nl (some (0,e)),σ.m.mu⟩⟩:=by
 have hg:=GLe.newNil G w none e sz
 have hm:=hr.mm.newNil none e sz hsz
 refine ⟨hr.sz,hr.df,fun i=>(hr.tm i).mono hg,fun j i=>(hr.hd j i).mono hg,?_,hr.tb⟩
 refine { hm with nh:=hm.nh,nl:=hm.nl,fm:=hm.fm,lv:=hm.lv,obj:=?_,mu:=hm.mu }
 intro o' x hx
 simp only[upd]at hx
 split at hx
 ·rename_i he
  subst he
  obtain rfl:=Option.some.inj hx
  obtain ⟨h1,h2⟩:=hm.obj o' (.cells cs) hob
  refine ⟨h1,?_⟩
  cases h2 with
  | cells _ arr ee hh hs hc =>
    refine .cells _ arr ee hh (by rw[hs,List.length_set]) fun j hj=>?_
    rw[List.length_set]at hj
    rw[kEW hj]
    split
    ·rename_i hjk
     subst hjk
     have h3:=hc j hj
     rw[List.getD_eq_getElem?_getD,hk,Option.getD_some]at h3
     generalize arr.getD j default=v at h3
     cases h3 with
     | nil =>
       have h4:=newNil_VR hr.mm none e sz
       rw[hr.mm.nl]at h4
       exact h4
     | sl A cap _ _ _ g off us hl h1' hcap hlive hA hsz2 h0 hcell hh=>exact absurd rfl h1'
    ·exact hc j hj
 ·exact hm.obj o' x hx
theorem vcCall_live {Γ:Env} {f:FuncId} (hC:Γ.get f=none) (hf:FnOk P f) {as:List AV} {d:Option Nat} {K:AS→Prop} {mu:Bool} {o k sz:Nat} (e:Nat) {cs:List AV} (hob:h o=some (.cells cs)) (hk:cs[k]? = some (.sl 1 sz [])) (hsz:0 < sz)
    (hv:kS P Γ false ⟨n,t,hd,⟨nh,upd h o (some (.cells (cs.set k (.sl nl sz [])))),nl+1,upd fm nl nl,upd lv nl (some (0,e)),mu⟩⟩ f as d K):kS P Γ false ⟨n,t,hd,⟨nh,h,nl,fm,lv,mu⟩⟩ f as d K:=by
 have hR:RawC P ⟨n,t,hd,⟨nh,h,nl,fm,lv,mu⟩⟩ f as d K:=⟨hf,fun w0 F0 Fp X G w a vs hr hlen hvs=>by
  have hr2:=hr.liveNil (e:=e) hob hk hsz
  exact (kCH hC hv hr2 hlen fun j=>(hvs j).mono (GLe.newNil G w none e sz)).2⟩
 exact jH hC hR
theorem vcCall_dead {Γ:Env} {f:FuncId} (hC:Γ.get f=none) (hf:FnOk P f) {as bs:List AV} {d:Option Nat} {K:AS→Prop} {mu:Bool} (ts:List Nat) (hlen:bs.length=as.length) (hbs:∀ k,bs.getD k .any=as.getD k .any∨(bs.getD k .any=(as.getD k .any).er∧∀ l∈(as.getD k .any).tags,2≤l→l∈ts))
    (hv:kS P Γ false ⟨n,t,hd,⟨nh,h,nl,fm,kill fm ts lv,mu⟩⟩ f bs d K):kS P Γ false ⟨n,t,hd,⟨nh,h,nl,fm,lv,mu⟩⟩ f as d K:=by
 have hR:RawC P ⟨n,t,hd,⟨nh,h,nl,fm,lv,mu⟩⟩ f as d K:=⟨hf,fun w0 F0 Fp X G w a vs hr hl hvs=>by
  have hr2:=hr.killed ts
  refine (kCH hC hv hr2 (hl.trans hlen.symm) fun j=>?_).2
  rcases hbs j with h1|⟨h1,h2⟩
  ·rw[h1];exact (hvs j).mono (GLe.killed G w ts)
  ·rw[h1];exact (hvs j).er hr.mm h2⟩
 exact jH hC hR
theorem vcCall_deadO {Γ:Env} {f:FuncId} (hC:Γ.get f=none) (hf:FnOk P f) {as:List AV} {d:Option Nat} {K:AS→Prop} {mu:Bool} {o k sz lt:Nat} {xs cs:List AV} (hob:h o=some (.cells cs)) (hk:cs[k]? = some (.sl lt sz xs))
    (hv:kS P Γ false ⟨n,t,hd,⟨nh,upd h o (some (.cells (cs.set k (.sl 0 sz xs)))),nl,fm,kill fm [lt] lv,mu⟩⟩ f as d K):kS P Γ false ⟨n,t,hd,⟨nh,h,nl,fm,lv,mu⟩⟩ f as d K:=by
 have hR:RawC P ⟨n,t,hd,⟨nh,h,nl,fm,lv,mu⟩⟩ f as d K:=⟨hf,fun w0 F0 Fp X G w a vs hr hl hvs=>by
  have hr2:=hr.killed [lt]
  have hr3:Rel w0 F0 Fp X (G.killed [lt]) w a ⟨n,t,hd,⟨nh,upd h o (some (.cells (cs.set k (.sl 0 sz xs)))),nl,fm,kill fm [lt] lv,mu⟩⟩:=by
   refine ⟨hr2.sz,hr2.df,hr2.tm,hr2.hd,?_,hr2.tb⟩
   have hm:=hr2.mm
   refine { hm with nh:=hm.nh,nl:=hm.nl,fm:=hm.fm,lv:=hm.lv,obj:=?_,mu:=hm.mu }
   intro o' x hx
   simp only[upd]at hx
   split at hx
   ·rename_i he
    subst he
    obtain rfl:=Option.some.inj hx
    obtain ⟨h1,h2⟩:=hr.mm.obj o' (.cells cs) hob
    refine ⟨h1,?_⟩
    cases h2 with
    | cells _ arr ee hh hs hc =>
      refine .cells _ arr ee hh (by rw[hs,List.length_set]) fun j hj=>?_
      rw[List.length_set]at hj
      rw[kEW hj]
      split
      ·rename_i hjk
       subst hjk
       have h3:=hc j hj
       rw[List.getD_eq_getElem?_getD,hk,Option.getD_some]at h3
       exact h3.er hr.mm (ts:=[lt]) fun l hl _=>by
        simp only[AV.tags]at hl
        split at hl
        ·exact hl
        ·simp at hl
      ·exact (hc j hj).mono (GLe.killed G w [lt])
   ·exact hm.obj o' x hx
  exact (kCH hC hv hr3 hl fun j=>(hvs j).mono (GLe.killed G w [lt])).2⟩
 exact jH hC hR
theorem Weak.trans {σ1 σ2 σ3:AS} (h1:Weak σ1 σ2) (h2:Weak σ2 σ3):Weak σ1 σ3:=fun w0 F0 Fp X G w a hr=>by
 obtain ⟨G',h3⟩:=h1 _ _ _ _ _ _ _ hr
 exact h2 _ _ _ _ _ _ _ h3
theorem weak_put {m:AM} (i:Nat) (b:AV) (hv:∀ (G:Gh) (w:World) (v:Value),G.lv=m.lv→VR G w v (t i)→VR G w v b):Weak ⟨n,t,hd,m⟩ ⟨n,upd t i b,hd,m⟩:=fun w0 F0 Fp X G w a hr=>by
 refine ⟨G,hr.sz,hr.df,fun j=>?_,hr.hd,hr.mm,hr.tb⟩
 show VR G w _ (upd t i b j)
 simp only[upd]
 split
 ·rename_i hj;subst hj;exact hv G w _ hr.mm.lv (hr.tm j)
 ·exact hr.tm j
omit [Tabs] in
theorem VR.size0 {G:Gh} {w:World} {v:Value} {sz:Nat} (sz':Nat) (h:VR G w v (.sl 0 sz [])) (h0:G.lv 0=none):VR G w v (.sl 0 sz' []):=by
 cases h with
 | sl A cap _ _ _ g off us hl h1 hcap hlive hA hsz h0' hcell hh =>
   exact .sl A cap 0 sz' [] g off us hl h1 hcap (fun n e hn=>by rw[h0]at hn;cases hn) (fun h=>absurd rfl h) (by simp) (fun h=>absurd rfl h) (by simp) (by simp)
omit [Tabs] in
theorem VR.row0 {G:Gh} {w:World} {v:Value} {l sz:Nat} (sz':Nat) (h0:G.lv 0=none) (h:VR G w v (.sl l 1 [.sl 0 sz []])):VR G w v (.sl l 1 [.sl 0 sz' []]):=by
 generalize hx:[AV.sl 0 sz []]=xs at h
 cases h with
 | nil=>cases hx
 | sl A cap _ _ _ g off us hl h1 hcap hlive hA hsz h0' hcell hh =>
   subst hx
   refine .sl A cap l 1 [.sl 0 sz' []] g off us hl h1 hcap hlive (fun _=>hA (by simp)) (fun x hx=>?_) (fun _=>by omega) hcell fun k hk=>?_
   ·rw[List.mem_singleton]at hx
    subst hx;exact ⟨rfl,rfl⟩
   ·have hk0:k=0:=by simp at hk;omega
    subst hk0
    exact VR.size0 sz' (hh 0 hk) h0
end
end Go.Rw
end
