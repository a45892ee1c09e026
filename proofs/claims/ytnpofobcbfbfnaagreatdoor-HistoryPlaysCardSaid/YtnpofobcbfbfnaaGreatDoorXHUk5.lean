/-
 The document's transaction on a tree. What the acts did,in the order of the IDs. Plain. Library functions' bodies at this dump,compared by the kernel: slices.SortFunc,cmp.Compare. The order of what was done: by ID. effect.Of,up to the sort. An edit behind another one,unit by unit and piece by piece. Plain. xform.Over,walked. What an edit behind another one does. Plain. effect: own,Get,behind,Over. ComposeAsks answers true. ComposeDoes answers true. XformMeets answers true. The document's Over. EffectSees answers true. How much is given;lists of what was done,the document's and the program's. Lists of what was done: the document's and the program's. effect.Same. The document's SameOnes. EffectKeeps answers true. rebase: why an act clashes;an edit behind what was done. rebase: a transaction behind what was done. rebase.Over. What the acts did,ID by ID. Plain. Two transactions with nothing in common. Plain. What the document fixes of rebase. A transaction behind commits. History,plainly: what is added,what is kept;the law of HistoryTrims. Plain. How much a tree is;is it qY;whose kT a transaction touches. How much a message is,where it bears commits alone. The program's tree: a map of kT,by their IDs. What the map has. The program's tree: new ones;looking at kT. Library functions' bodies at this dump,compared by the kernel: maps.Keys,slices.Sorted,slices.Sort,maps.Clone. The program's tree: all its kT;from a node to the root;how many code points.
-/
import Derived.Test.YtnpofobcbfbfnaaGreatDoorXHUk1e
import Derived.Test.YtnpofobcbfbfnaaGreatDoorXHSh
import Derived.Test.YtnpofobcbfbfnaaGreatDoorXHTi
import Derived.Shelf.SlLaysF0
import Derived.Shelf.SlicesG.Cmp
import Derived.Test.YtnpofobcbfbfnaaGreatDoorRwK
import Derived.Test.YtnpofobcbfbfnaaGreatDoorXHUo2
import Derived.Test.YtnpofobcbfbfnaaGreatDoorXHAp0
import Derived.Test.YtnpofobcbfbfnaaGreatDoorRwO
import Derived.Shelf.SlIterI.Sorted
import Derived.Shelf.SlIterI.Nil
import Derived.Shelf.SlMaps.Clone
import Derived.Shelf.SortM.Plain
import Derived.Shelf.SortM.SortNone
import Derived.Test.YtnpofobcbfbfnaaGreatDoorRwP
set_option linter.unusedSimpArgs false
set_option linter.unusedVariables false
set_option linter.defProp false
set_option linter.unusedSectionVars false

set_option maxRecDepth 100000
-- HUk5
namespace Go.Proofs
open Go Go.Rw
theorem doN_ok {l:List Nd} {a:Ac} (h:okT l):okT (doN l a).1:=by
 obtain ⟨hl,ht⟩:=h
 have hset:∀ (k:Nat) (x:Nd),x.text.length≤1099511627776→okT (l.set k x):=fun k x hx=>⟨by rw[List.length_set];exact hl,fun y hy=>by
  rcases List.mem_or_eq_of_mem_set hy with h|h
  ·exact ht y h
  ·rw[h];exact hx⟩
 have hx:(l.getD (ndx a.id l) zO).text.length≤1099511627776:=by
  rw[List.getD_eq_getElem?_getD]
  cases h:l[ndx a.id l]? with
  | none=>simp [zO]
  | some x=>exact ht x (List.mem_of_getElem? h)
 have hd:=kHK (l.getD (ndx a.id l) zO).text a.ops
 unfold doN
 simp only
 split
 ·split
  ·exact ⟨hl,ht⟩
  ·split
   ·exact ⟨hl,ht⟩
   ·split
    ·exact ⟨hl,ht⟩
    ·split
     ·exact ⟨hl,ht⟩
     ·refine ⟨?_,fun y hy=>?_⟩
      ·simp only[List.length_append,List.length_cons,List.length_take,List.length_drop];omega
      ·rcases List.mem_append.1 hy with h|h
       ·exact ht y (List.mem_of_mem_take h)
       ·rcases List.mem_cons.1 h with h|h
        ·rw[h];simp
        ·exact ht y (List.mem_of_mem_drop h)
 ·split
  ·split
   ·exact ⟨hl,ht⟩
   ·split
    ·exact ⟨hl,ht⟩
    ·refine ⟨?_,fun y hy=>?_⟩
     ·simp only[List.length_append,List.length_take,List.length_drop];omega
     ·rcases List.mem_append.1 hy with h|h
      ·exact ht y (List.mem_of_mem_take h)
      ·exact ht y (List.mem_of_mem_drop h)
  ·split
   ·split
    ·exact ⟨hl,ht⟩
    ·split
     ·exact ⟨hl,ht⟩
     ·split
      ·exact ⟨hl,ht⟩
      ·exact hset _ _ hx
   ·split
    ·split
     ·exact ⟨hl,ht⟩
     ·split
      ·exact ⟨hl,ht⟩
      ·split
       ·exact ⟨hl,ht⟩
       ·split
        ·exact ⟨hl,ht⟩
        ·exact hset _ _ (by simp only;omega)
    ·exact ⟨hl,ht⟩
abbrev kFK:Con where
 ι:={ p:List Nd×List Ac // okT p.1∧p.2.length≤1000000∧∀ a∈p.2,okA a }
 args:=fun p=>[.sl 0 5 (kT p.1.1),.sl 0 6 (acts p.1.2)]
 post:=fun p r=>r = .tup [.sl 0 5 (kT (allN p.1.1 p.1.2).now),.v (.int .i64 (allN p.1.1 p.1.2).n),.v (.int .i64 (allN p.1.1 p.1.2).e)]
theorem rdoall_good:Rw.Good Tryz.prog 18 kFK:=by
 have hΓ:kK Tryz.prog [(36,kAg),(37,doAcon)]:=(kG rtcheck_good (kG doA_good kI))
 refine kZ (nn:=39) hΓ Tryz.func18 (by kernel_rfl) rfl (show Tryz.f18.results.toList=[.tmp 4,.tmp 5,.tmp 6] from rfl) (fun _=>rfl) (fun x=>by simp[AV.erL,AV.er]) ?_
 rintro ⟨⟨t,l⟩,ht,hl,ho⟩
 simp only at ht hl ho
 simp only[aR,seval]
 refine kP (C:=kAg) (i:=⟨l,hl,ho⟩) (by simp[kC]) rfl rfl rfl (by simp[AV.erL,AV.er]) (fun _ h=>h) rfl ?_
 by_cases h1:txnE l=0
 case neg =>
  have e0:allN t l=⟨[],-1,txnE l⟩:=by rw[allN,if_pos h1]
  simp only[aR,seval,h1,e0]
  rfl
 have e0:allN t l=allF t l 0:=by rw[allN,if_neg (by simpa using h1)]
 simp only[aR,seval,h1]
 obtain ⟨St,hSt⟩:∃ St:{ p:List Nd×Nat // p.2≤l.length∧okT p.1∧allF p.1 (l.drop p.2) p.2=allF t l 0 }→AS,∀ p,St p=AS.of 39 [(0,.sl 0 5 (kT p.1.1)),(1,.sl 0 6 (acts l)),(8,.v (.int .i64 p.1.2))] [] []:=⟨_,fun _=>rfl⟩
 refine qE hΓ St (fun p=>l.length - p.1.2) ⟨(t,0),by simp,ht,rfl⟩ (by rw[hSt];refine kO [] [] ?_;simp only[aR,seval]<;>(and_intros<;>first|rfl|omega|trivial)) ?_
 rintro ⟨⟨u,i⟩,hi,hu,hf⟩
 simp only at hi hu hf
 rw[hSt]
 simp only
 simp only[aR,seval,k9]
 (with_reducible first|refine kE (fun h=>?_) (fun h=>?_)|refine kF (fun h=>?_) (fun h=>?_))
 ·have hlt:i < l.length:=by omega
  have e1:=z6 l hlt
  have ha:=ho _ (List.getElem_mem hlt)
  rw[List.drop_eq_getElem_cons hlt,allF]at hf
  generalize l[i]=a at *
  simp only[aR,seval,h,e1,k9,aA]
  repeat (with_reducible refine And.intro ?_ ?_;focus first|omega|kernel_rfl)
  refine jH (C:=doAcon) (i:=⟨(u,a),hu,ha⟩) (r:=.tup [.sl 0 5 (kT (doN u a).1),.v (.int .i64 (doN u a).2)]) (by simp[kC]) rfl rfl (by simp[AV.erL,AV.er,aA,kDp]) rfl (fun _ h=>h) ?_
  by_cases h2:(doN u a).2=0
  ·rw[if_neg (by simpa using h2)]at hf
   have hok:=doN_ok (a:=a) hu
   simp only[aR,seval,AV.er,AV.erL,h2,wO (n:=(i:Int)+1)]
   refine kN ⟨((doN u a).1,i+1),by simp only;omega,hok,hf⟩ (by simp only;omega) ?_
   rw[hSt];refine kO [] [] ?_
   simp only[aR,seval]<;>(and_intros<;>first|rfl|omega|trivial)
  ·rw[if_pos h2]at hf
   simp only[aR,seval,AV.er,AV.erL,h2,e0,← hf]
   rfl
 ·rw[List.drop_of_length_le (by omega),allF]at hf
  have hil:i=l.length:=by omega
  simp only[aR,seval,h,k9,e0,← hf,hil]
theorem call_doall {Γ:Env} (hf:Γ.get 18=some kFK) {n:Nat} {t:Nat→AV} {hd:Nat→Nat→AV} {nh nl:Nat} {h:Nat→Option AO} {fm:Nat→Nat} {lv:Nat→Option (Nat×Nat)} {mu:Bool} {x:List Nd} {l:List Ac} {xs ys:List AV} {t1 t2:Nat} {d:Option Nat} {K:AS→Prop} (hx:xs=kT x) (hy:ys=acts l) (ht:okT x) (hl:l.length≤1000000) (ho:∀ a∈l,okA a) (h1:t1=0∨2≤t1) (h2:t2=0∨2≤t2)
    (hk:cont ⟨n,t,hd,⟨nh,h,nl,fm,kill fm ((if t1=0 then [] else [t1])++(if t2=0 then [] else [t2])) lv,mu⟩⟩ d (.tup [.sl 0 5 (kT (allN x l).now),.v (.int .i64 (allN x l).n),.v (.int .i64 (allN x l).e)]) K):kS Tryz.prog Γ false ⟨n,t,hd,⟨nh,h,nl,fm,lv,mu⟩⟩ 18 [.sl t1 5 xs,.sl t2 6 ys] d K:=by
 subst hx hy
 refine kG1 (C:=kFK) (i:=⟨(x,l),ht,hl,ho⟩) hf rfl rfl rfl (by simp[AV.erL,AV.er]) (ts:=(if t1=0 then [] else [t1])++(if t2=0 then [] else [t2])) ?_ ?_
 ·have c:∀ t:Nat,(t=0∨2≤t)→(if 2≤t then [t] else [])=(if t=0 then [] else [t]):=fun t ht=>by
    rcases ht with rfl|ht
    ·rfl
    ·rw[if_pos ht,if_neg (by omega)]
  rw[← c t1 h1,← c t2 h2]
  simp[AV.tagsL,AV.tags]
 ·rintro r rfl
  simp only[AV.er,AV.erL]
  exact hk
end Go.Proofs
-- HUe5
namespace Go.Proofs
open Go Go.Rw
end Go.Proofs
-- HUeL
namespace Go.Proofs
open Go.Shelf
end Go.Proofs
-- HUe4
namespace Go.Proofs
open Go Go.Shelf Go.RowKit Go.Lib Go.Sort
end Go.Proofs
-- HUe3
namespace Go.Proofs
open Go Go.Rw
end Go.Proofs
-- HAx1
namespace Go.Proofs
open Go Go.Rw
end Go.Proofs
-- HAx2
namespace Go.Proofs
open Go Go.Rw
end Go.Proofs
-- HAx4
namespace Go.Proofs
open Go Go.Rw
end Go.Proofs
-- HUe6
namespace Go.Proofs
open Go Go.Rw
end Go.Proofs
-- HAw8
namespace Go.Proofs
open Go Go.Rw
end Go.Proofs
-- HAw10
namespace Go.Proofs
open Go Go.Rw
end Go.Proofs
-- HAx5
namespace Go.Proofs
open Go Go.Rw
end Go.Proofs
-- HAx3
namespace Go.Proofs
open Go Go.Rw
end Go.Proofs
-- HUe7
namespace Go.Proofs
open Go Go.Rw
end Go.Proofs
-- HUe8
namespace Go.Proofs
open Go Go.Rw
def wF (m:Int):Int→List (Nat×List Cp)→Int
 | s,[]=>s
 | s,(n,c)::r=>if s≤m then wF m (sumF s [(n:Int),zS m 0 c,3]) r else s
theorem kC6 (m:Int):∀ (l:List Cp) (s:Int),0≤s→s≤1099511627776→0≤zS m s l∧zS m s l≤1099511627776
 | [],s,h,h2=>⟨h,h2⟩
 | c::r,s,h,h2=>by
   rw[zS]
   split
   ·have:=kAQ [(c.t.length:Int),2] (x:=s) ⟨h,h2⟩ (by simp)
    exact kC6 m r _ (by omega) this.2
   ·exact ⟨h,h2⟩
theorem wF_le {m:Int} (hm:m < 1099511627776):∀ (l:List (Nat×List Cp)) {s:Int},0≤s→wF m s l≤m→s+3 * l.length≤m∧∀ p∈l,(p.1:Int)≤m∧zS m 0 p.2≤m
 | [],s,_,h=>by simp only [wF] at h;simp;exact h
 | (n,c)::r,s,hs,h=>by
   simp only[wF]at h
   split at h
   ·rename_i h1
    have hc:=kC6 m c 0 (by omega) (by omega)
    have e:sumF s [(n:Int),zS m 0 c,3]=addI (addI (addI s n) (zS m 0 c)) 3:=rfl
    have h2:0≤addI (addI (addI s n) (zS m 0 c)) 3:=by unfold addI;omega
    rw[e]at h
    obtain ⟨h3,h4⟩:=wF_le hm r h2 h
    have h5:addI (addI (addI s n) (zS m 0 c)) 3≤m:=by omega
    have h6:addI (addI (addI s n) (zS m 0 c)) 3=s+n+zS m 0 c+3:=by unfold addI at h5 ⊢;omega
    refine ⟨by simp only[List.length_cons];omega,fun p hp=>?_⟩
    rcases List.mem_cons.1 hp with rfl|hp
    ·exact ⟨by simp only;omega,by simp only;omega⟩
    ·exact h4 p hp
   ·omega
abbrev wideC (c:List Cp):Prop:=c.length≤9223372036854775807∧∀ x∈c,(-9223372036854775808≤x.n∧x.n≤9223372036854775807)∧x.t.length≤9223372036854775807
abbrev GivenA:={ l:List Ac // l.length≤9223372036854775807∧∀ a∈l,a.nm.length≤9223372036854775807∧wideC a.ops }
def wA (l:List Ac):List (Nat×List Cp):=l.map fun a=>(a.nm.length,a.ops)
theorem wA_cons (a:Ac) (l:List Ac):wA (a::l)=(a.nm.length,a.ops)::wA l:=rfl
abbrev actsCon:Con where
 ι:=GivenA×{ m:Int // 0≤m∧m≤1000000 }
 args:=fun p=>[.sl 0 6 (acts p.1.1),.v (.int .i64 p.2.1)]
 post:=fun p r=>r = .v (.int .i64 (wF p.2.1 0 (wA p.1.1)))
 plain:=true
theorem acts_good:Rw.Good Tryz.prog 15 actsCon:=by
 have hΓ:kK Tryz.prog [(32,kFy),(33,kFV)]:=(kG kEq (kG weigh_good kI))
 refine kZ (nn:=35) hΓ Tryz.func15 (by kernel_rfl) rfl (show Tryz.f15.results.toList=[.tmp 4] from rfl) (fun _=>rfl) (fun x=>by simp[AV.erL,AV.er,j7]) ?_
 rintro ⟨⟨l,hl,hc⟩,⟨m,hm⟩⟩
 simp only[aR,seval,k9]
 obtain ⟨St,hSt⟩:∃ St:{ p:Int×Nat // p.2≤l.length∧(0≤p.1∧p.1≤1099511627776)∧wF m 0 (wA l)=wF m p.1 (wA (l.drop p.2)) }→AS,∀ p,St p=AS.of 35 [(0,.sl 0 6 (acts l)),(1,.v (.int .i64 m)),(5,.v (.int .i64 p.1.1)),(6,.v (.int .i64 p.1.2))] [] []:=⟨_,fun _=>rfl⟩
 refine kFW [(5,[],[])] hΓ St (fun p=>l.length - p.1.2) ⟨(0,0),by omega,by simp only;omega,rfl⟩ (by rw[hSt];refine kO [] [] ?_;simp only[aR,seval]<;>(and_intros<;>first|rfl|omega|trivial)) ?_
 rintro ⟨⟨s,i⟩,hi,hs,hb⟩
 simp only at hi hs hb
 rw[hSt]
 simp only
 simp only[aR,seval,kR,k9]
 (with_reducible first|refine kE (fun h=>?_) (fun h=>?_)|refine kF (fun h=>?_) (fun h=>?_))
 ·have hlt:i < l.length:=by omega
  have hci:=hc l[i] (List.getElem_mem hlt)
  have e1:=z6 l hlt
  rw[List.drop_eq_getElem_cons hlt,wA_cons,wF]at hb
  generalize l[i]=a at *
  obtain ⟨k,id,par,nm,dir,ops⟩:=a
  obtain ⟨hn,ho,hoc⟩:=hci
  simp only at hn ho hoc hb e1
  simp (disch:=omega) only[aR,seval,kD,kR,h]
  (with_reducible first|refine kE (fun h2=>?_) (fun h2=>?_)|refine kF (fun h2=>?_) (fun h2=>?_))
  ·simp (disch:=omega) only[aR,seval,kD,kR,h2,e1,aA,k9]
   repeat (with_reducible refine And.intro ?_ ?_;focus first|omega|kernel_rfl)
   refine call_weigh (by simp[kC]) rfl ho (fun c h=>(hoc c h).2) hm ?_
   have hcb:=kC6 m ops 0 (by omega) (by omega)
   simp (disch:=omega) only[aR,seval,kD,kR]
   refine kDk (by simp[kC]) (y:=[(nm.length:Int),zS m 0 ops,3]) rfl hs (by simp;omega) (by simp) ?_
   simp (disch:=omega) only[aR,seval,kD,kR]
   rw[if_pos h2]at hb
   have hr:=kAQ [(nm.length:Int),zS m 0 ops,3] hs (by simp;omega)
   refine kN ⟨(sumF s [(nm.length:Int),zS m 0 ops,3],i+1),by simp only;omega,by simp only;omega,hb⟩ (by simp only;omega) ?_
   rw[hSt];refine kO [] [] ?_
   simp only[aR,seval]<;>(and_intros<;>first|rfl|omega|trivial)
  ·simp (disch:=omega) only[aR,seval,kD,kR,h2]
   rw[hb,if_neg h2]
 ·simp only[aR,seval,kR,h]
  rw[List.drop_of_length_le (by omega)]at hb
  rw[hb];rfl
theorem call_acts {Γ:Env} (hf:Γ.get 15=some actsCon) {σ:AS} {dr:Bool} {l:List Ac} {m:Int} {ys:List AV} {d:Option Nat} {K:AS→Prop} (hy:ys=acts l) (h1:l.length≤9223372036854775807) (h2:∀ a∈l,a.nm.length≤9223372036854775807∧wideC a.ops) (hm:0≤m∧m≤1000000)
    (hk:cont σ d (.v (.int .i64 (wF m 0 (wA l)))) K):kS Tryz.prog Γ dr σ 15 [.sl 0 6 ys,.v (.int .i64 m)] d K:=by
 subst hy
 exact kP (C:=actsCon) (i:=(⟨l,h1,h2⟩,⟨m,hm⟩)) hf rfl rfl rfl (by simp[AV.erL,AV.er,j7]) (fun _ h=>h) rfl hk
theorem acts_ok {l:List Ac} {m:Int} (hm:m≤1000000) (h2:∀ a∈l,a.nm.length≤9223372036854775807∧wideC a.ops) (h:wF m 0 (wA l)≤m):l.length≤1000000∧∀ a∈l,okL a.ops:=by
 obtain ⟨h3,h4⟩:=wF_le (by omega) (wA l) (Int.le_refl 0) h
 simp only[wA,List.length_map]at h3
 refine ⟨by omega,fun a ha=>(weigh_ok hm (h2 a ha).2.2 (h4 (a.nm.length,a.ops) (List.mem_map.2 ⟨a,ha,rfl⟩)).2).1⟩
end Go.Proofs
-- HUe9
namespace Go.Proofs
open Go Go.Rw
end Go.Proofs
-- HUe10
namespace Go.Proofs
open Go Go.Rw
end Go.Proofs
-- HUe13
namespace Go.Proofs
open Go Go.Rw
end Go.Proofs
-- HUe14
namespace Go.Proofs
open Go Go.Rw
end Go.Proofs
-- HUn4
namespace Go.Proofs
open Go Go.Rw
end Go.Proofs
-- HUn5
namespace Go.Proofs
open Go Go.Rw
end Go.Proofs
-- HUn6
namespace Go.Proofs
open Go Go.Rw
structure Reb where
 out:List Ac
 left:List On
 e:Int
 deriving DecidableEq
theorem call_tcheck {Γ:Env} (hf:Γ.get 56=some kAg) {n:Nat} {t:Nat→AV} {hd:Nat→Nat→AV} {nh nl:Nat} {h:Nat→Option AO} {fm:Nat→Nat} {lv:Nat→Option (Nat×Nat)} {mu:Bool} {l:List Ac} {t1:Nat} {ys:List AV} {d:Option Nat} {K:AS→Prop} (hy:ys=acts l) (hl:l.length≤1000000) (ho:∀ a∈l,okA a)
    (hk:cont ⟨n,t,hd,⟨nh,h,nl,fm,lv,mu⟩⟩ d (.v (.int .i64 (txnE l))) K):kS Tryz.prog Γ false ⟨n,t,hd,⟨nh,h,nl,fm,lv,mu⟩⟩ 56 [.sl t1 6 ys] d K:=by
 subst hy
 exact kP (C:=kAg) (i:=⟨l,hl,ho⟩) hf rfl rfl rfl (by simp[AV.erL,AV.er,j7]) (fun _ h=>h) rfl hk
end Go.Proofs
-- HUe11
namespace Go.Proofs
open Go Go.Rw
end Go.Proofs
-- HUk8
namespace Go.Proofs
open Go Go.Rw
def srtN (l:List Nd):Prop:=(l.map Nd.id).Pairwise (·< ·)
def atI (i:Int):List Nd→Option Nd
 | []=>none
 | x::l=>if x.id=i then some x else atI i l
theorem at_ndx (i:Int):∀ l:List Nd,atI i l=if ndx i l < l.length then some (l.getD (ndx i l) zO) else none
 | []=>by simp [atI,ndx]
 | x::l=>by
   rw[atI,ndx,at_ndx i l]
   by_cases h:x.id=i
   ·simp[h]
   ·simp only[if_neg h,List.length_cons,Nat.add_lt_add_iff_right,List.getD_cons_succ]
theorem at_none {i:Int}:∀ {l:List Nd},(∀ x∈l,x.id≠i)→atI i l=none
 | [],_=>rfl
 | x::l,h=>by rw [atI,if_neg (h x (List.mem_cons_self ..)),at_none fun y hy=>h y (List.mem_cons_of_mem _ hy)]
theorem at_some {i:Int} {x:Nd}:∀ {l:List Nd},atI i l=some x→x∈l∧x.id=i
 | [],h=>by simp [atI] at h
 | y::l,h=>by
   rw[atI]at h
   split at h
   ·rename_i hy;cases h;exact ⟨List.mem_cons_self ..,hy⟩
   ·exact ⟨List.mem_cons_of_mem _ (at_some h).1,(at_some h).2⟩
theorem srt_cons {x:Nd} {l:List Nd}:srtN (x::l)↔(∀ y∈l,x.id < y.id)∧srtN l:=by
 simp only[srtN,List.map_cons,List.pairwise_cons,List.mem_map,forall_exists_index,and_imp,forall_apply_eq_imp_iff₂]
def insN (x:Nd):List Nd→List Nd
 | []=>[x]
 | y::l=>if y.id < x.id then y::insN x l else x::y::l
theorem ins_eq (x:Nd):∀ l:List Nd,l.take (atN x.id l)++x::l.drop (atN x.id l)=insN x l
 | []=>rfl
 | y::l=>by
   rw[atN,insN]
   split
   ·rw[List.take_succ_cons,List.drop_succ_cons,List.cons_append,ins_eq x l]
   ·simp
theorem ins_mem (x y:Nd):∀ l:List Nd,y∈insN x l→y=x∨y∈l
 | [],h=>.inl (by simpa [insN] using h)
 | z::l,h=>by
   rw[insN]at h
   split at h
   ·rcases List.mem_cons.1 h with h|h
    ·exact .inr (by simp[h])
    ·rcases ins_mem x y l h with h|h
     ·exact .inl h
     ·exact .inr (List.mem_cons_of_mem _ h)
   ·rcases List.mem_cons.1 h with h|h
    ·exact .inl h
    ·exact .inr h
theorem ins_srt (x:Nd):∀ l:List Nd,srtN l→(∀ y∈l,y.id≠x.id)→srtN (insN x l)
 | [],_,_=>by simp [insN,srtN]
 | y::l,h,hn=>by
   obtain ⟨h1,h2⟩:=srt_cons.1 h
   have hy:=hn y (List.mem_cons_self ..)
   rw[insN]
   split
   ·rename_i hlt
    refine srt_cons.2 ⟨fun z hz=>?_,ins_srt x l h2 fun z hz=>hn z (List.mem_cons_of_mem _ hz)⟩
    rcases ins_mem x z l hz with rfl|hz
    ·exact hlt
    ·exact h1 z hz
   ·refine srt_cons.2 ⟨fun z hz=>?_,h⟩
    rcases List.mem_cons.1 hz with rfl|hz
    ·omega
    ·have:=h1 z hz;omega
theorem ins_at (x:Nd) (i:Int):∀ l:List Nd,(∀ y∈l,y.id≠x.id)→atI i (insN x l)=if i=x.id then some x else atI i l
 | [],_=>by
   by_cases h:i=x.id
   ·rw[if_pos h,insN,atI,if_pos h.symm]
   ·rw[if_neg h,insN];simp[atI,Ne.symm h]
 | y::l,hn=>by
   have hy:=hn y (List.mem_cons_self ..)
   have ih:=ins_at x i l fun z hz=>hn z (List.mem_cons_of_mem _ hz)
   rw[insN]
   split
   ·rw[atI,ih,atI]
    by_cases h:i=x.id
    ·rw[if_neg (by rw[h];exact hy),if_pos h,if_pos h]
    ·rw[if_neg h,if_neg h]
   ·rw[atI]
    by_cases h:i=x.id
    ·rw[if_pos h.symm,if_pos h]
    ·rw[if_neg (Ne.symm h),if_neg h]
def delN (i:Int):List Nd→List Nd
 | []=>[]
 | x::l=>if x.id=i then l else x::delN i l
theorem del_eq (i:Int):∀ l:List Nd,l.take (ndx i l)++l.drop (ndx i l+1)=delN i l
 | []=>rfl
 | x::l=>by
   rw[ndx,delN]
   split
   ·simp
   ·rw[List.take_succ_cons,List.drop_succ_cons,List.cons_append,del_eq i l]
theorem del_mem (i:Int) (y:Nd):∀ l:List Nd,y∈delN i l→y∈l
 | [],h=>h
 | x::l,h=>by
   rw[delN]at h
   split at h
   ·exact List.mem_cons_of_mem _ h
   ·rcases List.mem_cons.1 h with h|h
    ·simp[h]
    ·exact List.mem_cons_of_mem _ (del_mem i y l h)
theorem del_srt (i:Int):∀ l:List Nd,srtN l→srtN (delN i l)
 | [],h=>h
 | x::l,h=>by
   obtain ⟨h1,h2⟩:=srt_cons.1 h
   rw[delN]
   split
   ·exact h2
   ·exact srt_cons.2 ⟨fun y hy=>h1 y (del_mem i y l hy),del_srt i l h2⟩
theorem del_at (k i:Int):∀ l:List Nd,srtN l→atI i (delN k l)=if i=k then none else atI i l
 | [],h=>by simp [delN,atI]
 | x::l,h=>by
   obtain ⟨h1,h2⟩:=srt_cons.1 h
   rw[delN]
   by_cases hx:x.id=k
   ·rw[if_pos hx,atI]
    by_cases hi:i=k
    ·rw[if_pos hi,at_none fun y hy=>by have:=h1 y hy;omega]
    ·rw[if_neg hi,if_neg (by omega)]
   ·rw[if_neg hx,atI,atI,del_at k i l h2]
    by_cases hi:i=k
    ·rw[if_neg (by omega),if_pos hi,if_pos hi]
    ·rw[if_neg hi,if_neg hi]
theorem set_srt {i:Int} {y:Nd} (hy:y.id=i):∀ l:List Nd,(l.set (ndx i l) y).map Nd.id=l.map Nd.id
 | []=>rfl
 | x::l=>by
   rw[ndx]
   split
   ·rename_i h;simp[hy,h]
   ·rw[List.set_cons_succ,List.map_cons,set_srt hy l,List.map_cons]
theorem set_at {k:Int} {y:Nd} (hy:y.id=k) (i:Int):∀ l:List Nd,ndx k l < l.length→atI i (l.set (ndx k l) y)=if i=k then some y else atI i l
 | [],h=>by simp [ndx] at h
 | x::l,h=>by
   rw[ndx]at h ⊢
   by_cases hx:x.id=k
   ·rw[if_pos hx,List.set_cons_zero,atI,atI]
    by_cases hi:i=k
    ·rw[if_pos hi,if_pos (by omega)]
    ·rw[if_neg hi,if_neg (by omega),if_neg (by omega)]
   ·rw[if_neg hx]at h ⊢
    rw[List.set_cons_succ,atI,atI,set_at hy i l (by simpa using h)]
    by_cases hi:i=k
    ·rw[if_neg (by omega),if_pos hi,if_pos hi]
    ·rw[if_neg hi,if_neg hi]
def kDT (a:Ac) (o:Option Nd):Option Nd :=
 if a.k=1 then some ⟨a.id,a.par,a.nm,a.dir,[]⟩ else if a.k=2 then none
 else if a.k=3 then o.map fun x=>⟨x.id,a.par,a.nm,x.dir,x.text⟩ else o.map fun x=>⟨x.id,x.par,x.nm,x.dir,zL x.text a.ops⟩
theorem kHH {l:List Nd} {a:Ac} (h:(doN l a).2=0) (hs:srtN l):srtN (doN l a).1∧∀ i,atI i (doN l a).1=if i=a.id then kDT a (atI i l) else atI i l:=by
 have hid:ndx a.id l < l.length→(l.getD (ndx a.id l) zO).id=a.id:=fun hl=>by
  rw[List.getD_eq_getElem?_getD,List.getElem?_eq_getElem hl];exact ndx_get a.id l hl
 have hset:∀ (y:Nd) (f:Nd→Nd),ndx a.id l < l.length→y=f (l.getD (ndx a.id l) zO)→(∀ x,(f x).id=x.id)→srtN (l.set (ndx a.id l) y)∧∀ i,atI i (l.set (ndx a.id l) y)=if i=a.id then (atI i l).map f else atI i l:=fun y f hl hy hf=>by
  have e:y.id=a.id:=by rw[hy,hf,hid hl]
  refine ⟨by rw[srtN,set_srt e];exact hs,fun i=>?_⟩
  rw[set_at e i l hl]
  by_cases hi:i=a.id
  ·rw[if_pos hi,if_pos hi,hi,at_ndx,if_pos hl,hy];rfl
  ·rw[if_neg hi,if_neg hi]
 unfold doN at h ⊢
 simp only at h ⊢
 by_cases k1:a.k=1
 ·simp only[k1,if_true]at h ⊢
  by_cases c1:a.id < 1∨a.id > 1099511627776∨qG a.nm=false
  ·rw[if_pos c1]at h;simp at h
  rw[if_neg c1]at h ⊢
  by_cases c2:ndx a.id l < l.length
  ·rw[if_pos c2]at h;simp at h
  rw[if_neg c2]at h ⊢
  by_cases c3:zF l a.par a.nm 0≠0
  ·rw[if_pos c3]at h;exact absurd h c3
  rw[if_neg c3]at h ⊢
  by_cases c4:l.length ≥ 100
  ·rw[if_pos c4]at h;simp at h
  rw[if_neg c4]
  have hn:∀ y∈l,y.id≠a.id:=fun y hy e=>c2 ((ndx_mem a.id l).2 ⟨y,hy,e⟩)
  have e1:=ins_eq ⟨a.id,a.par,a.nm,a.dir,[]⟩ l
  simp only at e1 ⊢
  rw[e1]
  refine ⟨ins_srt _ l hs hn,fun i=>?_⟩
  rw[ins_at _ i l hn]
  simp only[kDT,k1,if_true]
 simp only[k1,if_false]at h ⊢
 by_cases k2:a.k=2
 ·simp only[k2,if_true]at h ⊢
  by_cases c1:¬ ndx a.id l < l.length
  ·rw[if_pos c1]at h;simp at h
  rw[if_neg c1]at h ⊢
  by_cases c2:(l.any fun y=>decide (y.par=a.id))=true
  ·rw[if_pos c2]at h;simp at h
  rw[if_neg c2]
  simp only
  rw[del_eq]
  refine ⟨del_srt _ l hs,fun i=>?_⟩
  rw[del_at _ i l hs]
  simp[kDT,k2]
 simp only[k2,if_false]at h ⊢
 by_cases k3:a.k=3
 ·simp only[k3,if_true]at h ⊢
  by_cases c1:qG a.nm=false
  ·rw[if_pos c1]at h;simp at h
  rw[if_neg c1]at h ⊢
  by_cases c2:¬ ndx a.id l < l.length
  ·rw[if_pos c2]at h;simp at h
  rw[if_neg c2]at h ⊢
  by_cases c3:zF l a.par a.nm a.id≠0
  ·rw[if_pos c3]at h;exact absurd h c3
  rw[if_neg c3]
  have:=hset _ (fun x=>⟨x.id,a.par,a.nm,x.dir,x.text⟩) (Decidable.not_not.1 c2) rfl (fun _=>rfl)
  simpa [kDT,k3] using this
 simp only[k3,if_false]at h ⊢
 by_cases k4:a.k=4
 ·simp only[k4,if_true]at h ⊢
  by_cases c2:¬ ndx a.id l < l.length
  ·rw[if_pos c2]at h;simp at h
  rw[if_neg c2]at h ⊢
  by_cases c1:(l.getD (ndx a.id l) zO).dir=true
  ·rw[if_pos c1]at h;simp at h
  rw[if_neg c1]at h ⊢
  by_cases c3:errI (l.getD (ndx a.id l) zO).text a.ops≠0
  ·rw[if_pos c3]at h;exact absurd h c3
  rw[if_neg c3]at h ⊢
  split at h
  ·simp at h
  rename_i c5
  rw[if_neg c5]
  have:=hset _ (fun x=>⟨x.id,x.par,x.nm,x.dir,zL x.text a.ops⟩) (Decidable.not_not.1 c2) rfl (fun _=>rfl)
  simpa [kDT,k4] using this
 ·simp only[k4,if_false]at h
  simp at h
end Go.Proofs
-- HUn7
namespace Go.Proofs
open Go Go.Rw
end Go.Proofs
-- HUk11
namespace Go.Proofs
open Go Go.Rw
structure Cm where
 rev:Int
 client:Int
 seq:Int
 acs:List Ac
 deriving Inhabited,DecidableEq
def cmA (c:Cm):AV:=.agg [.v (.int .i64 c.rev),.v (.int .i64 c.client),.v (.int .i64 c.seq),.sl 0 6 (acts c.acs)]
def cms (l:List Cm):List AV:=l.map cmA
theorem qD (l:List Cm):(cms l).length=l.length:=by simp[cms]
theorem kFw:cms []=[]:=rfl
theorem kBd (l:List Cm) {i:Nat} (h:i < l.length):(cms l).getD i .any=cmA l[i]:=by simp[cms,List.getD_eq_getElem?_getD,h]
theorem cmA_er (c:Cm):(cmA c).er=cmA c:=by simp[cmA,AV.er,AV.erL,j7]
theorem kGG:∀ l:List Cm,AV.erL (cms l)=cms l
 | []=>rfl
 | x::l=>by simp only [cms,List.map_cons,AV.erL,cmA_er];rw [show List.map cmA l=cms l from rfl,kGG l]
abbrev okCm (c:Cm):Prop:=c.acs.length≤1000000∧∀ a∈c.acs,okA a
abbrev townCon:Con where
 ι:=ActsN
 args:=fun p=>[.sl 0 6 (acts p.1)]
 post:=fun p r=>r = .sl 0 6 (acts p.1)
theorem town_good:Rw.Good Tryz.prog 57 townCon:=by
 have hΓ:kK Tryz.prog [(80,kD3)]:=(kG kHV kI)
 refine kZ (nn:=21) hΓ Tryz.func57 (by kernel_rfl) rfl (show Tryz.f57.results.toList=[.tmp 2] from rfl) (fun _=>rfl) (fun x=>by simp[AV.erL,AV.er,j7]) ?_
 rintro ⟨l,hl,ho⟩
 simp only[aR,seval,k9]
 obtain ⟨St,hSt⟩:∃ St:{ i:Nat // i≤l.length }→AS,∀ i,St i=AS.of 21 [(2,.sl 2 6 (acts (l.take i.1))),(5,.sl 0 6 (acts l)),(6,.v (.int .i64 l.length)),(7,.v (.int .i64 i.1))] [] [(i.1,55)]:=⟨_,fun _=>rfl⟩
 refine qE hΓ St (fun i=>l.length - i.1) ⟨0,by omega⟩ (by rw[hSt];refine kO [] [.nil 6] ?_;simp only[aR,seval,List.take_zero,acts,List.map_nil]<;>(and_intros<;>first|rfl|omega|trivial)) ?_
 rintro ⟨i,hi⟩
 rw[hSt]
 simp only
 simp only[aR,seval,k9]
 (with_reducible first|refine kE (fun h=>?_) (fun h=>?_)|refine kF (fun h=>?_) (fun h=>?_))
 ·have hlt:i < l.length:=by omega
  have e1:=z6 l hlt
  have ha:=ho _ (List.getElem_mem hlt)
  have e2:acts (l.take (i+1))=acts (l.take i)++[aA l[i]]:=by
   show (l.take (i+1)).map aA=(l.take i).map aA++[aA l[i]]
   rw[List.take_succ_eq_append_getElem hlt,List.map_append];rfl
  generalize l[i]=a at *
  obtain ⟨k,id,par,nm,dir,ops⟩:=a
  simp only[aR,seval,h,e1,k9,aA]
  repeat (with_reducible refine And.intro ?_ ?_;focus first|omega|kernel_rfl)
  refine kHW (by simp[kC]) rfl ha.1 ?_
  simp only[aR,seval,k9,List.map_cons,List.map_nil,List.length_take,show min i l.length=i by omega,wO (n:=(i:Int)+1)]
  repeat (with_reducible refine And.intro ?_ ?_;focus first|omega|kernel_rfl)
  refine kN ⟨i+1,by omega⟩ (by simp only;omega) ?_
  rw[hSt];refine kO [] [.live 2] ?_
  simp only[aR,seval,e2,aA,k9,List.length_append,List.length_cons,List.length_nil,List.length_take,show min i l.length=i by omega]<;>(and_intros<;>first|rfl|omega|trivial)
 ·simp only[aR,seval,h,show i=l.length by omega,List.take_length]
theorem call_town {Γ:Env} (hf:Γ.get 57=some townCon) {σ:AS} {dr:Bool} {l:List Ac} {ys:List AV} {d:Option Nat} {K:AS→Prop} (hy:ys=acts l) (hl:l.length≤1000000) (ho:∀ a∈l,okA a)
    (hk:cont σ d (.sl 0 6 (acts l)) K):kS Tryz.prog Γ dr σ 57 [.sl 0 6 ys] d K:=by
 subst hy
 exact jH (C:=townCon) (i:=⟨l,hl,ho⟩) (r:=.sl 0 6 (acts l)) hf rfl rfl (by simp[AV.erL,AV.er,j7]) rfl (fun _ h=>h) (by simp only[AV.er,j7];exact hk)
abbrev CmsN:={ l:List Cm // l.length≤1099511627776∧∀ c∈l,okCm c }
end Go.Proofs
-- HTh1
namespace Go.Proofs
open Go Go.Rw
structure Hs where
 rev:Int
 s:List Nd
 keep:Int
 l:List Cm
def addN (h:Hs) (c:Cm):Hs×Int :=
 if c.rev≠h.rev+1∨c.client < 1∨c.seq < 1 then (h,1)
 else if (allN h.s c.acs).e≠0 then (h,(allN h.s c.acs).e)
 else (⟨c.rev,(allN h.s c.acs).now,h.keep,(h.l++[c]).drop (h.l.length+1 - h.keep.toNat)⟩,0)
def ofN (l:List Cm) (k:Int):List Cm:=l.filter fun c=>decide (c.client=k)
end Go.Proofs
-- HUk9
namespace Go.Proofs
open Go Go.Rw
def nF (m:Int):Int→List Nd→Int
 | s,[]=>s
 | s,x::r=>if s≤m then nF m (sumF s [(x.nm.length:Int),(x.text.length:Int),3]) r else s
theorem nF_le {m:Int} (hm:m < 1099511627776):∀ (l:List Nd) {s:Int},0≤s→nF m s l≤m→s+3 * l.length≤m∧∀ p∈l,(p.nm.length:Int)≤m∧(p.text.length:Int)≤m
 | [],s,_,h=>by simp only [nF] at h;simp;exact h
 | x::l,s,hs,h=>by
   simp only[nF]at h
   split at h
   ·rename_i h1
    have e:sumF s [(x.nm.length:Int),(x.text.length:Int),3]=addI (addI (addI s x.nm.length) x.text.length) 3:=rfl
    have h2:0≤addI (addI (addI s x.nm.length) x.text.length) 3:=by unfold addI;omega
    rw[e]at h
    obtain ⟨h3,h4⟩:=nF_le hm l h2 h
    have h5:addI (addI (addI s x.nm.length) x.text.length) 3≤m:=by omega
    have h6:addI (addI (addI s x.nm.length) x.text.length) 3=s+x.nm.length+x.text.length+3:=by unfold addI at h5 ⊢;omega
    refine ⟨by simp only[List.length_cons];omega,fun p hp=>?_⟩
    rcases List.mem_cons.1 hp with rfl|hp
    ·exact ⟨by omega,by omega⟩
    ·exact h4 p hp
   ·omega
abbrev GivenN:={ l:List Nd // l.length≤9223372036854775807∧∀ x∈l,x.nm.length≤9223372036854775807∧x.text.length≤9223372036854775807 }
abbrev kCF:Con where
 ι:=GivenN×{ m:Int // 0≤m∧m≤1000000 }
 args:=fun p=>[.sl 0 5 (kT p.1.1),.v (.int .i64 p.2.1)]
 post:=fun p r=>r = .v (.int .i64 (nF p.2.1 0 p.1.1))
 plain:=true
theorem kG3:Rw.Good Tryz.prog 38 kCF:=by
 have hΓ:kK Tryz.prog [(32,kFy)]:=(kG kEq kI)
 refine kZ (nn:=34) hΓ Tryz.func38 (by kernel_rfl) rfl (show Tryz.f38.results.toList=[.tmp 4] from rfl) (fun _=>rfl) (fun x=>by simp[AV.erL,AV.er,kB3]) ?_
 rintro ⟨⟨l,hl,hc⟩,⟨m,hm⟩⟩
 simp only[aR,seval,kL]
 obtain ⟨St,hSt⟩:∃ St:{ p:Int×Nat // p.2≤l.length∧(0≤p.1∧p.1≤1099511627776)∧nF m 0 l=nF m p.1 (l.drop p.2) }→AS,∀ p,St p=AS.of 34 [(0,.sl 0 5 (kT l)),(1,.v (.int .i64 m)),(5,.v (.int .i64 p.1.1)),(6,.v (.int .i64 p.1.2))] [] []:=⟨_,fun _=>rfl⟩
 refine kFW [(5,[],[])] hΓ St (fun p=>l.length - p.1.2) ⟨(0,0),by omega,by simp only;omega,rfl⟩ (by rw[hSt];refine kO [] [] ?_;simp only[aR,seval]<;>(and_intros<;>first|rfl|omega|trivial)) ?_
 rintro ⟨⟨s,i⟩,hi,hs,hb⟩
 simp only at hi hs hb
 rw[hSt]
 simp only
 simp only[aR,seval,kR,kL]
 (with_reducible first|refine kE (fun h=>?_) (fun h=>?_)|refine kF (fun h=>?_) (fun h=>?_))
 ·have hlt:i < l.length:=by omega
  have hci:=hc l[i] (List.getElem_mem hlt)
  have e1:=qB l hlt
  rw[List.drop_eq_getElem_cons hlt,nF]at hb
  generalize l[i]=a at *
  obtain ⟨id,par,nm,dir,tx⟩:=a
  obtain ⟨hn,ho⟩:=hci
  simp only at hn ho hb e1
  simp (disch:=omega) only[aR,seval,kD,kR,h]
  (with_reducible first|refine kE (fun h2=>?_) (fun h2=>?_)|refine kF (fun h2=>?_) (fun h2=>?_))
  ·simp (disch:=omega) only[aR,seval,kD,kR,h2,e1,nA,kL]
   repeat (with_reducible refine And.intro ?_ ?_;focus first|omega|kernel_rfl)
   refine kDk (by simp[kC]) (y:=[(nm.length:Int),(tx.length:Int),3]) rfl hs (by simp;omega) (by simp) ?_
   simp (disch:=omega) only[aR,seval,kD,kR]
   rw[if_pos h2]at hb
   have hr:=kAQ [(nm.length:Int),(tx.length:Int),3] hs (by simp)
   refine kN ⟨(sumF s [(nm.length:Int),(tx.length:Int),3],i+1),by simp only;omega,by simp only;omega,hb⟩ (by simp only;omega) ?_
   rw[hSt];refine kO [] [] ?_
   simp only[aR,seval]<;>(and_intros<;>first|rfl|omega|trivial)
  ·simp (disch:=omega) only[aR,seval,kD,kR,h2]
   rw[hb,if_neg h2]
 ·simp only[aR,seval,kR,h]
  rw[List.drop_of_length_le (by omega)]at hb
  rw[hb];rfl
theorem kGV {Γ:Env} (hf:Γ.get 38=some kCF) {σ:AS} {dr:Bool} {l:List Nd} {m:Int} {ys:List AV} {d:Option Nat} {K:AS→Prop} (hy:ys=kT l) (h1:l.length≤9223372036854775807) (h2:∀ a∈l,a.nm.length≤9223372036854775807∧a.text.length≤9223372036854775807) (hm:0≤m∧m≤1000000)
    (hk:cont σ d (.v (.int .i64 (nF m 0 l))) K):kS Tryz.prog Γ dr σ 38 [.sl 0 5 ys,.v (.int .i64 m)] d K:=by
 subst hy
 exact kP (C:=kCF) (i:=(⟨l,h1,h2⟩,⟨m,hm⟩)) hf rfl rfl rfl (by simp[AV.erL,AV.er,kB3]) (fun _ h=>h) rfl hk
end Go.Proofs
-- HUk13
namespace Go.Proofs
open Go Go.Rw
def cF (m:Int):Int→List Cm→Int
 | s,[]=>s
 | s,c::r=>if s≤m then cF m (sumF s [wF m 0 (wA c.acs),3]) r else s
abbrev wideA (l:List Ac):Prop:=l.length≤9223372036854775807∧∀ a∈l,a.nm.length≤9223372036854775807∧wideC a.ops
theorem wF_bnd (m:Int):∀ (l:List (Nat×List Cp)) (s:Int),0≤s→s≤1099511627776→0≤wF m s l∧wF m s l≤1099511627776
 | [],s,h,h2=>⟨h,h2⟩
 | (n,c)::r,s,h,h2=>by
   rw[wF]
   split
   ·have hc:=kC6 m c 0 (by omega) (by omega)
    have:=kAQ [(n:Int),zS m 0 c,3] (x:=s) ⟨h,h2⟩ (by simp;omega)
    exact wF_bnd m r _ (by omega) this.2
   ·exact ⟨h,h2⟩
theorem cF_le {m:Int} (hm:m≤1000000):∀ (l:List Cm) {s:Int},0≤s→(∀ c∈l,wideA c.acs)→cF m s l≤m→s+3 * l.length≤m∧∀ c∈l,okCm c
 | [],s,_,_,h=>by simp only [cF] at h;simp;exact h
 | c::l,s,hs,hw,h=>by
   simp only[cF]at h
   split at h
   ·rename_i h1
    have hwc:=hw c (List.mem_cons_self ..)
    have hc:=wF_bnd m (wA c.acs) 0 (by omega) (by omega)
    have e:sumF s [wF m 0 (wA c.acs),3]=addI (addI s (wF m 0 (wA c.acs))) 3:=rfl
    have h2:0≤addI (addI s (wF m 0 (wA c.acs))) 3:=by unfold addI;omega
    rw[e]at h
    obtain ⟨h3,h4⟩:=cF_le hm l h2 (fun d hd=>hw d (List.mem_cons_of_mem _ hd)) h
    have h5:addI (addI s (wF m 0 (wA c.acs))) 3≤m:=by omega
    have h6:addI (addI s (wF m 0 (wA c.acs))) 3=s+wF m 0 (wA c.acs)+3:=by unfold addI at h5 ⊢;omega
    have h7:wF m 0 (wA c.acs)≤m:=by omega
    refine ⟨by simp only[List.length_cons];omega,fun p hp=>?_⟩
    rcases List.mem_cons.1 hp with rfl|hp
    ·obtain ⟨g1,g2⟩:=acts_ok hm hwc.2 h7
     obtain ⟨_,g3⟩:=wF_le (by omega) (wA p.acs) (Int.le_refl 0) h7
     exact ⟨g1,fun a ha=>⟨g2 a ha,by have:=(g3 (a.nm.length,a.ops) (List.mem_map.2 ⟨a,ha,rfl⟩)).1;omega⟩⟩
    ·exact h4 p hp
   ·omega
abbrev GivenM:={ l:List Cm // l.length≤9223372036854775807∧∀ c∈l,wideA c.acs }
def msgA (l:List Cm):AV:=.agg [.v (.int .i64 0),.v (.int .i64 0),.v (.int .i64 0),.v (.int .i64 0),.v (.int .i64 0),.sl 0 6 [],.sl 0 4 (cms l),.sl 0 5 [],.v (.int .i64 0)]
abbrev msgCon:Con where
 ι:=GivenM×{ m:Int // 0≤m∧m≤1000000 }
 args:=fun p=>[msgA p.1.1,.v (.int .i64 p.2.1)]
 post:=fun p r=>r = .v (.int .i64 (cF p.2.1 0 p.1.1))
 plain:=true
theorem msg_good:Rw.Good Tryz.prog 39 msgCon:=by
 have hΓ:kK Tryz.prog [(15,actsCon),(38,kCF),(32,kFy)]:=(kG acts_good (kG kG3 (kG kEq kI)))
 refine kZ (nn:=41) hΓ Tryz.func39 (by kernel_rfl) rfl (show Tryz.f39.results.toList=[.tmp 4] from rfl) (fun _=>rfl) (fun x=>by simp[AV.erL,AV.er,msgA,kGG]) ?_
 rintro ⟨⟨l,hl,hc⟩,⟨m,hm⟩⟩
 simp only[aR,seval,msgA]
 repeat (with_reducible refine And.intro ?_ ?_;focus first|omega|kernel_rfl)
 refine call_acts (by simp[kC]) (l:=[]) rfl (by simp) (by simp) hm ?_
 simp only[aR,seval,wA,List.map_nil,wF]
 refine kGV (by simp[kC]) (l:=[]) rfl (by simp) (by simp) hm ?_
 simp only[aR,seval,nF]
 refine kDk (by simp[kC]) (y:=[0]) rfl (by omega) (by simp) (by simp) ?_
 simp only[aR,seval,show sumF 0 [0]=0 from rfl]
 obtain ⟨St,hSt⟩:∃ St:{ p:Int×Nat // p.2≤l.length∧(0≤p.1∧p.1≤1099511627776)∧cF m 0 l=cF m p.1 (l.drop p.2) }→AS,∀ p,St p=AS.of 41 [(1,.v (.int .i64 m)),(2,.ptr 0 0),(5,.v (.int .i64 p.1.1)),(6,.v (.int .i64 p.1.2))] [.cells [.v (.int .i64 0),.v (.int .i64 0),.v (.int .i64 0),.v (.int .i64 0),.v (.int .i64 0),.sl 0 6 [],.sl 0 4 (cms l),.sl 0 5 [],.v (.int .i64 0)]] []:=⟨_,fun _=>rfl⟩
 refine qE hΓ St (fun p=>l.length - p.1.2) ⟨(0,0),by simp,by simp only;omega,rfl⟩ (by rw[hSt];refine kO [0] [] ?_;simp only[aR,seval]<;>(and_intros<;>first|rfl|omega|trivial)) ?_
 rintro ⟨⟨s,i⟩,hi,hs,hb⟩
 simp only at hi hs hb
 rw[hSt]
 simp only
 simp only[aR,seval,qD]
 (with_reducible first|refine kE (fun h=>?_) (fun h=>?_)|refine kF (fun h=>?_) (fun h=>?_))
 ·have hlt:i < l.length:=by omega
  have hci:=hc l[i] (List.getElem_mem hlt)
  have e1:=kBd l hlt
  rw[List.drop_eq_getElem_cons hlt,cF]at hb
  generalize l[i]=c at *
  obtain ⟨rev,cl,sq,ac⟩:=c
  obtain ⟨hn,ho⟩:=hci
  simp only at hn ho hb e1
  simp only[aR,seval,h]
  (with_reducible first|refine kE (fun h2=>?_) (fun h2=>?_)|refine kF (fun h2=>?_) (fun h2=>?_))
  ·simp only[aR,seval,h2,e1,cmA,qD]
   repeat (with_reducible refine And.intro ?_ ?_;focus first|omega|kernel_rfl)
   refine call_acts (by simp[kC]) rfl hn ho hm ?_
   have hwb:=wF_bnd m (wA ac) 0 (by omega) (by omega)
   simp only[aR,seval]
   refine kDk (by simp[kC]) (y:=[wF m 0 (wA ac),3]) rfl hs (by simp;omega) (by simp) ?_
   rw[if_pos h2]at hb
   have hr:=kAQ [wF m 0 (wA ac),3] hs (by simp;omega)
   simp only[aR,seval,wO (n:=(i:Int)+1)]
   refine kN ⟨(sumF s [wF m 0 (wA ac),3],i+1),by simp only;omega,by simp only;omega,hb⟩ (by simp only;omega) ?_
   rw[hSt];refine kO [0] [] ?_
   simp only[aR,seval]<;>(and_intros<;>first|rfl|omega|trivial)
  ·simp only[aR,seval,h2]
   rw[hb,if_neg h2]
 ·simp only[aR,seval,h]
  rw[List.drop_of_length_le (by omega)]at hb
  rw[hb];rfl
theorem call_msg {Γ:Env} (hf:Γ.get 39=some msgCon) {σ:AS} {dr:Bool} {l:List Cm} {m:Int} {y:AV} {d:Option Nat} {K:AS→Prop} (hy:y.er=msgA l) (h1:l.length≤9223372036854775807) (h2:∀ c∈l,wideA c.acs) (hm:0≤m∧m≤1000000)
    (hk:cont σ d (.v (.int .i64 (cF m 0 l))) K):kS Tryz.prog Γ dr σ 39 [y,.v (.int .i64 m)] d K :=
 kP (C:=msgCon) (i:=(⟨l,h1,h2⟩,⟨m,hm⟩)) hf rfl rfl rfl (by simp[AV.erL,AV.er,hy]) (fun _ h=>h) rfl hk
end Go.Proofs
-- HTr0
namespace Go.Proofs
open Go Go.Rw
def nV (x:Nd):Value:=.agg #[.int .i64 x.id,.int .i64 x.par,sv x.nm,.bool x.dir,sv x.text]
def ents (l:List Nd):List (Int×Value):=l.map fun x=>(x.id,nV x)
def hasN (l:List Nd) (id:Int):Bool:=decide (ndx id l < l.length)
def gN (l:List Nd) (id:Int):Nd:=l.getD (ndx id l) zO
theorem qP (l:List Nd) (id:Int):hasN l id=true↔ndx id l < l.length:=by simp[hasN]
theorem lk_ents (k:Int):∀ l:List Nd,lkG k (ents l)=if hasN l k=true then some (nV (gN l k)) else none
 | []=>rfl
 | x::l=>by
   have ih:=lk_ents k l
   rw[ents,List.map_cons,lkG,show List.map (fun x:Nd=>(x.id,nV x)) l=ents l from rfl,ih]
   by_cases h:x.id=k
   ·simp[h,hasN,ndx,gN]
   ·simp only[if_neg h,hasN,ndx,gN,List.length_cons,decide_eq_true_eq,Nat.add_lt_add_iff_right,List.getD_cons_succ]
def TM (es:Array MapEntry) (cl:Nat) (l:List Nd):Prop:=MapG es cl (ents l)∧srtN l
theorem zero_node:kA3 Tryz.prog 82=some (nA zO):=by kernel_rfl
theorem elem_node:kDH Tryz.prog 69=some 82:=by kernel_rfl
theorem kBe {es:Array MapEntry} {cl:Nat} {l:List Nd} (h:TM es cl l) (id:Int) (c:Bool):kEA Tryz.prog 69 (.int .i64) (.int .i64 id) es.toList c=some (kEY c (nA (gN l id)) (hasN l id)):=by
 rw[lkG_look h.1,lk_ents]
 by_cases hh:hasN l id=true
 ·rw[if_pos hh,hh];rfl
 ·rw[if_neg hh,elem_node]
  simp only[zero_node,Option.map_some]
  have e1:hasN l id=false:=by simpa using hh
  have e2:gN l id=zO:=by
   unfold gN
   rw[List.getD_eq_getElem?_getD,List.getElem?_eq_none (by simp[hasN]at hh;omega)];rfl
  rw[e1,e2]
theorem kEZ {es:Array MapEntry} {cl:Nat} {l:List Nd} (h:TM es cl l):es.size=l.length:=by rw[h.1.size,ents,List.length_map]
theorem tm_empty:TM #[] 0 []:=⟨MapG.empty,by simp[srtN]⟩
def setT (x:Nd) (l:List Nd):List Nd:=if hasN l x.id=true then l.set (ndx x.id l) x else l.take (atN x.id l)++x::l.drop (atN x.id l)
theorem kGN {l:List Nd} (h:srtN l):(l.map Nd.id).Nodup:=by
 unfold srtN at h
 exact h.imp fun h1=>by omega
theorem kFO {x:Nd}:∀ {l:List Nd},(l.map Nd.id).Nodup→∀ i,l[i]? = some x→ndx x.id l=i
 | [],_,_,h=>by simp at h
 | y::l,hu,0,h=>by
   simp only[List.getElem?_cons_zero,Option.some.injEq]at h
   rw[ndx,if_pos (by rw[h])]
 | y::l,hu,i+1,h=>by
   simp only[List.getElem?_cons_succ]at h
   simp only[List.map_cons,List.nodup_cons]at hu
   rw[ndx,if_neg,kFO hu.2 i h]
   intro he
   apply hu.1
   rw[he]
   exact List.mem_map.2 ⟨x,List.mem_of_getElem? h,rfl⟩
theorem kD5 {l:List Nd} {id:Int} (h:hasN l id=true):∃ hh:ndx id l < l.length,gN l id=l[ndx id l]∧(l[ndx id l]).id=id:=by
 have hh:=(qP l id).1 h
 refine ⟨hh,?_,ndx_get id l hh⟩
 unfold gN
 rw[List.getD_eq_getElem?_getD,List.getElem?_eq_getElem hh];rfl
theorem put_ents {l:List Nd} (hs:(l.map Nd.id).Nodup) (x:Nd):(putG x.id (nV x) (ents l)).Perm (ents (setT x l)):=by
 unfold putG setT
 rw[lk_ents]
 by_cases hh:hasN l x.id=true
 ·rw[if_pos hh,if_pos hh]
  obtain ⟨h1,h2,h3⟩:=kD5 hh
  rw[if_pos (show (some (nV (gN l x.id))).isSome=true from rfl)]
  have hk:kBI (ents l):=by
   unfold kBI ents
   rw[List.map_map];exact hs
  have hat:(ents l)[ndx x.id l]? = some (x.id,nV l[ndx x.id l]):=by
   unfold ents
   rw[List.getElem?_map,List.getElem?_eq_getElem h1]
   simp[h3]
  rw[map_one hk hat]
  unfold ents
  rw[List.map_set]
 ·rw[if_neg hh,if_neg hh]
  simp only[Option.isSome_none,Bool.false_eq_true,if_false]
  unfold ents
  rw[List.map_append,List.map_cons]
  have e:l.map (fun x=>(x.id,nV x))=(l.take (atN x.id l)).map (fun x=>(x.id,nV x))++(l.drop (atN x.id l)).map (fun x=>(x.id,nV x)):=by
   rw[← List.map_append,List.take_append_drop]
  rw[e]
  refine (List.perm_append_comm).trans ?_
  simp only[List.singleton_append]
  exact List.perm_middle.symm
theorem ndx_ids {l:List Nd} {k:Int} (h:¬ ndx k l < l.length):∀ x∈l,x.id≠k:=fun x hx he=>h ((ndx_mem k l).2 ⟨x,hx,he⟩)
theorem atN_lo {k:Int}:∀ (l:List Nd),∀ x∈l.take (atN k l),x.id < k
 | [],x,h=>by simp [atN] at h
 | y::l,x,h=>by
   rw[atN]at h
   split at h
   ·rename_i hy
    rw[List.take_succ_cons]at h
    rcases List.mem_cons.1 h with rfl|h1
    ·exact hy
    ·exact atN_lo l x h1
   ·simp at h
theorem atN_hi {k:Int}:∀ (l:List Nd),srtN l→∀ x∈l.drop (atN k l),k≤x.id
 | [],_,x,h=>by simp at h
 | y::l,hs,x,h=>by
   simp only[srtN,List.map_cons,List.pairwise_cons]at hs
   rw[atN]at h
   split at h
   ·rw[List.drop_succ_cons]at h
    exact atN_hi l hs.2 x h
   ·rename_i hy
    simp only[List.drop_zero]at h
    rcases List.mem_cons.1 h with rfl|h1
    ·omega
    ·have:=hs.1 x.id (List.mem_map.2 ⟨x,h1,rfl⟩);omega
theorem srt_put {l:List Nd} (hs:srtN l) (x:Nd):srtN (setT x l):=by
 unfold setT
 split
 ·rename_i hh
  obtain ⟨h1,h2,h3⟩:=kD5 hh
  unfold srtN at hs ⊢
  rw[List.map_set]
  have:(l.map Nd.id).set (ndx x.id l) x.id=l.map Nd.id:=by
   apply List.ext_getElem (by simp)
   intro j h4 h5
   rw[List.getElem_set]
   split
   ·rename_i hij;subst hij;simp[h3]
   ·rfl
  rw[this];exact hs
 ·rename_i hh
  have hne:=ndx_ids (k:=x.id) (l:=l) (by simpa [hasN] using hh)
  unfold srtN
  rw[List.map_append,List.map_cons,List.pairwise_append]
  have hsub:∀ {m:List Nd},m.Sublist l→(m.map Nd.id).Pairwise (·< ·):=fun h=>List.Pairwise.sublist (h.map _) hs
  refine ⟨hsub (List.take_sublist _ _),?_,?_⟩
  ·rw[List.pairwise_cons]
   refine ⟨fun a ha=>?_,hsub (List.drop_sublist _ _)⟩
   obtain ⟨y,hy,rfl⟩:=List.mem_map.1 ha
   have h1:=atN_hi l hs y hy
   have h2:=hne y (List.mem_of_mem_drop hy)
   omega
  ·intro a ha b hb
   obtain ⟨y,hy,rfl⟩:=List.mem_map.1 ha
   have h1:=atN_lo l y hy
   rcases List.mem_cons.1 hb with rfl|hb
   ·exact h1
   ·obtain ⟨z,hz,rfl⟩:=List.mem_map.1 hb
    have h2:=atN_hi l hs z hz
    omega
theorem put_tm {es:Array MapEntry} {cl:Nat} {l:List Nd} (h:TM es cl l) (x:Nd):∃ es' cl',updO (.int .i64) (.int .i64 x.id) (nV x) (some (.map es cl))=some (.map es' cl')∧TM es' cl' (setT x l):=by
 obtain ⟨es',cl',h1,h2⟩:=h.1.upd (j:=.i64) x.id (nV x)
 exact ⟨es',cl',h1,h2.perm (put_ents (kGN h.2) x),srt_put h.2 x⟩
def offT (id:Int) (l:List Nd):List Nd:=l.take (ndx id l)++l.drop (ndx id l+1)
theorem kGr {id:Int}:∀ {l:List Nd},(l.map Nd.id).Nodup→offT id l=l.filter fun x=>x.id≠id
 | [],_=>rfl
 | y::l,hu=>by
   simp only[List.map_cons,List.nodup_cons]at hu
   have ih:=kGr (id:=id) hu.2
   unfold offT at ih ⊢
   rw[ndx]
   by_cases h:y.id=id
   ·rw[if_pos h,List.filter_cons_of_neg (by simp[h])]
    simp only[List.take_zero,List.nil_append,Nat.zero_add,List.drop_succ_cons,List.drop_zero]
    symm
    rw[List.filter_eq_self]
    intro z hz
    simp only[ne_eq,decide_not,Bool.not_eq_eq_eq_not,Bool.not_true,decide_eq_false_iff_not]
    intro hk
    apply hu.1
    rw[h,← hk]
    exact List.mem_map.2 ⟨z,hz,rfl⟩
   ·rw[if_neg h,List.filter_cons_of_pos (by simpa using h),List.take_succ_cons,List.drop_succ_cons,List.cons_append,ih]
theorem off_tm {es:Array MapEntry} {cl:Nat} {l:List Nd} (h:TM es cl l) (id:Int):∃ es' cl',delO (.int .i64) (.int .i64 id) (some (.map es cl))=some (.map es' cl')∧TM es' cl' (offT id l):=by
 obtain ⟨es',cl',h1,h2⟩:=h.1.del (j:=.i64) id
 rw[kGr (kGN h.2)]
 refine ⟨es',cl',h1,?_,List.Pairwise.sublist (List.Sublist.map _ List.filter_sublist) h.2⟩
 have e:delG id (ents l)=ents (l.filter fun x=>x.id≠id):=by
  unfold delG ents
  rw[List.filter_map];rfl
 rw[← e];exact h2
end Go.Proofs
-- HTr1
namespace Go.Proofs
open Go Go.Rw
abbrev tnewCon:ConO where
 ι:=Unit
 objs:=fun _=>[]
 args:=fun _=>[]
 post:=fun _ objs lvs r=>objs=[.cells [.mp 1],.map #[] 0]∧lvs=[]∧r = .ptr 0 0
theorem tnew_good:kAJ Tryz.prog 9 tnewCon:=by
 have hΓ:kK Tryz.prog []:=kI
 refine qQ (nn:=4) Tryz.func9 (by kernel_rfl) rfl (show Tryz.f9.results.toList=[.tmp 0] from rfl) (fun _=>rfl) ?_
 rintro ⟨⟩
 refine qU hΓ (Ws:=[]) _ ?_
 simp only[aR,seval,kA,kB,]
 refine kW [1,0] [] [.cells [.mp 1],.map #[] 0] [] (.ptr 0 0) ⟨rfl,rfl,rfl⟩ ?_
 simp only[aR,seval,kA,kB,]<;>(and_intros<;>first|rfl|omega|trivial)
structure TS where
 es:Array MapEntry
 cl:Nat
 l:List Nd
 h:TM es cl l
def tsO:Option TS→List AO
 | none=>[]
 | some s=>[.cells [.mp 1],.map s.es s.cl]
def tsA:Option TS→AV
 | none=>.v (.pointer none)
 | some _=>.ptr 0 0
def tsL:Option TS→List Nd
 | none=>[]
 | some s=>s.l
theorem tsO_none:tsO none=[]:=rfl
theorem tsO_some {s:TS}:tsO (some s)=[.cells [.mp 1],.map s.es s.cl]:=rfl
theorem tsA_none:tsA none = .v (.pointer none):=rfl
theorem tsA_some {s:TS}:tsA (some s) = .ptr 0 0:=rfl
def kH:=(aI @tsO_none (aI @tsO_some (aI @tsA_none @tsA_some)))
def dirI (l:List Nd) (par:Int):Int:=if par=0 then 0 else if hasN l par=true then (if (gN l par).dir=true then 0 else 8) else 5
abbrev tdirCon:ConO where
 ι:=TS×Int
 objs:=fun p=>tsO (some p.1)
 args:=fun p=>[.ptr 0 0,.v (.int .i64 p.2)]
 post:=fun p objs lvs r=>objs=tsO (some p.1)∧lvs=[]∧r = .v (.int .i64 (dirI p.1.l p.2))
theorem tdir_good:kAJ Tryz.prog 69 tdirCon:=by
 have hΓ:kK Tryz.prog []:=kI
 refine qQ (nn:=26) Tryz.func69 (by kernel_rfl) rfl (show Tryz.f69.results.toList=[.tmp 4] from rfl) (fun _=>rfl) ?_
 rintro ⟨s,par⟩
 refine qU hΓ (Ws:=[]) _ ?_
 have e1:=kBe s.h
 have fin:∀ {σ:AS} {v:Int},dirI s.l par=v→RetG tdirCon (s,par) σ [.v (.int .i64 v)]→RetG tdirCon (s,par) σ [.v (.int .i64 (dirI s.l par))]:=fun h1 h2=>by rw[h1];exact h2
 simp only[aR,seval,kA,kB,kH,e1,nA]
 repeat (with_reducible refine And.intro ?_ ?_;focus first|omega|kernel_rfl)
 by_cases h1:par=0
 ·simp only[aR,seval,kA,kB,kH,e1,nA,h1]
  refine kW [0,1] [] (tsO (some s)) [] (.v (.int .i64 0)) ⟨rfl,rfl,by simp[dirI]⟩ ?_
  simp only[aR,seval,kA,kB,kH,nA]<;>(and_intros<;>first|rfl|omega|trivial)
 cases h2:hasN s.l par
 ·simp only[aR,seval,kA,kB,kH,e1,nA,h1,h2]
  refine kW [0,1] [] (tsO (some s)) [] (.v (.int .i64 5)) ⟨rfl,rfl,by simp[dirI,h1,h2]⟩ ?_
  simp only[aR,seval,kA,kB,kH,nA]<;>(and_intros<;>first|rfl|omega|trivial)
 cases h3:(gN s.l par).dir
 ·simp only[aR,seval,kA,kB,kH,e1,nA,h1,h2,h3]
  refine kW [0,1] [] (tsO (some s)) [] (.v (.int .i64 8)) ⟨rfl,rfl,by simp[dirI,h1,h2,h3]⟩ ?_
  simp only[aR,seval,kA,kB,kH,nA]<;>(and_intros<;>first|rfl|omega|trivial)
 ·simp only[aR,seval,kA,kB,kH,e1,nA,h1,h2,h3]
  refine kW [0,1] [] (tsO (some s)) [] (.v (.int .i64 0)) ⟨rfl,rfl,by simp[dirI,h1,h2,h3]⟩ ?_
  simp only[aR,seval,kA,kB,kH,nA]<;>(and_intros<;>first|rfl|omega|trivial)
end Go.Proofs
-- HTrL
namespace Go.Proofs
open Go.Shelf
def Tryz.keysA_ren:Go.Shelf.Ren:=⟨fun|7=>35|10=>60|n=>n,fun|23=>69|26=>3|3=>82|28=>79|0=>0|27=>78|33=>94|4=>4|n=>n,fun|n=>n⟩
theorem Tryz.keysA:Go.Proofs.SlLaysZI.n7 Tryz.prog Tryz.keysA_ren where
 mixed:=by kernel_rfl
 f7 := ⟨"maps.Keys[map[int]ropewalk/api.Node,int,ropewalk/api.Node]", by decide, Tryz.func35.trans (congrArg some (by kernel_rfl))⟩
 f10 := ⟨"maps.Keys[map[int]ropewalk/api.Node,int,ropewalk/api.Node]$1", by decide, Tryz.func60.trans (congrArg some (by kernel_rfl))⟩
 t0:=Tryz.underlying0
 a0:=Tryz.isAgg0
 z0:=Tryz.sizeOf0
 v0:=Tryz.zeroValue0
 t4:=Tryz.underlying4
 a4:=Tryz.isAgg4
 z4:=Tryz.sizeOf4
 v4:=Tryz.zeroValue4
 t23:=Tryz.underlying69
 a23:=Tryz.isAgg69
 z23:=Tryz.sizeOf69
 v23:=Tryz.zeroValue69
 t26:=Tryz.underlying3
 a26:=Tryz.isAgg3
 z26:=Tryz.sizeOf3
 v26:=Tryz.zeroValue3
 t27:=Tryz.underlying78
 a27:=Tryz.isAgg78
 z27:=Tryz.sizeOf78
 v27:=Tryz.zeroValue78
 t28:=Tryz.underlying79
 a28:=Tryz.isAgg79
 z28:=Tryz.sizeOf79
 v28:=Tryz.zeroValue79
 t33:=Tryz.underlying94
 a33:=Tryz.isAgg94
 z33:=Tryz.sizeOf94
 v33:=Tryz.zeroValue94
def Tryz.sortedA_ren:Go.Shelf.Ren:=⟨fun|6=>34|8=>58|9=>59|11=>81|13=>83|12=>82|23=>114|24=>115|14=>105|15=>106|16=>107|17=>108|18=>109|19=>110|20=>111|21=>112|22=>113|25=>128|26=>129|27=>130|28=>131|29=>132|30=>133|31=>146|n=>n,fun|26=>3|28=>79|24=>60|0=>0|3=>3|37=>130|48=>158|50=>160|4=>4|40=>151|39=>150|45=>114|5=>5|9=>9|51=>167|55=>171|57=>184|58=>145|33=>94|n=>n,fun|n=>n⟩
theorem Tryz.sortedA:Go.Proofs.SlLaysZI.n6 Tryz.prog Tryz.sortedA_ren where
 mixed:=by kernel_rfl
 f6 := ⟨"slices.Sorted[int]", by decide, Tryz.func34.trans (congrArg some (by kernel_rfl))⟩
 f8 := ⟨"slices.Collect[int]", by decide, Tryz.func58.trans (congrArg some (by kernel_rfl))⟩
 f11 := ⟨"slices.AppendSeq[[]int,int]", by decide, Tryz.func81.trans (congrArg some (by kernel_rfl))⟩
 t0:=Tryz.underlying0
 a0:=Tryz.isAgg0
 z0:=Tryz.sizeOf0
 v0:=Tryz.zeroValue0
 t24:=Tryz.underlying60
 a24:=Tryz.isAgg60
 z24:=Tryz.sizeOf60
 v24:=Tryz.zeroValue60
 t26:=Tryz.underlying3
 a26:=Tryz.isAgg3
 z26:=Tryz.sizeOf3
 v26:=Tryz.zeroValue3
 t28:=Tryz.underlying79
 a28:=Tryz.isAgg79
 z28:=Tryz.sizeOf79
 v28:=Tryz.zeroValue79
 i26:=by kernel_rfl
def Tryz.sortA_ren:Go.Shelf.Ren:=⟨fun|5=>59|8=>83|7=>82|19=>114|20=>115|10=>105|11=>106|12=>107|13=>108|14=>109|15=>110|16=>111|17=>112|18=>113|30=>128|31=>129|32=>130|33=>131|34=>132|35=>133|40=>146|n=>n,fun|23=>60|25=>3|3=>3|32=>130|22=>60|0=>0|44=>158|46=>160|4=>4|36=>151|35=>150|41=>114|5=>5|9=>9|53=>167|57=>171|63=>184|64=>145|n=>n,fun|n=>n⟩
theorem Tryz.sortA:Go.Proofs.SlLaysM.n5 Tryz.prog Tryz.sortA_ren where
 mixed:=by kernel_rfl
 f5 := ⟨"slices.Sort[[]int,int]", by decide, Tryz.func59.trans (congrArg some (by kernel_rfl))⟩
 f7 := ⟨"slices.pdqsortOrdered[int]", by decide, Tryz.func82.trans (congrArg some (by kernel_rfl))⟩
 f8:=Tryz.func83.trans (congrArg some (by kernel_rfl))
 f10 := ⟨"slices.insertionSortOrdered[int]", by decide, Tryz.func105.trans (congrArg some (by kernel_rfl))⟩
 f11 := ⟨"slices.heapSortOrdered[int]", by decide, Tryz.func106.trans (congrArg some (by kernel_rfl))⟩
 f12 := ⟨"slices.breakPatternsOrdered[int]", by decide, Tryz.func107.trans (congrArg some (by kernel_rfl))⟩
 f13 := ⟨"slices.choosePivotOrdered[int]", by decide, Tryz.func108.trans (congrArg some (by kernel_rfl))⟩
 f14 := ⟨"slices.reverseRangeOrdered[int]", by decide, Tryz.func109.trans (congrArg some (by kernel_rfl))⟩
 f15 := ⟨"slices.partialInsertionSortOrdered[int]", by decide, Tryz.func110.trans (congrArg some (by kernel_rfl))⟩
 f16 := ⟨"cmp.Less[int]", by decide, Tryz.func111.trans (congrArg some (by kernel_rfl))⟩
 f17 := ⟨"slices.partitionEqualOrdered[int]", by decide, Tryz.func112.trans (congrArg some (by kernel_rfl))⟩
 f18 := ⟨"slices.partitionOrdered[int]", by decide, Tryz.func113.trans (congrArg some (by kernel_rfl))⟩
 f19:=Tryz.func114.trans (congrArg some (by kernel_rfl))
 f20:=Tryz.func115.trans (congrArg some (by kernel_rfl))
 f30 := ⟨"slices.siftDownOrdered[int]", by decide, Tryz.func128.trans (congrArg some (by kernel_rfl))⟩
 f31:=Tryz.func129.trans (congrArg some (by kernel_rfl))
 f32:=Tryz.func130.trans (congrArg some (by kernel_rfl))
 f33 := ⟨"slices.medianAdjacentOrdered[int]", by decide, Tryz.func131.trans (congrArg some (by kernel_rfl))⟩
 f34 := ⟨"slices.medianOrdered[int]", by decide, Tryz.func132.trans (congrArg some (by kernel_rfl))⟩
 f35 := ⟨"cmp.isNaN[int]", by decide, Tryz.func133.trans (congrArg some (by kernel_rfl))⟩
 f40 := ⟨"slices.order2Ordered[int]", by decide, Tryz.func146.trans (congrArg some (by kernel_rfl))⟩
 t0:=Tryz.underlying0
 a0:=Tryz.isAgg0
 z0:=Tryz.sizeOf0
 v0:=Tryz.zeroValue0
 t3:=Tryz.underlying3
 a3:=Tryz.isAgg3
 z3:=Tryz.sizeOf3
 v3:=Tryz.zeroValue3
 t4:=Tryz.underlying4
 a4:=Tryz.isAgg4
 z4:=Tryz.sizeOf4
 v4:=Tryz.zeroValue4
 t5:=Tryz.underlying5
 a5:=Tryz.isAgg5
 z5:=Tryz.sizeOf5
 v5:=Tryz.zeroValue5
 t9:=Tryz.underlying9
 a9:=Tryz.isAgg9
 z9:=Tryz.sizeOf9
 v9:=Tryz.zeroValue9
 t22:=Tryz.underlying60
 a22:=Tryz.isAgg60
 z22:=Tryz.sizeOf60
 v22:=Tryz.zeroValue60
 t23:=Tryz.underlying60
 a23:=Tryz.isAgg60
 z23:=Tryz.sizeOf60
 v23:=Tryz.zeroValue60
 t25:=Tryz.underlying3
 a25:=Tryz.isAgg3
 z25:=Tryz.sizeOf3
 v25:=Tryz.zeroValue3
 t32:=Tryz.underlying130
 a32:=Tryz.isAgg130
 z32:=Tryz.sizeOf130
 v32:=Tryz.zeroValue130
 t35:=Tryz.underlying150
 a35:=Tryz.isAgg150
 z35:=Tryz.sizeOf150
 v35:=Tryz.zeroValue150
 t36:=Tryz.underlying151
 a36:=Tryz.isAgg151
 z36:=Tryz.sizeOf151
 v36:=Tryz.zeroValue151
 t41:=Tryz.underlying114
 a41:=Tryz.isAgg114
 z41:=Tryz.sizeOf114
 v41:=Tryz.zeroValue114
 t44:=Tryz.underlying158
 a44:=Tryz.isAgg158
 z44:=Tryz.sizeOf158
 v44:=Tryz.zeroValue158
 t46:=Tryz.underlying160
 a46:=Tryz.isAgg160
 z46:=Tryz.sizeOf160
 v46:=Tryz.zeroValue160
 t53:=Tryz.underlying167
 a53:=Tryz.isAgg167
 z53:=Tryz.sizeOf167
 v53:=Tryz.zeroValue167
 t57:=Tryz.underlying171
 a57:=Tryz.isAgg171
 z57:=Tryz.sizeOf171
 v57:=Tryz.zeroValue171
 t63:=Tryz.underlying184
 a63:=Tryz.isAgg184
 z63:=Tryz.sizeOf184
 v63:=Tryz.zeroValue184
 t64:=Tryz.underlying145
 a64:=Tryz.isAgg145
 z64:=Tryz.sizeOf145
 v64:=Tryz.zeroValue145
def Tryz.cloneA_ren:Go.Shelf.Ren:=⟨fun|5=>55|7=>75|n=>n,fun|23=>69|25=>3|3=>82|4=>4|20=>20|n=>n,fun|n=>n⟩
theorem Tryz.cloneA:Go.Proofs.SlLaysW.n5 Tryz.prog Tryz.cloneA_ren where
 mixed:=by kernel_rfl
 f5 := ⟨"maps.Clone[map[int]ropewalk/api.Node,int,ropewalk/api.Node]", by decide, Tryz.func55.trans (congrArg some (by kernel_rfl))⟩
 f7:=Tryz.func75.trans (congrArg some (by kernel_rfl))
 t4:=Tryz.underlying4
 a4:=Tryz.isAgg4
 z4:=Tryz.sizeOf4
 v4:=Tryz.zeroValue4
 t20:=Tryz.underlying20
 a20:=Tryz.isAgg20
 z20:=Tryz.sizeOf20
 v20:=Tryz.zeroValue20
 t23:=Tryz.underlying69
 a23:=Tryz.isAgg69
 z23:=Tryz.sizeOf69
 v23:=Tryz.zeroValue69
end Go.Proofs
-- HTr2
namespace Go.Proofs
open Go Go.Rw
def kFk (l:List Nd):Prop:=l.length≤1000000∧∀ x∈l,-9223372036854775808≤x.id∧x.id≤9223372036854775807
theorem keys_srt {l:List Nd} (h:srtN l):kA4 (ents l)=l.map Nd.id:=by
 unfold kA4 ents
 rw[List.map_map]
 have e:(Prod.fst ∘ fun x:Nd=>(x.id,nV x))=Nd.id:=rfl
 rw[e]
 refine List.mergeSort_of_pairwise ?_
 unfold srtN at h
 exact h.imp fun h1=>by simpa using Int.le_of_lt h1
theorem call_keys {Γ:Env} (hΓ:kK Tryz.prog Γ) (hC:Γ.get 34=none) {σ:AS} {d:Option Nat} {K:AS→Prop} {bx ob:Nat} {es:Array MapEntry} {cl:Nat} {l:List Nd}
    (hbx:σ.m.h bx=some (.cells [.mp ob])) (hob:σ.m.h ob=some (.map es cl)) (hM:TM es cl l) (hi:kFk l)
    (hk:cont σ d (.sl 0 1 (ints .i64 (l.map Nd.id))) K):kS Tryz.prog Γ false σ 34 [.fn 60 [.ptr bx 0]] d K:=by
 refine jR hC (sorted_raw Tryz.keysA Tryz.sortedA Tryz.sortA rfl rfl rfl hbx hob hM.1 ?_ ?_ ?_)
 ·intro p hp
  obtain ⟨x,hx,rfl⟩:=List.mem_map.1 hp
  exact hi.2 x hx
 ·rw[kEZ hM];exact hi.1
 ·rw[keys_srt hM.2];exact hk
abbrev tnodesCon:ConO where
 ι:={ p:Option TS // ∀ s,p=some s→kFk s.l }
 objs:=fun p=>tsO p.1
 args:=fun p=>[tsA p.1]
 post:=fun p objs lvs r=>objs=tsO p.1∧lvs=[((tsL p.1).length,82)]∧r = .sl 2 5 (kT (tsL p.1))
set_option maxHeartbeats 1000000 in
theorem tnodes_good:kAJ Tryz.prog 17 tnodesCon:=by
 have hΓ:kK Tryz.prog []:=kI
 refine qQ (nn:=29) Tryz.func17 (by kernel_rfl) rfl (show Tryz.f17.results.toList=[.tmp 2] from rfl) (fun _=>rfl) ?_
 rintro ⟨s,hs⟩
 refine qU hΓ (Ws:=[]) _ ?_
 cases s with
 | none =>
   simp only[aR,seval,kA,kB,kH]
   refine kW [] [.nil 5] [] [(0,82)] (.sl 2 5 (kT [])) ⟨rfl,rfl,rfl⟩ ?_
   simp only[aR,seval,kA,kB,kH,kG5]<;>(and_intros<;>first|rfl|omega|trivial)
 | some s =>
   have hi:=hs s rfl
   have e1:=kBe s.h
   simp only[aR,seval,kA,kB,kH,e1]
   repeat (with_reducible refine And.intro ?_ ?_;focus first|omega|kernel_rfl)
   refine qF (nn:=4) hΓ [] (by first|assumption|simp[kC,kQ]) Tryz.func35 (by kernel_rfl) rfl (show Tryz.f35.results.toList=[.tmp 2] from rfl) rfl ?_
   simp only[aR,seval,kA,kB,]
   repeat (with_reducible refine And.intro ?_ ?_;focus first|omega|kernel_rfl)
   refine call_keys (es:=s.es) (cl:=s.cl) (ob:=1) hΓ (by simp[kC,kQ]) (by simp[upd]) (by simp[upd]) s.h hi ?_
   simp only[aR,seval,kA,kB,]
   repeat (with_reducible refine And.intro ?_ ?_;focus first|omega|kernel_rfl)
   have hmem:∀ {i:Nat},(h:i < s.l.length)→gN s.l s.l[i].id=s.l[i]:=fun h=>by
    unfold gN
    rw[kFO (kGN s.h.2) _ (List.getElem?_eq_getElem h),List.getD_eq_getElem?_getD,List.getElem?_eq_getElem h];rfl
   have hil:(ints .i64 (s.l.map Nd.id)).length=s.l.length:=by simp[ints]
   obtain ⟨St,hSt⟩:∃ St:{ i:Nat // i≤s.l.length }→AS,∀ i,St i=AS.ofH 29 [(0,.ptr 0 0),(2,.sl 2 5 (kT (s.l.take i.1))),(12,.sl 0 1 (ints .i64 (s.l.map Nd.id))),(13,.v (.int .i64 s.l.length)),(14,.v (.int .i64 i.1))] [(0,.ptr 0 0),(1,.mp 1)] (tsO (some s)) [(i.1,82)]:=⟨_,fun _=>rfl⟩
   have hl:=hi.1
   refine kBG ?_
   refine zX [] hΓ St (fun i=>s.l.length - i.1) ⟨0,by omega⟩ (by rw[hSt];refine qC [0,1] [.nil 5] ?_;simp only[aR,seval,kA,kB,kH,List.take_zero,kG5,hil]<;>(and_intros<;>first|rfl|omega|trivial)) ?_
   rintro ⟨i,hle⟩
   rw[hSt]
   simp only
   simp only[aR,seval,kA,kB,kH]
   (with_reducible first|refine kE (fun h=>?_) (fun h=>?_)|refine kF (fun h=>?_) (fun h=>?_))
   ·have hlt:i < s.l.length:=by omega
    have e2:(ints .i64 (s.l.map Nd.id)).getD i .any = .v (.int .i64 s.l[i].id):=by simp[ints,List.getD_eq_getElem?_getD,hlt]
    have e3:=hmem hlt
    have e4:kT (s.l.take (i+1))=kT (s.l.take i)++[nA s.l[i]]:=by
     show (s.l.take (i+1)).map nA=(s.l.take i).map nA++[nA s.l[i]]
     rw[List.take_succ_eq_append_getElem hlt,List.map_append];rfl
    have e5:(kT (s.l.take i)).length=i:=by rw[kL,List.length_take];omega
    generalize s.l[i]=x at *
    simp only[aR,seval,kA,kB,kH,h,e1,e2,e3,nA,hil,e5,wO (n:=(i:Int)+1)]
    repeat (with_reducible refine And.intro ?_ ?_;focus first|omega|kernel_rfl)
    refine kN ⟨i+1,by omega⟩ (by simp only;omega) ?_
    rw[hSt];refine qC [0,1] [.live 2] ?_
    simp only[aR,seval,kA,kB,kH,e4,nA]<;>(and_intros<;>first|rfl|omega|trivial)
   ·have hi2:i=s.l.length:=by omega
    subst hi2
    have e6:=List.take_of_length_le (Nat.le_refl s.l.length)
    simp only[aR,seval,kA,kB,kH,h,e6]
    refine kW [0,1] [.live 2] (tsO (some s)) [(s.l.length,82)] (.sl 2 5 (kT s.l)) ⟨rfl,rfl,rfl⟩ ?_
    simp only[aR,seval,kA,kB,kH]<;>(and_intros<;>first|rfl|omega|trivial)
section
variable {Γ:Env} {n:Nat} {t:Nat→AV} {hd:Nat→Nat→AV} {d:Option Nat} {K:AS→Prop}
variable {nh nl:Nat} {h:Nat→Option AO} {fm:Nat→Nat} {lv:Nat→Option (Nat×Nat)} {mu:Bool}
def qL (h:Nat→Option AO) (o ob:Nat) (s:TS):Prop:=h o=some (.cells [.mp ob])∧h ob=some (.map s.es s.cl)∧o≠ob
theorem kCV {f:FuncId} {C:ConO} (hG:kAJ Tryz.prog f C) (hC:Γ.get f=none) (i:C.ι) {s:TS} (hobjs:C.objs i=tsO (some s)) {o ob:Nat} (hT:qL h o ob s) {bs:List AV} (ha:dnL [o,ob] bs (C.args i)) (ht:AV.tagsL bs=[])
    (hro:∀ objs lvs r,C.post i objs lvs r→objs=C.objs i)
    (hk:∀ lvs r,C.post i (C.objs i) lvs r→cont ⟨n,t,hd,⟨nh,h,nl+lvs.length,kGR nl lvs fm,kF0 nl lvs lv,mu⟩⟩ d (r.emb (obC [o,ob] nh) (lnC nl)) K):kS Tryz.prog Γ false ⟨n,t,hd,⟨nh,h,nl,fm,lv,mu⟩⟩ f bs d K:=by
 obtain ⟨h1,h2,h3⟩:=hT
 refine kFg hG hC i [o,ob] ⟨by simp[h3],ha,?_,ht,?_⟩ ?_
 ·rw[hobjs]
  simp only[tsO,kAV,kBE,h1,h2,jP,kBc,kAz,kBx,dn_mp]
  simp
 ·simp[z7,j3,h1,h2,kDt,AO.tags,AV.tagsL,AV.tags]
 ·intro objs lvs r hp hl
  have e:=hro _ _ _ hp
  subst e
  have e2:kCk nh [o,ob] (kDV (obC [o,ob] nh) (lnC nl) (C.objs i)) h=h:=by
   refine kEW _ _ (by rw[kD6,hobjs];rfl) fun j q x hj hx=>?_
   rw[kD1,hobjs]at hx
   match j,hj,hx with
   | 0,hj,hx=>cases hj;simp [tsO] at hx;subst hx;exact h1
   | 1,hj,hx=>cases hj;simp [tsO] at hx;subst hx;exact h2
   | j+2,hj,hx=>cases hj
  have e3:(C.objs i).length - [o,ob].length=0:=by rw[hobjs];rfl
  rw[e2,e3]
  exact hk lvs r hp
theorem kDB (hC:Γ.get 17=none) {s:TS} (hi:kFk s.l) {o ob:Nat} (hT:qL h o ob s)
    (hk:cont ⟨n,t,hd,⟨nh,h,nl+1,upd fm nl nl,upd lv nl (some (s.l.length,82)),mu⟩⟩ d (.sl nl 5 (kT s.l)) K):kS Tryz.prog Γ false ⟨n,t,hd,⟨nh,h,nl,fm,lv,mu⟩⟩ 17 [.ptr o 0] d K:=by
 refine kCV tnodes_good hC ⟨some s,fun s' hs=>by cases hs;exact hi⟩ rfl hT (by simp[tsA,dnL,dn]) rfl (fun _ _ _ hp=>hp.1) ?_
 rintro lvs r ⟨_,rfl,rfl⟩
 exact hk
theorem call_tdir (hC:Γ.get 69=none) {s:TS} {id:Int} {o ob:Nat} (hT:qL h o ob s)
    (hk:cont ⟨n,t,hd,⟨nh,h,nl,fm,lv,mu⟩⟩ d (.v (.int .i64 (dirI s.l id))) K):kS Tryz.prog Γ false ⟨n,t,hd,⟨nh,h,nl,fm,lv,mu⟩⟩ 69 [.ptr o 0,.v (.int .i64 id)] d K:=by
 refine kCV tdir_good hC (s,id) rfl hT (by simp[dnL,dn]) rfl (fun _ _ _ hp=>hp.1) ?_
 rintro lvs r ⟨_,rfl,rfl⟩
 exact hk
end
abbrev tchildCon:ConO where
 ι:={ p:TS×Int×List UInt8 // kFk p.1.l∧(∀ x∈p.1.l,1≤x.id) }
 objs:=fun p=>tsO (some p.1.1)
 args:=fun p=>[.ptr 0 0,.v (.int .i64 p.1.2.1),.v (sv p.1.2.2)]
 post:=fun p objs lvs r=>objs=tsO (some p.1.1)∧lvs=[]∧r = .tup [.v (.int .i64 (max 0 (kid p.1.2.1 p.1.2.2 p.1.1.l))),.v (.bool (decide (0 < kid p.1.2.1 p.1.2.2 p.1.1.l)))]
set_option maxHeartbeats 1000000 in
theorem tchild_good:kAJ Tryz.prog 70 tchildCon:=by
 have hΓ:kK Tryz.prog []:=kI
 refine qQ (nn:=30) Tryz.func70 (by kernel_rfl) rfl (show Tryz.f70.results.toList=[.tmp 6,.tmp 7] from rfl) (fun _=>rfl) ?_
 rintro ⟨⟨s,par,nm⟩,hi,hpos⟩
 simp only at hi hpos
 refine qU hΓ (Ws:=[]) _ ?_
 simp only[aR,seval,kA,kB,kH]
 refine kDB (s:=s) (o:=0) (ob:=1) (by simp[kC,kQ]) hi (by simp[qL]) ?_
 simp only[aR,seval,kA,kB,kH,kL]
 repeat (with_reducible refine And.intro ?_ ?_;focus first|omega|kernel_rfl)
 have hl:=hi.1
 obtain ⟨St,hSt⟩:∃ St:{ i:Nat // i≤s.l.length∧kid par nm (s.l.drop i)=kid par nm s.l }→AS,∀ i,St i=AS.ofH 30 [(0,.ptr 0 0),(1,.v (.int .i64 par)),(2,.v (sv nm)),(11,.sl 0 5 (kT s.l)),(12,.v (.int .i64 s.l.length)),(13,.v (.int .i64 i.1))] [(0,.ptr 0 0),(1,.mp 1)] (tsO (some s)) []:=⟨_,fun _=>rfl⟩
 refine kBG ?_
 refine zX [] hΓ St (fun i=>s.l.length - i.1) ⟨0,by omega,by simp⟩ (by rw[hSt];refine qC [0,1] [] ?_;simp only[aR,seval,kA,kB,kH,kL]<;>(and_intros<;>first|rfl|omega|trivial)) ?_
 rintro ⟨i,hle,hf⟩
 rw[hSt]
 simp only
 simp only[aR,seval,kA,kB,kH,kL]
 (with_reducible first|refine kE (fun h=>?_) (fun h=>?_)|refine kF (fun h=>?_) (fun h=>?_))
 ·have hlt:i < s.l.length:=by omega
  have e1:=qB s.l hlt
  have hx1:=hpos s.l[i] (List.getElem_mem hlt)
  rw[List.drop_eq_getElem_cons hlt,kid]at hf
  generalize s.l[i]=x at *
  by_cases hx:x.par=par
  ·by_cases hy:x.nm=nm
   ·rw[if_pos ⟨hx,hy⟩]at hf
    simp only[aR,seval,kA,kB,kH,h,e1,nA,kL,hx,hy]
    repeat (with_reducible refine And.intro ?_ ?_;focus first|omega|kernel_rfl)
    refine kW [0,1] [] (tsO (some s)) [] (.tup [.v (.int .i64 x.id),.v (.bool true)]) ⟨rfl,rfl,?_⟩ ?_
    ·rw[← hf,Int.max_eq_right (by omega),decide_eq_true (by omega)]
    ·simp only[aR,seval,kA,kB,kH]<;>(and_intros<;>first|rfl|omega|trivial)
   ·rw[if_neg (fun hh=>hy hh.2)]at hf
    simp only[aR,seval,kA,kB,kH,h,e1,nA,kL,hx,hy,wO (n:=(i:Int)+1)]
    repeat (with_reducible refine And.intro ?_ ?_;focus first|omega|kernel_rfl)
    refine kN ⟨i+1,by omega,hf⟩ (by simp only;omega) ?_
    rw[hSt];refine qC [0,1] [] ?_
    simp only[aR,seval,kA,kB,kH]<;>(and_intros<;>first|rfl|omega|trivial)
  ·rw[if_neg (fun hh=>hx hh.1)]at hf
   simp only[aR,seval,kA,kB,kH,h,e1,nA,kL,hx,wO (n:=(i:Int)+1)]
   repeat (with_reducible refine And.intro ?_ ?_;focus first|omega|kernel_rfl)
   refine kN ⟨i+1,by omega,hf⟩ (by simp only;omega) ?_
   rw[hSt];refine qC [0,1] [] ?_
   simp only[aR,seval,kA,kB,kH]<;>(and_intros<;>first|rfl|omega|trivial)
 ·rw[List.drop_of_length_le (by omega),kid]at hf
  simp only[aR,seval,kA,kB,kH,h]
  refine kW [0,1] [] (tsO (some s)) [] (.tup [.v (.int .i64 0),.v (.bool false)]) ⟨rfl,rfl,?_⟩ ?_
  ·rw[← hf];rfl
  ·simp only[aR,seval,kA,kB,kH]<;>(and_intros<;>first|rfl|omega|trivial)
theorem kGW {Γ:Env} {n:Nat} {t:Nat→AV} {hd:Nat→Nat→AV} {d:Option Nat} {K:AS→Prop} {nh nl:Nat} {h:Nat→Option AO} {fm:Nat→Nat} {lv:Nat→Option (Nat×Nat)} {mu:Bool} (hC:Γ.get 70=none) {s:TS} (hi:kFk s.l) (hpos:∀ x∈s.l,1≤x.id) {par:Int} {nm:List UInt8} {o ob:Nat} (hT:qL h o ob s)
    (hk:cont ⟨n,t,hd,⟨nh,h,nl,fm,lv,mu⟩⟩ d (.tup [.v (.int .i64 (max 0 (kid par nm s.l))),.v (.bool (decide (0 < kid par nm s.l)))]) K):kS Tryz.prog Γ false ⟨n,t,hd,⟨nh,h,nl,fm,lv,mu⟩⟩ 70 [.ptr o 0,.v (.int .i64 par),.v (sv nm)] d K:=by
 refine kCV tchild_good hC ⟨(s,par,nm),hi,hpos⟩ rfl hT (by simp[dnL,dn]) rfl (fun _ _ _ hp=>hp.1) ?_
 rintro lvs r ⟨_,rfl,rfl⟩
 exact hk
end Go.Proofs
