/-
 Nodes held against each other,field by field. The document's tree: names,texts;acts held against each other. Edits undone,by the program;both,by the document. Edits,unit by unit. Plain. Walks along an edit: their Kind,Len and Take,reckoned in place. Two edits as one,piece by piece. Plain. compose.Two,walked. compose.Two,walked. The document's walks. The document's Two. Keep,All: the program's,the document's. What an edit in its normal form does. Plain. The normal form,unit by unit;what two edits do as one. Plain. The document's tree: an act. The document's Check of a transaction. The document's transaction on a tree. What the acts did,in the order of the IDs. Plain. Library functions' bodies at this dump,compared by the kernel: slices.SortFunc,cmp.Compare. The order of what was done: by ID. effect.Of,up to the sort. An edit behind another one,unit by unit and piece by piece. Plain. xform.Over,walked. What an edit behind another one does. Plain. effect: own,Get,behind,Over. ComposeAsks answers true. ComposeDoes answers true. XformMeets answers true. The document's Over. EffectSees answers true. How much is given;lists of what was done,the document's and the program's. Lists of what was done: the document's and the program's. effect.Same. The document's SameOnes. EffectKeeps answers true. rebase: why an act clashes;an edit behind what was done. rebase: a transaction behind what was done. rebase.Over. What the acts did,ID by ID. Plain. Two transactions with nothing in common. Plain. How much a tree is;is it qM;whose k6 a transaction touches. The program's tree: a map of k6,by their IDs. What the map has. The program's tree: new ones;looking at k6. Library functions' bodies at this dump,compared by the kernel: maps.Keys,slices.Sorted,slices.Sort,maps.Clone. The program's tree: all its k6;from a node to the root;how many code points. The program's tree: from a node to the root;how many code points.
-/
import Derived.Test.YtfhipjafkdembaaGreatDoorXEUn1
import Derived.Test.YtfhipjafkdembaaGreatDoorXESh
import Derived.Test.YtfhipjafkdembaaGreatDoorRwJ
import Derived.Test.YtfhipjafkdembaaGreatDoorXETi
import Derived.Shelf.SlLaysF0
import Derived.Shelf.SlicesG.Cmp
import Derived.Test.YtfhipjafkdembaaGreatDoorRwK
import Derived.Test.YtfhipjafkdembaaGreatDoorRwO
import Derived.Shelf.SlIterI.Sorted
import Derived.Shelf.SlIterI.Nil
import Derived.Shelf.SlMaps.Clone
import Derived.Shelf.SortM.Plain
import Derived.Shelf.SortM.SortNone
import Derived.Test.YtfhipjafkdembaaGreatDoorRwP
set_option linter.unusedSimpArgs false
set_option linter.unusedVariables false
set_option linter.defProp false
set_option linter.unusedSectionVars false

-- EUk1e
section
namespace Go.Proofs
open Go Go.Rw
set_option maxRecDepth 100000
section
variable {P:Program}
theorem calm_eqB {d:Nat} {t:TypeId} {a b:Bool} (h:P.underlying t=some .bool):calm P (Op.equalIn (d+1) t (.bool a) (.bool b))=some (a == b):=by
 simp[Op.equalIn,kY,underlying,h]
def is5 (P:Program) (t ti ts tb:TypeId):Bool:=match P.underlying t with
 | some (.struct fs)=>match fs.toList with
   | [f1, f2, f3, f4, f5] => (f1.type == ti && (f1.offset == 0 && f1.name != "_")) && ((f2.type == ti && (f2.offset == 1 && f2.name != "_")) && ((f3.type == ts && (f3.offset == 2 && f3.name != "_")) && ((f4.type == tb && (f4.offset == 3 && f4.name != "_")) && (f5.type == ts && (f5.offset == 4 && f5.name != "_")))))
   | _=>false
 | _=>false
theorem calm_eq5 {d:Nat} {t ti ts tb:TypeId} {k:IntKind} {a b a' b':Int} {s s' u u':List UInt8} {q q':Bool} (h5:is5 P t ti ts tb=true) (hp:P.stoodInHeld t=false) (hi:P.underlying ti=some (.int k)) (hs:P.underlying ts=some .string) (hb:P.underlying tb=some .bool) :
    calm P (Op.equalIn (d+2) t (.agg #[.int .i64 a,.int .i64 b,.string ⟨s.toArray⟩,.bool q,.string ⟨u.toArray⟩]) (.agg #[.int .i64 a',.int .i64 b',.string ⟨s'.toArray⟩,.bool q',.string ⟨u'.toArray⟩]))=some (a == a' && b == b' && s == s' && q == q' && u == u'):=by
 unfold is5 at h5
 split at h5
 ·rename_i fs ht
  split at h5
  ·rename_i f1 f2 f3 f4 f5 hl
   have hfs:fs = #[f1,f2,f3,f4,f5]:=by rw[← hl]
   subst hfs
   simp only[Bool.and_eq_true,beq_iff_eq,bne_iff_ne]at h5
   obtain ⟨⟨rfl,o1,n1⟩,⟨e2,o2,n2⟩,⟨rfl,o3,n3⟩,⟨rfl,o4,n4⟩,⟨e5,o5,n5⟩⟩:=h5
   have p0:∀ (a b:Int) (s u:List UInt8) (q:Bool),calm P (part f1.type #[.int .i64 a,.int .i64 b,.string ⟨s.toArray⟩,.bool q,.string ⟨u.toArray⟩] 0)=some (.int .i64 a):=fun a b s u q=>kAa hi rfl rfl
   have p1:∀ (a b:Int) (s u:List UInt8) (q:Bool),calm P (part f1.type #[.int .i64 a,.int .i64 b,.string ⟨s.toArray⟩,.bool q,.string ⟨u.toArray⟩] 1)=some (.int .i64 b):=fun a b s u q=>kAa hi rfl rfl
   have p2:∀ (a b:Int) (s u:List UInt8) (q:Bool),calm P (part f3.type #[.int .i64 a,.int .i64 b,.string ⟨s.toArray⟩,.bool q,.string ⟨u.toArray⟩] 2)=some (.string ⟨s.toArray⟩):=fun a b s u q=>kAa hs rfl rfl
   have p3:∀ (a b:Int) (s u:List UInt8) (q:Bool),calm P (part f4.type #[.int .i64 a,.int .i64 b,.string ⟨s.toArray⟩,.bool q,.string ⟨u.toArray⟩] 3)=some (.bool q):=fun a b s u q=>kAa hb rfl rfl
   have p4:∀ (a b:Int) (s u:List UInt8) (q:Bool),calm P (part f3.type #[.int .i64 a,.int .i64 b,.string ⟨s.toArray⟩,.bool q,.string ⟨u.toArray⟩] 4)=some (.string ⟨u.toArray⟩):=fun a b s u q=>kAa hs rfl rfl
   rw[Op.equalIn]
   simp only[kY,underlying,qD,Option.bind_some,ht,zI,hp,Bool.false_eq_true,if_false,← Array.forIn_toList,List.forIn_cons,List.forIn_nil,n1,n2,n3,n4,n5,o1,o2,o3,o4,o5,e2,e5,p0,p1,p2,p3,p4,calm_eqI hi,calm_eqS hs,calm_eqB hb,if_true,ne_eq,not_false_eq_true]
   by_cases c1:a=a'<;>by_cases c2:b=b'<;>by_cases c3:s=s'<;>by_cases c4:q=q'<;>by_cases c5:u=u'<;>simp[c1,c2,c3,c4,c5,kY,p0,p1,p2,p3,p4,calm_eqI hi,calm_eqS hs,calm_eqB hb]
  ·cases h5
 ·cases h5
end
end Go.Proofs
end
-- EUk2
section
namespace Go.Proofs
open Go Go.Rw
set_option maxRecDepth 100000
theorem nodes_set (l:List Nd) (i:Nat) (x:Nd):(k6 l).set i (nA x)=k6 (l.set i x):=by simp[k6,List.map_set]
end Go.Proofs
end
-- EAp5
section
namespace Go.Proofs
open Go Go.Rw
set_option maxRecDepth 100000
end Go.Proofs
end
-- EAw0
section
namespace Go.Proofs
open Go Go.Rw
set_option maxRecDepth 100000
inductive Un where
 | r
 | d
 | i (c:Nat)
 deriving DecidableEq
def size (c:Cp):Nat:=if c.k=2 then (cpts c.t).length else c.n.toNat
end Go.Proofs
end
-- EAw1
section
namespace Go.Proofs
open Go Go.Rw
set_option maxRecDepth 100000
def part (c:Cp) (dn m:Nat):Cp:=if c.k=2 then ⟨c.k,c.n,encs (((cpts c.t).drop dn).take m)⟩ else ⟨c.k,m,c.t⟩
def advR (c:Cp) (r:List Cp) (dn m:Nat):List Cp:=if dn+m=size c then r else c::r
def advD (c:Cp) (dn m:Nat):Nat:=if dn+m=size c then 0 else dn+m
end Go.Proofs
end
-- EAw2
section
namespace Go.Proofs
open Go Go.Rw
set_option maxRecDepth 100000
def adv (w:List Cp×Nat) (n:Nat):List Cp×Nat:=match w with
 | ([],a)=>([],a)
 | (c::r,a)=>(advR c r a n,advD c a n)
def piece (w:List Cp×Nat) (n:Nat):Cp:=match w with
 | ([],_)=>⟨0,0,[]⟩
 | (c::_,a)=>part c a n
end Go.Proofs
end
-- EAw3
section
namespace Go.Proofs
open Go Go.Rw
set_option maxRecDepth 100000
end Go.Proofs
end
-- EAw4
section
namespace Go.Proofs
open Go Go.Rw
set_option maxRecDepth 100000
end Go.Proofs
end
-- EAw5
section
namespace Go.Proofs
open Go Go.Rw
set_option maxRecDepth 100000
end Go.Proofs
end
-- EAw6
section
namespace Go.Proofs
open Go Go.Rw
set_option maxRecDepth 100000
end Go.Proofs
end
-- EAw7
section
namespace Go.Proofs
open Go Go.Rw
set_option maxRecDepth 100000
def edits (l:List (List Cp)):List AV:=l.map fun x=>.sl 0 3 (qX x)
end Go.Proofs
end
-- EAq1
section
namespace Go.Proofs
open Go Go.Rw
set_option maxRecDepth 100000
end Go.Proofs
end
-- EAw9
section
namespace Go.Proofs
open Go Go.Rw
set_option maxRecDepth 100000
end Go.Proofs
end
-- EUk3
section
namespace Go.Proofs
open Go Go.Rw
set_option maxRecDepth 100000
end Go.Proofs
end
-- EUk4
section
namespace Go.Proofs
open Go Go.Rw
set_option maxRecDepth 100000
theorem one_ok {a:Ac} (h:badA a=false):oneI a=if a.k=4 then qY a.ops else 0:=by rw[oneI,h];rfl
end Go.Proofs
end
-- EUk5
section
namespace Go.Proofs
open Go Go.Rw
set_option maxRecDepth 100000
end Go.Proofs
end
-- EUe5
section
namespace Go.Proofs
open Go Go.Rw
set_option maxRecDepth 100000
end Go.Proofs
end
-- EUeL
section
namespace Go.Proofs
open Go.Shelf
end Go.Proofs
end
-- EUe4
section
namespace Go.Proofs
open Go Go.Shelf Go.RowKit Go.Lib Go.Sort
set_option maxRecDepth 100000
end Go.Proofs
end
-- EUe3
section
namespace Go.Proofs
open Go Go.Rw
set_option maxRecDepth 100000
end Go.Proofs
end
-- EAx1
section
namespace Go.Proofs
open Go Go.Rw
set_option maxRecDepth 100000
end Go.Proofs
end
-- EAx2
section
namespace Go.Proofs
open Go Go.Rw
set_option maxRecDepth 100000
end Go.Proofs
end
-- EAx4
section
namespace Go.Proofs
open Go Go.Rw
set_option maxRecDepth 100000
end Go.Proofs
end
-- EUe6
section
namespace Go.Proofs
open Go Go.Rw
set_option maxRecDepth 100000
end Go.Proofs
end
-- EAw8
section
namespace Go.Proofs
open Go Go.Rw
set_option maxRecDepth 100000
end Go.Proofs
end
-- EAw10
section
namespace Go.Proofs
open Go Go.Rw
set_option maxRecDepth 100000
end Go.Proofs
end
-- EAx5
section
namespace Go.Proofs
open Go Go.Rw
set_option maxRecDepth 100000
end Go.Proofs
end
-- EAx3
section
namespace Go.Proofs
open Go Go.Rw
set_option maxRecDepth 100000
end Go.Proofs
end
-- EUe7
section
namespace Go.Proofs
open Go Go.Rw
set_option maxRecDepth 100000
end Go.Proofs
end
-- EUe8
section
namespace Go.Proofs
open Go Go.Rw
set_option maxRecDepth 100000
def wF (m:Int):Int→List (Nat×List Cp)→Int
 | s,[]=>s
 | s,(n,c)::r=>if s≤m then wF m (sumF s [(n:Int),kA8 m 0 c,3]) r else s
theorem kFG (m:Int):∀ (l:List Cp) (s:Int),0≤s→s≤1099511627776→0≤kA8 m s l∧kA8 m s l≤1099511627776
 | [],s,h,h2=>⟨h,h2⟩
 | c::r,s,h,h2=>by
   rw[kA8]
   split
   ·have:=kA5 [(c.t.length:Int),2] (x:=s) ⟨h,h2⟩ (by simp)
    exact kFG m r _ (by omega) this.2
   ·exact ⟨h,h2⟩
abbrev wideC (c:List Cp):Prop:=c.length≤9223372036854775807∧∀ x∈c,(-9223372036854775808≤x.n∧x.n≤9223372036854775807)∧x.t.length≤9223372036854775807
abbrev GivenA:={ l:List Ac // l.length≤9223372036854775807∧∀ a∈l,a.nm.length≤9223372036854775807∧wideC a.ops }
def wA (l:List Ac):List (Nat×List Cp):=l.map fun a=>(a.nm.length,a.ops)
theorem wA_cons (a:Ac) (l:List Ac):wA (a::l)=(a.nm.length,a.ops)::wA l:=rfl
abbrev actsCon:Con where
 ι:=GivenA×{ m:Int // 0≤m∧m≤1000000 }
 args:=fun p=>[.sl 0 6 (acts p.1.1),.v (.int .i64 p.2.1)]
 post:=fun p r=>r = .v (.int .i64 (wF p.2.1 0 (wA p.1.1)))
 plain:=true
theorem acts_good:Rw.Good Tryz.prog 50 actsCon:=by
 have hΓ:kM Tryz.prog [(93,kEz),(94,kDb)]:=(kI sum_good (kI weigh_good kJ))
 refine k8 (nn:=35) hΓ Tryz.func50 (by kernel_rfl) rfl (show Tryz.f50.results.toList=[.tmp 4] from rfl) (fun _=>rfl) (fun x=>by simp[AV.erL,AV.er,acts_er]) ?_
 rintro ⟨⟨l,hl,hc⟩,⟨m,hm⟩⟩
 simp only[aR,seval,kDn]
 obtain ⟨St,hSt⟩:∃ St:{ p:Int×Nat // p.2≤l.length∧(0≤p.1∧p.1≤1099511627776)∧wF m 0 (wA l)=wF m p.1 (wA (l.drop p.2)) }→AS,∀ p,St p=AS.of 35 [(0,.sl 0 6 (acts l)),(1,.v (.int .i64 m)),(5,.v (.int .i64 p.1.1)),(6,.v (.int .i64 p.1.2))] [] []:=⟨_,fun _=>rfl⟩
 refine vc_loopD [(5,[],[])] hΓ St (fun p=>l.length - p.1.2) ⟨(0,0),by omega,by simp only;omega,rfl⟩ (by rw[hSt];refine kT [] [] ?_;simp only[aR,seval]<;>((repeat' apply And.intro)<;>first|rfl|omega|trivial)) ?_
 rintro ⟨⟨s,i⟩,hi,hs,hb⟩
 simp only at hi hs hb
 rw[hSt]
 simp only
 simp only[aR,seval,qR,kDn]
 (with_reducible first|refine kF (fun h=>?_) (fun h=>?_)|refine kG (fun h=>?_) (fun h=>?_))
 ·have hlt:i < l.length:=by omega
  have hci:=hc l[i] (List.getElem_mem hlt)
  have e1:=acts_getD l hlt
  rw[List.drop_eq_getElem_cons hlt,wA_cons,wF]at hb
  generalize l[i]=a at *
  obtain ⟨k,id,par,nm,dir,ops⟩:=a
  obtain ⟨hn,ho,hoc⟩:=hci
  simp only at hn ho hoc hb e1
  simp (disch:=omega) only[aR,seval,kD,qR,h]
  (with_reducible first|refine kF (fun h2=>?_) (fun h2=>?_)|refine kG (fun h2=>?_) (fun h2=>?_))
  ·simp (disch:=omega) only[aR,seval,kD,qR,h2,e1,aA,kDn]
   (repeat (with_reducible refine And.intro ?_ ?_;focus (first|omega|exact kE|kernel_rfl)))
   refine call_weigh (by simp[kH]) rfl ho (fun c h=>(hoc c h).2) hm ?_
   have hcb:=kFG m ops 0 (by omega) (by omega)
   simp (disch:=omega) only[aR,seval,kD,qR]
   refine call_sum (by simp[kH]) (y:=[(nm.length:Int),kA8 m 0 ops,3]) rfl hs (by simp;omega) (by simp) ?_
   simp (disch:=omega) only[aR,seval,kD,qR]
   rw[if_pos h2]at hb
   have hr:=kA5 [(nm.length:Int),kA8 m 0 ops,3] hs (by simp;omega)
   refine kN ⟨(sumF s [(nm.length:Int),kA8 m 0 ops,3],i+1),by simp only;omega,by simp only;omega,hb⟩ (by simp only;omega) ?_
   rw[hSt];refine kT [] [] ?_
   simp only[aR,seval]<;>((repeat' apply And.intro)<;>first|rfl|omega|trivial)
  ·simp (disch:=omega) only[aR,seval,kD,qR,h2]
   rw[hb,if_neg h2]
 ·simp only[aR,seval,qR,h]
  rw[List.drop_of_length_le (by omega)]at hb
  rw[hb];rfl
theorem call_acts {Γ:Env} (hf:Γ.get 50=some actsCon) {σ:AS} {dr:Bool} {l:List Ac} {m:Int} {ys:List AV} {d:Option Nat} {K:AS→Prop} (hy:ys=acts l) (h1:l.length≤9223372036854775807) (h2:∀ a∈l,a.nm.length≤9223372036854775807∧wideC a.ops) (hm:0≤m∧m≤1000000)
    (hk:cont σ d (.v (.int .i64 (wF m 0 (wA l)))) K):kS Tryz.prog Γ dr σ 50 [.sl 0 6 ys,.v (.int .i64 m)] d K:=by
 subst hy
 exact kP (C:=actsCon) (i:=(⟨l,h1,h2⟩,⟨m,hm⟩)) hf rfl rfl rfl (by simp[AV.erL,AV.er,acts_er]) (fun _ h=>h) rfl hk
end Go.Proofs
end
-- EUe9
section
namespace Go.Proofs
open Go Go.Rw
set_option maxRecDepth 100000
end Go.Proofs
end
-- EUe10
section
namespace Go.Proofs
open Go Go.Rw
set_option maxRecDepth 100000
end Go.Proofs
end
-- EUe13
section
namespace Go.Proofs
open Go Go.Rw
set_option maxRecDepth 100000
end Go.Proofs
end
-- EUe14
section
namespace Go.Proofs
open Go Go.Rw
set_option maxRecDepth 100000
end Go.Proofs
end
-- EUn4
section
namespace Go.Proofs
open Go Go.Rw
set_option maxRecDepth 100000
end Go.Proofs
end
-- EUn5
section
namespace Go.Proofs
open Go Go.Rw
set_option maxRecDepth 100000
theorem okL_nil:okL ([]:List Cp):=⟨by decide,by decide,fun c hc=>by cases hc⟩
end Go.Proofs
end
-- EUn6
section
namespace Go.Proofs
open Go Go.Rw
set_option maxRecDepth 100000
structure Reb where
 out:List Ac
 left:List On
 e:Int
 deriving DecidableEq
end Go.Proofs
end
-- EUe11
section
namespace Go.Proofs
open Go Go.Rw
set_option maxRecDepth 100000
end Go.Proofs
end
-- EUk8
section
namespace Go.Proofs
open Go Go.Rw
set_option maxRecDepth 100000
def srtN (l:List Nd):Prop:=(l.map Nd.id).Pairwise (·< ·)
def atI (i:Int):List Nd→Option Nd
 | []=>none
 | x::l=>if x.id=i then some x else atI i l
theorem at_ndx (i:Int):∀ l:List Nd,atI i l=if ndx i l < l.length then some (l.getD (ndx i l) kAv) else none
 | []=>by simp [atI,ndx]
 | x::l=>by
   rw[atI,ndx,at_ndx i l]
   by_cases h:x.id=i
   ·simp[h]
   ·simp only[if_neg h,List.length_cons,Nat.add_lt_add_iff_right,List.getD_cons_succ]
theorem at_none {i:Int}:∀ {l:List Nd},(∀ x∈l,x.id≠i)→atI i l=none
 | [],_=>rfl
 | x::l,h=>by rw [atI,if_neg (h x (List.mem_cons_self ..)),at_none fun y hy=>h y (List.mem_cons_of_mem _ hy)]
theorem at_some {i:Int} {x:Nd}:∀ {l:List Nd},atI i l=some x→x∈l∧x.id=i
 | [],h=>by simp [atI] at h
 | y::l,h=>by
   rw[atI]at h
   split at h
   ·rename_i hy;cases h;exact ⟨List.mem_cons_self ..,hy⟩
   ·exact ⟨List.mem_cons_of_mem _ (at_some h).1,(at_some h).2⟩
theorem srt_cons {x:Nd} {l:List Nd}:srtN (x::l)↔(∀ y∈l,x.id < y.id)∧srtN l:=by
 simp only[srtN,List.map_cons,List.pairwise_cons,List.mem_map,forall_exists_index,and_imp,forall_apply_eq_imp_iff₂]
def insN (x:Nd):List Nd→List Nd
 | []=>[x]
 | y::l=>if y.id < x.id then y::insN x l else x::y::l
theorem ins_eq (x:Nd):∀ l:List Nd,l.take (atN x.id l)++x::l.drop (atN x.id l)=insN x l
 | []=>rfl
 | y::l=>by
   rw[atN,insN]
   split
   ·rw[List.take_succ_cons,List.drop_succ_cons,List.cons_append,ins_eq x l]
   ·simp
theorem ins_mem (x y:Nd):∀ l:List Nd,y∈insN x l→y=x∨y∈l
 | [],h=>.inl (by simpa [insN] using h)
 | z::l,h=>by
   rw[insN]at h
   split at h
   ·rcases List.mem_cons.1 h with h|h
    ·exact .inr (by simp[h])
    ·rcases ins_mem x y l h with h|h
     ·exact .inl h
     ·exact .inr (List.mem_cons_of_mem _ h)
   ·rcases List.mem_cons.1 h with h|h
    ·exact .inl h
    ·exact .inr h
theorem ins_srt (x:Nd):∀ l:List Nd,srtN l→(∀ y∈l,y.id≠x.id)→srtN (insN x l)
 | [],_,_=>by simp [insN,srtN]
 | y::l,h,hn=>by
   obtain ⟨h1,h2⟩:=srt_cons.1 h
   have hy:=hn y (List.mem_cons_self ..)
   rw[insN]
   split
   ·rename_i hlt
    refine srt_cons.2 ⟨fun z hz=>?_,ins_srt x l h2 fun z hz=>hn z (List.mem_cons_of_mem _ hz)⟩
    rcases ins_mem x z l hz with rfl|hz
    ·exact hlt
    ·exact h1 z hz
   ·refine srt_cons.2 ⟨fun z hz=>?_,h⟩
    rcases List.mem_cons.1 hz with rfl|hz
    ·omega
    ·have:=h1 z hz;omega
theorem ins_at (x:Nd) (i:Int):∀ l:List Nd,(∀ y∈l,y.id≠x.id)→atI i (insN x l)=if i=x.id then some x else atI i l
 | [],_=>by
   by_cases h:i=x.id
   ·rw[if_pos h,insN,atI,if_pos h.symm]
   ·rw[if_neg h,insN];simp[atI,Ne.symm h]
 | y::l,hn=>by
   have hy:=hn y (List.mem_cons_self ..)
   have ih:=ins_at x i l fun z hz=>hn z (List.mem_cons_of_mem _ hz)
   rw[insN]
   split
   ·rw[atI,ih,atI]
    by_cases h:i=x.id
    ·rw[if_neg (by rw[h];exact hy),if_pos h,if_pos h]
    ·rw[if_neg h,if_neg h]
   ·rw[atI]
    by_cases h:i=x.id
    ·rw[if_pos h.symm,if_pos h]
    ·rw[if_neg (Ne.symm h),if_neg h]
def delN (i:Int):List Nd→List Nd
 | []=>[]
 | x::l=>if x.id=i then l else x::delN i l
theorem del_eq (i:Int):∀ l:List Nd,l.take (ndx i l)++l.drop (ndx i l+1)=delN i l
 | []=>rfl
 | x::l=>by
   rw[ndx,delN]
   split
   ·simp
   ·rw[List.take_succ_cons,List.drop_succ_cons,List.cons_append,del_eq i l]
theorem del_mem (i:Int) (y:Nd):∀ l:List Nd,y∈delN i l→y∈l
 | [],h=>h
 | x::l,h=>by
   rw[delN]at h
   split at h
   ·exact List.mem_cons_of_mem _ h
   ·rcases List.mem_cons.1 h with h|h
    ·simp[h]
    ·exact List.mem_cons_of_mem _ (del_mem i y l h)
theorem del_srt (i:Int):∀ l:List Nd,srtN l→srtN (delN i l)
 | [],h=>h
 | x::l,h=>by
   obtain ⟨h1,h2⟩:=srt_cons.1 h
   rw[delN]
   split
   ·exact h2
   ·exact srt_cons.2 ⟨fun y hy=>h1 y (del_mem i y l hy),del_srt i l h2⟩
theorem del_at (k i:Int):∀ l:List Nd,srtN l→atI i (delN k l)=if i=k then none else atI i l
 | [],h=>by simp [delN,atI]
 | x::l,h=>by
   obtain ⟨h1,h2⟩:=srt_cons.1 h
   rw[delN]
   by_cases hx:x.id=k
   ·rw[if_pos hx,atI]
    by_cases hi:i=k
    ·rw[if_pos hi,at_none fun y hy=>by have:=h1 y hy;omega]
    ·rw[if_neg hi,if_neg (by omega)]
   ·rw[if_neg hx,atI,atI,del_at k i l h2]
    by_cases hi:i=k
    ·rw[if_neg (by omega),if_pos hi,if_pos hi]
    ·rw[if_neg hi,if_neg hi]
theorem set_srt {i:Int} {y:Nd} (hy:y.id=i):∀ l:List Nd,(l.set (ndx i l) y).map Nd.id=l.map Nd.id
 | []=>rfl
 | x::l=>by
   rw[ndx]
   split
   ·rename_i h;simp[hy,h]
   ·rw[List.set_cons_succ,List.map_cons,set_srt hy l,List.map_cons]
theorem set_at {k:Int} {y:Nd} (hy:y.id=k) (i:Int):∀ l:List Nd,ndx k l < l.length→atI i (l.set (ndx k l) y)=if i=k then some y else atI i l
 | [],h=>by simp [ndx] at h
 | x::l,h=>by
   rw[ndx]at h ⊢
   by_cases hx:x.id=k
   ·rw[if_pos hx,List.set_cons_zero,atI,atI]
    by_cases hi:i=k
    ·rw[if_pos hi,if_pos (by omega)]
    ·rw[if_neg hi,if_neg (by omega),if_neg (by omega)]
   ·rw[if_neg hx]at h ⊢
    rw[List.set_cons_succ,atI,atI,set_at hy i l (by simpa using h)]
    by_cases hi:i=k
    ·rw[if_neg (by omega),if_pos hi,if_pos hi]
    ·rw[if_neg hi,if_neg hi]
def kCJ (a:Ac) (o:Option Nd):Option Nd :=
 if a.k=1 then some ⟨a.id,a.par,a.nm,a.dir,[]⟩ else if a.k=2 then none
 else if a.k=3 then o.map fun x=>⟨x.id,a.par,a.nm,x.dir,x.text⟩ else o.map fun x=>⟨x.id,x.par,x.nm,x.dir,z8 x.text a.ops⟩
theorem kFM {l:List Nd} {a:Ac} (h:(doN l a).2=0) (hs:srtN l):srtN (doN l a).1∧∀ i,atI i (doN l a).1=if i=a.id then kCJ a (atI i l) else atI i l:=by
 have hid:ndx a.id l < l.length→(l.getD (ndx a.id l) kAv).id=a.id:=fun hl=>by
  rw[List.getD_eq_getElem?_getD,List.getElem?_eq_getElem hl];exact ndx_get a.id l hl
 have hset:∀ (y:Nd) (f:Nd→Nd),ndx a.id l < l.length→y=f (l.getD (ndx a.id l) kAv)→(∀ x,(f x).id=x.id)→srtN (l.set (ndx a.id l) y)∧∀ i,atI i (l.set (ndx a.id l) y)=if i=a.id then (atI i l).map f else atI i l:=fun y f hl hy hf=>by
  have e:y.id=a.id:=by rw[hy,hf,hid hl]
  refine ⟨by rw[srtN,set_srt e];exact hs,fun i=>?_⟩
  rw[set_at e i l hl]
  by_cases hi:i=a.id
  ·rw[if_pos hi,if_pos hi,hi,at_ndx,if_pos hl,hy];rfl
  ·rw[if_neg hi,if_neg hi]
 unfold doN at h ⊢
 simp only at h ⊢
 by_cases k1:a.k=1
 ·simp only[k1,if_true]at h ⊢
  by_cases c1:a.id < 1∨a.id > 1099511627776∨qA a.nm=false
  ·rw[if_pos c1]at h;simp at h
  rw[if_neg c1]at h ⊢
  by_cases c2:ndx a.id l < l.length
  ·rw[if_pos c2]at h;simp at h
  rw[if_neg c2]at h ⊢
  by_cases c3:jG l a.par a.nm 0≠0
  ·rw[if_pos c3]at h;exact absurd h c3
  rw[if_neg c3]at h ⊢
  by_cases c4:l.length ≥ 100
  ·rw[if_pos c4]at h;simp at h
  rw[if_neg c4]
  have hn:∀ y∈l,y.id≠a.id:=fun y hy e=>c2 ((kEA a.id l).2 ⟨y,hy,e⟩)
  have e1:=ins_eq ⟨a.id,a.par,a.nm,a.dir,[]⟩ l
  simp only at e1 ⊢
  rw[e1]
  refine ⟨ins_srt _ l hs hn,fun i=>?_⟩
  rw[ins_at _ i l hn]
  simp only[kCJ,k1,if_true]
 simp only[k1,if_false]at h ⊢
 by_cases k2:a.k=2
 ·simp only[k2,if_true]at h ⊢
  by_cases c1:¬ ndx a.id l < l.length
  ·rw[if_pos c1]at h;simp at h
  rw[if_neg c1]at h ⊢
  by_cases c2:(l.any fun y=>decide (y.par=a.id))=true
  ·rw[if_pos c2]at h;simp at h
  rw[if_neg c2]
  simp only
  rw[del_eq]
  refine ⟨del_srt _ l hs,fun i=>?_⟩
  rw[del_at _ i l hs]
  simp[kCJ,k2]
 simp only[k2,if_false]at h ⊢
 by_cases k3:a.k=3
 ·simp only[k3,if_true]at h ⊢
  by_cases c1:qA a.nm=false
  ·rw[if_pos c1]at h;simp at h
  rw[if_neg c1]at h ⊢
  by_cases c2:¬ ndx a.id l < l.length
  ·rw[if_pos c2]at h;simp at h
  rw[if_neg c2]at h ⊢
  by_cases c3:jG l a.par a.nm a.id≠0
  ·rw[if_pos c3]at h;exact absurd h c3
  rw[if_neg c3]
  have:=hset _ (fun x=>⟨x.id,a.par,a.nm,x.dir,x.text⟩) (Decidable.not_not.1 c2) rfl (fun _=>rfl)
  simpa [kCJ,k3] using this
 simp only[k3,if_false]at h ⊢
 by_cases k4:a.k=4
 ·simp only[k4,if_true]at h ⊢
  by_cases c2:¬ ndx a.id l < l.length
  ·rw[if_pos c2]at h;simp at h
  rw[if_neg c2]at h ⊢
  by_cases c1:(l.getD (ndx a.id l) kAv).dir=true
  ·rw[if_pos c1]at h;simp at h
  rw[if_neg c1]at h ⊢
  by_cases c3:errI (l.getD (ndx a.id l) kAv).text a.ops≠0
  ·rw[if_pos c3]at h;exact absurd h c3
  rw[if_neg c3]at h ⊢
  split at h
  ·simp at h
  rename_i c5
  rw[if_neg c5]
  have:=hset _ (fun x=>⟨x.id,x.par,x.nm,x.dir,z8 x.text a.ops⟩) (Decidable.not_not.1 c2) rfl (fun _=>rfl)
  simpa [kCJ,k4] using this
 ·simp only[k4,if_false]at h
  simp at h
end Go.Proofs
end
-- EUk9
section
namespace Go.Proofs
open Go Go.Rw
set_option maxRecDepth 100000
def nF (m:Int):Int→List Nd→Int
 | s,[]=>s
 | s,x::r=>if s≤m then nF m (sumF s [(x.nm.length:Int),(x.text.length:Int),3]) r else s
abbrev GivenN:={ l:List Nd // l.length≤9223372036854775807∧∀ x∈l,x.nm.length≤9223372036854775807∧x.text.length≤9223372036854775807 }
abbrev kC3:Con where
 ι:=GivenN×{ m:Int // 0≤m∧m≤1000000 }
 args:=fun p=>[.sl 0 5 (k6 p.1.1),.v (.int .i64 p.2.1)]
 post:=fun p r=>r = .v (.int .i64 (nF p.2.1 0 p.1.1))
 plain:=true
theorem wnodes_good:Rw.Good Tryz.prog 49 kC3:=by
 have hΓ:kM Tryz.prog [(93,kEz)]:=(kI sum_good kJ)
 refine k8 (nn:=34) hΓ Tryz.func49 (by kernel_rfl) rfl (show Tryz.f49.results.toList=[.tmp 4] from rfl) (fun _=>rfl) (fun x=>by simp[AV.erL,AV.er,kDl]) ?_
 rintro ⟨⟨l,hl,hc⟩,⟨m,hm⟩⟩
 simp only[aR,seval,kO]
 obtain ⟨St,hSt⟩:∃ St:{ p:Int×Nat // p.2≤l.length∧(0≤p.1∧p.1≤1099511627776)∧nF m 0 l=nF m p.1 (l.drop p.2) }→AS,∀ p,St p=AS.of 34 [(0,.sl 0 5 (k6 l)),(1,.v (.int .i64 m)),(5,.v (.int .i64 p.1.1)),(6,.v (.int .i64 p.1.2))] [] []:=⟨_,fun _=>rfl⟩
 refine vc_loopD [(5,[],[])] hΓ St (fun p=>l.length - p.1.2) ⟨(0,0),by omega,by simp only;omega,rfl⟩ (by rw[hSt];refine kT [] [] ?_;simp only[aR,seval]<;>((repeat' apply And.intro)<;>first|rfl|omega|trivial)) ?_
 rintro ⟨⟨s,i⟩,hi,hs,hb⟩
 simp only at hi hs hb
 rw[hSt]
 simp only
 simp only[aR,seval,qR,kO]
 (with_reducible first|refine kF (fun h=>?_) (fun h=>?_)|refine kG (fun h=>?_) (fun h=>?_))
 ·have hlt:i < l.length:=by omega
  have hci:=hc l[i] (List.getElem_mem hlt)
  have e1:=zJ l hlt
  rw[List.drop_eq_getElem_cons hlt,nF]at hb
  generalize l[i]=a at *
  obtain ⟨id,par,nm,dir,tx⟩:=a
  obtain ⟨hn,ho⟩:=hci
  simp only at hn ho hb e1
  simp (disch:=omega) only[aR,seval,kD,qR,h]
  (with_reducible first|refine kF (fun h2=>?_) (fun h2=>?_)|refine kG (fun h2=>?_) (fun h2=>?_))
  ·simp (disch:=omega) only[aR,seval,kD,qR,h2,e1,nA,kO]
   (repeat (with_reducible refine And.intro ?_ ?_;focus (first|omega|exact kE|kernel_rfl)))
   refine call_sum (by simp[kH]) (y:=[(nm.length:Int),(tx.length:Int),3]) rfl hs (by simp;omega) (by simp) ?_
   simp (disch:=omega) only[aR,seval,kD,qR]
   rw[if_pos h2]at hb
   have hr:=kA5 [(nm.length:Int),(tx.length:Int),3] hs (by simp)
   refine kN ⟨(sumF s [(nm.length:Int),(tx.length:Int),3],i+1),by simp only;omega,by simp only;omega,hb⟩ (by simp only;omega) ?_
   rw[hSt];refine kT [] [] ?_
   simp only[aR,seval]<;>((repeat' apply And.intro)<;>first|rfl|omega|trivial)
  ·simp (disch:=omega) only[aR,seval,kD,qR,h2]
   rw[hb,if_neg h2]
 ·simp only[aR,seval,qR,h]
  rw[List.drop_of_length_le (by omega)]at hb
  rw[hb];rfl
theorem call_wnodes {Γ:Env} (hf:Γ.get 49=some kC3) {σ:AS} {dr:Bool} {l:List Nd} {m:Int} {ys:List AV} {d:Option Nat} {K:AS→Prop} (hy:ys=k6 l) (h1:l.length≤9223372036854775807) (h2:∀ a∈l,a.nm.length≤9223372036854775807∧a.text.length≤9223372036854775807) (hm:0≤m∧m≤1000000)
    (hk:cont σ d (.v (.int .i64 (nF m 0 l))) K):kS Tryz.prog Γ dr σ 49 [.sl 0 5 ys,.v (.int .i64 m)] d K:=by
 subst hy
 exact kP (C:=kC3) (i:=(⟨l,h1,h2⟩,⟨m,hm⟩)) hf rfl rfl rfl (by simp[AV.erL,AV.er,kDl]) (fun _ h=>h) rfl hk
end Go.Proofs
end
-- ETr0
section
namespace Go.Proofs
open Go Go.Rw
set_option maxRecDepth 100000
def nV (x:Nd):Value:=.agg #[.int .i64 x.id,.int .i64 x.par,sv x.nm,.bool x.dir,sv x.text]
def ents (l:List Nd):List (Int×Value):=l.map fun x=>(x.id,nV x)
def hasN (l:List Nd) (id:Int):Bool:=decide (ndx id l < l.length)
def gN (l:List Nd) (id:Int):Nd:=l.getD (ndx id l) kAv
theorem qH (l:List Nd) (id:Int):hasN l id=true↔ndx id l < l.length:=by simp[hasN]
theorem lk_ents (k:Int):∀ l:List Nd,lkG k (ents l)=if hasN l k=true then some (nV (gN l k)) else none
 | []=>rfl
 | x::l=>by
   have ih:=lk_ents k l
   rw[ents,List.map_cons,lkG,show List.map (fun x:Nd=>(x.id,nV x)) l=ents l from rfl,ih]
   by_cases h:x.id=k
   ·simp[h,hasN,ndx,gN]
   ·simp only[if_neg h,hasN,ndx,gN,List.length_cons,decide_eq_true_eq,Nat.add_lt_add_iff_right,List.getD_cons_succ]
def TM (es:Array MapEntry) (cl:Nat) (l:List Nd):Prop:=MapG es cl (ents l)∧srtN l
theorem zero_node:jV Tryz.prog 42=some (nA kAv):=by kernel_rfl
theorem elem_node:kB8 Tryz.prog 79=some 42:=by kernel_rfl
theorem kA0 {es:Array MapEntry} {cl:Nat} {l:List Nd} (h:TM es cl l) (id:Int) (c:Bool):kC5 Tryz.prog 79 (.int .i64) (.int .i64 id) es.toList c=some (kDJ c (nA (gN l id)) (hasN l id)):=by
 rw[lkG_look h.1,lk_ents]
 by_cases hh:hasN l id=true
 ·rw[if_pos hh,hh];rfl
 ·rw[if_neg hh,elem_node]
  simp only[zero_node,Option.map_some]
  have e1:hasN l id=false:=by simpa using hh
  have e2:gN l id=kAv:=by
   unfold gN
   rw[List.getD_eq_getElem?_getD,List.getElem?_eq_none (by simp[hasN]at hh;omega)];rfl
  rw[e1,e2]
theorem kCm {es:Array MapEntry} {cl:Nat} {l:List Nd} (h:TM es cl l):es.size=l.length:=by rw[h.1.size,ents,List.length_map]
theorem tm_empty:TM #[] 0 []:=⟨MapG.empty,by simp[srtN]⟩
def setT (x:Nd) (l:List Nd):List Nd:=if hasN l x.id=true then l.set (ndx x.id l) x else l.take (atN x.id l)++x::l.drop (atN x.id l)
theorem srt_mem {l:List Nd} (h:srtN l):(l.map Nd.id).Nodup:=by
 unfold srtN at h
 exact h.imp fun h1=>by omega
theorem ndx_self {x:Nd}:∀ {l:List Nd},(l.map Nd.id).Nodup→∀ i,l[i]? = some x→ndx x.id l=i
 | [],_,_,h=>by simp at h
 | y::l,hu,0,h=>by
   simp only[List.getElem?_cons_zero,Option.some.injEq]at h
   rw[ndx,if_pos (by rw[h])]
 | y::l,hu,i+1,h=>by
   simp only[List.getElem?_cons_succ]at h
   simp only[List.map_cons,List.nodup_cons]at hu
   rw[ndx,if_neg,ndx_self hu.2 i h]
   intro he
   apply hu.1
   rw[he]
   exact List.mem_map.2 ⟨x,List.mem_of_getElem? h,rfl⟩
theorem kAy {l:List Nd} {id:Int} (h:hasN l id=true):∃ hh:ndx id l < l.length,gN l id=l[ndx id l]∧(l[ndx id l]).id=id:=by
 have hh:=(qH l id).1 h
 refine ⟨hh,?_,ndx_get id l hh⟩
 unfold gN
 rw[List.getD_eq_getElem?_getD,List.getElem?_eq_getElem hh];rfl
theorem put_ents {l:List Nd} (hs:(l.map Nd.id).Nodup) (x:Nd):(putG x.id (nV x) (ents l)).Perm (ents (setT x l)):=by
 unfold putG setT
 rw[lk_ents]
 by_cases hh:hasN l x.id=true
 ·rw[if_pos hh,if_pos hh]
  obtain ⟨h1,h2,h3⟩:=kAy hh
  rw[if_pos (show (some (nV (gN l x.id))).isSome=true from rfl)]
  have hk:kAW (ents l):=by
   unfold kAW ents
   rw[List.map_map];exact hs
  have hat:(ents l)[ndx x.id l]? = some (x.id,nV l[ndx x.id l]):=by
   unfold ents
   rw[List.getElem?_map,List.getElem?_eq_getElem h1]
   simp[h3]
  rw[map_one hk hat]
  unfold ents
  rw[List.map_set]
 ·rw[if_neg hh,if_neg hh]
  simp only[Option.isSome_none,Bool.false_eq_true,if_false]
  unfold ents
  rw[List.map_append,List.map_cons]
  have e:l.map (fun x=>(x.id,nV x))=(l.take (atN x.id l)).map (fun x=>(x.id,nV x))++(l.drop (atN x.id l)).map (fun x=>(x.id,nV x)):=by
   rw[← List.map_append,List.take_append_drop]
  rw[e]
  refine (List.perm_append_comm).trans ?_
  simp only[List.singleton_append]
  exact List.perm_middle.symm
theorem ndx_ids {l:List Nd} {k:Int} (h:¬ ndx k l < l.length):∀ x∈l,x.id≠k:=fun x hx he=>h ((kEA k l).2 ⟨x,hx,he⟩)
theorem atN_lo {k:Int}:∀ (l:List Nd),∀ x∈l.take (atN k l),x.id < k
 | [],x,h=>by simp [atN] at h
 | y::l,x,h=>by
   rw[atN]at h
   split at h
   ·rename_i hy
    rw[List.take_succ_cons]at h
    rcases List.mem_cons.1 h with rfl|h1
    ·exact hy
    ·exact atN_lo l x h1
   ·simp at h
theorem atN_hi {k:Int}:∀ (l:List Nd),srtN l→∀ x∈l.drop (atN k l),k≤x.id
 | [],_,x,h=>by simp at h
 | y::l,hs,x,h=>by
   simp only[srtN,List.map_cons,List.pairwise_cons]at hs
   rw[atN]at h
   split at h
   ·rw[List.drop_succ_cons]at h
    exact atN_hi l hs.2 x h
   ·rename_i hy
    simp only[List.drop_zero]at h
    rcases List.mem_cons.1 h with rfl|h1
    ·omega
    ·have:=hs.1 x.id (List.mem_map.2 ⟨x,h1,rfl⟩);omega
theorem srt_put {l:List Nd} (hs:srtN l) (x:Nd):srtN (setT x l):=by
 unfold setT
 split
 ·rename_i hh
  obtain ⟨h1,h2,h3⟩:=kAy hh
  unfold srtN at hs ⊢
  rw[List.map_set]
  have:(l.map Nd.id).set (ndx x.id l) x.id=l.map Nd.id:=by
   apply List.ext_getElem (by simp)
   intro j h4 h5
   rw[List.getElem_set]
   split
   ·rename_i hij;subst hij;simp[h3]
   ·rfl
  rw[this];exact hs
 ·rename_i hh
  have hne:=ndx_ids (k:=x.id) (l:=l) (by simpa [hasN] using hh)
  unfold srtN
  rw[List.map_append,List.map_cons,List.pairwise_append]
  have hsub:∀ {m:List Nd},m.Sublist l→(m.map Nd.id).Pairwise (·< ·):=fun h=>List.Pairwise.sublist (h.map _) hs
  refine ⟨hsub (List.take_sublist _ _),?_,?_⟩
  ·rw[List.pairwise_cons]
   refine ⟨fun a ha=>?_,hsub (List.drop_sublist _ _)⟩
   obtain ⟨y,hy,rfl⟩:=List.mem_map.1 ha
   have h1:=atN_hi l hs y hy
   have h2:=hne y (List.mem_of_mem_drop hy)
   omega
  ·intro a ha b hb
   obtain ⟨y,hy,rfl⟩:=List.mem_map.1 ha
   have h1:=atN_lo l y hy
   rcases List.mem_cons.1 hb with rfl|hb
   ·exact h1
   ·obtain ⟨z,hz,rfl⟩:=List.mem_map.1 hb
    have h2:=atN_hi l hs z hz
    omega
theorem put_tm {es:Array MapEntry} {cl:Nat} {l:List Nd} (h:TM es cl l) (x:Nd):∃ es' cl',updO (.int .i64) (.int .i64 x.id) (nV x) (some (.map es cl))=some (.map es' cl')∧TM es' cl' (setT x l):=by
 obtain ⟨es',cl',h1,h2⟩:=h.1.upd (j:=.i64) x.id (nV x)
 exact ⟨es',cl',h1,h2.perm (put_ents (srt_mem h.2) x),srt_put h.2 x⟩
def offT (id:Int) (l:List Nd):List Nd:=l.take (ndx id l)++l.drop (ndx id l+1)
theorem kFB {id:Int}:∀ {l:List Nd},(l.map Nd.id).Nodup→offT id l=l.filter fun x=>x.id≠id
 | [],_=>rfl
 | y::l,hu=>by
   simp only[List.map_cons,List.nodup_cons]at hu
   have ih:=kFB (id:=id) hu.2
   unfold offT at ih ⊢
   rw[ndx]
   by_cases h:y.id=id
   ·rw[if_pos h,List.filter_cons_of_neg (by simp[h])]
    simp only[List.take_zero,List.nil_append,Nat.zero_add,List.drop_succ_cons,List.drop_zero]
    symm
    rw[List.filter_eq_self]
    intro z hz
    simp only[ne_eq,decide_not,Bool.not_eq_eq_eq_not,Bool.not_true,decide_eq_false_iff_not]
    intro hk
    apply hu.1
    rw[h,← hk]
    exact List.mem_map.2 ⟨z,hz,rfl⟩
   ·rw[if_neg h,List.filter_cons_of_pos (by simpa using h),List.take_succ_cons,List.drop_succ_cons,List.cons_append,ih]
theorem off_tm {es:Array MapEntry} {cl:Nat} {l:List Nd} (h:TM es cl l) (id:Int):∃ es' cl',delO (.int .i64) (.int .i64 id) (some (.map es cl))=some (.map es' cl')∧TM es' cl' (offT id l):=by
 obtain ⟨es',cl',h1,h2⟩:=h.1.del (j:=.i64) id
 rw[kFB (srt_mem h.2)]
 refine ⟨es',cl',h1,?_,List.Pairwise.sublist (List.Sublist.map _ List.filter_sublist) h.2⟩
 have e:delG id (ents l)=ents (l.filter fun x=>x.id≠id):=by
  unfold delG ents
  rw[List.filter_map];rfl
 rw[← e];exact h2
end Go.Proofs
end
-- ETr1
section
namespace Go.Proofs
open Go Go.Rw
set_option maxRecDepth 100000
abbrev tnewCon:ConO where
 ι:=Unit
 objs:=fun _=>[]
 args:=fun _=>[]
 post:=fun _ objs lvs r=>objs=[.cells [.mp 1],.map #[] 0]∧lvs=[]∧r = .ptr 0 0
theorem tnew_good:jJ Tryz.prog 28 tnewCon:=by
 have hΓ:kM Tryz.prog []:=kJ
 refine qG (nn:=4) Tryz.func28 (by kernel_rfl) rfl (show Tryz.f28.results.toList=[.tmp 0] from rfl) (fun _=>rfl) ?_
 rintro ⟨⟩
 refine qQ hΓ (Ws:=[]) _ ?_
 simp only[aR,seval,kA,kB,]
 refine kQ [1,0] [] [.cells [.mp 1],.map #[] 0] [] (.ptr 0 0) ⟨rfl,rfl,rfl⟩ ?_
 simp only[aR,seval,kA,kB,]<;>((repeat' apply And.intro)<;>first|rfl|omega|trivial)
structure TS where
 es:Array MapEntry
 cl:Nat
 l:List Nd
 h:TM es cl l
def tsO:Option TS→List AO
 | none=>[]
 | some s=>[.cells [.mp 1],.map s.es s.cl]
def tsA:Option TS→AV
 | none=>.v (.pointer none)
 | some _=>.ptr 0 0
def tsL:Option TS→List Nd
 | none=>[]
 | some s=>s.l
theorem tsO_none:tsO none=[]:=rfl
theorem tsO_some {s:TS}:tsO (some s)=[.cells [.mp 1],.map s.es s.cl]:=rfl
theorem tsA_none:tsA none = .v (.pointer none):=rfl
theorem tsA_some {s:TS}:tsA (some s) = .ptr 0 0:=rfl
def kC:=(And.intro @tsO_none (And.intro @tsO_some (And.intro @tsA_none @tsA_some)))
abbrev tgetCon:ConO where
 ι:=Option TS×Int
 objs:=fun p=>tsO p.1
 args:=fun p=>[tsA p.1,.v (.int .i64 p.2)]
 post:=fun p objs lvs r=>objs=tsO p.1∧lvs=[]∧r = .tup [nA (gN (tsL p.1) p.2),.v (.bool (hasN (tsL p.1) p.2))]
theorem tget_good:jJ Tryz.prog 23 tgetCon:=by
 have hΓ:kM Tryz.prog []:=kJ
 refine qG (nn:=22) Tryz.func23 (by kernel_rfl) rfl (show Tryz.f23.results.toList=[.cell 4 42,.tmp 5] from rfl) (fun _=>rfl) ?_
 rintro ⟨s,id⟩
 refine qQ hΓ (Ws:=[]) _ ?_
 cases s with
 | none =>
   simp only[aR,seval,kA,kB,kC]
   trace_state
   refine kQ [] [] [] [] (.tup [nA kAv,.v (.bool false)]) ⟨rfl,rfl,rfl⟩ ?_
   simp only[aR,seval,kA,kB,kC,nA,kAv]<;>((repeat' apply And.intro)<;>first|rfl|omega|trivial)
 | some s =>
   have e1:=kA0 s.h
   simp only[aR,seval,kA,kB,kC,e1,nA]
   (repeat (with_reducible refine And.intro ?_ ?_;focus (first|omega|exact kE|kernel_rfl)))
   trace_state
   refine kQ [0,1] [] (tsO (some s)) [] (.tup [nA (gN s.l id),.v (.bool (hasN s.l id))]) ⟨rfl,rfl,rfl⟩ ?_
   simp only[aR,seval,kA,kB,kC,nA]<;>((repeat' apply And.intro)<;>first|rfl|omega|trivial)
def dirI (l:List Nd) (par:Int):Int:=if par=0 then 0 else if hasN l par=true then (if (gN l par).dir=true then 0 else 8) else 5
abbrev tdirCon:ConO where
 ι:=TS×Int
 objs:=fun p=>tsO (some p.1)
 args:=fun p=>[.ptr 0 0,.v (.int .i64 p.2)]
 post:=fun p objs lvs r=>objs=tsO (some p.1)∧lvs=[]∧r = .v (.int .i64 (dirI p.1.l p.2))
theorem tdir_good:jJ Tryz.prog 99 tdirCon:=by
 have hΓ:kM Tryz.prog []:=kJ
 refine qG (nn:=26) Tryz.func99 (by kernel_rfl) rfl (show Tryz.f99.results.toList=[.tmp 4] from rfl) (fun _=>rfl) ?_
 rintro ⟨s,par⟩
 refine qQ hΓ (Ws:=[]) _ ?_
 have e1:=kA0 s.h
 have fin:∀ {σ:AS} {v:Int},dirI s.l par=v→RetG tdirCon (s,par) σ [.v (.int .i64 v)]→RetG tdirCon (s,par) σ [.v (.int .i64 (dirI s.l par))]:=fun h1 h2=>by rw[h1];exact h2
 simp only[aR,seval,kA,kB,kC,e1,nA]
 (repeat (with_reducible refine And.intro ?_ ?_;focus (first|omega|exact kE|kernel_rfl)))
 by_cases h1:par=0
 ·simp only[aR,seval,kA,kB,kC,e1,nA,h1]
  refine kQ [0,1] [] (tsO (some s)) [] (.v (.int .i64 0)) ⟨rfl,rfl,by simp[dirI]⟩ ?_
  simp only[aR,seval,kA,kB,kC,nA]<;>((repeat' apply And.intro)<;>first|rfl|omega|trivial)
 cases h2:hasN s.l par
 ·simp only[aR,seval,kA,kB,kC,e1,nA,h1,h2]
  refine kQ [0,1] [] (tsO (some s)) [] (.v (.int .i64 5)) ⟨rfl,rfl,by simp[dirI,h1,h2]⟩ ?_
  simp only[aR,seval,kA,kB,kC,nA]<;>((repeat' apply And.intro)<;>first|rfl|omega|trivial)
 cases h3:(gN s.l par).dir
 ·simp only[aR,seval,kA,kB,kC,e1,nA,h1,h2,h3]
  refine kQ [0,1] [] (tsO (some s)) [] (.v (.int .i64 8)) ⟨rfl,rfl,by simp[dirI,h1,h2,h3]⟩ ?_
  simp only[aR,seval,kA,kB,kC,nA]<;>((repeat' apply And.intro)<;>first|rfl|omega|trivial)
 ·simp only[aR,seval,kA,kB,kC,e1,nA,h1,h2,h3]
  refine kQ [0,1] [] (tsO (some s)) [] (.v (.int .i64 0)) ⟨rfl,rfl,by simp[dirI,h1,h2,h3]⟩ ?_
  simp only[aR,seval,kA,kB,kC,nA]<;>((repeat' apply And.intro)<;>first|rfl|omega|trivial)
end Go.Proofs
end
-- ETrL
section
namespace Go.Proofs
open Go.Shelf
def Tryz.keysA_ren:Go.Shelf.Ren:=⟨fun|7=>72|10=>104|n=>n,fun|23=>79|26=>3|3=>42|28=>100|0=>0|27=>99|33=>83|4=>4|n=>n,fun|n=>n⟩
theorem Tryz.keysA:Go.Proofs.SlLaysZI.n7 Tryz.prog Tryz.keysA_ren where
 mixed:=by kernel_rfl
 f7 := ⟨"maps.Keys[map[int]ropewalk/api.Node,int,ropewalk/api.Node]", by decide, Tryz.func72.trans (congrArg some (by kernel_rfl))⟩
 f10 := ⟨"maps.Keys[map[int]ropewalk/api.Node,int,ropewalk/api.Node]$1", by decide, Tryz.func104.trans (congrArg some (by kernel_rfl))⟩
 t0:=Tryz.underlying0
 a0:=Tryz.isAgg0
 z0:=Tryz.sizeOf0
 v0:=Tryz.zeroValue0
 t4:=Tryz.underlying4
 a4:=Tryz.isAgg4
 z4:=Tryz.sizeOf4
 v4:=Tryz.zeroValue4
 t23:=Tryz.underlying79
 a23:=Tryz.isAgg79
 z23:=Tryz.sizeOf79
 v23:=Tryz.zeroValue79
 t26:=Tryz.underlying3
 a26:=Tryz.isAgg3
 z26:=Tryz.sizeOf3
 v26:=Tryz.zeroValue3
 t27:=Tryz.underlying99
 a27:=Tryz.isAgg99
 z27:=Tryz.sizeOf99
 v27:=Tryz.zeroValue99
 t28:=Tryz.underlying100
 a28:=Tryz.isAgg100
 z28:=Tryz.sizeOf100
 v28:=Tryz.zeroValue100
 t33:=Tryz.underlying83
 a33:=Tryz.isAgg83
 z33:=Tryz.sizeOf83
 v33:=Tryz.zeroValue83
def Tryz.sortedA_ren:Go.Shelf.Ren:=⟨fun|6=>71|8=>102|9=>103|11=>126|13=>111|12=>127|23=>141|24=>142|14=>149|15=>150|16=>151|17=>152|18=>153|19=>154|20=>155|21=>156|22=>157|25=>171|26=>164|27=>165|28=>172|29=>173|30=>174|31=>181|n=>n,fun|26=>3|28=>100|24=>50|0=>0|3=>3|37=>143|48=>167|50=>169|4=>4|40=>161|39=>160|45=>47|5=>5|9=>9|51=>184|55=>188|57=>199|58=>147|33=>83|n=>n,fun|n=>n⟩
theorem Tryz.sortedA:Go.Proofs.SlLaysZI.n6 Tryz.prog Tryz.sortedA_ren where
 mixed:=by kernel_rfl
 f6 := ⟨"slices.Sorted[int]", by decide, Tryz.func71.trans (congrArg some (by kernel_rfl))⟩
 f8 := ⟨"slices.Collect[int]", by decide, Tryz.func102.trans (congrArg some (by kernel_rfl))⟩
 f11 := ⟨"slices.AppendSeq[[]int,int]", by decide, Tryz.func126.trans (congrArg some (by kernel_rfl))⟩
 t0:=Tryz.underlying0
 a0:=Tryz.isAgg0
 z0:=Tryz.sizeOf0
 v0:=Tryz.zeroValue0
 t24:=Tryz.underlying50
 a24:=Tryz.isAgg50
 z24:=Tryz.sizeOf50
 v24:=Tryz.zeroValue50
 t26:=Tryz.underlying3
 a26:=Tryz.isAgg3
 z26:=Tryz.sizeOf3
 v26:=Tryz.zeroValue3
 t28:=Tryz.underlying100
 a28:=Tryz.isAgg100
 z28:=Tryz.sizeOf100
 v28:=Tryz.zeroValue100
 i26:=by kernel_rfl
def Tryz.sortA_ren:Go.Shelf.Ren:=⟨fun|5=>103|8=>111|7=>127|19=>141|20=>142|10=>149|11=>150|12=>151|13=>152|14=>153|15=>154|16=>155|17=>156|18=>157|30=>171|31=>164|32=>165|33=>172|34=>173|35=>174|40=>181|n=>n,fun|23=>50|25=>3|3=>3|32=>143|22=>50|0=>0|44=>167|46=>169|4=>4|36=>161|35=>160|41=>47|5=>5|9=>9|53=>184|57=>188|63=>199|64=>147|n=>n,fun|n=>n⟩
theorem Tryz.sortA:Go.Proofs.SlLaysM.n5 Tryz.prog Tryz.sortA_ren where
 mixed:=by kernel_rfl
 f5 := ⟨"slices.Sort[[]int,int]", by decide, Tryz.func103.trans (congrArg some (by kernel_rfl))⟩
 f7 := ⟨"slices.pdqsortOrdered[int]", by decide, Tryz.func127.trans (congrArg some (by kernel_rfl))⟩
 f8:=Tryz.func111.trans (congrArg some (by kernel_rfl))
 f10 := ⟨"slices.insertionSortOrdered[int]", by decide, Tryz.func149.trans (congrArg some (by kernel_rfl))⟩
 f11 := ⟨"slices.heapSortOrdered[int]", by decide, Tryz.func150.trans (congrArg some (by kernel_rfl))⟩
 f12 := ⟨"slices.breakPatternsOrdered[int]", by decide, Tryz.func151.trans (congrArg some (by kernel_rfl))⟩
 f13 := ⟨"slices.choosePivotOrdered[int]", by decide, Tryz.func152.trans (congrArg some (by kernel_rfl))⟩
 f14 := ⟨"slices.reverseRangeOrdered[int]", by decide, Tryz.func153.trans (congrArg some (by kernel_rfl))⟩
 f15 := ⟨"slices.partialInsertionSortOrdered[int]", by decide, Tryz.func154.trans (congrArg some (by kernel_rfl))⟩
 f16 := ⟨"cmp.Less[int]", by decide, Tryz.func155.trans (congrArg some (by kernel_rfl))⟩
 f17 := ⟨"slices.partitionEqualOrdered[int]", by decide, Tryz.func156.trans (congrArg some (by kernel_rfl))⟩
 f18 := ⟨"slices.partitionOrdered[int]", by decide, Tryz.func157.trans (congrArg some (by kernel_rfl))⟩
 f19:=Tryz.func141.trans (congrArg some (by kernel_rfl))
 f20:=Tryz.func142.trans (congrArg some (by kernel_rfl))
 f30 := ⟨"slices.siftDownOrdered[int]", by decide, Tryz.func171.trans (congrArg some (by kernel_rfl))⟩
 f31:=Tryz.func164.trans (congrArg some (by kernel_rfl))
 f32:=Tryz.func165.trans (congrArg some (by kernel_rfl))
 f33 := ⟨"slices.medianAdjacentOrdered[int]", by decide, Tryz.func172.trans (congrArg some (by kernel_rfl))⟩
 f34 := ⟨"slices.medianOrdered[int]", by decide, Tryz.func173.trans (congrArg some (by kernel_rfl))⟩
 f35 := ⟨"cmp.isNaN[int]", by decide, Tryz.func174.trans (congrArg some (by kernel_rfl))⟩
 f40 := ⟨"slices.order2Ordered[int]", by decide, Tryz.func181.trans (congrArg some (by kernel_rfl))⟩
 t0:=Tryz.underlying0
 a0:=Tryz.isAgg0
 z0:=Tryz.sizeOf0
 v0:=Tryz.zeroValue0
 t3:=Tryz.underlying3
 a3:=Tryz.isAgg3
 z3:=Tryz.sizeOf3
 v3:=Tryz.zeroValue3
 t4:=Tryz.underlying4
 a4:=Tryz.isAgg4
 z4:=Tryz.sizeOf4
 v4:=Tryz.zeroValue4
 t5:=Tryz.underlying5
 a5:=Tryz.isAgg5
 z5:=Tryz.sizeOf5
 v5:=Tryz.zeroValue5
 t9:=Tryz.underlying9
 a9:=Tryz.isAgg9
 z9:=Tryz.sizeOf9
 v9:=Tryz.zeroValue9
 t22:=Tryz.underlying50
 a22:=Tryz.isAgg50
 z22:=Tryz.sizeOf50
 v22:=Tryz.zeroValue50
 t23:=Tryz.underlying50
 a23:=Tryz.isAgg50
 z23:=Tryz.sizeOf50
 v23:=Tryz.zeroValue50
 t25:=Tryz.underlying3
 a25:=Tryz.isAgg3
 z25:=Tryz.sizeOf3
 v25:=Tryz.zeroValue3
 t32:=Tryz.underlying143
 a32:=Tryz.isAgg143
 z32:=Tryz.sizeOf143
 v32:=Tryz.zeroValue143
 t35:=Tryz.underlying160
 a35:=Tryz.isAgg160
 z35:=Tryz.sizeOf160
 v35:=Tryz.zeroValue160
 t36:=Tryz.underlying161
 a36:=Tryz.isAgg161
 z36:=Tryz.sizeOf161
 v36:=Tryz.zeroValue161
 t41:=Tryz.underlying47
 a41:=Tryz.isAgg47
 z41:=Tryz.sizeOf47
 v41:=Tryz.zeroValue47
 t44:=Tryz.underlying167
 a44:=Tryz.isAgg167
 z44:=Tryz.sizeOf167
 v44:=Tryz.zeroValue167
 t46:=Tryz.underlying169
 a46:=Tryz.isAgg169
 z46:=Tryz.sizeOf169
 v46:=Tryz.zeroValue169
 t53:=Tryz.underlying184
 a53:=Tryz.isAgg184
 z53:=Tryz.sizeOf184
 v53:=Tryz.zeroValue184
 t57:=Tryz.underlying188
 a57:=Tryz.isAgg188
 z57:=Tryz.sizeOf188
 v57:=Tryz.zeroValue188
 t63:=Tryz.underlying199
 a63:=Tryz.isAgg199
 z63:=Tryz.sizeOf199
 v63:=Tryz.zeroValue199
 t64:=Tryz.underlying147
 a64:=Tryz.isAgg147
 z64:=Tryz.sizeOf147
 v64:=Tryz.zeroValue147
def Tryz.cloneA_ren:Go.Shelf.Ren:=⟨fun|5=>69|7=>101|n=>n,fun|23=>79|25=>3|3=>42|4=>4|20=>20|n=>n,fun|n=>n⟩
theorem Tryz.cloneA:Go.Proofs.SlLaysW.n5 Tryz.prog Tryz.cloneA_ren where
 mixed:=by kernel_rfl
 f5 := ⟨"maps.Clone[map[int]ropewalk/api.Node,int,ropewalk/api.Node]", by decide, Tryz.func69.trans (congrArg some (by kernel_rfl))⟩
 f7:=Tryz.func101.trans (congrArg some (by kernel_rfl))
 t4:=Tryz.underlying4
 a4:=Tryz.isAgg4
 z4:=Tryz.sizeOf4
 v4:=Tryz.zeroValue4
 t20:=Tryz.underlying20
 a20:=Tryz.isAgg20
 z20:=Tryz.sizeOf20
 v20:=Tryz.zeroValue20
 t23:=Tryz.underlying79
 a23:=Tryz.isAgg79
 z23:=Tryz.sizeOf79
 v23:=Tryz.zeroValue79
end Go.Proofs
end
-- ETr2
section
namespace Go.Proofs
open Go Go.Rw
set_option maxRecDepth 100000
def idsOk (l:List Nd):Prop:=l.length≤1000000∧∀ x∈l,-9223372036854775808≤x.id∧x.id≤9223372036854775807
theorem keys_srt {l:List Nd} (h:srtN l):jW (ents l)=l.map Nd.id:=by
 unfold jW ents
 rw[List.map_map]
 have e:(Prod.fst ∘ fun x:Nd=>(x.id,nV x))=Nd.id:=rfl
 rw[e]
 refine List.mergeSort_of_pairwise ?_
 unfold srtN at h
 exact h.imp fun h1=>by simpa using Int.le_of_lt h1
theorem call_keys {Γ:Env} (hΓ:kM Tryz.prog Γ) (hC:Γ.get 71=none) {σ:AS} {d:Option Nat} {K:AS→Prop} {bx ob:Nat} {es:Array MapEntry} {cl:Nat} {l:List Nd}
    (hbx:σ.m.h bx=some (.cells [.mp ob])) (hob:σ.m.h ob=some (.map es cl)) (hM:TM es cl l) (hi:idsOk l)
    (hk:cont σ d (.sl 0 1 (ints .i64 (l.map Nd.id))) K):kS Tryz.prog Γ false σ 71 [.fn 104 [.ptr bx 0]] d K:=by
 refine jI hC (sorted_raw Tryz.keysA Tryz.sortedA Tryz.sortA rfl rfl rfl hbx hob hM.1 ?_ ?_ ?_)
 ·intro p hp
  obtain ⟨x,hx,rfl⟩:=List.mem_map.1 hp
  exact hi.2 x hx
 ·rw[kCm hM];exact hi.1
 ·rw[keys_srt hM.2];exact hk
abbrev tnodesCon:ConO where
 ι:={ p:Option TS // ∀ s,p=some s→idsOk s.l }
 objs:=fun p=>tsO p.1
 args:=fun p=>[tsA p.1]
 post:=fun p objs lvs r=>objs=tsO p.1∧lvs=[((tsL p.1).length,42)]∧r = .sl 2 5 (k6 (tsL p.1))
set_option maxHeartbeats 1000000 in
theorem tnodes_good:jJ Tryz.prog 22 tnodesCon:=by
 have hΓ:kM Tryz.prog []:=kJ
 refine qG (nn:=29) Tryz.func22 (by kernel_rfl) rfl (show Tryz.f22.results.toList=[.tmp 2] from rfl) (fun _=>rfl) ?_
 rintro ⟨s,hs⟩
 refine qQ hΓ (Ws:=[]) _ ?_
 cases s with
 | none =>
   simp only[aR,seval,kA,kB,kC]
   refine kQ [] [.nil 5] [] [(0,42)] (.sl 2 5 (k6 [])) ⟨rfl,rfl,rfl⟩ ?_
   simp only[aR,seval,kA,kB,kC,nodes_nil]<;>((repeat' apply And.intro)<;>first|rfl|omega|trivial)
 | some s =>
   have hi:=hs s rfl
   have e1:=kA0 s.h
   simp only[aR,seval,kA,kB,kC,e1]
   (repeat (with_reducible refine And.intro ?_ ?_;focus (first|omega|exact kE|kernel_rfl)))
   refine kAH (nn:=4) hΓ [] (by first|assumption|simp[kH,kZ]) Tryz.func72 (by kernel_rfl) rfl (show Tryz.f72.results.toList=[.tmp 2] from rfl) rfl ?_
   simp only[aR,seval,kA,kB,]
   (repeat (with_reducible refine And.intro ?_ ?_;focus (first|omega|exact kE|kernel_rfl)))
   refine call_keys (es:=s.es) (cl:=s.cl) (ob:=1) hΓ (by simp[kH,kZ]) (by simp[upd]) (by simp[upd]) s.h hi ?_
   simp only[aR,seval,kA,kB,]
   (repeat (with_reducible refine And.intro ?_ ?_;focus (first|omega|exact kE|kernel_rfl)))
   have hmem:∀ {i:Nat},(h:i < s.l.length)→gN s.l s.l[i].id=s.l[i]:=fun h=>by
    unfold gN
    rw[ndx_self (srt_mem s.h.2) _ (List.getElem?_eq_getElem h),List.getD_eq_getElem?_getD,List.getElem?_eq_getElem h];rfl
   have hil:(ints .i64 (s.l.map Nd.id)).length=s.l.length:=by simp[ints]
   obtain ⟨St,hSt⟩:∃ St:{ i:Nat // i≤s.l.length }→AS,∀ i,St i=AS.ofH 29 [(0,.ptr 0 0),(2,.sl 2 5 (k6 (s.l.take i.1))),(12,.sl 0 1 (ints .i64 (s.l.map Nd.id))),(13,.v (.int .i64 s.l.length)),(14,.v (.int .i64 i.1))] [(0,.ptr 0 0),(1,.mp 1)] (tsO (some s)) [(i.1,42)]:=⟨_,fun _=>rfl⟩
   have hl:=hi.1
   refine kA3 ?_
   refine zK [] hΓ St (fun i=>s.l.length - i.1) ⟨0,by omega⟩ (by rw[hSt];refine kX [0,1] [.nil 5] ?_;simp only[aR,seval,kA,kB,kC,List.take_zero,nodes_nil,hil]<;>((repeat' apply And.intro)<;>first|rfl|omega|trivial)) ?_
   rintro ⟨i,hle⟩
   rw[hSt]
   simp only
   simp only[aR,seval,kA,kB,kC]
   (with_reducible first|refine kF (fun h=>?_) (fun h=>?_)|refine kG (fun h=>?_) (fun h=>?_))
   ·have hlt:i < s.l.length:=by omega
    have e2:(ints .i64 (s.l.map Nd.id)).getD i .any = .v (.int .i64 s.l[i].id):=by simp[ints,List.getD_eq_getElem?_getD,hlt]
    have e3:=hmem hlt
    have e4:k6 (s.l.take (i+1))=k6 (s.l.take i)++[nA s.l[i]]:=by
     show (s.l.take (i+1)).map nA=(s.l.take i).map nA++[nA s.l[i]]
     rw[List.take_succ_eq_append_getElem hlt,List.map_append];rfl
    have e5:(k6 (s.l.take i)).length=i:=by rw[kO,List.length_take];omega
    generalize s.l[i]=x at *
    simp only[aR,seval,kA,kB,kC,h,e1,e2,e3,nA,hil,e5,kD (n:=(i:Int)+1) (by omega) (by omega)]
    (repeat (with_reducible refine And.intro ?_ ?_;focus (first|omega|exact kE|kernel_rfl)))
    refine kN ⟨i+1,by omega⟩ (by simp only;omega) ?_
    rw[hSt];refine kX [0,1] [.live 2] ?_
    simp only[aR,seval,kA,kB,kC,e4,nA]<;>((repeat' apply And.intro)<;>first|rfl|omega|trivial)
   ·have hi2:i=s.l.length:=by omega
    subst hi2
    have e6:=List.take_of_length_le (Nat.le_refl s.l.length)
    simp only[aR,seval,kA,kB,kC,h,e6]
    refine kQ [0,1] [.live 2] (tsO (some s)) [(s.l.length,42)] (.sl 2 5 (k6 s.l)) ⟨rfl,rfl,rfl⟩ ?_
    simp only[aR,seval,kA,kB,kC]<;>((repeat' apply And.intro)<;>first|rfl|omega|trivial)
section
variable {Γ:Env} {n:Nat} {t:Nat→AV} {hd:Nat→Nat→AV} {d:Option Nat} {K:AS→Prop}
variable {nh nl:Nat} {h:Nat→Option AO} {fm:Nat→Nat} {lv:Nat→Option (Nat×Nat)} {mu:Bool}
def qB (h:Nat→Option AO) (o ob:Nat) (s:TS):Prop:=h o=some (.cells [.mp ob])∧h ob=some (.map s.es s.cl)∧o≠ob
theorem kAC {f:FuncId} {C:ConO} (hG:jJ Tryz.prog f C) (hC:Γ.get f=none) (i:C.ι) {s:TS} (hobjs:C.objs i=tsO (some s)) {o ob:Nat} (hT:qB h o ob s) {bs:List AV} (ha:dnL [o,ob] bs (C.args i)) (ht:AV.tagsL bs=[])
    (hro:∀ objs lvs r,C.post i objs lvs r→objs=C.objs i)
    (hk:∀ lvs r,C.post i (C.objs i) lvs r→cont ⟨n,t,hd,⟨nh,h,nl+lvs.length,kEK nl lvs fm,kEF nl lvs lv,mu⟩⟩ d (r.emb (obC [o,ob] nh) (lnC nl)) K):kS Tryz.prog Γ false ⟨n,t,hd,⟨nh,h,nl,fm,lv,mu⟩⟩ f bs d K:=by
 obtain ⟨h1,h2,h3⟩:=hT
 refine vc_obj hG hC i [o,ob] ⟨by simp[h3],ha,?_,ht,?_⟩ ?_
 ·rw[hobjs]
  simp only[tsO,kEQ,dnOs_nil,h1,h2,kCv,dnOo_map,kDa,dnL_nil,dn_mp]
  simp
 ·simp[kBs,kB0,h1,h2,tagsO1,AO.tags,AV.tagsL,AV.tags]
 ·intro objs lvs r hp hl
  have e:=hro _ _ _ hp
  subst e
  have e2:kBc nh [o,ob] (kCd (obC [o,ob] nh) (lnC nl) (C.objs i)) h=h:=by
   refine kDL _ _ (by rw[kCM,hobjs];rfl) fun j q x hj hx=>?_
   rw[kCG,hobjs]at hx
   match j,hj,hx with
   | 0,hj,hx=>cases hj;simp [tsO] at hx;subst hx;exact h1
   | 1,hj,hx=>cases hj;simp [tsO] at hx;subst hx;exact h2
   | j+2,hj,hx=>cases hj
  have e3:(C.objs i).length - [o,ob].length=0:=by rw[hobjs];rfl
  rw[e2,e3]
  exact hk lvs r hp
theorem kAn (hC:Γ.get 22=none) {s:TS} (hi:idsOk s.l) {o ob:Nat} (hT:qB h o ob s)
    (hk:cont ⟨n,t,hd,⟨nh,h,nl+1,upd fm nl nl,upd lv nl (some (s.l.length,42)),mu⟩⟩ d (.sl nl 5 (k6 s.l)) K):kS Tryz.prog Γ false ⟨n,t,hd,⟨nh,h,nl,fm,lv,mu⟩⟩ 22 [.ptr o 0] d K:=by
 refine kAC tnodes_good hC ⟨some s,fun s' hs=>by cases hs;exact hi⟩ rfl hT (by simp[tsA,dnL,dn]) rfl (fun _ _ _ hp=>hp.1) ?_
 rintro lvs r ⟨_,rfl,rfl⟩
 exact hk
theorem call_tdir (hC:Γ.get 99=none) {s:TS} {id:Int} {o ob:Nat} (hT:qB h o ob s)
    (hk:cont ⟨n,t,hd,⟨nh,h,nl,fm,lv,mu⟩⟩ d (.v (.int .i64 (dirI s.l id))) K):kS Tryz.prog Γ false ⟨n,t,hd,⟨nh,h,nl,fm,lv,mu⟩⟩ 99 [.ptr o 0,.v (.int .i64 id)] d K:=by
 refine kAC tdir_good hC (s,id) rfl hT (by simp[dnL,dn]) rfl (fun _ _ _ hp=>hp.1) ?_
 rintro lvs r ⟨_,rfl,rfl⟩
 exact hk
end
abbrev tchildCon:ConO where
 ι:={ p:TS×Int×List UInt8 // idsOk p.1.l∧(∀ x∈p.1.l,1≤x.id) }
 objs:=fun p=>tsO (some p.1.1)
 args:=fun p=>[.ptr 0 0,.v (.int .i64 p.1.2.1),.v (sv p.1.2.2)]
 post:=fun p objs lvs r=>objs=tsO (some p.1.1)∧lvs=[]∧r = .tup [.v (.int .i64 (max 0 (kid p.1.2.1 p.1.2.2 p.1.1.l))),.v (.bool (decide (0 < kid p.1.2.1 p.1.2.2 p.1.1.l)))]
set_option maxHeartbeats 1000000 in
theorem tchild_good:jJ Tryz.prog 67 tchildCon:=by
 have hΓ:kM Tryz.prog []:=kJ
 refine qG (nn:=30) Tryz.func67 (by kernel_rfl) rfl (show Tryz.f67.results.toList=[.tmp 6,.tmp 7] from rfl) (fun _=>rfl) ?_
 rintro ⟨⟨s,par,nm⟩,hi,hpos⟩
 simp only at hi hpos
 refine qQ hΓ (Ws:=[]) _ ?_
 simp only[aR,seval,kA,kB,kC]
 refine kAn (s:=s) (o:=0) (ob:=1) (by simp[kH,kZ]) hi (by simp[qB]) ?_
 simp only[aR,seval,kA,kB,kC,kO]
 (repeat (with_reducible refine And.intro ?_ ?_;focus (first|omega|exact kE|kernel_rfl)))
 have hl:=hi.1
 obtain ⟨St,hSt⟩:∃ St:{ i:Nat // i≤s.l.length∧kid par nm (s.l.drop i)=kid par nm s.l }→AS,∀ i,St i=AS.ofH 30 [(0,.ptr 0 0),(1,.v (.int .i64 par)),(2,.v (sv nm)),(11,.sl 0 5 (k6 s.l)),(12,.v (.int .i64 s.l.length)),(13,.v (.int .i64 i.1))] [(0,.ptr 0 0),(1,.mp 1)] (tsO (some s)) []:=⟨_,fun _=>rfl⟩
 refine kA3 ?_
 refine zK [] hΓ St (fun i=>s.l.length - i.1) ⟨0,by omega,by simp⟩ (by rw[hSt];refine kX [0,1] [] ?_;simp only[aR,seval,kA,kB,kC,kO]<;>((repeat' apply And.intro)<;>first|rfl|omega|trivial)) ?_
 rintro ⟨i,hle,hf⟩
 rw[hSt]
 simp only
 simp only[aR,seval,kA,kB,kC,kO]
 (with_reducible first|refine kF (fun h=>?_) (fun h=>?_)|refine kG (fun h=>?_) (fun h=>?_))
 ·have hlt:i < s.l.length:=by omega
  have e1:=zJ s.l hlt
  have hx1:=hpos s.l[i] (List.getElem_mem hlt)
  rw[List.drop_eq_getElem_cons hlt,kid]at hf
  generalize s.l[i]=x at *
  by_cases hx:x.par=par
  ·by_cases hy:x.nm=nm
   ·rw[if_pos ⟨hx,hy⟩]at hf
    simp only[aR,seval,kA,kB,kC,h,e1,nA,kO,hx,hy]
    (repeat (with_reducible refine And.intro ?_ ?_;focus (first|omega|exact kE|kernel_rfl)))
    refine kQ [0,1] [] (tsO (some s)) [] (.tup [.v (.int .i64 x.id),.v (.bool true)]) ⟨rfl,rfl,?_⟩ ?_
    ·rw[← hf,Int.max_eq_right (by omega),decide_eq_true (by omega)]
    ·simp only[aR,seval,kA,kB,kC]<;>((repeat' apply And.intro)<;>first|rfl|omega|trivial)
   ·rw[if_neg (fun hh=>hy hh.2)]at hf
    simp only[aR,seval,kA,kB,kC,h,e1,nA,kO,hx,hy,kD (n:=(i:Int)+1) (by omega) (by omega)]
    (repeat (with_reducible refine And.intro ?_ ?_;focus (first|omega|exact kE|kernel_rfl)))
    refine kN ⟨i+1,by omega,hf⟩ (by simp only;omega) ?_
    rw[hSt];refine kX [0,1] [] ?_
    simp only[aR,seval,kA,kB,kC]<;>((repeat' apply And.intro)<;>first|rfl|omega|trivial)
  ·rw[if_neg (fun hh=>hx hh.1)]at hf
   simp only[aR,seval,kA,kB,kC,h,e1,nA,kO,hx,kD (n:=(i:Int)+1) (by omega) (by omega)]
   (repeat (with_reducible refine And.intro ?_ ?_;focus (first|omega|exact kE|kernel_rfl)))
   refine kN ⟨i+1,by omega,hf⟩ (by simp only;omega) ?_
   rw[hSt];refine kX [0,1] [] ?_
   simp only[aR,seval,kA,kB,kC]<;>((repeat' apply And.intro)<;>first|rfl|omega|trivial)
 ·rw[List.drop_of_length_le (by omega),kid]at hf
  simp only[aR,seval,kA,kB,kC,h]
  refine kQ [0,1] [] (tsO (some s)) [] (.tup [.v (.int .i64 0),.v (.bool false)]) ⟨rfl,rfl,?_⟩ ?_
  ·rw[← hf];rfl
  ·simp only[aR,seval,kA,kB,kC]<;>((repeat' apply And.intro)<;>first|rfl|omega|trivial)
theorem kBo {Γ:Env} {n:Nat} {t:Nat→AV} {hd:Nat→Nat→AV} {d:Option Nat} {K:AS→Prop} {nh nl:Nat} {h:Nat→Option AO} {fm:Nat→Nat} {lv:Nat→Option (Nat×Nat)} {mu:Bool} (hC:Γ.get 67=none) {s:TS} (hi:idsOk s.l) (hpos:∀ x∈s.l,1≤x.id) {par:Int} {nm:List UInt8} {o ob:Nat} (hT:qB h o ob s)
    (hk:cont ⟨n,t,hd,⟨nh,h,nl,fm,lv,mu⟩⟩ d (.tup [.v (.int .i64 (max 0 (kid par nm s.l))),.v (.bool (decide (0 < kid par nm s.l)))]) K):kS Tryz.prog Γ false ⟨n,t,hd,⟨nh,h,nl,fm,lv,mu⟩⟩ 67 [.ptr o 0,.v (.int .i64 par),.v (sv nm)] d K:=by
 refine kAC tchild_good hC ⟨(s,par,nm),hi,hpos⟩ rfl hT (by simp[dnL,dn]) rfl (fun _ _ _ hp=>hp.1) ?_
 rintro lvs r ⟨_,rfl,rfl⟩
 exact hk
end Go.Proofs
end
-- ETr3
section
namespace Go.Proofs
open Go Go.Rw
set_option maxRecDepth 100000
theorem kBU (l:List UInt8):kBg l = .tup [.v (.int .i64 (cnt l)),.v (.int .i64 (if (pts l).isSome=true then 0 else 2))]:=by
 unfold kBg cnt res2
 cases pts l<;>rfl
theorem cnt_le (l:List UInt8):cnt l≤l.length:=by rw[kCC];exact cpts_len l
theorem kFY {a b c d e:AV}:kEx Tryz.prog 42 (.agg [a,b,c,d,e]) 1=some b:=rfl
theorem kFK {a b c d e:AV}:kEx Tryz.prog 42 (.agg [a,b,c,d,e]) 3=some d:=rfl
def jS (l:List Nd):Nat→Int→Bool
 | 0,id=>decide (id=0)
 | k+1,id=>if id=0 then true else jS l k (gN l id).par
abbrev trootCon:ConO where
 ι:={ p:TS×Int // p.1.l.length≤1000000 }
 objs:=fun p=>tsO (some p.1.1)
 args:=fun p=>[.ptr 0 0,.v (.int .i64 p.1.2)]
 post:=fun p objs lvs r=>objs=tsO (some p.1.1)∧lvs=[]∧r = .v (.bool (jS p.1.1.l p.1.1.l.length p.1.2))
theorem troot_good:jJ Tryz.prog 52 trootCon:=by
 have hΓ:kM Tryz.prog []:=kJ
 refine qG (nn:=24) Tryz.func52 (by kernel_rfl) rfl (show Tryz.f52.results.toList=[.tmp 4] from rfl) (fun _=>rfl) ?_
 rintro ⟨⟨s,id⟩,hl⟩
 simp only at hl
 refine qQ hΓ (Ws:=[]) _ ?_
 have e1:=kA0 s.h
 have e2:=kCm s.h
 simp only[aR,seval,kA,kB,kC]
 refine vcM_sc ?_
 obtain ⟨St,hSt⟩:∃ St:{ p:Nat×Int // p.1≤s.l.length∧jS s.l (s.l.length - p.1) p.2=jS s.l s.l.length id }→AS,∀ p,St p=AS.ofH 24 [(0,.ptr 0 0),(1,.v (.int .i64 p.1.2)),(5,.v (.int .i64 p.1.1))] [(0,.ptr 0 0),(1,.mp 1)] (tsO (some s)) []:=⟨_,fun _=>rfl⟩
 refine vc_labM [] hΓ 0 St (fun p=>s.l.length - p.1.1) 0 rfl rfl ?_ ?_
 ·rintro ⟨⟨k,x⟩,hk,hr⟩
  simp only at hk hr
  rw[hSt]
  simp only
  simp only[aR,seval,kA,kB,k7,kC,e1,e2]
  by_cases hx:x=0
  ·have e3:jS s.l s.l.length id=true:=by
     rw[← hr,hx]
     cases s.l.length - k<;>simp[jS]
   simp only[aR,seval,kA,kB,k7,kC,e1,e2,hx]
   refine kQ [0,1] [] (tsO (some s)) [] (.v (.bool true)) ⟨rfl,rfl,by rw[e3]⟩ ?_
   simp only[aR,seval,kA,kB,kC]<;>((repeat' apply And.intro)<;>first|rfl|omega|trivial)
  simp only[aR,seval,kA,kB,k7,kC,e1,e2,hx,kD (n:=(k:Int)+1) (by omega) (by omega)]
  (with_reducible first|refine kF (fun h=>?_) (fun h=>?_)|refine kG (fun h=>?_) (fun h=>?_))
  ·have e3:jS s.l s.l.length id=false:=by
     rw[← hr,show s.l.length - k=0 by omega,jS]
     simp[hx]
   simp only[aR,seval,kA,kB,k7,kC,h]
   refine kQ [0,1] [] (tsO (some s)) [] (.v (.bool false)) ⟨rfl,rfl,by rw[e3]⟩ ?_
   simp only[aR,seval,kA,kB,kC]<;>((repeat' apply And.intro)<;>first|rfl|omega|trivial)
  ·have hlt:k < s.l.length:=by omega
   rw[show s.l.length - k=(s.l.length - (k+1))+1 by omega,jS,if_neg hx]at hr
   simp only[aR,seval,kA,kB,k7,kC,h,e1,nA,kFY]
   (repeat (with_reducible refine And.intro ?_ ?_;focus (first|omega|exact kE|kernel_rfl)))
   refine kN ⟨(k+1,(gN s.l x).par),by simp only;omega,hr⟩ (by simp only;omega) ?_
   rw[hSt];refine kX [0,1] [] ?_
   simp only[aR,seval,kA,kB,kC]<;>((repeat' apply And.intro)<;>first|rfl|omega|trivial)
 ·simp only[aR,seval,kA,kB,k7,kC]
  refine ⟨⟨(0,id),by simp,by simp⟩,?_⟩
  rw[hSt];refine kX [0,1] [] ?_
  simp only[aR,seval,kA,kB,kC]<;>((repeat' apply And.intro)<;>first|rfl|omega|trivial)
-- how many code points
def wE (e:MapEntry):Nat:=match e.val with
 | .agg a=>match (a[4]?:Option Value) with
   | some (.string s)=>cnt s.data.toList
   | _=>0
 | _=>0
theorem ent_of {es:Array MapEntry} {cl:Nat} {l:List Nd} (h:TM es cl l):∀ e∈es.toList,∃ x∈l,e.key = .int .i64 x.id∧e.val=nV x∧wE e=cnt x.text:=by
 obtain ⟨⟨hu,ps',hp,hm,hb,hc⟩,hs⟩:=h
 intro e he
 obtain ⟨i,hi,rfl⟩:=List.getElem_of_mem he
 have hil:i < ps'.length:=by
  have:=congrArg List.length hm
  simp only[List.length_map]at this
  omega
 have h1:(es.toList.map fun e=>(e.key,e.val))[i]? = (ps'.map fun p=>(Value.int .i64 p.1,p.2))[i]?:=by rw[hm]
 rw[List.getElem?_map,List.getElem?_map,List.getElem?_eq_getElem hi,List.getElem?_eq_getElem hil]at h1
 simp only[Option.map_some,Option.some.injEq,Prod.mk.injEq]at h1
 have h2:ps'[i]∈ents l:=hp.mem_iff.1 (List.getElem_mem hil)
 obtain ⟨x,hx,hx2⟩:=List.mem_map.1 h2
 refine ⟨x,hx,?_,?_,?_⟩
 ·rw[h1.1,← hx2]
 ·rw[h1.2,← hx2]
 ·unfold wE
  rw[h1.2,← hx2]
  simp[nV,sv]
theorem tot_sum:∀ l:List Nd,(l.map fun x=>cnt x.text).sum=totN l
 | []=>rfl
 | x::l=>by rw [List.map_cons,List.sum_cons,tot_sum l,totN]
theorem tot_tm {es:Array MapEntry} {cl:Nat} {l:List Nd} (h:TM es cl l):(es.toList.map wE).sum=totN l:=by
 have hw:=ent_of h
 obtain ⟨⟨hu,ps',hp,hm,hb,hc⟩,hs⟩:=h
 have e1:es.toList.map wE=ps'.map fun p=>wE ⟨.int .i64 p.1,p.2,0⟩:=by
  have:=congrArg (List.map fun q:Value×Value=>wE ⟨q.1,q.2,0⟩) hm
  rw[List.map_map,List.map_map]at this
  exact this
 have e2:(ps'.map fun p=>wE ⟨.int .i64 p.1,p.2,0⟩).Perm (l.map fun x=>cnt x.text):=by
  refine (hp.map _).trans ?_
  unfold ents
  rw[List.map_map]
  have:((fun p:Int×Value=>wE ⟨.int .i64 p.1,p.2,0⟩) ∘ fun x:Nd=>(x.id,nV x))=fun x=>cnt x.text:=by
   funext x
   simp[wE,nV,sv]
  rw[this]
 rw[e1,e2.sum_nat]
 exact tot_sum l
def z7 (L:List MapEntry) (seen:Array Nat):List MapEntry:=L.filter fun e=>!seen.contains e.born
theorem left_push {seen:Array Nat} {e:MapEntry}:∀ {L:List MapEntry},(L.map (·.born)).Nodup→e∈L→seen.contains e.born=false→((z7 L seen).map wE).sum=wE e+((z7 L (seen.push e.born)).map wE).sum∧(z7 L (seen.push e.born)).length < (z7 L seen).length
 | [],_,h,_=>by cases h
 | x::L,hn,h,hs=>by
   simp only[List.map_cons,List.nodup_cons]at hn
   have hpush:∀ y:MapEntry,(seen.push e.born).contains y.born=(seen.contains y.born || y.born == e.born):=fun y=>by
    rw[Bool.eq_iff_iff]
    simp[Array.contains_iff_mem,Array.mem_push]
   rcases List.mem_cons.1 h with rfl|h1
   ·have hrest:z7 L (seen.push e.born)=z7 L seen:=by
      unfold z7
      refine List.filter_congr fun y hy=>?_
      rw[hpush]
      have:(y.born == e.born)=false:=by
       simp only[beq_eq_false_iff_ne,ne_eq]
       intro hc
       exact hn.1 (hc ▸ List.mem_map.2 ⟨y,hy,rfl⟩)
      rw[this,Bool.or_false]
    have e1:z7 (e::L) seen=e::z7 L seen:=by unfold z7;rw[List.filter_cons_of_pos (by show (!seen.contains e.born)=true;rw[hs];rfl)]
    have e2:z7 (e::L) (seen.push e.born)=z7 L seen:=by
     rw[← hrest]
     unfold z7
     rw[List.filter_cons_of_neg (by show ¬ (!(seen.push e.born).contains e.born)=true;rw[hpush];simp)]
    rw[e1,e2]
    simp
   ·obtain ⟨ih1,ih2⟩:=left_push hn.2 h1 hs
    have hne:(x.born == e.born)=false:=by
     simp only[beq_eq_false_iff_ne,ne_eq]
     intro hc
     exact hn.1 (hc ▸ List.mem_map.2 ⟨e,h1,rfl⟩)
    have e1:(seen.push e.born).contains x.born=seen.contains x.born:=by rw[hpush,hne,Bool.or_false]
    cases hx:seen.contains x.born with
    | true =>
      have a1:z7 (x::L) seen=z7 L seen:=by unfold z7;rw[List.filter_cons_of_neg (by show ¬ (!seen.contains x.born)=true;rw[hx];decide)]
      have a2:z7 (x::L) (seen.push e.born)=z7 L (seen.push e.born):=by unfold z7;rw[List.filter_cons_of_neg (by show ¬ (!(seen.push e.born).contains x.born)=true;rw[e1,hx];decide)]
      rw[a1,a2];exact ⟨ih1,ih2⟩
    | false =>
      have a1:z7 (x::L) seen=x::z7 L seen:=by unfold z7;rw[List.filter_cons_of_pos (by show (!seen.contains x.born)=true;rw[hx];rfl)]
      have a2:z7 (x::L) (seen.push e.born)=x::z7 L (seen.push e.born):=by unfold z7;rw[List.filter_cons_of_pos (by show (!(seen.push e.born).contains x.born)=true;rw[e1,hx];rfl)]
      rw[a1,a2]
      simp only[List.map_cons,List.sum_cons,List.length_cons]
      omega
theorem find_born {es:Array MapEntry} {e:MapEntry} (hn:(es.toList.map (·.born)).Nodup) (he:e∈es):es.find? (·.born == e.born)=some e:=by
 rw[← Array.find?_toList]
 have he:e∈es.toList:=by simpa using he
 generalize es.toList=L at hn he
 induction L with
 | nil=>cases he
 | cons x L ih =>
   simp only[List.map_cons,List.nodup_cons]at hn
   rcases List.mem_cons.1 he with rfl|h1
   ·simp
   ·rw[List.find?_cons_of_neg]
    ·exact ih hn.2 h1
    ·simp only[beq_iff_eq]
     intro hc
     exact hn.1 (hc ▸ List.mem_map.2 ⟨e,h1,rfl⟩)
abbrev tallCon:ConO where
 ι:={ s:TS // totN s.l≤1000000000000∧∀ x∈s.l,x.text.length≤1099511627776 }
 objs:=fun p=>tsO (some p.1)
 args:=fun p=>[.ptr 0 0]
 post:=fun p objs lvs r=>objs=tsO (some p.1)∧lvs=[]∧r = .v (.int .i64 (totN p.1.l))
set_option maxHeartbeats 1000000 in
theorem tall_good:jJ Tryz.prog 53 tallCon:=by
 have hΓ:kM Tryz.prog [(95,kAj)]:=(kI kBT kJ)
 refine qG (nn:=26) Tryz.func53 (by kernel_rfl) rfl (show Tryz.f53.results.toList=[.tmp 2] from rfl) (fun _=>rfl) ?_
 rintro ⟨s,ht,hx⟩
 refine qQ hΓ (Ws:=[]) _ ?_
 have hM:=s.h
 have hent:=ent_of hM
 have htot:=tot_tm hM
 obtain ⟨⟨hu,ps',hp,hm,hb,hc⟩,hs⟩:=hM
 simp only[aR,seval,kA,kB,kC]
 (repeat (with_reducible refine And.intro ?_ ?_;focus (first|omega|exact kE|kernel_rfl)))
 obtain ⟨St,hSt⟩:∃ St:{ p:Array Nat×Nat // p.2+((z7 s.es.toList p.1).map wE).sum=totN s.l }→AS,∀ p,St p=AS.ofH 26 [(0,.ptr 0 0),(2,.v (.int .i64 p.1.2)),(11,.ptr 2 0)] [(0,.ptr 0 0),(1,.mp 1)] [.cells [.mp 1],.map s.es s.cl,.mit 1 s.cl p.1.1 s.cl] []:=⟨_,fun _=>rfl⟩
 refine kA3 ?_
 refine zK [] hΓ St (fun p=>(z7 s.es.toList p.1.1).length) ⟨(#[],0),by simp only[Nat.zero_add];rw[← htot];congr 2;unfold z7;rw[List.filter_eq_self];intro e _;simp⟩ (by rw[hSt];refine kX [0,1,2] [] ?_;simp only[aR,seval,kA,kB,kC]<;>((repeat' apply And.intro)<;>first|rfl|omega|trivial)) ?_
 rintro ⟨⟨seen,n⟩,hsum⟩
 simp only at hsum
 rw[hSt]
 simp only
 simp only[aR,seval,kA,kB,kC]
 refine ⟨1,s.cl,seen,s.cl,s.es,s.cl,rfl,rfl,?_,fun e he hne=>?_,fun hall=>?_⟩
 ·cases hsn:seen.isEmpty with
  | true=>simp
  | false =>
    cases hen:s.es.isEmpty with
    | true=>simp
    | false =>
      simp only[Bool.not_false,Bool.true_and,Bool.and_true]
      rw[Bool.eq_false_iff]
      intro hall
      rw[Array.all_eq_true']at hall
      have hpos:0 < s.es.size:=by
       rw[Array.isEmpty_eq_false_iff]at hen
       exact Array.size_pos_iff.2 hen
      have h1:=hall s.es[0] (Array.getElem_mem hpos)
      have h2:=hc s.es[0] (by simp)
      simp at h1
      omega
 ·have hel:e∈s.es.toList:=by simpa using he
  obtain ⟨x,hx1,hx2,hx3,hx4⟩:=hent e hel
  obtain ⟨p1,p2⟩:=left_push hb hel hne
  have hcx:=hx x hx1
  have hcl:=cnt_le x.text
  have hfe:=find_born hb he
  have hcr:=kBU x.text
  have hv:kDY e.val=nA x:=by rw[hx3];rfl
  rw[hx4]at p1
  simp only[aR,seval,kA,kB,kC]
  (repeat (with_reducible refine And.intro ?_ ?_;focus (first|omega|exact kE|kernel_rfl)))
  refine ⟨1,s.cl,seen.push e.born,s.cl,s.es,e.born,e,rfl,rfl,by simp,hfe,?_⟩
  simp only[aR,seval,kA,kB,kC,hv,nA]
  (repeat (with_reducible refine And.intro ?_ ?_;focus (first|omega|exact kE|kernel_rfl)))
  refine kAb (by simp[kH]) hcx ?_
  simp only[aR,seval,kA,kB,kC,hcr,kD (n:=(n:Int)+cnt x.text) (by omega) (by omega)]
  (repeat (with_reducible refine And.intro ?_ ?_;focus (first|omega|exact kE|kernel_rfl)))
  refine kN ⟨(seen.push e.born,n+cnt x.text),by simp only;omega⟩ (by simp only;omega) ?_
  rw[hSt];refine kX [0,1,2] [] ?_
  simp only[aR,seval,kA,kB,kC]<;>((repeat' apply And.intro)<;>first|rfl|omega|trivial)
 ·have e0:z7 s.es.toList seen=[]:=by
    unfold z7
    rw[List.filter_eq_nil_iff]
    intro e he
    have h1:=hc e he
    cases h2:seen.contains e.born with
    | true=>simp
    | false =>
      have:=hall e (by simpa using he) h2
      omega
  rw[e0]at hsum
  simp only[List.map_nil,List.sum_nil,Nat.add_zero]at hsum
  subst hsum
  simp only[aR,seval,kA,kB,kC]
  (repeat (with_reducible refine And.intro ?_ ?_;focus (first|omega|exact kE|kernel_rfl)))
  refine kQ [0,1] [] (tsO (some s)) [] (.v (.int .i64 (totN s.l))) ⟨rfl,rfl,rfl⟩ ?_
  simp only[aR,seval,kA,kB,kC]<;>((repeat' apply And.intro)<;>first|rfl|omega|trivial)
theorem call_tall {Γ:Env} {n:Nat} {t:Nat→AV} {hd:Nat→Nat→AV} {d:Option Nat} {K:AS→Prop} {nh nl:Nat} {h:Nat→Option AO} {fm:Nat→Nat} {lv:Nat→Option (Nat×Nat)} {mu:Bool} (hC:Γ.get 53=none) {s:TS} (ht:totN s.l≤1000000000000∧∀ x∈s.l,x.text.length≤1099511627776) {o ob:Nat} (hT:qB h o ob s)
    (hk:cont ⟨n,t,hd,⟨nh,h,nl,fm,lv,mu⟩⟩ d (.v (.int .i64 (totN s.l))) K):kS Tryz.prog Γ false ⟨n,t,hd,⟨nh,h,nl,fm,lv,mu⟩⟩ 53 [.ptr o 0] d K:=by
 refine kAC tall_good hC ⟨s,ht⟩ rfl hT (by simp[dnL,dn]) rfl (fun _ _ _ hp=>hp.1) ?_
 rintro lvs r ⟨_,rfl,rfl⟩
 exact hk
end Go.Proofs
end
