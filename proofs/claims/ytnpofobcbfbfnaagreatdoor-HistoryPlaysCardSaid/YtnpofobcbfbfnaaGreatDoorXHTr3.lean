/-
 The program's tree: from a node to the root;how many code points. The program's tree: a copy;kT made. The program's tree: kT moved,edited. Library functions' bodies at this dump,compared by the kernel: slices.SortFunc at kT. The order of names;slices.SortFunc at kT,by their names. slices.DeleteFunc at kT,as Children takes it. The program's tree: what a directory has.
-/
import Derived.Test.YtnpofobcbfbfnaaGreatDoorXHUk5
import Derived.Test.YtnpofobcbfbfnaaGreatDoorXHAp0
import Derived.Test.YtnpofobcbfbfnaaGreatDoorXHTi
import Derived.Shelf.SlLaysF0
import Derived.Sort.LotA
import Derived.Test.YtnpofobcbfbfnaaGreatDoorRwQ
import Derived.Test.YtnpofobcbfbfnaaGreatDoorRwO
set_option linter.unusedSimpArgs false
set_option linter.unusedVariables false
set_option linter.unusedSectionVars false

set_option maxRecDepth 100000
-- HTr3
section
namespace Go.Proofs
open Go Go.Rw
theorem kC5 (l:List UInt8):kCu l = .tup [.v (.int .i64 (cnt l)),.v (.int .i64 (if (pts l).isSome=true then 0 else 2))]:=by
 unfold kCu cnt res2
 cases pts l<;>rfl
theorem cnt_le (l:List UInt8):cnt l≤l.length:=by rw[kAc];exact kFD l
theorem kGl {a b c d e:AV}:kHG Tryz.prog 82 (.agg [a,b,c,d,e]) 1=some b:=rfl
theorem kH0 {a b c d e:AV}:kHG Tryz.prog 82 (.agg [a,b,c,d,e]) 3=some d:=rfl
def kAZ (l:List Nd):Nat→Int→Bool
 | 0,id=>decide (id=0)
 | k+1,id=>if id=0 then true else kAZ l k (gN l id).par
abbrev trootCon:ConO where
 ι:={ p:TS×Int // p.1.l.length≤1000000 }
 objs:=fun p=>tsO (some p.1.1)
 args:=fun p=>[.ptr 0 0,.v (.int .i64 p.1.2)]
 post:=fun p objs lvs r=>objs=tsO (some p.1.1)∧lvs=[]∧r = .v (.bool (kAZ p.1.1.l p.1.1.l.length p.1.2))
theorem troot_good:kAJ Tryz.prog 47 trootCon:=by
 have hΓ:kK Tryz.prog []:=kI
 refine qQ (nn:=24) Tryz.func47 (by kernel_rfl) rfl (show Tryz.f47.results.toList=[.tmp 4] from rfl) (fun _=>rfl) ?_
 rintro ⟨⟨s,id⟩,hl⟩
 simp only at hl
 refine qU hΓ (Ws:=[]) _ ?_
 have e1:=kBe s.h
 have e2:=kEZ s.h
 simp only[aR,seval,kA,kB,kH]
 refine vcM_sc ?_
 obtain ⟨St,hSt⟩:∃ St:{ p:Nat×Int // p.1≤s.l.length∧kAZ s.l (s.l.length - p.1) p.2=kAZ s.l s.l.length id }→AS,∀ p,St p=AS.ofH 24 [(0,.ptr 0 0),(1,.v (.int .i64 p.1.2)),(5,.v (.int .i64 p.1.1))] [(0,.ptr 0 0),(1,.mp 1)] (tsO (some s)) []:=⟨_,fun _=>rfl⟩
 refine vc_labM [] hΓ 0 St (fun p=>s.l.length - p.1.1) 0 rfl rfl ?_ ?_
 ·rintro ⟨⟨k,x⟩,hk,hr⟩
  simp only at hk hr
  rw[hSt]
  simp only
  simp only[aR,seval,kA,kB,qK,kH,e1,e2]
  by_cases hx:x=0
  ·have e3:kAZ s.l s.l.length id=true:=by
     rw[← hr,hx]
     cases s.l.length - k<;>simp[kAZ]
   simp only[aR,seval,kA,kB,qK,kH,e1,e2,hx]
   refine kW [0,1] [] (tsO (some s)) [] (.v (.bool true)) ⟨rfl,rfl,by rw[e3]⟩ ?_
   simp only[aR,seval,kA,kB,kH]<;>(and_intros<;>first|rfl|omega|trivial)
  simp only[aR,seval,kA,kB,qK,kH,e1,e2,hx,wO (n:=(k:Int)+1)]
  (with_reducible first|refine kE (fun h=>?_) (fun h=>?_)|refine kF (fun h=>?_) (fun h=>?_))
  ·have e3:kAZ s.l s.l.length id=false:=by
     rw[← hr,show s.l.length - k=0 by omega,kAZ]
     simp[hx]
   simp only[aR,seval,kA,kB,qK,kH,h]
   refine kW [0,1] [] (tsO (some s)) [] (.v (.bool false)) ⟨rfl,rfl,by rw[e3]⟩ ?_
   simp only[aR,seval,kA,kB,kH]<;>(and_intros<;>first|rfl|omega|trivial)
  ·have hlt:k < s.l.length:=by omega
   rw[show s.l.length - k=(s.l.length - (k+1))+1 by omega,kAZ,if_neg hx]at hr
   simp only[aR,seval,kA,kB,qK,kH,h,e1,nA,kGl]
   repeat (with_reducible refine And.intro ?_ ?_;focus first|omega|kernel_rfl)
   refine kN ⟨(k+1,(gN s.l x).par),by simp only;omega,hr⟩ (by simp only;omega) ?_
   rw[hSt];refine qC [0,1] [] ?_
   simp only[aR,seval,kA,kB,kH]<;>(and_intros<;>first|rfl|omega|trivial)
 ·simp only[aR,seval,kA,kB,qK,kH]
  refine ⟨⟨(0,id),by simp,by simp⟩,?_⟩
  rw[hSt];refine qC [0,1] [] ?_
  simp only[aR,seval,kA,kB,kH]<;>(and_intros<;>first|rfl|omega|trivial)
-- how many code points
def wE (e:MapEntry):Nat:=match e.val with
 | .agg a=>match (a[4]?:Option Value) with
   | some (.string s)=>cnt s.data.toList
   | _=>0
 | _=>0
theorem ent_of {es:Array MapEntry} {cl:Nat} {l:List Nd} (h:TM es cl l):∀ e∈es.toList,∃ x∈l,e.key = .int .i64 x.id∧e.val=nV x∧wE e=cnt x.text:=by
 obtain ⟨⟨hu,ps',hp,hm,hb,hc⟩,hs⟩:=h
 intro e he
 obtain ⟨i,hi,rfl⟩:=List.getElem_of_mem he
 have hil:i < ps'.length:=by
  have:=congrArg List.length hm
  simp only[List.length_map]at this
  omega
 have h1:(es.toList.map fun e=>(e.key,e.val))[i]? = (ps'.map fun p=>(Value.int .i64 p.1,p.2))[i]?:=by rw[hm]
 rw[List.getElem?_map,List.getElem?_map,List.getElem?_eq_getElem hi,List.getElem?_eq_getElem hil]at h1
 simp only[Option.map_some,Option.some.injEq,Prod.mk.injEq]at h1
 have h2:ps'[i]∈ents l:=hp.mem_iff.1 (List.getElem_mem hil)
 obtain ⟨x,hx,hx2⟩:=List.mem_map.1 h2
 refine ⟨x,hx,?_,?_,?_⟩
 ·rw[h1.1,← hx2]
 ·rw[h1.2,← hx2]
 ·unfold wE
  rw[h1.2,← hx2]
  simp[nV,sv]
theorem tot_sum:∀ l:List Nd,(l.map fun x=>cnt x.text).sum=totN l
 | []=>rfl
 | x::l=>by rw [List.map_cons,List.sum_cons,tot_sum l,totN]
theorem tot_tm {es:Array MapEntry} {cl:Nat} {l:List Nd} (h:TM es cl l):(es.toList.map wE).sum=totN l:=by
 have hw:=ent_of h
 obtain ⟨⟨hu,ps',hp,hm,hb,hc⟩,hs⟩:=h
 have e1:es.toList.map wE=ps'.map fun p=>wE ⟨.int .i64 p.1,p.2,0⟩:=by
  have:=congrArg (List.map fun q:Value×Value=>wE ⟨q.1,q.2,0⟩) hm
  rw[List.map_map,List.map_map]at this
  exact this
 have e2:(ps'.map fun p=>wE ⟨.int .i64 p.1,p.2,0⟩).Perm (l.map fun x=>cnt x.text):=by
  refine (hp.map _).trans ?_
  unfold ents
  rw[List.map_map]
  have:((fun p:Int×Value=>wE ⟨.int .i64 p.1,p.2,0⟩) ∘ fun x:Nd=>(x.id,nV x))=fun x=>cnt x.text:=by
   funext x
   simp[wE,nV,sv]
  rw[this]
 rw[e1,e2.sum_nat]
 exact tot_sum l
def j4 (L:List MapEntry) (seen:Array Nat):List MapEntry:=L.filter fun e=>!seen.contains e.born
theorem left_push {seen:Array Nat} {e:MapEntry}:∀ {L:List MapEntry},(L.map (·.born)).Nodup→e∈L→seen.contains e.born=false→((j4 L seen).map wE).sum=wE e+((j4 L (seen.push e.born)).map wE).sum∧(j4 L (seen.push e.born)).length < (j4 L seen).length
 | [],_,h,_=>by cases h
 | x::L,hn,h,hs=>by
   simp only[List.map_cons,List.nodup_cons]at hn
   have hpush:∀ y:MapEntry,(seen.push e.born).contains y.born=(seen.contains y.born || y.born == e.born):=fun y=>by
    rw[Bool.eq_iff_iff]
    simp[Array.contains_iff_mem,Array.mem_push]
   rcases List.mem_cons.1 h with rfl|h1
   ·have hrest:j4 L (seen.push e.born)=j4 L seen:=by
      unfold j4
      refine List.filter_congr fun y hy=>?_
      rw[hpush]
      have:(y.born == e.born)=false:=by
       simp only[beq_eq_false_iff_ne,ne_eq]
       intro hc
       exact hn.1 (hc ▸ List.mem_map.2 ⟨y,hy,rfl⟩)
      rw[this,Bool.or_false]
    have e1:j4 (e::L) seen=e::j4 L seen:=by unfold j4;rw[List.filter_cons_of_pos (by show (!seen.contains e.born)=true;rw[hs];rfl)]
    have e2:j4 (e::L) (seen.push e.born)=j4 L seen:=by
     rw[← hrest]
     unfold j4
     rw[List.filter_cons_of_neg (by show ¬ (!(seen.push e.born).contains e.born)=true;rw[hpush];simp)]
    rw[e1,e2]
    simp
   ·obtain ⟨ih1,ih2⟩:=left_push hn.2 h1 hs
    have hne:(x.born == e.born)=false:=by
     simp only[beq_eq_false_iff_ne,ne_eq]
     intro hc
     exact hn.1 (hc ▸ List.mem_map.2 ⟨e,h1,rfl⟩)
    have e1:(seen.push e.born).contains x.born=seen.contains x.born:=by rw[hpush,hne,Bool.or_false]
    cases hx:seen.contains x.born with
    | true =>
      have a1:j4 (x::L) seen=j4 L seen:=by unfold j4;rw[List.filter_cons_of_neg (by show ¬ (!seen.contains x.born)=true;rw[hx];decide)]
      have a2:j4 (x::L) (seen.push e.born)=j4 L (seen.push e.born):=by unfold j4;rw[List.filter_cons_of_neg (by show ¬ (!(seen.push e.born).contains x.born)=true;rw[e1,hx];decide)]
      rw[a1,a2];exact ⟨ih1,ih2⟩
    | false =>
      have a1:j4 (x::L) seen=x::j4 L seen:=by unfold j4;rw[List.filter_cons_of_pos (by show (!seen.contains x.born)=true;rw[hx];rfl)]
      have a2:j4 (x::L) (seen.push e.born)=x::j4 L (seen.push e.born):=by unfold j4;rw[List.filter_cons_of_pos (by show (!(seen.push e.born).contains x.born)=true;rw[e1,hx];rfl)]
      rw[a1,a2]
      simp only[List.map_cons,List.sum_cons,List.length_cons]
      omega
theorem find_born {es:Array MapEntry} {e:MapEntry} (hn:(es.toList.map (·.born)).Nodup) (he:e∈es):es.find? (·.born == e.born)=some e:=by
 rw[← Array.find?_toList]
 have he:e∈es.toList:=by simpa using he
 generalize es.toList=L at hn he
 induction L with
 | nil=>cases he
 | cons x L ih =>
   simp only[List.map_cons,List.nodup_cons]at hn
   rcases List.mem_cons.1 he with rfl|h1
   ·simp
   ·rw[List.find?_cons_of_neg]
    ·exact ih hn.2 h1
    ·simp only[beq_iff_eq]
     intro hc
     exact hn.1 (hc ▸ List.mem_map.2 ⟨e,h1,rfl⟩)
abbrev tallCon:ConO where
 ι:={ s:TS // totN s.l≤1000000000000∧∀ x∈s.l,x.text.length≤1099511627776 }
 objs:=fun p=>tsO (some p.1)
 args:=fun p=>[.ptr 0 0]
 post:=fun p objs lvs r=>objs=tsO (some p.1)∧lvs=[]∧r = .v (.int .i64 (totN p.1.l))
set_option maxHeartbeats 1000000 in
theorem tall_good:kAJ Tryz.prog 48 tallCon:=by
 have hΓ:kK Tryz.prog [(73,kBh)]:=(kG kCf kI)
 refine qQ (nn:=26) Tryz.func48 (by kernel_rfl) rfl (show Tryz.f48.results.toList=[.tmp 2] from rfl) (fun _=>rfl) ?_
 rintro ⟨s,ht,hx⟩
 refine qU hΓ (Ws:=[]) _ ?_
 have hM:=s.h
 have hent:=ent_of hM
 have htot:=tot_tm hM
 obtain ⟨⟨hu,ps',hp,hm,hb,hc⟩,hs⟩:=hM
 simp only[aR,seval,kA,kB,kH]
 repeat (with_reducible refine And.intro ?_ ?_;focus first|omega|kernel_rfl)
 obtain ⟨St,hSt⟩:∃ St:{ p:Array Nat×Nat // p.2+((j4 s.es.toList p.1).map wE).sum=totN s.l }→AS,∀ p,St p=AS.ofH 26 [(0,.ptr 0 0),(2,.v (.int .i64 p.1.2)),(11,.ptr 2 0)] [(0,.ptr 0 0),(1,.mp 1)] [.cells [.mp 1],.map s.es s.cl,.mit 1 s.cl p.1.1 s.cl] []:=⟨_,fun _=>rfl⟩
 refine kBG ?_
 refine zX [] hΓ St (fun p=>(j4 s.es.toList p.1.1).length) ⟨(#[],0),by simp only[Nat.zero_add];rw[← htot];congr 2;unfold j4;rw[List.filter_eq_self];intro e _;simp⟩ (by rw[hSt];refine qC [0,1,2] [] ?_;simp only[aR,seval,kA,kB,kH]<;>(and_intros<;>first|rfl|omega|trivial)) ?_
 rintro ⟨⟨seen,n⟩,hsum⟩
 simp only at hsum
 rw[hSt]
 simp only
 simp only[aR,seval,kA,kB,kH]
 refine ⟨1,s.cl,seen,s.cl,s.es,s.cl,rfl,rfl,?_,fun e he hne=>?_,fun hall=>?_⟩
 ·cases hsn:seen.isEmpty with
  | true=>simp
  | false =>
    cases hen:s.es.isEmpty with
    | true=>simp
    | false =>
      simp only[Bool.not_false,Bool.true_and,Bool.and_true]
      rw[Bool.eq_false_iff]
      intro hall
      rw[Array.all_eq_true']at hall
      have hpos:0 < s.es.size:=by
       rw[Array.isEmpty_eq_false_iff]at hen
       exact Array.size_pos_iff.2 hen
      have h1:=hall s.es[0] (Array.getElem_mem hpos)
      have h2:=hc s.es[0] (by simp)
      simp at h1
      omega
 ·have hel:e∈s.es.toList:=by simpa using he
  obtain ⟨x,hx1,hx2,hx3,hx4⟩:=hent e hel
  obtain ⟨p1,p2⟩:=left_push hb hel hne
  have hcx:=hx x hx1
  have hcl:=cnt_le x.text
  have hfe:=find_born hb he
  have hcr:=kC5 x.text
  have hv:kEi e.val=nA x:=by rw[hx3];rfl
  rw[hx4]at p1
  simp only[aR,seval,kA,kB,kH]
  repeat (with_reducible refine And.intro ?_ ?_;focus first|omega|kernel_rfl)
  refine ⟨1,s.cl,seen.push e.born,s.cl,s.es,e.born,e,rfl,rfl,by simp,hfe,?_⟩
  simp only[aR,seval,kA,kB,kH,hv,nA]
  repeat (with_reducible refine And.intro ?_ ?_;focus first|omega|kernel_rfl)
  refine kBR (by simp[kC]) hcx ?_
  simp only[aR,seval,kA,kB,kH,hcr,wO (n:=(n:Int)+cnt x.text)]
  repeat (with_reducible refine And.intro ?_ ?_;focus first|omega|kernel_rfl)
  refine kN ⟨(seen.push e.born,n+cnt x.text),by simp only;omega⟩ (by simp only;omega) ?_
  rw[hSt];refine qC [0,1,2] [] ?_
  simp only[aR,seval,kA,kB,kH]<;>(and_intros<;>first|rfl|omega|trivial)
 ·have e0:j4 s.es.toList seen=[]:=by
    unfold j4
    rw[List.filter_eq_nil_iff]
    intro e he
    have h1:=hc e he
    cases h2:seen.contains e.born with
    | true=>simp
    | false =>
      have:=hall e (by simpa using he) h2
      omega
  rw[e0]at hsum
  simp only[List.map_nil,List.sum_nil,Nat.add_zero]at hsum
  subst hsum
  simp only[aR,seval,kA,kB,kH]
  repeat (with_reducible refine And.intro ?_ ?_;focus first|omega|kernel_rfl)
  refine kW [0,1] [] (tsO (some s)) [] (.v (.int .i64 (totN s.l))) ⟨rfl,rfl,rfl⟩ ?_
  simp only[aR,seval,kA,kB,kH]<;>(and_intros<;>first|rfl|omega|trivial)
theorem call_tall {Γ:Env} {n:Nat} {t:Nat→AV} {hd:Nat→Nat→AV} {d:Option Nat} {K:AS→Prop} {nh nl:Nat} {h:Nat→Option AO} {fm:Nat→Nat} {lv:Nat→Option (Nat×Nat)} {mu:Bool} (hC:Γ.get 48=none) {s:TS} (ht:totN s.l≤1000000000000∧∀ x∈s.l,x.text.length≤1099511627776) {o ob:Nat} (hT:qL h o ob s)
    (hk:cont ⟨n,t,hd,⟨nh,h,nl,fm,lv,mu⟩⟩ d (.v (.int .i64 (totN s.l))) K):kS Tryz.prog Γ false ⟨n,t,hd,⟨nh,h,nl,fm,lv,mu⟩⟩ 48 [.ptr o 0] d K:=by
 refine kCV tall_good hC ⟨s,ht⟩ rfl hT (by simp[dnL,dn]) rfl (fun _ _ _ hp=>hp.1) ?_
 rintro lvs r ⟨_,rfl,rfl⟩
 exact hk
end Go.Proofs
end
-- HTr4
namespace Go.Proofs
open Go Go.Rw
theorem clone_raw {P:Program} [Tabs] {ρ:Go.Shelf.Ren} (L:SlLaysW.n5 P ρ) {f:FuncId} (e:ρ.f 5=f) {σ:AS} {ob:Nat} {es:Array MapEntry} {cl:Nat} {d:Option Nat} {K:AS→Prop} (hob:σ.m.h ob=some (.map es cl))
    (hk:cont (σ.new (.map es cl)) d (.mp σ.m.nh) K):RawC P σ f [.mp ob] d K:=by
 subst e
 refine ⟨?_,fun w0 F0 Fp X G w a vs hr hlen hv=>?_⟩
 ·obtain ⟨nm,hn,hf⟩:=L.f5
  exact ⟨_,hf,hn,rfl⟩
 have hv0:=hv 0
 simp only[List.getD_cons_zero]at hv0
 have h0:=mp_inv hv0
 have hvs:vs = #[.map (some (G.ob ob))]:=by
  apply Array.ext (by simpa using hlen)
  intro i h1 h2
  have:i=0:=by simp at h2;omega
  subst this
  rw[← h0];simp[Array.getD,h1]
 obtain ⟨hol,hh⟩:=kAh hr hob
 rw[hvs]
 refine (AnyW.maps_Clone L (G.ob ob) es cl w hh).mono ?_
 rintro ed w' ⟨rfl,rfl⟩
 obtain ⟨hr2,hp⟩:=hr.newObj (.map es cl) (.map es cl) (.map es cl (heap_alloc_new w _))
 exact ⟨_,_,_,_,rfl,hr2,mp_of_ptr hp rfl,hk⟩
abbrev tcopyCon:ConO where
 ι:=Option TS
 objs:=tsO
 args:=fun p=>[tsA p]
 post:=fun p objs lvs r=>match p with
  | none=>objs=[]∧lvs=[]∧r = .v (.pointer none)
  | some s=>objs=tsO (some s)++[.cells [.mp 3],.map s.es s.cl]∧lvs=[]∧r = .ptr 2 0
theorem tcopy_good:kAJ Tryz.prog 28 tcopyCon:=by
 have hΓ:kK Tryz.prog []:=kI
 refine qQ (nn:=12) Tryz.func28 (by kernel_rfl) rfl (show Tryz.f28.results.toList=[.tmp 2] from rfl) (fun _=>rfl) ?_
 rintro s
 refine qU hΓ (Ws:=[]) _ ?_
 cases s with
 | none =>
   simp only[aR,seval,kA,kB,kH]
   refine kW [] [] [] [] (.v (.pointer none)) ⟨rfl,rfl,rfl⟩ ?_
   simp only[aR,seval,kA,kB,kH]<;>(and_intros<;>first|rfl|omega|trivial)
 | some s =>
   simp only[aR,seval,kA,kB,kH]
   repeat (with_reducible refine And.intro ?_ ?_;focus first|omega|kernel_rfl)
   refine jR (by simp[kC,kQ]) (clone_raw Tryz.cloneA rfl (es:=s.es) (cl:=s.cl) rfl ?_)
   simp only[aR,seval,kA,kB,kH]
   refine kW [0,1,3,2] [] (tsO (some s)++[.cells [.mp 3],.map s.es s.cl]) [] (.ptr 2 0) ⟨rfl,rfl,rfl⟩ ?_
   simp only[aR,seval,kA,kB,kH]<;>(and_intros<;>first|rfl|omega|trivial)
section
variable {Γ:Env} {n:Nat} {t:Nat→AV} {hd:Nat→Nat→AV} {d:Option Nat} {K:AS→Prop}
variable {nh nl:Nat} {h:Nat→Option AO} {fm:Nat→Nat} {lv:Nat→Option (Nat×Nat)} {mu:Bool}
theorem kEd {α:Type} {f:Nat→α} {o:Nat} {x:α} (h:f o=x):upd f o x=f:=by
 funext j
 simp only[upd]
 split
 ·rename_i he;rw[he,h]
 ·rfl
theorem kEE (hC:Γ.get 28=none) {s:TS} {o ob:Nat} (hT:qL h o ob s)
    (hk:cont ⟨n,t,hd,⟨nh+2,upd (upd h nh (some (.cells [.mp (nh+1)]))) (nh+1) (some (.map s.es s.cl)),nl,fm,lv,mu⟩⟩ d (.ptr nh 0) K):kS Tryz.prog Γ false ⟨n,t,hd,⟨nh,h,nl,fm,lv,mu⟩⟩ 28 [.ptr o 0] d K:=by
 obtain ⟨h1,h2,h3⟩:=hT
 refine kFg tcopy_good hC (some s) [o,ob] ⟨by simp[h3],by simp[tsA,dnL,dn],?_,rfl,?_⟩ ?_
 ·simp only[tsO,kAV,kBE,h1,h2,jP,kBc,kAz,kBx,dn_mp]
  simp
 ·simp[z7,j3,h1,h2,kDt,AO.tags,AV.tagsL,AV.tags]
 ·rintro objs lvs r ⟨rfl,rfl,rfl⟩ hl
  have e1:upd h o (some (.cells [.mp ob]))=h:=kEd h1
  have e2:upd h ob (some (.map s.es s.cl))=h:=kEd h2
  have e3:(tsO (some s)++[AO.cells [.mp 3],.map s.es s.cl]).length - [o,ob].length=2:=rfl
  rw[e3]
  simp only[tsO,List.cons_append,List.nil_append,jV,kAB,jT,kB9,j6,kA8,kGU,kBC,kAy,kBy,jQ,kAX,kAC,kAF,kAI,kES,List.length_nil,Nat.add_zero,e1,e2]
  exact hk
end
def creN (l:List Nd) (a:Ac):List Nd×Int :=
 if a.id < 1∨a.id > 1099511627776∨qG a.nm=false then (l,1)
 else if hasN l a.id=true then (l,6)
 else if dirI l a.par≠0 then (l,dirI l a.par)
 else if 0 < kid a.par a.nm l then (l,6)
 else if l.length ≥ 100 then (l,4)
 else (setT ⟨a.id,a.par,a.nm,a.dir,[]⟩ l,0)
def trOk (l:List Nd):Prop:=kFk l∧(∀ x∈l,1≤x.id)∧(totN l≤1000000000000∧∀ x∈l,x.text.length≤1099511627776)
def mutP (s:TS) (q:List Nd×Int) (objs:List AO) (lvs:List (Nat×Nat)) (r:AV):Prop :=
 ∃ s':TS,s'.l=q.1∧objs=tsO (some s')∧lvs=[]∧r = .v (.int .i64 q.2)
abbrev tcreCon:ConO where
 ι:={ p:TS×Ac // trOk p.1.l∧p.2.nm.length≤1099511627776 }
 objs:=fun p=>tsO (some p.1.1)
 args:=fun p=>[.ptr 0 0,aA p.1.2]
 post:=fun p=>mutP p.1.1 (creN p.1.1.l p.1.2)
set_option maxHeartbeats 2000000 in
theorem tcre_good:kAJ Tryz.prog 40 tcreCon:=by
 have hΓ:kK Tryz.prog [(68,kAk)]:=(kG kD4 kI)
 refine qQ (nn:=73) Tryz.func40 (by kernel_rfl) rfl (show Tryz.f40.results.toList=[.tmp 4] from rfl) (fun _=>rfl) ?_
 rintro ⟨⟨s,a⟩,⟨hi,hpos,hw⟩,hn⟩
 obtain ⟨k,id,par,nm,dir,ops⟩:=a
 simp only at hi hpos hn
 refine qU hΓ (Ws:=[]) _ ?_
 have e1:=kBe s.h
 have e2:=kEZ s.h
 simp only[aR,seval,kA,kB,kH,aA]
 repeat (with_reducible refine And.intro ?_ ?_;focus first|omega|kernel_rfl)
 have e0:creN s.l ⟨k,id,par,nm,dir,ops⟩=if id < 1∨id > 1099511627776∨qG nm=false then (s.l,1) else if hasN s.l id=true then (s.l,6) else if dirI s.l par≠0 then (s.l,dirI s.l par) else if 0 < kid par nm s.l then (s.l,6) else if s.l.length ≥ 100 then (s.l,4) else (setT ⟨id,par,nm,dir,[]⟩ s.l,0):=rfl
 by_cases h1:id < 1
 ·rw[if_pos (.inl h1)]at e0
  simp only[aR,seval,kA,kB,kH,h1]
  refine kW [0,1] [] (tsO (some s)) [] (.v (.int .i64 1)) ⟨s,by rw[e0],rfl,rfl,by rw[e0]⟩ ?_
  simp only[aR,seval,kA,kB,kH]<;>(and_intros<;>first|rfl|omega|trivial)
 by_cases h2:id > 1099511627776
 ·rw[if_pos (.inr (.inl h2))]at e0
  simp only[aR,seval,kA,kB,kH,h1,h2]
  refine kW [0,1] [] (tsO (some s)) [] (.v (.int .i64 1)) ⟨s,by rw[e0],rfl,rfl,by rw[e0]⟩ ?_
  simp only[aR,seval,kA,kB,kH]<;>(and_intros<;>first|rfl|omega|trivial)
 simp only[aR,seval,kA,kB,kH,h1,h2]
 refine jG (by simp[kC]) hn ?_
 cases hnm:qG nm
 ·rw[if_pos (.inr (.inr hnm))]at e0
  simp only[aR,seval,kA,kB,kH,h1,h2,hnm]
  refine kW [0,1] [] (tsO (some s)) [] (.v (.int .i64 1)) ⟨s,by rw[e0],rfl,rfl,by rw[e0]⟩ ?_
  simp only[aR,seval,kA,kB,kH]<;>(and_intros<;>first|rfl|omega|trivial)
 rw[if_neg (by rintro (hh|hh|hh);exact h1 hh;exact h2 hh;rw[hnm]at hh;cases hh)]at e0
 simp only[aR,seval,kA,kB,kH,h1,h2,hnm,e1,nA]
 repeat (with_reducible refine And.intro ?_ ?_;focus first|omega|kernel_rfl)
 cases hh:hasN s.l id
 case true =>
  rw[if_pos hh]at e0
  simp only[aR,seval,kA,kB,kH,hh]
  refine kW [0,1] [] (tsO (some s)) [] (.v (.int .i64 6)) ⟨s,by rw[e0],rfl,rfl,by rw[e0]⟩ ?_
  simp only[aR,seval,kA,kB,kH]<;>(and_intros<;>first|rfl|omega|trivial)
 rw[if_neg (by rw[hh];decide)]at e0
 simp only[aR,seval,kA,kB,kH,hh]
 refine call_tdir (s:=s) (o:=0) (ob:=1) (by simp[kC,kQ]) (by simp[qL,upd]) ?_
 simp only[aR,seval,kA,kB,kH]
 repeat (with_reducible refine And.intro ?_ ?_;focus first|omega|kernel_rfl)
 by_cases hd:dirI s.l par=0
 case neg =>
  rw[if_pos hd]at e0
  simp only[aR,seval,kA,kB,kH,hd]
  refine kW [0,1] [] (tsO (some s)) [] (.v (.int .i64 (dirI s.l par))) ⟨s,by rw[e0],rfl,rfl,by rw[e0]⟩ ?_
  simp only[aR,seval,kA,kB,kH]<;>(and_intros<;>first|rfl|omega|trivial)
 rw[if_neg (fun hc=>hc hd)]at e0
 simp only[aR,seval,kA,kB,kH,hd]
 repeat (with_reducible refine And.intro ?_ ?_;focus first|omega|kernel_rfl)
 refine kGW (s:=s) (o:=0) (ob:=1) (by simp[kC,kQ]) hi hpos (by simp[qL,upd]) ?_
 simp only[aR,seval,kA,kB,kH]
 repeat (with_reducible refine And.intro ?_ ?_;focus first|omega|kernel_rfl)
 by_cases hk:0 < kid par nm s.l
 ·rw[if_pos hk]at e0
  simp only[aR,seval,kA,kB,kH,hk]
  refine kW [0,1] [] (tsO (some s)) [] (.v (.int .i64 6)) ⟨s,by rw[e0],rfl,rfl,by rw[e0]⟩ ?_
  simp only[aR,seval,kA,kB,kH]<;>(and_intros<;>first|rfl|omega|trivial)
 rw[if_neg hk]at e0
 simp only[aR,seval,kA,kB,kH,hk,e2]
 repeat (with_reducible refine And.intro ?_ ?_;focus first|omega|kernel_rfl)
 by_cases hl:s.l.length ≥ 100
 ·rw[if_pos hl]at e0
  simp only[aR,seval,kA,kB,kH,show ((s.l.length:Int) ≥ 100)=True from eq_true (by omega)]
  refine kW [0,1] [] (tsO (some s)) [] (.v (.int .i64 4)) ⟨s,by rw[e0],rfl,rfl,by rw[e0]⟩ ?_
  simp only[aR,seval,kA,kB,kH]<;>(and_intros<;>first|rfl|omega|trivial)
 rw[if_neg hl]at e0
 obtain ⟨es',cl',p1,p2⟩:=put_tm s.h ⟨id,par,nm,dir,[]⟩
 simp only[nV]at p1
 simp only[aR,seval,kA,kB,kH,show ((s.l.length:Int) ≥ 100)=False from eq_false (by omega),p1]
 repeat (with_reducible refine And.intro ?_ ?_;focus first|omega|kernel_rfl)
 refine kW [0,1] [] (tsO (some ⟨es',cl',_,p2⟩)) [] (.v (.int .i64 0)) ⟨⟨es',cl',_,p2⟩,by rw[e0],rfl,rfl,by rw[e0]⟩ ?_
 simp only[aR,seval,kA,kB,kH]<;>(and_intros<;>first|rfl|omega|trivial)
end Go.Proofs
-- HTr5
namespace Go.Proofs
open Go Go.Rw
def upB (l:List Nd) (id:Int):Nat→Int→Bool
 | 0,x=>decide (x=id)
 | k+1,x=>if x=id then true else if x=0 then false else upB l id k (gN l x).par
def movN (l:List Nd) (a:Ac):List Nd×Int :=
 if qG a.nm=false then (l,1)
 else if hasN l a.id=false then (l,5)
 else if dirI l a.par≠0 then (l,dirI l a.par)
 else if upB l a.id l.length a.par=true then (l,10)
 else if 0 < kid a.par a.nm l∧kid a.par a.nm l≠a.id then (l,6)
 else (setT ⟨a.id,a.par,a.nm,(gN l a.id).dir,(gN l a.id).text⟩ l,0)
def rtOk (l:List Nd):Prop:=∀ x∈l,kAZ l l.length x.id=true
theorem rt_of {l:List Nd} (h:rtOk l) {par:Int} (hd:dirI l par=0):kAZ l l.length par=true:=by
 unfold dirI at hd
 split at hd
 ·rename_i h0;rw[h0];cases l.length<;>simp[kAZ]
 ·split at hd
  ·rename_i h1
   obtain ⟨h2,_,h3⟩:=kD5 h1
   have:=h _ (List.getElem_mem h2)
   rwa [h3]at this
  ·cases hd
abbrev tmovCon:ConO where
 ι:={ p:TS×Ac // trOk p.1.l∧rtOk p.1.l∧p.2.nm.length≤1099511627776 }
 objs:=fun p=>tsO (some p.1.1)
 args:=fun p=>[.ptr 0 0,aA p.1.2]
 post:=fun p=>mutP p.1.1 (movN p.1.1.l p.1.2)
set_option maxHeartbeats 4000000 in
theorem tmov_good:kAJ Tryz.prog 42 tmovCon:=by
 have hΓ:kK Tryz.prog [(68,kAk)]:=(kG kD4 kI)
 refine qQ (nn:=75) Tryz.func42 (by kernel_rfl) rfl (show Tryz.f42.results.toList=[.tmp 4] from rfl) (fun _=>rfl) ?_
 rintro ⟨⟨s,a⟩,⟨hi,hpos,hw⟩,hrt,hn⟩
 obtain ⟨k,id,par,nm,dir,ops⟩:=a
 simp only at hi hpos hn hrt
 refine qU hΓ (Ws:=[]) _ ?_
 have e1:=kBe s.h
 have e2:=kEZ s.h
 simp only[aR,seval,kA,kB,kH,aA]
 refine vcM_sc ?_
 have e0:movN s.l ⟨k,id,par,nm,dir,ops⟩=if qG nm=false then (s.l,1) else if hasN s.l id=false then (s.l,5) else if dirI s.l par≠0 then (s.l,dirI s.l par) else if upB s.l id s.l.length par=true then (s.l,10) else if 0 < kid par nm s.l∧kid par nm s.l≠id then (s.l,6) else (setT ⟨id,par,nm,(gN s.l id).dir,(gN s.l id).text⟩ s.l,0):=rfl
 obtain ⟨St,hSt⟩:∃ St:{ p:Nat×Int // kAZ s.l p.1 p.2=true∧upB s.l id p.1 p.2=upB s.l id s.l.length par∧qG nm=true∧hasN s.l id=true∧dirI s.l par=0 }→AS,∀ p,St p=AS.ofH 75 [(0,.ptr 0 0),(3,.ptr 2 0),(5,.ptr 3 0),(6,.v (.bool true)),(7,.v (.int .i64 p.1.2))] [(0,.ptr 0 0),(1,.mp 1)] [.cells [.mp 1],.map s.es s.cl,.cells [.v (.int .i64 k),.v (.int .i64 id),.v (.int .i64 par),.v (sv nm),.v (.bool dir),.sl 0 3 (qI ops)],.cells [.v (.int .i64 (gN s.l id).id),.v (.int .i64 (gN s.l id).par),.v (sv (gN s.l id).nm),.v (.bool (gN s.l id).dir),.v (sv (gN s.l id).text)]] []:=⟨_,fun _=>rfl⟩
 refine vc_labM [(20,[3],[])] hΓ 0 St (fun p=>p.1.1) 0 rfl rfl ?_ ?_
 ·rintro ⟨⟨q,x⟩,hr,hu,hnm,hh,hd⟩
  simp only at hr hu
  rw[if_neg (by rw[hnm];decide),if_neg (by rw[hh];decide),if_neg (fun hc=>hc hd)]at e0
  obtain ⟨_,_,hid⟩:=kD5 hh
  rw[hSt]
  simp only
  simp only[aR,seval,kA,kB,qK,kH]
  repeat (with_reducible refine And.intro ?_ ?_;focus first|omega|kernel_rfl)
  by_cases hx:x=id
  ·have hup:upB s.l id s.l.length par=true:=by
     rw[← hu,hx]
     cases q<;>simp[upB]
   rw[if_pos hup]at e0
   simp only[aR,seval,kA,kB,qK,kH,hx]
   refine kW [0,1] [] (tsO (some s)) [] (.v (.int .i64 10)) ⟨s,by rw[e0],rfl,rfl,by rw[e0]⟩ ?_
   simp only[aR,seval,kA,kB,kH]<;>(and_intros<;>first|rfl|omega|trivial)
  by_cases h0:x=0
  case neg =>
   cases q with
   | zero=>rw [kAZ] at hr;simp [h0] at hr
   | succ q =>
     rw[kAZ,if_neg h0]at hr
     rw[upB,if_neg hx,if_neg h0]at hu
     simp only[aR,seval,kA,kB,qK,kH,hx,h0,e1,nA,kGl]
     repeat (with_reducible refine And.intro ?_ ?_;focus first|omega|kernel_rfl)
     refine kN ⟨(q,(gN s.l x).par),hr,hu,hnm,hh,hd⟩ (by simp only;omega) ?_
     rw[hSt];refine qC [0,1,2,3] [] ?_
     simp only[aR,seval,kA,kB,kH]<;>(and_intros<;>first|rfl|omega|trivial)
  subst h0
  have hup:upB s.l id s.l.length par=false:=by
   rw[← hu]
   cases q with
   | zero=>rw [upB];simpa using hx
   | succ q=>rw [upB,if_neg hx,if_pos rfl]
  rw[if_neg (by rw[hup];decide)]at e0
  simp only[aR,seval,kA,kB,qK,kH,hx]
  repeat (with_reducible refine And.intro ?_ ?_;focus first|omega|kernel_rfl)
  refine kGW (s:=s) (o:=0) (ob:=1) (by simp[kC,kQ]) hi hpos (by simp[qL]) ?_
  simp only[aR,seval,kA,kB,qK,kH]
  repeat (with_reducible refine And.intro ?_ ?_;focus first|omega|kernel_rfl)
  have fin:¬ (0 < kid par nm s.l∧kid par nm s.l≠id)→movN s.l ⟨k,id,par,nm,dir,ops⟩=(setT ⟨id,par,nm,(gN s.l id).dir,(gN s.l id).text⟩ s.l,0):=fun hc=>by rw[e0,if_neg hc]
  have hgid:(gN s.l id).id=id:=by rw[(kD5 hh).2.1,hid]
  obtain ⟨es',cl',p1,p2⟩:=put_tm s.h ⟨id,par,nm,(gN s.l id).dir,(gN s.l id).text⟩
  simp only[nV]at p1
  by_cases hk:0 < kid par nm s.l
  ·by_cases hk2:kid par nm s.l=id
   ·have e3:=fin (fun hc=>hc.2 hk2)
    have hm:max 0 (kid par nm s.l)=id:=by rw[Int.max_eq_right (by omega),hk2]
    rw[hk2]at hk hm
    simp only[aR,seval,kA,kB,qK,kR,kH,hk2,hk,hm,hgid,p1]
    repeat (with_reducible refine And.intro ?_ ?_;focus first|omega|kernel_rfl)
    refine kW [0,1] [] (tsO (some ⟨es',cl',_,p2⟩)) [] (.v (.int .i64 0)) ⟨⟨es',cl',_,p2⟩,by rw[e3],rfl,rfl,by rw[e3]⟩ ?_
    simp only[aR,seval,kA,kB,kH]<;>(and_intros<;>first|rfl|omega|trivial)
   ·rw[if_pos ⟨hk,hk2⟩]at e0
    have hm:max 0 (kid par nm s.l)=kid par nm s.l:=by rw[Int.max_eq_right (by omega)]
    simp only[aR,seval,kA,kB,qK,kH,hk,hm,hk2]
    refine kW [0,1] [] (tsO (some s)) [] (.v (.int .i64 6)) ⟨s,by rw[e0],rfl,rfl,by rw[e0]⟩ ?_
    simp only[aR,seval,kA,kB,kH]<;>(and_intros<;>first|rfl|omega|trivial)
  ·have e3:=fin (fun hc=>hk hc.1)
   simp only[aR,seval,kA,kB,qK,kR,kH,hk,hgid,p1]
   repeat (with_reducible refine And.intro ?_ ?_;focus first|omega|kernel_rfl)
   refine kW [0,1] [] (tsO (some ⟨es',cl',_,p2⟩)) [] (.v (.int .i64 0)) ⟨⟨es',cl',_,p2⟩,by rw[e3],rfl,rfl,by rw[e3]⟩ ?_
   simp only[aR,seval,kA,kB,kH]<;>(and_intros<;>first|rfl|omega|trivial)
 ·simp only[aR,seval,kA,kB,qK,kH]
  repeat (with_reducible refine And.intro ?_ ?_;focus first|omega|kernel_rfl)
  refine jG (by simp[kC]) hn ?_
  rcases Bool.eq_false_or_eq_true (qG nm) with hnm|hnm
  case inr =>
   rw[if_pos hnm]at e0
   simp only[aR,seval,kA,kB,qK,kH,hnm]
   refine kW [0,1] [] (tsO (some s)) [] (.v (.int .i64 1)) ⟨s,by rw[e0],rfl,rfl,by rw[e0]⟩ ?_
   simp only[aR,seval,kA,kB,kH]<;>(and_intros<;>first|rfl|omega|trivial)
  rw[if_neg (by rw[hnm];decide)]at e0
  simp only[aR,seval,kA,kB,qK,kH,hnm,e1,nA]
  repeat (with_reducible refine And.intro ?_ ?_;focus first|omega|kernel_rfl)
  rcases Bool.eq_false_or_eq_true (hasN s.l id) with hh|hh
  case inr =>
   rw[if_pos hh]at e0
   simp only[aR,seval,kA,kB,qK,kH,hh]
   refine kW [0,1] [] (tsO (some s)) [] (.v (.int .i64 5)) ⟨s,by rw[e0],rfl,rfl,by rw[e0]⟩ ?_
   simp only[aR,seval,kA,kB,kH]<;>(and_intros<;>first|rfl|omega|trivial)
  rw[if_neg (by rw[hh];decide)]at e0
  simp only[aR,seval,kA,kB,qK,kH,hh]
  refine call_tdir (s:=s) (o:=0) (ob:=1) (by simp[kC,kQ]) (by simp[qL,upd]) ?_
  simp only[aR,seval,kA,kB,qK,kH]
  repeat (with_reducible refine And.intro ?_ ?_;focus first|omega|kernel_rfl)
  by_cases hd:dirI s.l par=0
  case neg =>
   rw[if_pos hd]at e0
   simp only[aR,seval,kA,kB,qK,kH,hd]
   refine kW [0,1] [] (tsO (some s)) [] (.v (.int .i64 (dirI s.l par))) ⟨s,by rw[e0],rfl,rfl,by rw[e0]⟩ ?_
   simp only[aR,seval,kA,kB,kH]<;>(and_intros<;>first|rfl|omega|trivial)
  simp only[aR,seval,kA,kB,qK,kH,hd]
  repeat (with_reducible refine And.intro ?_ ?_;focus first|omega|kernel_rfl)
  refine ⟨⟨(s.l.length,par),rt_of hrt hd,rfl,hnm,hh,hd⟩,?_⟩
  rw[hSt];refine qC [0,1,2,3] [] ?_
  simp only[aR,seval,kA,kB,kH]<;>(and_intros<;>first|rfl|omega|trivial)
def ediN (l:List Nd) (a:Ac):List Nd×Int :=
 if hasN l a.id=false then (l,5)
 else if (gN l a.id).dir=true then (l,8)
 else if errI (gN l a.id).text a.ops≠0 then (l,errI (gN l a.id).text a.ops)
 else if (totN l:Int) - cnt (gN l a.id).text+cnt (zL (gN l a.id).text a.ops) > 10000 then (l,4)
 else (setT ⟨a.id,(gN l a.id).par,(gN l a.id).nm,(gN l a.id).dir,zL (gN l a.id).text a.ops⟩ l,0)
abbrev tediCon:ConO where
 ι:={ p:TS×Ac // trOk p.1.l∧okL p.2.ops }
 objs:=fun p=>tsO (some p.1.1)
 args:=fun p=>[.ptr 0 0,aA p.1.2]
 post:=fun p=>mutP p.1.1 (ediN p.1.1.l p.1.2)
set_option maxHeartbeats 4000000 in
theorem tedi_good:kAJ Tryz.prog 43 tediCon:=by
 have hΓ:kK Tryz.prog [(72,doCon),(73,kBh)]:=(kG do_good (kG kCf kI))
 refine qQ (nn:=67) Tryz.func43 (by kernel_rfl) rfl (show Tryz.f43.results.toList=[.tmp 4] from rfl) (fun _=>rfl) ?_
 rintro ⟨⟨s,a⟩,⟨hi,hpos,hw⟩,oa⟩
 obtain ⟨k,id,par,nm,dir,ops⟩:=a
 simp only at hi hpos oa hw
 refine qU hΓ (Ws:=[]) _ ?_
 have e1:=kBe s.h
 have e2:=kEZ s.h
 have e0:ediN s.l ⟨k,id,par,nm,dir,ops⟩=if hasN s.l id=false then (s.l,5) else if (gN s.l id).dir=true then (s.l,8) else if errI (gN s.l id).text ops≠0 then (s.l,errI (gN s.l id).text ops) else if (totN s.l:Int) - cnt (gN s.l id).text+cnt (zL (gN s.l id).text ops) > 10000 then (s.l,4) else (setT ⟨id,(gN s.l id).par,(gN s.l id).nm,(gN s.l id).dir,zL (gN s.l id).text ops⟩ s.l,0):=rfl
 simp only[aR,seval,kA,kB,kH,aA,e1,nA]
 repeat (with_reducible refine And.intro ?_ ?_;focus first|omega|kernel_rfl)
 rcases Bool.eq_false_or_eq_true (hasN s.l id) with hh|hh
 case inr =>
  rw[if_pos hh]at e0
  simp only[aR,seval,kA,kB,kH,hh]
  refine kW [0,1] [] (tsO (some s)) [] (.v (.int .i64 5)) ⟨s,by rw[e0],rfl,rfl,by rw[e0]⟩ ?_
  simp only[aR,seval,kA,kB,kH]<;>(and_intros<;>first|rfl|omega|trivial)
 rw[if_neg (by rw[hh];decide)]at e0
 obtain ⟨h1,h2,hid⟩:=kD5 hh
 have hgid:(gN s.l id).id=id:=by rw[h2,hid]
 have hmem:gN s.l id∈s.l:=by rw[h2];exact List.getElem_mem h1
 have htx:=hw.2 _ hmem
 obtain ⟨es',cl',p1,p2⟩:=put_tm s.h ⟨id,(gN s.l id).par,(gN s.l id).nm,(gN s.l id).dir,zL (gN s.l id).text ops⟩
 simp only[nV]at p1
 have hcl:=cnt_le (gN s.l id).text
 have hdl:=(stp_puts (gN s.l id).text ops).2
 have hcd:=cnt_le (zL (gN s.l id).text ops)
 have hc1:=kC5 (gN s.l id).text
 have hc2:=kC5 (zL (gN s.l id).text ops)
 generalize gN s.l id=x at *
 obtain ⟨xid,xpar,xnm,xdir,xtx⟩:=x
 simp only at *
 subst hgid
 simp only[aR,seval,kA,kB,kH,hh]
 cases xdir
 case true =>
  rw[if_pos rfl]at e0
  simp only[aR,seval,kA,kB,kH]
  refine kW [0,1] [] (tsO (some s)) [] (.v (.int .i64 8)) ⟨s,by rw[e0],rfl,rfl,by rw[e0]⟩ ?_
  simp only[aR,seval,kA,kB,kH]<;>(and_intros<;>first|rfl|omega|trivial)
 rw[if_neg (by decide)]at e0
 simp only[aR,seval,kA,kB,kH]
 repeat (with_reducible refine And.intro ?_ ?_;focus first|omega|kernel_rfl)
 refine call_do (by simp[kC]) rfl htx oa ?_
 simp only[aR,seval,kA,kB,kH,doR,res2]
 repeat (with_reducible refine And.intro ?_ ?_;focus first|omega|kernel_rfl)
 by_cases he:errI xtx ops=0
 case neg =>
  rw[if_pos he]at e0
  simp only[aR,seval,kA,kB,kH,he]
  refine kW [0,1] [] (tsO (some s)) [] (.v (.int .i64 (errI xtx ops))) ⟨s,by rw[e0],rfl,rfl,by rw[e0]⟩ ?_
  simp only[aR,seval,kA,kB,kH]<;>(and_intros<;>first|rfl|omega|trivial)
 rw[if_neg (fun hc=>hc he)]at e0
 simp only[aR,seval,kA,kB,kH,he]
 repeat (with_reducible refine And.intro ?_ ?_;focus first|omega|kernel_rfl)
 refine kBR (by simp[kC]) htx ?_
 simp only[aR,seval,kA,kB,kH,hc1]
 repeat (with_reducible refine And.intro ?_ ?_;focus first|omega|kernel_rfl)
 refine kBR (by simp[kC]) (by omega) ?_
 simp only[aR,seval,kA,kB,kH,hc2]
 repeat (with_reducible refine And.intro ?_ ?_;focus first|omega|kernel_rfl)
 refine call_tall (s:=s) (o:=0) (ob:=1) (by simp[kC,kQ]) hw (by simp[qL,upd]) ?_
 have hw1:=hw.1
 simp only[aR,seval,kA,kB,kH,wO (n:=(totN s.l:Int) - cnt xtx),wO (n:=(totN s.l:Int) - cnt xtx+cnt (zL xtx ops))]
 repeat (with_reducible refine And.intro ?_ ?_;focus first|omega|kernel_rfl)
 by_cases hb:(totN s.l:Int) - cnt xtx+cnt (zL xtx ops) > 10000
 ·rw[if_pos hb]at e0
  simp only[aR,seval,kA,kB,kH,hb]
  refine kW [0,1] [] (tsO (some s)) [] (.v (.int .i64 4)) ⟨s,by rw[e0],rfl,rfl,by rw[e0]⟩ ?_
  simp only[aR,seval,kA,kB,kH]<;>(and_intros<;>first|rfl|omega|trivial)
 ·rw[if_neg hb]at e0
  simp only[aR,seval,kA,kB,kH,hb,p1]
  repeat (with_reducible refine And.intro ?_ ?_;focus first|omega|kernel_rfl)
  refine kW [0,1] [] (tsO (some ⟨es',cl',_,p2⟩)) [] (.v (.int .i64 0)) ⟨⟨es',cl',_,p2⟩,by rw[e0],rfl,rfl,by rw[e0]⟩ ?_
  simp only[aR,seval,kA,kB,kH]<;>(and_intros<;>first|rfl|omega|trivial)
end Go.Proofs
-- HTrLs
namespace Go.Proofs
open Go.Shelf
def Tryz.sortN_ren:Go.Shelf.Ren:=⟨fun|6=>92|15=>83|14=>120|28=>114|29=>115|20=>134|21=>135|22=>136|23=>137|24=>138|25=>139|26=>140|27=>141|46=>147|47=>129|48=>130|49=>148|50=>149|57=>151|n=>n,fun|22=>42|24=>82|25=>139|3=>3|39=>130|0=>0|53=>158|55=>160|4=>4|46=>151|45=>150|50=>114|5=>5|9=>9|66=>167|70=>171|76=>184|77=>145|n=>n,fun|n=>n⟩
theorem Tryz.sortN:Go.Proofs.SlLaysF0.n6 Tryz.prog Tryz.sortN_ren where
 mixed:=by kernel_rfl
 f6 := ⟨"slices.SortFunc[[]ropewalk/api.Node,ropewalk/api.Node]", by decide, Tryz.func92.trans (congrArg some (by kernel_rfl))⟩
 f14 := ⟨"slices.pdqsortCmpFunc[ropewalk/api.Node]", by decide, Tryz.func120.trans (congrArg some (by kernel_rfl))⟩
 f15:=Tryz.func83.trans (congrArg some (by kernel_rfl))
 f20 := ⟨"slices.insertionSortCmpFunc[ropewalk/api.Node]", by decide, Tryz.func134.trans (congrArg some (by kernel_rfl))⟩
 f21 := ⟨"slices.heapSortCmpFunc[ropewalk/api.Node]", by decide, Tryz.func135.trans (congrArg some (by kernel_rfl))⟩
 f22 := ⟨"slices.breakPatternsCmpFunc[ropewalk/api.Node]", by decide, Tryz.func136.trans (congrArg some (by kernel_rfl))⟩
 f23 := ⟨"slices.choosePivotCmpFunc[ropewalk/api.Node]", by decide, Tryz.func137.trans (congrArg some (by kernel_rfl))⟩
 f24 := ⟨"slices.reverseRangeCmpFunc[ropewalk/api.Node]", by decide, Tryz.func138.trans (congrArg some (by kernel_rfl))⟩
 f25 := ⟨"slices.partialInsertionSortCmpFunc[ropewalk/api.Node]", by decide, Tryz.func139.trans (congrArg some (by kernel_rfl))⟩
 f26 := ⟨"slices.partitionEqualCmpFunc[ropewalk/api.Node]", by decide, Tryz.func140.trans (congrArg some (by kernel_rfl))⟩
 f27 := ⟨"slices.partitionCmpFunc[ropewalk/api.Node]", by decide, Tryz.func141.trans (congrArg some (by kernel_rfl))⟩
 f28:=Tryz.func114.trans (congrArg some (by kernel_rfl))
 f29:=Tryz.func115.trans (congrArg some (by kernel_rfl))
 f46 := ⟨"slices.siftDownCmpFunc[ropewalk/api.Node]", by decide, Tryz.func147.trans (congrArg some (by kernel_rfl))⟩
 f47:=Tryz.func129.trans (congrArg some (by kernel_rfl))
 f48:=Tryz.func130.trans (congrArg some (by kernel_rfl))
 f49 := ⟨"slices.medianAdjacentCmpFunc[ropewalk/api.Node]", by decide, Tryz.func148.trans (congrArg some (by kernel_rfl))⟩
 f50 := ⟨"slices.medianCmpFunc[ropewalk/api.Node]", by decide, Tryz.func149.trans (congrArg some (by kernel_rfl))⟩
 f57 := ⟨"slices.order2CmpFunc[ropewalk/api.Node]", by decide, Tryz.func151.trans (congrArg some (by kernel_rfl))⟩
 t0:=Tryz.underlying0
 a0:=Tryz.isAgg0
 z0:=Tryz.sizeOf0
 v0:=Tryz.zeroValue0
 t3:=Tryz.underlying3
 a3:=Tryz.isAgg3
 z3:=Tryz.sizeOf3
 v3:=Tryz.zeroValue3
 t4:=Tryz.underlying4
 a4:=Tryz.isAgg4
 z4:=Tryz.sizeOf4
 v4:=Tryz.zeroValue4
 t5:=Tryz.underlying5
 a5:=Tryz.isAgg5
 z5:=Tryz.sizeOf5
 v5:=Tryz.zeroValue5
 t9:=Tryz.underlying9
 a9:=Tryz.isAgg9
 z9:=Tryz.sizeOf9
 v9:=Tryz.zeroValue9
 t22:=Tryz.underlying42
 a22:=Tryz.isAgg42
 z22:=Tryz.sizeOf42
 v22:=Tryz.zeroValue42
 t25:=Tryz.underlying139
 a25:=Tryz.isAgg139
 z25:=Tryz.sizeOf139
 v25:=Tryz.zeroValue139
 t39:=Tryz.underlying130
 a39:=Tryz.isAgg130
 z39:=Tryz.sizeOf130
 v39:=Tryz.zeroValue130
 t45:=Tryz.underlying150
 a45:=Tryz.isAgg150
 z45:=Tryz.sizeOf150
 v45:=Tryz.zeroValue150
 t46:=Tryz.underlying151
 a46:=Tryz.isAgg151
 z46:=Tryz.sizeOf151
 v46:=Tryz.zeroValue151
 t50:=Tryz.underlying114
 a50:=Tryz.isAgg114
 z50:=Tryz.sizeOf114
 v50:=Tryz.zeroValue114
 t53:=Tryz.underlying158
 a53:=Tryz.isAgg158
 z53:=Tryz.sizeOf158
 v53:=Tryz.zeroValue158
 t55:=Tryz.underlying160
 a55:=Tryz.isAgg160
 z55:=Tryz.sizeOf160
 v55:=Tryz.zeroValue160
 t66:=Tryz.underlying167
 a66:=Tryz.isAgg167
 z66:=Tryz.sizeOf167
 v66:=Tryz.zeroValue167
 t70:=Tryz.underlying171
 a70:=Tryz.isAgg171
 z70:=Tryz.sizeOf171
 v70:=Tryz.zeroValue171
 t76:=Tryz.underlying184
 a76:=Tryz.isAgg184
 z76:=Tryz.sizeOf184
 v76:=Tryz.zeroValue184
 t77:=Tryz.underlying145
 a77:=Tryz.isAgg145
 z77:=Tryz.sizeOf145
 v77:=Tryz.zeroValue145
end Go.Proofs
-- HTr6
namespace Go.Proofs
open Go Go.Shelf Go.RowKit Go.Lib Go.Sort
theorem kAx:∀ (x y:List UInt8),Op.bytesLess x y=decide (x < y)
 | [],[]=>by simp [Op.bytesLess]
 | _::_,[]=>by simp [Op.bytesLess]
 | [],_::_=>by simp [Op.bytesLess]
 | a::x,b::y=>by
   rw[Op.bytesLess,kAx x y]
   simp only[List.cons_lt_cons_iff]
   by_cases h1:a < b<;>by_cases h2:a=b<;>by_cases h3:x < y<;>simp[h1,h2,h3]
def cmpB (x y:List UInt8):Int:=if x < y then -1 else if y < x then 1 else 0
theorem cmpB_neg (x y:List UInt8):cmpB x y < 0↔x < y:=by
 unfold cmpB
 by_cases h:x < y
 ·simp[h]
 ·rw[if_neg h]
  split<;>simp[h]
theorem ltOf_cmpB:ltOf cmpB=ltStr:=by
 funext x y
 exact decide_eq_decide.2 (cmpB_neg x y)
theorem swo_cmpB:SWO (ltOf cmpB):=by rw[ltOf_cmpB];exact swo_ltStr
@[go_sem] theorem binOp_string_gtr_tr (t:TypeId) (a b:ByteArray):binOp .gtr t (.string a) (.string b)=pure (.bool !(Op.bytesLess a.toList b.toList || a.toList == b.toList)):=by simp[binOp,Op.stringOp]
theorem list5 {x:List Value} (h:x.length=5):∃ a b c d e,x=[a,b,c,d,e]:=by
 match x,h with
 | [a,b,c,d,e],_=>exact ⟨a,b,c,d,e,rfl⟩
theorem isNaN_str (x:ByteArray) (w:World):Calls Tryz.prog 121 #[.string x] w fun e w'=>e = .returned (.bool false)∧w'=w:=by
 go_enter Tryz.func121,Tryz.ntmps121
 go_wp2
 go_ret
 exact ⟨by simp,rfl⟩
set_option maxHeartbeats 1000000 in
theorem cmp_str (a b:List UInt8) (w:World):Calls Tryz.prog 94 #[Rw.sv a,Rw.sv b] w fun e w'=>e = .returned (.int .i64 (cmpB a b))∧w'=w:=by
 unfold Rw.sv
 go_enter Tryz.func94,Tryz.ntmps94
 go_wp2_with (go_at_call 121;refine (isNaN_str _ _).mono ?_;rintro e w' ⟨rfl,hw⟩;rw[hw])
 all_goals (rename_i hb;go_ret;refine ⟨?_,by first|assumption|rfl⟩)
 ·rw[kAx]at hb
  simp only[cmpB,if_pos (of_decide_eq_true hb)];rfl
 ·rename_i hl _ _
  rw[kAx]at hl
  have h1:¬ a < b:=of_decide_eq_false hl
  have h2:a≠b:=by simpa using hb
  have h3:b < a:=by
   rcases Classical.em (b < a) with h4|h4
   ·exact h4
   ·exact absurd (List.le_antisymm (List.not_lt.1 h4) (List.not_lt.1 h1)) h2
  simp only[cmpB,if_neg h1,if_pos h3];rfl
 ·rename_i hl
  rw[kAx]at hl
  have h1:¬ a < b:=of_decide_eq_false hl
  have h2:a=b:=by simpa using hb
  subst h2
  simp only[cmpB,if_neg h1];rfl
set_option maxHeartbeats 1000000 in
theorem cmpN:Rw.CmpAt Tryz.prog 93 5 2 Rw.sv cmpB:=by
 intro x y a b W hx hy ox oy ha hb
 obtain ⟨x0,x1,x2,x3,x4,rfl⟩:=list5 hx
 obtain ⟨y0,y1,y2,y3,y4,rfl⟩:=list5 hy
 simp only[List.getD_cons_zero,List.getD_cons_succ]at ha hb
 subst ha hb
 simp only[List.mem_cons,List.not_mem_nil,or_false,forall_eq_or_imp,forall_eq]at ox oy
 obtain ⟨p0,p1,p2,p3,p4⟩:=ox
 obtain ⟨q0,q1,q2,q3,q4⟩:=oy
 have hcon:=fun W'=>cmp_str a b W'
 generalize cmpB a b=r at hcon ⊢
 clear hx hy
 simp only[Rw.sv]at *
 go_enter Tryz.func93,Tryz.ntmps93
 go_wp2_with (go_at_call 94;refine (hcon _).mono ?_;rintro e w' ⟨rfl,rfl⟩)
 go_ret
 exact ⟨rfl,0,_,by rw[alloc_eq_grow,alloc_eq_grow,grow_grow];rfl⟩
end Go.Proofs
-- HTr7
namespace Go.Proofs
open Go Go.Rw
def kept (par:Int) (l:List Nd):List Nd:=l.filter fun x=>decide (x.par=par)
def goI (par:Int):List Nd→Nat
 | []=>0
 | x::r=>if x.par=par then goI par r+1 else 0
theorem goI_le (par:Int):∀ l,goI par l≤l.length
 | []=>Nat.le_refl _
 | x::r=>by rw [goI];split<;>have:=goI_le par r<;>simp<;>omega
theorem goI_all (par:Int):∀ l,goI par l=l.length→kept par l=l
 | [],_=>rfl
 | x::r,h=>by
   rw[goI]at h
   split at h
   ·rename_i hx
    have:=goI_all par r (by simpa using h)
    unfold kept at *
    rw[List.filter_cons,if_pos (by simpa using hx),this]
   ·simp at h
theorem goI_take (par:Int):∀ l:List Nd,kept par (l.take (goI par l+1))=l.take (goI par l)
 | []=>rfl
 | x::r=>by
   rw[goI]
   split
   ·rename_i hx
    have:=goI_take par r
    rw[List.take_succ_cons,List.take_succ_cons,kept,List.filter_cons,if_pos (by simpa using hx)]
    exact congrArg _ this
   ·rename_i hx
    simp[kept,hx]
abbrev DelT (par:Int) (xs:List Nd):={ p:List Nd×Nat×Nat // p.1.length=xs.length∧p.2.1 < p.2.2∧p.2.2≤xs.length∧p.1.take p.2.1=kept par (xs.take p.2.2)∧p.1.drop p.2.2=xs.drop p.2.2 }
abbrev IdxT (par:Int) (xs:List Nd):={ j:Nat // j≤xs.length∧goI par xs=j+goI par (xs.drop j) }
section
variable {Γ:Env} {n:Nat} {t:Nat→AV} {hd:Nat→Nat→AV} {d:Option Nat} {K:AS→Prop}
variable {nh nl:Nat} {h:Nat→Option AO} {fm:Nat→Nat} {lv:Nat→Option (Nat×Nat)}
set_option maxHeartbeats 1000000 in
theorem call_del (hΓ:kK Tryz.prog Γ) (hC:Γ.get 90=none) (hC2:Γ.get 119=none) (hC3:Γ.get 91=none) {xs:List Nd} {l o:Nat} {par:Int} (hl2:2≤l) (hlv:lv l=some (xs.length,82)) (hlen:xs.length≤1000000)
    (hob:h o=some (.cells [.v (.int .i64 par)])) (hb:∀ o x,h o=some x→o < nh)
    (hk:∀ k' h',nh≤k'→HasO (cutO fm l h) h'→cont ⟨n,cutT fm l t,cutH fm l hd,⟨k',h',nl,fm,upd lv l (some ((kept par xs).length,82)),true⟩⟩ d (.sl l 5 (kT (kept par xs))) K) :
    kS Tryz.prog Γ false ⟨n,t,hd,⟨nh,h,nl,fm,lv,true⟩⟩ 90 [.sl l 5 (kT xs),.fn 91 [.ptr o 0]] d K:=by
 have hob':cutO fm l h o=some (.cells [.v (.int .i64 par)]):=by simp only[cutO,hob];rfl
 have hb':∀ o x,cutO fm l h o=some x→o < nh:=fun o x hx=>by
  obtain ⟨y,hy,_⟩:=Option.map_eq_some_iff.1 hx
  exact hb o y hy
 have hlt:=hb o _ hob
 refine qF (nn:=42) hΓ [(11,[0,0],[]),(12,[0,0,0,0,0,0],[])] (by first|assumption|simp[kC,kQ]) Tryz.func90 (by kernel_rfl) rfl (show Tryz.f90.results.toList=[.tmp 4] from rfl) rfl ?_
 simp only[aR,seval,kA,kB,]
 refine qF (nn:=19) hΓ [] (by first|assumption|simp[kC,kQ]) Tryz.func119 (by kernel_rfl) rfl (show Tryz.f119.results.toList=[.tmp 4] from rfl) rfl ?_
 simp only[aR,seval,kA,kB,kL]
 refine loop_cut l ?_
 refine kD7 [] hΓ (fun i:IdxT par xs=>[(0,.sl l 5 (kT xs)),(1,.fn 91 [.ptr o 0]),(7,.v (.int .i64 xs.length)),(8,.v (.int .i64 i.1))]) (fun i=>xs.length - i.1) ⟨0,Nat.zero_le _,by simp⟩ (by simp only[aR,seval,kA,kB,]<;>(and_intros<;>first|rfl|omega|trivial)) (fun _ _ hx=>hx) ?_
 rintro ⟨i,hi,hn⟩ q hq
 simp only
 simp only[aR,seval,kA,kB,kL]
 have hoq:(o=q)=False:=eq_false (by omega)
 (with_reducible first|refine kE (fun h1=>?_) (fun h1=>?_)|refine kF (fun h1=>?_) (fun h1=>?_))
 ·have hlt2:i < xs.length:=by omega
  have e1:=qB xs hlt2
  rw[List.drop_eq_getElem_cons hlt2,goI]at hn
  generalize xs[i]=x at *
  simp only[aR,seval,kA,kB,h1,e1,nA,kL]
  repeat (with_reducible refine And.intro ?_ ?_;focus first|omega|kernel_rfl)
  refine qF (nn:=8) hΓ [] (by first|assumption|simp[kC,kQ]) Tryz.func91 (by kernel_rfl) rfl (show Tryz.f91.results.toList=[.tmp 3] from rfl) rfl ?_
  simp only[aR,seval,kA,kB,nA,hob',hoq]
  repeat (with_reducible refine And.intro ?_ ?_;focus first|omega|kernel_rfl)
  by_cases hx:x.par=par
  ·rw[if_pos hx]at hn
   simp only[aR,seval,kA,kB,hx,wO (n:=(i:Int)+1)]
   refine kGT ⟨i+1,by omega,by omega⟩ (by simp only;omega) (by omega) ?_ (HasO.new ?_ HasO.refl) rfl ⟨rfl,rfl⟩
   ·simp only[aR,seval,kA,kB,]<;>(and_intros<;>first|rfl|omega|trivial)
   ·intro o x h;have:=hb' o x h;omega
  ·rw[if_neg hx]at hn
   simp only[aR,seval,kA,kB,hx,show ((i:Int) = -1)=False from eq_false (by omega),wO (n:=(i:Int)+1)]
   have hgi:goI par xs=i:=by omega
   have hk0:=goI_take par xs
   rw[hgi]at hk0
   have hn2:nh≤q+1:=by omega
   refine kD7 [(11,[0,0],[]),(12,[0,0,0,0,0,0],[])] hΓ (nh:=q+1) (h:=cutO fm l h) (fun p:DelT par xs=>[(0,.sl l 5 (kT p.1.1)),(1,.fn 91 [.ptr o 0]),(5,.v (.int .i64 p.1.2.1)),(6,.v (.int .i64 p.1.2.2))]) (fun p=>xs.length - p.1.2.2) ⟨(xs,i,i+1),rfl,by simp only;omega,by simp only;omega,hk0.symm,rfl⟩ (by simp only[aR,seval,kA,kB,]<;>(and_intros<;>first|rfl|omega|trivial)) (HasO.new (fun o x h=>by have:=hb' o x h;omega) HasO.refl) ?_
   clear hk0 hn2 hn hgi e1
   rintro ⟨⟨ys,i,j⟩,hys,hij,hj,hta,hdr⟩ q2 hq2
   simp only at hys hij hj hta hdr
   have hoq2:(o=q2)=False:=eq_false (by omega)
   have hoq3:(o=q2+1)=False:=eq_false (by omega)
   simp only
   simp only[aR,seval,kA,kB,kL]
   (with_reducible first|refine kE (fun h2=>?_) (fun h2=>?_)|refine kF (fun h2=>?_) (fun h2=>?_))
   ·have hlt3:j < xs.length:=by omega
    have e4:ys[j]'(by omega)=xs[j]:=by
     have:=congrArg (fun l:List Nd=>l[0]?) hdr
     simp only[List.getElem?_drop,Nat.add_zero]at this
     rw[List.getElem?_eq_getElem (by omega),List.getElem?_eq_getElem hlt3]at this
     exact Option.some.inj this
    have e5:=qB ys (i:=j) (by omega)
    rw[e4]at e5
    have e6:kept par (xs.take (j+1))=kept par (xs.take j)++kept par [xs[j]]:=by
     rw[List.take_succ_eq_append_getElem hlt3,kept,List.filter_append];rfl
    generalize xs[j]=y at *
    simp only[aR,seval,kA,kB,h2,e5,nA,kL,hys]
    repeat (with_reducible refine And.intro ?_ ?_;focus first|omega|kernel_rfl)
    refine qF (nn:=8) hΓ [] (by first|assumption|simp[kC,kQ]) Tryz.func91 (by kernel_rfl) rfl (show Tryz.f91.results.toList=[.tmp 3] from rfl) rfl ?_
    simp only[aR,seval,kA,kB,nA,hob',hoq2,hoq3]
    repeat (with_reducible refine And.intro ?_ ?_;focus first|omega|kernel_rfl)
    by_cases hy:y.par=par
    ·have hk1:kept par [y]=[y]:=by simp[kept,hy]
     have e7:=qB ys (i:=i) (by omega)
     have hq3:(q2=q2+1)=False:=eq_false (by omega)
     have e8:AV.agg [.v (.int .i64 y.id),.v (.int .i64 par),.v (sv y.nm),.v (.bool y.dir),.v (sv y.text)]=nA y:=by rw[← hy];rfl
     have e9:=nodes_set ys i y
     have hi9:i < xs.length:=by omega
     have e10:kEB ((kT ys).getD i .any) 0 [.v (.int .i64 y.id),.v (.int .i64 par),.v (sv y.nm),.v (.bool y.dir),.v (sv y.text)]=nA y:=by rw[e7,← e8];rfl
     simp only[aR,seval,kA,kB,hy,nA,kL,hys,e5,hq3,hlv,hl2,e9,wO (n:=(i:Int)+1),wO (n:=(j:Int)+1)]
     repeat (with_reducible refine And.intro ?_ ?_;focus first|omega|kernel_rfl)
     refine kGT ⟨(ys.set i y,i+1,j+1),(show (ys.set i y).length=_ by rw[List.length_set];exact hys),(show i+1 < j+1 by omega),(show j+1≤xs.length by omega),?_,?_⟩ (show xs.length - (j+1) < xs.length - j by omega) (by omega) ?_ ?_ turnH_cut ⟨rfl,rfl⟩
     ·show (ys.set i y).take (i+1)=_
      rw[e6,hk1,← hta,List.take_succ_eq_append_getElem (by rw[List.length_set];omega),List.getElem_set_self,List.take_set_of_le (Nat.le_refl _)]
     ·show (ys.set i y).drop (j+1)=_
      have:=congrArg (List.drop 1) hdr
      rw[List.drop_drop,List.drop_drop]at this
      rw[List.drop_set,if_pos (by omega)]
      exact this
     ·simp only[aR,seval,kA,kB,e9,e10,kL,hys]<;>(and_intros<;>first|rfl|omega|trivial)
     ·have hbq:∀ k,nh≤k→∀ o x,cutO fm l h o=some x→o < k:=fun k hk o x h=>by have:=hb' o x h;omega
      repeat' first|exact HasO.refl|refine HasO.turn ?_|refine HasO.new (hbq _ (by omega)) ?_
    ·have hk1:kept par [y]=[]:=by simp[kept,hy]
     rw[hk1,List.append_nil]at e6
     simp only[aR,seval,kA,kB,hy,wO (n:=(j:Int)+1)]
     refine kGT ⟨(ys,i,j+1),hys,(show i < j+1 by omega),(show j+1≤xs.length by omega),(show ys.take i=_ by rw[e6,hta]),?_⟩ (show xs.length - (j+1) < xs.length - j by omega) (by omega) ?_ ?_ rfl ⟨rfl,rfl⟩
     ·have:=congrArg (List.drop 1) hdr
      rw[List.drop_drop,List.drop_drop]at this
      exact this
     ·simp only[aR,seval,kA,kB,]<;>(and_intros<;>first|rfl|omega|trivial)
     ·have hbq:∀ k,nh≤k→∀ o x,cutO fm l h o=some x→o < k:=fun k hk o x h=>by have:=hb' o x h;omega
      repeat' first|exact HasO.refl|refine HasO.turn ?_|refine HasO.new (hbq _ (by omega)) ?_
   ·have hj2:j=xs.length:=by omega
    subst hj2
    rw[List.take_length]at hta
    have hkl:(kept par xs).length=i:=by rw[← hta,List.length_take];omega
    have e11:∀ zs:List AV,(kT (kept par xs)++zs).take i=kT (kept par xs):=fun zs=>by
     rw[List.take_append_of_le_length (by rw[kL];omega),List.take_of_length_le (by rw[kL];omega)]
    have e12:i+(xs.length - i)=xs.length:=by omega
    simp only[aR,seval,kA,kB,kAa,h2,kL,hys,hlv,hl2,kGt,hta,e11,hkl,List.length_append,List.length_replicate,e12,turnH_cut,cutH_cut]
    repeat (with_reducible refine And.intro ?_ ?_;focus first|omega|kernel_rfl)
    rw[hkl]at hk
    exact hk _ _ (by omega) (HasO.cut (HasO.turn HasO.refl))
 ·have hi2:i=xs.length:=by omega
  subst hi2
  rw[List.drop_length]at hn
  have e2:=goI_all par xs hn
  simp only[aR,seval,kA,kB,h1]
  rw[e2,upd_self hlv]at hk
  exact hk _ _ hq HasO.refl
end
def unA:AV→Nd
 | .agg [.v (.int _ a),.v (.int _ b),.v (.string c),.v (.bool d),.v (.string e)]=>⟨a,b,c.data.toList,d,e.data.toList⟩
 | _=>zO
theorem unA_nA (x:Nd):unA (nA x)=x:=by
 obtain ⟨a,b,c,d,e⟩:=x
 simp[nA,unA,sv]
section
variable {Γ:Env} {d:Option Nat} {K:AS→Prop} {σ:AS}
theorem call_sortN (hC:Γ.get 92=none) {xs:List Nd} {l:Nat} (hl2:2≤l) (hlen:xs.length≤1000000) (hlv:σ.m.lv l=some (xs.length,82)) (hmu:σ.m.mu=true)
    (hk0:xs=[]→cont σ d (.tup []) K) (hk1:∀ zs:List Nd,zs.Perm xs→zs.Pairwise (fun a b=>¬ b.nm < a.nm)→cont (σ.turned l xs.length (kT zs)) d (.tup []) K) :
    kS Tryz.prog Γ false σ 92 [.sl l 5 (kT xs),.fn 93 []] d K:=by
 refine jR hC (sort_rawG (ρ:=Tryz.sortN_ren) (kx:=fun z=>(unA z).nm) swo_cmpB Tryz.sortN (by omega) Tryz.isAgg82 Tryz.sizeOf82 (enters_of Tryz.func93 (by kernel_rfl) rfl) (by omega) cmpN ⟨_,Tryz.func92,by kernel_rfl,rfl⟩ hl2 (by rw[kL];omega) (by rw[kL];exact hlv) hmu ?_ ?_ ?_ ?_)
 ·intro z hz
  obtain ⟨x,_,rfl⟩:=List.mem_map.1 hz
  exact ⟨rfl,rfl⟩
 ·intro z hz
  obtain ⟨x,_,rfl⟩:=List.mem_map.1 hz
  rw[unA_nA];rfl
 ·intro h
  exact hk0 (by simpa [kT] using h)
 ·intro zs h1 h2
  have e1:zs=kT (zs.map unA):=by
   rw[kT,List.map_map]
   refine (List.map_id' zs).symm.trans (List.map_congr_left fun z hz=>?_)
   obtain ⟨x,_,rfl⟩:=List.mem_map.1 (h1.mem_iff.1 hz)
   show nA x=nA (unA (nA x))
   rw[unA_nA]
  have e2:(zs.map unA).Perm xs:=by
   have:=h1.map unA
   rwa [kT,List.map_map,show (unA ∘ nA)=id from funext unA_nA,List.map_id]at this
  rw[e1,kL]
  refine hk1 _ e2 ?_
  rw[List.pairwise_map]
  exact h2.imp fun h3=>by rw[cmpB_neg]at h3;exact h3
end
end Go.Proofs
-- HTr8
namespace Go.Proofs
open Go Go.Rw
def kidsR (par:Int) (l:List Nd) (ids:List Int):Prop:=∃ zs:List Nd,zs.Perm (kept par l)∧zs.Pairwise (fun a b=>¬ b.nm < a.nm)∧ids=zs.map Nd.id
theorem kidsR_len {par:Int} {l:List Nd} {ids:List Int} (h:kidsR par l ids):ids.length=(kept par l).length:=by
 obtain ⟨zs,h1,_,rfl⟩:=h
 rw[List.length_map];exact h1.length_eq
theorem kept_len (par:Int) (l:List Nd):(kept par l).length≤l.length:=List.length_filter_le _ _
abbrev tkidsCon:ConO where
 ι:={ p:TS×Int // kFk p.1.l }
 objs:=fun p=>tsO (some p.1.1)
 args:=fun p=>[.ptr 0 0,.v (.int .i64 p.1.2)]
 post:=fun p objs lvs r=>objs=tsO (some p.1.1)∧∃ ids,kidsR p.1.2 p.1.1.l ids∧lvs=[]∧r = .sl 0 1 (ints .i64 ids)
set_option maxHeartbeats 1000000 in
theorem tkids_good:kAJ Tryz.prog 71 tkidsCon:=by
 have hΓ:kK Tryz.prog []:=kI
 refine qQ (nn:=27) Tryz.func71 (by kernel_rfl) rfl (show Tryz.f71.results.toList=[.tmp 4] from rfl) (fun _=>rfl) ?_
 rintro ⟨⟨s,par⟩,hi⟩
 simp only at hi
 have hl:=hi.1
 have hkl:=kept_len par s.l
 refine qU hΓ (Ws:=[]) _ ?_
 simp only[aR,seval,kA,kB,kH]
 refine kDB (s:=s) (o:=0) (ob:=1) (by simp[kC,kQ]) hi (by simp[qL,upd]) ?_
 simp only[aR,seval,kA,kB,kH,kL]
 repeat (with_reducible refine And.intro ?_ ?_;focus first|omega|kernel_rfl)
 refine call_del hΓ (by simp[kC,kQ]) (by simp[kC,kQ]) (by simp[kC,kQ]) (xs:=s.l) (par:=par) (by omega) (by simp[upd]) hl (by simp[upd]) ?_ ?_
 ·intro o x h
  simp only[upd]at h
  split at h
  ·omega
  ·have:=(List.getElem?_eq_some_iff.1 h).1
   simp at this;omega
 ·intro k' h' hk' hh
  have t0:=hh 0 (.cells [.mp 1]) (by simp[cutO,upd,AO.cut,AV.cutL,AV.cut])
  have t1:=hh 1 (.map s.es s.cl) (by simp[cutO,upd,AO.cut])
  simp only[aR,seval,kA,kB,kAa,kH,kL,t0,t1]
  repeat (with_reducible refine And.intro ?_ ?_;focus first|omega|kernel_rfl)
  refine call_sortN (by simp[kC,kQ]) (by omega) (by omega) (by simp[upd]) rfl ?_ ?_
  ·intro h0
   obtain ⟨zs,hz,hp⟩:∃ zs:List Nd,kept par s.l=zs∧zs.Pairwise (fun a b=>¬ b.nm < a.nm):=⟨[],h0,List.Pairwise.nil⟩
   have hz1:zs.Perm (kept par s.l):=by rw[hz]
   rw[hz]
   have hzl:zs.length=(kept par s.l).length:=hz1.length_eq
   simp only[aR,seval,kA,kB,kAa,kH,kL,t0,t1,hzl]
   repeat (with_reducible refine And.intro ?_ ?_;focus first|omega|kernel_rfl)
   obtain ⟨St,hSt⟩:∃ St:{ i:Nat // i≤zs.length }→AS,∀ i,St i=AS.ofH 27 [(4,.sl 2 1 (ints .i64 ((zs.take i.1).map Nd.id))),(14,.sl 0 5 (kT zs)),(15,.v (.int .i64 zs.length)),(16,.v (.int .i64 i.1))] [(0,.ptr 0 0),(1,.mp 1)] (tsO (some s)) [(i.1,3)]:=⟨_,fun _=>rfl⟩
   refine kBG ?_
   refine zX [] hΓ St (fun i=>zs.length - i.1) ⟨0,by omega⟩ (by rw[hSt];refine qC [0,1] [.nil 1] ?_;simp only[aR,seval,kA,kB,kAa,kH,List.take_zero,List.map_nil,ints_nil,kL,hzl,t0,t1]<;>(and_intros<;>first|rfl|omega|trivial)) ?_
   rintro ⟨i,hle⟩
   rw[hSt]
   simp only
   simp only[aR,seval,kA,kB,kH,kL]
   (with_reducible first|refine kE (fun h=>?_) (fun h=>?_)|refine kF (fun h=>?_) (fun h=>?_))
   ·have hlt:i < zs.length:=by omega
    have e3:=qB zs hlt
    have e4:ints .i64 ((zs.take (i+1)).map Nd.id)=ints .i64 ((zs.take i).map Nd.id)++[.v (.int .i64 zs[i].id)]:=by
     rw[List.take_succ_eq_append_getElem hlt,List.map_append];simp[ints]
    have e5:(ints .i64 ((zs.take i).map Nd.id)).length=i:=by simp[ints];omega
    generalize zs[i]=x at *
    simp only[aR,seval,kA,kB,kH,h,e3,nA,kL,e5,wO (n:=(i:Int)+1)]
    repeat (with_reducible refine And.intro ?_ ?_;focus first|omega|kernel_rfl)
    refine kN ⟨i+1,by omega⟩ (by simp only;omega) ?_
    rw[hSt];refine qC [0,1] [.live 2] ?_
    simp only[aR,seval,kA,kB,kH,e4,nA]<;>(and_intros<;>first|rfl|omega|trivial)
   ·have hi2:i=zs.length:=by omega
    subst hi2
    have e6:=List.take_of_length_le (Nat.le_refl zs.length)
    simp only[aR,seval,kA,kB,kH,h,e6]
    refine kW [0,1] [] (tsO (some s)) [] (.sl 0 1 (ints .i64 (zs.map Nd.id))) ⟨rfl,zs.map Nd.id,⟨zs,hz1,hp,rfl⟩,rfl,rfl⟩ ?_
    simp only[aR,seval,kA,kB,kH]<;>(and_intros<;>first|rfl|omega|trivial)
  ·intro zs hz1 hp
   have hzl:zs.length=(kept par s.l).length:=hz1.length_eq
   simp only[aR,seval,kA,kB,kAa,kH,kL,t0,t1,hzl]
   repeat (with_reducible refine And.intro ?_ ?_;focus first|omega|kernel_rfl)
   obtain ⟨St,hSt⟩:∃ St:{ i:Nat // i≤zs.length }→AS,∀ i,St i=AS.ofH 27 [(4,.sl 2 1 (ints .i64 ((zs.take i.1).map Nd.id))),(14,.sl 0 5 (kT zs)),(15,.v (.int .i64 zs.length)),(16,.v (.int .i64 i.1))] [(0,.ptr 0 0),(1,.mp 1)] (tsO (some s)) [(i.1,3)]:=⟨_,fun _=>rfl⟩
   refine kBG ?_
   refine zX [] hΓ St (fun i=>zs.length - i.1) ⟨0,by omega⟩ (by rw[hSt];refine qC [0,1] [.nil 1] ?_;simp only[aR,seval,kA,kB,kAa,kH,List.take_zero,List.map_nil,ints_nil,kL,hzl,t0,t1]<;>(and_intros<;>first|rfl|omega|trivial)) ?_
   rintro ⟨i,hle⟩
   rw[hSt]
   simp only
   simp only[aR,seval,kA,kB,kH,kL]
   (with_reducible first|refine kE (fun h=>?_) (fun h=>?_)|refine kF (fun h=>?_) (fun h=>?_))
   ·have hlt:i < zs.length:=by omega
    have e3:=qB zs hlt
    have e4:ints .i64 ((zs.take (i+1)).map Nd.id)=ints .i64 ((zs.take i).map Nd.id)++[.v (.int .i64 zs[i].id)]:=by
     rw[List.take_succ_eq_append_getElem hlt,List.map_append];simp[ints]
    have e5:(ints .i64 ((zs.take i).map Nd.id)).length=i:=by simp[ints];omega
    generalize zs[i]=x at *
    simp only[aR,seval,kA,kB,kH,h,e3,nA,kL,e5,wO (n:=(i:Int)+1)]
    repeat (with_reducible refine And.intro ?_ ?_;focus first|omega|kernel_rfl)
    refine kN ⟨i+1,by omega⟩ (by simp only;omega) ?_
    rw[hSt];refine qC [0,1] [.live 2] ?_
    simp only[aR,seval,kA,kB,kH,e4,nA]<;>(and_intros<;>first|rfl|omega|trivial)
   ·have hi2:i=zs.length:=by omega
    subst hi2
    have e6:=List.take_of_length_le (Nat.le_refl zs.length)
    simp only[aR,seval,kA,kB,kH,h,e6]
    refine kW [0,1] [] (tsO (some s)) [] (.sl 0 1 (ints .i64 (zs.map Nd.id))) ⟨rfl,zs.map Nd.id,⟨zs,hz1,hp,rfl⟩,rfl,rfl⟩ ?_
    simp only[aR,seval,kA,kB,kH]<;>(and_intros<;>first|rfl|omega|trivial)
end Go.Proofs
