/-
 Library functions' bodies at this dump,compared by the kernel: maps.Keys,slices.Sorted,slices.Sort,maps.Clone. The program's tree: all its qG;from a node to the root;how many code points. The program's tree: from a node to the root;how many code points. The program's tree: a copy;qG made. The program's tree: qG moved,edited. Library functions' bodies at this dump,compared by the kernel: slices.SortFunc at qG. The order of names;slices.SortFunc at qG,by their names.
-/
import Derived.Test.YtnpofobcbfbfnaaGreatDoorXHTi
import Derived.Shelf.SlIterI.Sorted
import Derived.Shelf.SlIterI.Nil
import Derived.Shelf.SlMaps.Clone
import Derived.Shelf.SortM.Plain
import Derived.Shelf.SortM.SortNone
import Derived.Test.YtnpofobcbfbfnaaGreatDoorXHAp2
import Derived.Test.YtnpofobcbfbfnaaGreatDoorRwP
import Derived.Shelf.SlLaysF0
import Derived.Sort.LotA
import Derived.Test.YtnpofobcbfbfnaaGreatDoorRwQ
import Derived.Test.YtnpofobcbfbfnaaGreatDoorRwO
set_option linter.unusedSimpArgs false
set_option linter.unusedVariables false
set_option linter.defProp false
set_option linter.unusedSectionVars false

-- HTrL
section
namespace Go.Proofs
open Go.Shelf
def Tryz.keysA_ren:Go.Shelf.Ren:=⟨fun|7=>35|10=>60|n=>n,fun|23=>69|26=>3|3=>82|28=>79|0=>0|27=>78|33=>94|4=>4|n=>n,fun|n=>n⟩
theorem Tryz.keysA:Go.Proofs.SlLaysZI.n7 Tryz.prog Tryz.keysA_ren where
 mixed:=by kernel_rfl
 f7 := ⟨"maps.Keys[map[int]ropewalk/api.Node,int,ropewalk/api.Node]", by decide, Tryz.func35.trans (congrArg some (by kernel_rfl))⟩
 f10 := ⟨"maps.Keys[map[int]ropewalk/api.Node,int,ropewalk/api.Node]$1", by decide, Tryz.func60.trans (congrArg some (by kernel_rfl))⟩
 t0:=Tryz.underlying0
 a0:=Tryz.isAgg0
 z0:=Tryz.sizeOf0
 v0:=Tryz.zeroValue0
 t4:=Tryz.underlying4
 a4:=Tryz.isAgg4
 z4:=Tryz.sizeOf4
 v4:=Tryz.zeroValue4
 t23:=Tryz.underlying69
 a23:=Tryz.isAgg69
 z23:=Tryz.sizeOf69
 v23:=Tryz.zeroValue69
 t26:=Tryz.underlying3
 a26:=Tryz.isAgg3
 z26:=Tryz.sizeOf3
 v26:=Tryz.zeroValue3
 t27:=Tryz.underlying78
 a27:=Tryz.isAgg78
 z27:=Tryz.sizeOf78
 v27:=Tryz.zeroValue78
 t28:=Tryz.underlying79
 a28:=Tryz.isAgg79
 z28:=Tryz.sizeOf79
 v28:=Tryz.zeroValue79
 t33:=Tryz.underlying94
 a33:=Tryz.isAgg94
 z33:=Tryz.sizeOf94
 v33:=Tryz.zeroValue94
def Tryz.sortedA_ren:Go.Shelf.Ren:=⟨fun|6=>34|8=>58|9=>59|11=>81|13=>83|12=>82|23=>114|24=>115|14=>105|15=>106|16=>107|17=>108|18=>109|19=>110|20=>111|21=>112|22=>113|25=>128|26=>129|27=>130|28=>131|29=>132|30=>133|31=>146|n=>n,fun|26=>3|28=>79|24=>60|0=>0|3=>3|37=>130|48=>158|50=>160|4=>4|40=>151|39=>150|45=>114|5=>5|9=>9|51=>167|55=>171|57=>184|58=>145|33=>94|n=>n,fun|n=>n⟩
theorem Tryz.sortedA:Go.Proofs.SlLaysZI.n6 Tryz.prog Tryz.sortedA_ren where
 mixed:=by kernel_rfl
 f6 := ⟨"slices.Sorted[int]", by decide, Tryz.func34.trans (congrArg some (by kernel_rfl))⟩
 f8 := ⟨"slices.Collect[int]", by decide, Tryz.func58.trans (congrArg some (by kernel_rfl))⟩
 f11 := ⟨"slices.AppendSeq[[]int,int]", by decide, Tryz.func81.trans (congrArg some (by kernel_rfl))⟩
 t0:=Tryz.underlying0
 a0:=Tryz.isAgg0
 z0:=Tryz.sizeOf0
 v0:=Tryz.zeroValue0
 t24:=Tryz.underlying60
 a24:=Tryz.isAgg60
 z24:=Tryz.sizeOf60
 v24:=Tryz.zeroValue60
 t26:=Tryz.underlying3
 a26:=Tryz.isAgg3
 z26:=Tryz.sizeOf3
 v26:=Tryz.zeroValue3
 t28:=Tryz.underlying79
 a28:=Tryz.isAgg79
 z28:=Tryz.sizeOf79
 v28:=Tryz.zeroValue79
 i26:=by kernel_rfl
def Tryz.sortA_ren:Go.Shelf.Ren:=⟨fun|5=>59|8=>83|7=>82|19=>114|20=>115|10=>105|11=>106|12=>107|13=>108|14=>109|15=>110|16=>111|17=>112|18=>113|30=>128|31=>129|32=>130|33=>131|34=>132|35=>133|40=>146|n=>n,fun|23=>60|25=>3|3=>3|32=>130|22=>60|0=>0|44=>158|46=>160|4=>4|36=>151|35=>150|41=>114|5=>5|9=>9|53=>167|57=>171|63=>184|64=>145|n=>n,fun|n=>n⟩
theorem Tryz.sortA:Go.Proofs.SlLaysM.n5 Tryz.prog Tryz.sortA_ren where
 mixed:=by kernel_rfl
 f5 := ⟨"slices.Sort[[]int,int]", by decide, Tryz.func59.trans (congrArg some (by kernel_rfl))⟩
 f7 := ⟨"slices.pdqsortOrdered[int]", by decide, Tryz.func82.trans (congrArg some (by kernel_rfl))⟩
 f8:=Tryz.func83.trans (congrArg some (by kernel_rfl))
 f10 := ⟨"slices.insertionSortOrdered[int]", by decide, Tryz.func105.trans (congrArg some (by kernel_rfl))⟩
 f11 := ⟨"slices.heapSortOrdered[int]", by decide, Tryz.func106.trans (congrArg some (by kernel_rfl))⟩
 f12 := ⟨"slices.breakPatternsOrdered[int]", by decide, Tryz.func107.trans (congrArg some (by kernel_rfl))⟩
 f13 := ⟨"slices.choosePivotOrdered[int]", by decide, Tryz.func108.trans (congrArg some (by kernel_rfl))⟩
 f14 := ⟨"slices.reverseRangeOrdered[int]", by decide, Tryz.func109.trans (congrArg some (by kernel_rfl))⟩
 f15 := ⟨"slices.partialInsertionSortOrdered[int]", by decide, Tryz.func110.trans (congrArg some (by kernel_rfl))⟩
 f16 := ⟨"cmp.Less[int]", by decide, Tryz.func111.trans (congrArg some (by kernel_rfl))⟩
 f17 := ⟨"slices.partitionEqualOrdered[int]", by decide, Tryz.func112.trans (congrArg some (by kernel_rfl))⟩
 f18 := ⟨"slices.partitionOrdered[int]", by decide, Tryz.func113.trans (congrArg some (by kernel_rfl))⟩
 f19:=Tryz.func114.trans (congrArg some (by kernel_rfl))
 f20:=Tryz.func115.trans (congrArg some (by kernel_rfl))
 f30 := ⟨"slices.siftDownOrdered[int]", by decide, Tryz.func128.trans (congrArg some (by kernel_rfl))⟩
 f31:=Tryz.func129.trans (congrArg some (by kernel_rfl))
 f32:=Tryz.func130.trans (congrArg some (by kernel_rfl))
 f33 := ⟨"slices.medianAdjacentOrdered[int]", by decide, Tryz.func131.trans (congrArg some (by kernel_rfl))⟩
 f34 := ⟨"slices.medianOrdered[int]", by decide, Tryz.func132.trans (congrArg some (by kernel_rfl))⟩
 f35 := ⟨"cmp.isNaN[int]", by decide, Tryz.func133.trans (congrArg some (by kernel_rfl))⟩
 f40 := ⟨"slices.order2Ordered[int]", by decide, Tryz.func146.trans (congrArg some (by kernel_rfl))⟩
 t0:=Tryz.underlying0
 a0:=Tryz.isAgg0
 z0:=Tryz.sizeOf0
 v0:=Tryz.zeroValue0
 t3:=Tryz.underlying3
 a3:=Tryz.isAgg3
 z3:=Tryz.sizeOf3
 v3:=Tryz.zeroValue3
 t4:=Tryz.underlying4
 a4:=Tryz.isAgg4
 z4:=Tryz.sizeOf4
 v4:=Tryz.zeroValue4
 t5:=Tryz.underlying5
 a5:=Tryz.isAgg5
 z5:=Tryz.sizeOf5
 v5:=Tryz.zeroValue5
 t9:=Tryz.underlying9
 a9:=Tryz.isAgg9
 z9:=Tryz.sizeOf9
 v9:=Tryz.zeroValue9
 t22:=Tryz.underlying60
 a22:=Tryz.isAgg60
 z22:=Tryz.sizeOf60
 v22:=Tryz.zeroValue60
 t23:=Tryz.underlying60
 a23:=Tryz.isAgg60
 z23:=Tryz.sizeOf60
 v23:=Tryz.zeroValue60
 t25:=Tryz.underlying3
 a25:=Tryz.isAgg3
 z25:=Tryz.sizeOf3
 v25:=Tryz.zeroValue3
 t32:=Tryz.underlying130
 a32:=Tryz.isAgg130
 z32:=Tryz.sizeOf130
 v32:=Tryz.zeroValue130
 t35:=Tryz.underlying150
 a35:=Tryz.isAgg150
 z35:=Tryz.sizeOf150
 v35:=Tryz.zeroValue150
 t36:=Tryz.underlying151
 a36:=Tryz.isAgg151
 z36:=Tryz.sizeOf151
 v36:=Tryz.zeroValue151
 t41:=Tryz.underlying114
 a41:=Tryz.isAgg114
 z41:=Tryz.sizeOf114
 v41:=Tryz.zeroValue114
 t44:=Tryz.underlying158
 a44:=Tryz.isAgg158
 z44:=Tryz.sizeOf158
 v44:=Tryz.zeroValue158
 t46:=Tryz.underlying160
 a46:=Tryz.isAgg160
 z46:=Tryz.sizeOf160
 v46:=Tryz.zeroValue160
 t53:=Tryz.underlying167
 a53:=Tryz.isAgg167
 z53:=Tryz.sizeOf167
 v53:=Tryz.zeroValue167
 t57:=Tryz.underlying171
 a57:=Tryz.isAgg171
 z57:=Tryz.sizeOf171
 v57:=Tryz.zeroValue171
 t63:=Tryz.underlying184
 a63:=Tryz.isAgg184
 z63:=Tryz.sizeOf184
 v63:=Tryz.zeroValue184
 t64:=Tryz.underlying145
 a64:=Tryz.isAgg145
 z64:=Tryz.sizeOf145
 v64:=Tryz.zeroValue145
def Tryz.cloneA_ren:Go.Shelf.Ren:=⟨fun|5=>55|7=>75|n=>n,fun|23=>69|25=>3|3=>82|4=>4|20=>20|n=>n,fun|n=>n⟩
theorem Tryz.cloneA:Go.Proofs.SlLaysW.n5 Tryz.prog Tryz.cloneA_ren where
 mixed:=by kernel_rfl
 f5 := ⟨"maps.Clone[map[int]ropewalk/api.Node,int,ropewalk/api.Node]", by decide, Tryz.func55.trans (congrArg some (by kernel_rfl))⟩
 f7:=Tryz.func75.trans (congrArg some (by kernel_rfl))
 t4:=Tryz.underlying4
 a4:=Tryz.isAgg4
 z4:=Tryz.sizeOf4
 v4:=Tryz.zeroValue4
 t20:=Tryz.underlying20
 a20:=Tryz.isAgg20
 z20:=Tryz.sizeOf20
 v20:=Tryz.zeroValue20
 t23:=Tryz.underlying69
 a23:=Tryz.isAgg69
 z23:=Tryz.sizeOf69
 v23:=Tryz.zeroValue69
end Go.Proofs
end
-- HTr2
section
namespace Go.Proofs
open Go Go.Rw
set_option maxRecDepth 100000
def idsOk (l:List Nd):Prop:=l.length≤1000000∧∀ x∈l,-9223372036854775808≤x.id∧x.id≤9223372036854775807
theorem keys_srt {l:List Nd} (h:srtN l):jU (ents l)=l.map Nd.id:=by
 unfold jU ents
 rw[List.map_map]
 have e:(Prod.fst ∘ fun x:Nd=>(x.id,nV x))=Nd.id:=rfl
 rw[e]
 refine List.mergeSort_of_pairwise ?_
 unfold srtN at h
 exact h.imp fun h1=>by simpa using Int.le_of_lt h1
theorem call_keys {Γ:Env} (hΓ:kM Tryz.prog Γ) (hC:Γ.get 34=none) {σ:AS} {d:Option Nat} {K:AS→Prop} {bx ob:Nat} {es:Array MapEntry} {cl:Nat} {l:List Nd}
    (hbx:σ.m.h bx=some (.cells [.mp ob])) (hob:σ.m.h ob=some (.map es cl)) (hM:TM es cl l) (hi:idsOk l)
    (hk:cont σ d (.sl 0 1 (ints .i64 (l.map Nd.id))) K):kP Tryz.prog Γ false σ 34 [.fn 60 [.ptr bx 0]] d K:=by
 refine zW hC (sorted_raw Tryz.keysA Tryz.sortedA Tryz.sortA rfl rfl rfl hbx hob hM.1 ?_ ?_ ?_)
 ·intro p hp
  obtain ⟨x,hx,rfl⟩:=List.mem_map.1 hp
  exact hi.2 x hx
 ·rw[kES hM];exact hi.1
 ·rw[keys_srt hM.2];exact hk
abbrev tnodesCon:ConO where
 ι:={ p:Option TS // ∀ s,p=some s→idsOk s.l }
 objs:=fun p=>tsO p.1
 args:=fun p=>[tsA p.1]
 post:=fun p objs lvs r=>objs=tsO p.1∧lvs=[((tsL p.1).length,82)]∧r = .sl 2 5 (qG (tsL p.1))
set_option maxHeartbeats 1000000 in
theorem tnodes_good:jX Tryz.prog 17 tnodesCon:=by
 have hΓ:kM Tryz.prog []:=kL
 refine qQ (nn:=29) Tryz.func17 (by kernel_rfl) rfl (show Tryz.f17.results.toList=[.tmp 2] from rfl) (fun _=>rfl) ?_
 rintro ⟨s,hs⟩
 refine qN hΓ (Ws:=[]) _ ?_
 cases s with
 | none =>
   simp only[aR,seval,kA,kB,kF]
   refine kV [] [.nil 5] [] [(0,82)] (.sl 2 5 (qG [])) ⟨rfl,rfl,rfl⟩ ?_
   simp only[aR,seval,kA,kB,kF,nodes_nil]<;>((repeat' apply And.intro)<;>first|rfl|omega|trivial)
 | some s =>
   have hi:=hs s rfl
   have e1:=kCB s.h
   simp only[aR,seval,kA,kB,kF,e1]
   (repeat (with_reducible refine And.intro ?_ ?_;focus (first|omega|exact kE|kernel_rfl)))
   refine qD (nn:=4) hΓ [] (by first|assumption|simp[kG,kN]) Tryz.func35 (by kernel_rfl) rfl (show Tryz.f35.results.toList=[.tmp 2] from rfl) rfl ?_
   simp only[aR,seval,kA,kB,]
   (repeat (with_reducible refine And.intro ?_ ?_;focus (first|omega|exact kE|kernel_rfl)))
   refine call_keys (es:=s.es) (cl:=s.cl) (ob:=1) hΓ (by simp[kG,kN]) (by simp[upd]) (by simp[upd]) s.h hi ?_
   simp only[aR,seval,kA,kB,]
   (repeat (with_reducible refine And.intro ?_ ?_;focus (first|omega|exact kE|kernel_rfl)))
   have hmem:∀ {i:Nat},(h:i < s.l.length)→gN s.l s.l[i].id=s.l[i]:=fun h=>by
    unfold gN
    rw[ndx_self (srt_mem s.h.2) _ (List.getElem?_eq_getElem h),List.getD_eq_getElem?_getD,List.getElem?_eq_getElem h];rfl
   have hil:(ints .i64 (s.l.map Nd.id)).length=s.l.length:=by simp[ints]
   obtain ⟨St,hSt⟩:∃ St:{ i:Nat // i≤s.l.length }→AS,∀ i,St i=AS.ofH 29 [(0,.ptr 0 0),(2,.sl 2 5 (qG (s.l.take i.1))),(12,.sl 0 1 (ints .i64 (s.l.map Nd.id))),(13,.v (.int .i64 s.l.length)),(14,.v (.int .i64 i.1))] [(0,.ptr 0 0),(1,.mp 1)] (tsO (some s)) [(i.1,82)]:=⟨_,fun _=>rfl⟩
   have hl:=hi.1
   refine kBm ?_
   refine jK [] hΓ St (fun i=>s.l.length - i.1) ⟨0,by omega⟩ (by rw[hSt];refine k5 [0,1] [.nil 5] ?_;simp only[aR,seval,kA,kB,kF,List.take_zero,nodes_nil,hil]<;>((repeat' apply And.intro)<;>first|rfl|omega|trivial)) ?_
   rintro ⟨i,hle⟩
   rw[hSt]
   simp only
   simp only[aR,seval,kA,kB,kF]
   (with_reducible first|refine kD (fun h=>?_) (fun h=>?_)|refine kH (fun h=>?_) (fun h=>?_))
   ·have hlt:i < s.l.length:=by omega
    have e2:(ints .i64 (s.l.map Nd.id)).getD i .any = .v (.int .i64 s.l[i].id):=by simp[ints,List.getD_eq_getElem?_getD,hlt]
    have e3:=hmem hlt
    have e4:qG (s.l.take (i+1))=qG (s.l.take i)++[nA s.l[i]]:=by
     show (s.l.take (i+1)).map nA=(s.l.take i).map nA++[nA s.l[i]]
     rw[List.take_succ_eq_append_getElem hlt,List.map_append];rfl
    have e5:(qG (s.l.take i)).length=i:=by rw[kY,List.length_take];omega
    generalize s.l[i]=x at *
    simp only[aR,seval,kA,kB,kF,h,e1,e2,e3,nA,hil,e5,kC (n:=(i:Int)+1) (by omega) (by omega)]
    (repeat (with_reducible refine And.intro ?_ ?_;focus (first|omega|exact kE|kernel_rfl)))
    refine kO ⟨i+1,by omega⟩ (by simp only;omega) ?_
    rw[hSt];refine k5 [0,1] [.live 2] ?_
    simp only[aR,seval,kA,kB,kF,e4,nA]<;>((repeat' apply And.intro)<;>first|rfl|omega|trivial)
   ·have hi2:i=s.l.length:=by omega
    subst hi2
    have e6:=List.take_of_length_le (Nat.le_refl s.l.length)
    simp only[aR,seval,kA,kB,kF,h,e6]
    refine kV [0,1] [.live 2] (tsO (some s)) [(s.l.length,82)] (.sl 2 5 (qG s.l)) ⟨rfl,rfl,rfl⟩ ?_
    simp only[aR,seval,kA,kB,kF]<;>((repeat' apply And.intro)<;>first|rfl|omega|trivial)
section
variable {Γ:Env} {n:Nat} {t:Nat→AV} {hd:Nat→Nat→AV} {d:Option Nat} {K:AS→Prop}
variable {nh nl:Nat} {h:Nat→Option AO} {fm:Nat→Nat} {lv:Nat→Option (Nat×Nat)} {mu:Bool}
def qI (h:Nat→Option AO) (o ob:Nat) (s:TS):Prop:=h o=some (.cells [.mp ob])∧h ob=some (.map s.es s.cl)∧o≠ob
theorem kBJ {f:FuncId} {C:ConO} (hG:jX Tryz.prog f C) (hC:Γ.get f=none) (i:C.ι) {s:TS} (hobjs:C.objs i=tsO (some s)) {o ob:Nat} (hT:qI h o ob s) {bs:List AV} (ha:dnL [o,ob] bs (C.args i)) (ht:AV.tagsL bs=[])
    (hro:∀ objs lvs r,C.post i objs lvs r→objs=C.objs i)
    (hk:∀ lvs r,C.post i (C.objs i) lvs r→cont ⟨n,t,hd,⟨nh,h,nl+lvs.length,kFB nl lvs fm,kEy nl lvs lv,mu⟩⟩ d (r.emb (obC [o,ob] nh) (lnC nl)) K):kP Tryz.prog Γ false ⟨n,t,hd,⟨nh,h,nl,fm,lv,mu⟩⟩ f bs d K:=by
 obtain ⟨h1,h2,h3⟩:=hT
 refine vc_obj hG hC i [o,ob] ⟨by simp[h3],ha,?_,ht,?_⟩ ?_
 ·rw[hobjs]
  simp only[tsO,kBF,kCf,h1,h2,kAg,kC3,kCF,kEd,dn_mp]
  simp
 ·simp[kAH,kA7,h1,h2,kFO,AO.tags,AV.tagsL,AV.tags]
 ·intro objs lvs r hp hl
  have e:=hro _ _ _ hp
  subst e
  have e2:kBh nh [o,ob] (kC4 (obC [o,ob] nh) (lnC nl) (C.objs i)) h=h:=by
   refine kFc _ _ (by rw[kEX,hobjs];rfl) fun j q x hj hx=>?_
   rw[kEF,hobjs]at hx
   match j,hj,hx with
   | 0,hj,hx=>cases hj;simp [tsO] at hx;subst hx;exact h1
   | 1,hj,hx=>cases hj;simp [tsO] at hx;subst hx;exact h2
   | j+2,hj,hx=>cases hj
  have e3:(C.objs i).length - [o,ob].length=0:=by rw[hobjs];rfl
  rw[e2,e3]
  exact hk lvs r hp
theorem kE3 (hC:Γ.get 17=none) {s:TS} (hi:idsOk s.l) {o ob:Nat} (hT:qI h o ob s)
    (hk:cont ⟨n,t,hd,⟨nh,h,nl+1,upd fm nl nl,upd lv nl (some (s.l.length,82)),mu⟩⟩ d (.sl nl 5 (qG s.l)) K):kP Tryz.prog Γ false ⟨n,t,hd,⟨nh,h,nl,fm,lv,mu⟩⟩ 17 [.ptr o 0] d K:=by
 refine kBJ tnodes_good hC ⟨some s,fun s' hs=>by cases hs;exact hi⟩ rfl hT (by simp[tsA,dnL,dn]) rfl (fun _ _ _ hp=>hp.1) ?_
 rintro lvs r ⟨_,rfl,rfl⟩
 exact hk
theorem call_tdir (hC:Γ.get 69=none) {s:TS} {id:Int} {o ob:Nat} (hT:qI h o ob s)
    (hk:cont ⟨n,t,hd,⟨nh,h,nl,fm,lv,mu⟩⟩ d (.v (.int .i64 (dirI s.l id))) K):kP Tryz.prog Γ false ⟨n,t,hd,⟨nh,h,nl,fm,lv,mu⟩⟩ 69 [.ptr o 0,.v (.int .i64 id)] d K:=by
 refine kBJ tdir_good hC (s,id) rfl hT (by simp[dnL,dn]) rfl (fun _ _ _ hp=>hp.1) ?_
 rintro lvs r ⟨_,rfl,rfl⟩
 exact hk
end
abbrev tchildCon:ConO where
 ι:={ p:TS×Int×List UInt8 // idsOk p.1.l∧(∀ x∈p.1.l,1≤x.id) }
 objs:=fun p=>tsO (some p.1.1)
 args:=fun p=>[.ptr 0 0,.v (.int .i64 p.1.2.1),.v (sv p.1.2.2)]
 post:=fun p objs lvs r=>objs=tsO (some p.1.1)∧lvs=[]∧r = .tup [.v (.int .i64 (max 0 (kid p.1.2.1 p.1.2.2 p.1.1.l))),.v (.bool (decide (0 < kid p.1.2.1 p.1.2.2 p.1.1.l)))]
set_option maxHeartbeats 1000000 in
theorem tchild_good:jX Tryz.prog 70 tchildCon:=by
 have hΓ:kM Tryz.prog []:=kL
 refine qQ (nn:=30) Tryz.func70 (by kernel_rfl) rfl (show Tryz.f70.results.toList=[.tmp 6,.tmp 7] from rfl) (fun _=>rfl) ?_
 rintro ⟨⟨s,par,nm⟩,hi,hpos⟩
 simp only at hi hpos
 refine qN hΓ (Ws:=[]) _ ?_
 simp only[aR,seval,kA,kB,kF]
 refine kE3 (s:=s) (o:=0) (ob:=1) (by simp[kG,kN]) hi (by simp[qI]) ?_
 simp only[aR,seval,kA,kB,kF,kY]
 (repeat (with_reducible refine And.intro ?_ ?_;focus (first|omega|exact kE|kernel_rfl)))
 have hl:=hi.1
 obtain ⟨St,hSt⟩:∃ St:{ i:Nat // i≤s.l.length∧kid par nm (s.l.drop i)=kid par nm s.l }→AS,∀ i,St i=AS.ofH 30 [(0,.ptr 0 0),(1,.v (.int .i64 par)),(2,.v (sv nm)),(11,.sl 0 5 (qG s.l)),(12,.v (.int .i64 s.l.length)),(13,.v (.int .i64 i.1))] [(0,.ptr 0 0),(1,.mp 1)] (tsO (some s)) []:=⟨_,fun _=>rfl⟩
 refine kBm ?_
 refine jK [] hΓ St (fun i=>s.l.length - i.1) ⟨0,by omega,by simp⟩ (by rw[hSt];refine k5 [0,1] [] ?_;simp only[aR,seval,kA,kB,kF,kY]<;>((repeat' apply And.intro)<;>first|rfl|omega|trivial)) ?_
 rintro ⟨i,hle,hf⟩
 rw[hSt]
 simp only
 simp only[aR,seval,kA,kB,kF,kY]
 (with_reducible first|refine kD (fun h=>?_) (fun h=>?_)|refine kH (fun h=>?_) (fun h=>?_))
 ·have hlt:i < s.l.length:=by omega
  have e1:=j6 s.l hlt
  have hx1:=hpos s.l[i] (List.getElem_mem hlt)
  rw[List.drop_eq_getElem_cons hlt,kid]at hf
  generalize s.l[i]=x at *
  by_cases hx:x.par=par
  ·by_cases hy:x.nm=nm
   ·rw[if_pos ⟨hx,hy⟩]at hf
    simp only[aR,seval,kA,kB,kF,h,e1,nA,kY,hx,hy]
    (repeat (with_reducible refine And.intro ?_ ?_;focus (first|omega|exact kE|kernel_rfl)))
    refine kV [0,1] [] (tsO (some s)) [] (.tup [.v (.int .i64 x.id),.v (.bool true)]) ⟨rfl,rfl,?_⟩ ?_
    ·rw[← hf,Int.max_eq_right (by omega),decide_eq_true (by omega)]
    ·simp only[aR,seval,kA,kB,kF]<;>((repeat' apply And.intro)<;>first|rfl|omega|trivial)
   ·rw[if_neg (fun hh=>hy hh.2)]at hf
    simp only[aR,seval,kA,kB,kF,h,e1,nA,kY,hx,hy,kC (n:=(i:Int)+1) (by omega) (by omega)]
    (repeat (with_reducible refine And.intro ?_ ?_;focus (first|omega|exact kE|kernel_rfl)))
    refine kO ⟨i+1,by omega,hf⟩ (by simp only;omega) ?_
    rw[hSt];refine k5 [0,1] [] ?_
    simp only[aR,seval,kA,kB,kF]<;>((repeat' apply And.intro)<;>first|rfl|omega|trivial)
  ·rw[if_neg (fun hh=>hx hh.1)]at hf
   simp only[aR,seval,kA,kB,kF,h,e1,nA,kY,hx,kC (n:=(i:Int)+1) (by omega) (by omega)]
   (repeat (with_reducible refine And.intro ?_ ?_;focus (first|omega|exact kE|kernel_rfl)))
   refine kO ⟨i+1,by omega,hf⟩ (by simp only;omega) ?_
   rw[hSt];refine k5 [0,1] [] ?_
   simp only[aR,seval,kA,kB,kF]<;>((repeat' apply And.intro)<;>first|rfl|omega|trivial)
 ·rw[List.drop_of_length_le (by omega),kid]at hf
  simp only[aR,seval,kA,kB,kF,h]
  refine kV [0,1] [] (tsO (some s)) [] (.tup [.v (.int .i64 0),.v (.bool false)]) ⟨rfl,rfl,?_⟩ ?_
  ·rw[← hf];rfl
  ·simp only[aR,seval,kA,kB,kF]<;>((repeat' apply And.intro)<;>first|rfl|omega|trivial)
theorem kEm {Γ:Env} {n:Nat} {t:Nat→AV} {hd:Nat→Nat→AV} {d:Option Nat} {K:AS→Prop} {nh nl:Nat} {h:Nat→Option AO} {fm:Nat→Nat} {lv:Nat→Option (Nat×Nat)} {mu:Bool} (hC:Γ.get 70=none) {s:TS} (hi:idsOk s.l) (hpos:∀ x∈s.l,1≤x.id) {par:Int} {nm:List UInt8} {o ob:Nat} (hT:qI h o ob s)
    (hk:cont ⟨n,t,hd,⟨nh,h,nl,fm,lv,mu⟩⟩ d (.tup [.v (.int .i64 (max 0 (kid par nm s.l))),.v (.bool (decide (0 < kid par nm s.l)))]) K):kP Tryz.prog Γ false ⟨n,t,hd,⟨nh,h,nl,fm,lv,mu⟩⟩ 70 [.ptr o 0,.v (.int .i64 par),.v (sv nm)] d K:=by
 refine kBJ tchild_good hC ⟨(s,par,nm),hi,hpos⟩ rfl hT (by simp[dnL,dn]) rfl (fun _ _ _ hp=>hp.1) ?_
 rintro lvs r ⟨_,rfl,rfl⟩
 exact hk
end Go.Proofs
end
-- HTr3
section
namespace Go.Proofs
open Go Go.Rw
set_option maxRecDepth 100000
theorem kCm (l:List UInt8):kBi l = .tup [.v (.int .i64 (cnt l)),.v (.int .i64 (if (pts l).isSome=true then 0 else 2))]:=by
 unfold kBi cnt res2
 cases pts l<;>rfl
theorem cnt_le (l:List UInt8):cnt l≤l.length:=by rw[kC8];exact cpts_len l
theorem kFV {a b c d e:AV}:fieldA Tryz.prog 82 (.agg [a,b,c,d,e]) 1=some b:=rfl
def kAx (l:List Nd):Nat→Int→Bool
 | 0,id=>decide (id=0)
 | k+1,id=>if id=0 then true else kAx l k (gN l id).par
abbrev trootCon:ConO where
 ι:={ p:TS×Int // p.1.l.length≤1000000 }
 objs:=fun p=>tsO (some p.1.1)
 args:=fun p=>[.ptr 0 0,.v (.int .i64 p.1.2)]
 post:=fun p objs lvs r=>objs=tsO (some p.1.1)∧lvs=[]∧r = .v (.bool (kAx p.1.1.l p.1.1.l.length p.1.2))
theorem troot_good:jX Tryz.prog 47 trootCon:=by
 have hΓ:kM Tryz.prog []:=kL
 refine qQ (nn:=24) Tryz.func47 (by kernel_rfl) rfl (show Tryz.f47.results.toList=[.tmp 4] from rfl) (fun _=>rfl) ?_
 rintro ⟨⟨s,id⟩,hl⟩
 simp only at hl
 refine qN hΓ (Ws:=[]) _ ?_
 have e1:=kCB s.h
 have e2:=kES s.h
 simp only[aR,seval,kA,kB,kF]
 refine vcM_sc ?_
 obtain ⟨St,hSt⟩:∃ St:{ p:Nat×Int // p.1≤s.l.length∧kAx s.l (s.l.length - p.1) p.2=kAx s.l s.l.length id }→AS,∀ p,St p=AS.ofH 24 [(0,.ptr 0 0),(1,.v (.int .i64 p.1.2)),(5,.v (.int .i64 p.1.1))] [(0,.ptr 0 0),(1,.mp 1)] (tsO (some s)) []:=⟨_,fun _=>rfl⟩
 refine vc_labM [] hΓ 0 St (fun p=>s.l.length - p.1.1) 0 rfl rfl ?_ ?_
 ·rintro ⟨⟨k,x⟩,hk,hr⟩
  simp only at hk hr
  rw[hSt]
  simp only
  simp only[aR,seval,kA,kB,k7,kF,e1,e2]
  by_cases hx:x=0
  ·have e3:kAx s.l s.l.length id=true:=by
     rw[← hr,hx]
     cases s.l.length - k<;>simp[kAx]
   simp only[aR,seval,kA,kB,k7,kF,e1,e2,hx]
   refine kV [0,1] [] (tsO (some s)) [] (.v (.bool true)) ⟨rfl,rfl,by rw[e3]⟩ ?_
   simp only[aR,seval,kA,kB,kF]<;>((repeat' apply And.intro)<;>first|rfl|omega|trivial)
  simp only[aR,seval,kA,kB,k7,kF,e1,e2,hx,kC (n:=(k:Int)+1) (by omega) (by omega)]
  (with_reducible first|refine kD (fun h=>?_) (fun h=>?_)|refine kH (fun h=>?_) (fun h=>?_))
  ·have e3:kAx s.l s.l.length id=false:=by
     rw[← hr,show s.l.length - k=0 by omega,kAx]
     simp[hx]
   simp only[aR,seval,kA,kB,k7,kF,h]
   refine kV [0,1] [] (tsO (some s)) [] (.v (.bool false)) ⟨rfl,rfl,by rw[e3]⟩ ?_
   simp only[aR,seval,kA,kB,kF]<;>((repeat' apply And.intro)<;>first|rfl|omega|trivial)
  ·have hlt:k < s.l.length:=by omega
   rw[show s.l.length - k=(s.l.length - (k+1))+1 by omega,kAx,if_neg hx]at hr
   simp only[aR,seval,kA,kB,k7,kF,h,e1,nA,kFV]
   (repeat (with_reducible refine And.intro ?_ ?_;focus (first|omega|exact kE|kernel_rfl)))
   refine kO ⟨(k+1,(gN s.l x).par),by simp only;omega,hr⟩ (by simp only;omega) ?_
   rw[hSt];refine k5 [0,1] [] ?_
   simp only[aR,seval,kA,kB,kF]<;>((repeat' apply And.intro)<;>first|rfl|omega|trivial)
 ·simp only[aR,seval,kA,kB,k7,kF]
  refine ⟨⟨(0,id),by simp,by simp⟩,?_⟩
  rw[hSt];refine k5 [0,1] [] ?_
  simp only[aR,seval,kA,kB,kF]<;>((repeat' apply And.intro)<;>first|rfl|omega|trivial)
-- how many code points
def wE (e:MapEntry):Nat:=match e.val with
 | .agg a=>match (a[4]?:Option Value) with
   | some (.string s)=>cnt s.data.toList
   | _=>0
 | _=>0
theorem ent_of {es:Array MapEntry} {cl:Nat} {l:List Nd} (h:TM es cl l):∀ e∈es.toList,∃ x∈l,e.key = .int .i64 x.id∧e.val=nV x∧wE e=cnt x.text:=by
 obtain ⟨⟨hu,ps',hp,hm,hb,hc⟩,hs⟩:=h
 intro e he
 obtain ⟨i,hi,rfl⟩:=List.getElem_of_mem he
 have hil:i < ps'.length:=by
  have:=congrArg List.length hm
  simp only[List.length_map]at this
  omega
 have h1:(es.toList.map fun e=>(e.key,e.val))[i]? = (ps'.map fun p=>(Value.int .i64 p.1,p.2))[i]?:=by rw[hm]
 rw[List.getElem?_map,List.getElem?_map,List.getElem?_eq_getElem hi,List.getElem?_eq_getElem hil]at h1
 simp only[Option.map_some,Option.some.injEq,Prod.mk.injEq]at h1
 have h2:ps'[i]∈ents l:=hp.mem_iff.1 (List.getElem_mem hil)
 obtain ⟨x,hx,hx2⟩:=List.mem_map.1 h2
 refine ⟨x,hx,?_,?_,?_⟩
 ·rw[h1.1,← hx2]
 ·rw[h1.2,← hx2]
 ·unfold wE
  rw[h1.2,← hx2]
  simp[nV,sv]
theorem tot_sum:∀ l:List Nd,(l.map fun x=>cnt x.text).sum=totN l
 | []=>rfl
 | x::l=>by rw [List.map_cons,List.sum_cons,tot_sum l,totN]
theorem tot_tm {es:Array MapEntry} {cl:Nat} {l:List Nd} (h:TM es cl l):(es.toList.map wE).sum=totN l:=by
 have hw:=ent_of h
 obtain ⟨⟨hu,ps',hp,hm,hb,hc⟩,hs⟩:=h
 have e1:es.toList.map wE=ps'.map fun p=>wE ⟨.int .i64 p.1,p.2,0⟩:=by
  have:=congrArg (List.map fun q:Value×Value=>wE ⟨q.1,q.2,0⟩) hm
  rw[List.map_map,List.map_map]at this
  exact this
 have e2:(ps'.map fun p=>wE ⟨.int .i64 p.1,p.2,0⟩).Perm (l.map fun x=>cnt x.text):=by
  refine (hp.map _).trans ?_
  unfold ents
  rw[List.map_map]
  have:((fun p:Int×Value=>wE ⟨.int .i64 p.1,p.2,0⟩) ∘ fun x:Nd=>(x.id,nV x))=fun x=>cnt x.text:=by
   funext x
   simp[wE,nV,sv]
  rw[this]
 rw[e1,e2.sum_nat]
 exact tot_sum l
def z7 (L:List MapEntry) (seen:Array Nat):List MapEntry:=L.filter fun e=>!seen.contains e.born
theorem left_push {seen:Array Nat} {e:MapEntry}:∀ {L:List MapEntry},(L.map (·.born)).Nodup→e∈L→seen.contains e.born=false→((z7 L seen).map wE).sum=wE e+((z7 L (seen.push e.born)).map wE).sum∧(z7 L (seen.push e.born)).length < (z7 L seen).length
 | [],_,h,_=>by cases h
 | x::L,hn,h,hs=>by
   simp only[List.map_cons,List.nodup_cons]at hn
   have hpush:∀ y:MapEntry,(seen.push e.born).contains y.born=(seen.contains y.born || y.born == e.born):=fun y=>by
    rw[Bool.eq_iff_iff]
    simp[Array.contains_iff_mem,Array.mem_push]
   rcases List.mem_cons.1 h with rfl|h1
   ·have hrest:z7 L (seen.push e.born)=z7 L seen:=by
      unfold z7
      refine List.filter_congr fun y hy=>?_
      rw[hpush]
      have:(y.born == e.born)=false:=by
       simp only[beq_eq_false_iff_ne,ne_eq]
       intro hc
       exact hn.1 (hc ▸ List.mem_map.2 ⟨y,hy,rfl⟩)
      rw[this,Bool.or_false]
    have e1:z7 (e::L) seen=e::z7 L seen:=by unfold z7;rw[List.filter_cons_of_pos (by show (!seen.contains e.born)=true;rw[hs];rfl)]
    have e2:z7 (e::L) (seen.push e.born)=z7 L seen:=by
     rw[← hrest]
     unfold z7
     rw[List.filter_cons_of_neg (by show ¬ (!(seen.push e.born).contains e.born)=true;rw[hpush];simp)]
    rw[e1,e2]
    simp
   ·obtain ⟨ih1,ih2⟩:=left_push hn.2 h1 hs
    have hne:(x.born == e.born)=false:=by
     simp only[beq_eq_false_iff_ne,ne_eq]
     intro hc
     exact hn.1 (hc ▸ List.mem_map.2 ⟨e,h1,rfl⟩)
    have e1:(seen.push e.born).contains x.born=seen.contains x.born:=by rw[hpush,hne,Bool.or_false]
    cases hx:seen.contains x.born with
    | true =>
      have a1:z7 (x::L) seen=z7 L seen:=by unfold z7;rw[List.filter_cons_of_neg (by show ¬ (!seen.contains x.born)=true;rw[hx];decide)]
      have a2:z7 (x::L) (seen.push e.born)=z7 L (seen.push e.born):=by unfold z7;rw[List.filter_cons_of_neg (by show ¬ (!(seen.push e.born).contains x.born)=true;rw[e1,hx];decide)]
      rw[a1,a2];exact ⟨ih1,ih2⟩
    | false =>
      have a1:z7 (x::L) seen=x::z7 L seen:=by unfold z7;rw[List.filter_cons_of_pos (by show (!seen.contains x.born)=true;rw[hx];rfl)]
      have a2:z7 (x::L) (seen.push e.born)=x::z7 L (seen.push e.born):=by unfold z7;rw[List.filter_cons_of_pos (by show (!(seen.push e.born).contains x.born)=true;rw[e1,hx];rfl)]
      rw[a1,a2]
      simp only[List.map_cons,List.sum_cons,List.length_cons]
      omega
theorem find_born {es:Array MapEntry} {e:MapEntry} (hn:(es.toList.map (·.born)).Nodup) (he:e∈es):es.find? (·.born == e.born)=some e:=by
 rw[← Array.find?_toList]
 have he:e∈es.toList:=by simpa using he
 generalize es.toList=L at hn he
 induction L with
 | nil=>cases he
 | cons x L ih =>
   simp only[List.map_cons,List.nodup_cons]at hn
   rcases List.mem_cons.1 he with rfl|h1
   ·simp
   ·rw[List.find?_cons_of_neg]
    ·exact ih hn.2 h1
    ·simp only[beq_iff_eq]
     intro hc
     exact hn.1 (hc ▸ List.mem_map.2 ⟨e,h1,rfl⟩)
abbrev tallCon:ConO where
 ι:={ s:TS // totN s.l≤1000000000000∧∀ x∈s.l,x.text.length≤1099511627776 }
 objs:=fun p=>tsO (some p.1)
 args:=fun p=>[.ptr 0 0]
 post:=fun p objs lvs r=>objs=tsO (some p.1)∧lvs=[]∧r = .v (.int .i64 (totN p.1.l))
set_option maxHeartbeats 1000000 in
theorem tall_good:jX Tryz.prog 48 tallCon:=by
 have hΓ:kM Tryz.prog [(73,kBX)]:=(kJ kDV kL)
 refine qQ (nn:=26) Tryz.func48 (by kernel_rfl) rfl (show Tryz.f48.results.toList=[.tmp 2] from rfl) (fun _=>rfl) ?_
 rintro ⟨s,ht,hx⟩
 refine qN hΓ (Ws:=[]) _ ?_
 have hM:=s.h
 have hent:=ent_of hM
 have htot:=tot_tm hM
 obtain ⟨⟨hu,ps',hp,hm,hb,hc⟩,hs⟩:=hM
 simp only[aR,seval,kA,kB,kF]
 (repeat (with_reducible refine And.intro ?_ ?_;focus (first|omega|exact kE|kernel_rfl)))
 obtain ⟨St,hSt⟩:∃ St:{ p:Array Nat×Nat // p.2+((z7 s.es.toList p.1).map wE).sum=totN s.l }→AS,∀ p,St p=AS.ofH 26 [(0,.ptr 0 0),(2,.v (.int .i64 p.1.2)),(11,.ptr 2 0)] [(0,.ptr 0 0),(1,.mp 1)] [.cells [.mp 1],.map s.es s.cl,.mit 1 s.cl p.1.1 s.cl] []:=⟨_,fun _=>rfl⟩
 refine kBm ?_
 refine jK [] hΓ St (fun p=>(z7 s.es.toList p.1.1).length) ⟨(#[],0),by simp only[Nat.zero_add];rw[← htot];congr 2;unfold z7;rw[List.filter_eq_self];intro e _;simp⟩ (by rw[hSt];refine k5 [0,1,2] [] ?_;simp only[aR,seval,kA,kB,kF]<;>((repeat' apply And.intro)<;>first|rfl|omega|trivial)) ?_
 rintro ⟨⟨seen,n⟩,hsum⟩
 simp only at hsum
 rw[hSt]
 simp only
 simp only[aR,seval,kA,kB,kF]
 refine ⟨1,s.cl,seen,s.cl,s.es,s.cl,rfl,rfl,?_,fun e he hne=>?_,fun hall=>?_⟩
 ·cases hsn:seen.isEmpty with
  | true=>simp
  | false =>
    cases hen:s.es.isEmpty with
    | true=>simp
    | false =>
      simp only[Bool.not_false,Bool.true_and,Bool.and_true]
      rw[Bool.eq_false_iff]
      intro hall
      rw[Array.all_eq_true']at hall
      have hpos:0 < s.es.size:=by
       rw[Array.isEmpty_eq_false_iff]at hen
       exact Array.size_pos_iff.2 hen
      have h1:=hall s.es[0] (Array.getElem_mem hpos)
      have h2:=hc s.es[0] (by simp)
      simp at h1
      omega
 ·have hel:e∈s.es.toList:=by simpa using he
  obtain ⟨x,hx1,hx2,hx3,hx4⟩:=hent e hel
  obtain ⟨p1,p2⟩:=left_push hb hel hne
  have hcx:=hx x hx1
  have hcl:=cnt_le x.text
  have hfe:=find_born hb he
  have hcr:=kCm x.text
  have hv:kD9 e.val=nA x:=by rw[hx3];rfl
  rw[hx4]at p1
  simp only[aR,seval,kA,kB,kF]
  (repeat (with_reducible refine And.intro ?_ ?_;focus (first|omega|exact kE|kernel_rfl)))
  refine ⟨1,s.cl,seen.push e.born,s.cl,s.es,e.born,e,rfl,rfl,by simp,hfe,?_⟩
  simp only[aR,seval,kA,kB,kF,hv,nA]
  (repeat (with_reducible refine And.intro ?_ ?_;focus (first|omega|exact kE|kernel_rfl)))
  refine kB0 (by simp[kG]) hcx ?_
  simp only[aR,seval,kA,kB,kF,hcr,kC (n:=(n:Int)+cnt x.text) (by omega) (by omega)]
  (repeat (with_reducible refine And.intro ?_ ?_;focus (first|omega|exact kE|kernel_rfl)))
  refine kO ⟨(seen.push e.born,n+cnt x.text),by simp only;omega⟩ (by simp only;omega) ?_
  rw[hSt];refine k5 [0,1,2] [] ?_
  simp only[aR,seval,kA,kB,kF]<;>((repeat' apply And.intro)<;>first|rfl|omega|trivial)
 ·have e0:z7 s.es.toList seen=[]:=by
    unfold z7
    rw[List.filter_eq_nil_iff]
    intro e he
    have h1:=hc e he
    cases h2:seen.contains e.born with
    | true=>simp
    | false =>
      have:=hall e (by simpa using he) h2
      omega
  rw[e0]at hsum
  simp only[List.map_nil,List.sum_nil,Nat.add_zero]at hsum
  subst hsum
  simp only[aR,seval,kA,kB,kF]
  (repeat (with_reducible refine And.intro ?_ ?_;focus (first|omega|exact kE|kernel_rfl)))
  refine kV [0,1] [] (tsO (some s)) [] (.v (.int .i64 (totN s.l))) ⟨rfl,rfl,rfl⟩ ?_
  simp only[aR,seval,kA,kB,kF]<;>((repeat' apply And.intro)<;>first|rfl|omega|trivial)
theorem call_tall {Γ:Env} {n:Nat} {t:Nat→AV} {hd:Nat→Nat→AV} {d:Option Nat} {K:AS→Prop} {nh nl:Nat} {h:Nat→Option AO} {fm:Nat→Nat} {lv:Nat→Option (Nat×Nat)} {mu:Bool} (hC:Γ.get 48=none) {s:TS} (ht:totN s.l≤1000000000000∧∀ x∈s.l,x.text.length≤1099511627776) {o ob:Nat} (hT:qI h o ob s)
    (hk:cont ⟨n,t,hd,⟨nh,h,nl,fm,lv,mu⟩⟩ d (.v (.int .i64 (totN s.l))) K):kP Tryz.prog Γ false ⟨n,t,hd,⟨nh,h,nl,fm,lv,mu⟩⟩ 48 [.ptr o 0] d K:=by
 refine kBJ tall_good hC ⟨s,ht⟩ rfl hT (by simp[dnL,dn]) rfl (fun _ _ _ hp=>hp.1) ?_
 rintro lvs r ⟨_,rfl,rfl⟩
 exact hk
end Go.Proofs
end
-- HTr4
section
namespace Go.Proofs
open Go Go.Rw
set_option maxRecDepth 100000
theorem clone_raw {P:Program} [Tabs] {ρ:Go.Shelf.Ren} (L:SlLaysW.n5 P ρ) {f:FuncId} (e:ρ.f 5=f) {σ:AS} {ob:Nat} {es:Array MapEntry} {cl:Nat} {d:Option Nat} {K:AS→Prop} (hob:σ.m.h ob=some (.map es cl))
    (hk:cont (σ.new (.map es cl)) d (.mp σ.m.nh) K):RawC P σ f [.mp ob] d K:=by
 subst e
 refine ⟨?_,fun w0 F0 Fp X G w a vs hr hlen hv=>?_⟩
 ·obtain ⟨nm,hn,hf⟩:=L.f5
  exact ⟨_,hf,hn,rfl⟩
 have hv0:=hv 0
 simp only[List.getD_cons_zero]at hv0
 have h0:=mp_inv hv0
 have hvs:vs = #[.map (some (G.ob ob))]:=by
  apply Array.ext (by simpa using hlen)
  intro i h1 h2
  have:i=0:=by simp at h2;omega
  subst this
  rw[← h0];simp[Array.getD,h1]
 obtain ⟨hol,hh⟩:=kAB hr hob
 rw[hvs]
 refine (AnyW.maps_Clone L (G.ob ob) es cl w hh).mono ?_
 rintro ed w' ⟨rfl,rfl⟩
 obtain ⟨hr2,hp⟩:=hr.newObj (.map es cl) (.map es cl) (.map es cl (heap_alloc_new w _))
 exact ⟨_,_,_,_,rfl,hr2,mp_of_ptr hp rfl,hk⟩
abbrev tcopyCon:ConO where
 ι:=Option TS
 objs:=tsO
 args:=fun p=>[tsA p]
 post:=fun p objs lvs r=>match p with
  | none=>objs=[]∧lvs=[]∧r = .v (.pointer none)
  | some s=>objs=tsO (some s)++[.cells [.mp 3],.map s.es s.cl]∧lvs=[]∧r = .ptr 2 0
theorem tcopy_good:jX Tryz.prog 28 tcopyCon:=by
 have hΓ:kM Tryz.prog []:=kL
 refine qQ (nn:=12) Tryz.func28 (by kernel_rfl) rfl (show Tryz.f28.results.toList=[.tmp 2] from rfl) (fun _=>rfl) ?_
 rintro s
 refine qN hΓ (Ws:=[]) _ ?_
 cases s with
 | none =>
   simp only[aR,seval,kA,kB,kF]
   refine kV [] [] [] [] (.v (.pointer none)) ⟨rfl,rfl,rfl⟩ ?_
   simp only[aR,seval,kA,kB,kF]<;>((repeat' apply And.intro)<;>first|rfl|omega|trivial)
 | some s =>
   simp only[aR,seval,kA,kB,kF]
   (repeat (with_reducible refine And.intro ?_ ?_;focus (first|omega|exact kE|kernel_rfl)))
   refine zW (by simp[kG,kN]) (clone_raw Tryz.cloneA rfl (es:=s.es) (cl:=s.cl) rfl ?_)
   simp only[aR,seval,kA,kB,kF]
   refine kV [0,1,3,2] [] (tsO (some s)++[.cells [.mp 3],.map s.es s.cl]) [] (.ptr 2 0) ⟨rfl,rfl,rfl⟩ ?_
   simp only[aR,seval,kA,kB,kF]<;>((repeat' apply And.intro)<;>first|rfl|omega|trivial)
section
variable {Γ:Env} {n:Nat} {t:Nat→AV} {hd:Nat→Nat→AV} {d:Option Nat} {K:AS→Prop}
variable {nh nl:Nat} {h:Nat→Option AO} {fm:Nat→Nat} {lv:Nat→Option (Nat×Nat)} {mu:Bool}
theorem kD0 {α:Type} {f:Nat→α} {o:Nat} {x:α} (h:f o=x):upd f o x=f:=by
 funext j
 simp only[upd]
 split
 ·rename_i he;rw[he,h]
 ·rfl
theorem kDH (hC:Γ.get 28=none) {s:TS} {o ob:Nat} (hT:qI h o ob s)
    (hk:cont ⟨n,t,hd,⟨nh+2,upd (upd h nh (some (.cells [.mp (nh+1)]))) (nh+1) (some (.map s.es s.cl)),nl,fm,lv,mu⟩⟩ d (.ptr nh 0) K):kP Tryz.prog Γ false ⟨n,t,hd,⟨nh,h,nl,fm,lv,mu⟩⟩ 28 [.ptr o 0] d K:=by
 obtain ⟨h1,h2,h3⟩:=hT
 refine vc_obj tcopy_good hC (some s) [o,ob] ⟨by simp[h3],by simp[tsA,dnL,dn],?_,rfl,?_⟩ ?_
 ·simp only[tsO,kBF,kCf,h1,h2,kAg,kC3,kCF,kEd,dn_mp]
  simp
 ·simp[kAH,kA7,h1,h2,kFO,AO.tags,AV.tagsL,AV.tags]
 ·rintro objs lvs r ⟨rfl,rfl,rfl⟩ hl
  have e1:upd h o (some (.cells [.mp ob]))=h:=kD0 h1
  have e2:upd h ob (some (.map s.es s.cl))=h:=kD0 h2
  have e3:(tsO (some s)++[AO.cells [.mp 3],.map s.es s.cl]).length - [o,ob].length=2:=rfl
  rw[e3]
  simp only[tsO,List.cons_append,List.nil_append,j1,kAa,j4,kBa,kA1,kB6,kFW,kB2,kBU,kDO,j5,kAf,kAd,kAc,kA5,kEJ,List.length_nil,Nat.add_zero,e1,e2]
  exact hk
end
def creN (l:List Nd) (a:Ac):List Nd×Int :=
 if a.id < 1∨a.id > 1099511627776∨qY a.nm=false then (l,1)
 else if hasN l a.id=true then (l,6)
 else if dirI l a.par≠0 then (l,dirI l a.par)
 else if 0 < kid a.par a.nm l then (l,6)
 else if l.length ≥ 100 then (l,4)
 else (setT ⟨a.id,a.par,a.nm,a.dir,[]⟩ l,0)
def trOk (l:List Nd):Prop:=idsOk l∧(∀ x∈l,1≤x.id)∧(totN l≤1000000000000∧∀ x∈l,x.text.length≤1099511627776)
def mutP (s:TS) (q:List Nd×Int) (objs:List AO) (lvs:List (Nat×Nat)) (r:AV):Prop :=
 ∃ s':TS,s'.l=q.1∧objs=tsO (some s')∧lvs=[]∧r = .v (.int .i64 q.2)
abbrev tcreCon:ConO where
 ι:={ p:TS×Ac // trOk p.1.l∧p.2.nm.length≤1099511627776 }
 objs:=fun p=>tsO (some p.1.1)
 args:=fun p=>[.ptr 0 0,aA p.1.2]
 post:=fun p=>mutP p.1.1 (creN p.1.1.l p.1.2)
set_option maxHeartbeats 2000000 in
theorem tcre_good:jX Tryz.prog 40 tcreCon:=by
 have hΓ:kM Tryz.prog [(68,kCq)]:=(kJ kEC kL)
 refine qQ (nn:=73) Tryz.func40 (by kernel_rfl) rfl (show Tryz.f40.results.toList=[.tmp 4] from rfl) (fun _=>rfl) ?_
 rintro ⟨⟨s,a⟩,⟨hi,hpos,hw⟩,hn⟩
 obtain ⟨k,id,par,nm,dir,ops⟩:=a
 simp only at hi hpos hn
 refine qN hΓ (Ws:=[]) _ ?_
 have e1:=kCB s.h
 have e2:=kES s.h
 simp only[aR,seval,kA,kB,kF,aA]
 (repeat (with_reducible refine And.intro ?_ ?_;focus (first|omega|exact kE|kernel_rfl)))
 have e0:creN s.l ⟨k,id,par,nm,dir,ops⟩=if id < 1∨id > 1099511627776∨qY nm=false then (s.l,1) else if hasN s.l id=true then (s.l,6) else if dirI s.l par≠0 then (s.l,dirI s.l par) else if 0 < kid par nm s.l then (s.l,6) else if s.l.length ≥ 100 then (s.l,4) else (setT ⟨id,par,nm,dir,[]⟩ s.l,0):=rfl
 by_cases h1:id < 1
 ·rw[if_pos (.inl h1)]at e0
  simp only[aR,seval,kA,kB,kF,h1]
  refine kV [0,1] [] (tsO (some s)) [] (.v (.int .i64 1)) ⟨s,by rw[e0],rfl,rfl,by rw[e0]⟩ ?_
  simp only[aR,seval,kA,kB,kF]<;>((repeat' apply And.intro)<;>first|rfl|omega|trivial)
 by_cases h2:id > 1099511627776
 ·rw[if_pos (.inr (.inl h2))]at e0
  simp only[aR,seval,kA,kB,kF,h1,h2]
  refine kV [0,1] [] (tsO (some s)) [] (.v (.int .i64 1)) ⟨s,by rw[e0],rfl,rfl,by rw[e0]⟩ ?_
  simp only[aR,seval,kA,kB,kF]<;>((repeat' apply And.intro)<;>first|rfl|omega|trivial)
 simp only[aR,seval,kA,kB,kF,h1,h2]
 refine kEe (by simp[kG]) hn ?_
 cases hnm:qY nm
 ·rw[if_pos (.inr (.inr hnm))]at e0
  simp only[aR,seval,kA,kB,kF,h1,h2,hnm]
  refine kV [0,1] [] (tsO (some s)) [] (.v (.int .i64 1)) ⟨s,by rw[e0],rfl,rfl,by rw[e0]⟩ ?_
  simp only[aR,seval,kA,kB,kF]<;>((repeat' apply And.intro)<;>first|rfl|omega|trivial)
 rw[if_neg (by rintro (hh|hh|hh);exact h1 hh;exact h2 hh;rw[hnm]at hh;cases hh)]at e0
 simp only[aR,seval,kA,kB,kF,h1,h2,hnm,e1,nA]
 (repeat (with_reducible refine And.intro ?_ ?_;focus (first|omega|exact kE|kernel_rfl)))
 cases hh:hasN s.l id
 case true =>
  rw[if_pos hh]at e0
  simp only[aR,seval,kA,kB,kF,hh]
  refine kV [0,1] [] (tsO (some s)) [] (.v (.int .i64 6)) ⟨s,by rw[e0],rfl,rfl,by rw[e0]⟩ ?_
  simp only[aR,seval,kA,kB,kF]<;>((repeat' apply And.intro)<;>first|rfl|omega|trivial)
 rw[if_neg (by rw[hh];decide)]at e0
 simp only[aR,seval,kA,kB,kF,hh]
 refine call_tdir (s:=s) (o:=0) (ob:=1) (by simp[kG,kN]) (by simp[qI,upd]) ?_
 simp only[aR,seval,kA,kB,kF]
 (repeat (with_reducible refine And.intro ?_ ?_;focus (first|omega|exact kE|kernel_rfl)))
 by_cases hd:dirI s.l par=0
 case neg =>
  rw[if_pos hd]at e0
  simp only[aR,seval,kA,kB,kF,hd]
  refine kV [0,1] [] (tsO (some s)) [] (.v (.int .i64 (dirI s.l par))) ⟨s,by rw[e0],rfl,rfl,by rw[e0]⟩ ?_
  simp only[aR,seval,kA,kB,kF]<;>((repeat' apply And.intro)<;>first|rfl|omega|trivial)
 rw[if_neg (fun hc=>hc hd)]at e0
 simp only[aR,seval,kA,kB,kF,hd]
 (repeat (with_reducible refine And.intro ?_ ?_;focus (first|omega|exact kE|kernel_rfl)))
 refine kEm (s:=s) (o:=0) (ob:=1) (by simp[kG,kN]) hi hpos (by simp[qI,upd]) ?_
 simp only[aR,seval,kA,kB,kF]
 (repeat (with_reducible refine And.intro ?_ ?_;focus (first|omega|exact kE|kernel_rfl)))
 by_cases hk:0 < kid par nm s.l
 ·rw[if_pos hk]at e0
  simp only[aR,seval,kA,kB,kF,hk]
  refine kV [0,1] [] (tsO (some s)) [] (.v (.int .i64 6)) ⟨s,by rw[e0],rfl,rfl,by rw[e0]⟩ ?_
  simp only[aR,seval,kA,kB,kF]<;>((repeat' apply And.intro)<;>first|rfl|omega|trivial)
 rw[if_neg hk]at e0
 simp only[aR,seval,kA,kB,kF,hk,e2]
 (repeat (with_reducible refine And.intro ?_ ?_;focus (first|omega|exact kE|kernel_rfl)))
 by_cases hl:s.l.length ≥ 100
 ·rw[if_pos hl]at e0
  simp only[aR,seval,kA,kB,kF,show ((s.l.length:Int) ≥ 100)=True from eq_true (by omega)]
  refine kV [0,1] [] (tsO (some s)) [] (.v (.int .i64 4)) ⟨s,by rw[e0],rfl,rfl,by rw[e0]⟩ ?_
  simp only[aR,seval,kA,kB,kF]<;>((repeat' apply And.intro)<;>first|rfl|omega|trivial)
 rw[if_neg hl]at e0
 obtain ⟨es',cl',p1,p2⟩:=put_tm s.h ⟨id,par,nm,dir,[]⟩
 simp only[nV]at p1
 simp only[aR,seval,kA,kB,kF,show ((s.l.length:Int) ≥ 100)=False from eq_false (by omega),p1]
 (repeat (with_reducible refine And.intro ?_ ?_;focus (first|omega|exact kE|kernel_rfl)))
 refine kV [0,1] [] (tsO (some ⟨es',cl',_,p2⟩)) [] (.v (.int .i64 0)) ⟨⟨es',cl',_,p2⟩,by rw[e0],rfl,rfl,by rw[e0]⟩ ?_
 simp only[aR,seval,kA,kB,kF]<;>((repeat' apply And.intro)<;>first|rfl|omega|trivial)
end Go.Proofs
end
-- HTr5
section
namespace Go.Proofs
open Go Go.Rw
set_option maxRecDepth 100000
def upB (l:List Nd) (id:Int):Nat→Int→Bool
 | 0,x=>decide (x=id)
 | k+1,x=>if x=id then true else if x=0 then false else upB l id k (gN l x).par
def movN (l:List Nd) (a:Ac):List Nd×Int :=
 if qY a.nm=false then (l,1)
 else if hasN l a.id=false then (l,5)
 else if dirI l a.par≠0 then (l,dirI l a.par)
 else if upB l a.id l.length a.par=true then (l,10)
 else if 0 < kid a.par a.nm l∧kid a.par a.nm l≠a.id then (l,6)
 else (setT ⟨a.id,a.par,a.nm,(gN l a.id).dir,(gN l a.id).text⟩ l,0)
def rtOk (l:List Nd):Prop:=∀ x∈l,kAx l l.length x.id=true
theorem rt_of {l:List Nd} (h:rtOk l) {par:Int} (hd:dirI l par=0):kAx l l.length par=true:=by
 unfold dirI at hd
 split at hd
 ·rename_i h0;rw[h0];cases l.length<;>simp[kAx]
 ·split at hd
  ·rename_i h1
   obtain ⟨h2,_,h3⟩:=kCb h1
   have:=h _ (List.getElem_mem h2)
   rwa [h3]at this
  ·cases hd
abbrev tmovCon:ConO where
 ι:={ p:TS×Ac // trOk p.1.l∧rtOk p.1.l∧p.2.nm.length≤1099511627776 }
 objs:=fun p=>tsO (some p.1.1)
 args:=fun p=>[.ptr 0 0,aA p.1.2]
 post:=fun p=>mutP p.1.1 (movN p.1.1.l p.1.2)
set_option maxHeartbeats 4000000 in
theorem tmov_good:jX Tryz.prog 42 tmovCon:=by
 have hΓ:kM Tryz.prog [(68,kCq)]:=(kJ kEC kL)
 refine qQ (nn:=75) Tryz.func42 (by kernel_rfl) rfl (show Tryz.f42.results.toList=[.tmp 4] from rfl) (fun _=>rfl) ?_
 rintro ⟨⟨s,a⟩,⟨hi,hpos,hw⟩,hrt,hn⟩
 obtain ⟨k,id,par,nm,dir,ops⟩:=a
 simp only at hi hpos hn hrt
 refine qN hΓ (Ws:=[]) _ ?_
 have e1:=kCB s.h
 have e2:=kES s.h
 simp only[aR,seval,kA,kB,kF,aA]
 refine vcM_sc ?_
 have e0:movN s.l ⟨k,id,par,nm,dir,ops⟩=if qY nm=false then (s.l,1) else if hasN s.l id=false then (s.l,5) else if dirI s.l par≠0 then (s.l,dirI s.l par) else if upB s.l id s.l.length par=true then (s.l,10) else if 0 < kid par nm s.l∧kid par nm s.l≠id then (s.l,6) else (setT ⟨id,par,nm,(gN s.l id).dir,(gN s.l id).text⟩ s.l,0):=rfl
 obtain ⟨St,hSt⟩:∃ St:{ p:Nat×Int // kAx s.l p.1 p.2=true∧upB s.l id p.1 p.2=upB s.l id s.l.length par∧qY nm=true∧hasN s.l id=true∧dirI s.l par=0 }→AS,∀ p,St p=AS.ofH 75 [(0,.ptr 0 0),(3,.ptr 2 0),(5,.ptr 3 0),(6,.v (.bool true)),(7,.v (.int .i64 p.1.2))] [(0,.ptr 0 0),(1,.mp 1)] [.cells [.mp 1],.map s.es s.cl,.cells [.v (.int .i64 k),.v (.int .i64 id),.v (.int .i64 par),.v (sv nm),.v (.bool dir),.sl 0 3 (qA ops)],.cells [.v (.int .i64 (gN s.l id).id),.v (.int .i64 (gN s.l id).par),.v (sv (gN s.l id).nm),.v (.bool (gN s.l id).dir),.v (sv (gN s.l id).text)]] []:=⟨_,fun _=>rfl⟩
 refine vc_labM [(20,[3],[])] hΓ 0 St (fun p=>p.1.1) 0 rfl rfl ?_ ?_
 ·rintro ⟨⟨q,x⟩,hr,hu,hnm,hh,hd⟩
  simp only at hr hu
  rw[if_neg (by rw[hnm];decide),if_neg (by rw[hh];decide),if_neg (fun hc=>hc hd)]at e0
  obtain ⟨_,_,hid⟩:=kCb hh
  rw[hSt]
  simp only
  simp only[aR,seval,kA,kB,k7,kF]
  (repeat (with_reducible refine And.intro ?_ ?_;focus (first|omega|exact kE|kernel_rfl)))
  by_cases hx:x=id
  ·have hup:upB s.l id s.l.length par=true:=by
     rw[← hu,hx]
     cases q<;>simp[upB]
   rw[if_pos hup]at e0
   simp only[aR,seval,kA,kB,k7,kF,hx]
   refine kV [0,1] [] (tsO (some s)) [] (.v (.int .i64 10)) ⟨s,by rw[e0],rfl,rfl,by rw[e0]⟩ ?_
   simp only[aR,seval,kA,kB,kF]<;>((repeat' apply And.intro)<;>first|rfl|omega|trivial)
  by_cases h0:x=0
  case neg =>
   cases q with
   | zero=>rw [kAx] at hr;simp [h0] at hr
   | succ q =>
     rw[kAx,if_neg h0]at hr
     rw[upB,if_neg hx,if_neg h0]at hu
     simp only[aR,seval,kA,kB,k7,kF,hx,h0,e1,nA,kFV]
     (repeat (with_reducible refine And.intro ?_ ?_;focus (first|omega|exact kE|kernel_rfl)))
     refine kO ⟨(q,(gN s.l x).par),hr,hu,hnm,hh,hd⟩ (by simp only;omega) ?_
     rw[hSt];refine k5 [0,1,2,3] [] ?_
     simp only[aR,seval,kA,kB,kF]<;>((repeat' apply And.intro)<;>first|rfl|omega|trivial)
  subst h0
  have hup:upB s.l id s.l.length par=false:=by
   rw[← hu]
   cases q with
   | zero=>rw [upB];simpa using hx
   | succ q=>rw [upB,if_neg hx,if_pos rfl]
  rw[if_neg (by rw[hup];decide)]at e0
  simp only[aR,seval,kA,kB,k7,kF,hx]
  (repeat (with_reducible refine And.intro ?_ ?_;focus (first|omega|exact kE|kernel_rfl)))
  refine kEm (s:=s) (o:=0) (ob:=1) (by simp[kG,kN]) hi hpos (by simp[qI]) ?_
  simp only[aR,seval,kA,kB,k7,kF]
  (repeat (with_reducible refine And.intro ?_ ?_;focus (first|omega|exact kE|kernel_rfl)))
  have fin:¬ (0 < kid par nm s.l∧kid par nm s.l≠id)→movN s.l ⟨k,id,par,nm,dir,ops⟩=(setT ⟨id,par,nm,(gN s.l id).dir,(gN s.l id).text⟩ s.l,0):=fun hc=>by rw[e0,if_neg hc]
  have hgid:(gN s.l id).id=id:=by rw[(kCb hh).2.1,hid]
  obtain ⟨es',cl',p1,p2⟩:=put_tm s.h ⟨id,par,nm,(gN s.l id).dir,(gN s.l id).text⟩
  simp only[nV]at p1
  by_cases hk:0 < kid par nm s.l
  ·by_cases hk2:kid par nm s.l=id
   ·have e3:=fin (fun hc=>hc.2 hk2)
    have hm:max 0 (kid par nm s.l)=id:=by rw[Int.max_eq_right (by omega),hk2]
    rw[hk2]at hk hm
    simp only[aR,seval,kA,kB,k7,zF,kF,hk2,hk,hm,hgid,p1]
    (repeat (with_reducible refine And.intro ?_ ?_;focus (first|omega|exact kE|kernel_rfl)))
    refine kV [0,1] [] (tsO (some ⟨es',cl',_,p2⟩)) [] (.v (.int .i64 0)) ⟨⟨es',cl',_,p2⟩,by rw[e3],rfl,rfl,by rw[e3]⟩ ?_
    simp only[aR,seval,kA,kB,kF]<;>((repeat' apply And.intro)<;>first|rfl|omega|trivial)
   ·rw[if_pos ⟨hk,hk2⟩]at e0
    have hm:max 0 (kid par nm s.l)=kid par nm s.l:=by rw[Int.max_eq_right (by omega)]
    simp only[aR,seval,kA,kB,k7,kF,hk,hm,hk2]
    refine kV [0,1] [] (tsO (some s)) [] (.v (.int .i64 6)) ⟨s,by rw[e0],rfl,rfl,by rw[e0]⟩ ?_
    simp only[aR,seval,kA,kB,kF]<;>((repeat' apply And.intro)<;>first|rfl|omega|trivial)
  ·have e3:=fin (fun hc=>hk hc.1)
   simp only[aR,seval,kA,kB,k7,zF,kF,hk,hgid,p1]
   (repeat (with_reducible refine And.intro ?_ ?_;focus (first|omega|exact kE|kernel_rfl)))
   refine kV [0,1] [] (tsO (some ⟨es',cl',_,p2⟩)) [] (.v (.int .i64 0)) ⟨⟨es',cl',_,p2⟩,by rw[e3],rfl,rfl,by rw[e3]⟩ ?_
   simp only[aR,seval,kA,kB,kF]<;>((repeat' apply And.intro)<;>first|rfl|omega|trivial)
 ·simp only[aR,seval,kA,kB,k7,kF]
  (repeat (with_reducible refine And.intro ?_ ?_;focus (first|omega|exact kE|kernel_rfl)))
  refine kEe (by simp[kG]) hn ?_
  rcases Bool.eq_false_or_eq_true (qY nm) with hnm|hnm
  case inr =>
   rw[if_pos hnm]at e0
   simp only[aR,seval,kA,kB,k7,kF,hnm]
   refine kV [0,1] [] (tsO (some s)) [] (.v (.int .i64 1)) ⟨s,by rw[e0],rfl,rfl,by rw[e0]⟩ ?_
   simp only[aR,seval,kA,kB,kF]<;>((repeat' apply And.intro)<;>first|rfl|omega|trivial)
  rw[if_neg (by rw[hnm];decide)]at e0
  simp only[aR,seval,kA,kB,k7,kF,hnm,e1,nA]
  (repeat (with_reducible refine And.intro ?_ ?_;focus (first|omega|exact kE|kernel_rfl)))
  rcases Bool.eq_false_or_eq_true (hasN s.l id) with hh|hh
  case inr =>
   rw[if_pos hh]at e0
   simp only[aR,seval,kA,kB,k7,kF,hh]
   refine kV [0,1] [] (tsO (some s)) [] (.v (.int .i64 5)) ⟨s,by rw[e0],rfl,rfl,by rw[e0]⟩ ?_
   simp only[aR,seval,kA,kB,kF]<;>((repeat' apply And.intro)<;>first|rfl|omega|trivial)
  rw[if_neg (by rw[hh];decide)]at e0
  simp only[aR,seval,kA,kB,k7,kF,hh]
  refine call_tdir (s:=s) (o:=0) (ob:=1) (by simp[kG,kN]) (by simp[qI,upd]) ?_
  simp only[aR,seval,kA,kB,k7,kF]
  (repeat (with_reducible refine And.intro ?_ ?_;focus (first|omega|exact kE|kernel_rfl)))
  by_cases hd:dirI s.l par=0
  case neg =>
   rw[if_pos hd]at e0
   simp only[aR,seval,kA,kB,k7,kF,hd]
   refine kV [0,1] [] (tsO (some s)) [] (.v (.int .i64 (dirI s.l par))) ⟨s,by rw[e0],rfl,rfl,by rw[e0]⟩ ?_
   simp only[aR,seval,kA,kB,kF]<;>((repeat' apply And.intro)<;>first|rfl|omega|trivial)
  simp only[aR,seval,kA,kB,k7,kF,hd]
  (repeat (with_reducible refine And.intro ?_ ?_;focus (first|omega|exact kE|kernel_rfl)))
  refine ⟨⟨(s.l.length,par),rt_of hrt hd,rfl,hnm,hh,hd⟩,?_⟩
  rw[hSt];refine k5 [0,1,2,3] [] ?_
  simp only[aR,seval,kA,kB,kF]<;>((repeat' apply And.intro)<;>first|rfl|omega|trivial)
def ediN (l:List Nd) (a:Ac):List Nd×Int :=
 if hasN l a.id=false then (l,5)
 else if (gN l a.id).dir=true then (l,8)
 else if errI (gN l a.id).text a.ops≠0 then (l,errI (gN l a.id).text a.ops)
 else if (totN l:Int) - cnt (gN l a.id).text+cnt (z6 (gN l a.id).text a.ops) > 10000 then (l,4)
 else (setT ⟨a.id,(gN l a.id).par,(gN l a.id).nm,(gN l a.id).dir,z6 (gN l a.id).text a.ops⟩ l,0)
abbrev tediCon:ConO where
 ι:={ p:TS×Ac // trOk p.1.l∧okL p.2.ops }
 objs:=fun p=>tsO (some p.1.1)
 args:=fun p=>[.ptr 0 0,aA p.1.2]
 post:=fun p=>mutP p.1.1 (ediN p.1.1.l p.1.2)
set_option maxHeartbeats 4000000 in
theorem tedi_good:jX Tryz.prog 43 tediCon:=by
 have hΓ:kM Tryz.prog [(72,doCon),(73,kBX)]:=(kJ do_good (kJ kDV kL))
 refine qQ (nn:=67) Tryz.func43 (by kernel_rfl) rfl (show Tryz.f43.results.toList=[.tmp 4] from rfl) (fun _=>rfl) ?_
 rintro ⟨⟨s,a⟩,⟨hi,hpos,hw⟩,oa⟩
 obtain ⟨k,id,par,nm,dir,ops⟩:=a
 simp only at hi hpos oa hw
 refine qN hΓ (Ws:=[]) _ ?_
 have e1:=kCB s.h
 have e2:=kES s.h
 have e0:ediN s.l ⟨k,id,par,nm,dir,ops⟩=if hasN s.l id=false then (s.l,5) else if (gN s.l id).dir=true then (s.l,8) else if errI (gN s.l id).text ops≠0 then (s.l,errI (gN s.l id).text ops) else if (totN s.l:Int) - cnt (gN s.l id).text+cnt (z6 (gN s.l id).text ops) > 10000 then (s.l,4) else (setT ⟨id,(gN s.l id).par,(gN s.l id).nm,(gN s.l id).dir,z6 (gN s.l id).text ops⟩ s.l,0):=rfl
 simp only[aR,seval,kA,kB,kF,aA,e1,nA]
 (repeat (with_reducible refine And.intro ?_ ?_;focus (first|omega|exact kE|kernel_rfl)))
 rcases Bool.eq_false_or_eq_true (hasN s.l id) with hh|hh
 case inr =>
  rw[if_pos hh]at e0
  simp only[aR,seval,kA,kB,kF,hh]
  refine kV [0,1] [] (tsO (some s)) [] (.v (.int .i64 5)) ⟨s,by rw[e0],rfl,rfl,by rw[e0]⟩ ?_
  simp only[aR,seval,kA,kB,kF]<;>((repeat' apply And.intro)<;>first|rfl|omega|trivial)
 rw[if_neg (by rw[hh];decide)]at e0
 obtain ⟨h1,h2,hid⟩:=kCb hh
 have hgid:(gN s.l id).id=id:=by rw[h2,hid]
 have hmem:gN s.l id∈s.l:=by rw[h2];exact List.getElem_mem h1
 have htx:=hw.2 _ hmem
 obtain ⟨es',cl',p1,p2⟩:=put_tm s.h ⟨id,(gN s.l id).par,(gN s.l id).nm,(gN s.l id).dir,z6 (gN s.l id).text ops⟩
 simp only[nV]at p1
 have hcl:=cnt_le (gN s.l id).text
 have hdl:=(stp_puts (gN s.l id).text ops).2
 have hcd:=cnt_le (z6 (gN s.l id).text ops)
 have hc1:=kCm (gN s.l id).text
 have hc2:=kCm (z6 (gN s.l id).text ops)
 generalize gN s.l id=x at *
 obtain ⟨xid,xpar,xnm,xdir,xtx⟩:=x
 simp only at *
 subst hgid
 simp only[aR,seval,kA,kB,kF,hh]
 cases xdir
 case true =>
  rw[if_pos rfl]at e0
  simp only[aR,seval,kA,kB,kF]
  refine kV [0,1] [] (tsO (some s)) [] (.v (.int .i64 8)) ⟨s,by rw[e0],rfl,rfl,by rw[e0]⟩ ?_
  simp only[aR,seval,kA,kB,kF]<;>((repeat' apply And.intro)<;>first|rfl|omega|trivial)
 rw[if_neg (by decide)]at e0
 simp only[aR,seval,kA,kB,kF]
 (repeat (with_reducible refine And.intro ?_ ?_;focus (first|omega|exact kE|kernel_rfl)))
 refine call_do (by simp[kG]) rfl htx oa ?_
 simp only[aR,seval,kA,kB,kF,doR,res2]
 (repeat (with_reducible refine And.intro ?_ ?_;focus (first|omega|exact kE|kernel_rfl)))
 by_cases he:errI xtx ops=0
 case neg =>
  rw[if_pos he]at e0
  simp only[aR,seval,kA,kB,kF,he]
  refine kV [0,1] [] (tsO (some s)) [] (.v (.int .i64 (errI xtx ops))) ⟨s,by rw[e0],rfl,rfl,by rw[e0]⟩ ?_
  simp only[aR,seval,kA,kB,kF]<;>((repeat' apply And.intro)<;>first|rfl|omega|trivial)
 rw[if_neg (fun hc=>hc he)]at e0
 simp only[aR,seval,kA,kB,kF,he]
 (repeat (with_reducible refine And.intro ?_ ?_;focus (first|omega|exact kE|kernel_rfl)))
 refine kB0 (by simp[kG]) htx ?_
 simp only[aR,seval,kA,kB,kF,hc1]
 (repeat (with_reducible refine And.intro ?_ ?_;focus (first|omega|exact kE|kernel_rfl)))
 refine kB0 (by simp[kG]) (by omega) ?_
 simp only[aR,seval,kA,kB,kF,hc2]
 (repeat (with_reducible refine And.intro ?_ ?_;focus (first|omega|exact kE|kernel_rfl)))
 refine call_tall (s:=s) (o:=0) (ob:=1) (by simp[kG,kN]) hw (by simp[qI,upd]) ?_
 have hw1:=hw.1
 simp only[aR,seval,kA,kB,kF,kC (n:=(totN s.l:Int) - cnt xtx) (by omega) (by omega),kC (n:=(totN s.l:Int) - cnt xtx+cnt (z6 xtx ops)) (by omega) (by omega)]
 (repeat (with_reducible refine And.intro ?_ ?_;focus (first|omega|exact kE|kernel_rfl)))
 by_cases hb:(totN s.l:Int) - cnt xtx+cnt (z6 xtx ops) > 10000
 ·rw[if_pos hb]at e0
  simp only[aR,seval,kA,kB,kF,hb]
  refine kV [0,1] [] (tsO (some s)) [] (.v (.int .i64 4)) ⟨s,by rw[e0],rfl,rfl,by rw[e0]⟩ ?_
  simp only[aR,seval,kA,kB,kF]<;>((repeat' apply And.intro)<;>first|rfl|omega|trivial)
 ·rw[if_neg hb]at e0
  simp only[aR,seval,kA,kB,kF,hb,p1]
  (repeat (with_reducible refine And.intro ?_ ?_;focus (first|omega|exact kE|kernel_rfl)))
  refine kV [0,1] [] (tsO (some ⟨es',cl',_,p2⟩)) [] (.v (.int .i64 0)) ⟨⟨es',cl',_,p2⟩,by rw[e0],rfl,rfl,by rw[e0]⟩ ?_
  simp only[aR,seval,kA,kB,kF]<;>((repeat' apply And.intro)<;>first|rfl|omega|trivial)
end Go.Proofs
end
-- HTrLs
section
namespace Go.Proofs
open Go.Shelf
def Tryz.sortN_ren:Go.Shelf.Ren:=⟨fun|6=>92|15=>83|14=>120|28=>114|29=>115|20=>134|21=>135|22=>136|23=>137|24=>138|25=>139|26=>140|27=>141|46=>147|47=>129|48=>130|49=>148|50=>149|57=>151|n=>n,fun|22=>42|24=>82|25=>139|3=>3|39=>130|0=>0|53=>158|55=>160|4=>4|46=>151|45=>150|50=>114|5=>5|9=>9|66=>167|70=>171|76=>184|77=>145|n=>n,fun|n=>n⟩
theorem Tryz.sortN:Go.Proofs.SlLaysF0.n6 Tryz.prog Tryz.sortN_ren where
 mixed:=by kernel_rfl
 f6 := ⟨"slices.SortFunc[[]ropewalk/api.Node,ropewalk/api.Node]", by decide, Tryz.func92.trans (congrArg some (by kernel_rfl))⟩
 f14 := ⟨"slices.pdqsortCmpFunc[ropewalk/api.Node]", by decide, Tryz.func120.trans (congrArg some (by kernel_rfl))⟩
 f15:=Tryz.func83.trans (congrArg some (by kernel_rfl))
 f20 := ⟨"slices.insertionSortCmpFunc[ropewalk/api.Node]", by decide, Tryz.func134.trans (congrArg some (by kernel_rfl))⟩
 f21 := ⟨"slices.heapSortCmpFunc[ropewalk/api.Node]", by decide, Tryz.func135.trans (congrArg some (by kernel_rfl))⟩
 f22 := ⟨"slices.breakPatternsCmpFunc[ropewalk/api.Node]", by decide, Tryz.func136.trans (congrArg some (by kernel_rfl))⟩
 f23 := ⟨"slices.choosePivotCmpFunc[ropewalk/api.Node]", by decide, Tryz.func137.trans (congrArg some (by kernel_rfl))⟩
 f24 := ⟨"slices.reverseRangeCmpFunc[ropewalk/api.Node]", by decide, Tryz.func138.trans (congrArg some (by kernel_rfl))⟩
 f25 := ⟨"slices.partialInsertionSortCmpFunc[ropewalk/api.Node]", by decide, Tryz.func139.trans (congrArg some (by kernel_rfl))⟩
 f26 := ⟨"slices.partitionEqualCmpFunc[ropewalk/api.Node]", by decide, Tryz.func140.trans (congrArg some (by kernel_rfl))⟩
 f27 := ⟨"slices.partitionCmpFunc[ropewalk/api.Node]", by decide, Tryz.func141.trans (congrArg some (by kernel_rfl))⟩
 f28:=Tryz.func114.trans (congrArg some (by kernel_rfl))
 f29:=Tryz.func115.trans (congrArg some (by kernel_rfl))
 f46 := ⟨"slices.siftDownCmpFunc[ropewalk/api.Node]", by decide, Tryz.func147.trans (congrArg some (by kernel_rfl))⟩
 f47:=Tryz.func129.trans (congrArg some (by kernel_rfl))
 f48:=Tryz.func130.trans (congrArg some (by kernel_rfl))
 f49 := ⟨"slices.medianAdjacentCmpFunc[ropewalk/api.Node]", by decide, Tryz.func148.trans (congrArg some (by kernel_rfl))⟩
 f50 := ⟨"slices.medianCmpFunc[ropewalk/api.Node]", by decide, Tryz.func149.trans (congrArg some (by kernel_rfl))⟩
 f57 := ⟨"slices.order2CmpFunc[ropewalk/api.Node]", by decide, Tryz.func151.trans (congrArg some (by kernel_rfl))⟩
 t0:=Tryz.underlying0
 a0:=Tryz.isAgg0
 z0:=Tryz.sizeOf0
 v0:=Tryz.zeroValue0
 t3:=Tryz.underlying3
 a3:=Tryz.isAgg3
 z3:=Tryz.sizeOf3
 v3:=Tryz.zeroValue3
 t4:=Tryz.underlying4
 a4:=Tryz.isAgg4
 z4:=Tryz.sizeOf4
 v4:=Tryz.zeroValue4
 t5:=Tryz.underlying5
 a5:=Tryz.isAgg5
 z5:=Tryz.sizeOf5
 v5:=Tryz.zeroValue5
 t9:=Tryz.underlying9
 a9:=Tryz.isAgg9
 z9:=Tryz.sizeOf9
 v9:=Tryz.zeroValue9
 t22:=Tryz.underlying42
 a22:=Tryz.isAgg42
 z22:=Tryz.sizeOf42
 v22:=Tryz.zeroValue42
 t25:=Tryz.underlying139
 a25:=Tryz.isAgg139
 z25:=Tryz.sizeOf139
 v25:=Tryz.zeroValue139
 t39:=Tryz.underlying130
 a39:=Tryz.isAgg130
 z39:=Tryz.sizeOf130
 v39:=Tryz.zeroValue130
 t45:=Tryz.underlying150
 a45:=Tryz.isAgg150
 z45:=Tryz.sizeOf150
 v45:=Tryz.zeroValue150
 t46:=Tryz.underlying151
 a46:=Tryz.isAgg151
 z46:=Tryz.sizeOf151
 v46:=Tryz.zeroValue151
 t50:=Tryz.underlying114
 a50:=Tryz.isAgg114
 z50:=Tryz.sizeOf114
 v50:=Tryz.zeroValue114
 t53:=Tryz.underlying158
 a53:=Tryz.isAgg158
 z53:=Tryz.sizeOf158
 v53:=Tryz.zeroValue158
 t55:=Tryz.underlying160
 a55:=Tryz.isAgg160
 z55:=Tryz.sizeOf160
 v55:=Tryz.zeroValue160
 t66:=Tryz.underlying167
 a66:=Tryz.isAgg167
 z66:=Tryz.sizeOf167
 v66:=Tryz.zeroValue167
 t70:=Tryz.underlying171
 a70:=Tryz.isAgg171
 z70:=Tryz.sizeOf171
 v70:=Tryz.zeroValue171
 t76:=Tryz.underlying184
 a76:=Tryz.isAgg184
 z76:=Tryz.sizeOf184
 v76:=Tryz.zeroValue184
 t77:=Tryz.underlying145
 a77:=Tryz.isAgg145
 z77:=Tryz.sizeOf145
 v77:=Tryz.zeroValue145
end Go.Proofs
end
-- HTr6
section
namespace Go.Proofs
open Go Go.Shelf Go.RowKit Go.Lib Go.Sort
set_option maxRecDepth 100000
theorem kAR:∀ (x y:List UInt8),Op.bytesLess x y=decide (x < y)
 | [],[]=>by simp [Op.bytesLess]
 | _::_,[]=>by simp [Op.bytesLess]
 | [],_::_=>by simp [Op.bytesLess]
 | a::x,b::y=>by
   rw[Op.bytesLess,kAR x y]
   simp only[List.cons_lt_cons_iff]
   by_cases h1:a < b<;>by_cases h2:a=b<;>by_cases h3:x < y<;>simp[h1,h2,h3]
def cmpB (x y:List UInt8):Int:=if x < y then -1 else if y < x then 1 else 0
theorem cmpB_neg (x y:List UInt8):cmpB x y < 0↔x < y:=by
 unfold cmpB
 by_cases h:x < y
 ·simp[h]
 ·rw[if_neg h]
  split<;>simp[h]
theorem ltOf_cmpB:ltOf cmpB=ltStr:=by
 funext x y
 exact decide_eq_decide.2 (cmpB_neg x y)
theorem swo_cmpB:SWO (ltOf cmpB):=by rw[ltOf_cmpB];exact swo_ltStr
@[go_sem] theorem binOp_string_gtr_tr (t:TypeId) (a b:ByteArray):binOp .gtr t (.string a) (.string b)=pure (.bool !(Op.bytesLess a.toList b.toList || a.toList == b.toList)):=by simp[binOp,Op.stringOp]
theorem list5 {x:List Value} (h:x.length=5):∃ a b c d e,x=[a,b,c,d,e]:=by
 match x,h with
 | [a,b,c,d,e],_=>exact ⟨a,b,c,d,e,rfl⟩
theorem isNaN_str (x:ByteArray) (w:World):Calls Tryz.prog 121 #[.string x] w fun e w'=>e = .returned (.bool false)∧w'=w:=by
 go_enter Tryz.func121,Tryz.ntmps121
 go_wp2
 go_ret
 exact ⟨by simp,rfl⟩
set_option maxHeartbeats 1000000 in
theorem cmp_str (a b:List UInt8) (w:World):Calls Tryz.prog 94 #[Rw.sv a,Rw.sv b] w fun e w'=>e = .returned (.int .i64 (cmpB a b))∧w'=w:=by
 unfold Rw.sv
 go_enter Tryz.func94,Tryz.ntmps94
 go_wp2_with (go_at_call 121;refine (isNaN_str _ _).mono ?_;rintro e w' ⟨rfl,hw⟩;rw[hw])
 all_goals (rename_i hb;go_ret;refine ⟨?_,by first|assumption|rfl⟩)
 ·rw[kAR]at hb
  simp only[cmpB,if_pos (of_decide_eq_true hb)];rfl
 ·rename_i hl _ _
  rw[kAR]at hl
  have h1:¬ a < b:=of_decide_eq_false hl
  have h2:a≠b:=by simpa using hb
  have h3:b < a:=by
   rcases Classical.em (b < a) with h4|h4
   ·exact h4
   ·exact absurd (List.le_antisymm (List.not_lt.1 h4) (List.not_lt.1 h1)) h2
  simp only[cmpB,if_neg h1,if_pos h3];rfl
 ·rename_i hl
  rw[kAR]at hl
  have h1:¬ a < b:=of_decide_eq_false hl
  have h2:a=b:=by simpa using hb
  subst h2
  simp only[cmpB,if_neg h1];rfl
set_option maxHeartbeats 1000000 in
theorem cmpN:Rw.CmpAt Tryz.prog 93 5 2 Rw.sv cmpB:=by
 intro x y a b W hx hy ox oy ha hb
 obtain ⟨x0,x1,x2,x3,x4,rfl⟩:=list5 hx
 obtain ⟨y0,y1,y2,y3,y4,rfl⟩:=list5 hy
 simp only[List.getD_cons_zero,List.getD_cons_succ]at ha hb
 subst ha hb
 simp only[List.mem_cons,List.not_mem_nil,or_false,forall_eq_or_imp,forall_eq]at ox oy
 obtain ⟨p0,p1,p2,p3,p4⟩:=ox
 obtain ⟨q0,q1,q2,q3,q4⟩:=oy
 have hcon:=fun W'=>cmp_str a b W'
 generalize cmpB a b=r at hcon ⊢
 clear hx hy
 simp only[Rw.sv]at *
 go_enter Tryz.func93,Tryz.ntmps93
 go_wp2_with (go_at_call 94;refine (hcon _).mono ?_;rintro e w' ⟨rfl,rfl⟩)
 go_ret
 exact ⟨rfl,0,_,by rw[alloc_eq_grow,alloc_eq_grow,grow_grow];rfl⟩
end Go.Proofs
end
