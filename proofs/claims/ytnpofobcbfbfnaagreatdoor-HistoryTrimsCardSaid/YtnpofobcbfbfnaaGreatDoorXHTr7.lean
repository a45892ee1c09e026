/-
 slices.DeleteFunc at qG,as Children takes it. The program's tree: what a directory has. The program's tree: qG taken away;any act. What a qS tree is;going up in it. Plain. What the tree does is what the document says;a qS tree stays qS. Plain. A qS tree stays qS. Plain. A transaction,done on a copy of a tree. The IDs of a transaction's acts,by a map. law14: what the document fixes. Is a tree qS. Whose qG a transaction touches. RebaseApart answers true. law14: small;TxnAsks answers true.
-/
import Derived.Test.YtnpofobcbfbfnaaGreatDoorXHTrL
import Derived.Test.YtnpofobcbfbfnaaGreatDoorRwO
import Derived.Test.YtnpofobcbfbfnaaGreatDoorXHAp2
import Derived.Test.YtnpofobcbfbfnaaGreatDoorXHSh
set_option linter.unusedSimpArgs false
set_option linter.unusedVariables false
set_option linter.defProp false
set_option linter.unusedSectionVars false

-- HTr7
section
namespace Go.Proofs
open Go Go.Rw
set_option maxRecDepth 100000
def kept (par:Int) (l:List Nd):List Nd:=l.filter fun x=>decide (x.par=par)
def goI (par:Int):List Nd→Nat
 | []=>0
 | x::r=>if x.par=par then goI par r+1 else 0
theorem goI_le (par:Int):∀ l,goI par l≤l.length
 | []=>Nat.le_refl _
 | x::r=>by rw [goI];split<;>have:=goI_le par r<;>simp<;>omega
theorem goI_all (par:Int):∀ l,goI par l=l.length→kept par l=l
 | [],_=>rfl
 | x::r,h=>by
   rw[goI]at h
   split at h
   ·rename_i hx
    have:=goI_all par r (by simpa using h)
    unfold kept at *
    rw[List.filter_cons,if_pos (by simpa using hx),this]
   ·simp at h
theorem goI_take (par:Int):∀ l:List Nd,kept par (l.take (goI par l+1))=l.take (goI par l)
 | []=>rfl
 | x::r=>by
   rw[goI]
   split
   ·rename_i hx
    have:=goI_take par r
    rw[List.take_succ_cons,List.take_succ_cons,kept,List.filter_cons,if_pos (by simpa using hx)]
    exact congrArg _ this
   ·rename_i hx
    simp[kept,hx]
abbrev DelT (par:Int) (xs:List Nd):={ p:List Nd×Nat×Nat // p.1.length=xs.length∧p.2.1 < p.2.2∧p.2.2≤xs.length∧p.1.take p.2.1=kept par (xs.take p.2.2)∧p.1.drop p.2.2=xs.drop p.2.2 }
abbrev IdxT (par:Int) (xs:List Nd):={ j:Nat // j≤xs.length∧goI par xs=j+goI par (xs.drop j) }
section
variable {Γ:Env} {n:Nat} {t:Nat→AV} {hd:Nat→Nat→AV} {d:Option Nat} {K:AS→Prop}
variable {nh nl:Nat} {h:Nat→Option AO} {fm:Nat→Nat} {lv:Nat→Option (Nat×Nat)}
set_option maxHeartbeats 1000000 in
theorem call_del (hΓ:kM Tryz.prog Γ) (hC:Γ.get 90=none) (hC2:Γ.get 119=none) (hC3:Γ.get 91=none) {xs:List Nd} {l o:Nat} {par:Int} (hl2:2≤l) (hlv:lv l=some (xs.length,82)) (hlen:xs.length≤1000000)
    (hob:h o=some (.cells [.v (.int .i64 par)])) (hb:∀ o x,h o=some x→o < nh)
    (hk:∀ k' h',nh≤k'→HasO (cutO fm l h) h'→cont ⟨n,cutT fm l t,cutH fm l hd,⟨k',h',nl,fm,upd lv l (some ((kept par xs).length,82)),true⟩⟩ d (.sl l 5 (qG (kept par xs))) K) :
    kP Tryz.prog Γ false ⟨n,t,hd,⟨nh,h,nl,fm,lv,true⟩⟩ 90 [.sl l 5 (qG xs),.fn 91 [.ptr o 0]] d K:=by
 have hob':cutO fm l h o=some (.cells [.v (.int .i64 par)]):=by simp only[cutO,hob];rfl
 have hb':∀ o x,cutO fm l h o=some x→o < nh:=fun o x hx=>by
  obtain ⟨y,hy,_⟩:=Option.map_eq_some_iff.1 hx
  exact hb o y hy
 have hlt:=hb o _ hob
 refine qD (nn:=42) hΓ [(11,[0,0],[]),(12,[0,0,0,0,0,0],[])] (by first|assumption|simp[kG,kN]) Tryz.func90 (by kernel_rfl) rfl (show Tryz.f90.results.toList=[.tmp 4] from rfl) rfl ?_
 simp only[aR,seval,kA,kB,]
 refine qD (nn:=19) hΓ [] (by first|assumption|simp[kG,kN]) Tryz.func119 (by kernel_rfl) rfl (show Tryz.f119.results.toList=[.tmp 4] from rfl) rfl ?_
 simp only[aR,seval,kA,kB,kY]
 refine loop_cut l ?_
 refine kCG [] hΓ (fun i:IdxT par xs=>[(0,.sl l 5 (qG xs)),(1,.fn 91 [.ptr o 0]),(7,.v (.int .i64 xs.length)),(8,.v (.int .i64 i.1))]) (fun i=>xs.length - i.1) ⟨0,Nat.zero_le _,by simp⟩ (by simp only[aR,seval,kA,kB,]<;>((repeat' apply And.intro)<;>first|rfl|omega|trivial)) (fun _ _ hx=>hx) ?_
 rintro ⟨i,hi,hn⟩ q hq
 simp only
 simp only[aR,seval,kA,kB,kY]
 have hoq:(o=q)=False:=eq_false (by omega)
 (with_reducible first|refine kD (fun h1=>?_) (fun h1=>?_)|refine kH (fun h1=>?_) (fun h1=>?_))
 ·have hlt2:i < xs.length:=by omega
  have e1:=j6 xs hlt2
  rw[List.drop_eq_getElem_cons hlt2,goI]at hn
  generalize xs[i]=x at *
  simp only[aR,seval,kA,kB,h1,e1,nA,kY]
  (repeat (with_reducible refine And.intro ?_ ?_;focus (first|omega|exact kE|kernel_rfl)))
  refine qD (nn:=8) hΓ [] (by first|assumption|simp[kG,kN]) Tryz.func91 (by kernel_rfl) rfl (show Tryz.f91.results.toList=[.tmp 3] from rfl) rfl ?_
  simp only[aR,seval,kA,kB,nA,hob',hoq]
  (repeat (with_reducible refine And.intro ?_ ?_;focus (first|omega|exact kE|kernel_rfl)))
  by_cases hx:x.par=par
  ·rw[if_pos hx]at hn
   simp only[aR,seval,kA,kB,hx,kC (n:=(i:Int)+1) (by omega) (by omega)]
   refine kEi ⟨i+1,by omega,by omega⟩ (by simp only;omega) (by omega) ?_ (HasO.new ?_ HasO.refl) rfl ⟨rfl,rfl⟩
   ·simp only[aR,seval,kA,kB,]<;>((repeat' apply And.intro)<;>first|rfl|omega|trivial)
   ·intro o x h;have:=hb' o x h;omega
  ·rw[if_neg hx]at hn
   simp only[aR,seval,kA,kB,hx,show ((i:Int) = -1)=False from eq_false (by omega),kC (n:=(i:Int)+1) (by omega) (by omega)]
   have hgi:goI par xs=i:=by omega
   have hk0:=goI_take par xs
   rw[hgi]at hk0
   have hn2:nh≤q+1:=by omega
   refine kCG [(11,[0,0],[]),(12,[0,0,0,0,0,0],[])] hΓ (nh:=q+1) (h:=cutO fm l h) (fun p:DelT par xs=>[(0,.sl l 5 (qG p.1.1)),(1,.fn 91 [.ptr o 0]),(5,.v (.int .i64 p.1.2.1)),(6,.v (.int .i64 p.1.2.2))]) (fun p=>xs.length - p.1.2.2) ⟨(xs,i,i+1),rfl,by simp only;omega,by simp only;omega,hk0.symm,rfl⟩ (by simp only[aR,seval,kA,kB,]<;>((repeat' apply And.intro)<;>first|rfl|omega|trivial)) (HasO.new (fun o x h=>by have:=hb' o x h;omega) HasO.refl) ?_
   clear hk0 hn2 hn hgi e1
   rintro ⟨⟨ys,i,j⟩,hys,hij,hj,hta,hdr⟩ q2 hq2
   simp only at hys hij hj hta hdr
   have hoq2:(o=q2)=False:=eq_false (by omega)
   have hoq3:(o=q2+1)=False:=eq_false (by omega)
   simp only
   simp only[aR,seval,kA,kB,kY]
   (with_reducible first|refine kD (fun h2=>?_) (fun h2=>?_)|refine kH (fun h2=>?_) (fun h2=>?_))
   ·have hlt3:j < xs.length:=by omega
    have e4:ys[j]'(by omega)=xs[j]:=by
     have:=congrArg (fun l:List Nd=>l[0]?) hdr
     simp only[List.getElem?_drop,Nat.add_zero]at this
     rw[List.getElem?_eq_getElem (by omega),List.getElem?_eq_getElem hlt3]at this
     exact Option.some.inj this
    have e5:=j6 ys (i:=j) (by omega)
    rw[e4]at e5
    have e6:kept par (xs.take (j+1))=kept par (xs.take j)++kept par [xs[j]]:=by
     rw[List.take_succ_eq_append_getElem hlt3,kept,List.filter_append];rfl
    generalize xs[j]=y at *
    simp only[aR,seval,kA,kB,h2,e5,nA,kY,hys]
    (repeat (with_reducible refine And.intro ?_ ?_;focus (first|omega|exact kE|kernel_rfl)))
    refine qD (nn:=8) hΓ [] (by first|assumption|simp[kG,kN]) Tryz.func91 (by kernel_rfl) rfl (show Tryz.f91.results.toList=[.tmp 3] from rfl) rfl ?_
    simp only[aR,seval,kA,kB,nA,hob',hoq2,hoq3]
    (repeat (with_reducible refine And.intro ?_ ?_;focus (first|omega|exact kE|kernel_rfl)))
    by_cases hy:y.par=par
    ·have hk1:kept par [y]=[y]:=by simp[kept,hy]
     have e7:=j6 ys (i:=i) (by omega)
     have hq3:(q2=q2+1)=False:=eq_false (by omega)
     have e8:AV.agg [.v (.int .i64 y.id),.v (.int .i64 par),.v (sv y.nm),.v (.bool y.dir),.v (sv y.text)]=nA y:=by rw[← hy];rfl
     have e9:=nodes_set ys i y
     have hi9:i < xs.length:=by omega
     have e10:kDJ ((qG ys).getD i .any) 0 [.v (.int .i64 y.id),.v (.int .i64 par),.v (sv y.nm),.v (.bool y.dir),.v (sv y.text)]=nA y:=by rw[e7,← e8];rfl
     simp only[aR,seval,kA,kB,hy,nA,kY,hys,e5,hq3,hlv,hl2,e9,kC (n:=(i:Int)+1) (by omega) (by omega),kC (n:=(j:Int)+1) (by omega) (by omega)]
     (repeat (with_reducible refine And.intro ?_ ?_;focus (first|omega|exact kE|kernel_rfl)))
     refine kEi ⟨(ys.set i y,i+1,j+1),(show (ys.set i y).length=_ by rw[List.length_set];exact hys),(show i+1 < j+1 by omega),(show j+1≤xs.length by omega),?_,?_⟩ (show xs.length - (j+1) < xs.length - j by omega) (by omega) ?_ ?_ turnH_cut ⟨rfl,rfl⟩
     ·show (ys.set i y).take (i+1)=_
      rw[e6,hk1,← hta,List.take_succ_eq_append_getElem (by rw[List.length_set];omega),List.getElem_set_self,List.take_set_of_le (Nat.le_refl _)]
     ·show (ys.set i y).drop (j+1)=_
      have:=congrArg (List.drop 1) hdr
      rw[List.drop_drop,List.drop_drop]at this
      rw[List.drop_set,if_pos (by omega)]
      exact this
     ·simp only[aR,seval,kA,kB,e9,e10,kY,hys]<;>((repeat' apply And.intro)<;>first|rfl|omega|trivial)
     ·have hbq:∀ k,nh≤k→∀ o x,cutO fm l h o=some x→o < k:=fun k hk o x h=>by have:=hb' o x h;omega
      repeat' first|exact HasO.refl|refine HasO.turn ?_|refine HasO.new (hbq _ (by omega)) ?_
    ·have hk1:kept par [y]=[]:=by simp[kept,hy]
     rw[hk1,List.append_nil]at e6
     simp only[aR,seval,kA,kB,hy,kC (n:=(j:Int)+1) (by omega) (by omega)]
     refine kEi ⟨(ys,i,j+1),hys,(show i < j+1 by omega),(show j+1≤xs.length by omega),(show ys.take i=_ by rw[e6,hta]),?_⟩ (show xs.length - (j+1) < xs.length - j by omega) (by omega) ?_ ?_ rfl ⟨rfl,rfl⟩
     ·have:=congrArg (List.drop 1) hdr
      rw[List.drop_drop,List.drop_drop]at this
      exact this
     ·simp only[aR,seval,kA,kB,]<;>((repeat' apply And.intro)<;>first|rfl|omega|trivial)
     ·have hbq:∀ k,nh≤k→∀ o x,cutO fm l h o=some x→o < k:=fun k hk o x h=>by have:=hb' o x h;omega
      repeat' first|exact HasO.refl|refine HasO.turn ?_|refine HasO.new (hbq _ (by omega)) ?_
   ·have hj2:j=xs.length:=by omega
    subst hj2
    rw[List.take_length]at hta
    have hkl:(kept par xs).length=i:=by rw[← hta,List.length_take];omega
    have e11:∀ zs:List AV,(qG (kept par xs)++zs).take i=qG (kept par xs):=fun zs=>by
     rw[List.take_append_of_le_length (by rw[kY];omega),List.take_of_length_le (by rw[kY];omega)]
    have e12:i+(xs.length - i)=xs.length:=by omega
    simp only[aR,seval,kA,kB,kAL,h2,kY,hys,hlv,hl2,nodes_take,hta,e11,hkl,List.length_append,List.length_replicate,e12,turnH_cut,cutH_cut]
    (repeat (with_reducible refine And.intro ?_ ?_;focus (first|omega|exact kE|kernel_rfl)))
    rw[hkl]at hk
    exact hk _ _ (by omega) (HasO.cut (HasO.turn HasO.refl))
 ·have hi2:i=xs.length:=by omega
  subst hi2
  rw[List.drop_length]at hn
  have e2:=goI_all par xs hn
  simp only[aR,seval,kA,kB,h1]
  rw[e2,upd_self hlv]at hk
  exact hk _ _ hq HasO.refl
end
def unA:AV→Nd
 | .agg [.v (.int _ a),.v (.int _ b),.v (.string c),.v (.bool d),.v (.string e)]=>⟨a,b,c.data.toList,d,e.data.toList⟩
 | _=>kBy
theorem unA_nA (x:Nd):unA (nA x)=x:=by
 obtain ⟨a,b,c,d,e⟩:=x
 simp[nA,unA,sv]
section
variable {Γ:Env} {d:Option Nat} {K:AS→Prop} {σ:AS}
theorem call_sortN (hC:Γ.get 92=none) {xs:List Nd} {l:Nat} (hl2:2≤l) (hlen:xs.length≤1000000) (hlv:σ.m.lv l=some (xs.length,82)) (hmu:σ.m.mu=true)
    (hk0:xs=[]→cont σ d (.tup []) K) (hk1:∀ zs:List Nd,zs.Perm xs→zs.Pairwise (fun a b=>¬ b.nm < a.nm)→cont (σ.turned l xs.length (qG zs)) d (.tup []) K) :
    kP Tryz.prog Γ false σ 92 [.sl l 5 (qG xs),.fn 93 []] d K:=by
 refine zW hC (sort_rawG (ρ:=Tryz.sortN_ren) (kx:=fun z=>(unA z).nm) swo_cmpB Tryz.sortN (by omega) Tryz.isAgg82 Tryz.sizeOf82 (enters_of Tryz.func93 (by kernel_rfl) rfl) (by omega) cmpN ⟨_,Tryz.func92,by kernel_rfl,rfl⟩ hl2 (by rw[kY];omega) (by rw[kY];exact hlv) hmu ?_ ?_ ?_ ?_)
 ·intro z hz
  obtain ⟨x,_,rfl⟩:=List.mem_map.1 hz
  exact ⟨rfl,rfl⟩
 ·intro z hz
  obtain ⟨x,_,rfl⟩:=List.mem_map.1 hz
  rw[unA_nA];rfl
 ·intro h
  exact hk0 (by simpa [qG] using h)
 ·intro zs h1 h2
  have e1:zs=qG (zs.map unA):=by
   rw[qG,List.map_map]
   refine (List.map_id' zs).symm.trans (List.map_congr_left fun z hz=>?_)
   obtain ⟨x,_,rfl⟩:=List.mem_map.1 (h1.mem_iff.1 hz)
   show nA x=nA (unA (nA x))
   rw[unA_nA]
  have e2:(zs.map unA).Perm xs:=by
   have:=h1.map unA
   rwa [qG,List.map_map,show (unA ∘ nA)=id from funext unA_nA,List.map_id]at this
  rw[e1,kY]
  refine hk1 _ e2 ?_
  rw[List.pairwise_map]
  exact h2.imp fun h3=>by rw[cmpB_neg]at h3;exact h3
end
end Go.Proofs
end
-- HTr8
section
namespace Go.Proofs
open Go Go.Rw
set_option maxRecDepth 100000
def kidsR (par:Int) (l:List Nd) (ids:List Int):Prop:=∃ zs:List Nd,zs.Perm (kept par l)∧zs.Pairwise (fun a b=>¬ b.nm < a.nm)∧ids=zs.map Nd.id
theorem kidsR_len {par:Int} {l:List Nd} {ids:List Int} (h:kidsR par l ids):ids.length=(kept par l).length:=by
 obtain ⟨zs,h1,_,rfl⟩:=h
 rw[List.length_map];exact h1.length_eq
theorem kept_len (par:Int) (l:List Nd):(kept par l).length≤l.length:=List.length_filter_le _ _
abbrev tkidsCon:ConO where
 ι:={ p:TS×Int // idsOk p.1.l }
 objs:=fun p=>tsO (some p.1.1)
 args:=fun p=>[.ptr 0 0,.v (.int .i64 p.1.2)]
 post:=fun p objs lvs r=>objs=tsO (some p.1.1)∧∃ ids,kidsR p.1.2 p.1.1.l ids∧lvs=[]∧r = .sl 0 1 (ints .i64 ids)
set_option maxHeartbeats 1000000 in
theorem tkids_good:jX Tryz.prog 71 tkidsCon:=by
 have hΓ:kM Tryz.prog []:=kL
 refine qQ (nn:=27) Tryz.func71 (by kernel_rfl) rfl (show Tryz.f71.results.toList=[.tmp 4] from rfl) (fun _=>rfl) ?_
 rintro ⟨⟨s,par⟩,hi⟩
 simp only at hi
 have hl:=hi.1
 have hkl:=kept_len par s.l
 refine qN hΓ (Ws:=[]) _ ?_
 simp only[aR,seval,kA,kB,kF]
 refine kE3 (s:=s) (o:=0) (ob:=1) (by simp[kG,kN]) hi (by simp[qI,upd]) ?_
 simp only[aR,seval,kA,kB,kF,kY]
 (repeat (with_reducible refine And.intro ?_ ?_;focus (first|omega|exact kE|kernel_rfl)))
 refine call_del hΓ (by simp[kG,kN]) (by simp[kG,kN]) (by simp[kG,kN]) (xs:=s.l) (par:=par) (by omega) (by simp[upd]) hl (by simp[upd]) ?_ ?_
 ·intro o x h
  simp only[upd]at h
  split at h
  ·omega
  ·have:=(List.getElem?_eq_some_iff.1 h).1
   simp at this;omega
 ·intro k' h' hk' hh
  have t0:=hh 0 (.cells [.mp 1]) (by simp[cutO,upd,AO.cut,AV.cutL,AV.cut])
  have t1:=hh 1 (.map s.es s.cl) (by simp[cutO,upd,AO.cut])
  simp only[aR,seval,kA,kB,kAL,kF,kY,t0,t1]
  (repeat (with_reducible refine And.intro ?_ ?_;focus (first|omega|exact kE|kernel_rfl)))
  refine call_sortN (by simp[kG,kN]) (by omega) (by omega) (by simp[upd]) rfl ?_ ?_
  ·intro h0
   obtain ⟨zs,hz,hp⟩:∃ zs:List Nd,kept par s.l=zs∧zs.Pairwise (fun a b=>¬ b.nm < a.nm):=⟨[],h0,List.Pairwise.nil⟩
   have hz1:zs.Perm (kept par s.l):=by rw[hz]
   rw[hz]
   have hzl:zs.length=(kept par s.l).length:=hz1.length_eq
   simp only[aR,seval,kA,kB,kAL,kF,kY,t0,t1,hzl]
   (repeat (with_reducible refine And.intro ?_ ?_;focus (first|omega|exact kE|kernel_rfl)))
   obtain ⟨St,hSt⟩:∃ St:{ i:Nat // i≤zs.length }→AS,∀ i,St i=AS.ofH 27 [(4,.sl 2 1 (ints .i64 ((zs.take i.1).map Nd.id))),(14,.sl 0 5 (qG zs)),(15,.v (.int .i64 zs.length)),(16,.v (.int .i64 i.1))] [(0,.ptr 0 0),(1,.mp 1)] (tsO (some s)) [(i.1,3)]:=⟨_,fun _=>rfl⟩
   refine kBm ?_
   refine jK [] hΓ St (fun i=>zs.length - i.1) ⟨0,by omega⟩ (by rw[hSt];refine k5 [0,1] [.nil 1] ?_;simp only[aR,seval,kA,kB,kAL,kF,List.take_zero,List.map_nil,ints_nil,kY,hzl,t0,t1]<;>((repeat' apply And.intro)<;>first|rfl|omega|trivial)) ?_
   rintro ⟨i,hle⟩
   rw[hSt]
   simp only
   simp only[aR,seval,kA,kB,kF,kY]
   (with_reducible first|refine kD (fun h=>?_) (fun h=>?_)|refine kH (fun h=>?_) (fun h=>?_))
   ·have hlt:i < zs.length:=by omega
    have e3:=j6 zs hlt
    have e4:ints .i64 ((zs.take (i+1)).map Nd.id)=ints .i64 ((zs.take i).map Nd.id)++[.v (.int .i64 zs[i].id)]:=by
     rw[List.take_succ_eq_append_getElem hlt,List.map_append];simp[ints]
    have e5:(ints .i64 ((zs.take i).map Nd.id)).length=i:=by simp[ints];omega
    generalize zs[i]=x at *
    simp only[aR,seval,kA,kB,kF,h,e3,nA,kY,e5,kC (n:=(i:Int)+1) (by omega) (by omega)]
    (repeat (with_reducible refine And.intro ?_ ?_;focus (first|omega|exact kE|kernel_rfl)))
    refine kO ⟨i+1,by omega⟩ (by simp only;omega) ?_
    rw[hSt];refine k5 [0,1] [.live 2] ?_
    simp only[aR,seval,kA,kB,kF,e4,nA]<;>((repeat' apply And.intro)<;>first|rfl|omega|trivial)
   ·have hi2:i=zs.length:=by omega
    subst hi2
    have e6:=List.take_of_length_le (Nat.le_refl zs.length)
    simp only[aR,seval,kA,kB,kF,h,e6]
    refine kV [0,1] [] (tsO (some s)) [] (.sl 0 1 (ints .i64 (zs.map Nd.id))) ⟨rfl,zs.map Nd.id,⟨zs,hz1,hp,rfl⟩,rfl,rfl⟩ ?_
    simp only[aR,seval,kA,kB,kF]<;>((repeat' apply And.intro)<;>first|rfl|omega|trivial)
  ·intro zs hz1 hp
   have hzl:zs.length=(kept par s.l).length:=hz1.length_eq
   simp only[aR,seval,kA,kB,kAL,kF,kY,t0,t1,hzl]
   (repeat (with_reducible refine And.intro ?_ ?_;focus (first|omega|exact kE|kernel_rfl)))
   obtain ⟨St,hSt⟩:∃ St:{ i:Nat // i≤zs.length }→AS,∀ i,St i=AS.ofH 27 [(4,.sl 2 1 (ints .i64 ((zs.take i.1).map Nd.id))),(14,.sl 0 5 (qG zs)),(15,.v (.int .i64 zs.length)),(16,.v (.int .i64 i.1))] [(0,.ptr 0 0),(1,.mp 1)] (tsO (some s)) [(i.1,3)]:=⟨_,fun _=>rfl⟩
   refine kBm ?_
   refine jK [] hΓ St (fun i=>zs.length - i.1) ⟨0,by omega⟩ (by rw[hSt];refine k5 [0,1] [.nil 1] ?_;simp only[aR,seval,kA,kB,kAL,kF,List.take_zero,List.map_nil,ints_nil,kY,hzl,t0,t1]<;>((repeat' apply And.intro)<;>first|rfl|omega|trivial)) ?_
   rintro ⟨i,hle⟩
   rw[hSt]
   simp only
   simp only[aR,seval,kA,kB,kF,kY]
   (with_reducible first|refine kD (fun h=>?_) (fun h=>?_)|refine kH (fun h=>?_) (fun h=>?_))
   ·have hlt:i < zs.length:=by omega
    have e3:=j6 zs hlt
    have e4:ints .i64 ((zs.take (i+1)).map Nd.id)=ints .i64 ((zs.take i).map Nd.id)++[.v (.int .i64 zs[i].id)]:=by
     rw[List.take_succ_eq_append_getElem hlt,List.map_append];simp[ints]
    have e5:(ints .i64 ((zs.take i).map Nd.id)).length=i:=by simp[ints];omega
    generalize zs[i]=x at *
    simp only[aR,seval,kA,kB,kF,h,e3,nA,kY,e5,kC (n:=(i:Int)+1) (by omega) (by omega)]
    (repeat (with_reducible refine And.intro ?_ ?_;focus (first|omega|exact kE|kernel_rfl)))
    refine kO ⟨i+1,by omega⟩ (by simp only;omega) ?_
    rw[hSt];refine k5 [0,1] [.live 2] ?_
    simp only[aR,seval,kA,kB,kF,e4,nA]<;>((repeat' apply And.intro)<;>first|rfl|omega|trivial)
   ·have hi2:i=zs.length:=by omega
    subst hi2
    have e6:=List.take_of_length_le (Nat.le_refl zs.length)
    simp only[aR,seval,kA,kB,kF,h,e6]
    refine kV [0,1] [] (tsO (some s)) [] (.sl 0 1 (ints .i64 (zs.map Nd.id))) ⟨rfl,zs.map Nd.id,⟨zs,hz1,hp,rfl⟩,rfl,rfl⟩ ?_
    simp only[aR,seval,kA,kB,kF]<;>((repeat' apply And.intro)<;>first|rfl|omega|trivial)
end Go.Proofs
end
-- HTr9
section
namespace Go.Proofs
open Go Go.Rw
set_option maxRecDepth 100000
section
variable {Γ:Env} {n:Nat} {t:Nat→AV} {hd:Nat→Nat→AV} {d:Option Nat} {K:AS→Prop}
variable {nh nl:Nat} {h:Nat→Option AO} {fm:Nat→Nat} {lv:Nat→Option (Nat×Nat)} {mu:Bool}
theorem call_tkids (hC:Γ.get 71=none) {s:TS} {par:Int} (hi:idsOk s.l) {o ob:Nat} (hT:qI h o ob s)
    (hk:∀ ids,kidsR par s.l ids→cont ⟨n,t,hd,⟨nh,h,nl,fm,lv,mu⟩⟩ d (.sl 0 1 (ints .i64 ids)) K):kP Tryz.prog Γ false ⟨n,t,hd,⟨nh,h,nl,fm,lv,mu⟩⟩ 71 [.ptr o 0,.v (.int .i64 par)] d K:=by
 refine kBJ tkids_good hC ⟨(s,par),hi⟩ rfl hT (by simp[dnL,dn]) rfl (fun _ _ _ hp=>hp.1) ?_
 rintro lvs r ⟨_,ids,h1,rfl,rfl⟩
 exact hk ids h1
theorem kC2 {f:FuncId} {C:ConO} (hG:jX Tryz.prog f C) (hC:Γ.get f=none) (i:C.ι) {s:TS} (hobjs:C.objs i=tsO (some s)) {o ob:Nat} (hT:qI h o ob s) {bs:List AV} (ha:dnL [o,ob] bs (C.args i)) (ht:AV.tagsL bs=[]) {q:List Nd×Int}
    (hpost:∀ objs lvs r,C.post i objs lvs r→mutP s q objs lvs r)
    (hk:∀ s':TS,s'.l=q.1→cont ⟨n,t,hd,⟨nh,upd h ob (some (.map s'.es s'.cl)),nl,fm,lv,mu⟩⟩ d (.v (.int .i64 q.2)) K):kP Tryz.prog Γ false ⟨n,t,hd,⟨nh,h,nl,fm,lv,mu⟩⟩ f bs d K:=by
 obtain ⟨h1,h2,h3⟩:=hT
 refine vc_obj hG hC i [o,ob] ⟨by simp[h3],ha,?_,ht,?_⟩ ?_
 ·rw[hobjs]
  simp only[tsO,kBF,kCf,h1,h2,kAg,kC3,kCF,kEd,dn_mp]
  simp
 ·simp[kAH,kA7,h1,h2,kFO,AO.tags,AV.tagsL,AV.tags]
 ·intro objs lvs r hp hl
  obtain ⟨s',h4,rfl,rfl,rfl⟩:=hpost _ _ _ hp
  have e1:upd h o (some (.cells [.mp ob]))=h:=kD0 h1
  have e3:(tsO (some s')).length - [o,ob].length=0:=rfl
  rw[e3]
  simp only[tsO,List.cons_append,List.nil_append,j1,kAa,j4,kBa,kA1,kB6,kFW,kB2,kBU,kDO,j5,kAf,kAd,kAc,kA5,emb_v,List.length_nil,Nat.add_zero,e1]
  exact hk s' h4
end
def remN (l:List Nd) (id:Int):List Nd×Int :=
 if hasN l id=false then (l,5) else if 0 < (kept id l).length then (l,9) else (offT id l,0)
abbrev tremCon:ConO where
 ι:={ p:TS×Int // idsOk p.1.l }
 objs:=fun p=>tsO (some p.1.1)
 args:=fun p=>[.ptr 0 0,.v (.int .i64 p.1.2)]
 post:=fun p=>mutP p.1.1 (remN p.1.1.l p.1.2)
set_option maxHeartbeats 1000000 in
theorem trem_good:jX Tryz.prog 41 tremCon:=by
 have hΓ:kM Tryz.prog []:=kL
 refine qQ (nn:=28) Tryz.func41 (by kernel_rfl) rfl (show Tryz.f41.results.toList=[.tmp 4] from rfl) (fun _=>rfl) ?_
 rintro ⟨⟨s,id⟩,hi⟩
 simp only at hi
 refine qN hΓ (Ws:=[]) _ ?_
 have e1:=kCB s.h
 have e0:remN s.l id=if hasN s.l id=false then (s.l,5) else if 0 < (kept id s.l).length then (s.l,9) else (offT id s.l,0):=rfl
 simp only[aR,seval,kA,kB,kF,e1,nA]
 (repeat (with_reducible refine And.intro ?_ ?_;focus (first|omega|exact kE|kernel_rfl)))
 rcases Bool.eq_false_or_eq_true (hasN s.l id) with hh|hh
 case inr =>
  rw[if_pos hh]at e0
  simp only[aR,seval,kA,kB,kF,hh]
  refine kV [0,1] [] (tsO (some s)) [] (.v (.int .i64 5)) ⟨s,by rw[e0],rfl,rfl,by rw[e0]⟩ ?_
  simp only[aR,seval,kA,kB,kF]<;>((repeat' apply And.intro)<;>first|rfl|omega|trivial)
 rw[if_neg (by rw[hh];decide)]at e0
 simp only[aR,seval,kA,kB,kF,hh]
 (repeat (with_reducible refine And.intro ?_ ?_;focus (first|omega|exact kE|kernel_rfl)))
 refine call_tkids (s:=s) (o:=0) (ob:=1) (by simp[kG,kN]) hi (by simp[qI,upd]) ?_
 intro ids hk
 have e2:=kidsR_len hk
 have e3:(ints .i64 ids).length=ids.length:=by simp[ints]
 simp only[aR,seval,kA,kB,kF,e3,e2]
 (repeat (with_reducible refine And.intro ?_ ?_;focus (first|omega|exact kE|kernel_rfl)))
 by_cases h9:0 < (kept id s.l).length
 ·rw[if_pos h9]at e0
  simp only[aR,seval,kA,kB,kF,show (((kept id s.l).length:Int) > 0)=True from eq_true (by omega)]
  refine kV [0,1] [] (tsO (some s)) [] (.v (.int .i64 9)) ⟨s,by rw[e0],rfl,rfl,by rw[e0]⟩ ?_
  simp only[aR,seval,kA,kB,kF]<;>((repeat' apply And.intro)<;>first|rfl|omega|trivial)
 rw[if_neg h9]at e0
 simp only[aR,seval,kA,kB,kF,show (((kept id s.l).length:Int) > 0)=False from eq_false (by omega)]
 obtain ⟨es',cl',p1,p2⟩:=off_tm s.h id
 simp only[aR,seval,kA,kB,kF,p1]
 (repeat (with_reducible refine And.intro ?_ ?_;focus (first|omega|exact kE|kernel_rfl)))
 refine kV [0,1] [] (tsO (some ⟨es',cl',_,p2⟩)) [] (.v (.int .i64 0)) ⟨⟨es',cl',_,p2⟩,by rw[e0],rfl,rfl,by rw[e0]⟩ ?_
 simp only[aR,seval,kA,kB,kF]<;>((repeat' apply And.intro)<;>first|rfl|omega|trivial)
def dotN (l:List Nd) (a:Ac):List Nd×Int :=
 if a.k < 1∨a.k > 4 then (l,1)
 else if a.k=1 then creN l a
 else if a.k=2 then remN l a.id
 else if a.k=3 then movN l a
 else ediN l a
def doOk (l:List Nd) (a:Ac):Prop:=trOk l∧rtOk l∧a.nm.length≤1099511627776∧okL a.ops
abbrev tdoCon:ConO where
 ι:={ p:TS×Ac // doOk p.1.l p.2 }
 objs:=fun p=>tsO (some p.1.1)
 args:=fun p=>[.ptr 0 0,aA p.1.2]
 post:=fun p=>mutP p.1.1 (dotN p.1.1.l p.1.2)
set_option maxHeartbeats 4000000 in
theorem tdo_good:jX Tryz.prog 22 tdoCon:=by
 have hΓ:kM Tryz.prog []:=kL
 refine qQ (nn:=45) Tryz.func22 (by kernel_rfl) rfl (show Tryz.f22.results.toList=[.tmp 4] from rfl) (fun _=>rfl) ?_
 rintro ⟨⟨s,a⟩,ho,hr,hn,hc⟩
 obtain ⟨k,id,par,nm,dir,ops⟩:=a
 simp only at ho hr hn hc
 refine qN hΓ (Ws:=[]) _ ?_
 have e0:dotN s.l ⟨k,id,par,nm,dir,ops⟩=if k < 1∨k > 4 then (s.l,1) else if k=1 then creN s.l ⟨k,id,par,nm,dir,ops⟩ else if k=2 then remN s.l id else if k=3 then movN s.l ⟨k,id,par,nm,dir,ops⟩ else ediN s.l ⟨k,id,par,nm,dir,ops⟩:=rfl
 simp only[aR,seval,kA,kB,kF,aA]
 (repeat (with_reducible refine And.intro ?_ ?_;focus (first|omega|exact kE|kernel_rfl)))
 by_cases h1:k < 1
 ·rw[if_pos (.inl h1)]at e0
  simp only[aR,seval,kA,kB,kF,h1]
  refine kV [0,1] [] (tsO (some s)) [] (.v (.int .i64 1)) ⟨s,by rw[e0],rfl,rfl,by rw[e0]⟩ ?_
  simp only[aR,seval,kA,kB,kF]<;>((repeat' apply And.intro)<;>first|rfl|omega|trivial)
 by_cases h2:k > 4
 ·rw[if_pos (.inr h2)]at e0
  simp only[aR,seval,kA,kB,kF,h1,h2]
  refine kV [0,1] [] (tsO (some s)) [] (.v (.int .i64 1)) ⟨s,by rw[e0],rfl,rfl,by rw[e0]⟩ ?_
  simp only[aR,seval,kA,kB,kF]<;>((repeat' apply And.intro)<;>first|rfl|omega|trivial)
 rw[if_neg (by omega)]at e0
 simp only[aR,seval,kA,kB,kF,h1,h2]
 (repeat (with_reducible refine And.intro ?_ ?_;focus (first|omega|exact kE|kernel_rfl)))
 by_cases k1:k=1
 ·subst k1
  rw[if_pos rfl]at e0
  simp only[aR,seval,kA,kB,kF,aA]
  (repeat (with_reducible refine And.intro ?_ ?_;focus (first|omega|exact kE|kernel_rfl)))
  refine kC2 (o:=0) (ob:=1) (q:=creN s.l ⟨1,id,par,nm,dir,ops⟩) tcre_good (by simp[kG,kN]) ⟨(s,⟨1,id,par,nm,dir,ops⟩),ho,hn⟩ rfl (by simp[qI,upd]) (by simp[dnL,dn,aA]) (by simp[AV.tagsL,AV.tags]) (fun _ _ _ hp=>hp) ?_
  intro s' hs
  simp only[aR,seval,kA,kB,kF,h1,h2]
  (repeat (with_reducible refine And.intro ?_ ?_;focus (first|omega|exact kE|kernel_rfl)))
  refine kV [0,1] [] (tsO (some s')) [] (.v (.int .i64 (creN s.l ⟨1,id,par,nm,dir,ops⟩).2)) ⟨s',by rw[e0];exact hs,rfl,rfl,by rw[e0]⟩ ?_
  simp only[aR,seval,kA,kB,kF]<;>((repeat' apply And.intro)<;>first|rfl|omega|trivial)
 rw[if_neg k1]at e0
 by_cases k2:k=2
 ·subst k2
  rw[if_pos rfl]at e0
  simp only[aR,seval,kA,kB,kF,aA]
  (repeat (with_reducible refine And.intro ?_ ?_;focus (first|omega|exact kE|kernel_rfl)))
  refine kC2 (o:=0) (ob:=1) (q:=remN s.l id) trem_good (by simp[kG,kN]) ⟨(s,id),ho.1⟩ rfl (by simp[qI,upd]) (by simp[dnL,dn,aA]) (by simp[AV.tagsL,AV.tags]) (fun _ _ _ hp=>hp) ?_
  intro s' hs
  simp only[aR,seval,kA,kB,kF,h1,h2]
  (repeat (with_reducible refine And.intro ?_ ?_;focus (first|omega|exact kE|kernel_rfl)))
  refine kV [0,1] [] (tsO (some s')) [] (.v (.int .i64 (remN s.l id).2)) ⟨s',by rw[e0];exact hs,rfl,rfl,by rw[e0]⟩ ?_
  simp only[aR,seval,kA,kB,kF]<;>((repeat' apply And.intro)<;>first|rfl|omega|trivial)
 rw[if_neg k2]at e0
 by_cases k3:k=3
 ·subst k3
  rw[if_pos rfl]at e0
  simp only[aR,seval,kA,kB,kF,aA]
  (repeat (with_reducible refine And.intro ?_ ?_;focus (first|omega|exact kE|kernel_rfl)))
  refine kC2 (o:=0) (ob:=1) (q:=movN s.l ⟨3,id,par,nm,dir,ops⟩) tmov_good (by simp[kG,kN]) ⟨(s,⟨3,id,par,nm,dir,ops⟩),ho,hr,hn⟩ rfl (by simp[qI,upd]) (by simp[dnL,dn,aA]) (by simp[AV.tagsL,AV.tags]) (fun _ _ _ hp=>hp) ?_
  intro s' hs
  simp only[aR,seval,kA,kB,kF,h1,h2]
  (repeat (with_reducible refine And.intro ?_ ?_;focus (first|omega|exact kE|kernel_rfl)))
  refine kV [0,1] [] (tsO (some s')) [] (.v (.int .i64 (movN s.l ⟨3,id,par,nm,dir,ops⟩).2)) ⟨s',by rw[e0];exact hs,rfl,rfl,by rw[e0]⟩ ?_
  simp only[aR,seval,kA,kB,kF]<;>((repeat' apply And.intro)<;>first|rfl|omega|trivial)
 rw[if_neg k3]at e0
 simp only[aR,seval,kA,kB,kF,k1,k2,k3,aA]
 (repeat (with_reducible refine And.intro ?_ ?_;focus (first|omega|exact kE|kernel_rfl)))
 refine kC2 (o:=0) (ob:=1) (q:=ediN s.l ⟨k,id,par,nm,dir,ops⟩) tedi_good (by simp[kG,kN]) ⟨(s,⟨k,id,par,nm,dir,ops⟩),ho,hc⟩ rfl (by simp[qI,upd]) (by simp[dnL,dn,aA]) (by simp[AV.tagsL,AV.tags]) (fun _ _ _ hp=>hp) ?_
 intro s' hs
 simp only[aR,seval,kA,kB,kF,h1,h2]
 (repeat (with_reducible refine And.intro ?_ ?_;focus (first|omega|exact kE|kernel_rfl)))
 refine kV [0,1] [] (tsO (some s')) [] (.v (.int .i64 (ediN s.l ⟨k,id,par,nm,dir,ops⟩).2)) ⟨s',by rw[e0];exact hs,rfl,rfl,by rw[e0]⟩ ?_
 simp only[aR,seval,kA,kB,kF]<;>((repeat' apply And.intro)<;>first|rfl|omega|trivial)
end Go.Proofs
end
-- HTr10
section
namespace Go.Proofs
open Go Go.Rw
set_option maxRecDepth 100000
theorem gN_at (l:List Nd) (i:Int):gN l i=(atI i l).getD kBy:=by
 rw[at_ndx]
 unfold gN
 split
 ·rfl
 ·rw[List.getD_eq_getElem?_getD,List.getElem?_eq_none (by omega)]
theorem kBw (l:List Nd) (i:Int):hasN l i=(atI i l).isSome:=by
 rw[at_ndx]
 unfold hasN
 split<;>simp[*]
def pf (l:List Nd) (i:Int):Int:=(gN l i).par
def upN (l:List Nd):Nat→Int→Int
 | 0,i=>i
 | k+1,i=>upN l k (pf l i)
theorem up_add (l:List Nd):∀ (j k:Nat) (i:Int),upN l (j+k) i=upN l k (upN l j i)
 | 0,k,i=>by rw [Nat.zero_add];rfl
 | j+1,k,i=>by rw [Nat.add_right_comm];exact up_add l j k (pf l i)
theorem up_succ (l:List Nd) (k:Nat) (i:Int):upN l (k+1) i=pf l (upN l k i):=up_add l k 1 i
theorem pf_no {l:List Nd} {i:Int} (h:hasN l i=false):pf l i=0:=by
 unfold pf
 rw[gN_at]
 rw[kBw]at h
 cases h2:atI i l with
 | none=>rfl
 | some x=>rw [h2] at h;simp at h
theorem nodup_sub:∀ {a b:List Int},a.Nodup→(∀ x∈a,x∈b)→a.length≤b.length
 | [],b,_,_=>Nat.zero_le _
 | x::a,b,hn,hs=>by
   rw[List.nodup_cons]at hn
   have h1:=hs x (List.mem_cons_self ..)
   have h2:=nodup_sub (a:=a) (b:=b.erase x) hn.2 fun y hy=>(List.mem_erase_of_ne (by rintro rfl;exact hn.1 hy)).2 (hs y (List.mem_cons_of_mem _ hy))
   rw[List.length_erase_of_mem h1]at h2
   have:0 < b.length:=List.length_pos_of_mem h1
   simp only[List.length_cons];omega
structure okNd (x:Nd):Prop where
 id:1≤x.id∧x.id≤1099511627776
 nm:qY x.nm=true
 dir:x.dir=true→x.text=[]
 valid:(pts x.text).isSome=true
 cnt:cnt x.text≤2000
structure sndN (l:List Nd):Prop where
 srt:srtN l
 len:l.length≤100
 node:∀ x∈l,okNd x
 tot:totN l≤10000
 sib:∀ x∈l,∀ y∈l,x.par=y.par→x.nm=y.nm→x.id=y.id
 par:∀ x∈l,x.par=0∨(hasN l x.par=true∧(gN l x.par).dir=true)
 rt:∀ x∈l,∃ k,upN l k x.id=0
theorem snd_nil:sndN []:=⟨by simp[srtN],by simp,by simp,by simp[totN],by simp,by simp,by simp⟩
theorem at_mem {l:List Nd} (h:srtN l) {x:Nd} (hx:x∈l):atI x.id l=some x:=by
 obtain ⟨i,hi,rfl⟩:=List.getElem_of_mem hx
 have:=ndx_self (srt_mem h) i (List.getElem?_eq_getElem hi)
 rw[at_ndx,this,if_pos hi,List.getD_eq_getElem?_getD,List.getElem?_eq_getElem hi];rfl
theorem kBl {l:List Nd} {i:Int} (h:hasN l i=true):gN l i∈l∧(gN l i).id=i:=by
 obtain ⟨h1,h2,h3⟩:=kCb h
 rw[h2]
 exact ⟨List.getElem_mem h1,h3⟩
theorem hasN_mem {l:List Nd} {x:Nd} (hx:x∈l):hasN l x.id=true:=(qR l x.id).2 ((ndx_mem x.id l).2 ⟨x,hx,rfl⟩)
section
variable {l:List Nd} (S:sndN l)
include S
theorem no_zero:hasN l 0=false:=by
 rcases Bool.eq_false_or_eq_true (hasN l 0) with h|h
 ·have:=kBl h
  have h2:=(S.node _ this.1).id.1
  omega
 ·exact h
theorem pf_zero:pf l 0=0:=pf_no (no_zero S)
theorem kDL:∀ k,upN l k 0=0
 | 0=>rfl
 | k+1=>by rw [upN,pf_zero S];exact kDL k
theorem up_stay {j k:Nat} {i:Int} (h:upN l j i=0) (hk:j≤k):upN l k i=0:=by
 obtain ⟨m,rfl⟩:∃ m,k=j+m:=⟨k - j,by omega⟩
 rw[up_add,h,kDL S]
def inT (l:List Nd) (i:Int):Prop:=i=0∨hasN l i=true
theorem pf_in {i:Int}:inT l (pf l i):=by
 rcases Bool.eq_false_or_eq_true (hasN l i) with h|h
 ·obtain ⟨h1,h2⟩:=kBl h
  rcases S.par _ h1 with h3|h3
  ·exact .inl h3
  ·exact .inr h3.1
 ·exact .inl (pf_no h)
theorem up_in {i:Int} (hi:inT l i):∀ k,inT l (upN l k i)
 | 0=>hi
 | k+1=>by rw [up_succ];exact pf_in S
theorem rt_in {i:Int} (hi:inT l i):∃ k,upN l k i=0:=by
 rcases hi with rfl|hi
 ·exact ⟨0,rfl⟩
 ·obtain ⟨h1,h2⟩:=kBl hi
  have:=S.rt _ h1
  rwa [h2]at this
theorem rt_len {i:Int} (hi:inT l i):upN l l.length i=0:=by
 obtain ⟨k,hk⟩:=rt_in S hi
 induction k using Nat.strongRecOn with
 | ind k ih =>
   by_cases hlt:k≤l.length
   ·exact up_stay S hk hlt
   ·-- two of the k are the same
    by_cases hall:∀ j,j < k→upN l j i≠0
    ·by_cases hnd:((List.range k).map fun j=>upN l j i).Nodup
     ·have:=nodup_sub (b:=l.map Nd.id) hnd fun y hy=>by
        obtain ⟨j,hj,rfl⟩:=List.mem_map.1 hy
        rcases up_in S hi j with h0|h0
        ·exact absurd h0 (hall j (by simpa using hj))
        ·obtain ⟨h1,h2⟩:=kBl h0
         exact List.mem_map.2 ⟨_,h1,h2⟩
      simp at this
      omega
     ·exfalso
      apply hnd
      rw[List.nodup_iff_pairwise_ne,List.pairwise_map]
      rw[List.pairwise_iff_getElem]
      intro a b ha hb hab
      simp only[List.length_range]at ha hb
      simp only[List.getElem_range]
      intro he
      -- from b on as from a on: the root sooner
      have h1:upN l (a+(k - b)) i=0:=by rw[up_add,he,← up_add,show b+(k - b)=k by omega,hk]
      exact hall _ (by omega) h1
    ·have:∃ j,j < k∧upN l j i=0:=by
       refine Classical.byContradiction fun hc=>hall fun j hj h0=>hc ⟨j,hj,h0⟩
     obtain ⟨j,hj,h0⟩:=this
     exact ih j hj h0
theorem root_iff {i:Int}:∀ n,kAx l n i=true↔upN l n i=0
 | 0=>by simp [kAx,upN]
 | n+1=>by
   rw[kAx,upN]
   split
   ·rename_i h0
    subst h0
    simp[pf_zero S,kDL S]
   ·exact root_iff n
theorem snd_rt:rtOk l:=fun x hx=>(root_iff S _).2 (rt_len S (.inr (hasN_mem hx)))
def meets (l:List Nd) (i top:Int):Prop:=∃ k,upN l k i=top
theorem up_iff {i top:Int}:∀ n,upB l top n i=true↔∃ k,k≤n∧upN l k i=top∧∀ j,j < k→upN l j i≠0
 | 0=>by
   simp only[upB,decide_eq_true_eq]
   constructor
   ·rintro rfl;exact ⟨0,Nat.le_refl _,rfl,by omega⟩
   ·rintro ⟨k,hk,h,_⟩
    have:k=0:=by omega
    subst this;exact h
 | n+1=>by
   rw[upB]
   split
   ·rename_i h0
    simp only[true_iff]
    exact ⟨0,Nat.zero_le _,h0,by omega⟩
   ·rename_i h0
    split
    ·rename_i h1
     subst h1
     simp only[Bool.false_eq_true,false_iff]
     rintro ⟨k,hk,h,h2⟩
     cases k with
     | zero=>exact h0 h
     | succ k=>exact h2 0 (by omega) rfl
    ·rename_i h1
     rw[show (gN l i).par=pf l i from rfl,up_iff n]
     constructor
     ·rintro ⟨k,hk,h,h2⟩
      refine ⟨k+1,by omega,h,fun j hj=>?_⟩
      cases j with
      | zero=>exact h1
      | succ j=>exact h2 j (by omega)
     ·rintro ⟨k,hk,h,h2⟩
      cases k with
      | zero=>exact absurd h h0
      | succ k=>exact ⟨k,by omega,h,fun j hj=>h2 (j+1) (by omega)⟩
theorem up_meets {i top:Int} (hi:inT l i) (ht:top≠0):upB l top l.length i=true↔meets l i top:=by
 rw[up_iff S]
 constructor
 ·rintro ⟨k,_,h,_⟩;exact ⟨k,h⟩
 ·rintro ⟨k,h⟩
  have hz:∀ j,j≤k→upN l j i≠0:=fun j hj h0=>ht (by rw[← h,up_stay S h0 hj])
  refine ⟨k,?_,h,fun j hj=>hz j (by omega)⟩
  refine Classical.byContradiction fun hc=>hz l.length (by omega) (rt_len S hi)
theorem in_iff {top:Int} (ht:top≠0):∀ (n:Nat) {i:Int},inT l i→upN l n i=0→(inN l top (n+1) i=true↔meets l i top)
 | n,i,hi,h0=>by
   rw[inN]
   split
   ·rename_i h1
    simp only[true_iff]
    exact ⟨0,h1⟩
   ·rename_i h1
    split
    ·rename_i h2
     have h3:(l.getD (ndx i l) kBy).par=pf l i:=rfl
     rw[h3]
     have h4:meets l i top↔meets l (pf l i) top:=by
      constructor
      ·rintro ⟨k,h⟩
       cases k with
       | zero=>exact absurd h h1
       | succ k=>exact ⟨k,h⟩
      ·rintro ⟨k,h⟩;exact ⟨k+1,h⟩
     rw[h4]
     cases n with
     | zero =>
       have:i=0:=h0
       subst this
       have:=no_zero S
       simp[hasN]at this
       omega
     | succ n=>exact in_iff ht n (pf_in S) h0
    ·rename_i h2
     have h5:i=0:=by
      rcases hi with h|h
      ·exact h
      ·exact absurd ((qR l i).1 h) h2
     subst h5
     simp only[Bool.false_eq_true,false_iff]
     rintro ⟨k,h⟩
     rw[kDL S]at h
     exact ht h.symm
theorem kBS {i top:Int} (hi:inT l i) (ht:top≠0):kAl l i top=true↔meets l i top:=in_iff S ht l.length hi (rt_len S hi)
theorem kid_some {par:Int} {nm:List UInt8}:∀ {m:List Nd},(∀ x∈m,1≤x.id)→(kid par nm m = -1∨1≤kid par nm m)
 | [],_=>.inl rfl
 | x::m,h=>by
   rw[kid]
   split
   ·exact .inr (h x (List.mem_cons_self ..))
   ·exact kid_some fun y hy=>h y (List.mem_cons_of_mem _ hy)
end
theorem kid_iff {par i:Int} {nm:List UInt8}:∀ {m:List Nd},(∀ x∈m,1≤x.id)→1≤i→kid par nm m=i→∃ x∈m,x.par=par∧x.nm=nm∧x.id=i
 | [],_,h1,h=>by rw [kid] at h;omega
 | x::m,hp,h1,h=>by
   rw[kid]at h
   split at h
   ·rename_i hx
    exact ⟨x,List.mem_cons_self ..,hx.1,hx.2,h⟩
   ·obtain ⟨y,hy,h2⟩:=kid_iff (fun y hy=>hp y (List.mem_cons_of_mem _ hy)) h1 h
    exact ⟨y,List.mem_cons_of_mem _ hy,h2⟩
theorem kDu {par:Int} {nm:List UInt8}:∀ {m:List Nd},(∀ x∈m,1≤x.id)→¬ 1≤kid par nm m→∀ x∈m,¬ (x.par=par∧x.nm=nm)
 | [],_,h,x,hx=>by cases hx
 | y::m,hp,h,x,hx=>by
   rw[kid]at h
   split at h
   ·exact absurd (hp y (List.mem_cons_self ..)) h
   ·rename_i hy
    rcases List.mem_cons.1 hx with rfl|hx
    ·exact hy
    ·exact kDu (fun y hy=>hp y (List.mem_cons_of_mem _ hy)) h x hx
end Go.Proofs
end
-- HTr11
section
namespace Go.Proofs
open Go Go.Rw
set_option maxRecDepth 100000
theorem kDC (a b:List Nd):totN (a++b)=totN a+totN b:=by
 induction a with
 | nil=>simp [totN]
 | cons x a ih=>simp [totN,ih,Nat.add_assoc]
theorem tot_set:∀ (l:List Nd) (i:Nat) (h:i < l.length) (y:Nd),totN (l.set i y)+cnt l[i].text=totN l+cnt y.text
 | [],i,h,y=>by simp at h
 | x::l,0,h,y=>by simp [totN];omega
 | x::l,i+1,h,y=>by
   have:=tot_set l i (by simpa using h) y
   simp[totN];omega
theorem kCR {l:List Nd} {par id:Int} {nm:List UInt8} (h:dirI l par≠0):jT l par nm id=dirI l par:=by
 unfold dirI at h ⊢
 unfold jT
 split
 ·rename_i h0;rw[if_pos h0]at h;exact absurd rfl h
 ·rename_i h0
  rw[if_neg h0]at h
  by_cases h1:hasN l par=true
  ·rw[if_pos h1]at h ⊢
   rw[if_pos ((qR l par).1 h1)]
   split at h
   ·exact absurd rfl h
   ·rename_i h2
    rw[if_neg h2,if_pos (by simpa [gN] using h2)]
  ·rw[if_neg h1,if_neg (fun hc=>h1 ((qR l par).2 hc))]
theorem kC0 {l:List Nd} {par id:Int} {nm:List UInt8} (h:dirI l par=0):jT l par nm id=if par≠0∧id > 0∧kAl l par id=true then 10 else kEk l par nm id:=by
 unfold dirI at h
 unfold jT
 split
 ·rename_i h0;rw[if_neg (fun hc=>hc.1 h0)]
 ·rename_i h0
  rw[if_neg h0]at h
  split at h
  ·rename_i h1
   rw[if_pos ((qR l par).1 h1)]
   split at h
   ·rename_i h2
    rw[if_neg (by rw[show l.getD (ndx par l) kBy=gN l par from rfl,h2];decide)]
    by_cases h3:id > 0∧kAl l par id=true
    ·rw[if_pos h3,if_pos ⟨h0,h3⟩]
    ·rw[if_neg h3,if_neg (fun hc=>h3 hc.2)]
   ·omega
  ·omega
theorem dir_in {l:List Nd} {par:Int} (h:dirI l par=0):inT l par∧(par=0∨(hasN l par=true∧(gN l par).dir=true)):=by
 unfold dirI at h
 split at h
 ·exact ⟨.inl ‹_›,.inl ‹_›⟩
 ·split at h
  ·split at h
   ·exact ⟨.inr ‹_›,.inr ⟨‹_›,‹_›⟩⟩
   ·omega
  ·omega
theorem doN_k1 {l:List Nd} {a:Ac} (hk:a.k=1):doN l a =
    if a.id < 1∨a.id > 1099511627776∨qY a.nm=false then (l,1)
    else if ndx a.id l < l.length then (l,6)
    else if jT l a.par a.nm 0≠0 then (l,jT l a.par a.nm 0)
    else if l.length ≥ 100 then (l,4)
    else (l.take (atN a.id l)++⟨a.id,a.par,a.nm,a.dir,[]⟩::l.drop (atN a.id l),0):=by
 show (if a.k=1 then _ else _)=_
 rw[if_pos hk]
theorem doN_k2 {l:List Nd} {a:Ac} (hk:a.k=2):doN l a =
    if ¬ ndx a.id l < l.length then (l,5)
    else if (l.any fun y=>decide (y.par=a.id))=true then (l,9)
    else (l.take (ndx a.id l)++l.drop (ndx a.id l+1),0):=by
 show (if a.k=1 then _ else _)=_
 rw[if_neg (by omega)]
 show (if a.k=2 then _ else _)=_
 rw[if_pos hk]
theorem doN_k3 {l:List Nd} {a:Ac} (hk:a.k=3):doN l a =
    if qY a.nm=false then (l,1)
    else if ¬ ndx a.id l < l.length then (l,5)
    else if jT l a.par a.nm a.id≠0 then (l,jT l a.par a.nm a.id)
    else (l.set (ndx a.id l) ⟨(gN l a.id).id,a.par,a.nm,(gN l a.id).dir,(gN l a.id).text⟩,0):=by
 show (if a.k=1 then _ else _)=_
 rw[if_neg (by omega)]
 show (if a.k=2 then _ else _)=_
 rw[if_neg (by omega)]
 show (if a.k=3 then _ else _)=_
 rw[if_pos hk]
 rfl
theorem doN_k4 {l:List Nd} {a:Ac} (hk:a.k=4):doN l a =
    if ¬ ndx a.id l < l.length then (l,5)
    else if (gN l a.id).dir=true then (l,8)
    else if errI (gN l a.id).text a.ops≠0 then (l,errI (gN l a.id).text a.ops)
    else if (totN (l.set (ndx a.id l) ⟨(gN l a.id).id,(gN l a.id).par,(gN l a.id).nm,(gN l a.id).dir,z6 (gN l a.id).text a.ops⟩):Int) > 10000 then (l,4)
    else (l.set (ndx a.id l) ⟨(gN l a.id).id,(gN l a.id).par,(gN l a.id).nm,(gN l a.id).dir,z6 (gN l a.id).text a.ops⟩,0):=by
 show (if a.k=1 then _ else _)=_
 rw[if_neg (by omega)]
 show (if a.k=2 then _ else _)=_
 rw[if_neg (by omega)]
 show (if a.k=3 then _ else _)=_
 rw[if_neg (by omega)]
 show (if a.k=4 then _ else _)=_
 rw[if_pos hk]
 rfl
theorem doN_k0 {l:List Nd} {a:Ac} (hk:a.k < 1∨a.k > 4):doN l a=(l,1):=by
 show (if a.k=1 then _ else _)=_
 rw[if_neg (by omega)]
 show (if a.k=2 then _ else _)=_
 rw[if_neg (by omega)]
 show (if a.k=3 then _ else _)=_
 rw[if_neg (by omega)]
 show (if a.k=4 then _ else _)=_
 rw[if_neg (by omega)]
section
variable {l:List Nd} (S:sndN l)
include S
theorem cre_eq {a:Ac} (hk:a.k=1):creN l a=doN l a:=by
 have hp:∀ x∈l,1≤x.id:=fun x hx=>(S.node x hx).id.1
 rw[doN_k1 hk]
 unfold creN
 by_cases h1:a.id < 1∨a.id > 1099511627776∨qY a.nm=false
 ·rw[if_pos h1,if_pos h1]
 rw[if_neg h1,if_neg h1]
 by_cases h2:hasN l a.id=true
 ·rw[if_pos h2,if_pos ((qR l a.id).1 h2)]
 rw[if_neg h2,if_neg (fun hc=>h2 ((qR l a.id).2 hc))]
 by_cases h3:dirI l a.par=0
 case neg=>rw[if_pos h3,kCR h3,if_pos h3]
 rw[if_neg (fun hc=>hc h3),kC0 h3,if_neg (show ¬ (a.par≠0∧(0:Int) > 0∧kAl l a.par 0=true) by omega)]
 unfold kEk
 by_cases h4:0 < kid a.par a.nm l
 ·rw[if_pos h4,if_pos (show (0≤kid a.par a.nm l∧kid a.par a.nm l≠0) by omega)];rfl
 have h5:=kid_some S (par:=a.par) (nm:=a.nm) hp
 rw[if_neg h4,if_neg (show ¬ (0≤kid a.par a.nm l∧kid a.par a.nm l≠0) by omega),if_neg (show ¬ ((0:Int)≠0) by decide)]
 split
 ·rfl
 ·unfold setT
  rw[if_neg h2]
theorem rem_eq {a:Ac} (hk:a.k=2):remN l a.id=doN l a:=by
 rw[doN_k2 hk]
 unfold remN
 by_cases h2:hasN l a.id=true
 case neg =>
  rw[if_pos (show hasN l a.id=false by simpa using h2),if_pos (show ¬ ndx a.id l < l.length from fun hc=>h2 ((qR l a.id).2 hc))]
 rw[if_neg (show ¬ (hasN l a.id=false) by rw[h2];decide),if_neg (show ¬ ¬ ndx a.id l < l.length from fun hc=>hc ((qR l a.id).1 h2))]
 have e:0 < (kept a.id l).length↔(l.any fun y=>decide (y.par=a.id))=true:=by
  unfold kept
  rw[List.length_pos_iff,ne_eq,List.filter_eq_nil_iff,List.any_eq_true]
  simp
 by_cases h3:0 < (kept a.id l).length
 ·rw[if_pos h3,if_pos (e.1 h3)]
 ·rw[if_neg h3,if_neg (fun hc=>h3 (e.2 hc))];rfl
theorem mov_eq {a:Ac} (hk:a.k=3):movN l a=doN l a:=by
 have hp:∀ x∈l,1≤x.id:=fun x hx=>(S.node x hx).id.1
 rw[doN_k3 hk]
 unfold movN
 by_cases h1:qY a.nm=false
 ·rw[if_pos h1,if_pos h1]
 rw[if_neg h1,if_neg h1]
 by_cases h2:hasN l a.id=true
 case neg =>
  rw[if_pos (show hasN l a.id=false by simpa using h2),if_pos (show ¬ ndx a.id l < l.length from fun hc=>h2 ((qR l a.id).2 hc))]
 obtain ⟨h6,h7⟩:=kBl h2
 have h8:=hp _ h6
 rw[h7]at h8
 rw[if_neg (show ¬ (hasN l a.id=false) by rw[h2];decide),if_neg (show ¬ ¬ ndx a.id l < l.length from fun hc=>hc ((qR l a.id).1 h2))]
 by_cases h3:dirI l a.par=0
 case neg=>rw[if_pos h3,kCR h3,if_pos h3]
 rw[if_neg (fun hc=>hc h3),kC0 h3]
 obtain ⟨h9,_⟩:=dir_in h3
 by_cases h4:upB l a.id l.length a.par=true
 ·have h10:=(up_meets S h9 (show a.id≠0 by omega)).1 h4
  have h11:a.par≠0:=by
   rintro h0
   rw[h0]at h10
   obtain ⟨k,hk2⟩:=h10
   rw[kDL S]at hk2;omega
  rw[if_pos h4,if_pos (show a.par≠0∧a.id > 0∧kAl l a.par a.id=true from ⟨h11,by omega,(kBS S h9 (by omega)).2 h10⟩)];rfl
 ·rw[if_neg h4,if_neg (show ¬ (a.par≠0∧a.id > 0∧kAl l a.par a.id=true) from fun hc=>h4 ((up_meets S h9 (show a.id≠0 by omega)).2 ((kBS S h9 (by omega)).1 hc.2.2)))]
  have h5:=kid_some S (par:=a.par) (nm:=a.nm) hp
  unfold kEk
  by_cases h12:0 < kid a.par a.nm l∧kid a.par a.nm l≠a.id
  ·rw[if_pos h12,if_pos (show 0≤kid a.par a.nm l∧kid a.par a.nm l≠a.id from ⟨by omega,h12.2⟩)];rfl
  ·rw[if_neg h12,if_neg (show ¬ (0≤kid a.par a.nm l∧kid a.par a.nm l≠a.id) from fun hc=>h12 ⟨by omega,hc.2⟩),if_neg (show ¬ ((0:Int)≠0) by decide)]
   unfold setT
   rw[if_pos h2]
   show (l.set (ndx a.id l) ⟨a.id,a.par,a.nm,(gN l a.id).dir,(gN l a.id).text⟩,(0:Int))=(l.set (ndx a.id l) ⟨(gN l a.id).id,a.par,a.nm,(gN l a.id).dir,(gN l a.id).text⟩,0)
   rw[h7]
theorem edi_eq {a:Ac} (hk:a.k=4):ediN l a=doN l a:=by
 rw[doN_k4 hk]
 unfold ediN
 by_cases h2:hasN l a.id=true
 case neg =>
  rw[if_pos (show hasN l a.id=false by simpa using h2),if_pos (show ¬ ndx a.id l < l.length from fun hc=>h2 ((qR l a.id).2 hc))]
 have h6:=kBl h2
 rw[if_neg (show ¬ (hasN l a.id=false) by rw[h2];decide),if_neg (show ¬ ¬ ndx a.id l < l.length from fun hc=>hc ((qR l a.id).1 h2))]
 split
 ·rfl
 split
 ·rfl
 obtain ⟨h7,h8,h9⟩:=kCb h2
 have h10:=tot_set l (ndx a.id l) h7 ⟨(gN l a.id).id,(gN l a.id).par,(gN l a.id).nm,(gN l a.id).dir,z6 (gN l a.id).text a.ops⟩
 rw[← h8]at h10
 simp only at h10
 have e:(totN l:Int) - cnt (gN l a.id).text+cnt (z6 (gN l a.id).text a.ops)=(totN (l.set (ndx a.id l) ⟨(gN l a.id).id,(gN l a.id).par,(gN l a.id).nm,(gN l a.id).dir,z6 (gN l a.id).text a.ops⟩):Int):=by omega
 rw[e]
 split
 ·rfl
 ·unfold setT
  rw[if_pos h2]
  show (l.set (ndx a.id l) ⟨a.id,(gN l a.id).par,(gN l a.id).nm,(gN l a.id).dir,z6 (gN l a.id).text a.ops⟩,(0:Int))=(l.set (ndx a.id l) ⟨(gN l a.id).id,(gN l a.id).par,(gN l a.id).nm,(gN l a.id).dir,z6 (gN l a.id).text a.ops⟩,0)
  rw[h6.2]
theorem dot_eq (a:Ac):dotN l a=doN l a:=by
 unfold dotN
 by_cases h:a.k < 1∨a.k > 4
 ·rw[if_pos h,doN_k0 h]
 rw[if_neg h]
 by_cases h1:a.k=1
 ·rw[if_pos h1];exact cre_eq S h1
 rw[if_neg h1]
 by_cases h2:a.k=2
 ·rw[if_pos h2];exact rem_eq S h2
 rw[if_neg h2]
 by_cases h3:a.k=3
 ·rw[if_pos h3];exact mov_eq S h3
 rw[if_neg h3]
 exact edi_eq S (by omega)
end
end Go.Proofs
end
-- HTr12
section
namespace Go.Proofs
open Go Go.Rw
set_option maxRecDepth 100000
theorem done_ok {s:List UInt8} {l:List Cp} (h:errI s l=0):(pts (z6 s l)).isSome=true∧cnt (z6 s l)≤2000:=by
 obtain ⟨h1,h2,h3,h4⟩:=err_zero h
 obtain ⟨c1,c2,c3,c4,c5,c6⟩:=kAI h1
 have hs:(pts s).isSome=true:=by rw[h2];rfl
 have hok:=do_okc l (cpts s) (kBC hs).2 (sound_texts c3)
 have e:z6 s l=encs (doL (cpts s) l):=by unfold z6;rw[if_pos h]
 have ho:=out_do l (cpts s) 0 (by omega) h4 c6
 rw[e]
 refine ⟨by rw[pts_enc hok];rfl,?_⟩
 rw[kC8,cpts_enc hok]
 have c6':outF 0 l≤2000:=c6
 omega
theorem doN_err {l:List Nd} {a:Ac} (h:(doN l a).2≠0):(doN l a).1=l:=by
 by_cases h0:a.k < 1∨a.k > 4
 ·rw[doN_k0 h0]
 rcases (show a.k=1∨a.k=2∨a.k=3∨a.k=4 by omega) with hk|hk|hk|hk
 ·rw[doN_k1 hk]at h ⊢
  repeat' split
  all_goals first|rfl|simp_all
 ·rw[doN_k2 hk]at h ⊢
  repeat' split
  all_goals first|rfl|simp_all
 ·rw[doN_k3 hk]at h ⊢
  repeat' split
  all_goals first|rfl|simp_all
 ·rw[doN_k4 hk]at h ⊢
  repeat' split
  all_goals first|rfl|(exfalso;rename_i q1 q2 q3 q4;rw[if_neg q1,if_neg q2,if_neg q3,if_neg q4]at h;exact h rfl)
theorem kE7 {l l':List Nd} (A:Int→Prop) (h1:∀ i,A i→pf l' i=pf l i) (h2:∀ i,A i→A (pf l i)):∀ (k:Nat) (i:Int),A i→upN l' k i=upN l k i
 | 0,i,_=>rfl
 | k+1,i,h=>by rw [upN,upN,h1 i h];exact kE7 A h1 h2 k _ (h2 i h)
section
variable {l:List Nd} (S:sndN l) {a:Ac} (h0:(doN l a).2=0)
include S h0
theorem do_mem {x:Nd} (hx:x∈(doN l a).1):(x.id=a.id∧kC6 a (atI a.id l)=some x)∨(x∈l∧x.id≠a.id):=by
 obtain ⟨d1,d2⟩:=kFH h0 S.srt
 have:=at_mem d1 hx
 rw[d2]at this
 split at this
 ·rename_i he
  rw[he]at this
  exact .inl ⟨he,this⟩
 ·exact .inr ⟨(at_some this).1,by assumption⟩
theorem do_pf {i:Int} (hi:i≠a.id):gN (doN l a).1 i=gN l i∧hasN (doN l a).1 i=hasN l i:=by
 obtain ⟨d1,d2⟩:=kFH h0 S.srt
 rw[gN_at,gN_at,kBw,kBw,d2,if_neg hi]
 exact ⟨rfl,rfl⟩
theorem snd_cre (hk:a.k=1):sndN (doN l a).1:=by
 obtain ⟨d1,d2⟩:=kFH h0 S.srt
 have dm:=fun x hx=>do_mem S h0 (x:=x) hx
 have dp:=fun i hi=>do_pf S h0 (i:=i) hi
 have hpos:∀ x∈l,1≤x.id:=fun x hx=>(S.node x hx).id.1
 have hst:kC6 a (atI a.id l)=some ⟨a.id,a.par,a.nm,a.dir,[]⟩:=by unfold kC6;rw[if_pos hk]
 have hat:atI a.id (doN l a).1=some ⟨a.id,a.par,a.nm,a.dir,[]⟩:=by rw[d2,if_pos rfl,hst]
 have hdo:=doN_k1 (l:=l) hk
 rw[hdo]at h0
 split at h0
 ·simp at h0
 rename_i c1
 split at h0
 ·simp at h0
 rename_i c2
 split at h0
 ·rename_i c3;exact absurd h0 c3
 rename_i c3
 split at h0
 ·simp at h0
 rename_i c4
 rw[if_neg c1,if_neg c2,if_neg c3,if_neg c4]at hdo
 have c3:jT l a.par a.nm 0=0:=Decidable.not_not.1 c3
 have hno:hasN l a.id=false:=by
  rcases Bool.eq_false_or_eq_true (hasN l a.id) with hh|hh
  ·exact absurd ((qR l a.id).1 hh) c2
  ·exact hh
 have c1a:1≤a.id∧a.id≤1099511627776:=by omega
 have c1b:qY a.nm=true:=by
  rcases Bool.eq_false_or_eq_true (qY a.nm) with hh|hh
  ·exact hh
  ·exact absurd (.inr (.inr hh)) c1
 have hd:dirI l a.par=0:=by
  refine Decidable.not_not.1 fun hc=>?_
  rw[kCR hc]at c3;exact hc c3
 rw[kC0 hd,if_neg (show ¬ (a.par≠0∧(0:Int) > 0∧kAl l a.par 0=true) by omega)]at c3
 have hkid:¬ 1≤kid a.par a.nm l:=fun hc=>by
  unfold kEk at c3
  rw[if_pos (by omega)]at c3;omega
 obtain ⟨hin,hpd⟩:=dir_in hd
 have hinA:∀ i,inT l i→i≠a.id:=fun i hi=>by
  rcases hi with rfl|hi
  ·omega
  ·rintro rfl;rw[hno]at hi;cases hi
 have hup:∀ k i,inT l i→upN (doN l a).1 k i=upN l k i:=fun k i hi=>kE7 (inT l) (fun i hi=>by unfold pf;rw[(dp i (hinA i hi)).1]) (fun i _=>pf_in S) k i hi
 refine ⟨d1,?_,?_,?_,?_,?_,?_⟩
 ·rw[hdo]
  have:=atN_le a.id l
  simp only[List.length_append,List.length_take,List.length_cons,List.length_drop]
  omega
 ·intro x hx
  rcases dm x hx with ⟨_,h⟩|⟨h,_⟩
  ·rw[hst]at h
   cases h
   exact ⟨c1a,c1b,fun _=>rfl,rfl,by simp[kC8,cpts_nil]⟩
  ·exact S.node x h
 ·rw[hdo]
  have e1:=kDC (l.take (atN a.id l)) (l.drop (atN a.id l))
  rw[List.take_append_drop]at e1
  have:=S.tot
  simp only[kDC,totN]
  have e2:cnt ([]:List UInt8)=0:=by simp[kC8,cpts_nil]
  omega
 ·intro x hx y hy hp hn
  rcases dm x hx with ⟨e1,h1⟩|⟨h1,_⟩<;>rcases dm y hy with ⟨e2,h2⟩|⟨h2,_⟩
  ·rw[e1,e2]
  ·rw[hst]at h1;cases h1
   exact absurd ⟨hp.symm,hn.symm⟩ (kDu hpos hkid y h2)
  ·rw[hst]at h2;cases h2
   exact absurd ⟨hp,hn⟩ (kDu hpos hkid x h1)
  ·exact S.sib x h1 y h2 hp hn
 ·intro x hx
  have key:∀ p,(p=0∨(hasN l p=true∧(gN l p).dir=true))→(p=0∨(hasN (doN l a).1 p=true∧(gN (doN l a).1 p).dir=true)):=fun p hp=>by
   rcases hp with hp|⟨h1,h2⟩
   ·exact .inl hp
   ·obtain ⟨q1,q2⟩:=dp p (hinA p (.inr h1))
    rw[q1,q2];exact .inr ⟨h1,h2⟩
  rcases dm x hx with ⟨_,h⟩|⟨h,_⟩
  ·rw[hst]at h;cases h
   exact key _ hpd
  ·exact key _ (S.par x h)
 ·intro x hx
  rcases dm x hx with ⟨e,h⟩|⟨h,_⟩
  ·obtain ⟨k,hk⟩:=rt_in S hin
   refine ⟨k+1,?_⟩
   rw[e,upN]
   have:pf (doN l a).1 a.id=a.par:=by unfold pf;rw[gN_at,hat];rfl
   rw[this,hup k _ hin,hk]
  ·obtain ⟨k,hk⟩:=S.rt x h
   exact ⟨k,by rw[hup k _ (.inr (hasN_mem h)),hk]⟩
theorem snd_rem (hk:a.k=2):sndN (doN l a).1:=by
 obtain ⟨d1,d2⟩:=kFH h0 S.srt
 have dm:=fun x hx=>do_mem S h0 (x:=x) hx
 have dp:=fun i hi=>do_pf S h0 (i:=i) hi
 have hpos:∀ x∈l,1≤x.id:=fun x hx=>(S.node x hx).id.1
 have hst:kC6 a (atI a.id l)=none:=by unfold kC6;rw[if_neg (by omega),if_pos hk]
 have hdo:=doN_k2 (l:=l) hk
 rw[hdo]at h0
 split at h0
 ·simp at h0
 rename_i c1
 split at h0
 ·simp at h0
 rename_i c2
 rw[if_neg c1,if_neg c2]at hdo
 have c1:=Decidable.not_not.1 c1
 obtain ⟨g1,g2⟩:=kBl ((qR l a.id).2 c1)
 have hid:=hpos _ g1
 rw[g2]at hid
 have hnp:∀ x∈l,x.par≠a.id:=fun x hx he=>c2 (List.any_eq_true.2 ⟨x,hx,by simpa using he⟩)
 have dm2:∀ x∈(doN l a).1,x∈l∧x.id≠a.id:=fun x hx=>by
  rcases dm x hx with ⟨_,h⟩|h
  ·rw[hst]at h;cases h
  ·exact h
 have hup:∀ k i,i≠a.id→upN (doN l a).1 k i=upN l k i:=fun k i hi=>kE7 (fun i=>i≠a.id) (fun i hi=>by unfold pf;rw[(dp i hi).1]) (fun i _=>by
  rcases Bool.eq_false_or_eq_true (hasN l i) with hh|hh
  ·exact hnp _ (kBl hh).1
  ·rw[pf_no hh];omega) k i hi
 refine ⟨d1,?_,fun x hx=>S.node x (dm2 x hx).1,?_,fun x hx y hy=>S.sib x (dm2 x hx).1 y (dm2 y hy).1,?_,?_⟩
 ·rw[hdo]
  have:=S.len
  simp only[List.length_append,List.length_take,List.length_drop]
  omega
 ·rw[hdo]
  have e1:=kDC (l.take (ndx a.id l)) (l.drop (ndx a.id l))
  rw[List.take_append_drop,List.drop_eq_getElem_cons c1,totN]at e1
  have:=S.tot
  simp only[kDC]
  omega
 ·intro x hx
  have hx2:=(dm2 x hx).1
  rcases S.par x hx2 with hp|⟨h1,h2⟩
  ·exact .inl hp
  ·obtain ⟨q1,q2⟩:=dp _ (hnp x hx2)
   rw[q1,q2];exact .inr ⟨h1,h2⟩
 ·intro x hx
  obtain ⟨h1,h2⟩:=dm2 x hx
  obtain ⟨k,hk⟩:=S.rt x h1
  exact ⟨k,by rw[hup k _ h2,hk]⟩
theorem snd_mov (hk:a.k=3):sndN (doN l a).1:=by
 obtain ⟨d1,d2⟩:=kFH h0 S.srt
 have dm:=fun x hx=>do_mem S h0 (x:=x) hx
 have dp:=fun i hi=>do_pf S h0 (i:=i) hi
 have hpos:∀ x∈l,1≤x.id:=fun x hx=>(S.node x hx).id.1
 have hdo:=doN_k3 (l:=l) hk
 rw[hdo]at h0
 split at h0
 ·simp at h0
 rename_i c1
 split at h0
 ·simp at h0
 rename_i c2
 split at h0
 ·rename_i c3;exact absurd h0 c3
 rename_i c3
 rw[if_neg c1,if_neg c2,if_neg c3]at hdo
 have c3:jT l a.par a.nm a.id=0:=Decidable.not_not.1 c3
 have c2:=Decidable.not_not.1 c2
 have c2h:=(qR l a.id).2 c2
 have c1b:qY a.nm=true:=by
  rcases Bool.eq_false_or_eq_true (qY a.nm) with hh|hh
  ·exact hh
  ·exact absurd hh c1
 obtain ⟨g1,g2⟩:=kBl c2h
 have hid:=hpos _ g1
 rw[g2]at hid
 have hat0:atI a.id l=some (gN l a.id):=by have:=at_mem S.srt g1;rwa [g2]at this
 have hst:kC6 a (atI a.id l)=some ⟨(gN l a.id).id,a.par,a.nm,(gN l a.id).dir,(gN l a.id).text⟩:=by
  unfold kC6;rw[if_neg (by omega),if_neg (by omega),if_pos hk,hat0];rfl
 have hat:atI a.id (doN l a).1=some ⟨(gN l a.id).id,a.par,a.nm,(gN l a.id).dir,(gN l a.id).text⟩:=by rw[d2,if_pos rfl,hst]
 have hd:dirI l a.par=0:=by
  refine Decidable.not_not.1 fun hc=>?_
  rw[kCR hc]at c3;exact hc c3
 obtain ⟨hin,hpd⟩:=dir_in hd
 rw[kC0 hd]at c3
 have hcy:¬ (a.par≠0∧a.id > 0∧kAl l a.par a.id=true):=fun hc=>by rw[if_pos hc]at c3;omega
 rw[if_neg hcy]at c3
 have hkid:1≤kid a.par a.nm l→kid a.par a.nm l=a.id:=fun hc=>by
  unfold kEk at c3
  refine Decidable.not_not.1 fun hne=>?_
  rw[if_pos ⟨by omega,hne⟩]at c3;omega
 have hnm:∀ k,upN l k a.par≠a.id:=fun k hc=>by
  by_cases hp0:a.par=0
  ·rw[hp0,kDL S]at hc;omega
  ·exact hcy ⟨hp0,by omega,(kBS S hin (by omega)).2 ⟨k,hc⟩⟩
 have dh:∀ i,hasN (doN l a).1 i=hasN l i∧(gN (doN l a).1 i).dir=(gN l i).dir:=fun i=>by
  by_cases hi:i=a.id
  ·rw[hi,kBw,kBw,gN_at,hat,hat0]
   exact ⟨rfl,rfl⟩
  ·obtain ⟨q1,q2⟩:=dp i hi
   rw[q1,q2];exact ⟨rfl,rfl⟩
 have hpf:pf (doN l a).1 a.id=a.par:=by unfold pf;rw[gN_at,hat];rfl
 -- from the new parent on the way is as it was
 have hup:∀ k,upN (doN l a).1 k a.par=upN l k a.par:=fun k =>
  kE7 (fun i=>∃ j,i=upN l j a.par) (fun i hi=>by
   obtain ⟨j,rfl⟩:=hi
   unfold pf;rw[(dp _ (hnm j)).1]) (fun i hi=>by
   obtain ⟨j,rfl⟩:=hi
   exact ⟨j+1,(up_succ l j a.par).symm⟩) k a.par ⟨0,rfl⟩
 have hrt:∀ k i,upN l k i=0→∃ k',upN (doN l a).1 k' i=0:=fun k=>by
  induction k with
  | zero=>intro i hi;exact ⟨0,hi⟩
  | succ k ih =>
    intro i hi
    by_cases he:i=a.id
    ·obtain ⟨m,hm⟩:=rt_in S hin
     exact ⟨m+1,by rw[he,upN,hpf,hup,hm]⟩
    ·obtain ⟨m,hm⟩:=ih (pf l i) hi
     exact ⟨m+1,by rw[upN];unfold pf at hm ⊢;rw[(dp i he).1];exact hm⟩
 refine ⟨d1,?_,?_,?_,?_,?_,?_⟩
 ·rw[hdo]
  have:=S.len
  simpa using this
 ·intro x hx
  rcases dm x hx with ⟨_,h⟩|⟨h,_⟩
  ·rw[hst]at h;cases h
   have:=S.node _ g1
   exact ⟨this.id,c1b,this.dir,this.valid,this.cnt⟩
  ·exact S.node x h
 ·rw[hdo]
  have:=tot_set l (ndx a.id l) c2 ⟨(gN l a.id).id,a.par,a.nm,(gN l a.id).dir,(gN l a.id).text⟩
  obtain ⟨_,g4,_⟩:=kCb c2h
  rw[← g4]at this
  have:=S.tot
  simp only at *
  omega
 ·have key:∀ y∈l,y.id≠a.id→¬ (y.par=a.par∧y.nm=a.nm):=fun y hy hne hc=>by
    by_cases hk1:1≤kid a.par a.nm l
    ·obtain ⟨x,hx,h1,h2,h3⟩:=kid_iff hpos hid (hkid hk1)
     have:=S.sib x hx y hy (h1.trans hc.1.symm) (h2.trans hc.2.symm)
     omega
    ·exact kDu hpos hk1 y hy hc
  intro x hx y hy hp hn
  rcases dm x hx with ⟨e1,h1⟩|⟨h1,n1⟩<;>rcases dm y hy with ⟨e2,h2⟩|⟨h2,n2⟩
  ·rw[e1,e2]
  ·rw[hst]at h1;cases h1
   exact absurd ⟨hp.symm,hn.symm⟩ (key y h2 n2)
  ·rw[hst]at h2;cases h2
   exact absurd ⟨hp,hn⟩ (key x h1 n1)
  ·exact S.sib x h1 y h2 hp hn
 ·intro x hx
  have k2:∀ p,(p=0∨(hasN l p=true∧(gN l p).dir=true))→(p=0∨(hasN (doN l a).1 p=true∧(gN (doN l a).1 p).dir=true)):=fun p hp=>by
   rw[(dh p).1,(dh p).2];exact hp
  rcases dm x hx with ⟨_,h⟩|⟨h,_⟩
  ·rw[hst]at h;cases h
   exact k2 _ hpd
  ·exact k2 _ (S.par x h)
 ·intro x hx
  rcases dm x hx with ⟨e,_⟩|⟨h,_⟩
  ·obtain ⟨m,hm⟩:=rt_in S hin
   exact ⟨m+1,by rw[e,upN,hpf,hup,hm]⟩
  ·obtain ⟨k,hk⟩:=S.rt x h
   exact hrt k _ hk
theorem snd_edi (hk:a.k=4):sndN (doN l a).1:=by
 obtain ⟨d1,d2⟩:=kFH h0 S.srt
 have dm:=fun x hx=>do_mem S h0 (x:=x) hx
 have dp:=fun i hi=>do_pf S h0 (i:=i) hi
 have hdo:=doN_k4 (l:=l) hk
 rw[hdo]at h0
 split at h0
 ·simp at h0
 rename_i c1
 split at h0
 ·simp at h0
 rename_i c2
 split at h0
 ·rename_i c3;exact absurd h0 c3
 rename_i c3
 split at h0
 ·simp at h0
 rename_i c4
 rw[if_neg c1,if_neg c2,if_neg c3,if_neg c4]at hdo
 have c1:=Decidable.not_not.1 c1
 have c1h:=(qR l a.id).2 c1
 obtain ⟨v1,v2⟩:=done_ok (Decidable.not_not.1 c3)
 obtain ⟨g1,g2⟩:=kBl c1h
 have hat0:atI a.id l=some (gN l a.id):=by have:=at_mem S.srt g1;rwa [g2]at this
 have hst:kC6 a (atI a.id l)=some ⟨(gN l a.id).id,(gN l a.id).par,(gN l a.id).nm,(gN l a.id).dir,z6 (gN l a.id).text a.ops⟩:=by
  unfold kC6;rw[if_neg (by omega),if_neg (by omega),if_neg (by omega),hat0];rfl
 have hat:atI a.id (doN l a).1=some ⟨(gN l a.id).id,(gN l a.id).par,(gN l a.id).nm,(gN l a.id).dir,z6 (gN l a.id).text a.ops⟩:=by rw[d2,if_pos rfl,hst]
 have dh:∀ i,hasN (doN l a).1 i=hasN l i∧(gN (doN l a).1 i).dir=(gN l i).dir∧(gN (doN l a).1 i).par=(gN l i).par:=fun i=>by
  by_cases hi:i=a.id
  ·rw[hi,kBw,kBw,gN_at,hat,hat0]
   exact ⟨rfl,rfl,rfl⟩
  ·obtain ⟨q1,q2⟩:=dp i hi
   rw[q1,q2];exact ⟨rfl,rfl,rfl⟩
 have hup:∀ k i,upN (doN l a).1 k i=upN l k i:=fun k i=>kE7 (fun _=>True) (fun i _=>(dh i).2.2) (fun _ _=>trivial) k i trivial
 -- each node's like in the tree as it was
 have like:∀ x∈(doN l a).1,∃ y∈l,y.id=x.id∧y.par=x.par∧y.nm=x.nm∧y.dir=x.dir:=fun x hx=>by
  rcases dm x hx with ⟨_,h⟩|⟨h,_⟩
  ·rw[hst]at h;cases h
   exact ⟨_,g1,rfl,rfl,rfl,rfl⟩
  ·exact ⟨x,h,rfl,rfl,rfl,rfl⟩
 refine ⟨d1,?_,?_,?_,?_,?_,?_⟩
 ·rw[hdo]
  have:=S.len
  simpa using this
 ·intro x hx
  rcases dm x hx with ⟨_,h⟩|⟨h,_⟩
  ·rw[hst]at h;cases h
   have:=S.node _ g1
   exact ⟨this.id,this.nm,fun hd=>absurd hd c2,v1,v2⟩
  ·exact S.node x h
 ·rw[hdo];simp only;omega
 ·intro x hx y hy hp hn
  obtain ⟨x',hx',e1,e2,e3,_⟩:=like x hx
  obtain ⟨y',hy',e5,e6,e7,_⟩:=like y hy
  rw[← e1,← e5]
  exact S.sib x' hx' y' hy' (by rw[e2,e6,hp]) (by rw[e3,e7,hn])
 ·intro x hx
  obtain ⟨x',hx',e1,e2,e3,_⟩:=like x hx
  rw[← e2,(dh _).1,(dh _).2.1]
  exact S.par x' hx'
 ·intro x hx
  obtain ⟨x',hx',e1,_⟩:=like x hx
  obtain ⟨k,hk⟩:=S.rt x' hx'
  exact ⟨k,by rw[hup,← e1,hk]⟩
omit h0 in
theorem snd_do (a:Ac):sndN (doN l a).1:=by
 by_cases h0:(doN l a).2=0
 ·by_cases hk:a.k < 1∨a.k > 4
  ·rw[doN_k0 hk];exact S
  rcases (show a.k=1∨a.k=2∨a.k=3∨a.k=4 by omega) with hk|hk|hk|hk
  ·exact snd_cre S h0 hk
  ·exact snd_rem S h0 hk
  ·exact snd_mov S h0 hk
  ·exact snd_edi S h0 hk
 ·rw[doN_err h0];exact S
end
end Go.Proofs
end
-- HTr13
section
namespace Go.Proofs
open Go Go.Rw
set_option maxRecDepth 100000
theorem valid_len {t:List UInt8} (h:(pts t).isSome=true):t.length≤4 * cnt t:=by
 rw[kC8]
 have:=kE6 (cs:=cpts t)
 rwa [(kBC h).1]at this
theorem snd_ok {l:List Nd} (S:sndN l):trOk l:=by
 have hl:=S.len
 refine ⟨⟨by omega,fun x hx=>?_⟩,fun x hx=>(S.node x hx).id.1,?_,fun x hx=>?_⟩
 ·have:=(S.node x hx).id;omega
 ·have:=S.tot;omega
 ·have:=valid_len (S.node x hx).valid
  have:=(S.node x hx).cnt;omega
theorem snd_doOk {l:List Nd} (S:sndN l) {a:Ac} (ho:okA a):doOk l a:=⟨snd_ok S,snd_rt S,ho.2,ho.1⟩
def txnP (s:TS) (l:List Ac) (objs:List AO) (lvs:List (Nat×Nat)) (r:AV):Prop :=
 lvs=[]∧((allN s.l l).e=0∧(∃ s':TS,s'.l=(allN s.l l).now∧sndN s'.l∧objs=tsO (some s)++[.cells [.mp 3],.map s'.es s'.cl])∧r = .tup [.ptr 2 0,.v (.int .i64 (allN s.l l).n),.v (.int .i64 0)] ∨
  (allN s.l l).e≠0∧objs=tsO (some s)∧r = .tup [.v (.pointer none),.v (.int .i64 (allN s.l l).n),.v (.int .i64 (allN s.l l).e)])
abbrev ttxnCon:ConO where
 ι:={ p:TS×List Ac // sndN p.1.l∧p.2.length≤1000000∧∀ a∈p.2,okA a }
 objs:=fun p=>tsO (some p.1.1)
 args:=fun p=>[.ptr 0 0,.sl 0 6 (acts p.1.2)]
 post:=fun p=>txnP p.1.1 p.1.2
theorem allF_cons (t:List Nd) (a:Ac) (r:List Ac) (n:Nat):allF t (a::r) n=if (doN t a).2≠0 then ⟨[],n,(doN t a).2⟩ else allF (doN t a).1 r (n+1):=rfl
set_option maxHeartbeats 2000000 in
theorem ttxn_good:jX Tryz.prog 30 ttxnCon:=by
 have hΓ:kM Tryz.prog [(56,kCX)]:=(kJ tcheck_good kL)
 refine qQ (nn:=33) Tryz.func30 (by kernel_rfl) rfl (show Tryz.f30.results.toList=[.tmp 4,.tmp 5,.tmp 6] from rfl) (fun _=>rfl) ?_
 rintro ⟨⟨s,l⟩,hS,hl,ho⟩
 simp only at hS hl ho
 refine qN hΓ (Ws:=[]) _ ?_
 simp only[aR,seval,kA,kB,kF]
 refine vcM_sc ?_
 refine vc_scopeM [] hΓ 1 ?_
 simp only[aR,seval,kA,kB,kF]
 (repeat (with_reducible refine And.intro ?_ ?_;focus (first|omega|exact kE|kernel_rfl)))
 refine call_tcheck (by simp[kG]) rfl hl ho ?_
 by_cases hc:txnE l=0
 case neg =>
  have e0:allN s.l l=⟨[],-1,txnE l⟩:=by unfold allN;rw[if_pos hc]
  simp only[aR,seval,kA,kB,kF,hc]
  (repeat (with_reducible refine And.intro ?_ ?_;focus (first|omega|exact kE|kernel_rfl)))
  refine kV [0,1] [] (tsO (some s)) [] (.tup [.v (.pointer none),.v (.int .i64 (-1)),.v (.int .i64 (txnE l))]) ⟨rfl,.inr ⟨by rw[e0];exact hc,rfl,by rw[e0]⟩⟩ ?_
  simp only[aR,seval,kA,kB,kF]<;>((repeat' apply And.intro)<;>first|rfl|omega|trivial)
 have e0:allN s.l l=allF s.l l 0:=by unfold allN;rw[if_neg (fun hh=>hh hc)]
 simp only[aR,seval,kA,kB,kF,hc]
 (repeat (with_reducible refine And.intro ?_ ?_;focus (first|omega|exact kE|kernel_rfl)))
 refine kDH (s:=s) (o:=0) (ob:=1) (by simp[kG,kN]) (by simp[qI]) ?_
 simp only[aR,seval,kA,kB,kF,qF]
 (repeat (with_reducible refine And.intro ?_ ?_;focus (first|omega|exact kE|kernel_rfl)))
 obtain ⟨St,hSt⟩:∃ St:{ p:Nat×TS // p.1≤l.length∧sndN p.2.l∧allF s.l l 0=allF p.2.l (l.drop p.1) p.1 }→AS,∀ p,St p=AS.ofH 33 [(1,.sl 0 6 (acts l)),(4,.ptr 2 0),(15,.v (.int .i64 l.length)),(16,.v (.int .i64 p.1.1))] [(0,.ptr 0 0),(1,.mp 1)] (tsO (some s)++[.cells [.mp 3],.map p.1.2.es p.1.2.cl]) []:=⟨_,fun _=>rfl⟩
 refine kBm ?_
 refine jK [] hΓ St (fun p=>l.length - p.1.1) ⟨(0,s),by omega,hS,rfl⟩ (by rw[hSt];refine k5 [0,1,2,3] [] ?_;simp only[aR,seval,kA,kB,kF,qF,List.cons_append,List.nil_append]<;>((repeat' apply And.intro)<;>first|rfl|omega|trivial)) ?_
 rintro ⟨⟨i,s'⟩,hi,hS',hf⟩
 simp only at hi hS' hf
 rw[hSt]
 simp only
 simp only[aR,seval,kA,kB,kF,qF,List.cons_append,List.nil_append]
 (with_reducible first|refine kD (fun h=>?_) (fun h=>?_)|refine kH (fun h=>?_) (fun h=>?_))
 ·have hlt:i < l.length:=by omega
  have e1:=kAy l hlt
  have hoa:=ho l[i] (List.getElem_mem hlt)
  rw[List.drop_eq_getElem_cons hlt,allF_cons]at hf
  generalize l[i]=a at *
  simp only[aR,seval,kA,kB,kF,h,e1,qF,aA]
  (repeat (with_reducible refine And.intro ?_ ?_;focus (first|omega|exact kE|kernel_rfl)))
  refine kC2 (s:=s') (o:=2) (ob:=3) (q:=dotN s'.l a) tdo_good (by simp[kG,kN]) ⟨(s',a),snd_doOk hS' hoa⟩ rfl (by simp[qI]) (by simp[dnL,dn,aA]) (by simp[AV.tagsL,AV.tags]) (fun _ _ _ hp=>hp) ?_
  rw[dot_eq hS']
  intro s'' hs
  have hS2:sndN s''.l:=by rw[hs];exact snd_do hS' a
  by_cases he:(doN s'.l a).2=0
  ·rw[if_neg (fun hh=>hh he),← hs]at hf
   simp only[aR,seval,kA,kB,kF,he,kC (n:=(i:Int)+1) (by omega) (by omega)]
   (repeat (with_reducible refine And.intro ?_ ?_;focus (first|omega|exact kE|kernel_rfl)))
   refine kO ⟨(i+1,s''),by simp only;omega,hS2,hf⟩ (by simp only;omega) ?_
   rw[hSt];refine k5 [0,1,2,3] [] ?_
   simp only[aR,seval,kA,kB,kF,List.cons_append,List.nil_append]<;>((repeat' apply And.intro)<;>first|rfl|omega|trivial)
  ·rw[if_pos he,← e0]at hf
   simp only[aR,seval,kA,kB,kF,he]
   (repeat (with_reducible refine And.intro ?_ ?_;focus (first|omega|exact kE|kernel_rfl)))
   refine ⟨_,rfl,?_⟩
   simp only[aR,seval,kA,kB,kF,he]
   (repeat (with_reducible refine And.intro ?_ ?_;focus (first|omega|exact kE|kernel_rfl)))
   refine kV [0,1] [] (tsO (some s)) [] (.tup [.v (.pointer none),.v (.int .i64 i),.v (.int .i64 (doN s'.l a).2)]) ⟨rfl,.inr ⟨by rw[hf];exact he,rfl,by rw[hf]⟩⟩ ?_
   simp only[aR,seval,kA,kB,kF]<;>((repeat' apply And.intro)<;>first|rfl|omega|trivial)
 ·have hi2:i=l.length:=by omega
  subst hi2
  rw[List.drop_length,allF,← e0]at hf
  simp only[aR,seval,kA,kB,kF,h,qF]
  (repeat (with_reducible refine And.intro ?_ ?_;focus (first|omega|exact kE|kernel_rfl)))
  refine kV [0,1,2,3] [] (tsO (some s)++[.cells [.mp 3],.map s'.es s'.cl]) [] (.tup [.ptr 2 0,.v (.int .i64 l.length),.v (.int .i64 0)]) ⟨rfl,.inl ⟨by rw[hf],⟨s',by rw[hf],hS',rfl⟩,by rw[hf]⟩⟩ ?_
  simp only[aR,seval,kA,kB,kF,List.cons_append,List.nil_append]<;>((repeat' apply And.intro)<;>first|rfl|omega|trivial)
end Go.Proofs
end
-- HTr14
section
namespace Go.Proofs
open Go Go.Rw
set_option maxRecDepth 100000
structure CI where
 es:Array MapEntry
 cl:Nat
 ps:List (Int×Value)
 h:MapG es cl ps
 v:∀ p∈ps,∃ c,p.2 = .int .i64 c
 b:∀ p∈ps,-9223372036854775808≤p.1∧p.1≤9223372036854775807
end Go.Proofs
end
-- HTr15
section
namespace Go.Proofs
open Go Go.Rw
set_option maxRecDepth 100000
def ts0:TS:=⟨#[],0,[],tm_empty⟩
section
variable {Γ:Env} {n:Nat} {t:Nat→AV} {hd:Nat→Nat→AV} {d:Option Nat} {K:AS→Prop}
variable {nh nl:Nat} {h:Nat→Option AO} {fm:Nat→Nat} {lv:Nat→Option (Nat×Nat)} {mu:Bool}
theorem call_tnew (hC:Γ.get 9=none)
    (hk:cont ⟨n,t,hd,⟨nh+2,upd (upd h nh (some (.cells [.mp (nh+1)]))) (nh+1) (some (.map #[] 0)),nl,fm,lv,mu⟩⟩ d (.ptr nh 0) K):kP Tryz.prog Γ false ⟨n,t,hd,⟨nh,h,nl,fm,lv,mu⟩⟩ 9 [] d K:=by
 refine vc_obj tnew_good hC () [] ⟨by simp,by simp[dnL],by simp[dnOs],rfl,rfl⟩ ?_
 rintro objs lvs r ⟨rfl,rfl,rfl⟩ hl
 have e3:[AO.cells [.mp 1],.map #[] 0].length - ([]:List Nat).length=2:=rfl
 rw[e3]
 simp only[j1,kAa,j4,kBa,kA1,kB6,kFW,kB2,kBU,kDO,j5,kAf,kAd,kAc,kA5,kEJ,List.length_nil,Nat.add_zero]
 exact hk
theorem call_ttxn (hC:Γ.get 30=none) {s:TS} {l:List Ac} (hS:sndN s.l) (hl:l.length≤1000000) (ho:∀ a∈l,okA a) {o ob:Nat} (hT:qI h o ob s) {lt:Nat}
    (hk1:(allN s.l l).e=0→∀ s':TS,s'.l=(allN s.l l).now→sndN s'.l→cont ⟨n,t,hd,⟨nh+2,upd (upd h nh (some (.cells [.mp (nh+1)]))) (nh+1) (some (.map s'.es s'.cl)),nl,fm,kill fm (AV.tagsL [.ptr o 0,.sl lt 6 (acts l)]) lv,mu⟩⟩ d (.tup [.ptr nh 0,.v (.int .i64 (allN s.l l).n),.v (.int .i64 0)]) K)
    (hk2:(allN s.l l).e≠0→cont ⟨n,t,hd,⟨nh,h,nl,fm,kill fm (AV.tagsL [.ptr o 0,.sl lt 6 (acts l)]) lv,mu⟩⟩ d (.tup [.v (.pointer none),.v (.int .i64 (allN s.l l).n),.v (.int .i64 (allN s.l l).e)]) K) :
    kP Tryz.prog Γ false ⟨n,t,hd,⟨nh,h,nl,fm,lv,mu⟩⟩ 30 [.ptr o 0,.sl lt 6 (acts l)] d K:=by
 obtain ⟨h1,h2,h3⟩:=hT
 have e1:upd h o (some (.cells [.mp ob]))=h:=kD0 h1
 have e2:upd h ob (some (.map s.es s.cl))=h:=kD0 h2
 have et:kA8 h [o,ob]=[]:=by simp[kAH,kA7,h1,h2,kFO,AO.tags,AV.tagsL,AV.tags]
 refine vcCall_objK ttxn_good hC ⟨(s,l),hS,hl,ho⟩ [o,ob] ⟨by simp[h3],by simp[dnL,dn],?_⟩ ?_
 ·simp only[tsO,kBF,kCf,h1,h2,kAg,kC3,kCF,kEd,dn_mp]
  simp
 ·intro objs lvs r hp hl
  show cont ⟨n,t,hd,AM.call ⟨nh,h,nl,fm,kill fm (AV.tagsL [.ptr o 0,.sl lt 6 (acts l)]++kA8 h [o,ob]) lv,mu⟩ [o,ob] objs lvs⟩ d _ K
  rw[et,List.append_nil]
  obtain ⟨rfl,hp⟩:=hp
  rcases hp with ⟨he,⟨s',h4,h5,rfl⟩,rfl⟩|⟨he,rfl,rfl⟩
  ·have:=hk1 he s' h4 h5
   rw[AMcall_eq]
   have e3:(tsO (some s)++[AO.cells [.mp 3],.map s'.es s'.cl]).length - [o,ob].length=2:=rfl
   rw[e3]
   simp only[tsO,List.cons_append,List.nil_append,j1,kAa,j4,kBa,kA1,kB6,kFW,kB2,kBU,kDO,j5,kAf,kAd,kAc,kA5,kEJ,emb_tup,emb_v,List.length_nil,Nat.add_zero,e1,e2]
   exact this
  ·have:=hk2 he
   rw[AMcall_eq]
   have e3:(tsO (some s)).length - [o,ob].length=0:=rfl
   rw[e3]
   simp only[tsO,List.cons_append,List.nil_append,j1,kAa,j4,kBa,kA1,kB6,kFW,kB2,kBU,kDO,j5,kAf,kAd,kAc,kA5,kEJ,emb_tup,emb_v,List.length_nil,Nat.add_zero,e1,e2]
   exact this
end
abbrev kDz:Con where
 ι:=Unit
 args:=fun _=>[]
 post:=fun _ r=>r = .v (.bool true)
end Go.Proofs
end
-- HUk9s
section
namespace Go.Proofs
open Go Go.Rw
set_option maxRecDepth 100000
end Go.Proofs
end
-- HUk9t
section
namespace Go.Proofs
open Go Go.Rw
set_option maxRecDepth 100000
end Go.Proofs
end
-- HUk10
section
namespace Go.Proofs
open Go Go.Rw
set_option maxRecDepth 100000
end Go.Proofs
end
-- HTr16
section
namespace Go.Proofs
open Go Go.Rw
set_option maxRecDepth 100000
end Go.Proofs
end
