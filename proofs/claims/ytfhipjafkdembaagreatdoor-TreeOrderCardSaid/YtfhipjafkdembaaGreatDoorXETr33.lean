/-
 law13: what the document fixes;TreeLoads answers true. Paths and children of a qM tree: what TreeOrder asks. Plain. TreeOrder answers true. Acts,and what was done,given: opened. A transaction behind commits. How much a message is,where it bears commits alone. A tree given,commits given: opened. From the laws' functions to their rows: the tables as they are laid;a world for the witness.
-/
import Derived.Test.YtfhipjafkdembaaGreatDoorXETr20
import Derived.Test.YtfhipjafkdembaaGreatDoorXEUk1
import Derived.Test.YtfhipjafkdembaaGreatDoorRwI
import Derived.Test.YtfhipjafkdembaaGreatDoorXESh
import Derived.Test.YtfhipjafkdembaaGreatDoorRwG
import Derived.Test.YtfhipjafkdembaaGreatDoorCards
import Derived.Test.YtfhipjafkdembaaGreatDoorTie
import Derived.Lib.LaidIn
import Derived.Lib.LaidU8T
import Derived.Deep.DeepHandedRow
import Derived.Deep.DeepWitnessRowRef
import Derived.ProofKit
import Derived.OpenShut
import Derived.SizedLaws
import Derived.SevenTiedAt
set_option linter.unusedSimpArgs false
set_option linter.unusedVariables false
set_option linter.defProp false
set_option linter.unusedSectionVars false

-- ETr33
section
namespace Go.Proofs
open Go Go.Rw
set_option maxRecDepth 100000
abbrev kBi:Con where
 ι:=GivenN×GivenA
 args:=fun p=>[.sl 0 5 (kZ p.1.1),.sl 0 6 (acts p.2.1)]
 post:=fun p r=>r = .v (.bool (kEk p.1.1 p.2.1))
 plain:=true
theorem small13_good:Rw.Good Tryz.prog 13 kBi:=by
 have hΓ:kM Tryz.prog [(49,kCI),(50,actsCon)]:=(kI wnodes_good (kI acts_good kK))
 refine k6 (nn:=18) hΓ Tryz.func13 (by kernel_rfl) rfl (show Tryz.f13.results.toList=[.tmp 4] from rfl) (fun _=>rfl) (fun x=>by simp[AV.erL,AV.er,kAu,acts_er]) ?_
 rintro ⟨⟨t,ht,htc⟩,⟨l,hl,hlc⟩⟩
 simp only[aR,seval]
 refine call_wnodes (by simp[kH]) rfl ht htc (by omega) ?_
 by_cases h1:nF 4000 0 t≤4000
 case neg=>simp only[aR,seval,h1,kEk,false_and]
 simp only[aR,seval,h1]
 refine call_acts (by simp[kH]) rfl hl hlc (by omega) ?_
 by_cases h2:wF 4000 0 (wA l)≤4000
 case neg=>simp only[aR,seval,h1,h2,kEk,false_and,true_and]
 simp only[aR,seval,h1,h2,kDr]
 unfold kEk
 exact decide_eq_decide.2 ⟨fun h=>⟨h1,h2,by omega⟩,fun h=>by omega⟩
theorem call_small13 {Γ:Env} (hf:Γ.get 13=some kBi) {σ:AS} {dr:Bool} {t:List Nd} {l:List Ac} {xs ys:List AV} {t1 t2:Nat} {d:Option Nat} {K:AS→Prop} (hx:xs=kZ t) (hy:ys=acts l) (h1:t.length≤9223372036854775807) (h2:∀ a∈t,a.nm.length≤9223372036854775807∧a.text.length≤9223372036854775807) (h3:l.length≤9223372036854775807) (h4:∀ a∈l,a.nm.length≤9223372036854775807∧wideC a.ops)
    (hk:cont σ d (.v (.bool (kEk t l))) K):kT Tryz.prog Γ dr σ 13 [.sl t1 5 xs,.sl t2 6 ys] d K:=by
 subst hx hy
 exact kP (C:=kBi) (i:=(⟨t,h1,h2⟩,⟨l,h3,h4⟩)) hf rfl rfl rfl (by simp[AV.erL,AV.er]) (fun _ h=>h) rfl hk
section
variable {Γ:Env} {n:Nat} {t:Nat→AV} {hd:Nat→Nat→AV} {d:Option Nat} {K:AS→Prop} {nh nl:Nat} {h:Nat→Option AO} {fm:Nat→Nat} {lv:Nat→Option (Nat×Nat)} {mu:Bool}
theorem call_tload0 (hC:Γ.get 15=none) {l:List Nd} (hl:l.length≤1000000) (ht:∀ x∈l,x.nm.length≤1099511627776∧x.text.length≤1099511627776) {lt:Nat} (hS:¬ sndN l)
    (hk2:cont ⟨n,t,hd,⟨nh,h,nl,fm,kill fm (AV.tagsL [.sl lt 5 (kZ l)]) lv,mu⟩⟩ d (.tup [.v (.pointer none),.v (.int .i64 1)]) K):kT Tryz.prog Γ false ⟨n,t,hd,⟨nh,h,nl,fm,lv,mu⟩⟩ 15 [.sl lt 5 (kZ l)] d K:=by
 refine vcCall_objK kF5 hC ⟨l,hl,ht⟩ [] ⟨by simp,by simp[dnL,dn],by simp[dnOs]⟩ ?_
 rintro objs lvs r ⟨rfl,hp⟩ hll
 rcases hp with ⟨h1,_⟩|⟨_,rfl,rfl⟩
 ·exact absurd h1 hS
 ·show cont ⟨n,t,hd,AM.call ⟨nh,h,nl,fm,kill fm (AV.tagsL [.sl lt 5 (kZ l)]++jM h []) lv,mu⟩ [] [] []⟩ d _ K
  rw[AMcall_eq]
  simp only[kB7,List.append_nil,kB0,kBJ,kBO,kBL,emb_tup,kBI,kCi,emb_v,List.length_nil,Nat.add_zero,Nat.sub_zero]
  exact hk2
theorem call_tdo (hC:Γ.get 18=none) {s:TS} {a:Ac} (S:sndN s.l) (ho:okA a) {o ob:Nat} (hT:qC h o ob s) {x:AV} (hx:dn [o,ob] x (aA a)) (ht:AV.tagsL [.ptr o 0,x]=[])
    (hk:∀ s':TS,s'.l=(doN s.l a).1→sndN s'.l→cont ⟨n,t,hd,⟨nh,upd h ob (some (.map s'.es s'.cl)),nl,fm,lv,mu⟩⟩ d (.v (.int .i64 (doN s.l a).2)) K):kT Tryz.prog Γ false ⟨n,t,hd,⟨nh,h,nl,fm,lv,mu⟩⟩ 18 [.ptr o 0,x] d K:=by
 refine kCp (s:=s) (q:=dotN s.l a) tdo_good hC ⟨(s,a),snd_doOk S ho⟩ rfl hT (by simp only[kDm,dnL_nil];exact ⟨by simp[dn],hx,trivial⟩) ht (fun _ _ _ hp=>hp) ?_
 rw[dot_eq S]
 exact fun s' hs=>hk s' hs (by rw[hs];exact snd_do S a)
end
def ax1:Ac:=⟨1,1,0,[97],false,[]⟩
def ax2:Ac:=⟨1,2,1,[98],false,[]⟩
def ax3:Ac:=⟨1,1,0,[99],false,[]⟩
def nx1:List Nd:=[⟨1,0,[97],false,[]⟩]
theorem ax_do:doN [] ax1=(nx1,0)∧doN nx1 ax2=(nx1,8)∧doN nx1 ax3=(nx1,6):=by decide +kernel
theorem ax_no:¬ sndN [⟨1,1,[97],true,[]⟩]:=fun S=>by
 obtain ⟨k,hk⟩:=S.rt _ (List.mem_singleton.2 rfl)
 have:∀ k,upN [⟨1,1,[97],true,[]⟩] k 1=1:=fun k=>by
  induction k with
  | zero=>rfl
  | succ k ih=>rw [up_succ,ih];decide
 have:=this k
 simp only at hk
 omega
theorem ax_ok (k id par:Int) (nm:List UInt8) (dir:Bool) (h:nm.length≤10):okA ⟨k,id,par,nm,dir,[]⟩:=⟨okL_nil,by simp only;omega⟩
set_option maxHeartbeats 2000000 in
theorem awake13_good:Rw.Good Tryz.prog 14 kDu:=by
 have hΓ:kM Tryz.prog [(30,kAk)]:=(kI kCS kK)
 refine good_fna (nn:=52) Tryz.func14 (by kernel_rfl) rfl (show Tryz.f14.results.toList=[.tmp 0] from rfl) (fun _=>rfl) (fun x=>by simp[AV.erL,AV.er]) ?_
 rintro ⟨⟩
 refine qS hΓ (Ws:=[]) _ ?_
 obtain ⟨d1,d2,d3⟩:=ax_do
 simp only[aR,seval,kA,kB,]
 refine call_tnew (by simp[kH,kY]) ?_
 simp only[aR,seval,kA,kB,]
 (repeat (with_reducible refine And.intro ?_ ?_;focus (first|omega|exact kE|kernel_rfl)))
 refine call_tdo (s:=ts0) (a:=ax1) (o:=0) (ob:=1) (by simp[kH,kY]) snd_nil (ax_ok _ _ _ _ _ (by decide)) (by simp[qC,upd,ts0]) (by simp[dn,dnL,aA,ax1,kEe]) (by simp[AV.tagsL,AV.tags]) ?_
 rw[show ts0.l=[] from rfl,d1]
 intro s1 hs1 S1
 simp only[aR,seval,kA,kB,]
 (repeat (with_reducible refine And.intro ?_ ?_;focus (first|omega|exact kE|kernel_rfl)))
 refine call_tdo (s:=s1) (a:=ax2) (o:=0) (ob:=1) (by simp[kH,kY]) S1 (ax_ok _ _ _ _ _ (by decide)) (by simp[qC,upd]) (by simp[dn,dnL,aA,ax2,kEe]) (by simp[AV.tagsL,AV.tags]) ?_
 rw[hs1,d2]
 intro s2 hs2 S2
 simp only[aR,seval,kA,kB,]
 (repeat (with_reducible refine And.intro ?_ ?_;focus (first|omega|exact kE|kernel_rfl)))
 refine call_tdo (s:=s2) (a:=ax3) (o:=0) (ob:=1) (by simp[kH,kY]) S2 (ax_ok _ _ _ _ _ (by decide)) (by simp[qC,upd]) (by simp[dn,dnL,aA,ax3,kEe]) (by simp[AV.tagsL,AV.tags]) ?_
 rw[hs2,d3]
 intro s3 hs3 S3
 simp only[aR,seval,kA,kB,]
 refine call_tload0 (l:=[⟨1,1,[97],true,[]⟩]) (lt:=2) (by simp[kH,kY]) (by decide) (by simp) ax_no ?_
 simp only[aR,seval,kA,kB,]
 refine kAE (by simp[kH]) (by decide) ?_
 rw[show qA [97,46,98]=true from by decide]
 simp only[aR,seval,kA,kB,]
 (repeat (with_reducible refine And.intro ?_ ?_;focus (first|omega|exact kE|kernel_rfl)))
 refine kAE (by simp[kH]) (by decide) ?_
 rw[show qA [46,46]=false from by decide]
 simp only[aR,seval,kA,kB,]
 (repeat (with_reducible refine And.intro ?_ ?_;focus (first|omega|exact kE|kernel_rfl)))
 refine kAr (s:=s3) (o:=0) (ob:=1) (by simp[kH,kY]) (snd_ok S3).1 (by simp[qC,upd]) ?_
 simp only[aR,seval,kA,kB,kJ,hs3,nx1]
theorem kBR {Γ:Env} (hf:Γ.get 14=some kDu) {n:Nat} {t:Nat→AV} {hd:Nat→Nat→AV} {nh nl:Nat} {h:Nat→Option AO} {fm:Nat→Nat} {lv:Nat→Option (Nat×Nat)} {mu:Bool} {dr:Bool} {d:Option Nat} {K:AS→Prop}
    (hk:cont ⟨n,t,hd,⟨nh,h,nl,fm,lv,mu⟩⟩ d (.v (.bool true)) K):kT Tryz.prog Γ dr ⟨n,t,hd,⟨nh,h,nl,fm,lv,mu⟩⟩ 14 [] d K :=
 kEa (C:=kDu) (i:=()) (r:=.v (.bool true)) hf rfl rfl (by simp[AV.erL]) rfl (fun _ h=>h) (by simp only[AV.er];exact hk)
end Go.Proofs
end
-- ETr35
section
namespace Go.Proofs
open Go Go.Rw
set_option maxRecDepth 100000
theorem ups_more {l:List Nd}:∀ (k:Nat) (i:Int),upN l k i=0→ups l (k+1) i=ups l k i
 | 0,i,h=>by cases h;rfl
 | k+1,i,h=>by
   show (if i=0 then [] else (gN l i).nm::ups l (k+1) (pf l i))=(if i=0 then [] else (gN l i).nm::ups l k (pf l i))
   rw[ups_more k (pf l i) h]
theorem ups_node {l:List Nd} (S:sndN l) {x:Nd} (hx:x∈l):ups l l.length x.id=x.nm::ups l l.length x.par:=by
 obtain ⟨m,hm⟩:∃ m,l.length=m+1:=⟨l.length - 1,by have:=List.length_pos_of_mem hx;omega⟩
 have h0:=kEi S (.inr (kAN hx))
 have hid:=(S.node x hx).id.1
 have hp:pf l x.id=x.par:=by unfold pf;rw[kAZ S.srt hx]
 rw[hm]at h0 ⊢
 have h1:upN l m x.par=0:=by rw[← hp];exact h0
 rw[ups_more m x.par h1,ups,if_neg (by omega),kAZ S.srt hx,hp]
theorem join_snoc (nm:List UInt8):∀ {a:List (List UInt8)},a≠[]→Lib.join (a++[nm]) [47]=Lib.join a [47]++47::nm
 | [],h=>absurd rfl h
 | [x],_=>by simp [Lib.join_cons,Lib.joinTail]
 | x::y::a,_=>by
   have ih:=join_snoc nm (a:=y::a) (by simp)
   rw[List.cons_append,Lib.join_cons,Lib.join_cons]
   simp[Lib.joinTail]
theorem path_node {l:List Nd} (S:sndN l) {x:Nd} (hx:x∈l) (hp:inT l x.par):kCj l x.id=(if kCj l x.par=[] then [] else kCj l x.par++[47])++x.nm:=by
 have hn:=kDv S l.length x.par hp
 unfold kCj
 rw[ups_node S hx,List.reverse_cons]
 by_cases h:ups l l.length x.par=[]
 ·rw[h];simp[Lib.join_nil,Lib.join_one]
 ·have h2:(ups l l.length x.par).reverse≠[]:=by rwa [ne_eq,List.reverse_eq_nil_iff]
  have h3:=join_ne h2 fun z hz=>by
   have:=(name_le (hn z (List.mem_reverse.1 hz))).2
   intro hc;rw[hc]at this;simp at this
  rw[if_neg h3,join_snoc _ h2,List.append_assoc,List.singleton_append]
theorem kids_sum (K:List Int) (hK:K.Nodup):∀ (l:List Nd),(∀ x∈l,x.par∈K)→(K.map fun k=>(kept k l).length).sum=l.length
 | [],_=>by
   clear hK
   induction K with
   | nil=>rfl
   | cons k K ih =>
     rw[List.map_cons,List.sum_cons,ih fun x hx=>by cases hx];rfl
 | x::l,h=>by
   have ih:=kids_sum K hK l fun y hy=>h y (List.mem_cons_of_mem _ hy)
   have h1:∀ {K:List Int},(K.map fun k=>(kept k (x::l)).length).sum=(K.map fun k=>(kept k l).length).sum+K.count x.par:=fun {K}=>by
    induction K with
    | nil=>rfl
    | cons k K ihk =>
      rw[List.map_cons,List.sum_cons,List.map_cons,List.sum_cons,ihk,List.count_cons]
      by_cases hk:x.par=k
      ·have:kept k (x::l)=x::kept k l:=by unfold kept;rw[List.filter_cons,if_pos (by simpa using hk)]
       rw[this,hk];simp;omega
      ·have:kept k (x::l)=kept k l:=by unfold kept;rw[List.filter_cons,if_neg (by simpa using hk)]
       rw[this];simp[Ne.symm hk];omega
   rw[h1,ih,hK.count,if_pos (h x (List.mem_cons_self ..)),List.length_cons]
section
variable {l:List Nd} (S:sndN l)
include S
def kAM (l:List Nd):List Int:=0::l.map Nd.id
theorem kids_total:((kAM l).map fun k=>(jG k [] l).length).sum=l.length:=by
 have e:(kAM l).map (fun k=>(jG k [] l).length)=(kAM l).map fun k=>(kept k l).length:=List.map_congr_left fun k _=>by
  have:=(kBa k l [] List.Pairwise.nil).2.length_eq
  simpa using this
 rw[e]
 refine kids_sum _ ?_ l fun x hx=>?_
 ·unfold kAM
  rw[List.nodup_cons]
  refine ⟨fun hc=>?_,kCy S.srt⟩
  obtain ⟨x,hx,h0⟩:=List.mem_map.1 hc
  have:=(S.node x hx).id.1;omega
 ·unfold kAM
  rcases S.par x hx with h|⟨h,_⟩
  ·rw[h];exact List.mem_cons_self ..
  ·obtain ⟨h1,h2⟩:=kAU h
   exact List.mem_cons_of_mem _ (List.mem_map.2 ⟨_,h1,h2⟩)
theorem kids_mem {par:Int} {x:Nd} (hx:x∈jG par [] l):x∈l∧x.par=par:=by
 have:=(kBa par l [] List.Pairwise.nil).2.mem_iff.1 hx
 rw[List.nil_append]at this
 unfold kept at this
 rw[List.mem_filter]at this
 exact ⟨this.1,by simpa using this.2⟩
theorem kids_lt {par:Int} {k:Nat} (h:k+1 < (jG par [] l).length):((jG par [] l)[k]'(by omega)).nm < ((jG par [] l)[k+1]).nm:=by
 obtain ⟨h1,h2⟩:=kBa par l [] List.Pairwise.nil
 have h3:=List.pairwise_iff_getElem.1 h1 k (k+1) (by omega) h (by omega)
 have hnd:(jG par [] l).Nodup:=by
  rw[h2.nodup_iff,List.nil_append]
  unfold kept
  refine List.Nodup.sublist List.filter_sublist ?_
  have:=kCy S.srt
  rw[List.nodup_iff_pairwise_ne,List.pairwise_map]at this
  exact List.nodup_iff_pairwise_ne.2 (this.imp fun h e=>h (by rw[e]))
 have hne:(jG par [] l)[k]'(by omega)≠(jG par [] l)[k+1]:=fun hc=>by
  have:=(List.nodup_iff_pairwise_ne.1 hnd)
  exact List.pairwise_iff_getElem.1 this k (k+1) (by omega) h (by omega) hc
 have m1:=kids_mem S (List.getElem_mem (show k < (jG par [] l).length by omega))
 have m2:=kids_mem S (List.getElem_mem h)
 generalize (jG par [] l)[k]'(by omega)=a at *
 generalize (jG par [] l)[k+1]=b at *
 refine Decidable.byContradiction fun hc=>hne ?_
 have hn:a.nm=b.nm:=List.le_antisymm (List.not_lt.1 h3) (List.not_lt.1 hc)
 have hid:=S.sib a m1.1 b m2.1 (m1.2.trans m2.2.symm) hn
 rw[← kAZ S.srt m1.1,← kAZ S.srt m2.1,hid]
end
end Go.Proofs
end
-- ETr36
section
namespace Go.Proofs
open Go Go.Rw
set_option maxRecDepth 100000
theorem bin_sge {P:Program} {t:TypeId} {x y:Operand} {l r:List UInt8}:binA P .geq t x y (.v (sv l)) (.v (sv r))=some (.v (.bool (decide (¬ l < r)))):=by
 have h:Op.bytesLess l r=decide (l < r):=jR l r
 by_cases hh:l < r
 ·simp[sv,binA,binV,eqGuard,binOp,Op.stringOp,res,h,hh,List.not_le.2 hh]
 ·simp[sv,binA,binV,eqGuard,binOp,Op.stringOp,res,h,hh,List.not_lt.1 hh]
theorem kFJ {l:List Int} {i:Nat} (h:i < l.length):(ints .i64 l).getD i .any = .v (.int .i64 l[i]):=by simp[ints,List.getD_eq_getElem?_getD,h]
theorem jL {l:List Int}:(ints .i64 l).length=l.length:=by simp[ints]
abbrev order13Con:Con where
 ι:=GivenN
 args:=fun p=>[.sl 0 5 (kZ p.1)]
 post:=fun _ r=>r = .v (.bool true)
 plain:=true
set_option maxHeartbeats 4000000 in
theorem order13_good:Rw.Good Tryz.prog 5 order13Con:=by
 have hΓ:kM Tryz.prog [(14,kDu),(13,kBi),(16,kEb)]:=(kI awake13_good (kI small13_good (kI xsound_good kK)))
 refine good_fna (nn:=167) Tryz.func5 (by kernel_rfl) rfl (show Tryz.f5.results.toList=[.tmp 2] from rfl) (fun _=>rfl) (fun x=>by simp[AV.erL,AV.er,kAu]) ?_
 rintro ⟨t,ht,htc⟩
 refine qS hΓ (Ws:=[]) _ ?_
 simp only[aR,seval,kA,kB,]
 refine call_small13 (l:=[]) (by simp[kH]) rfl rfl ht htc (by simp) (by simp) ?_
 rcases Bool.eq_false_or_eq_true (kEk t []) with h1|h1
 case inr =>
  simp only[aR,seval,kA,kB,h1]
  refine kBR (by simp[kH]) ?_
  simp only[aR,seval,kA,kB,]
 obtain ⟨tl,tc⟩:=small_nodes h1
 simp only[aR,seval,kA,kB,h1]
 refine call_tload (by simp[kH,kY]) rfl (by omega) (fun x hx=>by have:=tc x hx;omega) ?_ ?_
 case refine_2 =>
  intro hS
  simp only[aR,seval,kA,kB,kD]
  (repeat (with_reducible refine And.intro ?_ ?_;focus (first|omega|exact kE|kernel_rfl)))
  refine kP (C:=kEb) (i:=⟨t,by omega,fun x hx=>by have:=tc x hx;omega⟩) (by simp[kH]) rfl rfl rfl (by simp[AV.erL,AV.er,kAu]) (fun _ h=>h) rfl ?_
  simp only
  rw[zB hS]
  simp only[aR,seval,kA,kB,]
  (repeat (with_reducible refine And.intro ?_ ?_;focus (first|omega|exact kE|kernel_rfl)))
  refine kBR (by simp[kH]) ?_
  simp only[aR,seval,kA,kB,]
 intro hS s hs
 subst hs
 have hl:=hS.len
 simp only[aR,seval,kA,kB,kD]
 (repeat (with_reducible refine And.intro ?_ ?_;focus (first|omega|exact kE|kernel_rfl)))
 refine kAr (s:=s) (o:=0) (ob:=1) (by simp[kH,kY]) (snd_ok hS).1 (by simp[qC,upd]) ?_
 simp only[aR,seval,kA,kB,kD,kJ]
 obtain ⟨St,hSt⟩:∃ St:{ i:Nat // i≤s.l.length }→AS,∀ i,St i=AS.ofH 167 [(3,.ptr 0 0),(5,.sl 0 5 (kZ s.l)),(6,.v (.int .i64 0)),(7,.v (.int .i64 i.1))] [] (tsO (some s)) []:=⟨_,fun _=>rfl⟩
 refine kAc ?_
 refine zK [] hΓ St (fun i=>s.l.length - i.1) ⟨0,by omega⟩ (by rw[hSt];refine kX [0,1] [] ?_;simp only[aR,seval,kA,kB,kD]<;>((repeat' apply And.intro)<;>first|rfl|omega|trivial)) ?_
 rintro ⟨i,hi⟩
 rw[hSt]
 simp only
 simp only[aR,seval,kA,kB,kD,kJ]
 (with_reducible first|refine kF (fun h=>?_) (fun h=>?_)|refine kG (fun h=>?_) (fun h=>?_))
 ·have hlt:i < s.l.length:=by omega
  have e1:=k7 s.l hlt
  have hm:=List.getElem_mem hlt
  have hprev:∀ j,(hj:j+1=i)→(kZ s.l).getD j .any=nA (s.l[j]'(by omega))∧(s.l[j]'(by omega)).id < s.l[i].id:=fun j hj=>by
   refine ⟨k7 s.l (by omega),?_⟩
   have:=hS.srt
   unfold srtN at this
   rw[List.pairwise_map]at this
   exact List.pairwise_iff_getElem.1 this j i (by omega) hlt (by omega)
  generalize s.l[i]=x at *
  have hin:inT s.l x.par:=by
   rcases hS.par x hm with hp|⟨hp,_⟩
   ·exact .inl hp
   ·exact .inr hp
  have hix:inT s.l x.id:=.inr (kAN hm)
  have hpn:=path_node hS hm hin
  have hpl:=path_len hS x.par hin
  have hpl2:=path_len hS x.id hix
  have hnl:=name_le (hS.node x hm).nm
  have wr1:=kC (n:=(i:Int)+1) (by omega) (by omega)
  by_cases hi0:i=0
  ·simp only[aR,seval,kA,kB,kD,h,e1,nA,kJ,show ((i:Int) > 0)=False from eq_false (by omega)]
   (repeat (with_reducible refine And.intro ?_ ?_;focus (first|omega|exact kE|kernel_rfl)))
   refine kBj (s:=s) (o:=0) (ob:=1) (by simp[kH,kY]) hS (by simp[qC,upd]) ?_
   rw[kAe hin]
   simp only[aR,seval,kA,kB,kD,e1,nA,kJ]
   (repeat (with_reducible refine And.intro ?_ ?_;focus (first|omega|exact kE|kernel_rfl)))
   refine kBj (s:=s) (o:=0) (ob:=1) (by simp[kH,kY]) hS (by simp[qC,upd]) ?_
   rw[kAe hix,hpn]
   rw[hpn]at hpl2
   by_cases hup:kCj s.l x.par=[]
   ·rw[if_pos hup,List.nil_append]
    simp only[aR,seval,kA,kB,kD,e1,nA,kJ,hup,kAp (l:=[]) (r:=x.nm) (by simp;omega),List.nil_append,wr1]
    (repeat (with_reducible refine And.intro ?_ ?_;focus (first|omega|exact kE|kernel_rfl)))
    refine kO ⟨i+1,by omega⟩ (by simp only;omega) ?_
    rw[hSt];refine kX [0,1] [] ?_
    simp only[aR,seval,kA,kB,kD]<;>((repeat' apply And.intro)<;>first|rfl|omega|trivial)
   ·rw[if_neg hup]
    generalize kCj s.l x.par=P at *
    simp only[aR,seval,kA,kB,kD,e1,nA,kJ,hup,kAp (l:=P) (r:=[47]) (by simp;omega),kAp (l:=P++[47]) (r:=x.nm) (by simp;omega),wr1]
    (repeat (with_reducible refine And.intro ?_ ?_;focus (first|omega|exact kE|kernel_rfl)))
    refine kO ⟨i+1,by omega⟩ (by simp only;omega) ?_
    rw[hSt];refine kX [0,1] [] ?_
    simp only[aR,seval,kA,kB,kD]<;>((repeat' apply And.intro)<;>first|rfl|omega|trivial)
  ·obtain ⟨j,hj⟩:∃ j,j+1=i:=⟨i - 1,by omega⟩
   obtain ⟨e2,hjl⟩:=hprev j hj
   generalize s.l[j]'(by omega)=y at *
   simp only[aR,seval,kA,kB,kD,h,e1,e2,nA,kJ,show ((i:Int) > 0)=True from eq_true (by omega),show (i:Int) - 1=j by omega,kC (n:=(j:Int)) (by omega) (by omega),show (y.id ≥ x.id)=False from eq_false (by omega)]
   (repeat (with_reducible refine And.intro ?_ ?_;focus (first|omega|exact kE|kernel_rfl)))
   refine kBj (s:=s) (o:=0) (ob:=1) (by simp[kH,kY]) hS (by simp[qC,upd]) ?_
   rw[kAe hin]
   simp only[aR,seval,kA,kB,kD,e1,nA,kJ]
   (repeat (with_reducible refine And.intro ?_ ?_;focus (first|omega|exact kE|kernel_rfl)))
   refine kBj (s:=s) (o:=0) (ob:=1) (by simp[kH,kY]) hS (by simp[qC,upd]) ?_
   rw[kAe hix,hpn]
   rw[hpn]at hpl2
   by_cases hup:kCj s.l x.par=[]
   ·rw[if_pos hup,List.nil_append]
    simp only[aR,seval,kA,kB,kD,e1,nA,kJ,hup,kAp (l:=[]) (r:=x.nm) (by simp;omega),List.nil_append,wr1]
    (repeat (with_reducible refine And.intro ?_ ?_;focus (first|omega|exact kE|kernel_rfl)))
    refine kO ⟨i+1,by omega⟩ (by simp only;omega) ?_
    rw[hSt];refine kX [0,1] [] ?_
    simp only[aR,seval,kA,kB,kD]<;>((repeat' apply And.intro)<;>first|rfl|omega|trivial)
   ·rw[if_neg hup]
    generalize kCj s.l x.par=P at *
    simp only[aR,seval,kA,kB,kD,e1,nA,kJ,hup,kAp (l:=P) (r:=[47]) (by simp;omega),kAp (l:=P++[47]) (r:=x.nm) (by simp;omega),wr1]
    (repeat (with_reducible refine And.intro ?_ ?_;focus (first|omega|exact kE|kernel_rfl)))
    refine kO ⟨i+1,by omega⟩ (by simp only;omega) ?_
    rw[hSt];refine kX [0,1] [] ?_
    simp only[aR,seval,kA,kB,kD]<;>((repeat' apply And.intro)<;>first|rfl|omega|trivial)
 ·simp only[aR,seval,kA,kB,kD,h]
  obtain ⟨KL,hKL⟩:∃ f:Int→List Nd,f=fun k=>jG k [] s.l:=⟨_,rfl⟩
  have hKl:∀ k,(KL k).length≤s.l.length:=fun k=>by
   have:=kEh k s.l []
   rw[hKL];simpa using this
  have hKm:∀ k x,x∈KL k→x∈s.l∧x.par=k:=fun k x hx=>by rw[hKL]at hx;exact kids_mem hS hx
  have hKt:∀ k (j:Nat) (hj:j+1 < (KL k).length),((KL k)[j]'(by omega)).nm < ((KL k)[j+1]).nm:=fun k j hj=>by
   subst hKL;exact kids_lt hS hj
  have htot:((kAM s.l).map fun k=>(KL k).length).sum=s.l.length:=by rw[hKL];exact kids_total hS
  have hkl:(kAM s.l).length=s.l.length+1:=by simp[kAM]
  have hpart:∀ j,(((kAM s.l).take j).map fun k=>(KL k).length).sum≤s.l.length:=fun j=>by
   have e:=congrArg List.sum (congrArg (List.map fun k=>(KL k).length) (List.take_append_drop j (kAM s.l)))
   rw[List.map_append,List.sum_append,htot]at e
   omega
  obtain ⟨S2,hS2⟩:∃ St:{ j:Nat // j≤s.l.length+1 }→AS,∀ j,St j=AS.ofH 167 [(3,.ptr 0 0),(5,.sl 0 5 (kZ s.l)),(6,.v (.int .i64 ((((kAM s.l).take j.1).map fun k=>(KL k).length).sum:Nat))),(12,.v (.int .i64 ((j.1:Int) - 1)))] [] (tsO (some s)) []:=⟨_,fun _=>rfl⟩
  refine kAc ?_
  refine zK [] hΓ S2 (fun j=>s.l.length+1 - j.1) ⟨0,by omega⟩ (by rw[hS2];refine kX [0,1] [] ?_;simp only[aR,seval,kA,kB,kD,List.take_zero,List.map_nil,List.sum_nil]<;>((repeat' apply And.intro)<;>first|rfl|omega|trivial)) ?_
  rintro ⟨j,hj⟩
  rw[hS2]
  simp only
  simp only[aR,seval,kA,kB,kD,kJ]
  (with_reducible first|refine kF (fun h2=>?_) (fun h2=>?_)|refine kG (fun h2=>?_) (fun h2=>?_))
  ·have hlt:j < (kAM s.l).length:=by omega
   obtain ⟨id,hid⟩:∃ id,(kAM s.l)[j]=id:=⟨_,rfl⟩
   by_cases hj0:j=0
   ·have hid0:id=0:=by subst hj0;rw[← hid];rfl
    subst hid0
    simp only[aR,seval,kA,kB,kD,h2,kJ,show ((j:Int) - 1 ≥ 0)=False from eq_false (by omega)]
    (repeat (with_reducible refine And.intro ?_ ?_;focus (first|omega|exact kE|kernel_rfl)))
    have hkb:=hKl 0
    refine kEH (s:=s) (o:=0) (ob:=1) (by simp[kH,kY]) hS (by simp[qC,upd]) ?_
    rw[show jG 0 [] s.l=KL 0 by rw[hKL]]
    simp only[aR,seval,kA,kB,kD,jL,List.length_map]
    obtain ⟨S3,hS3⟩:∃ St:{ p:Nat×List UInt8 // p.1≤(KL 0).length∧∀ m,m+1=p.1→∀ hm:m < (KL 0).length,p.2=(KL 0)[m].nm }→AS,∀ p,St p=AS.ofH 167 [(3,.ptr 0 0),(5,.sl 0 5 (kZ s.l)),(6,.v (.int .i64 ((((kAM s.l).take j).map fun k=>(KL k).length).sum:Nat))),(12,.v (.int .i64 ((j:Int) - 1))),(13,.v (.int .i64 0)),(14,.sl 0 1 (ints .i64 ((KL 0).map Nd.id))),(15,.v (sv p.1.2)),(16,.v (.int .i64 p.1.1))] [] (tsO (some s)) []:=⟨_,fun _=>rfl⟩
    refine kAc ?_
    refine zK [] hΓ S3 (fun p=>(KL 0).length - p.1.1) ⟨(0,[]),by simp,fun m hm=>by simp at hm⟩ (by rw[hS3];refine kX [0,1] [] ?_;simp only[aR,seval,kA,kB,kD]<;>((repeat' apply And.intro)<;>first|rfl|omega|trivial)) ?_
    rintro ⟨⟨k,last⟩,hk,hlast⟩
    simp only at hk hlast
    rw[hS3]
    simp only
    simp only[aR,seval,kA,kB,kD,jL,List.length_map]
    (with_reducible first|refine kF (fun h3=>?_) (fun h3=>?_)|refine kG (fun h3=>?_) (fun h3=>?_))
    ·have hkt:k < (KL 0).length:=by omega
     have e3:(ints .i64 ((KL 0).map Nd.id)).getD k .any = .v (.int .i64 (KL 0)[k].id):=by rw[kFJ (by rw[List.length_map];exact hkt),List.getElem_map]
     obtain ⟨hm1,hm2⟩:=hKm 0 _ (List.getElem_mem hkt)
     have hord:k≠0→last < (KL 0)[k].nm:=fun h0=>by
      obtain ⟨m,rfl⟩:∃ m,k=m+1:=⟨k - 1,by omega⟩
      rw[hlast m rfl (by omega)]
      exact hKt 0 m hkt
     have hnx:∀ m,m+1=k+1→∀ hm:m < (KL 0).length,(KL 0)[k].nm=(KL 0)[m].nm:=fun m hm _=>by
      obtain rfl:m=k:=by omega
      rfl
     generalize (KL 0)[k]=x at *
     have g1:=kAZ hS.srt hm1
     have g2:=kAN hm1
     simp only[aR,seval,kA,kB,kD,h3,e3,jL,List.length_map]
     (repeat (with_reducible refine And.intro ?_ ?_;focus (first|omega|exact kE|kernel_rfl)))
     refine call_tget (s:=s) (o:=0) (ob:=1) (by simp[kH,kY]) (by simp[qC,upd]) ?_
     rw[g1,g2]
     by_cases h0:k=0
     ·simp only[aR,seval,kA,kB,kD,nA,hm2,show ((k:Int) > 0)=False from eq_false (by omega),kC (n:=(k:Int)+1) (by omega) (by omega)]
      (repeat (with_reducible refine And.intro ?_ ?_;focus (first|omega|exact kE|kernel_rfl)))
      refine kO ⟨(k+1,x.nm),by simp only;omega,hnx⟩ (by simp only;omega) ?_
      rw[hS3];refine kX [0,1] [] ?_
      simp only[aR,seval,kA,kB,kD]<;>((repeat' apply And.intro)<;>first|rfl|omega|trivial)
     ·simp only[aR,seval,kA,kB,kD,nA,hm2,bin_sge,show ((k:Int) > 0)=True from eq_true (by omega),show (last < x.nm)=True from eq_true (hord h0),kC (n:=(k:Int)+1) (by omega) (by omega)]
      (repeat (with_reducible refine And.intro ?_ ?_;focus (first|omega|exact kE|kernel_rfl)))
      refine kO ⟨(k+1,x.nm),by simp only;omega,hnx⟩ (by simp only;omega) ?_
      rw[hS3];refine kX [0,1] [] ?_
      simp only[aR,seval,kA,kB,kD]<;>((repeat' apply And.intro)<;>first|rfl|omega|trivial)
    ·have hp1:=hpart j
     have hp2:=hpart (j+1)
     have hsum:(((kAM s.l).take (j+1)).map fun k=>(KL k).length).sum=(((kAM s.l).take j).map fun k=>(KL k).length).sum+(KL 0).length:=by
      rw[List.take_succ_eq_append_getElem hlt,hid,List.map_append,List.sum_append];simp
     generalize (((kAM s.l).take j).map fun k=>(KL k).length).sum=S at *
     simp only[aR,seval,kA,kB,kD,h3,jL,List.length_map,kC (n:=(S:Int)+(KL 0).length) (by omega) (by omega),kC (n:=(j:Int) - 1+1) (by omega) (by omega)]
     refine kO ⟨j+1,by omega⟩ (by simp only;omega) ?_
     rw[hS2,hsum];refine kX [0,1] [] ?_
     simp only[aR,seval,kA,kB,kD]<;>((repeat' apply And.intro)<;>first|rfl|omega|trivial)
   ·obtain ⟨i,hi⟩:∃ i,j=i+1:=⟨j - 1,by omega⟩
    have hlt2:i < s.l.length:=by omega
    have e1:=k7 s.l hlt2
    have hidx:s.l[i].id=id:=by subst hi;rw[← hid];simp[kAM]
    generalize s.l[i]=z at *
    subst hidx
    simp only[aR,seval,kA,kB,kD,h2,e1,nA,kJ,show ((j:Int) - 1 ≥ 0)=True from eq_true (by omega),show (j:Int) - 1=i by omega,show ((i:Int) ≥ 0)=True from eq_true (by omega)]
    (repeat (with_reducible refine And.intro ?_ ?_;focus (first|omega|exact kE|kernel_rfl)))
    have hkb:=hKl z.id
    refine kEH (s:=s) (o:=0) (ob:=1) (by simp[kH,kY]) hS (by simp[qC,upd]) ?_
    rw[show jG z.id [] s.l=KL z.id by rw[hKL]]
    simp only[aR,seval,kA,kB,kD,jL,List.length_map]
    obtain ⟨S3,hS3⟩:∃ St:{ p:Nat×List UInt8 // p.1≤(KL z.id).length∧∀ m,m+1=p.1→∀ hm:m < (KL z.id).length,p.2=(KL z.id)[m].nm }→AS,∀ p,St p=AS.ofH 167 [(3,.ptr 0 0),(5,.sl 0 5 (kZ s.l)),(6,.v (.int .i64 ((((kAM s.l).take j).map fun k=>(KL k).length).sum:Nat))),(12,.v (.int .i64 ((j:Int) - 1))),(13,.v (.int .i64 z.id)),(14,.sl 0 1 (ints .i64 ((KL z.id).map Nd.id))),(15,.v (sv p.1.2)),(16,.v (.int .i64 p.1.1))] [] (tsO (some s)) []:=⟨_,fun _=>rfl⟩
    refine kAc ?_
    refine zK [] hΓ S3 (fun p=>(KL z.id).length - p.1.1) ⟨(0,[]),by simp,fun m hm=>by simp at hm⟩ (by rw[hS3];refine kX [0,1] [] ?_;simp only[aR,seval,kA,kB,kD]<;>((repeat' apply And.intro)<;>first|rfl|omega|trivial)) ?_
    rintro ⟨⟨k,last⟩,hk,hlast⟩
    simp only at hk hlast
    rw[hS3]
    simp only
    simp only[aR,seval,kA,kB,kD,jL,List.length_map]
    (with_reducible first|refine kF (fun h3=>?_) (fun h3=>?_)|refine kG (fun h3=>?_) (fun h3=>?_))
    ·have hkt:k < (KL z.id).length:=by omega
     have e3:(ints .i64 ((KL z.id).map Nd.id)).getD k .any = .v (.int .i64 (KL z.id)[k].id):=by rw[kFJ (by rw[List.length_map];exact hkt),List.getElem_map]
     obtain ⟨hm1,hm2⟩:=hKm z.id _ (List.getElem_mem hkt)
     have hord:k≠0→last < (KL z.id)[k].nm:=fun h0=>by
      obtain ⟨m,rfl⟩:∃ m,k=m+1:=⟨k - 1,by omega⟩
      rw[hlast m rfl (by omega)]
      exact hKt z.id m hkt
     have hnx:∀ m,m+1=k+1→∀ hm:m < (KL z.id).length,(KL z.id)[k].nm=(KL z.id)[m].nm:=fun m hm _=>by
      obtain rfl:m=k:=by omega
      rfl
     generalize (KL z.id)[k]=x at *
     have g1:=kAZ hS.srt hm1
     have g2:=kAN hm1
     simp only[aR,seval,kA,kB,kD,h3,e3,jL,List.length_map]
     (repeat (with_reducible refine And.intro ?_ ?_;focus (first|omega|exact kE|kernel_rfl)))
     refine call_tget (s:=s) (o:=0) (ob:=1) (by simp[kH,kY]) (by simp[qC,upd]) ?_
     rw[g1,g2]
     by_cases h0:k=0
     ·simp only[aR,seval,kA,kB,kD,nA,hm2,show ((k:Int) > 0)=False from eq_false (by omega),kC (n:=(k:Int)+1) (by omega) (by omega)]
      (repeat (with_reducible refine And.intro ?_ ?_;focus (first|omega|exact kE|kernel_rfl)))
      refine kO ⟨(k+1,x.nm),by simp only;omega,hnx⟩ (by simp only;omega) ?_
      rw[hS3];refine kX [0,1] [] ?_
      simp only[aR,seval,kA,kB,kD]<;>((repeat' apply And.intro)<;>first|rfl|omega|trivial)
     ·simp only[aR,seval,kA,kB,kD,nA,hm2,bin_sge,show ((k:Int) > 0)=True from eq_true (by omega),show (last < x.nm)=True from eq_true (hord h0),kC (n:=(k:Int)+1) (by omega) (by omega)]
      (repeat (with_reducible refine And.intro ?_ ?_;focus (first|omega|exact kE|kernel_rfl)))
      refine kO ⟨(k+1,x.nm),by simp only;omega,hnx⟩ (by simp only;omega) ?_
      rw[hS3];refine kX [0,1] [] ?_
      simp only[aR,seval,kA,kB,kD]<;>((repeat' apply And.intro)<;>first|rfl|omega|trivial)
    ·have hp1:=hpart j
     have hp2:=hpart (j+1)
     have hsum:(((kAM s.l).take (j+1)).map fun k=>(KL k).length).sum=(((kAM s.l).take j).map fun k=>(KL k).length).sum+(KL z.id).length:=by
      rw[List.take_succ_eq_append_getElem hlt,hid,List.map_append,List.sum_append];simp
     generalize (((kAM s.l).take j).map fun k=>(KL k).length).sum=S at *
     simp only[aR,seval,kA,kB,kD,h3,jL,List.length_map,kC (n:=(S:Int)+(KL z.id).length) (by omega) (by omega),kC (n:=(j:Int) - 1+1) (by omega) (by omega)]
     refine kO ⟨j+1,by omega⟩ (by simp only;omega) ?_
     rw[hS2,hsum];refine kX [0,1] [] ?_
     simp only[aR,seval,kA,kB,kD]<;>((repeat' apply And.intro)<;>first|rfl|omega|trivial)
  ·have hj2:j=s.l.length+1:=by omega
   rw[List.take_of_length_le (by omega),htot]
   simp only[aR,seval,kA,kB,kD,h2,kJ]
   (repeat (with_reducible refine And.intro ?_ ?_;focus (first|omega|exact kE|kernel_rfl)))
   refine kBR (by simp[kH]) ?_
   simp only[aR,seval,kA,kB,]
end Go.Proofs
end
-- EUeR
section
namespace Go.Proofs
open Go Go.Rw Go.RowKit Go.ChangeShapes Go.WideShapes Go.ChangeAt Go.Deep
set_option maxRecDepth 100000
section
variable {P:Program} {W:World} {H:Type} {enc:TypeId×Value→H}
end
end Go.Proofs
end
-- EUk11
section
namespace Go.Proofs
open Go Go.Rw
set_option maxRecDepth 100000
structure Cm where
 rev:Int
 client:Int
 seq:Int
 acs:List Ac
 deriving Inhabited,DecidableEq
end Go.Proofs
end
-- EUk13
section
namespace Go.Proofs
open Go Go.Rw
set_option maxRecDepth 100000
end Go.Proofs
end
-- EUkR
section
namespace Go.Proofs
open Go Go.Rw Go.RowKit Go.ChangeShapes Go.WideShapes Go.ChangeAt Go.Deep
set_option maxRecDepth 100000
abbrev tyN:Ty:=.st [.int .i64,.int .i64,.str,.bool,.str]
theorem fit_node {ds:List AV} (h:Fits tyN ds):∃ a:Nd,kD7 tyN ds=nA a∧a.nm.length≤9223372036854775807∧a.text.length≤9223372036854775807:=by
 simp only[tyN,Fits.eq_5,FitsL]at h
 obtain ⟨a,b,rfl,h1,a2,b2,rfl,h2,a3,b3,rfl,h3,a4,b4,rfl,h4,a5,b5,rfl,h5,rfl⟩:=h
 simp only[Fits]at h1 h2 h3 h4 h5
 obtain ⟨id,rfl,_⟩:=h1
 obtain ⟨par,rfl,_⟩:=h2
 obtain ⟨nm,rfl,hn⟩:=h3
 obtain ⟨dir,rfl⟩:=h4
 obtain ⟨tx,rfl,ht⟩:=h5
 exact ⟨⟨id,par,nm,dir,tx⟩,rfl,hn,ht⟩
theorem open_nodes {P:Program} {W:World} {H:Type} {enc:TypeId×Value→H} {t:TypeId} {v:Value} {d:DataW H} {p:List MemPlace} (ht:isTy P t (.slc tyN)=true) (hv:∃ A n c,v = .slice A n c) (h:DataW.Trod enc P W 0 (fun _=>true) true t v d p) :
    ∃ l:List Nd,l.length≤9223372036854775807∧(∀ a∈l,a.nm.length≤9223372036854775807∧a.text.length≤9223372036854775807)∧VR (Gin (Fw W) none) W v (.sl 0 5 (kZ l)) :=
 arg_slc nA _ (fun ds hd=>fit_node hd) ht hv h
end Go.Proofs
end
-- EUr1
section
namespace Go.Proofs.YtfhipjafkdembaaGreatDoor
open Go Go.ChangeShapes Go.WideShapes Go.ChangeAt Go.RowKit Go.Rw Go.Lib
open Go.ChangeMaps (open_string shut_string)
set_option maxRecDepth 100000
theorem own:ownKnob Tryz.prog.godebug=none:=by kernel_rfl
theorem laidOut:laidOutB Tryz.prog=true:=by kernel_rfl
noncomputable def kC5 (os:Os):World :=
 let w0:=World.holding Tryz.prog os ⟨#[],#[],[]⟩
 let put (h:Array Obj) (g:Nat) (cs:Array Value):Array Obj:=h.modify g fun
  | .cells _ t frozen=>.cells cs t frozen
  | o=>o
 let h1:=put w0.heap 0 (Lib.firstTab.map fun z=>Value.int .u8 z).toArray
 let h2:=put h1 1 ((List.range 16).flatMap fun i=>[Value.int .u8 (Lib.accLo i),Value.int .u8 (Lib.accHi i)]).toArray
 { w0 with heap:=h2 }
abbrev laidL : List (String × DataW Unit) := [("unicode/utf8.acceptRanges", Lib.acceptData), ("unicode/utf8.first", Lib.firstData)]
theorem laid_met (os:Os) (args:Array Value):laidMet Tryz.prog laidL ((kC5 os).forCall (fun _ _=>0) ⟨#[],args,[]⟩).memory :=
 (LaidIn.of_run (l:=laidL) [1,0] 8 (by kernel_rfl) (by kernel_rfl) (by kernel_rfl) (by kernel_rfl)).met
theorem tabs_of {W:World} (hL:laidMet Tryz.prog laidL W):TabOk W (kW none):=by
 have htab:Lib.Utf8Tabs 0 1 W :=
  utf8Tabs_of_readsT (U8Types.of196 Tryz.lays196) ⟨by kernel_rfl,by kernel_rfl,by kernel_rfl,by kernel_rfl,by kernel_rfl,by kernel_rfl,by kernel_rfl⟩ (Lib.laidMet.reads hL (.tail _ (.head _))) (Lib.laidMet.reads hL (.head _))
 refine ⟨htab,fun g hg=>⟨?_,by rintro ⟨k,hk,_⟩;cases hk⟩⟩
 have key:∀ g i v,W.cell? ⟨g,i,none⟩=some v→g < W.heap.size:=fun g i v h=>Fw_lt (Nat.lt_of_le_of_lt (Nat.zero_le i) (Fw_cell h))
 rcases hg with rfl|rfl
 ·exact key 0 _ _ (htab.1 0 (by omega))
 ·exact key 1 _ _ (htab.2 0 (by omega)).1
end Go.Proofs.YtfhipjafkdembaaGreatDoor
end
