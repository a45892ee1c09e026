/-
 Edits done by the program. Which edits may be,as the document says. Edits done,undone,by the program. Edits done,undone,by the program. How much is given;texts and their code points. The document's tree: k6 by their IDs;what an act does. Plain. The document's tree: looking k6 up. Nodes held against each other,field by field. The document's tree: names,texts;acts held against each other. Edits undone,by the program;both,by the document.
-/
import Derived.Test.YtfhipjafkdembaaGreatDoorXEUo5
set_option linter.unusedSimpArgs false
set_option linter.unusedVariables false
set_option linter.defProp false
set_option linter.unusedSectionVars false

-- EAp1
section
namespace Go.Proofs
open Go Go.Rw
set_option maxRecDepth 100000
def stA (x:Sp):AV:=.agg [.v (.int .i64 x.c.k),.v (.int .i64 x.c.n),.v (sv x.c.t),.v (sv x.was),.v (sv x.puts)]
def sts (l:List Sp):List AV:=l.map stA
theorem sts_nil:sts []=[]:=rfl
theorem kBb (l:List Sp):(sts l).length=l.length:=by simp[sts]
theorem sts_snoc (l:List Sp) (k n:Int) (t w p:List UInt8):sts l++[.agg [.v (.int .i64 k),.v (.int .i64 n),.v (sv t),.v (sv w),.v (sv p)]]=sts (l++[⟨⟨k,n,t⟩,w,p⟩]):=by simp[sts,stA]
theorem sts_getD (l:List Sp) {i:Nat} (h:i < l.length):(sts l).getD i .any = .agg [.v (.int .i64 l[i].c.k),.v (.int .i64 l[i].c.n),.v (sv l[i].c.t),.v (sv l[i].was),.v (sv l[i].puts)]:=by
 simp[sts,stA,List.getD_eq_getElem?_getD,h]
theorem part_le {l sz i j:Nat} {xs:List AV} (h:j≤xs.length):kFW l sz xs i j = .sl l sz ((xs.drop i).take (j - i)):=by
 unfold kFW
 split
 ·rename_i hc
  obtain ⟨rfl,rfl⟩:=hc
  simp
 ·rfl
def kCJ (s:List UInt8) (l:List Cp):AV:=res2 (.sl 0 5 (sts (stp s l))) (errI s l)
theorem stepsR_er (s:List UInt8) (l:List Cp):(kCJ s l).er=kCJ s l:=by
 have:∀ l:List Sp,AV.erL (sts l)=sts l:=fun l=>by
  induction l with
  | nil=>rfl
  | cons c r ih=>show AV.er (stA c)::AV.erL (sts r)=_;rw [ih];rfl
 rfl
abbrev kEL:Con where
 ι:=Str×Ed
 args:=fun p=>[.v (sv p.1.1),.sl 0 3 (qC p.2.1)]
 post:=fun p r=>r=kCJ p.1.1 p.2.1
abbrev SSt (cs:List Nat) (l:List Cp):={ p:List Sp×List Nat×Nat // p.2.2≤l.length∧fit p.2.1 (l.drop p.2.2)∧p.1++kB9 p.2.1 (l.drop p.2.2)=kB9 cs l∧∀ c∈p.2.1,okc c }
theorem steps_good:Rw.Good Tryz.prog 125 kEL:=by
 have hΓ:kM Tryz.prog [(113,kBl),(95,kBK),(144,kBF)]:=(kI kF5 (kI kBh (kI base_good kJ)))
 refine kY (nn:=72) hΓ Tryz.func125 (by kernel_rfl) rfl (show Tryz.f125.results.toList=[.tmp 4,.tmp 5] from rfl) (fun _=>rfl) (fun _=>rfl) ?_
 rintro ⟨⟨s,hs⟩,⟨l,hl⟩⟩
 simp only[aR,seval]
 refine vc_scope hΓ 1 ?_
 simp only[aR,seval]
 refine kFy (by simp[kH]) rfl hl ?_
 by_cases hc:zA l=0
 ·simp only[aR,seval,hc]
  refine kAk (by simp[kH]) hs ?_
  rcases kCz (pts s) with hp|⟨cs,hp⟩
  ·have he:errI s l=2:=by unfold errI;rw[if_pos hc,hp]
   simp only[aR,seval,kCP,hp,res2]
   refine ⟨_,rfl,?_⟩
   simp only[aR,seval]
   unfold kCJ stp
   rw[he];rfl
  ·simp only[aR,seval,kCP,hp,res2]
   refine call_base (by simp[kH]) rfl hl ?_
   by_cases hb:(cs.length:Int)=kAY l
   ·have he:errI s l=0:=by unfold errI;rw[if_pos hc,hp];simp only;rw[if_pos hb]
    have hfit:=fit_check hc hb
    obtain ⟨hok,hse⟩:=kBN hp
    have hr:=runesA_pts hp
    have hlen:=(kAG hc).1
    have hcl:=kDH hp
    simp only[aR,seval,hb,hr,kEG]
    refine ⟨by omega,?_⟩
    obtain ⟨St,hSt⟩:∃ St:SSt cs l→AS,∀ p,St p=AS.of 72 [(4,.sl 2 5 (sts p.1.1)),(5,.v (.int .i64 0)),(7,.sl 0 1 (i32s p.1.2.1)),(28,.sl 0 3 (qC l)),(29,.v (.int .i64 l.length)),(30,.v (.int .i64 p.1.2.2))] [] [(p.1.1.length,154)]:=⟨_,fun _=>rfl⟩
    refine qM hΓ St (fun p=>l.length - p.1.2.2) ⟨([],cs,0),by simp,hfit,rfl,hok⟩ (by rw[hSt];refine kQ [] [.nil 5] ?_;simp only[aR,seval,sts_nil,kL]<;>((repeat' apply And.intro)<;>first|rfl|omega|trivial)) ?_
    rintro ⟨⟨out,ds,i⟩,hi,hf,ho,hdk⟩
    simp only at hi hf ho hdk
    rw[hSt]
    simp only
    simp only[aR,seval,kL]
    (with_reducible first|refine kE (fun h=>?_) (fun h=>?_)|refine kG (fun h=>?_) (fun h=>?_))
    ·have hlt:i < l.length:=by omega
     have e1:=qI l hlt
     have hct:=okL.text hl (List.getElem_mem hlt)
     rw[List.drop_eq_getElem_cons hlt]at hf ho
     obtain ⟨hso,hn0,hnl,hf2⟩:=fit_cons hf
     rw[kB9]at ho
     have hcs:=zZ hso
     have hol:out.length≤100:=by
      have:=congrArg List.length ho
      rw[List.length_append,kFB]at this
      omega
     generalize l[i]=c at *
     obtain ⟨k,n,t⟩:=c
     simp only at *
     have htk:utfL ((ds.take n.toNat).map fun (c:Nat)=>(c:Int))=encs (ds.take n.toNat):=utfL_encs (okc_take hdk _)
     have again:∀ (σ:AS) (x:Sp),x=⟨⟨k,n,t⟩,if k=2 then [] else encs (ds.take n.toNat),if k=2 then t else if k=3 then [] else encs (ds.take n.toNat)⟩→Weak σ (AS.of 72 [(4,.sl 2 5 (sts (out++[x]))),(5,.v (.int .i64 0)),(7,.sl 0 1 (i32s (ds.drop n.toNat))),(28,.sl 0 3 (qC l)),(29,.v (.int .i64 l.length)),(30,.v (.int .i64 (i+1:Nat)))] [] [((out++[x]).length,154)])→∃ y:SSt cs l,l.length - y.1.2.2 < l.length - i∧Weak σ (St y):=fun σ x hx hw =>
      ⟨⟨(out++[x],ds.drop n.toNat,i+1),by simp only;omega,hf2,by simp only;rw[← ho,hx];simp,okc_drop hdk _⟩,by simp only;omega,by rw[hSt];exact hw⟩
     have p1:kFW 0 1 (i32s ds) 0 n.toNat = .sl 0 1 (i32s (ds.take n.toNat)):=by rw[part_le (by rw[kEG];omega),i32s_part];simp
     have p2:kFW 0 1 (i32s ds) n.toNat ds.length = .sl 0 1 (i32s (ds.drop n.toNat)):=by rw[part_le (by rw[kEG];omega),i32s_part,List.take_of_length_le (by rw[List.length_drop];omega)]
     simp (disch:=omega) only[aR,seval,kC,h,e1,kL,kEG,p1,p2,i32sOf_i32s,htk,Int.toNat_natCast]
     (repeat (with_reducible refine And.intro ?_ ?_;focus (first|omega|exact kD|kernel_rfl)))
     (with_reducible first|refine kE (fun h2=>?_) (fun h2=>?_)|refine kG (fun h2=>?_) (fun h2=>?_))
     ·subst h2
      simp (disch:=omega) only[aR,seval,kC,kBb,sts_snoc,List.map_cons,List.map_nil]
      (repeat (with_reducible refine And.intro ?_ ?_;focus (first|omega|exact kD|kernel_rfl)))
      refine again _ ⟨⟨2,n,t⟩,[],t⟩ ?_ ?_
      rotate_left
      ·refine kQ [] [.live 2] ?_
       simp only[aR,seval,kBb,List.length_append]<;>((repeat' apply And.intro)<;>first|rfl|omega|trivial)
      ·simp
     ·simp (disch:=omega) only[aR,seval,kC,h2]
      (with_reducible first|refine kE (fun h3=>?_) (fun h3=>?_)|refine kG (fun h3=>?_) (fun h3=>?_))
      ·subst h3
       simp (disch:=omega) only[aR,seval,kC,kBb,sts_snoc,List.map_cons,List.map_nil]
       (repeat (with_reducible refine And.intro ?_ ?_;focus (first|omega|exact kD|kernel_rfl)))
       refine again _ ⟨⟨3,n,t⟩,encs (ds.take n.toNat),[]⟩ ?_ ?_
       rotate_left
       ·refine kQ [] [.live 2] ?_
        simp only[aR,seval,kBb,List.length_append]<;>((repeat' apply And.intro)<;>first|rfl|omega|trivial)
       ·simp
      ·simp (disch:=omega) only[aR,seval,kC,h3,kBb,sts_snoc,List.map_cons,List.map_nil]
       (repeat (with_reducible refine And.intro ?_ ?_;focus (first|omega|exact kD|kernel_rfl)))
       refine again _ ⟨⟨k,n,t⟩,encs (ds.take n.toNat),encs (ds.take n.toNat)⟩ ?_ ?_
       rotate_left
       ·refine kQ [] [.live 2] ?_
        simp only[aR,seval,kBb,List.length_append]<;>((repeat' apply And.intro)<;>first|rfl|omega|trivial)
       ·simp[h2,h3]
    ·have hin:i=l.length:=by omega
     simp only[aR,seval,h]
     rw[hin,List.drop_length,kB9,List.append_nil]at ho
     unfold kCJ stp
     rw[if_pos he,he,hcl,ho];rfl
   ·have he:errI s l=11:=by unfold errI;rw[if_pos hc,hp];simp only;rw[if_neg hb]
    simp only[aR,seval,hb]
    refine ⟨_,rfl,?_⟩
    simp only[aR,seval]
    unfold kCJ stp
    rw[he];rfl
 ·have he:errI s l=zA l:=by unfold errI;rw[if_neg hc]
  simp only[aR,seval,hc]
  refine ⟨_,rfl,?_⟩
  simp only[aR,seval]
  unfold kCJ stp
  rw[he,if_neg hc];rfl
theorem call_steps {Γ:Env} (hf:Γ.get 125=some kEL) {σ:AS} {dr:Bool} {s:List UInt8} {l:List Cp} {t:Nat} {ys:List AV} {d:Option Nat} {K:AS→Prop} (hy:ys=qC l) (hs:s.length≤1099511627776) (hl:okL l) (ht:t < 2)
    (hk:cont σ d (kCJ s l) K):kS Tryz.prog Γ dr σ 125 [.v (sv s),.sl t 3 ys] d K:=by
 subst hy
 refine kAq (C:=kEL) (i:=(⟨s,hs⟩,⟨l,hl⟩)) (r:=kCJ s l) hf rfl rfl rfl ?_ (fun _ h=>h) (by rw[stepsR_er];exact hk)<;>simp[AV.erL,AV.er,AV.tagsL,AV.tags,comps_er]<;>omega
end Go.Proofs
end
-- EAp2
section
namespace Go.Proofs
open Go Go.Rw
set_option maxRecDepth 100000
theorem pnt_width {l:List UInt8} (h:l≠[]):max ((pnt l).2:Int) 1=(Lib.decodeL l).2∧1≤(Lib.decodeL l).2:=by
 have hw:=Lib.decodeL_width l
 refine ⟨?_,hw⟩
 unfold pnt
 split
 ·rename_i hc
  rcases hc with ⟨_,h2⟩|h2
  ·simp only;omega
  ·by_cases hv:(Lib.decodeL l).1=65533∧(Lib.decodeL l).2=1
   ·simp only;omega
   ·obtain ⟨_,h3,_⟩:=kCX h hv
    rw[h2]at h3
    simp only
    rw[h3];rfl
 ·omega
theorem head_zero {l:List UInt8} (h:l≠[]) (h0:l.getD 0 0=0):(Lib.decodeL l).2=1:=by
 cases l with
 | nil=>exact absurd rfl h
 | cons x r =>
   simp only[List.getD_cons_zero]at h0
   subst h0
   have:=kBw (c:=0) (.inr rfl) r
   have e:enc 0++r=0::r:=rfl
   rw[e]at this
   rw[this];rfl
theorem loose_good:Rw.Good Tryz.prog 146 rcCon:=by
 have hΓ:kM Tryz.prog [(122,pntCon)]:=(kI kF8 kJ)
 refine kY (nn:=27) hΓ Tryz.func146 (by kernel_rfl) rfl (show Tryz.f146.results.toList=[.tmp 2] from rfl) (fun _=>rfl) (fun _=>rfl) ?_
 rintro ⟨s,hs⟩
 simp only[aR,seval]
 obtain ⟨St,hSt⟩:∃ St:{ p:Nat×Nat // p.1+lc (s.drop p.2)=lc s }→AS,∀ p,St p=AS.of 27 [(0,.v (sv s)),(3,.v (.int .i64 p.1.1)),(4,.v (.int .i64 p.1.2))] [] []:=⟨_,fun _=>rfl⟩
 refine qM hΓ St (fun p=>s.length - p.1.2) ⟨(0,0),by simp⟩ (by rw[hSt];refine kQ [] [] ?_;simp only[aR,seval]<;>((repeat' apply And.intro)<;>first|rfl|omega|trivial)) ?_
 rintro ⟨⟨k,i⟩,hk⟩
 simp only at hk
 have hlk:=lc_len s
 rw[hSt]
 simp only
 simp only[aR,seval]
 (with_reducible first|refine kE (fun h=>?_) (fun h=>?_)|refine kG (fun h=>?_) (fun h=>?_))
 ·have hlt:i < s.length:=by omega
  have hne:=drop_ne hlt
  have hw:=pnt_width hne
  have hsm:=pnt_small (s.drop i)
  have hle:(Lib.decodeL (s.drop i)).2≤4:=by omega
  rw[lc_step hne,List.drop_drop]at hk
  have again:∀ σ:AS,Weak σ (AS.of 27 [(0,.v (sv s)),(3,.v (.int .i64 (k+1:Nat))),(4,.v (.int .i64 (i+(Lib.decodeL (s.drop i)).2:Nat)))] [] [])→∃ y:{ p:Nat×Nat // p.1+lc (s.drop p.2)=lc s },s.length - y.1.2 < s.length - i∧Weak σ (St y):=fun σ hw2 =>
   ⟨⟨(k+1,i+(Lib.decodeL (s.drop i)).2),by simp only;omega⟩,by simp only;omega,by rw[hSt];exact hw2⟩
  simp (disch:=omega) only[aR,seval,kC,h]
  (repeat (with_reducible refine And.intro ?_ ?_;focus (first|omega|exact kD|kernel_rfl)))
  (with_reducible first|refine kE (fun h2=>?_) (fun h2=>?_)|refine kG (fun h2=>?_) (fun h2=>?_))
  ·simp (disch:=omega) only[aR,seval,kC,h2]
   refine kF7 (by simp[kH]) hs hlt ?_
   unfold pntR
   simp (disch:=omega) only[aR,seval,kC,zW,hw.1]
   refine again _ ?_
   refine kQ [] [] ?_
   simp only[aR,seval]<;>((repeat' apply And.intro)<;>first|rfl|omega|trivial)
  ·have h3:(s.drop i).getD 0 0=0:=by
     have h4:((s.getD i 0).toNat:Int)=0:=by omega
     have h5:s.getD i 0=0:=by
      have:(s.getD i 0).toNat=0:=by omega
      exact UInt8.toNat_inj.1 (by simpa using this)
     simp only[List.getD_eq_getElem?_getD,List.getElem?_drop,Nat.add_zero]at h5 ⊢
     exact h5
   have h6:=head_zero hne h3
   simp (disch:=omega) only[aR,seval,kC,h2,zW,show max (1:Int) 1=1 from rfl]
   refine again _ ?_
   rw[h6]
   refine kQ [] [] ?_
   simp only[aR,seval]<;>((repeat' apply And.intro)<;>first|rfl|omega|trivial)
 ·simp only[aR,seval,h]
  rw[List.drop_of_length_le (by omega),lc_nil]at hk
  omega
theorem call_loose {Γ:Env} (hf:Γ.get 146=some rcCon) {σ:AS} {dr:Bool} {l:List UInt8} {d:Option Nat} {K:AS→Prop} (h:l.length≤1099511627776)
    (hk:cont σ d (.v (.int .i64 (lc l))) K):kS Tryz.prog Γ dr σ 146 [.v (sv l)] d K :=
 kP (C:=rcCon) (i:=⟨l,h⟩) hf rfl rfl rfl rfl (fun _ h=>h) rfl hk
theorem rbase_good:Rw.Good Tryz.prog 97 kBF:=by
 have hΓ:kM Tryz.prog [(123,kEs)]:=(kI held_good kJ)
 refine kY (nn:=33) hΓ Tryz.func97 (by kernel_rfl) rfl (show Tryz.f97.results.toList=[.tmp 2] from rfl) (fun _=>rfl) (fun _=>rfl) ?_
 rintro ⟨l,hl,htot,hc⟩
 simp only[aR,seval,kL]
 obtain ⟨St,hSt⟩:∃ St:{ p:Int×Nat // p.2≤l.length∧0≤p.1∧p.1≤1099511627776∧kAY l=kDs p.1 (l.drop p.2) }→AS,∀ p,St p=AS.of 33 [(0,.sl 0 3 (qC l)),(3,.v (.int .i64 p.1.1)),(4,.v (.int .i64 p.1.2))] [] []:=⟨_,fun _=>rfl⟩
 refine qM hΓ St (fun p=>l.length - p.1.2) ⟨(0,0),by omega,by omega,by omega,rfl⟩ (by rw[hSt];refine kQ [] [] ?_;simp only[aR,seval]<;>((repeat' apply And.intro)<;>first|rfl|omega|trivial)) ?_
 rintro ⟨⟨n,i⟩,hi,hn1,hn2,hb⟩
 simp only at hi hn1 hn2 hb
 rw[hSt]
 simp only
 simp only[aR,seval,kL]
 (with_reducible first|refine kE (fun h=>?_) (fun h=>?_)|refine kG (fun h=>?_) (fun h=>?_))
 ·have hlt:i < l.length:=by omega
  have hcn:=hc l[i] (List.getElem_mem hlt)
  have e1:=qI l hlt
  rw[List.drop_eq_getElem_cons hlt]at hb
  simp only[kDs]at hb
  generalize l[i]=c at *
  obtain ⟨k,m,t⟩:=c
  simp only at hcn hb e1
  have yes:(k=1∨k=3)→kAY l=kDs (addI n (max m 0)) (l.drop (i+1)):=fun h=>by rw[hb,if_pos h]
  have no:¬ (k=1∨k=3)→kAY l=kDs n (l.drop (i+1)):=fun h=>by rw[hb,if_neg h]
  have hr:=qT hn1 (show 0≤max m 0 by omega)
  simp (disch:=omega) only[aR,seval,kC,h,e1,kL]
  (repeat (with_reducible refine And.intro ?_ ?_;focus (first|omega|exact kD|kernel_rfl)))
  (try ((with_reducible first|refine kE (fun q1=>?_) (fun q1=>?_)|refine kG (fun q1=>?_) (fun q1=>?_))<;>simp (disch:=omega) only[aR,seval,kC,q1,e1,kL]<;>(with_reducible first|(refine And.intro ?_ ?_;focus (first|omega|exact kD|kernel_rfl));(repeat (with_reducible refine And.intro ?_ ?_;focus (first|omega|exact kD|kernel_rfl)));(try simp (disch:=omega) only[aR,seval,kC,q1,e1,kL])|skip)<;>(try ((with_reducible first|refine kE (fun q2=>?_) (fun q2=>?_)|refine kG (fun q2=>?_) (fun q2=>?_))<;>simp (disch:=omega) only[aR,seval,kC,q2,e1,kL]<;>(with_reducible first|(refine And.intro ?_ ?_;focus (first|omega|exact kD|kernel_rfl));(repeat (with_reducible refine And.intro ?_ ?_;focus (first|omega|exact kD|kernel_rfl)));(try simp (disch:=omega) only[aR,seval,kC,q2,e1,kL])|skip)<;>skip))))
  all_goals first
   | (refine kET (by simp [kH]) ⟨hn1,hn2⟩ hcn ?_
      simp (disch:=omega) only[aR,seval,kC]
      refine kN ⟨(addI n (max m 0),i+1),by omega,hr.1,hr.2,yes (by omega)⟩ (by simp only;omega) ?_
      rw[hSt];refine kQ [] [] ?_
      simp only[aR,seval]<;>((repeat' apply And.intro)<;>first|rfl|omega|trivial))
   | (refine kN ⟨(n,i+1),by omega,hn1,hn2,no (by omega)⟩ (by simp only;omega) ?_
      rw[hSt];refine kQ [] [] ?_
      simp only[aR,seval]<;>((repeat' apply And.intro)<;>first|rfl|omega|trivial))
   | trace_state
 ·simp only[aR,seval,h]
  rw[List.drop_of_length_le (by omega)]at hb
  rw[hb];rfl
theorem call_rbase {Γ:Env} (hf:Γ.get 97=some kBF) {σ:AS} {dr:Bool} {l:List Cp} {t:Nat} {ys:List AV} {d:Option Nat} {K:AS→Prop} (hy:ys=qC l) (h:okL l)
    (hk:cont σ d (.v (.int .i64 (kAY l))) K):kS Tryz.prog Γ dr σ 97 [.sl t 3 ys] d K:=by
 subst hy
 exact kP (C:=kBF) (i:=⟨l,h⟩) hf rfl rfl rfl rfl (fun _ h=>h) rfl hk
theorem rout_good:Rw.Good Tryz.prog 117 kDi:=by
 have hΓ:kM Tryz.prog [(123,kEs),(146,rcCon)]:=(kI held_good (kI loose_good kJ))
 refine kY (nn:=36) hΓ Tryz.func117 (by kernel_rfl) rfl (show Tryz.f117.results.toList=[.tmp 2] from rfl) (fun _=>rfl) (fun _=>rfl) ?_
 rintro ⟨l,hl,htot,hc⟩
 simp only[aR,seval,kL]
 obtain ⟨St,hSt⟩:∃ St:{ p:Int×Nat // p.2≤l.length∧0≤p.1∧p.1≤1099511627776∧outL l=outF p.1 (l.drop p.2) }→AS,∀ p,St p=AS.of 36 [(0,.sl 0 3 (qC l)),(3,.v (.int .i64 p.1.1)),(4,.v (.int .i64 p.1.2))] [] []:=⟨_,fun _=>rfl⟩
 refine qM hΓ St (fun p=>l.length - p.1.2) ⟨(0,0),by omega,by omega,by omega,rfl⟩ (by rw[hSt];refine kQ [] [] ?_;simp only[aR,seval]<;>((repeat' apply And.intro)<;>first|rfl|omega|trivial)) ?_
 rintro ⟨⟨n,i⟩,hi,hn1,hn2,hb⟩
 simp only at hi hn1 hn2 hb
 rw[hSt]
 simp only
 simp only[aR,seval,kL]
 (with_reducible first|refine kE (fun h=>?_) (fun h=>?_)|refine kG (fun h=>?_) (fun h=>?_))
 ·have hlt:i < l.length:=by omega
  have hcn:=hc l[i] (List.getElem_mem hlt)
  have hct:=okL.text ⟨hl,htot,hc⟩ (List.getElem_mem hlt)
  have e1:=qI l hlt
  rw[List.drop_eq_getElem_cons hlt]at hb
  simp only[outF]at hb
  generalize l[i]=c at *
  obtain ⟨k,m,t⟩:=c
  simp only at hcn hct hb e1
  have hl1:k=1→outL l=outF (addI n (max m 0)) (l.drop (i+1)):=fun h=>by rw[hb,if_pos h]
  have hl2:¬ k=1→k=2→outL l=outF (addI n (lc t)) (l.drop (i+1)):=fun h h2=>by rw[hb,if_neg h,if_pos h2]
  have hl3:¬ k=1→¬ k=2→outL l=outF n (l.drop (i+1)):=fun h h2=>by rw[hb,if_neg h,if_neg h2]
  have hr:=qT hn1 (show 0≤max m 0 by omega)
  have hr2:=qT hn1 (show 0≤(lc t:Int) by omega)
  have hlt2:=lc_len t
  simp (disch:=omega) only[aR,seval,kC,h,e1,kL]
  (repeat (with_reducible refine And.intro ?_ ?_;focus (first|omega|exact kD|kernel_rfl)))
  (try ((with_reducible first|refine kE (fun q1=>?_) (fun q1=>?_)|refine kG (fun q1=>?_) (fun q1=>?_))<;>simp (disch:=omega) only[aR,seval,kC,q1,e1,kL]<;>(with_reducible first|(refine And.intro ?_ ?_;focus (first|omega|exact kD|kernel_rfl));(repeat (with_reducible refine And.intro ?_ ?_;focus (first|omega|exact kD|kernel_rfl)));(try simp (disch:=omega) only[aR,seval,kC,q1,e1,kL])|skip)<;>(try ((with_reducible first|refine kE (fun q2=>?_) (fun q2=>?_)|refine kG (fun q2=>?_) (fun q2=>?_))<;>simp (disch:=omega) only[aR,seval,kC,q2,e1,kL]<;>(with_reducible first|(refine And.intro ?_ ?_;focus (first|omega|exact kD|kernel_rfl));(repeat (with_reducible refine And.intro ?_ ?_;focus (first|omega|exact kD|kernel_rfl)));(try simp (disch:=omega) only[aR,seval,kC,q2,e1,kL])|skip)<;>skip))))
  all_goals first
   | (refine kET (by simp [kH]) ⟨hn1,hn2⟩ hcn ?_
      simp (disch:=omega) only[aR,seval,kC]
      refine kN ⟨(addI n (max m 0),i+1),by omega,hr.1,hr.2,hl1 (by omega)⟩ (by simp only;omega) ?_
      rw[hSt];refine kQ [] [] ?_
      simp only[aR,seval]<;>((repeat' apply And.intro)<;>first|rfl|omega|trivial))
   | (refine call_loose (by simp [kH]) hct ?_
      simp (disch:=omega) only[aR,seval,kC]
      refine kET (by simp[kH]) ⟨hn1,hn2⟩ (by omega) ?_
      simp (disch:=omega) only[aR,seval,kC]
      refine kN ⟨(addI n (lc t),i+1),by omega,hr2.1,hr2.2,hl2 (by omega) (by omega)⟩ (by simp only;omega) ?_
      rw[hSt];refine kQ [] [] ?_
      simp only[aR,seval,show max (lc t:Int) 0=lc t by omega]<;>((repeat' apply And.intro)<;>first|rfl|omega|trivial))
   | (refine kN ⟨(n,i+1),by omega,hn1,hn2,hl3 (by omega) (by omega)⟩ (by simp only;omega) ?_
      rw[hSt];refine kQ [] [] ?_
      simp only[aR,seval]<;>((repeat' apply And.intro)<;>first|rfl|omega|trivial))
   | trace_state
 ·simp only[aR,seval,h]
  rw[List.drop_of_length_le (by omega)]at hb
  rw[hb];rfl
theorem call_rout {Γ:Env} (hf:Γ.get 117=some kDi) {σ:AS} {dr:Bool} {l:List Cp} {t:Nat} {ys:List AV} {d:Option Nat} {K:AS→Prop} (hy:ys=qC l) (h:okL l)
    (hk:cont σ d (.v (.int .i64 (outL l))) K):kS Tryz.prog Γ dr σ 117 [.sl t 3 ys] d K:=by
 subst hy
 exact kP (C:=kDi) (i:=⟨l,h⟩) hf rfl rfl rfl rfl (fun _ h=>h) rfl hk
end Go.Proofs
end
-- EAp3
section
namespace Go.Proofs
open Go Go.Rw
set_option maxRecDepth 100000
theorem rnormal_good:Rw.Good Tryz.prog 116 jW:=by
 have hΓ:kM Tryz.prog [(55,jR)]:=(kI kEz kJ)
 refine kY (nn:=70) hΓ Tryz.func116 (by kernel_rfl) rfl (show Tryz.f116.results.toList=[.tmp 2] from rfl) (fun _=>rfl) (fun _=>rfl) ?_
 rintro ⟨l,hl,htot,hc⟩
 simp only[aR,seval,kL]
 obtain ⟨St,hSt⟩:∃ St:{ i:Nat // i≤l.length∧qJ l=zR (ahead l i) (l.drop i) }→AS,∀ i,St i=AS.of 70 [(0,.sl 0 3 (qC l)),(3,.v (.int .i64 i.1))] [] []:=⟨_,fun _=>rfl⟩
 refine qM hΓ St (fun i=>l.length - i.1) ⟨0,by omega,rfl⟩ (by rw[hSt];refine kQ [] [] ?_;simp only[aR,seval]<;>((repeat' apply And.intro)<;>first|rfl|omega|trivial)) ?_
 rintro ⟨i,hi,hb⟩
 rw[hSt]
 simp only
 simp only[aR,seval,kL]
 (with_reducible first|refine kE (fun h=>?_) (fun h=>?_)|refine kG (fun h=>?_) (fun h=>?_))
 ·have hlt:i < l.length:=by omega
  have hci:=okL.text ⟨hl,htot,hc⟩ (List.getElem_mem hlt)
  have e1:=qI l hlt
  rw[List.drop_eq_getElem_cons hlt]at hb
  simp only[zR]at hb
  have hne:ahead l (i+1)=some l[i]:=by simp[ahead,hlt]
  rw[← hne]at hb
  have again:∀ σ:AS,Weak σ (AS.of 70 [(0,.sl 0 3 (qC l)),(3,.v (.int .i64 (i+1:Nat)))] [] [])→qJ l=zR (ahead l (i+1)) (l.drop (i+1))→∃ y:{ i:Nat // i≤l.length∧qJ l=zR (ahead l i) (l.drop i) },l.length - y.1 < l.length - i∧Weak σ (St y):=fun σ hw hb2 =>
   ⟨⟨i+1,by omega,hb2⟩,by simp only;omega,by rw[hSt];exact hw⟩
  by_cases h0:i=0
  ·have hp:ahead l i=none:=by simp[ahead,h0]
   rw[hp]at hb
   simp only[Bool.and_true]at hb
   have no:qW l[i]=false∨False→qJ l=false:=fun h=>by
    rcases h with h|h
    ·rw[hb,h];rfl
    ·exact h.elim
   have yes:qW l[i]=true→qJ l=zR (ahead l (i+1)) (l.drop (i+1)):=fun h=>by rw[hb,h];rfl
   generalize l[i]=c at *
   obtain ⟨k,n,t⟩:=c
   simp only at *
   have hz:¬ (i:Int) > 0:=by omega
   have hi3:0≤(i:Int):=by omega
   by_cases k13:k=1∨k=3
   ·rcases k13 with rfl|rfl
    all_goals
     by_cases n1:n < 1
     ·have n2:¬ n > 0:=by omega
      simp (disch:=omega) only[aR,seval,kC,h,e1,kL,hz,hi3,n1,no (.inl (by simp[qW,n2]))]
     ·have n2:n > 0:=by omega
      by_cases t0:t=[]
      ·subst t0
       simp (disch:=omega) only[aR,seval,kC,h,e1,kL,hz,hi3,n1]
       (repeat (with_reducible refine And.intro ?_ ?_;focus (first|omega|exact kD|kernel_rfl)))
       refine again _ ?_ (yes (by simp[qW,n2]))
       refine kQ [] [] ?_
       simp only[aR,seval]<;>((repeat' apply And.intro)<;>first|rfl|omega|trivial)
      ·simp (disch:=omega) only[aR,seval,kC,h,e1,kL,hz,hi3,n1,t0,no (.inl (by simp[qW,t0]))]
   ·have k1:¬ k=1:=by omega
    have k3:¬ k=3:=by omega
    by_cases k2:k=2
    ·subst k2
     by_cases n0:n=0
     ·subst n0
      by_cases t0:t=[]
      ·subst t0
       simp (disch:=omega) only[aR,seval,kC,h,e1,kL,hz,hi3,no (.inl (by simp[qW]))]
      ·simp (disch:=omega) only[aR,seval,kC,h,e1,kL,hz,hi3,t0]
       refine kBM (by simp[kH]) hci ?_
       cases hv:(pts t).isSome with
       | false=>simp (disch:=omega) only [aR,seval,kC,h,e1,kL,hz,hi3,hv,no (.inl (by simp [qW,hv]))]
       | true =>
         simp (disch:=omega) only[aR,seval,kC,h,e1,kL,hz,hi3,hv]
         (repeat (with_reducible refine And.intro ?_ ?_;focus (first|omega|exact kD|kernel_rfl)))
         refine again _ ?_ (yes (by simp[qW,hv,t0]))
         refine kQ [] [] ?_
         simp only[aR,seval]<;>((repeat' apply And.intro)<;>first|rfl|omega|trivial)
     ·simp (disch:=omega) only[aR,seval,kC,h,e1,kL,hz,hi3,n0,no (.inl (by simp[qW,n0]))]
    ·simp (disch:=omega) only[aR,seval,kC,h,e1,kL,hz,hi3,k1,k2,k3,no (.inl (by simp[qW,k1,k2,k3]))]
  ·have hp:ahead l i=some l[i - 1]:=by simp[ahead,h0]
   have e2:(qC l).getD (i - 1) .any = .agg [.v (.int .i64 l[i - 1].k),.v (.int .i64 l[i - 1].n),.v (sv l[i - 1].t)]:=qI l (by omega)
   have e3:((i:Int) - 1).toNat=i - 1:=by omega
   rw[hp]at hb
   simp only at hb
   have no:qW l[i]=false∨follows l[i - 1] l[i]=false→qJ l=false:=fun h=>by
    rcases h with h|h
    ·rw[hb,h];rfl
    ·rw[hb,h];simp
   have yes:qW l[i]=true→follows l[i - 1] l[i]=true→qJ l=zR (ahead l (i+1)) (l.drop (i+1)):=fun h h2=>by rw[hb,h,h2];rfl
   generalize l[i - 1]=pc at *
   generalize l[i]=c at *
   obtain ⟨k,n,t⟩:=c
   obtain ⟨pk0,pn,pt⟩:=pc
   simp only at *
   have hz:(i:Int) > 0:=by omega
   have hi3:0≤(i:Int):=by omega
   have hi4:0≤(i:Int) - 1∧(i:Int) - 1 < l.length:=by omega
   by_cases k13:k=1∨k=3
   ·rcases k13 with rfl|rfl
    all_goals
     by_cases n1:n < 1
     ·have n2:¬ n > 0:=by omega
      simp (disch:=omega) only[aR,seval,kC,h,e1,e2,e3,kL,hz,hi3,hi4,n1,no (.inl (by simp[qW,n2]))]
     ·have n2:n > 0:=by omega
      by_cases t0:t=[]
      ·subst t0
       first
        | (by_cases pk:pk0=1
           ·simp (disch:=omega) only[aR,seval,kC,h,e1,e2,e3,kL,hz,hi3,hi4,n1,pk,no (.inr (by simp[follows,pk];done))]
            all_goals exact ⟨kD,by kernel_rfl⟩
           ·simp (disch:=omega) only[aR,seval,kC,h,e1,e2,e3,kL,hz,hi3,hi4,n1,pk]
            (repeat (with_reducible refine And.intro ?_ ?_;focus (first|omega|exact kD|kernel_rfl)))
            refine again _ ?_ (yes (by simp[qW,n2]) (by simp[follows,pk];done))
            refine kQ [] [] ?_
            simp only[aR,seval]<;>((repeat' apply And.intro)<;>first|rfl|omega|trivial))
        | (by_cases pk:pk0=3
           ·simp (disch:=omega) only[aR,seval,kC,h,e1,e2,e3,kL,hz,hi3,hi4,n1,pk,no (.inr (by simp[follows,pk];done))]
            all_goals exact ⟨kD,by kernel_rfl⟩
           ·simp (disch:=omega) only[aR,seval,kC,h,e1,e2,e3,kL,hz,hi3,hi4,n1,pk]
            (repeat (with_reducible refine And.intro ?_ ?_;focus (first|omega|exact kD|kernel_rfl)))
            refine again _ ?_ (yes (by simp[qW,n2]) (by simp[follows,pk];done))
            refine kQ [] [] ?_
            simp only[aR,seval]<;>((repeat' apply And.intro)<;>first|rfl|omega|trivial))
      ·simp (disch:=omega) only[aR,seval,kC,h,e1,e2,e3,kL,hz,hi3,hi4,n1,t0,no (.inl (by simp[qW,t0]))]
   ·have k1:¬ k=1:=by omega
    have k3:¬ k=3:=by omega
    by_cases k2:k=2
    ·subst k2
     by_cases n0:n=0
     ·subst n0
      by_cases t0:t=[]
      ·subst t0
       simp (disch:=omega) only[aR,seval,kC,h,e1,e2,e3,kL,hz,hi3,hi4,no (.inl (by simp[qW]))]
      ·simp (disch:=omega) only[aR,seval,kC,h,e1,e2,e3,kL,hz,hi3,hi4,t0]
       refine kBM (by simp[kH]) hci ?_
       cases hv:(pts t).isSome with
       | false=>simp (disch:=omega) only [aR,seval,kC,h,e1,e2,e3,kL,hz,hi3,hi4,hv,no (.inl (by simp [qW,hv]))]
       | true =>
         by_cases pk:pk0=3
         ·simp (disch:=omega) only[aR,seval,kC,h,e1,e2,e3,kL,hz,hi3,hi4,hv,pk,no (.inr (by simp[follows,pk]))]
          all_goals exact ⟨kD,by kernel_rfl⟩
         ·by_cases pl:pk0=2
          ·simp (disch:=omega) only[aR,seval,kC,h,e1,e2,e3,kL,hz,hi3,hi4,hv,pl,no (.inr (by simp[follows,pl]))]
           all_goals exact ⟨kD,by kernel_rfl⟩
          ·simp (disch:=omega) only[aR,seval,kC,h,e1,e2,e3,kL,hz,hi3,hi4,hv,pk,pl]
           (repeat (with_reducible refine And.intro ?_ ?_;focus (first|omega|exact kD|kernel_rfl)))
           refine again _ ?_ (yes (by simp[qW,hv,t0]) (by simp[follows,pk,pl]))
           refine kQ [] [] ?_
           simp only[aR,seval]<;>((repeat' apply And.intro)<;>first|rfl|omega|trivial)
     ·simp (disch:=omega) only[aR,seval,kC,h,e1,e2,e3,kL,hz,hi3,hi4,n0,no (.inl (by simp[qW,n0]))]
    ·simp (disch:=omega) only[aR,seval,kC,h,e1,e2,e3,kL,hz,hi3,hi4,k1,k2,k3,no (.inl (by simp[qW,k1,k2,k3]))]
 ·simp only[aR,seval,h]
  rw[List.drop_of_length_le (by omega)]at hb
  rw[hb];rfl
end Go.Proofs
end
-- EAp4
section
namespace Go.Proofs
open Go Go.Rw
set_option maxRecDepth 100000
theorem call_rnormal {Γ:Env} (hf:Γ.get 116=some jW) {σ:AS} {dr:Bool} {l:List Cp} {t:Nat} {ys:List AV} {d:Option Nat} {K:AS→Prop} (hy:ys=qC l) (h:okL l)
    (hk:cont σ d (.v (.bool (qJ l))) K):kS Tryz.prog Γ dr σ 116 [.sl t 3 ys] d K:=by
 subst hy
 exact kP (C:=jW) (i:=⟨l,h⟩) hf rfl rfl rfl rfl (fun _ h=>h) rfl hk
theorem rcheck_good:Rw.Good Tryz.prog 86 kBl:=by
 have hΓ:kM Tryz.prog [(116,jW),(97,kBF),(117,kDi)]:=(kI rnormal_good (kI rbase_good (kI rout_good kJ)))
 refine kY (nn:=20) hΓ Tryz.func86 (by kernel_rfl) rfl (show Tryz.f86.results.toList=[.tmp 2] from rfl) (fun _=>rfl) (fun _=>rfl) ?_
 rintro ⟨l,hl⟩
 simp only[aR,seval,kL]
 have c1:100 < (l.length:Int)→zA l=3:=fun h=>by rw[zA,if_pos (by omega)]
 have c2:¬ 100 < (l.length:Int)→qJ l=false→zA l=1:=fun h h2=>by rw[zA,if_neg (by omega),if_pos h2]
 have c3:¬ 100 < (l.length:Int)→qJ l=true→(kAY l > 2000∨outL l > 2000)→zA l=3:=fun h h2 h3=>by rw[zA,if_neg (by omega),if_neg (by rw[h2];decide),if_pos h3]
 have c4:¬ 100 < (l.length:Int)→qJ l=true→¬ (kAY l > 2000∨outL l > 2000)→zA l=0:=fun h h2 h3=>by rw[zA,if_neg (by omega),if_neg (by rw[h2];decide),if_neg h3]
 (with_reducible first|refine kE (fun h=>?_) (fun h=>?_)|refine kG (fun h=>?_) (fun h=>?_))
 ·simp only[aR,seval,h,c1 (by omega)]
 ·simp only[aR,seval,h]
  refine call_rnormal (by simp[kH]) rfl hl ?_
  cases hn:qJ l with
  | false=>simp only [aR,seval,hn,c2 (by omega) hn]
  | true =>
    simp only[aR,seval,hn]
    refine call_rbase (by simp[kH]) rfl hl ?_
    simp only[aR,seval]
    by_cases h1:kAY l > 2000
    ·simp only[aR,seval,h1,c3 (by omega) hn (.inl (by omega))]
    ·simp only[aR,seval,h1]
     refine call_rout (by simp[kH]) rfl hl ?_
     simp only[aR,seval]
     by_cases h2:outL l > 2000
     ·simp only[aR,seval,h2,c3 (by omega) hn (.inr (by omega))]
     ·simp only[aR,seval,h2,c4 (by omega) hn (by omega)]
def doR (s:List UInt8) (l:List Cp):AV:=res2 (.v (sv (jE s l))) (errI s l)
abbrev doCon:Con where
 ι:=Str×Ed
 args:=fun p=>[.v (sv p.1.1),.sl 0 3 (qC p.2.1)]
 post:=fun p r=>r=doR p.1.1 p.2.1
 plain:=true
theorem stp_puts (s:List UInt8) (l:List Cp):(stp s l).flatMap Sp.puts=jE s l∧(jE s l).length≤8000:=by
 unfold stp jE
 by_cases he:errI s l=0
 ·rw[if_pos he,if_pos he]
  obtain ⟨hc,_,hb,hf⟩:=err_zero he
  have hcc:=kAG hc
  have ho:=out_do l (cpts s) 0 (by omega) hf hcc.2.2.2.2.2
  have h4:=kFD (cs:=doL (cpts s) l)
  have:outL l=outF 0 l:=rfl
  exact ⟨kF9 l _ hf,by omega⟩
 ·rw[if_neg he,if_neg he];exact ⟨rfl,by simp⟩
theorem take_puts (S:List Sp) (i:Nat) (h:i < S.length):(S.take (i+1)).flatMap Sp.puts=(S.take i).flatMap Sp.puts++S[i].puts:=by
 rw[List.take_succ_eq_append_getElem h,List.flatMap_append];simp
theorem take_puts_le (S:List Sp) (i:Nat):((S.take i).flatMap Sp.puts).length≤(S.flatMap Sp.puts).length:=by
 conv=>rhs;rw[← List.take_append_drop i S]
 rw[List.flatMap_append,List.length_append];omega
theorem stp_len (s:List UInt8) (l:List Cp):(stp s l).length≤100:=by
 unfold stp
 split
 ·rename_i he
  have:=(kAG (err_zero he).1).1
  rw[kFB];exact this
 ·simp
theorem do_good:Rw.Good Tryz.prog 100 doCon:=by
 have hΓ:kM Tryz.prog [(125,kEL)]:=(kI steps_good kJ)
 refine kY (nn:=30) hΓ Tryz.func100 (by kernel_rfl) rfl (show Tryz.f100.results.toList=[.tmp 4,.tmp 5] from rfl) (fun _=>rfl) (fun _=>rfl) ?_
 rintro ⟨⟨s,hs⟩,⟨l,hl⟩⟩
 simp only[aR,seval]
 refine call_steps (by simp[kH]) rfl hs hl (by omega) ?_
 obtain ⟨hp1,hp2⟩:=stp_puts s l
 have hle:=take_puts_le (stp s l)
 have hlen:=stp_len s l
 have hdo:doR s l=res2 (.v (sv ((stp s l).flatMap Sp.puts))) (errI s l):=by unfold doR;rw[hp1]
 rw[← hp1]at hp2
 simp only[aR,seval,kCJ,res2,kBb]
 generalize stp s l=S at *
 obtain ⟨St,hSt⟩:∃ St:{ i:Nat // i≤S.length }→AS,∀ i,St i=AS.of 30 [(6,.v (sv ((S.take i.1).flatMap Sp.puts))),(8,.v (.int .i64 (errI s l))),(17,.sl 0 5 (sts S)),(18,.v (.int .i64 S.length)),(19,.v (.int .i64 i.1))] [] []:=⟨_,fun _=>rfl⟩
 refine qM hΓ St (fun i=>S.length - i.1) ⟨0,by omega⟩ (by rw[hSt];refine kQ [] [] ?_;simp only[aR,seval,List.take_zero,List.flatMap_nil]<;>((repeat' apply And.intro)<;>first|rfl|omega|trivial)) ?_
 rintro ⟨i,hi⟩
 rw[hSt]
 simp only
 simp only[aR,seval]
 (with_reducible first|refine kE (fun h=>?_) (fun h=>?_)|refine kG (fun h=>?_) (fun h=>?_))
 ·have hlt:i < S.length:=by omega
  have e1:=sts_getD S hlt
  have h1:=hle i
  have h2:=hle (i+1)
  have htp:=take_puts S i hlt
  rw[htp,List.length_append]at h2
  simp (disch:=omega) only[aR,seval,kC,h,e1,kBb]
  (repeat (with_reducible refine And.intro ?_ ?_;focus (first|omega|exact kD|kernel_rfl)))
  refine kN ⟨i+1,by omega⟩ (by simp only;omega) ?_
  rw[hSt]
  simp only
  rw[htp]
  refine kQ [] [] ?_
  simp only[aR,seval]<;>((repeat' apply And.intro)<;>first|rfl|omega|trivial)
 ·have hin:i=S.length:=by omega
  simp only[aR,seval,h,hin,List.take_length]
  rw[hdo];rfl
theorem call_do {Γ:Env} {f:Nat} (hf:Γ.get f=some doCon) {σ:AS} {dr:Bool} {s:List UInt8} {l:List Cp} {t:Nat} {ys:List AV} {d:Option Nat} {K:AS→Prop} (hy:ys=qC l) (hs:s.length≤1099511627776) (hl:okL l)
    (hk:cont σ d (doR s l) K):kS Tryz.prog Γ dr σ f [.v (sv s),.sl t 3 ys] d K:=by
 subst hy
 exact kP (C:=doCon) (i:=(⟨s,hs⟩,⟨l,hl⟩)) hf rfl rfl rfl rfl (fun _ h=>h) rfl hk
end Go.Proofs
end
-- EAq0
section
namespace Go.Proofs
open Go Go.Rw
set_option maxRecDepth 100000
abbrev kED:Con where
 ι:=Wide×{ m:Int // 0≤m∧m≤1000000 }
 args:=fun p=>[.sl 0 3 (qC p.1.1),.v (.int .i64 p.2.1)]
 post:=fun p r=>r = .v (.int .i64 (zJ p.2.1 0 p.1.1))
 plain:=true
theorem weigh_good:Rw.Good Tryz.prog 94 kED:=by
 have hΓ:kM Tryz.prog [(93,kFk)]:=(kI sum_good kJ)
 refine kY (nn:=28) hΓ Tryz.func94 (by kernel_rfl) rfl (show Tryz.f94.results.toList=[.tmp 4] from rfl) (fun _=>rfl) (fun _=>rfl) ?_
 rintro ⟨⟨l,hl,hc⟩,⟨m,hm⟩⟩
 simp only[aR,seval,kL]
 obtain ⟨St,hSt⟩:∃ St:{ p:Int×Nat // p.2≤l.length∧(0≤p.1∧p.1≤1099511627776)∧zJ m 0 l=zJ m p.1 (l.drop p.2) }→AS,∀ p,St p=AS.of 28 [(0,.sl 0 3 (qC l)),(1,.v (.int .i64 m)),(5,.v (.int .i64 p.1.1)),(6,.v (.int .i64 p.1.2))] [] []:=⟨_,fun _=>rfl⟩
 refine qM hΓ St (fun p=>l.length - p.1.2) ⟨(0,0),by omega,by simp only;omega,rfl⟩ (by rw[hSt];refine kQ [] [] ?_;simp only[aR,seval]<;>((repeat' apply And.intro)<;>first|rfl|omega|trivial)) ?_
 rintro ⟨⟨s,i⟩,hi,hs,hb⟩
 simp only at hi hs hb
 rw[hSt]
 simp only
 simp only[aR,seval,kL]
 (with_reducible first|refine kE (fun h=>?_) (fun h=>?_)|refine kG (fun h=>?_) (fun h=>?_))
 ·have hlt:i < l.length:=by omega
  have hci:=hc l[i] (List.getElem_mem hlt)
  have e1:=qI l hlt
  rw[List.drop_eq_getElem_cons hlt,zJ]at hb
  generalize l[i]=c at *
  obtain ⟨k,n,t⟩:=c
  simp only at hci hb e1
  simp (disch:=omega) only[aR,seval,kC,h]
  (with_reducible first|refine kE (fun h2=>?_) (fun h2=>?_)|refine kG (fun h2=>?_) (fun h2=>?_))
  ·simp (disch:=omega) only[aR,seval,kC,h2,e1,kL]
   (repeat (with_reducible refine And.intro ?_ ?_;focus (first|omega|exact kD|kernel_rfl)))
   refine call_sum (by simp[kH]) (y:=[(t.length:Int),2]) rfl hs (by simp;omega) (by simp) ?_
   simp (disch:=omega) only[aR,seval,kC]
   rw[if_pos h2]at hb
   have hr:=kAr [(t.length:Int),2] hs (by simp)
   refine kN ⟨(sumF s [(t.length:Int),2],i+1),by simp only;omega,by simp only;omega,hb⟩ (by simp only;omega) ?_
   rw[hSt];refine kQ [] [] ?_
   simp only[aR,seval]<;>((repeat' apply And.intro)<;>first|rfl|omega|trivial)
  ·simp (disch:=omega) only[aR,seval,kC,h2]
   rw[hb,if_neg h2]
 ·simp only[aR,seval,h]
  rw[List.drop_of_length_le (by omega)]at hb
  rw[hb];rfl
theorem call_weigh {Γ:Env} (hf:Γ.get 94=some kED) {σ:AS} {dr:Bool} {l:List Cp} {m:Int} {t:Nat} {ys:List AV} {d:Option Nat} {K:AS→Prop} (hy:ys=qC l) (h1:l.length≤9223372036854775807) (h2:∀ c∈l,c.t.length≤9223372036854775807) (hm:0≤m∧m≤1000000)
    (hk:cont σ d (.v (.int .i64 (zJ m 0 l))) K):kS Tryz.prog Γ dr σ 94 [.sl t 3 ys,.v (.int .i64 m)] d K:=by
 subst hy
 exact kP (C:=kED) (i:=(⟨l,h1,h2⟩,⟨m,hm⟩)) hf rfl rfl rfl rfl (fun _ h=>h) rfl hk
theorem weigh_ok {l:List Cp} {m:Int} (hm:m≤1000000) (hc:∀ c∈l,(-9223372036854775808≤c.n∧c.n≤9223372036854775807)∧c.t.length≤9223372036854775807) (h:zJ m 0 l≤m):okL l∧(tot l:Int)+2 * l.length≤m:=by
 have hle:=compsF_le (m:=m) (by omega) l (s:=0) (by omega) h
 exact ⟨⟨by omega,by omega,fun c hc'=>(hc c hc').1⟩,by omega⟩
theorem cpts_len (t:List UInt8):(cpts t).length≤t.length:=by
 unfold cpts
 cases h:pts t with
 | none=>simp
 | some cs =>
   obtain ⟨_,e⟩:=kBN h
   have:=encs_le cs
   rw[← e]at this
   exact this
theorem kBJ (t:List UInt8):cnt t=(cpts t).length:=by
 unfold cnt cpts
 cases h:pts t<;>rfl
end Go.Proofs
end
-- EUk0
section
namespace Go.Proofs
open Go Go.Rw
set_option maxRecDepth 100000
structure Nd where
 id:Int
 par:Int
 nm:List UInt8
 dir:Bool
 text:List UInt8
 deriving Inhabited,DecidableEq
def nA (x:Nd):AV:=.agg [.v (.int .i64 x.id),.v (.int .i64 x.par),.v (sv x.nm),.v (.bool x.dir),.v (sv x.text)]
def k6 (l:List Nd):List AV:=l.map nA
theorem kEy:k6 []=[]:=rfl
theorem kK (l:List Nd):(k6 l).length=l.length:=by simp[k6]
theorem qA (l:List Nd) {i:Nat} (h:i < l.length):(k6 l).getD i .any=nA l[i]:=by simp[k6,List.getD_eq_getElem?_getD,h]
theorem nodes_take (l:List Nd) (i:Nat):(k6 l).take i=k6 (l.take i):=by simp[k6,List.map_take]
theorem nA_er (x:Nd):(nA x).er=nA x:=by simp[nA,AV.er,AV.erL]
theorem kBO:∀ l:List Nd,AV.erL (k6 l)=k6 l
 | []=>rfl
 | x::l=>by simp only [k6,List.map_cons,AV.erL,nA_er];rw [show List.map nA l=k6 l from rfl,kBO l]
def kAb:Nd:=⟨0,0,[],false,[]⟩
def ndx (id:Int):List Nd→Nat
 | []=>0
 | x::l=>if x.id=id then 0 else ndx id l+1
def ndI (id:Int) (l:List Nd):Int:=if ndx id l < l.length then (ndx id l:Int) else -1
theorem ndx_le (id:Int):∀ l:List Nd,ndx id l≤l.length
 | []=>Nat.le_refl _
 | x::l=>by
   have:=ndx_le id l
   rw[ndx];split<;>simp only[List.length_cons]<;>omega
theorem ndx_get (id:Int):∀ (l:List Nd) (h:ndx id l < l.length),(l[ndx id l]).id=id
 | x::l,h=>by
   by_cases hx:x.id=id
   ·simp[ndx,hx]
   ·have e:ndx id (x::l)=ndx id l+1:=by rw[ndx,if_neg hx]
    simp only[e,List.getElem_cons_succ]
    exact ndx_get id l (by rw[e]at h;simpa using h)
theorem ndx_mem (id:Int):∀ l:List Nd,ndx id l < l.length↔∃ x∈l,x.id=id
 | []=>by simp [ndx]
 | x::l=>by
   rw[ndx]
   by_cases hx:x.id=id
   ·rw[if_pos hx];simp[hx]
   ·rw[if_neg hx];simp[hx,ndx_mem id l]
def kid (par:Int) (nm:List UInt8):List Nd→Int
 | []=>-1
 | x::l=>if x.par=par∧x.nm=nm then x.id else kid par nm l
def inN (l:List Nd) (top:Int):Nat→Int→Bool
 | 0,_=>true
 | n+1,id=>if id=top then true else if ndx id l < l.length then inN l top n (l.getD (ndx id l) kAb).par else false
def zQ (l:List Nd) (id top:Int):Bool:=inN l top (l.length+1) id
def kEt (l:List Nd) (par:Int) (nm:List UInt8) (id:Int):Int:=if 0≤kid par nm l∧kid par nm l≠id then 6 else 0
def j5 (l:List Nd) (par:Int) (nm:List UInt8) (id:Int):Int :=
 if par=0 then kEt l par nm id
 else if ndx par l < l.length then (if (l.getD (ndx par l) kAb).dir=false then 8 else if id > 0∧zQ l par id=true then 10 else kEt l par nm id)
 else 5
def totN:List Nd→Nat
 | []=>0
 | x::l=>cnt x.text+totN l
def atN (id:Int):List Nd→Nat
 | []=>0
 | x::l=>if x.id < id then atN id l+1 else 0
theorem atN_le (id:Int):∀ l:List Nd,atN id l≤l.length
 | []=>Nat.le_refl _
 | x::l=>by
   have:=atN_le id l
   rw[atN];split<;>simp only[List.length_cons]<;>omega
def doN (l:List Nd) (a:Ac):List Nd×Int :=
 let x:=l.getD (ndx a.id l) kAb
 if a.k=1 then
  if a.id < 1∨a.id > 1099511627776∨qE a.nm=false then (l,1)
  else if ndx a.id l < l.length then (l,6)
  else if j5 l a.par a.nm 0≠0 then (l,j5 l a.par a.nm 0)
  else if l.length ≥ 100 then (l,4)
  else (l.take (atN a.id l)++⟨a.id,a.par,a.nm,a.dir,[]⟩::l.drop (atN a.id l),0)
 else if a.k=2 then
  if ¬ ndx a.id l < l.length then (l,5)
  else if (l.any fun y=>decide (y.par=a.id))=true then (l,9)
  else (l.take (ndx a.id l)++l.drop (ndx a.id l+1),0)
 else if a.k=3 then
  if qE a.nm=false then (l,1)
  else if ¬ ndx a.id l < l.length then (l,5)
  else if j5 l a.par a.nm a.id≠0 then (l,j5 l a.par a.nm a.id)
  else (l.set (ndx a.id l) ⟨x.id,a.par,a.nm,x.dir,x.text⟩,0)
 else if a.k=4 then
  if ¬ ndx a.id l < l.length then (l,5)
  else if x.dir=true then (l,8)
  else if errI x.text a.ops≠0 then (l,errI x.text a.ops)
  else if (totN (l.set (ndx a.id l) ⟨x.id,x.par,x.nm,x.dir,jE x.text a.ops⟩):Int) > 10000 then (l,4)
  else (l.set (ndx a.id l) ⟨x.id,x.par,x.nm,x.dir,jE x.text a.ops⟩,0)
 else (l,1)
structure Alln where
 now:List Nd
 n:Int
 e:Int
 deriving DecidableEq
def allF (t:List Nd):List Ac→Nat→Alln
 | [],n=>⟨t,n,0⟩
 | a::r,n=>if (doN t a).2≠0 then ⟨[],n,(doN t a).2⟩ else allF (doN t a).1 r (n+1)
def allN (t:List Nd) (l:List Ac):Alln:=if txnE l≠0 then ⟨[],-1,txnE l⟩ else allF t l 0
def bkI (x:Int) (l:List Int):Nat→Nat
 | 0=>0
 | k+1=>if l.getD k 0 > x then bkI x l k else k+1
def insI (l:List Int) (x:Int):List Int:=if 0 < bkI x l l.length∧l.getD (bkI x l l.length - 1) 0=x then l else l.take (bkI x l l.length)++x::l.drop (bkI x l l.length)
def kAU (a:Ac):List Int:=a.id::(if kCg a=true∧a.par≠0 then [a.par] else [])
def kAa:List Int→List Ac→List Int
 | out,[]=>out
 | out,a::r=>kAa ((kAU a).foldl insI out) r
theorem bkI_le (x:Int) (l:List Int):∀ k,bkI x l k≤k
 | 0=>Nat.le_refl _
 | k+1=>by
   have:=bkI_le x l k
   rw[bkI];split<;>omega
theorem mem_insI (l:List Int) (x y:Int):y∈insI l x↔y∈l∨y=x:=by
 have hb:=bkI_le x l l.length
 unfold insI
 split
 ·rename_i h
  constructor
  ·exact .inl
  ·rintro (h1|h1)
   ·exact h1
   ·rw[h1,← h.2,List.getD_eq_getElem?_getD,List.getElem?_eq_getElem (by omega)]
    exact List.getElem_mem _
 ·have e:l=l.take (bkI x l l.length)++l.drop (bkI x l l.length):=(List.take_append_drop _ _).symm
  rw[List.mem_append,List.mem_cons]
  constructor
  ·rintro (h1|h1|h1)
   ·exact .inl (List.mem_of_mem_take h1)
   ·exact .inr h1
   ·exact .inl (List.mem_of_mem_drop h1)
  ·rintro (h1|h1)
   ·rw[e,List.mem_append]at h1
    rcases h1 with h1|h1
    ·exact .inl h1
    ·exact .inr (.inr h1)
   ·exact .inr (.inl h1)
theorem mem_foldI:∀ (xs out:List Int) (y:Int),y∈xs.foldl insI out↔y∈out∨y∈xs
 | [],out,y=>by simp
 | x::xs,out,y=>by
   rw[List.foldl_cons,mem_foldI xs,mem_insI]
   simp only[List.mem_cons]
   constructor
   ·rintro ((h|h)|h)
    ·exact .inl h
    ·exact .inr (.inl h)
    ·exact .inr (.inr h)
   ·rintro (h|h|h)
    ·exact .inl (.inl h)
    ·exact .inl (.inr h)
    ·exact .inr h
theorem kEw:∀ (l:List Ac) (out:List Int) (y:Int),y∈kAa out l↔y∈out∨∃ a∈l,y∈kAU a
 | [],out,y=>by simp [kAa]
 | a::l,out,y=>by
   rw[kAa,kEw l,mem_foldI]
   simp only[List.mem_cons,exists_eq_or_imp]
   constructor
   ·rintro ((h|h)|h)
    ·exact .inl h
    ·exact .inr (.inl h)
    ·exact .inr (.inr h)
   ·rintro (h|h|h)
    ·exact .inl (.inl h)
    ·exact .inl (.inr h)
    ·exact .inr h
end Go.Proofs
end
-- EUk1
section
namespace Go.Proofs
open Go Go.Rw
set_option maxRecDepth 100000
abbrev NdsL:={ l:List Nd // l.length≤1099511627776 }
abbrev kBi:Con where
 ι:=NdsL×Int
 args:=fun p=>[.sl 0 5 (k6 p.1.1),.v (.int .i64 p.2)]
 post:=fun p r=>r = .v (.int .i64 (ndI p.2 p.1.1))
 plain:=true
theorem kD5:Rw.Good Tryz.prog 48 kBi:=by
 have hΓ:kM Tryz.prog []:=kJ
 refine kY (nn:=20) hΓ Tryz.func48 (by kernel_rfl) rfl (show Tryz.f48.results.toList=[.tmp 4] from rfl) (fun _=>rfl) (fun x=>by simp[AV.erL,AV.er]) ?_
 rintro ⟨⟨l,hl⟩,id⟩
 simp only[aR,seval,kK]
 obtain ⟨St,hSt⟩:∃ St:{ i:Nat // i≤l.length∧ndx id l=i+ndx id (l.drop i) }→AS,∀ i,St i=AS.of 20 [(0,.sl 0 5 (k6 l)),(1,.v (.int .i64 id)),(5,.v (.int .i64 i.1))] [] []:=⟨_,fun _=>rfl⟩
 refine qM hΓ St (fun i=>l.length - i.1) ⟨0,by omega,by simp⟩ (by rw[hSt];refine kQ [] [] ?_;simp only[aR,seval]<;>((repeat' apply And.intro)<;>first|rfl|omega|trivial)) ?_
 rintro ⟨i,hi,hf⟩
 rw[hSt]
 simp only
 simp only[aR,seval,kK]
 (with_reducible first|refine kE (fun h=>?_) (fun h=>?_)|refine kG (fun h=>?_) (fun h=>?_))
 ·have hlt:i < l.length:=by omega
  have e1:=qA l hlt
  rw[List.drop_eq_getElem_cons hlt,ndx]at hf
  generalize l[i]=x at *
  by_cases hx:x.id=id
  ·rw[if_pos hx]at hf
   simp only[aR,seval,h,e1,nA,kK,hx]
   (repeat (with_reducible refine And.intro ?_ ?_;focus (first|omega|exact kD|kernel_rfl)))
   rw[ndI,if_pos (by omega),hf,Nat.add_zero]
  ·rw[if_neg hx]at hf
   simp only[aR,seval,h,e1,nA,kK,hx,kC (n:=(i:Int)+1) (by omega) (by omega)]
   (repeat (with_reducible refine And.intro ?_ ?_;focus (first|omega|exact kD|kernel_rfl)))
   refine kN ⟨i+1,by omega,by omega⟩ (by simp only;omega) ?_
   rw[hSt];refine kQ [] [] ?_
   simp only[aR,seval]<;>((repeat' apply And.intro)<;>first|rfl|omega|trivial)
 ·simp only[aR,seval,h]
  rw[List.drop_of_length_le (by omega),ndx]at hf
  rw[ndI,if_neg (by omega)]
theorem kBo {Γ:Env} (hf:Γ.get 48=some kBi) {σ:AS} {dr:Bool} {l:List Nd} {id:Int} {ys:List AV} {d:Option Nat} {K:AS→Prop} (hy:ys=k6 l) (hl:l.length≤1099511627776)
    (hk:cont σ d (.v (.int .i64 (ndI id l))) K):kS Tryz.prog Γ dr σ 48 [.sl 0 5 ys,.v (.int .i64 id)] d K:=by
 subst hy
 exact kP (C:=kBi) (i:=(⟨l,hl⟩,id)) hf rfl rfl rfl (by simp[AV.erL,AV.er]) (fun _ h=>h) rfl hk
abbrev kidCon:Con where
 ι:=NdsL×Int×List UInt8
 args:=fun p=>[.sl 0 5 (k6 p.1.1),.v (.int .i64 p.2.1),.v (sv p.2.2)]
 post:=fun p r=>r = .v (.int .i64 (kid p.2.1 p.2.2 p.1.1))
 plain:=true
theorem kid_good:Rw.Good Tryz.prog 54 kidCon:=by
 have hΓ:kM Tryz.prog []:=kJ
 refine kY (nn:=35) hΓ Tryz.func54 (by kernel_rfl) rfl (show Tryz.f54.results.toList=[.tmp 6] from rfl) (fun _=>rfl) (fun x=>by simp[AV.erL,AV.er]) ?_
 rintro ⟨⟨l,hl⟩,par,nm⟩
 simp only[aR,seval,kK]
 obtain ⟨St,hSt⟩:∃ St:{ i:Nat // i≤l.length∧kid par nm (l.drop i)=kid par nm l }→AS,∀ i,St i=AS.of 35 [(0,.sl 0 5 (k6 l)),(1,.v (.int .i64 par)),(2,.v (sv nm)),(7,.v (.int .i64 i.1))] [] []:=⟨_,fun _=>rfl⟩
 refine qM hΓ St (fun i=>l.length - i.1) ⟨0,by omega,by simp⟩ (by rw[hSt];refine kQ [] [] ?_;simp only[aR,seval]<;>((repeat' apply And.intro)<;>first|rfl|omega|trivial)) ?_
 rintro ⟨i,hi,hf⟩
 rw[hSt]
 simp only
 simp only[aR,seval,kK]
 (with_reducible first|refine kE (fun h=>?_) (fun h=>?_)|refine kG (fun h=>?_) (fun h=>?_))
 ·have hlt:i < l.length:=by omega
  have e1:=qA l hlt
  rw[List.drop_eq_getElem_cons hlt,kid]at hf
  generalize l[i]=x at *
  by_cases hx:x.par=par
  ·by_cases hy:x.nm=nm
   ·rw[if_pos ⟨hx,hy⟩]at hf
    simp only[aR,seval,h,e1,nA,kK,hx,hy,hf]<;>((repeat' apply And.intro)<;>first|rfl|omega|trivial)
   ·rw[if_neg (fun hh=>hy hh.2)]at hf
    simp only[aR,seval,h,e1,nA,kK,hx,hy,kC (n:=(i:Int)+1) (by omega) (by omega)]
    (repeat (with_reducible refine And.intro ?_ ?_;focus (first|omega|exact kD|kernel_rfl)))
    refine kN ⟨i+1,by omega,hf⟩ (by simp only;omega) ?_
    rw[hSt];refine kQ [] [] ?_
    simp only[aR,seval]<;>((repeat' apply And.intro)<;>first|rfl|omega|trivial)
  ·rw[if_neg (fun hh=>hx hh.1)]at hf
   simp only[aR,seval,h,e1,nA,kK,hx,kC (n:=(i:Int)+1) (by omega) (by omega)]
   (repeat (with_reducible refine And.intro ?_ ?_;focus (first|omega|exact kD|kernel_rfl)))
   refine kN ⟨i+1,by omega,hf⟩ (by simp only;omega) ?_
   rw[hSt];refine kQ [] [] ?_
   simp only[aR,seval]<;>((repeat' apply And.intro)<;>first|rfl|omega|trivial)
 ·rw[List.drop_of_length_le (by omega),kid]at hf
  simp only[aR,seval,h,hf]
theorem call_kid {Γ:Env} (hf:Γ.get 54=some kidCon) {σ:AS} {dr:Bool} {l:List Nd} {par:Int} {nm:List UInt8} {ys:List AV} {d:Option Nat} {K:AS→Prop} (hy:ys=k6 l) (hl:l.length≤1099511627776)
    (hk:cont σ d (.v (.int .i64 (kid par nm l))) K):kS Tryz.prog Γ dr σ 54 [.sl 0 5 ys,.v (.int .i64 par),.v (sv nm)] d K:=by
 subst hy
 exact kP (C:=kidCon) (i:=(⟨l,hl⟩,par,nm)) hf rfl rfl rfl (by simp[AV.erL,AV.er]) (fun _ h=>h) rfl hk
abbrev kDM:Con where
 ι:=NdsL×Int×Int
 args:=fun p=>[.sl 0 5 (k6 p.1.1),.v (.int .i64 p.2.1),.v (.int .i64 p.2.2)]
 post:=fun p r=>r = .v (.bool (zQ p.1.1 p.2.1 p.2.2))
 plain:=true
theorem within_good:Rw.Good Tryz.prog 57 kDM:=by
 have hΓ:kM Tryz.prog [(48,kBi)]:=(kI kD5 kJ)
 refine kY (nn:=28) hΓ Tryz.func57 (by kernel_rfl) rfl (show Tryz.f57.results.toList=[.tmp 6] from rfl) (fun _=>rfl) (fun x=>by simp[AV.erL,AV.er]) ?_
 rintro ⟨⟨l,hl⟩,id,top⟩
 simp only[aR,seval,kK]
 obtain ⟨St,hSt⟩:∃ St:{ p:Nat×Int // p.1≤l.length+1∧inN l top (l.length+1 - p.1) p.2=zQ l id top }→AS,∀ p,St p=AS.of 28 [(0,.sl 0 5 (k6 l)),(1,.v (.int .i64 p.1.2)),(2,.v (.int .i64 top)),(7,.v (.int .i64 p.1.1))] [] []:=⟨_,fun _=>rfl⟩
 refine qM hΓ St (fun p=>l.length+1 - p.1.1) ⟨(0,id),by simp,rfl⟩ (by rw[hSt];refine kQ [] [] ?_;simp only[aR,seval]<;>((repeat' apply And.intro)<;>first|rfl|omega|trivial)) ?_
 rintro ⟨⟨k,x⟩,hk,hw⟩
 simp only at hk hw
 rw[hSt]
 simp only
 simp only[aR,seval,kK]
 (with_reducible first|refine kE (fun h=>?_) (fun h=>?_)|refine kG (fun h=>?_) (fun h=>?_))
 ·have hlt:k < l.length+1:=by omega
  rw[show l.length+1 - k=(l.length - k)+1 by omega,inN]at hw
  by_cases hx:x=top
  ·rw[if_pos hx]at hw
   simp only[aR,seval,h,hx,← hw]
  ·rw[if_neg hx]at hw
   simp only[aR,seval,h,hx]
   refine kBo (by simp[kH]) rfl hl ?_
   by_cases hf:ndx x l < l.length
   ·rw[if_pos hf]at hw
    have e1:=qA l hf
    have e2:ndI x l=(ndx x l:Int):=by rw[ndI,if_pos hf]
    have e3:l.getD (ndx x l) kAb=l[ndx x l]:=by simp[List.getD_eq_getElem?_getD,hf]
    rw[e3]at hw
    generalize l[ndx x l]=y at *
    rw[e2]
    simp only[aR,seval,e1,nA,kK,show ((ndx x l:Int) < 0)=False from eq_false (by omega),kC (n:=(k:Int)+1) (by omega) (by omega)]
    (repeat (with_reducible refine And.intro ?_ ?_;focus (first|omega|exact kD|kernel_rfl)))
    refine kN ⟨(k+1,y.par),by simp only;omega,by simp only;rw[show l.length+1 - (k+1)=l.length - k by omega];exact hw⟩ (by simp only;omega) ?_
    rw[hSt];refine kQ [] [] ?_
    simp only[aR,seval]<;>((repeat' apply And.intro)<;>first|rfl|omega|trivial)
   ·rw[if_neg hf]at hw
    have e2:ndI x l = -1:=by rw[ndI,if_neg hf]
    rw[e2]
    simp only[aR,seval,← hw]
 ·rw[show l.length+1 - k=0 by omega,inN]at hw
  simp only[aR,seval,h,← hw]
theorem kEV {Γ:Env} (hf:Γ.get 57=some kDM) {σ:AS} {dr:Bool} {l:List Nd} {id top:Int} {ys:List AV} {d:Option Nat} {K:AS→Prop} (hy:ys=k6 l) (hl:l.length≤1099511627776)
    (hk:cont σ d (.v (.bool (zQ l id top))) K):kS Tryz.prog Γ dr σ 57 [.sl 0 5 ys,.v (.int .i64 id),.v (.int .i64 top)] d K:=by
 subst hy
 exact kP (C:=kDM) (i:=(⟨l,hl⟩,id,top)) hf rfl rfl rfl (by simp[AV.erL,AV.er]) (fun _ h=>h) rfl hk
end Go.Proofs
end
-- EUk1e
section
namespace Go.Proofs
open Go Go.Rw
set_option maxRecDepth 100000
section
variable {P:Program}
theorem calm_eqB {d:Nat} {t:TypeId} {a b:Bool} (h:P.underlying t=some .bool):calm P (Op.equalIn (d+1) t (.bool a) (.bool b))=some (a == b):=by
 simp[Op.equalIn,kX,underlying,h]
def is5 (P:Program) (t ti ts tb:TypeId):Bool:=match P.underlying t with
 | some (.struct fs)=>match fs.toList with
   | [f1, f2, f3, f4, f5] => (f1.type == ti && (f1.offset == 0 && f1.name != "_")) && ((f2.type == ti && (f2.offset == 1 && f2.name != "_")) && ((f3.type == ts && (f3.offset == 2 && f3.name != "_")) && ((f4.type == tb && (f4.offset == 3 && f4.name != "_")) && (f5.type == ts && (f5.offset == 4 && f5.name != "_")))))
   | _=>false
 | _=>false
theorem calm_eq5 {d:Nat} {t ti ts tb:TypeId} {k:IntKind} {a b a' b':Int} {s s' u u':List UInt8} {q q':Bool} (h5:is5 P t ti ts tb=true) (hp:P.stoodInHeld t=false) (hi:P.underlying ti=some (.int k)) (hs:P.underlying ts=some .string) (hb:P.underlying tb=some .bool) :
    calm P (Op.equalIn (d+2) t (.agg #[.int .i64 a,.int .i64 b,.string ⟨s.toArray⟩,.bool q,.string ⟨u.toArray⟩]) (.agg #[.int .i64 a',.int .i64 b',.string ⟨s'.toArray⟩,.bool q',.string ⟨u'.toArray⟩]))=some (a == a' && b == b' && s == s' && q == q' && u == u'):=by
 unfold is5 at h5
 split at h5
 ·rename_i fs ht
  split at h5
  ·rename_i f1 f2 f3 f4 f5 hl
   have hfs:fs = #[f1,f2,f3,f4,f5]:=by rw[← hl]
   subst hfs
   simp only[Bool.and_eq_true,beq_iff_eq,bne_iff_ne]at h5
   obtain ⟨⟨rfl,o1,n1⟩,⟨e2,o2,n2⟩,⟨rfl,o3,n3⟩,⟨rfl,o4,n4⟩,⟨e5,o5,n5⟩⟩:=h5
   have p0:∀ (a b:Int) (s u:List UInt8) (q:Bool),calm P (part f1.type #[.int .i64 a,.int .i64 b,.string ⟨s.toArray⟩,.bool q,.string ⟨u.toArray⟩] 0)=some (.int .i64 a):=fun a b s u q=>z8 hi rfl rfl
   have p1:∀ (a b:Int) (s u:List UInt8) (q:Bool),calm P (part f1.type #[.int .i64 a,.int .i64 b,.string ⟨s.toArray⟩,.bool q,.string ⟨u.toArray⟩] 1)=some (.int .i64 b):=fun a b s u q=>z8 hi rfl rfl
   have p2:∀ (a b:Int) (s u:List UInt8) (q:Bool),calm P (part f3.type #[.int .i64 a,.int .i64 b,.string ⟨s.toArray⟩,.bool q,.string ⟨u.toArray⟩] 2)=some (.string ⟨s.toArray⟩):=fun a b s u q=>z8 hs rfl rfl
   have p3:∀ (a b:Int) (s u:List UInt8) (q:Bool),calm P (part f4.type #[.int .i64 a,.int .i64 b,.string ⟨s.toArray⟩,.bool q,.string ⟨u.toArray⟩] 3)=some (.bool q):=fun a b s u q=>z8 hb rfl rfl
   have p4:∀ (a b:Int) (s u:List UInt8) (q:Bool),calm P (part f3.type #[.int .i64 a,.int .i64 b,.string ⟨s.toArray⟩,.bool q,.string ⟨u.toArray⟩] 4)=some (.string ⟨u.toArray⟩):=fun a b s u q=>z8 hs rfl rfl
   rw[Op.equalIn]
   simp only[kX,underlying,qF,Option.bind_some,ht,kAM,hp,Bool.false_eq_true,if_false,← Array.forIn_toList,List.forIn_cons,List.forIn_nil,n1,n2,n3,n4,n5,o1,o2,o3,o4,o5,e2,e5,p0,p1,p2,p3,p4,kER hi,kEF hs,calm_eqB hb,if_true,ne_eq,not_false_eq_true]
   by_cases c1:a=a'<;>by_cases c2:b=b'<;>by_cases c3:s=s'<;>by_cases c4:q=q'<;>by_cases c5:u=u'<;>simp[c1,c2,c3,c4,c5,kX,p0,p1,p2,p3,p4,kER hi,kEF hs,calm_eqB hb]
  ·cases h5
 ·cases h5
theorem bin_neq5 {t ti ts tb:TypeId} {x y:Operand} {k:IntKind} {a b a' b':Int} {s s' u u':List UInt8} {q q':Bool} (hg:P.eqGuardType P.depth t=false) (h5:is5 P t ti ts tb=true) (hp:P.stoodInHeld t=false) (hi:P.underlying ti=some (.int k)) (hs:P.underlying ts=some .string) (hb:P.underlying tb=some .bool) :
    binA P .neq t x y (.agg [.v (.int .i64 a),.v (.int .i64 b),.v (sv s),.v (.bool q),.v (sv u)]) (.agg [.v (.int .i64 a'),.v (.int .i64 b'),.v (sv s'),.v (.bool q'),.v (sv u')])=some (.v (.bool (decide (¬ (a=a'∧b=b'∧s=s'∧q=q'∧u=u'))))):=by
 have e:Op.maxDepth=9998+2:=rfl
 have hq:=calm_eq5 (P:=P) (d:=9998) (a:=a) (b:=b) (a':=a') (b':=b') (s:=s) (s':=s') (u:=u) (u':=u') (q:=q) (q':=q') h5 hp hi hs hb
 unfold binA
 rw[show binV P .neq t x y (.agg [.v (.int .i64 a),.v (.int .i64 b),.v (sv s),.v (.bool q),.v (sv u)]) (.agg [.v (.int .i64 a'),.v (.int .i64 b'),.v (sv s'),.v (.bool q'),.v (sv u')])=none from rfl]
 simp only[kCI,kAD,Option.map_some,Option.none_or,res,kX,eqGuard,sv,qF,Option.bind_some,hg]
 simp[kX,kCy,binOp,Op.equal,e,hq,hg]
 by_cases c1:a=a'<;>by_cases c2:b=b'<;>by_cases c3:s=s'<;>by_cases c4:q=q'<;>by_cases c5:u=u'<;>simp[c1,c2,c3,c4,c5]
end
theorem node_neq {x y:Operand} {a b a' b':Int} {s s' u u':List UInt8} {q q':Bool}:binA Tryz.prog .neq 42 x y (.agg [.v (.int .i64 a),.v (.int .i64 b),.v (sv s),.v (.bool q),.v (sv u)]) (.agg [.v (.int .i64 a'),.v (.int .i64 b'),.v (sv s'),.v (.bool q'),.v (sv u')])=some (.v (.bool (decide (¬ (a=a'∧b=b'∧s=s'∧q=q'∧u=u'))))) :=
 bin_neq5 (ti:=3) (ts:=9) (tb:=4) (k:=.i64) (by kernel_rfl) (by kernel_rfl) (by kernel_rfl) (by kernel_rfl) (by kernel_rfl) (by kernel_rfl)
end Go.Proofs
end
-- EUk2
section
namespace Go.Proofs
open Go Go.Rw
set_option maxRecDepth 100000
theorem rname_good:Rw.Good Tryz.prog 31 kBQ:=by
 have hΓ:kM Tryz.prog []:=kJ
 refine kY (nn:=56) hΓ Tryz.func31 (by kernel_rfl) rfl (show Tryz.f31.results.toList=[.tmp 2] from rfl) (fun _=>rfl) (fun _=>rfl) ?_
 rintro ⟨s,hs⟩
 simp only[aR,seval]
 have e0:qE s=(s.all zL && decide (1≤s.length∧s.length≤20∧s≠[46]∧s≠[46,46])):=rfl
 by_cases h1:(s.length:Int) < 1
 ·have e1:qE s=false:=by rw[e0,decide_eq_false (by omega),Bool.and_false]
  simp only[aR,seval,h1,e1]
 by_cases h2:(s.length:Int) > 20
 ·have e1:qE s=false:=by rw[e0,decide_eq_false (by omega),Bool.and_false]
  simp only[aR,seval,h1,h2,e1]
 by_cases h3:s=[46]
 ·have e1:qE s=false:=by rw[e0,decide_eq_false (fun hh=>hh.2.2.1 h3),Bool.and_false]
  have h4:decide (s=[46])=true:=decide_eq_true h3
  clear h3
  simp only[aR,seval,h1,h2,h4,e1]
 by_cases h4:s=[46,46]
 ·have e1:qE s=false:=by rw[e0,decide_eq_false (fun hh=>hh.2.2.2 h4),Bool.and_false]
  have h5:decide (s=[46,46])=true:=decide_eq_true h4
  clear h4
  simp only[aR,seval,h1,h2,h3,h5,e1]
 rw[decide_eq_true (by refine ⟨by omega,by omega,h3,h4⟩),Bool.and_true]at e0
 simp only[aR,seval,h1,h2,h3,h4]
 obtain ⟨St,hSt⟩:∃ St:{ i:Nat // i≤s.length∧(s.take i).all zL=true }→AS,∀ i,St i=AS.of 56 [(0,.v (sv s)),(3,.v (.int .i64 i.1))] [] []:=⟨_,fun _=>rfl⟩
 refine qM hΓ St (fun i=>s.length - i.1) ⟨0,by omega,by simp⟩ (by rw[hSt];refine kQ [] [] ?_;simp only[aR,seval]<;>((repeat' apply And.intro)<;>first|rfl|omega|trivial)) ?_
 rintro ⟨i,hi,ha⟩
 rw[hSt]
 simp only
 simp only[aR,seval]
 (with_reducible first|refine kE (fun h=>?_) (fun h=>?_)|refine kG (fun h=>?_) (fun h=>?_))
 ·have hlt:i < s.length:=by omega
  have e2:(s.take (i+1)).all zL=zL s[i]:=by rw[List.take_succ_eq_append_getElem hlt,List.all_append,ha];simp
  have e3:zL s[i]=false→qE s=false:=fun hc=>by
   rw[e0];exact List.all_eq_false.2 ⟨s[i],List.getElem_mem hlt,by simp[hc]⟩
  have e4:s.getD i 0=s[i]:=by simp[List.getD_eq_getElem?_getD,hlt]
  have e5:zL s[i]=decide ((97≤s[i].toNat∧s[i].toNat≤122)∨(48≤s[i].toNat∧s[i].toNat≤57)∨s[i].toNat=46∨s[i].toNat=45∨s[i].toNat=95):=rfl
  generalize s[i]=c at *
  cases hc:zL c
  ·have e6:=e3 hc
   rw[hc]at e5
   have e7:=of_decide_eq_false e5.symm
   clear e5 e3 e2 e0
   simp only[aR,seval,h,e4]
   (repeat (with_reducible refine And.intro ?_ ?_;focus (first|omega|exact kD|kernel_rfl)))
   (try ((with_reducible first|refine kE (fun q1=>?_) (fun q1=>?_)|refine kG (fun q1=>?_) (fun q1=>?_))<;>simp (disch:=omega) only[aR,seval,kC,q1,e6]<;>(with_reducible first|(refine And.intro ?_ ?_;focus (first|omega|exact kD|kernel_rfl));(repeat (with_reducible refine And.intro ?_ ?_;focus (first|omega|exact kD|kernel_rfl)));(try simp (disch:=omega) only[aR,seval,kC,q1,e6])|skip)<;>(try ((with_reducible first|refine kE (fun q2=>?_) (fun q2=>?_)|refine kG (fun q2=>?_) (fun q2=>?_))<;>simp (disch:=omega) only[aR,seval,kC,q2,e6]<;>(with_reducible first|(refine And.intro ?_ ?_;focus (first|omega|exact kD|kernel_rfl));(repeat (with_reducible refine And.intro ?_ ?_;focus (first|omega|exact kD|kernel_rfl)));(try simp (disch:=omega) only[aR,seval,kC,q2,e6])|skip)<;>(try ((with_reducible first|refine kE (fun q3=>?_) (fun q3=>?_)|refine kG (fun q3=>?_) (fun q3=>?_))<;>simp (disch:=omega) only[aR,seval,kC,q3,e6]<;>(with_reducible first|(refine And.intro ?_ ?_;focus (first|omega|exact kD|kernel_rfl));(repeat (with_reducible refine And.intro ?_ ?_;focus (first|omega|exact kD|kernel_rfl)));(try simp (disch:=omega) only[aR,seval,kC,q3,e6])|skip)<;>(try ((with_reducible first|refine kE (fun q4=>?_) (fun q4=>?_)|refine kG (fun q4=>?_) (fun q4=>?_))<;>simp (disch:=omega) only[aR,seval,kC,q4,e6]<;>(with_reducible first|(refine And.intro ?_ ?_;focus (first|omega|exact kD|kernel_rfl));(repeat (with_reducible refine And.intro ?_ ?_;focus (first|omega|exact kD|kernel_rfl)));(try simp (disch:=omega) only[aR,seval,kC,q4,e6])|skip)<;>(try ((with_reducible first|refine kE (fun q5=>?_) (fun q5=>?_)|refine kG (fun q5=>?_) (fun q5=>?_))<;>simp (disch:=omega) only[aR,seval,kC,q5,e6]<;>(with_reducible first|(refine And.intro ?_ ?_;focus (first|omega|exact kD|kernel_rfl));(repeat (with_reducible refine And.intro ?_ ?_;focus (first|omega|exact kD|kernel_rfl)));(try simp (disch:=omega) only[aR,seval,kC,q5,e6])|skip)<;>(try ((with_reducible first|refine kE (fun q6=>?_) (fun q6=>?_)|refine kG (fun q6=>?_) (fun q6=>?_))<;>simp (disch:=omega) only[aR,seval,kC,q6,e6]<;>(with_reducible first|(refine And.intro ?_ ?_;focus (first|omega|exact kD|kernel_rfl));(repeat (with_reducible refine And.intro ?_ ?_;focus (first|omega|exact kD|kernel_rfl)));(try simp (disch:=omega) only[aR,seval,kC,q6,e6])|skip)<;>(try ((with_reducible first|refine kE (fun q7=>?_) (fun q7=>?_)|refine kG (fun q7=>?_) (fun q7=>?_))<;>simp (disch:=omega) only[aR,seval,kC,q7,e6]<;>(with_reducible first|(refine And.intro ?_ ?_;focus (first|omega|exact kD|kernel_rfl));(repeat (with_reducible refine And.intro ?_ ?_;focus (first|omega|exact kD|kernel_rfl)));(try simp (disch:=omega) only[aR,seval,kC,q7,e6])|skip)<;>skip))))))))))))))
   all_goals (exfalso;omega)
  ·rw[hc]at e5 e2
   have e7:=of_decide_eq_true e5.symm
   clear e5 e3
   simp only[aR,seval,h,e4]
   (repeat (with_reducible refine And.intro ?_ ?_;focus (first|omega|exact kD|kernel_rfl)))
   (try ((with_reducible first|refine kE (fun q1=>?_) (fun q1=>?_)|refine kG (fun q1=>?_) (fun q1=>?_))<;>simp (disch:=omega) only[aR,seval,kC,q1,kC (n:=(i:Int)+1) (by omega) (by omega)]<;>(with_reducible first|(refine And.intro ?_ ?_;focus (first|omega|exact kD|kernel_rfl));(repeat (with_reducible refine And.intro ?_ ?_;focus (first|omega|exact kD|kernel_rfl)));(try simp (disch:=omega) only[aR,seval,kC,q1,kC (n:=(i:Int)+1) (by omega) (by omega)])|skip)<;>(try ((with_reducible first|refine kE (fun q2=>?_) (fun q2=>?_)|refine kG (fun q2=>?_) (fun q2=>?_))<;>simp (disch:=omega) only[aR,seval,kC,q2,kC (n:=(i:Int)+1) (by omega) (by omega)]<;>(with_reducible first|(refine And.intro ?_ ?_;focus (first|omega|exact kD|kernel_rfl));(repeat (with_reducible refine And.intro ?_ ?_;focus (first|omega|exact kD|kernel_rfl)));(try simp (disch:=omega) only[aR,seval,kC,q2,kC (n:=(i:Int)+1) (by omega) (by omega)])|skip)<;>(try ((with_reducible first|refine kE (fun q3=>?_) (fun q3=>?_)|refine kG (fun q3=>?_) (fun q3=>?_))<;>simp (disch:=omega) only[aR,seval,kC,q3,kC (n:=(i:Int)+1) (by omega) (by omega)]<;>(with_reducible first|(refine And.intro ?_ ?_;focus (first|omega|exact kD|kernel_rfl));(repeat (with_reducible refine And.intro ?_ ?_;focus (first|omega|exact kD|kernel_rfl)));(try simp (disch:=omega) only[aR,seval,kC,q3,kC (n:=(i:Int)+1) (by omega) (by omega)])|skip)<;>(try ((with_reducible first|refine kE (fun q4=>?_) (fun q4=>?_)|refine kG (fun q4=>?_) (fun q4=>?_))<;>simp (disch:=omega) only[aR,seval,kC,q4,kC (n:=(i:Int)+1) (by omega) (by omega)]<;>(with_reducible first|(refine And.intro ?_ ?_;focus (first|omega|exact kD|kernel_rfl));(repeat (with_reducible refine And.intro ?_ ?_;focus (first|omega|exact kD|kernel_rfl)));(try simp (disch:=omega) only[aR,seval,kC,q4,kC (n:=(i:Int)+1) (by omega) (by omega)])|skip)<;>(try ((with_reducible first|refine kE (fun q5=>?_) (fun q5=>?_)|refine kG (fun q5=>?_) (fun q5=>?_))<;>simp (disch:=omega) only[aR,seval,kC,q5,kC (n:=(i:Int)+1) (by omega) (by omega)]<;>(with_reducible first|(refine And.intro ?_ ?_;focus (first|omega|exact kD|kernel_rfl));(repeat (with_reducible refine And.intro ?_ ?_;focus (first|omega|exact kD|kernel_rfl)));(try simp (disch:=omega) only[aR,seval,kC,q5,kC (n:=(i:Int)+1) (by omega) (by omega)])|skip)<;>(try ((with_reducible first|refine kE (fun q6=>?_) (fun q6=>?_)|refine kG (fun q6=>?_) (fun q6=>?_))<;>simp (disch:=omega) only[aR,seval,kC,q6,kC (n:=(i:Int)+1) (by omega) (by omega)]<;>(with_reducible first|(refine And.intro ?_ ?_;focus (first|omega|exact kD|kernel_rfl));(repeat (with_reducible refine And.intro ?_ ?_;focus (first|omega|exact kD|kernel_rfl)));(try simp (disch:=omega) only[aR,seval,kC,q6,kC (n:=(i:Int)+1) (by omega) (by omega)])|skip)<;>(try ((with_reducible first|refine kE (fun q7=>?_) (fun q7=>?_)|refine kG (fun q7=>?_) (fun q7=>?_))<;>simp (disch:=omega) only[aR,seval,kC,q7,kC (n:=(i:Int)+1) (by omega) (by omega)]<;>(with_reducible first|(refine And.intro ?_ ?_;focus (first|omega|exact kD|kernel_rfl));(repeat (with_reducible refine And.intro ?_ ?_;focus (first|omega|exact kD|kernel_rfl)));(try simp (disch:=omega) only[aR,seval,kC,q7,kC (n:=(i:Int)+1) (by omega) (by omega)])|skip)<;>skip))))))))))))))
   all_goals first
    | (exfalso;omega)
    | (refine kN ⟨i+1,by omega,e2⟩ (by simp only;omega) ?_
       rw[hSt];refine kQ [] [] ?_
       simp only[aR,seval]<;>((repeat' apply And.intro)<;>first|rfl|omega|trivial))
 ·rw[List.take_of_length_le (by omega)]at ha
  simp only[aR,seval,h,e0,ha]
theorem nodes_set (l:List Nd) (i:Nat) (x:Nd):(k6 l).set i (nA x)=k6 (l.set i x):=by simp[k6,List.map_set]
end Go.Proofs
end
-- EAp5
section
namespace Go.Proofs
open Go Go.Rw
set_option maxRecDepth 100000
end Go.Proofs
end
