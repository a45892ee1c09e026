/-
 Edits done,undone,found. Plain. Edits done by the program. Which edits may be,as the document says. Edits done,undone,by the program. Edits done,undone,by the program. How much is given;texts and their code points. The document's tree: kT by their IDs;what an act does. Plain. The document's tree: looking kT up.
-/
import Derived.Test.YtnpofobcbfbfnaaGreatDoorXHUo2
import Derived.Test.YtnpofobcbfbfnaaGreatDoorRwF
set_option linter.unusedSimpArgs false
set_option linter.unusedVariables false
set_option linter.unusedSectionVars false

set_option maxRecDepth 100000
-- HAp0
namespace Go.Proofs
open Go Go.Rw
def cpts (t:List UInt8):List Nat:=(pts t).getD []
theorem kCL {t:List UInt8} {cs:List Nat} (h:pts t=some cs):cpts t=cs:=by unfold cpts;rw[h];rfl
theorem cpts_nil:cpts []=[]:=rfl
theorem cpts_enc {cs:List Nat} (h:∀ c∈cs,okc c):cpts (encs cs)=cs:=kCL (kFb h)
theorem isSome_cpts {t:List UInt8} (h:(pts t).isSome=true):pts t=some (cpts t):=by
 obtain ⟨cs,hc⟩:=Option.isSome_iff_exists.1 h
 rw[hc,kCL hc]
theorem kBW {t:List UInt8} (h:(pts t).isSome=true):encs (cpts t)=t∧∀ c∈cpts t,okc c:=by
 obtain ⟨h1,h2⟩:=kA5 (isSome_cpts h)
 exact ⟨h2.symm,h1⟩
theorem lc_cpts {t:List UInt8} (h:(pts t).isSome=true):lc t=(cpts t).length:=by
 obtain ⟨e1,o1⟩:=kBW h
 conv=>lhs;rw[← e1]
 exact lc_encs _ o1
theorem okc_take {cs:List Nat} (h:∀ c∈cs,okc c) (n:Nat):∀ c∈cs.take n,okc c:=fun c hc=>h c (List.mem_of_mem_take hc)
theorem okc_drop {cs:List Nat} (h:∀ c∈cs,okc c) (n:Nat):∀ c∈cs.drop n,okc c:=fun c hc=>h c (List.mem_of_mem_drop hc)
theorem kBf {cs:List Nat}:(encs cs).length≤4 * cs.length:=by
 induction cs with
 | nil=>simp [kC7]
 | cons c cs ih=>rw [kAH,List.length_cons];have:=wid_le c;omega
def doL:List Nat→List Cp→List Nat
 | _,[]=>[]
 | cs,c::r=>if someC c=false then doL cs r else if c.k=2 then cpts c.t++doL cs r else if c.k=3 then doL (cs.drop c.n.toNat) r else cs.take c.n.toNat++doL (cs.drop c.n.toNat) r
theorem do_ins {cs:List Nat} {c:Cp} {r:List Cp} (h:someC c=true) (h2:c.k=2):doL cs (c::r)=cpts c.t++doL cs r:=by rw[doL,if_neg (by rw[h];decide),if_pos h2]
theorem do_del {cs:List Nat} {c:Cp} {r:List Cp} (h:someC c=true) (h2:c.k=3):doL cs (c::r)=doL (cs.drop c.n.toNat) r:=by rw[doL,if_neg (by rw[h];decide),if_neg (by omega),if_pos h2]
theorem do_ret {cs:List Nat} {c:Cp} {r:List Cp} (h:someC c=true) (h2:¬ c.k=2) (h3:¬ c.k=3):doL cs (c::r)=cs.take c.n.toNat++doL (cs.drop c.n.toNat) r:=by rw[doL,if_neg (by rw[h];decide),if_neg h2,if_neg h3]
def fit (cs:List Nat) (l:List Cp):Prop:=(∀ c∈l,qY c=true)∧(cs.length:Int)=tn l
theorem zC {c:Cp} (h:qY c=true):(c.k=2∧c.n=0∧c.t≠[]∧(pts c.t).isSome=true)∨((c.k=1∨c.k=3)∧0 < c.n∧c.t=[]):=by
 unfold qY at h
 split at h
 ·rename_i h2
  simp at h
  exact .inl ⟨h2,h.1.1,h.1.2,h.2⟩
 ·split at h
  ·rename_i h13
   simp at h
   exact .inr ⟨h13,h.1,h.2⟩
  ·cases h
theorem kAd {c:Cp} (h:qY c=true):someC c=true:=by
 unfold someC
 rcases zC h with ⟨h2,_,h3,_⟩|⟨h13,h4,_⟩
 ·rw[if_pos h2];simp[h3]
 ·rw[if_neg (by omega)]
  rcases h13 with h|h<;>simp[h,h4]
theorem kFF {cs:List Nat} {c:Cp} {r:List Cp} (h:fit cs (c::r)):qY c=true∧0≤c.n∧c.n.toNat≤cs.length∧fit (cs.drop c.n.toNat) r:=by
 obtain ⟨h1,h2⟩:=h
 have hs:=h1 c (by simp)
 have hp:=tn_pos r
 have hn:0≤c.n:=by rcases zC hs with ⟨_,h,_⟩|⟨_,h,_⟩<;>omega
 simp only[tn]at h2
 exact ⟨hs,hn,by omega,fun x hx=>h1 x (by simp[hx]),by rw[List.length_drop];omega⟩
theorem kF8:∀ (l:List Cp) (m:Int),(0≤m∧m≤1099511627776)→(∀ c∈l,qY c=true)→kEj m l=sumN m l
 | [],_,_,_=>rfl
 | c::r,m,hm,h=>by
   have hr:=fun x hx=>h x (List.mem_cons_of_mem c hx)
   have hs:=zC (h c (by simp))
   simp only[kEj,sumN]
   by_cases h13:c.k=1∨c.k=3
   ·rw[if_pos h13]
    exact kF8 r _ (zA hm.1 (by omega)) hr
   ·rw[if_neg h13]
    rcases hs with ⟨_,h0,_⟩|⟨h,_⟩
    ·rw[h0,show max (0:Int) 0=0 from rfl,addI_z hm.2]
     exact kF8 r m hm hr
    ·exact absurd h h13
theorem kE7:∀ (l:List Cp) (p:Option Cp),jF p l=true→∀ c∈l,qY c=true
 | [],_,_,c,hc=>by cases hc
 | c::r,p,h,x,hx=>by
   simp only[jF,Bool.and_eq_true]at h
   rcases List.mem_cons.1 hx with rfl|hx
   ·exact h.1.1
   ·exact kE7 r (some c) h.2 x hx
theorem zK {l:List Cp} (h:qV l=0):l.length≤100∧qT l=true∧(∀ c∈l,qY c=true)∧kA9 l=tn l∧tn l≤2000∧outL l≤2000:=by
 unfold qV at h
 split at h
 ·cases h
 ·split at h
  ·cases h
  ·split at h
   ·cases h
   ·rename_i h1 h2 h3
    have h4:qT l=true:=by simpa using h2
    have h5:=kE7 l none h4
    have h6:kA9 l=min (0+tn l) 1099511627776:=by
     unfold kA9
     rw[kF8 l 0 (by omega) h5,sumN_eq l (by omega)]
    have h7:=tn_pos l
    exact ⟨by omega,h4,h5,by omega,by omega,by omega⟩
theorem kGI {l:List Cp} (h:qV l=0) {cs:List Nat} (hb:(cs.length:Int)=kA9 l):fit cs l:=by
 obtain ⟨_,_,h1,h2,_,_⟩:=zK h
 exact ⟨h1,by rw[hb,h2]⟩
theorem kF2:∀ (l:List Cp) (cs:List Nat) (m:Int),0≤m→fit cs l→outF m l≤2000→outF m l=m+(doL cs l).length
 | [],_,m,_,_,_=>by simp [outF,doL]
 | c::r,cs,m,hm,hf,ho=>by
   obtain ⟨hs,hn,hle,hf2⟩:=kFF hf
   have hso:=kAd hs
   simp only[outF]at ho ⊢
   have mono:∀ (l:List Cp) (m:Int),0≤m→m≤1099511627776→m≤outF m l:=by
    intro l
    induction l with
    | nil=>intro m _ _;simp [outF]
    | cons c r ih =>
      intro m h1 h2
      simp only[outF]
      split
      ·have h3:=zA h1 (show 0≤max c.n 0 by omega)
       have h4:=ih _ h3.1 h3.2
       have:m≤addI m (max c.n 0):=by unfold addI;omega
       omega
      ·split
       ·have h3:=zA h1 (show 0≤(lc c.t:Int) by omega)
        have h4:=ih _ h3.1 h3.2
        have:m≤addI m (lc c.t):=by unfold addI;omega
        omega
       ·exact ih m h1 h2
   rcases zC hs with ⟨h2,h0,_,hv⟩|⟨h13,hp,_⟩
   ·rw[if_neg (by omega),if_pos h2]at ho ⊢
    have hb:=zA hm (show 0≤(lc c.t:Int) by omega)
    have hm2:=mono r _ hb.1 hb.2
    have hm3:addI m (lc c.t)≤2000:=by omega
    have e:addI m (lc c.t)=m+lc c.t:=by unfold addI at hm3 ⊢;omega
    rw[e]at ho ⊢
    rw[h0]at hf2
    have:=kF2 r cs (m+lc c.t) (by omega) (by simpa using hf2) ho
    rw[this,do_ins hso h2,List.length_append,lc_cpts hv];omega
   ·by_cases h1:c.k=1
    ·rw[if_pos h1]at ho ⊢
     have hb:=zA hm (show 0≤max c.n 0 by omega)
     have hm2:=mono r _ hb.1 hb.2
     have hm3:addI m (max c.n 0)≤2000:=by omega
     have e:addI m (max c.n 0)=m+c.n:=by unfold addI at hm3 ⊢;omega
     rw[e]at ho ⊢
     have:=kF2 r _ (m+c.n) (by omega) hf2 ho
     rw[this,do_ret hso (by omega) (by omega),List.length_append,List.length_take];omega
    ·rw[if_neg h1,if_neg (by omega)]at ho ⊢
     have:=kF2 r _ m hm hf2 ho
     rw[this,do_del hso (by omega)]
theorem kHS:∀ (l:List Cp) (cs:List Nat),(∀ c∈cs,okc c)→allV l=true→∀ c∈doL cs l,okc c
 | [],_,_,_,c,h=>by cases h
 | c::r,cs,hc,hv,x,hx=>by
   simp only[allV,List.all_cons,Bool.and_eq_true]at hv
   rw[doL]at hx
   split at hx
   ·exact kHS r cs hc hv.2 x hx
   ·split at hx
    ·rcases List.mem_append.1 hx with h|h
     ·exact (kBW hv.1).2 x h
     ·exact kHS r cs hc hv.2 x h
    ·split at hx
     ·exact kHS r _ (okc_drop hc _) hv.2 x hx
     ·rcases List.mem_append.1 hx with h|h
      ·exact okc_take hc _ x h
      ·exact kHS r _ (okc_drop hc _) hv.2 x h
theorem kFh {l:List Cp} (h:∀ c∈l,qY c=true):allV l=true:=by
 unfold allV
 rw[List.all_eq_true]
 intro c hc
 rcases zC (h c hc) with ⟨_,_,_,hv⟩|⟨_,_,ht⟩
 ·exact hv
 ·rw[ht,pts_nil];rfl
structure Sp where
 c:Cp
 was:List UInt8
 puts:List UInt8
def kCG:List Nat→List Cp→List Sp
 | _,[]=>[]
 | cs,c::r=>⟨c,if c.k=2 then [] else encs (cs.take c.n.toNat),if c.k=2 then c.t else if c.k=3 then [] else encs (cs.take c.n.toNat)⟩::kCG (cs.drop c.n.toNat) r
theorem kFd:∀ (l:List Cp) (cs:List Nat),(kCG cs l).length=l.length
 | [],_=>rfl
 | c::r,cs=>by rw [kCG,List.length_cons,kFd r,List.length_cons]
theorem kHN:∀ (l:List Cp) (cs:List Nat),fit cs l→(kCG cs l).flatMap Sp.puts=encs (doL cs l)
 | [],_,_=>rfl
 | c::r,cs,h=>by
   obtain ⟨hs,hn,hle,hf⟩:=kFF h
   have hso:=kAd hs
   rw[kCG,List.flatMap_cons,kHN r _ hf]
   simp only
   rcases zC hs with ⟨h2,h0,_,hv⟩|⟨h13,hp,_⟩
   ·rw[if_pos h2,do_ins hso h2,jK,(kBW hv).1,h0];rfl
   ·rw[if_neg (by omega)]
    by_cases h3:c.k=3
    ·rw[if_pos h3,do_del hso h3];rfl
    ·rw[if_neg h3,do_ret hso (by omega) h3,jK]
def undoS (x:Sp):Cp:=if x.c.k=2 then ⟨3,(cpts x.puts).length,[]⟩ else if x.c.k=3 then ⟨2,0,x.was⟩ else x.c
def undoL (cs:List Nat) (l:List Cp):List Cp:=(kCG cs l).map undoS
def errI (s:List UInt8) (l:List Cp):Int:=if qV l=0 then (match pts s with|none=>2|some cs=>if (cs.length:Int)=kA9 l then 0 else 11) else qV l
theorem kEs {s:List UInt8} {l:List Cp} (h:errI s l=0):qV l=0∧pts s=some (cpts s)∧((cpts s).length:Int)=kA9 l∧fit (cpts s) l:=by
 unfold errI at h
 split at h
 ·rename_i hc
  split at h
  ·cases h
  ·rename_i cs hp
   split at h
   ·rename_i hb
    rw[kCL hp]
    exact ⟨hc,hp,hb,kGI hc hb⟩
   ·cases h
 ·rename_i hc;exact absurd h hc
def stp (s:List UInt8) (l:List Cp):List Sp:=if errI s l=0 then kCG (cpts s) l else []
def zL (s:List UInt8) (l:List Cp):List UInt8:=if errI s l=0 then encs (doL (cpts s) l) else []
def undone (s:List UInt8) (l:List Cp):List Cp:=if errI s l=0 then nf (undoL (cpts s) l) else []
end Go.Proofs
-- HAp1
namespace Go.Proofs
open Go Go.Rw
def stA (x:Sp):AV:=.agg [.v (.int .i64 x.c.k),.v (.int .i64 x.c.n),.v (sv x.c.t),.v (sv x.was),.v (sv x.puts)]
def sts (l:List Sp):List AV:=l.map stA
theorem sts_nil:sts []=[]:=rfl
theorem kBw (l:List Sp):(sts l).length=l.length:=by simp[sts]
theorem sts_snoc (l:List Sp) (k n:Int) (t w p:List UInt8):sts l++[.agg [.v (.int .i64 k),.v (.int .i64 n),.v (sv t),.v (sv w),.v (sv p)]]=sts (l++[⟨⟨k,n,t⟩,w,p⟩]):=by simp[sts,stA]
theorem sts_getD (l:List Sp) {i:Nat} (h:i < l.length):(sts l).getD i .any = .agg [.v (.int .i64 l[i].c.k),.v (.int .i64 l[i].c.n),.v (sv l[i].c.t),.v (sv l[i].was),.v (sv l[i].puts)]:=by
 simp[sts,stA,List.getD_eq_getElem?_getD,h]
theorem part_le {l sz i j:Nat} {xs:List AV} (h:j≤xs.length):kBt l sz xs i j = .sl l sz ((xs.drop i).take (j - i)):=by
 unfold kBt
 split
 ·rename_i hc
  obtain ⟨rfl,rfl⟩:=hc
  simp
 ·rfl
def kCq (s:List UInt8) (l:List Cp):AV:=res2 (.sl 0 5 (sts (stp s l))) (errI s l)
theorem stepsR_er (s:List UInt8) (l:List Cp):(kCq s l).er=kCq s l:=by
 have:∀ l:List Sp,AV.erL (sts l)=sts l:=fun l=>by
  induction l with
  | nil=>rfl
  | cons c r ih=>show AV.er (stA c)::AV.erL (sts r)=_;rw [ih];rfl
 rfl
abbrev kFG:Con where
 ι:=Str×Ed
 args:=fun p=>[.v (sv p.1.1),.sl 0 3 (qI p.2.1)]
 post:=fun p r=>r=kCq p.1.1 p.2.1
abbrev SSt (cs:List Nat) (l:List Cp):={ p:List Sp×List Nat×Nat // p.2.2≤l.length∧fit p.2.1 (l.drop p.2.2)∧p.1++kCG p.2.1 (l.drop p.2.2)=kCG cs l∧∀ c∈p.2.1,okc c }
theorem steps_good:Rw.Good Tryz.prog 95 kFG:=by
 have hΓ:kK Tryz.prog [(102,kAR),(73,kBh),(122,kBL)]:=(kG kH1 (kG kCf (kG base_good kI)))
 refine kZ (nn:=72) hΓ Tryz.func95 (by kernel_rfl) rfl (show Tryz.f95.results.toList=[.tmp 4,.tmp 5] from rfl) (fun _=>rfl) (fun _=>rfl) ?_
 rintro ⟨⟨s,hs⟩,⟨l,hl⟩⟩
 simp only[aR,seval]
 refine vc_scope hΓ 1 ?_
 simp only[aR,seval]
 refine kGy (by simp[kC]) rfl hl ?_
 by_cases hc:qV l=0
 ·simp only[aR,seval,hc]
  refine kBR (by simp[kC]) hs ?_
  rcases kCO (pts s) with hp|⟨cs,hp⟩
  ·have he:errI s l=2:=by unfold errI;rw[if_pos hc,hp]
   simp only[aR,seval,kCu,hp,res2]
   refine ⟨_,rfl,?_⟩
   simp only[aR,seval]
   unfold kCq stp
   rw[he];rfl
  ·simp only[aR,seval,kCu,hp,res2]
   refine call_base (by simp[kC]) rfl hl ?_
   by_cases hb:(cs.length:Int)=kA9 l
   ·have he:errI s l=0:=by unfold errI;rw[if_pos hc,hp];simp only;rw[if_pos hb]
    have hfit:=kGI hc hb
    obtain ⟨hok,hse⟩:=kA5 hp
    have hr:=runesA_pts hp
    have hlen:=(zK hc).1
    have hcl:=kCL hp
    simp only[aR,seval,hb,hr,kEp]
    refine ⟨by omega,?_⟩
    obtain ⟨St,hSt⟩:∃ St:SSt cs l→AS,∀ p,St p=AS.of 72 [(4,.sl 2 5 (sts p.1.1)),(5,.v (.int .i64 0)),(7,.sl 0 1 (i32s p.1.2.1)),(28,.sl 0 3 (qI l)),(29,.v (.int .i64 l.length)),(30,.v (.int .i64 p.1.2.2))] [] [(p.1.1.length,144)]:=⟨_,fun _=>rfl⟩
    refine qE hΓ St (fun p=>l.length - p.1.2.2) ⟨([],cs,0),by simp,hfit,rfl,hok⟩ (by rw[hSt];refine kO [] [.nil 5] ?_;simp only[aR,seval,sts_nil,kM]<;>(and_intros<;>first|rfl|omega|trivial)) ?_
    rintro ⟨⟨out,ds,i⟩,hi,hf,ho,hdk⟩
    simp only at hi hf ho hdk
    rw[hSt]
    simp only
    simp only[aR,seval,kM]
    (with_reducible first|refine kE (fun h=>?_) (fun h=>?_)|refine kF (fun h=>?_) (fun h=>?_))
    ·have hlt:i < l.length:=by omega
     have e1:=qN l hlt
     have hct:=okL.text hl (List.getElem_mem hlt)
     rw[List.drop_eq_getElem_cons hlt]at hf ho
     obtain ⟨hso,hn0,hnl,hf2⟩:=kFF hf
     rw[kCG]at ho
     have hcs:=zC hso
     have hol:out.length≤100:=by
      have:=congrArg List.length ho
      rw[List.length_append,kFd]at this
      omega
     generalize l[i]=c at *
     obtain ⟨k,n,t⟩:=c
     simp only at *
     have htk:utfL ((ds.take n.toNat).map fun (c:Nat)=>(c:Int))=encs (ds.take n.toNat):=utfL_encs (okc_take hdk _)
     have again:∀ (σ:AS) (x:Sp),x=⟨⟨k,n,t⟩,if k=2 then [] else encs (ds.take n.toNat),if k=2 then t else if k=3 then [] else encs (ds.take n.toNat)⟩→Weak σ (AS.of 72 [(4,.sl 2 5 (sts (out++[x]))),(5,.v (.int .i64 0)),(7,.sl 0 1 (i32s (ds.drop n.toNat))),(28,.sl 0 3 (qI l)),(29,.v (.int .i64 l.length)),(30,.v (.int .i64 (i+1:Nat)))] [] [((out++[x]).length,144)])→∃ y:SSt cs l,l.length - y.1.2.2 < l.length - i∧Weak σ (St y):=fun σ x hx hw =>
      ⟨⟨(out++[x],ds.drop n.toNat,i+1),by simp only;omega,hf2,by simp only;rw[← ho,hx];simp,okc_drop hdk _⟩,by simp only;omega,by rw[hSt];exact hw⟩
     have p1:kBt 0 1 (i32s ds) 0 n.toNat = .sl 0 1 (i32s (ds.take n.toNat)):=by rw[part_le (by rw[kEp];omega),i32s_part];simp
     have p2:kBt 0 1 (i32s ds) n.toNat ds.length = .sl 0 1 (i32s (ds.drop n.toNat)):=by rw[part_le (by rw[kEp];omega),i32s_part,List.take_of_length_le (by rw[List.length_drop];omega)]
     simp (disch:=omega) only[aR,seval,kD,h,e1,kM,kEp,p1,p2,i32sOf_i32s,htk,Int.toNat_natCast]
     repeat (with_reducible refine And.intro ?_ ?_;focus first|omega|kernel_rfl)
     (with_reducible first|refine kE (fun h2=>?_) (fun h2=>?_)|refine kF (fun h2=>?_) (fun h2=>?_))
     ·subst h2
      simp (disch:=omega) only[aR,seval,kD,kBw,sts_snoc,List.map_cons,List.map_nil]
      repeat (with_reducible refine And.intro ?_ ?_;focus first|omega|kernel_rfl)
      refine again _ ⟨⟨2,n,t⟩,[],t⟩ ?_ ?_
      rotate_left
      ·refine kO [] [.live 2] ?_
       simp only[aR,seval,kBw,List.length_append]<;>(and_intros<;>first|rfl|omega|trivial)
      ·simp
     ·simp (disch:=omega) only[aR,seval,kD,h2]
      (with_reducible first|refine kE (fun h3=>?_) (fun h3=>?_)|refine kF (fun h3=>?_) (fun h3=>?_))
      ·subst h3
       simp (disch:=omega) only[aR,seval,kD,kBw,sts_snoc,List.map_cons,List.map_nil]
       repeat (with_reducible refine And.intro ?_ ?_;focus first|omega|kernel_rfl)
       refine again _ ⟨⟨3,n,t⟩,encs (ds.take n.toNat),[]⟩ ?_ ?_
       rotate_left
       ·refine kO [] [.live 2] ?_
        simp only[aR,seval,kBw,List.length_append]<;>(and_intros<;>first|rfl|omega|trivial)
       ·simp
      ·simp (disch:=omega) only[aR,seval,kD,h3,kBw,sts_snoc,List.map_cons,List.map_nil]
       repeat (with_reducible refine And.intro ?_ ?_;focus first|omega|kernel_rfl)
       refine again _ ⟨⟨k,n,t⟩,encs (ds.take n.toNat),encs (ds.take n.toNat)⟩ ?_ ?_
       rotate_left
       ·refine kO [] [.live 2] ?_
        simp only[aR,seval,kBw,List.length_append]<;>(and_intros<;>first|rfl|omega|trivial)
       ·simp[h2,h3]
    ·have hin:i=l.length:=by omega
     simp only[aR,seval,h]
     rw[hin,List.drop_length,kCG,List.append_nil]at ho
     unfold kCq stp
     rw[if_pos he,he,hcl,ho];rfl
   ·have he:errI s l=11:=by unfold errI;rw[if_pos hc,hp];simp only;rw[if_neg hb]
    simp only[aR,seval,hb]
    refine ⟨_,rfl,?_⟩
    simp only[aR,seval]
    unfold kCq stp
    rw[he];rfl
 ·have he:errI s l=qV l:=by unfold errI;rw[if_neg hc]
  simp only[aR,seval,hc]
  refine ⟨_,rfl,?_⟩
  simp only[aR,seval]
  unfold kCq stp
  rw[he,if_neg hc];rfl
theorem call_steps {Γ:Env} (hf:Γ.get 95=some kFG) {σ:AS} {dr:Bool} {s:List UInt8} {l:List Cp} {t:Nat} {ys:List AV} {d:Option Nat} {K:AS→Prop} (hy:ys=qI l) (hs:s.length≤1099511627776) (hl:okL l) (ht:t < 2)
    (hk:cont σ d (kCq s l) K):kS Tryz.prog Γ dr σ 95 [.v (sv s),.sl t 3 ys] d K:=by
 subst hy
 refine jH (C:=kFG) (i:=(⟨s,hs⟩,⟨l,hl⟩)) (r:=kCq s l) hf rfl rfl rfl ?_ (fun _ h=>h) (by rw[stepsR_er];exact hk)<;>simp[AV.erL,AV.er,AV.tagsL,AV.tags,kDp]<;>omega
end Go.Proofs
-- HAp2
namespace Go.Proofs
open Go Go.Rw
theorem pnt_width {l:List UInt8} (h:l≠[]):max ((pnt l).2:Int) 1=(Lib.decodeL l).2∧1≤(Lib.decodeL l).2:=by
 have hw:=Lib.decodeL_width l
 refine ⟨?_,hw⟩
 unfold pnt
 split
 ·rename_i hc
  rcases hc with ⟨_,h2⟩|h2
  ·simp only;omega
  ·by_cases hv:(Lib.decodeL l).1=65533∧(Lib.decodeL l).2=1
   ·simp only;omega
   ·obtain ⟨_,h3,_⟩:=kDJ h hv
    rw[h2]at h3
    simp only
    rw[h3];rfl
 ·omega
theorem head_zero {l:List UInt8} (h:l≠[]) (h0:l.getD 0 0=0):(Lib.decodeL l).2=1:=by
 cases l with
 | nil=>exact absurd rfl h
 | cons x r =>
   simp only[List.getD_cons_zero]at h0
   subst h0
   have:=kC0 (c:=0) (.inr rfl) r
   have e:enc 0++r=0::r:=rfl
   rw[e]at this
   rw[this];rfl
theorem loose_good:Rw.Good Tryz.prog 117 rcCon:=by
 have hΓ:kK Tryz.prog [(98,kH2)]:=(kG kEF kI)
 refine kZ (nn:=27) hΓ Tryz.func117 (by kernel_rfl) rfl (show Tryz.f117.results.toList=[.tmp 2] from rfl) (fun _=>rfl) (fun _=>rfl) ?_
 rintro ⟨s,hs⟩
 simp only[aR,seval]
 obtain ⟨St,hSt⟩:∃ St:{ p:Nat×Nat // p.1+lc (s.drop p.2)=lc s }→AS,∀ p,St p=AS.of 27 [(0,.v (sv s)),(3,.v (.int .i64 p.1.1)),(4,.v (.int .i64 p.1.2))] [] []:=⟨_,fun _=>rfl⟩
 refine qE hΓ St (fun p=>s.length - p.1.2) ⟨(0,0),by simp⟩ (by rw[hSt];refine kO [] [] ?_;simp only[aR,seval]<;>(and_intros<;>first|rfl|omega|trivial)) ?_
 rintro ⟨⟨k,i⟩,hk⟩
 simp only at hk
 have hlk:=lc_len s
 rw[hSt]
 simp only
 simp only[aR,seval]
 (with_reducible first|refine kE (fun h=>?_) (fun h=>?_)|refine kF (fun h=>?_) (fun h=>?_))
 ·have hlt:i < s.length:=by omega
  have hne:=drop_ne hlt
  have hw:=pnt_width hne
  have hsm:=kG7 (s.drop i)
  have hle:(Lib.decodeL (s.drop i)).2≤4:=by omega
  rw[lc_step hne,List.drop_drop]at hk
  have again:∀ σ:AS,Weak σ (AS.of 27 [(0,.v (sv s)),(3,.v (.int .i64 (k+1:Nat))),(4,.v (.int .i64 (i+(Lib.decodeL (s.drop i)).2:Nat)))] [] [])→∃ y:{ p:Nat×Nat // p.1+lc (s.drop p.2)=lc s },s.length - y.1.2 < s.length - i∧Weak σ (St y):=fun σ hw2 =>
   ⟨⟨(k+1,i+(Lib.decodeL (s.drop i)).2),by simp only;omega⟩,by simp only;omega,by rw[hSt];exact hw2⟩
  simp (disch:=omega) only[aR,seval,kD,h]
  repeat (with_reducible refine And.intro ?_ ?_;focus first|omega|kernel_rfl)
  (with_reducible first|refine kE (fun h2=>?_) (fun h2=>?_)|refine kF (fun h2=>?_) (fun h2=>?_))
  ·simp (disch:=omega) only[aR,seval,kD,h2]
   refine kEN (by simp[kC]) hs hlt ?_
   unfold pntR
   simp (disch:=omega) only[aR,seval,kD,jA,hw.1]
   refine again _ ?_
   refine kO [] [] ?_
   simp only[aR,seval]<;>(and_intros<;>first|rfl|omega|trivial)
  ·have h3:(s.drop i).getD 0 0=0:=by
     have h4:((s.getD i 0).toNat:Int)=0:=by omega
     have h5:s.getD i 0=0:=by
      have:(s.getD i 0).toNat=0:=by omega
      exact UInt8.toNat_inj.1 (by simpa using this)
     simp only[List.getD_eq_getElem?_getD,List.getElem?_drop,Nat.add_zero]at h5 ⊢
     exact h5
   have h6:=head_zero hne h3
   simp (disch:=omega) only[aR,seval,kD,h2,jA,show max (1:Int) 1=1 from rfl]
   refine again _ ?_
   rw[h6]
   refine kO [] [] ?_
   simp only[aR,seval]<;>(and_intros<;>first|rfl|omega|trivial)
 ·simp only[aR,seval,h]
  rw[List.drop_of_length_le (by omega),lc_nil]at hk
  omega
theorem call_loose {Γ:Env} (hf:Γ.get 117=some rcCon) {σ:AS} {dr:Bool} {l:List UInt8} {d:Option Nat} {K:AS→Prop} (h:l.length≤1099511627776)
    (hk:cont σ d (.v (.int .i64 (lc l))) K):kS Tryz.prog Γ dr σ 117 [.v (sv l)] d K :=
 kP (C:=rcCon) (i:=⟨l,h⟩) hf rfl rfl rfl rfl (fun _ h=>h) rfl hk
theorem kHD:Rw.Good Tryz.prog 86 kBL:=by
 have hΓ:kK Tryz.prog [(116,kG4)]:=(kG held_good kI)
 refine kZ (nn:=33) hΓ Tryz.func86 (by kernel_rfl) rfl (show Tryz.f86.results.toList=[.tmp 2] from rfl) (fun _=>rfl) (fun _=>rfl) ?_
 rintro ⟨l,hl,htot,hc⟩
 simp only[aR,seval,kM]
 obtain ⟨St,hSt⟩:∃ St:{ p:Int×Nat // p.2≤l.length∧0≤p.1∧p.1≤1099511627776∧kA9 l=kEj p.1 (l.drop p.2) }→AS,∀ p,St p=AS.of 33 [(0,.sl 0 3 (qI l)),(3,.v (.int .i64 p.1.1)),(4,.v (.int .i64 p.1.2))] [] []:=⟨_,fun _=>rfl⟩
 refine qE hΓ St (fun p=>l.length - p.1.2) ⟨(0,0),by omega,by omega,by omega,rfl⟩ (by rw[hSt];refine kO [] [] ?_;simp only[aR,seval]<;>(and_intros<;>first|rfl|omega|trivial)) ?_
 rintro ⟨⟨n,i⟩,hi,hn1,hn2,hb⟩
 simp only at hi hn1 hn2 hb
 rw[hSt]
 simp only
 simp only[aR,seval,kM]
 (with_reducible first|refine kE (fun h=>?_) (fun h=>?_)|refine kF (fun h=>?_) (fun h=>?_))
 ·have hlt:i < l.length:=by omega
  have hcn:=hc l[i] (List.getElem_mem hlt)
  have e1:=qN l hlt
  rw[List.drop_eq_getElem_cons hlt]at hb
  simp only[kEj]at hb
  generalize l[i]=c at *
  obtain ⟨k,m,t⟩:=c
  simp only at hcn hb e1
  have yes:(k=1∨k=3)→kA9 l=kEj (addI n (max m 0)) (l.drop (i+1)):=fun h=>by rw[hb,if_pos h]
  have no:¬ (k=1∨k=3)→kA9 l=kEj n (l.drop (i+1)):=fun h=>by rw[hb,if_neg h]
  have hr:=zA hn1 (show 0≤max m 0 by omega)
  simp (disch:=omega) only[aR,seval,kD,h,e1,kM]
  repeat (with_reducible refine And.intro ?_ ?_;focus first|omega|kernel_rfl)
  (try ((with_reducible first|refine kE (fun q1=>?_) (fun q1=>?_)|refine kF (fun q1=>?_) (fun q1=>?_))<;>simp (disch:=omega) only[aR,seval,kD,q1,e1,kM]<;>(with_reducible first|(refine And.intro ?_ ?_;focus first|omega|kernel_rfl);(repeat (refine And.intro ?_ ?_;focus first|omega|kernel_rfl));(try simp (disch:=omega) only[aR,seval,kD,q1,e1,kM])|skip)<;>(try ((with_reducible first|refine kE (fun q2=>?_) (fun q2=>?_)|refine kF (fun q2=>?_) (fun q2=>?_))<;>simp (disch:=omega) only[aR,seval,kD,q2,e1,kM]<;>(with_reducible first|(refine And.intro ?_ ?_;focus first|omega|kernel_rfl);(repeat (refine And.intro ?_ ?_;focus first|omega|kernel_rfl));(try simp (disch:=omega) only[aR,seval,kD,q2,e1,kM])|skip)<;>skip))))
  all_goals first
   | (refine kFl (by simp [kC]) ⟨hn1,hn2⟩ hcn ?_
      simp (disch:=omega) only[aR,seval,kD]
      refine kN ⟨(addI n (max m 0),i+1),by omega,hr.1,hr.2,yes (by omega)⟩ (by simp only;omega) ?_
      rw[hSt];refine kO [] [] ?_
      simp only[aR,seval]<;>(and_intros<;>first|rfl|omega|trivial))
   | (refine kN ⟨(n,i+1),by omega,hn1,hn2,no (by omega)⟩ (by simp only;omega) ?_
      rw[hSt];refine kO [] [] ?_
      simp only[aR,seval]<;>(and_intros<;>first|rfl|omega|trivial))
   | trace_state
 ·simp only[aR,seval,h]
  rw[List.drop_of_length_le (by omega)]at hb
  rw[hb];rfl
theorem kHZ {Γ:Env} (hf:Γ.get 86=some kBL) {σ:AS} {dr:Bool} {l:List Cp} {t:Nat} {ys:List AV} {d:Option Nat} {K:AS→Prop} (hy:ys=qI l) (h:okL l)
    (hk:cont σ d (.v (.int .i64 (kA9 l))) K):kS Tryz.prog Γ dr σ 86 [.sl t 3 ys] d K:=by
 subst hy
 exact kP (C:=kBL) (i:=⟨l,h⟩) hf rfl rfl rfl rfl (fun _ h=>h) rfl hk
theorem rout_good:Rw.Good Tryz.prog 87 kEf:=by
 have hΓ:kK Tryz.prog [(116,kG4),(117,rcCon)]:=(kG held_good (kG loose_good kI))
 refine kZ (nn:=36) hΓ Tryz.func87 (by kernel_rfl) rfl (show Tryz.f87.results.toList=[.tmp 2] from rfl) (fun _=>rfl) (fun _=>rfl) ?_
 rintro ⟨l,hl,htot,hc⟩
 simp only[aR,seval,kM]
 obtain ⟨St,hSt⟩:∃ St:{ p:Int×Nat // p.2≤l.length∧0≤p.1∧p.1≤1099511627776∧outL l=outF p.1 (l.drop p.2) }→AS,∀ p,St p=AS.of 36 [(0,.sl 0 3 (qI l)),(3,.v (.int .i64 p.1.1)),(4,.v (.int .i64 p.1.2))] [] []:=⟨_,fun _=>rfl⟩
 refine qE hΓ St (fun p=>l.length - p.1.2) ⟨(0,0),by omega,by omega,by omega,rfl⟩ (by rw[hSt];refine kO [] [] ?_;simp only[aR,seval]<;>(and_intros<;>first|rfl|omega|trivial)) ?_
 rintro ⟨⟨n,i⟩,hi,hn1,hn2,hb⟩
 simp only at hi hn1 hn2 hb
 rw[hSt]
 simp only
 simp only[aR,seval,kM]
 (with_reducible first|refine kE (fun h=>?_) (fun h=>?_)|refine kF (fun h=>?_) (fun h=>?_))
 ·have hlt:i < l.length:=by omega
  have hcn:=hc l[i] (List.getElem_mem hlt)
  have hct:=okL.text ⟨hl,htot,hc⟩ (List.getElem_mem hlt)
  have e1:=qN l hlt
  rw[List.drop_eq_getElem_cons hlt]at hb
  simp only[outF]at hb
  generalize l[i]=c at *
  obtain ⟨k,m,t⟩:=c
  simp only at hcn hct hb e1
  have hl1:k=1→outL l=outF (addI n (max m 0)) (l.drop (i+1)):=fun h=>by rw[hb,if_pos h]
  have hl2:¬ k=1→k=2→outL l=outF (addI n (lc t)) (l.drop (i+1)):=fun h h2=>by rw[hb,if_neg h,if_pos h2]
  have hl3:¬ k=1→¬ k=2→outL l=outF n (l.drop (i+1)):=fun h h2=>by rw[hb,if_neg h,if_neg h2]
  have hr:=zA hn1 (show 0≤max m 0 by omega)
  have hr2:=zA hn1 (show 0≤(lc t:Int) by omega)
  have hlt2:=lc_len t
  simp (disch:=omega) only[aR,seval,kD,h,e1,kM]
  repeat (with_reducible refine And.intro ?_ ?_;focus first|omega|kernel_rfl)
  (try ((with_reducible first|refine kE (fun q1=>?_) (fun q1=>?_)|refine kF (fun q1=>?_) (fun q1=>?_))<;>simp (disch:=omega) only[aR,seval,kD,q1,e1,kM]<;>(with_reducible first|(refine And.intro ?_ ?_;focus first|omega|kernel_rfl);(repeat (refine And.intro ?_ ?_;focus first|omega|kernel_rfl));(try simp (disch:=omega) only[aR,seval,kD,q1,e1,kM])|skip)<;>(try ((with_reducible first|refine kE (fun q2=>?_) (fun q2=>?_)|refine kF (fun q2=>?_) (fun q2=>?_))<;>simp (disch:=omega) only[aR,seval,kD,q2,e1,kM]<;>(with_reducible first|(refine And.intro ?_ ?_;focus first|omega|kernel_rfl);(repeat (refine And.intro ?_ ?_;focus first|omega|kernel_rfl));(try simp (disch:=omega) only[aR,seval,kD,q2,e1,kM])|skip)<;>skip))))
  all_goals first
   | (refine kFl (by simp [kC]) ⟨hn1,hn2⟩ hcn ?_
      simp (disch:=omega) only[aR,seval,kD]
      refine kN ⟨(addI n (max m 0),i+1),by omega,hr.1,hr.2,hl1 (by omega)⟩ (by simp only;omega) ?_
      rw[hSt];refine kO [] [] ?_
      simp only[aR,seval]<;>(and_intros<;>first|rfl|omega|trivial))
   | (refine call_loose (by simp [kC]) hct ?_
      simp (disch:=omega) only[aR,seval,kD]
      refine kFl (by simp[kC]) ⟨hn1,hn2⟩ (by omega) ?_
      simp (disch:=omega) only[aR,seval,kD]
      refine kN ⟨(addI n (lc t),i+1),by omega,hr2.1,hr2.2,hl2 (by omega) (by omega)⟩ (by simp only;omega) ?_
      rw[hSt];refine kO [] [] ?_
      simp only[aR,seval,show max (lc t:Int) 0=lc t by omega]<;>(and_intros<;>first|rfl|omega|trivial))
   | (refine kN ⟨(n,i+1),by omega,hn1,hn2,hl3 (by omega) (by omega)⟩ (by simp only;omega) ?_
      rw[hSt];refine kO [] [] ?_
      simp only[aR,seval]<;>(and_intros<;>first|rfl|omega|trivial))
   | trace_state
 ·simp only[aR,seval,h]
  rw[List.drop_of_length_le (by omega)]at hb
  rw[hb];rfl
theorem call_rout {Γ:Env} (hf:Γ.get 87=some kEf) {σ:AS} {dr:Bool} {l:List Cp} {t:Nat} {ys:List AV} {d:Option Nat} {K:AS→Prop} (hy:ys=qI l) (h:okL l)
    (hk:cont σ d (.v (.int .i64 (outL l))) K):kS Tryz.prog Γ dr σ 87 [.sl t 3 ys] d K:=by
 subst hy
 exact kP (C:=kEf) (i:=⟨l,h⟩) hf rfl rfl rfl rfl (fun _ h=>h) rfl hk
end Go.Proofs
-- HAp3
namespace Go.Proofs
open Go Go.Rw
theorem rnormal_good:Rw.Good Tryz.prog 85 kAU:=by
 have hΓ:kK Tryz.prog [(51,j9)]:=(kG kDG kI)
 refine kZ (nn:=70) hΓ Tryz.func85 (by kernel_rfl) rfl (show Tryz.f85.results.toList=[.tmp 2] from rfl) (fun _=>rfl) (fun _=>rfl) ?_
 rintro ⟨l,hl,htot,hc⟩
 simp only[aR,seval,kM]
 obtain ⟨St,hSt⟩:∃ St:{ i:Nat // i≤l.length∧qT l=jF (ahead l i) (l.drop i) }→AS,∀ i,St i=AS.of 70 [(0,.sl 0 3 (qI l)),(3,.v (.int .i64 i.1))] [] []:=⟨_,fun _=>rfl⟩
 refine qE hΓ St (fun i=>l.length - i.1) ⟨0,by omega,rfl⟩ (by rw[hSt];refine kO [] [] ?_;simp only[aR,seval]<;>(and_intros<;>first|rfl|omega|trivial)) ?_
 rintro ⟨i,hi,hb⟩
 rw[hSt]
 simp only
 simp only[aR,seval,kM]
 (with_reducible first|refine kE (fun h=>?_) (fun h=>?_)|refine kF (fun h=>?_) (fun h=>?_))
 ·have hlt:i < l.length:=by omega
  have hci:=okL.text ⟨hl,htot,hc⟩ (List.getElem_mem hlt)
  have e1:=qN l hlt
  rw[List.drop_eq_getElem_cons hlt]at hb
  simp only[jF]at hb
  have hne:ahead l (i+1)=some l[i]:=by simp[ahead,hlt]
  rw[← hne]at hb
  have again:∀ σ:AS,Weak σ (AS.of 70 [(0,.sl 0 3 (qI l)),(3,.v (.int .i64 (i+1:Nat)))] [] [])→qT l=jF (ahead l (i+1)) (l.drop (i+1))→∃ y:{ i:Nat // i≤l.length∧qT l=jF (ahead l i) (l.drop i) },l.length - y.1 < l.length - i∧Weak σ (St y):=fun σ hw hb2 =>
   ⟨⟨i+1,by omega,hb2⟩,by simp only;omega,by rw[hSt];exact hw⟩
  by_cases h0:i=0
  ·have hp:ahead l i=none:=by simp[ahead,h0]
   rw[hp]at hb
   simp only[Bool.and_true]at hb
   have no:qY l[i]=false∨False→qT l=false:=fun h=>by
    rcases h with h|h
    ·rw[hb,h];rfl
    ·exact h.elim
   have yes:qY l[i]=true→qT l=jF (ahead l (i+1)) (l.drop (i+1)):=fun h=>by rw[hb,h];rfl
   generalize l[i]=c at *
   obtain ⟨k,n,t⟩:=c
   simp only at *
   have hz:¬ (i:Int) > 0:=by omega
   have hi3:0≤(i:Int):=by omega
   by_cases k13:k=1∨k=3
   ·rcases k13 with rfl|rfl
    all_goals
     by_cases n1:n < 1
     ·have n2:¬ n > 0:=by omega
      simp (disch:=omega) only[aR,seval,kD,h,e1,kM,hz,hi3,n1,no (.inl (by simp[qY,n2]))]
     ·have n2:n > 0:=by omega
      by_cases t0:t=[]
      ·subst t0
       simp (disch:=omega) only[aR,seval,kD,h,e1,kM,hz,hi3,n1]
       repeat (with_reducible refine And.intro ?_ ?_;focus first|omega|kernel_rfl)
       refine again _ ?_ (yes (by simp[qY,n2]))
       refine kO [] [] ?_
       simp only[aR,seval]<;>(and_intros<;>first|rfl|omega|trivial)
      ·simp (disch:=omega) only[aR,seval,kD,h,e1,kM,hz,hi3,n1,t0,no (.inl (by simp[qY,t0]))]
   ·have k1:¬ k=1:=by omega
    have k3:¬ k=3:=by omega
    by_cases k2:k=2
    ·subst k2
     by_cases n0:n=0
     ·subst n0
      by_cases t0:t=[]
      ·subst t0
       simp (disch:=omega) only[aR,seval,kD,h,e1,kM,hz,hi3,no (.inl (by simp[qY]))]
      ·simp (disch:=omega) only[aR,seval,kD,h,e1,kM,hz,hi3,t0]
       refine kAl (by simp[kC]) hci ?_
       cases hv:(pts t).isSome with
       | false=>simp (disch:=omega) only [aR,seval,kD,h,e1,kM,hz,hi3,hv,no (.inl (by simp [qY,hv]))]
       | true =>
         simp (disch:=omega) only[aR,seval,kD,h,e1,kM,hz,hi3,hv]
         repeat (with_reducible refine And.intro ?_ ?_;focus first|omega|kernel_rfl)
         refine again _ ?_ (yes (by simp[qY,hv,t0]))
         refine kO [] [] ?_
         simp only[aR,seval]<;>(and_intros<;>first|rfl|omega|trivial)
     ·simp (disch:=omega) only[aR,seval,kD,h,e1,kM,hz,hi3,n0,no (.inl (by simp[qY,n0]))]
    ·simp (disch:=omega) only[aR,seval,kD,h,e1,kM,hz,hi3,k1,k2,k3,no (.inl (by simp[qY,k1,k2,k3]))]
  ·have hp:ahead l i=some l[i - 1]:=by simp[ahead,h0]
   have e2:(qI l).getD (i - 1) .any = .agg [.v (.int .i64 l[i - 1].k),.v (.int .i64 l[i - 1].n),.v (sv l[i - 1].t)]:=qN l (by omega)
   have e3:((i:Int) - 1).toNat=i - 1:=by omega
   rw[hp]at hb
   simp only at hb
   have no:qY l[i]=false∨follows l[i - 1] l[i]=false→qT l=false:=fun h=>by
    rcases h with h|h
    ·rw[hb,h];rfl
    ·rw[hb,h];simp
   have yes:qY l[i]=true→follows l[i - 1] l[i]=true→qT l=jF (ahead l (i+1)) (l.drop (i+1)):=fun h h2=>by rw[hb,h,h2];rfl
   generalize l[i - 1]=pc at *
   generalize l[i]=c at *
   obtain ⟨k,n,t⟩:=c
   obtain ⟨pk0,pn,pt⟩:=pc
   simp only at *
   have hz:(i:Int) > 0:=by omega
   have hi3:0≤(i:Int):=by omega
   have hi4:0≤(i:Int) - 1∧(i:Int) - 1 < l.length:=by omega
   by_cases k13:k=1∨k=3
   ·rcases k13 with rfl|rfl
    all_goals
     by_cases n1:n < 1
     ·have n2:¬ n > 0:=by omega
      simp (disch:=omega) only[aR,seval,kD,h,e1,e2,e3,kM,hz,hi3,hi4,n1,no (.inl (by simp[qY,n2]))]
     ·have n2:n > 0:=by omega
      by_cases t0:t=[]
      ·subst t0
       first
        | (by_cases pk:pk0=1
           ·simp (disch:=omega) only[aR,seval,kD,h,e1,e2,e3,kM,hz,hi3,hi4,n1,pk,no (.inr (by simp[follows,pk];done))]
            all_goals exact ⟨mixed1,by kernel_rfl⟩
           ·simp (disch:=omega) only[aR,seval,kD,h,e1,e2,e3,kM,hz,hi3,hi4,n1,pk]
            repeat (with_reducible refine And.intro ?_ ?_;focus first|omega|kernel_rfl)
            refine again _ ?_ (yes (by simp[qY,n2]) (by simp[follows,pk];done))
            refine kO [] [] ?_
            simp only[aR,seval]<;>(and_intros<;>first|rfl|omega|trivial))
        | (by_cases pk:pk0=3
           ·simp (disch:=omega) only[aR,seval,kD,h,e1,e2,e3,kM,hz,hi3,hi4,n1,pk,no (.inr (by simp[follows,pk];done))]
            all_goals exact ⟨mixed1,by kernel_rfl⟩
           ·simp (disch:=omega) only[aR,seval,kD,h,e1,e2,e3,kM,hz,hi3,hi4,n1,pk]
            repeat (with_reducible refine And.intro ?_ ?_;focus first|omega|kernel_rfl)
            refine again _ ?_ (yes (by simp[qY,n2]) (by simp[follows,pk];done))
            refine kO [] [] ?_
            simp only[aR,seval]<;>(and_intros<;>first|rfl|omega|trivial))
      ·simp (disch:=omega) only[aR,seval,kD,h,e1,e2,e3,kM,hz,hi3,hi4,n1,t0,no (.inl (by simp[qY,t0]))]
   ·have k1:¬ k=1:=by omega
    have k3:¬ k=3:=by omega
    by_cases k2:k=2
    ·subst k2
     by_cases n0:n=0
     ·subst n0
      by_cases t0:t=[]
      ·subst t0
       simp (disch:=omega) only[aR,seval,kD,h,e1,e2,e3,kM,hz,hi3,hi4,no (.inl (by simp[qY]))]
      ·simp (disch:=omega) only[aR,seval,kD,h,e1,e2,e3,kM,hz,hi3,hi4,t0]
       refine kAl (by simp[kC]) hci ?_
       cases hv:(pts t).isSome with
       | false=>simp (disch:=omega) only [aR,seval,kD,h,e1,e2,e3,kM,hz,hi3,hi4,hv,no (.inl (by simp [qY,hv]))]
       | true =>
         by_cases pk:pk0=3
         ·simp (disch:=omega) only[aR,seval,kD,h,e1,e2,e3,kM,hz,hi3,hi4,hv,pk,no (.inr (by simp[follows,pk]))]
          all_goals exact ⟨mixed1,by kernel_rfl⟩
         ·by_cases pl:pk0=2
          ·simp (disch:=omega) only[aR,seval,kD,h,e1,e2,e3,kM,hz,hi3,hi4,hv,pl,no (.inr (by simp[follows,pl]))]
           all_goals exact ⟨mixed1,by kernel_rfl⟩
          ·simp (disch:=omega) only[aR,seval,kD,h,e1,e2,e3,kM,hz,hi3,hi4,hv,pk,pl]
           repeat (with_reducible refine And.intro ?_ ?_;focus first|omega|kernel_rfl)
           refine again _ ?_ (yes (by simp[qY,hv,t0]) (by simp[follows,pk,pl]))
           refine kO [] [] ?_
           simp only[aR,seval]<;>(and_intros<;>first|rfl|omega|trivial)
     ·simp (disch:=omega) only[aR,seval,kD,h,e1,e2,e3,kM,hz,hi3,hi4,n0,no (.inl (by simp[qY,n0]))]
    ·simp (disch:=omega) only[aR,seval,kD,h,e1,e2,e3,kM,hz,hi3,hi4,k1,k2,k3,no (.inl (by simp[qY,k1,k2,k3]))]
 ·simp only[aR,seval,h]
  rw[List.drop_of_length_le (by omega)]at hb
  rw[hb];rfl
end Go.Proofs
-- HAp4
namespace Go.Proofs
open Go Go.Rw
theorem call_rnormal {Γ:Env} (hf:Γ.get 85=some kAU) {σ:AS} {dr:Bool} {l:List Cp} {t:Nat} {ys:List AV} {d:Option Nat} {K:AS→Prop} (hy:ys=qI l) (h:okL l)
    (hk:cont σ d (.v (.bool (qT l))) K):kS Tryz.prog Γ dr σ 85 [.sl t 3 ys] d K:=by
 subst hy
 exact kP (C:=kAU) (i:=⟨l,h⟩) hf rfl rfl rfl rfl (fun _ h=>h) rfl hk
theorem kGE:Rw.Good Tryz.prog 63 kAR:=by
 have hΓ:kK Tryz.prog [(85,kAU),(86,kBL),(87,kEf)]:=(kG rnormal_good (kG kHD (kG rout_good kI)))
 refine kZ (nn:=20) hΓ Tryz.func63 (by kernel_rfl) rfl (show Tryz.f63.results.toList=[.tmp 2] from rfl) (fun _=>rfl) (fun _=>rfl) ?_
 rintro ⟨l,hl⟩
 simp only[aR,seval,kM]
 have c1:100 < (l.length:Int)→qV l=3:=fun h=>by rw[qV,if_pos (by omega)]
 have c2:¬ 100 < (l.length:Int)→qT l=false→qV l=1:=fun h h2=>by rw[qV,if_neg (by omega),if_pos h2]
 have c3:¬ 100 < (l.length:Int)→qT l=true→(kA9 l > 2000∨outL l > 2000)→qV l=3:=fun h h2 h3=>by rw[qV,if_neg (by omega),if_neg (by rw[h2];decide),if_pos h3]
 have c4:¬ 100 < (l.length:Int)→qT l=true→¬ (kA9 l > 2000∨outL l > 2000)→qV l=0:=fun h h2 h3=>by rw[qV,if_neg (by omega),if_neg (by rw[h2];decide),if_neg h3]
 (with_reducible first|refine kE (fun h=>?_) (fun h=>?_)|refine kF (fun h=>?_) (fun h=>?_))
 ·simp only[aR,seval,h,c1 (by omega)]
 ·simp only[aR,seval,h]
  refine call_rnormal (by simp[kC]) rfl hl ?_
  cases hn:qT l with
  | false=>simp only [aR,seval,hn,c2 (by omega) hn]
  | true =>
    simp only[aR,seval,hn]
    refine kHZ (by simp[kC]) rfl hl ?_
    simp only[aR,seval]
    by_cases h1:kA9 l > 2000
    ·simp only[aR,seval,h1,c3 (by omega) hn (.inl (by omega))]
    ·simp only[aR,seval,h1]
     refine call_rout (by simp[kC]) rfl hl ?_
     simp only[aR,seval]
     by_cases h2:outL l > 2000
     ·simp only[aR,seval,h2,c3 (by omega) hn (.inr (by omega))]
     ·simp only[aR,seval,h2,c4 (by omega) hn (by omega)]
theorem kFi {Γ:Env} (hf:Γ.get 63=some kAR) {σ:AS} {dr:Bool} {l:List Cp} {t:Nat} {ys:List AV} {d:Option Nat} {K:AS→Prop} (hy:ys=qI l) (h:okL l)
    (hk:cont σ d (.v (.int .i64 (qV l))) K):kS Tryz.prog Γ dr σ 63 [.sl t 3 ys] d K:=by
 subst hy
 exact kP (C:=kAR) (i:=⟨l,h⟩) hf rfl rfl rfl rfl (fun _ h=>h) rfl hk
def doR (s:List UInt8) (l:List Cp):AV:=res2 (.v (sv (zL s l))) (errI s l)
abbrev doCon:Con where
 ι:=Str×Ed
 args:=fun p=>[.v (sv p.1.1),.sl 0 3 (qI p.2.1)]
 post:=fun p r=>r=doR p.1.1 p.2.1
 plain:=true
theorem stp_puts (s:List UInt8) (l:List Cp):(stp s l).flatMap Sp.puts=zL s l∧(zL s l).length≤8000:=by
 unfold stp zL
 by_cases he:errI s l=0
 ·rw[if_pos he,if_pos he]
  obtain ⟨hc,_,hb,hf⟩:=kEs he
  have hcc:=zK hc
  have ho:=kF2 l (cpts s) 0 (by omega) hf hcc.2.2.2.2.2
  have h4:=kBf (cs:=doL (cpts s) l)
  have:outL l=outF 0 l:=rfl
  exact ⟨kHN l _ hf,by omega⟩
 ·rw[if_neg he,if_neg he];exact ⟨rfl,by simp⟩
theorem take_puts (S:List Sp) (i:Nat) (h:i < S.length):(S.take (i+1)).flatMap Sp.puts=(S.take i).flatMap Sp.puts++S[i].puts:=by
 rw[List.take_succ_eq_append_getElem h,List.flatMap_append];simp
theorem take_puts_le (S:List Sp) (i:Nat):((S.take i).flatMap Sp.puts).length≤(S.flatMap Sp.puts).length:=by
 conv=>rhs;rw[← List.take_append_drop i S]
 rw[List.flatMap_append,List.length_append];omega
theorem stp_len (s:List UInt8) (l:List Cp):(stp s l).length≤100:=by
 unfold stp
 split
 ·rename_i he
  have:=(zK (kEs he).1).1
  rw[kFd];exact this
 ·simp
theorem do_good:Rw.Good Tryz.prog 72 doCon:=by
 have hΓ:kK Tryz.prog [(95,kFG)]:=(kG steps_good kI)
 refine kZ (nn:=30) hΓ Tryz.func72 (by kernel_rfl) rfl (show Tryz.f72.results.toList=[.tmp 4,.tmp 5] from rfl) (fun _=>rfl) (fun _=>rfl) ?_
 rintro ⟨⟨s,hs⟩,⟨l,hl⟩⟩
 simp only[aR,seval]
 refine call_steps (by simp[kC]) rfl hs hl (by omega) ?_
 obtain ⟨hp1,hp2⟩:=stp_puts s l
 have hle:=take_puts_le (stp s l)
 have hlen:=stp_len s l
 have hdo:doR s l=res2 (.v (sv ((stp s l).flatMap Sp.puts))) (errI s l):=by unfold doR;rw[hp1]
 rw[← hp1]at hp2
 simp only[aR,seval,kCq,res2,kBw]
 generalize stp s l=S at *
 obtain ⟨St,hSt⟩:∃ St:{ i:Nat // i≤S.length }→AS,∀ i,St i=AS.of 30 [(6,.v (sv ((S.take i.1).flatMap Sp.puts))),(8,.v (.int .i64 (errI s l))),(17,.sl 0 5 (sts S)),(18,.v (.int .i64 S.length)),(19,.v (.int .i64 i.1))] [] []:=⟨_,fun _=>rfl⟩
 refine qE hΓ St (fun i=>S.length - i.1) ⟨0,by omega⟩ (by rw[hSt];refine kO [] [] ?_;simp only[aR,seval,List.take_zero,List.flatMap_nil]<;>(and_intros<;>first|rfl|omega|trivial)) ?_
 rintro ⟨i,hi⟩
 rw[hSt]
 simp only
 simp only[aR,seval]
 (with_reducible first|refine kE (fun h=>?_) (fun h=>?_)|refine kF (fun h=>?_) (fun h=>?_))
 ·have hlt:i < S.length:=by omega
  have e1:=sts_getD S hlt
  have h1:=hle i
  have h2:=hle (i+1)
  have htp:=take_puts S i hlt
  rw[htp,List.length_append]at h2
  simp (disch:=omega) only[aR,seval,kD,h,e1,kBw]
  repeat (with_reducible refine And.intro ?_ ?_;focus first|omega|kernel_rfl)
  refine kN ⟨i+1,by omega⟩ (by simp only;omega) ?_
  rw[hSt]
  simp only
  rw[htp]
  refine kO [] [] ?_
  simp only[aR,seval]<;>(and_intros<;>first|rfl|omega|trivial)
 ·have hin:i=S.length:=by omega
  simp only[aR,seval,h,hin,List.take_length]
  rw[hdo];rfl
theorem call_do {Γ:Env} {f:Nat} (hf:Γ.get f=some doCon) {σ:AS} {dr:Bool} {s:List UInt8} {l:List Cp} {t:Nat} {ys:List AV} {d:Option Nat} {K:AS→Prop} (hy:ys=qI l) (hs:s.length≤1099511627776) (hl:okL l)
    (hk:cont σ d (doR s l) K):kS Tryz.prog Γ dr σ f [.v (sv s),.sl t 3 ys] d K:=by
 subst hy
 exact kP (C:=doCon) (i:=(⟨s,hs⟩,⟨l,hl⟩)) hf rfl rfl rfl rfl (fun _ h=>h) rfl hk
end Go.Proofs
-- HAq0
namespace Go.Proofs
open Go Go.Rw
abbrev kFV:Con where
 ι:=Wide×{ m:Int // 0≤m∧m≤1000000 }
 args:=fun p=>[.sl 0 3 (qI p.1.1),.v (.int .i64 p.2.1)]
 post:=fun p r=>r = .v (.int .i64 (zS p.2.1 0 p.1.1))
 plain:=true
theorem weigh_good:Rw.Good Tryz.prog 33 kFV:=by
 have hΓ:kK Tryz.prog [(32,kFy)]:=(kG kEq kI)
 refine kZ (nn:=28) hΓ Tryz.func33 (by kernel_rfl) rfl (show Tryz.f33.results.toList=[.tmp 4] from rfl) (fun _=>rfl) (fun _=>rfl) ?_
 rintro ⟨⟨l,hl,hc⟩,⟨m,hm⟩⟩
 simp only[aR,seval,kM]
 obtain ⟨St,hSt⟩:∃ St:{ p:Int×Nat // p.2≤l.length∧(0≤p.1∧p.1≤1099511627776)∧zS m 0 l=zS m p.1 (l.drop p.2) }→AS,∀ p,St p=AS.of 28 [(0,.sl 0 3 (qI l)),(1,.v (.int .i64 m)),(5,.v (.int .i64 p.1.1)),(6,.v (.int .i64 p.1.2))] [] []:=⟨_,fun _=>rfl⟩
 refine qE hΓ St (fun p=>l.length - p.1.2) ⟨(0,0),by omega,by simp only;omega,rfl⟩ (by rw[hSt];refine kO [] [] ?_;simp only[aR,seval]<;>(and_intros<;>first|rfl|omega|trivial)) ?_
 rintro ⟨⟨s,i⟩,hi,hs,hb⟩
 simp only at hi hs hb
 rw[hSt]
 simp only
 simp only[aR,seval,kM]
 (with_reducible first|refine kE (fun h=>?_) (fun h=>?_)|refine kF (fun h=>?_) (fun h=>?_))
 ·have hlt:i < l.length:=by omega
  have hci:=hc l[i] (List.getElem_mem hlt)
  have e1:=qN l hlt
  rw[List.drop_eq_getElem_cons hlt,zS]at hb
  generalize l[i]=c at *
  obtain ⟨k,n,t⟩:=c
  simp only at hci hb e1
  simp (disch:=omega) only[aR,seval,kD,h]
  (with_reducible first|refine kE (fun h2=>?_) (fun h2=>?_)|refine kF (fun h2=>?_) (fun h2=>?_))
  ·simp (disch:=omega) only[aR,seval,kD,h2,e1,kM]
   repeat (with_reducible refine And.intro ?_ ?_;focus first|omega|kernel_rfl)
   refine kDk (by simp[kC]) (y:=[(t.length:Int),2]) rfl hs (by simp;omega) (by simp) ?_
   simp (disch:=omega) only[aR,seval,kD]
   rw[if_pos h2]at hb
   have hr:=kAQ [(t.length:Int),2] hs (by simp)
   refine kN ⟨(sumF s [(t.length:Int),2],i+1),by simp only;omega,by simp only;omega,hb⟩ (by simp only;omega) ?_
   rw[hSt];refine kO [] [] ?_
   simp only[aR,seval]<;>(and_intros<;>first|rfl|omega|trivial)
  ·simp (disch:=omega) only[aR,seval,kD,h2]
   rw[hb,if_neg h2]
 ·simp only[aR,seval,h]
  rw[List.drop_of_length_le (by omega)]at hb
  rw[hb];rfl
theorem call_weigh {Γ:Env} (hf:Γ.get 33=some kFV) {σ:AS} {dr:Bool} {l:List Cp} {m:Int} {t:Nat} {ys:List AV} {d:Option Nat} {K:AS→Prop} (hy:ys=qI l) (h1:l.length≤9223372036854775807) (h2:∀ c∈l,c.t.length≤9223372036854775807) (hm:0≤m∧m≤1000000)
    (hk:cont σ d (.v (.int .i64 (zS m 0 l))) K):kS Tryz.prog Γ dr σ 33 [.sl t 3 ys,.v (.int .i64 m)] d K:=by
 subst hy
 exact kP (C:=kFV) (i:=(⟨l,h1,h2⟩,⟨m,hm⟩)) hf rfl rfl rfl rfl (fun _ h=>h) rfl hk
theorem weigh_ok {l:List Cp} {m:Int} (hm:m≤1000000) (hc:∀ c∈l,(-9223372036854775808≤c.n∧c.n≤9223372036854775807)∧c.t.length≤9223372036854775807) (h:zS m 0 l≤m):okL l∧(tot l:Int)+2 * l.length≤m:=by
 have hle:=compsF_le (m:=m) (by omega) l (s:=0) (by omega) h
 exact ⟨⟨by omega,by omega,fun c hc'=>(hc c hc').1⟩,by omega⟩
theorem kFD (t:List UInt8):(cpts t).length≤t.length:=by
 unfold cpts
 cases h:pts t with
 | none=>simp
 | some cs =>
   obtain ⟨_,e⟩:=kA5 h
   have:=encs_le cs
   rw[← e]at this
   exact this
theorem kAc (t:List UInt8):cnt t=(cpts t).length:=by
 unfold cnt cpts
 cases h:pts t<;>rfl
end Go.Proofs
-- HUk0
namespace Go.Proofs
open Go Go.Rw
structure Nd where
 id:Int
 par:Int
 nm:List UInt8
 dir:Bool
 text:List UInt8
 deriving Inhabited,DecidableEq
def nA (x:Nd):AV:=.agg [.v (.int .i64 x.id),.v (.int .i64 x.par),.v (sv x.nm),.v (.bool x.dir),.v (sv x.text)]
def kT (l:List Nd):List AV:=l.map nA
theorem kG5:kT []=[]:=rfl
theorem kL (l:List Nd):(kT l).length=l.length:=by simp[kT]
theorem qB (l:List Nd) {i:Nat} (h:i < l.length):(kT l).getD i .any=nA l[i]:=by simp[kT,List.getD_eq_getElem?_getD,h]
theorem kGt (l:List Nd) (i:Nat):(kT l).take i=kT (l.take i):=by simp[kT,List.map_take]
theorem nodes_drop (l:List Nd) (i:Nat):(kT l).drop i=kT (l.drop i):=by simp[kT,List.map_drop]
theorem nA_er (x:Nd):(nA x).er=nA x:=by simp[nA,AV.er,AV.erL]
theorem kB3:∀ l:List Nd,AV.erL (kT l)=kT l
 | []=>rfl
 | x::l=>by simp only [kT,List.map_cons,AV.erL,nA_er];rw [show List.map nA l=kT l from rfl,kB3 l]
def zO:Nd:=⟨0,0,[],false,[]⟩
def ndx (id:Int):List Nd→Nat
 | []=>0
 | x::l=>if x.id=id then 0 else ndx id l+1
def ndI (id:Int) (l:List Nd):Int:=if ndx id l < l.length then (ndx id l:Int) else -1
theorem ndx_le (id:Int):∀ l:List Nd,ndx id l≤l.length
 | []=>Nat.le_refl _
 | x::l=>by
   have:=ndx_le id l
   rw[ndx];split<;>simp only[List.length_cons]<;>omega
theorem ndx_get (id:Int):∀ (l:List Nd) (h:ndx id l < l.length),(l[ndx id l]).id=id
 | x::l,h=>by
   by_cases hx:x.id=id
   ·simp[ndx,hx]
   ·have e:ndx id (x::l)=ndx id l+1:=by rw[ndx,if_neg hx]
    simp only[e,List.getElem_cons_succ]
    exact ndx_get id l (by rw[e]at h;simpa using h)
theorem ndx_mem (id:Int):∀ l:List Nd,ndx id l < l.length↔∃ x∈l,x.id=id
 | []=>by simp [ndx]
 | x::l=>by
   rw[ndx]
   by_cases hx:x.id=id
   ·rw[if_pos hx];simp[hx]
   ·rw[if_neg hx];simp[hx,ndx_mem id l]
def kid (par:Int) (nm:List UInt8):List Nd→Int
 | []=>-1
 | x::l=>if x.par=par∧x.nm=nm then x.id else kid par nm l
def inN (l:List Nd) (top:Int):Nat→Int→Bool
 | 0,_=>true
 | n+1,id=>if id=top then true else if ndx id l < l.length then inN l top n (l.getD (ndx id l) zO).par else false
def zW (l:List Nd) (id top:Int):Bool:=inN l top (l.length+1) id
def kBm (l:List Nd) (par:Int) (nm:List UInt8) (id:Int):Int:=if 0≤kid par nm l∧kid par nm l≠id then 6 else 0
def zF (l:List Nd) (par:Int) (nm:List UInt8) (id:Int):Int :=
 if par=0 then kBm l par nm id
 else if ndx par l < l.length then (if (l.getD (ndx par l) zO).dir=false then 8 else if id > 0∧zW l par id=true then 10 else kBm l par nm id)
 else 5
def totN:List Nd→Nat
 | []=>0
 | x::l=>cnt x.text+totN l
def atN (id:Int):List Nd→Nat
 | []=>0
 | x::l=>if x.id < id then atN id l+1 else 0
theorem atN_le (id:Int):∀ l:List Nd,atN id l≤l.length
 | []=>Nat.le_refl _
 | x::l=>by
   have:=atN_le id l
   rw[atN];split<;>simp only[List.length_cons]<;>omega
def doN (l:List Nd) (a:Ac):List Nd×Int :=
 let x:=l.getD (ndx a.id l) zO
 if a.k=1 then
  if a.id < 1∨a.id > 1099511627776∨qG a.nm=false then (l,1)
  else if ndx a.id l < l.length then (l,6)
  else if zF l a.par a.nm 0≠0 then (l,zF l a.par a.nm 0)
  else if l.length ≥ 100 then (l,4)
  else (l.take (atN a.id l)++⟨a.id,a.par,a.nm,a.dir,[]⟩::l.drop (atN a.id l),0)
 else if a.k=2 then
  if ¬ ndx a.id l < l.length then (l,5)
  else if (l.any fun y=>decide (y.par=a.id))=true then (l,9)
  else (l.take (ndx a.id l)++l.drop (ndx a.id l+1),0)
 else if a.k=3 then
  if qG a.nm=false then (l,1)
  else if ¬ ndx a.id l < l.length then (l,5)
  else if zF l a.par a.nm a.id≠0 then (l,zF l a.par a.nm a.id)
  else (l.set (ndx a.id l) ⟨x.id,a.par,a.nm,x.dir,x.text⟩,0)
 else if a.k=4 then
  if ¬ ndx a.id l < l.length then (l,5)
  else if x.dir=true then (l,8)
  else if errI x.text a.ops≠0 then (l,errI x.text a.ops)
  else if (totN (l.set (ndx a.id l) ⟨x.id,x.par,x.nm,x.dir,zL x.text a.ops⟩):Int) > 10000 then (l,4)
  else (l.set (ndx a.id l) ⟨x.id,x.par,x.nm,x.dir,zL x.text a.ops⟩,0)
 else (l,1)
structure Alln where
 now:List Nd
 n:Int
 e:Int
 deriving DecidableEq
def allF (t:List Nd):List Ac→Nat→Alln
 | [],n=>⟨t,n,0⟩
 | a::r,n=>if (doN t a).2≠0 then ⟨[],n,(doN t a).2⟩ else allF (doN t a).1 r (n+1)
def allN (t:List Nd) (l:List Ac):Alln:=if txnE l≠0 then ⟨[],-1,txnE l⟩ else allF t l 0
end Go.Proofs
-- HUk1
namespace Go.Proofs
open Go Go.Rw
abbrev NdsL:={ l:List Nd // l.length≤1099511627776 }
abbrev kB7:Con where
 ι:=NdsL×Int
 args:=fun p=>[.sl 0 5 (kT p.1.1),.v (.int .i64 p.2)]
 post:=fun p r=>r = .v (.int .i64 (ndI p.2 p.1.1))
 plain:=true
theorem kCc:Rw.Good Tryz.prog 53 kB7:=by
 have hΓ:kK Tryz.prog []:=kI
 refine kZ (nn:=20) hΓ Tryz.func53 (by kernel_rfl) rfl (show Tryz.f53.results.toList=[.tmp 4] from rfl) (fun _=>rfl) (fun x=>by simp[AV.erL,AV.er]) ?_
 rintro ⟨⟨l,hl⟩,id⟩
 simp only[aR,seval,kL]
 obtain ⟨St,hSt⟩:∃ St:{ i:Nat // i≤l.length∧ndx id l=i+ndx id (l.drop i) }→AS,∀ i,St i=AS.of 20 [(0,.sl 0 5 (kT l)),(1,.v (.int .i64 id)),(5,.v (.int .i64 i.1))] [] []:=⟨_,fun _=>rfl⟩
 refine qE hΓ St (fun i=>l.length - i.1) ⟨0,by omega,by simp⟩ (by rw[hSt];refine kO [] [] ?_;simp only[aR,seval]<;>(and_intros<;>first|rfl|omega|trivial)) ?_
 rintro ⟨i,hi,hf⟩
 rw[hSt]
 simp only
 simp only[aR,seval,kL]
 (with_reducible first|refine kE (fun h=>?_) (fun h=>?_)|refine kF (fun h=>?_) (fun h=>?_))
 ·have hlt:i < l.length:=by omega
  have e1:=qB l hlt
  rw[List.drop_eq_getElem_cons hlt,ndx]at hf
  generalize l[i]=x at *
  by_cases hx:x.id=id
  ·rw[if_pos hx]at hf
   simp only[aR,seval,h,e1,nA,kL,hx]
   repeat (with_reducible refine And.intro ?_ ?_;focus first|omega|kernel_rfl)
   rw[ndI,if_pos (by omega),hf,Nat.add_zero]
  ·rw[if_neg hx]at hf
   simp only[aR,seval,h,e1,nA,kL,hx,wO (n:=(i:Int)+1)]
   repeat (with_reducible refine And.intro ?_ ?_;focus first|omega|kernel_rfl)
   refine kN ⟨i+1,by omega,by omega⟩ (by simp only;omega) ?_
   rw[hSt];refine kO [] [] ?_
   simp only[aR,seval]<;>(and_intros<;>first|rfl|omega|trivial)
 ·simp only[aR,seval,h]
  rw[List.drop_of_length_le (by omega),ndx]at hf
  rw[ndI,if_neg (by omega)]
theorem kBX {Γ:Env} (hf:Γ.get 53=some kB7) {σ:AS} {dr:Bool} {l:List Nd} {id:Int} {ys:List AV} {d:Option Nat} {K:AS→Prop} (hy:ys=kT l) (hl:l.length≤1099511627776)
    (hk:cont σ d (.v (.int .i64 (ndI id l))) K):kS Tryz.prog Γ dr σ 53 [.sl 0 5 ys,.v (.int .i64 id)] d K:=by
 subst hy
 exact kP (C:=kB7) (i:=(⟨l,hl⟩,id)) hf rfl rfl rfl (by simp[AV.erL,AV.er]) (fun _ h=>h) rfl hk
abbrev kidCon:Con where
 ι:=NdsL×Int×List UInt8
 args:=fun p=>[.sl 0 5 (kT p.1.1),.v (.int .i64 p.2.1),.v (sv p.2.2)]
 post:=fun p r=>r = .v (.int .i64 (kid p.2.1 p.2.2 p.1.1))
 plain:=true
theorem kid_good:Rw.Good Tryz.prog 50 kidCon:=by
 have hΓ:kK Tryz.prog []:=kI
 refine kZ (nn:=35) hΓ Tryz.func50 (by kernel_rfl) rfl (show Tryz.f50.results.toList=[.tmp 6] from rfl) (fun _=>rfl) (fun x=>by simp[AV.erL,AV.er]) ?_
 rintro ⟨⟨l,hl⟩,par,nm⟩
 simp only[aR,seval,kL]
 obtain ⟨St,hSt⟩:∃ St:{ i:Nat // i≤l.length∧kid par nm (l.drop i)=kid par nm l }→AS,∀ i,St i=AS.of 35 [(0,.sl 0 5 (kT l)),(1,.v (.int .i64 par)),(2,.v (sv nm)),(7,.v (.int .i64 i.1))] [] []:=⟨_,fun _=>rfl⟩
 refine qE hΓ St (fun i=>l.length - i.1) ⟨0,by omega,by simp⟩ (by rw[hSt];refine kO [] [] ?_;simp only[aR,seval]<;>(and_intros<;>first|rfl|omega|trivial)) ?_
 rintro ⟨i,hi,hf⟩
 rw[hSt]
 simp only
 simp only[aR,seval,kL]
 (with_reducible first|refine kE (fun h=>?_) (fun h=>?_)|refine kF (fun h=>?_) (fun h=>?_))
 ·have hlt:i < l.length:=by omega
  have e1:=qB l hlt
  rw[List.drop_eq_getElem_cons hlt,kid]at hf
  generalize l[i]=x at *
  by_cases hx:x.par=par
  ·by_cases hy:x.nm=nm
   ·rw[if_pos ⟨hx,hy⟩]at hf
    simp only[aR,seval,h,e1,nA,kL,hx,hy,hf]<;>(and_intros<;>first|rfl|omega|trivial)
   ·rw[if_neg (fun hh=>hy hh.2)]at hf
    simp only[aR,seval,h,e1,nA,kL,hx,hy,wO (n:=(i:Int)+1)]
    repeat (with_reducible refine And.intro ?_ ?_;focus first|omega|kernel_rfl)
    refine kN ⟨i+1,by omega,hf⟩ (by simp only;omega) ?_
    rw[hSt];refine kO [] [] ?_
    simp only[aR,seval]<;>(and_intros<;>first|rfl|omega|trivial)
  ·rw[if_neg (fun hh=>hx hh.1)]at hf
   simp only[aR,seval,h,e1,nA,kL,hx,wO (n:=(i:Int)+1)]
   repeat (with_reducible refine And.intro ?_ ?_;focus first|omega|kernel_rfl)
   refine kN ⟨i+1,by omega,hf⟩ (by simp only;omega) ?_
   rw[hSt];refine kO [] [] ?_
   simp only[aR,seval]<;>(and_intros<;>first|rfl|omega|trivial)
 ·rw[List.drop_of_length_le (by omega),kid]at hf
  simp only[aR,seval,h,hf]
theorem kDr {Γ:Env} (hf:Γ.get 50=some kidCon) {σ:AS} {dr:Bool} {l:List Nd} {par:Int} {nm:List UInt8} {ys:List AV} {d:Option Nat} {K:AS→Prop} (hy:ys=kT l) (hl:l.length≤1099511627776)
    (hk:cont σ d (.v (.int .i64 (kid par nm l))) K):kS Tryz.prog Γ dr σ 50 [.sl 0 5 ys,.v (.int .i64 par),.v (sv nm)] d K:=by
 subst hy
 exact kP (C:=kidCon) (i:=(⟨l,hl⟩,par,nm)) hf rfl rfl rfl (by simp[AV.erL,AV.er]) (fun _ h=>h) rfl hk
abbrev kBz:Con where
 ι:=NdsL×Int×Int
 args:=fun p=>[.sl 0 5 (kT p.1.1),.v (.int .i64 p.2.1),.v (.int .i64 p.2.2)]
 post:=fun p r=>r = .v (.bool (zW p.1.1 p.2.1 p.2.2))
 plain:=true
theorem kGC:Rw.Good Tryz.prog 54 kBz:=by
 have hΓ:kK Tryz.prog [(53,kB7)]:=(kG kCc kI)
 refine kZ (nn:=28) hΓ Tryz.func54 (by kernel_rfl) rfl (show Tryz.f54.results.toList=[.tmp 6] from rfl) (fun _=>rfl) (fun x=>by simp[AV.erL,AV.er]) ?_
 rintro ⟨⟨l,hl⟩,id,top⟩
 simp only[aR,seval,kL]
 obtain ⟨St,hSt⟩:∃ St:{ p:Nat×Int // p.1≤l.length+1∧inN l top (l.length+1 - p.1) p.2=zW l id top }→AS,∀ p,St p=AS.of 28 [(0,.sl 0 5 (kT l)),(1,.v (.int .i64 p.1.2)),(2,.v (.int .i64 top)),(7,.v (.int .i64 p.1.1))] [] []:=⟨_,fun _=>rfl⟩
 refine qE hΓ St (fun p=>l.length+1 - p.1.1) ⟨(0,id),by simp,rfl⟩ (by rw[hSt];refine kO [] [] ?_;simp only[aR,seval]<;>(and_intros<;>first|rfl|omega|trivial)) ?_
 rintro ⟨⟨k,x⟩,hk,hw⟩
 simp only at hk hw
 rw[hSt]
 simp only
 simp only[aR,seval,kL]
 (with_reducible first|refine kE (fun h=>?_) (fun h=>?_)|refine kF (fun h=>?_) (fun h=>?_))
 ·have hlt:k < l.length+1:=by omega
  rw[show l.length+1 - k=(l.length - k)+1 by omega,inN]at hw
  by_cases hx:x=top
  ·rw[if_pos hx]at hw
   simp only[aR,seval,h,hx,← hw]
  ·rw[if_neg hx]at hw
   simp only[aR,seval,h,hx]
   refine kBX (by simp[kC]) rfl hl ?_
   by_cases hf:ndx x l < l.length
   ·rw[if_pos hf]at hw
    have e1:=qB l hf
    have e2:ndI x l=(ndx x l:Int):=by rw[ndI,if_pos hf]
    have e3:l.getD (ndx x l) zO=l[ndx x l]:=by simp[List.getD_eq_getElem?_getD,hf]
    rw[e3]at hw
    generalize l[ndx x l]=y at *
    rw[e2]
    simp only[aR,seval,e1,nA,kL,show ((ndx x l:Int) < 0)=False from eq_false (by omega),wO (n:=(k:Int)+1)]
    repeat (with_reducible refine And.intro ?_ ?_;focus first|omega|kernel_rfl)
    refine kN ⟨(k+1,y.par),by simp only;omega,by simp only;rw[show l.length+1 - (k+1)=l.length - k by omega];exact hw⟩ (by simp only;omega) ?_
    rw[hSt];refine kO [] [] ?_
    simp only[aR,seval]<;>(and_intros<;>first|rfl|omega|trivial)
   ·rw[if_neg hf]at hw
    have e2:ndI x l = -1:=by rw[ndI,if_neg hf]
    rw[e2]
    simp only[aR,seval,← hw]
 ·rw[show l.length+1 - k=0 by omega,inN]at hw
  simp only[aR,seval,h,← hw]
theorem kDC {Γ:Env} (hf:Γ.get 54=some kBz) {σ:AS} {dr:Bool} {l:List Nd} {id top:Int} {ys:List AV} {d:Option Nat} {K:AS→Prop} (hy:ys=kT l) (hl:l.length≤1099511627776)
    (hk:cont σ d (.v (.bool (zW l id top))) K):kS Tryz.prog Γ dr σ 54 [.sl 0 5 ys,.v (.int .i64 id),.v (.int .i64 top)] d K:=by
 subst hy
 exact kP (C:=kBz) (i:=(⟨l,hl⟩,id,top)) hf rfl rfl rfl (by simp[AV.erL,AV.er]) (fun _ h=>h) rfl hk
abbrev kEr:Con where
 ι:=NdsL×Int×List UInt8×Int
 args:=fun p=>[.sl 0 5 (kT p.1.1),.v (.int .i64 p.2.1),.v (sv p.2.2.1),.v (.int .i64 p.2.2.2)]
 post:=fun p r=>r = .v (.int .i64 (zF p.1.1 p.2.1 p.2.2.1 p.2.2.2))
 plain:=true
theorem place_good:Rw.Good Tryz.prog 64 kEr:=by
 have hΓ:kK Tryz.prog [(53,kB7),(54,kBz),(50,kidCon)]:=(kG kCc (kG kGC (kG kid_good kI)))
 refine kZ (nn:=43) hΓ Tryz.func64 (by kernel_rfl) rfl (show Tryz.f64.results.toList=[.tmp 8] from rfl) (fun _=>rfl) (fun x=>by simp[AV.erL,AV.er]) ?_
 rintro ⟨⟨l,hl⟩,par,nm,id⟩
 by_cases h1:par=0
 ·have e0:zF l par nm id=kBm l par nm id:=by rw[zF,if_pos h1]
  subst h1
  simp only[aR,seval]
  refine kDr (by simp[kC]) rfl hl ?_
  have ec:kBm l 0 nm id=if 0≤kid 0 nm l∧kid 0 nm l≠id then 6 else 0:=rfl
  rw[ec]at e0
  generalize kid 0 nm l=c at *
  by_cases h2:c ≥ 0
  ·by_cases h3:c=id
   ·subst h3
    rw[if_neg (fun hh=>hh.2 rfl)]at e0
    simp only[aR,seval,h2,e0]
   ·rw[if_pos ⟨h2,h3⟩]at e0
    simp only[aR,seval,h2,h3,e0]
  ·rw[if_neg (fun hh=>h2 hh.1)]at e0
   simp only[aR,seval,h2,e0]
 simp only[aR,seval,h1]
 refine kBX (by simp[kC]) rfl hl ?_
 by_cases hf:ndx par l < l.length
 case neg =>
  have e2:ndI par l = -1:=by rw[ndI,if_neg hf]
  rw[e2]
  simp only[aR,seval]
  rw[zF,if_neg h1,if_neg hf]
 have e1:=qB l hf
 have e2:ndI par l=(ndx par l:Int):=by rw[ndI,if_pos hf]
 have e3:l.getD (ndx par l) zO=l[ndx par l]:=by simp[List.getD_eq_getElem?_getD,hf]
 have e0:zF l par nm id=if l[ndx par l].dir=false then 8 else if id > 0∧zW l par id=true then 10 else kBm l par nm id:=by rw[zF,if_neg h1,if_pos hf,e3]
 have e4:((ndx par l:Int) < 0)=False:=eq_false (by omega)
 generalize l[ndx par l]=x at *
 rw[e2]
 obtain ⟨xi,xp,xn,xd,xt⟩:=x
 cases xd
 ·simp only[aR,seval,e1,nA,kL,e4]
  repeat (with_reducible refine And.intro ?_ ?_;focus first|omega|kernel_rfl)
  rw[e0];rfl
 rw[if_neg (by simp)]at e0
 simp only[aR,seval,e1,nA,kL,e4]
 repeat (with_reducible refine And.intro ?_ ?_;focus first|omega|kernel_rfl)
 by_cases h4:id > 0
 ·simp only[aR,seval,h4]
  refine kDC (by simp[kC]) rfl hl ?_
  cases hw:zW l par id
  ·rw[if_neg (by simp[hw])]at e0
   simp only[aR,seval,h4]
   refine kDr (by simp[kC]) rfl hl ?_
   have ec:kBm l par nm id=if 0≤kid par nm l∧kid par nm l≠id then 6 else 0:=rfl
   rw[ec]at e0
   generalize kid par nm l=c at *
   by_cases h2:c ≥ 0
   ·by_cases h3:c=id
    ·subst h3
     rw[if_neg (fun hh=>hh.2 rfl)]at e0
     simp only[aR,seval,h2,e0]
    ·rw[if_pos ⟨h2,h3⟩]at e0
     simp only[aR,seval,h2,h3,e0]
   ·rw[if_neg (fun hh=>h2 hh.1)]at e0
    simp only[aR,seval,h2,e0]
  ·rw[if_pos ⟨h4,hw⟩]at e0
   simp only[aR,seval,h4,e0]
 ·rw[if_neg (fun hh=>h4 hh.1)]at e0
  simp only[aR,seval,h4]
  refine kDr (by simp[kC]) rfl hl ?_
  have ec:kBm l par nm id=if 0≤kid par nm l∧kid par nm l≠id then 6 else 0:=rfl
  rw[ec]at e0
  generalize kid par nm l=c at *
  by_cases h2:c ≥ 0
  ·by_cases h3:c=id
   ·subst h3
    rw[if_neg (fun hh=>hh.2 rfl)]at e0
    simp only[aR,seval,h2,e0]
   ·rw[if_pos ⟨h2,h3⟩]at e0
    simp only[aR,seval,h2,h3,e0]
  ·rw[if_neg (fun hh=>h2 hh.1)]at e0
   simp only[aR,seval,h2,e0]
theorem kGk {Γ:Env} (hf:Γ.get 64=some kEr) {σ:AS} {dr:Bool} {l:List Nd} {par id:Int} {nm:List UInt8} {ys:List AV} {d:Option Nat} {K:AS→Prop} (hy:ys=kT l) (hl:l.length≤1099511627776)
    (hk:cont σ d (.v (.int .i64 (zF l par nm id))) K):kS Tryz.prog Γ dr σ 64 [.sl 0 5 ys,.v (.int .i64 par),.v (sv nm),.v (.int .i64 id)] d K:=by
 subst hy
 exact kP (C:=kEr) (i:=(⟨l,hl⟩,par,nm,id)) hf rfl rfl rfl (by simp[AV.erL,AV.er]) (fun _ h=>h) rfl hk
end Go.Proofs
