/-
 Library functions' bodies at this dump,compared by the kernel. utf.Valid tells just whether bytes are a text. utf.Count counts a text's code points. utf.Points,utf.Offset,utf.Slice. The reference's code points. The reference's texts;numbers turned into bounds;rows of numbers held against each other. The reference's offsets and pieces. What the document fixes of texts. Counts of an edit's parts;which parts may be. What was done: rows of it;whom it was done to. An act,taken in. An act,taken in: the call,reckoned in place.
-/
import Derived.Shelf.Strings.Search1
import Derived.Shelf.Unicode.ValidAny
import Derived.Shelf.Small.Utf8
import Derived.Test.YtnpofobcbfbfnaaGreatDoorProg
import Derived.Test.YtnpofobcbfbfnaaGreatDoorXHTi
import Derived.Test.YtnpofobcbfbfnaaGreatDoorRwF
import Derived.Test.YtnpofobcbfbfnaaGreatDoorRwJ
set_option linter.unusedSimpArgs false
set_option linter.unusedVariables false
set_option linter.unusedSectionVars false

set_option maxRecDepth 100000
-- HSh
namespace Go.Proofs
open Go.Shelf
def Tryz.lays196_ren:Go.Shelf.Ren:=⟨fun|196=>123|259=>143|n=>n,fun|0=>0|3=>3|4=>4|5=>5|9=>9|12=>12|46=>130|53=>160|119=>179|138=>181|139=>182|n=>n,fun|3=>0|4=>1|n=>n⟩
theorem Tryz.lays196:Go.Proofs.Lays.n196 Tryz.prog Tryz.lays196_ren:={
 mixed:=by kernel_rfl
 f196:=Tryz.func123.trans (congrArg some (by kernel_rfl))
 f259:=Tryz.func143.trans (congrArg some (by kernel_rfl))
 t0:=Tryz.underlying0
 a0:=Tryz.isAgg0
 z0:=Tryz.sizeOf0
 v0:=Tryz.zeroValue0
 t3:=Tryz.underlying3
 a3:=Tryz.isAgg3
 z3:=Tryz.sizeOf3
 v3:=Tryz.zeroValue3
 t4:=Tryz.underlying4
 a4:=Tryz.isAgg4
 z4:=Tryz.sizeOf4
 v4:=Tryz.zeroValue4
 t5:=Tryz.underlying5
 a5:=Tryz.isAgg5
 z5:=Tryz.sizeOf5
 v5:=Tryz.zeroValue5
 t9:=Tryz.underlying9
 a9:=Tryz.isAgg9
 z9:=Tryz.sizeOf9
 v9:=Tryz.zeroValue9
 t12:=Tryz.underlying12
 a12:=Tryz.isAgg12
 z12:=Tryz.sizeOf12
 v12:=Tryz.zeroValue12
 t46:=Tryz.underlying130
 a46:=Tryz.isAgg130
 z46:=Tryz.sizeOf130
 v46:=Tryz.zeroValue130
 t53:=Tryz.underlying160
 a53:=Tryz.isAgg160
 z53:=Tryz.sizeOf160
 v53:=Tryz.zeroValue160
 t119:=Tryz.underlying179
 a119:=Tryz.isAgg179
 z119:=Tryz.sizeOf179
 t138:=Tryz.underlying181
 a138:=Tryz.isAgg181
 z138:=Tryz.sizeOf181
 v138:=Tryz.zeroValue181
 t139:=Tryz.underlying182
 a139:=Tryz.isAgg182
 z139:=Tryz.sizeOf182
 v139:=Tryz.zeroValue182
 g3:=by kernel_rfl
 g4:=by kernel_rfl
}
def Tryz.lays217_ren:Go.Shelf.Ren:=⟨fun|217=>152|266=>156|n=>n,fun|3=>3|5=>5|9=>9|n=>n,fun|n=>n⟩
theorem Tryz.lays217:Go.Proofs.Lays.n217 Tryz.prog Tryz.lays217_ren:={
 mixed:=by kernel_rfl
 f217:=Tryz.func152.trans (congrArg some (by kernel_rfl))
 f266:=Tryz.func156.trans (congrArg some (by kernel_rfl))
 t3:=Tryz.underlying3
 a3:=Tryz.isAgg3
 z3:=Tryz.sizeOf3
 v3:=Tryz.zeroValue3
 t5:=Tryz.underlying5
 a5:=Tryz.isAgg5
 z5:=Tryz.sizeOf5
 v5:=Tryz.zeroValue5
 t9:=Tryz.underlying9
 a9:=Tryz.isAgg9
 z9:=Tryz.sizeOf9
 v9:=Tryz.zeroValue9
}
end Go.Proofs
-- HUt1
namespace Go.Proofs
open Go Go.Rw
instance tabsU:Tabs where
 blk:=fun g=>g=0∨g=1
 ok:=fun w=>Lib.Utf8Tabs 0 1 w
 stable:=fun w w' h hw=>by
  have h0:=fun i:Nat=>World.cell?_of_block (a:=⟨0,i,none⟩) (h 0 (.inl rfl))
  have h1:=fun i:Nat=>World.cell?_of_block (a:=⟨1,i,none⟩) (h 1 (.inr rfl))
  unfold Lib.Utf8Tabs at hw ⊢
  simp only[h0,h1]
  exact hw
abbrev Str:={ l:List UInt8 // l.length≤1099511627776 }
abbrev kDi:Con where
 ι:=Str
 args:=fun s=>[.v (sv s.1)]
 post:=fun s r=>r = .v (.bool (Lib.validD s.1))
 plain:=true
theorem validS_good:Rw.Good Tryz.prog 123 kDi:=by
 refine kHI ⟨_,Tryz.func123,by kernel_rfl,by kernel_rfl⟩ rfl rfl fun s w F vs htb hs hv=>?_
 obtain ⟨s,hl⟩:=s
 have h0:=hv 0
 have e:vs = #[sv s]:=by
  apply Array.ext (by simpa using hs)
  intro i h1 h2
  have:i=0:=by simpa using h2
  subst this
  have h3:=VR.v_inv h0
  rw[Array.getD_eq_getD_getElem?,Array.getElem?_eq_getElem h1]at h3
  simpa using h3
 subst e
 refine (Any.utf8_ValidString Tryz.lays196 ⟨s.toArray⟩ w (by simp[ByteArray.size];omega) htb.1).mono ?_
 rintro e w' ⟨rfl,hb⟩
 exact ⟨_,_,rfl,rfl,fun _ _=>.v _,rfl,hb⟩
theorem call_validS {Γ:Env} (hf:Γ.get 123=some kDi) {σ:AS} {dr:Bool} {l:List UInt8} {d:Option Nat} {K:AS→Prop} (h:l.length≤1099511627776)
    (hk:cont σ d (.v (.bool (Lib.validD l))) K):kS Tryz.prog Γ dr σ 123 [.v (sv l)] d K :=
 kP (C:=kDi) (i:=⟨l,h⟩) hf rfl rfl rfl rfl (fun _ h=>h) rfl hk
abbrev ibCon:Con where
 ι:=List UInt8×UInt8
 args:=fun s=>[.v (sv s.1),.v (.int .u8 s.2.toNat)]
 post:=fun s r=>r = .v (.int .i64 (Lib.indexByte s.1 s.2))
 plain:=true
theorem ib_good:Rw.Good Tryz.prog 152 ibCon:=by
 refine kHI ⟨_,Tryz.func152,by kernel_rfl,by kernel_rfl⟩ rfl rfl fun s w F vs htb hs hv=>?_
 obtain ⟨s,c⟩:=s
 have h0:=VR.v_inv (hv 0)
 have h1:=VR.v_inv (hv 1)
 have e:vs = #[sv s,.int .u8 c.toNat]:=by
  apply Array.ext (by simpa using hs)
  intro i h2 h3
  rw[Array.getD_eq_getD_getElem?]at h0 h1
  have:i=0∨i=1:=by have:i < 2:=by simpa using h3
                   omega
  rcases this with rfl|rfl
  ·rw[Array.getElem?_eq_getElem h2]at h0;simpa using h0
  ·rw[Array.getElem?_eq_getElem h2]at h1;simpa using h1
 subst e
 refine (Any.stringslite_IndexByte Tryz.lays217 ⟨s.toArray⟩ (c.toNat:Int) w).mono ?_
 rintro e w' ⟨rfl,rfl⟩
 have hc:(c.toNat:Int).toNat.toUInt8=c:=by simp
 exact ⟨_,_,rfl,rfl,fun _ _=>by simp only[hc];exact .v _,rfl,.refl _ _⟩
theorem call_ib {Γ:Env} (hf:Γ.get 152=some ibCon) {σ:AS} {dr:Bool} {l:List UInt8} {c:UInt8} {n:Int} {d:Option Nat} {K:AS→Prop} (hn:n=c.toNat)
    (hk:cont σ d (.v (.int .i64 (Lib.indexByte l c))) K):kS Tryz.prog Γ dr σ 152 [.v (sv l),.v (.int .u8 n)] d K:=by
 subst hn
 exact kP (C:=ibCon) (i:=(l,c)) hf rfl rfl rfl rfl (fun _ h=>h) rfl hk
theorem kDs:∀ (l:List UInt8) (c:UInt8),-1≤Lib.indexByte l c∧(0≤Lib.indexByte l c↔c∈l)
 | [],c=>by simp [Lib.indexByte]
 | x::l,c=>by
   have ih:=kDs l c
   unfold Lib.indexByte
   by_cases h:x=c
   ·subst h;simp
   ·have h1:(x == c)=false:=by simpa using h
    rw[h1]
    simp only[Bool.false_eq_true,if_false,List.mem_cons]
    by_cases h2:Lib.indexByte l c = -1
    ·rw[h2]
     have h3:c ∉ l:=fun hc=>by have:=ih.2.2 hc;omega
     simp[h3];exact fun e=>h e.symm
    ·have h3:(Lib.indexByte l c == -1)=false:=by simpa using h2
     rw[h3]
     simp only[Bool.false_eq_true,if_false]
     have h4:c∈l:=ih.2.1 (by omega)
     exact ⟨by omega,by simp[h4];omega⟩
abbrev kB4:Con where
 ι:=Str
 args:=fun s=>[.v (sv s.1),.v (sv [0])]
 post:=fun s r=>r = .v (.bool (s.1.contains 0))
 plain:=true
abbrev kC9:Con where
 ι:=Str
 args:=fun s=>[.v (sv s.1),.v (sv [0])]
 post:=fun s r=>∃ i,r = .v (.int .i64 i)∧(0≤i↔(0:UInt8)∈s.1)
 plain:=true
theorem index_good:Rw.Good Tryz.prog 150 kC9:=by
 have hΓ:kK Tryz.prog [(152,ibCon)]:=(kG ib_good kI)
 refine kZ (nn:=143) hΓ Tryz.func150 (by kernel_rfl) rfl (show Tryz.f150.results.toList=[.tmp 4] from rfl) (fun _=>rfl) (fun _=>rfl) ?_
 rintro ⟨s,hs⟩
 simp only[aR,seval]
 refine kE (fun h=>?_) (fun h=>?_)
 ·simp only[aR,seval]
  exact ⟨0,rfl,by simp[← h]⟩
 ·simp only[aR,seval]
  refine call_ib (c:=0) (by simp[kC]) (by simp) ?_
  simp only[aR,seval]
  exact ⟨_,rfl,(kDs s 0).2⟩
theorem sindex_good:Rw.Good Tryz.prog 144 kC9:=by
 have hΓ:kK Tryz.prog [(150,kC9)]:=(kG index_good kI)
 refine kZ (nn:=8) hΓ Tryz.func144 (by kernel_rfl) rfl (show Tryz.f144.results.toList=[.tmp 4] from rfl) (fun _=>rfl) (fun _=>rfl) ?_
 rintro ⟨s,hs⟩
 simp only[aR,seval]
 refine kG6 (C:=kC9) (i:=⟨s,hs⟩) (by simp[kC]) rfl rfl rfl rfl (fun r ⟨i,hr,_⟩=>by rw[hr];rfl) (fun r ⟨i,hr,h⟩=>?_)
 subst hr
 simp only[aR,seval]
 exact ⟨i,rfl,h⟩
theorem contains_good:Rw.Good Tryz.prog 124 kB4:=by
 have hΓ:kK Tryz.prog [(144,kC9)]:=(kG sindex_good kI)
 refine kZ (nn:=9) hΓ Tryz.func124 (by kernel_rfl) rfl (show Tryz.f124.results.toList=[.tmp 4] from rfl) (fun _=>rfl) (fun _=>rfl) ?_
 rintro ⟨s,hs⟩
 simp only[aR,seval]
 refine kG6 (C:=kC9) (i:=⟨s,hs⟩) (by simp[kC]) rfl rfl rfl rfl (fun r ⟨i,hr,_⟩=>by rw[hr];rfl) (fun r ⟨i,hr,h⟩=>?_)
 subst hr
 simp only[aR,seval]
 rw[Bool.eq_iff_iff];simpa using h
theorem call_contains {Γ:Env} (hf:Γ.get 124=some kB4) {σ:AS} {dr:Bool} {l:List UInt8} {d:Option Nat} {K:AS→Prop} (h:l.length≤1099511627776)
    (hk:cont σ d (.v (.bool (l.contains 0))) K):kS Tryz.prog Γ dr σ 124 [.v (sv l),.v (sv [0])] d K :=
 kP (C:=kB4) (i:=⟨l,h⟩) hf rfl rfl rfl rfl (fun _ h=>h) rfl hk
abbrev j9:Con where
 ι:=Str
 args:=fun s=>[.v (sv s.1)]
 post:=fun s r=>r = .v (.bool (pts s.1).isSome)
 plain:=true
theorem kHU:Rw.Good Tryz.prog 96 j9:=by
 have hΓ:kK Tryz.prog [(123,kDi),(124,kB4)]:=(kG validS_good (kG contains_good kI))
 refine kZ (nn:=10) hΓ Tryz.func96 (by kernel_rfl) rfl (show Tryz.f96.results.toList=[.tmp 2] from rfl) (fun _=>rfl) (fun _=>rfl) ?_
 rintro ⟨s,hs⟩
 simp only[aR,seval]
 refine call_validS (by simp[kC]) hs ?_
 have key:=valid_pts _ s (Nat.le_refl _)
 simp only[aR,seval]
 cases hv:Lib.validD s with
 | false =>
   rw[hv]at key
   simp only[aR,seval]
   rw[← key];rfl
 | true =>
   rw[hv]at key
   simp only[aR,seval]
   refine call_contains (by simp[kC]) hs ?_
   simp only[aR,seval]
   rw[← key];rfl
theorem kGj {Γ:Env} (hf:Γ.get 96=some j9) {σ:AS} {dr:Bool} {l:List UInt8} {d:Option Nat} {K:AS→Prop} (h:l.length≤1099511627776)
    (hk:cont σ d (.v (.bool (pts l).isSome)) K):kS Tryz.prog Γ dr σ 96 [.v (sv l)] d K :=
 kP (C:=j9) (i:=⟨l,h⟩) hf rfl rfl rfl rfl (fun _ h=>h) rfl hk
end Go.Proofs
-- HUt2
namespace Go.Proofs
open Go Go.Rw
theorem and192 {b:UInt8}:IntKind.wrap .u8 ((BitVec.ofInt IntKind.u8.bits (b.toNat:Int) &&& BitVec.ofInt IntKind.u8.bits 192).toNat:Nat)=((b.toNat / 64 * 64:Nat):Int):=by
 have key:∀ m:Nat,m < 256→(BitVec.ofInt IntKind.u8.bits (m:Int) &&& BitVec.ofInt IntKind.u8.bits 192).toNat=m / 64 * 64:=by decide +kernel
 have hb:=b.toNat_lt
 rw[key _ (by omega),wrap_u8 (by omega) (by omega)]
abbrev kEx:Con where
 ι:=UInt8
 args:=fun b=>[.v (.int .u8 b.toNat)]
 post:=fun b r=>r = .v (.bool (decide (¬ (128≤b.toNat∧b.toNat < 192))))
 plain:=true
theorem start_good:Rw.Good Tryz.prog 97 kEx:=by
 have hΓ:kK Tryz.prog []:=kI
 refine kZ (nn:=6) hΓ Tryz.func97 (by kernel_rfl) rfl (show Tryz.f97.results.toList=[.tmp 2] from rfl) (fun _=>rfl) (fun _=>rfl) ?_
 intro b
 simp only[aR,seval,and192]
 rw[Bool.eq_iff_iff];simp;omega
theorem call_start {Γ:Env} (hf:Γ.get 97=some kEx) {σ:AS} {dr:Bool} {b:UInt8} {n:Int} {d:Option Nat} {K:AS→Prop} (hn:n=b.toNat)
    (hk:cont σ d (.v (.bool (decide (¬ (128≤b.toNat∧b.toNat < 192))))) K):kS Tryz.prog Γ dr σ 97 [.v (.int .u8 n)] d K:=by
 subst hn
 exact kP (C:=kEx) (i:=b) hf rfl rfl rfl rfl (fun _ h=>h) rfl hk
theorem kCO {α:Type} (x:Option α):x=none∨∃ a,x=some a:=by cases x<;>simp
def res2 (a:AV) (e:Int):AV:=.tup [a,.v (.int .i64 e)]
def kCu (l:List UInt8):AV:=match pts l with
 | some cs=>res2 (.v (.int .i64 cs.length)) 0
 | none=>res2 (.v (.int .i64 0)) 2
theorem countR_plain (l:List UInt8):(kCu l).plain=true:=by unfold kCu;split<;>rfl
abbrev kBh:Con where
 ι:=Str
 args:=fun s=>[.v (sv s.1)]
 post:=fun s r=>r=kCu s.1
 plain:=true
theorem kCf:Rw.Good Tryz.prog 73 kBh:=by
 have hΓ:kK Tryz.prog [(96,j9),(97,kEx)]:=(kG kHU (kG start_good kI))
 refine kZ (nn:=30) hΓ Tryz.func73 (by kernel_rfl) rfl (show Tryz.f73.results.toList=[.tmp 2,.tmp 3] from rfl) (fun _=>rfl) (fun _=>rfl) ?_
 rintro ⟨s,hs⟩
 simp only[aR,seval]
 obtain ⟨St,hSt⟩:∃ St:{ p:List Nat×List Nat // pts s=some (p.1++p.2) }→AS,∀ p,St p=AS.of 30 [(0,.v (sv s)),(2,.v (.int .i64 p.1.1.length)),(4,.v (.int .i64 (encs p.1.1).length))] [] []:=⟨_,fun _=>rfl⟩
 refine vc_lab hΓ 1 St (fun p=>p.1.2.length) 1 rfl rfl ?_ ?_
 ·rintro ⟨⟨pre,post⟩,hp⟩
  simp only at hp
  obtain ⟨hok,hse⟩:=kA5 hp
  rw[hSt]
  have hl:=congrArg List.length hse
  rw[jK,List.length_append]at hl
  have hpl:=encs_le pre
  simp only[aR,seval]
  refine kE (fun h=>?_) (fun h=>?_)
  ·simp only[aR,seval]
   refine ⟨_,rfl,?_⟩
   simp only[aR,seval]
   have:post=[]:=by
    cases post with
    | nil=>rfl
    | cons c cs=>have:=encs_pos (c:=c) (cs:=cs);omega
   subst this
   unfold kCu
   rw[hp,List.append_nil];rfl
  ·cases post with
   | nil=>rw [kC7,List.length_nil] at hl;omega
   | cons c cs =>
     have hc:=hok c (by simp)
     have hw:=kA1 c
     have hcl:=jM c
     rw[qR,List.length_append,hcl]at hl
     rw[jK,qR]at hse
     simp (disch:=omega) only[aR,seval,kD,kD]
     obtain ⟨St2,hSt2⟩:∃ St2:{ j:Nat // 1≤j∧j≤wid c }→AS,∀ j,St2 j=AS.of 30 [(0,.v (sv s)),(2,.v (.int .i64 pre.length)),(4,.v (.int .i64 ((encs pre).length+j.1:Nat)))] [] []:=⟨_,fun _=>rfl⟩
     refine qE hΓ St2 (fun j=>wid c - j.1) ⟨1,by omega⟩ (by rw[hSt2];refine kO [] [] ?_;simp only[aR,seval];rfl) ?_
     rintro ⟨j,hj1,hj2⟩
     rw[hSt2]
     simp only
     simp only[aR,seval]
     have hlast:∀ σ:AS,j=wid c→Weak σ (AS.of 30 [(0,.v (sv s)),(2,.v (.int .i64 (pre.length+1:Nat))),(4,.v (.int .i64 ((encs pre).length+wid c:Nat)))] [] [])→∃ y:{ p:List Nat×List Nat // pts s=some (p.1++p.2) },y.1.2.length < (c::cs).length∧Weak σ (St y):=by
      intro σ hj hw
      refine ⟨⟨(pre++[c],cs),by simpa using hp⟩,by simp,?_⟩
      rw[hSt]
      simp only[jK,List.length_append,qR,kC7,List.append_nil,hcl,List.length_cons,List.length_nil,Nat.zero_add]
      exact hw
     refine kF (fun h2=>?_) (fun h2=>?_)
     ·simp (disch:=omega) only[aR,seval,kD,kD,h2]
      refine ⟨by omega,?_⟩
      refine call_start (by simp[kC]) rfl ?_
      simp only[aR,seval,h2]
      refine kE (fun h3=>?_) (fun h3=>?_)
      ·simp (disch:=omega) only[aR,seval,kD,kD]
       have hj3:j < wid c:=by
        rcases Nat.lt_or_ge j (wid c) with h4|h4
        ·exact h4
        ·exfalso
         have hjw:j=wid c:=by omega
         cases cs with
         | nil=>rw [kC7,List.length_nil] at hl;omega
         | cons c2 cs =>
           have h5:=enc_head (hok c2 (by simp))
           have h6:s.getD ((encs pre).length+j) 0=(enc c2).getD 0 0:=by
            rw[hse,qR,← List.append_assoc,hjw,← hcl,← List.length_append]
            exact getD_mid (j:=0) (by rw[jM];exact kA1 c2)
           rw[h6]at h3
           omega
       refine kN ⟨j+1,by omega⟩ (by simp only;omega) ?_
       rw[hSt2];refine kO [] [] ?_
       simp only[aR,seval]<;>(and_intros<;>first|rfl|omega|trivial)
      ·have hjw:j=wid c:=by
         rcases Nat.lt_or_ge j (wid c) with h4|h4
         ·exfalso
          have h5:=enc_cont hc hj1 h4
          have h6:s.getD ((encs pre).length+j) 0=(enc c).getD j 0:=by
           rw[hse];exact getD_mid (by rw[hcl];exact h4)
          rw[h6]at h3
          omega
         ·omega
       subst hjw
       simp (disch:=omega) only[aR,seval,kD,kD]
       refine hlast _ rfl ?_
       refine kO [] [] ?_
       simp only[aR,seval]<;>(and_intros<;>first|rfl|omega|trivial)
     ·have hjw:j=wid c:=by omega
      subst hjw
      simp (disch:=omega) only[aR,seval,kD,kD,h2]
      refine hlast _ rfl ?_
      refine kO [] [] ?_
      simp only[aR,seval]<;>(and_intros<;>first|rfl|omega|trivial)
 ·simp only[aR,seval]
  refine kGj (by simp[kC]) hs ?_
  simp only[aR,seval]
  rcases kCO (pts s) with hp|⟨cs,hp⟩
  ·simp only[aR,seval,hp,Option.isSome_none]
   unfold kCu
   rw[hp];rfl
  ·simp only[aR,seval,hp,Option.isSome_some]
   refine ⟨⟨([],cs),hp⟩,?_⟩
   rw[hSt];refine kO [] [] ?_
   simp only[aR,seval]
   rfl
end Go.Proofs
-- HUt3
namespace Go.Proofs
open Go Go.Rw
def nats (l:List Nat):List AV:=ints .i64 (l.map fun (c:Nat)=>(c:Int))
theorem nats_nil:nats []=[]:=rfl
theorem nats_len (l:List Nat):(nats l).length=l.length:=by simp[nats,ints]
theorem nats_snoc (l:List Nat) (c:Nat):nats l++[.v (.int .i64 c)]=nats (l++[c]):=by simp[nats,ints]
theorem kBR {Γ:Env} (hf:Γ.get 73=some kBh) {σ:AS} {dr:Bool} {l:List UInt8} {d:Option Nat} {K:AS→Prop} (h:l.length≤1099511627776)
    (hk:cont σ d (kCu l) K):kS Tryz.prog Γ dr σ 73 [.v (sv l)] d K :=
 kP (C:=kBh) (i:=⟨l,h⟩) hf rfl rfl rfl rfl (fun _ h=>h) (countR_plain l) hk
abbrev I64:={ n:Int // -9223372036854775808≤n∧n≤9223372036854775807 }
end Go.Proofs
-- HUt4
namespace Go.Proofs
open Go Go.Rw
theorem andi {m k:Nat} {n:Int} (h0:0≤n) (h1:n < 256) (hk:∀ m:Nat,m < 256→(BitVec.ofInt IntKind.i64.bits (m:Int) &&& BitVec.ofInt IntKind.i64.bits (k:Int)).toNat=m % (k+1)) :
    IntKind.wrap .i64 ((BitVec.ofInt IntKind.i64.bits n &&& BitVec.ofInt IntKind.i64.bits (k:Int)).toNat:Nat)=n % (k+1):=by
 obtain ⟨m,rfl⟩:=Int.eq_ofNat_of_zero_le h0
 have hm:m % (k+1) < 256:=Nat.lt_of_le_of_lt (Nat.mod_le _ _) (by omega)
 rw[hk m (by omega),kD (by omega) (by omega)];rfl
theorem kCn {n:Int} (h0:0≤n) (h1:n < 256):IntKind.wrap .i64 ((BitVec.ofInt IntKind.i64.bits n &&& BitVec.ofInt IntKind.i64.bits 31).toNat:Nat)=n % 32:=andi (m:=0) (k:=31) h0 h1 (by decide +kernel)
theorem kCm {n:Int} (h0:0≤n) (h1:n < 256):IntKind.wrap .i64 ((BitVec.ofInt IntKind.i64.bits n &&& BitVec.ofInt IntKind.i64.bits 15).toNat:Nat)=n % 16:=andi (m:=0) (k:=15) h0 h1 (by decide +kernel)
theorem kCi {n:Int} (h0:0≤n) (h1:n < 256):IntKind.wrap .i64 ((BitVec.ofInt IntKind.i64.bits n &&& BitVec.ofInt IntKind.i64.bits 7).toNat:Nat)=n % 8:=andi (m:=0) (k:=7) h0 h1 (by decide +kernel)
theorem and63 {n:Int} (h0:0≤n) (h1:n < 256):IntKind.wrap .i64 ((BitVec.ofInt IntKind.i64.bits n &&& BitVec.ofInt IntKind.i64.bits 63).toNat:Nat)=n % 64:=andi (m:=0) (k:=63) h0 h1 (by decide +kernel)
theorem shl6 {n:Int}:n * 2 ^ min 6 IntKind.i64.bits=n * 64:=rfl
theorem or6 {n c:Int} (h1:0≤n) (h2:n≤1000000000) (h3:0≤c) (h4:c < 64):IntKind.wrap .i64 ((BitVec.ofInt IntKind.i64.bits (n * 64) ||| BitVec.ofInt IntKind.i64.bits c).toNat:Nat)=n * 64+c:=by
 obtain ⟨m,rfl⟩:=Int.eq_ofNat_of_zero_le h1
 obtain ⟨d,rfl⟩:=Int.eq_ofNat_of_zero_le h3
 have e:(BitVec.ofInt IntKind.i64.bits ((m:Int) * 64) ||| BitVec.ofInt IntKind.i64.bits (d:Int)).toNat=m * 64+d:=by
  rw[BitVec.toNat_or]
  have e1:(BitVec.ofInt IntKind.i64.bits ((m:Int) * 64)).toNat=2 ^ 6 * m:=by
   rw[BitVec.toNat_ofInt];simp only[IntKind.bits];omega
  have e2:(BitVec.ofInt IntKind.i64.bits (d:Int)).toNat=d:=by
   rw[BitVec.toNat_ofInt];simp only[IntKind.bits];omega
  rw[e1,e2,← Nat.two_pow_add_eq_or_of_lt (by omega)];omega
 rw[e,kD (by omega) (by omega)];omega
def pntR (l:List UInt8) (i:Nat):AV:=.tup [.v (.int .i64 (pnt (l.drop i)).1),.v (.int .i64 (pnt (l.drop i)).2)]
abbrev kH2:Con where
 ι:={ p:Str×Nat // p.2 < p.1.1.length }
 args:=fun p=>[.v (sv p.1.1.1),.v (.int .i64 p.1.2)]
 post:=fun p r=>r=pntR p.1.1.1 p.1.2
 plain:=true
def vv (s:List UInt8) (i m:Nat):Nat→Nat
 | 0=>m
 | k+1=>vv s i m k * 64+(s.getD (i+k+1) 0).toNat % 64
theorem vv_lt (s:List UInt8) (i m:Nat) (hm:m < 32):∀ k,k≤3→vv s i m k < 32 * 64 ^ k
 | 0,_=>by simpa [vv] using hm
 | k+1,h=>by
   have:=vv_lt s i m hm k (by omega)
   simp only[vv]
   rw[Nat.pow_succ];omega
theorem vv_le (s:List UInt8) (i m:Nat) (hm:m < 32) (k:Nat) (h:k≤3):vv s i m k < 8388608:=by
 have h1:=vv_lt s i m hm k h
 have h2:64 ^ k≤64 ^ 3:=Nat.pow_le_pow_right (by omega) h
 omega
theorem kEF:Rw.Good Tryz.prog 98 kH2:=by
 have hΓ:kK Tryz.prog []:=kI
 refine kC8 (nn:=96) Tryz.func98 (by kernel_rfl) rfl (show Tryz.f98.results.toList=[.tmp 4,.tmp 5] from rfl) (fun _=>rfl) (fun _=>rfl) ?_
 rintro ⟨⟨⟨s,hs⟩,i⟩,hi⟩
 simp only at hi ⊢
 have k0:=(s.getD i 0).toNat_lt
 have hi1:(0:Int)≤i∧(i:Int) < s.length:=by omega
 have hw:=wO (n:=((s.getD i 0).toNat:Int))
 have hp:=pnt_at s i
 have k1:=(s.getD (i+1) 0).toNat_lt
 have k2:=(s.getD (i+2) 0).toNat_lt
 have k3:=(s.getD (i+3) 0).toNat_lt
 iterate 3
  refine awp_cut hΓ ?_
  simp only[aR,seval,hi1,hw]
 obtain ⟨St,hSt⟩:∃ St:{ p:Nat×Nat×Nat // (194≤(s.getD i 0).toNat∧(s.getD i 0).toNat < 224∧p=(2,(s.getD i 0).toNat % 32,128))∨(224≤(s.getD i 0).toNat∧(s.getD i 0).toNat < 240∧p=(3,(s.getD i 0).toNat % 16,2048))∨(240≤(s.getD i 0).toNat∧(s.getD i 0).toNat < 245∧p=(4,(s.getD i 0).toNat % 8,65536)) }→AS,
  ∀ p,St p=AS.of 96 [(0,.v (sv s)),(1,.v (.int .i64 i)),(7,.v (.int .i64 p.1.1)),(8,.v (.int .i64 p.1.2.1)),(9,.v (.int .i64 p.1.2.2))] [] []:=⟨_,fun _=>rfl⟩
 have bad:(pnt (s.drop i)).2=0→pntR s i = .tup [.v (.int .i64 0),.v (.int .i64 0)]:=fun h=>by
  unfold pntR
  have:pnt (s.drop i)=(0,0):=by
   unfold pnt at h ⊢
   split
   ·rfl
   ·rename_i hn
    rw[if_neg hn]at h
    have:=Lib.decodeL_width (s.drop i)
    omega
  rw[this];rfl
 refine awp_mid hΓ St ?_ ?_
 ·simp only[aR,seval]
  (try ((with_reducible first|refine kE (fun q1=>?_) (fun q1=>?_)|refine kF (fun q1=>?_) (fun q1=>?_))<;>simp (disch:=omega) only[aR,seval,kD,q1,kCn,kCm,kCi]<;>(with_reducible first|(refine And.intro ?_ ?_;focus first|omega|kernel_rfl);(repeat (refine And.intro ?_ ?_;focus first|omega|kernel_rfl));(try simp (disch:=omega) only[aR,seval,kD,q1,kCn,kCm,kCi])|skip)<;>(try ((with_reducible first|refine kE (fun q2=>?_) (fun q2=>?_)|refine kF (fun q2=>?_) (fun q2=>?_))<;>simp (disch:=omega) only[aR,seval,kD,q2,kCn,kCm,kCi]<;>(with_reducible first|(refine And.intro ?_ ?_;focus first|omega|kernel_rfl);(repeat (refine And.intro ?_ ?_;focus first|omega|kernel_rfl));(try simp (disch:=omega) only[aR,seval,kD,q2,kCn,kCm,kCi])|skip)<;>(try ((with_reducible first|refine kE (fun q3=>?_) (fun q3=>?_)|refine kF (fun q3=>?_) (fun q3=>?_))<;>simp (disch:=omega) only[aR,seval,kD,q3,kCn,kCm,kCi]<;>(with_reducible first|(refine And.intro ?_ ?_;focus first|omega|kernel_rfl);(repeat (refine And.intro ?_ ?_;focus first|omega|kernel_rfl));(try simp (disch:=omega) only[aR,seval,kD,q3,kCn,kCm,kCi])|skip)<;>(try ((with_reducible first|refine kE (fun q4=>?_) (fun q4=>?_)|refine kF (fun q4=>?_) (fun q4=>?_))<;>simp (disch:=omega) only[aR,seval,kD,q4,kCn,kCm,kCi]<;>(with_reducible first|(refine And.intro ?_ ?_;focus first|omega|kernel_rfl);(repeat (refine And.intro ?_ ?_;focus first|omega|kernel_rfl));(try simp (disch:=omega) only[aR,seval,kD,q4,kCn,kCm,kCi])|skip)<;>(try ((with_reducible first|refine kE (fun q5=>?_) (fun q5=>?_)|refine kF (fun q5=>?_) (fun q5=>?_))<;>simp (disch:=omega) only[aR,seval,kD,q5,kCn,kCm,kCi]<;>(with_reducible first|(refine And.intro ?_ ?_;focus first|omega|kernel_rfl);(repeat (refine And.intro ?_ ?_;focus first|omega|kernel_rfl));(try simp (disch:=omega) only[aR,seval,kD,q5,kCn,kCm,kCi])|skip)<;>(try ((with_reducible first|refine kE (fun q6=>?_) (fun q6=>?_)|refine kF (fun q6=>?_) (fun q6=>?_))<;>simp (disch:=omega) only[aR,seval,kD,q6,kCn,kCm,kCi]<;>(with_reducible first|(refine And.intro ?_ ?_;focus first|omega|kernel_rfl);(repeat (refine And.intro ?_ ?_;focus first|omega|kernel_rfl));(try simp (disch:=omega) only[aR,seval,kD,q6,kCn,kCm,kCi])|skip)<;>(try ((with_reducible first|refine kE (fun q7=>?_) (fun q7=>?_)|refine kF (fun q7=>?_) (fun q7=>?_))<;>simp (disch:=omega) only[aR,seval,kD,q7,kCn,kCm,kCi]<;>(with_reducible first|(refine And.intro ?_ ?_;focus first|omega|kernel_rfl);(repeat (refine And.intro ?_ ?_;focus first|omega|kernel_rfl));(try simp (disch:=omega) only[aR,seval,kD,q7,kCn,kCm,kCi])|skip)<;>(try ((with_reducible first|refine kE (fun q8=>?_) (fun q8=>?_)|refine kF (fun q8=>?_) (fun q8=>?_))<;>simp (disch:=omega) only[aR,seval,kD,q8,kCn,kCm,kCi]<;>(with_reducible first|(refine And.intro ?_ ?_;focus first|omega|kernel_rfl);(repeat (refine And.intro ?_ ?_;focus first|omega|kernel_rfl));(try simp (disch:=omega) only[aR,seval,kD,q8,kCn,kCm,kCi])|skip)<;>skip))))))))))))))))
  all_goals first
   | (exfalso;omega)
   | (unfold pntR;rw [hp,pntd_one k0 k1 k2 k3 (by omega) (by omega)];rfl)
   | (rw [bad (by rw [hp,pntd_bad k0 k1 k2 k3 (by omega)])])
   | (refine ⟨⟨(2,(s.getD i 0).toNat % 32,128),.inl ⟨by omega,by omega,rfl⟩⟩,?_⟩
      rw[hSt];refine kO [] [] ?_
      simp only[aR,seval]<;>(and_intros<;>first|rfl|omega|trivial))
   | (refine ⟨⟨(3,(s.getD i 0).toNat % 16,2048),.inr (.inl ⟨by omega,by omega,rfl⟩)⟩,?_⟩
      rw[hSt];refine kO [] [] ?_
      simp only[aR,seval]<;>(and_intros<;>first|rfl|omega|trivial))
   | (refine ⟨⟨(4,(s.getD i 0).toNat % 8,65536),.inr (.inr ⟨by omega,by omega,rfl⟩)⟩,?_⟩
      rw[hSt];refine kO [] [] ?_
      simp only[aR,seval]<;>(and_intros<;>first|rfl|omega|trivial))
   | trace_state
 ·rintro ⟨⟨n,m,low⟩,hcl⟩
  rw[hSt]
  refine vc_awp hΓ ?_
  simp only
  have hn:2≤n∧n≤4:=by simp only[Prod.mk.injEq]at hcl;omega
  have hm:m < 32:=by simp only[Prod.mk.injEq]at hcl;omega
  simp (disch:=omega) only[aR,seval,kD,kD]
  (with_reducible first|refine kE (fun h1=>?_) (fun h1=>?_)|refine kF (fun h1=>?_) (fun h1=>?_))
  ·simp (disch:=omega) only[aR,seval,kD,h1]
   rw[bad]
   rw[hp]
   simp only[Prod.mk.injEq]at hcl
   rcases hcl with ⟨ha,hb,rfl,rfl,rfl⟩|⟨ha,hb,rfl,rfl,rfl⟩|⟨ha,hb,rfl,rfl,rfl⟩
   ·rw[pntd_two k0 k1 k2 k3 ⟨ha,hb⟩,if_neg (by omega)]
   ·rw[kEH k0 k1 k2 k3 ⟨ha,hb⟩,if_neg (by omega)]
   ·rw[kFa k0 k1 k2 k3 ⟨ha,hb⟩,if_neg (by omega)]
  ·simp (disch:=omega) only[aR,seval,kD,h1]
   obtain ⟨St2,hSt2⟩:∃ St2:{ k:Nat // k+1≤n∧∀ j,j < k→(s.getD (i+j+1) 0).toNat / 64=2 }→AS,∀ k,St2 k=AS.of 96 [(0,.v (sv s)),(1,.v (.int .i64 i)),(7,.v (.int .i64 n)),(8,.v (.int .i64 (vv s i m k.1))),(9,.v (.int .i64 low)),(10,.v (.int .i64 (k.1+1:Nat)))] [] []:=⟨_,fun _=>rfl⟩
   refine qE hΓ St2 (fun k=>n - k.1) ⟨0,by omega,by simp⟩ (by rw[hSt2];refine kO [] [] ?_;simp only[aR,seval,vv]<;>(and_intros<;>first|rfl|omega|trivial)) ?_
   rintro ⟨k,hk,hj⟩
   rw[hSt2]
   simp only
   have hv:=vv_le s i m hm k (by omega)
   have hkb:=(s.getD (i+k+1) 0).toNat_lt
   simp only[aR,seval]
   (with_reducible first|refine kE (fun h2=>?_) (fun h2=>?_)|refine kF (fun h2=>?_) (fun h2=>?_))
   ·simp (disch:=omega) only[aR,seval,kD,h2,kD]
    have e1:((i:Int)+((k+1:Nat):Int)).toNat=i+k+1:=by omega
    simp (disch:=omega) only[aR,seval,kD,e1]
    refine ⟨by omega,?_⟩
    have badk:¬ (s.getD (i+k+1) 0).toNat / 64=2→pntR s i = .tup [.v (.int .i64 0),.v (.int .i64 0)]:=fun hb=>by
     refine bad ?_
     rw[hp]
     simp only[Prod.mk.injEq]at hcl
     have hb1:k=0→¬ (s.getD (i+1) 0).toNat / 64=2:=fun e=>by subst e;exact hb
     have hb2:k=1→¬ (s.getD (i+2) 0).toNat / 64=2:=fun e=>by subst e;exact hb
     have hb3:k=2→¬ (s.getD (i+3) 0).toNat / 64=2:=fun e=>by subst e;exact hb
     rcases hcl with ⟨ha,hb,rfl,rfl,rfl⟩|⟨ha,hb,rfl,rfl,rfl⟩|⟨ha,hb,rfl,rfl,rfl⟩
     ·rw[pntd_two k0 k1 k2 k3 ⟨ha,hb⟩,if_neg (by omega)]
     ·rw[kEH k0 k1 k2 k3 ⟨ha,hb⟩,if_neg (by omega)]
     ·rw[kFa k0 k1 k2 k3 ⟨ha,hb⟩,if_neg (by omega)]
    (try ((with_reducible first|refine kE (fun q1=>?_) (fun q1=>?_)|refine kF (fun q1=>?_) (fun q1=>?_))<;>simp (disch:=omega) only[aR,seval,kD,q1,shl6,and63,or6]<;>(with_reducible first|(refine And.intro ?_ ?_;focus first|omega|kernel_rfl);(repeat (refine And.intro ?_ ?_;focus first|omega|kernel_rfl));(try simp (disch:=omega) only[aR,seval,kD,q1,shl6,and63,or6])|skip)<;>(try ((with_reducible first|refine kE (fun q2=>?_) (fun q2=>?_)|refine kF (fun q2=>?_) (fun q2=>?_))<;>simp (disch:=omega) only[aR,seval,kD,q2,shl6,and63,or6]<;>(with_reducible first|(refine And.intro ?_ ?_;focus first|omega|kernel_rfl);(repeat (refine And.intro ?_ ?_;focus first|omega|kernel_rfl));(try simp (disch:=omega) only[aR,seval,kD,q2,shl6,and63,or6])|skip)<;>(try ((with_reducible first|refine kE (fun q3=>?_) (fun q3=>?_)|refine kF (fun q3=>?_) (fun q3=>?_))<;>simp (disch:=omega) only[aR,seval,kD,q3,shl6,and63,or6]<;>(with_reducible first|(refine And.intro ?_ ?_;focus first|omega|kernel_rfl);(repeat (refine And.intro ?_ ?_;focus first|omega|kernel_rfl));(try simp (disch:=omega) only[aR,seval,kD,q3,shl6,and63,or6])|skip)<;>skip))))))
    all_goals first
     | (rw [badk (by omega)])
     | (refine kN ⟨k+1,by omega,fun j hj'=>?_⟩ (by simp only;omega) ?_
        ·rcases Nat.lt_or_ge j k with h5|h5
         ·exact hj j h5
         ·rw[show j=k by omega];omega
        ·rw[hSt2];refine kO [] [] ?_
         simp only[aR,seval,vv]<;>(and_intros<;>first|rfl|omega|trivial))
     | trace_state
   ·have hkn:k+1=n:=by omega
    have hv1:k=1→vv s i m k=m * 64+(s.getD (i+1) 0).toNat % 64:=fun e=>by subst e;rfl
    have hv2:k=2→vv s i m k=(m * 64+(s.getD (i+1) 0).toNat % 64) * 64+(s.getD (i+2) 0).toNat % 64:=fun e=>by subst e;rfl
    have hv3:k=3→vv s i m k=((m * 64+(s.getD (i+1) 0).toNat % 64) * 64+(s.getD (i+2) 0).toNat % 64) * 64+(s.getD (i+3) 0).toNat % 64:=fun e=>by subst e;rfl
    have hj0:=hj 0
    have hj1:=hj 1
    have hj2:=hj 2
    simp only[Nat.add_zero,show i+1+1=i+2 from rfl,show i+2+1=i+3 from rfl]at hj0 hj1 hj2
    generalize vv s i m k=V at *
    have fin:pntR s i=if V < low∨(55296≤V∧V < 57344)∨V > 1114111 then .tup [.v (.int .i64 0),.v (.int .i64 0)] else .tup [.v (.int .i64 V),.v (.int .i64 n)]:=by
     unfold pntR
     rw[hp]
     simp only[Prod.mk.injEq]at hcl
     rcases hcl with ⟨ha,hb,rfl,rfl,rfl⟩|⟨ha,hb,rfl,rfl,rfl⟩|⟨ha,hb,rfl,rfl,rfl⟩
     ·rw[pntd_two k0 k1 k2 k3 ⟨ha,hb⟩,if_pos (by omega),if_neg (by omega),hv1 (by omega)]
     ·rw[kEH k0 k1 k2 k3 ⟨ha,hb⟩]
      have e:V=(s.getD i 0).toNat % 16 * 4096+(s.getD (i+1) 0).toNat % 64 * 64+(s.getD (i+2) 0).toNat % 64:=by have:=hv2 (by omega);omega
      by_cases hc:V < 2048∨(55296≤V∧V < 57344)∨V > 1114111
      ·rw[if_pos hc,if_neg (by omega)];rfl
      ·rw[if_neg hc,if_pos (by omega),← e]
     ·rw[kFa k0 k1 k2 k3 ⟨ha,hb⟩]
      have e:V=(s.getD i 0).toNat % 8 * 262144+(s.getD (i+1) 0).toNat % 64 * 4096+(s.getD (i+2) 0).toNat % 64 * 64+(s.getD (i+3) 0).toNat % 64:=by have:=hv3 (by omega);omega
      by_cases hc:V < 65536∨(55296≤V∧V < 57344)∨V > 1114111
      ·rw[if_pos hc,if_neg (by omega)];rfl
      ·rw[if_neg hc,if_pos (by omega),← e]
    simp (disch:=omega) only[aR,seval,kD,h2]
    (try ((with_reducible first|refine kE (fun q1=>?_) (fun q1=>?_)|refine kF (fun q1=>?_) (fun q1=>?_))<;>simp (disch:=omega) only[aR,seval,kD,q1]<;>(with_reducible first|(refine And.intro ?_ ?_;focus first|omega|kernel_rfl);(repeat (refine And.intro ?_ ?_;focus first|omega|kernel_rfl));(try simp (disch:=omega) only[aR,seval,kD,q1])|skip)<;>(try ((with_reducible first|refine kE (fun q2=>?_) (fun q2=>?_)|refine kF (fun q2=>?_) (fun q2=>?_))<;>simp (disch:=omega) only[aR,seval,kD,q2]<;>(with_reducible first|(refine And.intro ?_ ?_;focus first|omega|kernel_rfl);(repeat (refine And.intro ?_ ?_;focus first|omega|kernel_rfl));(try simp (disch:=omega) only[aR,seval,kD,q2])|skip)<;>(try ((with_reducible first|refine kE (fun q3=>?_) (fun q3=>?_)|refine kF (fun q3=>?_) (fun q3=>?_))<;>simp (disch:=omega) only[aR,seval,kD,q3]<;>(with_reducible first|(refine And.intro ?_ ?_;focus first|omega|kernel_rfl);(repeat (refine And.intro ?_ ?_;focus first|omega|kernel_rfl));(try simp (disch:=omega) only[aR,seval,kD,q3])|skip)<;>(try ((with_reducible first|refine kE (fun q4=>?_) (fun q4=>?_)|refine kF (fun q4=>?_) (fun q4=>?_))<;>simp (disch:=omega) only[aR,seval,kD,q4]<;>(with_reducible first|(refine And.intro ?_ ?_;focus first|omega|kernel_rfl);(repeat (refine And.intro ?_ ?_;focus first|omega|kernel_rfl));(try simp (disch:=omega) only[aR,seval,kD,q4])|skip)<;>(try ((with_reducible first|refine kE (fun q5=>?_) (fun q5=>?_)|refine kF (fun q5=>?_) (fun q5=>?_))<;>simp (disch:=omega) only[aR,seval,kD,q5]<;>(with_reducible first|(refine And.intro ?_ ?_;focus first|omega|kernel_rfl);(repeat (refine And.intro ?_ ?_;focus first|omega|kernel_rfl));(try simp (disch:=omega) only[aR,seval,kD,q5])|skip)<;>skip))))))))))
    all_goals first
     | (rw [fin,if_pos (by omega)])
     | (rw [fin,if_neg (by omega)])
     | trace_state
end Go.Proofs
-- HUt5
namespace Go.Proofs
open Go Go.Rw
theorem pntR_plain (l:List UInt8) (i:Nat):(pntR l i).plain=true:=rfl
theorem kEN {Γ:Env} (hf:Γ.get 98=some kH2) {σ:AS} {dr:Bool} {l:List UInt8} {i:Nat} {d:Option Nat} {K:AS→Prop} (h:l.length≤1099511627776) (hi:i < l.length)
    (hk:cont σ d (pntR l i) K):kS Tryz.prog Γ dr σ 98 [.v (sv l),.v (.int .i64 i)] d K :=
 kP (C:=kH2) (i:=⟨(⟨l,h⟩,i),hi⟩) hf rfl rfl rfl rfl (fun _ h=>h) (pntR_plain l i) hk
theorem pnt_len {l:List UInt8} (hne:l≠[]):(pnt l).2≤l.length:=by
 by_cases h:(pnt l).2=0
 ·omega
 ·obtain ⟨_,h2,h3⟩:=kFX hne h
  have h4:=congrArg List.length h3
  rw[List.length_append,List.length_drop,jM]at h4
  omega
theorem drop_ne {l:List UInt8} {i:Nat} (h:i < l.length):l.drop i≠[]:=by
 intro e
 have this:=congrArg List.length e
 rw[List.length_drop,List.length_nil]at this;omega
theorem kG7 (l:List UInt8):(pnt l).1≤1114111∧(pnt l).2≤4:=by
 by_cases hl:l=[]
 ·subst hl;exact ⟨by decide +kernel,by decide +kernel⟩
 ·by_cases h:(pnt l).2=0
  ·unfold pnt at h ⊢
   split
   ·simp
   ·rename_i hn
    rw[if_neg hn]at h
    have:=Lib.decodeL_width l
    omega
  ·obtain ⟨h1,h2,_⟩:=kFX hl h
   have:=wid_le (pnt l).1
   exact ⟨h1.2.1,by omega⟩
def kAT (l:List UInt8):AV:=match pts l with
 | some cs=>.tup [.sl 0 1 (nats cs),.v (.bool true)]
 | none=>.tup [.sl 0 1 [],.v (.bool false)]
abbrev kBT:Con where
 ι:=Str
 args:=fun s=>[.v (sv s.1)]
 post:=fun s r=>r=kAT s.1
theorem kEe:Rw.Good Tryz.prog 74 kBT:=by
 have hΓ:kK Tryz.prog [(98,kH2)]:=(kG kEF kI)
 refine kZ (nn:=28) hΓ Tryz.func74 (by kernel_rfl) rfl (show Tryz.f74.results.toList=[.tmp 2,.tmp 3] from rfl) (fun _=>rfl) (fun _=>rfl) ?_
 rintro ⟨s,hs⟩
 simp only[aR,seval]
 obtain ⟨St,hSt⟩:∃ St:{ p:List Nat×Nat // p.2≤s.length∧p.1.length≤p.2∧pts s=(pts (s.drop p.2)).map (p.1 ++ ·) }→AS,∀ p,St p=AS.of 28 [(0,.v (sv s)),(4,.sl 2 1 (nats p.1.1)),(5,.v (.int .i64 p.1.2))] [] [(p.1.1.length,3)]:=⟨_,fun _=>rfl⟩
 refine qE hΓ St (fun p=>s.length - p.1.2) ⟨([],0),by omega,by simp,by simp⟩ (by rw[hSt];refine kO [] [.nil 1] ?_;simp only[aR,seval,nats_nil]<;>(and_intros<;>first|rfl|omega|trivial)) ?_
 rintro ⟨⟨cs,i⟩,hi,hci,hp⟩
 simp only at hi hci hp
 rw[hSt]
 simp only
 simp only[aR,seval]
 (with_reducible first|refine kE (fun h=>?_) (fun h=>?_)|refine kF (fun h=>?_) (fun h=>?_))
 ·simp only[aR,seval,h]
  have hlt:i < s.length:=by omega
  refine kEN (by simp[kC]) hs hlt ?_
  have hne:=drop_ne hlt
  have hsm:=kG7 (s.drop i)
  have hpl:=pnt_len hne
  rw[List.length_drop]at hpl
  rw[pts_step hne]at hp
  unfold pntR
  generalize hq:pnt (s.drop i)=q at *
  obtain ⟨c,n⟩:=q
  simp only at hsm hp hpl
  simp only[aR,seval]
  (with_reducible first|refine kE (fun h2=>?_) (fun h2=>?_)|refine kF (fun h2=>?_) (fun h2=>?_))
  ·simp only[aR,seval,h2]
   unfold kAT
   rw[hp,if_pos (by omega)];rfl
  ·rw[if_neg (by omega),List.drop_drop]at hp
   simp (disch:=omega) only[aR,seval,kD,h2,nats_len]
   refine ⟨by omega,by omega,kN ⟨(cs++[c],i+n),by omega,by simp;omega,?_⟩ (by simp only;omega) ?_⟩
   ·rw[hp,Option.map_map]
    congr 1
    funext x;simp
   ·rw[hSt];refine kO [] [.live 2] ?_
    simp only[aR,seval,nats_snoc,List.length_append]<;>(and_intros<;>first|rfl|omega|trivial)
 ·simp only[aR,seval,h]
  rw[List.drop_of_length_le (by omega),pts_nil]at hp
  unfold kAT
  rw[hp];simp
theorem kEa {Γ:Env} (hf:Γ.get 74=some kBT) {σ:AS} {dr:Bool} {l:List UInt8} {d:Option Nat} {K:AS→Prop} (h:l.length≤1099511627776)
    (hk:cont σ d (kAT l) K):kS Tryz.prog Γ dr σ 74 [.v (sv l)] d K :=
 jH (C:=kBT) (i:=⟨l,h⟩) (r:=kAT l) hf rfl rfl rfl rfl (fun _ h=>h) (by
  have:(kAT l).er=kAT l:=by unfold kAT;split<;>rfl
  rw[this];exact hk)
theorem kDG:Rw.Good Tryz.prog 51 j9:=by
 have hΓ:kK Tryz.prog [(74,kBT)]:=(kG kEe kI)
 refine kZ (nn:=11) hΓ Tryz.func51 (by kernel_rfl) rfl (show Tryz.f51.results.toList=[.tmp 2] from rfl) (fun _=>rfl) (fun _=>rfl) ?_
 rintro ⟨s,hs⟩
 simp only[aR,seval]
 refine kEa (by simp[kC]) hs ?_
 rcases kCO (pts s) with hp|⟨cs,hp⟩
 all_goals simp only[aR,seval,kAT,hp]
 all_goals rfl
theorem kAl {Γ:Env} (hf:Γ.get 51=some j9) {σ:AS} {dr:Bool} {l:List UInt8} {d:Option Nat} {K:AS→Prop} (h:l.length≤1099511627776)
    (hk:cont σ d (.v (.bool (pts l).isSome)) K):kS Tryz.prog Γ dr σ 51 [.v (sv l)] d K :=
 kP (C:=j9) (i:=⟨l,h⟩) hf rfl rfl rfl rfl (fun _ h=>h) rfl hk
def cnt (l:List UInt8):Nat:=match pts l with|some cs=>cs.length|none=>0
abbrev kAq:Con where
 ι:=Str
 args:=fun s=>[.v (sv s.1)]
 post:=fun s r=>r = .v (.int .i64 (cnt s.1))
 plain:=true
theorem kB2:Rw.Good Tryz.prog 52 kAq:=by
 have hΓ:kK Tryz.prog [(74,kBT)]:=(kG kEe kI)
 refine kZ (nn:=12) hΓ Tryz.func52 (by kernel_rfl) rfl (show Tryz.f52.results.toList=[.tmp 2] from rfl) (fun _=>rfl) (fun _=>rfl) ?_
 rintro ⟨s,hs⟩
 simp only[aR,seval]
 refine kEa (by simp[kC]) hs ?_
 rcases kCO (pts s) with hp|⟨cs,hp⟩
 all_goals simp only[aR,seval,kAT,hp,nats_len,cnt]<;>(and_intros<;>first|rfl|omega|trivial)
theorem kAn {Γ:Env} (hf:Γ.get 52=some kAq) {σ:AS} {dr:Bool} {l:List UInt8} {d:Option Nat} {K:AS→Prop} (h:l.length≤1099511627776)
    (hk:cont σ d (.v (.int .i64 (cnt l))) K):kS Tryz.prog Γ dr σ 52 [.v (sv l)] d K :=
 kP (C:=kAq) (i:=⟨l,h⟩) hf rfl rfl rfl rfl (fun _ h=>h) rfl hk
theorem mixed1:Tryz.prog.follows .mixedOrders=true:=by kernel_rfl
end Go.Proofs
-- HUt6
namespace Go.Proofs
open Go Go.Rw
def roffF:Nat→List UInt8→Int→Nat
 | 0,_,_=>0
 | f+1,l,n=>if n≤0∨l=[] then 0 else max (pnt l).2 1+roffF f (l.drop (max (pnt l).2 1)) (n - 1)
def roff (l:List UInt8) (n:Int):Nat:=roffF l.length l n
theorem kGi:∀ (f g:Nat) (l:List UInt8) (n:Int),l.length≤f→l.length≤g→roffF f l n=roffF g l n
 | 0,0,_,_,_,_=>rfl
 | 0,g+1,l,n,h,_=>by
   have:l=[]:=List.eq_nil_of_length_eq_zero (by omega)
   subst this;simp[roffF]
 | f+1,0,l,n,_,h=>by
   have:l=[]:=List.eq_nil_of_length_eq_zero (by omega)
   subst this;simp[roffF]
 | f+1,g+1,l,n,h1,h2=>by
   simp only[roffF]
   split
   ·rfl
   ·rename_i hc
    rw[not_or]at hc
    have:0 < l.length:=List.length_pos_iff.2 hc.2
    rw[kGi f g _ _ (by rw[List.length_drop];omega) (by rw[List.length_drop];omega)]
theorem kDx {l:List UInt8} {n:Int} (h:n≤0∨l=[]):roff l n=0:=by
 unfold roff
 cases hl:l.length with
 | zero=>rfl
 | succ f=>simp only [roffF];rw [if_pos h]
theorem roff_step {l:List UInt8} {n:Int} (h1:¬ n≤0) (h2:l≠[]):roff l n=max (pnt l).2 1+roff (l.drop (max (pnt l).2 1)) (n - 1):=by
 unfold roff
 have hpos:0 < l.length:=List.length_pos_iff.2 h2
 obtain ⟨f,hf⟩:∃ f,l.length=f+1:=⟨l.length - 1,by omega⟩
 rw[hf]
 simp only[roffF]
 rw[if_neg (by rw[not_or];exact ⟨h1,h2⟩),kGi f _ _ _ (by rw[List.length_drop];omega) (Nat.le_refl _)]
theorem kGK:∀ (cs:List Nat) (n:Int),(∀ c∈cs,okc c)→roff (encs cs) n=(encs (cs.take n.toNat)).length
 | [],n,_=>by rw [kDx (.inr (show encs []=[] from rfl))];simp [encs]
 | c::cs,n,h=>by
   by_cases hn:n≤0
   ·rw[kDx (.inl hn),show n.toNat=0 by omega];rfl
   ·have hc:=h c (by simp)
    have hw:=kA1 c
    have hne:encs (c::cs)≠[]:=by
     intro e
     have h2:=congrArg List.length e
     rw[kAH,List.length_nil]at h2;omega
    rw[roff_step hn hne,qR,pnt_enc hc]
    simp only
    rw[Nat.max_eq_left hw,show (enc c++encs cs).drop (wid c)=encs cs by rw[← jM c,List.drop_left],kGK cs _ (fun x hx=>h x (by simp[hx])),show n.toNat=(n - 1).toNat+1 by omega,List.take_succ_cons,kAH]
abbrev roffCon:Con where
 ι:=Str×I64
 args:=fun p=>[.v (sv p.1.1),.v (.int .i64 p.2.1)]
 post:=fun p r=>r = .v (.int .i64 (roff p.1.1 p.2.1))
 plain:=true
theorem roff_good:Rw.Good Tryz.prog 118 roffCon:=by
 have hΓ:kK Tryz.prog [(98,kH2)]:=(kG kEF kI)
 refine kZ (nn:=29) hΓ Tryz.func118 (by kernel_rfl) rfl (show Tryz.f118.results.toList=[.tmp 4] from rfl) (fun _=>rfl) (fun _=>rfl) ?_
 rintro ⟨⟨s,hs⟩,⟨n,hn1,hn2⟩⟩
 simp only
 simp only[aR,seval]
 obtain ⟨St,hSt⟩:∃ St:{ p:Int×Nat // -9223372036854775808≤p.1∧p.1≤9223372036854775807∧p.2≤s.length∧roff s n=p.2+roff (s.drop p.2) p.1 }→AS,∀ p,St p=AS.of 29 [(0,.v (sv s)),(1,.v (.int .i64 p.1.1)),(5,.v (.int .i64 p.1.2))] [] []:=⟨_,fun _=>rfl⟩
 refine qE hΓ St (fun p=>s.length - p.1.2) ⟨(n,0),hn1,hn2,by omega,by simp⟩ (by rw[hSt];refine kO [] [] ?_;simp only[aR,seval]<;>(and_intros<;>first|rfl|omega|trivial)) ?_
 rintro ⟨⟨m,i⟩,hm1,hm2,hi,hr⟩
 simp only at hm1 hm2 hi hr
 rw[hSt]
 simp only
 simp only[aR,seval]
 (try ((with_reducible first|refine kE (fun q1=>?_) (fun q1=>?_)|refine kF (fun q1=>?_) (fun q1=>?_))<;>simp (disch:=omega) only[aR,seval,kD,q1]<;>(with_reducible first|(refine And.intro ?_ ?_;focus first|omega|kernel_rfl);(repeat (refine And.intro ?_ ?_;focus first|omega|kernel_rfl));(try simp (disch:=omega) only[aR,seval,kD,q1])|skip)<;>(try ((with_reducible first|refine kE (fun q2=>?_) (fun q2=>?_)|refine kF (fun q2=>?_) (fun q2=>?_))<;>simp (disch:=omega) only[aR,seval,kD,q2]<;>(with_reducible first|(refine And.intro ?_ ?_;focus first|omega|kernel_rfl);(repeat (refine And.intro ?_ ?_;focus first|omega|kernel_rfl));(try simp (disch:=omega) only[aR,seval,kD,q2])|skip)<;>skip))))
 ·have hlt:i < s.length:=by omega
  refine kEN (by simp[kC]) hs hlt ?_
  have hne:=drop_ne hlt
  have hsm:=kG7 (s.drop i)
  have hpl:=pnt_len hne
  rw[List.length_drop]at hpl
  rw[roff_step (by omega) hne,List.drop_drop]at hr
  unfold pntR
  generalize hq:pnt (s.drop i)=q at *
  obtain ⟨c,k⟩:=q
  simp only at hsm hpl hr
  have e1:max (k:Int) 1=((max k 1:Nat):Int):=by omega
  simp (disch:=omega) only[aR,seval,kD,min2_int,jA,e1]
  refine kN ⟨(m - 1,i+max k 1),by omega,by omega,by omega,by show roff s n=(i+max k 1)+roff (s.drop (i+max k 1)) (m - 1);omega⟩ (by simp only;omega) ?_
  rw[hSt];refine kO [] [] ?_
  simp only[aR,seval]<;>(and_intros<;>first|rfl|omega|trivial)
 all_goals
  first
  | rw [kDx (l:=s.drop i) (n:=m) (.inl (by omega))] at hr
  | rw [kDx (l:=s.drop i) (n:=m) (.inr (List.drop_of_length_le (by omega)))] at hr
  omega
theorem call_roff {Γ:Env} (hf:Γ.get 118=some roffCon) {σ:AS} {dr:Bool} {l:List UInt8} {n:Int} {d:Option Nat} {K:AS→Prop} (h:l.length≤1099511627776) (h1:-9223372036854775808≤n∧n≤9223372036854775807)
    (hk:cont σ d (.v (.int .i64 (roff l n))) K):kS Tryz.prog Γ dr σ 118 [.v (sv l),.v (.int .i64 n)] d K :=
 kP (C:=roffCon) (i:=(⟨l,h⟩,⟨n,h1⟩)) hf rfl rfl rfl rfl (fun _ h=>h) rfl hk
abbrev kDW:Con where
 ι:={ p:List Nat×Int×Int // (∀ c∈p.1,okc c)∧(encs p.1).length≤1099511627776∧0≤p.2.1∧p.2.1≤p.2.2∧p.2.2≤p.1.length }
 args:=fun p=>[.v (sv (encs p.1.1)),.v (.int .i64 p.1.2.1),.v (.int .i64 p.1.2.2)]
 post:=fun p r=>r = .v (sv (encs ((p.1.1.drop p.1.2.1.toNat).take (p.1.2.2.toNat - p.1.2.1.toNat))))
 plain:=true
theorem rslice_good:Rw.Good Tryz.prog 88 kDW:=by
 have hΓ:kK Tryz.prog [(118,roffCon)]:=(kG roff_good kI)
 refine kZ (nn:=15) hΓ Tryz.func88 (by kernel_rfl) rfl (show Tryz.f88.results.toList=[.tmp 6] from rfl) (fun _=>rfl) (fun _=>rfl) ?_
 rintro ⟨⟨cs,a,b⟩,hok,hl,h1,h2,h3⟩
 simp only at hok hl h1 h2 h3 ⊢
 have hcl:=encs_le cs
 simp only[aR,seval]
 refine call_roff (by simp[kC]) hl (by omega) ?_
 simp only[aR,seval]
 refine call_roff (by simp[kC]) hl (by omega) ?_
 rw[kGK cs a hok,kGK cs b hok]
 have hl1:=encs_take_le cs b.toNat
 have hl2:=kGb cs (a:=a.toNat) (b:=b.toNat) (by omega)
 simp only[aR,seval]
 repeat (with_reducible refine And.intro ?_ ?_;focus first|omega|kernel_rfl)
 rw[encs_slice cs (by omega)]
theorem call_rslice {Γ:Env} (hf:Γ.get 88=some kDW) {σ:AS} {dr:Bool} {cs:List Nat} {a b:Int} {d:Option Nat} {K:AS→Prop} (h1:∀ c∈cs,okc c) (h2:(encs cs).length≤1099511627776) (h3:0≤a∧a≤b∧b≤cs.length)
    (hk:cont σ d (.v (sv (encs ((cs.drop a.toNat).take (b.toNat - a.toNat))))) K):kS Tryz.prog Γ dr σ 88 [.v (sv (encs cs)),.v (.int .i64 a),.v (.int .i64 b)] d K :=
 kP (C:=kDW) (i:=⟨(cs,a,b),h1,h2,h3.1,h3.2.1,h3.2.2⟩) hf rfl rfl rfl rfl (fun _ h=>h) rfl hk
end Go.Proofs
-- HUt7
namespace Go.Proofs
open Go Go.Rw
end Go.Proofs
-- HUo1
namespace Go.Proofs
open Go Go.Rw
abbrev addCon:Con where
 ι:={ p:Int×Int // 0≤p.1∧p.1≤1099511627776∧0≤p.2∧p.2≤9223372036854775807 }
 args:=fun p=>[.v (.int .i64 p.1.1),.v (.int .i64 p.1.2)]
 post:=fun p r=>r = .v (.int .i64 (addI p.1.1 p.1.2))
 plain:=true
theorem add_good:Rw.Good Tryz.prog 142 addCon:=by
 have hΓ:kK Tryz.prog []:=kI
 refine kZ (nn:=12) hΓ Tryz.func142 (by kernel_rfl) rfl (show Tryz.f142.results.toList=[.tmp 4] from rfl) (fun _=>rfl) (fun _=>rfl) ?_
 rintro ⟨⟨n,m⟩,h1,h2,h3,h4⟩
 simp only at h1 h2 h3 h4 ⊢
 simp (disch:=omega) only[aR,seval,kD]
 (try ((with_reducible first|refine kE (fun q1=>?_) (fun q1=>?_)|refine kF (fun q1=>?_) (fun q1=>?_))<;>simp (disch:=omega) only[aR,seval,kD,q1]<;>(with_reducible first|(refine And.intro ?_ ?_;focus first|omega|kernel_rfl);(repeat (refine And.intro ?_ ?_;focus first|omega|kernel_rfl));(try simp (disch:=omega) only[aR,seval,kD,q1])|skip)<;>skip))
 all_goals (unfold addI;omega)
theorem call_add {Γ:Env} (hf:Γ.get 142=some addCon) {σ:AS} {dr:Bool} {n m:Int} {d:Option Nat} {K:AS→Prop} (h:0≤n∧n≤1099511627776) (h2:0≤m∧m≤9223372036854775807)
    (hk:cont σ d (.v (.int .i64 (addI n m))) K):kS Tryz.prog Γ dr σ 142 [.v (.int .i64 n),.v (.int .i64 m)] d K :=
 kP (C:=addCon) (i:=⟨(n,m),h.1,h.2,h2.1,h2.2⟩) hf rfl rfl rfl rfl (fun _ h=>h) rfl hk
abbrev Ed:={ l:List Cp // okL l }
theorem kDp (l:List Cp):AV.erL (qI l)=qI l:=by
 induction l with
 | nil=>rfl
 | cons c r ih=>show AV.er (cA c)::AV.erL (qI r)=_;rw [ih];rfl
abbrev kBL:Con where
 ι:=Ed
 args:=fun l=>[.sl 0 3 (qI l.1)]
 post:=fun l r=>r = .v (.int .i64 (kA9 l.1))
 plain:=true
theorem base_good:Rw.Good Tryz.prog 122 kBL:=by
 have hΓ:kK Tryz.prog [(142,addCon)]:=(kG add_good kI)
 refine kZ (nn:=26) hΓ Tryz.func122 (by kernel_rfl) rfl (show Tryz.f122.results.toList=[.tmp 2] from rfl) (fun _=>rfl) (fun _=>rfl) ?_
 rintro ⟨l,hl,htot,hc⟩
 simp only[aR,seval,kM]
 obtain ⟨St,hSt⟩:∃ St:{ p:Int×Nat // p.2≤l.length∧0≤p.1∧p.1≤1099511627776∧kA9 l=kEj p.1 (l.drop p.2) }→AS,∀ p,St p=AS.of 26 [(2,.v (.int .i64 p.1.1)),(5,.sl 0 3 (qI l)),(6,.v (.int .i64 l.length)),(7,.v (.int .i64 p.1.2))] [] []:=⟨_,fun _=>rfl⟩
 refine qE hΓ St (fun p=>l.length - p.1.2) ⟨(0,0),by omega,by omega,by omega,rfl⟩ (by rw[hSt];refine kO [] [] ?_;simp only[aR,seval]<;>(and_intros<;>first|rfl|omega|trivial)) ?_
 rintro ⟨⟨n,i⟩,hi,hn1,hn2,hb⟩
 simp only at hi hn1 hn2 hb
 rw[hSt]
 simp only
 simp only[aR,seval]
 (with_reducible first|refine kE (fun h=>?_) (fun h=>?_)|refine kF (fun h=>?_) (fun h=>?_))
 ·have hlt:i < l.length:=by omega
  have hci:=And.intro (hc l[i] (List.getElem_mem hlt)) (okL.text ⟨hl,htot,hc⟩ (List.getElem_mem hlt))
  have e1:=qN l hlt
  rw[List.drop_eq_getElem_cons hlt]at hb
  simp only[kEj]at hb
  generalize l[i]=c at *
  obtain ⟨k,m,t⟩:=c
  simp only at hci hb e1
  have yes:(k=1∨k=3)→kA9 l=kEj (addI n (max m 0)) (l.drop (i+1)):=fun h=>by rw[hb,if_pos h]
  have no:¬ (k=1∨k=3)→kA9 l=kEj n (l.drop (i+1)):=fun h=>by rw[hb,if_neg h]
  have hr:=zA hn1 (show 0≤max m 0 by omega)
  simp (disch:=omega) only[aR,seval,kD,h,e1,kM]
  repeat (with_reducible refine And.intro ?_ ?_;focus first|omega|kernel_rfl)
  (try ((with_reducible first|refine kE (fun q1=>?_) (fun q1=>?_)|refine kF (fun q1=>?_) (fun q1=>?_))<;>simp (disch:=omega) only[aR,seval,kD,q1,jA]<;>(with_reducible first|(refine And.intro ?_ ?_;focus first|omega|kernel_rfl);(repeat (refine And.intro ?_ ?_;focus first|omega|kernel_rfl));(try simp (disch:=omega) only[aR,seval,kD,q1,jA])|skip)<;>(try ((with_reducible first|refine kE (fun q2=>?_) (fun q2=>?_)|refine kF (fun q2=>?_) (fun q2=>?_))<;>simp (disch:=omega) only[aR,seval,kD,q2,jA]<;>(with_reducible first|(refine And.intro ?_ ?_;focus first|omega|kernel_rfl);(repeat (refine And.intro ?_ ?_;focus first|omega|kernel_rfl));(try simp (disch:=omega) only[aR,seval,kD,q2,jA])|skip)<;>skip))))
  all_goals first
   | (refine call_add (by simp [kC]) ⟨hn1,hn2⟩ (by omega) ?_
      simp (disch:=omega) only[aR,seval,kD]
      refine kN ⟨(addI n (max m 0),i+1),by omega,hr.1,hr.2,yes (by omega)⟩ (by simp only;omega) ?_
      rw[hSt];refine kO [] [] ?_
      simp only[aR,seval]<;>(and_intros<;>first|rfl|omega|trivial))
   | (refine kN ⟨(n,i+1),by omega,hn1,hn2,no (by omega)⟩ (by simp only;omega) ?_
      rw[hSt];refine kO [] [] ?_
      simp only[aR,seval]<;>(and_intros<;>first|rfl|omega|trivial))
   | trace_state
 ·simp only[aR,seval,h]
  rw[List.drop_of_length_le (by omega)]at hb
  rw[hb];rfl
theorem call_base {Γ:Env} (hf:Γ.get 122=some kBL) {σ:AS} {dr:Bool} {l:List Cp} {t:Nat} {ys:List AV} {d:Option Nat} {K:AS→Prop} (hy:ys=qI l) (h:okL l)
    (hk:cont σ d (.v (.int .i64 (kA9 l))) K):kS Tryz.prog Γ dr σ 122 [.sl t 3 ys] d K:=by
 subst hy
 exact kP (C:=kBL) (i:=⟨l,h⟩) hf rfl rfl rfl rfl (fun _ h=>h) rfl hk
abbrev rcCon:Con where
 ι:=Str
 args:=fun s=>[.v (sv s.1)]
 post:=fun s r=>r = .v (.int .i64 (lc s.1))
 plain:=true
theorem dec2_lc {s:List UInt8} {p:Nat}:dec2 s p=(Lib.decodeL (s.drop p)).2:=by unfold dec2;rw[kDX]
theorem rc_good:Rw.Good Tryz.prog 104 rcCon:=by
 have hΓ:kK Tryz.prog []:=kI
 refine kZ (nn:=10) hΓ Tryz.func104 (by kernel_rfl) rfl (show Tryz.f104.results.toList=[.tmp 2] from rfl) (fun _=>rfl) (fun _=>rfl) ?_
 rintro ⟨s,hs⟩
 simp only[aR,seval]
 have hll:=lc_len s
 obtain ⟨St,hSt⟩:∃ St:{ p:Nat×Nat // p.1+lc (s.drop p.2)=lc s }→AS,∀ p,St p=AS.of 10 [(2,.v (.int .i64 p.1.1)),(4,.ptr 0 0)] [.iter ⟨s.toArray⟩ p.1.2] []:=⟨_,fun _=>rfl⟩
 refine qE hΓ St (fun p=>s.length - p.1.2) ⟨(0,0),by simp⟩ (by rw[hSt];refine kO [0] [] ?_;simp only[aR,seval]<;>(and_intros<;>first|rfl|omega|trivial)) ?_
 rintro ⟨⟨n,p⟩,hn⟩
 simp only at hn
 rw[hSt]
 simp only
 simp only[aR,seval]
 by_cases hp:p < s.length
 ·rw[nextO_in hp]
  have hw:=Lib.decodeL_width (s.drop p)
  rw[lc_step (drop_ne hp),List.drop_drop]at hn
  simp (disch:=omega) only[aR,seval,kD,dec2_lc]
  refine kN ⟨(n+1,p+(Lib.decodeL (s.drop p)).2),by simp only;omega⟩ (by simp only;omega) ?_
  rw[hSt];refine kO [0] [] ?_
  simp only[aR,seval]<;>(and_intros<;>first|rfl|omega|trivial)
 ·rw[nextO_end hp]
  rw[List.drop_of_length_le (by omega),lc_nil]at hn
  simp only[aR,seval]
  omega
theorem call_rc {Γ:Env} (hf:Γ.get 104=some rcCon) {σ:AS} {dr:Bool} {l:List UInt8} {d:Option Nat} {K:AS→Prop} (h:l.length≤1099511627776)
    (hk:cont σ d (.v (.int .i64 (lc l))) K):kS Tryz.prog Γ dr σ 104 [.v (sv l)] d K :=
 kP (C:=rcCon) (i:=⟨l,h⟩) hf rfl rfl rfl rfl (fun _ h=>h) rfl hk
abbrev kEf:Con where
 ι:=Ed
 args:=fun l=>[.sl 0 3 (qI l.1)]
 post:=fun l r=>r = .v (.int .i64 (outL l.1))
 plain:=true
theorem out_good:Rw.Good Tryz.prog 127 kEf:=by
 have hΓ:kK Tryz.prog [(142,addCon),(104,rcCon)]:=(kG add_good (kG rc_good kI))
 refine kZ (nn:=29) hΓ Tryz.func127 (by kernel_rfl) rfl (show Tryz.f127.results.toList=[.tmp 2] from rfl) (fun _=>rfl) (fun _=>rfl) ?_
 rintro ⟨l,hl,htot,hc⟩
 simp only[aR,seval,kM]
 obtain ⟨St,hSt⟩:∃ St:{ p:Int×Nat // p.2≤l.length∧0≤p.1∧p.1≤1099511627776∧outL l=outF p.1 (l.drop p.2) }→AS,∀ p,St p=AS.of 29 [(2,.v (.int .i64 p.1.1)),(5,.sl 0 3 (qI l)),(6,.v (.int .i64 l.length)),(7,.v (.int .i64 p.1.2))] [] []:=⟨_,fun _=>rfl⟩
 refine qE hΓ St (fun p=>l.length - p.1.2) ⟨(0,0),by omega,by omega,by omega,rfl⟩ (by rw[hSt];refine kO [] [] ?_;simp only[aR,seval]<;>(and_intros<;>first|rfl|omega|trivial)) ?_
 rintro ⟨⟨n,i⟩,hi,hn1,hn2,hb⟩
 simp only at hi hn1 hn2 hb
 rw[hSt]
 simp only
 simp only[aR,seval]
 (with_reducible first|refine kE (fun h=>?_) (fun h=>?_)|refine kF (fun h=>?_) (fun h=>?_))
 ·have hlt:i < l.length:=by omega
  have hci:=And.intro (hc l[i] (List.getElem_mem hlt)) (okL.text ⟨hl,htot,hc⟩ (List.getElem_mem hlt))
  have e1:=qN l hlt
  rw[List.drop_eq_getElem_cons hlt]at hb
  simp only[outF]at hb
  generalize l[i]=c at *
  obtain ⟨k,m,t⟩:=c
  simp only at hci hb e1
  have hl1:k=1→outL l=outF (addI n (max m 0)) (l.drop (i+1)):=fun h=>by rw[hb,if_pos h]
  have hl2:¬ k=1→k=2→outL l=outF (addI n (lc t)) (l.drop (i+1)):=fun h h2=>by rw[hb,if_neg h,if_pos h2]
  have hl3:¬ k=1→¬ k=2→outL l=outF n (l.drop (i+1)):=fun h h2=>by rw[hb,if_neg h,if_neg h2]
  have hr:=zA hn1 (show 0≤max m 0 by omega)
  have hr2:=zA hn1 (show 0≤(lc t:Int) by omega)
  have hlt2:=lc_len t
  simp (disch:=omega) only[aR,seval,kD,h,e1,kM]
  repeat (with_reducible refine And.intro ?_ ?_;focus first|omega|kernel_rfl)
  (try ((with_reducible first|refine kE (fun q1=>?_) (fun q1=>?_)|refine kF (fun q1=>?_) (fun q1=>?_))<;>simp (disch:=omega) only[aR,seval,kD,q1,jA]<;>(with_reducible first|(refine And.intro ?_ ?_;focus first|omega|kernel_rfl);(repeat (refine And.intro ?_ ?_;focus first|omega|kernel_rfl));(try simp (disch:=omega) only[aR,seval,kD,q1,jA])|skip)<;>(try ((with_reducible first|refine kE (fun q2=>?_) (fun q2=>?_)|refine kF (fun q2=>?_) (fun q2=>?_))<;>simp (disch:=omega) only[aR,seval,kD,q2,jA]<;>(with_reducible first|(refine And.intro ?_ ?_;focus first|omega|kernel_rfl);(repeat (refine And.intro ?_ ?_;focus first|omega|kernel_rfl));(try simp (disch:=omega) only[aR,seval,kD,q2,jA])|skip)<;>skip))))
  all_goals first
   | (refine call_add (by simp [kC]) ⟨hn1,hn2⟩ (by omega) ?_
      simp (disch:=omega) only[aR,seval,kD]
      refine kN ⟨(addI n (max m 0),i+1),by omega,hr.1,hr.2,hl1 (by omega)⟩ (by simp only;omega) ?_
      rw[hSt];refine kO [] [] ?_
      simp only[aR,seval]<;>(and_intros<;>first|rfl|omega|trivial))
   | (refine call_rc (by simp [kC]) hci.2 ?_
      simp (disch:=omega) only[aR,seval,kD]
      refine call_add (by simp[kC]) ⟨hn1,hn2⟩ (by omega) ?_
      simp (disch:=omega) only[aR,seval,kD]
      refine kN ⟨(addI n (lc t),i+1),by omega,hr2.1,hr2.2,hl2 (by omega) (by omega)⟩ (by simp only;omega) ?_
      rw[hSt];refine kO [] [] ?_
      simp only[aR,seval]<;>(and_intros<;>first|rfl|omega|trivial))
   | (refine kN ⟨(n,i+1),by omega,hn1,hn2,hl3 (by omega) (by omega)⟩ (by simp only;omega) ?_
      rw[hSt];refine kO [] [] ?_
      simp only[aR,seval]<;>(and_intros<;>first|rfl|omega|trivial))
   | trace_state
 ·simp only[aR,seval,h]
  rw[List.drop_of_length_le (by omega)]at hb
  rw[hb];rfl
theorem call_out {Γ:Env} (hf:Γ.get 127=some kEf) {σ:AS} {dr:Bool} {l:List Cp} {t:Nat} {ys:List AV} {d:Option Nat} {K:AS→Prop} (hy:ys=qI l) (h:okL l)
    (hk:cont σ d (.v (.int .i64 (outL l))) K):kS Tryz.prog Γ dr σ 127 [.sl t 3 ys] d K:=by
 subst hy
 exact kP (C:=kEf) (i:=⟨l,h⟩) hf rfl rfl rfl rfl (fun _ h=>h) rfl hk
abbrev partCon (F:Cp→Bool):Con where
 ι:={ c:Cp // c.t.length≤1099511627776 }
 args:=fun c=>[cA c.1]
 post:=fun c r=>r = .v (.bool (F c.1))
 plain:=true
theorem sound_good:Rw.Good Tryz.prog 145 (partCon qY):=by
 have hΓ:kK Tryz.prog [(96,j9)]:=(kG kHU kI)
 refine kZ (nn:=31) hΓ Tryz.func145 (by kernel_rfl) rfl (show Tryz.f145.results.toList=[.tmp 2] from rfl) (fun _=>rfl) (fun _=>rfl) ?_
 rintro ⟨⟨k,n,t⟩,ht⟩
 simp only at ht
 simp only[aR,seval,cA,qY]
 (try ((with_reducible first|refine kE (fun q1=>?_) (fun q1=>?_)|refine kF (fun q1=>?_) (fun q1=>?_))<;>simp (disch:=omega) only[aR,seval,kD,q1]<;>(with_reducible first|(refine And.intro ?_ ?_;focus first|omega|kernel_rfl);(repeat (refine And.intro ?_ ?_;focus first|omega|kernel_rfl));(try simp (disch:=omega) only[aR,seval,kD,q1])|skip)<;>(try ((with_reducible first|refine kE (fun q2=>?_) (fun q2=>?_)|refine kF (fun q2=>?_) (fun q2=>?_))<;>simp (disch:=omega) only[aR,seval,kD,q2]<;>(with_reducible first|(refine And.intro ?_ ?_;focus first|omega|kernel_rfl);(repeat (refine And.intro ?_ ?_;focus first|omega|kernel_rfl));(try simp (disch:=omega) only[aR,seval,kD,q2])|skip)<;>(try ((with_reducible first|refine kE (fun q3=>?_) (fun q3=>?_)|refine kF (fun q3=>?_) (fun q3=>?_))<;>simp (disch:=omega) only[aR,seval,kD,q3]<;>(with_reducible first|(refine And.intro ?_ ?_;focus first|omega|kernel_rfl);(repeat (refine And.intro ?_ ?_;focus first|omega|kernel_rfl));(try simp (disch:=omega) only[aR,seval,kD,q3])|skip)<;>(try ((with_reducible first|refine kE (fun q4=>?_) (fun q4=>?_)|refine kF (fun q4=>?_) (fun q4=>?_))<;>simp (disch:=omega) only[aR,seval,kD,q4]<;>(with_reducible first|(refine And.intro ?_ ?_;focus first|omega|kernel_rfl);(repeat (refine And.intro ?_ ?_;focus first|omega|kernel_rfl));(try simp (disch:=omega) only[aR,seval,kD,q4])|skip)<;>skip))))))))
 all_goals first
  | done
  | (refine kGj (by simp [kC]) ht ?_
     simp only[aR,seval]<;>simp[*])
  | (simp [*];done)
  | trace_state
theorem call_sound {Γ:Env} (hf:Γ.get 145=some (partCon qY)) {σ:AS} {dr:Bool} {c:Cp} {d:Option Nat} {K:AS→Prop} (h:c.t.length≤1099511627776)
    (hk:cont σ d (.v (.bool (qY c))) K):kS Tryz.prog Γ dr σ 145 [.agg [.v (.int .i64 c.k),.v (.int .i64 c.n),.v (sv c.t)]] d K :=
 kP (C:=partCon qY) (i:=⟨c,h⟩) hf rfl rfl rfl rfl (fun _ h=>h) rfl hk
end Go.Proofs
-- HUe1
namespace Go.Proofs
open Go Go.Rw
structure On where
 id:Int
 ops:List Cp
 ed:Bool
 rm:Bool
 cr:Bool
 mv:Bool
 par:Int
 nm:List UInt8
 deriving Inhabited,DecidableEq
structure Ac where
 k:Int
 id:Int
 par:Int
 nm:List UInt8
 dir:Bool
 ops:List Cp
 deriving Inhabited,DecidableEq
def oA (x:On):AV:=.agg [.v (.int .i64 x.id),.sl 0 3 (qI x.ops),.v (.bool x.ed),.v (.bool x.rm),.v (.bool x.cr),.v (.bool x.mv),.v (.int .i64 x.par),.v (sv x.nm)]
def aA (x:Ac):AV:=.agg [.v (.int .i64 x.k),.v (.int .i64 x.id),.v (.int .i64 x.par),.v (sv x.nm),.v (.bool x.dir),.sl 0 3 (qI x.ops)]
def ones (l:List On):List AV:=l.map oA
def acts (l:List Ac):List AV:=l.map aA
theorem k9 (l:List Ac):(acts l).length=l.length:=by simp[acts]
theorem z6 (l:List Ac) {i:Nat} (h:i < l.length):(acts l).getD i .any=aA l[i]:=by simp[acts,List.getD_eq_getElem?_getD,h]
theorem kEm (x:Ac):(aA x).er=aA x:=by simp[aA,AV.er,AV.erL,kDp]
theorem j7:∀ l:List Ac,AV.erL (acts l)=acts l
 | []=>rfl
 | x::l=>by show (aA x).er::AV.erL (acts l)=_;rw [kEm,j7 l];rfl
end Go.Proofs
-- HUe2
namespace Go.Proofs
open Go Go.Rw
abbrev kD3:Con where
 ι:=Ed
 args:=fun l=>[.sl 0 3 (qI l.1)]
 post:=fun l r=>r = .sl 0 3 (qI l.1)
theorem kHV:Rw.Good Tryz.prog 80 kD3:=by
 have hΓ:kK Tryz.prog []:=kI
 refine kZ (nn:=8) hΓ Tryz.func80 (by kernel_rfl) rfl (show Tryz.f80.results.toList=[.tmp 2] from rfl) (fun _=>rfl) (fun _=>rfl) ?_
 rintro ⟨l,ol⟩
 have hl:=ol.1
 simp only[aR,seval,kM]
 refine ⟨fun h=>?_,fun _=>?_⟩
 ·have he:l=[]:=by
    rcases h with h|h
    ·cases h
    ·cases l with
     | nil=>rfl
     | cons c l=>cases h
  subst he
  simp only[aR,seval,kAD]
 ·simp only[aR,seval,kM,List.length_nil]
  try (repeat (with_reducible refine And.intro ?_ ?_;focus first|omega|kernel_rfl))
  (and_intros<;>first|rfl|omega|trivial)
theorem kHW {Γ:Env} (hf:Γ.get 80=some kD3) {σ:AS} {dr:Bool} {a:List Cp} {ys:List AV} {d:Option Nat} {K:AS→Prop} (hy:ys=qI a) (oa:okL a)
    (hk:cont σ d (.sl 0 3 (qI a)) K):kS Tryz.prog Γ dr σ 80 [.sl 0 3 ys] d K:=by
 subst hy
 exact jH (C:=kD3) (i:=⟨a,oa⟩) (r:=.sl 0 3 (qI a)) hf rfl rfl rfl rfl (fun _ h=>h) hk
end Go.Proofs
-- HUe2b
namespace Go.Proofs
open Go Go.Rw
end Go.Proofs
