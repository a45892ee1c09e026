/-
  Library functions' bodies at this dump,compared by the kernel. utf.Valid tells just whether bytes are a text. utf.Count counts a text's code points. utf.Points,utf.Offset,utf.Slice. The reference's code points. The reference's texts; numbers turned into bounds; rows of numbers held against each other. The reference's offsets and pieces. What the document fixes of texts. Counts of an edit's parts; which parts may be. What was done: rows of it; whom it was done to. An act,taken in. An act,taken in: the call,reckoned in place. Which edits may be. Parts put behind others; the normal form. The document's normal form. Parts held against each other; edits that are alike.
-/
import Derived.Shelf.Strings.Search1
import Derived.Shelf.Unicode.ValidAny
import Derived.Shelf.Small.Utf8
import Derived.Test.YtfhipjafkdembaaGreatDoorProg
import Derived.Test.YtfhipjafkdembaaGreatDoorXETi
import Derived.Test.YtfhipjafkdembaaGreatDoorRwF
import Derived.Test.YtfhipjafkdembaaGreatDoorRwJ
set_option linter.unusedSimpArgs false
set_option linter.unusedVariables false
set_option linter.defProp false
set_option linter.unusedSectionVars false

-- ESh
section
namespace Go.Proofs
open Go.Shelf
def Tryz.lays196_ren:Go.Shelf.Ren:=⟨fun | 196=>147 | 259=>170 | n=>n,fun | 0=>0 | 3=>3 | 4=>4 | 5=>5 | 9=>9 | 12=>12 | 46=>143 | 53=>169 | 119=>192 | 138=>194 | 139=>195 | n=>n,fun | 3=>0 | 4=>1 | n=>n⟩
theorem Tryz.lays196:Go.Proofs.Lays.n196 Tryz.prog Tryz.lays196_ren:={
  mixed:=by kernel_rfl
  f196:=Tryz.func147.trans (congrArg some (by kernel_rfl))
  f259:=Tryz.func170.trans (congrArg some (by kernel_rfl))
  t0:=Tryz.underlying0
  a0:=Tryz.isAgg0
  z0:=Tryz.sizeOf0
  v0:=Tryz.zeroValue0
  t3:=Tryz.underlying3
  a3:=Tryz.isAgg3
  z3:=Tryz.sizeOf3
  v3:=Tryz.zeroValue3
  t4:=Tryz.underlying4
  a4:=Tryz.isAgg4
  z4:=Tryz.sizeOf4
  v4:=Tryz.zeroValue4
  t5:=Tryz.underlying5
  a5:=Tryz.isAgg5
  z5:=Tryz.sizeOf5
  v5:=Tryz.zeroValue5
  t9:=Tryz.underlying9
  a9:=Tryz.isAgg9
  z9:=Tryz.sizeOf9
  v9:=Tryz.zeroValue9
  t12:=Tryz.underlying12
  a12:=Tryz.isAgg12
  z12:=Tryz.sizeOf12
  v12:=Tryz.zeroValue12
  t46:=Tryz.underlying143
  a46:=Tryz.isAgg143
  z46:=Tryz.sizeOf143
  v46:=Tryz.zeroValue143
  t53:=Tryz.underlying169
  a53:=Tryz.isAgg169
  z53:=Tryz.sizeOf169
  v53:=Tryz.zeroValue169
  t119:=Tryz.underlying192
  a119:=Tryz.isAgg192
  z119:=Tryz.sizeOf192
  t138:=Tryz.underlying194
  a138:=Tryz.isAgg194
  z138:=Tryz.sizeOf194
  v138:=Tryz.zeroValue194
  t139:=Tryz.underlying195
  a139:=Tryz.isAgg195
  z139:=Tryz.sizeOf195
  v139:=Tryz.zeroValue195
  g3:=by kernel_rfl
  g4:=by kernel_rfl
}
def Tryz.lays217_ren:Go.Shelf.Ren:=⟨fun | 217=>176 | 266=>182 | n=>n,fun | 3=>3 | 5=>5 | 9=>9 | n=>n,fun | n=>n⟩
theorem Tryz.lays217:Go.Proofs.Lays.n217 Tryz.prog Tryz.lays217_ren:={
  mixed:=by kernel_rfl
  f217:=Tryz.func176.trans (congrArg some (by kernel_rfl))
  f266:=Tryz.func182.trans (congrArg some (by kernel_rfl))
  t3:=Tryz.underlying3
  a3:=Tryz.isAgg3
  z3:=Tryz.sizeOf3
  v3:=Tryz.zeroValue3
  t5:=Tryz.underlying5
  a5:=Tryz.isAgg5
  z5:=Tryz.sizeOf5
  v5:=Tryz.zeroValue5
  t9:=Tryz.underlying9
  a9:=Tryz.isAgg9
  z9:=Tryz.sizeOf9
  v9:=Tryz.zeroValue9
}
end Go.Proofs
end
-- EUt1
section
namespace Go.Proofs
open Go Go.Rw
open _root_.Nat renaming reduceAdd → N0, reduceSub → N1, reduceMul → N2, reduceLT → N3, reduceLeDiff → N4, reduceEqDiff → N5
open _root_.Int renaming reduceNeg → Z0, reduceAdd → Z1, reduceSub → Z2, reduceMul → Z3, reduceGT → Z4, reduceGE → Z5, reduceLT → Z6, reduceLE → Z7, reduceEq → Z8, reduceNe → Z9, reduceToNat → Z10, cast_ofNat_Int → Zc
set_option maxRecDepth 100000
instance tabsU:Tabs where
  blk:=fun g=>g=0∨g=1
  ok:=fun w=>Lib.Utf8Tabs 0 1 w
  stable:=fun w w' h hw=>by
    have h0:=fun i:Nat=>World.cell?_of_block (a:=⟨0,i,none⟩) (h 0 (.inl rfl))
    have h1:=fun i:Nat=>World.cell?_of_block (a:=⟨1,i,none⟩) (h 1 (.inr rfl))
    unfold Lib.Utf8Tabs at hw ⊢
    simp only [h0,h1]
    exact hw
abbrev Str:={ l:List UInt8 // l.length≤1099511627776 }
abbrev kC5:Con where
  ι:=Str
  args:=fun s=>[.v (sv s.1)]
  post:=fun s r=>r = .v (.bool (Lib.validD s.1))
  plain:=true
theorem validS_good:Rw.Good Tryz.prog 147 kC5:=by
  refine kEu ⟨_,Tryz.func147,by kernel_rfl,by kernel_rfl⟩ rfl rfl fun s w F vs htb hs hv=>?_
  obtain ⟨s,hl⟩:=s
  have h0:=hv 0
  have e:vs = #[sv s]:=by
    apply Array.ext (by simpa using hs)
    intro i h1 h2
    have:i=0:=by simpa using h2
    subst this
    have h3:=VR.v_inv h0
    rw [Array.getD_eq_getD_getElem?,Array.getElem?_eq_getElem h1] at h3
    simpa using h3
  subst e
  refine (Any.utf8_ValidString Tryz.lays196 ⟨s.toArray⟩ w (by simp [ByteArray.size]; omega) htb.1).mono ?_
  rintro e w' ⟨rfl,hb⟩
  exact ⟨_,_,rfl,rfl,fun _ _=>.v _,rfl,hb⟩
theorem call_validS {Γ:Env} (hf:Γ.get 147=some kC5) {σ:AS} {dr:Bool} {l:List UInt8} {d:Option Nat} {K:AS→Prop} (h:l.length≤1099511627776)
    (hk:cont σ d (.v (.bool (Lib.validD l))) K):kQ Tryz.prog Γ dr σ 147 [.v (sv l)] d K :=
  kP (C:=kC5) (i:=⟨l,h⟩) hf rfl rfl rfl rfl (fun _ h=>h) rfl hk
abbrev ibCon:Con where
  ι:=List UInt8×UInt8
  args:=fun s=>[.v (sv s.1),.v (.int .u8 s.2.toNat)]
  post:=fun s r=>r = .v (.int .i64 (Lib.indexByte s.1 s.2))
  plain:=true
theorem ib_good:Rw.Good Tryz.prog 176 ibCon:=by
  refine kEu ⟨_,Tryz.func176,by kernel_rfl,by kernel_rfl⟩ rfl rfl fun s w F vs htb hs hv=>?_
  obtain ⟨s,c⟩:=s
  have h0:=VR.v_inv (hv 0)
  have h1:=VR.v_inv (hv 1)
  have e:vs = #[sv s,.int .u8 c.toNat]:=by
    apply Array.ext (by simpa using hs)
    intro i h2 h3
    rw [Array.getD_eq_getD_getElem?] at h0 h1
    have:i=0∨i=1:=by have:i < 2:=by simpa using h3
                     omega
    rcases this with rfl | rfl
    · rw [Array.getElem?_eq_getElem h2] at h0; simpa using h0
    · rw [Array.getElem?_eq_getElem h2] at h1; simpa using h1
  subst e
  refine (Any.stringslite_IndexByte Tryz.lays217 ⟨s.toArray⟩ (c.toNat:Int) w).mono ?_
  rintro e w' ⟨rfl,rfl⟩
  have hc:(c.toNat:Int).toNat.toUInt8=c:=by simp
  exact ⟨_,_,rfl,rfl,fun _ _=>by simp only [hc]; exact .v _,rfl,.refl _ _⟩
theorem call_ib {Γ:Env} (hf:Γ.get 176=some ibCon) {σ:AS} {dr:Bool} {l:List UInt8} {c:UInt8} {n:Int} {d:Option Nat} {K:AS→Prop} (hn:n=c.toNat)
    (hk:cont σ d (.v (.int .i64 (Lib.indexByte l c))) K):kQ Tryz.prog Γ dr σ 176 [.v (sv l),.v (.int .u8 n)] d K:=by
  subst hn
  exact kP (C:=ibCon) (i:=(l,c)) hf rfl rfl rfl rfl (fun _ h=>h) rfl hk
theorem kCJ:∀ (l:List UInt8) (c:UInt8),-1≤Lib.indexByte l c∧(0≤Lib.indexByte l c↔c∈l)
  | [],c=>by simp [Lib.indexByte]
  | x::l,c=>by
    have ih:=kCJ l c
    unfold Lib.indexByte
    by_cases h:x=c
    · subst h; simp
    · have h1:(x == c)=false:=by simpa using h
      rw [h1]
      simp only [Bool.false_eq_true,if_false,List.mem_cons]
      by_cases h2:Lib.indexByte l c = -1
      · rw [h2]
        have h3:c ∉ l:=fun hc=>by have:=ih.2.2 hc; omega
        simp [h3]; exact fun e=>h e.symm
      · have h3:(Lib.indexByte l c == -1)=false:=by simpa using h2
        rw [h3]
        simp only [Bool.false_eq_true,if_false]
        have h4:c∈l:=ih.2.1 (by omega)
        exact ⟨by omega,by simp [h4]; omega⟩
abbrev kAm:Con where
  ι:=Str
  args:=fun s=>[.v (sv s.1),.v (sv [0])]
  post:=fun s r=>r = .v (.bool (s.1.contains 0))
  plain:=true
abbrev kBZ:Con where
  ι:=Str
  args:=fun s=>[.v (sv s.1),.v (sv [0])]
  post:=fun s r=>∃ i,r = .v (.int .i64 i)∧(0≤i↔(0:UInt8)∈s.1)
  plain:=true
theorem index_good:Rw.Good Tryz.prog 162 kBZ:=by
  have hΓ:kL Tryz.prog [(176,ibCon)]:=(kJ ib_good kK)
  refine k9 (nn:=143) hΓ Tryz.func162 (by kernel_rfl) rfl (show Tryz.f162.results.toList=[.tmp 4] from rfl) (fun _=>rfl) (fun _=>rfl) ?_
  rintro ⟨s,hs⟩
  simp only [aR,N0,N1,N2,N3,N4,N5,Z0,Z1,Z2,Z3,Z4,Z5,Z6,Z7,Z8,Z9,Z10,Zc,↓reduceIte,reduceCtorEq]
  refine kF (fun h=>?_) (fun h=>?_)
  · simp only [aR,N0,N1,N2,N3,N4,N5,Z0,Z1,Z2,Z3,Z4,Z5,Z6,Z7,Z8,Z9,Z10,Zc,↓reduceIte,reduceCtorEq]
    exact ⟨0,rfl,by simp [← h]⟩
  · simp only [aR,N0,N1,N2,N3,N4,N5,Z0,Z1,Z2,Z3,Z4,Z5,Z6,Z7,Z8,Z9,Z10,Zc,↓reduceIte,reduceCtorEq]
    refine call_ib (c:=0) (by simp [kG]) (by simp) ?_
    simp only [aR,N0,N1,N2,N3,N4,N5,Z0,Z1,Z2,Z3,Z4,Z5,Z6,Z7,Z8,Z9,Z10,Zc,↓reduceIte,reduceCtorEq]
    exact ⟨_,rfl,(kCJ s 0).2⟩
theorem sindex_good:Rw.Good Tryz.prog 132 kBZ:=by
  have hΓ:kL Tryz.prog [(162,kBZ)]:=(kJ index_good kK)
  refine k9 (nn:=8) hΓ Tryz.func132 (by kernel_rfl) rfl (show Tryz.f132.results.toList=[.tmp 4] from rfl) (fun _=>rfl) (fun _=>rfl) ?_
  rintro ⟨s,hs⟩
  simp only [aR,N0,N1,N2,N3,N4,N5,Z0,Z1,Z2,Z3,Z4,Z5,Z6,Z7,Z8,Z9,Z10,Zc,↓reduceIte,reduceCtorEq]
  refine kEA (C:=kBZ) (i:=⟨s,hs⟩) (by simp [kG]) rfl rfl rfl rfl (fun r ⟨i,hr,_⟩=>by rw [hr]; rfl) (fun r ⟨i,hr,h⟩=>?_)
  subst hr
  simp only [aR,N0,N1,N2,N3,N4,N5,Z0,Z1,Z2,Z3,Z4,Z5,Z6,Z7,Z8,Z9,Z10,Zc,↓reduceIte,reduceCtorEq]
  exact ⟨i,rfl,h⟩
theorem contains_good:Rw.Good Tryz.prog 148 kAm:=by
  have hΓ:kL Tryz.prog [(132,kBZ)]:=(kJ sindex_good kK)
  refine k9 (nn:=9) hΓ Tryz.func148 (by kernel_rfl) rfl (show Tryz.f148.results.toList=[.tmp 4] from rfl) (fun _=>rfl) (fun _=>rfl) ?_
  rintro ⟨s,hs⟩
  simp only [aR,N0,N1,N2,N3,N4,N5,Z0,Z1,Z2,Z3,Z4,Z5,Z6,Z7,Z8,Z9,Z10,Zc,↓reduceIte,reduceCtorEq]
  refine kEA (C:=kBZ) (i:=⟨s,hs⟩) (by simp [kG]) rfl rfl rfl rfl (fun r ⟨i,hr,_⟩=>by rw [hr]; rfl) (fun r ⟨i,hr,h⟩=>?_)
  subst hr
  simp only [aR,N0,N1,N2,N3,N4,N5,Z0,Z1,Z2,Z3,Z4,Z5,Z6,Z7,Z8,Z9,Z10,Zc,↓reduceIte,reduceCtorEq]
  rw [Bool.eq_iff_iff]; simpa using h
theorem call_contains {Γ:Env} (hf:Γ.get 148=some kAm) {σ:AS} {dr:Bool} {l:List UInt8} {d:Option Nat} {K:AS→Prop} (h:l.length≤1099511627776)
    (hk:cont σ d (.v (.bool (l.contains 0))) K):kQ Tryz.prog Γ dr σ 148 [.v (sv l),.v (sv [0])] d K :=
  kP (C:=kAm) (i:=⟨l,h⟩) hf rfl rfl rfl rfl (fun _ h=>h) rfl hk
abbrev kCV:Con where
  ι:=Str
  args:=fun s=>[.v (sv s.1)]
  post:=fun s r=>r = .v (.bool (pts s.1).isSome)
  plain:=true
theorem kEj:Rw.Good Tryz.prog 120 kCV:=by
  have hΓ:kL Tryz.prog [(147,kC5),(148,kAm)]:=(kJ validS_good (kJ contains_good kK))
  refine k9 (nn:=10) hΓ Tryz.func120 (by kernel_rfl) rfl (show Tryz.f120.results.toList=[.tmp 2] from rfl) (fun _=>rfl) (fun _=>rfl) ?_
  rintro ⟨s,hs⟩
  simp only [aR,N0,N1,N2,N3,N4,N5,Z0,Z1,Z2,Z3,Z4,Z5,Z6,Z7,Z8,Z9,Z10,Zc,↓reduceIte,reduceCtorEq]
  refine call_validS (by simp [kG]) hs ?_
  have key:=valid_pts _ s (Nat.le_refl _)
  simp only [aR,N0,N1,N2,N3,N4,N5,Z0,Z1,Z2,Z3,Z4,Z5,Z6,Z7,Z8,Z9,Z10,Zc,↓reduceIte,reduceCtorEq]
  cases hv:Lib.validD s with
  | false =>
    rw [hv] at key
    simp only [aR,N0,N1,N2,N3,N4,N5,Z0,Z1,Z2,Z3,Z4,Z5,Z6,Z7,Z8,Z9,Z10,Zc,↓reduceIte,reduceCtorEq]
    rw [← key]; rfl
  | true =>
    rw [hv] at key
    simp only [aR,N0,N1,N2,N3,N4,N5,Z0,Z1,Z2,Z3,Z4,Z5,Z6,Z7,Z8,Z9,Z10,Zc,↓reduceIte,reduceCtorEq]
    refine call_contains (by simp [kG]) hs ?_
    simp only [aR,N0,N1,N2,N3,N4,N5,Z0,Z1,Z2,Z3,Z4,Z5,Z6,Z7,Z8,Z9,Z10,Zc,↓reduceIte,reduceCtorEq]
    rw [← key]; rfl
theorem kEw {Γ:Env} (hf:Γ.get 120=some kCV) {σ:AS} {dr:Bool} {l:List UInt8} {d:Option Nat} {K:AS→Prop} (h:l.length≤1099511627776)
    (hk:cont σ d (.v (.bool (pts l).isSome)) K):kQ Tryz.prog Γ dr σ 120 [.v (sv l)] d K :=
  kP (C:=kCV) (i:=⟨l,h⟩) hf rfl rfl rfl rfl (fun _ h=>h) rfl hk
end Go.Proofs
end
-- EUt2
section
namespace Go.Proofs
open Go Go.Rw
open _root_.Nat renaming reduceAdd → N0, reduceSub → N1, reduceMul → N2, reduceLT → N3, reduceLeDiff → N4, reduceEqDiff → N5
open _root_.Int renaming reduceNeg → Z0, reduceAdd → Z1, reduceSub → Z2, reduceMul → Z3, reduceGT → Z4, reduceGE → Z5, reduceLT → Z6, reduceLE → Z7, reduceEq → Z8, reduceNe → Z9, reduceToNat → Z10, cast_ofNat_Int → Zc
set_option maxRecDepth 100000
theorem and192 {b:UInt8}:IntKind.wrap .u8 ((BitVec.ofInt IntKind.u8.bits (b.toNat:Int) &&& BitVec.ofInt IntKind.u8.bits 192).toNat:Nat)=((b.toNat / 64 * 64:Nat):Int):=by
  have key:∀ m:Nat,m < 256→(BitVec.ofInt IntKind.u8.bits (m:Int) &&& BitVec.ofInt IntKind.u8.bits 192).toNat=m / 64 * 64:=by decide +kernel
  have hb:=b.toNat_lt
  rw [key _ (by omega),wrap_u8 (by omega) (by omega)]
abbrev kDg:Con where
  ι:=UInt8
  args:=fun b=>[.v (.int .u8 b.toNat)]
  post:=fun b r=>r = .v (.bool (decide (¬ (128≤b.toNat∧b.toNat < 192))))
  plain:=true
theorem start_good:Rw.Good Tryz.prog 121 kDg:=by
  have hΓ:kL Tryz.prog []:=kK
  refine k9 (nn:=6) hΓ Tryz.func121 (by kernel_rfl) rfl (show Tryz.f121.results.toList=[.tmp 2] from rfl) (fun _=>rfl) (fun _=>rfl) ?_
  intro b
  simp only [aR,N0,N1,N2,N3,N4,N5,Z0,Z1,Z2,Z3,Z4,Z5,Z6,Z7,Z8,Z9,Z10,Zc,↓reduceIte,reduceCtorEq,and192]
  rw [Bool.eq_iff_iff]; simp; omega
theorem call_start {Γ:Env} (hf:Γ.get 121=some kDg) {σ:AS} {dr:Bool} {b:UInt8} {n:Int} {d:Option Nat} {K:AS→Prop} (hn:n=b.toNat)
    (hk:cont σ d (.v (.bool (decide (¬ (128≤b.toNat∧b.toNat < 192))))) K):kQ Tryz.prog Γ dr σ 121 [.v (.int .u8 n)] d K:=by
  subst hn
  exact kP (C:=kDg) (i:=b) hf rfl rfl rfl rfl (fun _ h=>h) rfl hk
theorem opt_cases {α:Type} (x:Option α):x=none∨∃ a,x=some a:=by cases x <;> simp
def res2 (a:AV) (e:Int):AV:=.tup [a,.v (.int .i64 e)]
def kBc (l:List UInt8):AV:=match pts l with
  | some cs=>res2 (.v (.int .i64 cs.length)) 0
  | none=>res2 (.v (.int .i64 0)) 2
theorem countR_plain (l:List UInt8):(kBc l).plain=true:=by unfold kBc; split <;> rfl
abbrev kBR:Con where
  ι:=Str
  args:=fun s=>[.v (sv s.1)]
  post:=fun s r=>r=kBc s.1
  plain:=true
theorem kCg:Rw.Good Tryz.prog 95 kBR:=by
  have hΓ:kL Tryz.prog [(120,kCV),(121,kDg)]:=(kJ kEj (kJ start_good kK))
  refine k9 (nn:=30) hΓ Tryz.func95 (by kernel_rfl) rfl (show Tryz.f95.results.toList=[.tmp 2,.tmp 3] from rfl) (fun _=>rfl) (fun _=>rfl) ?_
  rintro ⟨s,hs⟩
  simp only [aR,N0,N1,N2,N3,N4,N5,Z0,Z1,Z2,Z3,Z4,Z5,Z6,Z7,Z8,Z9,Z10,Zc,↓reduceIte,reduceCtorEq]
  obtain ⟨St,hSt⟩:∃ St:{ p:List Nat×List Nat // pts s=some (p.1++p.2) }→AS,∀ p,St p=AS.of 30 [(0,.v (sv s)),(2,.v (.int .i64 p.1.1.length)),(4,.v (.int .i64 (encs p.1.1).length))] [] []:=⟨_,fun _=>rfl⟩
  refine vc_lab hΓ 1 St (fun p=>p.1.2.length) 1 rfl rfl ?_ ?_
  · rintro ⟨⟨pre,post⟩,hp⟩
    simp only at hp
    obtain ⟨hok,hse⟩:=kAi hp
    rw [hSt]
    have hl:=congrArg List.length hse
    rw [kAL,List.length_append] at hl
    have hpl:=encs_le pre
    simp only [aR,N0,N1,N2,N3,N4,N5,Z0,Z1,Z2,Z3,Z4,Z5,Z6,Z7,Z8,Z9,Z10,Zc,↓reduceIte,reduceCtorEq]
    refine kF (fun h=>?_) (fun h=>?_)
    · simp only [aR,N0,N1,N2,N3,N4,N5,Z0,Z1,Z2,Z3,Z4,Z5,Z6,Z7,Z8,Z9,Z10,Zc,↓reduceIte,reduceCtorEq]
      refine ⟨_,rfl,?_⟩
      simp only [aR,N0,N1,N2,N3,N4,N5,Z0,Z1,Z2,Z3,Z4,Z5,Z6,Z7,Z8,Z9,Z10,Zc,↓reduceIte,reduceCtorEq]
      have:post=[]:=by
        cases post with
        | nil=>rfl
        | cons c cs=>have:=encs_pos (c:=c) (cs:=cs); omega
      subst this
      unfold kBc
      rw [hp,List.append_nil]; rfl
    · cases post with
      | nil=>rw [kCT,List.length_nil] at hl; omega
      | cons c cs =>
        have hc:=hok c (by simp)
        have hw:=j6 c
        have hcl:=jN c
        rw [qB,List.length_append,hcl] at hl
        rw [kAL,qB] at hse
        simp (disch:=omega) only [aR,N0,N1,N2,N3,N4,N5,Z0,Z1,Z2,Z3,Z4,Z5,Z6,Z7,Z8,Z9,Z10,Zc,↓reduceIte,reduceCtorEq,kD,kD]
        obtain ⟨St2,hSt2⟩:∃ St2:{ j:Nat // 1≤j∧j≤wid c }→AS,∀ j,St2 j=AS.of 30 [(0,.v (sv s)),(2,.v (.int .i64 pre.length)),(4,.v (.int .i64 ((encs pre).length+j.1:Nat)))] [] []:=⟨_,fun _=>rfl⟩
        refine zZ hΓ St2 (fun j=>wid c - j.1) ⟨1,by omega⟩ (by rw [hSt2]; refine kW [] [] ?_; simp only [aR,N0,N1,N2,N3,N4,N5,Z0,Z1,Z2,Z3,Z4,Z5,Z6,Z7,Z8,Z9,Z10,Zc,↓reduceIte,reduceCtorEq]; rfl) ?_
        rintro ⟨j,hj1,hj2⟩
        rw [hSt2]
        simp only
        simp only [aR,N0,N1,N2,N3,N4,N5,Z0,Z1,Z2,Z3,Z4,Z5,Z6,Z7,Z8,Z9,Z10,Zc,↓reduceIte,reduceCtorEq]
        have hlast:∀ σ:AS,j=wid c→Weak σ (AS.of 30 [(0,.v (sv s)),(2,.v (.int .i64 (pre.length+1:Nat))),(4,.v (.int .i64 ((encs pre).length+wid c:Nat)))] [] [])→∃ y:{ p:List Nat×List Nat // pts s=some (p.1++p.2) },y.1.2.length < (c::cs).length∧Weak σ (St y):=by
          intro σ hj hw
          refine ⟨⟨(pre++[c],cs),by simpa using hp⟩,by simp,?_⟩
          rw [hSt]
          simp only [kAL,List.length_append,qB,kCT,List.append_nil,hcl,List.length_cons,List.length_nil,Nat.zero_add]
          exact hw
        refine kH (fun h2=>?_) (fun h2=>?_)
        · simp (disch:=omega) only [aR,N0,N1,N2,N3,N4,N5,Z0,Z1,Z2,Z3,Z4,Z5,Z6,Z7,Z8,Z9,Z10,Zc,↓reduceIte,reduceCtorEq,kD,kD,h2]
          refine ⟨by omega,?_⟩
          refine call_start (by simp [kG]) rfl ?_
          simp only [aR,N0,N1,N2,N3,N4,N5,Z0,Z1,Z2,Z3,Z4,Z5,Z6,Z7,Z8,Z9,Z10,Zc,↓reduceIte,reduceCtorEq,h2]
          refine kF (fun h3=>?_) (fun h3=>?_)
          · simp (disch:=omega) only [aR,N0,N1,N2,N3,N4,N5,Z0,Z1,Z2,Z3,Z4,Z5,Z6,Z7,Z8,Z9,Z10,Zc,↓reduceIte,reduceCtorEq,kD,kD]
            have hj3:j < wid c:=by
              rcases Nat.lt_or_ge j (wid c) with h4 | h4
              · exact h4
              · exfalso
                have hjw:j=wid c:=by omega
                cases cs with
                | nil=>rw [kCT,List.length_nil] at hl; omega
                | cons c2 cs =>
                  have h5:=enc_head (hok c2 (by simp))
                  have h6:s.getD ((encs pre).length+j) 0=(enc c2).getD 0 0:=by
                    rw [hse,qB,← List.append_assoc,hjw,← hcl,← List.length_append]
                    exact getD_mid (j:=0) (by rw [jN]; exact j6 c2)
                  rw [h6] at h3
                  omega
            refine kT ⟨j+1,by omega⟩ (by simp only; omega) ?_
            rw [hSt2]; refine kW [] [] ?_
            simp only [aR,N0,N1,N2,N3,N4,N5,Z0,Z1,Z2,Z3,Z4,Z5,Z6,Z7,Z8,Z9,Z10,Zc,↓reduceIte,reduceCtorEq] <;> ((repeat' apply And.intro) <;> first | rfl | omega | trivial)
          · have hjw:j=wid c:=by
              rcases Nat.lt_or_ge j (wid c) with h4 | h4
              · exfalso
                have h5:=enc_cont hc hj1 h4
                have h6:s.getD ((encs pre).length+j) 0=(enc c).getD j 0:=by
                  rw [hse]; exact getD_mid (by rw [hcl]; exact h4)
                rw [h6] at h3
                omega
              · omega
            subst hjw
            simp (disch:=omega) only [aR,N0,N1,N2,N3,N4,N5,Z0,Z1,Z2,Z3,Z4,Z5,Z6,Z7,Z8,Z9,Z10,Zc,↓reduceIte,reduceCtorEq,kD,kD]
            refine hlast _ rfl ?_
            refine kW [] [] ?_
            simp only [aR,N0,N1,N2,N3,N4,N5,Z0,Z1,Z2,Z3,Z4,Z5,Z6,Z7,Z8,Z9,Z10,Zc,↓reduceIte,reduceCtorEq] <;> ((repeat' apply And.intro) <;> first | rfl | omega | trivial)
        · have hjw:j=wid c:=by omega
          subst hjw
          simp (disch:=omega) only [aR,N0,N1,N2,N3,N4,N5,Z0,Z1,Z2,Z3,Z4,Z5,Z6,Z7,Z8,Z9,Z10,Zc,↓reduceIte,reduceCtorEq,kD,kD,h2]
          refine hlast _ rfl ?_
          refine kW [] [] ?_
          simp only [aR,N0,N1,N2,N3,N4,N5,Z0,Z1,Z2,Z3,Z4,Z5,Z6,Z7,Z8,Z9,Z10,Zc,↓reduceIte,reduceCtorEq] <;> ((repeat' apply And.intro) <;> first | rfl | omega | trivial)
  · simp only [aR,N0,N1,N2,N3,N4,N5,Z0,Z1,Z2,Z3,Z4,Z5,Z6,Z7,Z8,Z9,Z10,Zc,↓reduceIte,reduceCtorEq]
    refine kEw (by simp [kG]) hs ?_
    simp only [aR,N0,N1,N2,N3,N4,N5,Z0,Z1,Z2,Z3,Z4,Z5,Z6,Z7,Z8,Z9,Z10,Zc,↓reduceIte,reduceCtorEq]
    rcases opt_cases (pts s) with hp | ⟨cs,hp⟩
    · simp only [aR,N0,N1,N2,N3,N4,N5,Z0,Z1,Z2,Z3,Z4,Z5,Z6,Z7,Z8,Z9,Z10,Zc,↓reduceIte,reduceCtorEq,hp,Option.isSome_none]
      unfold kBc
      rw [hp]; rfl
    · simp only [aR,N0,N1,N2,N3,N4,N5,Z0,Z1,Z2,Z3,Z4,Z5,Z6,Z7,Z8,Z9,Z10,Zc,↓reduceIte,reduceCtorEq,hp,Option.isSome_some]
      refine ⟨⟨([],cs),hp⟩,?_⟩
      rw [hSt]; refine kW [] [] ?_
      simp only [aR,N0,N1,N2,N3,N4,N5,Z0,Z1,Z2,Z3,Z4,Z5,Z6,Z7,Z8,Z9,Z10,Zc,↓reduceIte,reduceCtorEq]
      rfl
end Go.Proofs
end
-- EUt3
section
namespace Go.Proofs
open Go Go.Rw
set_option maxRecDepth 100000
theorem kB4 {Γ:Env} (hf:Γ.get 95=some kBR) {σ:AS} {dr:Bool} {l:List UInt8} {d:Option Nat} {K:AS→Prop} (h:l.length≤1099511627776)
    (hk:cont σ d (kBc l) K):kQ Tryz.prog Γ dr σ 95 [.v (sv l)] d K :=
  kP (C:=kBR) (i:=⟨l,h⟩) hf rfl rfl rfl rfl (fun _ h=>h) (countR_plain l) hk
abbrev I64:={ n:Int // -9223372036854775808≤n∧n≤9223372036854775807 }
end Go.Proofs
end
-- EUt4
section
namespace Go.Proofs
open Go Go.Rw
open _root_.Nat renaming reduceAdd → N0, reduceSub → N1, reduceMul → N2, reduceLT → N3, reduceLeDiff → N4, reduceEqDiff → N5
open _root_.Int renaming reduceNeg → Z0, reduceAdd → Z1, reduceSub → Z2, reduceMul → Z3, reduceGT → Z4, reduceGE → Z5, reduceLT → Z6, reduceLE → Z7, reduceEq → Z8, reduceNe → Z9, reduceToNat → Z10, cast_ofNat_Int → Zc
set_option maxRecDepth 100000
end Go.Proofs
end
-- EUt5
section
namespace Go.Proofs
open Go Go.Rw
open _root_.Nat renaming reduceAdd → N0, reduceSub → N1, reduceMul → N2, reduceLT → N3, reduceLeDiff → N4, reduceEqDiff → N5
open _root_.Int renaming reduceNeg → Z0, reduceAdd → Z1, reduceSub → Z2, reduceMul → Z3, reduceGT → Z4, reduceGE → Z5, reduceLT → Z6, reduceLE → Z7, reduceEq → Z8, reduceNe → Z9, reduceToNat → Z10, cast_ofNat_Int → Zc
set_option maxRecDepth 100000
theorem drop_ne {l:List UInt8} {i:Nat} (h:i < l.length):l.drop i≠[]:=by
  intro e
  have this:=congrArg List.length e
  rw [List.length_drop,List.length_nil] at this; omega
def cnt (l:List UInt8):Nat:=match pts l with | some cs=>cs.length | none=>0
abbrev kD1:Con where
  ι:=I64×{ n:Int // 1≤n∧n≤4611686018427387904 }
  args:=fun p=>[.v (.int .i64 p.1.1),.v (.int .i64 p.2.1)]
  post:=fun p r=>r = .v (.int .i64 (p.1.1 % p.2.1))
  plain:=true
theorem emod_tmod {k n:Int} (h:1≤n):k % n=if k.tmod n < 0 then k.tmod n+n else k.tmod n:=by
  have h3:=Int.emod_nonneg k (show n≠0 by omega)
  have h4:=Int.emod_lt_of_pos k (show 0 < n by omega)
  have h5:k.tmod n=k % n - if 0≤k∨n ∣ k then 0 else n.natAbs:=Int.tmod_eq_emod
  have h6:(n.natAbs:Int)=n:=by omega
  rw [h5]
  by_cases hc:0≤k∨n ∣ k
  · rw [if_pos hc,if_neg (by omega)]; omega
  · rw [if_neg hc,h6,if_pos (by omega)]; omega
theorem round_good:Rw.Good Tryz.prog 29 kD1:=by
  have hΓ:kL Tryz.prog []:=kK
  refine k9 (nn:=14) hΓ Tryz.func29 (by kernel_rfl) rfl (show Tryz.f29.results.toList=[.tmp 4] from rfl) (fun _=>rfl) (fun _=>rfl) ?_
  rintro ⟨⟨k,hk1,hk2⟩,⟨n,hn1,hn2⟩⟩
  simp only
  have h3:=emod_tmod (k:=k) hn1
  have h4:=Int.emod_nonneg k (show n≠0 by omega)
  have h5:=Int.emod_lt_of_pos k (show 0 < n by omega)
  simp (disch:=omega) only [aR,N0,N1,N2,N3,N4,N5,Z0,Z1,Z2,Z3,Z4,Z5,Z6,Z7,Z8,Z9,Z10,Zc,↓reduceIte,reduceCtorEq,kD,show ¬ n=0 by omega]
  (try ((with_reducible first | refine kF (fun q1=>?_) (fun q1=>?_) | refine kH (fun q1=>?_) (fun q1=>?_)) <;> simp (disch:=omega) only [aR,N0,N1,N2,N3,N4,N5,Z0,Z1,Z2,Z3,Z4,Z5,Z6,Z7,Z8,Z9,Z10,Zc,↓reduceIte,reduceCtorEq,kD,q1] <;> (with_reducible first | (refine And.intro ?_ ?_; focus (first | omega | exact kE | kernel_rfl)); (repeat (with_reducible refine And.intro ?_ ?_; focus (first | omega | exact kE | kernel_rfl))); (try simp (disch:=omega) only [aR,N0,N1,N2,N3,N4,N5,Z0,Z1,Z2,Z3,Z4,Z5,Z6,Z7,Z8,Z9,Z10,Zc,↓reduceIte,reduceCtorEq,kD,q1]) | skip) <;> skip))
  all_goals (rw [h3]; first | rw [if_pos (by assumption)] | rw [if_neg (by assumption)])
theorem call_round {Γ:Env} (hf:Γ.get 29=some kD1) {σ:AS} {dr:Bool} {k n:Int} {d:Option Nat} {K:AS→Prop} (h1:-9223372036854775808≤k∧k≤9223372036854775807) (h2:1≤n∧n≤4611686018427387904)
    (hk:cont σ d (.v (.int .i64 (k % n))) K):kQ Tryz.prog Γ dr σ 29 [.v (.int .i64 k),.v (.int .i64 n)] d K :=
  kP (C:=kD1) (i:=(⟨k,h1⟩,⟨n,h2⟩)) hf rfl rfl rfl rfl (fun _ h=>h) rfl hk
theorem kE:Tryz.prog.follows .mixedOrders=true:=by kernel_rfl
end Go.Proofs
end
-- EUt6
section
namespace Go.Proofs
open Go Go.Rw
open _root_.Nat renaming reduceAdd → N0, reduceSub → N1, reduceMul → N2, reduceLT → N3, reduceLeDiff → N4, reduceEqDiff → N5
open _root_.Int renaming reduceNeg → Z0, reduceAdd → Z1, reduceSub → Z2, reduceMul → Z3, reduceGT → Z4, reduceGE → Z5, reduceLT → Z6, reduceLE → Z7, reduceEq → Z8, reduceNe → Z9, reduceToNat → Z10, cast_ofNat_Int → Zc
set_option maxRecDepth 100000
end Go.Proofs
end
-- EUt7
section
namespace Go.Proofs
open Go Go.Rw
set_option maxRecDepth 100000
end Go.Proofs
end
-- EUo1
section
namespace Go.Proofs
open Go Go.Rw
open _root_.Nat renaming reduceAdd → N0, reduceSub → N1, reduceMul → N2, reduceLT → N3, reduceLeDiff → N4, reduceEqDiff → N5
open _root_.Int renaming reduceNeg → Z0, reduceAdd → Z1, reduceSub → Z2, reduceMul → Z3, reduceGT → Z4, reduceGE → Z5, reduceLT → Z6, reduceLE → Z7, reduceEq → Z8, reduceNe → Z9, reduceToNat → Z10, cast_ofNat_Int → Zc
set_option maxRecDepth 100000
abbrev addCon:Con where
  ι:={ p:Int×Int // 0≤p.1∧p.1≤1099511627776∧0≤p.2∧p.2≤9223372036854775807 }
  args:=fun p=>[.v (.int .i64 p.1.1),.v (.int .i64 p.1.2)]
  post:=fun p r=>r = .v (.int .i64 (addI p.1.1 p.1.2))
  plain:=true
theorem add_good:Rw.Good Tryz.prog 169 addCon:=by
  have hΓ:kL Tryz.prog []:=kK
  refine k9 (nn:=12) hΓ Tryz.func169 (by kernel_rfl) rfl (show Tryz.f169.results.toList=[.tmp 4] from rfl) (fun _=>rfl) (fun _=>rfl) ?_
  rintro ⟨⟨n,m⟩,h1,h2,h3,h4⟩
  simp only at h1 h2 h3 h4 ⊢
  simp (disch:=omega) only [aR,N0,N1,N2,N3,N4,N5,Z0,Z1,Z2,Z3,Z4,Z5,Z6,Z7,Z8,Z9,Z10,Zc,↓reduceIte,reduceCtorEq,kD]
  (try ((with_reducible first | refine kF (fun q1=>?_) (fun q1=>?_) | refine kH (fun q1=>?_) (fun q1=>?_)) <;> simp (disch:=omega) only [aR,N0,N1,N2,N3,N4,N5,Z0,Z1,Z2,Z3,Z4,Z5,Z6,Z7,Z8,Z9,Z10,Zc,↓reduceIte,reduceCtorEq,kD,q1] <;> (with_reducible first | (refine And.intro ?_ ?_; focus (first | omega | exact kE | kernel_rfl)); (repeat (with_reducible refine And.intro ?_ ?_; focus (first | omega | exact kE | kernel_rfl))); (try simp (disch:=omega) only [aR,N0,N1,N2,N3,N4,N5,Z0,Z1,Z2,Z3,Z4,Z5,Z6,Z7,Z8,Z9,Z10,Zc,↓reduceIte,reduceCtorEq,kD,q1]) | skip) <;> skip))
  all_goals (unfold addI; omega)
theorem call_add {Γ:Env} (hf:Γ.get 169=some addCon) {σ:AS} {dr:Bool} {n m:Int} {d:Option Nat} {K:AS→Prop} (h:0≤n∧n≤1099511627776) (h2:0≤m∧m≤9223372036854775807)
    (hk:cont σ d (.v (.int .i64 (addI n m))) K):kQ Tryz.prog Γ dr σ 169 [.v (.int .i64 n),.v (.int .i64 m)] d K :=
  kP (C:=addCon) (i:=⟨(n,m),h.1,h.2,h2.1,h2.2⟩) hf rfl rfl rfl rfl (fun _ h=>h) rfl hk
abbrev Ed:={ l:List Cp // okL l }
theorem comps_er (l:List Cp):AV.erL (qJ l)=qJ l:=by
  induction l with
  | nil=>rfl
  | cons c r ih=>show AV.er (cA c)::AV.erL (qJ r)=_; rw [ih]; rfl
abbrev kDy:Con where
  ι:=Ed
  args:=fun l=>[.sl 0 3 (qJ l.1)]
  post:=fun l r=>r = .v (.int .i64 (kBH l.1))
  plain:=true
theorem base_good:Rw.Good Tryz.prog 144 kDy:=by
  have hΓ:kL Tryz.prog [(169,addCon)]:=(kJ add_good kK)
  refine k9 (nn:=26) hΓ Tryz.func144 (by kernel_rfl) rfl (show Tryz.f144.results.toList=[.tmp 2] from rfl) (fun _=>rfl) (fun _=>rfl) ?_
  rintro ⟨l,hl,htot,hc⟩
  simp only [aR,N0,N1,N2,N3,N4,N5,Z0,Z1,Z2,Z3,Z4,Z5,Z6,Z7,Z8,Z9,Z10,Zc,↓reduceIte,reduceCtorEq,kV]
  obtain ⟨St,hSt⟩:∃ St:{ p:Int×Nat // p.2≤l.length∧0≤p.1∧p.1≤1099511627776∧kBH l=baseF p.1 (l.drop p.2) }→AS,∀ p,St p=AS.of 26 [(2,.v (.int .i64 p.1.1)),(5,.sl 0 3 (qJ l)),(6,.v (.int .i64 l.length)),(7,.v (.int .i64 p.1.2))] [] []:=⟨_,fun _=>rfl⟩
  refine zZ hΓ St (fun p=>l.length - p.1.2) ⟨(0,0),by omega,by omega,by omega,rfl⟩ (by rw [hSt]; refine kW [] [] ?_; simp only [aR,N0,N1,N2,N3,N4,N5,Z0,Z1,Z2,Z3,Z4,Z5,Z6,Z7,Z8,Z9,Z10,Zc,↓reduceIte,reduceCtorEq] <;> ((repeat' apply And.intro) <;> first | rfl | omega | trivial)) ?_
  rintro ⟨⟨n,i⟩,hi,hn1,hn2,hb⟩
  simp only at hi hn1 hn2 hb
  rw [hSt]
  simp only
  simp only [aR,N0,N1,N2,N3,N4,N5,Z0,Z1,Z2,Z3,Z4,Z5,Z6,Z7,Z8,Z9,Z10,Zc,↓reduceIte,reduceCtorEq]
  (with_reducible first | refine kF (fun h=>?_) (fun h=>?_) | refine kH (fun h=>?_) (fun h=>?_))
  · have hlt:i < l.length:=by omega
    have hci:=And.intro (hc l[i] (List.getElem_mem hlt)) (okL.text ⟨hl,htot,hc⟩ (List.getElem_mem hlt))
    have e1:=zT l hlt
    rw [List.drop_eq_getElem_cons hlt] at hb
    simp only [baseF] at hb
    generalize l[i]=c at *
    obtain ⟨k,m,t⟩:=c
    simp only at hci hb e1
    have yes:(k=1∨k=3)→kBH l=baseF (addI n (max m 0)) (l.drop (i+1)):=fun h=>by rw [hb,if_pos h]
    have no:¬ (k=1∨k=3)→kBH l=baseF n (l.drop (i+1)):=fun h=>by rw [hb,if_neg h]
    have hr:=zF hn1 (show 0≤max m 0 by omega)
    simp (disch:=omega) only [aR,N0,N1,N2,N3,N4,N5,Z0,Z1,Z2,Z3,Z4,Z5,Z6,Z7,Z8,Z9,Z10,Zc,↓reduceIte,reduceCtorEq,kD,h,e1,kV]
    (repeat (with_reducible refine And.intro ?_ ?_; focus (first | omega | exact kE | kernel_rfl)))
    (try ((with_reducible first | refine kF (fun q1=>?_) (fun q1=>?_) | refine kH (fun q1=>?_) (fun q1=>?_)) <;> simp (disch:=omega) only [aR,N0,N1,N2,N3,N4,N5,Z0,Z1,Z2,Z3,Z4,Z5,Z6,Z7,Z8,Z9,Z10,Zc,↓reduceIte,reduceCtorEq,kD,q1,jX] <;> (with_reducible first | (refine And.intro ?_ ?_; focus (first | omega | exact kE | kernel_rfl)); (repeat (with_reducible refine And.intro ?_ ?_; focus (first | omega | exact kE | kernel_rfl))); (try simp (disch:=omega) only [aR,N0,N1,N2,N3,N4,N5,Z0,Z1,Z2,Z3,Z4,Z5,Z6,Z7,Z8,Z9,Z10,Zc,↓reduceIte,reduceCtorEq,kD,q1,jX]) | skip) <;> (try ((with_reducible first | refine kF (fun q2=>?_) (fun q2=>?_) | refine kH (fun q2=>?_) (fun q2=>?_)) <;> simp (disch:=omega) only [aR,N0,N1,N2,N3,N4,N5,Z0,Z1,Z2,Z3,Z4,Z5,Z6,Z7,Z8,Z9,Z10,Zc,↓reduceIte,reduceCtorEq,kD,q2,jX] <;> (with_reducible first | (refine And.intro ?_ ?_; focus (first | omega | exact kE | kernel_rfl)); (repeat (with_reducible refine And.intro ?_ ?_; focus (first | omega | exact kE | kernel_rfl))); (try simp (disch:=omega) only [aR,N0,N1,N2,N3,N4,N5,Z0,Z1,Z2,Z3,Z4,Z5,Z6,Z7,Z8,Z9,Z10,Zc,↓reduceIte,reduceCtorEq,kD,q2,jX]) | skip) <;> skip))))
    all_goals first
      | (refine call_add (by simp [kG]) ⟨hn1,hn2⟩ (by omega) ?_
         simp (disch:=omega) only [aR,N0,N1,N2,N3,N4,N5,Z0,Z1,Z2,Z3,Z4,Z5,Z6,Z7,Z8,Z9,Z10,Zc,↓reduceIte,reduceCtorEq,kD]
         refine kT ⟨(addI n (max m 0),i+1),by omega,hr.1,hr.2,yes (by omega)⟩ (by simp only; omega) ?_
         rw [hSt]; refine kW [] [] ?_
         simp only [aR,N0,N1,N2,N3,N4,N5,Z0,Z1,Z2,Z3,Z4,Z5,Z6,Z7,Z8,Z9,Z10,Zc,↓reduceIte,reduceCtorEq] <;> ((repeat' apply And.intro) <;> first | rfl | omega | trivial))
      | (refine kT ⟨(n,i+1),by omega,hn1,hn2,no (by omega)⟩ (by simp only; omega) ?_
         rw [hSt]; refine kW [] [] ?_
         simp only [aR,N0,N1,N2,N3,N4,N5,Z0,Z1,Z2,Z3,Z4,Z5,Z6,Z7,Z8,Z9,Z10,Zc,↓reduceIte,reduceCtorEq] <;> ((repeat' apply And.intro) <;> first | rfl | omega | trivial))
      | trace_state
  · simp only [aR,N0,N1,N2,N3,N4,N5,Z0,Z1,Z2,Z3,Z4,Z5,Z6,Z7,Z8,Z9,Z10,Zc,↓reduceIte,reduceCtorEq,h]
    rw [List.drop_of_length_le (by omega)] at hb
    rw [hb]; rfl
theorem call_base {Γ:Env} (hf:Γ.get 144=some kDy) {σ:AS} {dr:Bool} {l:List Cp} {t:Nat} {ys:List AV} {d:Option Nat} {K:AS→Prop} (hy:ys=qJ l) (h:okL l)
    (hk:cont σ d (.v (.int .i64 (kBH l))) K):kQ Tryz.prog Γ dr σ 144 [.sl t 3 ys] d K:=by
  subst hy
  exact kP (C:=kDy) (i:=⟨l,h⟩) hf rfl rfl rfl rfl (fun _ h=>h) rfl hk
abbrev rcCon:Con where
  ι:=Str
  args:=fun s=>[.v (sv s.1)]
  post:=fun s r=>r = .v (.int .i64 (lc s.1))
  plain:=true
theorem dec2_lc {s:List UInt8} {p:Nat}:dec2 s p=(Lib.decodeL (s.drop p)).2:=by unfold dec2; rw [kCY]
theorem rc_good:Rw.Good Tryz.prog 115 rcCon:=by
  have hΓ:kL Tryz.prog []:=kK
  refine k9 (nn:=10) hΓ Tryz.func115 (by kernel_rfl) rfl (show Tryz.f115.results.toList=[.tmp 2] from rfl) (fun _=>rfl) (fun _=>rfl) ?_
  rintro ⟨s,hs⟩
  simp only [aR,N0,N1,N2,N3,N4,N5,Z0,Z1,Z2,Z3,Z4,Z5,Z6,Z7,Z8,Z9,Z10,Zc,↓reduceIte,reduceCtorEq]
  have hll:=lc_len s
  obtain ⟨St,hSt⟩:∃ St:{ p:Nat×Nat // p.1+lc (s.drop p.2)=lc s }→AS,∀ p,St p=AS.of 10 [(2,.v (.int .i64 p.1.1)),(4,.ptr 0 0)] [.iter ⟨s.toArray⟩ p.1.2] []:=⟨_,fun _=>rfl⟩
  refine zZ hΓ St (fun p=>s.length - p.1.2) ⟨(0,0),by simp⟩ (by rw [hSt]; refine kW [0] [] ?_; simp only [aR,N0,N1,N2,N3,N4,N5,Z0,Z1,Z2,Z3,Z4,Z5,Z6,Z7,Z8,Z9,Z10,Zc,↓reduceIte,reduceCtorEq] <;> ((repeat' apply And.intro) <;> first | rfl | omega | trivial)) ?_
  rintro ⟨⟨n,p⟩,hn⟩
  simp only at hn
  rw [hSt]
  simp only
  simp only [aR,N0,N1,N2,N3,N4,N5,Z0,Z1,Z2,Z3,Z4,Z5,Z6,Z7,Z8,Z9,Z10,Zc,↓reduceIte,reduceCtorEq]
  by_cases hp:p < s.length
  · rw [nextO_in hp]
    have hw:=Lib.decodeL_width (s.drop p)
    rw [lc_step (drop_ne hp),List.drop_drop] at hn
    simp (disch:=omega) only [aR,N0,N1,N2,N3,N4,N5,Z0,Z1,Z2,Z3,Z4,Z5,Z6,Z7,Z8,Z9,Z10,Zc,↓reduceIte,reduceCtorEq,kD,dec2_lc]
    refine kT ⟨(n+1,p+(Lib.decodeL (s.drop p)).2),by simp only; omega⟩ (by simp only; omega) ?_
    rw [hSt]; refine kW [0] [] ?_
    simp only [aR,N0,N1,N2,N3,N4,N5,Z0,Z1,Z2,Z3,Z4,Z5,Z6,Z7,Z8,Z9,Z10,Zc,↓reduceIte,reduceCtorEq] <;> ((repeat' apply And.intro) <;> first | rfl | omega | trivial)
  · rw [nextO_end hp]
    rw [List.drop_of_length_le (by omega),lc_nil] at hn
    simp only [aR,N0,N1,N2,N3,N4,N5,Z0,Z1,Z2,Z3,Z4,Z5,Z6,Z7,Z8,Z9,Z10,Zc,↓reduceIte,reduceCtorEq]
    omega
theorem call_rc {Γ:Env} (hf:Γ.get 115=some rcCon) {σ:AS} {dr:Bool} {l:List UInt8} {d:Option Nat} {K:AS→Prop} (h:l.length≤1099511627776)
    (hk:cont σ d (.v (.int .i64 (lc l))) K):kQ Tryz.prog Γ dr σ 115 [.v (sv l)] d K :=
  kP (C:=rcCon) (i:=⟨l,h⟩) hf rfl rfl rfl rfl (fun _ h=>h) rfl hk
abbrev outCon:Con where
  ι:=Ed
  args:=fun l=>[.sl 0 3 (qJ l.1)]
  post:=fun l r=>r = .v (.int .i64 (outL l.1))
  plain:=true
theorem out_good:Rw.Good Tryz.prog 145 outCon:=by
  have hΓ:kL Tryz.prog [(169,addCon),(115,rcCon)]:=(kJ add_good (kJ rc_good kK))
  refine k9 (nn:=29) hΓ Tryz.func145 (by kernel_rfl) rfl (show Tryz.f145.results.toList=[.tmp 2] from rfl) (fun _=>rfl) (fun _=>rfl) ?_
  rintro ⟨l,hl,htot,hc⟩
  simp only [aR,N0,N1,N2,N3,N4,N5,Z0,Z1,Z2,Z3,Z4,Z5,Z6,Z7,Z8,Z9,Z10,Zc,↓reduceIte,reduceCtorEq,kV]
  obtain ⟨St,hSt⟩:∃ St:{ p:Int×Nat // p.2≤l.length∧0≤p.1∧p.1≤1099511627776∧outL l=outF p.1 (l.drop p.2) }→AS,∀ p,St p=AS.of 29 [(2,.v (.int .i64 p.1.1)),(5,.sl 0 3 (qJ l)),(6,.v (.int .i64 l.length)),(7,.v (.int .i64 p.1.2))] [] []:=⟨_,fun _=>rfl⟩
  refine zZ hΓ St (fun p=>l.length - p.1.2) ⟨(0,0),by omega,by omega,by omega,rfl⟩ (by rw [hSt]; refine kW [] [] ?_; simp only [aR,N0,N1,N2,N3,N4,N5,Z0,Z1,Z2,Z3,Z4,Z5,Z6,Z7,Z8,Z9,Z10,Zc,↓reduceIte,reduceCtorEq] <;> ((repeat' apply And.intro) <;> first | rfl | omega | trivial)) ?_
  rintro ⟨⟨n,i⟩,hi,hn1,hn2,hb⟩
  simp only at hi hn1 hn2 hb
  rw [hSt]
  simp only
  simp only [aR,N0,N1,N2,N3,N4,N5,Z0,Z1,Z2,Z3,Z4,Z5,Z6,Z7,Z8,Z9,Z10,Zc,↓reduceIte,reduceCtorEq]
  (with_reducible first | refine kF (fun h=>?_) (fun h=>?_) | refine kH (fun h=>?_) (fun h=>?_))
  · have hlt:i < l.length:=by omega
    have hci:=And.intro (hc l[i] (List.getElem_mem hlt)) (okL.text ⟨hl,htot,hc⟩ (List.getElem_mem hlt))
    have e1:=zT l hlt
    rw [List.drop_eq_getElem_cons hlt] at hb
    simp only [outF] at hb
    generalize l[i]=c at *
    obtain ⟨k,m,t⟩:=c
    simp only at hci hb e1
    have hl1:k=1→outL l=outF (addI n (max m 0)) (l.drop (i+1)):=fun h=>by rw [hb,if_pos h]
    have hl2:¬ k=1→k=2→outL l=outF (addI n (lc t)) (l.drop (i+1)):=fun h h2=>by rw [hb,if_neg h,if_pos h2]
    have hl3:¬ k=1→¬ k=2→outL l=outF n (l.drop (i+1)):=fun h h2=>by rw [hb,if_neg h,if_neg h2]
    have hr:=zF hn1 (show 0≤max m 0 by omega)
    have hr2:=zF hn1 (show 0≤(lc t:Int) by omega)
    have hlt2:=lc_len t
    simp (disch:=omega) only [aR,N0,N1,N2,N3,N4,N5,Z0,Z1,Z2,Z3,Z4,Z5,Z6,Z7,Z8,Z9,Z10,Zc,↓reduceIte,reduceCtorEq,kD,h,e1,kV]
    (repeat (with_reducible refine And.intro ?_ ?_; focus (first | omega | exact kE | kernel_rfl)))
    (try ((with_reducible first | refine kF (fun q1=>?_) (fun q1=>?_) | refine kH (fun q1=>?_) (fun q1=>?_)) <;> simp (disch:=omega) only [aR,N0,N1,N2,N3,N4,N5,Z0,Z1,Z2,Z3,Z4,Z5,Z6,Z7,Z8,Z9,Z10,Zc,↓reduceIte,reduceCtorEq,kD,q1,jX] <;> (with_reducible first | (refine And.intro ?_ ?_; focus (first | omega | exact kE | kernel_rfl)); (repeat (with_reducible refine And.intro ?_ ?_; focus (first | omega | exact kE | kernel_rfl))); (try simp (disch:=omega) only [aR,N0,N1,N2,N3,N4,N5,Z0,Z1,Z2,Z3,Z4,Z5,Z6,Z7,Z8,Z9,Z10,Zc,↓reduceIte,reduceCtorEq,kD,q1,jX]) | skip) <;> (try ((with_reducible first | refine kF (fun q2=>?_) (fun q2=>?_) | refine kH (fun q2=>?_) (fun q2=>?_)) <;> simp (disch:=omega) only [aR,N0,N1,N2,N3,N4,N5,Z0,Z1,Z2,Z3,Z4,Z5,Z6,Z7,Z8,Z9,Z10,Zc,↓reduceIte,reduceCtorEq,kD,q2,jX] <;> (with_reducible first | (refine And.intro ?_ ?_; focus (first | omega | exact kE | kernel_rfl)); (repeat (with_reducible refine And.intro ?_ ?_; focus (first | omega | exact kE | kernel_rfl))); (try simp (disch:=omega) only [aR,N0,N1,N2,N3,N4,N5,Z0,Z1,Z2,Z3,Z4,Z5,Z6,Z7,Z8,Z9,Z10,Zc,↓reduceIte,reduceCtorEq,kD,q2,jX]) | skip) <;> skip))))
    all_goals first
      | (refine call_add (by simp [kG]) ⟨hn1,hn2⟩ (by omega) ?_
         simp (disch:=omega) only [aR,N0,N1,N2,N3,N4,N5,Z0,Z1,Z2,Z3,Z4,Z5,Z6,Z7,Z8,Z9,Z10,Zc,↓reduceIte,reduceCtorEq,kD]
         refine kT ⟨(addI n (max m 0),i+1),by omega,hr.1,hr.2,hl1 (by omega)⟩ (by simp only; omega) ?_
         rw [hSt]; refine kW [] [] ?_
         simp only [aR,N0,N1,N2,N3,N4,N5,Z0,Z1,Z2,Z3,Z4,Z5,Z6,Z7,Z8,Z9,Z10,Zc,↓reduceIte,reduceCtorEq] <;> ((repeat' apply And.intro) <;> first | rfl | omega | trivial))
      | (refine call_rc (by simp [kG]) hci.2 ?_
         simp (disch:=omega) only [aR,N0,N1,N2,N3,N4,N5,Z0,Z1,Z2,Z3,Z4,Z5,Z6,Z7,Z8,Z9,Z10,Zc,↓reduceIte,reduceCtorEq,kD]
         refine call_add (by simp [kG]) ⟨hn1,hn2⟩ (by omega) ?_
         simp (disch:=omega) only [aR,N0,N1,N2,N3,N4,N5,Z0,Z1,Z2,Z3,Z4,Z5,Z6,Z7,Z8,Z9,Z10,Zc,↓reduceIte,reduceCtorEq,kD]
         refine kT ⟨(addI n (lc t),i+1),by omega,hr2.1,hr2.2,hl2 (by omega) (by omega)⟩ (by simp only; omega) ?_
         rw [hSt]; refine kW [] [] ?_
         simp only [aR,N0,N1,N2,N3,N4,N5,Z0,Z1,Z2,Z3,Z4,Z5,Z6,Z7,Z8,Z9,Z10,Zc,↓reduceIte,reduceCtorEq] <;> ((repeat' apply And.intro) <;> first | rfl | omega | trivial))
      | (refine kT ⟨(n,i+1),by omega,hn1,hn2,hl3 (by omega) (by omega)⟩ (by simp only; omega) ?_
         rw [hSt]; refine kW [] [] ?_
         simp only [aR,N0,N1,N2,N3,N4,N5,Z0,Z1,Z2,Z3,Z4,Z5,Z6,Z7,Z8,Z9,Z10,Zc,↓reduceIte,reduceCtorEq] <;> ((repeat' apply And.intro) <;> first | rfl | omega | trivial))
      | trace_state
  · simp only [aR,N0,N1,N2,N3,N4,N5,Z0,Z1,Z2,Z3,Z4,Z5,Z6,Z7,Z8,Z9,Z10,Zc,↓reduceIte,reduceCtorEq,h]
    rw [List.drop_of_length_le (by omega)] at hb
    rw [hb]; rfl
theorem call_out {Γ:Env} (hf:Γ.get 145=some outCon) {σ:AS} {dr:Bool} {l:List Cp} {t:Nat} {ys:List AV} {d:Option Nat} {K:AS→Prop} (hy:ys=qJ l) (h:okL l)
    (hk:cont σ d (.v (.int .i64 (outL l))) K):kQ Tryz.prog Γ dr σ 145 [.sl t 3 ys] d K:=by
  subst hy
  exact kP (C:=outCon) (i:=⟨l,h⟩) hf rfl rfl rfl rfl (fun _ h=>h) rfl hk
abbrev partCon (F:Cp→Bool):Con where
  ι:={ c:Cp // c.t.length≤1099511627776 }
  args:=fun c=>[cA c.1]
  post:=fun c r=>r = .v (.bool (F c.1))
  plain:=true
theorem sound_good:Rw.Good Tryz.prog 168 (partCon jP):=by
  have hΓ:kL Tryz.prog [(120,kCV)]:=(kJ kEj kK)
  refine k9 (nn:=31) hΓ Tryz.func168 (by kernel_rfl) rfl (show Tryz.f168.results.toList=[.tmp 2] from rfl) (fun _=>rfl) (fun _=>rfl) ?_
  rintro ⟨⟨k,n,t⟩,ht⟩
  simp only at ht
  simp only [aR,N0,N1,N2,N3,N4,N5,Z0,Z1,Z2,Z3,Z4,Z5,Z6,Z7,Z8,Z9,Z10,Zc,↓reduceIte,reduceCtorEq,cA,jP]
  (try ((with_reducible first | refine kF (fun q1=>?_) (fun q1=>?_) | refine kH (fun q1=>?_) (fun q1=>?_)) <;> simp (disch:=omega) only [aR,N0,N1,N2,N3,N4,N5,Z0,Z1,Z2,Z3,Z4,Z5,Z6,Z7,Z8,Z9,Z10,Zc,↓reduceIte,reduceCtorEq,kD,q1] <;> (with_reducible first | (refine And.intro ?_ ?_; focus (first | omega | exact kE | kernel_rfl)); (repeat (with_reducible refine And.intro ?_ ?_; focus (first | omega | exact kE | kernel_rfl))); (try simp (disch:=omega) only [aR,N0,N1,N2,N3,N4,N5,Z0,Z1,Z2,Z3,Z4,Z5,Z6,Z7,Z8,Z9,Z10,Zc,↓reduceIte,reduceCtorEq,kD,q1]) | skip) <;> (try ((with_reducible first | refine kF (fun q2=>?_) (fun q2=>?_) | refine kH (fun q2=>?_) (fun q2=>?_)) <;> simp (disch:=omega) only [aR,N0,N1,N2,N3,N4,N5,Z0,Z1,Z2,Z3,Z4,Z5,Z6,Z7,Z8,Z9,Z10,Zc,↓reduceIte,reduceCtorEq,kD,q2] <;> (with_reducible first | (refine And.intro ?_ ?_; focus (first | omega | exact kE | kernel_rfl)); (repeat (with_reducible refine And.intro ?_ ?_; focus (first | omega | exact kE | kernel_rfl))); (try simp (disch:=omega) only [aR,N0,N1,N2,N3,N4,N5,Z0,Z1,Z2,Z3,Z4,Z5,Z6,Z7,Z8,Z9,Z10,Zc,↓reduceIte,reduceCtorEq,kD,q2]) | skip) <;> (try ((with_reducible first | refine kF (fun q3=>?_) (fun q3=>?_) | refine kH (fun q3=>?_) (fun q3=>?_)) <;> simp (disch:=omega) only [aR,N0,N1,N2,N3,N4,N5,Z0,Z1,Z2,Z3,Z4,Z5,Z6,Z7,Z8,Z9,Z10,Zc,↓reduceIte,reduceCtorEq,kD,q3] <;> (with_reducible first | (refine And.intro ?_ ?_; focus (first | omega | exact kE | kernel_rfl)); (repeat (with_reducible refine And.intro ?_ ?_; focus (first | omega | exact kE | kernel_rfl))); (try simp (disch:=omega) only [aR,N0,N1,N2,N3,N4,N5,Z0,Z1,Z2,Z3,Z4,Z5,Z6,Z7,Z8,Z9,Z10,Zc,↓reduceIte,reduceCtorEq,kD,q3]) | skip) <;> (try ((with_reducible first | refine kF (fun q4=>?_) (fun q4=>?_) | refine kH (fun q4=>?_) (fun q4=>?_)) <;> simp (disch:=omega) only [aR,N0,N1,N2,N3,N4,N5,Z0,Z1,Z2,Z3,Z4,Z5,Z6,Z7,Z8,Z9,Z10,Zc,↓reduceIte,reduceCtorEq,kD,q4] <;> (with_reducible first | (refine And.intro ?_ ?_; focus (first | omega | exact kE | kernel_rfl)); (repeat (with_reducible refine And.intro ?_ ?_; focus (first | omega | exact kE | kernel_rfl))); (try simp (disch:=omega) only [aR,N0,N1,N2,N3,N4,N5,Z0,Z1,Z2,Z3,Z4,Z5,Z6,Z7,Z8,Z9,Z10,Zc,↓reduceIte,reduceCtorEq,kD,q4]) | skip) <;> skip))))))))
  all_goals first
    | done
    | (refine kEw (by simp [kG]) ht ?_
       simp only [aR,N0,N1,N2,N3,N4,N5,Z0,Z1,Z2,Z3,Z4,Z5,Z6,Z7,Z8,Z9,Z10,Zc,↓reduceIte,reduceCtorEq] <;> simp [*])
    | (simp [*]; done)
    | trace_state
theorem call_sound {Γ:Env} (hf:Γ.get 168=some (partCon jP)) {σ:AS} {dr:Bool} {c:Cp} {d:Option Nat} {K:AS→Prop} (h:c.t.length≤1099511627776)
    (hk:cont σ d (.v (.bool (jP c))) K):kQ Tryz.prog Γ dr σ 168 [.agg [.v (.int .i64 c.k),.v (.int .i64 c.n),.v (sv c.t)]] d K :=
  kP (C:=partCon jP) (i:=⟨c,h⟩) hf rfl rfl rfl rfl (fun _ h=>h) rfl hk
end Go.Proofs
end
-- EUe1
section
namespace Go.Proofs
open Go Go.Rw
set_option maxRecDepth 100000
structure On where
  id:Int
  ops:List Cp
  ed:Bool
  rm:Bool
  cr:Bool
  mv:Bool
  par:Int
  nm:List UInt8
  deriving Inhabited,DecidableEq
structure Ac where
  k:Int
  id:Int
  par:Int
  nm:List UInt8
  dir:Bool
  ops:List Cp
  deriving Inhabited,DecidableEq
def oA (x:On):AV:=.agg [.v (.int .i64 x.id),.sl 0 3 (qJ x.ops),.v (.bool x.ed),.v (.bool x.rm),.v (.bool x.cr),.v (.bool x.mv),.v (.int .i64 x.par),.v (sv x.nm)]
def aA (x:Ac):AV:=.agg [.v (.int .i64 x.k),.v (.int .i64 x.id),.v (.int .i64 x.par),.v (sv x.nm),.v (.bool x.dir),.sl 0 3 (qJ x.ops)]
def ones (l:List On):List AV:=l.map oA
def acts (l:List Ac):List AV:=l.map aA
theorem qL (l:List Ac):(acts l).length=l.length:=by simp [acts]
theorem kCB (l:List Ac) {i:Nat} (h:i < l.length):(acts l).getD i .any=aA l[i]:=by simp [acts,List.getD_eq_getElem?_getD,h]
theorem aA_er (x:Ac):(aA x).er=aA x:=by simp [aA,AV.er,AV.erL,comps_er]
theorem kCp:∀ l:List Ac,AV.erL (acts l)=acts l
  | []=>rfl
  | x::l=>by show (aA x).er::AV.erL (acts l)=_; rw [aA_er,kCp l]; rfl
end Go.Proofs
end
-- EUe2
section
namespace Go.Proofs
open Go Go.Rw
open _root_.Nat renaming reduceAdd → N0, reduceSub → N1, reduceMul → N2, reduceLT → N3, reduceLeDiff → N4, reduceEqDiff → N5
open _root_.Int renaming reduceNeg → Z0, reduceAdd → Z1, reduceSub → Z2, reduceMul → Z3, reduceGT → Z4, reduceGE → Z5, reduceLT → Z6, reduceLE → Z7, reduceEq → Z8, reduceNe → Z9, reduceToNat → Z10, cast_ofNat_Int → Zc
set_option maxRecDepth 100000
abbrev kDU:Con where
  ι:=Ed
  args:=fun l=>[.sl 0 3 (qJ l.1)]
  post:=fun l r=>r = .sl 0 3 (qJ l.1)
theorem clone_good:Rw.Good Tryz.prog 90 kDU:=by
  have hΓ:kL Tryz.prog []:=kK
  refine k9 (nn:=8) hΓ Tryz.func90 (by kernel_rfl) rfl (show Tryz.f90.results.toList=[.tmp 2] from rfl) (fun _=>rfl) (fun _=>rfl) ?_
  rintro ⟨l,ol⟩
  have hl:=ol.1
  simp only [aR,N0,N1,N2,N3,N4,N5,Z0,Z1,Z2,Z3,Z4,Z5,Z6,Z7,Z8,Z9,Z10,Zc,↓reduceIte,reduceCtorEq,kV]
  refine ⟨fun h=>?_,fun _=>?_⟩
  · have he:l=[]:=by
      rcases h with h | h
      · cases h
      · cases l with
        | nil=>rfl
        | cons c l=>cases h
    subst he
    simp only [aR,N0,N1,N2,N3,N4,N5,Z0,Z1,Z2,Z3,Z4,Z5,Z6,Z7,Z8,Z9,Z10,Zc,↓reduceIte,reduceCtorEq,jJ]
  · simp only [aR,N0,N1,N2,N3,N4,N5,Z0,Z1,Z2,Z3,Z4,Z5,Z6,Z7,Z8,Z9,Z10,Zc,↓reduceIte,reduceCtorEq,kV,List.length_nil]
    try (repeat (with_reducible refine And.intro ?_ ?_; focus (first | omega | exact kE | kernel_rfl)))
    ((repeat' apply And.intro) <;> first | rfl | omega | trivial)
theorem call_clone {Γ:Env} (hf:Γ.get 90=some kDU) {σ:AS} {dr:Bool} {a:List Cp} {ys:List AV} {d:Option Nat} {K:AS→Prop} (hy:ys=qJ a) (oa:okL a)
    (hk:cont σ d (.sl 0 3 (qJ a)) K):kQ Tryz.prog Γ dr σ 90 [.sl 0 3 ys] d K:=by
  subst hy
  exact kCA (C:=kDU) (i:=⟨a,oa⟩) (r:=.sl 0 3 (qJ a)) hf rfl rfl rfl rfl (fun _ h=>h) hk
end Go.Proofs
end
-- EUe2b
section
namespace Go.Proofs
open Go Go.Rw
set_option maxRecDepth 100000
end Go.Proofs
end
-- EUo2
section
namespace Go.Proofs
open Go Go.Rw
open _root_.Nat renaming reduceAdd → N0, reduceSub → N1, reduceMul → N2, reduceLT → N3, reduceLeDiff → N4, reduceEqDiff → N5
open _root_.Int renaming reduceNeg → Z0, reduceAdd → Z1, reduceSub → Z2, reduceMul → Z3, reduceGT → Z4, reduceGE → Z5, reduceLT → Z6, reduceLE → Z7, reduceEq → Z8, reduceNe → Z9, reduceToNat → Z10, cast_ofNat_Int → Zc
set_option maxRecDepth 100000
abbrev soundCon:Con:=partCon jP
def ahead (l:List Cp) (i:Nat):Option Cp:=if i=0 then none else l[i - 1]?
abbrev kC9:Con where
  ι:=Ed
  args:=fun l=>[.sl 0 3 (qJ l.1)]
  post:=fun l r=>r = .v (.bool (zD l.1))
  plain:=true
theorem normal_good:Rw.Good Tryz.prog 143 kC9:=by
  have hΓ:kL Tryz.prog [(168,soundCon)]:=(kJ sound_good kK)
  refine k9 (nn:=45) hΓ Tryz.func143 (by kernel_rfl) rfl (show Tryz.f143.results.toList=[.tmp 2] from rfl) (fun _=>rfl) (fun _=>rfl) ?_
  rintro ⟨l,hl,htot,hc⟩
  simp only [aR,N0,N1,N2,N3,N4,N5,Z0,Z1,Z2,Z3,Z4,Z5,Z6,Z7,Z8,Z9,Z10,Zc,↓reduceIte,reduceCtorEq,kV]
  obtain ⟨St,hSt⟩:∃ St:{ i:Nat // i≤l.length∧zD l=j5 (ahead l i) (l.drop i) }→AS,∀ i,St i=AS.of 45 [(0,.sl 0 3 (qJ l)),(5,.sl 0 3 (qJ l)),(6,.v (.int .i64 l.length)),(7,.v (.int .i64 i.1))] [] []:=⟨_,fun _=>rfl⟩
  refine zZ hΓ St (fun i=>l.length - i.1) ⟨0,by omega,rfl⟩ (by rw [hSt]; refine kW [] [] ?_; simp only [aR,N0,N1,N2,N3,N4,N5,Z0,Z1,Z2,Z3,Z4,Z5,Z6,Z7,Z8,Z9,Z10,Zc,↓reduceIte,reduceCtorEq] <;> ((repeat' apply And.intro) <;> first | rfl | omega | trivial)) ?_
  rintro ⟨i,hi,hb⟩
  rw [hSt]
  simp only
  simp only [aR,N0,N1,N2,N3,N4,N5,Z0,Z1,Z2,Z3,Z4,Z5,Z6,Z7,Z8,Z9,Z10,Zc,↓reduceIte,reduceCtorEq]
  (with_reducible first | refine kF (fun h=>?_) (fun h=>?_) | refine kH (fun h=>?_) (fun h=>?_))
  · have hlt:i < l.length:=by omega
    have hci:=okL.text ⟨hl,htot,hc⟩ (List.getElem_mem hlt)
    have e1:=zT l hlt
    rw [List.drop_eq_getElem_cons hlt] at hb
    simp only [j5] at hb
    have hne:ahead l (i+1)=some l[i]:=by simp [ahead,hlt]
    rw [← hne] at hb
    simp (disch:=omega) only [aR,N0,N1,N2,N3,N4,N5,Z0,Z1,Z2,Z3,Z4,Z5,Z6,Z7,Z8,Z9,Z10,Zc,↓reduceIte,reduceCtorEq,kD,h,e1,kV]
    (repeat (with_reducible refine And.intro ?_ ?_; focus (first | omega | exact kE | kernel_rfl)))
    refine call_sound (by simp [kG]) hci ?_
    have again:∀ σ:AS,Weak σ (AS.of 45 [(0,.sl 0 3 (qJ l)),(5,.sl 0 3 (qJ l)),(6,.v (.int .i64 l.length)),(7,.v (.int .i64 (i+1:Nat)))] [] [])→zD l=j5 (ahead l (i+1)) (l.drop (i+1))→∀ (x:{ i:Nat // i≤l.length∧zD l=j5 (ahead l i) (l.drop i) }),x.1=i→kDi St (fun i=>l.length - i.1) x σ:=fun σ hw hb2 x hx =>
      kT ⟨i+1,by omega,hb2⟩ (by simp only; omega) (by rw [hSt]; exact hw)
    cases hs:jP l[i] with
    | false =>
      simp only [aR,N0,N1,N2,N3,N4,N5,Z0,Z1,Z2,Z3,Z4,Z5,Z6,Z7,Z8,Z9,Z10,Zc,↓reduceIte,reduceCtorEq,hs]
      rw [hb,hs]; rfl
    | true =>
      rw [hs,Bool.true_and] at hb
      by_cases h0:i=0
      · subst h0
        simp only [aR,N0,N1,N2,N3,N4,N5,Z0,Z1,Z2,Z3,Z4,Z5,Z6,Z7,Z8,Z9,Z10,Zc,↓reduceIte,reduceCtorEq,hs]
        have hb3:zD l=j5 (ahead l (0+1)) (l.drop (0+1)):=by
          rw [hb]; rfl
        refine again _ ?_ hb3 _ rfl
        refine kW [] [] ?_
        simp only [aR,N0,N1,N2,N3,N4,N5,Z0,Z1,Z2,Z3,Z4,Z5,Z6,Z7,Z8,Z9,Z10,Zc,↓reduceIte,reduceCtorEq] <;> ((repeat' apply And.intro) <;> first | rfl | omega | trivial)
      · have hp:ahead l i=some l[i - 1]:=by simp [ahead,h0]
        have e2:(qJ l).getD (i - 1) .any = .agg [.v (.int .i64 l[i - 1].k),.v (.int .i64 l[i - 1].n),.v (sv l[i - 1].t)]:=zT l (by omega)
        have e3:((i:Int) - 1).toNat=i - 1:=by omega
        rw [hp] at hb
        simp only at hb
        simp (disch:=omega) only [aR,N0,N1,N2,N3,N4,N5,Z0,Z1,Z2,Z3,Z4,Z5,Z6,Z7,Z8,Z9,Z10,Zc,↓reduceIte,reduceCtorEq,kD,hs,show (i:Int) > 0 by omega,kV,e3,e2]
        (repeat (with_reducible refine And.intro ?_ ?_; focus (first | omega | exact kE | kernel_rfl)))
        have fol:follows l[i - 1] l[i]=true→zD l=j5 (ahead l (i+1)) (l.drop (i+1)):=fun h=>by rw [hb,h,Bool.true_and]
        have nof:follows l[i - 1] l[i]=false→zD l=false:=fun h=>by rw [hb,h,Bool.false_and]
        (try ((with_reducible first | refine kF (fun q1=>?_) (fun q1=>?_) | refine kH (fun q1=>?_) (fun q1=>?_)) <;> simp (disch:=omega) only [aR,N0,N1,N2,N3,N4,N5,Z0,Z1,Z2,Z3,Z4,Z5,Z6,Z7,Z8,Z9,Z10,Zc,↓reduceIte,reduceCtorEq,kD,q1,kV,e3,e2] <;> (with_reducible first | (refine And.intro ?_ ?_; focus (first | omega | exact kE | kernel_rfl)); (repeat (with_reducible refine And.intro ?_ ?_; focus (first | omega | exact kE | kernel_rfl))); (try simp (disch:=omega) only [aR,N0,N1,N2,N3,N4,N5,Z0,Z1,Z2,Z3,Z4,Z5,Z6,Z7,Z8,Z9,Z10,Zc,↓reduceIte,reduceCtorEq,kD,q1,kV,e3,e2]) | skip) <;> (try ((with_reducible first | refine kF (fun q2=>?_) (fun q2=>?_) | refine kH (fun q2=>?_) (fun q2=>?_)) <;> simp (disch:=omega) only [aR,N0,N1,N2,N3,N4,N5,Z0,Z1,Z2,Z3,Z4,Z5,Z6,Z7,Z8,Z9,Z10,Zc,↓reduceIte,reduceCtorEq,kD,q2,kV,e3,e2] <;> (with_reducible first | (refine And.intro ?_ ?_; focus (first | omega | exact kE | kernel_rfl)); (repeat (with_reducible refine And.intro ?_ ?_; focus (first | omega | exact kE | kernel_rfl))); (try simp (disch:=omega) only [aR,N0,N1,N2,N3,N4,N5,Z0,Z1,Z2,Z3,Z4,Z5,Z6,Z7,Z8,Z9,Z10,Zc,↓reduceIte,reduceCtorEq,kD,q2,kV,e3,e2]) | skip) <;> (try ((with_reducible first | refine kF (fun q3=>?_) (fun q3=>?_) | refine kH (fun q3=>?_) (fun q3=>?_)) <;> simp (disch:=omega) only [aR,N0,N1,N2,N3,N4,N5,Z0,Z1,Z2,Z3,Z4,Z5,Z6,Z7,Z8,Z9,Z10,Zc,↓reduceIte,reduceCtorEq,kD,q3,kV,e3,e2] <;> (with_reducible first | (refine And.intro ?_ ?_; focus (first | omega | exact kE | kernel_rfl)); (repeat (with_reducible refine And.intro ?_ ?_; focus (first | omega | exact kE | kernel_rfl))); (try simp (disch:=omega) only [aR,N0,N1,N2,N3,N4,N5,Z0,Z1,Z2,Z3,Z4,Z5,Z6,Z7,Z8,Z9,Z10,Zc,↓reduceIte,reduceCtorEq,kD,q3,kV,e3,e2]) | skip) <;> (try ((with_reducible first | refine kF (fun q4=>?_) (fun q4=>?_) | refine kH (fun q4=>?_) (fun q4=>?_)) <;> simp (disch:=omega) only [aR,N0,N1,N2,N3,N4,N5,Z0,Z1,Z2,Z3,Z4,Z5,Z6,Z7,Z8,Z9,Z10,Zc,↓reduceIte,reduceCtorEq,kD,q4,kV,e3,e2] <;> (with_reducible first | (refine And.intro ?_ ?_; focus (first | omega | exact kE | kernel_rfl)); (repeat (with_reducible refine And.intro ?_ ?_; focus (first | omega | exact kE | kernel_rfl))); (try simp (disch:=omega) only [aR,N0,N1,N2,N3,N4,N5,Z0,Z1,Z2,Z3,Z4,Z5,Z6,Z7,Z8,Z9,Z10,Zc,↓reduceIte,reduceCtorEq,kD,q4,kV,e3,e2]) | skip) <;> skip))))))))
        all_goals first
          | (rw [nof (by simp [follows]; omega)])
          | (refine again _ ?_ (fol (by simp [follows]; omega)) _ rfl
             refine kW [] [] ?_
             simp only [aR,N0,N1,N2,N3,N4,N5,Z0,Z1,Z2,Z3,Z4,Z5,Z6,Z7,Z8,Z9,Z10,Zc,↓reduceIte,reduceCtorEq] <;> ((repeat' apply And.intro) <;> first | rfl | omega | trivial))
          | trace_state
  · simp only [aR,N0,N1,N2,N3,N4,N5,Z0,Z1,Z2,Z3,Z4,Z5,Z6,Z7,Z8,Z9,Z10,Zc,↓reduceIte,reduceCtorEq,h]
    rw [List.drop_of_length_le (by omega)] at hb
    rw [hb]; rfl
theorem call_normal {Γ:Env} (hf:Γ.get 143=some kC9) {σ:AS} {dr:Bool} {l:List Cp} {t:Nat} {ys:List AV} {d:Option Nat} {K:AS→Prop} (hy:ys=qJ l) (h:okL l)
    (hk:cont σ d (.v (.bool (zD l))) K):kQ Tryz.prog Γ dr σ 143 [.sl t 3 ys] d K:=by
  subst hy
  exact kP (C:=kC9) (i:=⟨l,h⟩) hf rfl rfl rfl rfl (fun _ h=>h) rfl hk
abbrev kC2:Con where
  ι:=Ed
  args:=fun l=>[.sl 0 3 (qJ l.1)]
  post:=fun l r=>r = .v (.int .i64 (zA l.1))
  plain:=true
theorem kEh:Rw.Good Tryz.prog 113 kC2:=by
  have hΓ:kL Tryz.prog [(143,kC9),(144,kDy),(145,outCon)]:=(kJ normal_good (kJ base_good (kJ out_good kK)))
  refine k9 (nn:=20) hΓ Tryz.func113 (by kernel_rfl) rfl (show Tryz.f113.results.toList=[.tmp 2] from rfl) (fun _=>rfl) (fun _=>rfl) ?_
  rintro ⟨l,hl⟩
  simp only [aR,N0,N1,N2,N3,N4,N5,Z0,Z1,Z2,Z3,Z4,Z5,Z6,Z7,Z8,Z9,Z10,Zc,↓reduceIte,reduceCtorEq,kV]
  have c1:100 < (l.length:Int)→zA l=3:=fun h=>by rw [zA,if_pos (by omega)]
  have c2:¬ 100 < (l.length:Int)→zD l=false→zA l=1:=fun h h2=>by rw [zA,if_neg (by omega),if_pos h2]
  have c3:¬ 100 < (l.length:Int)→zD l=true→(kBH l > 2000∨outL l > 2000)→zA l=3:=fun h h2 h3=>by rw [zA,if_neg (by omega),if_neg (by rw [h2]; decide),if_pos h3]
  have c4:¬ 100 < (l.length:Int)→zD l=true→¬ (kBH l > 2000∨outL l > 2000)→zA l=0:=fun h h2 h3=>by rw [zA,if_neg (by omega),if_neg (by rw [h2]; decide),if_neg h3]
  (with_reducible first | refine kF (fun h=>?_) (fun h=>?_) | refine kH (fun h=>?_) (fun h=>?_))
  · simp only [aR,N0,N1,N2,N3,N4,N5,Z0,Z1,Z2,Z3,Z4,Z5,Z6,Z7,Z8,Z9,Z10,Zc,↓reduceIte,reduceCtorEq,h,c1 (by omega)]
  · simp only [aR,N0,N1,N2,N3,N4,N5,Z0,Z1,Z2,Z3,Z4,Z5,Z6,Z7,Z8,Z9,Z10,Zc,↓reduceIte,reduceCtorEq,h]
    refine call_normal (by simp [kG]) rfl hl ?_
    cases hn:zD l with
    | false=>simp only [aR,N0,N1,N2,N3,N4,N5,Z0,Z1,Z2,Z3,Z4,Z5,Z6,Z7,Z8,Z9,Z10,Zc,↓reduceIte,reduceCtorEq,hn,c2 (by omega) hn]
    | true =>
      simp only [aR,N0,N1,N2,N3,N4,N5,Z0,Z1,Z2,Z3,Z4,Z5,Z6,Z7,Z8,Z9,Z10,Zc,↓reduceIte,reduceCtorEq,hn]
      refine call_base (by simp [kG]) rfl hl ?_
      simp only [aR,N0,N1,N2,N3,N4,N5,Z0,Z1,Z2,Z3,Z4,Z5,Z6,Z7,Z8,Z9,Z10,Zc,↓reduceIte,reduceCtorEq]
      (with_reducible first | refine kF (fun h1=>?_) (fun h1=>?_) | refine kH (fun h1=>?_) (fun h1=>?_))
      · simp only [aR,N0,N1,N2,N3,N4,N5,Z0,Z1,Z2,Z3,Z4,Z5,Z6,Z7,Z8,Z9,Z10,Zc,↓reduceIte,reduceCtorEq,h1,c3 (by omega) hn (.inl (by omega))]
      · simp only [aR,N0,N1,N2,N3,N4,N5,Z0,Z1,Z2,Z3,Z4,Z5,Z6,Z7,Z8,Z9,Z10,Zc,↓reduceIte,reduceCtorEq,h1]
        refine call_out (by simp [kG]) rfl hl ?_
        simp only [aR,N0,N1,N2,N3,N4,N5,Z0,Z1,Z2,Z3,Z4,Z5,Z6,Z7,Z8,Z9,Z10,Zc,↓reduceIte,reduceCtorEq]
        (with_reducible first | refine kF (fun h2=>?_) (fun h2=>?_) | refine kH (fun h2=>?_) (fun h2=>?_))
        · simp only [aR,N0,N1,N2,N3,N4,N5,Z0,Z1,Z2,Z3,Z4,Z5,Z6,Z7,Z8,Z9,Z10,Zc,↓reduceIte,reduceCtorEq,h2,c3 (by omega) hn (.inr (by omega))]
        · simp only [aR,N0,N1,N2,N3,N4,N5,Z0,Z1,Z2,Z3,Z4,Z5,Z6,Z7,Z8,Z9,Z10,Zc,↓reduceIte,reduceCtorEq,h2,c4 (by omega) hn (by omega)]
theorem kFG {Γ:Env} (hf:Γ.get 113=some kC2) {σ:AS} {dr:Bool} {l:List Cp} {t:Nat} {ys:List AV} {d:Option Nat} {K:AS→Prop} (hy:ys=qJ l) (h:okL l)
    (hk:cont σ d (.v (.int .i64 (zA l))) K):kQ Tryz.prog Γ dr σ 113 [.sl t 3 ys] d K:=by
  subst hy
  exact kP (C:=kC2) (i:=⟨l,h⟩) hf rfl rfl rfl rfl (fun _ h=>h) rfl hk
end Go.Proofs
end
-- EUo3
section
namespace Go.Proofs
open Go Go.Rw
set_option maxRecDepth 100000
end Go.Proofs
end
-- EUo4
section
namespace Go.Proofs
open Go Go.Rw
open _root_.Nat renaming reduceAdd → N0, reduceSub → N1, reduceMul → N2, reduceLT → N3, reduceLeDiff → N4, reduceEqDiff → N5
open _root_.Int renaming reduceNeg → Z0, reduceAdd → Z1, reduceSub → Z2, reduceMul → Z3, reduceGT → Z4, reduceGE → Z5, reduceLT → Z6, reduceLE → Z7, reduceEq → Z8, reduceNe → Z9, reduceToNat → Z10, cast_ofNat_Int → Zc
set_option maxRecDepth 100000
end Go.Proofs
end
-- EUo5
section
namespace Go.Proofs
open Go Go.Rw
open _root_.Nat renaming reduceAdd → N0, reduceSub → N1, reduceMul → N2, reduceLT → N3, reduceLeDiff → N4, reduceEqDiff → N5
open _root_.Int renaming reduceNeg → Z0, reduceAdd → Z1, reduceSub → Z2, reduceMul → Z3, reduceGT → Z4, reduceGE → Z5, reduceLT → Z6, reduceLE → Z7, reduceEq → Z8, reduceNe → Z9, reduceToNat → Z10, cast_ofNat_Int → Zc
set_option maxRecDepth 100000
section
variable {P:Program}
theorem kDG {t:TypeId} {cs:Array Value} {off:Nat} {v:Value} {td:TypeDesc} (ht:P.underlying t=some td) (ha:(match td with | .struct _ | .array _ _=>true | _=>false)=false) (hv:cs[off]? = some v):calm P (part t cs off)=some v:=by
  simp only [part,isAgg,underlying,kN,k5,Option.bind_some,ht,zB]
  cases td <;> first | (cases ha; done) | (simp [hv,kN])
theorem calm_eqI {d:Nat} {t:TypeId} {k k':IntKind} {a b:Int} (h:P.underlying t=some (.int k')):calm P (Op.equalIn (d+1) t (.int k a) (.int k b))=some (a == b):=by
  simp [Op.equalIn,kN,underlying,h]
theorem calm_eqS {d:Nat} {t:TypeId} {a b:List UInt8} (h:P.underlying t=some .string):calm P (Op.equalIn (d+1) t (.string ⟨a.toArray⟩) (.string ⟨b.toArray⟩))=some (a == b):=by
  simp [Op.equalIn,kN,underlying,h]
  show (a.toArray == b.toArray)=(a == b)
  simp
theorem calm_eq3 {d:Nat} {t ti ts:TypeId} {k:IntKind} {f1 f2 f3:Field} {a b a' b':Int} {s s':List UInt8} (ht:P.underlying t=some (.struct #[f1,f2,f3])) (hp:P.stoodInHeld t=false) (hi:P.underlying ti=some (.int k)) (hs:P.underlying ts=some .string)
    (h1 : f1.type = ti ∧ f1.offset = 0 ∧ f1.name ≠ "_") (h2 : f2.type = ti ∧ f2.offset = 1 ∧ f2.name ≠ "_") (h3 : f3.type = ts ∧ f3.offset = 2 ∧ f3.name ≠ "_") :
    calm P (Op.equalIn (d+2) t (.agg #[.int .i64 a,.int .i64 b,.string ⟨s.toArray⟩]) (.agg #[.int .i64 a',.int .i64 b',.string ⟨s'.toArray⟩]))=some (a == a' && b == b' && s == s'):=by
  obtain ⟨rfl,o1,n1⟩:=h1
  obtain ⟨e2,o2,n2⟩:=h2
  obtain ⟨rfl,o3,n3⟩:=h3
  have p0:∀ (a b:Int) (s:List UInt8),calm P (part f1.type #[.int .i64 a,.int .i64 b,.string ⟨s.toArray⟩] 0)=some (.int .i64 a):=fun a b s=>kDG hi rfl rfl
  have p1:∀ (a b:Int) (s:List UInt8),calm P (part f1.type #[.int .i64 a,.int .i64 b,.string ⟨s.toArray⟩] 1)=some (.int .i64 b):=fun a b s=>kDG hi rfl rfl
  have p2:∀ (a b:Int) (s:List UInt8),calm P (part f3.type #[.int .i64 a,.int .i64 b,.string ⟨s.toArray⟩] 2)=some (.string ⟨s.toArray⟩):=fun a b s=>kDG hs rfl rfl
  rw [Op.equalIn]
  simp only [kN,underlying,k5,Option.bind_some,ht,zB,hp,Bool.false_eq_true,if_false,← Array.forIn_toList,List.forIn_cons,List.forIn_nil,n1,n2,n3,o1,o2,o3,e2,p0,p1,p2,calm_eqI hi,calm_eqS hs,if_true,ne_eq,not_false_eq_true]
  by_cases c1:a=a' <;> by_cases c2:b=b' <;> by_cases c3:s=s' <;> simp [c1,c2,c3,kN,p0,p1,p2,calm_eqI hi,calm_eqS hs]
theorem bin_neq3 {t ti ts:TypeId} {x y:Operand} {k:IntKind} {f1 f2 f3:Field} {a b a' b':Int} {s s':List UInt8} (hg:P.eqGuardType P.depth t=false) (ht:P.underlying t=some (.struct #[f1,f2,f3])) (hp:P.stoodInHeld t=false) (hi:P.underlying ti=some (.int k)) (hs:P.underlying ts=some .string)
    (h1 : f1.type = ti ∧ f1.offset = 0 ∧ f1.name ≠ "_") (h2 : f2.type = ti ∧ f2.offset = 1 ∧ f2.name ≠ "_") (h3 : f3.type = ts ∧ f3.offset = 2 ∧ f3.name ≠ "_") :
    binA P .neq t x y (.agg [.v (.int .i64 a),.v (.int .i64 b),.v (sv s)]) (.agg [.v (.int .i64 a'),.v (.int .i64 b'),.v (sv s')])=some (.v (.bool (decide (¬ (a=a'∧b=b'∧s=s'))))):=by
  have e:Op.maxDepth=9998+2:=rfl
  have hq:=calm_eq3 (P:=P) (d:=9998) (a:=a) (b:=b) (a':=a') (b':=b') (s:=s) (s':=s') ht hp hi hs h1 h2 h3
  unfold binA
  rw [show binV P .neq t x y (.agg [.v (.int .i64 a),.v (.int .i64 b),.v (sv s)]) (.agg [.v (.int .i64 a'),.v (.int .i64 b'),.v (sv s')])=none from rfl]
  simp only [kAO,kAW,Option.map_some,Option.none_or,res,kN,eqGuard,sv,k5,Option.bind_some,hg]
  simp [kN,kCX,binOp,Op.equal,e,hq,hg]
  by_cases c1:a=a' <;> by_cases c2:b=b' <;> by_cases c3:s=s' <;> simp [c1,c2,c3]
def is3 (P:Program) (t ti ts:TypeId):Bool:=match P.underlying t with
  | some (.struct fs)=>match fs.toList with
    | [f1, f2, f3] => (f1.type == ti && (f1.offset == 0 && f1.name != "_")) && ((f2.type == ti && (f2.offset == 1 && f2.name != "_")) && (f3.type == ts && (f3.offset == 2 && f3.name != "_")))
    | _=>false
  | _=>false
theorem bin_neq4 {t ti ts:TypeId} {x y:Operand} {k:IntKind} {a b a' b':Int} {s s':List UInt8} (hg:P.eqGuardType P.depth t=false) (h3:is3 P t ti ts=true) (hp:P.stoodInHeld t=false) (hi:P.underlying ti=some (.int k)) (hs:P.underlying ts=some .string) :
    binA P .neq t x y (.agg [.v (.int .i64 a),.v (.int .i64 b),.v (sv s)]) (.agg [.v (.int .i64 a'),.v (.int .i64 b'),.v (sv s')])=some (.v (.bool (decide (¬ (a=a'∧b=b'∧s=s'))))):=by
  unfold is3 at h3
  split at h3
  · rename_i fs hf
    split at h3
    · rename_i f1 f2 f3 hl
      have:fs = #[f1,f2,f3]:=by rw [← hl]
      subst this
      simp only [Bool.and_eq_true,beq_iff_eq,bne_iff_ne] at h3
      exact bin_neq3 hg hf hp hi hs h3.1 h3.2.1 h3.2.2
    · cases h3
  · cases h3
end
theorem comp_neq {x y:Operand} {a b a' b':Int} {s s':List UInt8}:binA Tryz.prog .neq 60 x y (.agg [.v (.int .i64 a),.v (.int .i64 b),.v (sv s)]) (.agg [.v (.int .i64 a'),.v (.int .i64 b'),.v (sv s')])=some (.v (.bool (decide (¬ (a=a'∧b=b'∧s=s'))))) :=
  bin_neq4 (ti:=3) (ts:=9) (k:=.i64) (by kernel_rfl) (by kernel_rfl) (by kernel_rfl) (by kernel_rfl) (by kernel_rfl)
abbrev Cps:={ p:List Cp×List Cp // p.1.length≤4000000000000∧p.2.length≤4000000000000 }
abbrev sameCon:Con where
  ι:=Cps
  args:=fun p=>[.sl 0 3 (qJ p.1.1),.sl 0 3 (qJ p.1.2)]
  post:=fun p r=>r = .v (.bool (decide (p.1.1=p.1.2)))
  plain:=true
theorem call_same {Γ:Env} {f:Nat} (hf:Γ.get f=some sameCon) {σ:AS} {dr:Bool} {x y:List Cp} {s t:Nat} {xs ys:List AV} {d:Option Nat} {K:AS→Prop} (hx:xs=qJ x) (hy:ys=qJ y) (h1:x.length≤4000000000000) (h2:y.length≤4000000000000)
    (hk:cont σ d (.v (.bool (decide (x=y)))) K):kQ Tryz.prog Γ dr σ f [.sl s 3 xs,.sl t 3 ys] d K:=by
  subst hx; subst hy
  exact kP (C:=sameCon) (i:=⟨(x,y),h1,h2⟩) hf rfl rfl rfl rfl (fun _ h=>h) rfl hk
theorem drop_eq2 {x y:List Cp} {i:Nat} (h1:i < x.length) (h2:i < y.length):(x.drop i=y.drop i)↔((x[i].k=y[i].k∧x[i].n=y[i].n∧x[i].t=y[i].t)∧x.drop (i+1)=y.drop (i+1)):=by
  rw [List.drop_eq_getElem_cons h1,List.drop_eq_getElem_cons h2,List.cons.injEq]
  constructor
  · rintro ⟨h,h3⟩; exact ⟨by rw [h]; exact ⟨rfl,rfl,rfl⟩,h3⟩
  · rintro ⟨⟨a,b,c⟩,h3⟩
    refine ⟨?_,h3⟩
    generalize x[i]=u at *
    generalize y[i]=v at *
    cases u; cases v
    simp only at a b c
    subst a; subst b; subst c; rfl
theorem sequal_good:Rw.Good Tryz.prog 118 sameCon:=by
  have hΓ:kL Tryz.prog []:=kK
  refine k9 (nn:=26) hΓ Tryz.func118 (by kernel_rfl) rfl (show Tryz.f118.results.toList=[.tmp 4] from rfl) (fun _=>rfl) (fun _=>rfl) ?_
  rintro ⟨⟨x,y⟩,hx,hy⟩
  simp only at hx hy
  simp only [aR,N0,N1,N2,N3,N4,N5,Z0,Z1,Z2,Z3,Z4,Z5,Z6,Z7,Z8,Z9,Z10,Zc,↓reduceIte,reduceCtorEq,kV]
  (with_reducible first | refine kF (fun h=>?_) (fun h=>?_) | refine kH (fun h=>?_) (fun h=>?_))
  · simp only [aR,N0,N1,N2,N3,N4,N5,Z0,Z1,Z2,Z3,Z4,Z5,Z6,Z7,Z8,Z9,Z10,Zc,↓reduceIte,reduceCtorEq,h]
    have:¬ x=y:=fun e=>h (by rw [e])
    simp [this]
  · simp only [aR,N0,N1,N2,N3,N4,N5,Z0,Z1,Z2,Z3,Z4,Z5,Z6,Z7,Z8,Z9,Z10,Zc,↓reduceIte,reduceCtorEq,h]
    have hxy:x.length=y.length:=by omega
    obtain ⟨St,hSt⟩:∃ St:{ i:Nat // i≤x.length∧(x=y↔x.drop i=y.drop i) }→AS,∀ i,St i=AS.of 26 [(0,.sl 0 3 (qJ x)),(1,.sl 0 3 (qJ y)),(12,.v (.int .i64 x.length)),(13,.v (.int .i64 i.1))] [] []:=⟨_,fun _=>rfl⟩
    refine zZ hΓ St (fun i=>x.length - i.1) ⟨0,by omega,Iff.rfl⟩ (by rw [hSt]; refine kW [] [] ?_; simp only [aR,N0,N1,N2,N3,N4,N5,Z0,Z1,Z2,Z3,Z4,Z5,Z6,Z7,Z8,Z9,Z10,Zc,↓reduceIte,reduceCtorEq,kV] <;> ((repeat' apply And.intro) <;> first | rfl | omega | trivial)) ?_
    rintro ⟨i,hi,hb⟩
    rw [hSt]
    simp only
    simp only [aR,N0,N1,N2,N3,N4,N5,Z0,Z1,Z2,Z3,Z4,Z5,Z6,Z7,Z8,Z9,Z10,Zc,↓reduceIte,reduceCtorEq,kV]
    (with_reducible first | refine kF (fun h2=>?_) (fun h2=>?_) | refine kH (fun h2=>?_) (fun h2=>?_))
    · have h3:i < x.length:=by omega
      have h4:i < y.length:=by omega
      have e1:=zT x h3
      have e2:=zT y h4
      rw [drop_eq2 h3 h4] at hb
      have again:∀ σ:AS,Weak σ (AS.of 26 [(0,.sl 0 3 (qJ x)),(1,.sl 0 3 (qJ y)),(12,.v (.int .i64 x.length)),(13,.v (.int .i64 (i+1:Nat)))] [] [])→(x[i].k=y[i].k∧x[i].n=y[i].n∧x[i].t=y[i].t)→∀ (z:{ i:Nat // i≤x.length∧(x=y↔x.drop i=y.drop i) }),z.1=i→kDi St (fun i=>x.length - i.1) z σ:=fun σ hw h z hz =>
        kT ⟨i+1,by omega,by rw [hb]; exact ⟨fun a=>a.2,fun a=>⟨h,a⟩⟩⟩ (by simp only; omega) (by rw [hSt]; exact hw)
      have no:¬ (x[i].k=y[i].k∧x[i].n=y[i].n∧x[i].t=y[i].t)→decide (x=y)=false:=fun h=>by rw [decide_eq_false_iff_not,hb]; exact fun a=>h a.1
      generalize x[i]=u at *
      generalize y[i]=v at *
      obtain ⟨k,n,t⟩:=u
      obtain ⟨k',n',t'⟩:=v
      simp only at no again e1 e2
      simp (disch:=omega) only [aR,N0,N1,N2,N3,N4,N5,Z0,Z1,Z2,Z3,Z4,Z5,Z6,Z7,Z8,Z9,Z10,Zc,↓reduceIte,reduceCtorEq,kD,h2,kV,e1,e2,comp_neq]
      (repeat (with_reducible refine And.intro ?_ ?_; focus (first | omega | exact kE | kernel_rfl)))
      (with_reducible first | refine kF (fun q1=>?_) (fun q1=>?_) | refine kH (fun q1=>?_) (fun q1=>?_))
      · simp (disch:=omega) only [aR,N0,N1,N2,N3,N4,N5,Z0,Z1,Z2,Z3,Z4,Z5,Z6,Z7,Z8,Z9,Z10,Zc,↓reduceIte,reduceCtorEq,kD,q1]
        rw [no q1]
      · simp (disch:=omega) only [aR,N0,N1,N2,N3,N4,N5,Z0,Z1,Z2,Z3,Z4,Z5,Z6,Z7,Z8,Z9,Z10,Zc,↓reduceIte,reduceCtorEq,kD,q1]
        refine again _ ?_ (Decidable.not_not.1 q1) _ rfl
        refine kW [] [] ?_
        simp only [aR,N0,N1,N2,N3,N4,N5,Z0,Z1,Z2,Z3,Z4,Z5,Z6,Z7,Z8,Z9,Z10,Zc,↓reduceIte,reduceCtorEq] <;> ((repeat' apply And.intro) <;> first | rfl | omega | trivial)
    · simp only [aR,N0,N1,N2,N3,N4,N5,Z0,Z1,Z2,Z3,Z4,Z5,Z6,Z7,Z8,Z9,Z10,Zc,↓reduceIte,reduceCtorEq,h2]
      rw [List.drop_of_length_le (by omega),List.drop_of_length_le (by omega)] at hb
      rw [decide_eq_true (hb.2 rfl)]
end Go.Proofs
end
