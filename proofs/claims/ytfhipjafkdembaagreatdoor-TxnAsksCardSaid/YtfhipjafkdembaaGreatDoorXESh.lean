/-
  Library functions' bodies at this dump,compared by the kernel. utf.Valid tells just whether bytes are a text. utf.Count counts a text's code points. utf.Points,utf.Offset,utf.Slice. The reference's code points. The reference's texts; numbers turned into bounds; rows of numbers held against each other. The reference's offsets and pieces. What the document fixes of texts.
-/
import Derived.Shelf.Strings.Search1
import Derived.Shelf.Unicode.ValidAny
import Derived.Shelf.Small.Utf8
import Derived.Test.YtfhipjafkdembaaGreatDoorProg
import Derived.Test.YtfhipjafkdembaaGreatDoorXETi
import Derived.Test.YtfhipjafkdembaaGreatDoorRwF
set_option linter.unusedSimpArgs false
set_option linter.unusedVariables false
set_option linter.defProp false
set_option linter.unusedSectionVars false

-- ESh
section
namespace Go.Proofs
open Go.Shelf
def Tryz.lays196_ren:Go.Shelf.Ren:=⟨fun | 196=>147 | 259=>170 | n=>n,fun | 0=>0 | 3=>3 | 4=>4 | 5=>5 | 9=>9 | 12=>12 | 46=>143 | 53=>169 | 119=>192 | 138=>194 | 139=>195 | n=>n,fun | 3=>0 | 4=>1 | n=>n⟩
theorem Tryz.lays196:Go.Proofs.Lays.n196 Tryz.prog Tryz.lays196_ren:={
  mixed:=by kernel_rfl
  f196:=Tryz.func147.trans (congrArg some (by kernel_rfl))
  f259:=Tryz.func170.trans (congrArg some (by kernel_rfl))
  t0:=Tryz.underlying0
  a0:=Tryz.isAgg0
  z0:=Tryz.sizeOf0
  v0:=Tryz.zeroValue0
  t3:=Tryz.underlying3
  a3:=Tryz.isAgg3
  z3:=Tryz.sizeOf3
  v3:=Tryz.zeroValue3
  t4:=Tryz.underlying4
  a4:=Tryz.isAgg4
  z4:=Tryz.sizeOf4
  v4:=Tryz.zeroValue4
  t5:=Tryz.underlying5
  a5:=Tryz.isAgg5
  z5:=Tryz.sizeOf5
  v5:=Tryz.zeroValue5
  t9:=Tryz.underlying9
  a9:=Tryz.isAgg9
  z9:=Tryz.sizeOf9
  v9:=Tryz.zeroValue9
  t12:=Tryz.underlying12
  a12:=Tryz.isAgg12
  z12:=Tryz.sizeOf12
  v12:=Tryz.zeroValue12
  t46:=Tryz.underlying143
  a46:=Tryz.isAgg143
  z46:=Tryz.sizeOf143
  v46:=Tryz.zeroValue143
  t53:=Tryz.underlying169
  a53:=Tryz.isAgg169
  z53:=Tryz.sizeOf169
  v53:=Tryz.zeroValue169
  t119:=Tryz.underlying192
  a119:=Tryz.isAgg192
  z119:=Tryz.sizeOf192
  t138:=Tryz.underlying194
  a138:=Tryz.isAgg194
  z138:=Tryz.sizeOf194
  v138:=Tryz.zeroValue194
  t139:=Tryz.underlying195
  a139:=Tryz.isAgg195
  z139:=Tryz.sizeOf195
  v139:=Tryz.zeroValue195
  g3:=by kernel_rfl
  g4:=by kernel_rfl
}
def Tryz.lays217_ren:Go.Shelf.Ren:=⟨fun | 217=>176 | 266=>182 | n=>n,fun | 3=>3 | 5=>5 | 9=>9 | n=>n,fun | n=>n⟩
theorem Tryz.lays217:Go.Proofs.Lays.n217 Tryz.prog Tryz.lays217_ren:={
  mixed:=by kernel_rfl
  f217:=Tryz.func176.trans (congrArg some (by kernel_rfl))
  f266:=Tryz.func182.trans (congrArg some (by kernel_rfl))
  t3:=Tryz.underlying3
  a3:=Tryz.isAgg3
  z3:=Tryz.sizeOf3
  v3:=Tryz.zeroValue3
  t5:=Tryz.underlying5
  a5:=Tryz.isAgg5
  z5:=Tryz.sizeOf5
  v5:=Tryz.zeroValue5
  t9:=Tryz.underlying9
  a9:=Tryz.isAgg9
  z9:=Tryz.sizeOf9
  v9:=Tryz.zeroValue9
}
end Go.Proofs
end
-- EUt1
section
namespace Go.Proofs
open Go Go.Rw
open _root_.Nat renaming reduceAdd → N0, reduceSub → N1, reduceMul → N2, reduceLT → N3, reduceLeDiff → N4, reduceEqDiff → N5
open _root_.Int renaming reduceNeg → Z0, reduceAdd → Z1, reduceSub → Z2, reduceMul → Z3, reduceGT → Z4, reduceGE → Z5, reduceLT → Z6, reduceLE → Z7, reduceEq → Z8, reduceNe → Z9, reduceToNat → Z10, cast_ofNat_Int → Zc
set_option maxRecDepth 100000
instance tabsU:Tabs where
  blk:=fun g=>g=0∨g=1
  ok:=fun w=>Lib.Utf8Tabs 0 1 w
  stable:=fun w w' h hw=>by
    have h0:=fun i:Nat=>World.cell?_of_block (a:=⟨0,i,none⟩) (h 0 (.inl rfl))
    have h1:=fun i:Nat=>World.cell?_of_block (a:=⟨1,i,none⟩) (h 1 (.inr rfl))
    unfold Lib.Utf8Tabs at hw ⊢
    simp only [h0,h1]
    exact hw
abbrev Str:={ l:List UInt8 // l.length≤1099511627776 }
abbrev kDD:Con where
  ι:=Str
  args:=fun s=>[.v (sv s.1)]
  post:=fun s r=>r = .v (.bool (Lib.validD s.1))
  plain:=true
theorem validS_good:Rw.Good Tryz.prog 147 kDD:=by
  refine kFp ⟨_,Tryz.func147,by kernel_rfl,by kernel_rfl⟩ rfl rfl fun s w F vs htb hs hv=>?_
  obtain ⟨s,hl⟩:=s
  have h0:=hv 0
  have e:vs = #[sv s]:=by
    apply Array.ext (by simpa using hs)
    intro i h1 h2
    have:i=0:=by simpa using h2
    subst this
    have h3:=VR.v_inv h0
    rw [Array.getD_eq_getD_getElem?,Array.getElem?_eq_getElem h1] at h3
    simpa using h3
  subst e
  refine (Any.utf8_ValidString Tryz.lays196 ⟨s.toArray⟩ w (by simp [ByteArray.size]; omega) htb.1).mono ?_
  rintro e w' ⟨rfl,hb⟩
  exact ⟨_,_,rfl,rfl,fun _ _=>.v _,rfl,hb⟩
theorem call_validS {Γ:Env} (hf:Γ.get 147=some kDD) {σ:AS} {dr:Bool} {l:List UInt8} {d:Option Nat} {K:AS→Prop} (h:l.length≤1099511627776)
    (hk:cont σ d (.v (.bool (Lib.validD l))) K):kR Tryz.prog Γ dr σ 147 [.v (sv l)] d K :=
  kP (C:=kDD) (i:=⟨l,h⟩) hf rfl rfl rfl rfl (fun _ h=>h) rfl hk
abbrev ibCon:Con where
  ι:=List UInt8×UInt8
  args:=fun s=>[.v (sv s.1),.v (.int .u8 s.2.toNat)]
  post:=fun s r=>r = .v (.int .i64 (Lib.indexByte s.1 s.2))
  plain:=true
theorem ib_good:Rw.Good Tryz.prog 176 ibCon:=by
  refine kFp ⟨_,Tryz.func176,by kernel_rfl,by kernel_rfl⟩ rfl rfl fun s w F vs htb hs hv=>?_
  obtain ⟨s,c⟩:=s
  have h0:=VR.v_inv (hv 0)
  have h1:=VR.v_inv (hv 1)
  have e:vs = #[sv s,.int .u8 c.toNat]:=by
    apply Array.ext (by simpa using hs)
    intro i h2 h3
    rw [Array.getD_eq_getD_getElem?] at h0 h1
    have:i=0∨i=1:=by have:i < 2:=by simpa using h3
                     omega
    rcases this with rfl | rfl
    · rw [Array.getElem?_eq_getElem h2] at h0; simpa using h0
    · rw [Array.getElem?_eq_getElem h2] at h1; simpa using h1
  subst e
  refine (Any.stringslite_IndexByte Tryz.lays217 ⟨s.toArray⟩ (c.toNat:Int) w).mono ?_
  rintro e w' ⟨rfl,rfl⟩
  have hc:(c.toNat:Int).toNat.toUInt8=c:=by simp
  exact ⟨_,_,rfl,rfl,fun _ _=>by simp only [hc]; exact .v _,rfl,.refl _ _⟩
theorem call_ib {Γ:Env} (hf:Γ.get 176=some ibCon) {σ:AS} {dr:Bool} {l:List UInt8} {c:UInt8} {n:Int} {d:Option Nat} {K:AS→Prop} (hn:n=c.toNat)
    (hk:cont σ d (.v (.int .i64 (Lib.indexByte l c))) K):kR Tryz.prog Γ dr σ 176 [.v (sv l),.v (.int .u8 n)] d K:=by
  subst hn
  exact kP (C:=ibCon) (i:=(l,c)) hf rfl rfl rfl rfl (fun _ h=>h) rfl hk
theorem kC8:∀ (l:List UInt8) (c:UInt8),-1≤Lib.indexByte l c∧(0≤Lib.indexByte l c↔c∈l)
  | [],c=>by simp [Lib.indexByte]
  | x::l,c=>by
    have ih:=kC8 l c
    unfold Lib.indexByte
    by_cases h:x=c
    · subst h; simp
    · have h1:(x == c)=false:=by simpa using h
      rw [h1]
      simp only [Bool.false_eq_true,if_false,List.mem_cons]
      by_cases h2:Lib.indexByte l c = -1
      · rw [h2]
        have h3:c ∉ l:=fun hc=>by have:=ih.2.2 hc; omega
        simp [h3]; exact fun e=>h e.symm
      · have h3:(Lib.indexByte l c == -1)=false:=by simpa using h2
        rw [h3]
        simp only [Bool.false_eq_true,if_false]
        have h4:c∈l:=ih.2.1 (by omega)
        exact ⟨by omega,by simp [h4]; omega⟩
abbrev kBN:Con where
  ι:=Str
  args:=fun s=>[.v (sv s.1),.v (sv [0])]
  post:=fun s r=>r = .v (.bool (s.1.contains 0))
  plain:=true
abbrev kBp:Con where
  ι:=Str
  args:=fun s=>[.v (sv s.1),.v (sv [0])]
  post:=fun s r=>∃ i,r = .v (.int .i64 i)∧(0≤i↔(0:UInt8)∈s.1)
  plain:=true
theorem index_good:Rw.Good Tryz.prog 162 kBp:=by
  have hΓ:kL Tryz.prog [(176,ibCon)]:=(kH ib_good kJ)
  refine kW (nn:=143) hΓ Tryz.func162 (by kernel_rfl) rfl (show Tryz.f162.results.toList=[.tmp 4] from rfl) (fun _=>rfl) (fun _=>rfl) ?_
  rintro ⟨s,hs⟩
  simp only [aR,N0,N1,N2,N3,N4,N5,Z0,Z1,Z2,Z3,Z4,Z5,Z6,Z7,Z8,Z9,Z10,Zc,↓reduceIte,reduceCtorEq]
  refine kD (fun h=>?_) (fun h=>?_)
  · simp only [aR,N0,N1,N2,N3,N4,N5,Z0,Z1,Z2,Z3,Z4,Z5,Z6,Z7,Z8,Z9,Z10,Zc,↓reduceIte,reduceCtorEq]
    exact ⟨0,rfl,by simp [← h]⟩
  · simp only [aR,N0,N1,N2,N3,N4,N5,Z0,Z1,Z2,Z3,Z4,Z5,Z6,Z7,Z8,Z9,Z10,Zc,↓reduceIte,reduceCtorEq]
    refine call_ib (c:=0) (by simp [kI]) (by simp) ?_
    simp only [aR,N0,N1,N2,N3,N4,N5,Z0,Z1,Z2,Z3,Z4,Z5,Z6,Z7,Z8,Z9,Z10,Zc,↓reduceIte,reduceCtorEq]
    exact ⟨_,rfl,(kC8 s 0).2⟩
theorem sindex_good:Rw.Good Tryz.prog 132 kBp:=by
  have hΓ:kL Tryz.prog [(162,kBp)]:=(kH index_good kJ)
  refine kW (nn:=8) hΓ Tryz.func132 (by kernel_rfl) rfl (show Tryz.f132.results.toList=[.tmp 4] from rfl) (fun _=>rfl) (fun _=>rfl) ?_
  rintro ⟨s,hs⟩
  simp only [aR,N0,N1,N2,N3,N4,N5,Z0,Z1,Z2,Z3,Z4,Z5,Z6,Z7,Z8,Z9,Z10,Zc,↓reduceIte,reduceCtorEq]
  refine kE4 (C:=kBp) (i:=⟨s,hs⟩) (by simp [kI]) rfl rfl rfl rfl (fun r ⟨i,hr,_⟩=>by rw [hr]; rfl) (fun r ⟨i,hr,h⟩=>?_)
  subst hr
  simp only [aR,N0,N1,N2,N3,N4,N5,Z0,Z1,Z2,Z3,Z4,Z5,Z6,Z7,Z8,Z9,Z10,Zc,↓reduceIte,reduceCtorEq]
  exact ⟨i,rfl,h⟩
theorem contains_good:Rw.Good Tryz.prog 148 kBN:=by
  have hΓ:kL Tryz.prog [(132,kBp)]:=(kH sindex_good kJ)
  refine kW (nn:=9) hΓ Tryz.func148 (by kernel_rfl) rfl (show Tryz.f148.results.toList=[.tmp 4] from rfl) (fun _=>rfl) (fun _=>rfl) ?_
  rintro ⟨s,hs⟩
  simp only [aR,N0,N1,N2,N3,N4,N5,Z0,Z1,Z2,Z3,Z4,Z5,Z6,Z7,Z8,Z9,Z10,Zc,↓reduceIte,reduceCtorEq]
  refine kE4 (C:=kBp) (i:=⟨s,hs⟩) (by simp [kI]) rfl rfl rfl rfl (fun r ⟨i,hr,_⟩=>by rw [hr]; rfl) (fun r ⟨i,hr,h⟩=>?_)
  subst hr
  simp only [aR,N0,N1,N2,N3,N4,N5,Z0,Z1,Z2,Z3,Z4,Z5,Z6,Z7,Z8,Z9,Z10,Zc,↓reduceIte,reduceCtorEq]
  rw [Bool.eq_iff_iff]; simpa using h
theorem call_contains {Γ:Env} (hf:Γ.get 148=some kBN) {σ:AS} {dr:Bool} {l:List UInt8} {d:Option Nat} {K:AS→Prop} (h:l.length≤1099511627776)
    (hk:cont σ d (.v (.bool (l.contains 0))) K):kR Tryz.prog Γ dr σ 148 [.v (sv l),.v (sv [0])] d K :=
  kP (C:=kBN) (i:=⟨l,h⟩) hf rfl rfl rfl rfl (fun _ h=>h) rfl hk
abbrev kAH:Con where
  ι:=Str
  args:=fun s=>[.v (sv s.1)]
  post:=fun s r=>r = .v (.bool (pts s.1).isSome)
  plain:=true
theorem kGI:Rw.Good Tryz.prog 120 kAH:=by
  have hΓ:kL Tryz.prog [(147,kDD),(148,kBN)]:=(kH validS_good (kH contains_good kJ))
  refine kW (nn:=10) hΓ Tryz.func120 (by kernel_rfl) rfl (show Tryz.f120.results.toList=[.tmp 2] from rfl) (fun _=>rfl) (fun _=>rfl) ?_
  rintro ⟨s,hs⟩
  simp only [aR,N0,N1,N2,N3,N4,N5,Z0,Z1,Z2,Z3,Z4,Z5,Z6,Z7,Z8,Z9,Z10,Zc,↓reduceIte,reduceCtorEq]
  refine call_validS (by simp [kI]) hs ?_
  have key:=valid_pts _ s (Nat.le_refl _)
  simp only [aR,N0,N1,N2,N3,N4,N5,Z0,Z1,Z2,Z3,Z4,Z5,Z6,Z7,Z8,Z9,Z10,Zc,↓reduceIte,reduceCtorEq]
  cases hv:Lib.validD s with
  | false =>
    rw [hv] at key
    simp only [aR,N0,N1,N2,N3,N4,N5,Z0,Z1,Z2,Z3,Z4,Z5,Z6,Z7,Z8,Z9,Z10,Zc,↓reduceIte,reduceCtorEq]
    rw [← key]; rfl
  | true =>
    rw [hv] at key
    simp only [aR,N0,N1,N2,N3,N4,N5,Z0,Z1,Z2,Z3,Z4,Z5,Z6,Z7,Z8,Z9,Z10,Zc,↓reduceIte,reduceCtorEq]
    refine call_contains (by simp [kI]) hs ?_
    simp only [aR,N0,N1,N2,N3,N4,N5,Z0,Z1,Z2,Z3,Z4,Z5,Z6,Z7,Z8,Z9,Z10,Zc,↓reduceIte,reduceCtorEq]
    rw [← key]; rfl
theorem kGA {Γ:Env} (hf:Γ.get 120=some kAH) {σ:AS} {dr:Bool} {l:List UInt8} {d:Option Nat} {K:AS→Prop} (h:l.length≤1099511627776)
    (hk:cont σ d (.v (.bool (pts l).isSome)) K):kR Tryz.prog Γ dr σ 120 [.v (sv l)] d K :=
  kP (C:=kAH) (i:=⟨l,h⟩) hf rfl rfl rfl rfl (fun _ h=>h) rfl hk
end Go.Proofs
end
-- EUt2
section
namespace Go.Proofs
open Go Go.Rw
open _root_.Nat renaming reduceAdd → N0, reduceSub → N1, reduceMul → N2, reduceLT → N3, reduceLeDiff → N4, reduceEqDiff → N5
open _root_.Int renaming reduceNeg → Z0, reduceAdd → Z1, reduceSub → Z2, reduceMul → Z3, reduceGT → Z4, reduceGE → Z5, reduceLT → Z6, reduceLE → Z7, reduceEq → Z8, reduceNe → Z9, reduceToNat → Z10, cast_ofNat_Int → Zc
set_option maxRecDepth 100000
theorem and192 {b:UInt8}:IntKind.wrap .u8 ((BitVec.ofInt IntKind.u8.bits (b.toNat:Int) &&& BitVec.ofInt IntKind.u8.bits 192).toNat:Nat)=((b.toNat / 64 * 64:Nat):Int):=by
  have key:∀ m:Nat,m < 256→(BitVec.ofInt IntKind.u8.bits (m:Int) &&& BitVec.ofInt IntKind.u8.bits 192).toNat=m / 64 * 64:=by decide +kernel
  have hb:=b.toNat_lt
  rw [key _ (by omega),wrap_u8 (by omega) (by omega)]
abbrev kES:Con where
  ι:=UInt8
  args:=fun b=>[.v (.int .u8 b.toNat)]
  post:=fun b r=>r = .v (.bool (decide (¬ (128≤b.toNat∧b.toNat < 192))))
  plain:=true
theorem start_good:Rw.Good Tryz.prog 121 kES:=by
  have hΓ:kL Tryz.prog []:=kJ
  refine kW (nn:=6) hΓ Tryz.func121 (by kernel_rfl) rfl (show Tryz.f121.results.toList=[.tmp 2] from rfl) (fun _=>rfl) (fun _=>rfl) ?_
  intro b
  simp only [aR,N0,N1,N2,N3,N4,N5,Z0,Z1,Z2,Z3,Z4,Z5,Z6,Z7,Z8,Z9,Z10,Zc,↓reduceIte,reduceCtorEq,and192]
  rw [Bool.eq_iff_iff]; simp; omega
theorem call_start {Γ:Env} (hf:Γ.get 121=some kES) {σ:AS} {dr:Bool} {b:UInt8} {n:Int} {d:Option Nat} {K:AS→Prop} (hn:n=b.toNat)
    (hk:cont σ d (.v (.bool (decide (¬ (128≤b.toNat∧b.toNat < 192))))) K):kR Tryz.prog Γ dr σ 121 [.v (.int .u8 n)] d K:=by
  subst hn
  exact kP (C:=kES) (i:=b) hf rfl rfl rfl rfl (fun _ h=>h) rfl hk
theorem kDS {α:Type} (x:Option α):x=none∨∃ a,x=some a:=by cases x <;> simp
def res2 (a:AV) (e:Int):AV:=.tup [a,.v (.int .i64 e)]
def kCL (l:List UInt8):AV:=match pts l with
  | some cs=>res2 (.v (.int .i64 cs.length)) 0
  | none=>res2 (.v (.int .i64 0)) 2
theorem countR_plain (l:List UInt8):(kCL l).plain=true:=by unfold kCL; split <;> rfl
abbrev kBv:Con where
  ι:=Str
  args:=fun s=>[.v (sv s.1)]
  post:=fun s r=>r=kCL s.1
  plain:=true
theorem kDZ:Rw.Good Tryz.prog 95 kBv:=by
  have hΓ:kL Tryz.prog [(120,kAH),(121,kES)]:=(kH kGI (kH start_good kJ))
  refine kW (nn:=30) hΓ Tryz.func95 (by kernel_rfl) rfl (show Tryz.f95.results.toList=[.tmp 2,.tmp 3] from rfl) (fun _=>rfl) (fun _=>rfl) ?_
  rintro ⟨s,hs⟩
  simp only [aR,N0,N1,N2,N3,N4,N5,Z0,Z1,Z2,Z3,Z4,Z5,Z6,Z7,Z8,Z9,Z10,Zc,↓reduceIte,reduceCtorEq]
  obtain ⟨St,hSt⟩:∃ St:{ p:List Nat×List Nat // pts s=some (p.1++p.2) }→AS,∀ p,St p=AS.of 30 [(0,.v (sv s)),(2,.v (.int .i64 p.1.1.length)),(4,.v (.int .i64 (encs p.1.1).length))] [] []:=⟨_,fun _=>rfl⟩
  refine vc_lab hΓ 1 St (fun p=>p.1.2.length) 1 rfl rfl ?_ ?_
  · rintro ⟨⟨pre,post⟩,hp⟩
    simp only at hp
    obtain ⟨hok,hse⟩:=kBE hp
    rw [hSt]
    have hl:=congrArg List.length hse
    rw [kA5,List.length_append] at hl
    have hpl:=encs_le pre
    simp only [aR,N0,N1,N2,N3,N4,N5,Z0,Z1,Z2,Z3,Z4,Z5,Z6,Z7,Z8,Z9,Z10,Zc,↓reduceIte,reduceCtorEq]
    refine kD (fun h=>?_) (fun h=>?_)
    · simp only [aR,N0,N1,N2,N3,N4,N5,Z0,Z1,Z2,Z3,Z4,Z5,Z6,Z7,Z8,Z9,Z10,Zc,↓reduceIte,reduceCtorEq]
      refine ⟨_,rfl,?_⟩
      simp only [aR,N0,N1,N2,N3,N4,N5,Z0,Z1,Z2,Z3,Z4,Z5,Z6,Z7,Z8,Z9,Z10,Zc,↓reduceIte,reduceCtorEq]
      have:post=[]:=by
        cases post with
        | nil=>rfl
        | cons c cs=>have:=encs_pos (c:=c) (cs:=cs); omega
      subst this
      unfold kCL
      rw [hp,List.append_nil]; rfl
    · cases post with
      | nil=>rw [kDB,List.length_nil] at hl; omega
      | cons c cs =>
        have hc:=hok c (by simp)
        have hw:=kAS c
        have hcl:=j4 c
        rw [qO,List.length_append,hcl] at hl
        rw [kA5,qO] at hse
        simp (disch:=omega) only [aR,N0,N1,N2,N3,N4,N5,Z0,Z1,Z2,Z3,Z4,Z5,Z6,Z7,Z8,Z9,Z10,Zc,↓reduceIte,reduceCtorEq,kA,kA]
        obtain ⟨St2,hSt2⟩:∃ St2:{ j:Nat // 1≤j∧j≤wid c }→AS,∀ j,St2 j=AS.of 30 [(0,.v (sv s)),(2,.v (.int .i64 pre.length)),(4,.v (.int .i64 ((encs pre).length+j.1:Nat)))] [] []:=⟨_,fun _=>rfl⟩
        refine qE hΓ St2 (fun j=>wid c - j.1) ⟨1,by omega⟩ (by rw [hSt2]; refine kN [] [] ?_; simp only [aR,N0,N1,N2,N3,N4,N5,Z0,Z1,Z2,Z3,Z4,Z5,Z6,Z7,Z8,Z9,Z10,Zc,↓reduceIte,reduceCtorEq]; rfl) ?_
        rintro ⟨j,hj1,hj2⟩
        rw [hSt2]
        simp only
        simp only [aR,N0,N1,N2,N3,N4,N5,Z0,Z1,Z2,Z3,Z4,Z5,Z6,Z7,Z8,Z9,Z10,Zc,↓reduceIte,reduceCtorEq]
        have hlast:∀ σ:AS,j=wid c→Weak σ (AS.of 30 [(0,.v (sv s)),(2,.v (.int .i64 (pre.length+1:Nat))),(4,.v (.int .i64 ((encs pre).length+wid c:Nat)))] [] [])→∃ y:{ p:List Nat×List Nat // pts s=some (p.1++p.2) },y.1.2.length < (c::cs).length∧Weak σ (St y):=by
          intro σ hj hw
          refine ⟨⟨(pre++[c],cs),by simpa using hp⟩,by simp,?_⟩
          rw [hSt]
          simp only [kA5,List.length_append,qO,kDB,List.append_nil,hcl,List.length_cons,List.length_nil,Nat.zero_add]
          exact hw
        refine kE (fun h2=>?_) (fun h2=>?_)
        · simp (disch:=omega) only [aR,N0,N1,N2,N3,N4,N5,Z0,Z1,Z2,Z3,Z4,Z5,Z6,Z7,Z8,Z9,Z10,Zc,↓reduceIte,reduceCtorEq,kA,kA,h2]
          refine ⟨by omega,?_⟩
          refine call_start (by simp [kI]) rfl ?_
          simp only [aR,N0,N1,N2,N3,N4,N5,Z0,Z1,Z2,Z3,Z4,Z5,Z6,Z7,Z8,Z9,Z10,Zc,↓reduceIte,reduceCtorEq,h2]
          refine kD (fun h3=>?_) (fun h3=>?_)
          · simp (disch:=omega) only [aR,N0,N1,N2,N3,N4,N5,Z0,Z1,Z2,Z3,Z4,Z5,Z6,Z7,Z8,Z9,Z10,Zc,↓reduceIte,reduceCtorEq,kA,kA]
            have hj3:j < wid c:=by
              rcases Nat.lt_or_ge j (wid c) with h4 | h4
              · exact h4
              · exfalso
                have hjw:j=wid c:=by omega
                cases cs with
                | nil=>rw [kDB,List.length_nil] at hl; omega
                | cons c2 cs =>
                  have h5:=enc_head (hok c2 (by simp))
                  have h6:s.getD ((encs pre).length+j) 0=(enc c2).getD 0 0:=by
                    rw [hse,qO,← List.append_assoc,hjw,← hcl,← List.length_append]
                    exact getD_mid (j:=0) (by rw [j4]; exact kAS c2)
                  rw [h6] at h3
                  omega
            refine kO ⟨j+1,by omega⟩ (by simp only; omega) ?_
            rw [hSt2]; refine kN [] [] ?_
            simp only [aR,N0,N1,N2,N3,N4,N5,Z0,Z1,Z2,Z3,Z4,Z5,Z6,Z7,Z8,Z9,Z10,Zc,↓reduceIte,reduceCtorEq] <;> ((repeat' apply And.intro) <;> first | rfl | omega | trivial)
          · have hjw:j=wid c:=by
              rcases Nat.lt_or_ge j (wid c) with h4 | h4
              · exfalso
                have h5:=enc_cont hc hj1 h4
                have h6:s.getD ((encs pre).length+j) 0=(enc c).getD j 0:=by
                  rw [hse]; exact getD_mid (by rw [hcl]; exact h4)
                rw [h6] at h3
                omega
              · omega
            subst hjw
            simp (disch:=omega) only [aR,N0,N1,N2,N3,N4,N5,Z0,Z1,Z2,Z3,Z4,Z5,Z6,Z7,Z8,Z9,Z10,Zc,↓reduceIte,reduceCtorEq,kA,kA]
            refine hlast _ rfl ?_
            refine kN [] [] ?_
            simp only [aR,N0,N1,N2,N3,N4,N5,Z0,Z1,Z2,Z3,Z4,Z5,Z6,Z7,Z8,Z9,Z10,Zc,↓reduceIte,reduceCtorEq] <;> ((repeat' apply And.intro) <;> first | rfl | omega | trivial)
        · have hjw:j=wid c:=by omega
          subst hjw
          simp (disch:=omega) only [aR,N0,N1,N2,N3,N4,N5,Z0,Z1,Z2,Z3,Z4,Z5,Z6,Z7,Z8,Z9,Z10,Zc,↓reduceIte,reduceCtorEq,kA,kA,h2]
          refine hlast _ rfl ?_
          refine kN [] [] ?_
          simp only [aR,N0,N1,N2,N3,N4,N5,Z0,Z1,Z2,Z3,Z4,Z5,Z6,Z7,Z8,Z9,Z10,Zc,↓reduceIte,reduceCtorEq] <;> ((repeat' apply And.intro) <;> first | rfl | omega | trivial)
  · simp only [aR,N0,N1,N2,N3,N4,N5,Z0,Z1,Z2,Z3,Z4,Z5,Z6,Z7,Z8,Z9,Z10,Zc,↓reduceIte,reduceCtorEq]
    refine kGA (by simp [kI]) hs ?_
    simp only [aR,N0,N1,N2,N3,N4,N5,Z0,Z1,Z2,Z3,Z4,Z5,Z6,Z7,Z8,Z9,Z10,Zc,↓reduceIte,reduceCtorEq]
    rcases kDS (pts s) with hp | ⟨cs,hp⟩
    · simp only [aR,N0,N1,N2,N3,N4,N5,Z0,Z1,Z2,Z3,Z4,Z5,Z6,Z7,Z8,Z9,Z10,Zc,↓reduceIte,reduceCtorEq,hp,Option.isSome_none]
      unfold kCL
      rw [hp]; rfl
    · simp only [aR,N0,N1,N2,N3,N4,N5,Z0,Z1,Z2,Z3,Z4,Z5,Z6,Z7,Z8,Z9,Z10,Zc,↓reduceIte,reduceCtorEq,hp,Option.isSome_some]
      refine ⟨⟨([],cs),hp⟩,?_⟩
      rw [hSt]; refine kN [] [] ?_
      simp only [aR,N0,N1,N2,N3,N4,N5,Z0,Z1,Z2,Z3,Z4,Z5,Z6,Z7,Z8,Z9,Z10,Zc,↓reduceIte,reduceCtorEq]
      rfl
end Go.Proofs
end
-- EUt3
section
namespace Go.Proofs
open Go Go.Rw
set_option maxRecDepth 100000
def nats (l:List Nat):List AV:=ints .i64 (l.map fun (c:Nat)=>(c:Int))
theorem nats_nil:nats []=[]:=rfl
theorem nats_len (l:List Nat):(nats l).length=l.length:=by simp [nats,ints]
theorem nats_snoc (l:List Nat) (c:Nat):nats l++[.v (.int .i64 c)]=nats (l++[c]):=by simp [nats,ints]
theorem kBw {Γ:Env} (hf:Γ.get 95=some kBv) {σ:AS} {dr:Bool} {l:List UInt8} {d:Option Nat} {K:AS→Prop} (h:l.length≤1099511627776)
    (hk:cont σ d (kCL l) K):kR Tryz.prog Γ dr σ 95 [.v (sv l)] d K :=
  kP (C:=kBv) (i:=⟨l,h⟩) hf rfl rfl rfl rfl (fun _ h=>h) (countR_plain l) hk
abbrev I64:={ n:Int // -9223372036854775808≤n∧n≤9223372036854775807 }
end Go.Proofs
end
-- EUt4
section
namespace Go.Proofs
open Go Go.Rw
open _root_.Nat renaming reduceAdd → N0, reduceSub → N1, reduceMul → N2, reduceLT → N3, reduceLeDiff → N4, reduceEqDiff → N5
open _root_.Int renaming reduceNeg → Z0, reduceAdd → Z1, reduceSub → Z2, reduceMul → Z3, reduceGT → Z4, reduceGE → Z5, reduceLT → Z6, reduceLE → Z7, reduceEq → Z8, reduceNe → Z9, reduceToNat → Z10, cast_ofNat_Int → Zc
set_option maxRecDepth 100000
theorem andi {m k:Nat} {n:Int} (h0:0≤n) (h1:n < 256) (hk:∀ m:Nat,m < 256→(BitVec.ofInt IntKind.i64.bits (m:Int) &&& BitVec.ofInt IntKind.i64.bits (k:Int)).toNat=m % (k+1)) :
    IntKind.wrap .i64 ((BitVec.ofInt IntKind.i64.bits n &&& BitVec.ofInt IntKind.i64.bits (k:Int)).toNat:Nat)=n % (k+1):=by
  obtain ⟨m,rfl⟩:=Int.eq_ofNat_of_zero_le h0
  have hm:m % (k+1) < 256:=Nat.lt_of_le_of_lt (Nat.mod_le _ _) (by omega)
  rw [hk m (by omega),kA (by omega) (by omega)]; rfl
theorem kCB {n:Int} (h0:0≤n) (h1:n < 256):IntKind.wrap .i64 ((BitVec.ofInt IntKind.i64.bits n &&& BitVec.ofInt IntKind.i64.bits 31).toNat:Nat)=n % 32:=andi (m:=0) (k:=31) h0 h1 (by decide +kernel)
theorem kCD {n:Int} (h0:0≤n) (h1:n < 256):IntKind.wrap .i64 ((BitVec.ofInt IntKind.i64.bits n &&& BitVec.ofInt IntKind.i64.bits 15).toNat:Nat)=n % 16:=andi (m:=0) (k:=15) h0 h1 (by decide +kernel)
theorem kCC {n:Int} (h0:0≤n) (h1:n < 256):IntKind.wrap .i64 ((BitVec.ofInt IntKind.i64.bits n &&& BitVec.ofInt IntKind.i64.bits 7).toNat:Nat)=n % 8:=andi (m:=0) (k:=7) h0 h1 (by decide +kernel)
theorem and63 {n:Int} (h0:0≤n) (h1:n < 256):IntKind.wrap .i64 ((BitVec.ofInt IntKind.i64.bits n &&& BitVec.ofInt IntKind.i64.bits 63).toNat:Nat)=n % 64:=andi (m:=0) (k:=63) h0 h1 (by decide +kernel)
theorem shl6 {n:Int}:n * 2 ^ min 6 IntKind.i64.bits=n * 64:=rfl
theorem or6 {n c:Int} (h1:0≤n) (h2:n≤1000000000) (h3:0≤c) (h4:c < 64):IntKind.wrap .i64 ((BitVec.ofInt IntKind.i64.bits (n * 64) ||| BitVec.ofInt IntKind.i64.bits c).toNat:Nat)=n * 64+c:=by
  obtain ⟨m,rfl⟩:=Int.eq_ofNat_of_zero_le h1
  obtain ⟨d,rfl⟩:=Int.eq_ofNat_of_zero_le h3
  have e:(BitVec.ofInt IntKind.i64.bits ((m:Int) * 64) ||| BitVec.ofInt IntKind.i64.bits (d:Int)).toNat=m * 64+d:=by
    rw [BitVec.toNat_or]
    have e1:(BitVec.ofInt IntKind.i64.bits ((m:Int) * 64)).toNat=2 ^ 6 * m:=by
      rw [BitVec.toNat_ofInt]; simp only [IntKind.bits]; omega
    have e2:(BitVec.ofInt IntKind.i64.bits (d:Int)).toNat=d:=by
      rw [BitVec.toNat_ofInt]; simp only [IntKind.bits]; omega
    rw [e1,e2,← Nat.two_pow_add_eq_or_of_lt (by omega)]; omega
  rw [e,kA (by omega) (by omega)]; omega
def pntR (l:List UInt8) (i:Nat):AV:=.tup [.v (.int .i64 (pnt (l.drop i)).1),.v (.int .i64 (pnt (l.drop i)).2)]
abbrev pntCon:Con where
  ι:={ p:Str×Nat // p.2 < p.1.1.length }
  args:=fun p=>[.v (sv p.1.1.1),.v (.int .i64 p.1.2)]
  post:=fun p r=>r=pntR p.1.1.1 p.1.2
  plain:=true
def vv (s:List UInt8) (i m:Nat):Nat→Nat
  | 0=>m
  | k+1=>vv s i m k * 64+(s.getD (i+k+1) 0).toNat % 64
theorem vv_lt (s:List UInt8) (i m:Nat) (hm:m < 32):∀ k,k≤3→vv s i m k < 32 * 64 ^ k
  | 0,_=>by simpa [vv] using hm
  | k+1,h=>by
    have:=vv_lt s i m hm k (by omega)
    simp only [vv]
    rw [Nat.pow_succ]; omega
theorem vv_le (s:List UInt8) (i m:Nat) (hm:m < 32) (k:Nat) (h:k≤3):vv s i m k < 8388608:=by
  have h1:=vv_lt s i m hm k h
  have h2:64 ^ k≤64 ^ 3:=Nat.pow_le_pow_right (by omega) h
  omega
theorem kFg:Rw.Good Tryz.prog 122 pntCon:=by
  have hΓ:kL Tryz.prog []:=kJ
  refine kEY (nn:=96) Tryz.func122 (by kernel_rfl) rfl (show Tryz.f122.results.toList=[.tmp 4,.tmp 5] from rfl) (fun _=>rfl) (fun _=>rfl) ?_
  rintro ⟨⟨⟨s,hs⟩,i⟩,hi⟩
  simp only at hi ⊢
  have k0:=(s.getD i 0).toNat_lt
  have hi1:(0:Int)≤i∧(i:Int) < s.length:=by omega
  have hw:=kA (n:=((s.getD i 0).toNat:Int)) (by omega) (by omega)
  have hp:=pnt_at s i
  have k1:=(s.getD (i+1) 0).toNat_lt
  have k2:=(s.getD (i+2) 0).toNat_lt
  have k3:=(s.getD (i+3) 0).toNat_lt
  iterate 3
    refine awp_cut hΓ ?_
    simp only [aR,N0,N1,N2,N3,N4,N5,Z0,Z1,Z2,Z3,Z4,Z5,Z6,Z7,Z8,Z9,Z10,Zc,↓reduceIte,reduceCtorEq,hi1,hw]
  obtain ⟨St,hSt⟩:∃ St:{ p:Nat×Nat×Nat // (194≤(s.getD i 0).toNat∧(s.getD i 0).toNat < 224∧p=(2,(s.getD i 0).toNat % 32,128))∨(224≤(s.getD i 0).toNat∧(s.getD i 0).toNat < 240∧p=(3,(s.getD i 0).toNat % 16,2048))∨(240≤(s.getD i 0).toNat∧(s.getD i 0).toNat < 245∧p=(4,(s.getD i 0).toNat % 8,65536)) }→AS,
    ∀ p,St p=AS.of 96 [(0,.v (sv s)),(1,.v (.int .i64 i)),(7,.v (.int .i64 p.1.1)),(8,.v (.int .i64 p.1.2.1)),(9,.v (.int .i64 p.1.2.2))] [] []:=⟨_,fun _=>rfl⟩
  have bad:(pnt (s.drop i)).2=0→pntR s i = .tup [.v (.int .i64 0),.v (.int .i64 0)]:=fun h=>by
    unfold pntR
    have:pnt (s.drop i)=(0,0):=by
      unfold pnt at h ⊢
      split
      · rfl
      · rename_i hn
        rw [if_neg hn] at h
        have:=Lib.decodeL_width (s.drop i)
        omega
    rw [this]; rfl
  refine awp_mid hΓ St ?_ ?_
  · simp only [aR,N0,N1,N2,N3,N4,N5,Z0,Z1,Z2,Z3,Z4,Z5,Z6,Z7,Z8,Z9,Z10,Zc,↓reduceIte,reduceCtorEq]
    (try ((with_reducible first | refine kD (fun q1=>?_) (fun q1=>?_) | refine kE (fun q1=>?_) (fun q1=>?_)) <;> simp (disch:=omega) only [aR,N0,N1,N2,N3,N4,N5,Z0,Z1,Z2,Z3,Z4,Z5,Z6,Z7,Z8,Z9,Z10,Zc,↓reduceIte,reduceCtorEq,kA,q1,kCB,kCD,kCC] <;> (with_reducible first | (refine And.intro ?_ ?_; focus (first | omega | exact kF | kernel_rfl)); (repeat (with_reducible refine And.intro ?_ ?_; focus (first | omega | exact kF | kernel_rfl))); (try simp (disch:=omega) only [aR,N0,N1,N2,N3,N4,N5,Z0,Z1,Z2,Z3,Z4,Z5,Z6,Z7,Z8,Z9,Z10,Zc,↓reduceIte,reduceCtorEq,kA,q1,kCB,kCD,kCC]) | skip) <;> (try ((with_reducible first | refine kD (fun q2=>?_) (fun q2=>?_) | refine kE (fun q2=>?_) (fun q2=>?_)) <;> simp (disch:=omega) only [aR,N0,N1,N2,N3,N4,N5,Z0,Z1,Z2,Z3,Z4,Z5,Z6,Z7,Z8,Z9,Z10,Zc,↓reduceIte,reduceCtorEq,kA,q2,kCB,kCD,kCC] <;> (with_reducible first | (refine And.intro ?_ ?_; focus (first | omega | exact kF | kernel_rfl)); (repeat (with_reducible refine And.intro ?_ ?_; focus (first | omega | exact kF | kernel_rfl))); (try simp (disch:=omega) only [aR,N0,N1,N2,N3,N4,N5,Z0,Z1,Z2,Z3,Z4,Z5,Z6,Z7,Z8,Z9,Z10,Zc,↓reduceIte,reduceCtorEq,kA,q2,kCB,kCD,kCC]) | skip) <;> (try ((with_reducible first | refine kD (fun q3=>?_) (fun q3=>?_) | refine kE (fun q3=>?_) (fun q3=>?_)) <;> simp (disch:=omega) only [aR,N0,N1,N2,N3,N4,N5,Z0,Z1,Z2,Z3,Z4,Z5,Z6,Z7,Z8,Z9,Z10,Zc,↓reduceIte,reduceCtorEq,kA,q3,kCB,kCD,kCC] <;> (with_reducible first | (refine And.intro ?_ ?_; focus (first | omega | exact kF | kernel_rfl)); (repeat (with_reducible refine And.intro ?_ ?_; focus (first | omega | exact kF | kernel_rfl))); (try simp (disch:=omega) only [aR,N0,N1,N2,N3,N4,N5,Z0,Z1,Z2,Z3,Z4,Z5,Z6,Z7,Z8,Z9,Z10,Zc,↓reduceIte,reduceCtorEq,kA,q3,kCB,kCD,kCC]) | skip) <;> (try ((with_reducible first | refine kD (fun q4=>?_) (fun q4=>?_) | refine kE (fun q4=>?_) (fun q4=>?_)) <;> simp (disch:=omega) only [aR,N0,N1,N2,N3,N4,N5,Z0,Z1,Z2,Z3,Z4,Z5,Z6,Z7,Z8,Z9,Z10,Zc,↓reduceIte,reduceCtorEq,kA,q4,kCB,kCD,kCC] <;> (with_reducible first | (refine And.intro ?_ ?_; focus (first | omega | exact kF | kernel_rfl)); (repeat (with_reducible refine And.intro ?_ ?_; focus (first | omega | exact kF | kernel_rfl))); (try simp (disch:=omega) only [aR,N0,N1,N2,N3,N4,N5,Z0,Z1,Z2,Z3,Z4,Z5,Z6,Z7,Z8,Z9,Z10,Zc,↓reduceIte,reduceCtorEq,kA,q4,kCB,kCD,kCC]) | skip) <;> (try ((with_reducible first | refine kD (fun q5=>?_) (fun q5=>?_) | refine kE (fun q5=>?_) (fun q5=>?_)) <;> simp (disch:=omega) only [aR,N0,N1,N2,N3,N4,N5,Z0,Z1,Z2,Z3,Z4,Z5,Z6,Z7,Z8,Z9,Z10,Zc,↓reduceIte,reduceCtorEq,kA,q5,kCB,kCD,kCC] <;> (with_reducible first | (refine And.intro ?_ ?_; focus (first | omega | exact kF | kernel_rfl)); (repeat (with_reducible refine And.intro ?_ ?_; focus (first | omega | exact kF | kernel_rfl))); (try simp (disch:=omega) only [aR,N0,N1,N2,N3,N4,N5,Z0,Z1,Z2,Z3,Z4,Z5,Z6,Z7,Z8,Z9,Z10,Zc,↓reduceIte,reduceCtorEq,kA,q5,kCB,kCD,kCC]) | skip) <;> (try ((with_reducible first | refine kD (fun q6=>?_) (fun q6=>?_) | refine kE (fun q6=>?_) (fun q6=>?_)) <;> simp (disch:=omega) only [aR,N0,N1,N2,N3,N4,N5,Z0,Z1,Z2,Z3,Z4,Z5,Z6,Z7,Z8,Z9,Z10,Zc,↓reduceIte,reduceCtorEq,kA,q6,kCB,kCD,kCC] <;> (with_reducible first | (refine And.intro ?_ ?_; focus (first | omega | exact kF | kernel_rfl)); (repeat (with_reducible refine And.intro ?_ ?_; focus (first | omega | exact kF | kernel_rfl))); (try simp (disch:=omega) only [aR,N0,N1,N2,N3,N4,N5,Z0,Z1,Z2,Z3,Z4,Z5,Z6,Z7,Z8,Z9,Z10,Zc,↓reduceIte,reduceCtorEq,kA,q6,kCB,kCD,kCC]) | skip) <;> (try ((with_reducible first | refine kD (fun q7=>?_) (fun q7=>?_) | refine kE (fun q7=>?_) (fun q7=>?_)) <;> simp (disch:=omega) only [aR,N0,N1,N2,N3,N4,N5,Z0,Z1,Z2,Z3,Z4,Z5,Z6,Z7,Z8,Z9,Z10,Zc,↓reduceIte,reduceCtorEq,kA,q7,kCB,kCD,kCC] <;> (with_reducible first | (refine And.intro ?_ ?_; focus (first | omega | exact kF | kernel_rfl)); (repeat (with_reducible refine And.intro ?_ ?_; focus (first | omega | exact kF | kernel_rfl))); (try simp (disch:=omega) only [aR,N0,N1,N2,N3,N4,N5,Z0,Z1,Z2,Z3,Z4,Z5,Z6,Z7,Z8,Z9,Z10,Zc,↓reduceIte,reduceCtorEq,kA,q7,kCB,kCD,kCC]) | skip) <;> (try ((with_reducible first | refine kD (fun q8=>?_) (fun q8=>?_) | refine kE (fun q8=>?_) (fun q8=>?_)) <;> simp (disch:=omega) only [aR,N0,N1,N2,N3,N4,N5,Z0,Z1,Z2,Z3,Z4,Z5,Z6,Z7,Z8,Z9,Z10,Zc,↓reduceIte,reduceCtorEq,kA,q8,kCB,kCD,kCC] <;> (with_reducible first | (refine And.intro ?_ ?_; focus (first | omega | exact kF | kernel_rfl)); (repeat (with_reducible refine And.intro ?_ ?_; focus (first | omega | exact kF | kernel_rfl))); (try simp (disch:=omega) only [aR,N0,N1,N2,N3,N4,N5,Z0,Z1,Z2,Z3,Z4,Z5,Z6,Z7,Z8,Z9,Z10,Zc,↓reduceIte,reduceCtorEq,kA,q8,kCB,kCD,kCC]) | skip) <;> skip))))))))))))))))
    all_goals first
      | (exfalso; omega)
      | (unfold pntR; rw [hp,pntd_one k0 k1 k2 k3 (by omega) (by omega)]; rfl)
      | (rw [bad (by rw [hp,pntd_bad k0 k1 k2 k3 (by omega)])])
      | (refine ⟨⟨(2,(s.getD i 0).toNat % 32,128),.inl ⟨by omega,by omega,rfl⟩⟩,?_⟩
         rw [hSt]; refine kN [] [] ?_
         simp only [aR,N0,N1,N2,N3,N4,N5,Z0,Z1,Z2,Z3,Z4,Z5,Z6,Z7,Z8,Z9,Z10,Zc,↓reduceIte,reduceCtorEq] <;> ((repeat' apply And.intro) <;> first | rfl | omega | trivial))
      | (refine ⟨⟨(3,(s.getD i 0).toNat % 16,2048),.inr (.inl ⟨by omega,by omega,rfl⟩)⟩,?_⟩
         rw [hSt]; refine kN [] [] ?_
         simp only [aR,N0,N1,N2,N3,N4,N5,Z0,Z1,Z2,Z3,Z4,Z5,Z6,Z7,Z8,Z9,Z10,Zc,↓reduceIte,reduceCtorEq] <;> ((repeat' apply And.intro) <;> first | rfl | omega | trivial))
      | (refine ⟨⟨(4,(s.getD i 0).toNat % 8,65536),.inr (.inr ⟨by omega,by omega,rfl⟩)⟩,?_⟩
         rw [hSt]; refine kN [] [] ?_
         simp only [aR,N0,N1,N2,N3,N4,N5,Z0,Z1,Z2,Z3,Z4,Z5,Z6,Z7,Z8,Z9,Z10,Zc,↓reduceIte,reduceCtorEq] <;> ((repeat' apply And.intro) <;> first | rfl | omega | trivial))
      | trace_state
  · rintro ⟨⟨n,m,low⟩,hcl⟩
    rw [hSt]
    refine vc_awp hΓ ?_
    simp only
    have hn:2≤n∧n≤4:=by simp only [Prod.mk.injEq] at hcl; omega
    have hm:m < 32:=by simp only [Prod.mk.injEq] at hcl; omega
    simp (disch:=omega) only [aR,N0,N1,N2,N3,N4,N5,Z0,Z1,Z2,Z3,Z4,Z5,Z6,Z7,Z8,Z9,Z10,Zc,↓reduceIte,reduceCtorEq,kA,kA]
    (with_reducible first | refine kD (fun h1=>?_) (fun h1=>?_) | refine kE (fun h1=>?_) (fun h1=>?_))
    · simp (disch:=omega) only [aR,N0,N1,N2,N3,N4,N5,Z0,Z1,Z2,Z3,Z4,Z5,Z6,Z7,Z8,Z9,Z10,Zc,↓reduceIte,reduceCtorEq,kA,h1]
      rw [bad]
      rw [hp]
      simp only [Prod.mk.injEq] at hcl
      rcases hcl with ⟨ha,hb,rfl,rfl,rfl⟩ | ⟨ha,hb,rfl,rfl,rfl⟩ | ⟨ha,hb,rfl,rfl,rfl⟩
      · rw [pntd_two k0 k1 k2 k3 ⟨ha,hb⟩,if_neg (by omega)]
      · rw [kDm k0 k1 k2 k3 ⟨ha,hb⟩,if_neg (by omega)]
      · rw [kEj k0 k1 k2 k3 ⟨ha,hb⟩,if_neg (by omega)]
    · simp (disch:=omega) only [aR,N0,N1,N2,N3,N4,N5,Z0,Z1,Z2,Z3,Z4,Z5,Z6,Z7,Z8,Z9,Z10,Zc,↓reduceIte,reduceCtorEq,kA,h1]
      obtain ⟨St2,hSt2⟩:∃ St2:{ k:Nat // k+1≤n∧∀ j,j < k→(s.getD (i+j+1) 0).toNat / 64=2 }→AS,∀ k,St2 k=AS.of 96 [(0,.v (sv s)),(1,.v (.int .i64 i)),(7,.v (.int .i64 n)),(8,.v (.int .i64 (vv s i m k.1))),(9,.v (.int .i64 low)),(10,.v (.int .i64 (k.1+1:Nat)))] [] []:=⟨_,fun _=>rfl⟩
      refine qE hΓ St2 (fun k=>n - k.1) ⟨0,by omega,by simp⟩ (by rw [hSt2]; refine kN [] [] ?_; simp only [aR,N0,N1,N2,N3,N4,N5,Z0,Z1,Z2,Z3,Z4,Z5,Z6,Z7,Z8,Z9,Z10,Zc,↓reduceIte,reduceCtorEq,vv] <;> ((repeat' apply And.intro) <;> first | rfl | omega | trivial)) ?_
      rintro ⟨k,hk,hj⟩
      rw [hSt2]
      simp only
      have hv:=vv_le s i m hm k (by omega)
      have hkb:=(s.getD (i+k+1) 0).toNat_lt
      simp only [aR,N0,N1,N2,N3,N4,N5,Z0,Z1,Z2,Z3,Z4,Z5,Z6,Z7,Z8,Z9,Z10,Zc,↓reduceIte,reduceCtorEq]
      (with_reducible first | refine kD (fun h2=>?_) (fun h2=>?_) | refine kE (fun h2=>?_) (fun h2=>?_))
      · simp (disch:=omega) only [aR,N0,N1,N2,N3,N4,N5,Z0,Z1,Z2,Z3,Z4,Z5,Z6,Z7,Z8,Z9,Z10,Zc,↓reduceIte,reduceCtorEq,kA,h2,kA]
        have e1:((i:Int)+((k+1:Nat):Int)).toNat=i+k+1:=by omega
        simp (disch:=omega) only [aR,N0,N1,N2,N3,N4,N5,Z0,Z1,Z2,Z3,Z4,Z5,Z6,Z7,Z8,Z9,Z10,Zc,↓reduceIte,reduceCtorEq,kA,e1]
        refine ⟨by omega,?_⟩
        have badk:¬ (s.getD (i+k+1) 0).toNat / 64=2→pntR s i = .tup [.v (.int .i64 0),.v (.int .i64 0)]:=fun hb=>by
          refine bad ?_
          rw [hp]
          simp only [Prod.mk.injEq] at hcl
          have hb1:k=0→¬ (s.getD (i+1) 0).toNat / 64=2:=fun e=>by subst e; exact hb
          have hb2:k=1→¬ (s.getD (i+2) 0).toNat / 64=2:=fun e=>by subst e; exact hb
          have hb3:k=2→¬ (s.getD (i+3) 0).toNat / 64=2:=fun e=>by subst e; exact hb
          rcases hcl with ⟨ha,hb,rfl,rfl,rfl⟩ | ⟨ha,hb,rfl,rfl,rfl⟩ | ⟨ha,hb,rfl,rfl,rfl⟩
          · rw [pntd_two k0 k1 k2 k3 ⟨ha,hb⟩,if_neg (by omega)]
          · rw [kDm k0 k1 k2 k3 ⟨ha,hb⟩,if_neg (by omega)]
          · rw [kEj k0 k1 k2 k3 ⟨ha,hb⟩,if_neg (by omega)]
        (try ((with_reducible first | refine kD (fun q1=>?_) (fun q1=>?_) | refine kE (fun q1=>?_) (fun q1=>?_)) <;> simp (disch:=omega) only [aR,N0,N1,N2,N3,N4,N5,Z0,Z1,Z2,Z3,Z4,Z5,Z6,Z7,Z8,Z9,Z10,Zc,↓reduceIte,reduceCtorEq,kA,q1,shl6,and63,or6] <;> (with_reducible first | (refine And.intro ?_ ?_; focus (first | omega | exact kF | kernel_rfl)); (repeat (with_reducible refine And.intro ?_ ?_; focus (first | omega | exact kF | kernel_rfl))); (try simp (disch:=omega) only [aR,N0,N1,N2,N3,N4,N5,Z0,Z1,Z2,Z3,Z4,Z5,Z6,Z7,Z8,Z9,Z10,Zc,↓reduceIte,reduceCtorEq,kA,q1,shl6,and63,or6]) | skip) <;> (try ((with_reducible first | refine kD (fun q2=>?_) (fun q2=>?_) | refine kE (fun q2=>?_) (fun q2=>?_)) <;> simp (disch:=omega) only [aR,N0,N1,N2,N3,N4,N5,Z0,Z1,Z2,Z3,Z4,Z5,Z6,Z7,Z8,Z9,Z10,Zc,↓reduceIte,reduceCtorEq,kA,q2,shl6,and63,or6] <;> (with_reducible first | (refine And.intro ?_ ?_; focus (first | omega | exact kF | kernel_rfl)); (repeat (with_reducible refine And.intro ?_ ?_; focus (first | omega | exact kF | kernel_rfl))); (try simp (disch:=omega) only [aR,N0,N1,N2,N3,N4,N5,Z0,Z1,Z2,Z3,Z4,Z5,Z6,Z7,Z8,Z9,Z10,Zc,↓reduceIte,reduceCtorEq,kA,q2,shl6,and63,or6]) | skip) <;> (try ((with_reducible first | refine kD (fun q3=>?_) (fun q3=>?_) | refine kE (fun q3=>?_) (fun q3=>?_)) <;> simp (disch:=omega) only [aR,N0,N1,N2,N3,N4,N5,Z0,Z1,Z2,Z3,Z4,Z5,Z6,Z7,Z8,Z9,Z10,Zc,↓reduceIte,reduceCtorEq,kA,q3,shl6,and63,or6] <;> (with_reducible first | (refine And.intro ?_ ?_; focus (first | omega | exact kF | kernel_rfl)); (repeat (with_reducible refine And.intro ?_ ?_; focus (first | omega | exact kF | kernel_rfl))); (try simp (disch:=omega) only [aR,N0,N1,N2,N3,N4,N5,Z0,Z1,Z2,Z3,Z4,Z5,Z6,Z7,Z8,Z9,Z10,Zc,↓reduceIte,reduceCtorEq,kA,q3,shl6,and63,or6]) | skip) <;> skip))))))
        all_goals first
          | (rw [badk (by omega)])
          | (refine kO ⟨k+1,by omega,fun j hj'=>?_⟩ (by simp only; omega) ?_
             · rcases Nat.lt_or_ge j k with h5 | h5
               · exact hj j h5
               · rw [show j=k by omega]; omega
             · rw [hSt2]; refine kN [] [] ?_
               simp only [aR,N0,N1,N2,N3,N4,N5,Z0,Z1,Z2,Z3,Z4,Z5,Z6,Z7,Z8,Z9,Z10,Zc,↓reduceIte,reduceCtorEq,vv] <;> ((repeat' apply And.intro) <;> first | rfl | omega | trivial))
          | trace_state
      · have hkn:k+1=n:=by omega
        have hv1:k=1→vv s i m k=m * 64+(s.getD (i+1) 0).toNat % 64:=fun e=>by subst e; rfl
        have hv2:k=2→vv s i m k=(m * 64+(s.getD (i+1) 0).toNat % 64) * 64+(s.getD (i+2) 0).toNat % 64:=fun e=>by subst e; rfl
        have hv3:k=3→vv s i m k=((m * 64+(s.getD (i+1) 0).toNat % 64) * 64+(s.getD (i+2) 0).toNat % 64) * 64+(s.getD (i+3) 0).toNat % 64:=fun e=>by subst e; rfl
        have hj0:=hj 0
        have hj1:=hj 1
        have hj2:=hj 2
        simp only [Nat.add_zero,show i+1+1=i+2 from rfl,show i+2+1=i+3 from rfl] at hj0 hj1 hj2
        generalize vv s i m k=V at *
        have fin:pntR s i=if V < low∨(55296≤V∧V < 57344)∨V > 1114111 then .tup [.v (.int .i64 0),.v (.int .i64 0)] else .tup [.v (.int .i64 V),.v (.int .i64 n)]:=by
          unfold pntR
          rw [hp]
          simp only [Prod.mk.injEq] at hcl
          rcases hcl with ⟨ha,hb,rfl,rfl,rfl⟩ | ⟨ha,hb,rfl,rfl,rfl⟩ | ⟨ha,hb,rfl,rfl,rfl⟩
          · rw [pntd_two k0 k1 k2 k3 ⟨ha,hb⟩,if_pos (by omega),if_neg (by omega),hv1 (by omega)]
          · rw [kDm k0 k1 k2 k3 ⟨ha,hb⟩]
            have e:V=(s.getD i 0).toNat % 16 * 4096+(s.getD (i+1) 0).toNat % 64 * 64+(s.getD (i+2) 0).toNat % 64:=by have:=hv2 (by omega); omega
            by_cases hc:V < 2048∨(55296≤V∧V < 57344)∨V > 1114111
            · rw [if_pos hc,if_neg (by omega)]; rfl
            · rw [if_neg hc,if_pos (by omega),← e]
          · rw [kEj k0 k1 k2 k3 ⟨ha,hb⟩]
            have e:V=(s.getD i 0).toNat % 8 * 262144+(s.getD (i+1) 0).toNat % 64 * 4096+(s.getD (i+2) 0).toNat % 64 * 64+(s.getD (i+3) 0).toNat % 64:=by have:=hv3 (by omega); omega
            by_cases hc:V < 65536∨(55296≤V∧V < 57344)∨V > 1114111
            · rw [if_pos hc,if_neg (by omega)]; rfl
            · rw [if_neg hc,if_pos (by omega),← e]
        simp (disch:=omega) only [aR,N0,N1,N2,N3,N4,N5,Z0,Z1,Z2,Z3,Z4,Z5,Z6,Z7,Z8,Z9,Z10,Zc,↓reduceIte,reduceCtorEq,kA,h2]
        (try ((with_reducible first | refine kD (fun q1=>?_) (fun q1=>?_) | refine kE (fun q1=>?_) (fun q1=>?_)) <;> simp (disch:=omega) only [aR,N0,N1,N2,N3,N4,N5,Z0,Z1,Z2,Z3,Z4,Z5,Z6,Z7,Z8,Z9,Z10,Zc,↓reduceIte,reduceCtorEq,kA,q1] <;> (with_reducible first | (refine And.intro ?_ ?_; focus (first | omega | exact kF | kernel_rfl)); (repeat (with_reducible refine And.intro ?_ ?_; focus (first | omega | exact kF | kernel_rfl))); (try simp (disch:=omega) only [aR,N0,N1,N2,N3,N4,N5,Z0,Z1,Z2,Z3,Z4,Z5,Z6,Z7,Z8,Z9,Z10,Zc,↓reduceIte,reduceCtorEq,kA,q1]) | skip) <;> (try ((with_reducible first | refine kD (fun q2=>?_) (fun q2=>?_) | refine kE (fun q2=>?_) (fun q2=>?_)) <;> simp (disch:=omega) only [aR,N0,N1,N2,N3,N4,N5,Z0,Z1,Z2,Z3,Z4,Z5,Z6,Z7,Z8,Z9,Z10,Zc,↓reduceIte,reduceCtorEq,kA,q2] <;> (with_reducible first | (refine And.intro ?_ ?_; focus (first | omega | exact kF | kernel_rfl)); (repeat (with_reducible refine And.intro ?_ ?_; focus (first | omega | exact kF | kernel_rfl))); (try simp (disch:=omega) only [aR,N0,N1,N2,N3,N4,N5,Z0,Z1,Z2,Z3,Z4,Z5,Z6,Z7,Z8,Z9,Z10,Zc,↓reduceIte,reduceCtorEq,kA,q2]) | skip) <;> (try ((with_reducible first | refine kD (fun q3=>?_) (fun q3=>?_) | refine kE (fun q3=>?_) (fun q3=>?_)) <;> simp (disch:=omega) only [aR,N0,N1,N2,N3,N4,N5,Z0,Z1,Z2,Z3,Z4,Z5,Z6,Z7,Z8,Z9,Z10,Zc,↓reduceIte,reduceCtorEq,kA,q3] <;> (with_reducible first | (refine And.intro ?_ ?_; focus (first | omega | exact kF | kernel_rfl)); (repeat (with_reducible refine And.intro ?_ ?_; focus (first | omega | exact kF | kernel_rfl))); (try simp (disch:=omega) only [aR,N0,N1,N2,N3,N4,N5,Z0,Z1,Z2,Z3,Z4,Z5,Z6,Z7,Z8,Z9,Z10,Zc,↓reduceIte,reduceCtorEq,kA,q3]) | skip) <;> (try ((with_reducible first | refine kD (fun q4=>?_) (fun q4=>?_) | refine kE (fun q4=>?_) (fun q4=>?_)) <;> simp (disch:=omega) only [aR,N0,N1,N2,N3,N4,N5,Z0,Z1,Z2,Z3,Z4,Z5,Z6,Z7,Z8,Z9,Z10,Zc,↓reduceIte,reduceCtorEq,kA,q4] <;> (with_reducible first | (refine And.intro ?_ ?_; focus (first | omega | exact kF | kernel_rfl)); (repeat (with_reducible refine And.intro ?_ ?_; focus (first | omega | exact kF | kernel_rfl))); (try simp (disch:=omega) only [aR,N0,N1,N2,N3,N4,N5,Z0,Z1,Z2,Z3,Z4,Z5,Z6,Z7,Z8,Z9,Z10,Zc,↓reduceIte,reduceCtorEq,kA,q4]) | skip) <;> (try ((with_reducible first | refine kD (fun q5=>?_) (fun q5=>?_) | refine kE (fun q5=>?_) (fun q5=>?_)) <;> simp (disch:=omega) only [aR,N0,N1,N2,N3,N4,N5,Z0,Z1,Z2,Z3,Z4,Z5,Z6,Z7,Z8,Z9,Z10,Zc,↓reduceIte,reduceCtorEq,kA,q5] <;> (with_reducible first | (refine And.intro ?_ ?_; focus (first | omega | exact kF | kernel_rfl)); (repeat (with_reducible refine And.intro ?_ ?_; focus (first | omega | exact kF | kernel_rfl))); (try simp (disch:=omega) only [aR,N0,N1,N2,N3,N4,N5,Z0,Z1,Z2,Z3,Z4,Z5,Z6,Z7,Z8,Z9,Z10,Zc,↓reduceIte,reduceCtorEq,kA,q5]) | skip) <;> skip))))))))))
        all_goals first
          | (rw [fin,if_pos (by omega)])
          | (rw [fin,if_neg (by omega)])
          | trace_state
end Go.Proofs
end
-- EUt5
section
namespace Go.Proofs
open Go Go.Rw
open _root_.Nat renaming reduceAdd → N0, reduceSub → N1, reduceMul → N2, reduceLT → N3, reduceLeDiff → N4, reduceEqDiff → N5
open _root_.Int renaming reduceNeg → Z0, reduceAdd → Z1, reduceSub → Z2, reduceMul → Z3, reduceGT → Z4, reduceGE → Z5, reduceLT → Z6, reduceLE → Z7, reduceEq → Z8, reduceNe → Z9, reduceToNat → Z10, cast_ofNat_Int → Zc
set_option maxRecDepth 100000
theorem pntR_plain (l:List UInt8) (i:Nat):(pntR l i).plain=true:=rfl
theorem kFu {Γ:Env} (hf:Γ.get 122=some pntCon) {σ:AS} {dr:Bool} {l:List UInt8} {i:Nat} {d:Option Nat} {K:AS→Prop} (h:l.length≤1099511627776) (hi:i < l.length)
    (hk:cont σ d (pntR l i) K):kR Tryz.prog Γ dr σ 122 [.v (sv l),.v (.int .i64 i)] d K :=
  kP (C:=pntCon) (i:=⟨(⟨l,h⟩,i),hi⟩) hf rfl rfl rfl rfl (fun _ h=>h) (pntR_plain l i) hk
theorem pnt_len {l:List UInt8} (hne:l≠[]):(pnt l).2≤l.length:=by
  by_cases h:(pnt l).2=0
  · omega
  · obtain ⟨_,h2,h3⟩:=kEK hne h
    have h4:=congrArg List.length h3
    rw [List.length_append,List.length_drop,j4] at h4
    omega
theorem drop_ne {l:List UInt8} {i:Nat} (h:i < l.length):l.drop i≠[]:=by
  intro e
  have this:=congrArg List.length e
  rw [List.length_drop,List.length_nil] at this; omega
theorem pnt_small (l:List UInt8):(pnt l).1≤1114111∧(pnt l).2≤4:=by
  by_cases hl:l=[]
  · subst hl; exact ⟨by decide +kernel,by decide +kernel⟩
  · by_cases h:(pnt l).2=0
    · unfold pnt at h ⊢
      split
      · simp
      · rename_i hn
        rw [if_neg hn] at h
        have:=Lib.decodeL_width l
        omega
    · obtain ⟨h1,h2,_⟩:=kEK hl h
      have:=wid_le (pnt l).1
      exact ⟨h1.2.1,by omega⟩
def j7 (l:List UInt8):AV:=match pts l with
  | some cs=>.tup [.sl 0 1 (nats cs),.v (.bool true)]
  | none=>.tup [.sl 0 1 [],.v (.bool false)]
abbrev kAm:Con where
  ι:=Str
  args:=fun s=>[.v (sv s.1)]
  post:=fun s r=>r=j7 s.1
theorem kDs:Rw.Good Tryz.prog 96 kAm:=by
  have hΓ:kL Tryz.prog [(122,pntCon)]:=(kH kFg kJ)
  refine kW (nn:=28) hΓ Tryz.func96 (by kernel_rfl) rfl (show Tryz.f96.results.toList=[.tmp 2,.tmp 3] from rfl) (fun _=>rfl) (fun _=>rfl) ?_
  rintro ⟨s,hs⟩
  simp only [aR,N0,N1,N2,N3,N4,N5,Z0,Z1,Z2,Z3,Z4,Z5,Z6,Z7,Z8,Z9,Z10,Zc,↓reduceIte,reduceCtorEq]
  obtain ⟨St,hSt⟩:∃ St:{ p:List Nat×Nat // p.2≤s.length∧p.1.length≤p.2∧pts s=(pts (s.drop p.2)).map (p.1 ++ ·) }→AS,∀ p,St p=AS.of 28 [(0,.v (sv s)),(4,.sl 2 1 (nats p.1.1)),(5,.v (.int .i64 p.1.2))] [] [(p.1.1.length,3)]:=⟨_,fun _=>rfl⟩
  refine qE hΓ St (fun p=>s.length - p.1.2) ⟨([],0),by omega,by simp,by simp⟩ (by rw [hSt]; refine kN [] [.nil 1] ?_; simp only [aR,N0,N1,N2,N3,N4,N5,Z0,Z1,Z2,Z3,Z4,Z5,Z6,Z7,Z8,Z9,Z10,Zc,↓reduceIte,reduceCtorEq,nats_nil] <;> ((repeat' apply And.intro) <;> first | rfl | omega | trivial)) ?_
  rintro ⟨⟨cs,i⟩,hi,hci,hp⟩
  simp only at hi hci hp
  rw [hSt]
  simp only
  simp only [aR,N0,N1,N2,N3,N4,N5,Z0,Z1,Z2,Z3,Z4,Z5,Z6,Z7,Z8,Z9,Z10,Zc,↓reduceIte,reduceCtorEq]
  (with_reducible first | refine kD (fun h=>?_) (fun h=>?_) | refine kE (fun h=>?_) (fun h=>?_))
  · simp only [aR,N0,N1,N2,N3,N4,N5,Z0,Z1,Z2,Z3,Z4,Z5,Z6,Z7,Z8,Z9,Z10,Zc,↓reduceIte,reduceCtorEq,h]
    have hlt:i < s.length:=by omega
    refine kFu (by simp [kI]) hs hlt ?_
    have hne:=drop_ne hlt
    have hsm:=pnt_small (s.drop i)
    have hpl:=pnt_len hne
    rw [List.length_drop] at hpl
    rw [pts_step hne] at hp
    unfold pntR
    generalize hq:pnt (s.drop i)=q at *
    obtain ⟨c,n⟩:=q
    simp only at hsm hp hpl
    simp only [aR,N0,N1,N2,N3,N4,N5,Z0,Z1,Z2,Z3,Z4,Z5,Z6,Z7,Z8,Z9,Z10,Zc,↓reduceIte,reduceCtorEq]
    (with_reducible first | refine kD (fun h2=>?_) (fun h2=>?_) | refine kE (fun h2=>?_) (fun h2=>?_))
    · simp only [aR,N0,N1,N2,N3,N4,N5,Z0,Z1,Z2,Z3,Z4,Z5,Z6,Z7,Z8,Z9,Z10,Zc,↓reduceIte,reduceCtorEq,h2]
      unfold j7
      rw [hp,if_pos (by omega)]; rfl
    · rw [if_neg (by omega),List.drop_drop] at hp
      simp (disch:=omega) only [aR,N0,N1,N2,N3,N4,N5,Z0,Z1,Z2,Z3,Z4,Z5,Z6,Z7,Z8,Z9,Z10,Zc,↓reduceIte,reduceCtorEq,kA,h2,nats_len]
      refine ⟨by omega,by omega,kO ⟨(cs++[c],i+n),by omega,by simp; omega,?_⟩ (by simp only; omega) ?_⟩
      · rw [hp,Option.map_map]
        congr 1
        funext x; simp
      · rw [hSt]; refine kN [] [.live 2] ?_
        simp only [aR,N0,N1,N2,N3,N4,N5,Z0,Z1,Z2,Z3,Z4,Z5,Z6,Z7,Z8,Z9,Z10,Zc,↓reduceIte,reduceCtorEq,nats_snoc,List.length_append] <;> ((repeat' apply And.intro) <;> first | rfl | omega | trivial)
  · simp only [aR,N0,N1,N2,N3,N4,N5,Z0,Z1,Z2,Z3,Z4,Z5,Z6,Z7,Z8,Z9,Z10,Zc,↓reduceIte,reduceCtorEq,h]
    rw [List.drop_of_length_le (by omega),pts_nil] at hp
    unfold j7
    rw [hp]; simp
theorem kDu {Γ:Env} (hf:Γ.get 96=some kAm) {σ:AS} {dr:Bool} {l:List UInt8} {d:Option Nat} {K:AS→Prop} (h:l.length≤1099511627776)
    (hk:cont σ d (j7 l) K):kR Tryz.prog Γ dr σ 96 [.v (sv l)] d K :=
  kAX (C:=kAm) (i:=⟨l,h⟩) (r:=j7 l) hf rfl rfl rfl rfl (fun _ h=>h) (by
    have:(j7 l).er=j7 l:=by unfold j7; split <;> rfl
    rw [this]; exact hk)
theorem rvalid_good:Rw.Good Tryz.prog 55 kAH:=by
  have hΓ:kL Tryz.prog [(96,kAm)]:=(kH kDs kJ)
  refine kW (nn:=11) hΓ Tryz.func55 (by kernel_rfl) rfl (show Tryz.f55.results.toList=[.tmp 2] from rfl) (fun _=>rfl) (fun _=>rfl) ?_
  rintro ⟨s,hs⟩
  simp only [aR,N0,N1,N2,N3,N4,N5,Z0,Z1,Z2,Z3,Z4,Z5,Z6,Z7,Z8,Z9,Z10,Zc,↓reduceIte,reduceCtorEq]
  refine kDu (by simp [kI]) hs ?_
  rcases kDS (pts s) with hp | ⟨cs,hp⟩
  all_goals simp only [aR,N0,N1,N2,N3,N4,N5,Z0,Z1,Z2,Z3,Z4,Z5,Z6,Z7,Z8,Z9,Z10,Zc,↓reduceIte,reduceCtorEq,j7,hp]
  all_goals rfl
theorem kFG {Γ:Env} (hf:Γ.get 55=some kAH) {σ:AS} {dr:Bool} {l:List UInt8} {d:Option Nat} {K:AS→Prop} (h:l.length≤1099511627776)
    (hk:cont σ d (.v (.bool (pts l).isSome)) K):kR Tryz.prog Γ dr σ 55 [.v (sv l)] d K :=
  kP (C:=kAH) (i:=⟨l,h⟩) hf rfl rfl rfl rfl (fun _ h=>h) rfl hk
def cnt (l:List UInt8):Nat:=match pts l with | some cs=>cs.length | none=>0
abbrev kDH:Con where
  ι:=Str
  args:=fun s=>[.v (sv s.1)]
  post:=fun s r=>r = .v (.int .i64 (cnt s.1))
  plain:=true
theorem rcount_good:Rw.Good Tryz.prog 56 kDH:=by
  have hΓ:kL Tryz.prog [(96,kAm)]:=(kH kDs kJ)
  refine kW (nn:=12) hΓ Tryz.func56 (by kernel_rfl) rfl (show Tryz.f56.results.toList=[.tmp 2] from rfl) (fun _=>rfl) (fun _=>rfl) ?_
  rintro ⟨s,hs⟩
  simp only [aR,N0,N1,N2,N3,N4,N5,Z0,Z1,Z2,Z3,Z4,Z5,Z6,Z7,Z8,Z9,Z10,Zc,↓reduceIte,reduceCtorEq]
  refine kDu (by simp [kI]) hs ?_
  rcases kDS (pts s) with hp | ⟨cs,hp⟩
  all_goals simp only [aR,N0,N1,N2,N3,N4,N5,Z0,Z1,Z2,Z3,Z4,Z5,Z6,Z7,Z8,Z9,Z10,Zc,↓reduceIte,reduceCtorEq,j7,hp,nats_len,cnt] <;> ((repeat' apply And.intro) <;> first | rfl | omega | trivial)
theorem call_rcount {Γ:Env} (hf:Γ.get 56=some kDH) {σ:AS} {dr:Bool} {l:List UInt8} {d:Option Nat} {K:AS→Prop} (h:l.length≤1099511627776)
    (hk:cont σ d (.v (.int .i64 (cnt l))) K):kR Tryz.prog Γ dr σ 56 [.v (sv l)] d K :=
  kP (C:=kDH) (i:=⟨l,h⟩) hf rfl rfl rfl rfl (fun _ h=>h) rfl hk
abbrev intsCon:Con where
  ι:={ p:List Int×List Int // p.1.length≤1099511627776∧p.2.length≤1099511627776 }
  args:=fun p=>[.sl 0 1 (ints .i64 p.1.1),.sl 0 1 (ints .i64 p.1.2)]
  post:=fun p r=>r = .v (.bool (decide (p.1.1=p.1.2)))
  plain:=true
theorem kF:Tryz.prog.follows .mixedOrders=true:=by kernel_rfl
theorem ints_good:Rw.Good Tryz.prog 43 intsCon:=by
  have hΓ:kL Tryz.prog []:=kJ
  refine kW (nn:=26) hΓ Tryz.func43 (by kernel_rfl) rfl (show Tryz.f43.results.toList=[.tmp 4] from rfl) (fun _=>rfl) (fun _=>rfl) ?_
  rintro ⟨⟨x,y⟩,hx,hy⟩
  simp only at hx hy
  simp only [aR,N0,N1,N2,N3,N4,N5,Z0,Z1,Z2,Z3,Z4,Z5,Z6,Z7,Z8,Z9,Z10,Zc,↓reduceIte,reduceCtorEq,zN]
  (with_reducible first | refine kD (fun h=>?_) (fun h=>?_) | refine kE (fun h=>?_) (fun h=>?_))
  · simp only [aR,N0,N1,N2,N3,N4,N5,Z0,Z1,Z2,Z3,Z4,Z5,Z6,Z7,Z8,Z9,Z10,Zc,↓reduceIte,reduceCtorEq,h]
    rw [decide_eq_false]
    rintro rfl; exact h rfl
  · simp only [aR,N0,N1,N2,N3,N4,N5,Z0,Z1,Z2,Z3,Z4,Z5,Z6,Z7,Z8,Z9,Z10,Zc,↓reduceIte,reduceCtorEq,h]
    have h0:x.length=y.length:=by omega
    obtain ⟨St,hSt⟩:∃ St:{ i:Nat // i≤x.length∧x.take i=y.take i }→AS,∀ i,St i=AS.of 26 [(0,.sl 0 1 (ints .i64 x)),(1,.sl 0 1 (ints .i64 y)),(5,.v (.int .i64 i.1))] [] []:=⟨_,fun _=>rfl⟩
    refine qE hΓ St (fun i=>x.length - i.1) ⟨0,by omega,rfl⟩ (by rw [hSt]; refine kN [] [] ?_; simp only [aR,N0,N1,N2,N3,N4,N5,Z0,Z1,Z2,Z3,Z4,Z5,Z6,Z7,Z8,Z9,Z10,Zc,↓reduceIte,reduceCtorEq] <;> ((repeat' apply And.intro) <;> first | rfl | omega | trivial)) ?_
    rintro ⟨i,hi,hxy⟩
    rw [hSt]
    simp only
    simp only [aR,N0,N1,N2,N3,N4,N5,Z0,Z1,Z2,Z3,Z4,Z5,Z6,Z7,Z8,Z9,Z10,Zc,↓reduceIte,reduceCtorEq,zN]
    (with_reducible first | refine kD (fun h1=>?_) (fun h1=>?_) | refine kE (fun h1=>?_) (fun h1=>?_))
    · have e1:(ints .i64 x).getD i .any = .v (.int .i64 (x.getD i 0)):=kCa (by omega)
      have e2:(ints .i64 y).getD i .any = .v (.int .i64 (y.getD i 0)):=kCa (by omega)
      simp (disch:=omega) only [aR,N0,N1,N2,N3,N4,N5,Z0,Z1,Z2,Z3,Z4,Z5,Z6,Z7,Z8,Z9,Z10,Zc,↓reduceIte,reduceCtorEq,kA,h1,zN,e1,e2]
      (repeat (with_reducible refine And.intro ?_ ?_; focus (first | omega | exact kF | kernel_rfl)))
      (with_reducible first | refine kD (fun h2=>?_) (fun h2=>?_) | refine kE (fun h2=>?_) (fun h2=>?_))
      · simp only [aR,N0,N1,N2,N3,N4,N5,Z0,Z1,Z2,Z3,Z4,Z5,Z6,Z7,Z8,Z9,Z10,Zc,↓reduceIte,reduceCtorEq,h2]
        rw [decide_eq_false]
        rintro rfl; exact h2 rfl
      · simp (disch:=omega) only [aR,N0,N1,N2,N3,N4,N5,Z0,Z1,Z2,Z3,Z4,Z5,Z6,Z7,Z8,Z9,Z10,Zc,↓reduceIte,reduceCtorEq,kA,h2]
        have h3:x.getD i 0=y.getD i 0:=Decidable.not_not.1 h2
        refine kO ⟨i+1,by omega,?_⟩ (by simp only; omega) ?_
        · rw [List.getD_eq_getElem?_getD,List.getD_eq_getElem?_getD,List.getElem?_eq_getElem (by omega),List.getElem?_eq_getElem (by omega)] at h3
          simp only [Option.getD_some] at h3
          rw [List.take_succ_eq_append_getElem (by omega),List.take_succ_eq_append_getElem (by omega),hxy,h3]
        · rw [hSt]; refine kN [] [] ?_
          simp only [aR,N0,N1,N2,N3,N4,N5,Z0,Z1,Z2,Z3,Z4,Z5,Z6,Z7,Z8,Z9,Z10,Zc,↓reduceIte,reduceCtorEq] <;> ((repeat' apply And.intro) <;> first | rfl | omega | trivial)
    · simp only [aR,N0,N1,N2,N3,N4,N5,Z0,Z1,Z2,Z3,Z4,Z5,Z6,Z7,Z8,Z9,Z10,Zc,↓reduceIte,reduceCtorEq,h1]
      rw [List.take_of_length_le (by omega),List.take_of_length_le (by omega)] at hxy
      simp [hxy]
end Go.Proofs
end
-- EUt6
section
namespace Go.Proofs
open Go Go.Rw
open _root_.Nat renaming reduceAdd → N0, reduceSub → N1, reduceMul → N2, reduceLT → N3, reduceLeDiff → N4, reduceEqDiff → N5
open _root_.Int renaming reduceNeg → Z0, reduceAdd → Z1, reduceSub → Z2, reduceMul → Z3, reduceGT → Z4, reduceGE → Z5, reduceLT → Z6, reduceLE → Z7, reduceEq → Z8, reduceNe → Z9, reduceToNat → Z10, cast_ofNat_Int → Zc
set_option maxRecDepth 100000
end Go.Proofs
end
-- EUt7
section
namespace Go.Proofs
open Go Go.Rw
set_option maxRecDepth 100000
end Go.Proofs
end
