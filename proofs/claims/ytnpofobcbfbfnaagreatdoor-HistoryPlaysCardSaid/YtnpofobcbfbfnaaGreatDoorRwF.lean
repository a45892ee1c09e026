/-
 Texts as code points: one form each;what a decoder makes of any bytes. Plain. Edits as lists of parts;counts of code points. Plain. Texts taken apart into code points,and put together of them. Plain.
-/
import Derived.Lib.MapLaws
import Derived.Lib.ValidLaws
import Derived.Test.YtnpofobcbfbfnaaGreatDoorRwE
import Derived.Lib.RuneBytes
set_option linter.unusedSimpArgs false
set_option linter.unusedVariables false
set_option linter.unusedSectionVars false

-- RwUtf
namespace Go.Rw
open Go Go.Lib
def okc (c:Nat):Prop:=1≤c∧c≤1114111∧¬ (55296≤c∧c≤57343)
instance (c:Nat):Decidable (okc c):=by unfold okc;infer_instance
def wid (c:Nat):Nat:=if c < 128 then 1 else if c < 2048 then 2 else if c < 65536 then 3 else 4
def bt (n:Nat):UInt8:=UInt8.ofNat n
def enc (c:Nat):List UInt8 :=
 if c < 128 then [bt c] else if c < 2048 then [bt (192+c / 64),bt (128+c % 64)]
 else if c < 65536 then [bt (224+c / 4096),bt (128+c / 64 % 64),bt (128+c % 64)]
 else [bt (240+c / 262144),bt (128+c / 4096 % 64),bt (128+c / 64 % 64),bt (128+c % 64)]
def encs (cs:List Nat):List UInt8:=cs.flatMap enc
theorem jM (c:Nat):(enc c).length=wid c:=by
 unfold enc wid
 repeat' split
 all_goals rfl
theorem kA1 (c:Nat):1≤wid c:=by unfold wid;repeat' split
                                all_goals omega
theorem wid_le (c:Nat):wid c≤4:=by unfold wid;repeat' split
                                   all_goals omega
theorem kAp {n:Nat} (h:n < 256):(bt n).toNat=n:=by
 simp only[bt,UInt8.toNat_ofNat'];omega
theorem kGc (x:UInt8):bt x.toNat=x:=by simp[bt]
theorem kC7:encs []=[]:=rfl
theorem qR (c:Nat) (cs:List Nat):encs (c::cs)=enc c++encs cs:=rfl
theorem jK (a b:List Nat):encs (a++b)=encs a++encs b:=by simp[encs]
theorem kC0 {c:Nat} (h:okc c∨c=0) (r:List UInt8):decodeL (enc c++r)=(c,wid c):=by
 have h1:c≤1114111∧¬ (55296≤c∧c≤57343):=by
  rcases h with h|h
  ·exact h.2
  ·omega
 rw[decodeL_N]
 unfold enc wid
 split
 ·simp only[List.cons_append,List.nil_append,List.getD_cons_zero]
  rw[kAp (by omega)]
  unfold decodeN
  rw[if_pos (by assumption)]
 ·split
  ·simp only[List.cons_append,List.nil_append,List.getD_cons_zero,List.getD_cons_succ,List.length_cons]
   rw[kAp (by omega),kAp (by omega)]
   unfold decodeN
   rw[if_neg (by omega),if_pos (by omega),if_pos (by omega)]
   congr 1;omega
  ·split
   ·simp only[List.cons_append,List.nil_append,List.getD_cons_zero,List.getD_cons_succ,List.length_cons]
    rw[kAp (by omega),kAp (by omega),kAp (by omega)]
    unfold decodeN
    rw[if_neg (by omega),if_neg (by omega),if_pos (by omega),if_pos (by omega)]
    congr 1;omega
   ·simp only[List.cons_append,List.nil_append,List.getD_cons_zero,List.getD_cons_succ,List.length_cons]
    rw[kAp (by omega),kAp (by omega),kAp (by omega),kAp (by omega)]
    unfold decodeN
    rw[if_neg (by omega),if_neg (by omega),if_neg (by omega),if_pos (by omega),if_pos (by omega)]
    congr 1;omega
theorem kDJ {l:List UInt8} (hne:l≠[]) (hv:¬ ((decodeL l).1=65533∧(decodeL l).2=1)) :
    (okc (decodeL l).1∨(decodeL l).1=0)∧(decodeL l).2=wid (decodeL l).1∧l=enc (decodeL l).1++l.drop (decodeL l).2:=by
 have hl:0 < l.length:=List.length_pos_iff.2 hne
 rw[decodeL_N]at hv ⊢
 have k0:=(l.getD 0 0).toNat_lt
 have k1:=(l.getD 1 0).toNat_lt
 have k2:=(l.getD 2 0).toNat_lt
 have k3:=(l.getD 3 0).toNat_lt
 have fin:∀ (c n:Nat) (q:List UInt8),l.take n=q→enc c=q→l=enc c++l.drop n:=fun c n q h1 h2=>by
  rw[h2,← h1,List.take_append_drop]
 rcases decodeN_shape l.length (l.getD 0 0).toNat (l.getD 1 0).toNat (l.getD 2 0).toNat (l.getD 3 0).toNat with ⟨c,e⟩|⟨c1,c2,c3,cv,e⟩|⟨c1,c2,c3,c4,cv,cs,e⟩|⟨c1,c2,c3,c4,c5,cv,cw,e⟩|e
 ·rw[e]
  refine ⟨by unfold okc;simp only;omega,by simp only[wid];rw[if_pos c],fin _ _ _ (takeA l hl) ?_⟩
  unfold enc
  simp only
  rw[if_pos c,kGc]
 ·rw[e]
  refine ⟨by unfold okc;simp only;omega,by simp only[wid];rw[if_neg (by omega),if_pos (by omega)],fin _ _ _ (takeB l c2) ?_⟩
  unfold enc
  simp only
  rw[if_neg (by omega),if_pos (by omega),show 192+((l.getD 0 0).toNat % 32 * 64+(l.getD 1 0).toNat % 64) / 64=(l.getD 0 0).toNat by omega,show 128+((l.getD 0 0).toNat % 32 * 64+(l.getD 1 0).toNat % 64) % 64=(l.getD 1 0).toNat by omega,kGc,kGc]
 ·rw[e]
  refine ⟨by unfold okc;simp only;omega,by simp only[wid];rw[if_neg (by omega),if_neg (by omega),if_pos (by omega)],fin _ _ _ (takeC l c2) ?_⟩
  unfold enc
  simp only
  rw[if_neg (by omega),if_neg (by omega),if_pos (by omega),show 224+((l.getD 0 0).toNat % 16 * 4096+(l.getD 1 0).toNat % 64 * 64+(l.getD 2 0).toNat % 64) / 4096=(l.getD 0 0).toNat by omega,show 128+((l.getD 0 0).toNat % 16 * 4096+(l.getD 1 0).toNat % 64 * 64+(l.getD 2 0).toNat % 64) / 64 % 64=(l.getD 1 0).toNat by omega,show 128+((l.getD 0 0).toNat % 16 * 4096+(l.getD 1 0).toNat % 64 * 64+(l.getD 2 0).toNat % 64) % 64=(l.getD 2 0).toNat by omega,kGc,kGc,kGc]
 ·rw[e]
  refine ⟨by unfold okc;simp only;omega,by simp only[wid];rw[if_neg (by omega),if_neg (by omega),if_neg (by omega)],fin _ _ _ (takeD l c2) ?_⟩
  unfold enc
  simp only
  rw[if_neg (by omega),if_neg (by omega),if_neg (by omega),show 240+((l.getD 0 0).toNat % 8 * 262144+(l.getD 1 0).toNat % 64 * 4096+(l.getD 2 0).toNat % 64 * 64+(l.getD 3 0).toNat % 64) / 262144=(l.getD 0 0).toNat by omega,show 128+((l.getD 0 0).toNat % 8 * 262144+(l.getD 1 0).toNat % 64 * 4096+(l.getD 2 0).toNat % 64 * 64+(l.getD 3 0).toNat % 64) / 4096 % 64=(l.getD 1 0).toNat by omega,
   show 128+((l.getD 0 0).toNat % 8 * 262144+(l.getD 1 0).toNat % 64 * 4096+(l.getD 2 0).toNat % 64 * 64+(l.getD 3 0).toNat % 64) / 64 % 64=(l.getD 2 0).toNat by omega,show 128+((l.getD 0 0).toNat % 8 * 262144+(l.getD 1 0).toNat % 64 * 4096+(l.getD 2 0).toNat % 64 * 64+(l.getD 3 0).toNat % 64) % 64=(l.getD 3 0).toNat by omega,kGc,kGc,kGc,kGc]
 ·rw[e]at hv;exact absurd ⟨rfl,rfl⟩ hv
def pnt (l:List UInt8):Nat×Nat:=if ((decodeL l).1=65533∧(decodeL l).2=1)∨(decodeL l).1=0 then (0,0) else decodeL l
theorem pnt_enc {c:Nat} (h:okc c) (r:List UInt8):pnt (enc c++r)=(c,wid c):=by
 unfold pnt
 rw[kC0 (.inl h),if_neg]
 rintro (⟨h1,h2⟩|h1)
 ·simp only at h1 h2;subst h1;simp[wid]at h2
 ·simp only at h1;have:=h.1;omega
theorem kFX {l:List UInt8} (hne:l≠[]) (h:(pnt l).2≠0):okc (pnt l).1∧(pnt l).2=wid (pnt l).1∧l=enc (pnt l).1++l.drop (pnt l).2:=by
 unfold pnt at h ⊢
 split at h
 ·exact absurd rfl h
 ·rename_i hn
  rw[if_neg hn]
  rw[not_or]at hn
  obtain ⟨h1,h2,h3⟩:=kDJ hne hn.1
  exact ⟨h1.resolve_right hn.2,h2,h3⟩
def ptsF:Nat→List UInt8→Option (List Nat)
 | 0,_=>some []
 | n+1,l=>if l=[] then some [] else if (pnt l).2=0 then none else (ptsF n (l.drop (pnt l).2)).map ((pnt l).1 :: ·)
def pts (l:List UInt8):Option (List Nat):=ptsF l.length l
theorem ptsF_enc:∀ (cs:List Nat) (n:Nat),(∀ c∈cs,okc c)→(encs cs).length≤n→ptsF n (encs cs)=some cs
 | [],0,_,_=>rfl
 | [],n+1,_,_=>rfl
 | c::cs,0,_,h=>by
   rw[qR,List.length_append,jM]at h
   have:=kA1 c;omega
 | c::cs,n+1,hc,h=>by
   rw[qR]at h ⊢
   have h0:=hc c (by simp)
   have hne:enc c++encs cs≠[]:=by
    intro e
    have:=congrArg List.length e
    rw[List.length_append,jM]at this
    have:=kA1 c;rw[List.length_nil]at *;omega
   have hw:=kA1 c
   rw[List.length_append,jM]at h
   simp only[ptsF]
   rw[if_neg hne,pnt_enc h0,if_neg (by omega)]
   rw[show (enc c++encs cs).drop (wid c)=encs cs by rw[← jM c,List.drop_left],ptsF_enc cs n (fun x hx=>hc x (by simp[hx])) (by omega)]
   rfl
theorem ptsF_some:∀ (n:Nat) (l:List UInt8) (cs:List Nat),l.length≤n→ptsF n l=some cs→(∀ c∈cs,okc c)∧l=encs cs
 | 0,l,cs,h,hp=>by
   simp only[ptsF,Option.some.injEq]at hp;subst hp
   exact ⟨by simp,List.eq_nil_of_length_eq_zero (by omega)⟩
 | n+1,l,cs,h,hp=>by
   simp only[ptsF]at hp
   split at hp
   ·rename_i hl
    simp only[Option.some.injEq]at hp;subst hp
    exact ⟨by simp,hl⟩
   ·rename_i hne
    split at hp
    ·cases hp
    ·rename_i hn
     obtain ⟨h1,h2,h3⟩:=kFX hne hn
     cases hr:ptsF n (l.drop (pnt l).2) with
     | none=>rw [hr] at hp;cases hp
     | some ds =>
       rw[hr]at hp
       simp only[Option.map_some,Option.some.injEq]at hp
       subst hp
       have hw:=kA1 (pnt l).1
       obtain ⟨h4,h5⟩:=ptsF_some n _ ds (by rw[List.length_drop];omega) hr
       refine ⟨fun c hc=>?_,?_⟩
       ·rcases List.mem_cons.1 hc with rfl|hc
        ·exact h1
        ·exact h4 c hc
       ·rw[qR,← h5];exact h3
theorem kFb {cs:List Nat} (h:∀ c∈cs,okc c):pts (encs cs)=some cs:=ptsF_enc cs _ h (Nat.le_refl _)
theorem kA5 {l:List UInt8} {cs:List Nat} (h:pts l=some cs):(∀ c∈cs,okc c)∧l=encs cs:=ptsF_some _ l cs (Nat.le_refl _) h
theorem pts_nil:pts []=some []:=rfl
theorem pts_step {l:List UInt8} (hne:l≠[]):pts l=if (pnt l).2=0 then none else (pts (l.drop (pnt l).2)).map ((pnt l).1 :: ·):=by
 cases hp:pts l with
 | some cs =>
   obtain ⟨h1,h2⟩:=kA5 hp
   cases cs with
   | nil=>exact absurd h2 hne
   | cons c cs =>
     subst h2
     rw[qR,pnt_enc (h1 c (by simp)),if_neg (by have:=kA1 c;omega)]
     simp only
     rw[show (enc c++encs cs).drop (wid c)=encs cs by rw[← jM c,List.drop_left],kFb fun x hx=>h1 x (by simp[hx])]
     rfl
 | none =>
   split
   ·rfl
   ·rename_i hn
    obtain ⟨h1,h2,h3⟩:=kFX hne hn
    cases hr:pts (l.drop (pnt l).2) with
    | none=>rfl
    | some ds =>
      obtain ⟨h4,h5⟩:=kA5 hr
      rw[h5]at h3
      rw[← qR]at h3
      rw[h3,kFb]at hp
      ·cases hp
      ·intro c hc
       rcases List.mem_cons.1 hc with rfl|hc
       ·exact h1
       ·exact h4 c hc
theorem enc_zero {c:Nat} (h:okc c):(0:UInt8) ∉ enc c:=by
 have key:∀ n:Nat,0 < n→n < 256→(0:UInt8)≠bt n:=by
  intro n h1 h2 he
  have:=congrArg UInt8.toNat he
  rw[kAp h2]at this
  simp at this;omega
 obtain ⟨h1,h2,h3⟩:=h
 unfold enc
 repeat' split
 all_goals
  simp only[List.mem_cons,List.not_mem_nil,or_false,not_or]
  repeat' apply And.intro
  all_goals exact key _ (by omega) (by omega)
theorem valid_pts:∀ (n:Nat) (l:List UInt8),l.length≤n→(validD l && !(l.contains 0))=(pts l).isSome
 | n,[],_=>rfl
 | 0,x::l,h=>by simp at h
 | n+1,x::l,h=>by
   have hne:x::l≠[]:=by simp
   rw[pts_step hne,validD_step _ hne]
   have hw:=decodeL_width (x::l)
   by_cases hv:(decodeL (x::l)).1=65533∧(decodeL (x::l)).2=1
   ·rw[if_pos hv]
    have:pnt (x::l)=(0,0):=by unfold pnt;rw[if_pos (.inl hv)]
    rw[this];rfl
   ·rw[if_neg hv]
    obtain ⟨h1,h2,h3⟩:=kDJ hne hv
    by_cases h0:(decodeL (x::l)).1=0
    ·have:pnt (x::l)=(0,0):=by unfold pnt;rw[if_pos (.inr h0)]
     rw[this]
     have hx:x=0:=by
      rw[h0]at h3
      have:(enc 0++(x::l).drop (decodeL (x::l)).2).head? = some 0:=by rfl
      rw[← h3]at this
      simpa using this
     simp[hx]
    ·have hp:pnt (x::l)=decodeL (x::l):=by unfold pnt;rw[if_neg (by rw[not_or];exact ⟨hv,h0⟩)]
     rw[hp,if_neg (by omega)]
     have ih:=valid_pts n ((x::l).drop (decodeL (x::l)).2) (by rw[List.length_drop];omega)
     have hz:=enc_zero (h1.resolve_right h0)
     have e:(x::l).contains 0=((x::l).drop (decodeL (x::l)).2).contains 0:=by
      conv=>lhs;rw[h3]
      rw[List.contains_append]
      have:(enc (decodeL (x::l)).1).contains 0=false:=by
       rw[← Bool.not_eq_true,List.contains_iff_mem];exact hz
      rw[this,Bool.false_or]
     rw[e,ih]
     cases pts ((x::l).drop (decodeL (x::l)).2)<;>rfl
theorem enc_cont {c j:Nat} (h:okc c) (h1:1≤j) (h2:j < wid c):128≤((enc c).getD j 0).toNat∧((enc c).getD j 0).toNat < 192:=by
 obtain ⟨_,h4,_⟩:=h
 unfold wid at h2
 unfold enc
 split
 ·rename_i hc;rw[if_pos hc]at h2;omega
 ·rename_i hc
  rw[if_neg hc]at h2
  split
  ·rename_i hd
   rw[if_pos hd]at h2
   have:j=1:=by omega
   subst this
   simp only[List.getD_cons_succ,List.getD_cons_zero]
   rw[kAp (by omega)];omega
  ·rename_i hd
   rw[if_neg hd]at h2
   split
   ·rename_i he
    rw[if_pos he]at h2
    have:j=1∨j=2:=by omega
    rcases this with rfl|rfl<;>simp only[List.getD_cons_succ,List.getD_cons_zero]<;>rw[kAp (by omega)]<;>omega
   ·rename_i he
    rw[if_neg he]at h2
    have:j=1∨j=2∨j=3:=by omega
    rcases this with rfl|rfl|rfl<;>simp only[List.getD_cons_succ,List.getD_cons_zero]<;>rw[kAp (by omega)]<;>omega
theorem enc_head {c:Nat} (h:okc c):((enc c).getD 0 0).toNat < 128∨192≤((enc c).getD 0 0).toNat:=by
 obtain ⟨_,h4,_⟩:=h
 unfold enc
 repeat' split
 all_goals
  simp only[List.getD_cons_zero]
  rw[kAp (by omega)];omega
theorem getD_mid {a b r:List UInt8} {j:Nat} (h:j < b.length):(a++(b++r)).getD (a.length+j) 0=b.getD j 0:=by
 simp only[List.getD_eq_getElem?_getD]
 rw[List.getElem?_append_right (by omega),show a.length+j - a.length=j by omega,List.getElem?_append_left h]
theorem encs_pos {c:Nat} {cs:List Nat}:1≤(encs (c::cs)).length:=by
 rw[qR,List.length_append,jM];have:=kA1 c;omega
theorem encs_le (cs:List Nat):cs.length≤(encs cs).length:=by
 induction cs with
 | nil=>simp
 | cons c cs ih=>rw [qR,List.length_append,jM];have:=kA1 c;simp only [List.length_cons];omega
theorem encs_ge (cs:List Nat):(encs cs).length≤4 * cs.length:=by
 induction cs with
 | nil=>simp [encs]
 | cons c cs ih=>rw [qR,List.length_append,jM];have:=wid_le c;simp only [List.length_cons];omega
theorem kDX (l:List UInt8) (p:Nat):decodeL (l.drop p)=Utf8.decode ⟨l.toArray⟩ p:=decodeL_drop ⟨l.toArray⟩ p
theorem decode_mid {pre post:List Nat} {c:Nat} (h:okc c):Utf8.decode ⟨(encs (pre++c::post)).toArray⟩ (encs pre).length=(c,wid c):=by
 rw[← kDX,jK,List.drop_left,qR,kC0 (.inl h)]
theorem encs_snoc (pre:List Nat) (c:Nat):encs (pre++[c])=encs pre++enc c:=by rw[jK,qR,kC7,List.append_nil]
theorem encs_snoc_len (pre:List Nat) (c:Nat):(encs (pre++[c])).length=(encs pre).length+wid c:=by rw[encs_snoc,List.length_append,jM]
theorem kAH (c:Nat) (cs:List Nat):(encs (c::cs)).length=wid c+(encs cs).length:=by rw[qR,List.length_append,jM]
theorem kBB (a b:List Nat):(encs (a++b)).length=(encs a).length+(encs b).length:=by rw[jK,List.length_append]
theorem encs_take_le (cs:List Nat) (n:Nat):(encs (cs.take n)).length≤(encs cs).length:=by
 conv=>rhs;rw[← List.take_append_drop n cs,kBB]
 omega
theorem kHA (cs:List Nat) {a b:Nat} (h:a≤b):cs.take b=cs.take a++(cs.drop a).take (b - a):=by
 rw[show b=a+(b - a) by omega,List.take_add]
 simp
theorem encs_slice (cs:List Nat) {a b:Nat} (h:a≤b):((encs cs).drop (encs (cs.take a)).length).take ((encs (cs.take b)).length - (encs (cs.take a)).length)=encs ((cs.drop a).take (b - a)):=by
 rw[kHA cs h,kBB,Nat.add_sub_cancel_left]
 have e2:encs cs=encs (cs.take a)++encs (cs.drop a):=by rw[← jK,List.take_append_drop]
 rw[e2,List.drop_left]
 have e3:encs (cs.drop a)=encs ((cs.drop a).take (b - a))++encs ((cs.drop a).drop (b - a)):=by rw[← jK,List.take_append_drop]
 rw[e3,List.take_left]
theorem kGb (cs:List Nat) {a b:Nat} (h:a≤b):(encs (cs.take a)).length≤(encs (cs.take b)).length:=by
 rw[kHA cs h,kBB];omega
def pntd (d:Nat×Nat):Nat×Nat:=if (d.1=65533∧d.2=1)∨d.1=0 then (0,0) else d
theorem pnt_at (l:List UInt8) (i:Nat):pnt (l.drop i)=pntd (decodeN (l.length - i) (l.getD i 0).toNat (l.getD (i+1) 0).toNat (l.getD (i+2) 0).toNat (l.getD (i+3) 0).toNat):=by
 unfold pnt pntd
 rw[decodeL_N]
 simp only[List.length_drop,List.getD_eq_getElem?_getD,List.getElem?_drop,Nat.add_zero]
theorem pntd_one {n b0 b1 b2 b3:Nat} (h0:b0 < 256) (h1:b1 < 256) (h2:b2 < 256) (h3:b3 < 256) (ha:1≤b0) (hb:b0 < 128):pntd (decodeN n b0 b1 b2 b3)=(b0,1):=by
 rcases decodeN_shape n b0 b1 b2 b3 with ⟨c,e⟩|⟨c1,c2,c3,cv,e⟩|⟨c1,c2,c3,c4,cv,cs,e⟩|⟨c1,c2,c3,c4,c5,cv,cw,e⟩|e
 ·rw[e];simp only[pntd];rw[if_neg (by omega)]
 ·omega
 ·omega
 ·omega
 ·exfalso
  unfold decodeN at e
  rw[if_pos hb]at e
  simp only[Prod.mk.injEq]at e;omega
theorem pntd_bad {n b0 b1 b2 b3:Nat} (h0:b0 < 256) (h1:b1 < 256) (h2:b2 < 256) (h3:b3 < 256) (ha:b0=0∨(128≤b0∧b0 < 194)∨245≤b0):pntd (decodeN n b0 b1 b2 b3)=(0,0):=by
 rcases decodeN_shape n b0 b1 b2 b3 with ⟨c,e⟩|⟨c1,c2,c3,cv,e⟩|⟨c1,c2,c3,c4,cv,cs,e⟩|⟨c1,c2,c3,c4,c5,cv,cw,e⟩|e
 ·rw[e];simp only[pntd];rw[if_pos (by omega)]
 ·omega
 ·omega
 ·omega
 ·rw[e];rfl
theorem pntd_two {n b0 b1 b2 b3:Nat} (h0:b0 < 256) (h1:b1 < 256) (h2:b2 < 256) (h3:b3 < 256) (ha:194≤b0∧b0 < 224):pntd (decodeN n b0 b1 b2 b3)=if 1 < n∧b1 / 64=2 then (b0 % 32 * 64+b1 % 64,2) else (0,0):=by
 unfold decodeN
 rw[if_neg (by omega)]
 by_cases hc:1 < n∧b1 / 64=2
 ·rw[if_pos ⟨by omega,hc⟩,if_pos (by omega),if_pos hc]
  simp only[pntd]
  rw[if_neg (by omega)]
 ·rw[if_neg (by omega),if_neg (by omega),if_neg (by omega),if_neg hc];rfl
theorem kEH {n b0 b1 b2 b3:Nat} (h0:b0 < 256) (h1:b1 < 256) (h2:b2 < 256) (h3:b3 < 256) (ha:224≤b0∧b0 < 240):pntd (decodeN n b0 b1 b2 b3)=if 2 < n∧b1 / 64=2∧b2 / 64=2∧2048≤b0 % 16 * 4096+b1 % 64 * 64+b2 % 64∧(b0 % 16 * 4096+b1 % 64 * 64+b2 % 64 < 55296∨57344≤b0 % 16 * 4096+b1 % 64 * 64+b2 % 64) then (b0 % 16 * 4096+b1 % 64 * 64+b2 % 64,3) else (0,0):=by
 unfold decodeN
 rw[if_neg (by omega),if_neg (by omega)]
 by_cases hc:2 < n∧b1 / 64=2∧b2 / 64=2
 ·rw[if_pos (by omega)]
  by_cases hd:2048≤b0 % 16 * 4096+b1 % 64 * 64+b2 % 64∧(b0 % 16 * 4096+b1 % 64 * 64+b2 % 64 < 55296∨57344≤b0 % 16 * 4096+b1 % 64 * 64+b2 % 64)
  ·rw[if_pos (by omega),if_pos (by omega)]
   simp only[pntd]
   rw[if_neg (by omega)]
  ·rw[if_neg (by omega),if_neg (by omega)];rfl
 ·rw[if_neg (by omega),if_neg (by omega),if_neg (by omega)];rfl
theorem kFa {n b0 b1 b2 b3:Nat} (h0:b0 < 256) (h1:b1 < 256) (h2:b2 < 256) (h3:b3 < 256) (ha:240≤b0∧b0 < 245):pntd (decodeN n b0 b1 b2 b3)=if 3 < n∧b1 / 64=2∧b2 / 64=2∧b3 / 64=2∧65536≤b0 % 8 * 262144+b1 % 64 * 4096+b2 % 64 * 64+b3 % 64∧b0 % 8 * 262144+b1 % 64 * 4096+b2 % 64 * 64+b3 % 64≤1114111 then (b0 % 8 * 262144+b1 % 64 * 4096+b2 % 64 * 64+b3 % 64,4) else (0,0):=by
 unfold decodeN
 rw[if_neg (by omega),if_neg (by omega),if_neg (by omega)]
 by_cases hc:3 < n∧b1 / 64=2∧b2 / 64=2∧b3 / 64=2
 ·rw[if_pos (by omega)]
  by_cases hd:65536≤b0 % 8 * 262144+b1 % 64 * 4096+b2 % 64 * 64+b3 % 64∧b0 % 8 * 262144+b1 % 64 * 4096+b2 % 64 * 64+b3 % 64≤1114111
  ·rw[if_pos (by omega),if_pos (by omega)]
   simp only[pntd]
   rw[if_neg (by omega)]
  ·rw[if_neg (by omega),if_neg (by omega)];rfl
 ·rw[if_neg (by omega),if_neg (by omega)];rfl
end Go.Rw
-- RwOps
namespace Go.Rw
open Go Go.Lib
structure Cp where
 k:Int
 n:Int
 t:List UInt8
 deriving Inhabited,DecidableEq
def cA (c:Cp):AV:=.agg [.v (.int .i64 c.k),.v (.int .i64 c.n),.v (sv c.t)]
def qI (l:List Cp):List AV:=l.map cA
theorem kAD:qI []=[]:=rfl
theorem kM (l:List Cp):(qI l).length=l.length:=by simp[qI]
theorem qN (l:List Cp) {i:Nat} (h:i < l.length):(qI l).getD i .any = .agg [.v (.int .i64 l[i].k),.v (.int .i64 l[i].n),.v (sv l[i].t)]:=by
 simp[qI,cA,List.getD_eq_getElem?_getD,h]
def addI (n m:Int):Int:=min (n+m) 1099511627776
def kEj:Int→List Cp→Int
 | n,[]=>n
 | n,c::r=>kEj (if c.k=1∨c.k=3 then addI n (max c.n 0) else n) r
def kA9 (l:List Cp):Int:=kEj 0 l
theorem zA {n m:Int} (h:0≤n) (hm:0≤m):0≤addI n m∧addI n m≤1099511627776:=by unfold addI;omega
def lcF:Nat→List UInt8→Nat
 | 0,_=>0
 | f+1,l=>if l=[] then 0 else 1+lcF f (l.drop (decodeL l).2)
def lc (l:List UInt8):Nat:=lcF l.length l
theorem lcF_fuel:∀ (f g:Nat) (l:List UInt8),l.length≤f→l.length≤g→lcF f l=lcF g l
 | 0,0,_,_,_=>rfl
 | 0,g+1,l,h,_=>by
   have:l=[]:=List.eq_nil_of_length_eq_zero (by omega)
   subst this;simp[lcF]
 | f+1,0,l,_,h=>by
   have:l=[]:=List.eq_nil_of_length_eq_zero (by omega)
   subst this;simp[lcF]
 | f+1,g+1,l,h1,h2=>by
   simp only[lcF]
   split
   ·rfl
   ·rename_i hc
    have:=List.length_pos_iff.2 hc
    have hw:=decodeL_width l
    rw[lcF_fuel f g _ (by rw[List.length_drop];omega) (by rw[List.length_drop];omega)]
theorem lc_nil:lc []=0:=rfl
theorem lc_step {l:List UInt8} (h:l≠[]):lc l=1+lc (l.drop (decodeL l).2):=by
 unfold lc
 have hpos:=List.length_pos_iff.2 h
 have hw:=decodeL_width l
 obtain ⟨f,hf⟩:∃ f,l.length=f+1:=⟨l.length - 1,by omega⟩
 rw[hf]
 simp only[lcF]
 rw[if_neg h,lcF_fuel f _ _ (by rw[List.length_drop];omega) (Nat.le_refl _)]
theorem lc_le:∀ (f:Nat) (l:List UInt8),l.length≤f→lc l≤l.length
 | 0,l,h=>by
   have:l=[]:=List.eq_nil_of_length_eq_zero (by omega)
   subst this;simp[lc_nil]
 | f+1,l,h=>by
   by_cases hl:l=[]
   ·subst hl;simp[lc_nil]
   ·have hpos:=List.length_pos_iff.2 hl
    have hw:=decodeL_width l
    rw[lc_step hl]
    have:=lc_le f (l.drop (decodeL l).2) (by rw[List.length_drop];omega)
    rw[List.length_drop]at this
    omega
theorem lc_len (l:List UInt8):lc l≤l.length:=lc_le _ l (Nat.le_refl _)
theorem lc_encs:∀ cs:List Nat,(∀ c∈cs,okc c)→lc (encs cs)=cs.length
 | [],_=>rfl
 | c::cs,h=>by
   have hw:=kA1 c
   have hne:encs (c::cs)≠[]:=by
    intro e
    have h2:=congrArg List.length e
    rw[kAH,List.length_nil]at h2;omega
   rw[lc_step hne,qR,kC0 (.inl (h c (by simp)))]
   simp only
   rw[show (enc c++encs cs).drop (wid c)=encs cs by rw[← jM c,List.drop_left],lc_encs cs fun x hx=>h x (by simp[hx]),List.length_cons];omega
def outF:Int→List Cp→Int
 | n,[]=>n
 | n,c::r=>outF (if c.k=1 then addI n (max c.n 0) else if c.k=2 then addI n (lc c.t) else n) r
def outL (l:List Cp):Int:=outF 0 l
def qY (c:Cp):Bool:=if c.k=2 then decide (c.n=0) && decide (c.t≠[]) && (pts c.t).isSome else if c.k=1∨c.k=3 then decide (c.n > 0) && decide (c.t=[]) else false
def someC (c:Cp):Bool:=if c.k=2 then decide (c.t≠[]) else (decide (c.k=1) || decide (c.k=3)) && decide (c.n > 0)
def follows (p c:Cp):Bool:=!(decide (p.k=c.k) || (decide (p.k=3) && decide (c.k=2)))
def jF:Option Cp→List Cp→Bool
 | _,[]=>true
 | p,c::r=>qY c && (match p with|none=>true|some q=>follows q c) && jF (some c) r
def qT (l:List Cp):Bool:=jF none l
def qV (l:List Cp):Int:=if l.length > 100 then 3 else if qT l=false then 1 else if kA9 l > 2000∨outL l > 2000 then 3 else 0
def tot:List Cp→Nat
 | []=>0
 | c::r=>c.t.length+tot r
theorem kCQ:∀ a b:List Cp,tot (a++b)=tot a+tot b
 | [],b=>by simp [tot]
 | c::a,b=>by simp only [List.cons_append,tot,kCQ a b];omega
theorem tot_mem:∀ {l:List Cp} {c:Cp},c∈l→c.t.length≤tot l
 | x::l,c,h=>by
   simp only[tot]
   rcases List.mem_cons.1 h with rfl|h
   ·omega
   ·have:=tot_mem h;omega
def okL (l:List Cp):Prop:=l.length≤1099511627776∧tot l≤1099511627776∧∀ c∈l,-9223372036854775808≤c.n∧c.n≤9223372036854775807
theorem okL.text {l:List Cp} (h:okL l) {c:Cp} (hc:c∈l):c.t.length≤1099511627776:=by
 have:=tot_mem hc
 have:=h.2.1
 omega
def putL (k:Int) (t:List UInt8) (g:Int):List Cp :=
 (if k > 0 then [⟨1,k,[]⟩] else [])++((if t≠[] then [⟨2,0,t⟩] else [])++(if g > 0 then [⟨3,g,[]⟩] else []))
def nfF:Int→List UInt8→Int→List Cp→List Cp
 | k,t,g,[]=>putL k t g
 | k,t,g,c::r =>
   if someC c=false then nfF k t g r
   else if c.k=2 then nfF k (t++c.t) g r
   else if c.k=3 then nfF k t (addI g c.n) r
   else if t≠[]∨g > 0 then putL k t g++nfF (addI 0 c.n) [] 0 r
   else nfF (addI k c.n) t g r
def nf (l:List Cp):List Cp:=nfF 0 [] 0 l
end Go.Rw
-- RwTxt
namespace Go.Rw
open Go Go.Lib
def i32s (cs:List Nat):List AV:=ints .i32 (cs.map fun (c:Nat)=>(c:Int))
theorem kEp (cs:List Nat):(i32s cs).length=cs.length:=by simp[i32s,ints]
theorem i32s_part (cs:List Nat) (i j:Nat):((i32s cs).drop i).take j=i32s ((cs.drop i).take j):=by simp[i32s,ints,List.map_drop,List.map_take]
theorem i32sOf_i32s (cs:List Nat):kBl (i32s cs)=some (cs.map fun (c:Nat)=>(c:Int)):=kF9
theorem encode_enc {c:Nat} (h:okc c):Utf8.encode (c:Int)=⟨(enc c).toArray⟩:=by
 obtain ⟨h1,h2,h3⟩:=h
 have hv:Utf8.valid (c:Int)=true:=by
  unfold Utf8.valid
  simp only[Bool.or_eq_true,Bool.and_eq_true,decide_eq_true_eq]
  omega
 unfold Utf8.encode enc
 simp only[hv,if_true,Int.toNat_natCast]
 repeat' split
 all_goals rfl
theorem kGQ:∀ (ns:List Int) (s:ByteArray),(ns.foldl (fun r n=>r++Utf8.encode n) s).data.toList=s.data.toList++ns.flatMap fun n=>(Utf8.encode n).data.toList
 | [],s=>by simp
 | n::ns,s=>by
   rw[List.foldl_cons,kGQ ns]
   simp
theorem utfL_encs {cs:List Nat} (h:∀ c∈cs,okc c):utfL (cs.map fun (c:Nat)=>(c:Int))=encs cs:=by
 unfold utfL runesBytes
 rw[kGQ]
 show []++_=_
 rw[List.nil_append]
 induction cs with
 | nil=>rfl
 | cons c cs ih =>
   rw[List.map_cons,List.flatMap_cons,ih (fun x hx=>h x (by simp[hx])),encode_enc (h c (by simp)),qR]
theorem kCt {s:List UInt8}:∀ (post pre:List Nat) (bound:Nat) (acc:Array Value),s=encs (pre++post)→(∀ c∈post,okc c)→post.length≤bound →
    (Conv.runesFrom ⟨s.toArray⟩ bound (encs pre).length acc).toList=acc.toList++post.map fun (c:Nat)=>Value.int .i32 (c:Int)
 | [],pre,bound,acc,hs,h,hb=>by
   have hlt:¬ (encs pre).length < (⟨s.toArray⟩:ByteArray).size:=by
    simp[ByteArray.size,hs]
   cases bound with
   | zero=>simp [Conv.runesFrom]
   | succ n=>unfold Conv.runesFrom;rw [if_neg hlt];simp
 | c::post,pre,0,acc,hs,h,hb=>by simp at hb
 | c::post,pre,bound+1,acc,hs,h,hb=>by
   have hc:=h c (by simp)
   have hlt:(encs pre).length < (⟨s.toArray⟩:ByteArray).size:=by
    have:=kA1 c
    simp only[ByteArray.size,List.size_toArray,hs,kBB,kAH];omega
   unfold Conv.runesFrom
   rw[if_pos hlt]
   have hd:Utf8.decode ⟨s.toArray⟩ (encs pre).length=(c,wid c):=by rw[hs];exact decode_mid hc
   rw[hd]
   simp only
   rw[← encs_snoc_len,kCt post (pre++[c]) bound _ (by rw[hs];simp) (fun x hx=>h x (by simp[hx])) (by simpa using hb)]
   rw[Array.toList_push,List.append_assoc];rfl
theorem runesA_encs {cs:List Nat} (h:∀ c∈cs,okc c):runesA (encs cs)=i32s cs:=by
 have hle:=encs_le cs
 have:=kCt (s:=encs cs) cs [] (encs cs).length #[] rfl h hle
 unfold runesA jC
 show (Conv.runesFrom ⟨(encs cs).toArray⟩ (encs cs).toArray.size 0 #[]).toList.map AV.v=_
 rw[List.size_toArray,show (0:Nat)=(encs []).length from rfl,this]
 simp[i32s,ints,Function.comp_def]
theorem runesA_pts {l:List UInt8} {cs:List Nat} (h:pts l=some cs):runesA l=i32s cs:=by
 obtain ⟨h1,rfl⟩:=kA5 h
 exact runesA_encs h1
def okn (v:Int):Prop:=1≤v∧v≤1114111∧¬ (55296≤v∧v≤57343)
instance (v:Int):Decidable (okn v):=by unfold okn;infer_instance
end Go.Rw
