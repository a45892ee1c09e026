/-
 Strings,iterators,structs,calls reckoned in place: the rules for rewriting. Proved over any program. Functions that take a slice over;functions known by what they do to the machine;calls that hand back what may be gone on with. Proved over any program. A scope with a loop by one label,and jumps ahead to others. Proved over any program. The rules for rewriting,in two bundles. Proved over any program. Numbers of fixed width,within their bounds. Plain.
-/
import Derived.Test.YtnpofobcbfbfnaaGreatDoorRwD
import Derived.Laws.Strings
set_option linter.unusedSimpArgs false
set_option linter.unusedVariables false
set_option linter.defProp false
set_option linter.unusedSectionVars false

-- RwGo5
section
namespace Go.Rw
open Go Go.RowKit
def rangeC (ti:Option TI) (x:AV) (d:Option Nat) (K:AS→Prop) (σ:AS):Prop:=match ti,x with
 | some { kind:=.str,.. },.v (.string s)=>cont (σ.new (.iter s 0)) d (.ptr σ.m.nh 0) K
 | _,_=>False
def nextO (o:Option AO) (ob:Nat) (d:Option Nat) (K:AS→Prop) (σ:AS):Prop:=match o with
 | some (.iter s pos)=>if pos < s.size then cont { σ with m:=σ.m.setObj ob (.iter s (pos+(Utf8.decode s pos).2)) } d (.tup [.v (.bool true),.v (.int .i64 pos),.v (.int .i32 (Utf8.decode s pos).1)]) K
     else cont σ d (.tup [.v (.bool false)]) K
 | _=>False
def nextC (x:AV) (d:Option Nat) (K:AS→Prop) (σ:AS):Prop:=match x with
 | .ptr ob 0=>nextO (σ.m.h ob) ob d K σ
 | _=>False
def buildC (P:Program) (t:TypeId) (ps:List (Nat×AV)):Option AV:=buildA P t ps
def buildArr (ie:Option TI) (z:Array Value) (ps:List (Nat×AV)):Option AV:=match ie with
 | some ie=>(kCK (fun i=>some (i * ie.size,ie.size)) (z.toList.map ofV1) ps).map .agg
 | none=>none
def buildIn (P:Program) (ti:Option TI) (ps:List (Nat×AV)):Option AV:=match ti with
 | some { kind:=.st fs,zero:=some (.agg z),hints,.. }=>if fs.all (fun p=>0 < p.2) then (kCK (fs[·]?) (kDt hints z.toList) ps).map .agg else none
 | some { kind:=.arr _ e,zero:=some (.agg z),.. }=>buildArr (tiOf P e) z ps
 | _=>none
def fillB (place:Nat→Option (Nat×Nat)) (p:Option (Nat×Nat)) (c:Option (List AV)) (cs:List AV) (r:List (Nat×AV)):Option (List AV):=match p,c with
 | some (off,size),some vs=>if vs.length=size∧off+size≤cs.length then kCK place (cs.take off++vs++cs.drop (off+size)) r else none
 | _,_=>none
def complexA {P:Program} (x y:AV):Option AV:=match x,y with
 | .v a,.v b=>res P (Builtin.complex_ #[] 0 #[a,b])
 | _,_=>none
def kCM (t:Nat→AV) (hd:Nat→Nat→AV):Nat→Nat→AV
 | 0=>t
 | j+1=>hd j
def topH (hd:Nat→Nat→AV):Nat→AV:=hd 0
def popH (hd:Nat→Nat→AV):Nat→Nat→AV:=fun j=>hd (j+1)
def turnT (fm:Nat→Nat) (l n:Nat) (zs:List AV) (t:Nat→AV):Nat→AV:=fun i=>(t i).turn fm l n zs
def turnH (fm:Nat→Nat) (l n:Nat) (zs:List AV) (hd:Nat→Nat→AV):Nat→Nat→AV:=fun k i=>(hd k i).turn fm l n zs
def inlP (n:Nat) (d:Option Nat) (K:AS→Prop) (t:Nat→AV) (hd:Nat→Nat→AV) (m:AM):Option (List AV)→Prop
 | some bs=>cont ⟨n,t,hd,m⟩ d (kA5 bs) K
 | none=>False
def inlR (P:Program) (rs:List ResultVar) (n:Nat) (d:Option Nat) (K:AS→Prop):Exit→AS→Prop
 | .normal,σ|.ret,σ=>inlP n d K (topH σ.hd) (popH σ.hd) σ.m (resL P σ rs)
 | _,_=>False
section
variable {P:Program} [Tabs] {Γ:Env} {σ:AS} {Q:Exit→AS→Prop} {K:AS→Prop} {dr:Bool} {n:Nat} {t:Nat→AV} {hd:Nat→Nat→AV} {m:AM} {d:Option Nat} {ty:TypeId} {pos:String} {after:Array Edge} {g:Option (Nat×Bool)}
variable {nh nl:Nat} {h:Nat→Option AO} {fm:Nat→Nat} {lv:Nat→Option (Nat×Nat)} {mu:Bool} {k:IntKind}
omit [Tabs] in
theorem ofV_ptr {p:Option Addr}:ofV (.pointer p) = .v (.pointer p):=rfl
omit [Tabs] in
theorem ofVh_ptr {hs:List Nat} {p:Option Addr}:ofVh hs (.pointer p) = .v (.pointer p):=rfl
-- iterators over strings
theorem op_range {t:TypeId} {x:Operand}:vcOp P Γ false σ ⟨d,.range t x,ty,pos,after,g⟩ K=rangeC (tiOf P t) (ev σ x) d K σ:=by
 simp only[vcOp,true_and,rangeC]
 cases ev σ x with
 | v y =>
   cases y with
   | string s =>
     cases tiOf P t with
     | none=>rfl
     | some ti=>obtain ⟨_,_,_,k,_⟩:=ti;cases k<;>rfl
   | _=>cases tiOf P t with
     | none=>rfl
     | some ti=>obtain ⟨_,_,_,k,_⟩:=ti;cases k<;>rfl
 | _=>cases tiOf P t with
   | none=>rfl
   | some ti=>obtain ⟨_,_,_,k,_⟩:=ti;cases k<;>rfl
omit [Tabs] in
theorem rangeC_eq {sz by_:Nat} {z:Option Value} {hs:List Nat} {l:List UInt8}:rangeC (some ⟨sz,by_,z,.str,hs⟩) (.v (sv l)) d K ⟨n,t,hd,⟨nh,h,nl,fm,lv,mu⟩⟩ =
    cont ⟨n,t,hd,⟨nh+1,upd h nh (some (.iter ⟨l.toArray⟩ 0)),nl,fm,lv,mu⟩⟩ d (.ptr nh 0) K:=rfl
theorem op_next {x:Operand}:vcOp P Γ false σ ⟨d,.next x true,ty,pos,after,g⟩ K=nextC (ev σ x) d K σ:=by
 simp only[vcOp,true_and,nextC,nextO]
 cases ev σ x with
 | ptr o k=>cases k<;>rfl
 | _=>rfl
omit [Tabs] in
theorem nextC_eq {ob:Nat}:nextC (.ptr ob 0) d K ⟨n,t,hd,⟨nh,h,nl,fm,lv,mu⟩⟩=nextO (h ob) ob d K ⟨n,t,hd,⟨nh,h,nl,fm,lv,mu⟩⟩:=rfl
def dec1 (l:List UInt8) (p:Nat):Nat:=(Utf8.decode ⟨l.toArray⟩ p).1
def dec2 (l:List UInt8) (p:Nat):Nat:=(Utf8.decode ⟨l.toArray⟩ p).2
omit [Tabs] in
theorem nextO_in {ob p:Nat} {l:List UInt8} (hp:p < l.length):nextO (some (.iter ⟨l.toArray⟩ p)) ob d K ⟨n,t,hd,⟨nh,h,nl,fm,lv,mu⟩⟩ =
    cont ⟨n,t,hd,⟨nh,upd h ob (some (.iter ⟨l.toArray⟩ (p+dec2 l p))),nl,fm,lv,mu⟩⟩ d (.tup [.v (.bool true),.v (.int .i64 p),.v (.int .i32 (dec1 l p))]) K:=by
 simp only[nextO]
 rw[if_pos (show p < (⟨l.toArray⟩:ByteArray).size from by simpa [ByteArray.size] using hp)]
 rfl
omit [Tabs] in
theorem nextO_end {ob p:Nat} {l:List UInt8} (hp:¬ p < l.length):nextO (some (.iter ⟨l.toArray⟩ p)) ob d K σ = cont σ d (.tup [.v (.bool false)]) K:=by
 simp only[nextO]
 rw[if_neg (show ¬ p < (⟨l.toArray⟩:ByteArray).size from by simpa [ByteArray.size] using hp)]
omit [Tabs] in
theorem kBP {α:Type} {x y:Int} {code:BoundsCode}:calm P (boundsPanic k x y code:Sem α)=none:=by
 unfold boundsPanic
 simp only[]
 split
 ·rfl
 ·rfl
def indexD (P:Program) (t:TypeId) (a i:AV):Option AV:=indexA P t a i
omit [Tabs] in
theorem index_str {t:TypeId} {l:List UInt8} {i:Int}:indexA P t (.v (sv l)) (.v (.int k i))=indexStr (P.underlying t) (indexD P t (.v (sv l)) (.v (.int k i))) i l:=by
 unfold indexStr
 split
 ·rename_i hu
  split
  ·rename_i hi
   have hlt:i.toNat < l.length:=by omega
   have e1:(⟨l.toArray⟩:ByteArray)[i.toNat]? = some (l.getD i.toNat 0):=by
    rw[List.getD_eq_getElem?_getD,List.getElem?_eq_getElem hlt]
    show (if h:i.toNat < (⟨l.toArray⟩:ByteArray).size then some ((⟨l.toArray⟩:ByteArray)[i.toNat]'h) else none)=_
    rw[dif_pos (by simpa [ByteArray.size] using hlt)]
    rfl
   have e2:calm P (Instr.index t (sv l) (.int k i))=some (.int .u8 (l.getD i.toNat 0).toNat):=by
    unfold Instr.index
    simp only[sv,asIntOf,kY,z7,Option.bind_some,underlying,qH,hu,if_pos hi.1,e1]
   show (calm P (Instr.index t (sv l) (.int k i))).map AV.v=_
   rw[e2];rfl
  ·rename_i hi
   show (calm P (Instr.index t (sv l) (.int k i))).map AV.v=none
   have e1:(if 0≤i then (⟨l.toArray⟩:ByteArray)[i.toNat]? else none)=none:=by
    split
    ·rename_i h0
     show (if h:i.toNat < (⟨l.toArray⟩:ByteArray).size then some ((⟨l.toArray⟩:ByteArray)[i.toNat]'h) else none)=_
     rw[dif_neg]
     intro hc
     have:i.toNat < l.length:=by simpa [ByteArray.size] using hc
     omega
    ·rfl
   unfold Instr.index
   simp only[sv,asIntOf,kY,z7,Option.bind_some,underlying,qH,hu,e1,kBP]
   rfl
 ·rfl
omit [Tabs] in
theorem indexStr_eq {x:Option AV} {l:List UInt8} {i:Int}:indexStr (some .string) x i l=if 0≤i∧i < l.length then some (.v (.int .u8 (l.getD i.toNat 0).toNat)) else none:=rfl
omit [Tabs] in
theorem kFT {i:Int} {m:Nat} {code:BoundsCode}:calm P (Instr.sliceBound (.int k i) m code)=if 0≤i∧i≤m then some i.toNat else none:=by
 unfold Instr.sliceBound
 simp only[asIntOf,kY,z7,Option.bind_some]
 split
 ·rfl
 ·exact kBP
omit [Tabs] in
theorem sv_extract {l:List UInt8} {i j:Nat} (hj:j≤l.length):Value.string ((⟨l.toArray⟩:ByteArray).extract i j)=sv ((l.drop i).take (j - i)):=by
 unfold sv
 congr 1
 apply ByteArray.ext
 simp[List.take_drop]
omit [Tabs] in
theorem size_sv {l:List UInt8}:(⟨l.toArray⟩:ByteArray).size=l.length:=by simp[ByteArray.size]
def sliceS (u:Option TypeDesc) (dflt:Option AV) (i j:Int) (l:List UInt8):Option AV:=match u with
 | some .string=>if 0≤i∧i≤j∧j≤l.length then some (.v (sv ((l.drop i.toNat).take (j.toNat - i.toNat)))) else none
 | _=>dflt
omit [Tabs] in
theorem sliceS_eq {x:Option AV} {l:List UInt8} {i j:Int}:sliceS (some .string) x i j l=if 0≤i∧i≤j∧j≤l.length then some (.v (sv ((l.drop i.toNat).take (j.toNat - i.toNat)))) else none:=rfl
def sliceD (P:Program) (t:TypeId) (a:AV) (lo hi:Option AV):Option AV:=kBU P t a lo hi
omit [Tabs] in
theorem sliceP_str {t:TypeId} {l:List UInt8} {lo hi:Option AV} {lo' hi':Option Value} {i j:Int} (hlo:optA lo=some lo') (hhi:optA hi=some hi') (hi1:(lo'=none∧i=0)∨(∃ k,lo'=some (.int k i))) (hj1:(hi'=none∧j=l.length)∨(∃ k,hi'=some (.int k j))) :
    kBU P t (.v (sv l)) lo hi=sliceS (P.underlying t) (sliceD P t (.v (sv l)) lo hi) i j l:=by
 unfold sliceS
 split
 ·rename_i hu
  simp only[kBU,hlo,hhi]
  have key:calm P (Instr.sliceAt t (sv l) lo' hi' none)=if 0≤i∧i≤j∧j≤l.length then some (sv ((l.drop i.toNat).take (j.toNat - i.toNat))) else none:=by
   have hb:calm P (Instr.sliceBounds false l.length l.length lo' hi' none)=if 0≤i∧i≤j∧j≤l.length then some (i.toNat,j.toNat,l.length) else none:=by
    rcases hi1 with ⟨rfl,rfl⟩|⟨k1,rfl⟩<;>rcases hj1 with ⟨rfl,rfl⟩|⟨k2,rfl⟩ <;>
     simp only[Instr.sliceBounds,kY,z7,Option.bind_some,kFT]
    ·simp
    ·by_cases c:0≤j∧j≤(l.length:Int)
     ·simp[c]
     ·simp only[if_neg c,Option.bind_none]
      rw[if_neg];omega
    ·by_cases c:0≤i∧i≤(l.length:Int)
     ·simp[c]
     ·simp only[if_neg c,Option.bind_none]
      rw[if_neg];omega
    ·by_cases c:0≤j∧j≤(l.length:Int)
     ·simp only[if_pos c,Option.bind_some]
      by_cases c2:0≤i∧i≤(j.toNat:Int)
      ·simp only[if_pos c2,Option.bind_some]
       rw[if_pos (by omega)]
      ·simp only[if_neg c2,Option.bind_none]
       rw[if_neg (by omega)]
     ·simp only[if_neg c,Option.bind_none]
      rw[if_neg (by omega)]
   have e1:calm P (Instr.sliceAt t (sv l) lo' hi' none)=calm P (Instr.slice t (sv l) lo' hi' none):=by
    unfold Instr.sliceAt
    simp only[kY,underlying,qH,z7,Option.bind_some,hu]
   rw[e1]
   unfold Instr.slice
   simp only[kY,underlying,qH,z7,Option.bind_some,hu,sv,size_sv,hb]
   by_cases c:0≤i∧i≤j∧j≤(l.length:Int)
   ·simp only[if_pos c,Option.isSome_none,Bool.false_eq_true,if_false,kY,hb,Option.bind_some,z7]
    have:=sv_extract (l:=l) (i:=i.toNat) (j:=j.toNat) (by omega)
    rw[this];rfl
   ·simp only[if_neg c,Option.isSome_none,Bool.false_eq_true,if_false,kY,hb,Option.bind_none]
  rw[show res P (Instr.sliceAt t (sv l) lo' hi' none)=(calm P (Instr.sliceAt t (sv l) lo' hi' none)).map AV.v from rfl,key]
  split<;>rfl
 ·rfl
omit [Tabs] in
theorem slice_sii {t:TypeId} {l:List UInt8} {i j:Int} {k2:IntKind}:kBU P t (.v (sv l)) (some (.v (.int k i))) (some (.v (.int k2 j)))=sliceS (P.underlying t) (sliceD P t (.v (sv l)) (some (.v (.int k i))) (some (.v (.int k2 j)))) i j l:=sliceP_str rfl rfl (.inr ⟨_,rfl⟩) (.inr ⟨_,rfl⟩)
-- structs
theorem op_build {t:TypeId} {l:List (Nat×Operand)}:vcOp P Γ dr σ ⟨d,.build t (List.toArray l),ty,pos,after,g⟩ K=popC (buildC P t (kCP σ l)) d K σ:=by
 rw[← zL]
 simp only[vcOp,kX,pop,pop2,Option.none_or,buildC,kAq]
omit [Tabs] in
theorem buildC_eq {t:TypeId} {ps:List (Nat×AV)}:buildC P t ps=buildIn P (tiOf P t) ps:=by
 simp only[buildC,buildA,buildIn,buildArr]<;>rfl
omit [Tabs] in
theorem buildIn_st {sz by_:Nat} {z:List Value} {fs:List (Nat×Nat)} {hs:List Nat} {ps:List (Nat×AV)}:buildIn P (some ⟨sz,by_,some (.agg (List.toArray z)),.st fs,hs⟩) ps =
    if fs.all (fun p=>decide (0 < p.2))=true then (kCK (fun i=>fs[i]?) (kDt hs z) ps).map .agg else none:=rfl
omit [Tabs] in
theorem fillA_nil {place:Nat→Option (Nat×Nat)} {cs:List AV}:kCK place cs []=some cs:=rfl
omit [Tabs] in
theorem fillA_cons {place:Nat→Option (Nat×Nat)} {cs:List AV} {i:Nat} {a:AV} {r:List (Nat×AV)}:kCK place cs ((i,a)::r)=fillB place (place i) (cellsOf a) cs r:=by
 simp only[kCK,fillB]<;>rfl
omit [Tabs] in
theorem fillB_eq {place:Nat→Option (Nat×Nat)} {off size:Nat} {vs cs:List AV} {r:List (Nat×AV)}:fillB place (some (off,size)) (some vs) cs r =
    if vs.length=size∧off+size≤cs.length then kCK place (cs.take off++vs++cs.drop (off+size)) r else none:=rfl
omit [Tabs] in
theorem zeroL_nil {hs:List Nat}:kDt hs []=[]:=rfl
omit [Tabs] in
theorem zeroL_cons {n:Nat} {hs:List Nat} {v:Value} {r:List Value}:kDt (n::hs) (v::r)=hintV n (ofV1 v)::kDt hs r:=rfl
omit [Tabs] in
theorem hintV_v {n:Nat} {x:Value}:hintV n (.v x) = .v x:=rfl
omit [Tabs] in
theorem hintV_nil {n:Nat}:hintV n (.sl 1 0 []) = .sl 1 n []:=rfl
omit [Tabs] in
theorem ofV1_int {x:Int}:ofV1 (.int k x) = .v (.int k x):=rfl
omit [Tabs] in
theorem ofV1_bool {x:Bool}:ofV1 (.bool x) = .v (.bool x):=rfl
omit [Tabs] in
theorem ofV1_sv {x:List UInt8}:ofV1 (.string ⟨List.toArray x⟩) = .v (sv x):=rfl
omit [Tabs] in
theorem ofV1_nil:ofV1 (.slice none 0 0) = .sl 1 0 []:=rfl
-- least, greatest
omit [Tabs] in
theorem argV_two {x y:Operand}:argV σ (List.toArray [x,y])=match ev σ x,ev σ y with|.v a,.v b=>some [a,b]|_,_=>none:=by
 simp only[argV,List.mapM_cons,List.mapM_nil]
 cases ev σ x<;>cases ev σ y<;>rfl
theorem op_min {x y:Operand} {ts:Array TypeId}:vcOp P Γ dr σ ⟨d,.call { callee:=.builtin .min,args:=List.toArray [x,y],argTypes:=ts },ty,pos,after,g⟩ K=popC (match ev σ x,ev σ y with|.v a,.v b=>res P (Builtin.min2 a b)|_,_=>none) d K σ:=by
 rw[← zL]
 simp only[vcOp,kX,pop,pop2,Option.or_none,argV_two]
 cases ev σ x<;>cases ev σ y<;>simp[Builtin.min_]
theorem op_max {x y:Operand} {ts:Array TypeId}:vcOp P Γ dr σ ⟨d,.call { callee:=.builtin .max,args:=List.toArray [x,y],argTypes:=ts },ty,pos,after,g⟩ K=popC (match ev σ x,ev σ y with|.v a,.v b=>res P (Builtin.max2 a b)|_,_=>none) d K σ:=by
 rw[← zL]
 simp only[vcOp,kX,pop,pop2,Option.or_none,argV_two]
 cases ev σ x<;>cases ev σ y<;>simp[Builtin.max_]
omit [Tabs] in
theorem min2_int {a b:Int}:res P (Builtin.min2 (.int k a) (.int k b))=some (.v (.int k (min a b))):=by
 simp only[Builtin.min2,res_pure]
 congr 3
 split<;>omega
omit [Tabs] in
theorem zU {a b:Int}:res P (Builtin.max2 (.int k a) (.int k b))=some (.v (.int k (max a b))):=by
 simp only[Builtin.max2,res_pure]
 congr 3
 split<;>omega
omit [Tabs] in
theorem inlR_ret {rs:List ResultVar} {n':Nat}:inlR P rs n' d K .ret ⟨n,t,hd,m⟩=inlP n' d K (topH hd) (popH hd) m (resL P ⟨n,t,hd,m⟩ rs):=rfl
omit [Tabs] in
theorem inlP_some {bs:List AV}:inlP n d K t hd m (some bs)=cont ⟨n,t,hd,m⟩ d (kA5 bs) K:=rfl
omit [Tabs] in
theorem topH_push:topH (kCM t hd)=t:=rfl
omit [Tabs] in
theorem popH_push:popH (kCM t hd)=hd:=rfl
omit [Tabs] in
theorem turnT_eq {l j i:Nat} {zs:List AV}:turnT fm l j zs t i=(t i).turn fm l j zs:=rfl
theorem weak_slots {t':Nat→AV} (hs:∀ i,t' i=t i∨t' i = .any):Weak ⟨n,t,hd,m⟩ ⟨n,t',hd,m⟩:=by
 intro w0 F0 Fp X G w a hr
 refine ⟨G,hr.sz,hr.df,fun i=>?_,hr.hd,hr.mm,hr.tb⟩
 rcases hs i with h1|h1
 ·show VR G w _ (t' i);rw[h1];exact hr.tm i
 ·show VR G w _ (t' i);rw[h1];exact .any _
def jO (t:Nat→AV):List (Nat×AV)→Prop
 | []=>True
 | p::r=>t p.1=p.2∧jO t r
omit [Tabs] in
theorem slotsEq_nil:jO t []=True:=rfl
omit [Tabs] in
theorem slotsEq_cons {i:Nat} {a:AV} {r:List (Nat×AV)}:jO t ((i,a)::r)=(t i=a∧jO t r):=rfl
omit [Tabs] in
theorem kEt:∀ {s:List (Nat×AV)},jO t s→∀ i,look s i=t i∨look s i = .any
 | [],_,i=>.inr rfl
 | (j,a)::r,h,i=>by
   unfold look
   split
   ·rename_i hi;subst hi;exact .inl h.1.symm
   ·exact kEt h.2 i
theorem weak_same {s:List (Nat×AV)} (hs:jO t s):Weak ⟨n,t,hd,m⟩ ⟨n,look s,hd,m⟩:=weak_slots (kEt hs)
omit [Tabs] in
theorem zips_eq (f:Nat→AV):∀ (l:List AV) (k:Nat),(∀ j,j < l.length→f (k+j)=l.getD j .any)→jO f (zips k l)
 | [],_,_=>trivial
 | a::r,k,h=>⟨by simpa using h 0 (by simp),zips_eq f r (k+1) fun j hj=>by
     have:=h (j+1) (by simpa using hj)
     rw[show k+1+j=k+(j+1) by omega]
     simpa using this⟩
theorem kDf (hΓ : kK P Γ) {f : FuncId} {fn : Func} {c : Code} {as : List AV} {rs : List ResultVar} {nn : Nat} (hC : Γ.get f = none) (hf : P.funcs[f]? = some fn) (hn : (fn.name == "runtime.NumGoroutine") = false) (hb : fn.body = some c)
    (hr:fn.results.toList=rs) (hnn:as.length+(fn.ntmps - as.length)=nn)
    (hk:vc P Γ c (inlR P rs n d K) ⟨nn,look (zips 0 as),kCM t hd,m⟩):kS P Γ false ⟨n,t,hd,m⟩ f as d K:=by
 unfold kS
 rw[hC]
 refine ⟨rfl,.inr (.inl ⟨fn,c,hf,hn,hb,?_⟩)⟩
 have e:(AS.enter ⟨n,t,hd,m⟩ fn.ntmps as)=⟨nn,fun k=>as.getD k (.v undef),kCM t hd,m⟩:=by
  subst hnn
  simp only[AS.enter,AS.mk.injEq,true_and,and_true]
  funext j
  cases j<;>rfl
 rw[e]
 refine AWP.weak (weak_same (zips_eq _ _ _ fun j hj=>?_)) ((jM hΓ c hk).mono fun e σ hq=>?_)
 ·simp only[Nat.zero_add,List.getD_eq_getElem?_getD,List.getElem?_eq_getElem hj,Option.getD_some]
 ·have key:∀ σ:AS,inlP n d K (topH σ.hd) (popH σ.hd) σ.m (resL P σ rs)→(match resL P σ fn.results.toList with|some bs=>cont (σ.leave n) d (kA5 bs) K|none=>False):=by
    intro σ hq
    rw[hr]
    cases hx:resL P σ rs with
    | none=>rw [hx] at hq;exact hq
    | some bs=>rw [hx] at hq;exact hq
  cases e with
  | normal=>exact key σ hq
  | ret=>exact key σ hq
  | _=>exact hq
end
end Go.Rw
end
-- RwUse
section
namespace Go.Rw
open Go Go.RowKit
section
variable {P:Program} [Tabs] {Γ:Env} {σ:AS} {Q:Exit→AS→Prop} {K:AS→Prop} {dr:Bool} {n:Nat} {t:Nat→AV} {hd:Nat→Nat→AV} {m:AM} {d:Option Nat}
variable {nh nl:Nat} {h:Nat→Option AO} {fm:Nat→Nat} {lv:Nat→Option (Nat×Nat)} {mu:Bool} {k:IntKind}
theorem kW (hΓ : kK P Γ) {f : FuncId} {fn : Func} {c : Code} {ι : Type} {args : ι → List AV} {post : ι → AV → Prop} {plain : Bool} {own : Option (Nat × Nat)} {rs : List ResultVar} {nn : Nat} (hf : P.funcs[f]? = some fn) (hn : (fn.name == "runtime.NumGoroutine") = false) (hb : fn.body = some c)
    (hr:fn.results.toList=rs) (hnn:∀ i,(args i).length+(fn.ntmps - (args i).length)=nn) (hcl:∀ i,AV.erL (args i)=args i)
    (h:∀ i,vc P Γ c (retR P rs ⟨ι,args,post,plain,own,none⟩ i) (AS.of nn (zips 0 (args i)) [] [])):Good P f ⟨ι,args,post,plain,own,none⟩ :=
 good_go (C:=⟨ι,args,post,plain,own,none⟩) hΓ hf hn hb hr rfl hnn hcl h
theorem kDA {f : FuncId} {fn : Func} {c : Code} {ι : Type} {args : ι → List AV} {post : ι → AV → Prop} {plain : Bool} {own : Option (Nat × Nat)} {rs : List ResultVar} {nn : Nat} (hf : P.funcs[f]? = some fn) (hn : (fn.name == "runtime.NumGoroutine") = false) (hb : fn.body = some c)
    (hr:fn.results.toList=rs) (hnn:∀ i,(args i).length+(fn.ntmps - (args i).length)=nn) (hcl:∀ i,AV.erL (args i)=args i)
    (h:∀ i,AWP P c (retR P rs ⟨ι,args,post,plain,own,none⟩ i) (AS.of nn (zips 0 (args i)) [] [])):Good P f ⟨ι,args,post,plain,own,none⟩:=by
 refine good_awp (C:=⟨ι,args,post,plain,own,none⟩) hf hn hb fun i=>?_
 have hw:Weak (AS.init fn (args i) none) (AS.of nn (zips 0 (args i)) [] []):=by
  refine weak_of [] [] (hnn i) (fun _=>by simp[AS.init]) ⟨by simp[Ad.lives],by simp,by simp[obOk],by simp[adOk]⟩ ?_
  refine kDm (fun _=>.any) _ _ fun j hj=>?_
  have e:(AS.init fn (args i) none).t (0+j)=(args i).getD j .any:=by
   simp only[AS.init,Nat.zero_add,List.getD_eq_getElem?_getD,List.getElem?_eq_getElem hj,Option.getD_some]
  rw[e]
  exact ren_closed _ (kFG (hcl i) hj)
 refine AWP.weak hw ((h i).mono fun e σ hq=>?_)
 subst hr
 exact hq
theorem awp_mid (hΓ:kK P Γ) {x y:Code} {α:Type} (St:α→AS) (h1:vc P Γ x (kAG (fun σ=>∃ a,Weak σ (St a)) Q) σ) (h2:∀ a,AWP P y Q (St a)):AWP P (.seq x y) Q σ :=
 AWP.seq ((jM hΓ x h1).mono fun e σ' hq=>by
  cases e with
  | normal=>obtain ⟨a,ha⟩:=hq;exact AWP.weak ha (h2 a)
  | _=>exact hq)
omit [Tabs] in
theorem retOk_none {ι:Type} {args:ι→List AV} {post:ι→AV→Prop} {plain:Bool} {take:Option (Nat×Nat)} {i:ι} {r:AV}:retOk ⟨ι,args,post,plain,none,take⟩ i m r=(post i r.er∧(plain=true→r.plain=true)):=rfl
theorem kGY {f:FuncId} {C:Con} (hfn:FnOk P f) (ht:C.take=none) (ho:C.own=none)
    (h:∀ (i:C.ι) (w:World) (F:Nat→Nat) (vs:Array Value),TabOk w (k8 none)→vs.size=(C.args i).length→(∀ k,VR (Gin F none) w (vs.getD k undef) ((C.args i).getD k .any)) →
     Calls P f vs w fun e w'=>∃ v r,e = .returned v∧C.post i r∧(∀ G w,VR G w v r)∧r.plain=true∧Below w.heap.size w w'):Good P f C:=by
 refine ⟨hfn,fun w F i vs tk hF htb hti hs hv=>?_⟩
 rw[ht]at hti
 simp only[kBZ]at hti
 subst hti
 refine (h i w F vs htb hs hv).mono ?_
 rintro e w' ⟨v,r,rfl,hp,hr,hpl,hb⟩
 refine ⟨v,r,F,none,rfl,hp,hr _ _,⟨hb.os,hb.tape,hb.output,hb.size,fun g hg _=>hb.block g hg,fun _ _ _=>rfl,fun g i hi=>hb.cell (p:=⟨g,i,none⟩) (hF g (by omega)),fun _=>Nat.le_refl _,fun g hg=>Nat.lt_of_lt_of_le (hF g hg) hb.size⟩,by rw[ho];rfl,fun _=>hpl⟩
theorem jH {f:FuncId} {as:List AV} (hC:Γ.get f=none) (hR:RawC P σ f as d K):kS P Γ false σ f as d K:=by
 unfold kS
 rw[hC]
 exact ⟨rfl,.inr (.inr hR)⟩
theorem kFh {f:FuncId} {C:Con} {as:List AV} {i:C.ι} (hC:Γ.get f=some C) (hp:C.plain=true) (ho:C.own=none) (ht:C.take=none) (ha:AV.erL as=C.args i) (hpl:∀ r,C.post i r→r.plain=true)
    (hk:∀ r,C.post i r→cont σ d r K):kS P Γ false σ f as d K:=by
 unfold kS
 rw[hC]
 refine ⟨i,by rw[ht];exact ha,?_⟩
 simp only[Bool.false_eq_true,if_false]
 refine ⟨by rw[ht];trivial,fun r hr=>?_⟩
 have h1:=hk r hr
 simp only[Go.Rw.after,ho,ht,hp,tlOf,kCY,if_true]
 rw[er_plain _ (hpl r hr)]
 exact h1
end
end Go.Rw
end
-- RwLab
section
namespace Go.Rw
open Go Go.RowKit
def labQ [Tabs] {α:Type} (P:Program) (Γ:Env) (c:Code) (l:Nat) (St:α→AS) (μ:α→Nat) (x:Option α) (Q:Exit→AS→Prop) (n:Nat):Exit→AS→Prop
 | .goto k,σ=>if k=l then (∃ y,(∀ x',x=some x'→μ y < μ x')∧Weak σ (St y)) else ∃ rest,findLabel c k=some rest∧vc P Γ rest (fwdQ P Γ c Q n) σ
 | e,σ=>Q e σ
def vcl [Tabs] (P:Program) (Γ:Env) (l:Nat) (W:AS→Prop):Code→(Exit→AS→Prop)→AS→Prop
 | .seq (.label k) y,Q,σ=>if k=l then W σ else vcl P Γ l W y Q σ
 | .seq x y,Q,σ=>vc P Γ x (kAG (vcl P Γ l W y Q) Q) σ
 | c,Q,σ=>vc P Γ c Q σ
def jA (l:Nat):Code→Option Code
 | .seq (.label k) y=>if k=l then some y else jA l y
 | .seq _ y=>jA l y
 | _=>none
section
variable {P:Program} [Tabs] {Γ:Env} {σ:AS} {Q:Exit→AS→Prop} {K:AS→Prop} {n:Nat}
theorem vcl_ok (hΓ:kK P Γ) {l:Nat} {W:AS→Prop} {R:Code}:∀ (c:Code) {σ:AS},jA l c=some R→(∀ σ,W σ→AWP P R Q σ)→vcl P Γ l W c Q σ→AWP P c Q σ
 | .seq x y,σ,hs,hW,h=>by
   have gen:∀ {σ:AS},jA l y=some R→vc P Γ x (kAG (vcl P Γ l W y Q) Q) σ→AWP P (.seq x y) Q σ:=fun hs' h=>AWP.seq ((jM hΓ x h).mono fun e σ' hq=>by
    cases e with
    | normal=>exact vcl_ok hΓ y hs' hW hq
    | _=>exact hq)
   cases x with
   | label k =>
     simp only[vcl]at h
     simp only[jA]at hs
     split at h
     ·rename_i hk
      rw[if_pos hk]at hs
      obtain rfl:=Option.some.inj hs
      exact kCp (hW _ h)
     ·rename_i hk
      rw[if_neg hk]at hs
      exact kCp (vcl_ok hΓ y hs hW h)
   | _=>exact gen hs h
 | .skip,_,hs,_,_=>by cases hs
 | .region _ _ _,_,hs,_,_=>by cases hs
 | .cond _ _ _,_,hs,_,_=>by cases hs
 | .block _ _,_,hs,_,_=>by cases hs
 | .exit _,_,hs,_,_=>by cases hs
 | .label _,_,hs,_,_=>by cases hs
 | .goto _,_,hs,_,_=>by cases hs
 | .ret,_,hs,_,_=>by cases hs
 | .loop _,_,hs,_,_=>by cases hs
 | .scope _,_,hs,_,_=>by cases hs
 | .rangeFunc _ _ _ _,_,hs,_,_=>by cases hs
 | .refuse _,_,hs,_,_=>by cases hs
theorem vc_lab (hΓ:kK P Γ) {α:Type} {c:Code} (l:Nat) {R:Code} (St:α→AS) (μ:α→Nat) (n:Nat) (hf:findLabel c l=some (.seq .skip R)) (hs:jA l c=some R)
    (hr:∀ x,vc P Γ R (labQ P Γ c l St μ (some x) Q n) (St x))
    (h0:vcl P Γ l (fun σ=>∃ y,Weak σ (St y)) c (labQ P Γ c l St μ none Q n) σ):vc P Γ (.scope c) Q σ:=by
 show AWP P (.scope c) Q σ
 let J:Nat→Nat→AS→Prop:=fun k j σ=>(k=l∧∃ y,μ y+n+1=j∧σ = St y)∨(j≤n∧∃ rest,findLabel c k=some rest∧vc P Γ rest (fwdQ P Γ c Q j) σ)
 have fwd:∀ (j:Nat) (e:Exit) (σ:AS),j≤n→fwdQ P Γ c Q j e σ→hopQ J (some j) Q e σ:=by
  intro j e σ hj hq
  cases j with
  | zero=>cases e<;>first|exact hq|exact hq.elim
  | succ j =>
    cases e with
    | goto k =>
      obtain ⟨rest,h1,h2⟩:=hq
      exact ⟨j,fun i hi=>by simp at hi;omega,σ,Weak.refl σ,.inr ⟨by omega,rest,h1,h2⟩⟩
    | _=>exact hq
 have hop:∀ (x:Option α) (e:Exit) (σ':AS),labQ P Γ c l St μ x Q n e σ'→hopQ J (x.map fun x=>μ x+n+1) Q e σ':=by
  intro x e σ' hq
  cases e with
  | goto k =>
    simp only[labQ]at hq
    split at hq
    ·rename_i hk
     obtain ⟨y,h1,h2⟩:=hq
     refine ⟨μ y+n+1,fun j hj=>?_,St y,h2,.inl ⟨hk,y,rfl,rfl⟩⟩
     cases x with
     | none=>cases hj
     | some x=>simp at hj;have:=h1 x rfl;omega
    ·obtain ⟨rest,h1,h2⟩:=hq
     refine ⟨n,fun j hj=>?_,σ',Weak.refl σ',.inr ⟨Nat.le_refl _,rest,h1,h2⟩⟩
     cases x with
     | none=>cases hj
     | some x=>simp at hj;omega
  | _=>exact hq
 refine AWP.scope J ?_ ?_
 ·rintro k j σ (⟨rfl,y,rfl,rfl⟩|⟨hj,rest,h1,h2⟩)
  ·exact ⟨_,hf,awp_skip ((jM hΓ _ (hr y)).mono (hop (some y)))⟩
  ·exact ⟨rest,h1,(jM hΓ _ h2).mono fun e σ hq=>fwd j e σ hj hq⟩
 ·refine AWP.mono (vcl_ok hΓ c hs (fun σ' hw=>?_) h0) (hop none)
  obtain ⟨y,hw⟩:=hw
  refine AWP.weak hw ((jM hΓ _ (hr y)).mono fun e σ2 hq=>?_)
  cases e with
  | goto k =>
    simp only[labQ]at hq ⊢
    split at hq
    ·rename_i hk
     rw[if_pos hk]
     obtain ⟨z,_,h3⟩:=hq
     exact ⟨z,(fun x' hx=>by cases hx),h3⟩
    ·rename_i hk
     rw[if_neg hk];exact hq
  | _=>exact hq
variable {l k i:Nat} {α:Type} {St:α→AS} {μ:α→Nat} {x:Option α} {c y:Code} {W:AS→Prop}
theorem lab_ret:labQ P Γ c l St μ x Q n .ret σ = Q .ret σ:=rfl
theorem lab_again {x:α}:labQ P Γ c l St μ (some x) Q n (.goto l) σ = kFJ St μ x σ:=by simp[labQ,kFJ]
theorem lab_ahead (h:k≠l):labQ P Γ c l St μ x Q n (.goto k) σ = ∃ rest,findLabel c k=some rest∧vc P Γ rest (fwdQ P Γ c Q n) σ:=by simp[labQ,h]
theorem vcl_same:vcl P Γ l W (.seq (.label l) y) Q σ = W σ:=by simp[vcl]
theorem vcl_region {id:Nat} {ops:Array Oper} {dr:Bool}:vcl P Γ l W (.seq (.region id ops dr) y) Q σ = vc P Γ (.region id ops dr) (kAG (vcl P Γ l W y Q) Q) σ:=rfl
theorem vcl_seq {u v:Code}:vcl P Γ l W (.seq (.seq u v) y) Q σ = vc P Γ (.seq u v) (kAG (vcl P Γ l W y Q) Q) σ:=rfl
theorem fwd_goto {l:Nat} {c:Code}:fwdQ P Γ c Q (n+1) (.goto l) σ = ∃ rest,findLabel c l=some rest∧vc P Γ rest (fwdQ P Γ c Q n) σ:=rfl
end
end Go.Rw
end
-- RwRules
section
set_option maxRecDepth 100000
namespace Go.Rw
open Go
theorem zips_nil {k:Nat}:zips k []=[]:=rfl
theorem zips_cons {k:Nat} {a:AV} {r:List AV}:zips k (a::r)=(k,a)::zips (k+1) r:=rfl
def goRules :=
 (And.intro @vc_skip (And.intro @vc_region (And.intro @vc_drawn (And.intro @vc_seq (And.intro @vc_cond (And.intro @vc_block (And.intro @vc_exit (And.intro @vc_label (And.intro @vc_goto (And.intro @vc_ret (And.intro @thenQ_normal (And.intro @thenQ_ret (And.intro @thenQ_exit (And.intro @thenQ_goto (And.intro @blockQ_normal (And.intro @blockQ_ret (And.intro @blockQ_goto (And.intro @blockQ_same (And.intro @kEL (And.intro @kDE (And.intro @vcOps_nil (And.intro @vcOps_cons (And.intro @vcOps_guard (And.intro @opThen_eq (And.intro @skipThen_eq (And.intro @guardO_some (And.intro @gdst_zero (And.intro @gdst_succ (And.intro @guardB_tt (And.intro @guardB_ff (And.intro @guardB_tf (And.intro @guardB_ft (And.intro @guardB_undef (And.intro @cont_none (And.intro @cont_some (And.intro @popC_some (And.intro @popC_if (And.intro @look_cons (And.intro @look_nil (And.intro @ev_tmp (And.intro @ev_const (And.intro @ev_func (And.intro @evT_tmp (And.intro @evT_const (And.intro @evT_func (And.intro @ofV_int (And.intro @ofV_bool (And.intro @ofV_nil (And.intro @ofVh_int (And.intro @ofVh_bool (And.intro @op_move (And.intro @op_assign (And.intro @op_pick (And.intro @op_bin (And.intro @binC_v (And.intro @binC_agg (And.intro @binC_ptr (And.intro @binC_sl (And.intro @nilB_eql (And.intro @op_field (And.intro @op_makeFunc (And.intro @op_un (And.intro @op_convert (And.intro @convC_sl (And.intro @convC_int (And.intro @strC_slc (And.intro @op_extract (And.intro @op_fieldAddr (And.intro @op_indexAddr (And.intro @op_index (And.intro @op_load (And.intro @op_nilCheck (And.intro @ofV_sv (And.intro @ofVh_sv (And.intro @ofVh_agg (And.intro @aggA_nil (And.intro @aggA_int (And.intro @aggA_bool (And.intro @aggA_sv (And.intro @aggA_sl (And.intro @bin_add (And.intro @bin_sub (And.intro @bin_rem (And.intro @bin_and (And.intro @bin_or (And.intro @bin_shl (And.intro @bin_eql (And.intro @bin_neq (And.intro @bin_lss (And.intro @bin_leq (And.intro @bin_gtr (And.intro @bin_geq (And.intro @bin_beql (And.intro @boolB_eq (And.intro @bin_seql (And.intro @bin_sneq (And.intro @bin_sadd (And.intro @un_not (And.intro @conv_int (And.intro @convB_int (And.intro @conv_sl (And.intro @textE_eq (And.intro @textB_i32 (And.intro @convC_sv (And.intro @runeE_sv (And.intro @runeE_bytes (And.intro @slcIn_eq (And.intro @slcSz_eq (And.intro @fieldIn_eq (And.intro @hints_eq (And.intro @hintsIn_eq (And.intro @ofVh_nil (And.intro @loadA_eq (And.intro @loadIn_int (And.intro @loadIn_str (And.intro @loadIn_slc (And.intro @loadIn_other (And.intro @loadIn_st (And.intro @cells_agg (And.intro @cells_v (And.intro @cells_sl (And.intro @pickC_eq (And.intro @pickA_bool (And.intro @pickA_true (And.intro @pickA_false (And.intro @extractA_eq (And.intro @fieldAddr_ptr (And.intro @fieldAddr_ep (And.intro @indexAddr_eq (And.intro @nilCheck_ptr (And.intro @load_ep (And.intro @load_ptr (And.intro @loadO_eq (And.intro @cellsOf_int (And.intro @cellsOf_bool (And.intro @cellsOf_sv (And.intro @cellsOf_sl (And.intro @cellsOf_agg (And.intro @vc_int (And.intro @vc_slice (And.intro @vc_agg (And.intro @maxLen_eq (And.intro @one_int (And.intro @one_bool (And.intro @one_sv (And.intro @one_obj (And.intro @cellsOf_obj (And.intro @one_sl (And.intro @er_v (And.intro @er_sl (And.intro @er_agg (And.intro @er_tup (And.intro @erL_nil (And.intro @erL_cons (And.intro @tags_v (And.intro @tags_sl (And.intro @tags_agg (And.intro @tagsL_nil (And.intro @tagsL_cons (And.intro @plain_v (And.intro @plain_agg (And.intro @plain_tup (And.intro @plainL_nil (And.intro @plainL_cons (And.intro @kBt (And.intro @kill_eq (And.intro @updn_eq (And.intro @zeroIn_eq (And.intro @op_alloc (And.intro @newD_eq (And.intro @op_allocD (And.intro @op_box (And.intro @newC_eq (And.intro @op_store (And.intro @storeD_ptr (And.intro @op_storeD (And.intro @storeC_eq (And.intro @storeC_ep (And.intro @storeE_eq (And.intro @storeO_eq (And.intro @partsE_nil (And.intro @partsE_cons (And.intro @op_buildSlice (And.intro @op_buildDead (And.intro @deadE_eq (And.intro @deadZ_eq (And.intro @rowE_eq (And.intro @rowC_eq (And.intro @elemsB_nil (And.intro @elemsB_cons (And.intro @snds_nil (And.intro @snds_cons (And.intro @ersP_nil (And.intro @ersP_cons (And.intro @setParts_eq (And.intro @op_append (And.intro @appE_eq (And.intro @appC_eq (And.intro @evTs_nil (And.intro @evTs_cons (And.intro @op_call (And.intro @callC_eq (And.intro @optE_none (And.intro @optE_some (And.intro @op_slice (And.intro @sliceP_ni (And.intro @sliceP_in (And.intro @sliceL_eq (And.intro @lenA_sl (And.intro @lenS_eq (And.intro @op_len (And.intro @lenA_str (And.intro @lenStr_eq (And.intro @retR_ret (And.intro @retP_some (And.intro @oneOf_one (And.intro @oneOf_more (And.intro @resL_nil (And.intro @resL_tmp (And.intro @resL_cell (And.intro @loadPtr_eq (And.intro @consR_some (And.intro @fwd_ret (And.intro @slotsOk_nil (And.intro @slotsOk_cons (And.intro @obOk_nil (And.intro @obOk_cons (And.intro @renOo_cells (And.intro @renOo_map (And.intro @renOo_mit (And.intro @renOo_iter (And.intro @adOk_nil (And.intro @adOk_live (And.intro @adOk_none (And.intro @lives_nil (And.intro @lives_live (And.intro @lives_none (And.intro @ren_v (And.intro @ren_tup (And.intro @ren_sl (And.intro @ren_ptr (And.intro @renL_nil (And.intro @renL_cons (And.intro @tagOk_low (And.intro @tagOk_zero (And.intro @tagOk_more (And.intro @tagAd_live (And.intro @tagAd_nil (And.intro @turned_eq (And.intro @turn_v (And.intro @turn_any (And.intro @turn_sl (And.intro @turnL_nil (And.intro @turnL_cons (And.intro @turnO_cells (And.intro @turnO_map (And.intro @ofV_ptr (And.intro @ofVh_ptr (And.intro @op_range (And.intro @rangeC_eq (And.intro @op_next (And.intro @nextC_eq (And.intro @index_str (And.intro @indexStr_eq (And.intro @sliceS_eq (And.intro @slice_sii (And.intro @op_build (And.intro @buildC_eq (And.intro @buildIn_st (And.intro @fillA_nil (And.intro @fillA_cons (And.intro @fillB_eq (And.intro @zeroL_nil (And.intro @zeroL_cons (And.intro @hintV_v (And.intro @hintV_nil (And.intro @ofV1_int (And.intro @ofV1_bool (And.intro @ofV1_sv (And.intro @ofV1_nil (And.intro @op_min (And.intro @op_max (And.intro @min2_int (And.intro @zU (And.intro @inlR_ret (And.intro @inlP_some (And.intro @topH_push (And.intro @popH_push (And.intro @turnT_eq (And.intro @slotsEq_nil (And.intro @slotsEq_cons (And.intro @lab_ret (And.intro @lab_again (And.intro @lab_ahead (And.intro @vcl_same (And.intro @vcl_region (And.intro @vcl_seq (And.intro @fwd_goto (And.intro @zips_nil (And.intro @zips_cons @retOk_none))))))))))))))))))))))))))))))))))))))))))))))))))))))))))))))))))))))))))))))))))))))))))))))))))))))))))))))))))))))))))))))))))))))))))))))))))))))))))))))))))))))))))))))))))))))))))))))))))))))))))))))))))))))))))))))))))))))))))))))))))))))))))))))))))))))))))))))))))))))))))))))))))))))))))))
def coreRules :=
 (And.intro @Int.toNat_natCast (And.intro @imp_self (And.intro @Nat.mul_one (And.intro @false_or (And.intro @or_false (And.intro @or_true (And.intro @true_or (And.intro @false_and (And.intro @and_false (And.intro @false_implies (And.intro @implies_true.{1} (And.intro @Value.int.injEq (And.intro @Value.bool.injEq (And.intro @AV.v.injEq (And.intro @List.mem_cons.{0} (And.intro @or_self (And.intro @ne_eq.{1} (And.intro @not_true_eq_false (And.intro @true_and (And.intro @and_true (And.intro @List.getElem?_cons_zero.{0} (And.intro @List.getElem?_cons_succ.{0} (And.intro @List.getElem?_nil.{0} (And.intro @List.length_cons.{0} (And.intro @List.length_nil.{0} (And.intro @List.take_zero.{0} (And.intro @List.take_succ_cons.{0} (And.intro @List.take_nil.{0} (And.intro @List.drop_zero.{0} (And.intro @List.drop_succ_cons.{0} (And.intro @List.drop_nil.{0} (And.intro @List.nil_append.{0} (And.intro @List.cons_append.{0} (And.intro @List.append_nil.{0} (And.intro @Option.bind_some.{0,0} (And.intro @Option.map_some.{0,0} (And.intro @decide_true (And.intro @decide_false (And.intro @Bool.not_true (And.intro @Bool.not_false (And.intro @cond_true.{1} (And.intro @cond_false.{1} (And.intro @List.getD_cons_zero.{0} (And.intro @List.getD_cons_succ.{0} (And.intro @List.replicate_zero.{0} (And.intro @List.replicate_succ.{0} (And.intro @List.foldl_nil.{0,0} (And.intro @List.foldl_cons.{0,0} (And.intro @List.set_cons_zero.{0} (And.intro @List.set_cons_succ.{0} (And.intro @List.any_nil.{0} (And.intro @List.any_cons.{0} (And.intro @List.all_nil.{0} (And.intro @List.all_cons.{0} (And.intro @Bool.or_false (And.intro @Bool.or_true (And.intro @Bool.true_and (And.intro @Bool.and_true (And.intro @Bool.false_and (And.intro @Bool.and_false (And.intro @Bool.true_or (And.intro @Bool.false_or (And.intro @Nat.zero_add (And.intro @Nat.add_zero (And.intro @List.headD_cons.{0} (And.intro @Bool.false_eq_true (And.intro @List.nodup_nil.{0} (And.intro @List.nodup_cons.{0} (And.intro @List.not_mem_nil.{0} @not_false_eq_true)))))))))))))))))))))))))))))))))))))))))))))))))))))))))))))))))))))
end Go.Rw
end
-- RwNum
section
namespace Go.Rw
open Go
theorem kC {n:Int} (h1:-9223372036854775808≤n) (h2:n≤9223372036854775807):IntKind.wrap .i64 n=n:=by
 simp only[IntKind.wrap,IntKind.bits,IntKind.signed,Bool.true_and]
 split<;>simp_all<;>omega
theorem wrap_u8 {n:Int} (h1:0≤n) (h2:n < 256):IntKind.wrap .u8 n=n:=by
 simp only[IntKind.wrap,IntKind.bits,IntKind.signed,Bool.false_and]
 simp;omega
theorem ints_nil {k:IntKind}:ints k []=[]:=rfl
end Go.Rw
end
