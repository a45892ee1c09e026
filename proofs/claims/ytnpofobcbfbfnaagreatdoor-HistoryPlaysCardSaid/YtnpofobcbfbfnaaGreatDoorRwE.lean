/-
 Strings,iterators,structs,calls reckoned in place: the rules for rewriting. Proved over any program. Functions that take a slice over;functions known by what they do to the machine;calls that hand back what may be gone on with. Proved over any program. A scope with a loop by one label,and jumps ahead to others. Proved over any program. The rules for rewriting,in two bundles. Proved over any program. Numbers of fixed width,within their bounds. Plain.
-/
import Derived.Test.YtnpofobcbfbfnaaGreatDoorRwD
import Derived.Laws.Strings
set_option linter.unusedSimpArgs false
set_option linter.unusedVariables false
set_option linter.defProp false
set_option linter.unusedSectionVars false

set_option maxRecDepth 100000
-- RwGo5
section
namespace Go.Rw
open Go Go.RowKit
def rangeC (ti:Option TI) (x:AV) (d:Option Nat) (K:AS→Prop) (σ:AS):Prop:=match ti,x with
 | some { kind:=.str,.. },.v (.string s)=>cont (σ.new (.iter s 0)) d (.ptr σ.m.nh 0) K
 | _,_=>False
def nextO (o:Option AO) (ob:Nat) (d:Option Nat) (K:AS→Prop) (σ:AS):Prop:=match o with
 | some (.iter s pos)=>if pos < s.size then cont { σ with m:=σ.m.setObj ob (.iter s (pos+(Utf8.decode s pos).2)) } d (.tup [.v (.bool true),.v (.int .i64 pos),.v (.int .i32 (Utf8.decode s pos).1)]) K
     else cont σ d (.tup [.v (.bool false)]) K
 | _=>False
def nextC (x:AV) (d:Option Nat) (K:AS→Prop) (σ:AS):Prop:=match x with
 | .ptr ob 0=>nextO (σ.m.h ob) ob d K σ
 | _=>False
def buildC (P:Program) (t:TypeId) (ps:List (Nat×AV)):Option AV:=buildA P t ps
def buildArr (ie:Option TI) (z:Array Value) (ps:List (Nat×AV)):Option AV:=match ie with
 | some ie=>(kCh (fun i=>some (i * ie.size,ie.size)) (z.toList.map ofV1) ps).map .agg
 | none=>none
def buildIn (P:Program) (ti:Option TI) (ps:List (Nat×AV)):Option AV:=match ti with
 | some { kind:=.st fs,zero:=some (.agg z),hints,.. }=>if fs.all (fun p=>0 < p.2) then (kCh (fs[·]?) (kED hints z.toList) ps).map .agg else none
 | some { kind:=.arr _ e,zero:=some (.agg z),.. }=>buildArr (tiOf P e) z ps
 | _=>none
def fillB (place:Nat→Option (Nat×Nat)) (p:Option (Nat×Nat)) (c:Option (List AV)) (cs:List AV) (r:List (Nat×AV)):Option (List AV):=match p,c with
 | some (off,size),some vs=>if vs.length=size∧off+size≤cs.length then kCh place (cs.take off++vs++cs.drop (off+size)) r else none
 | _,_=>none
def complexA {P:Program} (x y:AV):Option AV:=match x,y with
 | .v a,.v b=>res P (Builtin.complex_ #[] 0 #[a,b])
 | _,_=>none
def kB8 (t:Nat→AV) (hd:Nat→Nat→AV):Nat→Nat→AV
 | 0=>t
 | j+1=>hd j
def topH (hd:Nat→Nat→AV):Nat→AV:=hd 0
def popH (hd:Nat→Nat→AV):Nat→Nat→AV:=fun j=>hd (j+1)
def turnT (fm:Nat→Nat) (l n:Nat) (zs:List AV) (t:Nat→AV):Nat→AV:=fun i=>(t i).turn fm l n zs
def turnH (fm:Nat→Nat) (l n:Nat) (zs:List AV) (hd:Nat→Nat→AV):Nat→Nat→AV:=fun k i=>(hd k i).turn fm l n zs
def inlP (n:Nat) (d:Option Nat) (K:AS→Prop) (t:Nat→AV) (hd:Nat→Nat→AV) (m:AM):Option (List AV)→Prop
 | some bs=>cont ⟨n,t,hd,m⟩ d (kAm bs) K
 | none=>False
def inlR (P:Program) (rs:List ResultVar) (n:Nat) (d:Option Nat) (K:AS→Prop):Exit→AS→Prop
 | .normal,σ|.ret,σ=>inlP n d K (topH σ.hd) (popH σ.hd) σ.m (resL P σ rs)
 | _,_=>False
section
variable {P:Program} [Tabs] {Γ:Env} {σ:AS} {Q:Exit→AS→Prop} {K:AS→Prop} {dr:Bool} {n:Nat} {t:Nat→AV} {hd:Nat→Nat→AV} {m:AM} {d:Option Nat} {ty:TypeId} {pos:String} {after:Array Edge} {g:Option (Nat×Bool)}
variable {nh nl:Nat} {h:Nat→Option AO} {fm:Nat→Nat} {lv:Nat→Option (Nat×Nat)} {mu:Bool} {k:IntKind}
omit [Tabs] in
theorem ofV_ptr {p:Option Addr}:ofV (.pointer p) = .v (.pointer p):=rfl
omit [Tabs] in
theorem ofVh_ptr {hs:List Nat} {p:Option Addr}:ofVh hs (.pointer p) = .v (.pointer p):=rfl
-- iterators over strings
theorem op_range {t:TypeId} {x:Operand}:vcOp P Γ false σ ⟨d,.range t x,ty,pos,after,g⟩ K=rangeC (tiOf P t) (ev σ x) d K σ:=by
 simp only[vcOp,true_and,rangeC]
 cases ev σ x with
 | v y =>
   cases y with
   | string s =>
     cases tiOf P t with
     | none=>rfl
     | some ti=>obtain ⟨_,_,_,k,_⟩:=ti;cases k<;>rfl
   | _=>cases tiOf P t with
     | none=>rfl
     | some ti=>obtain ⟨_,_,_,k,_⟩:=ti;cases k<;>rfl
 | _=>cases tiOf P t with
   | none=>rfl
   | some ti=>obtain ⟨_,_,_,k,_⟩:=ti;cases k<;>rfl
omit [Tabs] in
theorem rangeC_eq {sz by_:Nat} {z:Option Value} {hs:List Nat} {l:List UInt8}:rangeC (some ⟨sz,by_,z,.str,hs⟩) (.v (sv l)) d K ⟨n,t,hd,⟨nh,h,nl,fm,lv,mu⟩⟩ =
    cont ⟨n,t,hd,⟨nh+1,upd h nh (some (.iter ⟨l.toArray⟩ 0)),nl,fm,lv,mu⟩⟩ d (.ptr nh 0) K:=rfl
theorem op_next {x:Operand}:vcOp P Γ false σ ⟨d,.next x true,ty,pos,after,g⟩ K=nextC (ev σ x) d K σ:=by
 simp only[vcOp,true_and,nextC,nextO]
 cases ev σ x with
 | ptr o k=>cases k<;>rfl
 | _=>rfl
omit [Tabs] in
theorem nextC_eq {ob:Nat}:nextC (.ptr ob 0) d K ⟨n,t,hd,⟨nh,h,nl,fm,lv,mu⟩⟩=nextO (h ob) ob d K ⟨n,t,hd,⟨nh,h,nl,fm,lv,mu⟩⟩:=rfl
def dec1 (l:List UInt8) (p:Nat):Nat:=(Utf8.decode ⟨l.toArray⟩ p).1
def dec2 (l:List UInt8) (p:Nat):Nat:=(Utf8.decode ⟨l.toArray⟩ p).2
omit [Tabs] in
theorem nextO_in {ob p:Nat} {l:List UInt8} (hp:p < l.length):nextO (some (.iter ⟨l.toArray⟩ p)) ob d K ⟨n,t,hd,⟨nh,h,nl,fm,lv,mu⟩⟩ =
    cont ⟨n,t,hd,⟨nh,upd h ob (some (.iter ⟨l.toArray⟩ (p+dec2 l p))),nl,fm,lv,mu⟩⟩ d (.tup [.v (.bool true),.v (.int .i64 p),.v (.int .i32 (dec1 l p))]) K:=by
 simp only[nextO]
 rw[if_pos (show p < (⟨l.toArray⟩:ByteArray).size from by simpa [ByteArray.size] using hp)]
 rfl
omit [Tabs] in
theorem nextO_end {ob p:Nat} {l:List UInt8} (hp:¬ p < l.length):nextO (some (.iter ⟨l.toArray⟩ p)) ob d K σ = cont σ d (.tup [.v (.bool false)]) K:=by
 simp only[nextO]
 rw[if_neg (show ¬ p < (⟨l.toArray⟩:ByteArray).size from by simpa [ByteArray.size] using hp)]
omit [Tabs] in
theorem kBr {α:Type} {x y:Int} {code:BoundsCode}:calm P (boundsPanic k x y code:Sem α)=none:=by
 unfold boundsPanic
 simp only[]
 split
 ·rfl
 ·rfl
def indexD (P:Program) (t:TypeId) (a i:AV):Option AV:=indexA P t a i
omit [Tabs] in
theorem index_str {t:TypeId} {l:List UInt8} {i:Int}:indexA P t (.v (sv l)) (.v (.int k i))=indexStr (P.underlying t) (indexD P t (.v (sv l)) (.v (.int k i))) i l:=by
 unfold indexStr
 split
 ·rename_i hu
  split
  ·rename_i hi
   have hlt:i.toNat < l.length:=by omega
   have e1:(⟨l.toArray⟩:ByteArray)[i.toNat]? = some (l.getD i.toNat 0):=by
    rw[List.getD_eq_getElem?_getD,List.getElem?_eq_getElem hlt]
    show (if h:i.toNat < (⟨l.toArray⟩:ByteArray).size then some ((⟨l.toArray⟩:ByteArray)[i.toNat]'h) else none)=_
    rw[dif_pos (by simpa [ByteArray.size] using hlt)]
    rfl
   have e2:calm P (Instr.index t (sv l) (.int k i))=some (.int .u8 (l.getD i.toNat 0).toNat):=by
    unfold Instr.index
    simp only[sv,asIntOf,k7,zT,Option.bind_some,underlying,qJ,hu,if_pos hi.1,e1]
   show (calm P (Instr.index t (sv l) (.int k i))).map AV.v=_
   rw[e2];rfl
  ·rename_i hi
   show (calm P (Instr.index t (sv l) (.int k i))).map AV.v=none
   have e1:(if 0≤i then (⟨l.toArray⟩:ByteArray)[i.toNat]? else none)=none:=by
    split
    ·rename_i h0
     show (if h:i.toNat < (⟨l.toArray⟩:ByteArray).size then some ((⟨l.toArray⟩:ByteArray)[i.toNat]'h) else none)=_
     rw[dif_neg]
     intro hc
     have:i.toNat < l.length:=by simpa [ByteArray.size] using hc
     omega
    ·rfl
   unfold Instr.index
   simp only[sv,asIntOf,k7,zT,Option.bind_some,underlying,qJ,hu,e1,kBr]
   rfl
 ·rfl
omit [Tabs] in
theorem indexStr_eq {x:Option AV} {l:List UInt8} {i:Int}:indexStr (some .string) x i l=if 0≤i∧i < l.length then some (.v (.int .u8 (l.getD i.toNat 0).toNat)) else none:=rfl
omit [Tabs] in
theorem kF7 {i:Int} {m:Nat} {code:BoundsCode}:calm P (Instr.sliceBound (.int k i) m code)=if 0≤i∧i≤m then some i.toNat else none:=by
 unfold Instr.sliceBound
 simp only[asIntOf,k7,zT,Option.bind_some]
 split
 ·rfl
 ·exact kBr
omit [Tabs] in
theorem sv_extract {l:List UInt8} {i j:Nat} (hj:j≤l.length):Value.string ((⟨l.toArray⟩:ByteArray).extract i j)=sv ((l.drop i).take (j - i)):=by
 unfold sv
 congr 1
 apply ByteArray.ext
 simp[List.take_drop]
omit [Tabs] in
theorem size_sv {l:List UInt8}:(⟨l.toArray⟩:ByteArray).size=l.length:=by simp[ByteArray.size]
def sliceS (u:Option TypeDesc) (dflt:Option AV) (i j:Int) (l:List UInt8):Option AV:=match u with
 | some .string=>if 0≤i∧i≤j∧j≤l.length then some (.v (sv ((l.drop i.toNat).take (j.toNat - i.toNat)))) else none
 | _=>dflt
omit [Tabs] in
theorem sliceS_eq {x:Option AV} {l:List UInt8} {i j:Int}:sliceS (some .string) x i j l=if 0≤i∧i≤j∧j≤l.length then some (.v (sv ((l.drop i.toNat).take (j.toNat - i.toNat)))) else none:=rfl
def sliceD (P:Program) (t:TypeId) (a:AV) (lo hi:Option AV):Option AV:=kBs P t a lo hi
omit [Tabs] in
theorem sliceP_str {t:TypeId} {l:List UInt8} {lo hi:Option AV} {lo' hi':Option Value} {i j:Int} (hlo:optA lo=some lo') (hhi:optA hi=some hi') (hi1:(lo'=none∧i=0)∨(∃ k,lo'=some (.int k i))) (hj1:(hi'=none∧j=l.length)∨(∃ k,hi'=some (.int k j))) :
    kBs P t (.v (sv l)) lo hi=sliceS (P.underlying t) (sliceD P t (.v (sv l)) lo hi) i j l:=by
 unfold sliceS
 split
 ·rename_i hu
  simp only[kBs,hlo,hhi]
  have key:calm P (Instr.sliceAt t (sv l) lo' hi' none)=if 0≤i∧i≤j∧j≤l.length then some (sv ((l.drop i.toNat).take (j.toNat - i.toNat))) else none:=by
   have hb:calm P (Instr.sliceBounds false l.length l.length lo' hi' none)=if 0≤i∧i≤j∧j≤l.length then some (i.toNat,j.toNat,l.length) else none:=by
    rcases hi1 with ⟨rfl,rfl⟩|⟨k1,rfl⟩<;>rcases hj1 with ⟨rfl,rfl⟩|⟨k2,rfl⟩ <;>
     simp only[Instr.sliceBounds,k7,zT,Option.bind_some,kF7]
    ·simp
    ·by_cases c:0≤j∧j≤(l.length:Int)
     ·simp[c]
     ·simp only[if_neg c,Option.bind_none]
      rw[if_neg];omega
    ·by_cases c:0≤i∧i≤(l.length:Int)
     ·simp[c]
     ·simp only[if_neg c,Option.bind_none]
      rw[if_neg];omega
    ·by_cases c:0≤j∧j≤(l.length:Int)
     ·simp only[if_pos c,Option.bind_some]
      by_cases c2:0≤i∧i≤(j.toNat:Int)
      ·simp only[if_pos c2,Option.bind_some]
       rw[if_pos (by omega)]
      ·simp only[if_neg c2,Option.bind_none]
       rw[if_neg (by omega)]
     ·simp only[if_neg c,Option.bind_none]
      rw[if_neg (by omega)]
   have e1:calm P (Instr.sliceAt t (sv l) lo' hi' none)=calm P (Instr.slice t (sv l) lo' hi' none):=by
    unfold Instr.sliceAt
    simp only[k7,underlying,qJ,zT,Option.bind_some,hu]
   rw[e1]
   unfold Instr.slice
   simp only[k7,underlying,qJ,zT,Option.bind_some,hu,sv,size_sv,hb]
   by_cases c:0≤i∧i≤j∧j≤(l.length:Int)
   ·simp only[if_pos c,Option.isSome_none,Bool.false_eq_true,if_false,k7,hb,Option.bind_some,zT]
    have:=sv_extract (l:=l) (i:=i.toNat) (j:=j.toNat) (by omega)
    rw[this];rfl
   ·simp only[if_neg c,Option.isSome_none,Bool.false_eq_true,if_false,k7,hb,Option.bind_none]
  rw[show res P (Instr.sliceAt t (sv l) lo' hi' none)=(calm P (Instr.sliceAt t (sv l) lo' hi' none)).map AV.v from rfl,key]
  split<;>rfl
 ·rfl
omit [Tabs] in
theorem slice_sii {t:TypeId} {l:List UInt8} {i j:Int} {k2:IntKind}:kBs P t (.v (sv l)) (some (.v (.int k i))) (some (.v (.int k2 j)))=sliceS (P.underlying t) (sliceD P t (.v (sv l)) (some (.v (.int k i))) (some (.v (.int k2 j)))) i j l:=sliceP_str rfl rfl (.inr ⟨_,rfl⟩) (.inr ⟨_,rfl⟩)
-- structs
theorem op_build {t:TypeId} {l:List (Nat×Operand)}:vcOp P Γ dr σ ⟨d,.build t (List.toArray l),ty,pos,after,g⟩ K=popC (buildC P t (kCr σ l)) d K σ:=by
 rw[← zM]
 simp only[vcOp,kY,pop,pop2,Option.none_or,buildC,kBS]
omit [Tabs] in
theorem buildC_eq {t:TypeId} {ps:List (Nat×AV)}:buildC P t ps=buildIn P (tiOf P t) ps:=by
 simp only[buildC,buildA,buildIn,buildArr]<;>rfl
omit [Tabs] in
theorem buildIn_st {sz by_:Nat} {z:List Value} {fs:List (Nat×Nat)} {hs:List Nat} {ps:List (Nat×AV)}:buildIn P (some ⟨sz,by_,some (.agg (List.toArray z)),.st fs,hs⟩) ps =
    if fs.all (fun p=>decide (0 < p.2))=true then (kCh (fun i=>fs[i]?) (kED hs z) ps).map .agg else none:=rfl
omit [Tabs] in
theorem fillA_nil {place:Nat→Option (Nat×Nat)} {cs:List AV}:kCh place cs []=some cs:=rfl
omit [Tabs] in
theorem fillA_cons {place:Nat→Option (Nat×Nat)} {cs:List AV} {i:Nat} {a:AV} {r:List (Nat×AV)}:kCh place cs ((i,a)::r)=fillB place (place i) (cellsOf a) cs r:=by
 simp only[kCh,fillB]<;>rfl
omit [Tabs] in
theorem fillB_eq {place:Nat→Option (Nat×Nat)} {off size:Nat} {vs cs:List AV} {r:List (Nat×AV)}:fillB place (some (off,size)) (some vs) cs r =
    if vs.length=size∧off+size≤cs.length then kCh place (cs.take off++vs++cs.drop (off+size)) r else none:=rfl
omit [Tabs] in
theorem zeroL_nil {hs:List Nat}:kED hs []=[]:=rfl
omit [Tabs] in
theorem zeroL_cons {n:Nat} {hs:List Nat} {v:Value} {r:List Value}:kED (n::hs) (v::r)=hintV n (ofV1 v)::kED hs r:=rfl
omit [Tabs] in
theorem hintV_v {n:Nat} {x:Value}:hintV n (.v x) = .v x:=rfl
omit [Tabs] in
theorem hintV_nil {n:Nat}:hintV n (.sl 1 0 []) = .sl 1 n []:=rfl
omit [Tabs] in
theorem ofV1_int {x:Int}:ofV1 (.int k x) = .v (.int k x):=rfl
omit [Tabs] in
theorem ofV1_bool {x:Bool}:ofV1 (.bool x) = .v (.bool x):=rfl
omit [Tabs] in
theorem ofV1_sv {x:List UInt8}:ofV1 (.string ⟨List.toArray x⟩) = .v (sv x):=rfl
omit [Tabs] in
theorem ofV1_nil:ofV1 (.slice none 0 0) = .sl 1 0 []:=rfl
-- least, greatest
omit [Tabs] in
theorem argV_two {x y:Operand}:argV σ (List.toArray [x,y])=match ev σ x,ev σ y with|.v a,.v b=>some [a,b]|_,_=>none:=by
 simp only[argV,List.mapM_cons,List.mapM_nil]
 cases ev σ x<;>cases ev σ y<;>rfl
theorem op_min {x y:Operand} {ts:Array TypeId}:vcOp P Γ dr σ ⟨d,.call { callee:=.builtin .min,args:=List.toArray [x,y],argTypes:=ts },ty,pos,after,g⟩ K=popC (match ev σ x,ev σ y with|.v a,.v b=>res P (Builtin.min2 a b)|_,_=>none) d K σ:=by
 rw[← zM]
 simp only[vcOp,kY,pop,pop2,Option.or_none,argV_two]
 cases ev σ x<;>cases ev σ y<;>simp[Builtin.min_]
theorem op_max {x y:Operand} {ts:Array TypeId}:vcOp P Γ dr σ ⟨d,.call { callee:=.builtin .max,args:=List.toArray [x,y],argTypes:=ts },ty,pos,after,g⟩ K=popC (match ev σ x,ev σ y with|.v a,.v b=>res P (Builtin.max2 a b)|_,_=>none) d K σ:=by
 rw[← zM]
 simp only[vcOp,kY,pop,pop2,Option.or_none,argV_two]
 cases ev σ x<;>cases ev σ y<;>simp[Builtin.max_]
omit [Tabs] in
theorem min2_int {a b:Int}:res P (Builtin.min2 (.int k a) (.int k b))=some (.v (.int k (min a b))):=by
 simp only[Builtin.min2,res_pure]
 congr 3
 split<;>omega
omit [Tabs] in
theorem jA {a b:Int}:res P (Builtin.max2 (.int k a) (.int k b))=some (.v (.int k (max a b))):=by
 simp only[Builtin.max2,res_pure]
 congr 3
 split<;>omega
omit [Tabs] in
theorem inlR_ret {rs:List ResultVar} {n':Nat}:inlR P rs n' d K .ret ⟨n,t,hd,m⟩=inlP n' d K (topH hd) (popH hd) m (resL P ⟨n,t,hd,m⟩ rs):=rfl
omit [Tabs] in
theorem inlP_some {bs:List AV}:inlP n d K t hd m (some bs)=cont ⟨n,t,hd,m⟩ d (kAm bs) K:=rfl
omit [Tabs] in
theorem topH_push:topH (kB8 t hd)=t:=rfl
omit [Tabs] in
theorem popH_push:popH (kB8 t hd)=hd:=rfl
omit [Tabs] in
theorem turnT_eq {l j i:Nat} {zs:List AV}:turnT fm l j zs t i=(t i).turn fm l j zs:=rfl
theorem weak_slots {t':Nat→AV} (hs:∀ i,t' i=t i∨t' i = .any):Weak ⟨n,t,hd,m⟩ ⟨n,t',hd,m⟩:=by
 intro w0 F0 Fp X G w a hr
 refine ⟨G,hr.sz,hr.df,fun i=>?_,hr.hd,hr.mm,hr.tb⟩
 rcases hs i with h1|h1
 ·show VR G w _ (t' i);rw[h1];exact hr.tm i
 ·show VR G w _ (t' i);rw[h1];exact .any _
def kAG (t:Nat→AV):List (Nat×AV)→Prop
 | []=>True
 | p::r=>t p.1=p.2∧kAG t r
omit [Tabs] in
theorem slotsEq_nil:kAG t []=True:=rfl
omit [Tabs] in
theorem slotsEq_cons {i:Nat} {a:AV} {r:List (Nat×AV)}:kAG t ((i,a)::r)=(t i=a∧kAG t r):=rfl
omit [Tabs] in
theorem kFt:∀ {s:List (Nat×AV)},kAG t s→∀ i,look s i=t i∨look s i = .any
 | [],_,i=>.inr rfl
 | (j,a)::r,h,i=>by
   unfold look
   split
   ·rename_i hi;subst hi;exact .inl h.1.symm
   ·exact kFt h.2 i
theorem weak_same {s:List (Nat×AV)} (hs:kAG t s):Weak ⟨n,t,hd,m⟩ ⟨n,look s,hd,m⟩:=weak_slots (kFt hs)
omit [Tabs] in
theorem zips_eq (f:Nat→AV):∀ (l:List AV) (k:Nat),(∀ j,j < l.length→f (k+j)=l.getD j .any)→kAG f (zips k l)
 | [],_,_=>trivial
 | a::r,k,h=>⟨by simpa using h 0 (by simp),zips_eq f r (k+1) fun j hj=>by
     have:=h (j+1) (by simpa using hj)
     rw[show k+1+j=k+(j+1) by omega]
     simpa using this⟩
theorem kER (hΓ : kK P Γ) {f : FuncId} {fn : Func} {c : Code} {as : List AV} {rs : List ResultVar} {nn : Nat} (hC : Γ.get f = none) (hf : P.funcs[f]? = some fn) (hn : (fn.name == "runtime.NumGoroutine") = false) (hb : fn.body = some c)
    (hr:fn.results.toList=rs) (hnn:as.length+(fn.ntmps - as.length)=nn)
    (hk:vc P Γ c (inlR P rs n d K) ⟨nn,look (zips 0 as),kB8 t hd,m⟩):kS P Γ false ⟨n,t,hd,m⟩ f as d K:=by
 unfold kS
 rw[hC]
 refine ⟨rfl,.inr (.inl ⟨fn,c,hf,hn,hb,?_⟩)⟩
 have e:(AS.enter ⟨n,t,hd,m⟩ fn.ntmps as)=⟨nn,fun k=>as.getD k (.v undef),kB8 t hd,m⟩:=by
  subst hnn
  simp only[AS.enter,AS.mk.injEq,true_and,and_true]
  funext j
  cases j<;>rfl
 rw[e]
 refine AWP.weak (weak_same (zips_eq _ _ _ fun j hj=>?_)) ((j5 hΓ c hk).mono fun e σ hq=>?_)
 ·simp only[Nat.zero_add,List.getD_eq_getElem?_getD,List.getElem?_eq_getElem hj,Option.getD_some]
 ·have key:∀ σ:AS,inlP n d K (topH σ.hd) (popH σ.hd) σ.m (resL P σ rs)→(match resL P σ fn.results.toList with|some bs=>cont (σ.leave n) d (kAm bs) K|none=>False):=by
    intro σ hq
    rw[hr]
    cases hx:resL P σ rs with
    | none=>rw [hx] at hq;exact hq
    | some bs=>rw [hx] at hq;exact hq
  cases e with
  | normal=>exact key σ hq
  | ret=>exact key σ hq
  | _=>exact hq
end
end Go.Rw
end
-- RwUse
namespace Go.Rw
open Go Go.RowKit
section
variable {P:Program} [Tabs] {Γ:Env} {σ:AS} {Q:Exit→AS→Prop} {K:AS→Prop} {dr:Bool} {n:Nat} {t:Nat→AV} {hd:Nat→Nat→AV} {m:AM} {d:Option Nat}
variable {nh nl:Nat} {h:Nat→Option AO} {fm:Nat→Nat} {lv:Nat→Option (Nat×Nat)} {mu:Bool} {k:IntKind}
theorem kZ (hΓ : kK P Γ) {f : FuncId} {fn : Func} {c : Code} {ι : Type} {args : ι → List AV} {post : ι → AV → Prop} {plain : Bool} {own : Option (Nat × Nat)} {rs : List ResultVar} {nn : Nat} (hf : P.funcs[f]? = some fn) (hn : (fn.name == "runtime.NumGoroutine") = false) (hb : fn.body = some c)
    (hr:fn.results.toList=rs) (hnn:∀ i,(args i).length+(fn.ntmps - (args i).length)=nn) (hcl:∀ i,AV.erL (args i)=args i)
    (h:∀ i,vc P Γ c (retR P rs ⟨ι,args,post,plain,own,none⟩ i) (AS.of nn (zips 0 (args i)) [] [])):Good P f ⟨ι,args,post,plain,own,none⟩ :=
 good_go (C:=⟨ι,args,post,plain,own,none⟩) hΓ hf hn hb hr rfl hnn hcl h
theorem kC8 {f : FuncId} {fn : Func} {c : Code} {ι : Type} {args : ι → List AV} {post : ι → AV → Prop} {plain : Bool} {own : Option (Nat × Nat)} {rs : List ResultVar} {nn : Nat} (hf : P.funcs[f]? = some fn) (hn : (fn.name == "runtime.NumGoroutine") = false) (hb : fn.body = some c)
    (hr:fn.results.toList=rs) (hnn:∀ i,(args i).length+(fn.ntmps - (args i).length)=nn) (hcl:∀ i,AV.erL (args i)=args i)
    (h:∀ i,AWP P c (retR P rs ⟨ι,args,post,plain,own,none⟩ i) (AS.of nn (zips 0 (args i)) [] [])):Good P f ⟨ι,args,post,plain,own,none⟩:=by
 refine good_awp (C:=⟨ι,args,post,plain,own,none⟩) hf hn hb fun i=>?_
 have hw:Weak (AS.init fn (args i) none) (AS.of nn (zips 0 (args i)) [] []):=by
  refine weak_of [] [] (hnn i) (fun _=>by simp[AS.init]) ⟨by simp[Ad.lives],by simp,by simp[obOk],by simp[adOk]⟩ ?_
  refine kEM (fun _=>.any) _ _ fun j hj=>?_
  have e:(AS.init fn (args i) none).t (0+j)=(args i).getD j .any:=by
   simp only[AS.init,Nat.zero_add,List.getD_eq_getElem?_getD,List.getElem?_eq_getElem hj,Option.getD_some]
  rw[e]
  exact ren_closed _ (kFz (hcl i) hj)
 refine AWP.weak hw ((h i).mono fun e σ hq=>?_)
 subst hr
 exact hq
theorem awp_mid (hΓ:kK P Γ) {x y:Code} {α:Type} (St:α→AS) (h1:vc P Γ x (kAW (fun σ=>∃ a,Weak σ (St a)) Q) σ) (h2:∀ a,AWP P y Q (St a)):AWP P (.seq x y) Q σ :=
 AWP.seq ((j5 hΓ x h1).mono fun e σ' hq=>by
  cases e with
  | normal=>obtain ⟨a,ha⟩:=hq;exact AWP.weak ha (h2 a)
  | _=>exact hq)
omit [Tabs] in
theorem retOk_none {ι:Type} {args:ι→List AV} {post:ι→AV→Prop} {plain:Bool} {take:Option (Nat×Nat)} {i:ι} {r:AV}:retOk ⟨ι,args,post,plain,none,take⟩ i m r=(post i r.er∧(plain=true→r.plain=true)):=rfl
theorem kHI {f:FuncId} {C:Con} (hfn:FnOk P f) (ht:C.take=none) (ho:C.own=none)
    (h:∀ (i:C.ι) (w:World) (F:Nat→Nat) (vs:Array Value),TabOk w (k8 none)→vs.size=(C.args i).length→(∀ k,VR (Gin F none) w (vs.getD k undef) ((C.args i).getD k .any)) →
     Calls P f vs w fun e w'=>∃ v r,e = .returned v∧C.post i r∧(∀ G w,VR G w v r)∧r.plain=true∧Below w.heap.size w w'):Good P f C:=by
 refine ⟨hfn,fun w F i vs tk hF htb hti hs hv=>?_⟩
 rw[ht]at hti
 simp only[kCU]at hti
 subst hti
 refine (h i w F vs htb hs hv).mono ?_
 rintro e w' ⟨v,r,rfl,hp,hr,hpl,hb⟩
 refine ⟨v,r,F,none,rfl,hp,hr _ _,⟨hb.os,hb.tape,hb.output,hb.size,fun g hg _=>hb.block g hg,fun _ _ _=>rfl,fun g i hi=>hb.cell (p:=⟨g,i,none⟩) (hF g (by omega)),fun _=>Nat.le_refl _,fun g hg=>Nat.lt_of_lt_of_le (hF g hg) hb.size⟩,by rw[ho];rfl,fun _=>hpl⟩
theorem jR {f:FuncId} {as:List AV} (hC:Γ.get f=none) (hR:RawC P σ f as d K):kS P Γ false σ f as d K:=by
 unfold kS
 rw[hC]
 exact ⟨rfl,.inr (.inr hR)⟩
theorem kG6 {f:FuncId} {C:Con} {as:List AV} {i:C.ι} (hC:Γ.get f=some C) (hp:C.plain=true) (ho:C.own=none) (ht:C.take=none) (ha:AV.erL as=C.args i) (hpl:∀ r,C.post i r→r.plain=true)
    (hk:∀ r,C.post i r→cont σ d r K):kS P Γ false σ f as d K:=by
 unfold kS
 rw[hC]
 refine ⟨i,by rw[ht];exact ha,?_⟩
 simp only[Bool.false_eq_true,if_false]
 refine ⟨by rw[ht];trivial,fun r hr=>?_⟩
 have h1:=hk r hr
 simp only[Go.Rw.after,ho,ht,hp,tlOf,kCy,if_true]
 rw[er_plain _ (hpl r hr)]
 exact h1
end
end Go.Rw
-- RwLab
namespace Go.Rw
open Go Go.RowKit
def labQ [Tabs] {α:Type} (P:Program) (Γ:Env) (c:Code) (l:Nat) (St:α→AS) (μ:α→Nat) (x:Option α) (Q:Exit→AS→Prop) (n:Nat):Exit→AS→Prop
 | .goto k,σ=>if k=l then (∃ y,(∀ x',x=some x'→μ y < μ x')∧Weak σ (St y)) else ∃ rest,findLabel c k=some rest∧vc P Γ rest (fwdQ P Γ c Q n) σ
 | e,σ=>Q e σ
def vcl [Tabs] (P:Program) (Γ:Env) (l:Nat) (W:AS→Prop):Code→(Exit→AS→Prop)→AS→Prop
 | .seq (.label k) y,Q,σ=>if k=l then W σ else vcl P Γ l W y Q σ
 | .seq x y,Q,σ=>vc P Γ x (kAW (vcl P Γ l W y Q) Q) σ
 | c,Q,σ=>vc P Γ c Q σ
def jJ (l:Nat):Code→Option Code
 | .seq (.label k) y=>if k=l then some y else jJ l y
 | .seq _ y=>jJ l y
 | _=>none
section
variable {P:Program} [Tabs] {Γ:Env} {σ:AS} {Q:Exit→AS→Prop} {K:AS→Prop} {n:Nat}
theorem vcl_ok (hΓ:kK P Γ) {l:Nat} {W:AS→Prop} {R:Code}:∀ (c:Code) {σ:AS},jJ l c=some R→(∀ σ,W σ→AWP P R Q σ)→vcl P Γ l W c Q σ→AWP P c Q σ
 | .seq x y,σ,hs,hW,h=>by
   have gen:∀ {σ:AS},jJ l y=some R→vc P Γ x (kAW (vcl P Γ l W y Q) Q) σ→AWP P (.seq x y) Q σ:=fun hs' h=>AWP.seq ((j5 hΓ x h).mono fun e σ' hq=>by
    cases e with
    | normal=>exact vcl_ok hΓ y hs' hW hq
    | _=>exact hq)
   cases x with
   | label k =>
     simp only[vcl]at h
     simp only[jJ]at hs
     split at h
     ·rename_i hk
      rw[if_pos hk]at hs
      obtain rfl:=Option.some.inj hs
      exact kDz (hW _ h)
     ·rename_i hk
      rw[if_neg hk]at hs
      exact kDz (vcl_ok hΓ y hs hW h)
   | _=>exact gen hs h
 | .skip,_,hs,_,_=>by cases hs
 | .region _ _ _,_,hs,_,_=>by cases hs
 | .cond _ _ _,_,hs,_,_=>by cases hs
 | .block _ _,_,hs,_,_=>by cases hs
 | .exit _,_,hs,_,_=>by cases hs
 | .label _,_,hs,_,_=>by cases hs
 | .goto _,_,hs,_,_=>by cases hs
 | .ret,_,hs,_,_=>by cases hs
 | .loop _,_,hs,_,_=>by cases hs
 | .scope _,_,hs,_,_=>by cases hs
 | .rangeFunc _ _ _ _,_,hs,_,_=>by cases hs
 | .refuse _,_,hs,_,_=>by cases hs
theorem vc_lab (hΓ:kK P Γ) {α:Type} {c:Code} (l:Nat) {R:Code} (St:α→AS) (μ:α→Nat) (n:Nat) (hf:findLabel c l=some (.seq .skip R)) (hs:jJ l c=some R)
    (hr:∀ x,vc P Γ R (labQ P Γ c l St μ (some x) Q n) (St x))
    (h0:vcl P Γ l (fun σ=>∃ y,Weak σ (St y)) c (labQ P Γ c l St μ none Q n) σ):vc P Γ (.scope c) Q σ:=by
 show AWP P (.scope c) Q σ
 let J:Nat→Nat→AS→Prop:=fun k j σ=>(k=l∧∃ y,μ y+n+1=j∧σ = St y)∨(j≤n∧∃ rest,findLabel c k=some rest∧vc P Γ rest (fwdQ P Γ c Q j) σ)
 have fwd:∀ (j:Nat) (e:Exit) (σ:AS),j≤n→fwdQ P Γ c Q j e σ→hopQ J (some j) Q e σ:=by
  intro j e σ hj hq
  cases j with
  | zero=>cases e<;>first|exact hq|exact hq.elim
  | succ j =>
    cases e with
    | goto k =>
      obtain ⟨rest,h1,h2⟩:=hq
      exact ⟨j,fun i hi=>by simp at hi;omega,σ,Weak.refl σ,.inr ⟨by omega,rest,h1,h2⟩⟩
    | _=>exact hq
 have hop:∀ (x:Option α) (e:Exit) (σ':AS),labQ P Γ c l St μ x Q n e σ'→hopQ J (x.map fun x=>μ x+n+1) Q e σ':=by
  intro x e σ' hq
  cases e with
  | goto k =>
    simp only[labQ]at hq
    split at hq
    ·rename_i hk
     obtain ⟨y,h1,h2⟩:=hq
     refine ⟨μ y+n+1,fun j hj=>?_,St y,h2,.inl ⟨hk,y,rfl,rfl⟩⟩
     cases x with
     | none=>cases hj
     | some x=>simp at hj;have:=h1 x rfl;omega
    ·obtain ⟨rest,h1,h2⟩:=hq
     refine ⟨n,fun j hj=>?_,σ',Weak.refl σ',.inr ⟨Nat.le_refl _,rest,h1,h2⟩⟩
     cases x with
     | none=>cases hj
     | some x=>simp at hj;omega
  | _=>exact hq
 refine AWP.scope J ?_ ?_
 ·rintro k j σ (⟨rfl,y,rfl,rfl⟩|⟨hj,rest,h1,h2⟩)
  ·exact ⟨_,hf,awp_skip ((j5 hΓ _ (hr y)).mono (hop (some y)))⟩
  ·exact ⟨rest,h1,(j5 hΓ _ h2).mono fun e σ hq=>fwd j e σ hj hq⟩
 ·refine AWP.mono (vcl_ok hΓ c hs (fun σ' hw=>?_) h0) (hop none)
  obtain ⟨y,hw⟩:=hw
  refine AWP.weak hw ((j5 hΓ _ (hr y)).mono fun e σ2 hq=>?_)
  cases e with
  | goto k =>
    simp only[labQ]at hq ⊢
    split at hq
    ·rename_i hk
     rw[if_pos hk]
     obtain ⟨z,_,h3⟩:=hq
     exact ⟨z,(fun x' hx=>by cases hx),h3⟩
    ·rename_i hk
     rw[if_neg hk];exact hq
  | _=>exact hq
variable {l k i:Nat} {α:Type} {St:α→AS} {μ:α→Nat} {x:Option α} {c y:Code} {W:AS→Prop}
theorem lab_ret:labQ P Γ c l St μ x Q n .ret σ = Q .ret σ:=rfl
theorem lab_again {x:α}:labQ P Γ c l St μ (some x) Q n (.goto l) σ = kFm St μ x σ:=by simp[labQ,kFm]
theorem lab_ahead (h:k≠l):labQ P Γ c l St μ x Q n (.goto k) σ = ∃ rest,findLabel c k=some rest∧vc P Γ rest (fwdQ P Γ c Q n) σ:=by simp[labQ,h]
theorem vcl_same:vcl P Γ l W (.seq (.label l) y) Q σ = W σ:=by simp[vcl]
theorem vcl_region {id:Nat} {ops:Array Oper} {dr:Bool}:vcl P Γ l W (.seq (.region id ops dr) y) Q σ = vc P Γ (.region id ops dr) (kAW (vcl P Γ l W y Q) Q) σ:=rfl
theorem vcl_seq {u v:Code}:vcl P Γ l W (.seq (.seq u v) y) Q σ = vc P Γ (.seq u v) (kAW (vcl P Γ l W y Q) Q) σ:=rfl
theorem fwd_goto {l:Nat} {c:Code}:fwdQ P Γ c Q (n+1) (.goto l) σ = ∃ rest,findLabel c l=some rest∧vc P Γ rest (fwdQ P Γ c Q n) σ:=rfl
end
end Go.Rw
-- RwRules
namespace Go.Rw
open Go
theorem zips_nil {k:Nat}:zips k []=[]:=rfl
theorem zips_cons {k:Nat} {a:AV} {r:List AV}:zips k (a::r)=(k,a)::zips (k+1) r:=rfl
def goRules :=
 (aI @vc_skip (aI @vc_region (aI @vc_drawn (aI @vc_seq (aI @vc_cond (aI @vc_block (aI @vc_exit (aI @vc_label (aI @vc_goto (aI @vc_ret (aI @thenQ_normal (aI @thenQ_ret (aI @thenQ_exit (aI @thenQ_goto (aI @blockQ_normal (aI @blockQ_ret (aI @blockQ_goto (aI @blockQ_same (aI @kE9 (aI @kDu (aI @vcOps_nil (aI @vcOps_cons (aI @vcOps_guard (aI @opThen_eq (aI @skipThen_eq (aI @guardO_some (aI @gdst_zero (aI @gdst_succ (aI @guardB_tt (aI @guardB_ff (aI @guardB_tf (aI @guardB_ft (aI @guardB_undef (aI @cont_none (aI @cont_some (aI @popC_some (aI @popC_if (aI @look_cons (aI @look_nil (aI @ev_tmp (aI @ev_const (aI @ev_func (aI @evT_tmp (aI @evT_const (aI @evT_func (aI @ofV_int (aI @ofV_bool (aI @ofV_nil (aI @ofVh_int (aI @ofVh_bool (aI @op_move (aI @op_assign (aI @op_pick (aI @op_bin (aI @binC_v (aI @binC_agg (aI @binC_ptr (aI @binC_sl (aI @nilB_eql (aI @op_field (aI @op_makeFunc (aI @op_un (aI @op_convert (aI @convC_sl (aI @convC_int (aI @strC_slc (aI @op_extract (aI @op_fieldAddr (aI @op_indexAddr (aI @op_index (aI @op_load (aI @op_nilCheck (aI @ofV_sv (aI @ofVh_sv (aI @ofVh_agg (aI @aggA_nil (aI @aggA_int (aI @aggA_bool (aI @aggA_sv (aI @aggA_sl (aI @bin_add (aI @bin_sub (aI @bin_and (aI @bin_or (aI @bin_shl (aI @bin_eql (aI @bin_neq (aI @bin_lss (aI @bin_leq (aI @bin_gtr (aI @bin_geq (aI @bin_beql (aI @bin_bneq (aI @boolB_eq (aI @bin_seql (aI @bin_sneq (aI @bin_sadd (aI @un_not (aI @conv_int (aI @convB_int (aI @conv_sl (aI @textE_eq (aI @textB_i32 (aI @convC_sv (aI @runeE_sv (aI @runeE_bytes (aI @slcIn_eq (aI @slcSz_eq (aI @fieldIn_eq (aI @hints_eq (aI @hintsIn_eq (aI @ofVh_nil (aI @loadA_eq (aI @loadIn_int (aI @loadIn_str (aI @loadIn_slc (aI @loadIn_other (aI @loadIn_st (aI @cells_agg (aI @cells_v (aI @pickC_eq (aI @pickA_bool (aI @pickA_true (aI @pickA_false (aI @extractA_eq (aI @fieldAddr_ptr (aI @fieldAddr_ep (aI @indexAddr_eq (aI @nilCheck_ptr (aI @load_ep (aI @load_ptr (aI @loadO_eq (aI @cellsOf_int (aI @cellsOf_bool (aI @cellsOf_sv (aI @cellsOf_sl (aI @cellsOf_agg (aI @vc_int (aI @vc_agg (aI @maxLen_eq (aI @one_int (aI @one_bool (aI @one_sv (aI @one_obj (aI @cellsOf_obj (aI @one_sl (aI @er_v (aI @er_sl (aI @er_agg (aI @er_tup (aI @erL_nil (aI @erL_cons (aI @tags_v (aI @tags_sl (aI @tags_agg (aI @tagsL_nil (aI @tagsL_cons (aI @plain_v (aI @plain_agg (aI @plain_tup (aI @plainL_nil (aI @plainL_cons (aI @kBi (aI @updn_eq (aI @zeroIn_eq (aI @op_alloc (aI @newD_eq (aI @op_allocD (aI @op_box (aI @newC_eq (aI @op_store (aI @storeD_ptr (aI @op_storeD (aI @storeC_eq (aI @storeC_ep (aI @storeE_eq (aI @storeO_eq (aI @partsE_nil (aI @partsE_cons (aI @op_buildSlice (aI @op_buildDead (aI @deadE_eq (aI @deadZ_eq (aI @rowE_eq (aI @rowC_eq (aI @elemsB_nil (aI @elemsB_cons (aI @snds_nil (aI @snds_cons (aI @ersP_nil (aI @ersP_cons (aI @setParts_eq (aI @op_append (aI @appE_eq (aI @appC_eq (aI @evTs_nil (aI @evTs_cons (aI @op_call (aI @callC_eq (aI @kQ (aI @kC (aI @optE_none (aI @optE_some (aI @op_slice (aI @sliceP_ni (aI @sliceP_in (aI @sliceL_eq (aI @lenA_sl (aI @lenS_eq (aI @op_len (aI @lenA_str (aI @lenStr_eq (aI @retR_ret (aI @retP_some (aI @oneOf_one (aI @oneOf_more (aI @resL_nil (aI @resL_tmp (aI @resL_cell (aI @loadPtr_eq (aI @consR_some (aI @fwd_ret (aI @slotsOk_nil (aI @slotsOk_cons (aI @obOk_nil (aI @obOk_cons (aI @renOo_cells (aI @renOo_map (aI @renOo_mit (aI @renOo_iter (aI @adOk_nil (aI @adOk_live (aI @adOk_none (aI @lives_nil (aI @lives_live (aI @lives_none (aI @ren_v (aI @ren_tup (aI @ren_sl (aI @ren_ptr (aI @renL_nil (aI @renL_cons (aI @tagOk_low (aI @tagOk_zero (aI @tagOk_more (aI @tagAd_live (aI @tagAd_nil (aI @turned_eq (aI @turn_v (aI @turn_any (aI @turn_sl (aI @turnL_nil (aI @turnL_cons (aI @turnO_cells (aI @turnO_map (aI @ofV_ptr (aI @ofVh_ptr (aI @op_range (aI @rangeC_eq (aI @op_next (aI @nextC_eq (aI @index_str (aI @indexStr_eq (aI @sliceS_eq (aI @slice_sii (aI @op_build (aI @buildC_eq (aI @buildIn_st (aI @fillA_nil (aI @fillA_cons (aI @fillB_eq (aI @zeroL_nil (aI @zeroL_cons (aI @hintV_v (aI @hintV_nil (aI @ofV1_int (aI @ofV1_bool (aI @ofV1_sv (aI @ofV1_nil (aI @op_min (aI @op_max (aI @min2_int (aI @jA (aI @inlR_ret (aI @inlP_some (aI @topH_push (aI @popH_push (aI @turnT_eq (aI @slotsEq_nil (aI @slotsEq_cons (aI @lab_ret (aI @lab_again (aI @lab_ahead (aI @vcl_same (aI @vcl_region (aI @vcl_seq (aI @fwd_goto (aI @zips_nil (aI @zips_cons @retOk_none)))))))))))))))))))))))))))))))))))))))))))))))))))))))))))))))))))))))))))))))))))))))))))))))))))))))))))))))))))))))))))))))))))))))))))))))))))))))))))))))))))))))))))))))))))))))))))))))))))))))))))))))))))))))))))))))))))))))))))))))))))))))))))))))))))))))))))))))))))))))))))))))))))))))))))
def coreRules :=
 (aI @Int.toNat_natCast (aI @imp_self (aI @Nat.mul_one (aI @false_or (aI @or_false (aI @or_true (aI @true_or (aI @false_and (aI @and_false (aI @false_implies (aI @implies_true.{1} (aI @Value.int.injEq (aI @Value.bool.injEq (aI @AV.v.injEq (aI @List.mem_cons.{0} (aI @or_self (aI @ne_eq.{1} (aI @not_true_eq_false (aI @true_and (aI @and_true (aI @List.getElem?_cons_zero.{0} (aI @List.getElem?_cons_succ.{0} (aI @List.getElem?_nil.{0} (aI @List.length_cons.{0} (aI @List.length_nil.{0} (aI @List.take_zero.{0} (aI @List.take_succ_cons.{0} (aI @List.take_nil.{0} (aI @List.drop_zero.{0} (aI @List.drop_succ_cons.{0} (aI @List.drop_nil.{0} (aI @List.nil_append.{0} (aI @List.cons_append.{0} (aI @List.append_nil.{0} (aI @Option.bind_some.{0,0} (aI @Option.map_some.{0,0} (aI @decide_true (aI @decide_false (aI @Bool.not_true (aI @Bool.not_false (aI @cond_true.{1} (aI @cond_false.{1} (aI @List.getD_cons_zero.{0} (aI @List.getD_cons_succ.{0} (aI @List.replicate_zero.{0} (aI @List.replicate_succ.{0} (aI @List.foldl_nil.{0,0} (aI @List.foldl_cons.{0,0} (aI @List.set_cons_zero.{0} (aI @List.set_cons_succ.{0} (aI @List.any_nil.{0} (aI @List.all_nil.{0} (aI @List.all_cons.{0} (aI @Bool.or_false (aI @Bool.or_true (aI @Bool.true_and (aI @Bool.and_true (aI @Bool.false_and (aI @Bool.and_false (aI @Bool.true_or (aI @Bool.false_or (aI @Nat.zero_add (aI @Nat.add_zero (aI @List.headD_cons.{0} (aI @Bool.false_eq_true (aI @List.nodup_nil.{0} (aI @List.nodup_cons.{0} (aI @List.not_mem_nil.{0} @not_false_eq_true))))))))))))))))))))))))))))))))))))))))))))))))))))))))))))))))))))
end Go.Rw
-- RwNum
namespace Go.Rw
open Go
theorem kD {n:Int} (h1:-9223372036854775808≤n) (h2:n≤9223372036854775807):IntKind.wrap .i64 n=n:=by
 simp only[IntKind.wrap,IntKind.bits,IntKind.signed,Bool.true_and]
 split<;>simp_all<;>omega
theorem wrap_u8 {n:Int} (h1:0≤n) (h2:n < 256):IntKind.wrap .u8 n=n:=by
 simp only[IntKind.wrap,IntKind.bits,IntKind.signed,Bool.false_and]
 simp;omega
theorem ints_nil {k:IntKind}:ints k []=[]:=rfl
theorem ints_len {k:IntKind} {l:List Int}:(ints k l).length=l.length:=by simp[ints]
theorem ints_getD {k:IntKind} {l:List Int} {i:Nat} (h:i < l.length):(ints k l).getD i .any = .v (.int k (l.getD i 0)):=by
 simp[ints,List.getD_eq_getElem?_getD,List.getElem?_eq_getElem h]
end Go.Rw
