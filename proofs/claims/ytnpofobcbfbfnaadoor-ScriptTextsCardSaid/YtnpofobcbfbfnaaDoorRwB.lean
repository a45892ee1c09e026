/-
  The operations that turn memory, over abstract states; a function's body reckoned ('vc'). Definitions. The machine's worlds go along with the abstract states: new blocks, stores. Proved over any program. Stores into objects, new rows, append. Proved over any program. Lineages given up; slices of parts; append. Proved over any program. Slices of parts; append. Proved over any program. append. Proved over any program.
-/
import Derived.Test.YtnpofobcbfbfnaaDoorRwA
import Derived.Laws.Cover4
import Derived.Maps.AppendAt
import Derived.Laws.RangeString
set_option linter.unusedSimpArgs false
set_option linter.unusedVariables false
set_option linter.defProp false
set_option linter.unusedSectionVars false

-- RwState
section
namespace Go.Rw
open Go

def AV.one : AV → Bool
  | .v x => x.oneCell'
  | .any | .agg _ | .tup _ => false
  | _ => true

/-- The cells of a value that is laid into memory. -/
def cellsOf : AV → Option (List AV)
  | .agg cs => if cs.all AV.one then some cs else none
  | a => if a.one then some [a] else none

mutual
def AV.tags : AV → List Nat
  | .sl l _ _ => if 2 ≤ l then [l] else []
  | .agg cs => AV.tagsL cs
  | .tup cs => AV.tagsL cs
  | .fn _ cs => AV.tagsL cs
  | _ => []
def AV.tagsL : List AV → List Nat
  | [] => []
  | a :: r => a.tags ++ AV.tagsL r
end
mutual
/-- Without slices and pointers. -/
def AV.plain : AV → Bool
  | .v _ => true
  | .agg cs => AV.plainL cs
  | .tup cs => AV.plainL cs
  | _ => false
def AV.plainL : List AV → Bool
  | [] => true
  | a :: r => a.plain && AV.plainL r
end
/-- The lineage 2 becomes n; all else is of none. -/
def AV.rt1 (n : Nat) : AV → AV
  | .sl l sz xs => .sl (if l = 2 then n else 0) sz xs
  | a => a.er
def AV.rt (n : Nat) : AV → AV
  | .tup cs => .tup (cs.map (AV.rt1 n))
  | a => a.rt1 n

def kill (fm : Nat → Nat) (ts : List Nat) (lv : Nat → Option (Nat × Nat)) : Nat → Option (Nat × Nat) := fun l => if ts.any (fun t => fm t == fm l) then none else lv l

def AM.newObj (m : AM) (x : AO) : AM := { m with nh := m.nh + 1, h := upd m.h m.nh (some x) }
def AM.setObj (m : AM) (o : Nat) (x : AO) : AM := { m with h := upd m.h o (some x) }
def AM.newLin (m : AM) (n e : Nat) : AM := { m with nl := m.nl + 1, fm := upd m.fm m.nl m.nl, lv := upd m.lv m.nl (some (n, e)) }
def AM.killed (m : AM) (ts : List Nat) : AM := { m with lv := kill m.fm ts m.lv }
def AM.grow (m : AM) (l n e : Nat) : AM := { m with lv := upd m.lv l (some (n, e)) }
def AS.new (σ : AS) (x : AO) : AS := { σ with m := σ.m.newObj x }

def cont (σ : AS) (d : Option Nat) (a : AV) (K : AS → Prop) : Prop := match d with | none => K σ | some d => d < σ.n ∧ K (σ.put d a)

def zeroOf (P : Program) (t : TypeId) : Option AV := match tiOf P t with | some { zero := some z, hints, .. } => some (ofVh hints z) | _ => none

/-- What a function takes and answers. 'own': which result is a slice that is the caller's to go on with; 'take': which argument is handed over so. -/
structure Con where
  ι : Type
  args : ι → List AV
  post : ι → AV → Prop
  plain : Bool := false
  own : Option (Nat × Nat) := none
  take : Option (Nat × Nat) := none

def comp (k : Nat) : AV → AV
  | .tup cs => cs.getD k .any
  | a => a
def slLen : AV → Nat
  | .sl _ _ xs => xs.length
  | _ => 0
def slTag : AV → Nat
  | .sl l _ _ => l
  | _ => 0

/-- Arguments as the callee sees them: the one that it takes over is of lineage 2. -/
def argsIn (take : Option (Nat × Nat)) (as : List AV) : List AV :=
  match take with
  | none => AV.erL as
  | some (k, _) => match as[k]? with | some (.sl _ sz xs) => (AV.erL as).set k (.sl 2 sz xs) | _ => AV.erL as

def takeOk (σ : AS) (take : Option (Nat × Nat)) (as : List AV) : Prop :=
  match take with
  | none => True
  | some (k, e) => match as[k]? with
    | some (.sl l sz xs) => 2 ≤ l ∧ σ.m.lv l = some (xs.length, e) ∧ ¬ (AV.tagsL (as.eraseIdx k)).any (fun t => σ.m.fm t == σ.m.fm l)
    | _ => False

/-- The live lineages behind a call: 'pl': nothing comes back that could see memory; 'tl': what was handed over. -/
def lvCall (fm : Nat → Nat) (pl : Bool) (ts : List Nat) (tl : Option Nat) (lv : Nat → Option (Nat × Nat)) : Nat → Option (Nat × Nat) :=
  match tl with
  | none => if pl then lv else kill fm ts lv
  | some l => upd (if pl then lv else kill fm ts lv) l none

theorem lvCall_some {fm : Nat → Nat} {pl : Bool} {ts : List Nat} {tl : Option Nat} {lv : Nat → Option (Nat × Nat)} {l : Nat} {x : Nat × Nat} (h : lvCall fm pl ts tl lv l = some x) :
    lv l = some x ∧ tl ≠ some l ∧ (pl = false → ∀ t ∈ ts, fm t ≠ fm l) := by
  have h2 : (if pl = true then lv else kill fm ts lv) l = some x ∧ tl ≠ some l := by
    cases tl with
    | none => exact ⟨h, by simp⟩
    | some t =>
      simp only [lvCall, upd] at h
      split at h
      · cases h
      · rename_i hne
        exact ⟨h, fun h3 => hne (Option.some.inj h3).symm⟩
  obtain ⟨h3, h4⟩ := h2
  refine ⟨?_, h4, ?_⟩
  · split at h3
    · exact h3
    · unfold kill at h3
      split at h3
      · cases h3
      · exact h3
  · intro hp t ht he
    rw [if_neg (by simp [hp])] at h3
    unfold kill at h3
    rw [if_pos (by rw [List.any_eq_true]; exact ⟨t, ht, by simp [he]⟩)] at h3
    cases h3

def tlOf (take : Option (Nat × Nat)) (as : List AV) : Option Nat := match take with | none => none | some (k, _) => some (slTag (as.getD k .any))

/-- The memory behind a call. -/
def after (C : Con) (m : AM) (as : List AV) (r : AV) : AM :=
  match C.own with
  | none => { m with lv := lvCall m.fm C.plain (AV.tagsL as) (tlOf C.take as) m.lv }
  | some (k, e) => { m with nl := m.nl + 1, fm := upd m.fm m.nl (match tlOf C.take as with | none => m.nl | some l => m.fm l), lv := upd (lvCall m.fm C.plain (AV.tagsL as) (tlOf C.take as) m.lv) m.nl (some (slLen (comp k r), e)) }

abbrev Env := List (FuncId × Con)
def Env.get (Γ : Env) (f : FuncId) : Option Con := (Γ.find? (·.1 == f)).map (·.2)

def resA (P : Program) (σ : AS) : ResultVar → Option AV
  | .tmp t => some (σ.t t)
  | .cell x t => match σ.t x with
    | .ptr o k => match σ.m.h o with
      | some (.cells cs) => loadA P t cs k
      | _ => none
    | _ => none
def resL (P : Program) (σ : AS) : List ResultVar → Option (List AV)
  | [] => some []
  | r :: rs => match resA P σ r, resL P σ rs with
    | some a, some as => some (a :: as)
    | _, _ => none
def oneOf : List AV → AV
  | [a] => a
  | as => .tup as

/-- What is told behind a piece of code. -/
def LQ [Tabs] (w0 : World) (F0 : Nat → Nat) (Fp : Nat → Prop) (X : Nat → Nat → Value) (Q : Exit → AS → Prop) : Exit → Act → World → Prop := fun e a w => ∃ G σ, Rel w0 F0 Fp X G w a σ ∧ Q e σ

/-- From every world that tells the state σ the code comes to where Q says. -/
def AWP [Tabs] (P : Program) (c : Code) (Q : Exit → AS → Prop) (σ : AS) : Prop := ∀ w0 F0 Fp X G w a, Rel w0 F0 Fp X G w a σ → c.wp P (LQ w0 F0 Fp X Q) a w

/-- A call entered: the callee's slots; the caller's wait. -/
def AS.enter (σ : AS) (ntmps : Nat) (as : List AV) : AS where
  n := as.length + (ntmps - as.length)
  t := fun k => as.getD k (.v undef)
  hd := fun j => match j with | 0 => σ.t | j + 1 => σ.hd j
  m := σ.m
/-- A call left: those slots that waited nearest. -/
def AS.leave (σ : AS) (n : Nat) : AS where
  n := n
  t := σ.hd 0
  hd := fun j => σ.hd (j + 1)
  m := σ.m
def inlQ [Tabs] (P : Program) (rs : List ResultVar) (n : Nat) (d : Option Nat) (K : AS → Prop) : Exit → AS → Prop
  | .normal, σ | .ret, σ => match resL P σ rs with
    | some bs => cont (σ.leave n) d (oneOf bs) K
    | none => False
  | _, _ => False
/-- A call whose body is reckoned in place. -/
def InlC [Tabs] (P : Program) (σ : AS) (f : FuncId) (as : List AV) (d : Option Nat) (K : AS → Prop) : Prop :=
  ∃ fn c, P.funcs[f]? = some fn ∧ (fn.name == "runtime.NumGoroutine") = false ∧ fn.body = some c ∧ AWP P c (inlQ P fn.results.toList σ.n d K) (σ.enter fn.ntmps as)
/-- A call of which is known what it does to the machine. -/
def RawC [Tabs] (P : Program) (σ : AS) (f : FuncId) (as : List AV) (d : Option Nat) (K : AS → Prop) : Prop :=
  FnOk P f ∧ ∀ w0 F0 Fp X G w a vs, Rel w0 F0 Fp X G w a σ → vs.size = as.length → (∀ k, VR G w (vs.getD k undef) (as.getD k .any)) →
    Calls P f vs w fun ed w' => ∃ v σ1 r G', ed = .returned v ∧ Rel w0 F0 Fp X G' w' a σ1 ∧ VR G' w' v r ∧ cont σ1 d r K
/-- Within a region whose order is drawn: what a call does to the state must be nothing, what it answers one thing. -/
def vcMut (P : Program) (σ : AS) (f : FuncId) (as : List AV) (d : Option Nat) (K : AS → Prop) : Prop :=
  match as with
  | [.sl l s ys] => s = 1 ∧ ∃ e k F xs, MutI P f e k F ∧ ys = ints k xs ∧ 2 ≤ l ∧ σ.m.lv l = some (xs.length, e) ∧ σ.m.mu = true ∧ (xs = [] → cont σ d (.tup []) K) ∧ (xs ≠ [] → cont (σ.turned l xs.length (ints k (F xs))) d (.tup []) K)
  | _ => False
def vcCall [Tabs] (P : Program) (Γ : Env) (dr : Bool) (σ : AS) (f : FuncId) (as : List AV) (d : Option Nat) (K : AS → Prop) : Prop :=
  match Γ.get f with
  | none => dr = false ∧ (vcMut P σ f as d K ∨ InlC P σ f as d K ∨ RawC P σ f as d K)
  | some C => ∃ i : C.ι, argsIn C.take as = C.args i ∧
      (if dr then (C.plain = true ∨ AV.tagsL as = []) ∧ C.own = none ∧ C.take = none ∧ (∃ r, (∀ r', C.post i r' → r' = r) ∧ cont σ d r.er K)
       else takeOk σ C.take as ∧ ∀ r, C.post i r → cont { σ with m := after C σ.m as r } d (match C.own with | none => r.er | some _ => r.rt σ.m.nl) K)

/-- Parts laid into cells. -/
def fillA (place : Nat → Option (Nat × Nat)) : List AV → List (Nat × AV) → Option (List AV)
  | cs, [] => some cs
  | cs, (i, a) :: r =>
    match place i, cellsOf a with
    | some (off, size), some vs => if vs.length = size ∧ off + size ≤ cs.length then fillA place (cs.take off ++ vs ++ cs.drop (off + size)) r else none
    | _, _ => none

/-- A struct's zero: of nil slices the cells of an element are told by the type. -/
def hintV (n : Nat) : AV → AV
  | .sl 1 0 [] => .sl 1 n []
  | a => a
def zeroL : List Nat → List Value → List AV
  | _, [] => []
  | hs, v :: r => hintV (hs.headD 0) (ofV1 v) :: zeroL hs.tail r
/-- A struct of parts. -/
def buildA (P : Program) (t : TypeId) (parts : List (Nat × AV)) : Option AV :=
  match tiOf P t with
  | some { kind := .st fs, zero := some (.agg z), hints, .. } => if fs.all (fun p => 0 < p.2) then (fillA (fs[·]?) (zeroL hints z.toList) parts).map .agg else none
  | some { kind := .arr _ e, zero := some (.agg z), .. } => match tiOf P e with
    | some ie => (fillA (fun i => some (i * ie.size, ie.size)) (z.toList.map ofV1) parts).map .agg
    | none => none
  | _ => none

def i32sOf : List AV → Option (List Int)
  | [] => some []
  | .v (.int .i32 n) :: r => (i32sOf r).map (n :: ·)
  | _ => none
/-- A text's code points, as a row. -/
def runesL (s : ByteArray) : List AV := (Conv.runesFrom s s.size 0 #[]).toList.map .v
/-- Of slices of bytes and of runes: the text. -/
def textA (P : Program) (s d : TypeId) (a : AV) : Option AV :=
  match a, slcOf P s, tiOf P d with
  | .sl _ _ xs, some (e, _), some { kind := .str, .. } => match tiOf P e with
    | some { kind := .int .u8, .. } => (bytesOf xs).map fun l => .v (.string ⟨l.toArray⟩)
    | some { kind := .int .i32, .. } => (i32sOf xs).map fun l => .v (.string (runesBytes l))
    | _ => none
  | _, _, _ => none

/-- A text taken apart into a row of code points. -/
def runesC (P : Program) (σ : AS) (s d : TypeId) (x : Operand) (dst : Option Nat) (K : AS → Prop) : Prop :=
  ∃ b e ti ts, ev σ x = .v (.string b) ∧ slcOf P d = some (e, 1) ∧ tiOf P e = some ti ∧ ti.kind = .int .i32 ∧ tiOf P s = some ts ∧ ts.kind = .str ∧ b.size ≤ 70368744177664 ∧
    cont { σ with m := σ.m.newLin (runesL b).length e } dst (.sl σ.m.nl 1 (runesL b)) K

/-- A text's bytes, as a row. -/
def bytesL (s : ByteArray) : List AV := s.data.toList.map fun b => .v (.int .u8 b.toNat)
/-- A text taken apart into a row of bytes that stays as it is. -/
def bytesC (P : Program) (σ : AS) (s d : TypeId) (x : Operand) (dst : Option Nat) (K : AS → Prop) : Prop :=
  ∃ b e ti ts, ev σ x = .v (.string b) ∧ slcOf P d = some (e, 1) ∧ tiOf P e = some ti ∧ ti.kind = .int .u8 ∧ tiOf P s = some ts ∧ ts.kind = .str ∧ b.size ≤ 70368744177664 ∧
    cont σ dst (.sl 0 1 (bytesL b)) K

def plainVs : List AV → Option (List Value)
  | [] => some []
  | .v x :: r => (plainVs r).map (x :: ·)
  | _ => none
/-- Structs and arrays of plain values, held against each other. -/
def aggBin (P : Program) (op : BinOp) (t : TypeId) (x y : Operand) (a b : AV) : Option AV := match a, b with
  | .agg cs, .agg ds => match plainVs cs, plainVs ds with
    | some a, some b => res P (do eqGuard op t x y (.agg a.toArray) (.agg b.toArray); binOp op t (.agg a.toArray) (.agg b.toArray))
    | _, _ => none
  | _, _ => none
/-- A pointer held against nil. -/
def ptrBin (P : Program) (op : BinOp) (t : TypeId) (a b : AV) : Option AV := match P.underlying t, op, a, b with
  | some (.pointer _), .eql, .ptr _ _, .v (.pointer none) => some (.v (.bool false))
  | some (.pointer _), .eql, .v (.pointer none), .ptr _ _ => some (.v (.bool false))
  | some (.pointer _), .neq, .ptr _ _, .v (.pointer none) => some (.v (.bool true))
  | some (.pointer _), .neq, .v (.pointer none), .ptr _ _ => some (.v (.bool true))
  | _, _, _, _ => none
/-- An element of a row, its cells from the j-th on turned. -/
def setEl (x : AV) (j : Nat) (vs : List AV) : AV := match x with
  | .agg cs => .agg (cs.take j ++ vs ++ cs.drop (j + vs.length))
  | _ => vs.headD .any
/-- A field of a struct's value. -/
def fieldA (P : Program) (t : TypeId) (a : AV) (i : Nat) : Option AV := match a, P.underlying t with
  | .agg cs, some (.struct fs) => match fs[i]? with
    | some f => loadA P f.type cs f.offset
    | none => none
  | _, _ => none
/-- More that turns nothing. -/
def pop2 (P : Program) (σ : AS) (o : Oper) : Option AV :=
  match o.op with
  | .build t parts => buildA P t (parts.toList.map fun (p : Nat × Operand) => (p.1, ev σ p.2))
  | .convert s d x => textA P s d (ev σ x)
  | .binOp op t x y _ => (aggBin P op t x y (ev σ x) (ev σ y)).or (ptrBin P op t (ev σ x) (ev σ y))
  | .field t x i => fieldA P t (ev σ x) i
  | .makeFunc (.func f) first caps => if first = #[] then some (.fn f (caps.toList.map (ev σ))) else none
  | _ => none
/-- A slice held against nil: an empty one may be nil, or not. -/
def nilK (l : Nat) (xs : List AV) (v : Bool) (d : Option Nat) (K : AS → Prop) (σ : AS) : Prop :=
  ((l = 1 ∨ xs = []) → cont σ d (.v (.bool v)) K) ∧ (l ≠ 1 → cont σ d (.v (.bool (!v))) K)
def nilB (ti : Option TI) (op : BinOp) (a b : AV) (d : Option Nat) (K : AS → Prop) (σ : AS) : Prop := match ti, op, a, b with
  | some { kind := .slc _, .. }, .eql, .sl l _ xs, .sl 1 _ [] => nilK l xs true d K σ
  | some { kind := .slc _, .. }, .neq, .sl l _ xs, .sl 1 _ [] => nilK l xs false d K σ
  | _, _, _, _ => False

def popAll (P : Program) (σ : AS) (o : Oper) : Option AV := (pop P σ o).or (pop2 P σ o)

set_option linter.unusedVariables false in
def setParts (z : AV) (n : Nat) (parts : List (Nat × AV)) : List AV := parts.foldl (fun acc p => acc.set p.1 p.2) (List.replicate n z)

def elemsOk (s n : Nat) (parts : List (Nat × AV)) : Prop := ∀ p ∈ parts, p.1 < n ∧ ∃ cs, cellsOf p.2 = some cs ∧ cs.length = s

/-- A new row that stays as it is. -/
def deadR (P : Program) (σ : AS) (t n : Nat) (parts : Array (Nat × Operand)) (r : AV) : Prop :=
  ∃ e s z zs, slcOf P t = some (e, s) ∧ zeroOf P e = some z ∧ cellsOf z.er = some zs ∧ zs.length = s ∧ 0 < s ∧ n * s ≤ 2 ^ 24 ∧ elemsOk s n (parts.toList.map fun (p : Nat × Operand) => (p.1, ev σ p.2)) ∧
    AV.tagsL (parts.toList.map fun (p : Nat × Operand) => ev σ p.2) = [] ∧ r = .sl 0 s (setParts z.er n (parts.toList.map fun (p : Nat × Operand) => (p.1, (ev σ p.2).er)))

/-- A value that is told whole. -/
def vL : List AV → Option (List Value)
  | [] => some []
  | .v x :: r => (vL r).map (x :: ·)
  | _ :: _ => none
def toV : AV → Option Value
  | .v x => some x
  | .agg cs => (vL cs).map fun l => .agg l.toArray
  | _ => none
def flatV : Value → AV
  | .agg a => .agg (a.toList.map .v)
  | x => .v x
theorem flatV_ok (G : Gh) (w : World) (x : Value) : VR G w x (flatV x) := by
  unfold flatV
  split
  · rename_i a
    refine .agg _ _ (by simp) fun k hk => ?_
    have hk2 : k < a.size := by simpa using hk
    have e : (a.toList.map AV.v).getD k .any = .v (a.getD k default) := by
      rw [List.getD_eq_getElem?_getD, List.getElem?_map, Array.getElem?_toList, Array.getElem?_eq_getElem hk2]
      simp [Array.getD, hk2]
    rw [e]; exact .v _
  · exact .v _
theorem vL_ok {G : Gh} {w : World} : ∀ (cs : List AV) (l : List Value) (vs : List Value), vL cs = some l → vs.length = cs.length → (∀ k, k < cs.length → VR G w (vs.getD k default) (cs.getD k .any)) → vs = l
  | [], l, vs, h, hl, _ => by
    simp only [vL, Option.some.injEq] at h
    subst h
    exact List.eq_nil_of_length_eq_zero hl
  | c :: r, l, [], h, hl, _ => by simp at hl
  | c :: r, l, v :: vs, h, hl, hv => by
    cases c <;> simp only [vL] at h <;> try cases h
    rename_i x
    obtain ⟨l', h1, rfl⟩ := Option.map_eq_some_iff.1 h
    have h0 := hv 0 (by simp)
    simp only [List.getD_cons_zero] at h0
    cases h0
    rw [vL_ok r l' vs h1 (by simpa using hl) fun k hk => by simpa using hv (k + 1) (by simpa using hk)]
theorem toV_ok {G : Gh} {w : World} {x y : Value} {a : AV} (h : VR G w x a) (hy : toV a = some y) : x = y := by
  cases h <;> simp only [toV] at hy <;> try cases hy
  · rfl
  · rename_i arr cs hs hc
    obtain ⟨l, h1, rfl⟩ := Option.map_eq_some_iff.1 hy
    have := vL_ok cs l arr.toList h1 (by simpa using hs) fun k hk => by
      have := hc k hk
      have hk2 : k < arr.size := by omega
      have e : arr.toList.getD k default = arr.getD k default := by
        rw [List.getD_eq_getElem?_getD, Array.getElem?_toList, Array.getElem?_eq_getElem hk2]
        simp [Array.getD, hk2]
      rw [e]; exact this
    rw [← this]
/-- A map's keys: numbers, texts. -/
def keyT (P : Program) (t : TypeId) : Option TypeDesc := match P.underlying t with
  | some (.map k _) => match P.underlying k with
    | some (.int j) => some (.int j)
    | some .string => some .string
    | _ => none
  | _ => none
def elemT (P : Program) (t : TypeId) : Option TypeId := match P.underlying t with
  | some (.map _ e) => some e
  | _ => none
def packA (c : Bool) (a : AV) (b : Bool) : AV := if c then .tup [a, .v (.bool b)] else a
def lookIn (P : Program) (t : TypeId) (d : TypeDesc) (k : Value) (es : List MapEntry) (c : Bool) : Option AV := match Instr.findNow d k es 0 with
  | some (some (_, v)) => some (packA c (flatV v) true)
  | some none => match elemT P t with
    | some e => (zeroOf P e).map fun z => packA c z false
    | none => none
  | none => none
def lookA (P : Program) (σ : AS) (t : TypeId) (x i : AV) (c : Bool) : Option AV := match keyT P t, toV i with
  | some d, some k => match x with
    | .mp ob => match σ.m.h ob with
      | some (.map es _) => lookIn P t d k es.toList c
      | _ => none
    | .v (.map none) => lookIn P t d k [] c
    | _ => none
  | _, _ => none
def updO (d : TypeDesc) (k v : Value) (o : Option AO) : Option AO := match o with
  | some (.map es clock) => match Instr.findNow d k es.toList 0 with
    | some (some (i, _)) => if Instr.sameBits 10000 (((es[i]?).map (·.key)).getD k) k then some (.map (es.modify i fun e => { e with key := k, val := v }) clock) else none
    | some none => some (.map (es.push { key := k, val := v, born := clock }) (clock + 1))
    | none => none
  | _ => none
def delO (d : TypeDesc) (k : Value) (o : Option AO) : Option AO := match o with
  | some (.map es clock) => match Instr.findNow d k es.toList 0 with
    | some (some (i, _)) => some (.map (es.eraseIdxIfInBounds i) clock)
    | some none => some (.map es clock)
    | none => none
  | _ => none
def vcOp [Tabs] (P : Program) (Γ : Env) (dr : Bool) (σ : AS) (o : Oper) (K : AS → Prop) : Prop :=
  match o.op with
  | .alloc e => (dr = true → σ.m.h σ.m.nh = none) ∧ ∃ z cs, zeroOf P e = some z ∧ cellsOf z = some cs ∧ cont (σ.new (.cells cs)) o.dst (.ptr σ.m.nh 0) K
  | .box _ x => dr = false ∧ ∃ cs, cellsOf (ev σ x) = some cs ∧ cont (σ.new (.cells cs)) o.dst (.ptr σ.m.nh 0) K
  | .store t x y => (dr = true → ∃ ob k, ev σ x = .ptr ob k) ∧ (match ev σ x with
    | .ptr ob k => ∃ ti cs vs, tiOf P t = some ti ∧ σ.m.h ob = some (.cells cs) ∧ cellsOf (ev σ y) = some vs ∧ vs.length = ti.size ∧ k + vs.length ≤ cs.length ∧
        cont { σ with m := σ.m.setObj ob (.cells (cs.take k ++ vs ++ cs.drop (k + vs.length))) } o.dst (.v undef) K
    | .ep l sz xs i j => ∃ ti e vs x, tiOf P t = some ti ∧ xs[i]? = some x ∧ cellsOf (ev σ y) = some vs ∧ vs.length = ti.size ∧ 0 < vs.length ∧ j + vs.length ≤ sz ∧ 2 ≤ l ∧ σ.m.lv l = some (xs.length, e) ∧ σ.m.mu = true ∧ ¬ (AV.tagsL vs).any (fun t => σ.m.fm t == σ.m.fm l) ∧
        cont (AS.turned { σ with m := σ.m.killed (AV.tagsL vs) } l xs.length (xs.set i (setEl x j (AV.erL vs)))) o.dst (.v undef) K
    | _ => False)
  | .makeSlice t lo hi => dr = false ∧ ∃ e s ti zv zs c k k', slcOf P t = some (e, s) ∧ tiOf P e = some ti ∧ ti.zero = some zv ∧ cellsOf (ofVh ti.hints zv).er = some zs ∧ zs.length = s ∧ 0 < s ∧ ev σ lo = .v (.int k c) ∧ ev σ hi = .v (.int k' c) ∧ 0 ≤ c ∧ c ≤ maxLen ∧ c * ti.bytes ≤ 140737488355328 ∧
      cont { σ with m := σ.m.newLin c.toNat e } o.dst (.sl σ.m.nl s (List.replicate c.toNat (ofVh ti.hints zv).er)) K
  | .buildSlice t n parts => (match dr with
    | true => ∃ r, deadR P σ t n parts r ∧ cont σ o.dst r K
    | false => false = false ∧ ∃ e s z zs, slcOf P t = some (e, s) ∧ zeroOf P e = some z ∧ cellsOf z.er = some zs ∧ zs.length = s ∧ 0 < s ∧ n * s ≤ 2 ^ 24 ∧ elemsOk s n (parts.toList.map fun (p : Nat × Operand) => (p.1, ev σ p.2)) ∧
      cont { σ with m := (σ.m.killed (AV.tagsL (parts.toList.map fun (p : Nat × Operand) => ev σ p.2))).newLin n e } o.dst (.sl σ.m.nl s (setParts z.er n (parts.toList.map fun (p : Nat × Operand) => (p.1, (ev σ p.2).er)))) K)
  | .range t x => dr = false ∧ (match ev σ x, tiOf P t with
    | .v (.string s), some { kind := .str, .. } => cont (σ.new (.iter s 0)) o.dst (.ptr σ.m.nh 0) K
    | _, _ => False)
  | .next x true => dr = false ∧ (match ev σ x with
    | .ptr ob 0 => match σ.m.h ob with
      | some (.iter s pos) => if pos < s.size then cont { σ with m := σ.m.setObj ob (.iter s (pos + (Utf8.decode s pos).2)) } o.dst (.tup [.v (.bool true), .v (.int .i64 pos), .v (.int .i32 (Utf8.decode s pos).1)]) K
          else cont σ o.dst (.tup [.v (.bool false)]) K
      | _ => False
    | _ => False)
  | .call { callee := .value f, args, argTypes } => args.size = argTypes.size ∧ (match ev σ f with
    | .fn g caps => vcCall P Γ dr σ g ((List.zipWith (fun x t => evT P t σ x) args.toList argTypes.toList) ++ caps) o.dst K
    | _ => False)
  | .call { callee := .builtin .append, args, argTypes } => dr = false ∧ (match args.toList, argTypes.toList with
    | [x, y], [t, t'] => t = t' ∧ ∃ e s ti zv, slcOf P t = some (e, s) ∧ tiOf P e = some ti ∧ ti.zero = some zv ∧ zv.cells.size = s ∧ 0 < s ∧ (match ev σ x, ev σ y with
      | .sl l s1 xs, .sl _ s2 ys => (xs.length + ys.length) * ti.bytes ≤ 140737488355328 ∧ (xs.length + ys.length) ≤ maxLen ∧ (s2 = s ∨ ys = []) ∧
          (if l = 1 then cont { σ with m := σ.m.newLin ys.length e } o.dst (.sl σ.m.nl s ys) K
           else σ.m.lv l = some (xs.length, e) ∧ s1 = s ∧ cont { σ with m := σ.m.grow l (xs.length + ys.length) e } o.dst (.sl l s (xs ++ ys)) K)
      | _, _ => False)
    | _, _ => False)
  | .convert s d x => (∃ a, popAll P σ o = some a ∧ cont σ o.dst a K) ∨ (dr = false ∧ (runesC P σ s d x o.dst K ∨ bytesC P σ s d x o.dst K))
  | .binOp op t x y _ => (∃ a, popAll P σ o = some a ∧ cont σ o.dst a K) ∨ (dr = false ∧ nilB (tiOf P t) op (ev σ x) (ev σ y) o.dst K σ)
  | .call { callee := .builtin .delete, args, argTypes } => dr = false ∧ ∃ m k t r ob d k' x, args.toList = [m, k] ∧ argTypes.toList = t :: r ∧ ev σ m = .mp ob ∧ keyT P t = some d ∧ toV (ev σ k) = some k' ∧ delO d k' (σ.m.h ob) = some x ∧ cont { σ with m := σ.m.setObj ob x } o.dst (.tup []) K
  | .makeMap t none => dr = false ∧ cont (σ.new (.map #[] 0)) o.dst (.mp σ.m.nh) K
  | .lookup t x i c => dr = false ∧ ∃ r, lookA P σ t (ev σ x) (ev σ i) c = some r ∧ cont σ o.dst r K
  | .mapUpdate t m k v => dr = false ∧ ∃ ob d k' v' x, ev σ m = .mp ob ∧ keyT P t = some d ∧ toV (ev σ k) = some k' ∧ toV (ev σ v) = some v' ∧ updO d k' v' (σ.m.h ob) = some x ∧ cont { σ with m := σ.m.setObj ob x } o.dst (.v undef) K
  | _ => ∃ a, popAll P σ o = some a ∧ cont σ o.dst a K

/-- The operations of a region whose order is drawn turn nothing. -/
def guarded (ops : Array Oper) (σ : AS) (o : Oper) (yes no : Prop) : Prop :=
  match o.guard with
  | none => yes
  | some (j, want) => match (ops[j]?).bind (·.dst) with
    | none => no
    | some d => match σ.t d with
      | .v (.bool b) => if b = want then yes else no
      | .v (.tuple _) => no
      | _ => False

def vcOps [Tabs] (P : Program) (Γ : Env) (dr : Bool) (ops : Array Oper) : List Oper → (AS → Prop) → AS → Prop
  | [], K, σ => K σ
  | o :: r, K, σ => guarded ops σ o (vcOp P Γ dr σ o (vcOps P Γ dr ops r K)) (cont σ o.dst (.v undef) (vcOps P Γ dr ops r K))
end Go.Rw
end

-- RwStateOk
section
namespace Go.Rw
open Go Go.RowKit
set_option linter.unusedSimpArgs false
set_option linter.unusedVariables false

theorem VR.one_ok {G : Gh} {w : World} {x : Value} {a : AV} (h : VR G w x a) (ho : a.one = true) : x.oneCell' = true := by
  cases h <;> simp_all [AV.one, Value.oneCell']

/-- A value's cells, as they are laid into memory. -/
theorem cellsOf_ok {G : Gh} {w : World} {x : Value} {a : AV} {cs : List AV} (h : VR G w x a) (hc : cellsOf a = some cs) :
    x.cells.size = cs.length ∧ (∀ k, k < cs.length → VR G w (x.cells.getD k default) (cs.getD k .any) ∧ (x.cells.getD k default).oneCell' = true) ∧ a.cells = cs := by
  unfold cellsOf at hc
  split at hc
  · rename_i cs'
    split at hc
    · rename_i hall
      simp only [Option.some.injEq] at hc; subst hc
      cases h with
      | agg arr _ hs hh =>
        refine ⟨hs, fun k hk => ⟨hh k hk, ?_⟩, rfl⟩
        refine (hh k hk).one_ok ?_
        rw [List.all_eq_true] at hall
        refine hall _ ?_
        rw [List.getD_eq_getElem?_getD, List.getElem?_eq_getElem hk]
        exact List.getElem_mem hk
    · cases hc
  · rename_i hna
    split at hc
    · rename_i ho
      simp only [Option.some.injEq] at hc; subst hc
      have h1 := h.one_ok ho
      have hx : x.cells = #[x] := by cases x <;> simp_all [Value.cells, Value.oneCell']
      rw [hx]
      refine ⟨rfl, fun k hk => ?_, ?_⟩
      · have : k = 0 := by simp at hk; omega
        subst this
        exact ⟨h, h1⟩
      · cases a <;> first | rfl | exact absurd rfl (hna _)
    · cases hc

section
variable {P : Program} [Tabs] {w0 : World} {F0 : Nat → Nat} {Fp : Nat → Prop} {X : Nat → Nat → Value} {G : Gh} {w : World} {a : Act} {σ : AS} {m : AM}

omit [Tabs] in
theorem put_getD (a : Act) (d : Nat) (x : Value) (hd : d < a.tmps.size) (i : Nat) : (a.put (some d) x).tmps.getD i undef = if i = d then x else a.tmps.getD i undef := by
  simp only [Act.put, Array.getD_eq_getD_getElem?]
  by_cases h : i = d
  · subst h; simp [hd]
  · rw [if_neg h, Array.getElem?_setIfInBounds_ne (fun e => h e.symm)]

theorem Rel.put (h : Rel w0 F0 Fp X G w a σ) {d : Nat} {x : Value} {v : AV} (hv : VR G w x v) (hd : d < σ.n) : Rel w0 F0 Fp X G w (a.put (some d) x) (σ.put d v) := by
  refine ⟨by simpa [Act.put, AS.put] using h.sz, h.df, fun i => ?_, h.hd, h.mm, h.tb⟩
  rw [put_getD a d x (by have := h.sz; omega)]
  simp only [AS.put, upd]
  by_cases hi : i = d
  · rw [if_pos hi, if_pos hi]; exact hv
  · rw [if_neg hi, if_neg hi]; exact h.tm i

theorem Rel.cont (h : Rel w0 F0 Fp X G w a σ) {d : Option Nat} {x : Value} {v : AV} {K : AS → Prop} (hv : VR G w x v) (hc : cont σ d v K) : ∃ σ', Rel w0 F0 Fp X G w (a.put d x) σ' ∧ K σ' := by
  cases d with
  | none => exact ⟨σ, h, hc⟩
  | some d => exact ⟨_, h.put hv hc.1, hc.2⟩

omit [Tabs] in
/-- The world may hold more blocks behind those that it has. -/
theorem GLe.below (hfr : ∀ g, 0 < G.fr g → g < w.heap.size) {w' : World} (hb : Below w.heap.size w w') : GLe G w G w' :=
  { GLe.refl G w with cell := fun g i hi => hb.cell (p := ⟨g, i, none⟩) (hfr g (by omega)) }

omit [Tabs] in
theorem Mem.below {m : AM} (h : Mem w0 F0 Fp G w m) {w' : World} (hb : Below w.heap.size w w') : Mem w0 F0 Fp G w' m := by
  have hg := GLe.below h.frl hb
  refine { h with obl := ?_, obj := ?_, live := ?_, frl := ?_, linl := ?_, old := ?_, keep := ?_, size := ?_, os := hb.os.trans h.os, tape := hb.tape.trans h.tape, output := hb.output.trans h.output }
  · intro o ho
    obtain ⟨h1, h2, h3, h4⟩ := h.obl o ho
    exact ⟨h1, h2, Nat.lt_of_lt_of_le h3 hb.size, h4⟩
  · intro o x hx
    obtain ⟨h1, h2⟩ := h.obj o x hx
    exact ⟨h1, h2.mono hg (hb.block _ (h.obl o h1).2.2.1)⟩
  · intro l n e hl
    obtain ⟨h1, h2, h3, h4⟩ := h.live l n e hl
    refine ⟨h1, h2, h3, ?_⟩
    rcases h4 with h4 | ⟨g, oF, cap, cur, h5, h6, h7, h8⟩
    · exact .inl h4
    · exact .inr ⟨g, oF, cap, cur, h5, h6, by rw [hb.block g (Array.getElem?_eq_some_iff.1 h7).1]; exact h7, h8⟩
  · exact fun g hg' => Nat.lt_of_lt_of_le (h.frl g hg') hb.size
  · exact fun g hg' => h.linl g (Nat.le_trans hb.size hg')
  · intro g hg' hf
    obtain ⟨h1, h2, h3⟩ := h.old g hg' hf
    exact ⟨h1, (hb.block g (Nat.lt_of_lt_of_le hg' h.size)).trans h2, h3⟩
  · intro g i hi
    rw [← h.keep g i hi]
    exact hb.cell (p := ⟨g, i, none⟩) (Nat.lt_of_lt_of_le (h.f0 g (by omega)) h.size)
  · exact Nat.le_trans h.size hb.size

theorem Rel.below (h : Rel w0 F0 Fp X G w a σ) {w' : World} (hb : Below w.heap.size w w') : Rel w0 F0 Fp X G w' a σ :=
  ⟨h.sz, h.df, fun i => (h.tm i).mono (GLe.below h.mm.frl hb), fun j i => (h.hd j i).mono (GLe.below h.mm.frl hb), h.mm.below hb, h.tb⟩

/-- A new object. -/
def Gh.newOb (G : Gh) (g : Nat) : Gh := { G with nh := G.nh + 1, ob := upd G.ob G.nh g, lin := upd G.lin g 1 }

omit [Tabs] in
theorem GLe.newOb {m : AM} (h : Mem w0 F0 Fp G w m) (o : Obj) : GLe G w (G.newOb w.heap.size) (w.alloc o) where
  nh := Nat.le_succ _
  ob := fun o ho => by simp only [Gh.newOb]; exact upd_other _ _ (by omega)
  nl := Nat.le_refl _
  fm := fun _ _ => rfl
  lin := fun g hg => by
    have := h.frl g hg
    simp only [Gh.newOb]; rw [upd_other _ _ (by omega)]; exact .inl rfl
  fr := fun _ => Nat.le_refl _
  lv := fun l _ n e hl => ⟨n, e, hl, Nat.le_refl _, fun _ => ⟨rfl, rfl⟩⟩
  cell := fun g i hi => World.cell?_alloc_lt _ _ _ (h.frl g (by omega))

omit [Tabs] in
theorem alloc_below (w : World) (o : Obj) : Below w.heap.size w (w.alloc o) := (Below.refl _ _).alloc (Nat.le_refl _) o

omit [Tabs] in
theorem Mem.newObj {m : AM} (h : Mem w0 F0 Fp G w m) (o : Obj) (x : AO) (hx : OR (G.newOb w.heap.size) (w.alloc o) w.heap.size x) : Mem w0 F0 Fp (G.newOb w.heap.size) (w.alloc o) (m.newObj x) := by
  have hg := GLe.newOb h o
  have hb := alloc_below w o
  have hlt : ∀ {g : Nat}, g < w.heap.size → (G.newOb w.heap.size).lin g = G.lin g := fun hg => by simp only [Gh.newOb]; exact upd_other _ _ (by omega)
  exact {
    nh := by simp [Gh.newOb, AM.newObj, h.nh]
    nl := h.nl
    fm := h.fm
    lv := h.lv
    two := h.two
    fm0 := h.fm0
    fml := h.fml
    fm2 := h.fm2
    fmi := h.fmi
    inj := by
      intro o1 o2 h1 h2 he
      simp only [Gh.newOb, upd] at h1 h2 he
      by_cases e1 : o1 = G.nh <;> by_cases e2 : o2 = G.nh
      · omega
      · rw [if_pos e1, if_neg e2] at he
        have := (h.obl o2 (by omega)).2.2.1; omega
      · rw [if_neg e1, if_pos e2] at he
        have := (h.obl o1 (by omega)).2.2.1; omega
      · rw [if_neg e1, if_neg e2] at he
        exact h.inj o1 o2 (by omega) (by omega) he
    obl := by
      intro o1 h1
      by_cases e1 : o1 = G.nh
      · subst e1
        simp only [Gh.newOb, upd_same]
        refine ⟨trivial, ?_, by simp, .inl h.size⟩
        rcases Nat.eq_zero_or_pos (G.fr w.heap.size) with h2 | h2
        · exact h2
        · have := h.frl _ h2; omega
      · have h1' : o1 < G.nh := by simp only [Gh.newOb] at h1; omega
        obtain ⟨h2, h3, h4, h5⟩ := h.obl o1 h1'
        have e2 : (G.newOb w.heap.size).ob o1 = G.ob o1 := by simp only [Gh.newOb]; exact upd_other _ _ e1
        rw [e2]
        exact ⟨(hlt h4).trans h2, h3, by simp; omega, h5⟩
    obj := by
      intro o1 y hy
      simp only [AM.newObj, upd, ← h.nh] at hy
      by_cases e1 : o1 = G.nh
      · rw [if_pos e1] at hy
        obtain rfl := Option.some.inj hy
        subst e1
        exact ⟨by simp [Gh.newOb], by simpa [Gh.newOb] using hx⟩
      · rw [if_neg e1] at hy
        obtain ⟨h1, h2⟩ := h.obj o1 y hy
        have e2 : (G.newOb w.heap.size).ob o1 = G.ob o1 := by simp only [Gh.newOb]; exact upd_other _ _ e1
        rw [e2]
        exact ⟨by simp only [Gh.newOb]; omega, h2.mono hg (hb.block _ (h.obl o1 h1).2.2.1)⟩
    live := by
      intro l n e hl
      obtain ⟨h1, h2, h3, h4⟩ := h.live l n e hl
      refine ⟨h1, h2, h3, ?_⟩
      rcases h4 with h4 | ⟨g, oF, cap, cur, h5, h6, h7, h8, h9, h10, h11, h12⟩
      · exact .inl h4
      · have hgl := (Array.getElem?_eq_some_iff.1 h7).1
        exact .inr ⟨g, oF, cap, cur, h5, h6, by rw [hb.block g hgl]; exact h7, h8, h9, h10, (hlt hgl).trans h11, h12⟩
    frl := fun g hg' => Nat.lt_of_lt_of_le (h.frl g hg') hb.size
    linl := fun g hg' => by
      have h1 : w.heap.size + 1 ≤ g := by simpa using hg'
      simp only [Gh.newOb]; rw [upd_other _ _ (by omega)]; exact h.linl g (by omega)
    linn := fun g => by
      simp only [Gh.newOb, upd]
      have := h.two
      split
      · omega
      · exact h.linn g
    old := fun g hg' hf => by
      obtain ⟨h1, h2, h3⟩ := h.old g hg' hf
      have := h.size
      exact ⟨(hlt (by omega)).trans h1, (hb.block g (by omega)).trans h2, h3⟩
    f0 := h.f0
    mu := h.mu
    keep := fun g i hi => by
      rw [← h.keep g i hi]
      exact hb.cell (p := ⟨g, i, none⟩) (Nat.lt_of_lt_of_le (h.f0 g (by omega)) h.size)
    keepf := h.keepf
    size := Nat.le_trans h.size hb.size
    os := h.os
    tape := h.tape
    output := h.output }

theorem Rel.newObj (h : Rel w0 F0 Fp X G w a σ) (o : Obj) (x : AO) (hx : OR (G.newOb w.heap.size) (w.alloc o) w.heap.size x) : Rel w0 F0 Fp X (G.newOb w.heap.size) (w.alloc o) a (σ.new x) ∧ VR (G.newOb w.heap.size) (w.alloc o) (.pointer (some ⟨w.heap.size, 0, none⟩)) (.ptr σ.m.nh 0) := by
  have hg := GLe.newOb h.mm o
  refine ⟨⟨h.sz, h.df, fun i => (h.tm i).mono hg, fun j i => (h.hd j i).mono hg, h.mm.newObj o x hx, h.tb⟩, ?_⟩
  have := VR.ptr (G := G.newOb w.heap.size) (w := w.alloc o) G.nh 0 (by simp [Gh.newOb])
  rw [← h.mm.nh]
  simpa [Gh.newOb] using this

omit [Tabs] in
/-- A row of cells as an object. -/
theorem OR.of_cells (h : Mem w0 F0 Fp G w m) {arr : Array Value} {e : TypeId} {cs : List AV} (hs : arr.size = cs.length) (hc : ∀ k, k < cs.length → VR G w (arr.getD k default) (cs.getD k .any)) :
    OR (G.newOb w.heap.size) (w.alloc (.cells arr e)) w.heap.size (.cells cs) :=
  .cells cs arr e (heap_alloc_new w _) hs fun k hk => (hc k hk).mono (GLe.newOb h _)
end
end Go.Rw
end

-- RwStateOk2
section
namespace Go.Rw
open Go Go.RowKit
set_option linter.unusedSimpArgs false
set_option linter.unusedVariables false

section
variable {P : Program} [Tabs] {w0 : World} {F0 : Nat → Nat} {Fp : Nat → Prop} {X : Nat → Nat → Value} {G : Gh} {w w' : World} {a : Act} {σ : AS} {m : AM} {g : Nat}

omit [Tabs] in
theorem Only.cell (h : Only w w' g) {k i : Nat} (hk : k ≠ g) : w'.cell? ⟨k, i, none⟩ = w.cell? ⟨k, i, none⟩ := World.cell?_of_block (a := ⟨k, i, none⟩) (h.block k hk)

omit [Tabs] in
theorem GLe.only (ho : Only w w' g) (hf : G.fr g = 0) : GLe G w G w' :=
  { GLe.refl G w with cell := fun k i hi => ho.cell (by rintro rfl; omega) }

omit [Tabs] in
theorem Mem.setOb (h : Mem w0 F0 Fp G w m) {o : Nat} {x : AO} (ho : o < G.nh) (hw : Only w w' (G.ob o)) (hx : OR G w' (G.ob o) x) : Mem w0 F0 Fp G w' (m.setObj o x) := by
  obtain ⟨hl1, hf, hlt, hB⟩ := h.obl o ho
  have hg := GLe.only (G := G) hw hf
  refine { h with obl := ?_, obj := ?_, live := ?_, frl := ?_, linl := ?_, old := ?_, keep := ?_, size := ?_, os := hw.os.trans h.os, tape := hw.tape.trans h.tape, output := hw.output.trans h.output }
  · intro o1 h1; rw [hw.size]; exact h.obl o1 h1
  · intro o1 y hy
    simp only [AM.setObj, upd] at hy
    by_cases e1 : o1 = o
    · rw [if_pos e1] at hy
      obtain rfl := Option.some.inj hy
      subst e1
      exact ⟨ho, hx⟩
    · rw [if_neg e1] at hy
      obtain ⟨h1, h2⟩ := h.obj o1 y hy
      exact ⟨h1, h2.mono hg (hw.block _ (fun e => e1 (h.inj o1 o h1 ho e)))⟩
  · intro l n e hl
    obtain ⟨h1, h2, h3, h4⟩ := h.live l n e hl
    refine ⟨h1, h2, h3, ?_⟩
    rcases h4 with h4 | ⟨g, oF, cap, cur, h5, h6, h7, h8, h9, h10, h11, h12⟩
    · exact .inl h4
    · have hne : g ≠ G.ob o := by
        rintro rfl
        have := h.fm2 l h1 h2
        omega
      exact .inr ⟨g, oF, cap, cur, h5, h6, by rw [hw.block g hne]; exact h7, h8, h9, h10, h11, h12⟩
  · intro g hg'; rw [hw.size]; exact h.frl g hg'
  · intro g hg'; rw [hw.size] at hg'; exact h.linl g hg'
  · intro g hg' hf'
    obtain ⟨h1, h2, h3⟩ := h.old g hg' hf'
    refine ⟨h1, (hw.block g ?_).trans h2, h3⟩
    rintro rfl
    rcases hB with h3 | h3
    · omega
    · exact hf' h3
  · intro g i hi
    rw [← h.keep g i hi]
    refine hw.cell ?_
    rintro rfl
    have := h.keepf (G.ob o)
    omega
  · rw [hw.size]; exact h.size

omit [Tabs] in
theorem setRow_only (w : World) (g : Nat) (arr : Array Value) : Only w (w.setRow g arr) g :=
  ⟨rfl, rfl, rfl, by simp [World.setRow], fun k hk => setRow_other w g k _ hk⟩

/-- A store into an object's cells. -/
theorem store_ok (h : Rel w0 F0 Fp X G w a σ) {t : TypeId} {ti : TI} (hti : tiOf P t = some ti) {o k : Nat} {cs vs : List AV} {y : Value} {v : AV} (hob : σ.m.h o = some (.cells cs))
    (hy : VR G w y v) (hvs : cellsOf v = some vs) (hsz : vs.length = ti.size) (hk : k + vs.length ≤ cs.length) :
    ∃ w', (Instr.storeAt t (.pointer (some ⟨G.ob o, k, none⟩)) y).run P w = .ok () w' ∧ Rel w0 F0 Fp X G w' a { σ with m := σ.m.setObj o (.cells (cs.take k ++ vs ++ cs.drop (k + vs.length))) } := by
  obtain ⟨ho, hor⟩ := h.mm.obj o _ hob
  obtain ⟨hs1, hs2, _⟩ := cellsOf_ok hy hvs
  cases hor with
  | cells _ arr e hh hs hc =>
    have hlen : y.cells.toList.length = vs.length := by simpa using hs1
    have hone : ∀ u ∈ y.cells.toList, u.oneCell' = true := by
      intro u hu
      obtain ⟨j, hj, rfl⟩ := List.mem_iff_getElem.1 hu
      have := (hs2 j (by simp at hj; omega)).2
      simp at hj
      simpa [Array.getD_eq_getD_getElem?, hj] using this
    have hst := run_storeCells_at P (G.ob o) k e y.cells.toList 0 arr w hh (by simp; omega) hone
    simp only [Nat.add_zero] at hst
    generalize harr : (arr.toList.take k ++ y.cells.toList ++ arr.toList.drop (k + y.cells.toList.length)).toArray = arr' at hst
    have hw := setRow_only w (G.ob o) arr'
    have hg := GLe.only (G := G) hw (h.mm.obl o ho).2.1
    refine ⟨_, by simp [Instr.storeAt, Instr.sureAddr, storeVar, sizeOf_run hti, hs1, hsz, hst], h.sz, h.df, fun i => (h.tm i).mono hg, fun j i => (h.hd j i).mono hg, h.mm.setOb ho hw ?_, h.tb⟩
    refine .cells _ arr' e (setRow_heap w _ arr _ e _ hh) ?_ fun j hj => ?_
    · rw [← harr]; simp; omega
    · have hj2 : j < cs.length := by simp at hj; omega
      have e1 : arr'.getD j default = if j < k then arr.getD j default else if j < k + vs.length then y.cells.getD (j - k) default else arr.getD j default := by
        rw [← harr]
        simp only [Array.getD_eq_getD_getElem?, List.getElem?_toArray]
        have hk1 : (arr.toList.take k).length = k := by simp; omega
        have hk2 : (arr.toList.take k ++ y.cells.toList).length = k + vs.length := by simp; omega
        by_cases c1 : j < k
        · rw [if_pos c1, List.getElem?_append_left (by omega), List.getElem?_append_left (by omega), List.getElem?_take, if_pos c1, Array.getElem?_toList]
        · rw [if_neg c1]
          by_cases c2 : j < k + vs.length
          · rw [if_pos c2, List.getElem?_append_left (by omega), List.getElem?_append_right (by omega), hk1, Array.getElem?_toList]
          · rw [if_neg c2, List.getElem?_append_right (by omega), hk2, List.getElem?_drop, hlen, Array.getElem?_toList]
            congr 2; omega
      have e2 : (cs.take k ++ vs ++ cs.drop (k + vs.length)).getD j .any = if j < k then cs.getD j .any else if j < k + vs.length then vs.getD (j - k) .any else cs.getD j .any := by
        simp only [List.getD_eq_getElem?_getD]
        have hk1 : (cs.take k).length = k := by simp; omega
        have hk2 : (cs.take k ++ vs).length = k + vs.length := by simp; omega
        by_cases c1 : j < k
        · rw [if_pos c1, List.getElem?_append_left (by omega), List.getElem?_append_left (by omega), List.getElem?_take, if_pos c1]
        · rw [if_neg c1]
          by_cases c2 : j < k + vs.length
          · rw [if_pos c2, List.getElem?_append_left (by omega), List.getElem?_append_right (by omega), hk1]
          · rw [if_neg c2, List.getElem?_append_right (by omega), hk2, List.getElem?_drop]
            congr 2; omega
      rw [e1, e2]
      split
      · exact (hc j hj2).mono hg
      · split
        · exact (hs2 (j - k) (by omega)).1.mono hg
        · exact (hc j hj2).mono hg

/-- A new row of cells, of a new lineage. -/
def Gh.newRow (G : Gh) (g n e sz cap : Nat) : Gh :=
  { G with nl := G.nl + 1, fm := upd G.fm G.nl G.nl, lin := upd G.lin g G.nl, fr := upd G.fr g (n * sz), lv := upd G.lv G.nl (some (n, e)), la := upd G.la G.nl (some ⟨g, 0, none⟩, cap), ls := upd G.ls G.nl sz }

omit [Tabs] in
theorem Mem.lv_lt (h : Mem w0 F0 Fp G w m) {l : Nat} {x : Nat × Nat} (hl : G.lv l = some x) : l < G.nl := (h.live l x.1 x.2 hl).2.1

omit [Tabs] in
theorem GLe.newRow (h : Mem w0 F0 Fp G w m) (hb : Below w.heap.size w w') {g : Nat} (hg : w.heap.size ≤ g) (n e sz cap : Nat) : GLe G w (G.newRow g n e sz cap) w' where
  nh := Nat.le_refl _
  ob := fun _ _ => rfl
  nl := Nat.le_succ _
  fm := fun l hl => by simp only [Gh.newRow]; exact upd_other _ _ (by omega)
  lin := fun k hk => by
    have := h.frl k hk
    simp only [Gh.newRow]; rw [upd_other _ _ (by omega)]; exact .inl rfl
  fr := fun k => by
    simp only [Gh.newRow, upd]
    split
    · rename_i e1; subst e1
      rcases Nat.eq_zero_or_pos (G.fr k) with h1 | h1
      · omega
      · have := h.frl k h1; omega
    · exact Nat.le_refl _
  lv := fun l hl n' e' hl' => by
    simp only [Gh.newRow] at hl' ⊢
    rw [upd_other _ _ (by omega)] at hl'
    exact ⟨n', e', hl', Nat.le_refl _, fun _ => ⟨upd_other _ _ (by omega), upd_other _ _ (by omega)⟩⟩
  cell := fun k i hi => hb.cell (p := ⟨k, i, none⟩) (h.frl k (by omega))

omit [Tabs] in
theorem Mem.newRow (h : Mem w0 F0 Fp G w m) (hb : Below w.heap.size w w') {g n e sz cap : Nat} (hg : w.heap.size ≤ g) (hgl : g < w'.heap.size) (h0 : 0 < sz)
    (hrow : ∃ cur, w'.heap[g]? = some (.cells cur e (0, 0)) ∧ cur.size = cap * sz) (hn : n ≤ cap) (hcap : cap ≤ maxLen) : Mem w0 F0 Fp (G.newRow g n e sz cap) w' (m.newLin n e) := by
  have hg' := GLe.newRow h hb hg n e sz cap
  have hlt : ∀ {k : Nat}, k < w.heap.size → (G.newRow g n e sz cap).lin k = G.lin k := fun hk => by simp only [Gh.newRow]; exact upd_other _ _ (by omega)
  have hft : ∀ {k : Nat}, k < w.heap.size → (G.newRow g n e sz cap).fr k = G.fr k := fun hk => by simp only [Gh.newRow]; exact upd_other _ _ (by omega)
  have hm := h.below hb
  exact {
    nh := h.nh
    nl := by simp only [Gh.newRow, AM.newLin, h.nl]
    fm := by simp only [Gh.newRow, AM.newLin, h.nl, h.fm]
    lv := by simp only [Gh.newRow, AM.newLin, h.nl, h.lv]
    two := by simp only [Gh.newRow]; have := h.two; omega
    fm0 := by simp only [Gh.newRow]; rw [upd_other _ _ (by have := h.two; omega)]; exact h.fm0
    fml := fun l hl => by
      simp only [Gh.newRow, upd] at hl ⊢
      split
      · omega
      · exact h.fml l (by omega)
    fm2 := fun l hl hl' => by
      simp only [Gh.newRow, upd] at hl' ⊢
      split
      · have := h.two; omega
      · exact h.fm2 l hl (by omega)
    fmi := by
      intro l l' x y hx hy he
      simp only [Gh.newRow, upd] at hx hy he
      by_cases e1 : l = G.nl <;> by_cases e2 : l' = G.nl
      · omega
      · rw [if_neg e2] at hy he; rw [if_pos e1] at he
        have := h.fml l' (h.lv_lt hy); have := h.lv_lt hy; omega
      · rw [if_neg e1] at hx he; rw [if_pos e2] at he
        have := h.fml l (h.lv_lt hx); have := h.lv_lt hx; omega
      · rw [if_neg e1] at hx he; rw [if_neg e2] at hy he
        exact h.fmi l l' x y hx hy he
    inj := h.inj
    obl := fun o ho => by
      obtain ⟨h1, h2, h3, h4⟩ := h.obl o ho
      have := hb.size
      exact ⟨(hlt h3).trans h1, (hft h3).trans h2, show G.ob o < _ by omega, h4⟩
    obj := fun o x hx => by
      obtain ⟨h1, h2⟩ := h.obj o x hx
      exact ⟨h1, h2.mono hg' (hb.block _ (h.obl o h1).2.2.1)⟩
    live := by
      intro l n' e' hl
      simp only [Gh.newRow, upd] at hl
      by_cases e1 : l = G.nl
      · subst e1
        rw [if_pos rfl] at hl
        simp only [Option.some.injEq, Prod.mk.injEq] at hl
        obtain ⟨rfl, rfl⟩ := hl
        obtain ⟨cur, hc1, hc2⟩ := hrow
        have := h.two
        refine ⟨by omega, by simp [Gh.newRow], by simpa [Gh.newRow] using h0, .inr ⟨g, 0, cap, cur, by simp [Gh.newRow], .inl (Nat.le_trans h.size hg), hc1, hn, hcap, by simpa [Gh.newRow] using hc2, by simp [Gh.newRow], by simp [Gh.newRow]⟩⟩
      · rw [if_neg e1] at hl
        obtain ⟨h1, h2, h3, h4⟩ := h.live l n' e' hl
        have f1 : (G.newRow g n e sz cap).ls l = G.ls l := by simp only [Gh.newRow]; exact upd_other _ _ e1
        have f2 : (G.newRow g n e sz cap).la l = G.la l := by simp only [Gh.newRow]; exact upd_other _ _ e1
        have f3 : (G.newRow g n e sz cap).fm l = G.fm l := by simp only [Gh.newRow]; exact upd_other _ _ e1
        refine ⟨h1, by simp only [Gh.newRow]; omega, by rw [f1]; exact h3, ?_⟩
        rw [f1, f2, f3]
        rcases h4 with h4 | ⟨g2, oF, cap2, cur2, h5, h6, h7, h8, h9, h10, h11, h12⟩
        · exact .inl h4
        · have hgl2 := (Array.getElem?_eq_some_iff.1 h7).1
          exact .inr ⟨g2, oF, cap2, cur2, h5, h6, by rw [hb.block g2 hgl2]; exact h7, h8, h9, h10, (hlt hgl2).trans h11, (hft hgl2).trans h12⟩
    frl := fun k hk => by
      simp only [Gh.newRow, upd] at hk
      split at hk
      · omega
      · exact Nat.lt_of_lt_of_le (h.frl k hk) hb.size
    linl := fun k hk => by
      have := hb.size
      simp only [Gh.newRow]; rw [upd_other _ _ (by omega)]; exact h.linl k (by omega)
    linn := fun k => by
      simp only [Gh.newRow, upd]
      split
      · omega
      · have := h.linn k; omega
    old := fun k hk hf => by
      obtain ⟨h1, h2, h3⟩ := h.old k hk hf
      have := h.size
      exact ⟨(hlt (by omega)).trans h1, (hb.block k (by omega)).trans h2, (hft (by omega)).trans h3⟩
    f0 := h.f0
    mu := h.mu
    keep := hm.keep
    keepf := fun k => Nat.le_trans (h.keepf k) (hg'.fr k)
    size := hm.size
    os := hm.os
    tape := hm.tape
    output := hm.output }

end
end Go.Rw
end

-- RwStateOk3
section
namespace Go.Rw
open Go Go.RowKit
set_option linter.unusedSimpArgs false
set_option linter.unusedVariables false

theorem erL_eq : ∀ cs : List AV, AV.erL cs = cs.map AV.er
  | [] => rfl
  | a :: r => by simp [AV.erL, erL_eq r]
theorem tagsL_eq : ∀ cs : List AV, AV.tagsL cs = cs.flatMap AV.tags
  | [] => rfl
  | a :: r => by simp [AV.tagsL, tagsL_eq r]
theorem plainL_eq : ∀ cs : List AV, AV.plainL cs = cs.all AV.plain
  | [] => rfl
  | a :: r => by simp [AV.plainL, plainL_eq r]
theorem erL_getD (cs : List AV) (k : Nat) : (AV.erL cs).getD k .any = (cs.getD k .any).er := by
  rw [erL_eq]
  simp only [List.getD_eq_getElem?_getD, List.getElem?_map]
  cases cs[k]? <;> simp [AV.er]
mutual
theorem er_er : ∀ b : AV, b.er.er = b.er
  | .sl .. => rfl
  | .agg cs => by simp only [AV.er, erL_erL cs]
  | .tup cs => by simp only [AV.er, erL_erL cs]
  | .fn f cs => by simp only [AV.er, erL_erL cs]
  | .v _ => rfl
  | .any => rfl
  | .ep .. => rfl
  | .ptr .. => rfl
  | .mp .. => rfl
theorem erL_erL : ∀ cs : List AV, AV.erL (AV.erL cs) = AV.erL cs
  | [] => rfl
  | b :: r => by simp only [AV.erL, er_er b, erL_erL r]
end
theorem er_cells_closed {x : AV} (h : x.er = x) (k : Nat) : (x.cells.getD k .any).er = x.cells.getD k .any := by
  cases x with
  | agg cs =>
    simp only [AV.er, AV.agg.injEq] at h
    simp only [AV.cells]
    rw [← erL_getD, h]
  | _ => simp only [AV.cells]; cases k <;> simp_all [AV.er]
theorem flat_closed {s : Nat} {xs : List AV} (h : ∀ x ∈ xs, x.cells.length = s ∧ x.er = x) (k : Nat) : ((flat xs).getD k .any).er = (flat xs).getD k .any := by
  induction xs generalizing k with
  | nil => simp [flat, AV.er]
  | cons x xs ih =>
    simp only [flat, List.flatMap_cons, List.getD_eq_getElem?_getD]
    by_cases c : k < x.cells.length
    · rw [List.getElem?_append_left c]
      have := er_cells_closed (h x (List.mem_cons_self ..)).2 k
      simpa [List.getD_eq_getElem?_getD] using this
    · rw [List.getElem?_append_right (by omega)]
      have := ih (fun y hy => h y (List.mem_cons_of_mem _ hy)) (k - x.cells.length)
      simpa [flat, List.getD_eq_getElem?_getD] using this
mutual
theorem closed_tags : ∀ b : AV, b.er = b → ∀ t ∈ b.tags, t = 0
  | .sl l _ _, h, t, ht => by simp only [AV.er, AV.sl.injEq] at h; rw [← h.1] at ht; simp [AV.tags] at ht
  | .agg cs, h, t, ht => by simp only [AV.er, AV.agg.injEq] at h; exact closed_tagsL cs h t ht
  | .tup cs, h, t, ht => by simp only [AV.er, AV.tup.injEq] at h; exact closed_tagsL cs h t ht
  | .fn f cs, h, t, ht => by simp only [AV.er, AV.fn.injEq, true_and] at h; exact closed_tagsL cs h t ht
  | .v _, _, t, ht => by simp [AV.tags] at ht
  | .any, _, t, ht => by simp [AV.tags] at ht
  | .ep .., h, _, _ => by simp [AV.er] at h
  | .ptr .., h, _, _ => by simp [AV.er] at h
  | .mp .., h, _, _ => by simp [AV.er] at h
theorem closed_tagsL : ∀ cs : List AV, AV.erL cs = cs → ∀ t ∈ AV.tagsL cs, t = 0
  | [], _, t, ht => by simp [AV.tagsL] at ht
  | b :: r, h, t, ht => by
    simp only [AV.erL, List.cons.injEq] at h
    simp only [AV.tagsL, List.mem_append] at ht
    rcases ht with h1 | h1
    · exact closed_tags b h.1 t h1
    · exact closed_tagsL r h.2 t h1
end
theorem mem_tagsL {cs : List AV} {k t : Nat} (hk : k < cs.length) (h : t ∈ (cs.getD k .any).tags) : t ∈ AV.tagsL cs := by
  rw [tagsL_eq, List.mem_flatMap]
  refine ⟨cs.getD k .any, ?_, h⟩
  rw [List.getD_eq_getElem?_getD, List.getElem?_eq_getElem hk]
  exact List.getElem_mem hk

section
variable {P : Program} [Tabs] {w0 : World} {F0 : Nat → Nat} {Fp : Nat → Prop} {X : Nat → Nat → Value} {G : Gh} {w w' : World} {a : Act} {σ : AS} {m : AM} {g : Nat}

open Classical in
/-- The blocks of given up lineages stay as they are from here on. -/
noncomputable def Gh.killed (G : Gh) (ts : List Nat) : Gh :=
  { G with lv := kill G.fm ts G.lv, lin := fun g => if ∃ t, t ∈ ts ∧ 2 ≤ t ∧ t < G.nl ∧ G.lin g = G.fm t then 0 else G.lin g }

omit [Tabs] in
theorem kill_some {fm : Nat → Nat} {ts : List Nat} {lv : Nat → Option (Nat × Nat)} {l : Nat} {x : Nat × Nat} (h : kill fm ts lv l = some x) : lv l = some x ∧ ∀ t ∈ ts, fm t ≠ fm l := by
  unfold kill at h
  split at h
  · cases h
  · rename_i hn
    refine ⟨h, fun t ht he => hn ?_⟩
    rw [List.any_eq_true]
    exact ⟨t, ht, by simp [he]⟩

omit [Tabs] in
theorem GLe.killed (G : Gh) (w : World) (ts : List Nat) : GLe G w (G.killed ts) w where
  nh := Nat.le_refl _
  ob := fun _ _ => rfl
  nl := Nat.le_refl _
  fm := fun _ _ => rfl
  lin := fun g _ => by
    simp only [Gh.killed]
    split
    · exact .inr rfl
    · exact .inl rfl
  fr := fun _ => Nat.le_refl _
  lv := fun l _ n e hl => ⟨n, e, (kill_some hl).1, Nat.le_refl _, fun _ => ⟨rfl, rfl⟩⟩
  cell := fun _ _ _ => rfl

omit [Tabs] in
theorem Mem.killed (h : Mem w0 F0 Fp G w m) (ts : List Nat) : Mem w0 F0 Fp (G.killed ts) w (m.killed ts) := by
  refine { h with fm := h.fm, lv := ?_, fmi := ?_, obl := ?_, obj := ?_, live := ?_, linl := ?_, linn := ?_, old := ?_ }
  · simp only [Gh.killed, AM.killed, h.fm, h.lv]
  · intro l l' x y hx hy
    exact h.fmi l l' x y (kill_some hx).1 (kill_some hy).1
  · intro o ho
    obtain ⟨h1, h2⟩ := h.obl o ho
    refine ⟨?_, h2⟩
    simp only [Gh.killed]
    rw [if_neg]
    · exact h1
    · rintro ⟨t, _, ht2, htl, he⟩
      have := h.fm2 t ht2 htl
      have h1' : G.lin (G.ob o) = 1 := h1
      omega
  · intro o x hx
    obtain ⟨h1, h2⟩ := h.obj o x hx
    exact ⟨h1, h2.mono (GLe.killed G w ts) rfl⟩
  · intro l n e hl
    obtain ⟨hl1, hne⟩ := kill_some hl
    obtain ⟨h1, h2, h3, h4⟩ := h.live l n e hl1
    refine ⟨h1, h2, h3, ?_⟩
    rcases h4 with h4 | ⟨g, oF, cap, cur, h5, h6, h7, h8, h9, h10, h11, h12⟩
    · exact .inl h4
    · refine .inr ⟨g, oF, cap, cur, h5, h6, h7, h8, h9, h10, ?_, h12⟩
      simp only [Gh.killed]
      rw [if_neg]
      · exact h11
      · rintro ⟨t, ht, _, _, he⟩
        exact hne t ht (he.symm.trans h11)
  · intro g hg
    simp only [Gh.killed]
    split
    · rfl
    · exact h.linl g hg
  · intro g
    simp only [Gh.killed]
    split
    · have := h.two; show 0 < G.nl; omega
    · exact h.linn g
  · intro g hg hf
    obtain ⟨h1, h2, h3⟩ := h.old g hg hf
    refine ⟨?_, h2, h3⟩
    simp only [Gh.killed]
    split
    · rfl
    · exact h1

omit [Tabs] in
theorem Mem.lv_two (h : Mem w0 F0 Fp G w m) {l : Nat} (hl : l < 2) : G.lv l = none := by
  cases hx : G.lv l with
  | none => rfl
  | some x => have := (h.live l x.1 x.2 hx).1; omega

omit [Tabs] in
/-- What is told of given up lineages may be told of none. -/
theorem VR.er (h : Mem w0 F0 Fp G w m) {ts : List Nat} {x : Value} {b : AV} (hv : VR G w x b) (ht : ∀ t ∈ b.tags, 2 ≤ t → t ∈ ts) : VR (G.killed ts) w x b.er := by
  induction hv with
  | any x => exact .any x
  | v x => exact .v x
  | agg arr cs hs _ ih =>
    refine .agg arr _ (by rw [erL_eq, List.length_map]; exact hs) fun k hk => ?_
    rw [erL_eq, List.length_map] at hk
    rw [erL_getD]
    exact ih k hk fun t h1 => ht t (mem_tagsL hk h1)
  | tup arr cs hs _ ih =>
    refine .tup arr _ (by rw [erL_eq, List.length_map]; exact hs) fun k hk => ?_
    rw [erL_eq, List.length_map] at hk
    rw [erL_getD]
    exact ih k hk fun t h1 => ht t (mem_tagsL hk h1)
  | nil sz =>
    refine .sl none 0 0 sz [] 0 0 (fun _ => default) ?_ (by omega) (by simp) ?_ (fun h => absurd rfl h) (by simp) (fun h => absurd rfl h) (by simp) (by simp)
    · have := h.two; show 0 < G.nl; omega
    · intro n e hn
      have := h.lv_two (l := 0) (by omega)
      rw [(kill_some hn).1] at this; cases this
  | sl A cap l sz xs g off us hl h1 hc hlive hA hsz h0 hcell hh ih =>
    refine .sl A cap 0 sz xs g off us ?_ (by omega) hc ?_ ?_ hsz h0 hcell fun k hk => (hh k hk).mono (GLe.killed G w ts)
    · have := h.two; show 0 < G.nl; omega
    · intro n e hn
      have := h.lv_two (l := 0) (by omega)
      rw [(kill_some hn).1] at this; cases this
    · intro hx
      obtain ⟨h2, h3, h4⟩ := hA hx
      refine ⟨h2, .inr ?_, h4⟩
      simp only [Gh.killed]
      rcases h3 with h3 | h3
      · rcases Nat.lt_or_ge l 2 with h5 | h5
        · have : l = 0 := by omega
          subst this
          rw [h.fm0] at h3
          rw [h3]; split <;> rfl
        · rw [if_pos ⟨l, ht l (by simp [AV.tags, h5]) h5, h5, hl, h3⟩]
      · rw [h3]; split <;> rfl
  | ep => exact .any _
  | ptr => exact .any _
  | mp => exact .any _
  | fn f arr caps hs _ ih =>
    refine .fn f arr _ (by rw [erL_eq, List.length_map]; exact hs) fun k hk => ?_
    rw [erL_eq, List.length_map] at hk
    rw [erL_getD]
    exact ih k hk fun t h1 => ht t (mem_tagsL hk h1)

omit [Tabs] in
theorem er_cells {b : AV} {cs : List AV} (h : cellsOf b = some cs) : b.er.cells = AV.erL cs ∧ b.cells = cs := by
  unfold cellsOf at h
  split at h
  · split at h
    · simp only [Option.some.injEq] at h; subst h
      exact ⟨rfl, rfl⟩
    · cases h
  · rename_i hna
    split at h
    · simp only [Option.some.injEq] at h; subst h
      cases b <;> first | exact absurd rfl (hna _) | exact ⟨rfl, rfl⟩
    · cases h

omit [Tabs] in
theorem cells_tags {b : AV} {cs : List AV} (h : cellsOf b = some cs) {k t : Nat} (hk : k < cs.length) (ht : t ∈ (cs.getD k .any).tags) : t ∈ b.tags := by
  have h2 := (er_cells h).2
  cases b with
  | agg cs' => simp only [AV.cells] at h2; subst h2; exact mem_tagsL hk ht
  | _ =>
    simp only [AV.cells] at h2; subst h2
    have : k = 0 := by simp at hk; omega
    subst this
    exact ht

/-- Cells that tell a list of elements. -/
structure Tells (G : Gh) (w : World) (s : Nat) (arr : Array Value) (xs : List AV) : Prop where
  size : arr.size = xs.length * s
  each : ∀ x ∈ xs, x.cells.length = s ∧ x.er = x
  cell : ∀ k, k < xs.length * s → VR G w (arr.getD k default) ((flat xs).getD k .any) ∧ (arr.getD k default).oneCell' = true

omit [Tabs] in
theorem foldl_set_getD (off : Nat) : ∀ (l : List Value) (j0 : Nat) (arr : Array Value) (k : Nat), off + j0 + l.length ≤ arr.size →
    ((l.zipIdx j0).foldl (fun (cs : Array Value) (p : Value × Nat) => cs.setIfInBounds (off + p.2) p.1) arr).size = arr.size ∧
    ((l.zipIdx j0).foldl (fun (cs : Array Value) (p : Value × Nat) => cs.setIfInBounds (off + p.2) p.1) arr).getD k default = if off + j0 ≤ k ∧ k < off + j0 + l.length then l.getD (k - (off + j0)) default else arr.getD k default
  | [], j0, arr, k, _ => by
    simp only [List.zipIdx_nil, List.foldl_nil, List.length_nil, true_and]
    rw [if_neg (by omega)]
  | v :: l, j0, arr, k, h => by
    simp only [List.length_cons] at h
    have ih := foldl_set_getD off l (j0 + 1) (arr.setIfInBounds (off + j0) v) k (by simp; omega)
    simp only [List.zipIdx_cons, List.foldl_cons]
    refine ⟨by rw [ih.1]; simp, ?_⟩
    rw [ih.2]
    simp only [List.length_cons]
    by_cases c1 : k = off + j0
    · subst c1
      rw [if_neg (by omega), if_pos (by omega)]
      simp only [Array.getD_eq_getD_getElem?, List.getD_eq_getElem?_getD]
      rw [Array.getElem?_setIfInBounds_self_of_lt (by omega)]
      simp
    · by_cases c2 : off + (j0 + 1) ≤ k ∧ k < off + (j0 + 1) + l.length
      · rw [if_pos c2, if_pos (by omega)]
        have : k - (off + j0) = (k - (off + (j0 + 1))) + 1 := by omega
        rw [this, List.getD_cons_succ]
      · rw [if_neg c2, if_neg (by omega)]
        simp only [Array.getD_eq_getD_getElem?]
        rw [Array.getElem?_setIfInBounds_ne (by omega)]

omit [Tabs] in
theorem Tells.set {s : Nat} {arr : Array Value} {xs : List AV} (h : Tells G w s arr xs) (h0 : 0 < s) {i : Nat} (hi : i < xs.length) {v : Value} {b : AV} {cs : List AV}
    (hb : b.cells = cs) (hbe : b.er = b) (hl : cs.length = s) (hvs : v.cells.size = s) (hv : ∀ k, k < s → VR G w (v.cells.getD k default) (cs.getD k .any) ∧ (v.cells.getD k default).oneCell' = true) :
    Tells G w s (v.cells.zipIdx.foldl (fun (cs : Array Value) (p : Value × Nat) => cs.setIfInBounds (i * s + p.2) p.1) arr) (xs.set i b) := by
  have hlt : i * s + s ≤ xs.length * s := by have := Nat.mul_le_mul_right s hi; rw [Nat.succ_mul] at this; exact this
  have hf : ∀ k, (v.cells.zipIdx.foldl (fun (cs : Array Value) (p : Value × Nat) => cs.setIfInBounds (i * s + p.2) p.1) arr).size = arr.size ∧
      (v.cells.zipIdx.foldl (fun (cs : Array Value) (p : Value × Nat) => cs.setIfInBounds (i * s + p.2) p.1) arr).getD k default = if i * s ≤ k ∧ k < i * s + s then v.cells.getD (k - i * s) default else arr.getD k default := by
    intro k
    have := foldl_set_getD (i * s) v.cells.toList 0 arr k (by simp; have := h.size; omega)
    rw [← Array.foldl_toList]
    have e : v.cells.zipIdx.toList = v.cells.toList.zipIdx := by simp
    rw [e]
    refine ⟨this.1, ?_⟩
    rw [this.2]
    simp only [Array.length_toList, hvs, Nat.add_zero]
    split
    · simp [List.getD_eq_getElem?_getD, Array.getD_eq_getD_getElem?]
    · rfl
  have heach : ∀ x ∈ xs.set i b, x.cells.length = s ∧ x.er = x := by
    intro x hx
    rcases List.mem_or_eq_of_mem_set hx with h1 | h1
    · exact h.each x h1
    · subst h1; rw [hb]; exact ⟨hl, hbe⟩
  refine ⟨by rw [(hf 0).1, h.size, List.length_set], heach, fun k hk => ?_⟩
  rw [List.length_set] at hk
  rw [(hf k).2]
  have hm : k % s < s := Nat.mod_lt _ h0
  have e1 : k = (k / s) * s + k % s := by rw [Nat.mul_comm]; exact (Nat.div_add_mod k s).symm
  have hq : k / s < xs.length := by rw [Nat.div_lt_iff_lt_mul h0]; exact hk
  have hfl : (flat (xs.set i b)).getD k .any = if i = k / s then b.cells.getD (k % s) .any else (flat xs).getD k .any := by
    rw [e1, flat_getD (fun x hx => (heach x hx).1) hm, flat_getD (fun x hx => (h.each x hx).1) hm]
    have e2 : (k / s * s + k % s) / s = k / s := by rw [← e1]
    have e3 : (k / s * s + k % s) % s = k % s := by rw [← e1]
    rw [e2, e3, List.getElem?_set]
    by_cases c : i = k / s
    · subst c; simp [hq]
    · simp [c]
  rw [hfl]
  by_cases c : i = k / s
  · rw [if_pos c]
    have : i * s ≤ k ∧ k < i * s + s := by rw [c]; omega
    rw [if_pos this]
    have e4 : k - i * s = k % s := by rw [c]; omega
    rw [e4, hb]
    exact hv _ hm
  · rw [if_neg c]
    have : ¬ (i * s ≤ k ∧ k < i * s + s) := by
      rintro ⟨h1, h2⟩
      apply c
      have : k / s = i := by
        rw [Nat.div_eq_of_lt_le]
        · exact h1
        · rw [Nat.succ_mul]; exact h2
      exact this.symm
    rw [if_neg this]
    exact h.cell k hk
end
end Go.Rw
end

-- RwStateOk4
section
namespace Go.Rw
open Go Go.RowKit
set_option linter.unusedSimpArgs false
set_option linter.unusedVariables false

section
variable {P : Program} [Tabs] {w0 : World} {F0 : Nat → Nat} {Fp : Nat → Prop} {X : Nat → Nat → Value} {G : Gh} {w w' : World} {a : Act} {σ : AS} {m : AM} {g : Nat}

/-- Parts of a literal, told. -/
inductive Parts (G : Gh) (w : World) (s n : Nat) : List (Nat × Value) → List (Nat × AV) → Prop
  | nil : Parts G w s n [] []
  | cons {i : Nat} {v : Value} {b : AV} {cs : List AV} {r : List (Nat × Value)} {r' : List (Nat × AV)} (hi : i < n) (hb : b.cells = cs) (hbe : b.er = b) (hl : cs.length = s) (hvs : v.cells.size = s)
      (hv : ∀ k, k < s → VR G w (v.cells.getD k default) (cs.getD k .any) ∧ (v.cells.getD k default).oneCell' = true) (hr : Parts G w s n r r') : Parts G w s n ((i, v) :: r) ((i, b) :: r')

omit [Tabs] in
theorem fill_parts {s n : Nat} (h0 : 0 < s) {ps : List (Nat × Value)} {qs : List (Nat × AV)} (h : Parts G w s n ps qs) : ∀ {arr : Array Value} {xs : List AV}, xs.length = n → Tells G w s arr xs →
    ∃ arr', Instr.fill (fun i => some (i * s, s)) arr ps = some arr' ∧ Tells G w s arr' (qs.foldl (fun acc p => acc.set p.1 p.2) xs) ∧ (qs.foldl (fun acc p => acc.set p.1 p.2) xs).length = n := by
  induction h with
  | nil => exact fun {arr xs} hn ht => ⟨arr, rfl, ht, hn⟩
  | cons hi hb hbe hl hvs hv _ ih =>
    rename_i i v b cs r r' hr
    intro arr xs hn ht
    have h1 := ht.set h0 (i := i) (by omega) hb hbe hl hvs hv
    obtain ⟨arr', h2, h3, h4⟩ := ih (xs := xs.set i b) (by simp [hn]) h1
    refine ⟨arr', ?_, h3, h4⟩
    have hlt : i * s + s ≤ n * s := by have := Nat.mul_le_mul_right s hi; rw [Nat.succ_mul] at this; exact this
    simp only [Instr.fill]
    rw [if_neg]
    · exact h2
    · simp only [Bool.or_eq_true, decide_eq_true_eq, not_or, Decidable.not_not, bne_iff_ne]
      refine ⟨hvs, ?_⟩
      rw [hvs, ht.size, hn]; omega

omit [Tabs] in
theorem tells_zero {s n : Nat} {z : Value} {b : AV} {zs : List AV} (h0 : 0 < s) (hz : VR G w z b) (hc : cellsOf b = some zs) (hl : zs.length = s) (hbe : b.er = b) :
    Tells G w s ((Array.range (n * s)).map (z.cells[· % z.cells.size]!)) (List.replicate n b) := by
  obtain ⟨h1, h2, h3⟩ := cellsOf_ok hz hc
  have heach : ∀ x ∈ List.replicate n b, x.cells.length = s ∧ x.er = x := fun x hx => by rw [List.eq_of_mem_replicate hx, h3]; exact ⟨hl, hbe⟩
  refine ⟨by simp, heach, fun k hk => ?_⟩
  rw [List.length_replicate] at hk
  have hm : k % s < s := Nat.mod_lt _ h0
  have hq : k / s < n := by rw [Nat.div_lt_iff_lt_mul h0]; exact hk
  have e1 : k = (k / s) * s + k % s := by rw [Nat.mul_comm]; exact (Nat.div_add_mod k s).symm
  have e2 : ((Array.range (n * s)).map (z.cells[· % z.cells.size]!)).getD k default = z.cells.getD (k % s) default := by
    simp only [Array.getD_eq_getD_getElem?, Array.getElem?_map]
    rw [Array.getElem?_range, if_pos hk]
    simp only [Option.map_some, Option.getD_some]
    rw [h1, hl, getElem!_def, Array.getElem?_eq_getElem (by omega)]
    rfl
  rw [e2]
  have e3 : (flat (List.replicate n b)).getD k .any = zs.getD (k % s) .any := by
    rw [e1, flat_getD (fun x hx => (heach x hx).1) hm, List.getElem?_replicate, if_pos hq]
    simp only
    rw [h3, ← e1]
  rw [e3]
  exact h2 _ (by omega)

omit [Tabs] in
/-- The slice over a new row. -/
theorem row_VR (h : Mem w0 F0 Fp G w m) {n e s cap : Nat} {arr rest : Array Value} {xs : List AV} (ht : Tells G w s arr xs) (hn : xs.length = n) (h0 : 0 < s) (hcap : n ≤ cap)
    (hb : Below w.heap.size w w') (hg : w.heap.size ≤ g) (hrow : w'.heap[g]? = some (.cells (arr ++ rest) e (0, 0))) :
    VR (G.newRow g n e s cap) w' (.slice (some ⟨g, 0, none⟩) n cap) (.sl G.nl s xs) := by
  subst hn
  have hgle := GLe.newRow h hb hg xs.length e s cap
  have htwo := h.two
  refine .sl (some ⟨g, 0, none⟩) cap G.nl s xs g 0 (fun k => arr.getD k default) (by simp [Gh.newRow]) (by omega) hcap ?_ ?_ ht.each (fun _ => h0) ?_ ?_
  · intro n' e' hn'
    simp only [Gh.newRow, upd_same, Option.some.injEq, Prod.mk.injEq] at hn'
    obtain ⟨rfl, rfl⟩ := hn'
    exact ⟨Nat.le_refl _, fun _ => ⟨by simp [Gh.newRow], by simp [Gh.newRow]⟩⟩
  · intro _
    exact ⟨rfl, .inl (by simp [Gh.newRow]), by simp [Gh.newRow]⟩
  · intro k hk
    have hk' : k < arr.size := by rw [ht.size]; exact hk
    refine ⟨?_, (ht.cell k hk).2⟩
    simp only [World.cell?, hrow, Nat.zero_add, Option.isSome_none, Bool.false_eq_true, if_false]
    rw [Array.getElem?_append_left hk', Array.getD_eq_getD_getElem?, Array.getElem?_eq_getElem hk']
    rfl
  · intro k hk
    exact (ht.cell k hk).1.mono hgle

/-- A new row that stays as it is. -/
def Gh.newDead (G : Gh) (g n : Nat) : Gh := { G with fr := upd G.fr g n }
omit [Tabs] in
theorem GLe.newDead {g : Nat} (hfr : G.fr g = 0) (n : Nat) : GLe G w (G.newDead g n) w where
  nh := Nat.le_refl _
  ob := fun _ _ => rfl
  nl := Nat.le_refl _
  fm := fun _ _ => rfl
  lin := fun _ _ => .inl rfl
  fr := fun k => by
    simp only [Gh.newDead, upd]
    split
    · rename_i e; subst e; omega
    · exact Nat.le_refl _
  lv := fun l hl n' e' h => ⟨n', e', h, Nat.le_refl _, fun _ => ⟨rfl, rfl⟩⟩
  cell := fun _ _ _ => rfl
omit [Tabs] in
theorem Mem.newDead (h : Mem w0 F0 Fp G w m) {g n : Nat} (hfr : G.fr g = 0) (hgl : g < w.heap.size) (hw : w0.heap.size ≤ g) (hlin : G.lin g = 0) : Mem w0 F0 Fp (G.newDead g n) w m := by
  have hle := GLe.newDead (w := w) hfr n
  have hne : ∀ {k : Nat}, G.lin k ≠ 0 → (G.newDead g n).fr k = G.fr k := fun {k} hk => by
    simp only [Gh.newDead]; exact upd_other _ _ (by rintro rfl; exact hk hlin)
  exact { h with
    nh := h.nh
    nl := h.nl
    fm := h.fm
    lv := h.lv
    obl := fun o ho => by
      obtain ⟨h1, h2, h3, h4⟩ := h.obl o ho
      exact ⟨h1, (hne (k := G.ob o) (by omega)).trans h2, h3, h4⟩
    obj := fun o x hx => by
      obtain ⟨h1, h2⟩ := h.obj o x hx
      exact ⟨h1, h2.mono hle rfl⟩
    live := fun l n' e' hl => by
      obtain ⟨h1, h2, h3, h4⟩ := h.live l n' e' hl
      refine ⟨h1, h2, h3, ?_⟩
      rcases h4 with h4 | ⟨g2, oF, cap2, cur2, h5, h6, h7, h8, h9, h10, h11, h12⟩
      · exact .inl h4
      · have := h.fm2 l h1 h2
        exact .inr ⟨g2, oF, cap2, cur2, h5, h6, h7, h8, h9, h10, h11, (hne (by omega)).trans h12⟩
    frl := fun k hk => by
      simp only [Gh.newDead, upd] at hk
      split at hk
      · rename_i e; subst e; exact hgl
      · exact h.frl k hk
    old := fun k hk hf => by
      obtain ⟨h1, h2, h3⟩ := h.old k hk hf
      refine ⟨h1, h2, ?_⟩
      simp only [Gh.newDead]; rw [upd_other _ _ (by omega)]; exact h3
    keepf := fun k => Nat.le_trans (h.keepf k) (hle.fr k) }
theorem Rel.newDead (h : Rel w0 F0 Fp X G w a σ) {g n : Nat} (hfr : G.fr g = 0) (hgl : g < w.heap.size) (hw : w0.heap.size ≤ g) (hlin : G.lin g = 0) : Rel w0 F0 Fp X (G.newDead g n) w a σ :=
  ⟨h.sz, h.df, fun i => (h.tm i).mono (GLe.newDead hfr n), fun j i => (h.hd j i).mono (GLe.newDead hfr n), h.mm.newDead hfr hgl hw hlin, h.tb⟩

theorem Parts.of (h : Rel w0 F0 Fp X G w a σ) {s n : Nat} : ∀ (ps : List (Nat × Operand)), elemsOk s n (ps.map fun p => (p.1, ev σ p.2)) → (ts : List Nat) → (∀ p ∈ ps, ∀ t ∈ (ev σ p.2).tags, t ∈ ts) →
    Parts (G.killed ts) w s n (ps.map fun p => (p.1, a.eval p.2)) (ps.map fun p => (p.1, (ev σ p.2).er))
  | [], _, ts, _ => .nil
  | p :: r, hok, ts, hts => by
    obtain ⟨hi, cs, hc, hl⟩ := hok (p.1, ev σ p.2) (by simp)
    obtain ⟨h1, h2, h3⟩ := cellsOf_ok (ev_ok h p.2) hc
    have hr := Parts.of h r (fun q hq => hok q (by simp at hq ⊢; exact .inr hq)) ts (fun q hq => hts q (List.mem_cons_of_mem _ hq))
    refine .cons (cs := AV.erL cs) hi (er_cells hc).1 (er_er _) (by rw [erL_eq, List.length_map]; exact hl) (by rw [h1]; exact hl) (fun k hk => ⟨?_, (h2 k (by omega)).2⟩) hr
    rw [erL_getD]
    exact VR.er h.mm (h2 k (by omega)).1 fun t ht _ => hts p (by simp) t (cells_tags hc (by omega) ht)

omit [Tabs] in
theorem ofVh_tags (hs : List Nat) (x : Value) : ∀ t ∈ (ofVh hs x).tags, t = 1 := by
  intro t ht
  unfold ofVh at ht
  split at ht
  · simp [AV.tags] at ht
  · simp only [AV.tags, tagsL_eq, List.mem_flatMap, List.mem_map] at ht
    obtain ⟨b, ⟨p, _, rfl⟩, h2⟩ := ht
    split at h2 <;> simp [AV.tags] at h2
  · simp [AV.tags] at ht

omit [Tabs] in
theorem zeroOf_ok {e : Nat} {z : AV} (hz : zeroOf P e = some z) : ∃ ti zv, tiOf P e = some ti ∧ ti.zero = some zv ∧ z = ofVh ti.hints zv := by
  unfold zeroOf at hz
  split at hz
  · rename_i si by_ zv kk hh hti
    simp only [Option.some.injEq] at hz
    exact ⟨_, zv, hti, rfl, hz.symm⟩
  · cases hz

theorem Rel.killed (h : Rel w0 F0 Fp X G w a σ) (ts : List Nat) : Rel w0 F0 Fp X (G.killed ts) w a { σ with m := σ.m.killed ts } :=
  ⟨h.sz, h.df, fun i => (h.tm i).mono (GLe.killed G w ts), fun j i => (h.hd j i).mono (GLe.killed G w ts), h.mm.killed ts, h.tb⟩

theorem Rel.newRow (h : Rel w0 F0 Fp X G w a σ) (hb : Below w.heap.size w w') {g n e sz cap : Nat} (hg : w.heap.size ≤ g) (hgl : g < w'.heap.size) (h0 : 0 < sz)
    (hrow : ∃ cur, w'.heap[g]? = some (.cells cur e (0, 0)) ∧ cur.size = cap * sz) (hn : n ≤ cap) (hcap : cap ≤ maxLen) : Rel w0 F0 Fp X (G.newRow g n e sz cap) w' a { σ with m := σ.m.newLin n e } :=
  ⟨h.sz, h.df, fun i => (h.tm i).mono (GLe.newRow h.mm hb hg n e sz cap), fun j i => (h.hd j i).mono (GLe.newRow h.mm hb hg n e sz cap), h.mm.newRow hb hg hgl h0 hrow hn hcap, h.tb⟩

theorem buildSlice_ok (h : Rel w0 F0 Fp X G w a σ) {t n e s : Nat} {parts : Array (Nat × Operand)} {z : AV} {zs : List AV} (hs : slcOf P t = some (e, s)) (hz : zeroOf P e = some z) (hzs : cellsOf z.er = some zs) (hzl : zs.length = s) (h0 : 0 < s)
    (hsmall : n * s ≤ 2 ^ 24) (hok : elemsOk s n (parts.toList.map fun (p : Nat × Operand) => (p.1, ev σ p.2))) :
    ∃ w' G' x, (Instr.buildSlice t n (parts.map fun (p : Nat × Operand) => (p.1, a.eval p.2))).run P w = .ok x w' ∧
      Rel w0 F0 Fp X G' w' a { σ with m := (σ.m.killed (AV.tagsL (parts.toList.map fun (p : Nat × Operand) => ev σ p.2))).newLin n e } ∧
      VR G' w' x (.sl σ.m.nl s (setParts z.er n (parts.toList.map fun (p : Nat × Operand) => (p.1, (ev σ p.2).er)))) := by
  obtain ⟨hu, ie, hie, hsz⟩ := slcOf_some hs
  obtain ⟨ti, zv, hti, hzv, rfl⟩ := zeroOf_ok hz
  rw [hie] at hti
  obtain rfl := Option.some.inj hti
  generalize hts : AV.tagsL (parts.toList.map fun (p : Nat × Operand) => ev σ p.2) = ts
  have hk := h.killed ts
  have hparts := Parts.of h parts.toList hok ts (fun p hp t ht => by
    rw [← hts, tagsL_eq, List.mem_flatMap]
    exact ⟨ev σ p.2, List.mem_map_of_mem hp, ht⟩)
  have hzero := tells_zero (G := G.killed ts) (w := w) (n := n) h0 (VR.er h.mm (ts := ts) (ofVh_ok ie.hints G w zv) (fun t ht h2 => absurd (ofVh_tags _ _ t ht) (by omega))) hzs hzl (er_er _)
  obtain ⟨arr', hfill, htell, hlen⟩ := fill_parts h0 hparts (by simp) hzero
  have hb := alloc_below w (.cells arr' e)
  have hsize : arr'.size = n * s := by rw [htell.size, hlen]
  have hcap : n ≤ maxLen := by
    have h2 : n * 1 ≤ n * s := Nat.mul_le_mul_left n h0
    have h3 : (16777216 : Nat) ≤ maxLen := by simp [maxLen]
    omega
  have hrel := hk.newRow (g := w.heap.size) (n := n) (e := e) (sz := s) (cap := n) hb (Nat.le_refl _) (by simp) h0 ⟨arr', heap_alloc_new w _, hsize⟩ (Nat.le_refl _) hcap
  have hvr := row_VR (g := w.heap.size) (n := n) (e := e) (s := s) (cap := n) (arr := arr') (rest := #[]) hk.mm htell hlen h0 (Nat.le_refl _) hb (Nat.le_refl _) (by simpa using heap_alloc_new w (.cells arr' e))
  have hnl : (G.killed ts).nl = σ.m.nl := h.mm.nl
  rw [hnl] at hvr
  refine ⟨_, _, _, ?_, hrel, hvr⟩
  have hzr := zero_run (P := P) hie hzv w
  have hcell : (if n * s = 0 then (pure #[] : Sem (Array Value)) else do pure (← zeroValue e).cells).run P w = .ok (if n * s = 0 then #[] else zv.cells) w := by
    split <;> simp [hzr]
  have harr : ((Array.range (n * s)).map ((if n * s = 0 then #[] else zv.cells)[· % (if n * s = 0 then (#[] : Array Value) else zv.cells).size]!)) = (Array.range (n * s)).map (zv.cells[· % zv.cells.size]!) := by
    by_cases c : n * s = 0
    · rw [c]; simp
    · simp only [if_neg c]
  have hpl : (parts.map fun (p : Nat × Operand) => (p.1, a.eval p.2)).toList = parts.toList.map fun p => (p.1, a.eval p.2) := by simp
  simp only [Instr.buildSlice, Sem.run_bind, run_underlying hu, Result.andThen_ok, sizeOf_run hie, hsz]
  rw [if_neg (by omega)]
  by_cases c : n * s = 0
  · simp only [if_pos c] at harr ⊢
    simp only [Sem.run_bind, Sem.run_pure, Result.andThen_ok, harr, hpl, hfill, newRow, run_newObj, World.alloc_eq]
  · simp only [if_neg c] at harr ⊢
    simp only [Sem.run_bind, hzr, Sem.run_pure, Result.andThen_ok, harr, hpl, hfill, newRow, run_newObj, World.alloc_eq]

omit [Tabs] in
theorem killed_nil {m : AM} : m.killed [] = m := by
  have : kill m.fm [] m.lv = m.lv := by funext l; simp [kill]
  simp only [AM.killed, this]
omit [Tabs] in
theorem gkilled_nil : G.killed [] = G := by
  have h1 : kill G.fm [] G.lv = G.lv := by funext l; simp [kill]
  have h2 : (Gh.killed G []).lin = G.lin := by
    funext g
    simp only [Gh.killed]
    rw [if_neg (by rintro ⟨t, ht, _⟩; cases ht)]
  have h3 : (Gh.killed G []).lv = G.lv := h1
  cases G
  simp only [Gh.killed] at h2 h3 ⊢
  rw [h2, h3]
omit [Tabs] in
theorem fr_new (h : Mem w0 F0 Fp G w m) : G.fr w.heap.size = 0 := by
  rcases Nat.eq_zero_or_pos (G.fr w.heap.size) with h1 | h1
  · exact h1
  · have := h.frl _ h1; omega
omit [Tabs] in
theorem dead_VR (h : Mem w0 F0 Fp G w m) {n e s cap : Nat} {fz : Nat × Nat} {arr rest : Array Value} {xs : List AV} (ht : Tells G w s arr xs) (hn : xs.length = n) (h0 : 0 < s) (hcap : n ≤ cap)
    (hb : Below w.heap.size w w') (hrow : w'.heap[w.heap.size]? = some (.cells (arr ++ rest) e fz)) :
    VR (G.newDead w.heap.size (n * s)) w' (.slice (some ⟨w.heap.size, 0, none⟩) n cap) (.sl 0 s xs) := by
  subst hn
  have hle : GLe G w (G.newDead w.heap.size (xs.length * s)) w' := by
    have h1 := GLe.newDead (w := w) (fr_new h) (xs.length * s)
    exact { h1 with cell := fun k i hi => hb.cell (p := ⟨k, i, none⟩) (h.frl k (by omega)) }
  have htwo := h.two
  refine .sl _ cap 0 s xs w.heap.size 0 (fun k => arr.getD k default) (by simp only [Gh.newDead]; omega) (by omega) hcap ?_ ?_ ht.each (fun _ => h0) ?_ (fun k hk => (ht.cell k hk).1.mono hle)
  · intro n' e' hn'
    have h3 : G.lv 0 = none := h.lv_two (by omega)
    simp only [Gh.newDead] at hn'
    rw [h3] at hn'; cases hn'
  · intro _
    refine ⟨rfl, .inr (h.linl _ (Nat.le_refl _)), ?_⟩
    simp only [Gh.newDead, upd_same]; omega
  · intro k hk
    have hk' : k < arr.size := by rw [ht.size]; exact hk
    refine ⟨?_, (ht.cell k hk).2⟩
    simp only [World.cell?, hrow, Nat.zero_add, Option.isSome_none, Bool.false_eq_true, if_false]
    rw [Array.getElem?_append_left hk', Array.getD_eq_getD_getElem?, Array.getElem?_eq_getElem hk']
    rfl
theorem Rel.dead (h : Rel w0 F0 Fp X G w a σ) (hb : Below w.heap.size w w') (hgl : w.heap.size < w'.heap.size) (n : Nat) : Rel w0 F0 Fp X (G.newDead w.heap.size n) w' a σ :=
  (h.below hb).newDead (fr_new h.mm) hgl h.mm.size (h.mm.linl _ (Nat.le_refl _))
/-- A new row that stays as it is. -/
theorem dead_ok (h : Rel w0 F0 Fp X G w a σ) {t n : Nat} {parts : Array (Nat × Operand)} {r : AV} (hd : deadR P σ t n parts r) :
    ∃ w' G' x, (Instr.buildSlice t n (parts.map fun (p : Nat × Operand) => (p.1, a.eval p.2))).run P w = .ok x w' ∧ Rel w0 F0 Fp X G' w' a σ ∧ VR G' w' x r := by
  obtain ⟨e, s, z, zs, hs, hz, hzs, hzl, h0, hsmall, hok, htags, rfl⟩ := hd
  obtain ⟨hu, ie, hie, hsz⟩ := slcOf_some hs
  obtain ⟨ti, zv, hti, hzv, rfl⟩ := zeroOf_ok hz
  rw [hie] at hti
  obtain rfl := Option.some.inj hti
  have hparts := Parts.of h parts.toList hok [] (fun p hp t ht => by
    rw [← htags, tagsL_eq, List.mem_flatMap]
    exact ⟨ev σ p.2, List.mem_map_of_mem hp, ht⟩)
  have hzero := tells_zero (G := G.killed []) (w := w) (n := n) h0 (VR.er h.mm (ts := []) (ofVh_ok ie.hints G w zv) (fun t ht h2 => absurd (ofVh_tags _ _ t ht) (by omega))) hzs hzl (er_er _)
  obtain ⟨arr', hfill, htell, hlen⟩ := fill_parts h0 hparts (by simp) hzero
  rw [gkilled_nil] at htell
  have hb := alloc_below w (.cells arr' e)
  have hrow : (w.alloc (.cells arr' e)).heap[w.heap.size]? = some (.cells arr' e) := heap_alloc_new w _
  refine ⟨_, _, _, ?_, h.dead hb (Array.getElem?_eq_some_iff.1 hrow).1 (n * s), dead_VR (cap := n) (rest := #[]) h.mm htell hlen h0 (Nat.le_refl _) hb (by simpa using hrow)⟩
  have hzr := zero_run (P := P) hie hzv w
  have harr : ((Array.range (n * s)).map ((if n * s = 0 then #[] else zv.cells)[· % (if n * s = 0 then (#[] : Array Value) else zv.cells).size]!)) = (Array.range (n * s)).map (zv.cells[· % zv.cells.size]!) := by
    by_cases c : n * s = 0
    · rw [c]; simp
    · simp only [if_neg c]
  have hpl : (parts.map fun (p : Nat × Operand) => (p.1, a.eval p.2)).toList = parts.toList.map fun p => (p.1, a.eval p.2) := by simp
  simp only [Instr.buildSlice, Sem.run_bind, run_underlying hu, Result.andThen_ok, sizeOf_run hie, hsz]
  rw [if_neg (by omega)]
  by_cases c : n * s = 0
  · simp only [if_pos c] at harr ⊢
    simp only [Sem.run_bind, Sem.run_pure, Result.andThen_ok, harr, hpl, hfill, newRow, run_newObj, World.alloc_eq]
  · simp only [if_neg c] at harr ⊢
    simp only [Sem.run_bind, hzr, Sem.run_pure, Result.andThen_ok, harr, hpl, hfill, newRow, run_newObj, World.alloc_eq]

/-- A live slice has grown within its lineage. -/
def Gh.grown (G : Gh) (l g o n e sz cap : Nat) : Gh :=
  { G with lin := upd G.lin g (G.fm l), fr := upd G.fr g (o + n * sz), lv := upd G.lv l (some (n, e)), la := upd G.la l (some ⟨g, o, none⟩, cap) }
end
end Go.Rw
end

-- RwAppend
section
namespace Go.Rw
open Go Go.RowKit
set_option linter.unusedSimpArgs false
set_option linter.unusedVariables false

section
variable {P : Program} [Tabs] {w0 : World} {F0 : Nat → Nat} {Fp : Nat → Prop} {X : Nat → Nat → Value} {G : Gh} {w w' : World} {a : Act} {σ : AS} {m : AM} {g : Nat}

/-- What turns where a live slice grows. -/
structure Grows (G : Gh) (w w' : World) (B : Nat) (Fp : Nat → Prop) (l g o n e s cap : Nat) : Prop where
  os : w'.os = w.os
  tape : w'.tape = w.tape
  output : w'.output = w.output
  size : w.heap.size ≤ w'.heap.size
  block : ∀ k, k < w.heap.size → k ≠ g → w'.heap[k]? = w.heap[k]?
  cell : ∀ i, i < G.fr g → w'.cell? ⟨g, i, none⟩ = w.cell? ⟨g, i, none⟩
  gl : (G.lin g = G.fm l ∧ (B ≤ g ∨ Fp g)) ∨ w.heap.size ≤ g
  fr : G.fr g ≤ o + n * s
  row : ∃ cur, w'.heap[g]? = some (.cells cur e (0, 0)) ∧ cur.size = o + cap * s
  n : n ≤ cap
  cap : cap ≤ maxLen

omit [Tabs] in
theorem Grows.gle (h : Mem w0 F0 Fp G w m) {l g o n0 n e s cap : Nat} (hs : s = G.ls l) (hl : G.lv l = some (n0, e)) (hn : n0 < n) (hg : Grows G w w' w0.heap.size Fp l g o n e s cap) : GLe G w (G.grown l g o n e s cap) w' where
  nh := Nat.le_refl _
  ob := fun _ _ => rfl
  nl := Nat.le_refl _
  fm := fun _ _ => rfl
  lin := fun k hk => by
    simp only [Gh.grown, upd]
    split
    · rename_i e1; subst e1
      rcases hg.gl with h1 | h1
      · exact .inl h1.1.symm
      · have := h.frl k hk; omega
    · exact .inl rfl
  fr := fun k => by
    simp only [Gh.grown, upd]
    split
    · rename_i e1; subst e1; exact hg.fr
    · exact Nat.le_refl _
  lv := fun k hk n' e' hl' => by
    simp only [Gh.grown, upd] at hl' ⊢
    by_cases c : k = l
    · subst c
      rw [if_pos rfl] at hl'
      simp only [Option.some.injEq, Prod.mk.injEq] at hl'
      exact ⟨n0, e, hl, by omega, fun h1 => by omega⟩
    · rw [if_neg c] at hl'
      exact ⟨n', e', hl', Nat.le_refl _, fun _ => by simp [c]⟩
  cell := fun k i hi => by
    by_cases c : k = g
    · subst c; exact hg.cell i hi
    · exact World.cell?_of_block (a := ⟨k, i, none⟩) (hg.block k (h.frl k (by omega)) c)

omit [Tabs] in
theorem Mem.grown (h : Mem w0 F0 Fp G w m) {l g o n0 n e s cap : Nat} (hs : s = G.ls l) (hl : G.lv l = some (n0, e)) (hn : n0 < n) (hg : Grows G w w' w0.heap.size Fp l g o n e s cap) : Mem w0 F0 Fp (G.grown l g o n e s cap) w' (m.grow l n e) := by
  have hgle := hg.gle h hs hl hn
  obtain ⟨hl2, hll, hls, _⟩ := h.live l n0 e hl
  have hfm := h.fm2 l hl2 hll
  have hob : ∀ o, o < G.nh → G.ob o ≠ g := by
    intro o ho e1
    obtain ⟨h1, h2, h3, h4⟩ := h.obl o ho
    rcases hg.gl with h5 | h5
    · rw [← e1] at h5; omega
    · omega
  have hlt : ∀ {k : Nat}, k ≠ g → (G.grown l g o n e s cap).lin k = G.lin k := fun hk => by simp only [Gh.grown]; exact upd_other _ _ hk
  have hft : ∀ {k : Nat}, k ≠ g → (G.grown l g o n e s cap).fr k = G.fr k := fun hk => by simp only [Gh.grown]; exact upd_other _ _ hk
  have hgs : g < w'.heap.size := by
    obtain ⟨cur, h1, _⟩ := hg.row
    exact (Array.getElem?_eq_some_iff.1 h1).1
  exact {
    nh := h.nh
    nl := h.nl
    fm := h.fm
    lv := by simp only [Gh.grown, AM.grow, h.lv]
    two := h.two
    fm0 := h.fm0
    fml := h.fml
    fm2 := h.fm2
    fmi := by
      intro l1 l2 x y hx hy he
      simp only [Gh.grown, upd] at hx hy he
      by_cases c1 : l1 = l <;> by_cases c2 : l2 = l
      · omega
      · rw [if_neg c2] at hy; subst c1; exact h.fmi l1 l2 _ _ hl hy he
      · rw [if_neg c1] at hx; subst c2; exact h.fmi l1 l2 _ _ hx hl he
      · rw [if_neg c1] at hx; rw [if_neg c2] at hy; exact h.fmi l1 l2 _ _ hx hy he
    inj := h.inj
    obl := fun o ho => by
      obtain ⟨h1, h2, h3, h4⟩ := h.obl o ho
      exact ⟨(hlt (hob o ho)).trans h1, (hft (hob o ho)).trans h2, Nat.lt_of_lt_of_le h3 hg.size, h4⟩
    obj := fun o x hx => by
      obtain ⟨h1, h2⟩ := h.obj o x hx
      exact ⟨h1, h2.mono hgle (hg.block _ (h.obl o h1).2.2.1 (hob o h1))⟩
    live := by
      intro k n' e' hk
      simp only [Gh.grown, upd] at hk
      by_cases c : k = l
      · subst c
        rw [if_pos rfl] at hk
        simp only [Option.some.injEq, Prod.mk.injEq] at hk
        obtain ⟨rfl, rfl⟩ := hk
        obtain ⟨cur, h1, h2⟩ := hg.row
        refine ⟨hl2, hll, hls, .inr ⟨g, o, cap, cur, by simp [Gh.grown], ?_, h1, hg.n, hg.cap, by simpa [Gh.grown, hs] using h2, by simp [Gh.grown], by simp [Gh.grown, hs]⟩⟩
        rcases hg.gl with h5 | h5
        · exact h5.2
        · exact .inl (Nat.le_trans h.size h5)
      · rw [if_neg c] at hk
        obtain ⟨h1, h2, h3, h4⟩ := h.live k n' e' hk
        refine ⟨h1, h2, h3, ?_⟩
        rcases h4 with h4 | ⟨g2, oF, cap2, cur2, h5, h6, h7, h8, h9, h10, h11, h12⟩
        · exact .inl (by simp only [Gh.grown]; rw [upd_other _ _ c]; exact h4)
        · have hne : g2 ≠ g := by
            intro e1
            have hg2 := (Array.getElem?_eq_some_iff.1 h7).1
            rcases hg.gl with h13 | h13
            · rw [e1] at h11
              exact c (h.fmi k l _ _ hk hl (h11.symm.trans h13.1))
            · omega
          refine .inr ⟨g2, oF, cap2, cur2, ?_, h6, by rw [hg.block g2 (Array.getElem?_eq_some_iff.1 h7).1 hne]; exact h7, h8, h9, h10, (hlt hne).trans h11, (hft hne).trans h12⟩
          simp only [Gh.grown]; rw [upd_other _ _ c]; exact h5
    frl := fun k hk => by
      simp only [Gh.grown, upd] at hk
      split at hk
      · omega
      · exact Nat.lt_of_lt_of_le (h.frl k hk) hg.size
    linl := fun k hk => by
      have := hg.size
      rw [hlt (by omega)]; exact h.linl k (by omega)
    linn := fun k => by
      simp only [Gh.grown, upd]
      split
      · have := h.fml l hll; omega
      · exact h.linn k
    old := fun k hk hf => by
      obtain ⟨h1, h2, h3⟩ := h.old k hk hf
      have := h.size
      have hne : k ≠ g := by
        rintro rfl
        rcases hg.gl with h5 | h5
        · rcases h5.2 with h6 | h6
          · omega
          · exact hf h6
        · omega
      exact ⟨(hlt hne).trans h1, (hg.block k (by omega) hne).trans h2, (hft hne).trans h3⟩
    f0 := h.f0
    mu := h.mu
    keep := fun k i hi => by
      rw [← h.keep k i hi]
      exact hgle.cell k i (Nat.lt_of_lt_of_le hi (h.keepf k))
    keepf := fun k => Nat.le_trans (h.keepf k) (hgle.fr k)
    size := Nat.le_trans h.size hg.size
    os := hg.os.trans h.os
    tape := hg.tape.trans h.tape
    output := hg.output.trans h.output }

omit [Tabs] in
theorem grown_VR (h : Mem w0 F0 Fp G w m) {l g o n0 n e s cap : Nat} (hs : s = G.ls l) (hl : G.lv l = some (n0, e)) (hn : n0 < n) (hg : Grows G w w' w0.heap.size Fp l g o n e s cap)
    {arr cur : Array Value} {xs : List AV} (ht : Tells G w s arr xs) (hx : xs.length = n) (h0 : 0 < s) (hrow : w'.heap[g]? = some (.cells cur e (0, 0))) (hcur : ∀ k, k < arr.size → cur[o + k]? = arr[k]?) :
    VR (G.grown l g o n e s cap) w' (.slice (some ⟨g, o, none⟩) n cap) (.sl l s xs) := by
  subst hx
  have hgle := hg.gle h hs hl hn
  obtain ⟨hl2, hll, hls, _⟩ := h.live l n0 e hl
  refine .sl (some ⟨g, o, none⟩) cap l s xs g o (fun k => arr.getD k default) hll (by omega) hg.n ?_ ?_ ht.each (fun _ => h0) ?_ ?_
  · intro n' e' hn'
    simp only [Gh.grown, upd_same, Option.some.injEq, Prod.mk.injEq] at hn'
    obtain ⟨rfl, rfl⟩ := hn'
    exact ⟨Nat.le_refl _, fun _ => ⟨by simp [Gh.grown], hs⟩⟩
  · intro _
    exact ⟨rfl, .inl (by simp [Gh.grown]), by simp [Gh.grown]⟩
  · intro k hk
    have hk' : k < arr.size := by rw [ht.size]; exact hk
    refine ⟨?_, (ht.cell k hk).2⟩
    simp only [World.cell?, hrow, Option.isSome_none, Bool.false_eq_true, if_false]
    rw [hcur k hk', Array.getD_eq_getD_getElem?, Array.getElem?_eq_getElem hk']
    rfl
  · intro k hk
    exact (ht.cell k hk).1.mono hgle
omit [Tabs] in
theorem run_append_roomO {w : World} (t ty e : TypeId) (i : TypeInfo) (ht : P.underlying t = some (.slice e)) (hi : P.info? e = some i)
    (g o sLen sCap : Nat) (cur : Array Value) (hg : w.heap[g]? = some (.cells cur e (0, 0)))
    (a : Addr) (m c : Nat) (news : List Value) (hl : news.length = m * i.size) (hnews : ∀ j u, news[j]? = some u → w.cell? (a.add j) = some u) (h1 : ∀ u ∈ news, u.oneCell' = true)
    (hroom : sLen + m ≤ sCap) (hfit : o + sLen * i.size + news.length ≤ cur.size) :
    (Builtin.append_ #[t, t] ty #[.slice (some ⟨g, o, none⟩) sLen sCap, .slice (some a) m c]).run P w =
      .ok (.slice (some ⟨g, o, none⟩) (sLen + m) sCap) (w.setRow g (cur.toList.take (o + sLen * i.size) ++ news ++ cur.toList.drop (o + sLen * i.size + news.length)).toArray) := by
  have hf := run_firstCells_some (P := P) w i.size m a m c news hl hnews
  have hst := run_storeCells_at P g (o + sLen * i.size) e news 0 cur w hg (by simpa using hfit) h1
  simp only [Nat.add_zero] at hst
  simp [Builtin.append_, run_underlying ht, sizeOf, typeInfo, hi, Builtin.lenOf, hroom, hf, Addr.add_lit, hst]

omit [Tabs] in
/-- The cells of a slice that is not empty, as a list; what they tell. -/
theorem sl_news {x : Value} {l s : Nat} {ys : List AV} (hv : VR G w x (.sl l s ys)) (hne : ys ≠ []) : ∃ (ad : Addr) (cap : Nat) (news : List Value), x = .slice (some ad) ys.length cap ∧ news.length = ys.length * s ∧ (∀ j u, news[j]? = some u → w.cell? (ad.add j) = some u) ∧ (∀ u ∈ news, u.oneCell' = true) ∧ Tells G w s news.toArray ys ∧ 0 < s := by
  cases hv with
  | nil => exact absurd rfl hne
  | sl A cap _ _ _ g off us hl h1 hc hlive hA hsz h0 hcell hh =>
    obtain ⟨rfl, h2, h3⟩ := hA hne
    refine ⟨⟨g, off, none⟩, cap, (List.range (ys.length * s)).map us, rfl, by simp, ?_, ?_, ⟨by simp, hsz, ?_⟩, h0 hne⟩
    · intro j u hj
      simp only [List.getElem?_map] at hj
      by_cases c : j < ys.length * s
      · rw [List.getElem?_range c] at hj
        simp at hj
        rw [addr_add, (hcell j c).1, hj]
      · rw [List.getElem?_eq_none (by simp; omega)] at hj; cases hj
    · intro u hu
      simp only [List.mem_map, List.mem_range] at hu
      obtain ⟨k, hk, rfl⟩ := hu
      exact (hcell k hk).2
    · intro k hk
      have e1 : ((List.range (ys.length * s)).map us).toArray.getD k default = us k := by
        simp [Array.getD_eq_getD_getElem?, hk]
      rw [e1]
      exact ⟨hh k hk, (hcell k hk).2⟩

omit [Tabs] in
theorem Tells.append {s : Nat} {b c : Array Value} {xs ys : List AV} (h1 : Tells G w s b xs) (h2 : Tells G w s c ys) : Tells G w s (b ++ c) (xs ++ ys) := by
  refine ⟨by rw [Array.size_append, h1.size, h2.size, List.length_append, Nat.add_mul], fun x hx => ?_, fun k hk => ?_⟩
  · rcases List.mem_append.1 hx with h | h
    · exact h1.each x h
    · exact h2.each x h
  · rw [List.length_append, Nat.add_mul] at hk
    rw [flat_append]
    have e1 := flat_length (fun x hx => (h1.each x hx).1)
    by_cases c1 : k < xs.length * s
    · have := h1.cell k c1
      have f1 : (b ++ c).getD k default = b.getD k default := by
        simp only [Array.getD_eq_getD_getElem?]; rw [Array.getElem?_append_left (by rw [h1.size]; exact c1)]
      have f2 : (flat xs ++ flat ys).getD k .any = (flat xs).getD k .any := by
        simp only [List.getD_eq_getElem?_getD]; rw [List.getElem?_append_left (by omega)]
      rw [f1, f2]; exact this
    · have := h2.cell (k - xs.length * s) (by omega)
      have f1 : (b ++ c).getD k default = c.getD (k - xs.length * s) default := by
        simp only [Array.getD_eq_getD_getElem?]; rw [Array.getElem?_append_right (by rw [h1.size]; omega), h1.size]
      have f2 : (flat xs ++ flat ys).getD k .any = (flat ys).getD (k - xs.length * s) .any := by
        simp only [List.getD_eq_getElem?_getD]; rw [List.getElem?_append_right (by omega), e1]
      rw [f1, f2]; exact this

omit [Tabs] in
/-- Onto nothing: a new row. -/
theorem run_append_empty {t ty e : TypeId} {i : TypeInfo} {z : Value} (ht : P.underlying t = some (.slice e)) (hi : P.info? e = some i) (hz : i.zero = some z) (A : Option Addr)
    (ad : Addr) (n c : Nat) (news : List Value) (hl : news.length = n * i.size) (hnews : ∀ j v, news[j]? = some v → w.cell? (ad.add j) = some v)
    (h0 : 0 < n) (hm : n ≤ maxLen) (hb : n * i.bytes ≤ 140737488355328) :
    ∃ cap, (Builtin.append_ #[t, t] ty #[.slice A 0 0, .slice (some ad) n c]).run P w = .ok (.slice (some ⟨w.heap.size, 0, none⟩) n cap) (w.drew.alloc (.cells (news.toArray ++ Builtin.zeroCells z.cells (cap - n)) e)) ∧ n ≤ cap ∧ cap ≤ maxLen := by
  have h63 : (n : Int) ≤ 9223372036854775807 := by simp only [maxLen] at hm; omega
  refine ⟨grownCap w n 0 e, ?_, grownCap_ge w n 0 e, grownCap_le_maxLen w n 0 e hm⟩
  cases A with
  | none => exact run_append_nil w t ty e i z ht hi hz ad n c news hl hnews h0 h63 (by omega)
  | some b =>
    have := run_append_grow (P := P) w t ty e i z ht hi hz b 0 0 [] (by simp) (by simp) ad n c news hl hnews (by omega) (by simpa using h63) (growslice_fits (by omega) (by simpa using hb))
    simpa using this

omit [Tabs] in
theorem run_append_none {t ty e : TypeId} {i : TypeInfo} (ht : P.underlying t = some (.slice e)) (hi : P.info? e = some i) (A : Option Addr) (n cap : Nat) (hn : n ≤ cap) (B : Option Addr) (c : Nat) :
    (Builtin.append_ #[t, t] ty #[.slice A n cap, .slice B 0 c]).run P w = .ok (.slice A n cap) w := by
  cases A <;> cases B <;> simp [Builtin.append_, run_underlying ht, sizeOf, typeInfo, hi, Builtin.lenOf, Builtin.firstCells, hn, loadCells, loadCellsFrom, storeCells]

theorem Rel.grown (h : Rel w0 F0 Fp X G w a σ) {l g o n0 n e s cap : Nat} (hs : s = G.ls l) (hl : G.lv l = some (n0, e)) (hn : n0 < n) (hg : Grows G w w' w0.heap.size Fp l g o n e s cap) : Rel w0 F0 Fp X (G.grown l g o n e s cap) w' a { σ with m := σ.m.grow l n e } :=
  ⟨h.sz, h.df, fun i => (h.tm i).mono (hg.gle h.mm hs hl hn), fun j i => (h.hd j i).mono (hg.gle h.mm hs hl hn), h.mm.grown hs hl hn hg, h.tb⟩

/-- An empty slice of no room becomes a lineage. -/
def Gh.newNil (G : Gh) (A : Option Addr) (e s : Nat) : Gh :=
  { G with nl := G.nl + 1, fm := upd G.fm G.nl G.nl, lv := upd G.lv G.nl (some (0, e)), la := upd G.la G.nl (A, 0), ls := upd G.ls G.nl s }

omit [Tabs] in
theorem GLe.newNil (G : Gh) (w : World) (A : Option Addr) (e s : Nat) : GLe G w (G.newNil A e s) w where
  nh := Nat.le_refl _
  ob := fun _ _ => rfl
  nl := Nat.le_succ _
  fm := fun l hl => by simp only [Gh.newNil]; exact upd_other _ _ (by omega)
  lin := fun _ _ => .inl rfl
  fr := fun _ => Nat.le_refl _
  lv := fun l hl n' e' hl' => by
    simp only [Gh.newNil] at hl' ⊢
    rw [upd_other _ _ (by omega)] at hl'
    exact ⟨n', e', hl', Nat.le_refl _, fun _ => ⟨upd_other _ _ (by omega), upd_other _ _ (by omega)⟩⟩
  cell := fun _ _ _ => rfl

omit [Tabs] in
theorem Mem.newNil (h : Mem w0 F0 Fp G w m) (A : Option Addr) (e s : Nat) (h0 : 0 < s) : Mem w0 F0 Fp (G.newNil A e s) w (m.newLin 0 e) where
  nh := h.nh
  nl := by simp only [Gh.newNil, AM.newLin, h.nl]
  fm := by simp only [Gh.newNil, AM.newLin, h.nl, h.fm]
  lv := by simp only [Gh.newNil, AM.newLin, h.nl, h.lv]
  two := by simp only [Gh.newNil]; have := h.two; omega
  fm0 := by simp only [Gh.newNil]; rw [upd_other _ _ (by have := h.two; omega)]; exact h.fm0
  fml := fun l hl => by
    simp only [Gh.newNil, upd] at hl ⊢
    split
    · omega
    · exact h.fml l (by omega)
  fm2 := fun l hl hl' => by
    simp only [Gh.newNil, upd] at hl' ⊢
    split
    · have := h.two; omega
    · exact h.fm2 l hl (by omega)
  fmi := by
    intro l l' x y hx hy he
    simp only [Gh.newNil, upd] at hx hy he
    by_cases e1 : l = G.nl <;> by_cases e2 : l' = G.nl
    · omega
    · rw [if_neg e2] at hy he; rw [if_pos e1] at he
      have := h.fml l' (h.lv_lt hy); have := h.lv_lt hy; omega
    · rw [if_neg e1] at hx he; rw [if_pos e2] at he
      have := h.fml l (h.lv_lt hx); have := h.lv_lt hx; omega
    · rw [if_neg e1] at hx he; rw [if_neg e2] at hy he
      exact h.fmi l l' x y hx hy he
  inj := h.inj
  obl := h.obl
  obj := fun o x hx => by
    obtain ⟨h1, h2⟩ := h.obj o x hx
    exact ⟨h1, h2.mono (GLe.newNil G w A e s) rfl⟩
  live := by
    intro l n' e' hl
    simp only [Gh.newNil, upd] at hl
    by_cases e1 : l = G.nl
    · subst e1
      rw [if_pos rfl] at hl
      simp only [Option.some.injEq, Prod.mk.injEq] at hl
      obtain ⟨rfl, rfl⟩ := hl
      have := h.two
      exact ⟨by omega, by simp [Gh.newNil], by simpa [Gh.newNil] using h0, .inl ⟨rfl, by simp [Gh.newNil]⟩⟩
    · rw [if_neg e1] at hl
      obtain ⟨h1, h2, h3, h4⟩ := h.live l n' e' hl
      have f1 : (G.newNil A e s).ls l = G.ls l := by simp only [Gh.newNil]; exact upd_other _ _ e1
      have f2 : (G.newNil A e s).la l = G.la l := by simp only [Gh.newNil]; exact upd_other _ _ e1
      have f3 : (G.newNil A e s).fm l = G.fm l := by simp only [Gh.newNil]; exact upd_other _ _ e1
      refine ⟨h1, by simp only [Gh.newNil]; omega, by rw [f1]; exact h3, ?_⟩
      rw [f1, f2, f3]
      exact h4
  frl := h.frl
  linl := h.linl
  linn := fun k => by have := h.linn k; simp only [Gh.newNil]; omega
  old := h.old
  f0 := h.f0
  mu := h.mu
  keep := h.keep
  keepf := h.keepf
  size := h.size
  os := h.os
  tape := h.tape
  output := h.output

omit [Tabs] in
theorem newNil_VR (h : Mem w0 F0 Fp G w m) (A : Option Addr) (e s : Nat) : VR (G.newNil A e s) w (.slice A 0 0) (.sl G.nl s []) := by
  have := h.two
  refine .sl A 0 G.nl s [] 0 0 (fun _ => default) (by simp [Gh.newNil]) (by omega) (by simp) ?_ (fun h => absurd rfl h) (by simp) (fun h => absurd rfl h) (by simp) (by simp)
  intro n' e' hn'
  simp only [Gh.newNil, upd_same, Option.some.injEq, Prod.mk.injEq] at hn'
  obtain ⟨rfl, rfl⟩ := hn'
  exact ⟨Nat.le_refl _, fun _ => ⟨by simp [Gh.newNil], by simp [Gh.newNil]⟩⟩

omit [Tabs] in
theorem sl_empty {x : Value} {l s : Nat} (hv : VR G w x (.sl l s [])) : ∃ A cap, x = .slice A 0 cap := by
  cases hv with
  | nil => exact ⟨none, 0, rfl⟩
  | sl A cap => exact ⟨A, cap, rfl⟩

theorem append_nil_ok (h : Rel w0 F0 Fp X G w a σ) {t ty e s s1 s2 l2 : Nat} {ti : TI} {zv x y : Value} {ys : List AV} (hs : slcOf P t = some (e, s)) (hti : tiOf P e = some ti) (hz : ti.zero = some zv) (hzs : zv.cells.size = s) (h0 : 0 < s)
    (hx : VR G w x (.sl 1 s1 [])) (hy : VR G w y (.sl l2 s2 ys)) (hb : ys.length * ti.bytes ≤ 140737488355328) (hm : ys.length ≤ maxLen) (hs2 : s2 = s ∨ ys = []) :
    ∃ w' G' v, (Builtin.append_ #[t, t] ty #[x, y]).run P w = .ok v w' ∧ Rel w0 F0 Fp X G' w' a { σ with m := σ.m.newLin ys.length e } ∧ VR G' w' v (.sl σ.m.nl s ys) := by
  obtain ⟨hu, ie, hie, hsz⟩ := slcOf_some hs
  rw [hti] at hie
  obtain rfl := Option.some.inj hie
  obtain ⟨i, d, hi, hd, hi1, hi2, hi3, _⟩ := tiOf_some hti
  have hx2 : ∃ A, x = .slice A 0 0 := by
    cases hx with
    | nil => exact ⟨none, rfl⟩
    | sl A cap l sz xs g off us hl h1 => exact absurd rfl h1
  obtain ⟨A, rfl⟩ := hx2
  rw [← h.mm.nl]
  by_cases hne : ys = []
  · subst hne
    obtain ⟨B, c, rfl⟩ := sl_empty hy
    refine ⟨w, G.newNil A e s, _, run_append_none hu hi A 0 0 (Nat.le_refl _) B c, ⟨h.sz, h.df, fun i => (h.tm i).mono (GLe.newNil G w A e s), fun j i => (h.hd j i).mono (GLe.newNil G w A e s), h.mm.newNil A e s h0, h.tb⟩, newNil_VR h.mm A e s⟩
  · obtain rfl : s2 = s := hs2.resolve_right hne
    obtain ⟨ad, cap2, news, rfl, hl, hnews, hone, htell, _⟩ := sl_news hy hne
    obtain ⟨cap, hrun, hc1, hc2⟩ := run_append_empty (P := P) (w := w) (ty := ty) hu hi (hi3.trans hz) A ad ys.length cap2 news (by rw [hi1, hsz]; exact hl) hnews (List.length_pos_iff.2 hne) hm (by rw [hi2]; exact hb)
    have hbel : Below w.heap.size w (w.drew.alloc (.cells (news.toArray ++ Builtin.zeroCells zv.cells (cap - ys.length)) e)) := (Below.drew (Below.refl _ _)).alloc (by simp) _
    have hrow := heap_alloc_new w.drew (.cells (news.toArray ++ Builtin.zeroCells zv.cells (cap - ys.length)) e)
    have hsz2 : (news.toArray ++ Builtin.zeroCells zv.cells (cap - ys.length)).size = cap * s2 := by
      rw [Array.size_append, size_zeroCells, hzs, List.size_toArray, hl, ← Nat.add_mul]; congr 1; omega
    exact ⟨_, _, _, hrun, h.newRow (g := w.heap.size) hbel (Nat.le_refl _) (by simp) h0 ⟨_, hrow, hsz2⟩ hc1 hc2, row_VR h.mm htell rfl h0 hc1 hbel (Nat.le_refl _) hrow⟩

theorem append_live_ok (h : Rel w0 F0 Fp X G w a σ) {t ty e s s1 s2 l l2 : Nat} {ti : TI} {zv x y : Value} {xs ys : List AV} (hs : slcOf P t = some (e, s)) (hti : tiOf P e = some ti) (hz : ti.zero = some zv) (hzs : zv.cells.size = s) (h0 : 0 < s)
    (hl : σ.m.lv l = some (xs.length, e)) (hl1 : l ≠ 1)
    (hx : VR G w x (.sl l s1 xs)) (hy : VR G w y (.sl l2 s2 ys)) (hb : (xs.length + ys.length) * ti.bytes ≤ 140737488355328) (hm : xs.length + ys.length ≤ maxLen) (hs2 : s2 = s ∨ ys = []) (hs1 : s1 = s) :
    ∃ w' G' v, (Builtin.append_ #[t, t] ty #[x, y]).run P w = .ok v w' ∧ Rel w0 F0 Fp X G' w' a { σ with m := σ.m.grow l (xs.length + ys.length) e } ∧ VR G' w' v (.sl l s (xs ++ ys)) := by
  obtain ⟨hu, ie, hie, hsz⟩ := slcOf_some hs
  rw [hti] at hie
  obtain rfl := Option.some.inj hie
  obtain ⟨i, d, hi, hd, hi1, hi2, hi3, _⟩ := tiOf_some hti
  subst hs1
  have hlG : G.lv l = some (xs.length, e) := by rw [h.mm.lv]; exact hl
  cases hx with
  | nil => exact absurd rfl hl1
  | sl A cap _ _ _ gx off us hll _ hcap hlive hA hsz1 h01 hcell hh =>
    obtain ⟨_, hlv⟩ := hlive _ _ hlG
    obtain ⟨hla, hls⟩ := hlv rfl
    by_cases hne : ys = []
    · subst hne
      obtain ⟨B, c, rfl⟩ := sl_empty hy
      have e1 : σ.m.grow l (xs.length + 0) e = σ.m := by
        unfold AM.grow
        have : upd σ.m.lv l (some (xs.length + 0, e)) = σ.m.lv := by
          funext k; simp only [upd]; split
          · rename_i e2; subst e2; rw [hl]; rfl
          · rfl
        rw [this]
      refine ⟨w, G, _, run_append_none hu hi A xs.length cap hcap B c, ?_, ?_⟩
      · rw [List.length_nil, e1]; exact h
      · rw [List.append_nil]
        exact .sl A cap l s1 xs gx off us hll hl1 hcap hlive hA hsz1 h01 hcell hh
    · obtain rfl : s2 = s1 := hs2.resolve_right hne
      obtain ⟨ad, cap2, news, rfl, hnl, hnews, hone, htell, _⟩ := sl_news hy hne
      have hpos := List.length_pos_iff.2 hne
      have hlen : (xs ++ ys).length = xs.length + ys.length := List.length_append
      obtain ⟨hl2, hll2, hls2, hlo⟩ := h.mm.live l _ e hlG
      rcases hlo with ⟨hn0, hc0⟩ | ⟨g, oF, cap', cur, hla', hgB, hrow, hncap, hcm, hcs, hlin, hfr⟩
      · have hxs : xs = [] := List.eq_nil_of_length_eq_zero hn0
        subst hxs
        have hcap0 : cap = 0 := by rw [← hla] at hc0; exact hc0
        subst hcap0
        obtain ⟨cap3, hrun, hc1, hc2⟩ := run_append_empty (P := P) (w := w) (ty := ty) hu hi (hi3.trans hz) A ad ys.length cap2 news (by rw [hi1, hsz]; exact hnl) hnews hpos (by simpa using hm) (by rw [hi2]; simpa using hb)
        have hrow' := heap_alloc_new w.drew (.cells (news.toArray ++ Builtin.zeroCells zv.cells (cap3 - ys.length)) e)
        have hsz2 : (news.toArray ++ Builtin.zeroCells zv.cells (cap3 - ys.length)).size = cap3 * s2 := by
          rw [Array.size_append, size_zeroCells, hzs, List.size_toArray, hnl, ← Nat.add_mul]; congr 1; omega
        have hfr0 : G.fr w.heap.size = 0 := by
          rcases Nat.eq_zero_or_pos (G.fr w.heap.size) with h2 | h2
          · exact h2
          · have := h.mm.frl _ h2; omega
        have hgr : Grows G w (w.drew.alloc (.cells (news.toArray ++ Builtin.zeroCells zv.cells (cap3 - ys.length)) e)) w0.heap.size Fp l w.heap.size 0 (([] : List AV).length + ys.length) e s2 cap3 :=
          ⟨rfl, rfl, rfl, by simp, fun k hk _ => heap_alloc_old w.drew _ k hk, fun i hi => by omega, .inr (Nat.le_refl _), by omega, ⟨_, hrow', by rw [hsz2, Nat.zero_add]⟩, by simpa using hc1, hc2⟩
        refine ⟨_, _, _, hrun, h.grown hls hlG (by simpa using hpos) hgr, ?_⟩
        have := grown_VR h.mm hls hlG (by simpa using hpos) hgr (arr := news.toArray) (xs := ys) htell (by simp) h0 hrow' (fun k hk => by rw [Nat.zero_add, Array.getElem?_append_left hk])
        simpa using this
      · rw [hla'] at hla
        simp only [Prod.mk.injEq] at hla
        obtain ⟨rfl, rfl⟩ := hla
        have hcz : cur.size = oF + cap * s2 := by rw [hls]; exact hcs
        have hct : cur.toList.length = cur.size := Array.length_toList
        have hns : xs.length * s2 ≤ cap * s2 := Nat.mul_le_mul_right _ hncap
        obtain ⟨olds, hold⟩ : ∃ olds, (cur.toList.drop oF).take (xs.length * s2) = olds := ⟨_, rfl⟩
        have htake : olds.length = xs.length * s2 := by
          rw [← hold, List.length_take, List.length_drop, hct, hcz]; omega
        have hog : ∀ k, k < xs.length * s2 → olds[k]? = cur[oF + k]? := fun k hk => by
          rw [← hold, List.getElem?_take, if_pos hk, List.getElem?_drop, Array.getElem?_toList]
        have holds : Tells G w s2 olds.toArray xs := by
          refine ⟨by simpa using htake, hsz1, fun k hk => ?_⟩
          have hxs : xs ≠ [] := by rintro rfl; simp at hk
          obtain ⟨hA1, _⟩ := hA hxs
          simp only [Option.some.injEq, Addr.mk.injEq, and_true] at hA1
          obtain ⟨rfl, rfl⟩ := hA1
          obtain ⟨h3, h4⟩ := hcell k hk
          have e2 : olds.toArray.getD k default = us k := by
            simp only [World.cell?, hrow, Option.isSome_none, Bool.false_eq_true, if_false] at h3
            simp only [Array.getD_eq_getD_getElem?, List.getElem?_toArray]
            rw [hog k hk, h3]
            rfl
          rw [e2]
          exact ⟨hh k hk, h4⟩
        have hall := holds.append htell
        have hcells : ∀ j u, olds[j]? = some u → w.cell? ((⟨g, oF, none⟩ : Addr).add j) = some u := by
          intro j u hj
          rw [addr_add]
          simp only [World.cell?, hrow, Option.isSome_none, Bool.false_eq_true, if_false]
          have hj2 : j < xs.length * s2 := by rw [← htake]; exact (List.getElem?_eq_some_iff.1 hj).1
          rw [← hog j hj2]; exact hj
        by_cases hroom : xs.length + ys.length ≤ cap
        · have hrm := Nat.mul_le_mul_right s2 hroom
          rw [Nat.add_mul] at hrm
          have hfit : oF + xs.length * i.size + news.length ≤ cur.size := by
            rw [hi1, hsz, hnl, hcz]; omega
          have hrun := run_append_roomO (P := P) t ty e i hu hi g oF xs.length cap cur hrow ad ys.length cap2 news (by rw [hi1, hsz]; exact hnl) hnews hone hroom hfit
          rw [hi1, hsz] at hrun hfit
          generalize hnew : (cur.toList.take (oF + xs.length * s2) ++ news ++ cur.toList.drop (oF + xs.length * s2 + news.length)).toArray = new at hrun
          have hrow' := setRow_heap w g cur new e (0, 0) hrow
          have htk : (cur.toList.take (oF + xs.length * s2)).length = oF + xs.length * s2 := by rw [List.length_take, hct]; omega
          have hnsz : new.size = oF + cap * s2 := by
            rw [← hnew]
            simp only [List.size_toArray, List.length_append, htk, List.length_drop, hct]
            omega
          have hlow : ∀ i, i < oF + xs.length * s2 → new[i]? = cur[i]? := fun i hi => by
            rw [← hnew]
            simp only [List.getElem?_toArray]
            rw [List.getElem?_append_left (by rw [List.length_append, htk]; omega), List.getElem?_append_left (by omega), List.getElem?_take, if_pos hi, Array.getElem?_toList]
          have hgr : Grows G w (w.setRow g new) w0.heap.size Fp l g oF (xs.length + ys.length) e s2 cap := by
            refine ⟨rfl, rfl, rfl, by simp [World.setRow], fun k hk hkg => setRow_other w g k _ hkg, fun i hi => ?_, .inl ⟨hlin, hgB⟩, ?_, ⟨new, hrow', hnsz⟩, hroom, hcm⟩
            · rw [hfr, ← hls] at hi
              simp only [World.cell?, hrow, hrow', Option.isSome_none, Bool.false_eq_true, if_false]
              exact hlow i hi
            · rw [hfr, ← hls, Nat.add_mul]; omega
          refine ⟨_, _, _, hrun, h.grown hls hlG (by omega) hgr, ?_⟩
          refine grown_VR h.mm hls hlG (by omega) hgr hall hlen h0 hrow' fun k hk => ?_
          simp only [Array.size_append, List.size_toArray, htake, hnl] at hk
          by_cases hk2 : k < xs.length * s2
          · rw [hlow _ (by omega), Array.getElem?_append_left (by simpa [htake] using hk2)]; exact ((hog k hk2).symm).trans (by simp)
          · rw [← hnew, List.getElem?_toArray, List.getElem?_append_left (by rw [List.length_append, htk, hnl]; omega), List.getElem?_append_right (by rw [htk]; omega), htk, Array.getElem?_append_right (by simp [htake]; omega), List.getElem?_toArray]
            congr 1
            simp only [List.size_toArray, htake]; omega
        · have hrun := run_append_grow (P := P) w t ty e i zv hu hi (hi3.trans hz) ⟨g, oF, none⟩ xs.length cap olds (by rw [hi1, hsz]; exact htake) hcells ad ys.length cap2 news (by rw [hi1, hsz]; exact hnl) hnews (by omega) (by simp only [maxLen] at hm; omega) (growslice_fits (by omega) (by rw [hi2]; exact hb))
          generalize hcap3 : grownCap w (xs.length + ys.length) cap e = cap3 at hrun
          have hc1 : xs.length + ys.length ≤ cap3 := by rw [← hcap3]; exact grownCap_ge w _ _ e
          have hc2 : cap3 ≤ maxLen := by rw [← hcap3]; exact grownCap_le_maxLen w _ _ e hm
          have hrow' := heap_alloc_new w.drew (.cells (olds.toArray ++ news.toArray ++ Builtin.zeroCells zv.cells (cap3 - (xs.length + ys.length))) e)
          have hsz2 : (olds.toArray ++ news.toArray ++ Builtin.zeroCells zv.cells (cap3 - (xs.length + ys.length))).size = cap3 * s2 := by
            rw [Array.size_append, Array.size_append, size_zeroCells, hzs, List.size_toArray, List.size_toArray, htake, hnl, ← Nat.add_mul, ← Nat.add_mul]; congr 1; omega
          have hfr0 : G.fr w.heap.size = 0 := by
            rcases Nat.eq_zero_or_pos (G.fr w.heap.size) with h2 | h2
            · exact h2
            · have := h.mm.frl _ h2; omega
          have hgr : Grows G w (w.drew.alloc (.cells (olds.toArray ++ news.toArray ++ Builtin.zeroCells zv.cells (cap3 - (xs.length + ys.length))) e)) w0.heap.size Fp l w.heap.size 0 (xs.length + ys.length) e s2 cap3 :=
            ⟨rfl, rfl, rfl, by simp, fun k hk _ => heap_alloc_old w.drew _ k hk, fun i hi => by omega, .inr (Nat.le_refl _), by omega, ⟨_, hrow', by rw [hsz2, Nat.zero_add]⟩, hc1, hc2⟩
          exact ⟨_, _, _, hrun, h.grown hls hlG (by omega) hgr, grown_VR h.mm hls hlG (by omega) hgr hall hlen h0 hrow' fun k hk => by rw [Nat.zero_add, Array.getElem?_append_left hk]⟩
end
end Go.Rw
end
