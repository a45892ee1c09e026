/-
  Abstract values and states, and how the machine's memory tells them. Proved over any program. What an operation that turns no memory answers, over abstract values; that it is so of the machine. Proved over any program. The operations that turn nothing ('pop'), and the calls of builtins among them; that the machine does just that. Proved over any program. The machine does what 'pop' says. Proved over any program. A live slice's elements turned in place: definitions.
-/
import Derived.Calls
import Derived.Laws.World
import Derived.Laws.Sem
import Derived.Laws.AppendOwn
import Derived.Below
import Derived.Tactics
import Derived.Laws.Cells
import Derived.Laws.Rows
import Derived.Laws.Slices
import Derived.Laws.Append
set_option linter.unusedSimpArgs false
set_option linter.unusedVariables false
set_option linter.defProp false
set_option linter.unusedSectionVars false

-- RwCore
section
namespace Go.Rw
open Go

/-- A value without memory. 'sl l sz xs': a slice of the lineage l, its elements of sz cells each; 'ep': a pointer into one; 'ptr o k': cell k of the call's own object o. -/
inductive AV where
  | any
  | v (x : Value)
  | agg (cs : List AV)
  | tup (cs : List AV)
  | sl (l sz : Nat) (xs : List AV)
  | ep (l sz : Nat) (xs : List AV) (i j : Nat)
  | ptr (o k : Nat)
  | mp (o : Nat)
  | fn (f : FuncId) (caps : List AV)
  deriving Inhabited

def AV.cells : AV → List AV
  | .agg cs => cs
  | a => [a]

mutual
/-- A value as a callee sees it: its slices are of no lineage. -/
def AV.er : AV → AV
  | .sl _ sz xs => .sl 0 sz xs
  | .agg cs => .agg (AV.erL cs)
  | .tup cs => .tup (AV.erL cs)
  | .fn f cs => .fn f (AV.erL cs)
  | .v x => .v x
  | _ => .any
def AV.erL : List AV → List AV
  | [] => []
  | a :: r => a.er :: AV.erL r
end

def flat (xs : List AV) : List AV := xs.flatMap AV.cells

theorem flat_length {sz : Nat} : ∀ {xs : List AV}, (∀ x ∈ xs, x.cells.length = sz) → (flat xs).length = xs.length * sz
  | [], _ => by simp [flat]
  | x :: xs, h => by
    have h1 := flat_length (xs := xs) (fun y hy => h y (List.mem_cons_of_mem _ hy))
    have h2 := h x (List.mem_cons_self ..)
    simp only [flat, List.flatMap_cons, List.length_append, List.length_cons] at h1 ⊢
    rw [h1, h2, Nat.add_mul]; omega

theorem flat_append (xs ys : List AV) : flat (xs ++ ys) = flat xs ++ flat ys := by simp [flat]

/-- The ghosts: where objects lie; which lineage a block is of (0: it stays as it is; 1: an object); how many of its cells are told; the live lineages: length, element type; their slice. -/
structure Gh where
  nh : Nat
  ob : Nat → Nat
  nl : Nat
  lin : Nat → Nat
  fm : Nat → Nat
  fr : Nat → Nat
  lv : Nat → Option (Nat × Nat)
  la : Nat → Option Addr × Nat
  ls : Nat → Nat

inductive VR (G : Gh) (w : World) : Value → AV → Prop
  | any (x) : VR G w x .any
  | v (x) : VR G w x (.v x)
  | agg (arr : Array Value) (cs : List AV) (hs : arr.size = cs.length) (h : ∀ k, k < cs.length → VR G w (arr.getD k default) (cs.getD k .any)) : VR G w (.agg arr) (.agg cs)
  | tup (arr : Array Value) (cs : List AV) (hs : arr.size = cs.length) (h : ∀ k, k < cs.length → VR G w (arr.getD k default) (cs.getD k .any)) : VR G w (.tuple arr) (.tup cs)
  | nil (sz : Nat) : VR G w (.slice none 0 0) (.sl 1 sz [])
  | sl (A : Option Addr) (cap l sz : Nat) (xs : List AV) (g off : Nat) (us : Nat → Value) (hl : l < G.nl) (h1 : l ≠ 1) (hc : xs.length ≤ cap)
      (hlive : ∀ n e, G.lv l = some (n, e) → xs.length ≤ n ∧ (xs.length = n → (A, cap) = G.la l ∧ sz = G.ls l))
      (hA : xs ≠ [] → A = some ⟨g, off, none⟩ ∧ (G.lin g = G.fm l ∨ G.lin g = 0) ∧ off + xs.length * sz ≤ G.fr g)
      (hsz : ∀ x ∈ xs, x.cells.length = sz ∧ x.er = x) (h0 : xs ≠ [] → 0 < sz)
      (hcell : ∀ k, k < xs.length * sz → w.cell? ⟨g, off + k, none⟩ = some (us k) ∧ (us k).oneCell' = true)
      (h : ∀ k, k < xs.length * sz → VR G w (us k) ((flat xs).getD k .any)) : VR G w (.slice A xs.length cap) (.sl l sz xs)
  | ep (l sz : Nat) (xs : List AV) (i j g off : Nat) (us : Nat → Value) (hl : l < G.nl)
      (hlive : ∀ n e, G.lv l = some (n, e) → xs.length ≤ n ∧ (xs.length = n → (G.la l).1 = some ⟨g, off, none⟩ ∧ sz = G.ls l))
      (hA : (G.lin g = G.fm l ∨ G.lin g = 0) ∧ off + xs.length * sz ≤ G.fr g) (hi : i < xs.length) (hj : j < sz)
      (hsz : ∀ x ∈ xs, x.cells.length = sz ∧ x.er = x) (h0 : 0 < sz)
      (hcell : ∀ k, k < xs.length * sz → w.cell? ⟨g, off + k, none⟩ = some (us k) ∧ (us k).oneCell' = true)
      (h : ∀ k, k < xs.length * sz → VR G w (us k) ((flat xs).getD k .any)) : VR G w (.pointer (some ⟨g, off + (i * sz + j), none⟩)) (.ep l sz xs i j)
  | ptr (o k : Nat) (ho : o < G.nh) : VR G w (.pointer (some ⟨G.ob o, k, none⟩)) (.ptr o k)
  | mp (o : Nat) (ho : o < G.nh) : VR G w (.map (some (G.ob o))) (.mp o)
  | fn (f : FuncId) (arr : Array Value) (caps : List AV) (hs : arr.size = caps.length) (h : ∀ k, k < caps.length → VR G w (arr.getD k default) (caps.getD k .any)) : VR G w (.func (.func f) #[] arr) (.fn f caps)

/-- What may turn so that all that was told stays told. -/
structure GLe (G : Gh) (w : World) (G' : Gh) (w' : World) : Prop where
  nh : G.nh ≤ G'.nh
  ob : ∀ o, o < G.nh → G'.ob o = G.ob o
  nl : G.nl ≤ G'.nl
  fm : ∀ l, l < G.nl → G'.fm l = G.fm l
  lin : ∀ g, 0 < G.fr g → G'.lin g = G.lin g ∨ G'.lin g = 0
  fr : ∀ g, G.fr g ≤ G'.fr g
  lv : ∀ l, l < G.nl → ∀ n' e', G'.lv l = some (n', e') → ∃ n e, G.lv l = some (n, e) ∧ n ≤ n' ∧ (n = n' → G'.la l = G.la l ∧ G'.ls l = G.ls l)
  cell : ∀ g i, i < G.fr g → w'.cell? ⟨g, i, none⟩ = w.cell? ⟨g, i, none⟩

theorem GLe.refl (G : Gh) (w : World) : GLe G w G w := ⟨Nat.le_refl _, fun _ _ => rfl, Nat.le_refl _, fun _ _ => rfl, fun _ _ => .inl rfl, fun _ => Nat.le_refl _, fun _ _ n e h => ⟨n, e, h, Nat.le_refl _, fun _ => ⟨rfl, rfl⟩⟩, fun _ _ _ => rfl⟩

theorem VR.mono {G G' : Gh} {w w' : World} (hg : GLe G w G' w') {x : Value} {a : AV} (h : VR G w x a) : VR G' w' x a := by
  induction h with
  | any x => exact .any x
  | v x => exact .v x
  | agg arr cs hs _ ih => exact .agg arr cs hs ih
  | tup arr cs hs _ ih => exact .tup arr cs hs ih
  | nil sz => exact .nil sz
  | sl A cap l sz xs g off us hl h1 hc hlive hA hsz h0 hcell _ ih =>
    refine .sl A cap l sz xs g off us (Nat.lt_of_lt_of_le hl hg.nl) h1 hc ?_ ?_ hsz h0 ?_ ih
    · intro n' e' hn'
      obtain ⟨n, e, hn, hle, heq⟩ := hg.lv l hl n' e' hn'
      obtain ⟨h2, h3⟩ := hlive n e hn
      refine ⟨Nat.le_trans h2 hle, fun hx => ?_⟩
      have hnn : n = n' := by omega
      obtain ⟨e1, e2⟩ := heq hnn
      rw [e1, e2]
      exact h3 (by omega)
    · intro hx
      obtain ⟨h2, h3, h4⟩ := hA hx
      have hpos : 0 < G.fr g := by
        have : 0 < xs.length := List.length_pos_iff.2 hx
        have := Nat.mul_pos this (h0 hx)
        omega
      refine ⟨h2, ?_, Nat.le_trans h4 (hg.fr g)⟩
      rw [hg.fm l hl]
      rcases hg.lin g hpos with h5 | h5
      · rw [h5]; exact h3
      · exact .inr h5
    · intro k hk
      have hx : xs ≠ [] := by rintro rfl; simp at hk
      rw [hg.cell g (off + k) (by have := (hA hx).2.2; omega)]
      exact hcell k hk
  | ep l sz xs i j g off us hl hlive hA hi hj hsz h0 hcell _ ih =>
    have hpos : 0 < G.fr g := by
      have := Nat.mul_pos (show 0 < xs.length by omega) h0
      omega
    refine .ep l sz xs i j g off us (Nat.lt_of_lt_of_le hl hg.nl) ?_ ⟨?_, Nat.le_trans hA.2 (hg.fr g)⟩ hi hj hsz h0 ?_ ih
    · intro n' e' hn'
      obtain ⟨n, e, hn, hle, heq⟩ := hg.lv l hl n' e' hn'
      obtain ⟨h2, h3⟩ := hlive n e hn
      refine ⟨Nat.le_trans h2 hle, fun hx => ?_⟩
      obtain ⟨e1, e2⟩ := heq (by omega)
      rw [e1, e2]
      exact h3 (by omega)
    · rw [hg.fm l hl]
      rcases hg.lin g hpos with h5 | h5
      · rw [h5]; exact hA.1
      · exact .inr h5
    · intro j hj
      rw [hg.cell g (off + j) (by have := hA.2; omega)]
      exact hcell j hj
  | ptr o k ho => rw [← hg.ob o ho]; exact .ptr o k (Nat.lt_of_lt_of_le ho hg.nh)
  | mp o ho => rw [← hg.ob o ho]; exact .mp o (Nat.lt_of_lt_of_le ho hg.nh)
  | fn f arr caps hs _ ih => exact .fn f arr caps hs ih

/-- An object: a row of cells; a string's iterator; a map, as the model has it; a map's iterator. -/
inductive AO where
  | cells (cs : List AV)
  | iter (s : ByteArray) (pos : Nat)
  | map (es : Array MapEntry) (clock : Nat)
  | mit (ob since : Nat) (seen : Array Nat) (last : Nat)
  deriving Inhabited

inductive OR (G : Gh) (w : World) (g : Nat) : AO → Prop
  | cells (cs : List AV) (arr : Array Value) (e : TypeId) (hh : w.heap[g]? = some (.cells arr e (0, 0))) (hs : arr.size = cs.length) (h : ∀ k, k < cs.length → VR G w (arr.getD k default) (cs.getD k .any)) : OR G w g (.cells cs)
  | iter (s : ByteArray) (pos : Nat) (hh : w.heap[g]? = some (.stringIter s pos)) : OR G w g (.iter s pos)
  | map (es : Array MapEntry) (clock : Nat) (hh : w.heap[g]? = some (.map es clock)) : OR G w g (.map es clock)
  | mit (ob since : Nat) (seen : Array Nat) (last : Nat) (ho : ob < G.nh) (hh : w.heap[g]? = some (.mapIter (some (G.ob ob)) since seen last)) : OR G w g (.mit ob since seen last)

theorem OR.mono {G G' : Gh} {w w' : World} (hg : GLe G w G' w') {g : Nat} (hb : w'.heap[g]? = w.heap[g]?) {x : AO} (h : OR G w g x) : OR G' w' g x := by
  cases h with
  | cells cs arr e hh hs h => exact .cells cs arr e (hb.trans hh) hs fun k hk => (h k hk).mono hg
  | iter s pos hh => exact .iter s pos (hb.trans hh)
  | map es c hh => exact .map es c (hb.trans hh)
  | mit ob si se la ho hh => exact .mit ob si se la (Nat.lt_of_lt_of_le ho hg.nh) (by rw [hg.ob ob ho]; exact hb.trans hh)

/-- An abstract memory: objects; live lineages, their families. -/
structure AM where
  nh : Nat
  h : Nat → Option AO
  nl : Nat
  fm : Nat → Nat
  lv : Nat → Option (Nat × Nat)
  mu : Bool

/-- An abstract state: n slots; the slots of those who wait, the nearest first; the memory. -/
structure AS where
  n : Nat
  t : Nat → AV
  hd : Nat → Nat → AV
  m : AM

def upd {α : Type} (f : Nat → α) (d : Nat) (x : α) : Nat → α := fun i => if i = d then x else f i
@[simp] theorem upd_same {α : Type} (f : Nat → α) (d : Nat) (x : α) : upd f d x d = x := by simp [upd]
theorem upd_other {α : Type} (f : Nat → α) {d i : Nat} (x : α) (h : i ≠ d) : upd f d x i = f i := by simp [upd, h]

def AS.put (σ : AS) (d : Nat) (a : AV) : AS := { σ with t := upd σ.t d a }

/-- The live lineages' slices, as rows that the call owns. -/
def LiveOk (G : Gh) (w : World) (B : Nat) (Fp : Nat → Prop) (l n e : Nat) : Prop :=
  2 ≤ l ∧ l < G.nl ∧ 0 < G.ls l ∧
    ((n = 0 ∧ (G.la l).2 = 0) ∨
     ∃ g off cap cur, G.la l = (some ⟨g, off, none⟩, cap) ∧ (B ≤ g ∨ Fp g) ∧ w.heap[g]? = some (.cells cur e (0, 0)) ∧ n ≤ cap ∧ cap ≤ maxLen ∧ cur.size = off + cap * G.ls l ∧ G.lin g = G.fm l ∧ G.fr g = off + n * G.ls l)

/-- The world w, come from w0, tells the memory m. Fp: the blocks that were there and may turn, behind their first F0 cells. -/
structure Mem (w0 : World) (F0 : Nat → Nat) (Fp : Nat → Prop) (G : Gh) (w : World) (m : AM) : Prop where
  nh : G.nh = m.nh
  nl : G.nl = m.nl
  fm : G.fm = m.fm
  lv : G.lv = m.lv
  two : 2 ≤ G.nl
  fm0 : G.fm 0 = 0
  fml : ∀ l, l < G.nl → G.fm l ≤ l
  fm2 : ∀ l, 2 ≤ l → l < G.nl → 2 ≤ G.fm l
  fmi : ∀ l l' x y, G.lv l = some x → G.lv l' = some y → G.fm l = G.fm l' → l = l'
  inj : ∀ o o', o < G.nh → o' < G.nh → G.ob o = G.ob o' → o = o'
  obl : ∀ o, o < G.nh → G.lin (G.ob o) = 1 ∧ G.fr (G.ob o) = 0 ∧ G.ob o < w.heap.size ∧ (w0.heap.size ≤ G.ob o ∨ Fp (G.ob o))
  obj : ∀ o x, m.h o = some x → o < G.nh ∧ OR G w (G.ob o) x
  live : ∀ l n e, G.lv l = some (n, e) → LiveOk G w w0.heap.size Fp l n e
  frl : ∀ g, 0 < G.fr g → g < w.heap.size
  linl : ∀ g, w.heap.size ≤ g → G.lin g = 0
  linn : ∀ g, G.lin g < G.nl
  old : ∀ g, g < w0.heap.size → ¬ Fp g → G.lin g = 0 ∧ w.heap[g]? = w0.heap[g]? ∧ G.fr g = F0 g
  f0 : ∀ g, 0 < F0 g → g < w0.heap.size
  mu : m.mu = true → ∀ g, Fp g → F0 g = 0
  keep : ∀ g i, i < F0 g → w.cell? ⟨g, i, none⟩ = w0.cell? ⟨g, i, none⟩
  keepf : ∀ g, F0 g ≤ G.fr g
  size : w0.heap.size ≤ w.heap.size
  os : w.os = w0.os
  tape : w.tape = w0.tape
  output : w.output = w0.output

/-- What the program's own variables hold, which nobody writes: their blocks; what is said of them. -/
class Tabs where
  blk : Nat → Prop
  ok : World → Prop
  stable : ∀ w w' : World, (∀ g, blk g → w'.heap[g]? = w.heap[g]?) → ok w → ok w'

/-- The variables stand as they were laid, and may not turn. -/
def TabOk [Tabs] (w0 : World) (Fp : Nat → Prop) : Prop := Tabs.ok w0 ∧ ∀ g, Tabs.blk g → g < w0.heap.size ∧ ¬ Fp g

/-- The frame and the world tell the state. -/
structure Rel [Tabs] (w0 : World) (F0 : Nat → Nat) (Fp : Nat → Prop) (X : Nat → Nat → Value) (G : Gh) (w : World) (a : Act) (σ : AS) : Prop where
  sz : a.tmps.size = σ.n
  df : a.defers = []
  tm : ∀ i, VR G w (a.tmps.getD i undef) (σ.t i)
  hd : ∀ j i, VR G w (X j i) (σ.hd j i)
  mm : Mem w0 F0 Fp G w σ.m
  tb : TabOk w0 Fp
end Go.Rw
end

-- RwSem
section
namespace Go.Rw
open Go

/-- What a computation that asks nothing of the world answers. -/
def calm (P : Program) {α : Type} : Sem α → Option α
  | .pure a => some a
  | .program k => calm P (k P)
  | _ => none

theorem calm_run {P : Program} {α : Type} {s : Sem α} {a : α} (w : World) (h : calm P s = some a) : s.run P w = .ok a w := by
  induction s with
  | pure b => simp only [calm, Option.some.injEq] at h; subst h; rfl
  | program k ih => simp only [calm] at h; simp only [Sem.run]; exact ih P h
  | _ => simp [calm] at h

theorem calm_bind {P : Program} {α β : Type} (s : Sem α) (f : α → Sem β) : calm P (s >>= f) = (calm P s).bind fun a => calm P (f a) := by
  show calm P (s.bind f) = _
  induction s with
  | pure b => rfl
  | program k ih => simp only [calm, Sem.bind]; exact ih P
  | _ => rfl

@[simp] theorem calm_pure {P : Program} {α : Type} (a : α) : calm P (pure a : Sem α) = some a := rfl
@[simp] theorem calm_program {P : Program} : calm P program = some P := rfl
def ofV1 : Value → AV
  | .slice none 0 0 => .sl 1 0 []
  | x => .v x
def ofV : Value → AV
  | .slice none 0 0 => .sl 1 0 []
  | .agg arr => .agg (arr.toList.map ofV1)
  | x => .v x

theorem ofV1_ok (G : Gh) (w : World) (x : Value) : VR G w x (ofV1 x) := by
  unfold ofV1; split
  · exact .nil _
  · exact .v _
theorem ofV_ok (G : Gh) (w : World) (x : Value) : VR G w x (ofV x) := by
  unfold ofV; split
  · exact .nil _
  · refine .agg _ _ (by simp) fun k hk => ?_
    simp at hk
    simp only [Array.getD_eq_getD_getElem?, List.getD_eq_getElem?_getD, List.getElem?_map, Array.getElem?_toList]
    rw [Array.getElem?_eq_getElem hk]
    simpa using ofV1_ok _ _ _
  · exact .v _

inductive TK where
  | st (fs : List (Nat × Nat))
  | arr (n e : Nat)
  | slc (e : Nat)
  | int (k : IntKind)
  | str
  | other
  deriving Inhabited
structure TI where
  size : Nat
  bytes : Nat
  zero : Option Value
  kind : TK
  hints : List Nat
  deriving Inhabited
/-- Of each cell of a type: if it is a slice, the cells of its elements. -/
def hintsOf (P : Program) : Nat → TypeId → List Nat
  | 0, _ => []
  | d + 1, t => match P.underlying t with
    | some (.struct fs) => fs.toList.flatMap fun f => hintsOf P d f.type
    | some (.array n e) => (List.replicate n (hintsOf P d e)).flatten
    | some (.slice e) => [P.cellsOf e]
    | _ => [0]
def tkOf (P : Program) : TypeDesc → TK
  | .struct fs => .st (fs.toList.map fun f => (f.offset, P.cellsOf f.type))
  | .array n e => .arr n e
  | .slice e => .slc e
  | .int k => .int k
  | .string => .str
  | _ => .other
def tiOf (P : Program) (t : TypeId) : Option TI :=
  match P.info? t, P.underlying t with
  | some i, some d => some { size := i.size, bytes := i.bytes, zero := i.zero, kind := tkOf P d, hints := hintsOf P 6 t }
  | _, _ => none

theorem tiOf_some {P : Program} {t : TypeId} {ti : TI} (h : tiOf P t = some ti) : ∃ i d, P.info? t = some i ∧ P.underlying t = some d ∧ i.size = ti.size ∧ i.bytes = ti.bytes ∧ i.zero = ti.zero ∧ tkOf P d = ti.kind := by
  unfold tiOf at h
  split at h
  · rename_i i d hi hd
    simp only [Option.some.injEq] at h
    subst h
    exact ⟨i, d, hi, hd, rfl, rfl, rfl, rfl⟩
  · cases h

def TK.isAgg : TK → Bool
  | .st _ => true
  | .arr _ _ => true
  | _ => false

theorem isAgg_run {P : Program} {t : TypeId} {ti : TI} (h : tiOf P t = some ti) (w : World) : (isAgg t).run P w = .ok ti.kind.isAgg w := by
  obtain ⟨i, d, hi, hd, _, _, _, hk⟩ := tiOf_some h
  rw [← hk]
  simp only [isAgg, Sem.run_bind, run_underlying hd, Result.andThen_ok]
  cases d <;> rfl
theorem sizeOf_run {P : Program} {t : TypeId} {ti : TI} (h : tiOf P t = some ti) (w : World) : (sizeOf t).run P w = .ok ti.size w := by
  obtain ⟨i, d, hi, hd, hs, _, _, hk⟩ := tiOf_some h
  simp [sizeOf, typeInfo, hi, hs]
theorem zero_run {P : Program} {t : TypeId} {ti : TI} {z : Value} (h : tiOf P t = some ti) (hz : ti.zero = some z) (w : World) : (zeroValue t).run P w = .ok z w := by
  obtain ⟨i, d, hi, hd, hs, _, hzz, hk⟩ := tiOf_some h
  simp [zeroValue, typeInfo, hi, hzz, hz]
theorem und_slc {P : Program} {t : TypeId} {ti : TI} {e : Nat} (h : tiOf P t = some ti) (hk : ti.kind = .slc e) : P.underlying t = some (.slice e) := by
  obtain ⟨i, d, hi, hd, _, _, _, hk'⟩ := tiOf_some h
  rw [hk] at hk'
  rw [hd]
  cases d <;> simp [tkOf] at hk'
  rw [hk']
theorem und_str {P : Program} {t : TypeId} {ti : TI} (h : tiOf P t = some ti) (hk : ti.kind = .str) : P.underlying t = some .string := by
  obtain ⟨i, d, hi, hd, _, _, _, hk'⟩ := tiOf_some h
  rw [hk] at hk'
  rw [hd]
  cases d <;> simp [tkOf] at hk' ⊢
theorem und_int {P : Program} {t : TypeId} {ti : TI} {k : IntKind} (h : tiOf P t = some ti) (hk : ti.kind = .int k) : P.underlying t = some (.int k) := by
  obtain ⟨i, d, hi, hd, _, _, _, hk'⟩ := tiOf_some h
  rw [hk] at hk'
  rw [hd]
  cases d <;> simp [tkOf] at hk'
  rw [hk']
theorem und_arr {P : Program} {t : TypeId} {ti : TI} {n e : Nat} (h : tiOf P t = some ti) (hk : ti.kind = .arr n e) : P.underlying t = some (.array n e) := by
  obtain ⟨i, d, hi, hd, _, _, _, hk'⟩ := tiOf_some h
  rw [hk] at hk'
  rw [hd]
  cases d <;> simp [tkOf] at hk'
  rw [hk'.1, hk'.2]
theorem und_st {P : Program} {t : TypeId} {ti : TI} {fs : List (Nat × Nat)} (h : tiOf P t = some ti) (hk : ti.kind = .st fs) : ∃ fa : Array Field, P.underlying t = some (.struct fa) ∧ fs = fa.toList.map fun f => (f.offset, P.cellsOf f.type) := by
  obtain ⟨i, d, hi, hd, _, _, _, hk'⟩ := tiOf_some h
  rw [hk] at hk'
  cases d <;> simp [tkOf] at hk'
  exact ⟨_, hd, hk'.symm⟩

/-- A constant: of nil slices the cells of an element are told by the type. -/
def ofVh (hs : List Nat) : Value → AV
  | .slice none 0 0 => .sl 1 (hs.headD 0) []
  | .agg arr => .agg (arr.toList.zipIdx.map fun p => match p.1 with | .slice none 0 0 => .sl 1 (hs.getD p.2 0) [] | x => .v x)
  | x => .v x
theorem ofVh_ok (hs : List Nat) (G : Gh) (w : World) (x : Value) : VR G w x (ofVh hs x) := by
  unfold ofVh; split
  · exact .nil _
  · refine .agg _ _ (by simp) fun k hk => ?_
    simp at hk
    simp only [Array.getD_eq_getD_getElem?, List.getD_eq_getElem?_getD, List.getElem?_map, List.getElem?_zipIdx, Array.getElem?_toList]
    rw [Array.getElem?_eq_getElem hk]
    simp only [Option.map_some, Option.getD_some]
    split
    · rename_i he; rw [he]; exact .nil _
    · exact .v _
  · exact .v _
def hintsT (P : Program) (t : TypeId) : List Nat := match tiOf P t with | some ti => ti.hints | none => []
/-- Operands. -/
def ev (σ : AS) : Operand → AV
  | .tmp t => σ.t t
  | .const x => ofV x
  | .global g => .v (.pointer (some ⟨g, 0, none⟩))
  | .func f => .fn f []

theorem ev_ok [Tabs] {w0 : World} {F0 : Nat → Nat} {Fp : Nat → Prop} {X : Nat → Nat → Value} {G : Gh} {w : World} {a : Act} {σ : AS} (h : Rel w0 F0 Fp X G w a σ) (x : Operand) : VR G w (a.eval x) (ev σ x) := by
  cases x with
  | tmp t => exact h.tm t
  | const x => exact ofV_ok _ _ _
  | global g => exact .v _
  | func f => exact .fn f #[] [] rfl (fun k hk => by simp at hk)

theorem VR.v_inv {G : Gh} {w : World} {x y : Value} (h : VR G w x (.v y)) : x = y := by cases h; rfl

/-- An operand whose type is known. -/
def evT (P : Program) (t : TypeId) (σ : AS) (x : Operand) : AV := match x with | .const c => ofVh (hintsT P t) c | x => ev σ x
theorem evT_ok {P : Program} {t : TypeId} [Tabs] {w0 : World} {F0 : Nat → Nat} {Fp : Nat → Prop} {X : Nat → Nat → Value} {G : Gh} {w : World} {a : Act} {σ : AS} (h : Rel w0 F0 Fp X G w a σ) (x : Operand) : VR G w (a.eval x) (evT P t σ x) := by
  cases x with
  | const c => exact ofVh_ok _ _ _ _
  | _ => exact ev_ok h _

def res (P : Program) (s : Sem Value) : Option AV := (calm P s).map .v

/-- Every cell that is there reads so there, too. -/
def Ext (w w' : World) : Prop := ∀ ad u, w.cell? ad = some u → w'.cell? ad = some u
theorem Ext.refl (w : World) : Ext w w := fun _ _ h => h

theorem res_ok {P : Program} {s : Sem Value} {a : AV} (G : Gh) (w : World) (h : res P s = some a) : ∃ x, (∀ w', s.run P w' = .ok x w') ∧ VR G w x a := by
  unfold res at h
  cases hc : calm P s with
  | none => simp [hc] at h
  | some x =>
    simp only [hc, Option.map_some, Option.some.injEq] at h
    subst h
    exact ⟨x, fun w' => calm_run w' hc, .v _⟩

def pickA (t : Bool) (a b : AV) : AV :=
  match a, b with
  | .v (.bool x), .v (.bool y) => .v (.bool (bif t then x else y))
  | a, b => if t then a else b
theorem pickA_ok {G : Gh} {w : World} {t : Bool} {x y : Value} {a b : AV} (hx : VR G w x a) (hy : VR G w y b) : VR G w (if t then x else y) (pickA t a b) := by
  have key : pickA t a b = (if t then a else b) := by
    unfold pickA
    cases t <;> simp <;> split <;> rfl
  rw [key]
  cases t <;> simpa

/-- A variable of type t read out of cells, from place k on. -/
def loadA (P : Program) (t : TypeId) (cs : List AV) (k : Nat) : Option AV :=
  match tiOf P t with
  | some ti => bif ti.kind.isAgg then (if k + ti.size ≤ cs.length then some (.agg ((cs.drop k).take ti.size)) else none) else cs[k]?
  | none => none

/-- Cells that read so. -/
def CellsAt (G : Gh) (w : World) (g off : Nat) (cs : List AV) : Prop :=
  ∀ k, k < cs.length → ∃ u, w.cell? ⟨g, off + k, none⟩ = some u ∧ VR G w u (cs.getD k .any)

theorem addr_add (g off j : Nat) : (⟨g, off, none⟩ : Addr).add j = ⟨g, off + j, none⟩ := by
  unfold Addr.add; split <;> simp_all

theorem load_ok {P : Program} {G : Gh} {w : World} {t : TypeId} {cs : List AV} {k g off : Nat} {a : AV} (h : loadA P t cs k = some a) (hc : CellsAt G w g off cs) :
    ∃ x, (∀ w', Ext w w' → (Instr.loadAt t (.pointer (some ⟨g, off + k, none⟩))).run P w' = .ok x w') ∧ VR G w x a := by
  unfold loadA at h
  cases hti : tiOf P t with
  | none => simp [hti] at h
  | some ti =>
    simp only [hti] at h
    cases hagg : ti.kind.isAgg with
    | true =>
      simp only [hagg, cond_true] at h
      split at h
      · rename_i hle
        simp only [Option.some.injEq] at h
        subst h
        have hcell : ∀ j, ∃ u, j < ti.size → w.cell? ((⟨g, off + k, none⟩ : Addr).add j) = some u ∧ VR G w u (((cs.drop k).take ti.size).getD j .any) := by
          intro j
          by_cases hj : j < ti.size
          · obtain ⟨u, h1, h2⟩ := hc (k + j) (by omega)
            refine ⟨u, fun _ => ⟨by rw [addr_add, Nat.add_assoc]; exact h1, ?_⟩⟩
            simpa [List.getD_eq_getElem?_getD, List.getElem?_take, hj, List.getElem?_drop] using h2
          · exact ⟨default, fun h => absurd h hj⟩
        obtain ⟨us, hus⟩ := Classical.axiomOfChoice hcell
        refine ⟨_, fun w' hx => by
          have hl := run_loadCells (P := P) w' (⟨g, off + k, none⟩ : Addr) ti.size us (fun j hj => hx _ _ (hus j hj).1)
          simp only [Instr.loadAt, Instr.sureAddr, loadVar, Sem.run_bind, Sem.run_pure, Result.andThen_ok, isAgg_run hti, hagg, Sem.run_ite, if_true, sizeOf_run hti, hl]; rfl, ?_⟩
        refine .agg _ _ (by simp; omega) fun j hj => ?_
        have hj' : j < ti.size := by simp at hj; omega
        have := (hus j hj').2
        simpa [Array.getD_eq_getD_getElem?, hj'] using this
      · cases h
    | false =>
      simp only [hagg, cond_false] at h
      have hk : k < cs.length := by
        rcases Nat.lt_or_ge k cs.length with h' | h'
        · exact h'
        · simp [List.getElem?_eq_none h'] at h
      obtain ⟨u, h1, h2⟩ := hc k hk
      refine ⟨u, fun w' hx => ?_, ?_⟩
      · have h1' := hx _ _ h1
        simp only [Instr.loadAt, Instr.sureAddr, loadVar, Sem.run_bind, Sem.run_pure, Result.andThen_ok, isAgg_run hti, hagg, Sem.run_ite, run_load, h1']
        simp
      · rw [List.getD_eq_getElem?_getD, h] at h2
        exact h2

theorem flat_getD {sz : Nat} : ∀ {xs : List AV} {i j : Nat}, (∀ x ∈ xs, x.cells.length = sz) → j < sz → (flat xs).getD (i * sz + j) .any = match xs[i]? with | some x => x.cells.getD j .any | none => .any
  | [], i, j, _, _ => by simp [flat]
  | x :: xs, 0, j, h, hj => by
    have h2 := h x (List.mem_cons_self ..)
    simp only [flat, List.flatMap_cons, Nat.zero_mul, Nat.zero_add, List.getElem?_cons_zero]
    simp only [List.getD_eq_getElem?_getD]
    rw [List.getElem?_append_left (by omega)]
  | x :: xs, i + 1, j, h, hj => by
    have h2 := h x (List.mem_cons_self ..)
    have h1 := flat_getD (xs := xs) (i := i) (fun y hy => h y (List.mem_cons_of_mem _ hy)) hj
    simp only [flat, List.flatMap_cons, List.getElem?_cons_succ] at h1 ⊢
    rw [← h1]
    simp only [List.getD_eq_getElem?_getD]
    rw [List.getElem?_append_right (by rw [h2, Nat.add_mul]; omega)]
    congr 2
    rw [h2, Nat.add_mul]; omega

/-- Where a pointer points to, and what it reads there. -/
theorem VR.ptr_cells [Tabs] {w0 : World} {F0 : Nat → Nat} {Fp : Nat → Prop} {X : Nat → Nat → Value} {G : Gh} {w : World} {a : Act} {σ : AS} (h : Rel w0 F0 Fp X G w a σ) {x : Value} {o k : Nat} {cs : List AV} (hx : VR G w x (.ptr o k)) (ho : σ.m.h o = some (.cells cs)) :
    x = .pointer (some ⟨G.ob o, 0 + k, none⟩) ∧ CellsAt G w (G.ob o) 0 cs := by
  cases hx
  refine ⟨by simp, ?_⟩
  have := (h.mm.obj o _ ho).2
  cases this with
  | cells _ arr e hh hs hc =>
    intro j hj
    refine ⟨arr.getD j default, ?_, hc j hj⟩
    simp only [World.cell?, hh, Nat.zero_add, Option.isSome_none, Bool.false_eq_true, if_false]
    rw [Array.getElem?_eq_getElem (by omega), Array.getD_eq_getD_getElem?, Array.getElem?_eq_getElem (by omega)]
    rfl

theorem VR.ep_cells {G : Gh} {w : World} {x : Value} {l sz : Nat} {xs : List AV} {i j : Nat} (hx : VR G w x (.ep l sz xs i j)) :
    ∃ g off y, x = .pointer (some ⟨g, off + j, none⟩) ∧ xs[i]? = some y ∧ y.cells.length = sz ∧ CellsAt G w g off y.cells := by
  cases hx with
  | ep _ _ _ _ _ g off us hl hlive hA hi hj hsz h0 hcell h =>
    have hy := (hsz _ (List.getElem_mem hi)).1
    refine ⟨g, off + i * sz, xs[i], by rw [Nat.add_assoc], List.getElem?_eq_getElem hi, hy, fun k hk => ?_⟩
    have hlt : i * sz + k < xs.length * sz := by
      have : (i + 1) * sz ≤ xs.length * sz := Nat.mul_le_mul_right _ hi
      rw [Nat.add_mul] at this; omega
    refine ⟨us (i * sz + k), by rw [Nat.add_assoc]; exact (hcell _ hlt).1, ?_⟩
    have h2 := h _ hlt
    rw [flat_getD (fun x hx => (hsz x hx).1) (by omega), List.getElem?_eq_getElem hi] at h2
    exact h2
end Go.Rw
end

-- RwPop
section
namespace Go.Rw
open Go

def slcOf (P : Program) (t : TypeId) : Option (Nat × Nat) :=   -- a slice type's element type, and its cells
  match tiOf P t with
  | some { kind := .slc e, .. } => match tiOf P e with | some i => some (e, i.size) | none => none
  | _ => none
def arrOf (P : Program) (t : TypeId) : Option (Nat × Nat) :=   -- an array type's length, and its element's cells
  match tiOf P t with
  | some { kind := .arr n e, .. } => match tiOf P e with | some i => some (n, i.size) | none => none
  | _ => none
def fieldOf (P : Program) (t : TypeId) (i : Nat) : Option (Nat × Nat) :=   -- a field's place and size
  match tiOf P t with
  | some { kind := .st fs, .. } => fs[i]?
  | _ => none

def bytesOf : List AV → Option (List UInt8)
  | [] => some []
  | .v (.int .u8 n) :: r => (bytesOf r).map (UInt8.ofNat n.toNat :: ·)
  | _ => none
def optV (σ : AS) : Option Operand → Option (Option Value)
  | none => some none
  | some x => match ev σ x with | .v y => some (some y) | _ => none

def sliceA (lo hi : Option Value) (n : Nat) : Option (Nat × Nat) :=
  let h : Option Int := match hi with | none => some n | some (.int _ y) => some y | _ => none
  let l : Option Int := match lo with | none => some 0 | some (.int _ y) => some y | _ => none
  match l, h with
  | some l, some h => if 0 ≤ l ∧ l ≤ h ∧ h ≤ n then some (l.toNat, h.toNat) else none
  | _, _ => none

def argV (σ : AS) (xs : Array Operand) : Option (List Value) := xs.toList.mapM fun x => match ev σ x with | .v y => some y | _ => none

def lenA (P : Program) (t : TypeId) (a : AV) (args : Array TypeId) (ty : TypeId) : Option AV :=
  match a with
  | .sl _ _ xs => match slcOf P t with | some _ => some (.v (.int .i64 xs.length)) | none => none
  | .v x => res P (Builtin.len_ args ty #[x])
  | _ => none

/-- Fields of plain values that are held against each other. -/
def eqCells : List AV → List AV → Option Bool
  | [], [] => some true
  | .v (.int k a) :: r, .v (.int k' b) :: r' => if k = k' then (eqCells r r').map fun t => (a == b) && t else none
  | .v (.bool a) :: r, .v (.bool b) :: r' => (eqCells r r').map fun t => (a == b) && t
  | .v (.string a) :: r, .v (.string b) :: r' => (eqCells r r').map fun t => (a == b) && t
  | _, _ => none

def pop (P : Program) (σ : AS) (o : Oper) : Option AV :=
  match o.op with
  | .move x | .assign x => some (evT P o.type σ x)
  | .pick c a b => match ev σ c with | .v (.bool t) => some (pickA t (ev σ a) (ev σ b)) | _ => none
  | .binOp op t x y _ => match ev σ x, ev σ y with
    | .v a, .v b => res P (do eqGuard op t x y a b; binOp op t a b)
    | _, _ => none
  | .unOp op _ x => match ev σ x with | .v a => res P (Op.unary op a) | _ => none
  | .convert s d x => match ev σ x with | .v a => res P (convert s d a) | _ => none
  | .extract x i => match ev σ x with | .tup cs => cs[i]? | _ => none
  | .fieldAddr t x i => match ev σ x, fieldOf P t i with
    | .ptr o k, some (off, s) => if 0 < s then some (.ptr o (k + off)) else none
    | .ep l sz xs i j, some (off, s) => if 0 < s ∧ j + off < sz then some (.ep l sz xs i (j + off)) else none
    | _, _ => none
  | .indexAddr t x i => match ev σ x, ev σ i, slcOf P t, arrOf P t with
    | .sl l sz xs, .v (.int _ n), some (_, s), _ => if 0 ≤ n ∧ n < xs.length ∧ sz = s then some (.ep l sz xs n.toNat 0) else none
    | .ptr o k, .v (.int _ n), _, some (m, s) => if 0 ≤ n ∧ n < m then some (.ptr o (k + n.toNat * s)) else none
    | _, _, _, _ => none
  | .index t x i => match ev σ x, ev σ i with
    | .v a, .v b => res P (Instr.index t a b)
    | .agg cs, .v (.int _ n) => match tiOf P t with
      | some { kind := .arr len e, .. } => match tiOf P e with
        | some ie => if 0 ≤ n ∧ n < len then loadA P e cs (n.toNat * ie.size) else none
        | none => none
      | _ => none
    | _, _ => none
  | .load t x => match ev σ x with
    | .ptr o k => match σ.m.h o with | some (.cells cs) => loadA P t cs k | _ => none
    | .ep _ _ xs i j => loadA P t (xs.getD i .any).cells j
    | _ => none
  | .slice t x lo hi mx => match ev σ x, optV σ lo, optV σ hi, mx with
    | .v a, some l, some h, none => res P (Instr.sliceAt t a l h none)
    | .sl l sz xs, some lo, some hi, none => match slcOf P t, sliceA lo hi xs.length with
      | some (_, s), some (i, j) => if sz = s ∨ xs = [] then some (if i = 0 ∧ j = xs.length then .sl l sz xs else .sl l sz ((xs.drop i).take (j - i))) else none
      | _, _ => none
    | _, _, _, _ => none
  | .nilCheck x => match ev σ x with | .ptr o k => some (.ptr o k) | .ep l sz xs i j => some (.ep l sz xs i j) | _ => none
  | .call { callee := .builtin b, args, argTypes } => match b with
    | .len => match args.toList, argTypes.toList with | [x], [t] => lenA P t (ev σ x) argTypes o.type | _, _ => none
    | .min => match argV σ args with | some vs => res P (Builtin.min_ argTypes o.type vs.toArray) | none => none
    | .max => match argV σ args with | some vs => res P (Builtin.max_ argTypes o.type vs.toArray) | none => none
    | .real => match argV σ args with | some vs => res P (Builtin.real_ argTypes o.type vs.toArray) | none => none
    | .imag => match argV σ args with | some vs => res P (Builtin.imag_ argTypes o.type vs.toArray) | none => none
    | .complex => match argV σ args with | some vs => res P (Builtin.complex_ argTypes o.type vs.toArray) | none => none
    | _ => none
  | _ => none
end Go.Rw
end

-- RwPopOk
section
namespace Go.Rw
open Go
set_option linter.unusedSimpArgs false
set_option linter.unusedVariables false

section
variable {P : Program} [Tabs] {w0 : World} {F0 : Nat → Nat} {Fp : Nat → Prop} {X : Nat → Nat → Value} {G : Gh} {w : World} {a : Act} {σ : AS}

theorem ev_v (h : Rel w0 F0 Fp X G w a σ) {x : Operand} {v : Value} (hx : ev σ x = .v v) : a.eval x = v := by
  have := ev_ok h x; rw [hx] at this; exact this.v_inv

theorem mapM_v (h : Rel w0 F0 Fp X G w a σ) : ∀ {xs : List Operand} {vs : List Value}, (xs.mapM fun x => match ev σ x with | .v y => some y | _ => none) = some vs → xs.map a.eval = vs
  | [], vs, e => by simp at e; subst e; rfl
  | x :: xs, vs, e => by
    simp only [List.mapM_cons, Option.bind_eq_bind] at e
    cases hx : ev σ x with
    | v y =>
      rw [hx] at e
      simp only [Option.bind_some] at e
      cases hr : (xs.mapM fun x => match ev σ x with | .v y => some y | _ => none) with
      | none => simp [hr] at e
      | some r =>
        simp [hr] at e
        subst e
        simp [ev_v h hx, mapM_v h hr]
    | _ => simp [hx] at e

theorem argV_ok (h : Rel w0 F0 Fp X G w a σ) {xs : Array Operand} {vs : List Value} (e : argV σ xs = some vs) : xs.map a.eval = vs.toArray := by
  have := mapM_v h e
  rw [← this]; cases xs; simp

theorem optV_ok (h : Rel w0 F0 Fp X G w a σ) {x : Option Operand} {v : Option Value} (e : optV σ x = some v) : x.map a.eval = v := by
  unfold optV at e
  split at e
  · simp at e; subst e; rfl
  · rename_i y
    split at e
    · rename_i hx
      simp at e; subst e
      simp [ev_v h hx]
    · cases e

omit [Tabs] in
theorem slcOf_some {t : TypeId} {e s : Nat} (h : slcOf P t = some (e, s)) : P.underlying t = some (.slice e) ∧ ∃ ie, tiOf P e = some ie ∧ ie.size = s := by
  unfold slcOf at h
  split at h
  · rename_i e' _ hti
    split at h
    · rename_i i hi
      simp at h
      obtain ⟨rfl, rfl⟩ := h
      exact ⟨und_slc hti rfl, i, hi, rfl⟩
    · cases h
  · cases h

omit [Tabs] in
theorem fieldOf_some {t : TypeId} {i off s : Nat} (h : fieldOf P t i = some (off, s)) : ∃ fa f, P.underlying t = some (.struct fa) ∧ fa[i]? = some f ∧ f.offset = off ∧ P.cellsOf f.type = s := by
  unfold fieldOf at h
  split at h
  · rename_i fs hti
    obtain ⟨fa, hu, rfl⟩ := und_st hti rfl
    simp only [List.getElem?_map, Array.getElem?_toList] at h
    cases hf : fa[i]? with
    | none => simp [hf] at h
    | some f =>
      simp [hf] at h
      exact ⟨fa, f, hu, hf, h.1, h.2⟩
  · cases h

omit [Tabs] in
theorem field_run {t : TypeId} {i off s : Nat} (h : fieldOf P t i = some (off, s)) (hs : 0 < s) (ad : Addr) : (Instr.fieldAt t (.pointer (some ad)) i).run P w = .ok (.pointer (some (ad.add off))) w := by
  obtain ⟨fa, f, hu, hf, hoff, hsz⟩ := fieldOf_some h
  have hss : (sizeOf f.type).run P w = .ok s w := by
    unfold Program.cellsOf at hsz
    cases hi : P.info? f.type with
    | none => simp [hi] at hsz; omega
    | some ti => simp [hi] at hsz; simp [sizeOf, typeInfo, hi, hsz]
  simp only [Instr.fieldAt, Sem.run_bind, run_underlying hu, Result.andThen_ok, hf, Instr.sureAddr, Sem.run_pure, fieldPlace, hss]
  rw [if_neg (by omega)]
  simp [hoff]

omit [Tabs] in
theorem index_run {t : TypeId} {e s : Nat} (h : slcOf P t = some (e, s)) {k : IntKind} {n : Int} {ad : Addr} {len cap : Nat} (h0 : 0 ≤ n) (h1 : n < len) :
    (Instr.indexAt t (.slice (some ad) len cap) (.int k n)).run P w = .ok (.pointer (some (ad.add (n.toNat * s)))) w := by
  obtain ⟨hu, ie, hi, hs⟩ := slcOf_some h
  simp only [Instr.indexAt, asIntOf, Sem.run_bind, Sem.run_pure, Result.andThen_ok, run_underlying hu, sizeOf_run hi, hs]
  simp [h0, h1, sizeOf_run hi, hs]

omit [Tabs] in
theorem arrOf_some {t : TypeId} {n s : Nat} (h : arrOf P t = some (n, s)) : ∃ e, P.underlying t = some (.array n e) ∧ ∃ ie, tiOf P e = some ie ∧ ie.size = s := by
  unfold arrOf at h
  split at h
  · rename_i n' e' _ hti
    split at h
    · rename_i i hi
      simp at h
      obtain ⟨rfl, rfl⟩ := h
      exact ⟨e', und_arr hti rfl, i, hi, rfl⟩
    · cases h
  · cases h
omit [Tabs] in
theorem indexP_run {t : TypeId} {m s : Nat} (h : arrOf P t = some (m, s)) {k : IntKind} {n : Int} {ad : Addr} (h0 : 0 ≤ n) (h1 : n < m) :
    (Instr.indexAt t (.pointer (some ad)) (.int k n)).run P w = .ok (.pointer (some (ad.add (n.toNat * s)))) w := by
  obtain ⟨e, hu, ie, hi, hs⟩ := arrOf_some h
  simp only [Instr.indexAt, asIntOf, Sem.run_bind, Sem.run_pure, Result.andThen_ok, run_underlying hu, Instr.sureAddr, sizeOf_run hi, hs]
  simp [h0, h1, sizeOf_run hi, hs]

omit [Tabs] in
theorem bounds_run {lo hi : Option Value} {n cap i j : Nat} (hc : n ≤ cap) (h : sliceA lo hi n = some (i, j)) : (Instr.sliceBounds true n cap lo hi none).run P w = .ok (i, j, cap) w ∧ i ≤ j ∧ j ≤ n := by
  unfold sliceA at h
  have hB : ∀ (v : Value) (y : Nat) (c : BoundsCode) (q : Int), (match v with | .int _ z => some z | _ => none) = some q → 0 ≤ q → q ≤ y → (Instr.sliceBound v y c).run P w = .ok q.toNat w := by
    intro v y c q hv h0 h1
    cases v <;> simp at hv
    subst hv
    exact run_sliceBound (P := P) w _ _ _ _ h0 h1
  cases hi with
  | none =>
    cases lo with
    | none =>
      simp only at h
      split at h
      · simp at h; obtain ⟨rfl, rfl⟩ := h
        exact ⟨by simp [Instr.sliceBounds], by omega, by omega⟩
      · cases h
    | some v =>
      cases v <;> simp only at h <;> try (cases h; done)
      rename_i k q
      split at h
      · rename_i hq
        simp at h; obtain ⟨rfl, rfl⟩ := h
        refine ⟨?_, by omega, by omega⟩
        simp [Instr.sliceBounds, hB (.int k q) n .sliceB q rfl (by omega) (by omega)]
      · cases h
  | some u =>
    cases u <;> simp only at h <;> try (cases lo <;> simp at h; done)
    all_goals first
      | (rename_i k' q'
         cases lo with
         | none =>
           simp only at h
           split at h
           · rename_i hq
             simp at h; obtain ⟨rfl, rfl⟩ := h
             refine ⟨?_, by omega, by omega⟩
             simp [Instr.sliceBounds, hB (.int k' q') cap .sliceAcap q' rfl (by omega) (by omega)]
           · cases h
         | some v =>
           cases v <;> simp only at h <;> try (cases h; done)
           rename_i k q
           split at h
           · rename_i hq
             simp at h; obtain ⟨rfl, rfl⟩ := h
             refine ⟨?_, by omega, by omega⟩
             simp [Instr.sliceBounds, hB (.int k' q') cap .sliceAcap q' rfl (by omega) (by omega), hB (.int k q) q'.toNat .sliceB q rfl (by omega) (by omega)]
           · cases h)
      | (exfalso; cases lo with | none => simp at h | some v => cases v <;> simp at h)

theorem pop_ok (h : Rel w0 F0 Fp X G w a σ) {o : Oper} {b : AV} (hp : pop P σ o = some b) : ∃ x, (∀ w', Ext w w' → (execOp a.eval o).run P w' = .ok (.value x) w') ∧ VR G w x b := by
  unfold pop at hp
  split at hp
  · rename_i x ho   -- move
    simp only [Option.some.injEq] at hp; subst hp
    exact ⟨_, fun w' hext => by simp only [execOp, ho, Sem.run_pure], evT_ok h x⟩
  · rename_i x ho   -- assign
    simp only [Option.some.injEq] at hp; subst hp
    exact ⟨_, fun w' hext => by simp only [execOp, ho, Sem.run_pure], evT_ok h x⟩
  · rename_i c x y ho   -- pick
    split at hp
    · rename_i t hc
      simp only [Option.some.injEq] at hp; subst hp
      exact ⟨_, fun w' hext => by simp only [execOp, ho, ev_v h hc, asBool, Sem.run_bind, Sem.run_pure, Result.andThen_ok], pickA_ok (ev_ok h x) (ev_ok h y)⟩
    · cases hp
  · rename_i op t x y yt ho   -- binOp
    split at hp
    · rename_i u v hx hy
      obtain ⟨z, hz, hr⟩ := res_ok G w hp
      refine ⟨z, fun w' hext => ?_, hr⟩
      have hz' := hz w'
      simp only [Sem.run_bind] at hz'
      simp only [execOp, ho, ev_v h hx, ev_v h hy, Sem.run_bind, hz', Result.andThen_ok, Sem.run_pure]
    · cases hp
  · rename_i op t x ho   -- unOp
    split at hp
    · rename_i u hx
      obtain ⟨z, hz, hr⟩ := res_ok G w hp
      exact ⟨z, fun w' hext => by simp only [execOp, ho, ev_v h hx, Sem.run_bind, hz, Result.andThen_ok, Sem.run_pure], hr⟩
    · cases hp
  · rename_i s d x ho   -- convert
    split at hp
    · rename_i u hx
      obtain ⟨z, hz, hr⟩ := res_ok G w hp
      exact ⟨z, fun w' hext => by simp only [execOp, ho, ev_v h hx, Sem.run_bind, hz, Result.andThen_ok, Sem.run_pure], hr⟩
    · cases hp
  · rename_i x i ho   -- extract
    split at hp
    · rename_i cs hx
      have h1 := ev_ok h x
      rw [hx] at h1
      generalize hz : a.eval x = z at h1
      cases h1 with
      | tup arr _ hs hc =>
        have hi : i < cs.length := by
          rcases Nat.lt_or_ge i cs.length with h' | h'
          · exact h'
          · simp [List.getElem?_eq_none h'] at hp
        have hk := hc i hi
        rw [List.getD_eq_getElem?_getD, hp] at hk
        refine ⟨arr.getD i default, fun w' hext => ?_, hk⟩
        have hg : arr[i]? = some (arr.getD i default) := by rw [Array.getD_eq_getD_getElem?, Array.getElem?_eq_getElem (by omega)]; rfl
        simp only [execOp, ho, hz, Instr.extract, hg, Sem.run_bind, Sem.run_pure, Result.andThen_ok]
    · cases hp
  · rename_i t x i ho   -- fieldAddr
    split at hp
    · rename_i ob k off s hx hf
      split at hp
      · rename_i hs
        simp only [Option.some.injEq] at hp; subst hp
        have h1 := ev_ok h x
        rw [hx] at h1
        generalize hz : a.eval x = z at h1
        cases h1 with
        | ptr _ _ hlt =>
          refine ⟨_, fun w' hext => by simp only [execOp, ho, hz, field_run hf hs, Sem.run_bind, Result.andThen_ok, Sem.run_pure]; rfl, ?_⟩
          rw [addr_add]
          exact .ptr _ _ hlt
      · cases hp
    · rename_i l sz xs ii j off s hx hf
      split at hp
      · rename_i hs
        simp only [Option.some.injEq] at hp; subst hp
        have h1 := ev_ok h x
        rw [hx] at h1
        generalize hz : a.eval x = z at h1
        cases h1 with
        | ep _ _ _ _ _ g off' us hl hlive hA hi hj hsz h0 hcell hh =>
          refine ⟨_, fun w' hext => by simp only [execOp, ho, hz, field_run hf hs.1, Sem.run_bind, Result.andThen_ok, Sem.run_pure]; rfl, ?_⟩
          rw [addr_add, Nat.add_assoc, Nat.add_assoc]
          exact .ep l sz xs ii (j + off) g off' us hl hlive hA hi hs.2 hsz h0 hcell hh
      · cases hp
    · cases hp
  · rename_i t x i ho   -- indexAddr
    split at hp
    · rename_i l sz xs k n e s hx hi hs
      split at hp
      · rename_i hc
        obtain ⟨h0, h1, rfl⟩ := hc
        simp only [Option.some.injEq] at hp; subst hp
        have hv := ev_ok h x
        rw [hx] at hv
        generalize hz : a.eval x = z at hv
        have hne : xs ≠ [] := by rintro rfl; simp at h1; omega
        cases hv with
        | nil => exact absurd rfl hne
        | sl A cap _ _ _ g off us hl h1' hcap hlive hA hsz h0' hcell hh =>
          obtain ⟨rfl, hlin, hfr⟩ := hA hne
          refine ⟨_, fun w' hext => by simp only [execOp, ho, hz, ev_v h hi, index_run hs h0 h1, Sem.run_bind, Result.andThen_ok, Sem.run_pure]; rfl, ?_⟩
          rw [addr_add]
          refine .ep l sz xs n.toNat 0 g off us hl ?_ ⟨hlin, hfr⟩ (by omega) (h0' hne) hsz (h0' hne) hcell hh
          intro n' e' hn'
          obtain ⟨h2, h3⟩ := hlive n' e' hn'
          refine ⟨h2, fun h4 => ?_⟩
          obtain ⟨h5, h6⟩ := h3 h4
          have hlo := h.mm.live l n' e' hn'
          rcases hlo.2.2.2 with ⟨h7, _⟩ | ⟨g', off', cap', cur, h7, _⟩
          · exfalso; have := List.length_pos_iff.2 hne; omega
          · rw [h7] at h5
            simp only [Prod.mk.injEq, Option.some.injEq, Addr.mk.injEq] at h5
            obtain ⟨⟨rfl, rfl, _⟩, _⟩ := h5
            rw [h7]
            exact ⟨rfl, h6⟩
      · cases hp
    · rename_i ob k kk n m s _ hx hi ha
      split at hp
      · rename_i hs
        simp only [Option.some.injEq] at hp; subst hp
        have h1 := ev_ok h x
        rw [hx] at h1
        generalize hz : a.eval x = z at h1
        cases h1 with
        | ptr _ _ hlt =>
          refine ⟨_, fun w' hext => by simp only [execOp, ho, hz, ev_v h hi, indexP_run ha hs.1 hs.2, Sem.run_bind, Result.andThen_ok, Sem.run_pure]; rfl, ?_⟩
          rw [addr_add]
          exact .ptr _ _ hlt
      · cases hp
    · cases hp
  · rename_i t x i ho   -- index
    split at hp
    · rename_i u v hx hi
      obtain ⟨z, hz, hr⟩ := res_ok G w hp
      exact ⟨z, fun w' hext => by simp only [execOp, ho, ev_v h hx, ev_v h hi, Sem.run_bind, hz, Result.andThen_ok, Sem.run_pure], hr⟩
    · rename_i cs k n hx hi
      split at hp
      · rename_i len e hti
        split at hp
        · rename_i ie hie
          split at hp
          · rename_i hn
            have hu := und_arr hti rfl
            have hv := ev_ok h x
            rw [hx] at hv
            generalize hz : a.eval x = z at hv
            cases hv with
            | agg arr _ hs hc =>
              unfold loadA at hp
              rw [hie] at hp
              simp only at hp
              cases hagg : ie.kind.isAgg with
              | true =>
                simp only [hagg, cond_true] at hp
                split at hp
                · rename_i hle
                  simp only [Option.some.injEq] at hp; subst hp
                  refine ⟨.agg (arr.extract (n.toNat * ie.size) (n.toNat * ie.size + ie.size)), fun w' hext => ?_, ?_⟩
                  · simp [execOp, ho, hz, ev_v h hi, Instr.index, asIntOf, run_underlying hu, hn, sizeOf_run hie, part, isAgg_run hie, hagg]
                  · refine .agg _ _ (by simp; omega) fun j hj => ?_
                    have hj' : j < ie.size := by simp at hj; omega
                    have := hc (n.toNat * ie.size + j) (by omega)
                    have e1 : (arr.extract (n.toNat * ie.size) (n.toNat * ie.size + ie.size)).getD j default = arr.getD (n.toNat * ie.size + j) default := by
                      simp only [Array.getD_eq_getD_getElem?]
                      rw [Array.getElem?_extract, if_pos (by omega)]
                    rw [e1]
                    simpa [List.getD_eq_getElem?_getD, List.getElem?_take, hj', List.getElem?_drop] using this
                · cases hp
              | false =>
                simp only [hagg, cond_false] at hp
                have hk : n.toNat * ie.size < cs.length := by
                  rcases Nat.lt_or_ge (n.toNat * ie.size) cs.length with h' | h'
                  · exact h'
                  · simp [List.getElem?_eq_none h'] at hp
                have := hc _ hk
                rw [List.getD_eq_getElem?_getD, hp] at this
                refine ⟨_, fun w' hext => ?_, this⟩
                have hg : arr[n.toNat * ie.size]? = some (arr.getD (n.toNat * ie.size) default) := by rw [Array.getD_eq_getD_getElem?, Array.getElem?_eq_getElem (by omega)]; rfl
                simp only [execOp, ho, hz, ev_v h hi, Instr.index, asIntOf, Sem.run_bind, Sem.run_pure, Result.andThen_ok, run_underlying hu]
                rw [if_pos hn]
                simp only [Sem.run_bind, sizeOf_run hie, Result.andThen_ok, part, isAgg_run hie, hagg, hg]
                simp [Sem.run_pure]
          · cases hp
        · cases hp
      · cases hp
    · cases hp
  · rename_i t x ho   -- load
    split at hp
    · rename_i ob k hx
      split at hp
      · rename_i cs hob
        have hv := ev_ok h x
        rw [hx] at hv
        obtain ⟨e1, hc⟩ := VR.ptr_cells h hv hob
        obtain ⟨y, hy, hr⟩ := load_ok hp hc
        refine ⟨y, fun w' hext => ?_, hr⟩
        simp only [execOp, ho, e1, Sem.run_bind, hy w' hext, Result.andThen_ok, Sem.run_pure]
      · cases hp
    · rename_i l sz xs i j hx
      have hv := ev_ok h x
      rw [hx] at hv
      obtain ⟨g, off, y', e1, hy', hsz, hc⟩ := VR.ep_cells hv
      rw [List.getD_eq_getElem?_getD, hy'] at hp
      obtain ⟨z, hz, hr⟩ := load_ok hp hc
      refine ⟨z, fun w' hext => ?_, hr⟩
      simp only [execOp, ho, e1, Sem.run_bind, hz w' hext, Result.andThen_ok, Sem.run_pure]
    · cases hp
  · rename_i t x lo hi mx ho   -- slice
    split at hp
    · rename_i u l hh hx hl hhi
      obtain ⟨z, hz, hr⟩ := res_ok G w hp
      refine ⟨z, fun w' hext => ?_, hr⟩
      simp only [execOp, ho, ev_v h hx, optV_ok h hl, optV_ok h hhi, Option.map_none, Sem.run_bind, hz, Result.andThen_ok, Sem.run_pure]
    · rename_i l sz xs lo' hi' hx hl hhi
      split at hp
      · rename_i e s i j hs hsl
        split at hp
        · rename_i hszs
          obtain ⟨hu, ie, hie, rfl⟩ := slcOf_some hs
          have hv := ev_ok h x
          rw [hx] at hv
          generalize hz : a.eval x = z at hv
          have hb : ∀ (A : Option Addr) (cap : Nat), xs.length ≤ cap → (∀ w', (Instr.sliceAt t (.slice A xs.length cap) lo' hi' none).run P w' = .ok (.slice (if cap = i then A else A.map (·.add (i * ie.size))) (j - i) (cap - i)) w') ∧ i ≤ j ∧ j ≤ xs.length := by
            intro A cap hcap
            obtain ⟨h1, h2, h3⟩ := bounds_run (P := P) (w := w) hcap hsl
            refine ⟨fun w' => ?_, h2, h3⟩
            have h1 := (bounds_run (P := P) (w := w') hcap hsl).1
            simp [Instr.sliceAt, run_underlying hu, Instr.slice, h1, sizeOf_run hie]
          cases hv with
          | nil _ =>
            obtain ⟨hr, h1, h2⟩ := hb none 0 (by simp)
            simp only [List.length_nil] at h2
            obtain rfl : j = 0 := by omega
            obtain rfl : i = 0 := by omega
            simp only [List.length_nil, and_self, if_true, Option.some.injEq] at hp; subst hp
            refine ⟨_, fun w' hext => by have hr := hr w'; simp only [execOp, ho, hz, optV_ok h hl, optV_ok h hhi, Option.map_none, Sem.run_bind, hr, Result.andThen_ok, Sem.run_pure, List.length_nil] at hr ⊢; rw [hr]; rfl, ?_⟩
            exact .nil _
          | sl A cap _ _ _ g off us hlt h1' hcap hlive hA hsz h0' hcell hh =>
            obtain ⟨hr, h1, h2⟩ := hb A cap hcap
            refine ⟨_, fun w' hext => by simp only [execOp, ho, hz, optV_ok h hl, optV_ok h hhi, Option.map_none, Sem.run_bind, hr, Result.andThen_ok, Sem.run_pure]; rfl, ?_⟩
            by_cases hall : i = 0 ∧ j = xs.length
            · rw [if_pos hall] at hp
              simp only [Option.some.injEq] at hp; subst hp
              obtain ⟨rfl, rfl⟩ := hall
              have e1 : (if cap = 0 then A else A.map (·.add (0 * ie.size))) = A := by
                split
                · rfl
                · cases A <;> simp [Addr.add]
              rw [e1, Nat.sub_zero, Nat.sub_zero]
              exact .sl A cap l sz xs g off us hlt h1' hcap hlive hA hsz h0' hcell hh
            · rw [if_neg hall] at hp
              simp only [Option.some.injEq] at hp; subst hp
              have hlen : ((xs.drop i).take (j - i)).length = j - i := by simp; omega
              have hsub : ∀ y ∈ (xs.drop i).take (j - i), y ∈ xs := fun y hy => List.mem_of_mem_drop (List.mem_of_mem_take hy)
              have hflat : ∀ k, k < (j - i) * sz → (flat ((xs.drop i).take (j - i))).getD k .any = (flat xs).getD (i * sz + k) .any := by
                intro k hk
                have h0s : 0 < sz := by rcases Nat.eq_zero_or_pos sz with h5 | h5; rw [h5] at hk; omega; exact h5
                have hq : k / sz < j - i := by rw [Nat.div_lt_iff_lt_mul h0s]; exact hk
                have hm : k % sz < sz := Nat.mod_lt _ h0s
                have e1 : k = (k / sz) * sz + k % sz := by rw [Nat.mul_comm]; exact (Nat.div_add_mod k sz).symm
                rw [e1, flat_getD (fun y hy => (hsz y (hsub y hy)).1) hm]
                rw [show i * sz + (k / sz * sz + k % sz) = (i + k / sz) * sz + k % sz by rw [Nat.add_mul]; omega, flat_getD (fun y hy => (hsz y hy).1) hm]
                rw [List.getElem?_take, if_pos hq, List.getElem?_drop]
              suffices hfin : VR G w (.slice (if cap = i then A else A.map (·.add (i * ie.size))) ((xs.drop i).take (j - i)).length (cap - i)) (.sl l sz ((xs.drop i).take (j - i))) by
                rw [hlen] at hfin; exact hfin
              refine .sl _ (cap - i) l sz _ g (off + i * sz) (fun k => us (i * sz + k)) hlt h1' (by rw [hlen]; omega) ?_ ?_ (fun y hy => hsz y (hsub y hy)) (fun hne => h0' (by rintro rfl; simp at hne)) ?_ ?_
              · intro n e hn
                obtain ⟨h3, h4⟩ := hlive n e hn
                rw [hlen]
                exact ⟨by omega, fun h5 => absurd (by omega) hall⟩
              · intro hne
                have hpos : 0 < j - i := by rw [← hlen]; exact List.length_pos_iff.2 hne
                have hxs : xs ≠ [] := by rintro rfl; simp at h2; omega
                obtain ⟨rfl, hlin, hfr⟩ := hA hxs
                have hs2 : ie.size = sz := by rcases hszs with h5 | h5; exact h5.symm; exact absurd h5 hxs
                rw [if_neg (show ¬ cap = i by omega)]
                refine ⟨by simp [addr_add, hs2], hlin, ?_⟩
                rw [hlen]
                have : i * sz + (j - i) * sz ≤ xs.length * sz := by rw [← Nat.add_mul]; exact Nat.mul_le_mul_right _ (by omega)
                omega
              · intro k hk
                rw [hlen] at hk
                have : i * sz + (j - i) * sz ≤ xs.length * sz := by rw [← Nat.add_mul]; exact Nat.mul_le_mul_right _ (by omega)
                rw [Nat.add_assoc]
                exact hcell _ (by omega)
              · intro k hk
                rw [hlen] at hk
                have : i * sz + (j - i) * sz ≤ xs.length * sz := by rw [← Nat.add_mul]; exact Nat.mul_le_mul_right _ (by omega)
                rw [hflat k hk]
                exact hh _ (by omega)
        · cases hp
      · cases hp
    · cases hp
  · rename_i x ho   -- nilCheck
    split at hp
    · rename_i ob k hx
      simp only [Option.some.injEq] at hp; subst hp
      have hv := ev_ok h x
      rw [hx] at hv
      generalize hz : a.eval x = z at hv
      cases hv with
      | ptr _ _ hlt => exact ⟨_, fun w' hext => by simp only [execOp, ho, hz, Sem.run_bind, Sem.run_pure, Result.andThen_ok], .ptr _ _ hlt⟩
    · rename_i l sz xs i j hx
      simp only [Option.some.injEq] at hp; subst hp
      have hv := ev_ok h x
      rw [hx] at hv
      generalize hz : a.eval x = z at hv
      have hv2 := hv
      cases hv with
      | ep => exact ⟨_, fun w' hext => by simp only [execOp, ho, hz, Sem.run_bind, Sem.run_pure, Result.andThen_ok], hv2⟩
    · cases hp
  · rename_i b args argTypes ho   -- builtins
    have key : ∀ (vs : List Value) (s : Sem Value), argV σ args = some vs → ∀ bb, res P s = some bb → (∀ (W : World), (execOp a.eval o).run P W = (s.run P W).andThen fun x w' => .ok (.value x) w') → ∃ x, (∀ w', Ext w w' → (execOp a.eval o).run P w' = .ok (.value x) w') ∧ VR G w x bb := by
      intro vs s _ bb hb hrun
      obtain ⟨z, hz, hr⟩ := res_ok G w hb
      exact ⟨z, fun w' _ => by rw [hrun, hz]; rfl, hr⟩
    split at hp
    · split at hp   -- len
      · rename_i x t hax hat
        have e1 : args = #[x] := by cases args; simp_all
        have e2 : argTypes = #[t] := by cases argTypes; simp_all
        subst e1; subst e2
        unfold lenA at hp
        split at hp
        · rename_i l sz xs hx
          split at hp
          · rename_i es hs
            simp only [Option.some.injEq] at hp; subst hp
            obtain ⟨hu, _⟩ := slcOf_some (e := es.1) (s := es.2) hs
            have hv := ev_ok h x
            rw [hx] at hv
            generalize hz : a.eval x = z at hv
            cases hv with
            | nil _ => exact ⟨_, fun w' hext => by simp [execOp, ho, resolve, invoke, builtin, Builtin.len_, run_underlying hu, hz, goInt], .v _⟩
            | sl A cap _ _ _ g off us hl h1' hcap hlive hA hsz h0' hcell hh => exact ⟨_, fun w' hext => by simp [execOp, ho, resolve, invoke, builtin, Builtin.len_, run_underlying hu, hz, goInt], .v _⟩
          · cases hp
        · rename_i u hx
          obtain ⟨z, hz, hr⟩ := res_ok G w hp
          refine ⟨z, fun w' hext => ?_, hr⟩
          simp only [execOp, ho, resolve, Sem.run_bind, Sem.run_pure, Result.andThen_ok, invoke, builtin, List.map_toArray, List.map_cons, List.map_nil, ev_v h hx, hz]
        · cases hp
      · cases hp
    all_goals first
      | (split at hp
         · rename_i vs hvs
           refine key vs _ hvs _ hp fun W => ?_
           simp only [execOp, ho, resolve, Sem.run_bind, Sem.run_pure, Result.andThen_ok, invoke, builtin, argV_ok h hvs]
         · cases hp)
      | cases hp
  · cases hp
end
end Go.Rw
end

-- RwTurnDef
section
namespace Go.Rw
open Go Go.RowKit
set_option linter.unusedVariables false

/-- One block alone has turned. -/
structure Only (w w' : World) (g : Nat) : Prop where
  os : w'.os = w.os
  tape : w'.tape = w.tape
  output : w'.output = w.output
  size : w'.heap.size = w.heap.size
  block : ∀ k, k ≠ g → w'.heap[k]? = w.heap[k]?

def FnOk (P : Program) (f : FuncId) : Prop := ∃ fn, P.funcs[f]? = some fn ∧ (fn.name == "runtime.NumGoroutine") = false ∧ fn.body.isNone = false

/-- A row of numbers. -/
def ints (k : IntKind) (l : List Int) : List AV := l.map fun x => .v (.int k x)
mutual
/-- A value behind a turn of the lineage l's n elements to zs. -/
def AV.turn (fm : Nat → Nat) (l n : Nat) (zs : List AV) : AV → AV
  | .sl l' sz ys => if fm l' = fm l then (if l' = l ∧ ys.length = n then .sl l' sz zs else .any) else .sl l' sz ys
  | .ep l' sz ys i j => if fm l' = fm l then (if l' = l ∧ ys.length = n then .ep l' sz zs i j else .any) else .ep l' sz ys i j
  | .agg cs => .agg (AV.turnL fm l n zs cs)
  | .tup cs => .tup (AV.turnL fm l n zs cs)
  | .fn f cs => .fn f (AV.turnL fm l n zs cs)
  | .any => .any
  | .v x => .v x
  | .ptr o k => .ptr o k
  | .mp o => .mp o
def AV.turnL (fm : Nat → Nat) (l n : Nat) (zs : List AV) : List AV → List AV
  | [] => []
  | a :: r => a.turn fm l n zs :: AV.turnL fm l n zs r
end
def AO.turn (fm : Nat → Nat) (l n : Nat) (zs : List AV) : AO → AO
  | .cells cs => .cells (AV.turnL fm l n zs cs)
  | .iter s p => .iter s p
  | .map es c => .map es c
  | .mit o i e l' => .mit o i e l'
def AM.turned (m : AM) (l n : Nat) (zs : List AV) : AM := { m with h := fun o => (m.h o).map (AO.turn m.fm l n zs) }
def AS.turned (σ : AS) (l n : Nat) (zs : List AV) : AS := { σ with t := fun i => (σ.t i).turn σ.m.fm l n zs, hd := fun j i => (σ.hd j i).turn σ.m.fm l n zs, m := σ.m.turned l n zs }


/-- A function that turns the numbers of the slice that it is handed to what F says, in place, and answers nothing. -/
structure MutI (P : Program) (f : FuncId) (e : Nat) (k : IntKind) (F : List Int → List Int) : Prop where
  fn : FnOk P f
  len : ∀ l, (F l).length = l.length
  run : ∀ (w : World) (g o cap : Nat) (cur : Array Value) (l : List Int), w.heap[g]? = some (.cells cur e (0, 0)) → cur.size = o + cap → l.length ≤ cap → cap ≤ maxLen → l ≠ [] →
    (∀ j, j < l.length → cur[o + j]? = some (.int k (l.getD j 0))) →
    Calls P f #[.slice (some ⟨g, o, none⟩) l.length cap] w fun ed w' => ed = .returned (.tuple #[]) ∧ Only w w' g ∧ ∃ cur', w'.heap[g]? = some (.cells cur' e (0, 0)) ∧ cur'.size = cur.size ∧ ∀ j, j < l.length → cur'[o + j]? = some (.int k ((F l).getD j 0))
  empty : ∀ (w : World) (A : Option Addr) (cap : Nat), Calls P f #[.slice A 0 cap] w fun ed w' => ed = .returned (.tuple #[]) ∧ Below w.heap.size w w'
end Go.Rw
end
