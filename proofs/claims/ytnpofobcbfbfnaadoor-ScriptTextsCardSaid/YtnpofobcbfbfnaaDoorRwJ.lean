/-
  A loop within a call that is reckoned in place: the frames that wait stay as they are, new objects are let go. Proved over any program. Regions that draw their order, with stores that what is loaded elsewhere is not bound to. Proved over any program. A block that was laid before becomes an object: for regions whose allocs come in any order. Proved over any program. Code with regions that draw their order: stores, calls, new rows, allocs. Proved over any program.
-/
import Derived.Test.YtnpofobcbfbfnaaDoorRwE
set_option linter.unusedSimpArgs false
set_option linter.unusedVariables false
set_option linter.defProp false
set_option linter.unusedSectionVars false

-- RwFn
section
namespace Go.Rw
open Go Go.RowKit
set_option linter.unusedSimpArgs false
set_option linter.unusedVariables false
set_option linter.unusedSectionVars false
section
variable [Tabs] {n : Nat} {t : Nat → AV} {hd : Nat → Nat → AV} {nh nl : Nat} {h h' : Nat → Option AO} {fm : Nat → Nat} {lv : Nat → Option (Nat × Nat)} {mu : Bool}
end
end Go.Rw
end

-- RwWideA
section
namespace Go.Rw
open Go Go.RowKit
set_option linter.unusedSimpArgs false
set_option linter.unusedVariables false
set_option linter.unusedSectionVars false

/-- Whether x may be taken ahead of a store that is not bound to it. -/
def under1 (x : Oper) : Bool := match x.op with
  | .move (.tmp _) => true
  | .assign (.tmp _) => true
  | .fieldAddr _ (.tmp _) _ => true
  | .load _ (.tmp _) => true
  | _ => false
def isAlloc (o : Oper) : Bool := match o.op with
  | .alloc _ => true
  | _ => false
/-- A call of a function's value: it comes behind all that stands ahead of it. -/
def isCall (o : Oper) : Bool := match o.op with
  | .call { callee := .value _, .. } => true
  | _ => false
/-- Whether the j-th operation waits for the i-th one, through others, too. -/
def reach (ops : Array Oper) : Nat → Nat → Nat → Bool
  | 0, _, _ => false
  | f + 1, i, j => match ops[j]? with
    | some y => y.after.any fun e => Region.binds .any e && (e.on == i || reach ops f i e.on)
    | none => false
/-- A new row, or one that grows. -/
def isMk (o : Oper) : Bool := match o.op with
  | .buildSlice .. => true
  | .call { callee := .builtin .append, .. } => true
  | _ => false
/-- One that may be gone on with; a number of 2000 and more in W: the row stays as it is. -/
def isNew (W : List Nat) (i : Nat) (o : Oper) : Bool := isMk o && !W.contains (2000 + i)
/-- Whether all wait for the i-th operation, or it for them. -/
def soloC (ops : Array Oper) (i : Nat) : Bool := (match ops[i]? with | some o => isCall o | none => false) && (List.range ops.size).all fun j => decide (j = i) || (if j < i then reach ops ops.size j i else reach ops ops.size i j)
def memW (W : List Nat) (ops : Array Oper) : Bool := (List.range ops.size).all fun i => (List.range ops.size).all fun j => match ops[i]?, ops[j]? with
  | some x, some y => decide (j ≤ i) || reach ops ops.size i j || (!isStore x && (!isNew W i x || (!isStore y && !isNew W j y)) && (!isStore y || under1 x))
  | _, _ => true
def lexW (W : List Nat) (ops : Array Oper) (Sc : List Nat) : Bool := Region.lexB .any ops && memW W ops && (ops.all fun o => !isAlloc o && o.guard.isNone && (!isStore o || o.dst.isNone)) && Sc.all (soloC ops)

/-- What may be taken ahead of a store, or behind it, told by what it works on. -/
def Under (σ : AS) (W : List Nat) (o : Oper) : Prop := match o.op with
  | .fieldAddr _ x _ => ∃ ob k, ev σ x = .ptr ob k
  | .load _ x => ∃ ob k, ev σ x = .ptr ob k ∧ ob ∉ W
  | _ => True
def stOk (σ : AS) (W : List Nat) (o : Oper) : Prop := match o.op with
  | .store _ x y => match ev σ x with
    | .ptr ob _ => ob ∈ W
    | .ep l _ _ _ _ => ∃ vs, cellsOf (ev σ y) = some vs ∧ AV.tagsL vs = [] ∧ σ.m.fm 0 ≠ σ.m.fm l
    | _ => False
  | _ => False
def underL (a : AV) (W : List Nat) : Prop := ∃ ob k, a = .ptr ob k ∧ ob ∉ W
def underF (a : AV) : Prop := ∃ ob k, a = .ptr ob k
def stOkB (fm : Nat → Nat) (l : Nat) : Option (List AV) → Prop
  | some vs => AV.tagsL vs = [] ∧ fm 0 ≠ fm l
  | none => False
/-- Whether no store behind it may come first. -/
def freeW (ops : Array Oper) (i : Nat) : Bool := (List.range ops.size).all fun j => match ops[j]? with
  | some y => decide (j ≤ i) || reach ops ops.size i j || !isStore y
  | none => true

section
variable {P : Program} [Tabs] {Γ : Env} {ops : Array Oper} {K : AS → Prop} {W : List Nat}

def anyW [Tabs] (P : Program) (Γ : Env) (W Sc : List Nat) (ops : Array Oper) (K : AS → Prop) : Nat → Array Bool → AS → Prop
  | 0, L, σ => Region.ready .any ops L = [] ∧ K σ
  | f + 1, L, σ => (Region.ready .any ops L = [] → K σ) ∧ ∀ i ∈ Region.ready .any ops L, ∃ o, ops[i]? = some o ∧
      ((isStore o = false ∧ isNew W i o = false ∧ ∃ r, (∀ d, o.dst = some d → d < σ.n) ∧ aRes P Γ σ o r ∧ anyW P Γ W Sc ops K f (L.setIfInBounds i true) (σ.putO o.dst r)) ∨
       (isStore o = true ∧ ∃ σ', vcOp P Γ false σ o (fun s => s = σ') ∧ stOk σ W o ∧ anyW P Γ W Sc ops K f (L.setIfInBounds i true) σ') ∨
       (isNew W i o = true ∧ ∃ σ', vcOp P Γ false σ o (fun s => s = σ') ∧ anyW P Γ W Sc ops K f (L.setIfInBounds i true) σ') ∨
       (i ∈ Sc ∧ vcOp P Γ false σ o (anyW P Γ W Sc ops K f (L.setIfInBounds i true))))

theorem aRes_under {σ : AS} {x : Oper} {r : AV} (h : under1 x = true) : aRes P Γ σ x r ↔ popAll P σ x = some r := by
  obtain ⟨dst, op, type, pos, aft, guard⟩ := x
  cases op <;> try (simp [under1] at h; done)
  all_goals exact Iff.rfl
omit [Tabs] in
theorem popAll_h {σ : AS} {m : AM} {o : Oper} (hh : m.h = σ.m.h) : popAll P { σ with m := m } o = popAll P σ o := by
  obtain ⟨dst, op, type, pos, aft, guard⟩ := o
  unfold popAll
  have h2 : pop2 P { σ with m := m } ⟨dst, op, type, pos, aft, guard⟩ = pop2 P σ ⟨dst, op, type, pos, aft, guard⟩ := by
    cases op <;> try rfl
  rw [h2]
  cases op
  case load t x =>
    simp only [pop, ev_mem, hh]
  case call c => rw [pop_call]
  all_goals rfl
omit [Tabs] in
theorem aRes_h {σ : AS} {m : AM} {o : Oper} {r : AV} (hh : m.h = σ.m.h) (h : aRes P Γ σ o r) : aRes P Γ { σ with m := m } o r := by
  unfold aRes at h ⊢
  split at h
  · exact h
  · exact dead_congr (fun p _ => by cases p.2 <;> rfl) h
  · rw [popAll_h hh]; exact h
/-- The memory turned, but for the objects, and what is not bound to it, may change places. -/
theorem turn_comm {σ σ' : AS} {x : Oper} {r v : AV} {dst : Option Nat} {M : AM} (hM : M.h = σ.m.h) (a2 : ∀ d, x.dst = some d → dst ≠ some d) (a3 : ∀ d, dst = some d → d ∉ x.looksAt ops)
    (hy : aRes P Γ σ x r) (hc : cont { σ.putO x.dst r with m := M } dst v (fun s => s = σ')) :
    ∃ σm, cont { σ with m := M } dst v (fun s => s = σm) ∧ σm.n = σ.n ∧ aRes P Γ σm x r ∧ (Under σ W x → under1 x = true → Under σm W x) ∧ σ' = σm.putO x.dst r := by
  have put : ({ σ.putO x.dst r with m := M } : AS) = ({ σ with m := M } : AS).putO x.dst r := by cases x.dst <;> rfl
  have he2 : ∀ z ∈ x.op.operands, ev (({ σ with m := M } : AS).putO dst v) z = ev σ z := fun z hz => (ev_putO fun k hk hxk => a3 k hk (by
    subst hxk
    exact List.mem_append_left _ (List.mem_filterMap.2 ⟨.tmp k, by simpa using hz, rfl⟩))).trans ev_mem
  obtain ⟨e1, e2⟩ := cont_eq hc
  rw [put] at e1 e2
  refine ⟨({ σ with m := M } : AS).putO dst v, cont_of fun k hk => ?_, ?_, ?_, ?_, ?_⟩
  · have := e2 k hk
    rwa [show (AS.putO { σ with m := M } x.dst r).n = σ.n by cases x.dst <;> rfl] at this
  · cases dst <;> rfl
  · have hm2 : ({ σ with m := M } : AS).m = (({ σ with m := M } : AS).putO dst v).m := by cases dst <;> rfl
    refine aRes_congr hm2 (fun q hq => ?_) (aRes_h hM hy)
    exact (ev_mem).trans (he2 q hq).symm
  · intro hu hu1
    obtain ⟨xdst, xop, xtype, xpos, xaft, xguard⟩ := x
    cases xop <;> try (simp [under1] at hu1; done)
    · trivial
    · trivial
    · simp only [Under] at hu ⊢
      rw [he2 _ (by simp [Op.operands])]; exact hu
    · simp only [Under] at hu ⊢
      rw [he2 _ (by simp [Op.operands])]; exact hu
  · rw [e1]
    exact putO_comm _ r _ a2
/-- A new row, and what is not bound to it, may change places. -/
theorem new_comm {σ σ' : AS} {x y : Oper} {r : AV} (hn : isMk y = true) (a1 : ∀ d, x.dst = some d → d ∉ y.looksAt ops) (a2 : ∀ d, x.dst = some d → y.dst ≠ some d) (a3 : ∀ d, y.dst = some d → d ∉ x.looksAt ops)
    (hy : aRes P Γ σ x r) (h : vcOp P Γ false (σ.putO x.dst r) y (fun s => s = σ')) :
    ∃ σm, vcOp P Γ false σ y (fun s => s = σm) ∧ σm.n = σ.n ∧ aRes P Γ σm x r ∧ (Under σ W x → under1 x = true → Under σm W x) ∧ σ' = σm.putO x.dst r := by
  have hmm : (σ.putO x.dst r).m = σ.m := by cases x.dst <;> rfl
  have he : ∀ z ∈ y.op.operands, ev (σ.putO x.dst r) z = ev σ z := fun z hz => ev_putO fun k hk hxk => a1 k hk (by
    subst hxk
    exact List.mem_append_left _ (List.mem_filterMap.2 ⟨.tmp k, by simpa using hz, rfl⟩))
  obtain ⟨dst, op, type, pos, aft, guard⟩ := y
  cases op <;> try (simp [isMk] at hn; done)
  · rename_i t n parts
    obtain ⟨hx0, e, s, z, zs, h1, h2, h3, h4, h5, h6, h7, hc⟩ := h
    have hp : (parts.toList.map fun (p : Nat × Operand) => (p.1, ev (σ.putO x.dst r) p.2)) = parts.toList.map fun (p : Nat × Operand) => (p.1, ev σ p.2) := map_congr' fun q hq => he q (by simpa [Op.operands] using hq)
    have hp2 : (parts.toList.map fun (p : Nat × Operand) => ev (σ.putO x.dst r) p.2) = parts.toList.map fun (p : Nat × Operand) => ev σ p.2 := List.map_congr_left fun q hq => he q.2 (by simp [Op.operands]; exact ⟨q.1, by simpa using hq⟩)
    have hp3 : (parts.toList.map fun (p : Nat × Operand) => (p.1, (ev (σ.putO x.dst r) p.2).er)) = parts.toList.map fun (p : Nat × Operand) => (p.1, (ev σ p.2).er) := List.map_congr_left fun q hq => by rw [he q.2 (by simp [Op.operands]; exact ⟨q.1, by simpa using hq⟩)]
    rw [hp] at h7
    rw [hmm, hp2, hp3] at hc
    obtain ⟨σm, c1, c2⟩ := turn_comm (W := W) (ops := ops) (M := (σ.m.killed (AV.tagsL (parts.toList.map fun (p : Nat × Operand) => ev σ p.2))).newLin n e) rfl a2 a3 hy hc
    exact ⟨σm, ⟨hx0, e, s, z, zs, h1, h2, h3, h4, h5, h6, h7, c1⟩, c2⟩
  · rename_i c
    obtain ⟨callee, args, argTypes⟩ := c
    cases callee <;> try (simp [isMk] at hn; done)
    rename_i b
    cases b <;> try (simp [isMk] at hn; done)
    obtain ⟨hx0, h⟩ := h
    have he3 : ∀ z ∈ args.toList, ev (σ.putO x.dst r) z = ev σ z := fun z hz => he z (by simp [Op.operands, Call.operands]; simpa using hz)
    generalize hal : args.toList = al at *
    generalize htl : argTypes.toList = tl at *
    match al, tl, h, he3, hal, htl with
    | [p, q], [t, t'], h, he3, hal, htl =>
      obtain ⟨h1, e, s, ti, zv, h2, h3, h4, h5, h6, h⟩ := h
      rw [he3 p (by simp), he3 q (by simp)] at h
      have fin : ∀ σm : AS, (match ev σ p, ev σ q with
        | .sl l s1 xs, .sl _ s2 ys => (xs.length + ys.length) * ti.bytes ≤ 140737488355328 ∧ (xs.length + ys.length) ≤ maxLen ∧ (s2 = s ∨ ys = []) ∧
            (if l = 1 then cont { σ with m := σ.m.newLin ys.length e } dst (.sl σ.m.nl s ys) (fun s => s = σm)
             else σ.m.lv l = some (xs.length, e) ∧ s1 = s ∧ cont { σ with m := σ.m.grow l (xs.length + ys.length) e } dst (.sl l s (xs ++ ys)) (fun s => s = σm))
        | _, _ => False) → vcOp P Γ false σ ⟨dst, .call ⟨.builtin .append, args, argTypes⟩, type, pos, aft, guard⟩ (fun s => s = σm) := fun σm hh => by
        refine ⟨rfl, ?_⟩
        rw [hal, htl]
        exact ⟨h1, e, s, ti, zv, h2, h3, h4, h5, h6, hh⟩
      cases hp : ev σ p with
      | sl l s1 xs =>
        cases hq : ev σ q with
        | sl l2 s2 ys =>
          rw [hp, hq] at h fin
          obtain ⟨g1, g2, g3, h⟩ := h
          rw [hmm] at h
          by_cases hl : l = 1
          · rw [if_pos hl] at h
            obtain ⟨σm, c1, c2⟩ := turn_comm (W := W) (ops := ops) (M := σ.m.newLin ys.length e) rfl a2 a3 hy h
            exact ⟨σm, fin σm ⟨g1, g2, g3, by rw [if_pos hl]; exact c1⟩, c2⟩
          · rw [if_neg hl] at h
            obtain ⟨g4, g5, h⟩ := h
            obtain ⟨σm, c1, c2⟩ := turn_comm (W := W) (ops := ops) (M := σ.m.grow l (xs.length + ys.length) e) rfl a2 a3 hy h
            exact ⟨σm, fin σm ⟨g1, g2, g3, by rw [if_neg hl]; exact ⟨g4, g5, c1⟩⟩, c2⟩
        | _ => rw [hp, hq] at h; exact h.elim
      | _ => rw [hp] at h; exact h.elim
    | [], _, h, _, _, _ => exact h.elim
    | [_], _, h, _, _, _ => exact h.elim
    | _ :: _ :: _ :: _, _, h, _, _, _ => exact h.elim
    | [_, _], [], h, _, _, _ => exact h.elim
    | [_, _], [_], h, _, _, _ => exact h.elim
    | [_, _], _ :: _ :: _ :: _, h, _, _, _ => exact h.elim

/-- What is not bound to it may be taken ahead of it. -/
theorem turn_back {σ σ' : AS} {x : Oper} {r v : AV} {dst : Option Nat} {M : AM} (hM : M.h = σ.m.h) (a2 : ∀ d, x.dst = some d → dst ≠ some d) (a3 : ∀ d, dst = some d → d ∉ x.looksAt ops)
    (hc : cont { σ with m := M } dst v (fun s => s = σ')) (hy : aRes P Γ σ' x r) :
    aRes P Γ σ x r ∧ σ'.n = σ.n ∧ cont { σ.putO x.dst r with m := M } dst v (fun s => s = σ'.putO x.dst r) := by
  have put : ({ σ.putO x.dst r with m := M } : AS) = ({ σ with m := M } : AS).putO x.dst r := by cases x.dst <;> rfl
  have he2 : ∀ z ∈ x.op.operands, ev (({ σ with m := M } : AS).putO dst v) z = ev σ z := fun z hz => (ev_putO fun k hk hxk => a3 k hk (by
    subst hxk
    exact List.mem_append_left _ (List.mem_filterMap.2 ⟨.tmp k, by simpa using hz, rfl⟩))).trans ev_mem
  obtain ⟨e1, e2⟩ := cont_eq hc
  have hm2 : (({ σ with m := M } : AS).putO dst v).m = M := by cases dst <;> rfl
  have hn2 : (({ σ with m := M } : AS).putO dst v).n = σ.n := by cases dst <;> rfl
  subst e1
  have h1 : aRes P Γ ({ σ with m := M } : AS) x r := aRes_congr (σ := ({ σ with m := M } : AS).putO dst v) hm2 (fun q hq => (he2 q hq).trans ev_mem.symm) hy
  have h2 : aRes P Γ σ x r := by
    have := aRes_h (m := σ.m) (σ := ({ σ with m := M } : AS)) hM.symm h1
    exact this
  refine ⟨h2, hn2, ?_⟩
  rw [put, ← putO_comm _ r v a2]
  refine cont_of fun k hk => ?_
  have := e2 k hk
  rwa [show (AS.putO { σ with m := M } x.dst r).n = σ.n by cases x.dst <;> rfl]
theorem new_back {σ σ' : AS} {x y : Oper} {r : AV} (hn : isMk y = true) (a1 : ∀ d, x.dst = some d → d ∉ y.looksAt ops) (a2 : ∀ d, x.dst = some d → y.dst ≠ some d) (a3 : ∀ d, y.dst = some d → d ∉ x.looksAt ops)
    (h : vcOp P Γ false σ y (fun s => s = σ')) (hy : aRes P Γ σ' x r) : aRes P Γ σ x r ∧ σ'.n = σ.n ∧ vcOp P Γ false (σ.putO x.dst r) y (fun s => s = σ'.putO x.dst r) := by
  have hmm : (σ.putO x.dst r).m = σ.m := by cases x.dst <;> rfl
  have he : ∀ z ∈ y.op.operands, ev (σ.putO x.dst r) z = ev σ z := fun z hz => ev_putO fun k hk hxk => a1 k hk (by
    subst hxk
    exact List.mem_append_left _ (List.mem_filterMap.2 ⟨.tmp k, by simpa using hz, rfl⟩))
  obtain ⟨dst, op, type, pos, aft, guard⟩ := y
  cases op <;> try (simp [isMk] at hn; done)
  · rename_i t n parts
    obtain ⟨hx0, e, s, z, zs, h1, h2, h3, h4, h5, h6, h7, hc⟩ := h
    have hp : (parts.toList.map fun (p : Nat × Operand) => (p.1, ev (σ.putO x.dst r) p.2)) = parts.toList.map fun (p : Nat × Operand) => (p.1, ev σ p.2) := map_congr' fun q hq => he q (by simpa [Op.operands] using hq)
    have hp2 : (parts.toList.map fun (p : Nat × Operand) => ev (σ.putO x.dst r) p.2) = parts.toList.map fun (p : Nat × Operand) => ev σ p.2 := List.map_congr_left fun q hq => he q.2 (by simp [Op.operands]; exact ⟨q.1, by simpa using hq⟩)
    have hp3 : (parts.toList.map fun (p : Nat × Operand) => (p.1, (ev (σ.putO x.dst r) p.2).er)) = parts.toList.map fun (p : Nat × Operand) => (p.1, (ev σ p.2).er) := List.map_congr_left fun q hq => by rw [he q.2 (by simp [Op.operands]; exact ⟨q.1, by simpa using hq⟩)]
    obtain ⟨c1, c2, c3⟩ := turn_back (ops := ops) (M := (σ.m.killed (AV.tagsL (parts.toList.map fun (p : Nat × Operand) => ev σ p.2))).newLin n e) rfl a2 a3 hc hy
    refine ⟨c1, c2, hx0, e, s, z, zs, h1, h2, h3, h4, h5, h6, by rw [hp]; exact h7, ?_⟩
    rw [hmm, hp2, hp3]
    exact c3
  · rename_i c
    obtain ⟨callee, args, argTypes⟩ := c
    cases callee <;> try (simp [isMk] at hn; done)
    rename_i b
    cases b <;> try (simp [isMk] at hn; done)
    obtain ⟨hx0, h⟩ := h
    have he3 : ∀ z ∈ args.toList, ev (σ.putO x.dst r) z = ev σ z := fun z hz => he z (by simp [Op.operands, Call.operands]; simpa using hz)
    generalize hal : args.toList = al at *
    generalize htl : argTypes.toList = tl at *
    match al, tl, h, he3, hal, htl with
    | [p, q], [t, t'], h, he3, hal, htl =>
      obtain ⟨h1, e, s, ti, zv, h2, h3, h4, h5, h6, h⟩ := h
      have fin : ∀ σm : AS, (match ev σ p, ev σ q with
        | .sl l s1 xs, .sl _ s2 ys => (xs.length + ys.length) * ti.bytes ≤ 140737488355328 ∧ (xs.length + ys.length) ≤ maxLen ∧ (s2 = s ∨ ys = []) ∧
            (if l = 1 then cont { σ.putO x.dst r with m := σ.m.newLin ys.length e } dst (.sl σ.m.nl s ys) (fun s => s = σm)
             else σ.m.lv l = some (xs.length, e) ∧ s1 = s ∧ cont { σ.putO x.dst r with m := σ.m.grow l (xs.length + ys.length) e } dst (.sl l s (xs ++ ys)) (fun s => s = σm))
        | _, _ => False) → vcOp P Γ false (σ.putO x.dst r) ⟨dst, .call ⟨.builtin .append, args, argTypes⟩, type, pos, aft, guard⟩ (fun s => s = σm) := fun σm hh => by
        refine ⟨rfl, ?_⟩
        rw [hal, htl]
        refine ⟨h1, e, s, ti, zv, h2, h3, h4, h5, h6, ?_⟩
        rw [he3 p (by simp), he3 q (by simp), hmm]
        exact hh
      cases hp : ev σ p with
      | sl l s1 xs =>
        cases hq : ev σ q with
        | sl l2 s2 ys =>
          rw [hp, hq] at h fin
          obtain ⟨g1, g2, g3, h⟩ := h
          by_cases hl : l = 1
          · rw [if_pos hl] at h
            obtain ⟨c1, c2, c3⟩ := turn_back (ops := ops) (M := σ.m.newLin ys.length e) rfl a2 a3 h hy
            exact ⟨c1, c2, fin _ ⟨g1, g2, g3, by rw [if_pos hl]; exact c3⟩⟩
          · rw [if_neg hl] at h
            obtain ⟨g4, g5, h⟩ := h
            obtain ⟨c1, c2, c3⟩ := turn_back (ops := ops) (M := σ.m.grow l (xs.length + ys.length) e) rfl a2 a3 h hy
            exact ⟨c1, c2, fin _ ⟨g1, g2, g3, by rw [if_neg hl]; exact ⟨g4, g5, c3⟩⟩⟩
        | _ => rw [hp, hq] at h; exact h.elim
      | _ => rw [hp] at h; exact h.elim
    | [], _, h, _, _, _ => exact h.elim
    | [_], _, h, _, _, _ => exact h.elim
    | _ :: _ :: _ :: _, _, h, _, _, _ => exact h.elim
    | [_, _], [], h, _, _, _ => exact h.elim
    | [_, _], [_], h, _, _, _ => exact h.elim
    | [_, _], _ :: _ :: _ :: _, h, _, _, _ => exact h.elim

omit [Tabs] in
theorem turn_putO {σ : AS} {d : Option Nat} {r : AV} {l n : Nat} {zs : List AV} : (σ.putO d r).turned l n zs = (σ.turned l n zs).putO d (r.turn σ.m.fm l n zs) := by
  cases d with
  | none => rfl
  | some k =>
    simp only [AS.putO, AS.put, AS.turned, AS.mk.injEq, true_and, and_true]
    funext i
    simp only [upd]
    split <;> rfl
omit [Tabs] in
theorem loadA_turn {t : TypeId} {cs : List AV} {k : Nat} {r : AV} {fm : Nat → Nat} {l n : Nat} {zs : List AV} (h : loadA P t cs k = some r) : loadA P t (AV.turnL fm l n zs cs) k = some (r.turn fm l n zs) := by
  unfold loadA at h ⊢
  split at h
  · rename_i ti ht
    rw [turnL_eq]
    cases hb : ti.kind.isAgg with
    | true =>
      rw [hb] at h
      simp only [cond_true, List.length_map] at h ⊢
      split at h
      · rename_i hk
        rw [if_pos hk]
        obtain rfl := Option.some.inj h
        simp only [AV.turn, turnL_eq, List.map_take, List.map_drop]
      · cases h
    | false =>
      rw [hb] at h
      simp only [cond_false, List.getElem?_map] at h ⊢
      rw [h]; rfl
  · cases h
omit [Tabs] in
theorem popAll_move {σ : AS} {dst : Option Nat} {k : Nat} {type : TypeId} {pos : String} {aft : Array Edge} {guard : Option (Nat × Bool)} : popAll P σ ⟨dst, .move (.tmp k), type, pos, aft, guard⟩ = some (σ.t k) := rfl
omit [Tabs] in
theorem popAll_assign {σ : AS} {dst : Option Nat} {k : Nat} {type : TypeId} {pos : String} {aft : Array Edge} {guard : Option (Nat × Bool)} : popAll P σ ⟨dst, .assign (.tmp k), type, pos, aft, guard⟩ = some (σ.t k) := rfl
omit [Tabs] in
theorem tagsL_killed {m : AM} {ts : List Nat} (h : ts = []) : m.killed ts = m := by
  subst h
  simp only [AM.killed]
  have : kill m.fm [] m.lv = m.lv := by funext l; simp [kill]
  rw [this]

/-- A store, and what is not bound to it, may change places. -/
theorem store_comm {σ σ' : AS} {x y : Oper} {r : AV} (hs : isStore y = true) (hd : y.dst = none) (hu1 : under1 x = true) (hu : Under σ W x) (a1 : ∀ d, x.dst = some d → d ∉ y.looksAt ops)
    (hy : popAll P σ x = some r) (h : vcOp P Γ false (σ.putO x.dst r) y (fun s => s = σ')) (hok : stOk (σ.putO x.dst r) W y) :
    ∃ σm r', vcOp P Γ false σ y (fun s => s = σm) ∧ stOk σ W y ∧ σm.n = σ.n ∧ popAll P σm x = some r' ∧ Under σm W x ∧ σ' = σm.putO x.dst r' := by
  have hmm : (σ.putO x.dst r).m = σ.m := by cases x.dst <;> rfl
  have hnn : (σ.putO x.dst r).n = σ.n := by cases x.dst <;> rfl
  have he : ∀ z ∈ y.op.operands, ev (σ.putO x.dst r) z = ev σ z := fun z hz => ev_putO fun k hk hxk => a1 k hk (by
    subst hxk
    exact List.mem_append_left _ (List.mem_filterMap.2 ⟨.tmp k, by simpa using hz, rfl⟩))
  have put : ∀ m : AM, ({ σ.putO x.dst r with m := m } : AS) = ({ σ with m := m } : AS).putO x.dst r := fun m => by cases x.dst <;> rfl
  obtain ⟨dst, op, type, pos, aft, guard⟩ := y
  simp only at hd
  subst hd
  cases op <;> try (simp [isStore] at hs; done)
  rename_i t px py
  have ex := he px (by simp [Op.operands])
  have ey := he py (by simp [Op.operands])
  obtain ⟨hx0, hv⟩ := h
  clear hx0
  simp only [stOk] at hok
  rw [ex] at hv hok
  rw [ey] at hok
  obtain ⟨xdst, xop, xtype, xpos, xaft, xguard⟩ := x
  cases hpx : ev σ px with
  | ptr ob k =>
    rw [hpx] at hv hok
    obtain ⟨ti, cs, vs, h1, h2, h3, h4, h5, hc⟩ := hv
    rw [ey] at h3
    rw [hmm] at h2 hc
    simp only [cont] at hc
    rw [put] at hc
    refine ⟨_, r, ⟨(fun hf => by cases hf), ?_⟩, ?_, ?_, ?_, ?_, hc.symm⟩
    · rw [hpx]; exact ⟨ti, cs, vs, h1, h2, h3, h4, h5, rfl⟩
    · simp only [stOk]; rw [hpx]; exact hok
    · rfl
    · cases xop <;> try (simp [under1] at hu1; done)
      all_goals (rename_i z)
      all_goals (try (exact hy))
      · rename_i tt
        simp only [Under] at hu
        obtain ⟨o', k', e1, e2⟩ := hu
        have hne : o' ≠ ob := fun e => e2 (e ▸ hok)
        simp only [popAll, pop, pop2, ev_mem, e1] at hy ⊢
        rw [show (σ.m.setObj ob (.cells (cs.take k ++ vs ++ cs.drop (k + vs.length)))).h o' = σ.m.h o' from upd_other _ _ hne]
        exact hy
    · cases xop <;> try (simp [under1] at hu1; done)
      all_goals (first | trivial | (simp only [Under, ev_mem] at hu ⊢; exact hu))
  | ep l sz xs i j =>
    rw [hpx] at hv hok
    obtain ⟨ti, e, vs, z, h1, h2, h3, h4, h5, h6, h7, h8, h9, h10, hc⟩ := hv
    obtain ⟨vs', h3', h11, h12⟩ := hok
    rw [ey] at h3
    rw [h3] at h3'
    obtain rfl := Option.some.inj h3'
    rw [hmm] at h8 h9 h10 hc h12
    rw [tagsL_killed h11] at hc
    simp only [cont] at hc
    rw [put, turn_putO] at hc
    refine ⟨_, _, ⟨(fun hf => by cases hf), ?_⟩, ?_, ?_, ?_, ?_, hc.symm⟩
    · rw [hpx]; refine ⟨ti, e, vs, z, h1, h2, h3, h4, h5, h6, h7, h8, h9, h10, ?_⟩
      rw [tagsL_killed h11]; rfl
    · simp only [stOk]; rw [hpx]; exact ⟨vs, h3, h11, h12⟩
    · rfl
    · cases xop <;> try (simp [under1] at hu1; done)
      · rename_i q
        cases q <;> try (simp [under1] at hu1; done)
        rw [popAll_move] at hy ⊢
        obtain rfl := Option.some.inj hy
        rfl
      · rename_i q
        cases q <;> try (simp [under1] at hu1; done)
        rw [popAll_assign] at hy ⊢
        obtain rfl := Option.some.inj hy
        rfl
      · rename_i tt q
        cases q <;> try (simp [under1] at hu1; done)
        simp only [Under] at hu
        obtain ⟨o', k', e1, e2⟩ := hu
        simp only [ev] at e1
        simp only [popAll, pop, pop2, ev, AS.turned, e1, AV.turn, AM.turned, Option.or_none] at hy ⊢
        cases ho : σ.m.h o' with
        | none => rw [ho] at hy; cases hy
        | some ob =>
          rw [ho] at hy
          cases ob with
          | cells cs => exact loadA_turn hy
          | _ => cases hy
      · rename_i tt q ii
        cases q <;> try (simp [under1] at hu1; done)
        simp only [Under] at hu
        obtain ⟨o', k', e1⟩ := hu
        simp only [ev] at e1
        simp only [popAll, pop, pop2, ev, AS.turned, e1, AV.turn, Option.or_none] at hy ⊢
        cases hf : fieldOf P tt ii with
        | none => rw [hf] at hy; cases hy
        | some q =>
          obtain ⟨off, s⟩ := q
          rw [hf] at hy
          simp only at hy ⊢
          split at hy
          · rename_i hs0
            rw [if_pos hs0]
            obtain rfl := Option.some.inj hy
            rfl
          · cases hy
    · cases xop <;> try (simp [under1] at hu1; done)
      · trivial
      · trivial
      · rename_i tt q
        cases q <;> try (simp [under1] at hu1; done)
        simp only [Under, ev] at hu ⊢
        obtain ⟨o', k', e1, e2⟩ := hu
        exact ⟨o', k', by simp only [AS.turned, e1, AV.turn], e2⟩
      · rename_i tt q ii
        cases q <;> try (simp [under1] at hu1; done)
        simp only [Under, ev] at hu ⊢
        obtain ⟨o', k', e1⟩ := hu
        exact ⟨o', k', by simp only [AS.turned, e1, AV.turn]⟩
  | _ => rw [hpx] at hv; exact hv.elim

/-- What waits for what is done waits for what is done. -/
def Dep (ops : Array Oper) (L : Array Bool) (k : Nat) : Prop := ∀ o, ops[k]? = some o → ∀ e ∈ o.after, Region.binds .any e = true → L.getD e.on false = true
def Cl (ops : Array Oper) (L : Array Bool) : Prop := ∀ k, L.getD k false = true → Dep ops L k
omit [Tabs] in
theorem Dep.of_ready {L : Array Bool} {j : Nat} (h : j ∈ Region.ready .any ops L) : Dep ops L j := by
  obtain ⟨_, o, ho, hall⟩ := mem_ready.1 h
  intro o' ho' e he hb
  rw [ho] at ho'
  obtain rfl := Option.some.inj ho'
  exact hall e he hb
omit [Tabs] in
theorem Cl.set {L : Array Bool} (h : Cl ops L) {j : Nat} (hj : j ∈ Region.ready .any ops L) : Cl ops (L.setIfInBounds j true) := by
  intro k hk o ho e he hb
  by_cases hjk : j = k
  · subst hjk; exact getD_set_true (Dep.of_ready hj o ho e he hb)
  · rw [getD_set_ne false hjk] at hk
    exact getD_set_true (h k hk o ho e he hb)
omit [Tabs] in
theorem reach_done {L : Array Bool} (h : Cl ops L) {i : Nat} : ∀ (f j : Nat), Dep ops L j → reach ops f i j = true → L.getD i false = true
  | 0, _, _, hr => by cases hr
  | f + 1, j, hd, hr => by
    unfold reach at hr
    split at hr
    · rename_i y hy
      rw [Array.any_eq_true'] at hr
      obtain ⟨e, he, h2⟩ := hr
      simp only [Bool.and_eq_true, Bool.or_eq_true, beq_iff_eq] at h2
      have h3 := hd y hy e he h2.1
      rcases h2.2 with h4 | h4
      · rw [← h4]; exact h3
      · exact reach_done h f e.on (h e.on h3) h4
    · cases hr
omit [Tabs] in
theorem reach_no {L : Array Bool} (h : Cl ops L) {i j f : Nat} (hj : j ∈ Region.ready .any ops L) (hi : L.getD i true = false) (hr : reach ops f i j = true) : False := by
  have := reach_done h f j (Dep.of_ready hj) hr
  rcases Nat.lt_or_ge i L.size with h' | h'
  · simp [h'] at hi this; rw [hi] at this; cases this
  · simp [Array.getElem?_eq_none h'] at this

/-- What may come up now may be taken first. -/
theorem anyW_first {Sc : List Nat} (hSc : Sc.all (soloC ops) = true) {i : Nat} {oi : Oper} (hi : ops[i]? = some oi) (hns : isStore oi = false) (hnn0 : isNew W i oi = false) (hnc : i ∉ Sc) (hok : ∀ (j : Nat) (oj : Oper), ops[j]? = some oj → isStore oj = true → oj.dst = none) : ∀ (f : Nat) (L : Array Bool) (σ : AS) (r : AV), Cl ops L →
    (∀ j oj, ops[j]? = some oj → j ≠ i → L.getD j true = false → reach ops ops.size i j = false → (∀ e ∈ oj.after, Region.binds .any e = true → e.on ≠ i) → oi.apart ops oj = true ∧ (isStore oj = true → under1 oi = true ∧ Under σ W oi)) →
    i ∈ Region.ready .any ops L → (∀ d, oi.dst = some d → d < σ.n) → aRes P Γ σ oi r → anyW P Γ W Sc ops K f (L.setIfInBounds i true) (σ.putO oi.dst r) → anyW P Γ W Sc ops K (f + 1) L σ := by
  intro f
  induction f with
  | zero =>
    intro L σ r _ _ hr hd hy H
    refine ⟨fun h => (by rw [h] at hr; cases hr), fun j hj => ?_⟩
    by_cases hji : j = i
    · subst hji; exact ⟨oi, hi, .inl ⟨hns, hnn0, r, hd, hy, H⟩⟩
    · have := ready_mono hj hji
      rw [H.1] at this
      cases this
  | succ f ih =>
    intro L σ r hcl hfree hr hd hy H
    refine ⟨fun h => (by rw [h] at hr; cases hr), fun j hj => ?_⟩
    by_cases hji : j = i
    · subst hji; exact ⟨oi, hi, .inl ⟨hns, hnn0, r, hd, hy, H⟩⟩
    · obtain ⟨oj, hoj, hyj⟩ := H.2 j (ready_mono hj hji)
      obtain ⟨hjun, oj', hoj', hall⟩ := mem_ready.1 hj
      rw [hoj] at hoj'
      obtain rfl := Option.some.inj hoj'
      have hiun := (mem_ready.1 hr).1
      have hnot : ∀ e ∈ oj.after, Region.binds .any e = true → e.on ≠ i := fun e he hb heq => by
        have h1 := hall e he hb
        rw [heq] at h1
        rcases Nat.lt_or_ge i L.size with h' | h'
        · simp [h'] at hiun h1; rw [hiun] at h1; cases h1
        · simp [Array.getElem?_eq_none h'] at h1
      have hnr : reach ops ops.size i j = false := by
        cases hre : reach ops ops.size i j with
        | false => rfl
        | true => exact (reach_no hcl hj hiun hre).elim
      obtain ⟨hap, hmo⟩ := hfree j oj hoj hji hjun hnr hnot
      obtain ⟨a1, a2, a3⟩ := Oper.apart_spec hap
      have hun : ∀ {k : Nat}, (L.setIfInBounds j true).getD k true = false → L.getD k true = false := fun {k} hun => by
        by_cases hjk : j = k
        · subst hjk; exact hjun
        · rw [getD_set_ne true hjk] at hun; exact hun
      rcases hyj with ⟨hnj, hcj, rj, hdj, hyj, hK⟩ | ⟨hm, σ', hv, hst, hK⟩ | ⟨hm, σ', hv, hK⟩ | ⟨hm, _⟩
      · have hnn : (σ.putO oi.dst r).n = σ.n := by cases oi.dst <;> rfl
        have hmm : (σ.putO oi.dst r).m = σ.m := by cases oi.dst <;> rfl
        have hnn2 : (σ.putO oj.dst rj).n = σ.n := by cases oj.dst <;> rfl
        have hmm2 : (σ.putO oj.dst rj).m = σ.m := by cases oj.dst <;> rfl
        have he : ∀ z ∈ oj.op.operands, ev (σ.putO oi.dst r) z = ev σ z := fun z hz => ev_putO fun k hk hxk => a1 k hk (by
          subst hxk
          exact List.mem_append_left _ (List.mem_filterMap.2 ⟨.tmp k, by simpa using hz, rfl⟩))
        have he2 : ∀ z ∈ oi.op.operands, ev (σ.putO oj.dst rj) z = ev σ z := fun z hz => ev_putO fun k hk hxk => a3 k hk (by
          subst hxk
          exact List.mem_append_left _ (List.mem_filterMap.2 ⟨.tmp k, by simpa using hz, rfl⟩))
        refine ⟨oj, hoj, .inl ⟨hnj, hcj, rj, fun d h => by rw [← hnn]; exact hdj d h, aRes_congr hmm he hyj, ?_⟩⟩
        refine ih (L.setIfInBounds j true) (σ.putO oj.dst rj) r (hcl.set hj) (fun k ok hk hki hu hre hno => ?_) (ready_mono hr (Ne.symm hji)) (fun d h => by rw [hnn2]; exact hd d h) (aRes_congr hmm2.symm (fun z hz => (he2 z hz).symm) hy) ?_
        · obtain ⟨f1, f3⟩ := hfree k ok hk hki (hun hu) hre hno
          refine ⟨f1, fun hs => ⟨(f3 hs).1, ?_⟩⟩
          obtain ⟨hu1, hu⟩ := f3 hs
          obtain ⟨xdst, xop, xtype, xpos, xaft, xguard⟩ := oi
          cases xop <;> try (simp [under1] at hu1; done)
          · trivial
          · trivial
          · simp only [Under] at hu ⊢
            rw [he2 _ (by simp [Op.operands])]; exact hu
          · simp only [Under] at hu ⊢
            rw [he2 _ (by simp [Op.operands])]; exact hu
        · rw [Array.setIfInBounds_comm _ _ hji, ← putO_comm σ r rj a2]
          exact hK
      · obtain ⟨hu1, hu⟩ := hmo hm
        obtain ⟨σm, r', h1, h2, h3, h4, h5, h6⟩ := store_comm (ops := ops) hm (hok j oj hoj hm) hu1 hu a1 ((aRes_under hu1).1 hy) hv hst
        refine ⟨oj, hoj, .inr (.inl ⟨hm, σm, h1, h2, ?_⟩)⟩
        refine ih (L.setIfInBounds j true) σm r' (hcl.set hj) (fun k ok hk hki hu hre hno => ?_) (ready_mono hr (Ne.symm hji)) (fun d h => by rw [h3]; exact hd d h) ((aRes_under hu1).2 h4) ?_
        · exact ⟨(hfree k ok hk hki (hun hu) hre hno).1, fun _ => ⟨hu1, h5⟩⟩
        · rw [Array.setIfInBounds_comm _ _ hji, ← h6]
          exact hK
      · obtain ⟨σm, h1, h3, h4, h5, h6⟩ := new_comm (W := W) (by simp only [isNew, Bool.and_eq_true] at hm; exact hm.1) a1 a2 a3 hy hv
        refine ⟨oj, hoj, .inr (.inr (.inl ⟨hm, σm, h1, ?_⟩))⟩
        refine ih (L.setIfInBounds j true) σm r (hcl.set hj) (fun k ok hk hki hu hre hno => ?_) (ready_mono hr (Ne.symm hji)) (fun d h => by rw [h3]; exact hd d h) h4 ?_
        · obtain ⟨f1, f3⟩ := hfree k ok hk hki (hun hu) hre hno
          exact ⟨f1, fun hs => ⟨(f3 hs).1, h5 (f3 hs).2 (f3 hs).1⟩⟩
        · rw [Array.setIfInBounds_comm _ _ hji, ← h6]
          exact hK
      · exfalso
        have h1 := List.all_eq_true.1 hSc j hm
        simp only [soloC, Bool.and_eq_true] at h1
        have hil : i < ops.size := (Array.getElem?_eq_some_iff.1 hi).1
        have h2 := List.all_eq_true.1 h1.2 i (by simpa using hil)
        rw [Bool.or_eq_true] at h2
        rcases h2 with h2 | h2
        · exact hji (of_decide_eq_true h2).symm
        · split at h2
          · rw [hnr] at h2; cases h2
          · exact reach_no hcl hr hjun h2
/-- A new row that may come up now may be taken first. -/
theorem anyW_firstN {Sc : List Nat} {i : Nat} {oi : Oper} (hi : ops[i]? = some oi) (hn : isNew W i oi = true) : ∀ (f : Nat) (L : Array Bool) (σ σ' : AS), Cl ops L →
    (∀ j oj, ops[j]? = some oj → j ≠ i → L.getD j true = false → reach ops ops.size i j = false → (∀ e ∈ oj.after, Region.binds .any e = true → e.on ≠ i) → oi.apart ops oj = true ∧ isStore oj = false ∧ isNew W j oj = false ∧ j ∉ Sc) →
    i ∈ Region.ready .any ops L → vcOp P Γ false σ oi (fun s => s = σ') → anyW P Γ W Sc ops K f (L.setIfInBounds i true) σ' → anyW P Γ W Sc ops K (f + 1) L σ := by
  intro f
  induction f with
  | zero =>
    intro L σ σ' _ _ hr hv H
    refine ⟨fun h => (by rw [h] at hr; cases hr), fun j hj => ?_⟩
    by_cases hji : j = i
    · subst hji; exact ⟨oi, hi, .inr (.inr (.inl ⟨hn, σ', hv, H⟩))⟩
    · have := ready_mono hj hji
      rw [H.1] at this
      cases this
  | succ f ih =>
    intro L σ σ' hcl hfree hr hv H
    refine ⟨fun h => (by rw [h] at hr; cases hr), fun j hj => ?_⟩
    by_cases hji : j = i
    · subst hji; exact ⟨oi, hi, .inr (.inr (.inl ⟨hn, σ', hv, H⟩))⟩
    · obtain ⟨oj, hoj, hyj⟩ := H.2 j (ready_mono hj hji)
      obtain ⟨hjun, oj', hoj', hall⟩ := mem_ready.1 hj
      rw [hoj] at hoj'
      obtain rfl := Option.some.inj hoj'
      have hiun := (mem_ready.1 hr).1
      have hnot : ∀ e ∈ oj.after, Region.binds .any e = true → e.on ≠ i := fun e he hb heq => by
        have h1 := hall e he hb
        rw [heq] at h1
        rcases Nat.lt_or_ge i L.size with h' | h'
        · simp [h'] at hiun h1; rw [hiun] at h1; cases h1
        · simp [Array.getElem?_eq_none h'] at h1
      have hnr : reach ops ops.size i j = false := by
        cases hre : reach ops ops.size i j with
        | false => rfl
        | true => exact (reach_no hcl hj hiun hre).elim
      obtain ⟨hap, hsj, hnj, hcj⟩ := hfree j oj hoj hji hjun hnr hnot
      obtain ⟨a1, a2, a3⟩ := Oper.apart_spec hap
      have hun : ∀ {k : Nat}, (L.setIfInBounds j true).getD k true = false → L.getD k true = false := fun {k} hun => by
        by_cases hjk : j = k
        · subst hjk; exact hjun
        · rw [getD_set_ne true hjk] at hun; exact hun
      rcases hyj with ⟨_, _, rj, hdj, hyj, hK⟩ | ⟨hm, _⟩ | ⟨hm, _⟩ | ⟨hm, _⟩
      · obtain ⟨c1, c2, c3⟩ := new_back (ops := ops) (x := oj) (y := oi) (by simp only [isNew, Bool.and_eq_true] at hn; exact hn.1) a3 (fun d h1 h2 => a2 d h2 h1) a1 hv hyj
        refine ⟨oj, hoj, .inl ⟨hsj, hnj, rj, fun d h => by rw [← c2]; exact hdj d h, c1, ?_⟩⟩
        refine ih (L.setIfInBounds j true) (σ.putO oj.dst rj) (σ'.putO oj.dst rj) (hcl.set hj) (fun k ok hk hki hu hre hno => hfree k ok hk hki (hun hu) hre hno) (ready_mono hr (Ne.symm hji)) c3 ?_
        rw [Array.setIfInBounds_comm _ _ hji]
        exact hK
      · rw [hsj] at hm; cases hm
      · rw [hnj] at hm; cases hm
      · exact absurd hm hcj
/-- What stands behind all others that are not done. -/
theorem anyW_alone {Sc : List Nat} {i : Nat} (f : Nat) (L : Array Bool) (σ : AS) (hcl : Cl ops L)
    (halone : ∀ j oj, ops[j]? = some oj → j ≠ i → L.getD j true = false → reach ops ops.size i j = true)
    (hr : i ∈ Region.ready .any ops L) (H : ∃ o, ops[i]? = some o ∧
      ((isStore o = false ∧ isNew W i o = false ∧ ∃ r, (∀ d, o.dst = some d → d < σ.n) ∧ aRes P Γ σ o r ∧ anyW P Γ W Sc ops K f (L.setIfInBounds i true) (σ.putO o.dst r)) ∨
       (isStore o = true ∧ ∃ σ', vcOp P Γ false σ o (fun s => s = σ') ∧ stOk σ W o ∧ anyW P Γ W Sc ops K f (L.setIfInBounds i true) σ') ∨
       (isNew W i o = true ∧ ∃ σ', vcOp P Γ false σ o (fun s => s = σ') ∧ anyW P Γ W Sc ops K f (L.setIfInBounds i true) σ') ∨
       (i ∈ Sc ∧ vcOp P Γ false σ o (anyW P Γ W Sc ops K f (L.setIfInBounds i true))))) : anyW P Γ W Sc ops K (f + 1) L σ := by
  refine ⟨fun h => (by rw [h] at hr; cases hr), fun j hj => ?_⟩
  by_cases hji : j = i
  · subst hji; exact H
  · exfalso
    obtain ⟨hjun, oj, hoj, hall⟩ := mem_ready.1 hj
    exact reach_no hcl hj (mem_ready.1 hr).1 (halone j oj hoj hji hjun)
omit [Tabs] in
theorem memW_spec (h : memW W ops = true) {i j : Nat} {x y : Oper} (hx : ops[i]? = some x) (hy : ops[j]? = some y) (hij : i < j) (hno : reach ops ops.size i j = false) : isStore x = false ∧ (isNew W i x = true → isStore y = false ∧ isNew W j y = false) ∧ (isStore y = true → under1 x = true) := by
  unfold memW at h
  have hil := (Array.getElem?_eq_some_iff.1 hx).1
  have hjl := (Array.getElem?_eq_some_iff.1 hy).1
  have h1 := List.all_eq_true.1 (List.all_eq_true.1 h i (by simpa using hil)) j (by simpa using hjl)
  rw [hx, hy] at h1
  simp only [Bool.or_eq_true, decide_eq_true_eq, Bool.and_eq_true, Bool.not_eq_true'] at h1
  rcases h1 with (h1 | h1) | ⟨⟨h1, h2⟩, h4⟩
  · omega
  · rw [hno] at h1; cases h1
  · refine ⟨h1, fun hn => ?_, fun hs => ?_⟩
    · rcases h2 with h2 | h2
      · rw [hn] at h2; cases h2
      · exact h2
    · rcases h4 with h4 | h4
      · rw [hs] at h4; cases h4
      · exact h4
omit [Tabs] in
theorem freeW_spec {i j : Nat} {y : Oper} (h : freeW ops i = true) (hy : ops[j]? = some y) (hij : i < j) (hno : reach ops ops.size i j = false) : isStore y = false := by
  unfold freeW at h
  have hjl := (Array.getElem?_eq_some_iff.1 hy).1
  have h1 := List.all_eq_true.1 h j (by simpa using hjl)
  rw [hy] at h1
  simp only [Bool.or_eq_true, decide_eq_true_eq, Bool.not_eq_true'] at h1
  rcases h1 with (h1 | h1) | h1
  · omega
  · rw [hno] at h1; cases h1
  · exact h1

variable {σ : AS}
theorem cont_mono {σ : AS} {d : Option Nat} {r : AV} {K K' : AS → Prop} (hK : ∀ σ, K σ → K' σ) (h : cont σ d r K) : cont σ d r K' := by
  cases d with
  | none => exact hK _ h
  | some k => exact ⟨h.1, hK _ h.2⟩
theorem inlQ_mono {rs : List ResultVar} {n : Nat} {d : Option Nat} {K K' : AS → Prop} (hK : ∀ σ, K σ → K' σ) (e : Exit) (σ : AS) (h : inlQ P rs n d K e σ) : inlQ P rs n d K' e σ := by
  have key : (match resL P σ rs with | some bs => cont (σ.leave n) d (oneOf bs) K | none => False) → (match resL P σ rs with | some bs => cont (σ.leave n) d (oneOf bs) K' | none => False) := by
    cases resL P σ rs with
    | none => exact id
    | some bs => exact cont_mono hK
  cases e with
  | normal => exact key h
  | ret => exact key h
  | _ => exact h
theorem call_mono {f : FuncId} {as : List AV} {d : Option Nat} {K K' : AS → Prop} (hK : ∀ σ, K σ → K' σ) (h : vcCall P Γ false σ f as d K) : vcCall P Γ false σ f as d K' := by
  unfold vcCall at h ⊢
  split at h
  · rename_i hg
    rcases h with ⟨h0, h | h | h⟩
    · refine ⟨h0, .inl ?_⟩
      unfold vcMut at h ⊢
      split at h
      · obtain ⟨h1, e, k, F, xs, h2, h3, h4, h5, h6, h7, h8⟩ := h
        exact ⟨h1, e, k, F, xs, h2, h3, h4, h5, h6, fun hx => cont_mono hK (h7 hx), fun hx => cont_mono hK (h8 hx)⟩
      · exact h.elim
    · obtain ⟨fn, c, h1, h2, h3, h4⟩ := h
      exact ⟨h0, .inr (.inl ⟨fn, c, h1, h2, h3, h4.mono fun e σ hq => inlQ_mono hK e σ hq⟩)⟩
    · refine ⟨h0, .inr (.inr ⟨h.1, fun w0 F0 Fp X G w a vs hr hs hv => (h.2 w0 F0 Fp X G w a vs hr hs hv).mono ?_⟩)⟩
      rintro ed w' ⟨v, σ1, r, G', h1, h2, h3, h4⟩
      exact ⟨v, σ1, r, G', h1, h2, h3, cont_mono hK h4⟩
  · obtain ⟨i, h1, h2⟩ := h
    refine ⟨i, h1, ?_⟩
    simp only [Bool.false_eq_true, if_false] at h2 ⊢
    exact ⟨h2.1, fun r hr => cont_mono hK (h2.2 r hr)⟩
theorem op_call_mono {o : Oper} (hc : isCall o = true) {K K' : AS → Prop} (hK : ∀ σ, K σ → K' σ) (h : vcOp P Γ false σ o K) : vcOp P Γ false σ o K' := by
  obtain ⟨dst, op, type, pos, aft, guard⟩ := o
  cases op <;> try (simp [isCall] at hc; done)
  rename_i c
  obtain ⟨callee, args, argTypes⟩ := c
  cases callee <;> try (simp [isCall] at hc; done)
  rename_i f
  obtain ⟨h1, h2⟩ := h
  refine ⟨h1, ?_⟩
  show (match ev σ f with | .fn g caps => vcCall P Γ false σ g ((List.zipWith (fun x t => evT P t σ x) args.toList argTypes.toList) ++ caps) dst K' | _ => False)
  cases hf : ev σ f with
  | fn g caps =>
    simp only [hf] at h2
    exact call_mono hK h2
  | _ => simp only [hf] at h2
theorem op_store_is {o : Oper} (hs : isStore o = true) (hdst : o.dst = none) {K : AS → Prop} (hv : vcOp P Γ false σ o K) : ∃ σ', vcOp P Γ false σ o (fun s => s = σ') ∧ K σ' := by
  obtain ⟨dst, op, type, pos, aft, guard⟩ := o
  simp only at hdst
  subst hdst
  cases op <;> try (simp [isStore] at hs; done)
  rename_i t x y
  obtain ⟨hx0, hv⟩ := hv
  cases hx : ev σ x with
  | ptr ob kk =>
    rw [hx] at hv
    obtain ⟨ti, cs, vs, h1, h2, h3, h4, h5, hc⟩ := hv
    refine ⟨_, ⟨hx0, ?_⟩, hc⟩
    rw [hx]
    exact ⟨ti, cs, vs, h1, h2, h3, h4, h5, rfl⟩
  | ep l sz xs i j =>
    rw [hx] at hv
    obtain ⟨ti, e, vs, z, h1, h2, h3, h4, h5, h6, h7, h8, h9, h10, hc⟩ := hv
    refine ⟨_, ⟨hx0, ?_⟩, hc⟩
    rw [hx]
    exact ⟨ti, e, vs, z, h1, h2, h3, h4, h5, h6, h7, h8, h9, h10, rfl⟩
  | _ => rw [hx] at hv; exact hv.elim
theorem op_new_is {o : Oper} (hn : isMk o = true) {K : AS → Prop} (hv : vcOp P Γ false σ o K) : ∃ σ', vcOp P Γ false σ o (fun s => s = σ') ∧ K σ' := by
  obtain ⟨dst, op, type, pos, aft, guard⟩ := o
  cases op <;> try (simp [isMk] at hn; done)
  · obtain ⟨hx0, e, s, z, zs, h1, h2, h3, h4, h5, h6, h7, hc⟩ := hv
    obtain ⟨σ', c1, c2⟩ := cont_is hc
    exact ⟨σ', ⟨hx0, e, s, z, zs, h1, h2, h3, h4, h5, h6, h7, c1⟩, c2⟩
  · rename_i c
    obtain ⟨callee, args, argTypes⟩ := c
    cases callee <;> try (simp [isMk] at hn; done)
    rename_i b
    cases b <;> try (simp [isMk] at hn; done)
    obtain ⟨hx0, h⟩ := hv
    have fin : ∀ σm : AS, (match args.toList, argTypes.toList with
      | [x, y], [t, t'] => t = t' ∧ ∃ e s ti zv, slcOf P t = some (e, s) ∧ tiOf P e = some ti ∧ ti.zero = some zv ∧ zv.cells.size = s ∧ 0 < s ∧ (match ev σ x, ev σ y with
        | .sl l s1 xs, .sl _ s2 ys => (xs.length + ys.length) * ti.bytes ≤ 140737488355328 ∧ (xs.length + ys.length) ≤ maxLen ∧ (s2 = s ∨ ys = []) ∧
            (if l = 1 then cont { σ with m := σ.m.newLin ys.length e } dst (.sl σ.m.nl s ys) (fun s => s = σm)
             else σ.m.lv l = some (xs.length, e) ∧ s1 = s ∧ cont { σ with m := σ.m.grow l (xs.length + ys.length) e } dst (.sl l s (xs ++ ys)) (fun s => s = σm))
        | _, _ => False)
      | _, _ => False) → vcOp P Γ false σ ⟨dst, .call ⟨.builtin .append, args, argTypes⟩, type, pos, aft, guard⟩ (fun s => s = σm) := fun σm hh => ⟨rfl, hh⟩
    generalize args.toList = al at *
    generalize argTypes.toList = tl at *
    match al, tl, h, fin with
    | [p, q], [t, t'], h, fin =>
      obtain ⟨h1, e, s, ti, zv, h2, h3, h4, h5, h6, h⟩ := h
      cases hp : ev σ p with
      | sl l s1 xs =>
        cases hq : ev σ q with
        | sl l2 s2 ys =>
          simp only [hp, hq] at h fin
          obtain ⟨g1, g2, g3, h⟩ := h
          by_cases hl : l = 1
          · rw [if_pos hl] at h
            obtain ⟨σ', c1, c2⟩ := cont_is h
            exact ⟨σ', fin σ' ⟨h1, e, s, ti, zv, h2, h3, h4, h5, h6, g1, g2, g3, by rw [if_pos hl]; exact c1⟩, c2⟩
          · rw [if_neg hl] at h
            obtain ⟨g4, g5, h⟩ := h
            obtain ⟨σ', c1, c2⟩ := cont_is h
            exact ⟨σ', fin σ' ⟨h1, e, s, ti, zv, h2, h3, h4, h5, h6, g1, g2, g3, by rw [if_neg hl]; exact ⟨g4, g5, c1⟩⟩, c2⟩
        | _ => simp only [hp, hq] at h
      | _ => simp only [hp] at h
    | [], _, h, _ => exact h.elim
    | [_], _, h, _ => exact h.elim
    | _ :: _ :: _ :: _, _, h, _ => exact h.elim
    | [_, _], [], h, _ => exact h.elim
    | [_, _], [_], h, _ => exact h.elim
    | [_, _], _ :: _ :: _ :: _, h, _ => exact h.elim
theorem op_res {o : Oper} (hs : isStore o = false) (ha : isAlloc o = false) {K : AS → Prop} (hv : vcOp P Γ true σ o K) : ∃ r, aRes P Γ σ o r ∧ (∀ d, o.dst = some d → d < σ.n) ∧ K (σ.putO o.dst r) := by
  have dflt : (∃ b, popAll P σ o = some b ∧ cont σ o.dst b K) → (∀ r, popAll P σ o = some r → aRes P Γ σ o r) → ∃ r, aRes P Γ σ o r ∧ (∀ d, o.dst = some d → d < σ.n) ∧ K (σ.putO o.dst r) := by
    rintro ⟨b, hb, hc⟩ hr
    obtain ⟨h1, h2⟩ := cont_putO hc
    exact ⟨b, hr b hb, h1, h2⟩
  unfold vcOp at hv
  split at hv
  · rename_i e ho; simp [isAlloc, ho] at ha
  · exact absurd hv.1 (by simp)
  · rename_i t x y ho; simp [isStore, ho] at hs
  · exact absurd hv.1 (by simp)
  · rename_i t n parts ho
    obtain ⟨r, hr, hc⟩ := hv
    obtain ⟨h1, h2⟩ := cont_putO hc
    exact ⟨r, (by unfold aRes; rw [ho]; exact hr), h1, h2⟩
  · exact absurd hv.1 (by simp)
  · exact absurd hv.1 (by simp)
  · rename_i f args argTypes ho
    obtain ⟨hsz, hv⟩ := hv
    split at hv
    · rename_i g caps hf
      unfold vcCall at hv
      split at hv
      · exact absurd hv.1 (by simp)
      · rename_i C hC
        obtain ⟨i, hi, hv⟩ := hv
        simp only [if_true] at hv
        obtain ⟨hpl, hown, htk, r, hr, hc⟩ := hv
        obtain ⟨h1, h2⟩ := cont_putO hc
        refine ⟨r.er, ?_, h1, h2⟩
        unfold aRes
        rw [ho]
        refine ⟨hsz, ?_⟩
        rw [hf]
        exact ⟨C, hC, i, hi, hpl, hown, htk, r, hr, rfl⟩
    · exact hv.elim
  · exact absurd hv.1 (by simp)
  · rename_i s d x ho
    rcases hv with hv | hv
    · refine dflt hv fun r hr => ?_
      unfold aRes
      rw [ho]; exact hr
    · exact absurd hv.1 (by simp)
  · rename_i op t x y t2 ho
    rcases hv with hv | hv
    · refine dflt hv fun r hr => ?_
      unfold aRes
      rw [ho]; exact hr
    · exact absurd hv.1 (by simp)
  · exact absurd hv.1 (by simp)
  · exact absurd hv.1 (by simp)
  · exact absurd hv.1 (by simp)
  · exact absurd hv.1 (by simp)
  · rename_i hn1 hn2 hn3 hn4 hn5 hn6 hn0 hn7 hn8 hn9 hn10 hn11 hn12 hn13 hn14
    refine dflt hv fun r hr => ?_
    unfold aRes
    split
    · rename_i f args argTypes ho
      exact absurd ho (hn7 f args argTypes)
    · rename_i t n parts ho
      exact absurd ho (hn5 t n parts)
    · exact hr

/-- The region, in the order of the text. W: the objects that its stores turn; Sc: calls that wait for all, and all for them. -/
def vcOpsV [Tabs] (P : Program) (Γ : Env) (W Sc : List Nat) (ops : Array Oper) : Nat → List Oper → (AS → Prop) → AS → Prop
  | _, [], K, σ => K σ
  | i, o :: r, K, σ => bif isStore o then stOk σ W o ∧ vcOp P Γ false σ o (vcOpsV P Γ W Sc ops (i + 1) r K)
      else bif isNew W i o then vcOp P Γ false σ o (vcOpsV P Γ W Sc ops (i + 1) r K)
      else if i ∈ Sc then vcOp P Γ false σ o (vcOpsV P Γ W Sc ops (i + 1) r K)
      else (freeW ops i = true ∨ Under σ W o) ∧ vcOp P Γ true σ o (vcOpsV P Γ W Sc ops (i + 1) r K)

theorem anyW_lex {Sc : List Nat} (hSc : Sc.all (soloC ops) = true) (hM : memW W ops = true) (hok : ∀ (j : Nat) (oj : Oper), ops[j]? = some oj → (isStore oj = true → oj.dst = none) ∧ isAlloc oj = false) : ∀ (l : List Oper) (k : Nat) (L : Array Bool) (σ : AS), Cl ops L → (∀ j : Nat, l[j]? = ops[k + j]?) → (∀ j, j < k → L.getD j true = true) → Region.lexFrom .any ops l.length k L = true → vcOpsV P Γ W Sc ops k l K σ → anyW P Γ W Sc ops K l.length L σ
  | [], _, _, _, _, _, _, hB, h => ⟨by simpa [Region.lexFrom] using hB, h⟩
  | o :: l, k, L, σ, hcl, hl, hd, hB, h => by
    have h0 : ops[k]? = some o := by simpa using (hl 0).symm
    simp only [List.length_cons, Region.lexFrom, Bool.and_eq_true] at hB
    obtain ⟨⟨hr, hf⟩, hB'⟩ := hB
    have hr' : k ∈ Region.ready .any ops L := by simpa using hr
    have hfree := Region.free_spec h0 hf
    have hgt : ∀ j, j ≠ k → L.getD j true = false → k < j := fun j hj hu => by
      rcases Nat.lt_or_ge k j with h | h
      · exact h
      · have := hd j (by omega)
        rw [this] at hu; cases hu
    have hnext : ∀ σ', vcOpsV P Γ W Sc ops (k + 1) l K σ' → anyW P Γ W Sc ops K l.length (L.setIfInBounds k true) σ' := fun σ' hK => anyW_lex hSc hM hok l (k + 1) (L.setIfInBounds k true) σ' (hcl.set hr') (fun j => by have := hl (j + 1); simpa [Nat.add_assoc, Nat.add_comm 1 j] using this) (fun j hj => by
      by_cases hjk : k = j
      · subst hjk
        rcases Nat.lt_or_ge k L.size with h' | h'
        · simp [Array.getD_eq_getD_getElem?, h']
        · simp [Array.getD_eq_getD_getElem?, h']
      · rw [getD_set_ne true hjk]; exact hd j (by omega)) hB' hK
    have halone : isStore o = true → ∀ j oj, ops[j]? = some oj → j ≠ k → L.getD j true = false → reach ops ops.size k j = true := fun hsc j oj hoj hjk hun => by
      cases hre : reach ops ops.size k j with
      | true => rfl
      | false =>
        have m1 := (memW_spec hM h0 hoj (hgt j hjk hun) hre).1
        rw [hsc] at m1; cases m1
    unfold vcOpsV at h
    cases hm : isStore o with
    | true =>
      rw [hm] at h
      simp only [cond_true] at h
      obtain ⟨hst, hv⟩ := h
      obtain ⟨σ', h1, h2⟩ := op_store_is hm ((hok k o h0).1 hm) hv
      exact anyW_alone l.length L σ hcl (halone hm) hr' ⟨o, h0, .inr (.inl ⟨hm, σ', h1, hst, hnext σ' h2⟩)⟩
    | false =>
      rw [hm] at h
      simp only [cond_false] at h
      cases hn : isNew W k o with
      | true =>
        rw [hn] at h
        simp only [cond_true] at h
        obtain ⟨σ', h1, h2⟩ := op_new_is (by simp only [isNew, Bool.and_eq_true] at hn; exact hn.1) h
        refine anyW_firstN h0 hn l.length L σ σ' hcl (fun j oj hoj hjk hun hre hno => ?_) hr' h1 (hnext σ' h2)
        obtain ⟨_, m2, _⟩ := memW_spec hM h0 hoj (hgt j hjk hun) hre
        obtain ⟨m3, m4⟩ := m2 hn
        refine ⟨hfree j oj hoj hjk hun hno, m3, m4, fun hjs => ?_⟩
        have g1 := List.all_eq_true.1 hSc j hjs
        simp only [soloC, Bool.and_eq_true] at g1
        have g2 := List.all_eq_true.1 g1.2 k (by simpa using (Array.getElem?_eq_some_iff.1 h0).1)
        rw [Bool.or_eq_true] at g2
        rcases g2 with g2 | g2
        · exact hjk (of_decide_eq_true g2).symm
        · rw [if_pos (hgt j hjk hun), hre] at g2; cases g2
      | false =>
        rw [hn] at h
        simp only [cond_false] at h
        by_cases hc : k ∈ Sc
        · rw [if_pos hc] at h
          have h1 := List.all_eq_true.1 hSc k hc
          simp only [soloC, Bool.and_eq_true, h0] at h1
          refine anyW_alone l.length L σ hcl (fun j oj hoj hjk hun => ?_) hr' ⟨o, h0, .inr (.inr (.inr ⟨hc, op_call_mono h1.1 hnext h⟩))⟩
          have h2 := List.all_eq_true.1 h1.2 j (by simpa using (Array.getElem?_eq_some_iff.1 hoj).1)
          rw [Bool.or_eq_true] at h2
          rcases h2 with h2 | h2
          · exact absurd (of_decide_eq_true h2) hjk
          · rwa [if_neg (by have := hgt j hjk hun; omega)] at h2
        · rw [if_neg hc] at h
          obtain ⟨hu, hv⟩ := h
          obtain ⟨v, hp, c1, c2⟩ := op_res hm (hok k o h0).2 hv
          refine anyW_first hSc h0 hm hn hc (fun j oj hj => (hok j oj hj).1) l.length L σ v hcl (fun j oj hoj hjk hun hre hno => ?_) hr' c1 hp (hnext _ c2)
          obtain ⟨_, _, m4⟩ := memW_spec hM h0 hoj (hgt j hjk hun) hre
          refine ⟨hfree j oj hoj hjk hun hno, fun hs => ⟨m4 hs, ?_⟩⟩
          rcases hu with hu | hu
          · have := freeW_spec hu hoj (hgt j hjk hun) hre
            rw [hs] at this; cases this
          · exact hu

section
variable {w0 : World} {F0 : Nat → Nat} {Fp : Nat → Prop} {X : Nat → Nat → Value} {G : Gh} {w : World} {a : Act}
theorem anyW_ok {Sc : List Nat} (hΓ : GoodEnv P Γ) (hg : ∀ (j : Nat) (oj : Oper), ops[j]? = some oj → oj.guard = none) {Q : Exit → Act → World → Prop} (hQ : ∀ G w a σ, Rel w0 F0 Fp X G w a σ → K σ → Q .normal a w) : ∀ (f : Nat) (L : Array Bool) {G : Gh} {w : World} {a : Act} {σ : AS}, Rel w0 F0 Fp X G w a σ →
    anyW P Γ W Sc ops K f L σ → wpAny P .any ops Q f L a w
  | 0, L, _, _, _, _, hr, h => ⟨h.1, hQ _ _ _ _ hr h.2⟩
  | f + 1, L, _, _, _, _, hr, h => ⟨fun h0 => hQ _ _ _ _ hr (h.1 h0), fun i hi => by
    obtain ⟨o, ho, hs⟩ := h.2 i hi
    unfold wpOp
    rw [ho]
    simp only
    rw [if_pos (by simp [Region.wanted, hg i o ho])]
    rcases hs with ⟨_, _, r, hd, hy, hK⟩ | ⟨hm, σ', hv, _, hK⟩ | ⟨hm, σ', hv, hK⟩ | ⟨hm, hv⟩
    · exact .inl (aRes_ok hΓ hr hy hd fun G' w' x hr' => anyW_ok hΓ hg hQ f _ hr' hK)
    · exact .inl (vcOp_ok hΓ hr (fun G' w' a' s hr' hs' => anyW_ok (Sc := Sc) hΓ hg hQ f _ hr' (by rw [hs']; exact hK)) hv)
    · exact .inl (vcOp_ok hΓ hr (fun G' w' a' s hr' hs' => anyW_ok (Sc := Sc) hΓ hg hQ f _ hr' (by rw [hs']; exact hK)) hv)
    · exact .inl (vcOp_ok hΓ hr (fun G' w' a' s hr' hs' => anyW_ok hΓ hg hQ f _ hr' hs') hv)⟩

/-- A region that draws its order, with stores and calls: in the order of the text. -/
theorem awp_wideV (hΓ : GoodEnv P Γ) {id : Nat} {l : List Oper} {Q : Exit → AS → Prop} (W Sc : List Nat) (hm : P.follows .mixedOrders = true) (hB : lexW W (List.toArray l) Sc = true) (hv : vcOpsV P Γ W Sc (List.toArray l) 0 l (Q .normal) σ) : AWP P (.region id (List.toArray l) true) Q σ := by
  intro w0 F0 Fp X G w a hr
  simp only [lexW, Region.lexB, Bool.and_eq_true] at hB
  obtain ⟨⟨⟨⟨hB0, hB1⟩, hB2⟩, hB3⟩, hSc⟩ := hB
  have hB4 : ∀ (j : Nat) (oj : Oper), (List.toArray l)[j]? = some oj → oj.guard = none ∧ (isStore oj = true → oj.dst = none) ∧ isAlloc oj = false := fun j oj hj => by
    have h1 := (Array.all_eq_true'.1 hB3) oj (Array.mem_of_getElem? hj)
    simp only [Bool.and_eq_true, Bool.or_eq_true, Bool.not_eq_true', Option.isNone_iff_eq_none] at h1
    refine ⟨h1.1.2, fun hs => ?_, h1.1.1⟩
    rcases h1.2 with h2 | h2
    · rw [hs] at h2; cases h2
    · exact h2
  show (Code.region id (List.toArray l) true).wp P _ a w
  refine wp_region_any hm ?_
  have hcl : Cl (List.toArray l) (Array.replicate (List.toArray l).size false) := fun k hk => by
    exfalso
    simp [Array.getElem?_replicate] at hk
    split at hk <;> simp at hk
  have h1 := anyW_lex (P := P) (Γ := Γ) (K := Q .normal) (W := W) (Sc := Sc) hSc hB2 (fun j oj hj => (hB4 j oj hj).2) l 0 (Array.replicate (List.toArray l).size false) σ hcl (by simp) (fun j hj => absurd hj (Nat.not_lt_zero _)) (by simpa using hB1) hv
  have hb : Below w.heap.size w { w with drawn := w.drawn + 1 } := Below.drew (Below.refl _ _)
  exact anyW_ok hΓ (fun j oj hj => (hB4 j oj hj).1) (fun G w a σ h1 h2 => ⟨G, σ, h1, h2⟩) _ _ (hr.below hb) (by simpa using h1)
end

section
variable {Sc : List Nat} {i : Nat} {r : List Oper} {d : Option Nat} {ty : TypeId} {pos : String} {after : Array Edge} {g : Option (Nat × Bool)}
/-- One operation: a call that all wait for is taken as it is; what else answers, alike in every order. -/
def stepV [Tabs] (P : Program) (Γ : Env) (σ : AS) (o : Oper) (K : AS → Prop) (c : Prop) [Decidable c] (u : Prop) : Prop := if c then vcOp P Γ false σ o K else u ∧ vcOp P Γ true σ o K
theorem wv_nil : vcOpsV P Γ W Sc ops i [] K σ = K σ := rfl
def mkV (c : Prop) [Decidable c] (A B : Prop) : Prop := if c then B else A
theorem mkV_f {i : Decidable False} {A B : Prop} : @mkV False i A B = A := if_neg (fun h => h)
theorem wv_new {t : TypeId} {n : Nat} {ps : Array (Nat × Operand)} : vcOpsV P Γ W Sc ops i (⟨d, .buildSlice t n ps, ty, pos, after, g⟩ :: r) K σ = mkV (2000 + i ∈ W) (vcOp P Γ false σ ⟨d, .buildSlice t n ps, ty, pos, after, g⟩ (vcOpsV P Γ W Sc ops (i + 1) r K)) (stepV P Γ σ ⟨d, .buildSlice t n ps, ty, pos, after, g⟩ (vcOpsV P Γ W Sc ops (i + 1) r K) (i ∈ Sc) (freeW ops i = true ∨ True)) := by
  unfold mkV
  by_cases h : 2000 + i ∈ W
  · rw [if_pos h]
    have e : isNew W i ⟨d, .buildSlice t n ps, ty, pos, after, g⟩ = false := by simp [isNew, h]
    rw [vcOpsV, e]
    rfl
  · rw [if_neg h]
    have e : isNew W i ⟨d, .buildSlice t n ps, ty, pos, after, g⟩ = true := by simp [isNew, isMk, h]
    rw [vcOpsV, e]
    rfl
theorem wv_assign {x : Operand} : vcOpsV P Γ W Sc ops i (⟨d, .assign x, ty, pos, after, g⟩ :: r) K σ = stepV P Γ σ ⟨d, .assign x, ty, pos, after, g⟩ (vcOpsV P Γ W Sc ops (i + 1) r K) (i ∈ Sc) (freeW ops i = true ∨ True) := rfl
theorem wv_load {t : TypeId} {x : Operand} : vcOpsV P Γ W Sc ops i (⟨d, .load t x, ty, pos, after, g⟩ :: r) K σ = stepV P Γ σ ⟨d, .load t x, ty, pos, after, g⟩ (vcOpsV P Γ W Sc ops (i + 1) r K) (i ∈ Sc) (freeW ops i = true ∨ underL (ev σ x) W) := rfl
theorem wv_field {t : TypeId} {x : Operand} {j : Nat} : vcOpsV P Γ W Sc ops i (⟨d, .fieldAddr t x j, ty, pos, after, g⟩ :: r) K σ = stepV P Γ σ ⟨d, .fieldAddr t x j, ty, pos, after, g⟩ (vcOpsV P Γ W Sc ops (i + 1) r K) (i ∈ Sc) (freeW ops i = true ∨ underF (ev σ x)) := rfl
theorem wv_call {f : Operand} {args : Array Operand} {ats : Array TypeId} : vcOpsV P Γ W Sc ops i (⟨d, .call ⟨.value f, args, ats⟩, ty, pos, after, g⟩ :: r) K σ = stepV P Γ σ ⟨d, .call ⟨.value f, args, ats⟩, ty, pos, after, g⟩ (vcOpsV P Γ W Sc ops (i + 1) r K) (i ∈ Sc) (freeW ops i = true ∨ True) := rfl
theorem stepV_f {o : Oper} {i : Decidable False} {u : Prop} : @stepV _ P Γ σ o K False i u = (u ∧ vcOp P Γ true σ o K) := if_neg (fun h => h)
end
omit [Tabs] in
theorem underL_ptr {ob k : Nat} : underL (.ptr ob k) W = (ob ∉ W) := propext ⟨fun ⟨_, _, h, h2⟩ => by cases h; exact h2, fun h => ⟨ob, k, rfl, h⟩⟩
omit [Tabs] in
theorem underF_ptr {ob k : Nat} : underF (.ptr ob k) = True := eq_true ⟨ob, k, rfl⟩
end
end Go.Rw
end

-- RwTwo
section
namespace Go.Rw
open Go Go.RowKit
set_option linter.unusedSimpArgs false
set_option linter.unusedVariables false
set_option linter.unusedSectionVars false

section
variable {P : Program} [Tabs] {w0 : World} {F0 : Nat → Nat} {Fp : Nat → Prop} {X : Nat → Nat → Value} {G : Gh} {w : World} {a : Act} {σ : AS} {b : Nat}
/-- A block that nothing tells of yet. -/
structure Idle (w0 : World) (G : Gh) (w : World) (b : Nat) : Prop where
  lt : b < w.heap.size
  new : w0.heap.size ≤ b
  lin : G.lin b = 0
  fr : G.fr b = 0
  ob : ∀ o, o < G.nh → G.ob o ≠ b
theorem GLe.adopt (h : Idle w0 G w b) : GLe G w (G.newOb b) w where
  nh := Nat.le_succ _
  ob := fun o ho => by simp only [Gh.newOb]; exact upd_other _ _ (by omega)
  nl := Nat.le_refl _
  fm := fun _ _ => rfl
  lin := fun g hg => by
    simp only [Gh.newOb]
    rw [upd_other _ _ (by rintro rfl; have := h.fr; omega)]; exact .inl rfl
  fr := fun _ => Nat.le_refl _
  lv := fun l _ n e hl => ⟨n, e, hl, Nat.le_refl _, fun _ => ⟨rfl, rfl⟩⟩
  cell := fun g i hi => rfl
theorem Mem.adopt {m : AM} (h : Mem w0 F0 Fp G w m) (hi : Idle w0 G w b) (x : AO) (hx : OR (G.newOb b) w b x) : Mem w0 F0 Fp (G.newOb b) w (m.newObj x) := by
  have hg := GLe.adopt hi
  have hne : ∀ {g : Nat}, g ≠ b → (G.newOb b).lin g = G.lin g := fun hg => by simp only [Gh.newOb]; exact upd_other _ _ hg
  exact {
    nh := by simp [Gh.newOb, AM.newObj, h.nh]
    nl := h.nl
    fm := h.fm
    lv := h.lv
    two := h.two
    fm0 := h.fm0
    fml := h.fml
    fm2 := h.fm2
    fmi := h.fmi
    inj := by
      intro o1 o2 h1 h2 he
      simp only [Gh.newOb, upd] at h1 h2 he
      by_cases e1 : o1 = G.nh <;> by_cases e2 : o2 = G.nh
      · omega
      · rw [if_pos e1, if_neg e2] at he
        exact absurd he.symm (hi.ob o2 (by omega))
      · rw [if_neg e1, if_pos e2] at he
        exact absurd he (hi.ob o1 (by omega))
      · rw [if_neg e1, if_neg e2] at he
        exact h.inj o1 o2 (by omega) (by omega) he
    obl := by
      intro o1 h1
      by_cases e1 : o1 = G.nh
      · subst e1
        simp only [Gh.newOb, upd_same]
        exact ⟨trivial, hi.fr, hi.lt, .inl hi.new⟩
      · have h1' : o1 < G.nh := by simp only [Gh.newOb] at h1; omega
        obtain ⟨h2, h3, h4, h5⟩ := h.obl o1 h1'
        have e2 : (G.newOb b).ob o1 = G.ob o1 := by simp only [Gh.newOb]; exact upd_other _ _ e1
        rw [e2]
        exact ⟨(hne (hi.ob o1 h1')).trans h2, h3, h4, h5⟩
    obj := by
      intro o1 y hy
      simp only [AM.newObj, upd, ← h.nh] at hy
      by_cases e1 : o1 = G.nh
      · rw [if_pos e1] at hy
        obtain rfl := Option.some.inj hy
        subst e1
        exact ⟨by simp [Gh.newOb], by simpa [Gh.newOb] using hx⟩
      · rw [if_neg e1] at hy
        obtain ⟨h1, h2⟩ := h.obj o1 y hy
        have e2 : (G.newOb b).ob o1 = G.ob o1 := by simp only [Gh.newOb]; exact upd_other _ _ e1
        rw [e2]
        exact ⟨by simp only [Gh.newOb]; omega, h2.mono hg rfl⟩
    live := by
      intro l n e hl
      obtain ⟨h1, h2, h3, h4⟩ := h.live l n e hl
      refine ⟨h1, h2, h3, ?_⟩
      rcases h4 with h4 | ⟨g, oF, cap, cur, h5, h6, h7, h8, h9, h10, h11, h12⟩
      · exact .inl h4
      · refine .inr ⟨g, oF, cap, cur, h5, h6, h7, h8, h9, h10, (hne ?_).trans h11, h12⟩
        rintro rfl
        have q1 := hi.lin
        have q2 := h.fm2 l h1 h2
        rw [h11] at q1
        omega
    frl := h.frl
    linl := fun g hg' => by
      rw [hne (by have := hi.lt; omega)]; exact h.linl g hg'
    linn := fun g => by
      simp only [Gh.newOb, upd]
      have := h.two
      split
      · omega
      · exact h.linn g
    old := fun g hg' hf => by
      obtain ⟨h1, h2, h3⟩ := h.old g hg' hf
      have := hi.new
      exact ⟨(hne (by omega)).trans h1, h2, h3⟩
    f0 := h.f0
    mu := h.mu
    keep := h.keep
    keepf := h.keepf
    size := h.size
    os := h.os
    tape := h.tape
    output := h.output }
theorem Rel.adopt (h : Rel w0 F0 Fp X G w a σ) (hi : Idle w0 G w b) {arr : Array Value} {e : TypeId} {cs : List AV} (hb : w.heap[b]? = some (.cells arr e (0, 0))) (hs : arr.size = cs.length) (hc : ∀ k, k < cs.length → VR G w (arr.getD k default) (cs.getD k .any)) :
    Rel w0 F0 Fp X (G.newOb b) w a (σ.new (.cells cs)) ∧ VR (G.newOb b) w (.pointer (some ⟨b, 0, none⟩)) (.ptr σ.m.nh 0) := by
  have hg := GLe.adopt hi
  have hx : OR (G.newOb b) w b (.cells cs) := .cells cs arr e hb hs fun k hk => (hc k hk).mono hg
  refine ⟨⟨h.sz, h.df, fun i => (h.tm i).mono hg, fun j i => (h.hd j i).mono hg, h.mm.adopt hi _ hx, h.tb⟩, ?_⟩
  have := VR.ptr (G := G.newOb b) (w := w) G.nh 0 (by simp [Gh.newOb])
  rw [← h.mm.nh]
  simpa [Gh.newOb] using this
/-- What is idle stays so when another one is taken. -/
theorem Idle.adopt {c : Nat} (h : Idle w0 G w c) (hne : c ≠ b) : Idle w0 (G.newOb b) w c where
  lt := h.lt
  new := h.new
  lin := by simp only [Gh.newOb]; rw [upd_other _ _ hne]; exact h.lin
  fr := h.fr
  ob := fun o ho => by
    simp only [Gh.newOb, upd] at ho ⊢
    split
    · exact fun e => hne e.symm
    · exact h.ob o (by omega)
end

/-- The allocs of a region, in the order of the text: number, slot, type. -/
abbrev AlL := List (Nat × Nat × TypeId)
/-- All of them laid. -/
def matA (P : Program) : AlL → AS → Option AS
  | [], σ => some σ
  | p :: r, σ => match zeroOf P p.2.2 with
    | some z => match cellsOf z with
      | some cs => matA P r ((σ.new (.cells cs)).put p.2.1 (.ptr σ.m.nh 0))
      | none => none
    | none => none
/-- What an operation answers: an alloc something that is not told yet. -/
def aT (P : Program) (σ : AS) (o : Oper) (r : AV) : Prop := (isAlloc o = true ∧ r = .any) ∨ (isAlloc o = false ∧ popAll P σ o = some r)
/-- No object is told from nh on. -/
def Fresh (σ : AS) : Prop := ∀ o, σ.m.nh ≤ o → σ.m.h o = none
section
variable {P : Program} [Tabs] {Γ : Env} {ops : Array Oper} {K : AS → Prop} {W : List Nat}
theorem Fresh.new {σ : AS} (h : Fresh σ) (c : AO) : Fresh (σ.new c) := fun o ho => by
  simp only [AS.new, AM.newObj] at ho ⊢
  rw [upd_other _ _ (by omega)]
  exact h o (by omega)
theorem Fresh.put {σ : AS} (h : Fresh σ) (d : Nat) (r : AV) : Fresh (σ.put d r) := h
theorem Fresh.putO {σ : AS} (h : Fresh σ) (d : Option Nat) (r : AV) : Fresh (σ.putO d r) := by cases d <;> exact h
/-- What is put elsewhere stays, when all are laid. -/
theorem matA_putO {d : Option Nat} {r : AV} : ∀ (l : AlL) {σ σm : AS}, (∀ p ∈ l, d ≠ some p.2.1) → matA P l (σ.putO d r) = some σm → ∃ σ', matA P l σ = some σ' ∧ σm = σ'.putO d r
  | [], σ, σm, _, h => ⟨σ, rfl, (Option.some.inj h).symm⟩
  | p :: l, σ, σm, hd, h => by
    unfold matA at h ⊢
    split at h
    · rename_i z hz
      split at h
      · rename_i cs hcs
        have e : ((σ.putO d r).new (.cells cs)).put p.2.1 (.ptr (σ.putO d r).m.nh 0) = ((σ.new (.cells cs)).put p.2.1 (.ptr σ.m.nh 0)).putO d r := by
          cases d with
          | none => rfl
          | some k =>
            have hne : k ≠ p.2.1 := fun e => hd p (List.mem_cons_self ..) (by rw [e])
            simp only [AS.putO, AS.put, AS.new, AS.mk.injEq, true_and, and_true]
            funext i
            simp only [upd]
            by_cases h1 : i = k
            · rw [if_pos h1, if_neg (by omega), if_pos h1]
            · rw [if_neg h1, if_neg h1]
        rw [e] at h
        exact matA_putO l (fun q hq => hd q (List.mem_cons_of_mem _ hq)) h
      · cases h
    · cases h
/-- What looks at none of them answers as it did, when all are laid. -/
theorem matA_pop {o : Oper} {r : AV} : ∀ (l : AlL) {σ σm : AS}, Fresh σ → (∀ p ∈ l, p.2.1 ∉ o.looksAt ops) → matA P l σ = some σm → popAll P σ o = some r → popAll P σm o = some r ∧ (∀ z ∈ o.op.operands, ev σm z = ev σ z) ∧ σm.n = σ.n
  | [], σ, σm, _, _, h, hp => by obtain rfl := Option.some.inj h; exact ⟨hp, fun _ _ => rfl, rfl⟩
  | p :: l, σ, σm, hf, hd, h, hp => by
    unfold matA at h
    split at h
    · split at h
      · rename_i cs hcs
        have e1 := popAll_new (c := .cells cs) (hf _ (Nat.le_refl _)) hp
        have he : ∀ z ∈ o.op.operands, ev ((σ.new (.cells cs)).put p.2.1 (.ptr σ.m.nh 0)) z = ev (σ.new (.cells cs)) z := fun z hz => ev_putO (d := some p.2.1) fun k hk hxk => by
          obtain rfl := Option.some.inj hk
          subst hxk
          exact hd p (List.mem_cons_self ..) (List.mem_append_left _ (List.mem_filterMap.2 ⟨.tmp p.2.1, by simpa using hz, rfl⟩))
        have e2 : popAll P ((σ.new (.cells cs)).put p.2.1 (.ptr σ.m.nh 0)) o = some r := (popAll_congr (σ := (σ.new (.cells cs)).put p.2.1 (.ptr σ.m.nh 0)) (σ' := σ.new (.cells cs)) rfl he).trans e1
        obtain ⟨g1, g2, g3⟩ := matA_pop l ((hf.new _).put _ _) (fun q hq => hd q (List.mem_cons_of_mem _ hq)) h e2
        exact ⟨g1, fun z hz => (g2 z hz).trans ((he z hz).trans (by cases z <;> rfl)), g3⟩
      · cases h
    · cases h

/-- What may be taken ahead of a store through a pointer, or behind it. -/
def UnderT (σ : AS) (W : List Nat) (o : Oper) : Prop := match o.op with
  | .load _ x => (∃ ob k, ev σ x = .ptr ob k ∧ ob ∉ W) ∨ (∃ l sz xs i j, ev σ x = .ep l sz xs i j)
  | _ => True
def stOkT (σ : AS) (W : List Nat) (o : Oper) : Prop := match o.op with
  | .store _ x _ => ∃ ob k, ev σ x = .ptr ob k ∧ ob ∈ W
  | _ => False
def isLoadT (o : Oper) : Bool := match o.op with
  | .load .. => true
  | _ => false
theorem popAll_noload {σ : AS} {m : AM} {o : Oper} (h : isLoadT o = false) : popAll P { σ with m := m } o = popAll P σ o := by
  obtain ⟨dst, op, type, pos, aft, guard⟩ := o
  unfold popAll
  have h2 : pop2 P { σ with m := m } ⟨dst, op, type, pos, aft, guard⟩ = pop2 P σ ⟨dst, op, type, pos, aft, guard⟩ := by
    cases op <;> try rfl
  rw [h2]
  cases op
  case load t x => cases h
  case call c => rw [pop_call]
  all_goals rfl
theorem UnderT.of {σ σ' : AS} {o : Oper} (h : UnderT σ W o) (he : ∀ z ∈ o.op.operands, ev σ' z = ev σ z) : UnderT σ' W o := by
  obtain ⟨dst, op, type, pos, aft, guard⟩ := o
  cases op <;> try trivial
  simp only [UnderT] at h ⊢
  rw [he _ (by simp [Op.operands])]
  exact h
/-- A store through a pointer, and what is not bound to it, may change places. -/
theorem store_commT {σ σ' : AS} {x y : Oper} {r : AV} (hs : isStore y = true) (hd : y.dst = none) (hu : UnderT σ W x) (a1 : ∀ d, x.dst = some d → d ∉ y.looksAt ops)
    (hy : popAll P σ x = some r) (h : vcOp P Γ false (σ.putO x.dst r) y (fun s => s = σ')) (hok : stOkT (σ.putO x.dst r) W y) :
    ∃ σm, vcOp P Γ false σ y (fun s => s = σm) ∧ stOkT σ W y ∧ σm.n = σ.n ∧ popAll P σm x = some r ∧ UnderT σm W x ∧ σ' = σm.putO x.dst r := by
  have hmm : (σ.putO x.dst r).m = σ.m := by cases x.dst <;> rfl
  have he : ∀ z ∈ y.op.operands, ev (σ.putO x.dst r) z = ev σ z := fun z hz => ev_putO fun k hk hxk => a1 k hk (by
    subst hxk
    exact List.mem_append_left _ (List.mem_filterMap.2 ⟨.tmp k, by simpa using hz, rfl⟩))
  have put : ∀ m : AM, ({ σ.putO x.dst r with m := m } : AS) = ({ σ with m := m } : AS).putO x.dst r := fun m => by cases x.dst <;> rfl
  obtain ⟨dst, op, type, pos, aft, guard⟩ := y
  simp only at hd
  subst hd
  cases op <;> try (simp [isStore] at hs; done)
  rename_i t px py
  have ex := he px (by simp [Op.operands])
  have ey := he py (by simp [Op.operands])
  obtain ⟨hx0, hv⟩ := h
  clear hx0
  simp only [stOkT] at hok
  rw [ex] at hv hok
  obtain ⟨ob, k, hpx, hW⟩ := hok
  rw [hpx] at hv
  obtain ⟨ti, cs, vs, h1, h2, h3, h4, h5, hc⟩ := hv
  rw [ey] at h3
  rw [hmm] at h2 hc
  simp only [cont] at hc
  rw [put] at hc
  refine ⟨_, ⟨(fun hf => by cases hf), ?_⟩, ⟨ob, k, hpx, hW⟩, ?_, ?_, hu.of fun z _ => ev_mem, hc.symm⟩
  · rw [hpx]; exact ⟨ti, cs, vs, h1, h2, h3, h4, h5, rfl⟩
  · rfl
  · cases hl : isLoadT x with
    | false => exact (popAll_noload hl).trans hy
    | true =>
      obtain ⟨xdst, xop, xtype, xpos, xaft, xguard⟩ := x
      cases xop <;> try (simp [isLoadT] at hl; done)
      simp only [UnderT] at hu
      rcases hu with ⟨o', k', e1, e2⟩ | ⟨l', sz', xs', i', j', e1⟩
      · have hne : o' ≠ ob := fun e => e2 (e ▸ hW)
        simp only [popAll, pop, pop2, ev_mem, e1] at hy ⊢
        rw [show (σ.m.setObj ob (.cells (cs.take k ++ vs ++ cs.drop (k + vs.length)))).h o' = σ.m.h o' from upd_other _ _ hne]
        exact hy
      · simp only [popAll, pop, pop2, ev_mem, e1] at hy ⊢
        exact hy

/-- Whatever order is picked: the allocs are laid when the first store comes. -/
def anyT [Tabs] (P : Program) (Γ : Env) (Al : AlL) (W : List Nat) (ops : Array Oper) (K : AS → Prop) : Nat → Bool → Array Bool → AS → Prop
  | 0, mat, L, σ => Region.ready .any ops L = [] ∧ mat = true ∧ K σ
  | f + 1, mat, L, σ => (Region.ready .any ops L = [] → mat = true ∧ K σ) ∧ ∀ i ∈ Region.ready .any ops L, ∃ o, ops[i]? = some o ∧
      ((isStore o = false ∧ (isAlloc o = true → mat = false) ∧ ∃ r, (∀ d, o.dst = some d → d < σ.n) ∧ aT P σ o r ∧ anyT P Γ Al W ops K f mat (L.setIfInBounds i true) (σ.putO o.dst r)) ∨
       (isStore o = true ∧ ∃ σm σ', (if mat then some σ else matA P Al σ) = some σm ∧ vcOp P Γ false σm o (fun s => s = σ') ∧ stOkT σm W o ∧ anyT P Γ Al W ops K f true (L.setIfInBounds i true) σ'))

/-- What may come up now may be taken first. -/
theorem anyT_first {Al : AlL} {i : Nat} {oi : Oper} (hi : ops[i]? = some oi) (hns : isStore oi = false) (hda : isAlloc oi = false → ∀ p ∈ Al, p.2.1 ∉ oi.looksAt ops ∧ oi.dst ≠ some p.2.1)
    (hok : ∀ (j : Nat) (oj : Oper), ops[j]? = some oj → isStore oj = true → oj.dst = none) : ∀ (f : Nat) (mat : Bool) (L : Array Bool) (σ : AS) (r : AV), Cl ops L → (mat = false → Fresh σ) → (isAlloc oi = true → mat = false) →
    (∀ j oj, ops[j]? = some oj → j ≠ i → L.getD j true = false → reach ops ops.size i j = false → (∀ e ∈ oj.after, Region.binds .any e = true → e.on ≠ i) → oi.apart ops oj = true ∧ (isStore oj = true → isAlloc oi = false ∧ UnderT σ W oi)) →
    i ∈ Region.ready .any ops L → (∀ d, oi.dst = some d → d < σ.n) → aT P σ oi r → anyT P Γ Al W ops K f mat (L.setIfInBounds i true) (σ.putO oi.dst r) → anyT P Γ Al W ops K (f + 1) mat L σ := by
  intro f
  induction f with
  | zero =>
    intro mat L σ r _ _ hal _ hr hd hy H
    refine ⟨fun h => (by rw [h] at hr; cases hr), fun j hj => ?_⟩
    by_cases hji : j = i
    · subst hji; exact ⟨oi, hi, .inl ⟨hns, hal, r, hd, hy, H⟩⟩
    · have := ready_mono hj hji
      rw [H.1] at this
      cases this
  | succ f ih =>
    intro mat L σ r hcl hfr hal hfree hr hd hy H
    refine ⟨fun h => (by rw [h] at hr; cases hr), fun j hj => ?_⟩
    by_cases hji : j = i
    · subst hji; exact ⟨oi, hi, .inl ⟨hns, hal, r, hd, hy, H⟩⟩
    · obtain ⟨oj, hoj, hyj⟩ := H.2 j (ready_mono hj hji)
      obtain ⟨hjun, oj', hoj', hall⟩ := mem_ready.1 hj
      rw [hoj] at hoj'
      obtain rfl := Option.some.inj hoj'
      have hiun := (mem_ready.1 hr).1
      have hnot : ∀ e ∈ oj.after, Region.binds .any e = true → e.on ≠ i := fun e he hb heq => by
        have h1 := hall e he hb
        rw [heq] at h1
        rcases Nat.lt_or_ge i L.size with h' | h'
        · simp [h'] at hiun h1; rw [hiun] at h1; cases h1
        · simp [Array.getElem?_eq_none h'] at h1
      have hnr : reach ops ops.size i j = false := by
        cases hre : reach ops ops.size i j with
        | false => rfl
        | true => exact (reach_no hcl hj hiun hre).elim
      obtain ⟨hap, hmo⟩ := hfree j oj hoj hji hjun hnr hnot
      obtain ⟨a1, a2, a3⟩ := Oper.apart_spec hap
      have hun : ∀ {k : Nat}, (L.setIfInBounds j true).getD k true = false → L.getD k true = false := fun {k} hun => by
        by_cases hjk : j = k
        · subst hjk; exact hjun
        · rw [getD_set_ne true hjk] at hun; exact hun
      have he : ∀ z ∈ oj.op.operands, ev (σ.putO oi.dst r) z = ev σ z := fun z hz => ev_putO fun k hk hxk => a1 k hk (by
        subst hxk
        exact List.mem_append_left _ (List.mem_filterMap.2 ⟨.tmp k, by simpa using hz, rfl⟩))
      have hnn : (σ.putO oi.dst r).n = σ.n := by cases oi.dst <;> rfl
      have hmm : (σ.putO oi.dst r).m = σ.m := by cases oi.dst <;> rfl
      rcases hyj with ⟨hnj, hcj, rj, hdj, hyj, hK⟩ | ⟨hm, σm, σ', hmat, hv, hst, hK⟩
      · have hnn2 : (σ.putO oj.dst rj).n = σ.n := by cases oj.dst <;> rfl
        have hmm2 : (σ.putO oj.dst rj).m = σ.m := by cases oj.dst <;> rfl
        have he2 : ∀ z ∈ oi.op.operands, ev (σ.putO oj.dst rj) z = ev σ z := fun z hz => ev_putO fun k hk hxk => a3 k hk (by
          subst hxk
          exact List.mem_append_left _ (List.mem_filterMap.2 ⟨.tmp k, by simpa using hz, rfl⟩))
        have hyj' : aT P σ oj rj := hyj.imp_right fun ⟨q1, q2⟩ => ⟨q1, by rw [← popAll_congr hmm he]; exact q2⟩
        have hy' : aT P (σ.putO oj.dst rj) oi r := hy.imp_right fun ⟨q1, q2⟩ => ⟨q1, by rw [popAll_congr hmm2 he2]; exact q2⟩
        refine ⟨oj, hoj, .inl ⟨hnj, hcj, rj, fun d h => by rw [← hnn]; exact hdj d h, hyj', ?_⟩⟩
        refine ih mat (L.setIfInBounds j true) (σ.putO oj.dst rj) r (hcl.set hj) (fun h => (hfr h).putO _ _) hal (fun k ok hk hki hu hre hno => ?_) (ready_mono hr (Ne.symm hji)) (fun d h => by rw [hnn2]; exact hd d h) hy' ?_
        · obtain ⟨f1, f3⟩ := hfree k ok hk hki (hun hu) hre hno
          exact ⟨f1, fun hs => ⟨(f3 hs).1, (f3 hs).2.of he2⟩⟩
        · rw [Array.setIfInBounds_comm _ _ hji, ← putO_comm σ r rj a2]
          exact hK
      · obtain ⟨hna, hu⟩ := hmo hm
        have hp : popAll P σ oi = some r := by
          rcases hy with ⟨q1, _⟩ | ⟨_, q2⟩
          · rw [hna] at q1; cases q1
          · exact q2
        obtain ⟨σ0, hm0, rfl, hp0, hu0, hn0⟩ : ∃ σ0, (if mat then some σ else matA P Al σ) = some σ0 ∧ σm = σ0.putO oi.dst r ∧ popAll P σ0 oi = some r ∧ UnderT σ0 W oi ∧ σ0.n = σ.n := by
          cases mat with
          | true => exact ⟨σ, rfl, (Option.some.inj hmat).symm, hp, hu, rfl⟩
          | false =>
            obtain ⟨σ0, q1, q2⟩ := matA_putO Al (fun p hp => (hda hna p hp).2) hmat
            obtain ⟨q3, q4, q5⟩ := matA_pop (ops := ops) Al (hfr rfl) (fun p hp => (hda hna p hp).1) q1 hp
            exact ⟨σ0, q1, q2, q3, hu.of q4, q5⟩
        obtain ⟨σ1, h1, h2, h3, h4, h5, h6⟩ := store_commT (ops := ops) hm (hok j oj hoj hm) hu0 a1 hp0 hv hst
        refine ⟨oj, hoj, .inr ⟨hm, σ0, σ1, hm0, h1, h2, ?_⟩⟩
        refine ih true (L.setIfInBounds j true) σ1 r (hcl.set hj) (fun h => by cases h) (fun h => by rw [hna] at h; cases h) (fun k ok hk hki hu hre hno => ?_) (ready_mono hr (Ne.symm hji)) (fun d h => by rw [h3, hn0]; exact hd d h) (.inr ⟨hna, h4⟩) ?_
        · exact ⟨(hfree k ok hk hki (hun hu) hre hno).1, fun _ => ⟨hna, h5⟩⟩
        · rw [Array.setIfInBounds_comm _ _ hji, ← h6]
          exact hK
/-- The region, in the order of the text. -/
def vcOpsT [Tabs] (P : Program) (Γ : Env) (Al : AlL) (W : List Nat) (ops : Array Oper) : Bool → Nat → List Oper → (AS → Prop) → AS → Prop
  | mat, _, [], K, σ => mat = true ∧ K σ
  | mat, i, o :: r, K, σ => bif isAlloc o then mat = false ∧ cont σ o.dst .any (vcOpsT P Γ Al W ops mat (i + 1) r K)
      else bif isStore o then ∃ σm, (if mat then some σ else matA P Al σ) = some σm ∧ stOkT σm W o ∧ vcOp P Γ false σm o (vcOpsT P Γ Al W ops true (i + 1) r K)
      else ∃ v, popAll P σ o = some v ∧ (freeW ops i = true ∨ UnderT σ W o) ∧ cont σ o.dst v (vcOpsT P Γ Al W ops mat (i + 1) r K)
def memT (ops : Array Oper) : Bool := (List.range ops.size).all fun i => (List.range ops.size).all fun j => match ops[i]?, ops[j]? with
  | some x, some y => decide (j ≤ i) || reach ops ops.size i j || (!isStore x && (!isStore y || !isAlloc x))
  | _, _ => true
theorem memT_spec (h : memT ops = true) {i j : Nat} {x y : Oper} (hx : ops[i]? = some x) (hy : ops[j]? = some y) (hij : i < j) (hno : reach ops ops.size i j = false) : isStore x = false ∧ (isStore y = true → isAlloc x = false) := by
  unfold memT at h
  have hil := (Array.getElem?_eq_some_iff.1 hx).1
  have hjl := (Array.getElem?_eq_some_iff.1 hy).1
  have h1 := List.all_eq_true.1 (List.all_eq_true.1 h i (by simpa using hil)) j (by simpa using hjl)
  rw [hx, hy] at h1
  simp only [Bool.or_eq_true, decide_eq_true_eq, Bool.and_eq_true, Bool.not_eq_true'] at h1
  rcases h1 with (h1 | h1) | ⟨h1, h4⟩
  · omega
  · rw [hno] at h1; cases h1
  · exact ⟨h1, fun hs => by rcases h4 with h4 | h4; · rw [hs] at h4; cases h4
                            · exact h4⟩
theorem anyT_lex {Al : AlL} (hM : memT ops = true) (hok : ∀ (j : Nat) (oj : Oper), ops[j]? = some oj → (isStore oj = true → oj.dst = none) ∧ (isStore oj = false → isAlloc oj = false → ∀ p ∈ Al, p.2.1 ∉ oj.looksAt ops ∧ oj.dst ≠ some p.2.1)) : ∀ (l : List Oper) (mat : Bool) (k : Nat) (L : Array Bool) (σ : AS), Cl ops L → (mat = false → Fresh σ) → (∀ j : Nat, l[j]? = ops[k + j]?) → (∀ j, j < k → L.getD j true = true) → Region.lexFrom .any ops l.length k L = true → vcOpsT P Γ Al W ops mat k l K σ → anyT P Γ Al W ops K l.length mat L σ
  | [], mat, _, _, _, _, _, _, _, hB, h => ⟨by simpa [Region.lexFrom] using hB, h.1, h.2⟩
  | o :: l, mat, k, L, σ, hcl, hfr, hl, hd, hB, h => by
    have h0 : ops[k]? = some o := by simpa using (hl 0).symm
    simp only [List.length_cons, Region.lexFrom, Bool.and_eq_true] at hB
    obtain ⟨⟨hr, hf⟩, hB'⟩ := hB
    have hr' : k ∈ Region.ready .any ops L := by simpa using hr
    have hfree := Region.free_spec h0 hf
    have hgt : ∀ j, j ≠ k → L.getD j true = false → k < j := fun j hj hu => by
      rcases Nat.lt_or_ge k j with h | h
      · exact h
      · have := hd j (by omega)
        rw [this] at hu; cases hu
    have hnext : ∀ mat' σ', (mat' = false → Fresh σ') → vcOpsT P Γ Al W ops mat' (k + 1) l K σ' → anyT P Γ Al W ops K l.length mat' (L.setIfInBounds k true) σ' := fun mat' σ' hfr' hK => anyT_lex hM hok l mat' (k + 1) (L.setIfInBounds k true) σ' (hcl.set hr') hfr' (fun j => by have := hl (j + 1); simpa [Nat.add_assoc, Nat.add_comm 1 j] using this) (fun j hj => by
      by_cases hjk : k = j
      · subst hjk
        rcases Nat.lt_or_ge k L.size with h' | h'
        · simp [Array.getD_eq_getD_getElem?, h']
        · simp [Array.getD_eq_getD_getElem?, h']
      · rw [getD_set_ne true hjk]; exact hd j (by omega)) hB' hK
    unfold vcOpsT at h
    cases ha : isAlloc o with
    | true =>
      rw [ha] at h
      simp only [cond_true] at h
      obtain ⟨hmat, hc⟩ := h
      obtain ⟨c1, c2⟩ := cont_putO hc
      have hns : isStore o = false := by
        obtain ⟨dst, op, type, pos, aft, guard⟩ := o
        cases op <;> first | rfl | (simp [isAlloc] at ha; done)
      refine anyT_first h0 hns (fun q => by rw [ha] at q; cases q) (fun j oj hj => (hok j oj hj).1) l.length mat L σ .any hcl hfr (fun _ => hmat) (fun j oj hoj hjk hun hre hno => ⟨hfree j oj hoj hjk hun hno, fun hs => ?_⟩) hr' c1 (.inl ⟨ha, rfl⟩) (hnext mat _ (fun q => (hfr q).putO _ _) c2)
      have := (memT_spec hM h0 hoj (hgt j hjk hun) hre).2 hs
      rw [ha] at this; cases this
    | false =>
      rw [ha] at h
      simp only [cond_false] at h
      cases hm : isStore o with
      | true =>
        rw [hm] at h
        simp only [cond_true] at h
        obtain ⟨σm, h1, h2, h3⟩ := h
        obtain ⟨σ', h4, h5⟩ := op_store_is hm ((hok k o h0).1 hm) h3
        refine ⟨fun h => (by rw [h] at hr'; cases hr'), fun j hj => ?_⟩
        by_cases hji : j = k
        · subst hji
          exact ⟨o, h0, .inr ⟨hm, σm, σ', h1, h4, h2, hnext true σ' (fun q => by cases q) h5⟩⟩
        · exfalso
          obtain ⟨hjun, oj, hoj, _⟩ := mem_ready.1 hj
          refine reach_no hcl hj (mem_ready.1 hr').1 (f := ops.size) ?_
          cases hre : reach ops ops.size k j with
          | true => rfl
          | false =>
            have := (memT_spec hM h0 hoj (hgt j hji hjun) hre).1
            rw [hm] at this; cases this
      | false =>
        rw [hm] at h
        simp only [cond_false] at h
        obtain ⟨v, hp, hu, hc⟩ := h
        obtain ⟨c1, c2⟩ := cont_putO hc
        refine anyT_first h0 hm (fun q => (hok k o h0).2 hm q) (fun j oj hj => (hok j oj hj).1) l.length mat L σ v hcl hfr (fun q => by rw [ha] at q; cases q) (fun j oj hoj hjk hun hre hno => ⟨hfree j oj hoj hjk hun hno, fun hs => ⟨(memT_spec hM h0 hoj (hgt j hjk hun) hre).2 hs, ?_⟩⟩) hr' c1 (.inr ⟨ha, hp⟩) (hnext mat _ (fun q => (hfr q).putO _ _) c2)
        rcases hu with hu | hu
        · have := freeW_spec hu hoj (hgt j hjk hun) hre
          rw [hs] at this; cases this
        · exact hu
end

section
variable {P : Program} [Tabs] {Γ : Env} {ops : Array Oper} {K : AS → Prop} {W : List Nat} {w0 : World} {F0 : Nat → Nat} {Fp : Nat → Prop} {X : Nat → Nat → Value} {G : Gh} {w : World} {a : Act} {σ : AS}
/-- A slot's value told otherwise. -/
theorem Rel.told (h : Rel w0 F0 Fp X G w a σ) {d : Nat} {v : AV} (hv : VR G w (a.tmps.getD d undef) v) : Rel w0 F0 Fp X G w a (σ.put d v) := by
  refine ⟨h.sz, h.df, fun i => ?_, h.hd, h.mm, h.tb⟩
  simp only [AS.put, upd]
  by_cases hi : i = d
  · rw [if_pos hi, hi]; exact hv
  · rw [if_neg hi]; exact h.tm i
/-- An alloc that is done: its slot points to a block of zero cells that nothing tells of. -/
structure Pend (P : Program) (w0 : World) (G : Gh) (w : World) (a : Act) (p : Nat × Nat × TypeId) (b : Nat) : Prop where
  val : a.tmps.getD p.2.1 undef = .pointer (some ⟨b, 0, none⟩)
  idle : Idle w0 G w b
  row : ∃ ti zv, tiOf P p.2.2 = some ti ∧ ti.zero = some zv ∧ w.heap[b]? = some (.cells zv.cells p.2.2 (0, 0))
theorem matA_ok : ∀ (l : AlL) {G : Gh} {σ σm : AS} (B : Nat → Nat), Rel w0 F0 Fp X G w a σ → (∀ p ∈ l, Pend P w0 G w a p (B p.1)) → (l.map fun p => B p.1).Nodup → matA P l σ = some σm → ∃ G', Rel w0 F0 Fp X G' w a σm
  | [], G, σ, σm, B, h, _, _, hm => ⟨G, by obtain rfl := Option.some.inj hm; exact h⟩
  | p :: l, G, σ, σm, B, h, hp, hn, hm => by
    unfold matA at hm
    split at hm
    · rename_i z hz
      split at hm
      · rename_i cs hcs
        obtain ⟨hv, hi, ti, zv, hti, hzv, hb⟩ := hp p (List.mem_cons_self ..)
        obtain ⟨ti', zv', hti', hzv', rfl⟩ := zeroOf_ok hz
        rw [hti] at hti'
        obtain rfl := Option.some.inj hti'
        rw [hzv] at hzv'
        obtain rfl := Option.some.inj hzv'
        obtain ⟨h1, h2, _⟩ := cellsOf_ok (ofVh_ok ti.hints G w zv) hcs
        obtain ⟨hr, hvr⟩ := h.adopt hi hb h1 fun k hk => (h2 k hk).1
        simp only [List.map_cons, List.nodup_cons] at hn
        refine matA_ok l B (hr.told (by rw [hv]; exact hvr)) (fun q hq => ?_) hn.2 hm
        obtain ⟨g1, g2, g3⟩ := hp q (List.mem_cons_of_mem _ hq)
        exact ⟨g1, g2.adopt fun e => hn.1 (List.mem_map.2 ⟨q, hq, e⟩), g3⟩
      · cases hm
    · cases hm
/-- The allocs that are done, and their blocks. -/
def Pends (P : Program) (w0 : World) (Al : AlL) (L : Array Bool) (G : Gh) (w : World) (a : Act) : Prop := ∃ B : Nat → Nat, (∀ p ∈ Al, L.getD p.1 false = true → Pend P w0 G w a p (B p.1)) ∧
  ∀ p ∈ Al, ∀ q ∈ Al, L.getD p.1 false = true → L.getD q.1 false = true → B p.1 = B q.1 → p.1 = q.1
theorem put_other {d : Option Nat} {x : Value} {k : Nat} (h : d ≠ some k) : (a.put d x).tmps.getD k undef = a.tmps.getD k undef := by
  cases d with
  | none => rfl
  | some j =>
    have hne : j ≠ k := fun e => h (by rw [e])
    simp only [Act.put]
    simp [Array.getD_eq_getD_getElem?, Array.getElem?_setIfInBounds_ne hne]
theorem anyT_ok {Al : AlL} (hΓ : GoodEnv P Γ) (hg : ∀ (j : Nat) (oj : Oper), ops[j]? = some oj → oj.guard = none) (hz : ∀ p ∈ Al, ∃ ti zv, tiOf P p.2.2 = some ti ∧ ti.zero = some zv)
    (hAl : ∀ (i : Nat) (o : Oper), ops[i]? = some o → isAlloc o = true → ∃ p ∈ Al, p.1 = i ∧ o.dst = some p.2.1 ∧ o.op = .alloc p.2.2) (hAl2 : ∀ p ∈ Al, ∃ o, ops[p.1]? = some o ∧ isAlloc o = true) (hn1 : (Al.map (·.1)).Nodup)
    (hd2 : ∀ p ∈ Al, ∀ q ∈ Al, p.2.1 = q.2.1 → p.1 = q.1) (hst : ∀ (j : Nat) (oj : Oper), ops[j]? = some oj → isStore oj = true → ∀ p ∈ Al, reach ops ops.size p.1 j = true)
    (hda : ∀ (i : Nat) (o : Oper), ops[i]? = some o → isStore o = false → isAlloc o = false → ∀ p ∈ Al, o.dst ≠ some p.2.1)
    {Q : Exit → Act → World → Prop} (hQ : ∀ G w a σ, Rel w0 F0 Fp X G w a σ → K σ → Q .normal a w) : ∀ (f : Nat) (mat : Bool) (L : Array Bool) {G : Gh} {w : World} {a : Act} {σ : AS}, Cl ops L → (mat = false → Pends P w0 Al L G w a) → Rel w0 F0 Fp X G w a σ →
    anyT P Γ Al W ops K f mat L σ → wpAny P .any ops Q f L a w
  | 0, mat, L, _, _, _, _, _, _, hr, h => ⟨h.1, hQ _ _ _ _ hr h.2.2⟩
  | f + 1, mat, L, G, w, a, σ, hcl, hp, hr, h => ⟨fun h0 => hQ _ _ _ _ hr (h.1 h0).2, fun i hi => by
    obtain ⟨o, ho, hs⟩ := h.2 i hi
    unfold wpOp
    rw [ho]
    simp only
    rw [if_pos (by simp [Region.wanted, hg i o ho])]
    have again := fun mat' {G' : Gh} {w' : World} {a' : Act} {σ' : AS} hq hr' hK => anyT_ok hΓ hg hz hAl hAl2 hn1 hd2 hst hda hQ f mat' (L.setIfInBounds i true) (G := G') (w := w') (a := a') (σ := σ') (hcl.set hi) hq hr' hK
    rcases hs with ⟨hns, hal, r, hd, hy, hK⟩ | ⟨hm, σm, σ', hmat, hv, _, hK⟩
    · rcases hy with ⟨ha, rfl⟩ | ⟨ha, hy⟩
      · obtain ⟨p, hpA, rfl, hdst, hop⟩ := hAl i o ho ha
        have hmat := hal ha
        obtain ⟨ti, zv, hti, hzv⟩ := hz p hpA
        refine .inl ?_
        unfold Oper.wp
        have hrun : (execOp a.eval o).run P w = .ok (.value (.pointer (some ⟨w.heap.size, 0, none⟩))) (w.alloc (.cells zv.cells p.2.2)) := by
          simp only [execOp, hop, Instr.alloc, Sem.run_bind, zero_run hti hzv, Result.andThen_ok, newVar, newRow, run_newObj, Sem.run_pure, World.alloc_eq]
        rw [hrun, Oper.upon_value]
        have hb := alloc_below w (.cells zv.cells p.2.2)
        refine again mat (fun _ => ?_) (putO_ok (hr.below hb) (VR.any _) hd) hK
        obtain ⟨B, g1, g2⟩ := hp hmat
        have hun := (mem_ready.1 hi).1
        have hnot : L.getD p.1 false = true → False := fun q => by
          rcases Nat.lt_or_ge p.1 L.size with h' | h'
          · simp [h'] at hun q; rw [hun] at q; cases q
          · simp [Array.getElem?_eq_none h'] at q
        have hold : ∀ q ∈ Al, q.1 ≠ p.1 → (L.setIfInBounds p.1 true).getD q.1 false = true → L.getD q.1 false = true := fun q _ hne hq => by
          rwa [getD_set_ne false (fun e => hne e.symm)] at hq
        refine ⟨fun k => if k = p.1 then w.heap.size else B k, fun q hq hql => ?_, fun q hq q2 hq2 h1 h2 he => ?_⟩
        · by_cases hqp : q.1 = p.1
          · have hqq : q = p := by
              obtain ⟨x, hx, rfl⟩ := List.getElem_of_mem hq
              obtain ⟨y, hy, rfl⟩ := List.getElem_of_mem hpA
              have := List.pairwise_iff_getElem.1 hn1
              rcases Nat.lt_trichotomy x y with c | c | c
              · exact (this x y (by simpa using hx) (by simpa using hy) c (by rw [List.getElem_map, List.getElem_map]; exact hqp)).elim
              · subst c; rfl
              · exact (this y x (by simpa using hy) (by simpa using hx) c (by rw [List.getElem_map, List.getElem_map]; exact hqp.symm)).elim
            subst hqq
            show Pend P w0 G _ _ q (if q.1 = q.1 then w.heap.size else B q.1)
            rw [if_pos rfl]
            refine ⟨?_, ⟨by simp, hr.mm.size, hr.mm.linl _ (Nat.le_refl _), ?_, fun o' ho' e => ?_⟩, ti, zv, hti, hzv, heap_alloc_new w _⟩
            · rw [hdst, put_getD _ _ _ (by rw [hr.sz]; exact hd _ hdst), if_pos rfl]
            · rcases Nat.eq_zero_or_pos (G.fr w.heap.size) with h2 | h2
              · exact h2
              · have := hr.mm.frl _ h2; omega
            · have := (hr.mm.obl o' ho').2.2.1; omega
          · show Pend P w0 G _ _ q (if q.1 = p.1 then w.heap.size else B q.1)
            rw [if_neg hqp]
            obtain ⟨v1, v2, v3⟩ := g1 q hq (hold q hq hqp hql)
            refine ⟨?_, ⟨by have := v2.lt; simp; omega, v2.new, v2.lin, v2.fr, v2.ob⟩, ?_⟩
            · rw [hdst, put_other (fun e => hqp (hd2 q hq p hpA (Option.some.inj e).symm))]; exact v1
            · obtain ⟨ti', zv', c1, c2, c3⟩ := v3
              exact ⟨ti', zv', c1, c2, by rw [hb.block _ v2.lt]; exact c3⟩
        · simp only at he
          by_cases c1 : q.1 = p.1 <;> by_cases c2 : q2.1 = p.1
          · rw [c1, c2]
          · rw [if_pos c1, if_neg c2] at he
            have := (g1 q2 hq2 (hold q2 hq2 c2 h2)).idle.lt; omega
          · rw [if_neg c1, if_pos c2] at he
            have := (g1 q hq (hold q hq c1 h1)).idle.lt; omega
          · rw [if_neg c1, if_neg c2] at he
            exact g2 q hq q2 hq2 (hold q hq c1 h1) (hold q2 hq2 c2 h2) he
      · obtain ⟨x, hx, hvr⟩ := popAll_ok hr hy
        refine .inl ?_
        unfold Oper.wp
        rw [hx _ (Ext.refl _), Oper.upon_value]
        refine again mat (fun hm => ?_) (putO_ok hr hvr hd) hK
        obtain ⟨B, g1, g2⟩ := hp hm
        have hni : ∀ p ∈ Al, p.1 ≠ i := fun p hpA e => by
          obtain ⟨o', h1, h2⟩ := hAl2 p hpA
          rw [e, ho] at h1
          obtain rfl := Option.some.inj h1
          rw [ha] at h2; cases h2
        have hold : ∀ q ∈ Al, (L.setIfInBounds i true).getD q.1 false = true → L.getD q.1 false = true := fun q hq h => by
          rwa [getD_set_ne false (fun e => hni q hq e.symm)] at h
        refine ⟨B, fun q hq hql => ?_, fun q hq q2 hq2 h1 h2 he => g2 q hq q2 hq2 (hold q hq h1) (hold q2 hq2 h2) he⟩
        obtain ⟨v1, v2, v3⟩ := g1 q hq (hold q hq hql)
        exact ⟨by rw [put_other (hda i o ho hns ha q hq)]; exact v1, v2, v3⟩
    · obtain ⟨G', hr'⟩ : ∃ G', Rel w0 F0 Fp X G' w a σm := by
        cases mat with
        | true => exact ⟨G, by obtain rfl := Option.some.inj hmat; exact hr⟩
        | false =>
          obtain ⟨B, g1, g2⟩ := hp rfl
          have hdone : ∀ p ∈ Al, L.getD p.1 false = true := fun p hpA => reach_done hcl _ _ (Dep.of_ready hi) (hst i o ho hm p hpA)
          refine matA_ok Al B hr (fun p hpA => g1 p hpA (hdone p hpA)) ?_ hmat
          rw [List.Nodup, List.pairwise_map]
          rw [List.Nodup, List.pairwise_map] at hn1
          refine hn1.imp_of_mem fun {p q} hpA hqA hne he => hne (g2 p hpA q hqA (hdone p hpA) (hdone q hqA) he)
      exact .inl (vcOp_ok hΓ hr' (fun G'' w' a' s hr'' hs' => again true (fun e => by cases e) hr'' (by rw [hs']; exact hK)) hv)⟩
def isAl (o : Oper) (p : Nat × Nat × TypeId) : Bool := (match o.op with | .alloc e => e == p.2.2 | _ => false) && o.dst == some p.2.1
def twoB (ops : Array Oper) (Al : AlL) : Bool := Region.lexB .any ops && memT ops && (ops.all fun o => o.guard.isNone && (!isStore o || o.dst.isNone)) &&
  ((List.range ops.size).all fun i => match ops[i]? with
    | some o => (!isAlloc o || Al.any fun p => p.1 == i && isAl o p) && (!isStore o || Al.all fun p => reach ops ops.size p.1 i) && (isStore o || isAlloc o || Al.all fun p => !(o.looksAt ops).contains p.2.1 && o.dst != some p.2.1)
    | none => true) &&
  (Al.all fun p => match ops[p.1]? with | some o => isAlloc o | none => false) && decide (Al.map (·.1)).Nodup && (Al.all fun p => Al.all fun q => !(p.2.1 == q.2.1) || p.1 == q.1)
/-- A region that draws its order, with allocs: in the order of the text. -/
theorem awp_two (hΓ : GoodEnv P Γ) {id : Nat} {l : List Oper} {Q : Exit → AS → Prop} (Al : AlL) (W : List Nat) (hm : P.follows .mixedOrders = true) (hB : twoB (List.toArray l) Al = true) (hfr : Fresh σ) (hz : ∀ p ∈ Al, ∃ ti zv, tiOf P p.2.2 = some ti ∧ ti.zero = some zv)
    (hv : vcOpsT P Γ Al W (List.toArray l) false 0 l (Q .normal) σ) : AWP P (.region id (List.toArray l) true) Q σ := by
  intro w0 F0 Fp X G w a hr
  simp only [twoB, Region.lexB, Bool.and_eq_true] at hB
  obtain ⟨⟨⟨⟨⟨⟨⟨hB0, hB1⟩, hB2⟩, hB3⟩, hB4⟩, hB5⟩, hB6⟩, hB7⟩ := hB
  have c3 : ∀ (j : Nat) (oj : Oper), (List.toArray l)[j]? = some oj → oj.guard = none ∧ (isStore oj = true → oj.dst = none) := fun j oj hj => by
    have h1 := (Array.all_eq_true'.1 hB3) oj (Array.mem_of_getElem? hj)
    simp only [Bool.and_eq_true, Bool.or_eq_true, Bool.not_eq_true', Option.isNone_iff_eq_none] at h1
    refine ⟨h1.1, fun hs => ?_⟩
    rcases h1.2 with h2 | h2
    · rw [hs] at h2; cases h2
    · exact h2
  have c4 : ∀ (j : Nat) (oj : Oper), (List.toArray l)[j]? = some oj → (isAlloc oj = true → ∃ p ∈ Al, p.1 = j ∧ isAl oj p = true) ∧ (isStore oj = true → ∀ p ∈ Al, reach (List.toArray l) (List.toArray l).size p.1 j = true) ∧ (isStore oj = false → isAlloc oj = false → ∀ p ∈ Al, p.2.1 ∉ oj.looksAt (List.toArray l) ∧ oj.dst ≠ some p.2.1) := fun j oj hj => by
    have h1 := List.all_eq_true.1 hB4 j (by simpa using (Array.getElem?_eq_some_iff.1 hj).1)
    rw [hj] at h1
    simp only [Bool.and_eq_true, Bool.or_eq_true, Bool.not_eq_true', List.any_eq_true, List.all_eq_true, beq_iff_eq] at h1
    obtain ⟨⟨g1, g2⟩, g3⟩ := h1
    refine ⟨fun ha => ?_, fun hs p hp => ?_, fun hs ha p hp => ?_⟩
    · rcases g1 with g1 | ⟨p, h1, h2, h3⟩
      · rw [ha] at g1; cases g1
      · exact ⟨p, h1, h2, h3⟩
    · rcases g2 with g2 | g2
      · rw [hs] at g2; cases g2
      · exact g2 p hp
    · rcases g3 with (g3 | g3) | g3
      · rw [hs] at g3; cases g3
      · rw [ha] at g3; cases g3
      · have := g3 p hp
        exact ⟨by simpa using this.1, by simpa using this.2⟩
  have hcl : Cl (List.toArray l) (Array.replicate (List.toArray l).size false) := fun k hk => by
    exfalso
    simp [Array.getElem?_replicate] at hk
    split at hk <;> simp at hk
  show (Code.region id (List.toArray l) true).wp P _ a w
  refine wp_region_any hm ?_
  have h1 := anyT_lex (P := P) (Γ := Γ) (K := Q .normal) (W := W) (Al := Al) hB2 (fun j oj hj => ⟨(c3 j oj hj).2, (c4 j oj hj).2.2⟩) l false 0 (Array.replicate (List.toArray l).size false) σ hcl (fun _ => hfr) (by simp) (fun j hj => absurd hj (Nat.not_lt_zero _)) (by simpa using hB1) hv
  have hb : Below w.heap.size w { w with drawn := w.drawn + 1 } := Below.drew (Below.refl _ _)
  refine anyT_ok hΓ (fun j oj hj => (c3 j oj hj).1) hz (fun i o ho ha => ?_) (fun p hp => ?_) (of_decide_eq_true hB6) (fun p hp q hq he => ?_) (fun j oj hj hs => (c4 j oj hj).2.1 hs) (fun j oj hj hs ha p hp => ((c4 j oj hj).2.2 hs ha p hp).2) (fun G w a σ h1 h2 => ⟨G, σ, h1, h2⟩) _ false _ hcl (fun _ => ⟨fun _ => 0, fun p _ hq => ?_, fun p _ q _ hq _ _ => ?_⟩) (hr.below hb) (by simpa using h1)
  · obtain ⟨p, h1, h2, h3⟩ := (c4 i o ho).1 ha
    simp only [isAl, Bool.and_eq_true, beq_iff_eq] at h3
    refine ⟨p, h1, h2, h3.2, ?_⟩
    have h4 := h3.1
    split at h4
    · rename_i e he
      rw [he]; simp at h4; rw [h4]
    · cases h4
  · have h1 := List.all_eq_true.1 hB5 p hp
    split at h1
    · rename_i o ho; exact ⟨o, ho, h1⟩
    · cases h1
  · have h1 := List.all_eq_true.1 (List.all_eq_true.1 hB7 p hp) q hq
    simp only [Bool.or_eq_true, Bool.not_eq_true', beq_iff_eq, beq_eq_false_iff_ne] at h1
    rcases h1 with h1 | h1
    · exact absurd he h1
    · exact h1
  · exfalso
    simp [Array.getElem?_replicate] at hq
    split at hq <;> simp at hq
  · exfalso
    simp [Array.getElem?_replicate] at hq
    split at hq <;> simp at hq
end

section
/-- The allocs of a region, out of its text. -/
def als1 (i : Nat) (o : Oper) : Option (Nat × Nat × TypeId) := match o.op, o.dst with
  | .alloc e, some d => some (i, d, e)
  | _, _ => none
def alFrom : Nat → List Oper → AlL
  | _, [] => []
  | i, o :: r => match als1 i o with
    | some p => p :: alFrom (i + 1) r
    | none => alFrom (i + 1) r
def alsOf (ops : Array Oper) : AlL := alFrom 0 ops.toList
/-- No object is told from nh on. -/
def FreshH (nh : Nat) (h : Nat → Option AO) : Prop := ∀ o, nh ≤ o → h o = none
variable {P : Program} [Tabs] {Γ : Env} {ops : Array Oper} {K : AS → Prop} {W : List Nat} {Al : AlL} {σ : AS}
theorem matA_hz : ∀ (l : AlL) {σ σm : AS}, matA P l σ = some σm → ∀ p ∈ l, ∃ ti zv, tiOf P p.2.2 = some ti ∧ ti.zero = some zv
  | [], _, _, _, p, hp => by cases hp
  | q :: l, σ, σm, h, p, hp => by
    unfold matA at h
    split at h
    · rename_i z hz
      split at h
      · rcases List.mem_cons.1 hp with rfl | hp
        · obtain ⟨ti, zv, h1, h2, _⟩ := zeroOf_ok hz
          exact ⟨ti, zv, h1, h2⟩
        · exact matA_hz l h p hp
      · cases h
    · cases h
theorem vcOpsT_hz : ∀ (l : List Oper) {i : Nat} {σ : AS}, vcOpsT P Γ Al W ops false i l K σ → ∀ p ∈ Al, ∃ ti zv, tiOf P p.2.2 = some ti ∧ ti.zero = some zv
  | [], _, _, h => by cases h.1
  | o :: l, i, σ, h => by
    unfold vcOpsT at h
    cases ha : isAlloc o with
    | true =>
      rw [ha] at h
      simp only [cond_true] at h
      exact vcOpsT_hz l (cont_putO h.2).2
    | false =>
      rw [ha] at h
      simp only [cond_false] at h
      cases hm : isStore o with
      | true =>
        rw [hm] at h
        simp only [cond_true] at h
        obtain ⟨σm, h1, _⟩ := h
        exact matA_hz Al (by simpa using h1)
      | false =>
        rw [hm] at h
        simp only [cond_false] at h
        obtain ⟨v, _, _, hc⟩ := h
        exact vcOpsT_hz l (cont_putO hc).2
/-- A region that draws its order, with allocs. -/
theorem awp_twoT (hΓ : GoodEnv P Γ) {id : Nat} {l : List Oper} {Q : Exit → AS → Prop} (W : List Nat) (hm : P.follows .mixedOrders = true) (hB : twoB (List.toArray l) (alsOf (List.toArray l)) = true) (hfr : FreshH σ.m.nh σ.m.h)
    (hv : vcOpsT P Γ (alsOf (List.toArray l)) W (List.toArray l) false 0 l (Q .normal) σ) : AWP P (.region id (List.toArray l) true) Q σ :=
  awp_two hΓ _ W hm hB hfr (vcOpsT_hz l hv) hv

variable {mat : Bool} {i : Nat} {r : List Oper} {d : Option Nat} {ty : TypeId} {pos : String} {after : Array Edge} {g : Option (Nat × Bool)}
variable {n nh nl : Nat} {t : Nat → AV} {hd : Nat → Nat → AV} {h : Nat → Option AO} {fm : Nat → Nat} {lv : Nat → Option (Nat × Nat)} {mu : Bool}
end
end Go.Rw
end

-- RwWide
section
namespace Go.Rw
open Go Go.RowKit
set_option linter.unusedSimpArgs false
set_option linter.unusedVariables false
set_option linter.unusedSectionVars false
section
variable {P : Program} [Tabs] {Γ : Env} {ops : Array Oper} {K : AS → Prop} {W : List Nat} {σ : AS}
/-- A listed region: with stores and calls; with allocs (a first number of a million, or more). -/
def drawnE [Tabs] (P : Program) (Γ : Env) (W Sc : List Nat) (ops : Array Oper) (K : AS → Prop) (σ : AS) : Prop := match Sc with
  | [] => P.follows .mixedOrders = true ∧ lexW W ops [] = true ∧ vcOpsV P Γ W [] ops 0 ops.toList K σ
  | i :: r => if i < 1000000 then P.follows .mixedOrders = true ∧ lexW W ops (i :: r) = true ∧ vcOpsV P Γ W (i :: r) ops 0 ops.toList K σ
    else P.follows .mixedOrders = true ∧ twoB ops (alsOf ops) = true ∧ FreshH σ.m.nh σ.m.h ∧ vcOpsT P Γ (alsOf ops) W ops false 0 ops.toList K σ
section
variable {Ws : List (Nat × List Nat × List Nat)} {Q : Exit → AS → Prop}
omit [Tabs] in
theorem lookup_cons {k i : Nat} {W : List Nat × List Nat} : List.lookup k ((i, W) :: Ws) = if k = i then some W else List.lookup k Ws := by
  rw [List.lookup_cons]
  by_cases h : k = i
  · simp [h]
  · rw [if_neg h, show (k == i) = false by simpa using h]
omit [Tabs] in
theorem lookup_nil {k : Nat} : List.lookup k ([] : List (Nat × List Nat × List Nat)) = none := rfl

end
end
mutual
/-- Two turns of one row, one behind the other: the later one. -/
theorem turn_turn {fm : Nat → Nat} {l n : Nat} {zs zs' : List AV} (hz : zs.length = n) : ∀ a : AV, (a.turn fm l n zs).turn fm l n zs' = a.turn fm l n zs'
  | .any => rfl
  | .v x => rfl
  | .agg cs => by simp only [AV.turn, turnL_turn hz cs]
  | .tup cs => by simp only [AV.turn, turnL_turn hz cs]
  | .sl l' sz xs => by
    simp only [AV.turn]
    by_cases h1 : fm l' = fm l
    · rw [if_pos h1, if_pos h1]
      by_cases h2 : l' = l ∧ xs.length = n
      · rw [if_pos h2, if_pos h2]
        simp only [AV.turn]
        rw [if_pos h1, if_pos ⟨h2.1, hz⟩]
      · rw [if_neg h2, if_neg h2]; rfl
    · rw [if_neg h1, if_neg h1]
      simp only [AV.turn]
      rw [if_neg h1]
  | .ep l' sz xs i j => by
    simp only [AV.turn]
    by_cases h1 : fm l' = fm l
    · rw [if_pos h1, if_pos h1]
      by_cases h2 : l' = l ∧ xs.length = n
      · rw [if_pos h2, if_pos h2]
        simp only [AV.turn]
        rw [if_pos h1, if_pos ⟨h2.1, hz⟩]
      · rw [if_neg h2, if_neg h2]; rfl
    · rw [if_neg h1, if_neg h1]
      simp only [AV.turn]
      rw [if_neg h1]
  | .ptr .. => rfl
  | .mp .. => rfl
  | .fn f cs => by simp only [AV.turn, turnL_turn hz cs]
theorem turnL_turn {fm : Nat → Nat} {l n : Nat} {zs zs' : List AV} (hz : zs.length = n) : ∀ cs : List AV, AV.turnL fm l n zs' (AV.turnL fm l n zs cs) = AV.turnL fm l n zs' cs
  | [] => rfl
  | a :: r => by simp only [AV.turnL, turn_turn hz a, turnL_turn hz r]
end
set_option linter.defProp false
/-- The rules for such regions. -/
def wideRules :=
  (And.intro @mkV_f (And.intro @wv_nil (And.intro @wv_new (And.intro @wv_assign (And.intro @wv_load (And.intro @wv_field (And.intro @wv_call (And.intro @stepV_f (And.intro @underL_ptr @underF_ptr)))))))))
end Go.Rw
end
