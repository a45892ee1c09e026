/-
  Arguments of any shape of numbers, flags, texts, slices and structs, opened. Proved over any program.
-/
import Derived.Test.YtnpofobcbfbfnaaDoorRwG
import Derived.Deep.Slices
set_option linter.unusedSimpArgs false
set_option linter.unusedVariables false
set_option linter.defProp false
set_option linter.unusedSectionVars false

-- RwRow4
section
namespace Go.Rw
open Go Go.RowKit Go.ChangeShapes Go.WideShapes Go.ChangeAt Go.Deep
set_option linter.unusedSimpArgs false
set_option linter.unusedVariables false

/-- A shape of data. -/
inductive Ty where
  | int (k : IntKind)
  | bool
  | str
  | slc (e : Ty)
  | st (fs : List Ty)
mutual
def Ty.cells : Ty → Nat
  | .st fs => Ty.cellsL fs
  | _ => 1
def Ty.cellsL : List Ty → Nat
  | [] => 0
  | f :: r => f.cells + Ty.cellsL r
end
mutual
/-- A type of the program is of a shape. -/
def isTy (P : Program) : TypeId → Ty → Bool
  | t, .int k => (match P.underlying t with | some (.int k') => k' == k | _ => false) && P.cellsOf t == 1
  | t, .bool => (match P.underlying t with | some .bool => true | _ => false) && P.cellsOf t == 1
  | t, .str => (match P.underlying t with | some .string => true | _ => false) && P.cellsOf t == 1
  | t, .slc e => P.cellsOf t == 1 && (match P.underlying t with | some (.slice u) => isTy P u e && decide (0 < e.cells) | _ => false)
  | t, .st fs => P.cellsOf t == Ty.cellsL fs && (match P.underlying t with | some (.struct l) => isTyL P l.toList 0 fs | _ => false)
def isTyL (P : Program) : List Field → Nat → List Ty → Bool
  | [], _, [] => true
  | f :: l, o, t :: fs => isTy P f.type t && f.offset == o && isTyL P l (o + t.cells) fs
  | _, _, _ => false
end
/-- An element of a slice, of its cells. -/
def wrapT : Ty → List AV → AV
  | .st _, cs => .agg cs
  | _, cs => cs.headD .any
mutual
/-- Cells that hold data of a shape. -/
def Fits : Ty → List AV → Prop
  | .int k, cs => ∃ n, cs = [.v (.int k n)] ∧ (Lit.int k n).wf = true
  | .bool, cs => ∃ b, cs = [.v (.bool b)]
  | .str, cs => ∃ l : List UInt8, cs = [.v (sv l)] ∧ l.length ≤ 9223372036854775807
  | .slc e, cs => ∃ xs, cs = [.sl 0 e.cells xs] ∧ xs.length ≤ 9223372036854775807 ∧ ∀ x ∈ xs, ∃ ds, Fits e ds ∧ x = wrapT e ds
  | .st fs, cs => FitsL fs cs
def FitsL : List Ty → List AV → Prop
  | [], cs => cs = []
  | f :: r, cs => ∃ a b, cs = a ++ b ∧ Fits f a ∧ FitsL r b
end
mutual
theorem Fits.len : ∀ (t : Ty) (cs : List AV), Fits t cs → cs.length = t.cells ∧ ∀ c ∈ cs, c.er = c ∧ c.cells = [c]
  | .int k, cs, h => by
    rw [Fits] at h
    obtain ⟨n, rfl, _⟩ := h; simp [Ty.cells, AV.er, AV.cells]
  | .bool, cs, h => by
    rw [Fits] at h
    obtain ⟨n, rfl⟩ := h; simp [Ty.cells, AV.er, AV.cells]
  | .str, cs, h => by
    rw [Fits] at h
    obtain ⟨n, rfl, _⟩ := h; simp [Ty.cells, AV.er, AV.cells]
  | .slc e, cs, h => by
    rw [Fits] at h
    obtain ⟨xs, rfl, _⟩ := h; simp [Ty.cells, AV.er, AV.cells]
  | .st fs, cs, h => by
    rw [Fits] at h
    rw [Ty.cells]; exact FitsL.len fs cs h
theorem FitsL.len : ∀ (fs : List Ty) (cs : List AV), FitsL fs cs → cs.length = Ty.cellsL fs ∧ ∀ c ∈ cs, c.er = c ∧ c.cells = [c]
  | [], cs, h => by
    rw [FitsL] at h
    subst h; simp [Ty.cellsL]
  | f :: r, cs, h => by
    rw [FitsL] at h
    obtain ⟨a, b, rfl, h1, h2⟩ := h
    obtain ⟨i1, i2⟩ := Fits.len f a h1
    obtain ⟨j1, j2⟩ := FitsL.len r b h2
    refine ⟨by rw [List.length_append, Ty.cellsL, i1, j1], fun c hc => ?_⟩
    rcases List.mem_append.1 hc with hc | hc
    · exact i2 c hc
    · exact j2 c hc
end
theorem wrap_cells {t : Ty} {cs : List AV} (h : Fits t cs) : (wrapT t cs).cells = cs ∧ (wrapT t cs).er = wrapT t cs := by
  obtain ⟨h1, h2⟩ := Fits.len t cs h
  have herL : ∀ l : List AV, (∀ c ∈ l, c.er = c) → AV.erL l = l := by
    intro l
    induction l with
    | nil => intro _; rfl
    | cons a r ih => intro hl; rw [AV.erL, hl a (by simp), ih (fun c hc => hl c (by simp [hc]))]
  cases t with
  | st fs =>
    refine ⟨rfl, ?_⟩
    show AV.agg (AV.erL cs) = AV.agg cs
    rw [herL cs (fun c hc => (h2 c hc).1)]
  | _ =>
    simp only [Ty.cells] at h1
    match cs, h1 with
    | [c], _ => exact ⟨(h2 c (by simp)).2, (h2 c (by simp)).1⟩
theorem flat_at {n : Nat} : ∀ (xs : List AV) (i j : Nat), (∀ x ∈ xs, x.cells.length = n) → i < xs.length → j < n → (flat xs).getD (i * n + j) .any = ((xs.getD i .any).cells).getD j .any
  | [], i, j, _, h, _ => by simp at h
  | x :: r, 0, j, h, _, hj => by
    have h1 := h x (by simp)
    simp only [flat, List.flatMap_cons, Nat.zero_mul, Nat.zero_add, List.getD_cons_zero]
    rw [List.getD_eq_getElem?_getD, List.getD_eq_getElem?_getD, List.getElem?_append_left (by omega)]
  | x :: r, i + 1, j, h, hi, hj => by
    have h1 := h x (by simp)
    have ih := flat_at r i j (fun y hy => h y (by simp [hy])) (by simpa using hi) hj
    simp only [List.getD_cons_succ]
    rw [← ih]
    simp only [flat, List.flatMap_cons]
    rw [List.getD_eq_getElem?_getD, List.getD_eq_getElem?_getD, List.getElem?_append_right (by rw [h1, Nat.add_mul]; omega), h1]
    congr 2
    rw [Nat.add_mul]; omega
section
variable {H : Type} {enc : TypeId × Value → H} {P : Program} {W : World}
/-- Cells told. -/
def Told (W : World) (cs : List Value) (as : List AV) : Prop := cs.length = as.length ∧ ∀ k, k < as.length → (cs.getD k undef).oneCell' = true ∧ VR (Gin (Fw W) none) W (cs.getD k undef) (as.getD k .any)
theorem Told.one {v : Value} {a : AV} (h1 : v.oneCell' = true) (h2 : VR (Gin (Fw W) none) W v a) : Told W [v] [a] := by
  refine ⟨rfl, fun k hk => ?_⟩
  have : k = 0 := by simpa using hk
  subst this
  exact ⟨h1, h2⟩
theorem Told.app {a b : List Value} {x y : List AV} (h1 : Told W a x) (h2 : Told W b y) : Told W (a ++ b) (x ++ y) := by
  refine ⟨by rw [List.length_append, List.length_append, h1.1, h2.1], fun k hk => ?_⟩
  rw [List.length_append] at hk
  by_cases h : k < x.length
  · rw [List.getD_eq_getElem?_getD, List.getD_eq_getElem?_getD, List.getElem?_append_left (by rw [h1.1]; exact h), List.getElem?_append_left h]
    have := h1.2 k h
    rwa [List.getD_eq_getElem?_getD, List.getD_eq_getElem?_getD] at this
  · rw [List.getD_eq_getElem?_getD, List.getD_eq_getElem?_getD, List.getElem?_append_right (by rw [h1.1]; omega), List.getElem?_append_right (by omega), h1.1]
    have := h2.2 (k - x.length) (by omega)
    rwa [List.getD_eq_getElem?_getD, List.getD_eq_getElem?_getD] at this
theorem spot_none {a : Addr} {v : Value} (h1 : W.cell? a = some v) (h4 : v.oneCell' = true) : a.spot = none := by
  simp only [World.cell?] at h1
  cases hsp : a.spot with
  | none => rfl
  | some x =>
    simp [hsp] at h1
    split at h1 <;> first | (cases h1; done) | (rw [← Option.some.inj h1] at h4; cases h4; done) | skip
    all_goals (exfalso; simp_all)
/-- A slice, of its elements. -/
theorem told_slice {a : Addr} {len cap c : Nat} {e : Ty} (hc : e.cells = c) (hc0 : 0 < c) (hl : len ≤ cap) {f : Nat → List AV} (hf : ∀ i, i < len → ∃ cs', W.cells? 0 (a.add (i * c)) c = some cs' ∧ Fits e (f i) ∧ Told W cs' (f i)) :
    VR (Gin (Fw W) none) W (.slice (some a) len cap) (.sl 0 c ((List.range len).map fun i => wrapT e (f i))) := by
  generalize hX : ((List.range len).map fun i => wrapT e (f i)) = xs
  have hcl : xs.length = len := by rw [← hX]; simp
  have hget : ∀ i, i < len → xs.getD i .any = wrapT e (f i) := fun i hi => by
    rw [← hX, List.getD_eq_getElem?_getD]; simp [hi]
  have hmem : ∀ x ∈ xs, x.cells.length = c ∧ x.er = x := fun x hx => by
    rw [← hX] at hx
    obtain ⟨i, hi, rfl⟩ := List.mem_map.1 hx
    obtain ⟨cs', _, h2, _⟩ := hf i (List.mem_range.1 hi)
    obtain ⟨w1, w2⟩ := wrap_cells h2
    exact ⟨by rw [w1, (Fits.len _ _ h2).1, hc], w2⟩
  have at_ : ∀ k, k < len * c → ∃ u, W.cell? (a.add k) = some u ∧ u.oneCell' = true ∧ VR (Gin (Fw W) none) W u ((flat xs).getD k .any) := by
    intro k hk
    have hik : k / c < len := Nat.div_lt_of_lt_mul (by rw [Nat.mul_comm]; exact hk)
    have hj : k % c < c := Nat.mod_lt _ hc0
    obtain ⟨cs', h1, h2, h3⟩ := hf (k / c) hik
    obtain ⟨_, hlen, hcell⟩ := World.cells?_some h1
    have h4 := hcell (k % c) hj
    rw [add_add] at h4
    have hk2 : k / c * c + k % c = k := by rw [Nat.mul_comm]; exact Nat.div_add_mod k c
    rw [hk2] at h4
    have h5 := (Fits.len _ _ h2).1
    obtain ⟨h6, h7⟩ := h3.2 (k % c) (by omega)
    rw [List.getElem?_eq_getElem (by omega)] at h4
    have h8 : cs'.getD (k % c) undef = cs'[k % c] := by rw [List.getD_eq_getElem?_getD, List.getElem?_eq_getElem (by omega)]; rfl
    rw [h8] at h6 h7
    refine ⟨_, h4, h6, ?_⟩
    have h9 := flat_at xs (k / c) (k % c) (fun x hx => (hmem x hx).1) (by omega) hj
    rw [hk2] at h9
    rw [h9, hget _ hik, (wrap_cells h2).1]
    exact h7
  have hspot : 0 < len → a.spot = none := fun h0 => by
    obtain ⟨u, h1, h2, _⟩ := at_ 0 (Nat.mul_pos h0 hc0)
    have h3 : a.add 0 = a := by simp [Addr.add]
    rw [h3] at h1
    exact spot_none h1 h2
  obtain ⟨g, off, spot⟩ := a
  simp only at hspot
  have hadd : ∀ j, 0 < len → (⟨g, off, spot⟩ : Addr).add j = ⟨g, off + j, none⟩ := fun j h0 => by
    rw [hspot h0]
    unfold Addr.add
    by_cases hj : j = 0 <;> simp [hj]
  have cell : ∀ k, k < len * c → ∃ u, W.cell? ⟨g, off + k, none⟩ = some u ∧ u.oneCell' = true ∧ VR (Gin (Fw W) none) W u ((flat xs).getD k .any) := by
    intro k hk
    have hlen0 : 0 < len := by
      apply Nat.pos_of_ne_zero
      rintro rfl
      simp at hk
    have := at_ k hk
    rw [hadd _ hlen0] at this
    exact this
  obtain ⟨us, hus⟩ := choose_lt (α := Value) cell
  have := VR.sl (G := Gin (Fw W) none) (w := W) (some ⟨g, off, spot⟩) cap 0 c xs g off us (show 0 < 3 by decide) (by decide) (by rw [hcl]; exact hl) (fun n e h => by cases h) ?_ hmem (fun _ => hc0) ?_ ?_
  · rw [hcl] at this; exact this
  · intro hne
    have h0 : 0 < len := by
      rw [← hcl]; exact List.length_pos_iff.2 hne
    refine ⟨by rw [hspot h0], .inr (by simp [Gin, tkBlock]), ?_⟩
    rw [hcl]
    have hp := Nat.mul_pos h0 hc0
    obtain ⟨c', _⟩ := hus (len * c - 1) (by omega)
    have := Fw_cell c'
    show off + len * c ≤ Fw W g
    omega
  · intro k hk
    rw [hcl] at hk
    exact ⟨(hus k hk).1, (hus k hk).2.1⟩
  · intro k hk
    rw [hcl] at hk
    exact (hus k hk).2.2
mutual
theorem open_ty : ∀ (ty : Ty) (t : TypeId) (fuel : Nat) (cs : List Value) (x : DataW H × List MemPlace), isTy P t ty = true → DataW.trod enc P W 0 (fun _ => true) true fuel t cs = some x → P.cellsOf t = ty.cells ∧ ∃ as, Fits ty as ∧ Told W cs as
  | .int k, t, fuel, cs, x, ht, h => by
    rw [isTy, Bool.and_eq_true, beq_iff_eq] at ht
    obtain ⟨h1, h2⟩ := ht
    split at h1
    · rename_i k' hk
      obtain rfl : k' = k := by simpa using h1
      obtain ⟨n, rfl, _, hw⟩ := DataW.trod_int hk h
      exact ⟨h2, [.v (.int k' n)], ⟨n, rfl, hw⟩, Told.one rfl (.v _)⟩
    · cases h1
  | .bool, t, fuel, cs, x, ht, h => by
    rw [isTy, Bool.and_eq_true, beq_iff_eq] at ht
    obtain ⟨h1, h2⟩ := ht
    split at h1
    · rename_i hk
      obtain ⟨b, rfl, _⟩ := DataW.trod_bool hk h
      exact ⟨h2, [.v (.bool b)], ⟨b, rfl⟩, Told.one rfl (.v _)⟩
    · cases h1
  | .str, t, fuel, cs, x, ht, h => by
    rw [isTy, Bool.and_eq_true, beq_iff_eq] at ht
    obtain ⟨h1, h2⟩ := ht
    split at h1
    · rename_i hk
      obtain ⟨b, rfl, _, hb⟩ := DataW.trod_string hk h
      refine ⟨h2, [.v (sv b.data.toList)], ⟨b.data.toList, rfl, ?_⟩, Told.one rfl (.v _)⟩
      rw [Array.length_toList]; exact hb
    · cases h1
  | .slc e, t, fuel, cs, x, ht, h => by
    rw [isTy, Bool.and_eq_true, beq_iff_eq] at ht
    obtain ⟨h2, h1⟩ := ht
    split at h1
    · rename_i u hk
      rw [Bool.and_eq_true, decide_eq_true_eq] at h1
      obtain ⟨h1, hp⟩ := h1
      refine ⟨h2, ?_⟩
      rcases open_slice hk h with ⟨rfl, hx⟩ | ⟨a, len, cap, m, n, D, Pl, rfl, hb, hl, hm, hmm, hx, hel⟩
      · refine ⟨[.sl 0 e.cells []], ⟨[], rfl, by simp, by simp⟩, Told.one rfl ?_⟩
        exact .sl none 0 0 e.cells [] 0 0 (fun _ => undef) (show 0 < 3 by decide) (by decide) (by simp) (fun n e h => by cases h) (fun h => absurd rfl h) (by simp) (fun h => absurd rfl h) (by simp) (by simp)
      · have hlm : len ≤ m := by rw [hmm]; split <;> omega
        have each : ∀ i, i < len → ∃ ds : List AV, ∃ cs', W.cells? 0 (a.add (i * e.cells)) e.cells = some cs' ∧ Fits e ds ∧ Told W cs' ds := by
          intro i hil
          obtain ⟨cs', h3, h4⟩ := hel i (by omega)
          obtain ⟨g1, ds, g2, g3⟩ := open_ty e u n cs' _ h1 h4
          rw [g1] at h3
          exact ⟨ds, cs', h3, g2, g3⟩
        obtain ⟨f, hf⟩ := choose_lt (α := List AV) each
        refine ⟨[.sl 0 e.cells ((List.range len).map fun i => wrapT e (f i))], ⟨_, rfl, ?_, ?_⟩, Told.one rfl (told_slice rfl hp hl hf)⟩
        · rw [List.length_map, List.length_range]; exact Nat.le_trans hl hm
        · intro x hx
          obtain ⟨i, hi, rfl⟩ := List.mem_map.1 hx
          obtain ⟨_, _, h5, _⟩ := hf i (List.mem_range.1 hi)
          exact ⟨f i, h5, rfl⟩
    · cases h1
  | .st fs, t, fuel, cs, x, ht, h => by
    rw [isTy, Bool.and_eq_true, beq_iff_eq] at ht
    obtain ⟨h2, h1⟩ := ht
    split at h1
    · rename_i l hk
      obtain ⟨xs, n, _, _, hcl, hxl, hall⟩ := DataW.trod_struct hk h
      refine ⟨h2, ?_⟩
      obtain ⟨as, g1, g2⟩ := open_tyL fs l.toList 0 cs n xs h1 (fun i f hf => hall i f (by simpa using hf)) (by simpa using hxl.symm) (by omega)
      refine ⟨as, by rw [Fits]; exact g1, ?_⟩
      rw [List.drop_zero, List.take_of_length_le (by omega)] at g2
      exact g2
    · cases h1
theorem open_tyL : ∀ (fs : List Ty) (l : List Field) (o : Nat) (cs : List Value) (n : Nat) (xs : List (DataW H × List MemPlace)), isTyL P l o fs = true → (∀ (i : Nat) (f : Field), l[i]? = some f → DataW.trod enc P W 0 (fun _ => true) true n f.type ((cs.drop f.offset).take (P.cellsOf f.type)) = xs[i]?) → l.length = xs.length → o + Ty.cellsL fs ≤ cs.length → ∃ as, FitsL fs as ∧ Told W ((cs.drop o).take (Ty.cellsL fs)) as
  | [], [], o, cs, n, xs, ht, h, hl, hc => ⟨[], by rw [FitsL], by rw [Ty.cellsL, List.take_zero]; exact ⟨rfl, fun k hk => by simp at hk⟩⟩
  | [], f :: l, o, cs, n, xs, ht, h, hl, hc => by simp [isTyL] at ht
  | ty :: fs, [], o, cs, n, xs, ht, h, hl, hc => by simp [isTyL] at ht
  | ty :: fs, f :: l, o, cs, n, xs, ht, h, hl, hc => by
    rw [isTyL, Bool.and_eq_true, Bool.and_eq_true, beq_iff_eq] at ht
    obtain ⟨⟨h1, h2⟩, h3⟩ := ht
    rw [Ty.cellsL] at hc
    cases xs with
    | nil => simp at hl
    | cons x xs =>
      have g0 := h 0 f rfl
      rw [List.getElem?_cons_zero] at g0
      obtain ⟨c1, as, c2, c3⟩ := open_ty ty f.type n _ x h1 g0
      obtain ⟨bs, d1, d2⟩ := open_tyL fs l (o + ty.cells) cs n xs h3 (fun i f' hf => by have := h (i + 1) f' (by simpa using hf); simpa using this) (by simpa using hl) (by omega)
      refine ⟨as ++ bs, by rw [FitsL]; exact ⟨as, bs, rfl, c2, d1⟩, ?_⟩
      rw [Ty.cellsL, h2, c1] at *
      have e : (cs.drop o).take (ty.cells + Ty.cellsL fs) = (cs.drop o).take ty.cells ++ (cs.drop (o + ty.cells)).take (Ty.cellsL fs) := by
        rw [List.take_add, List.drop_drop]
      rw [e]
      exact Told.app c3 d2
end
def strsA (l : List (List UInt8)) : List AV := l.map fun s => .v (sv s)
end
end Go.Rw
end
