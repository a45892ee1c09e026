/-
  Strings, iterators, structs, calls reckoned in place: the rules for rewriting. Proved over any program. Functions that take a slice over; functions known by what they do to the machine; calls that hand back what may be gone on with. Proved over any program. A scope with a loop by one label, and jumps ahead to others. Proved over any program. The rules for rewriting, in two bundles. Proved over any program. Numbers of fixed width, within their bounds. Plain.
-/
import Derived.Test.YtnpofobcbfbfnaaDoorRwD
import Derived.Laws.Strings
set_option linter.unusedSimpArgs false
set_option linter.unusedVariables false
set_option linter.defProp false
set_option linter.unusedSectionVars false

-- RwGo5
section
namespace Go.Rw
open Go Go.RowKit
set_option linter.unusedSimpArgs false
set_option linter.unusedVariables false

def rangeC (ti : Option TI) (x : AV) (d : Option Nat) (K : AS → Prop) (σ : AS) : Prop := match ti, x with
  | some { kind := .str, .. }, .v (.string s) => cont (σ.new (.iter s 0)) d (.ptr σ.m.nh 0) K
  | _, _ => False
def nextO (o : Option AO) (ob : Nat) (d : Option Nat) (K : AS → Prop) (σ : AS) : Prop := match o with
  | some (.iter s pos) => if pos < s.size then cont { σ with m := σ.m.setObj ob (.iter s (pos + (Utf8.decode s pos).2)) } d (.tup [.v (.bool true), .v (.int .i64 pos), .v (.int .i32 (Utf8.decode s pos).1)]) K
      else cont σ d (.tup [.v (.bool false)]) K
  | _ => False
def nextC (x : AV) (d : Option Nat) (K : AS → Prop) (σ : AS) : Prop := match x with
  | .ptr ob 0 => nextO (σ.m.h ob) ob d K σ
  | _ => False
def buildC (P : Program) (t : TypeId) (ps : List (Nat × AV)) : Option AV := buildA P t ps
def buildArr (ie : Option TI) (z : Array Value) (ps : List (Nat × AV)) : Option AV := match ie with
  | some ie => (fillA (fun i => some (i * ie.size, ie.size)) (z.toList.map ofV1) ps).map .agg
  | none => none
def buildIn (P : Program) (ti : Option TI) (ps : List (Nat × AV)) : Option AV := match ti with
  | some { kind := .st fs, zero := some (.agg z), hints, .. } => if fs.all (fun p => 0 < p.2) then (fillA (fs[·]?) (zeroL hints z.toList) ps).map .agg else none
  | some { kind := .arr _ e, zero := some (.agg z), .. } => buildArr (tiOf P e) z ps
  | _ => none
def fillB (place : Nat → Option (Nat × Nat)) (p : Option (Nat × Nat)) (c : Option (List AV)) (cs : List AV) (r : List (Nat × AV)) : Option (List AV) := match p, c with
  | some (off, size), some vs => if vs.length = size ∧ off + size ≤ cs.length then fillA place (cs.take off ++ vs ++ cs.drop (off + size)) r else none
  | _, _ => none
/-- The waiting slots, one frame more. -/
def pushH (t : Nat → AV) (hd : Nat → Nat → AV) : Nat → Nat → AV
  | 0 => t
  | j + 1 => hd j
def topH (hd : Nat → Nat → AV) : Nat → AV := hd 0
def popH (hd : Nat → Nat → AV) : Nat → Nat → AV := fun j => hd (j + 1)
def inlP (n : Nat) (d : Option Nat) (K : AS → Prop) (t : Nat → AV) (hd : Nat → Nat → AV) (m : AM) : Option (List AV) → Prop
  | some bs => cont ⟨n, t, hd, m⟩ d (oneOf bs) K
  | none => False
def inlR (P : Program) (rs : List ResultVar) (n : Nat) (d : Option Nat) (K : AS → Prop) : Exit → AS → Prop
  | .normal, σ | .ret, σ => inlP n d K (topH σ.hd) (popH σ.hd) σ.m (resL P σ rs)
  | _, _ => False

section
variable {P : Program} [Tabs] {Γ : Env} {σ : AS} {Q : Exit → AS → Prop} {K : AS → Prop} {dr : Bool} {n : Nat} {t : Nat → AV} {hd : Nat → Nat → AV} {m : AM} {d : Option Nat} {ty : TypeId} {pos : String} {after : Array Edge} {g : Option (Nat × Bool)}
variable {nh nl : Nat} {h : Nat → Option AO} {fm : Nat → Nat} {lv : Nat → Option (Nat × Nat)} {mu : Bool} {k : IntKind}

omit [Tabs] in
theorem ofV_ptr {p : Option Addr} : ofV (.pointer p) = .v (.pointer p) := rfl
omit [Tabs] in
theorem ofVh_ptr {hs : List Nat} {p : Option Addr} : ofVh hs (.pointer p) = .v (.pointer p) := rfl

-- iterators over strings
theorem op_range {t : TypeId} {x : Operand} : vcOp P Γ false σ ⟨d, .range t x, ty, pos, after, g⟩ K = rangeC (tiOf P t) (ev σ x) d K σ := by
  simp only [vcOp, true_and, rangeC]
  cases ev σ x with
  | v y =>
    cases y with
    | string s =>
      cases tiOf P t with
      | none => rfl
      | some ti => obtain ⟨_, _, _, k, _⟩ := ti; cases k <;> rfl
    | _ => cases tiOf P t with
      | none => rfl
      | some ti => obtain ⟨_, _, _, k, _⟩ := ti; cases k <;> rfl
  | _ => cases tiOf P t with
    | none => rfl
    | some ti => obtain ⟨_, _, _, k, _⟩ := ti; cases k <;> rfl
omit [Tabs] in
theorem rangeC_eq {sz by_ : Nat} {z : Option Value} {hs : List Nat} {l : List UInt8} : rangeC (some ⟨sz, by_, z, .str, hs⟩) (.v (sv l)) d K ⟨n, t, hd, ⟨nh, h, nl, fm, lv, mu⟩⟩ =
    cont ⟨n, t, hd, ⟨nh + 1, upd h nh (some (.iter ⟨l.toArray⟩ 0)), nl, fm, lv, mu⟩⟩ d (.ptr nh 0) K := rfl
theorem op_next {x : Operand} : vcOp P Γ false σ ⟨d, .next x true, ty, pos, after, g⟩ K = nextC (ev σ x) d K σ := by
  simp only [vcOp, true_and, nextC, nextO]
  cases ev σ x with
  | ptr o k => cases k <;> rfl
  | _ => rfl
omit [Tabs] in
theorem nextC_eq {ob : Nat} : nextC (.ptr ob 0) d K ⟨n, t, hd, ⟨nh, h, nl, fm, lv, mu⟩⟩ = nextO (h ob) ob d K ⟨n, t, hd, ⟨nh, h, nl, fm, lv, mu⟩⟩ := rfl
/-- What a string is at a place: the code point, how many bytes it has. -/
def dec1 (l : List UInt8) (p : Nat) : Nat := (Utf8.decode ⟨l.toArray⟩ p).1
def dec2 (l : List UInt8) (p : Nat) : Nat := (Utf8.decode ⟨l.toArray⟩ p).2
omit [Tabs] in
theorem nextO_in {ob p : Nat} {l : List UInt8} (hp : p < l.length) : nextO (some (.iter ⟨l.toArray⟩ p)) ob d K ⟨n, t, hd, ⟨nh, h, nl, fm, lv, mu⟩⟩ =
    cont ⟨n, t, hd, ⟨nh, upd h ob (some (.iter ⟨l.toArray⟩ (p + dec2 l p))), nl, fm, lv, mu⟩⟩ d (.tup [.v (.bool true), .v (.int .i64 p), .v (.int .i32 (dec1 l p))]) K := by
  simp only [nextO]
  rw [if_pos (show p < (⟨l.toArray⟩ : ByteArray).size from by simpa [ByteArray.size] using hp)]
  rfl
omit [Tabs] in
theorem nextO_end {ob p : Nat} {l : List UInt8} (hp : ¬ p < l.length) : nextO (some (.iter ⟨l.toArray⟩ p)) ob d K σ = cont σ d (.tup [.v (.bool false)]) K := by
  simp only [nextO]
  rw [if_neg (show ¬ p < (⟨l.toArray⟩ : ByteArray).size from by simpa [ByteArray.size] using hp)]

omit [Tabs] in
theorem boundsPanic_calm {α : Type} {x y : Int} {code : BoundsCode} : calm P (boundsPanic k x y code : Sem α) = none := by
  unfold boundsPanic
  simp only []
  split
  · rfl
  · rfl
def indexD (P : Program) (t : TypeId) (a i : AV) : Option AV := indexA P t a i
omit [Tabs] in
theorem index_str {t : TypeId} {l : List UInt8} {i : Int} : indexA P t (.v (sv l)) (.v (.int k i)) = indexStr (P.underlying t) (indexD P t (.v (sv l)) (.v (.int k i))) i l := by
  unfold indexStr
  split
  · rename_i hu
    split
    · rename_i hi
      have hlt : i.toNat < l.length := by omega
      have e1 : (⟨l.toArray⟩ : ByteArray)[i.toNat]? = some (l.getD i.toNat 0) := by
        rw [List.getD_eq_getElem?_getD, List.getElem?_eq_getElem hlt]
        show (if h : i.toNat < (⟨l.toArray⟩ : ByteArray).size then some ((⟨l.toArray⟩ : ByteArray)[i.toNat]'h) else none) = _
        rw [dif_pos (by simpa [ByteArray.size] using hlt)]
        rfl
      have e2 : calm P (Instr.index t (sv l) (.int k i)) = some (.int .u8 (l.getD i.toNat 0).toNat) := by
        unfold Instr.index
        simp only [sv, asIntOf, calm_bind, calm_pure, Option.bind_some, underlying, calm_program, hu, if_pos hi.1, e1]
      show (calm P (Instr.index t (sv l) (.int k i))).map AV.v = _
      rw [e2]; rfl
    · rename_i hi
      show (calm P (Instr.index t (sv l) (.int k i))).map AV.v = none
      have e1 : (if 0 ≤ i then (⟨l.toArray⟩ : ByteArray)[i.toNat]? else none) = none := by
        split
        · rename_i h0
          show (if h : i.toNat < (⟨l.toArray⟩ : ByteArray).size then some ((⟨l.toArray⟩ : ByteArray)[i.toNat]'h) else none) = _
          rw [dif_neg]
          intro hc
          have : i.toNat < l.length := by simpa [ByteArray.size] using hc
          omega
        · rfl
      unfold Instr.index
      simp only [sv, asIntOf, calm_bind, calm_pure, Option.bind_some, underlying, calm_program, hu, e1, boundsPanic_calm]
      rfl
  · rfl
omit [Tabs] in
theorem indexStr_eq {x : Option AV} {l : List UInt8} {i : Int} : indexStr (some .string) x i l = if 0 ≤ i ∧ i < l.length then some (.v (.int .u8 (l.getD i.toNat 0).toNat)) else none := rfl

omit [Tabs] in
theorem sliceBound_calm {i : Int} {m : Nat} {code : BoundsCode} : calm P (Instr.sliceBound (.int k i) m code) = if 0 ≤ i ∧ i ≤ m then some i.toNat else none := by
  unfold Instr.sliceBound
  simp only [asIntOf, calm_bind, calm_pure, Option.bind_some]
  split
  · rfl
  · exact boundsPanic_calm
omit [Tabs] in
theorem sv_extract {l : List UInt8} {i j : Nat} (hj : j ≤ l.length) : Value.string ((⟨l.toArray⟩ : ByteArray).extract i j) = sv ((l.drop i).take (j - i)) := by
  unfold sv
  congr 1
  apply ByteArray.ext
  simp [List.take_drop]
omit [Tabs] in
theorem size_sv {l : List UInt8} : (⟨l.toArray⟩ : ByteArray).size = l.length := by simp [ByteArray.size]
def sliceS (u : Option TypeDesc) (dflt : Option AV) (i j : Int) (l : List UInt8) : Option AV := match u with
  | some .string => if 0 ≤ i ∧ i ≤ j ∧ j ≤ l.length then some (.v (sv ((l.drop i.toNat).take (j.toNat - i.toNat)))) else none
  | _ => dflt
omit [Tabs] in
theorem sliceS_eq {x : Option AV} {l : List UInt8} {i j : Int} : sliceS (some .string) x i j l = if 0 ≤ i ∧ i ≤ j ∧ j ≤ l.length then some (.v (sv ((l.drop i.toNat).take (j.toNat - i.toNat)))) else none := rfl
def sliceD (P : Program) (t : TypeId) (a : AV) (lo hi : Option AV) : Option AV := sliceP P t a lo hi
omit [Tabs] in
theorem sliceP_str {t : TypeId} {l : List UInt8} {lo hi : Option AV} {lo' hi' : Option Value} {i j : Int} (hlo : optA lo = some lo') (hhi : optA hi = some hi') (hi1 : (lo' = none ∧ i = 0) ∨ (∃ k, lo' = some (.int k i))) (hj1 : (hi' = none ∧ j = l.length) ∨ (∃ k, hi' = some (.int k j))) :
    sliceP P t (.v (sv l)) lo hi = sliceS (P.underlying t) (sliceD P t (.v (sv l)) lo hi) i j l := by
  unfold sliceS
  split
  · rename_i hu
    simp only [sliceP, hlo, hhi]
    have key : calm P (Instr.sliceAt t (sv l) lo' hi' none) = if 0 ≤ i ∧ i ≤ j ∧ j ≤ l.length then some (sv ((l.drop i.toNat).take (j.toNat - i.toNat))) else none := by
      have hb : calm P (Instr.sliceBounds false l.length l.length lo' hi' none) = if 0 ≤ i ∧ i ≤ j ∧ j ≤ l.length then some (i.toNat, j.toNat, l.length) else none := by
        rcases hi1 with ⟨rfl, rfl⟩ | ⟨k1, rfl⟩ <;> rcases hj1 with ⟨rfl, rfl⟩ | ⟨k2, rfl⟩ <;>
          simp only [Instr.sliceBounds, calm_bind, calm_pure, Option.bind_some, sliceBound_calm]
        · simp
        · by_cases c : 0 ≤ j ∧ j ≤ (l.length : Int)
          · simp [c]
          · simp only [if_neg c, Option.bind_none]
            rw [if_neg]; omega
        · by_cases c : 0 ≤ i ∧ i ≤ (l.length : Int)
          · simp [c]
          · simp only [if_neg c, Option.bind_none]
            rw [if_neg]; omega
        · by_cases c : 0 ≤ j ∧ j ≤ (l.length : Int)
          · simp only [if_pos c, Option.bind_some]
            by_cases c2 : 0 ≤ i ∧ i ≤ (j.toNat : Int)
            · simp only [if_pos c2, Option.bind_some]
              rw [if_pos (by omega)]
            · simp only [if_neg c2, Option.bind_none]
              rw [if_neg (by omega)]
          · simp only [if_neg c, Option.bind_none]
            rw [if_neg (by omega)]
      have e1 : calm P (Instr.sliceAt t (sv l) lo' hi' none) = calm P (Instr.slice t (sv l) lo' hi' none) := by
        unfold Instr.sliceAt
        simp only [calm_bind, underlying, calm_program, calm_pure, Option.bind_some, hu]
      rw [e1]
      unfold Instr.slice
      simp only [calm_bind, underlying, calm_program, calm_pure, Option.bind_some, hu, sv, size_sv, hb]
      by_cases c : 0 ≤ i ∧ i ≤ j ∧ j ≤ (l.length : Int)
      · simp only [if_pos c, Option.isSome_none, Bool.false_eq_true, if_false, calm_bind, hb, Option.bind_some, calm_pure]
        have := sv_extract (l := l) (i := i.toNat) (j := j.toNat) (by omega)
        rw [this]; rfl
      · simp only [if_neg c, Option.isSome_none, Bool.false_eq_true, if_false, calm_bind, hb, Option.bind_none]
    rw [show res P (Instr.sliceAt t (sv l) lo' hi' none) = (calm P (Instr.sliceAt t (sv l) lo' hi' none)).map AV.v from rfl, key]
    split <;> rfl
  · rfl
omit [Tabs] in
theorem slice_sin {t : TypeId} {l : List UInt8} {i : Int} : sliceP P t (.v (sv l)) (some (.v (.int k i))) none = sliceS (P.underlying t) (sliceD P t (.v (sv l)) (some (.v (.int k i))) none) i l.length l := sliceP_str rfl rfl (.inr ⟨_, rfl⟩) (.inl ⟨rfl, rfl⟩)
omit [Tabs] in
theorem slice_sni {t : TypeId} {l : List UInt8} {j : Int} : sliceP P t (.v (sv l)) none (some (.v (.int k j))) = sliceS (P.underlying t) (sliceD P t (.v (sv l)) none (some (.v (.int k j)))) 0 j l := sliceP_str rfl rfl (.inl ⟨rfl, rfl⟩) (.inr ⟨_, rfl⟩)
def indexK (P : Program) (ie : Option TI) (len e : Nat) (cs : List AV) (n : Int) : Option AV := match ie with
  | some ie => if 0 ≤ n ∧ n < len then loadA P e cs (n.toNat * ie.size) else none
  | none => none
def indexG (P : Program) (ti : Option TI) (cs : List AV) (n : Int) : Option AV := match ti with
  | some { kind := .arr len e, .. } => indexK P (tiOf P e) len e cs n
  | _ => none
omit [Tabs] in
theorem index_agg {t : TypeId} {cs : List AV} {n : Int} : indexA P t (.agg cs) (.v (.int k n)) = indexG P (tiOf P t) cs n := rfl
omit [Tabs] in
theorem indexG_eq {sz by_ c e : Nat} {z : Option Value} {hs : List Nat} {cs : List AV} {n : Int} : indexG P (some ⟨sz, by_, z, .arr c e, hs⟩) cs n = indexK P (tiOf P e) c e cs n := rfl
omit [Tabs] in
theorem indexK_eq {sz by_ c e : Nat} {z : Option Value} {kk : TK} {hs : List Nat} {cs : List AV} {n : Int} : indexK P (some ⟨sz, by_, z, kk, hs⟩) c e cs n = if 0 ≤ n ∧ n < c then loadA P e cs (n.toNat * sz) else none := rfl
-- structs
theorem op_build {t : TypeId} {l : List (Nat × Operand)} : vcOp P Γ dr σ ⟨d, .build t (List.toArray l), ty, pos, after, g⟩ K = popC (buildC P t (partsE σ l)) d K σ := by
  rw [← popC_ex]
  simp only [vcOp, popAll, pop, pop2, Option.none_or, buildC, partsE_eq]

omit [Tabs] in
theorem buildC_eq {t : TypeId} {ps : List (Nat × AV)} : buildC P t ps = buildIn P (tiOf P t) ps := by
  simp only [buildC, buildA, buildIn, buildArr] <;> rfl
omit [Tabs] in
theorem buildIn_st {sz by_ : Nat} {z : List Value} {fs : List (Nat × Nat)} {hs : List Nat} {ps : List (Nat × AV)} : buildIn P (some ⟨sz, by_, some (.agg (List.toArray z)), .st fs, hs⟩) ps =
    if fs.all (fun p => decide (0 < p.2)) = true then (fillA (fun i => fs[i]?) (zeroL hs z) ps).map .agg else none := rfl
omit [Tabs] in
theorem buildIn_arr {sz by_ c e : Nat} {z : List Value} {hs : List Nat} {ps : List (Nat × AV)} : buildIn P (some ⟨sz, by_, some (.agg (List.toArray z)), .arr c e, hs⟩) ps = buildArr (tiOf P e) (List.toArray z) ps := rfl
omit [Tabs] in
theorem buildArr_eq {sz by_ : Nat} {z : List Value} {zo : Option Value} {kk : TK} {hs : List Nat} {ps : List (Nat × AV)} : buildArr (some ⟨sz, by_, zo, kk, hs⟩) (List.toArray z) ps = (fillA (fun i => some (i * sz, sz)) (z.map ofV1) ps).map .agg := rfl
omit [Tabs] in
theorem fillA_nil {place : Nat → Option (Nat × Nat)} {cs : List AV} : fillA place cs [] = some cs := rfl
omit [Tabs] in
theorem fillA_cons {place : Nat → Option (Nat × Nat)} {cs : List AV} {i : Nat} {a : AV} {r : List (Nat × AV)} : fillA place cs ((i, a) :: r) = fillB place (place i) (cellsOf a) cs r := by
  simp only [fillA, fillB] <;> rfl
omit [Tabs] in
theorem fillB_eq {place : Nat → Option (Nat × Nat)} {off size : Nat} {vs cs : List AV} {r : List (Nat × AV)} : fillB place (some (off, size)) (some vs) cs r =
    if vs.length = size ∧ off + size ≤ cs.length then fillA place (cs.take off ++ vs ++ cs.drop (off + size)) r else none := rfl
omit [Tabs] in
theorem zeroL_nil {hs : List Nat} : zeroL hs [] = [] := rfl
omit [Tabs] in
theorem zeroL_cons {n : Nat} {hs : List Nat} {v : Value} {r : List Value} : zeroL (n :: hs) (v :: r) = hintV n (ofV1 v) :: zeroL hs r := rfl
omit [Tabs] in
theorem hintV_v {n : Nat} {x : Value} : hintV n (.v x) = .v x := rfl
omit [Tabs] in
theorem hintV_nil {n : Nat} : hintV n (.sl 1 0 []) = .sl 1 n [] := rfl
omit [Tabs] in
theorem ofV1_int {x : Int} : ofV1 (.int k x) = .v (.int k x) := rfl
omit [Tabs] in
theorem ofV1_bool {x : Bool} : ofV1 (.bool x) = .v (.bool x) := rfl
omit [Tabs] in
theorem ofV1_sv {x : List UInt8} : ofV1 (.string ⟨List.toArray x⟩) = .v (sv x) := rfl
omit [Tabs] in
theorem ofV1_nil : ofV1 (.slice none 0 0) = .sl 1 0 [] := rfl

omit [Tabs] in
theorem inlR_ret {rs : List ResultVar} {n' : Nat} : inlR P rs n' d K .ret ⟨n, t, hd, m⟩ = inlP n' d K (topH hd) (popH hd) m (resL P ⟨n, t, hd, m⟩ rs) := rfl
omit [Tabs] in
theorem inlP_some {bs : List AV} : inlP n d K t hd m (some bs) = cont ⟨n, t, hd, m⟩ d (oneOf bs) K := rfl
omit [Tabs] in
theorem topH_push : topH (pushH t hd) = t := rfl
omit [Tabs] in
theorem popH_push : popH (pushH t hd) = hd := rfl
/-- Fewer slots told, the memory as it is. -/
theorem weak_slots {t' : Nat → AV} (hs : ∀ i, t' i = t i ∨ t' i = .any) : Weak ⟨n, t, hd, m⟩ ⟨n, t', hd, m⟩ := by
  intro w0 F0 Fp X G w a hr
  refine ⟨G, hr.sz, hr.df, fun i => ?_, hr.hd, hr.mm, hr.tb⟩
  rcases hs i with h1 | h1
  · show VR G w _ (t' i); rw [h1]; exact hr.tm i
  · show VR G w _ (t' i); rw [h1]; exact .any _
def slotsEq (t : Nat → AV) : List (Nat × AV) → Prop
  | [] => True
  | p :: r => t p.1 = p.2 ∧ slotsEq t r
omit [Tabs] in
theorem look_eq : ∀ {s : List (Nat × AV)}, slotsEq t s → ∀ i, look s i = t i ∨ look s i = .any
  | [], _, i => .inr rfl
  | (j, a) :: r, h, i => by
    unfold look
    split
    · rename_i hi; subst hi; exact .inl h.1.symm
    · exact look_eq h.2 i
/-- A loop's state told anew, the memory as it is. -/
theorem weak_same {s : List (Nat × AV)} (hs : slotsEq t s) : Weak ⟨n, t, hd, m⟩ ⟨n, look s, hd, m⟩ := weak_slots (look_eq hs)

omit [Tabs] in
theorem zips_eq (f : Nat → AV) : ∀ (l : List AV) (k : Nat), (∀ j, j < l.length → f (k + j) = l.getD j .any) → slotsEq f (zips k l)
  | [], _, _ => trivial
  | a :: r, k, h => ⟨by simpa using h 0 (by simp), zips_eq f r (k + 1) fun j hj => by
      have := h (j + 1) (by simpa using hj)
      rw [show k + 1 + j = k + (j + 1) by omega]
      simpa using this⟩

end
end Go.Rw
end

-- RwUse
section
namespace Go.Rw
open Go Go.RowKit
set_option linter.unusedSimpArgs false
set_option linter.unusedVariables false

section
variable {P : Program} [Tabs] {Γ : Env} {σ : AS} {Q : Exit → AS → Prop} {K : AS → Prop} {dr : Bool} {n : Nat} {t : Nat → AV} {hd : Nat → Nat → AV} {m : AM} {d : Option Nat}
variable {nh nl : Nat} {h : Nat → Option AO} {fm : Nat → Nat} {lv : Nat → Option (Nat × Nat)} {mu : Bool} {k : IntKind}

theorem good_fn (hΓ : GoodEnv P Γ) {f : FuncId} {fn : Func} {c : Code} {ι : Type} {args : ι → List AV} {post : ι → AV → Prop} {plain : Bool} {own : Option (Nat × Nat)} {rs : List ResultVar} {nn : Nat} (hf : P.funcs[f]? = some fn) (hn : (fn.name == "runtime.NumGoroutine") = false) (hb : fn.body = some c)
    (hr : fn.results.toList = rs) (hnn : ∀ i, (args i).length + (fn.ntmps - (args i).length) = nn) (hcl : ∀ i, AV.erL (args i) = args i)
    (h : ∀ i, vc P Γ c (retR P rs ⟨ι, args, post, plain, own, none⟩ i) (AS.of nn (zips 0 (args i)) [] [])) : Good P f ⟨ι, args, post, plain, own, none⟩ :=
  good_go (C := ⟨ι, args, post, plain, own, none⟩) hΓ hf hn hb hr rfl hnn hcl h
theorem good_fna {f : FuncId} {fn : Func} {c : Code} {ι : Type} {args : ι → List AV} {post : ι → AV → Prop} {plain : Bool} {own : Option (Nat × Nat)} {rs : List ResultVar} {nn : Nat} (hf : P.funcs[f]? = some fn) (hn : (fn.name == "runtime.NumGoroutine") = false) (hb : fn.body = some c)
    (hr : fn.results.toList = rs) (hnn : ∀ i, (args i).length + (fn.ntmps - (args i).length) = nn) (hcl : ∀ i, AV.erL (args i) = args i)
    (h : ∀ i, AWP P c (retR P rs ⟨ι, args, post, plain, own, none⟩ i) (AS.of nn (zips 0 (args i)) [] [])) : Good P f ⟨ι, args, post, plain, own, none⟩ := by
  refine good_awp (C := ⟨ι, args, post, plain, own, none⟩) hf hn hb fun i => ?_
  have hw : Weak (AS.init fn (args i) none) (AS.of nn (zips 0 (args i)) [] []) := by
    refine weak_of [] [] (hnn i) (fun _ => by simp [AS.init]) ⟨by simp [Ad.lives], by simp, by simp [obOk], by simp [adOk]⟩ ?_
    refine zips_slots (fun _ => .any) _ _ fun j hj => ?_
    have e : (AS.init fn (args i) none).t (0 + j) = (args i).getD j .any := by
      simp only [AS.init, Nat.zero_add, List.getD_eq_getElem?_getD, List.getElem?_eq_getElem hj, Option.getD_some]
    rw [e]
    exact ren_closed _ (closed_getD (hcl i) hj)
  refine AWP.weak hw ((h i).mono fun e σ hq => ?_)
  subst hr
  exact hq
omit [Tabs] in
theorem retOk_none {ι : Type} {args : ι → List AV} {post : ι → AV → Prop} {plain : Bool} {take : Option (Nat × Nat)} {i : ι} {r : AV} : retOk ⟨ι, args, post, plain, none, take⟩ i m r = (post i r.er ∧ (plain = true → r.plain = true)) := rfl
/-- A function of which is known what it answers, and that it lays new blocks alone. -/
theorem good_below {f : FuncId} {C : Con} (hfn : FnOk P f) (ht : C.take = none) (ho : C.own = none)
    (h : ∀ (i : C.ι) (w : World) (F : Nat → Nat) (vs : Array Value), TabOk w (tkBlock none) → vs.size = (C.args i).length → (∀ k, VR (Gin F none) w (vs.getD k undef) ((C.args i).getD k .any)) →
      Calls P f vs w fun e w' => ∃ v r, e = .returned v ∧ C.post i r ∧ (∀ G w, VR G w v r) ∧ r.plain = true ∧ Below w.heap.size w w') : Good P f C := by
  refine ⟨hfn, fun w F i vs tk hF htb hti hs hv => ?_⟩
  rw [ht] at hti
  simp only [TakeIn] at hti
  subst hti
  refine (h i w F vs htb hs hv).mono ?_
  rintro e w' ⟨v, r, rfl, hp, hr, hpl, hb⟩
  refine ⟨v, r, F, none, rfl, hp, hr _ _, ⟨hb.os, hb.tape, hb.output, hb.size, fun g hg _ => hb.block g hg, fun _ _ _ => rfl, fun g i hi => hb.cell (p := ⟨g, i, none⟩) (hF g (by omega)), fun _ => Nat.le_refl _, fun g hg => Nat.lt_of_lt_of_le (hF g hg) hb.size⟩, by rw [ho]; rfl, fun _ => hpl⟩

/-- A call of which is known what it does to the machine. -/
theorem vcCall_raw {f : FuncId} {as : List AV} (hC : Γ.get f = none) (hR : RawC P σ f as d K) : vcCall P Γ false σ f as d K := by
  unfold vcCall
  rw [hC]
  exact ⟨rfl, .inr (.inr hR)⟩

end
end Go.Rw
end

-- RwLab
section
namespace Go.Rw
open Go Go.RowKit
set_option linter.unusedSimpArgs false
set_option linter.unusedVariables false

section
variable {P : Program} [Tabs] {Γ : Env} {σ : AS} {Q : Exit → AS → Prop} {K : AS → Prop} {n : Nat}

variable {l k i : Nat} {α : Type} {St : α → AS} {μ : α → Nat} {x : Option α} {c y : Code} {W : AS → Prop}
end
end Go.Rw
end

-- RwRules
section
set_option maxRecDepth 100000
set_option linter.defProp false
namespace Go.Rw
open Go
theorem zips_nil {k : Nat} : zips k [] = [] := rfl
theorem zips_cons {k : Nat} {a : AV} {r : List AV} : zips k (a :: r) = (k, a) :: zips (k + 1) r := rfl
def goRules :=
  (And.intro @vc_skip (And.intro @vc_region (And.intro @vc_drawn (And.intro @vc_seq (And.intro @vc_cond (And.intro @vc_ret (And.intro @thenQ_normal (And.intro @thenQ_ret (And.intro @thenQ_exit (And.intro @thenQ_goto (And.intro @blockQ_normal (And.intro @blockQ_ret (And.intro @blockQ_goto (And.intro @blockQ_same (And.intro @branchP_true (And.intro @branchP_false (And.intro @vcOps_nil (And.intro @vcOps_cons (And.intro @vcOps_guard (And.intro @opThen_eq (And.intro @skipThen_eq (And.intro @guardO_some (And.intro @gdst_zero (And.intro @gdst_succ (And.intro @guardB_tt (And.intro @guardB_ff (And.intro @guardB_tf (And.intro @guardB_ft (And.intro @cont_none (And.intro @cont_some (And.intro @popC_some (And.intro @popC_if (And.intro @look_cons (And.intro @ev_tmp (And.intro @ev_const (And.intro @ev_func (And.intro @evT_tmp (And.intro @evT_const (And.intro @ofV_int (And.intro @ofV_bool (And.intro @ofVh_int (And.intro @ofVh_bool (And.intro @op_move (And.intro @op_assign (And.intro @op_pick (And.intro @op_bin (And.intro @binC_v (And.intro @binC_ptr (And.intro @op_un (And.intro @op_extract (And.intro @op_fieldAddr (And.intro @op_indexAddr (And.intro @op_index (And.intro @op_load (And.intro @op_nilCheck (And.intro @ofV_sv (And.intro @ofVh_sv (And.intro @ofVh_agg (And.intro @aggA_nil (And.intro @aggA_int (And.intro @aggA_bool (And.intro @aggA_sv (And.intro @aggA_sl (And.intro @bin_add (And.intro @bin_eql (And.intro @bin_neq (And.intro @bin_lss (And.intro @bin_leq (And.intro @bin_gtr (And.intro @bin_geq (And.intro @bin_seql (And.intro @bin_sneq (And.intro @un_not (And.intro @slcIn_eq (And.intro @slcSz_eq (And.intro @arrIn_eq (And.intro @arrSz_eq (And.intro @fieldIn_eq (And.intro @hints_eq (And.intro @hintsIn_eq (And.intro @ofVh_nil (And.intro @loadA_eq (And.intro @loadIn_int (And.intro @loadIn_str (And.intro @loadIn_slc (And.intro @loadIn_other (And.intro @loadIn_st (And.intro @loadIn_arr (And.intro @pickC_eq (And.intro @pickA_bool (And.intro @pickA_true (And.intro @pickA_false (And.intro @extractA_eq (And.intro @fieldAddr_ptr (And.intro @indexAddr_arr (And.intro @nilCheck_ptr (And.intro @load_ptr (And.intro @loadO_eq (And.intro @cellsOf_int (And.intro @cellsOf_bool (And.intro @cellsOf_sv (And.intro @cellsOf_agg (And.intro @vc_string (And.intro @maxLen_eq (And.intro @one_int (And.intro @one_bool (And.intro @one_sv (And.intro @one_sl (And.intro @er_v (And.intro @er_sl (And.intro @er_agg (And.intro @er_tup (And.intro @erL_nil (And.intro @erL_cons (And.intro @tags_v (And.intro @tagsL_nil (And.intro @tagsL_cons (And.intro @plain_v (And.intro @plain_agg (And.intro @plain_tup (And.intro @plainL_nil (And.intro @plainL_cons (And.intro @kill_nil (And.intro @updn_eq (And.intro @zeroIn_eq (And.intro @op_alloc (And.intro @op_box (And.intro @newC_eq (And.intro @op_store (And.intro @storeD_ptr (And.intro @op_storeD (And.intro @storeC_eq (And.intro @storeO_eq (And.intro @partsE_nil (And.intro @partsE_cons (And.intro @op_buildSlice (And.intro @op_buildDead (And.intro @deadE_eq (And.intro @deadZ_eq (And.intro @rowE_eq (And.intro @rowC_eq (And.intro @elemsB_nil (And.intro @elemsB_cons (And.intro @snds_nil (And.intro @snds_cons (And.intro @ersP_nil (And.intro @ersP_cons (And.intro @setParts_eq (And.intro @op_append (And.intro @appE_eq (And.intro @appC_eq (And.intro @evTs_nil (And.intro @evTs_cons (And.intro @op_call (And.intro @callC_eq (And.intro @get_cons (And.intro @optE_none (And.intro @optE_some (And.intro @op_slice (And.intro @lenA_sl (And.intro @lenS_eq (And.intro @op_len (And.intro @lenA_str (And.intro @lenStr_eq (And.intro @retR_ret (And.intro @retP_some (And.intro @oneOf_one (And.intro @oneOf_more (And.intro @resL_nil (And.intro @resL_tmp (And.intro @resL_cell (And.intro @loadPtr_eq (And.intro @consR_some (And.intro @slotsOk_nil (And.intro @slotsOk_cons (And.intro @obOk_nil (And.intro @obOk_cons (And.intro @renOo_cells (And.intro @renOo_iter (And.intro @adOk_nil (And.intro @adOk_live (And.intro @lives_nil (And.intro @lives_live (And.intro @ren_v (And.intro @ren_agg (And.intro @ren_tup (And.intro @ren_sl (And.intro @ren_ptr (And.intro @renL_nil (And.intro @renL_cons (And.intro @tagOk_low (And.intro @tagOk_zero (And.intro @tagOk_more (And.intro @tagAd_live (And.intro @ofV_ptr (And.intro @ofVh_ptr (And.intro @op_range (And.intro @rangeC_eq (And.intro @op_next (And.intro @nextC_eq (And.intro @index_str (And.intro @indexStr_eq (And.intro @sliceS_eq (And.intro @slice_sin (And.intro @slice_sni (And.intro @index_agg (And.intro @indexG_eq (And.intro @indexK_eq (And.intro @op_build (And.intro @buildC_eq (And.intro @buildIn_st (And.intro @buildIn_arr (And.intro @buildArr_eq (And.intro @fillA_nil (And.intro @fillA_cons (And.intro @fillB_eq (And.intro @zeroL_nil (And.intro @zeroL_cons (And.intro @hintV_v (And.intro @hintV_nil (And.intro @ofV1_int (And.intro @ofV1_bool (And.intro @ofV1_sv (And.intro @ofV1_nil (And.intro @inlR_ret (And.intro @inlP_some (And.intro @topH_push (And.intro @popH_push (And.intro @zips_nil (And.intro @zips_cons @retOk_none))))))))))))))))))))))))))))))))))))))))))))))))))))))))))))))))))))))))))))))))))))))))))))))))))))))))))))))))))))))))))))))))))))))))))))))))))))))))))))))))))))))))))))))))))))))))))))))))))))))))))))))))))))))))))))))))))))))
def coreRules :=
  (And.intro @Int.toNat_natCast (And.intro @imp_self (And.intro @Nat.mul_one (And.intro @false_or (And.intro @or_false (And.intro @or_true (And.intro @true_or (And.intro @false_and (And.intro @and_false (And.intro @false_implies (And.intro @implies_true.{1} (And.intro @Value.int.injEq (And.intro @Value.bool.injEq (And.intro @AV.v.injEq (And.intro @List.mem_cons.{0} (And.intro @or_self (And.intro @ne_eq.{1} (And.intro @not_true_eq_false (And.intro @true_and (And.intro @and_true (And.intro @List.getElem?_cons_zero.{0} (And.intro @List.getElem?_cons_succ.{0} (And.intro @List.getElem?_nil.{0} (And.intro @List.length_cons.{0} (And.intro @List.length_nil.{0} (And.intro @List.take_zero.{0} (And.intro @List.take_succ_cons.{0} (And.intro @List.take_nil.{0} (And.intro @List.drop_zero.{0} (And.intro @List.drop_succ_cons.{0} (And.intro @List.drop_nil.{0} (And.intro @List.nil_append.{0} (And.intro @List.cons_append.{0} (And.intro @List.append_nil.{0} (And.intro @Option.bind_some.{0,0} (And.intro @Option.map_some.{0,0} (And.intro @decide_true (And.intro @decide_false (And.intro @Bool.not_true (And.intro @Bool.not_false (And.intro @cond_true.{1} (And.intro @cond_false.{1} (And.intro @List.getD_cons_zero.{0} (And.intro @List.getD_cons_succ.{0} (And.intro @List.replicate_zero.{0} (And.intro @List.replicate_succ.{0} (And.intro @List.foldl_nil.{0,0} (And.intro @List.foldl_cons.{0,0} (And.intro @List.set_cons_zero.{0} (And.intro @List.set_cons_succ.{0} (And.intro @List.all_nil.{0} (And.intro @List.all_cons.{0} (And.intro @Bool.or_false (And.intro @Bool.or_true (And.intro @Bool.true_and (And.intro @Bool.and_true (And.intro @Bool.false_and (And.intro @Bool.and_false (And.intro @Bool.true_or (And.intro @Bool.false_or (And.intro @Nat.zero_add (And.intro @Nat.add_zero (And.intro @List.headD_cons.{0} (And.intro @Bool.false_eq_true (And.intro @List.nodup_nil.{0} (And.intro @List.nodup_cons.{0} (And.intro @List.not_mem_nil.{0} @not_false_eq_true)))))))))))))))))))))))))))))))))))))))))))))))))))))))))))))))))))
end Go.Rw
end

-- RwNum
section
namespace Go.Rw
open Go

theorem wrap_i64 {n : Int} (h1 : -9223372036854775808 ≤ n) (h2 : n ≤ 9223372036854775807) : IntKind.wrap .i64 n = n := by
  simp only [IntKind.wrap, IntKind.bits, IntKind.signed, Bool.true_and]
  split <;> simp_all <;> omega
end Go.Rw
end
