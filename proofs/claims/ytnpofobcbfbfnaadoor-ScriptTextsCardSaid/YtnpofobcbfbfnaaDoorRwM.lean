/-
  More operations on maps: how many entries; held against nil; ranges; entries counted up; keys that are structs; a live slice's end cleared. Proved over any program. Regions that draw their order, where maps may be read and turned, and functions called that read what they are handed. Proved over any program.
-/
import Derived.Test.YtnpofobcbfbfnaaDoorRwL
import Derived.Test.YtnpofobcbfbfnaaDoorRwJ
set_option linter.unusedSimpArgs false
set_option linter.unusedVariables false
set_option linter.defProp false
set_option linter.unusedSectionVars false

-- RwMapA
section
namespace Go.Rw
open Go Go.RowKit
set_option linter.unusedSimpArgs false
set_option linter.unusedVariables false
set_option linter.unusedSectionVars false

/-- Where a key stands, of whatever type that is held against others without the world. -/
def askK (P : Program) (t : TypeId) (b : Bool) (k : Value) (es : List MapEntry) : Option (Option (Nat × Value)) := match P.underlying t with
  | some (.map kt _) => (calm P (Instr.checkKey b 10000 kt k)).bind fun _ => calm P (Instr.findKey kt k es)
  | _ => none
def lookS (P : Program) (t : TypeId) (k : Value) (es : Array MapEntry) (c : Bool) : Option AV := match askK P t es.isEmpty k es.toList with
  | some (some (_, v)) => some (packA c (flatV v) true)
  | some none => match elemT P t with
    | some e => (zeroOf P e).map fun z => packA c z false
    | none => none
  | none => none
def lookK (P : Program) (m : AM) (t : TypeId) (x : AV) (k : Option Value) (c : Bool) : Option AV := match x, k with
  | .mp ob, some k => match m.h ob with
    | some (.map es _) => lookS P t k es c
    | _ => none
  | _, _ => none
/-- What a map has at a key. -/
def readL (P : Program) (σ : AS) (t : TypeId) (x i : AV) (c : Bool) : Option AV := match keyT P t with
  | some _ => lookA P σ t x i c
  | none => lookK P σ.m t x (toV i) c
def entA (P : Program) (t : TypeId) (k : Value) (es : Array MapEntry) (cl : Nat) : Option (AO × AV) := match askK P t false k es.toList with
  | some (some (i, v)) => if Instr.sameBits 10000 (((es[i]?).map (·.key)).getD k) k then some (.map (es.modify i fun e => { e with key := k }) cl, .tup [flatV v, .v (.int .i64 (((es[i]?).map (fun x => (x.born : Int))).getD 0))]) else none
  | some none => match elemT P t with
    | some e => match tiOf P e with
      | some { zero := some z, .. } => some (.map (es.push { key := k, val := z, born := cl }) (cl + 1), .tup [flatV z, .v (.int .i64 (cl : Nat))])
      | _ => none
    | none => none
  | none => none
def lenE [Tabs] (P : Program) (t : TypeId) (a : AV) (args : Array TypeId) (ty : TypeId) (d : Option Nat) (K : AS → Prop) (σ : AS) : Prop := match a with
  | .mp ob => ∃ k e es cl, P.underlying t = some (.map k e) ∧ σ.m.h ob = some (.map es cl) ∧ cont σ d (.v (.int .i64 (es.size : Nat))) K
  | a => ∃ b, lenA P t a args ty = some b ∧ cont σ d b K
def binE [Tabs] (P : Program) (Γ : Env) (dr : Bool) (o : Oper) (t : TypeId) (op : BinOp) (a b : AV) (d : Option Nat) (K : AS → Prop) (σ : AS) : Prop := match a, b with
  | .mp _, .v (.map none) => ∃ k e v, P.underlying t = some (.map k e) ∧ (op = .eql ∧ v = false ∨ op = .neq ∧ v = true) ∧ cont σ d (.v (.bool v)) K
  | _, _ => vcOp P Γ dr σ o K
def rangeE [Tabs] (P : Program) (t : TypeId) (a : AV) (d : Option Nat) (K : AS → Prop) (σ : AS) (no : Prop) : Prop := match a with
  | .mp ob => ∃ k e es cl, P.underlying t = some (.map k e) ∧ σ.m.h ob = some (.map es cl) ∧ cont (σ.new (.mit ob cl #[] cl)) d (.ptr σ.m.nh 0) K
  | _ => no
/-- The next entry: any that has not come yet. -/
def nextE [Tabs] (a : AV) (d : Option Nat) (K : AS → Prop) (σ : AS) : Prop := match a with
  | .ptr it 0 => ∃ ob since seen last es cl, σ.m.h it = some (.mit ob since seen last) ∧ σ.m.h ob = some (.map es cl) ∧ (!seen.isEmpty && !es.isEmpty && es.all (·.born ≥ last)) = false ∧
      (∀ e ∈ es, seen.contains e.born = false → cont { σ with m := σ.m.setObj it (.mit ob since (seen.push e.born) cl) } d (.tup [.v (.bool true), flatV e.key, flatV e.val]) K) ∧
      ((∀ e ∈ es, seen.contains e.born = false → since ≤ e.born) → cont σ d (.tup [.v (.bool false)]) K)
  | _ => False
def entryE [Tabs] (a : AV) (d : Option Nat) (K : AS → Prop) (σ : AS) : Prop := match a with
  | .ptr it 0 => ∃ ob since seen last es stamp e, σ.m.h it = some (.mit ob since seen last) ∧ σ.m.h ob = some (.map es last) ∧ seen.back? = some stamp ∧ es.find? (·.born == stamp) = some e ∧ cont σ d (.tup [flatV e.key, flatV e.val]) K
  | _ => False
def mapEntE [Tabs] (P : Program) (t : TypeId) (a : AV) (k : Option Value) (d : Option Nat) (K : AS → Prop) (σ : AS) : Prop := match a, k with
  | .mp ob, some k => ∃ es cl x r, σ.m.h ob = some (.map es cl) ∧ entA P t k es cl = some (x, r) ∧ cont { σ with m := σ.m.setObj ob x } d r K
  | _, _ => False
def entStE [Tabs] (a s : AV) (v : Option Value) (d : Option Nat) (K : AS → Prop) (σ : AS) : Prop := match a, s, v with
  | .mp ob, .v (.int _ b), some v => ∃ es cl i, σ.m.h ob = some (.map es cl) ∧ es.findIdx? (fun e => (e.born : Int) == b) = some i ∧ cont { σ with m := σ.m.setObj ob (.map (es.modify i fun e => { e with val := v }) cl) } d (.v undef) K
  | _, _, _ => False
/-- An operation, where maps may be. -/
def vcE [Tabs] (P : Program) (Γ : Env) (σ : AS) (o : Oper) (K : AS → Prop) : Prop := match o.op with
  | .call { callee := .builtin .len, args, argTypes } => match args.toList, argTypes.toList with
    | [x], [t] => lenE P t (ev σ x) argTypes o.type o.dst K σ
    | _, _ => False
  | .binOp op t x y _ => binE P Γ false o t op (ev σ x) (ev σ y) o.dst K σ
  | .lookup t x i c => ∃ r, readL P σ t (ev σ x) (ev σ i) c = some r ∧ cont σ o.dst r K
  | .range t x => rangeE P t (ev σ x) o.dst K σ (vcOp P Γ false σ o K)
  | .next x false => nextE (ev σ x) o.dst K σ
  | .entry x => entryE (ev σ x) o.dst K σ
  | .mapEntry t m k => mapEntE P t (ev σ m) (toV (ev σ k)) o.dst K σ
  | .entryStore _ m s v => entStE (ev σ m) (ev σ s) (toV (ev σ v)) o.dst K σ
  | _ => vcOp P Γ false σ o K

section
variable {P : Program} [Tabs] {Γ : Env} {w0 : World} {F0 : Nat → Nat} {Fp : Nat → Prop} {X : Nat → Nat → Value} {G : Gh} {w : World} {a : Act} {σ : AS} {d : Option Nat}

omit [Tabs] in
theorem mp_inv {x : Value} {ob : Nat} (hx : VR G w x (.mp ob)) : x = .map (some (G.ob ob)) := by cases hx; rfl
omit [Tabs] in
theorem ptr0_inv {x : Value} {ob k : Nat} (hx : VR G w x (.ptr ob k)) : x = .pointer (some ⟨G.ob ob, k, none⟩) := by cases hx; rfl
theorem map_obj (h : Rel w0 F0 Fp X G w a σ) {ob : Nat} {es : Array MapEntry} {cl : Nat} (ho : σ.m.h ob = some (.map es cl)) : ob < G.nh ∧ w.heap[G.ob ob]? = some (.map es cl) := by
  obtain ⟨h1, h2⟩ := h.mm.obj ob _ ho
  cases h2 with
  | map _ _ hh => exact ⟨h1, hh⟩
theorem mit_obj (h : Rel w0 F0 Fp X G w a σ) {it ob si la : Nat} {se : Array Nat} (ho : σ.m.h it = some (.mit ob si se la)) : it < G.nh ∧ w.heap[G.ob it]? = some (.mapIter (some (G.ob ob)) si se la) ∧ ob < G.nh := by
  obtain ⟨h1, h2⟩ := h.mm.obj it _ ho
  cases h2 with
  | mit _ _ _ _ h3 hh => exact ⟨h1, hh, h3⟩
/-- An object that is no row of cells, set. -/
theorem set_obj (h : Rel w0 F0 Fp X G w a σ) {ob : Nat} (hol : ob < G.nh) {y : Obj} (hh : w.heap[G.ob ob]? = some y) (o : Obj) (x : AO)
    (hx : OR G { w with heap := w.heap.setIfInBounds (G.ob ob) o } (G.ob ob) x) : Rel w0 F0 Fp X G { w with heap := w.heap.setIfInBounds (G.ob ob) o } a { σ with m := σ.m.setObj ob x } := by
  have hw : Only w { w with heap := w.heap.setIfInBounds (G.ob ob) o } (G.ob ob) :=
    ⟨rfl, rfl, rfl, by simp, fun k hk => by simp only; rw [Array.getElem?_setIfInBounds_ne (fun e => hk e.symm)]⟩
  have hgl := GLe.only (G := G) hw (h.mm.obl ob hol).2.1
  exact ⟨h.sz, h.df, fun k => (h.tm k).mono hgl, fun j k => (h.hd j k).mono hgl, h.mm.setOb hol hw hx, h.tb⟩
omit [Tabs] in
theorem set_get {ob : Nat} {y : Obj} (hh : w.heap[ob]? = some y) (o : Obj) : (w.heap.setIfInBounds ob o)[ob]? = some o := by
  rw [Array.getElem?_setIfInBounds_self_of_lt (Array.getElem?_eq_some_iff.1 hh).1]
omit [Tabs] in
theorem getObj_run {g : Nat} {o : Obj} (hh : w.heap[g]? = some o) (hc : ∀ a b c, o ≠ .cells a b c) : (getObj g).run P w = .ok o w := by
  unfold getObj
  simp only [Sem.run, hh]
  try (cases o <;> first | rfl | exact absurd rfl (hc _ _ _))
omit [Tabs] in
theorem setObj_run {g : Nat} {o : Obj} (o2 : Obj) (hh : w.heap[g]? = some o) (hc : ∀ a b c, o ≠ .cells a b c) : (setObj g o2).run P w = .ok () { w with heap := w.heap.setIfInBounds g o2 } := by
  unfold setObj
  simp only [Sem.run, hh]
  try (cases o <;> first | rfl | exact absurd rfl (hc _ _ _))
omit [Tabs] in
theorem pair_ok {x y : Value} {b c : AV} (hx : VR G w x b) (hy : VR G w y c) : VR G w (.tuple #[x, y]) (.tup [b, c]) := .tup _ _ rfl fun k hk => match k, hk with
  | 0, _ => hx
  | 1, _ => hy
omit [Tabs] in
theorem askK_run {t : TypeId} {b : Bool} {k : Value} {es : List MapEntry} {r : Option (Nat × Value)} (h : askK P t b k es = some r) : ∃ kt e, P.underlying t = some (.map kt e) ∧ (∀ w, (Instr.checkKey b 10000 kt k).run P w = .ok () w) ∧ ∀ w, (Instr.findKey kt k es).run P w = .ok r w := by
  unfold askK at h
  split at h
  · rename_i kt e hu
    obtain ⟨u, h1, h2⟩ := Option.bind_eq_some_iff.1 h
    exact ⟨kt, e, hu, fun w => calm_run w h1, fun w => calm_run w h2⟩
  · cases h
omit [Tabs] in
theorem lookS_run {t : TypeId} {k : Value} {es : Array MapEntry} {cl g : Nat} {c : Bool} {r : AV} (hl : lookS P t k es c = some r) (hg : w.heap[g]? = some (.map es cl)) : ∃ v, (Instr.lookup t (.map (some g)) k c).run P w = .ok v w ∧ VR G w v r := by
  unfold lookS at hl
  have hgo : (getObj g).run P w = .ok (.map es cl) w := getObj_run hg (by intro a b c h; cases h)
  have pack : ∀ (v : Value) (b : AV) (q : Bool), VR G w v b → VR G w (if c then .tuple #[v, .bool q] else v) (packA c b q) := fun v b q hv => by
    unfold packA
    cases c
    · exact hv
    · exact pair_ok hv (.v _)
  split at hl
  · rename_i i v hf
    obtain rfl := Option.some.inj hl
    obtain ⟨kt, e, h1, h2, h3⟩ := askK_run hf
    refine ⟨_, ?_, pack v _ true (flatV_ok _ _ _)⟩
    simp only [Instr.lookup, Sem.run_bind, run_underlying h1, Result.andThen_ok, Sem.run_pure, hgo, h2, h3]
  · rename_i hf
    obtain ⟨kt, e, h1, h2, h3⟩ := askK_run hf
    have he : elemT P t = some e := by unfold elemT; rw [h1]
    rw [he] at hl
    obtain ⟨z, hz, rfl⟩ := Option.map_eq_some_iff.1 hl
    obtain ⟨ti, zv, hti, hzv, rfl⟩ := zeroOf_ok hz
    refine ⟨_, ?_, pack zv _ false (ofVh_ok _ _ _ _)⟩
    simp only [Instr.lookup, Sem.run_bind, run_underlying h1, Result.andThen_ok, Sem.run_pure, hgo, h2, h3, zero_run hti hzv]
  · cases hl
theorem readL_ok (h : Rel w0 F0 Fp X G w a σ) {t : TypeId} {x i : Operand} {c : Bool} {r : AV} (hl : readL P σ t (ev σ x) (ev σ i) c = some r) : ∃ v, (Instr.lookup t (a.eval x) (a.eval i) c).run P w = .ok v w ∧ VR G w v r := by
  unfold readL at hl
  split at hl
  · unfold lookA at hl
    split at hl
    · rename_i d k hk hv2
      have hkv := toV_ok (ev_ok h i) hv2
      have hxv := ev_ok h x
      split at hl
      · rename_i ob hx
        split at hl
        · rename_i es cl hob
          obtain ⟨hol, hh⟩ := map_obj h hob
          rw [hx] at hxv
          rw [mp_inv hxv, hkv]
          exact look_run hk hl (.inr ⟨_, _, rfl, hh⟩)
        · cases hl
      · rename_i hx
        rw [hx] at hxv
        rw [hxv.v_inv, hkv]
        exact look_run (es := #[]) hk hl (.inl ⟨rfl, rfl⟩)
      · cases hl
    · cases hl
  · unfold lookK at hl
    split at hl
    · rename_i ob k hx hv2
      have hkv := toV_ok (ev_ok h i) hv2
      have hxv := ev_ok h x
      split at hl
      · rename_i es cl hob
        obtain ⟨hol, hh⟩ := map_obj h hob
        rw [hx] at hxv
        rw [mp_inv hxv, hkv]
        exact lookS_run hl hh
      · cases hl
    · cases hl
omit [Tabs] in
theorem entA_run {t : TypeId} {k : Value} {es : Array MapEntry} {cl g : Nat} {x : AO} {r : AV} (hl : entA P t k es cl = some (x, r)) (hg : w.heap[g]? = some (.map es cl)) :
    ∃ v es' cl', x = .map es' cl' ∧ (Instr.mapEntry t (.map (some g)) k).run P w = .ok v { w with heap := w.heap.setIfInBounds g (.map es' cl') } ∧ ∀ w', VR G w' v r := by
  unfold entA at hl
  have hgo : (getObj g).run P w = .ok (.map es cl) w := getObj_run hg (by intro a b c h; cases h)
  have hso : ∀ o, (setObj g o).run P w = .ok () { w with heap := w.heap.setIfInBounds g o } := fun o => setObj_run o hg (by intro a b c h; cases h)
  split at hl
  · rename_i i v hf
    split at hl
    · rename_i hs
      obtain ⟨rfl, rfl⟩ := Prod.mk.injEq .. ▸ Option.some.inj hl
      obtain ⟨kt, e, h1, h2, h3⟩ := askK_run hf
      have hks : (Instr.keyThatStays (((es[i]?).map (·.key)).getD k) k).run P w = .ok k w := by simp only [Instr.keyThatStays, hs, if_true, Sem.run_pure]
      refine ⟨_, _, _, rfl, ?_, fun w' => pair_ok (flatV_ok _ _ _) (.v _)⟩
      simp only [Instr.mapEntry, Sem.run_bind, run_underlying h1, Result.andThen_ok, Sem.run_pure, hgo, h2, h3, hks, hso]
      rfl
    · cases hl
  · rename_i hf
    obtain ⟨kt, e, h1, h2, h3⟩ := askK_run hf
    have he : elemT P t = some e := by unfold elemT; rw [h1]
    rw [he] at hl
    simp only at hl
    split at hl
    · rename_i z _ _ _ _ hti
      obtain ⟨rfl, rfl⟩ := Prod.mk.injEq .. ▸ Option.some.inj hl
      refine ⟨_, _, _, rfl, ?_, fun w' => pair_ok (flatV_ok _ _ _) (.v _)⟩
      simp only [Instr.mapEntry, Sem.run_bind, run_underlying h1, Result.andThen_ok, Sem.run_pure, hgo, h2, h3, zero_run hti rfl, hso]
      rfl
    · cases hl
  · cases hl

theorem vcE_ok (hΓ : GoodEnv P Γ) (h : Rel w0 F0 Fp X G w a σ) {o : Oper} {K : AS → Prop} {next : Act → World → Prop} {Q : Exit → Act → World → Prop}
    (hK : ∀ G' w' a' σ', Rel w0 F0 Fp X G' w' a' σ' → K σ' → next a' w') (hv : vcE P Γ σ o K) : o.wp P a w next Q := by
  have fin : ∀ {w' : World} {G' : Gh} {σ' : AS} {x : Value} {b : AV}, (execOp a.eval o).run P w = .ok (.value x) w' → Rel w0 F0 Fp X G' w' a σ' → VR G' w' x b → cont σ' o.dst b K → o.wp P a w next Q := by
    intro w' G' σ' x b hrun hr hx hc
    obtain ⟨σ2, h2, h3⟩ := hr.cont hx hc
    unfold Oper.wp
    rw [hrun, Oper.upon_value]
    exact hK _ _ _ _ h2 h3
  unfold vcE at hv
  split at hv
  · rename_i args argTypes ho   -- len
    split at hv
    · rename_i x t hax hat
      have e1 : args = #[x] := by cases args; simp_all
      have e2 : argTypes = #[t] := by cases argTypes; simp_all
      unfold lenE at hv
      split at hv
      · rename_i ob hx
        obtain ⟨k, e, es, cl, hu, hob, hc⟩ := hv
        obtain ⟨hol, hh⟩ := map_obj h hob
        have hxv := ev_ok h x
        rw [hx] at hxv
        refine fin (x := .int .i64 (es.size : Nat)) (w' := w) ?_ h (.v _) hc
        subst e1; subst e2
        have hgo : (getObj (G.ob ob)).run P w = .ok (.map es cl) w := getObj_run hh (by intro a b c h; cases h)
        simp only [execOp, ho, resolve, Sem.run_bind, Sem.run_pure, Result.andThen_ok, invoke, builtin, List.map_toArray, List.map_cons, List.map_nil, mp_inv hxv, Builtin.len_, List.getElem?_toArray, List.getElem?_cons_zero, run_underlying hu, hgo]
        rfl
      · obtain ⟨b, hb, hc⟩ := hv
        refine vcOp_ok hΓ h hK ?_
        obtain ⟨dst, op, type, pos, aft, guard⟩ := o
        simp only at ho hb hc
        subst ho; subst e1; subst e2
        exact ⟨b, by simp only [popAll, pop, pop2, Option.or_none]; exact hb, hc⟩
    · exact hv.elim
  · rename_i op t x y yt ho   -- held against nil
    unfold binE at hv
    split at hv
    · rename_i ob hx hy
      obtain ⟨k, e, v, hu, hop, hc⟩ := hv
      have hxv := ev_ok h x
      have hyv := ev_ok h y
      rw [hx] at hxv; rw [hy] at hyv
      refine fin (x := .bool v) (w' := w) ?_ h (.v _) hc
      have e1 : Op.maxDepth = 9999 + 1 := rfl
      have heq : ∀ g w', (Op.equal t (.map (some g)) (.map none)).run P w' = .ok false w' := fun g w' => by
        rw [Op.equal, e1]
        generalize 9999 = d
        simp [Op.equalIn, run_underlying hu]
      simp only [execOp, ho, mp_inv hxv, hyv.v_inv, Sem.run_bind]
      rcases hop with ⟨rfl, rfl⟩ | ⟨rfl, rfl⟩ <;> simp [eqGuard, binOp, heq, Result.andThen]
    · exact vcOp_ok hΓ h hK hv
  · rename_i t x i c ho   -- lookup
    obtain ⟨r, hl, hc⟩ := hv
    obtain ⟨v, hrun, hvr⟩ := readL_ok h hl
    refine fin (x := v) (w' := w) ?_ h hvr hc
    simp only [execOp, ho, Sem.run_bind, hrun, Result.andThen_ok, Sem.run_pure]
  · rename_i t x ho   -- range
    unfold rangeE at hv
    split at hv
    · rename_i ob hx
      obtain ⟨k, e, es, cl, hu, hob, hc⟩ := hv
      obtain ⟨hol, hh⟩ := map_obj h hob
      have hxv := ev_ok h x
      rw [hx] at hxv
      have hne : w.heap.size ≠ G.ob ob := by have := (Array.getElem?_eq_some_iff.1 hh).1; omega
      have hob2 : (G.newOb w.heap.size).ob ob = G.ob ob := by
        simp only [Gh.newOb, upd]; rw [if_neg (by omega)]
      obtain ⟨hr, hp⟩ := h.newObj (.mapIter (some (G.ob ob)) cl #[] cl) (.mit ob cl #[] cl) (.mit ob cl #[] cl (by simp only [Gh.newOb]; omega) (by rw [hob2]; exact heap_alloc_new w _))
      refine fin ?_ hr hp hc
      have hgo : (getObj (G.ob ob)).run P w = .ok (.map es cl) w := getObj_run hh (by intro a b c h; cases h)
      simp only [execOp, ho, Instr.range, mp_inv hxv, Sem.run_bind, run_underlying hu, Result.andThen_ok, hgo, Sem.run_pure, run_newObj]
      rfl
    · exact vcOp_ok hΓ h hK hv
  · rename_i x ho   -- next
    unfold nextE at hv
    split at hv
    · rename_i it hx
      obtain ⟨ob, since, seen, last, es, cl, hit, hob, hno, hyes, hend⟩ := hv
      obtain ⟨hil, hih, hobl⟩ := mit_obj h hit
      obtain ⟨hol, hh⟩ := map_obj h hob
      have hxv := ev_ok h x
      rw [hx] at hxv
      have hgi : (getObj (G.ob it)).run P w = .ok (.mapIter (some (G.ob ob)) since seen last) w := getObj_run hih (by intro a b c h; cases h)
      have hgo : (getObj (G.ob ob)).run P w = .ok (.map es cl) w := getObj_run hh (by intro a b c h; cases h)
      generalize hold : ((es.filter fun e => !seen.contains e.born).filter (·.born < since)) = old
      generalize hnew : ((es.filter fun e => !seen.contains e.born).filter (·.born ≥ since)) = new
      generalize hcs : (if old.isEmpty then #[none] else #[]) ++ (old ++ new).map some = cs
      have hmem : ∀ e, some e ∈ cs → e ∈ es ∧ seen.contains e.born = false := fun e he => by
        rw [← hcs, Array.mem_append] at he
        rcases he with he | he
        · split at he <;> simp at he
        · rw [Array.mem_map] at he
          obtain ⟨e', he, h1⟩ := he
          obtain rfl := Option.some.inj h1
          rw [Array.mem_append, ← hold, ← hnew] at he
          simp only [Array.mem_filter] at he
          rcases he with ⟨⟨h1, h2⟩, _⟩ | ⟨⟨h1, h2⟩, _⟩ <;> exact ⟨h1, by simpa using h2⟩
      have hnone : none ∈ cs → ∀ e ∈ es, seen.contains e.born = false → since ≤ e.born := fun hn e he hs => by
        rw [← hcs, Array.mem_append] at hn
        rcases hn with hn | hn
        · split at hn
          · rename_i hemp
            rw [← hold] at hemp
            have := Array.isEmpty_iff.1 hemp
            rcases Nat.lt_or_ge e.born since with h1 | h1
            · have hin : e ∈ ((es.filter fun e => !seen.contains e.born).filter (·.born < since)) := by
                simp only [Array.mem_filter]
                exact ⟨⟨he, by simpa using hs⟩, by simpa using h1⟩
              rw [this] at hin
              simp at hin
            · exact h1
          · simp at hn
        · simp at hn
      have hpos : 0 < cs.size := by
        rw [← hcs]
        cases hemp : old.isEmpty with
        | true => simp; omega
        | false =>
          have : 0 < old.size := by
            rw [Array.isEmpty_eq_false_iff] at hemp
            exact Array.size_pos_iff.2 hemp
          simp; omega
      -- what is picked
      have hpick : ∃ q w', (choose (.mapNext cs.size)).run P w = .ok q w' ∧ q < cs.size ∧ Below w.heap.size w w' ∧ w'.heap = w.heap := by
        rw [run_choose]
        by_cases hf : Question.forced (.mapNext cs.size) = true
        · rw [if_pos hf]
          exact ⟨_, _, rfl, hpos, Below.refl _ _, rfl⟩
        · rw [if_neg hf]
          exact ⟨_, _, rfl, Nat.mod_lt _ hpos, Below.drew (Below.refl _ _), rfl⟩
      obtain ⟨q, w1, hq1, hq2, hq3, hq4⟩ := hpick
      have hr1 := h.below hq3
      have hcq : cs[q]? = some cs[q] := Array.getElem?_eq_getElem hq2
      have hin : cs[q] ∈ cs := Array.getElem_mem hq2
      generalize cs[q] = pe at hcq hin
      have hrun0 : ∀ (r : Except Halt Value) , True := fun _ => trivial
      cases pe with
      | none =>
        refine fin (x := .tuple #[.bool false]) (w' := w1) ?_ hr1 (.tup _ _ rfl fun k hk => match k, hk with | 0, _ => .v _) (hend (hnone hin))
        simp only [execOp, ho, ptr0_inv hxv, Instr.next, Sem.run_bind, hgi, Result.andThen_ok, hgo, hno, Bool.false_eq_true, if_false, hold, hnew, hcs, hq1, hcq, Sem.run_pure]
      | some e =>
        obtain ⟨h1, h2⟩ := hmem e hin
        have hih1 : w1.heap[G.ob it]? = some (.mapIter (some (G.ob ob)) since seen last) := by rw [hq4]; exact hih
        have hr2 := set_obj hr1 hil hih1 (.mapIter (some (G.ob ob)) since (seen.push e.born) cl) (.mit ob since (seen.push e.born) cl) (.mit _ _ _ _ hobl (set_get hih1 _))
        refine fin (x := .tuple #[.bool true, e.key, e.val]) ?_ hr2 (.tup _ _ rfl fun k hk => match k, hk with | 0, _ => .v _ | 1, _ => flatV_ok _ _ _ | 2, _ => flatV_ok _ _ _) (hyes e h1 h2)
        have hso := setObj_run (P := P) (.mapIter (some (G.ob ob)) since (seen.push e.born) cl) hih1 (by intro a b c h; cases h)
        simp only [execOp, ho, ptr0_inv hxv, Instr.next, Sem.run_bind, hgi, Result.andThen_ok, hgo, hno, Bool.false_eq_true, if_false, hold, hnew, hcs, hq1, hcq, hso, Sem.run_pure]
    · exact hv.elim
  · rename_i x ho   -- entry
    unfold entryE at hv
    split at hv
    · rename_i it hx
      obtain ⟨ob, since, seen, last, es, stamp, e, hit, hob, hb, hf, hc⟩ := hv
      obtain ⟨hil, hih, hobl⟩ := mit_obj h hit
      obtain ⟨hol, hh⟩ := map_obj h hob
      have hxv := ev_ok h x
      rw [hx] at hxv
      have hgi : (getObj (G.ob it)).run P w = .ok (.mapIter (some (G.ob ob)) since seen last) w := getObj_run hih (by intro a b c h; cases h)
      have hgo : (getObj (G.ob ob)).run P w = .ok (.map es last) w := getObj_run hh (by intro a b c h; cases h)
      refine fin (x := .tuple #[e.key, e.val]) (w' := w) ?_ h (pair_ok (flatV_ok _ _ _) (flatV_ok _ _ _)) hc
      simp [execOp, ho, ptr0_inv hxv, Instr.entry, Sem.run_bind, hgi, Result.andThen, hb, hgo, hf, Sem.run_pure]
    · exact hv.elim
  · rename_i t m k ho   -- mapEntry
    unfold mapEntE at hv
    split at hv
    · rename_i ob k' hx hk
      obtain ⟨es, cl, x, r, hob, hent, hc⟩ := hv
      obtain ⟨hol, hh⟩ := map_obj h hob
      have hxv := ev_ok h m
      rw [hx] at hxv
      have hkv := toV_ok (ev_ok h k) hk
      obtain ⟨v, es', cl', rfl, hrun, hvr⟩ := entA_run (G := G) hent hh
      refine fin (x := v) ?_ (set_obj h hol hh _ _ (.map _ _ (set_get hh _))) (hvr _) hc
      simp only [execOp, ho, mp_inv hxv, hkv, Sem.run_bind, hrun, Result.andThen_ok, Sem.run_pure]
    · exact hv.elim
  · rename_i t m s v ho   -- entryStore
    unfold entStE at hv
    split at hv
    · rename_i ob kk b v' hx hs hv2
      obtain ⟨es, cl, i, hob, hf, hc⟩ := hv
      obtain ⟨hol, hh⟩ := map_obj h hob
      have hxv := ev_ok h m
      have hsv := ev_ok h s
      rw [hx] at hxv
      rw [hs] at hsv
      have hvv := toV_ok (ev_ok h v) hv2
      have hr := set_obj h hol hh (.map (es.modify i fun e => { e with val := v' }) cl) (.map (es.modify i fun e => { e with val := v' }) cl) (.map _ _ (set_get hh _))
      obtain ⟨σ2, h2, h3⟩ := hr.cont (VR.v undef) hc
      unfold Oper.wp
      have hgo : (getObj (G.ob ob)).run P w = .ok (.map es cl) w := getObj_run hh (by intro a b c h; cases h)
      have hso := setObj_run (P := P) (.map (es.modify i fun e => { e with val := v' }) cl) hh (by intro a b c h; cases h)
      have : (execOp a.eval o).run P w = .ok .skip { w with heap := w.heap.setIfInBounds (G.ob ob) (.map (es.modify i fun e => { e with val := v' }) cl) } := by
        simp [execOp, ho, mp_inv hxv, hsv.v_inv, hvv, Instr.entryStore, asInt, asIntOf, Sem.run_bind, Sem.run_pure, hgo, Result.andThen, hf, hso]
      rw [this, Oper.upon_skip]
      exact hK _ _ _ _ h2 h3
    · exact hv.elim
  · exact vcOp_ok hΓ h hK hv
end
end Go.Rw
end

-- RwMapD
section
namespace Go.Rw
open Go Go.RowKit
set_option linter.unusedSimpArgs false
set_option linter.unusedVariables false
set_option linter.unusedSectionVars false

/-- A call that answers r, and leaves all that is told of m as it is. -/
def Still [Tabs] (P : Program) (m : AM) (f : FuncId) (as : List AV) (r : AV) : Prop := FnOk P f ∧ ∀ σ' : AS, (∀ o x, m.h o = some x → σ'.m.h o = some x) →
  ∀ w0 F0 Fp X G w a vs, Rel w0 F0 Fp X G w a σ' → vs.size = as.length → (∀ k, VR G w (vs.getD k undef) (as.getD k .any)) →
    Calls P f vs w fun ed w' => ∃ v G', ed = .returned v ∧ Rel w0 F0 Fp X G' w' a σ' ∧ VR G' w' v r
def qCall [Tabs] (P : Program) (Γ : Env) (m : AM) (f : AV) (as : List AV) (r : AV) : Prop := match f with
  | .fn g caps => aCall P Γ (.fn g caps) as r ∨ (Γ.get g = none ∧ Still P m g (as ++ caps) r)
  | _ => False
def qLen (P : Program) (m : AM) (t : TypeId) (a : AV) (args : Array TypeId) (ty : TypeId) : Option AV := match a with
  | .mp ob => match P.underlying t, m.h ob with
    | some (.map _ _), some (.map es _) => some (.v (.int .i64 (es.size : Nat)))
    | _, _ => none
  | a => lenA P t a args ty
/-- What an operation that turns nothing answers. -/
def qRes [Tabs] (P : Program) (Γ : Env) (σ : AS) (o : Oper) (r : AV) : Prop :=
  match o.op with
  | .call { callee := .value f, args, argTypes } => args.size = argTypes.size ∧ qCall P Γ σ.m (ev σ f) (List.zipWith (fun x t => evT P t σ x) args.toList argTypes.toList) r
  | .call { callee := .builtin .len, args, argTypes } => ∃ x t, args.toList = [x] ∧ argTypes.toList = [t] ∧ qLen P σ.m t (ev σ x) argTypes o.type = some r
  | .lookup t x i c => readL P σ t (ev σ x) (ev σ i) c = some r
  | .buildSlice t n parts => deadR P σ t n parts r
  | _ => popAll P σ o = some r
def YldM [Tabs] (P : Program) (Γ : Env) (ops : Array Oper) (σ : AS) (o : Oper) (r : AV) : Prop :=
  (∀ d, o.dst = some d → d < σ.n) ∧ ((gval ops σ o = some true ∧ qRes P Γ σ o r) ∨ (gval ops σ o = some false ∧ r = .v undef))

def isMapOp (o : Oper) : Bool := match o.op with
  | .mapUpdate .. => true
  | .mapEntry .. => true
  | .entryStore .. => true
  | _ => false
def isEnt (o : Oper) : Bool := match o.op with
  | .mapEntry .. => true
  | _ => false
def isLook (o : Oper) : Bool := match o.op with
  | .lookup _ _ _ false => true
  | _ => false
def isVal (o : Oper) : Bool := match o.op with
  | .call { callee := .value _, .. } => true
  | _ => false
/-- A look at the key, at which an entry is laid. -/
def lookEnt (x y : Oper) : Bool := match x.op, y.op with
  | .lookup t _ (.tmp a) false, .mapEntry t' _ (.tmp b) => t == t' && a == b
  | _, _ => false
def isRead (o : Oper) : Bool := match o.op with
  | .lookup .. => true
  | .call { callee := .value _, .. } => true
  | .call { callee := .builtin .len, .. } => true
  | _ => false
def isMemM (o : Oper) : Bool := isMem o || isMapOp o
def memOkM (x y : Oper) : Bool := !isMemM x && !(isStore y && (isLoad x || isVal x)) && !(isMapOp y && isRead x && !lookEnt x y)
def memBM (ops : Array Oper) : Bool := !ops.any isMemM || (List.range ops.size).all fun i => (List.range ops.size).all fun j => match ops[i]?, ops[j]? with
  | some x, some y => decide (j ≤ i) || boundTo i y || memOkM x y
  | _, _ => true
/-- The order of the text speaks for all. -/
def lexMM (ops : Array Oper) : Bool := Region.lexB .any ops && memBM ops

/-- What is told of a map at a key stays, when an entry is laid. -/
def Steady (P : Program) (σ : AS) (ob : Nat) (x : AO) (t : TypeId) (i : AV) : Prop := ∀ r, readL P σ t (.mp ob) i false = some r → readL P { σ with m := σ.m.setObj ob x } t (.mp ob) i false = some r
def mapEntQ [Tabs] (P : Program) (t : TypeId) (a : AV) (k : Option Value) (ka : AV) (d : Option Nat) (K : AS → Prop) (σ : AS) : Prop := match a, k with
  | .mp ob, some k => ∃ es cl x r, σ.m.h ob = some (.map es cl) ∧ entA P t k es cl = some (x, r) ∧ Steady P σ ob x t ka ∧ cont { σ with m := σ.m.setObj ob x } d r K
  | _, _ => False

/-- An operation of a region that draws its order. -/
def vcQ [Tabs] (P : Program) (Γ : Env) (σ : AS) (o : Oper) (K : AS → Prop) : Prop := match o.op with
  | .call { callee := .value f, args, argTypes } => args.size = argTypes.size ∧ (match ev σ f with
    | .fn g caps => match Γ.get g with
      | none => ∃ r, Still P σ.m g ((List.zipWith (fun x t => evT P t σ x) args.toList argTypes.toList) ++ caps) r ∧ cont σ o.dst r K
      | some _ => vcCall P Γ true σ g ((List.zipWith (fun x t => evT P t σ x) args.toList argTypes.toList) ++ caps) o.dst K
    | _ => False)
  | .call { callee := .builtin .len, args, argTypes } => match args.toList, argTypes.toList with
    | [x], [t] => ∃ r, qLen P σ.m t (ev σ x) argTypes o.type = some r ∧ cont σ o.dst r K
    | _, _ => False
  | .lookup t x i c => ∃ r, readL P σ t (ev σ x) (ev σ i) c = some r ∧ cont σ o.dst r K
  | .mapUpdate t m k v => vcOp P Γ false σ o K
  | .mapEntry t m k => mapEntQ P t (ev σ m) (toV (ev σ k)) (ev σ k) o.dst K σ
  | .entryStore t m s v => entStE (ev σ m) (ev σ s) (toV (ev σ v)) o.dst K σ
  | _ => vcOp P Γ true σ o K
def vcOpsQ [Tabs] (P : Program) (Γ : Env) (ops : Array Oper) : List Oper → (AS → Prop) → AS → Prop
  | [], K, σ => K σ
  | o :: r, K, σ => guarded ops σ o (vcQ P Γ σ o (vcOpsQ P Γ ops r K)) (cont σ o.dst (.v undef) (vcOpsQ P Γ ops r K))
/-- An operation of a region in the order of the text. -/
def vcOpsE [Tabs] (P : Program) (Γ : Env) (ops : Array Oper) : List Oper → (AS → Prop) → AS → Prop
  | [], K, σ => K σ
  | o :: r, K, σ => guarded ops σ o (vcE P Γ σ o (vcOpsE P Γ ops r K)) (cont σ o.dst (.v undef) (vcOpsE P Γ ops r K))

section
variable {P : Program} [Tabs] {Γ : Env} {ops : Array Oper} {K : AS → Prop}

/-- An operation is taken: it answers, or turns the memory. -/
def StpM [Tabs] (P : Program) (Γ : Env) (ops : Array Oper) (σ : AS) (o : Oper) (σ' : AS) : Prop :=
  (∃ r, YldM P Γ ops σ o r ∧ σ' = σ.putO o.dst r) ∨ (isMemM o = true ∧ gval ops σ o = some true ∧ vcQ P Γ σ o (fun s => s = σ'))
theorem memM_is {σ : AS} {o : Oper} {K : AS → Prop} (hm : isMemM o = true) (h : vcQ P Γ σ o K) : ∃ σ', vcQ P Γ σ o (fun s => s = σ') ∧ K σ' := by
  obtain ⟨dst, op, type, pos, aft, guard⟩ := o
  cases op <;> try (simp [isMemM, isMem, isMapOp] at hm; done)
  · exact mem_is (Γ := Γ) (o := ⟨dst, .alloc _, type, pos, aft, guard⟩) rfl h
  · exact mem_is (Γ := Γ) (o := ⟨dst, .store _ _ _, type, pos, aft, guard⟩) rfl h
  · obtain ⟨h0, ob, d, k', v', x, h1, h2, h3, h4, h5, hc⟩ := h
    obtain ⟨σ', h6, h7⟩ := cont_is hc
    exact ⟨σ', ⟨h0, ob, d, k', v', x, h1, h2, h3, h4, h5, h6⟩, h7⟩
  · rename_i t m k
    unfold vcQ at h ⊢
    simp only at h ⊢
    unfold mapEntQ at h
    split at h
    · rename_i ob k' hx hk
      obtain ⟨es, cl, x, r, h1, h2, h3, hc⟩ := h
      obtain ⟨σ', h6, h7⟩ := cont_is hc
      refine ⟨σ', ?_, h7⟩
      rw [hx, hk]
      exact ⟨es, cl, x, r, h1, h2, h3, h6⟩
    · exact h.elim
  · rename_i t m s v
    unfold vcQ at h ⊢
    simp only at h ⊢
    unfold entStE at h
    split at h
    · rename_i ob kk b v' hx hs hv
      obtain ⟨es, cl, i, h1, h2, hc⟩ := h
      obtain ⟨σ', h6, h7⟩ := cont_is hc
      refine ⟨σ', ?_, h7⟩
      rw [hx, hs, hv]
      exact ⟨es, cl, i, h1, h2, h6⟩
    · exact h.elim

theorem stpM_of {σ : AS} {o : Oper} {l : List Oper} (h : vcOpsQ P Γ ops (o :: l) K σ) : ∃ σ', StpM P Γ ops σ o σ' ∧ vcOpsQ P Γ ops l K σ' := by
  unfold vcOpsQ at h
  have yes0 : ∀ {K' : AS → Prop}, isMemM o = false → vcQ P Γ σ o K' → ∃ r, (∀ d, o.dst = some d → d < σ.n) ∧ qRes P Γ σ o r ∧ K' (σ.putO o.dst r) := by
    intro K' hnm hv
    have one : ∀ {r : AV}, cont σ o.dst r K' → qRes P Γ σ o r → ∃ r, (∀ d, o.dst = some d → d < σ.n) ∧ qRes P Γ σ o r ∧ K' (σ.putO o.dst r) := by
      intro r hc hr
      obtain ⟨h1, h2⟩ := cont_putO hc
      exact ⟨r, h1, hr, h2⟩
    unfold vcQ at hv
    split at hv
    · rename_i f args argTypes ho
      obtain ⟨hsz, hv⟩ := hv
      split at hv
      · rename_i g caps hf
        split at hv
        · rename_i hg
          obtain ⟨r, hr, hc⟩ := hv
          refine one hc ?_
          unfold qRes
          rw [ho]
          refine ⟨hsz, ?_⟩
          rw [hf]
          exact .inr ⟨hg, hr⟩
        · rename_i C hC
          unfold vcCall at hv
          rw [hC] at hv
          obtain ⟨i, hi, hv⟩ := hv
          simp only [if_true] at hv
          obtain ⟨hpl, hown, htk, r, hr, hc⟩ := hv
          refine one hc ?_
          unfold qRes
          rw [ho]
          refine ⟨hsz, ?_⟩
          rw [hf]
          exact .inl ⟨C, hC, i, hi, hpl, hown, htk, r, hr, rfl⟩
      · exact hv.elim
    · rename_i args argTypes ho
      split at hv
      · rename_i x t hax hat
        obtain ⟨r, hr, hc⟩ := hv
        refine one hc ?_
        unfold qRes
        rw [ho]
        exact ⟨x, t, hax, hat, hr⟩
      · exact hv.elim
    · rename_i t x i c ho
      obtain ⟨r, hr, hc⟩ := hv
      refine one hc ?_
      unfold qRes
      rw [ho]; exact hr
    · rename_i t m k v ho; simp [isMemM, isMem, isMapOp, ho] at hnm
    · rename_i t m k ho; simp [isMemM, isMem, isMapOp, ho] at hnm
    · rename_i t m s v ho; simp [isMemM, isMem, isMapOp, ho] at hnm
    · rename_i hn1 hn2 hn3 hn4 hn5 hn6
      have hs : isStore o = false := by
        cases hh : isStore o with
        | false => rfl
        | true => simp only [isMemM, Bool.or_eq_false_iff] at hnm; unfold isStore at hh; unfold isMem at hnm; split at hh <;> simp_all
      have ha : isAlloc o = false := by
        cases hh : isAlloc o with
        | false => rfl
        | true => simp only [isMemM, Bool.or_eq_false_iff] at hnm; unfold isAlloc at hh; unfold isMem at hnm; split at hh <;> simp_all
      obtain ⟨r, hr, h1, h2⟩ := op_res hs ha hv
      refine ⟨r, h1, ?_, h2⟩
      unfold aRes at hr
      unfold qRes
      split at hr
      · rename_i f args argTypes ho
        exact absurd ho (hn1 f args argTypes)
      · rename_i t n parts ho
        rw [ho]; exact hr
      · rename_i _ hbs
        split
        · rename_i f args argTypes ho; exact absurd ho (hn1 _ _ _)
        · rename_i args argTypes ho; exact absurd ho (hn2 _ _)
        · rename_i t x i c ho; exact absurd ho (hn3 _ _ _ _)
        · rename_i t n parts ho; exact absurd ho (hbs _ _ _)
        · exact hr
  have yes : ∀ {K' : AS → Prop}, gval ops σ o = some true → vcQ P Γ σ o K' → ∃ σ', StpM P Γ ops σ o σ' ∧ K' σ' := by
    intro K' hg hv
    cases hm : isMemM o with
    | true =>
      obtain ⟨σ', h1, h2⟩ := memM_is hm hv
      exact ⟨σ', .inr ⟨hm, hg, h1⟩, h2⟩
    | false =>
      obtain ⟨r, h1, h2, h3⟩ := yes0 hm hv
      exact ⟨_, .inl ⟨r, ⟨h1, .inl ⟨hg, h2⟩⟩, rfl⟩, h3⟩
  have no : gval ops σ o = some false → ∀ {K' : AS → Prop}, cont σ o.dst (.v undef) K' → ∃ σ', StpM P Γ ops σ o σ' ∧ K' σ' := by
    intro hg K' hc
    obtain ⟨h1, h2⟩ := cont_putO hc
    exact ⟨_, .inl ⟨_, ⟨h1, .inr ⟨hg, rfl⟩⟩, rfl⟩, h2⟩
  unfold guarded at h
  cases hg : o.guard with
  | none =>
    rw [hg] at h
    exact yes (by simp [gval, hg]) h
  | some jw =>
    obtain ⟨j, want⟩ := jw
    rw [hg] at h
    simp only at h
    cases hd : (ops[j]?).bind (·.dst) with
    | none =>
      rw [hd] at h
      exact no (by simp [gval, hg, hd]) h
    | some d =>
      rw [hd] at h
      simp only at h
      split at h
      · rename_i b hb
        split at h
        · rename_i hbw
          exact yes (by simp [gval, hg, hd, hb, hbw]) h
        · rename_i hbw
          exact no (by simp [gval, hg, hd, hb, hbw]) h
      · rename_i t hb
        exact no (by simp [gval, hg, hd, hb]) h
      · exact h.elim

-- what an operation does not look at makes no difference
omit [Tabs] in
theorem readL_congr {σ σ' : AS} {t : TypeId} {x i : AV} {c : Bool} (hm : σ.m = σ'.m) : readL P σ t x i c = readL P σ' t x i c := by
  unfold readL lookA
  rw [hm]
theorem qRes_congr {σ σ' : AS} {o : Oper} {r : AV} (hm : σ.m = σ'.m) (h : ∀ x ∈ o.op.operands, ev σ x = ev σ' x) (hr : qRes P Γ σ o r) : qRes P Γ σ' o r := by
  unfold qRes at hr ⊢
  split at hr
  · rename_i f args argTypes ho
    rw [ho] at h
    obtain ⟨hs, hr⟩ := hr
    refine ⟨hs, ?_⟩
    rw [← hm, ← h f (by simp [Op.operands, Call.operands]), ← zip_congr fun x hx => h x (by simp [Op.operands, Call.operands]; exact .inr (by simpa using hx))]
    exact hr
  · rename_i args argTypes ho
    rw [ho] at h
    obtain ⟨x, t, h1, h2, h3⟩ := hr
    refine ⟨x, t, h1, h2, ?_⟩
    rw [← hm, ← h x (by simp only [Op.operands, Call.operands]; rw [← Array.mem_toList_iff] at *; simp [h1])]
    exact h3
  · rename_i t x i c ho
    rw [ho] at h
    rw [← h x (by simp [Op.operands]), ← h i (by simp [Op.operands]), ← readL_congr hm]
    exact hr
  · rename_i t n parts ho
    exact dead_congr (fun p hp => h p.2 (by rw [ho]; simp only [Op.operands]; simp only [List.mem_toArray, List.mem_map]; exact ⟨p, hp, rfl⟩)) hr
  · rw [← popAll_congr hm h]; exact hr
theorem yldM_putO {σ : AS} {o : Oper} {d : Option Nat} {u r : AV} (h : ∀ k, d = some k → k ∉ o.looksAt ops) : YldM P Γ ops (σ.putO d u) o r ↔ YldM P Γ ops σ o r := by
  have hn : (σ.putO d u).n = σ.n := by cases d <;> rfl
  have hm : (σ.putO d u).m = σ.m := by cases d <;> rfl
  have he : ∀ x ∈ o.op.operands, ev (σ.putO d u) x = ev σ x := fun x hx => ev_putO fun k hk hxk => h k hk (by
    subst hxk
    exact List.mem_append_left _ (List.mem_filterMap.2 ⟨.tmp k, by simpa using hx, rfl⟩))
  unfold YldM
  rw [gval_putO h, hn]
  constructor
  · rintro ⟨h1, h2⟩
    exact ⟨h1, h2.imp_left fun ⟨h3, h4⟩ => ⟨h3, qRes_congr hm he h4⟩⟩
  · rintro ⟨h1, h2⟩
    exact ⟨h1, h2.imp_left fun ⟨h3, h4⟩ => ⟨h3, qRes_congr hm.symm (fun x hx => (he x hx).symm) h4⟩⟩
theorem Still.mono {m m' : AM} {f : FuncId} {as : List AV} {r : AV} (h : Still P m f as r) (hh : ∀ o x, m.h o = some x → m'.h o = some x) : Still P m' f as r :=
  ⟨h.1, fun σ' h2 => h.2 σ' fun o x hx => h2 o x (hh o x hx)⟩
omit [Tabs] in
/-- What is told of a map hangs on that map alone. -/
theorem readL_at {σ σ' : AS} {t : TypeId} {x i r : AV} {c : Bool} (hh : ∀ ob es cl, x = .mp ob → σ.m.h ob = some (.map es cl) → σ'.m.h ob = some (.map es cl)) (h : readL P σ t x i c = some r) : readL P σ' t x i c = some r := by
  unfold readL at h ⊢
  cases hk : keyT P t with
  | some d =>
    simp only [hk, lookA] at h ⊢
    cases hv : toV i with
    | none => simp only [hv] at h; cases h
    | some k =>
      simp only [hv] at h ⊢
      cases x with
      | mp ob =>
        simp only at h ⊢
        cases ho : σ.m.h ob with
        | none => simp only [ho] at h; cases h
        | some o =>
          cases o with
          | map es cl => simp only [ho] at h; simp only [hh ob es cl rfl ho]; exact h
          | _ => simp only [ho] at h; cases h
      | v y => cases y <;> first | exact h | (rename_i o; cases o <;> exact h)
      | _ => exact h
  | none =>
    simp only [hk, lookK] at h ⊢
    cases hv : toV i with
    | none => simp only [hv] at h; cases x <;> cases h
    | some k =>
      simp only [hv] at h ⊢
      cases x with
      | mp ob =>
        simp only at h ⊢
        cases ho : σ.m.h ob with
        | none => simp only [ho] at h; cases h
        | some o =>
          cases o with
          | map es cl => simp only [ho] at h; simp only [hh ob es cl rfl ho]; exact h
          | _ => simp only [ho] at h; cases h
      | _ => cases h
omit [Tabs] in
theorem qLen_at {m m' : AM} {t : TypeId} {x r : AV} {args : Array TypeId} {ty : TypeId} (hh : ∀ ob es cl, x = .mp ob → m.h ob = some (.map es cl) → m'.h ob = some (.map es cl)) (h : qLen P m t x args ty = some r) : qLen P m' t x args ty = some r := by
  cases x with
  | mp ob =>
    unfold qLen at h ⊢
    simp only at h ⊢
    split at h
    · rename_i k e es cl hu hob
      simp only [hu, hh ob es cl rfl hob]; exact h
    · cases h
  | _ => exact h
theorem qRes_more {σ : AS} {m : AM} {o : Oper} {r : AV} (hh : ∀ o x, σ.m.h o = some x → m.h o = some x) (hp : popAll P σ o = some r → popAll P { σ with m := m } o = some r) (h : qRes P Γ σ o r) : qRes P Γ { σ with m := m } o r := by
  unfold qRes at h ⊢
  split at h
  · rename_i f args argTypes ho
    obtain ⟨h1, h2⟩ := h
    refine ⟨h1, ?_⟩
    have e1 : (List.zipWith (fun x t => evT P t { σ with m := m } x) args.toList argTypes.toList) = List.zipWith (fun x t => evT P t σ x) args.toList argTypes.toList := zip_congr fun x _ => ev_mem
    rw [e1, ev_mem]
    unfold qCall at h2 ⊢
    split at h2
    · exact h2.imp_right fun ⟨h3, h4⟩ => ⟨h3, h4.mono hh⟩
    · exact h2.elim
  · rename_i args argTypes ho
    obtain ⟨x, t, h1, h2, h3⟩ := h
    exact ⟨x, t, h1, h2, by rw [ev_mem]; exact qLen_at (fun ob es cl _ => hh ob _) h3⟩
  · rw [ev_mem, ev_mem]; exact readL_at (fun ob es cl _ => hh ob _) h
  · exact dead_congr (fun p _ => ev_mem.symm) h
  · exact hp h
theorem yldM_new {σ : AS} {o : Oper} {c : AO} {r : AV} (h0 : σ.m.h σ.m.nh = none) (h : YldM P Γ ops σ o r) : YldM P Γ ops (σ.new c) o r := by
  refine ⟨h.1, h.2.imp_left fun ⟨h1, h2⟩ => ⟨h1, ?_⟩⟩
  refine qRes_more (m := σ.m.newObj c) (fun o x hx => ?_) (fun hp => popAll_new h0 hp) h2
  show upd σ.m.h σ.m.nh _ o = _
  rw [upd_other _ _ (by rintro rfl; rw [h0] at hx; cases hx)]; exact hx
/-- What turns a row's cells, and what does not look there. -/
theorem yldM_cells {σ : AS} {o : Oper} {ob : Nat} {cs cs' : List AV} {r : AV} (hob : σ.m.h ob = some (.cells cs)) (hl : isLoad o = false) (hv : isVal o = false) (h : YldM P Γ ops σ o r) : YldM P Γ ops { σ with m := σ.m.setObj ob (.cells cs') } o r := by
  refine ⟨h.1, h.2.imp_left fun ⟨h1, h2⟩ => ⟨h1, ?_⟩⟩
  have hmap : ∀ o es cl, σ.m.h o = some (.map es cl) → (σ.m.setObj ob (.cells cs')).h o = some (.map es cl) := fun o es cl hx => by
    show upd σ.m.h ob _ o = _
    rw [upd_other _ _ (by rintro rfl; rw [hob] at hx; cases hx)]; exact hx
  unfold qRes at h2 ⊢
  split at h2
  · rename_i f args argTypes ho; simp [isVal, ho] at hv
  · rename_i args argTypes ho
    obtain ⟨x, t, h1, h2, h3⟩ := h2
    refine ⟨x, t, h1, h2, ?_⟩
    rw [ev_mem]
    exact qLen_at (fun ob2 es cl _ => hmap ob2 es cl) h3
  · rw [ev_mem, ev_mem]
    exact readL_at (fun ob2 es cl _ => hmap ob2 es cl) h2
  · exact dead_congr (fun p _ => ev_mem.symm) h2
  · rw [popAll_mem hl]; exact h2
omit [Tabs] in
theorem popAll_map {σ : AS} {o : Oper} {ob : Nat} {es : Array MapEntry} {cl : Nat} {x : AO} {r : AV} (hob : σ.m.h ob = some (.map es cl)) (h : popAll P σ o = some r) : popAll P { σ with m := σ.m.setObj ob x } o = some r := by
  cases hl : isLoad o with
  | false => rw [popAll_mem hl]; exact h
  | true =>
    obtain ⟨dst, op, type, pos, aft, guard⟩ := o
    cases op <;> try (simp [isLoad] at hl; done)
    rename_i t y
    simp only [popAll, pop, pop2, ev_mem] at h ⊢
    split at h
    · rename_i ob2 k hx
      have e : (σ.m.setObj ob x).h ob2 = σ.m.h ob2 := by
        show upd σ.m.h ob _ ob2 = _
        refine upd_other _ _ ?_
        rintro rfl
        rw [hob] at h
        simp at h
      rw [hx] at *
      simp only [e]; exact h
    · exact h
    · simp at h
/-- What turns a map, and what does not look there. -/
theorem yldM_map {σ : AS} {o : Oper} {ob : Nat} {es : Array MapEntry} {cl : Nat} {x : AO} {r : AV} (hob : σ.m.h ob = some (.map es cl)) (hr : isRead o = false ∨ (∃ t y i, o.op = .lookup t y i false ∧ Steady P σ ob x t (ev σ i))) (h : YldM P Γ ops σ o r) : YldM P Γ ops { σ with m := σ.m.setObj ob x } o r := by
  refine ⟨h.1, h.2.imp_left fun ⟨h1, h2⟩ => ⟨h1, ?_⟩⟩
  unfold qRes at h2 ⊢
  split at h2
  · rename_i f args argTypes ho
    rcases hr with hr | ⟨_, _, _, hr, _⟩
    · simp [isRead, ho] at hr
    · rw [ho] at hr; cases hr
  · rename_i args argTypes ho
    rcases hr with hr | ⟨_, _, _, hr, _⟩
    · simp [isRead, ho] at hr
    · rw [ho] at hr; cases hr
  · rename_i t y i c ho
    rcases hr with hr | ⟨_, _, _, hr, hst⟩
    · simp [isRead, ho] at hr
    · rw [ho] at hr
      injection hr with q1 q2 q3 q4
      subst q1 q2 q3 q4
      rw [ev_mem, ev_mem]
      by_cases hy : ev σ y = .mp ob
      · rw [hy] at h2 ⊢
        exact hst _ h2
      · refine readL_at (fun ob2 es2 cl2 h4 h5 => ?_) h2
        show upd σ.m.h ob _ ob2 = _
        rw [upd_other _ _ (by rintro rfl; exact hy h4)]; exact h5
  · exact dead_congr (fun p _ => ev_mem.symm) h2
  · exact popAll_map hob h2
omit [Tabs] in
theorem putO_set {σ : AS} {d : Option Nat} {r : AV} {m : AM} : ({ σ.putO d r with m := m } : AS) = ({ σ with m := m } : AS).putO d r := by cases d <;> rfl
omit [Tabs] in
theorem steady_putO {σ : AS} {d : Option Nat} {r : AV} {ob : Nat} {x : AO} {t : TypeId} {i : AV} (h : Steady P (σ.putO d r) ob x t i) : Steady P σ ob x t i := fun r' h1 => by
  have hm : (σ.putO d r).m = σ.m := by cases d <;> rfl
  have h2 := h r' (by rw [readL_congr hm]; exact h1)
  rw [readL_congr (σ' := { σ with m := σ.m.setObj ob x }) (by simp only [hm])] at h2
  exact h2
theorem lookEnt_spec {x y : Oper} (h : lookEnt x y = true) : ∃ t xo k mo, x.op = .lookup t xo k false ∧ y.op = .mapEntry t mo k := by
  unfold lookEnt at h
  split at h
  · rename_i t xo a t' mo b h1 h2
    simp only [Bool.and_eq_true, beq_iff_eq] at h
    obtain ⟨rfl, rfl⟩ := h
    exact ⟨_, _, _, _, h1, h2⟩
  · cases h
/-- What turns the memory, and what answers, may change places. -/
theorem memM_comm {σ σ' : AS} {x y : Oper} {r : AV} (hm : isMemM y = true) (hok : memOkM x y = true) (a1 : ∀ d, x.dst = some d → d ∉ y.looksAt ops) (a2 : ∀ d, x.dst = some d → y.dst ≠ some d) (a3 : ∀ d, y.dst = some d → d ∉ x.looksAt ops)
    (hy : YldM P Γ ops σ x r) (h : vcQ P Γ (σ.putO x.dst r) y (fun s => s = σ')) : ∃ σm, vcQ P Γ σ y (fun s => s = σm) ∧ YldM P Γ ops σm x r ∧ σ' = σm.putO x.dst r := by
  have hmm : (σ.putO x.dst r).m = σ.m := by cases x.dst <;> rfl
  have hnn : (σ.putO x.dst r).n = σ.n := by cases x.dst <;> rfl
  have he : ∀ z ∈ y.op.operands, ev (σ.putO x.dst r) z = ev σ z := fun z hz => ev_putO fun k hk hxk => a1 k hk (by
    subst hxk
    exact List.mem_append_left _ (List.mem_filterMap.2 ⟨.tmp k, by simpa using hz, rfl⟩))
  have put : ∀ m : AM, ({ σ.putO x.dst r with m := m } : AS) = ({ σ with m := m } : AS).putO x.dst r := fun m => putO_set
  have nn : ∀ m : AM, (AS.putO { σ with m := m } x.dst r).n = σ.n := fun m => by cases x.dst <;> rfl
  simp only [memOkM, Bool.and_eq_true, Bool.not_eq_true'] at hok
  obtain ⟨⟨_, hok1⟩, hok2⟩ := hok
  obtain ⟨dst, op, type, pos, aft, guard⟩ := y
  -- a map that is turned
  have mapc : ∀ {ob : Nat} {es : Array MapEntry} {cl : Nat} {x' : AO} {v : AV}, σ.m.h ob = some (.map es cl) → (isRead x = false ∨ (∃ t y i, x.op = .lookup t y i false ∧ Steady P σ ob x' t (ev σ i))) →
      cont { σ.putO x.dst r with m := (σ.putO x.dst r).m.setObj ob x' } dst v (fun s => s = σ') → ∃ σm, cont { σ with m := σ.m.setObj ob x' } dst v (fun s => s = σm) ∧ YldM P Γ ops σm x r ∧ σ' = σm.putO x.dst r := by
    intro ob es cl x' v hob hrd hc
    rw [hmm] at hc
    obtain ⟨e1, e2⟩ := cont_eq hc
    rw [put] at e1 e2
    refine ⟨({ σ with m := σ.m.setObj ob x' } : AS).putO dst v, cont_of fun j hj => by have := e2 j hj; rw [nn] at this; exact this, (yldM_putO a3).2 (yldM_map hob hrd hy), ?_⟩
    rw [e1]
    exact putO_comm _ r _ a2
  have hrd0 : isMapOp ⟨dst, op, type, pos, aft, guard⟩ = true → isEnt ⟨dst, op, type, pos, aft, guard⟩ = false → isRead x = false := fun h1 h2 => by
    have h3 : lookEnt x ⟨dst, op, type, pos, aft, guard⟩ = false := by
      rcases Bool.eq_false_or_eq_true (lookEnt x ⟨dst, op, type, pos, aft, guard⟩) with h4 | h4
      · obtain ⟨_, _, _, _, _, h5⟩ := lookEnt_spec h4
        simp only at h5
        subst h5
        simp [isEnt] at h2
      · exact h4
    rw [h1, h3] at hok2
    simpa using hok2
  cases op <;> try (simp [isMemM, isMem, isMapOp] at hm; done)
  · obtain ⟨h0, z, cs, hz, hcs, hc⟩ := h
    rw [hmm] at h0
    obtain ⟨e1, e2⟩ := cont_eq hc
    refine ⟨(σ.new (.cells cs)).putO dst (.ptr σ.m.nh 0), ⟨h0, z, cs, hz, hcs, cont_of fun k hk => by have := e2 k hk; have e3 : ((σ.putO x.dst r).new (.cells cs)).n = σ.n := hnn; rw [e3] at this; exact this⟩, ?_, ?_⟩
    · exact (yldM_putO a3).2 (yldM_new (h0 rfl) hy)
    · rw [e1, hmm]
      have e4 : (σ.putO x.dst r).new (.cells cs) = (σ.new (.cells cs)).putO x.dst r := by cases x.dst <;> rfl
      rw [e4]
      exact putO_comm _ r _ a2
  · rename_i t px py
    obtain ⟨h0, hv⟩ := h
    obtain ⟨ob, k, hx⟩ := h0 rfl
    rw [hx] at hv
    obtain ⟨ti, cs, vs, h1, h2, h3, h4, h5, hc⟩ := hv
    rw [he px (by simp [Op.operands])] at hx
    rw [he py (by simp [Op.operands])] at h3
    rw [hmm] at h2 hc
    obtain ⟨e1, e2⟩ := cont_eq hc
    rw [put] at e1 e2
    have hlv : isLoad x = false ∧ isVal x = false := by
      simp only [isStore, Bool.true_and, Bool.or_eq_false_iff] at hok1
      exact hok1
    refine ⟨({ σ with m := σ.m.setObj ob (.cells (cs.take k ++ vs ++ cs.drop (k + vs.length))) } : AS).putO dst (.v undef), ⟨fun _ => ⟨ob, k, hx⟩, ?_⟩, ?_, ?_⟩
    · rw [hx]
      exact ⟨ti, cs, vs, h1, h2, h3, h4, h5, cont_of fun j hj => by have := e2 j hj; rw [nn] at this; exact this⟩
    · exact (yldM_putO a3).2 (yldM_cells h2 hlv.1 hlv.2 hy)
    · rw [e1]
      exact putO_comm _ r _ a2
  · rename_i t mo ko vo
    obtain ⟨h0, ob, d, k', v', x', h1, h2, h3, h4, h5, hc⟩ := h
    rw [he mo (by simp [Op.operands])] at h1
    rw [he ko (by simp [Op.operands])] at h3
    rw [he vo (by simp [Op.operands])] at h4
    rw [hmm] at h5
    have hob : ∃ es cl, σ.m.h ob = some (.map es cl) := by
      unfold updO at h5
      split at h5
      · exact ⟨_, _, by assumption⟩
      · cases h5
    obtain ⟨es, cl, hob⟩ := hob
    obtain ⟨σm, c1, c2, c3⟩ := mapc hob (.inl (hrd0 rfl rfl)) hc
    exact ⟨σm, ⟨h0, ob, d, k', v', x', h1, h2, h3, h4, h5, c1⟩, c2, c3⟩
  · rename_i t mo ko
    unfold vcQ at h
    simp only at h
    rw [he mo (by simp [Op.operands]), he ko (by simp [Op.operands])] at h
    unfold mapEntQ at h
    split at h
    · rename_i ob k' hx hk
      obtain ⟨es, cl, x', rv, h1, h2, h3, hc⟩ := h
      rw [hmm] at h1
      have hst := steady_putO h3
      have hrd : isRead x = false ∨ (∃ t y i, x.op = .lookup t y i false ∧ Steady P σ ob x' t (ev σ i)) := by
        cases hrx : isRead x with
        | false => exact .inl rfl
        | true =>
          rw [hrx] at hok2
          have h4 : lookEnt x ⟨dst, .mapEntry t mo ko, type, pos, aft, guard⟩ = true := by simpa [isMapOp] using hok2
          obtain ⟨t2, xo, k2, mo2, h5, h6⟩ := lookEnt_spec h4
          simp only [Op.mapEntry.injEq] at h6
          obtain ⟨rfl, rfl, rfl⟩ := h6
          exact .inr ⟨_, _, _, h5, hst⟩
      obtain ⟨σm, c1, c2, c3⟩ := mapc h1 hrd hc
      refine ⟨σm, ?_, c2, c3⟩
      unfold vcQ
      simp only [hx, hk]
      exact ⟨es, cl, x', rv, h1, h2, hst, c1⟩
    · exact h.elim
  · rename_i t mo so vo
    unfold vcQ at h
    simp only at h
    rw [he mo (by simp [Op.operands]), he so (by simp [Op.operands]), he vo (by simp [Op.operands])] at h
    unfold entStE at h
    split at h
    · rename_i ob kk b v' hx hs hv
      obtain ⟨es, cl, i, h1, h2, hc⟩ := h
      rw [hmm] at h1
      obtain ⟨σm, c1, c2, c3⟩ := mapc h1 (.inl (hrd0 rfl rfl)) hc
      refine ⟨σm, ?_, c2, c3⟩
      unfold vcQ
      simp only [hx, hs, hv]
      exact ⟨es, cl, i, h1, h2, c1⟩
    · exact h.elim

/-- Whatever order is picked from here on. -/
def anyM [Tabs] (P : Program) (Γ : Env) (ops : Array Oper) (K : AS → Prop) : Nat → Array Bool → AS → Prop
  | 0, L, σ => Region.ready .any ops L = [] ∧ K σ
  | f + 1, L, σ => (Region.ready .any ops L = [] → K σ) ∧ ∀ i ∈ Region.ready .any ops L, ∃ o σ', ops[i]? = some o ∧ StpM P Γ ops σ o σ' ∧ anyM P Γ ops K f (L.setIfInBounds i true) σ'

/-- What may come up now may be taken first. -/
theorem anyM_first {i : Nat} {oi : Oper} {r : AV} (hi : ops[i]? = some oi) : ∀ (f : Nat) (L : Array Bool) (σ : AS),
    (∀ j oj, ops[j]? = some oj → j ≠ i → L.getD j true = false → (∀ e ∈ oj.after, Region.binds .any e = true → e.on ≠ i) → oi.apart ops oj = true ∧ memOkM oi oj = true) →
    i ∈ Region.ready .any ops L → YldM P Γ ops σ oi r → anyM P Γ ops K f (L.setIfInBounds i true) (σ.putO oi.dst r) → anyM P Γ ops K (f + 1) L σ := by
  intro f
  induction f with
  | zero =>
    intro L σ _ hr hy H
    refine ⟨fun h => (by rw [h] at hr; cases hr), fun j hj => ?_⟩
    by_cases hji : j = i
    · subst hji; exact ⟨oi, _, hi, .inl ⟨r, hy, rfl⟩, H⟩
    · have := ready_mono hj hji
      rw [H.1] at this
      cases this
  | succ f ih =>
    intro L σ hfree hr hy H
    refine ⟨fun h => (by rw [h] at hr; cases hr), fun j hj => ?_⟩
    by_cases hji : j = i
    · subst hji; exact ⟨oi, _, hi, .inl ⟨r, hy, rfl⟩, H⟩
    · obtain ⟨oj, σ', hoj, hyj, hK⟩ := H.2 j (ready_mono hj hji)
      obtain ⟨hjun, oj', hoj', hall⟩ := mem_ready.1 hj
      rw [hoj] at hoj'
      obtain rfl := Option.some.inj hoj'
      have hnot : ∀ e ∈ oj.after, Region.binds .any e = true → e.on ≠ i := fun e he hb heq => by
        have h1 := hall e he hb
        have h0 := (mem_ready.1 hr).1
        rw [heq] at h1
        rcases Nat.lt_or_ge i L.size with h' | h'
        · simp [h'] at h0 h1; rw [h0] at h1; cases h1
        · simp [Array.getElem?_eq_none h'] at h1
      obtain ⟨hap, hmo⟩ := hfree j oj hoj hji hjun hnot
      obtain ⟨a1, a2, a3⟩ := Oper.apart_spec hap
      have hfree' : ∀ k ok, ops[k]? = some ok → k ≠ i → (L.setIfInBounds j true).getD k true = false → (∀ e ∈ ok.after, Region.binds .any e = true → e.on ≠ i) → oi.apart ops ok = true ∧ memOkM oi ok = true := by
        intro k ok hk hki hun hno
        refine hfree k ok hk hki ?_ hno
        by_cases hjk : j = k
        · subst hjk; exact hjun
        · rw [getD_set_ne true hjk] at hun; exact hun
      rcases hyj with ⟨rj, hyj, rfl⟩ | ⟨hm, hg, hv⟩
      · refine ⟨oj, _, hoj, .inl ⟨rj, (yldM_putO a1).1 hyj, rfl⟩, ?_⟩
        refine ih (L.setIfInBounds j true) (σ.putO oj.dst rj) hfree' (ready_mono hr (Ne.symm hji)) ((yldM_putO a3).2 hy) ?_
        rw [Array.setIfInBounds_comm _ _ hji, ← putO_comm σ r rj a2]
        exact hK
      · obtain ⟨σm, h1, h2, h3⟩ := memM_comm hm hmo a1 a2 a3 hy hv
        refine ⟨oj, σm, hoj, .inr ⟨hm, by rw [← gval_putO a1]; exact hg, h1⟩, ?_⟩
        refine ih (L.setIfInBounds j true) σm hfree' (ready_mono hr (Ne.symm hji)) h2 ?_
        rw [Array.setIfInBounds_comm _ _ hji, ← h3]
        exact hK
/-- What turns the memory comes alone. -/
theorem anyM_alone {i : Nat} {oi : Oper} {σ' : AS} (hi : ops[i]? = some oi) (f : Nat) (L : Array Bool) (σ : AS)
    (halone : ∀ j oj, ops[j]? = some oj → j ≠ i → L.getD j true = false → ¬ (∀ e ∈ oj.after, Region.binds .any e = true → e.on ≠ i))
    (hr : i ∈ Region.ready .any ops L) (hs : StpM P Γ ops σ oi σ') (H : anyM P Γ ops K f (L.setIfInBounds i true) σ') : anyM P Γ ops K (f + 1) L σ := by
  refine ⟨fun h => (by rw [h] at hr; cases hr), fun j hj => ?_⟩
  by_cases hji : j = i
  · subst hji; exact ⟨oi, _, hi, hs, H⟩
  · exfalso
    obtain ⟨hjun, oj, hoj, hall⟩ := mem_ready.1 hj
    refine halone j oj hoj hji hjun fun e he hb heq => ?_
    have h1 := hall e he hb
    have h0 := (mem_ready.1 hr).1
    rw [heq] at h1
    rcases Nat.lt_or_ge i L.size with h' | h'
    · simp [h'] at h0 h1; rw [h0] at h1; cases h1
    · simp [Array.getElem?_eq_none h'] at h1
omit [Tabs] in
theorem memBM_spec (h : memBM ops = true) {i j : Nat} {x y : Oper} (hx : ops[i]? = some x) (hy : ops[j]? = some y) (hij : i < j) : (∀ e ∈ y.after, Region.binds .any e = true → e.on ≠ i) → memOkM x y = true := by
  intro hno
  unfold memBM at h
  rw [Bool.or_eq_true] at h
  rcases h with h | h
  · have hall : ∀ o ∈ ops, isMemM o = false := by
      intro o ho
      have : ops.any isMemM = false := by simpa using h
      rw [Array.any_eq_false'] at this
      simpa using this o ho
    have h1 := hall x (Array.mem_of_getElem? hx)
    have h2 := hall y (Array.mem_of_getElem? hy)
    simp only [isMemM, Bool.or_eq_false_iff] at h2
    have h3 : isStore y = false := by
      have h2 := h2.1
      unfold isMem at h2
      unfold isStore
      split <;> simp_all
    simp [memOkM, h1, h2.2, h3]
  · have hil := (Array.getElem?_eq_some_iff.1 hx).1
    have hjl := (Array.getElem?_eq_some_iff.1 hy).1
    have h1 := List.all_eq_true.1 (List.all_eq_true.1 h i (by simpa using hil)) j (by simpa using hjl)
    rw [hx, hy] at h1
    simp only [Bool.or_eq_true, decide_eq_true_eq] at h1
    rcases h1 with (h1 | h1) | h1
    · omega
    · exfalso
      unfold boundTo at h1
      rw [Array.any_eq_true'] at h1
      obtain ⟨e, he, h2⟩ := h1
      simp only [Bool.and_eq_true, beq_iff_eq] at h2
      exact hno e he h2.1 h2.2
    · exact h1
theorem anyM_lex (hM : memBM ops = true) : ∀ (l : List Oper) (k : Nat) (L : Array Bool) (σ : AS), (∀ j : Nat, l[j]? = ops[k + j]?) → (∀ j, j < k → L.getD j true = true) → Region.lexFrom .any ops l.length k L = true → vcOpsQ P Γ ops l K σ → anyM P Γ ops K l.length L σ
  | [], _, _, _, _, _, hB, h => ⟨by simpa [Region.lexFrom] using hB, h⟩
  | o :: l, k, L, σ, hl, hd, hB, h => by
    have h0 : ops[k]? = some o := by simpa using (hl 0).symm
    simp only [List.length_cons, Region.lexFrom, Bool.and_eq_true] at hB
    obtain ⟨⟨hr, hf⟩, hB'⟩ := hB
    obtain ⟨σ', hs, hK⟩ := stpM_of h
    have hfree := Region.free_spec h0 hf
    have hgt : ∀ j, j ≠ k → L.getD j true = false → k < j := fun j hj hu => by
      rcases Nat.lt_or_ge k j with h | h
      · exact h
      · have := hd j (by omega)
        rw [this] at hu; cases hu
    have hnext := anyM_lex hM l (k + 1) (L.setIfInBounds k true) σ' (fun j => by have := hl (j + 1); simpa [Nat.add_assoc, Nat.add_comm 1 j] using this) (fun j hj => by
      by_cases hjk : k = j
      · subst hjk
        rcases Nat.lt_or_ge k L.size with h' | h'
        · simp [Array.getD_eq_getD_getElem?, h']
        · simp [Array.getD_eq_getD_getElem?, h']
      · rw [getD_set_ne true hjk]; exact hd j (by omega)) hB' hK
    have hmo : ∀ j oj, ops[j]? = some oj → j ≠ k → L.getD j true = false → (∀ e ∈ oj.after, Region.binds .any e = true → e.on ≠ k) → memOkM o oj = true := fun j oj hoj hjk hun hno => memBM_spec hM h0 hoj (hgt j hjk hun) hno
    cases hm : isMemM o with
    | true =>
      refine anyM_alone h0 l.length L σ (fun j oj hoj hjk hun hno => ?_) (by simpa using hr) hs hnext
      have := hmo j oj hoj hjk hun hno
      simp [memOkM, hm] at this
    | false =>
      rcases hs with ⟨r, hy, rfl⟩ | ⟨h1, _⟩
      · exact anyM_first h0 l.length L σ (fun j oj hoj hjk hun hno => ⟨hfree j oj hoj hjk hun hno, hmo j oj hoj hjk hun hno⟩) (by simpa using hr) hy hnext
      · rw [hm] at h1; cases h1

variable {w0 : World} {F0 : Nat → Nat} {Fp : Nat → Prop} {X : Nat → Nat → Value} {G : Gh} {w : World} {a : Act} {σ : AS}

/-- An operation, run, answers what it is told to. -/
theorem qRes_ok (hΓ : GoodEnv P Γ) (h : Rel w0 F0 Fp X G w a σ) {o : Oper} {r : AV} (hr : qRes P Γ σ o r) (hd : ∀ k, o.dst = some k → k < σ.n) {next : Act → World → Prop} {Q : Exit → Act → World → Prop}
    (hK : ∀ G' w' x, Rel w0 F0 Fp X G' w' (a.put o.dst x) (σ.putO o.dst r) → next (a.put o.dst x) w') : o.wp P a w next Q := by
  unfold qRes at hr
  split at hr
  · rename_i f args argTypes ho
    obtain ⟨hs, hr⟩ := hr
    unfold qCall at hr
    split at hr
    · rename_i g caps hf
      rcases hr with hr | ⟨hg, hr⟩
      · refine aRes_ok hΓ h ?_ hd hK
        unfold aRes
        rw [ho]
        refine ⟨hs, ?_⟩
        rw [hf]; exact hr
      · have hfv := ev_ok h f
        rw [hf] at hfv
        generalize hz : a.eval f = z at hfv
        cases hfv with
        | fn _ arr _ hsz hcs =>
          obtain ⟨h1, h2⟩ := call_args (P := P) h (args := args.toList) (ts := argTypes.toList) (by simpa using hs) hsz hcs
          have hcall := hr.2 σ (fun _ _ hx => hx) _ _ _ _ _ _ _ _ h h1 h2
          unfold Oper.wp
          rw [call_run ho hz hr.1 w, Oper.upon_enter]
          have e1 : (args.toList.map a.eval).toArray = args.map a.eval := by rw [← Array.toList_map, Array.toArray_toList]
          rw [e1] at hcall
          refine hcall.mono ?_
          rintro ed w' ⟨v, G', rfl, hr2, hvr⟩
          exact hK G' w' v (putO_ok hr2 hvr hd)
    · exact hr.elim
  · rename_i args argTypes ho
    obtain ⟨x, t, hax, hat, hr⟩ := hr
    cases hx : ev σ x with
    | mp ob =>
      rw [hx] at hr
      unfold qLen at hr
      simp only at hr
      split at hr
      · rename_i k e es cl hu hob
        obtain rfl := Option.some.inj hr
        obtain ⟨hol, hh⟩ := map_obj h hob
        have hxv := ev_ok h x
        rw [hx] at hxv
        have e1 : args = #[x] := by cases args; simp_all
        have e2 : argTypes = #[t] := by cases argTypes; simp_all
        subst e1; subst e2
        have hgo : (getObj (G.ob ob)).run P w = .ok (.map es cl) w := getObj_run hh (by intro a b c h; cases h)
        have hrun : (execOp a.eval o).run P w = .ok (.value (.int .i64 (es.size : Nat))) w := by
          simp only [execOp, ho, resolve, Sem.run_bind, Sem.run_pure, Result.andThen_ok, invoke, builtin, List.map_toArray, List.map_cons, List.map_nil, mp_inv hxv, Builtin.len_, List.getElem?_toArray, List.getElem?_cons_zero, run_underlying hu, hgo]
          rfl
        unfold Oper.wp
        rw [hrun, Oper.upon_value]
        exact hK G w _ (putO_ok h (.v _) hd)
      · cases hr
    | _ =>
      rw [hx] at hr
      refine aRes_ok hΓ h ?_ hd hK
      unfold aRes
      rw [ho]
      simp only
      obtain ⟨dst, op, type, pos, aft, guard⟩ := o
      simp only at ho
      subst ho
      simp only [popAll, pop, pop2, Option.or_none, hax, hat, hx]
      exact hr
  · rename_i t x i c ho
    obtain ⟨v, hrun, hvr⟩ := readL_ok h hr
    unfold Oper.wp
    have : (execOp a.eval o).run P w = .ok (.value v) w := by simp only [execOp, ho, Sem.run_bind, hrun, Result.andThen_ok, Sem.run_pure]
    rw [this, Oper.upon_value]
    exact hK G w v (putO_ok h hvr hd)
  · rename_i t n parts ho
    refine aRes_ok hΓ h ?_ hd hK
    unfold aRes
    rw [ho]; exact hr
  · rename_i hn1 hn2 hn3 hn4
    refine aRes_ok hΓ h ?_ hd hK
    unfold aRes
    split
    · rename_i f args argTypes ho; exact absurd ho (hn1 _ _ _)
    · rename_i t n parts ho; exact absurd ho (hn4 _ _ _)
    · exact hr
theorem vcQ_mem {o : Oper} {K : AS → Prop} (hm : isMemM o = true) (h : vcQ P Γ σ o K) : vcE P Γ σ o K := by
  obtain ⟨dst, op, type, pos, aft, guard⟩ := o
  cases op <;> try (simp [isMemM, isMem, isMapOp] at hm; done)
  · exact mem_false (Γ := Γ) (o := ⟨dst, .alloc _, type, pos, aft, guard⟩) rfl h
  · exact mem_false (Γ := Γ) (o := ⟨dst, .store _ _ _, type, pos, aft, guard⟩) rfl h
  · exact h
  · unfold vcQ at h
    unfold vcE
    simp only at h ⊢
    unfold mapEntQ at h
    split at h
    · rename_i ob k' hx hk
      obtain ⟨es, cl, x', rv, h1, h2, _, hc⟩ := h
      rw [hx, hk]
      exact ⟨es, cl, x', rv, h1, h2, hc⟩
    · exact h.elim
  · exact h
theorem anyM_ok (hΓ : GoodEnv P Γ) {Q : Exit → Act → World → Prop} (hQ : ∀ G w a σ, Rel w0 F0 Fp X G w a σ → K σ → Q .normal a w) : ∀ (f : Nat) (L : Array Bool) {G : Gh} {w : World} {a : Act} {σ : AS}, Rel w0 F0 Fp X G w a σ →
    anyM P Γ ops K f L σ → wpAny P .any ops Q f L a w
  | 0, L, _, _, _, _, hr, h => ⟨h.1, hQ _ _ _ _ hr h.2⟩
  | f + 1, L, _, _, _, _, hr, h => ⟨fun h0 => hQ _ _ _ _ hr (h.1 h0), fun i hi => by
    obtain ⟨o, σ', ho, hs, hK⟩ := h.2 i hi
    unfold wpOp
    rw [ho]
    simp only
    rcases hs with ⟨r, ⟨hd, hy⟩, rfl⟩ | ⟨hm, hg, hv⟩
    · rcases hy with ⟨h1, h2⟩ | ⟨h1, rfl⟩
      · rw [if_pos (gval_ok hr h1)]
        exact .inl (qRes_ok hΓ hr h2 hd fun G' w' x hr' => anyM_ok hΓ hQ f _ hr' hK)
      · rw [if_neg (by rw [gval_ok hr h1]; simp)]
        exact anyM_ok hΓ hQ f _ (putO_ok hr (VR.v undef) hd) hK
    · rw [if_pos (gval_ok hr hg)]
      exact .inl (vcE_ok hΓ hr (fun G' w' a' s hr' hs' => anyM_ok hΓ hQ f _ hr' (by rw [hs']; exact hK)) (vcQ_mem hm hv))⟩
/-- A region that draws its order. -/
theorem drawnM_ok (hΓ : GoodEnv P Γ) (h : Rel w0 F0 Fp X G w a σ) {id : Nat} {Q : Exit → Act → World → Prop} (hm : P.follows .mixedOrders = true) (hB : lexMM ops = true) (hv : vcOpsQ P Γ ops ops.toList K σ)
    (hQ : ∀ G w a σ, Rel w0 F0 Fp X G w a σ → K σ → Q .normal a w) : (Code.region id ops true).wp P Q a w := by
  simp only [lexMM, Region.lexB, Bool.and_eq_true] at hB
  refine wp_region_any hm ?_
  have h1 := anyM_lex hB.2 ops.toList 0 (Array.replicate ops.size false) σ (by simp) (fun j hj => absurd hj (Nat.not_lt_zero _)) (by simpa using hB.1.2) hv
  have hb : Below w.heap.size w { w with drawn := w.drawn + 1 } := Below.drew (Below.refl _ _)
  exact anyM_ok hΓ hQ _ _ (h.below hb) (by simpa using h1)
theorem vcOpsE_ok (hΓ : GoodEnv P Γ) {Q : Exit → Act → World → Prop} (hK : ∀ G' w' a' σ', Rel w0 F0 Fp X G' w' a' σ' → K σ' → Q .normal a' w') :
    ∀ (l : List Oper) {G : Gh} {w : World} {a : Act} {σ : AS}, Rel w0 F0 Fp X G w a σ → vcOpsE P Γ ops l K σ → wpList P ops Q l a w
  | [], _, _, _, _, h, hv => hK _ _ _ _ h hv
  | o :: r, _, _, _, _, h, hv => by
    unfold vcOpsE at hv
    unfold wpList
    rcases guarded_ok h hv with ⟨h1, h2⟩ | ⟨h1, h2⟩
    · rw [if_pos h1]
      exact .inl (vcE_ok hΓ h (fun G' w' a' σ' hr hk => vcOpsE_ok hΓ hK r hr hk) h2)
    · rw [if_neg (by rw [h1]; simp)]
      obtain ⟨σ', h3, h4⟩ := h.cont (VR.v undef) h2
      exact vcOpsE_ok hΓ hK r h3 h4
end
end Go.Rw
end
