/-
  That a function meets its contract, by its body reckoned. Proved over any program. A state told anew: fewer slots, objects and lineages, numbered afresh. Proved over any program. The reckoning as rules for rewriting. Proved over any program. What operations on plain values answer. Proved over any program. Slices, objects, calls: the rules for rewriting. Proved over any program. Functions, loops, scopes: how the reckoning is begun and ended. Proved over any program.
-/
import Derived.Test.YtnpofobcbfbfnaaDoorRwC
import Derived.Laws.Strings
set_option linter.unusedSimpArgs false
set_option linter.unusedVariables false
set_option linter.defProp false
set_option linter.unusedSectionVars false

-- RwGood
section
namespace Go.Rw
open Go Go.RowKit
set_option linter.unusedSimpArgs false
set_option linter.unusedVariables false

/-- What is the caller's to go on with becomes of lineage 2. -/
def ownR (k : Nat) : AV → AV
  | .tup cs => match cs.getD k .any with
    | .sl _ sz xs => .tup ((AV.erL cs).set k (.sl 2 sz xs))
    | _ => .any
  | .sl _ sz xs => .sl 2 sz xs
  | _ => .any
def othersOf (k : Nat) : AV → List Nat
  | .tup cs => AV.tagsL (cs.eraseIdx k)
  | _ => []
def ownOk (m : AM) (k e : Nat) (r : AV) : Prop :=
  match comp k r with
  | .sl l sz xs => 0 < sz ∧ (if l = 1 then xs = [] else 2 ≤ l ∧ m.lv l = some (xs.length, e) ∧ ¬ (othersOf k r).any (fun t => m.fm t == m.fm l))
  | _ => False

def retOk (C : Con) (i : C.ι) (m : AM) (r : AV) : Prop :=
  match C.own with
  | none => C.post i r.er ∧ (C.plain = true → r.plain = true)
  | some (k, e) => C.plain = false ∧ ownOk m k e r ∧ C.post i (ownR k r)

def retQ (P : Program) (fn : Func) (C : Con) (i : C.ι) : Exit → AS → Prop
  | .normal, σ | .ret, σ => match resL P σ fn.results.toList with
    | some rs => retOk C i σ.m (oneOf rs)
    | none => False
  | _, _ => False

def lvIn (take : Option (Nat × Nat)) (as : List AV) : Option (Nat × Nat) :=
  match take with
  | none => none
  | some (k, e) => match as[k]? with
    | some (.sl _ _ xs) => some (xs.length, e)
    | _ => none
def AS.init (fn : Func) (as : List AV) (take : Option (Nat × Nat)) : AS where
  n := as.length + (fn.ntmps - as.length)
  t := fun k => as.getD k (.v undef)
  hd := fun _ _ => .any
  m := { nh := 0, h := fun _ => none, nl := 3, fm := fun l => l, lv := fun l => if l = 2 then lvIn take as else none, mu := take.isNone }

section
variable {P : Program} [Tabs] {w0 : World} {F0 : Nat → Nat} {Fp : Nat → Prop} {X : Nat → Nat → Value} {G G' : Gh} {w w' : World} {a : Act} {σ : AS} {m : AM} {g : Nat} {tk : Option Tk}

omit [Tabs] in
theorem tkBlock_lt {take : Option (Nat × Nat)} {as : List AV} {F : Nat → Nat} {tk : Option Tk} (ht : TakeIn take as F tk w) {g : Nat} (hg : tkBlock tk g) : g < w.heap.size := by
  obtain ⟨k, hk, hc, hb⟩ := hg
  subst hk
  cases take with
  | none => simp [TakeIn] at ht
  | some ke =>
    obtain ⟨K, sz, xs, hK, h1, h2, h3, h4⟩ := ht
    obtain rfl := Option.some.inj hK
    rcases h4.2.2.2 with h5 | ⟨g', oF, cap, cur, h5, _, h6, _⟩
    · simp only [Gin] at h5; omega
    · simp only [Gin, Prod.mk.injEq] at h5
      rw [h5.1] at hb
      simp only [Option.map_some, Option.some.injEq] at hb
      subst hb
      exact (Array.getElem?_eq_some_iff.1 h6).1

omit [Tabs] in
theorem Mem.init {take : Option (Nat × Nat)} {as : List AV} {F : Nat → Nat} {tk : Option Tk} (hF : ∀ g, 0 < F g → g < w.heap.size) (ht : TakeIn take as F tk w) (fn : Func) :
    Mem w F (tkBlock tk) (Gin F tk) w (AS.init fn as take).m where
  nh := rfl
  nl := rfl
  fm := rfl
  lv := by
    funext l
    simp only [Gin, AS.init]
    split
    · cases take with
      | none => simp only [TakeIn] at ht; rw [ht]; rfl
      | some ke =>
        obtain ⟨K, sz, xs, hK, h1, h2, h3, h4⟩ := ht
        simp [hK, lvIn, h1, h2, h3]
    · rfl
  two := by simp [Gin]
  fm0 := rfl
  fml := fun l _ => Nat.le_refl _
  fm2 := fun l h _ => h
  fmi := fun l l' x y _ _ h => h
  inj := fun o o' h => by simp [Gin] at h
  obl := fun o h => by simp [Gin] at h
  obj := fun o x h => by simp [AS.init] at h
  live := fun l n e hl => by
    have hl2 : l = 2 := Classical.byContradiction fun hc => by simp [Gin, hc] at hl
    subst hl2
    cases take with
    | none => simp only [TakeIn] at ht; rw [ht] at hl; simp [Gin] at hl
    | some ke =>
      obtain ⟨K, sz, xs, hK, h1, h2, h3, h4⟩ := ht
      simp only [Gin, hK, if_true, Option.map_some, Option.some.injEq, Prod.mk.injEq] at hl
      obtain ⟨rfl, rfl⟩ := hl
      rw [h2, h3]; exact h4
  frl := hF
  linl := fun g hg => (Gin_lin F tk g).2 fun hb => by have := tkBlock_lt ht hb; omega
  linn := fun g => by
    show (Gin F tk).lin g < 3
    by_cases hb : tkBlock tk g
    · rw [(Gin_lin F tk g).1 hb]; omega
    · rw [(Gin_lin F tk g).2 hb]; omega
  old := fun g hg hn => ⟨(Gin_lin F tk g).2 hn, rfl, rfl⟩
  f0 := hF
  mu := fun hm g hg => by
    cases take with
    | none => simp only [TakeIn] at ht; rw [ht] at hg; obtain ⟨_, h1, _⟩ := hg; cases h1
    | some ke => simp [AS.init] at hm
  keep := fun g i h => rfl
  keepf := fun g => Nat.le_refl _
  size := Nat.le_refl _
  os := rfl
  tape := rfl
  output := rfl

theorem Rel.init {take : Option (Nat × Nat)} {as : List AV} {F : Nat → Nat} {tk : Option Tk} {vs : Array Value} (hF : ∀ g, 0 < F g → g < w.heap.size) (htb : TabOk w (tkBlock tk)) (ht : TakeIn take as F tk w) (fn : Func)
    (hs : vs.size = as.length) (hv : ∀ k, VR (Gin F tk) w (vs.getD k undef) (as.getD k .any)) :
    Rel w F (tkBlock tk) (fun _ _ => undef) (Gin F tk) w { tmps := vs ++ Array.replicate (fn.ntmps - vs.size) undef, defers := [] } (AS.init fn as take) := by
  refine ⟨by simp [AS.init, hs], rfl, fun i => ?_, fun _ _ => .any _, Mem.init hF ht fn, htb⟩
  simp only [AS.init]
  by_cases hi : i < as.length
  · have h1 := hv i
    have e1 : (vs ++ Array.replicate (fn.ntmps - vs.size) undef).getD i undef = vs.getD i undef := by
      simp only [Array.getD_eq_getD_getElem?]
      rw [Array.getElem?_append_left (by omega)]
    have e2 : as.getD i (.v undef) = as.getD i .any := by
      simp only [List.getD_eq_getElem?_getD, List.getElem?_eq_getElem hi, Option.getD_some]
    rw [e1, e2]; exact h1
  · have e1 : (vs ++ Array.replicate (fn.ntmps - vs.size) undef).getD i undef = undef := by
      simp only [Array.getD_eq_getD_getElem?]
      rw [Array.getElem?_append_right (by omega), Array.getElem?_replicate]
      split <;> rfl
    have e2 : as.getD i (.v undef) = .v undef := by
      rw [List.getD_eq_getElem?_getD, List.getElem?_eq_none (by omega)]; rfl
    rw [e1, e2]; exact .v _

/-- What is handed back to one who does not go on with it. -/
theorem ret_none (h : Rel w0 F0 Fp X G w a σ) {x : Value} {r : AV} (hx : VR G w x r) : VR (Gin G.fr none) w x r.er := by
  refine VR.sees_in (ts := r.tags) ⟨by simp [Gin], rfl, by simp [Gin], ?_, fun _ _ _ _ => rfl⟩ h.mm.fm0 hx (fun t h1 _ => h1)
  intro t _ _ g _ _
  exact ⟨(Gin_lin _ none g).2 (by rintro ⟨_, h3, _⟩; cases h3), Nat.le_refl _⟩

theorem back_of (h : Rel w F0 (tkBlock tk) X G w' a σ) : Back w w' F0 G.fr tk where
  os := h.mm.os
  tape := h.mm.tape
  output := h.mm.output
  size := h.mm.size
  block := fun g h1 h2 => (h.mm.old g h1 h2).2.1
  same := fun g h1 h2 => (h.mm.old g h1 h2).2.2
  cell := h.mm.keep
  more := h.mm.keepf
  lt := h.mm.frl

/-- What is handed back to be gone on with. -/
theorem ret_own (h : Rel w0 F0 Fp X G w a σ) {k e : Nat} {x : Value} {r : AV} (hx : VR G w x r) (ho : ownOk σ.m k e r) :
    ∃ ow sz xs, comp k (ownR k r) = .sl 2 sz xs ∧ (∀ cs, ownR k r = .tup cs → ∀ j, j ≠ k → 2 ∉ (cs.getD j .any).tags) ∧ ow.len = xs.length ∧ ow.e = e ∧
      LiveOk (Gin G.fr (some ow)) w w0.heap.size Fp 2 xs.length e ∧ VR (Gin G.fr (some ow)) w x (ownR k r) := by
  unfold ownOk at ho
  generalize hc : comp k r = y at ho
  cases y with
  | sl l sz xs =>
    obtain ⟨h0, hl⟩ := ho
    -- the shape of r
    have hshape : ∃ ow : Tk, ow.len = xs.length ∧ ow.e = e ∧ LiveOk (Gin G.fr (some ow)) w w0.heap.size Fp 2 xs.length e ∧
        (∀ y, VR G w y (.sl l sz xs) → VR (Gin G.fr (some ow)) w y (.sl 2 sz xs)) ∧
        (∀ y b, VR G w y b → (∀ t ∈ b.tags, t ∈ othersOf k r) → VR (Gin G.fr (some ow)) w y b.er) := by
      by_cases hl1 : l = 1
      · rw [if_pos hl1] at hl
        subst hl1; subst hl
        have hnb : ∀ g, ¬ tkBlock (some (⟨none, 0, sz, 0, e⟩ : Tk)) g := by
          rintro g ⟨q, hq, hc, _⟩; obtain rfl := Option.some.inj hq; simp at hc
        refine ⟨⟨none, 0, sz, 0, e⟩, rfl, rfl, ⟨Nat.le_refl _, by simp [Gin], h0, .inl ⟨rfl, rfl⟩⟩, fun y hy => ?_, fun y b hy hb => ?_⟩
        · cases hy with
          | nil =>
            refine .sl none 0 2 sz [] 0 0 (fun _ => default) (by simp [Gin]) (by omega) (by simp) ?_ (fun h => absurd rfl h) (by simp) (fun h => absurd rfl h) (by simp) (by simp)
            intro n' e' hn'
            simp only [Gin, if_true, Option.map_some, Option.some.injEq, Prod.mk.injEq] at hn'
            obtain ⟨rfl, rfl⟩ := hn'
            exact ⟨Nat.le_refl _, fun _ => ⟨rfl, rfl⟩⟩
          | sl => omega
        · refine VR.sees_in (ts := b.tags) ⟨by simp [Gin], rfl, by simp [Gin], ?_, fun _ _ _ _ => rfl⟩ h.mm.fm0 hy (fun t h1 _ => h1)
          intro t _ _ g _ _
          exact ⟨(Gin_lin _ _ g).2 (hnb g), Nat.le_refl _⟩
      · rw [if_neg hl1] at hl
        obtain ⟨hl2, hlv, hfm⟩ := hl
        have hlvG : G.lv l = some (xs.length, e) := by rw [h.mm.lv]; exact hlv
        have hll := h.mm.lv_lt hlvG
        have hlive := h.mm.live l _ e hlvG
        obtain ⟨_, _, hls, hlo⟩ := hlive
        have hfl := h.mm.fm2 l hl2 hll
        have htkl : ∀ g, tkBlock (some (tkMk G l xs.length e)) g → G.lin g = G.fm l := by
          rintro g ⟨q, hq, hc, hb⟩
          obtain rfl := Option.some.inj hq
          rcases hlo with h6 | ⟨g', oF, cap, cur, h6, h7, h8, h9, h10, h11, h12, h13⟩
          · simp only [tkMk] at hc; omega
          · simp only [tkMk, h6, Option.map_some, Option.some.injEq] at hb
            subst hb; exact h12
        refine ⟨tkMk G l xs.length e, rfl, rfl, ⟨Nat.le_refl _, by simp [Gin], by simpa [Gin, tkMk] using hls, ?_⟩, fun y hy => ?_, fun y b hy hb => ?_⟩
        · rcases hlo with h6 | ⟨g, oF, cap, cur, h6, h7, h8, h9, h10, h11, h12, h13⟩
          · exact .inl (by simpa [Gin, tkMk] using h6)
          · by_cases hc : cap = 0
            · subst hc
              exact .inl ⟨by omega, by simp [Gin, tkMk, h6]⟩
            · have hb : tkBlock (some (tkMk G l xs.length e)) g := ⟨_, rfl, by simp only [tkMk, h6]; omega, by simp [tkMk, h6]⟩
              refine .inr ⟨g, oF, cap, cur, by simp [Gin, tkMk, h6], h7, h8, h9, h10, by simpa [Gin, tkMk] using h11, by rw [(Gin_lin _ _ g).1 hb]; rfl, ?_⟩
              show G.fr g = _
              rw [h13]; simp [Gin, tkMk]
        · cases hy with
          | nil => omega
          | sl A cap _ _ _ g off us hl' h1' hcap hlive hA hsz h0' hcell hh =>
            obtain ⟨_, h3⟩ := hlive _ _ hlvG
            obtain ⟨h4, h5⟩ := h3 rfl
            refine .sl A cap 2 sz xs g off us (by simp [Gin]) (by omega) hcap ?_ ?_ hsz h0' hcell fun j hj => ?_
            · intro n' e' hn'
              simp only [Gin, if_true, Option.map_some, Option.some.injEq, Prod.mk.injEq] at hn'
              obtain ⟨rfl, rfl⟩ := hn'
              refine ⟨Nat.le_refl _, fun _ => ⟨?_, by simpa [Gin, tkMk] using h5⟩⟩
              simp only [Gin, tkMk]; exact h4
            · intro hx
              obtain ⟨h6, h7, h8⟩ := hA hx
              rcases hlo with h9 | ⟨g', oF, cap', cur, h9, h10, h11, h12, h13, h14, h15, h16⟩
              · exfalso; have := List.length_pos_iff.2 hx; omega
              · rw [h9] at h4
                simp only [Prod.mk.injEq] at h4
                obtain ⟨h17, h18⟩ := h4
                rw [h6] at h17
                simp only [Option.some.injEq, Addr.mk.injEq, and_true] at h17
                obtain ⟨rfl, rfl⟩ := h17
                have hb : tkBlock (some (tkMk G l xs.length e)) g := ⟨_, rfl, by simp only [tkMk, h9]; have := List.length_pos_iff.2 hx; omega, by simp [tkMk, h9]⟩
                refine ⟨h6, .inl ?_, h8⟩
                rw [(Gin_lin _ _ g).1 hb]; rfl
            · have h6 := hh j hj
              rw [← flat_closed hsz j]
              refine VR.sees_in (G' := Gin G.fr (some (tkMk G l xs.length e))) (w' := w) (ts := []) ⟨by simp [Gin], rfl, by simp [Gin], ?_, fun _ _ _ _ => rfl⟩ h.mm.fm0 h6 (fun t h1 h2 => by have := closed_tags _ (flat_closed hsz j) t h1; omega)
              intro t htl ho g2 hp hl2'
              have hz : G.lin g2 = 0 := by
                rcases ho with rfl | ⟨_, h2⟩
                · rw [h.mm.fm0] at hl2'; omega
                · cases h2
              exact ⟨(Gin_lin _ _ g2).2 fun hb => by have := htkl g2 hb; omega, Nat.le_refl _⟩
        · refine VR.sees_in (ts := othersOf k r) ⟨by simp [Gin], rfl, by simp [Gin], ?_, fun _ _ _ _ => rfl⟩ h.mm.fm0 hy (fun t h1 _ => hb t h1)
          intro t htl ho g2 hp hl2'
          refine ⟨(Gin_lin _ _ g2).2 fun hb => ?_, Nat.le_refl _⟩
          have h5 := htkl g2 hb
          rcases hl2' with hl | hl
          · rcases ho with rfl | ho
            · rw [h.mm.fm0] at hl; omega
            · apply hfm
              rw [List.any_eq_true]
              refine ⟨t, ho.2, ?_⟩
              rw [← h.mm.fm]; simp [hl.symm.trans h5]
          · omega
    obtain ⟨ow, h1, h2, h3, h4, h5⟩ := hshape
    cases r with
    | tup cs =>
      simp only [comp] at hc
      have hk : k < cs.length := by
        rcases Nat.lt_or_ge k cs.length with h2 | h2
        · exact h2
        · rw [List.getD_eq_getElem?_getD, List.getElem?_eq_none h2] at hc; cases hc
      have e1 : ownR k (.tup cs) = .tup ((AV.erL cs).set k (.sl 2 sz xs)) := by simp only [ownR, hc]
      rw [e1]
      refine ⟨ow, sz, xs, ?_, ?_, h1, h2, h3, ?_⟩
      · simp only [comp, List.getD_eq_getElem?_getD]
        rw [List.getElem?_set_self (by rw [erL_eq, List.length_map]; exact hk)]; rfl
      · intro cs' hcs' j hj
        simp only [AV.tup.injEq] at hcs'
        subst hcs'
        have e2 : ((AV.erL cs).set k (.sl 2 sz xs)).getD j .any = (cs.getD j .any).er := by
          rw [List.getD_eq_getElem?_getD, List.getElem?_set_ne (fun e => hj e.symm), ← List.getD_eq_getElem?_getD, erL_getD]
        rw [e2]
        intro h6
        have := closed_tags _ (er_er _) 2 h6
        omega
      · cases hx with
        | tup arr _ hs hv =>
          refine .tup arr _ (by rw [List.length_set, erL_eq, List.length_map]; exact hs) fun j hj => ?_
          rw [List.length_set, erL_eq, List.length_map] at hj
          by_cases hjk : j = k
          · subst hjk
            rw [List.getD_eq_getElem?_getD, List.getElem?_set_self (by rw [erL_eq, List.length_map]; exact hj)]
            have h6 := hv j hj
            rw [hc] at h6
            exact h4 _ h6
          · have e2 : ((AV.erL cs).set k (.sl 2 sz xs)).getD j .any = (cs.getD j .any).er := by
              rw [List.getD_eq_getElem?_getD, List.getElem?_set_ne (fun e => hjk e.symm), ← List.getD_eq_getElem?_getD, erL_getD]
            rw [e2]
            refine h5 _ _ (hv j hj) fun t ht => ?_
            simp only [othersOf, tagsL_eq, List.mem_flatMap]
            refine ⟨cs.getD j .any, ?_, ht⟩
            rw [List.getD_eq_getElem?_getD, List.getElem?_eq_getElem hj]
            simp only [Option.getD_some]
            rw [List.mem_eraseIdx_iff_getElem]
            exact ⟨j, hj, hjk, rfl⟩
    | sl l2 sz2 xs2 =>
      simp only [comp, AV.sl.injEq] at hc
      obtain ⟨rfl, rfl, rfl⟩ := hc
      exact ⟨ow, _, _, rfl, fun cs hcs => (by simp [ownR] at hcs), h1, h2, h3, h4 _ hx⟩
    | _ => simp [comp] at hc
  | _ => exact ho.elim

/-- A function meets its contract if its body, reckoned from each of its begins, comes to what it must answer. -/
theorem good_awp {f : FuncId} {fn : Func} {c : Code} {C : Con} (hf : P.funcs[f]? = some fn) (hn : (fn.name == "runtime.NumGoroutine") = false) (hb : fn.body = some c)
    (h : ∀ i, AWP P c (retQ P fn C i) (AS.init fn (C.args i) C.take)) : Good P f C := by
  refine ⟨⟨fn, hf, hn, by rw [hb]; rfl⟩, fun w F i vs tk hF htb ht hs hv => ?_⟩
  have h1 := h i w F (tkBlock tk) (fun _ _ => undef) (Gin F tk) w _ (Rel.init hF htb ht fn hs hv)
  refine calls_of_wp hf hb (wp_mono h1 ?_)
  rintro e a w' ⟨G, σ, hr, hq⟩
  have fin : (match resL P σ fn.results.toList with | some rs => retOk C i σ.m (oneOf rs) | none => False) →
      a.defers = [] ∧ ∃ v, (results fn a.tmps).run P w' = .ok v w' ∧ ∃ v' r F' ow, Ending.returned v = .returned v' ∧ C.post i r ∧ VR (Gin F' ow) w' v' r ∧ Back w w' F F' tk ∧ OwnOut C.own r F' tk ow w w' ∧ (C.plain = true → r.plain = true) := by
    intro hq
    refine ⟨hr.df, ?_⟩
    split at hq
    · rename_i rs hrs
      obtain ⟨x, h2, h3⟩ := results_ok hr hrs
      refine ⟨x, h2, ?_⟩
      unfold retOk at hq
      cases hO : C.own with
      | none =>
        rw [hO] at hq
        obtain ⟨h4, h5⟩ := hq
        refine ⟨x, (oneOf rs).er, G.fr, none, rfl, h4, ret_none hr h3, back_of hr, rfl, fun hp => ?_⟩
        rw [er_plain _ (h5 hp)]; exact h5 hp
      | some ke =>
        obtain ⟨k, e⟩ := ke
        rw [hO] at hq
        obtain ⟨h4, h5, h6⟩ := hq
        obtain ⟨ow, sz, xs, h7, h8, h9, h10, h11, h12⟩ := ret_own hr h3 h5
        exact ⟨x, ownR k (oneOf rs), G.fr, some ow, rfl, h6, h12, back_of hr, ⟨ow, sz, xs, rfl, h7, h8, h9, h10, h11⟩, fun hp => by rw [h4] at hp; cases hp⟩
    · exact hq.elim
  cases e with
  | normal => exact fin hq
  | ret => exact fin hq
  | _ => exact hq.elim

theorem goodEnv_nil : GoodEnv P ([] : List (FuncId × Con)) := fun f C h => by simp [Env.get] at h
theorem goodEnv_cons {f : FuncId} {C : Con} {Γ : List (FuncId × Con)} (h : Good P f C) (hΓ : GoodEnv P Γ) : GoodEnv P ((f, C) :: Γ) := by
  intro f' C' h'
  unfold Env.get at h'
  by_cases he : f = f'
  · subst he
    rw [List.find?_cons_of_pos (by simp)] at h'
    simp only [Option.map_some, Option.some.injEq] at h'
    subst h'; exact h
  · rw [List.find?_cons_of_neg (by simpa using he)] at h'
    exact hΓ f' C' h'
end
end Go.Rw
end

-- RwWeak
section
namespace Go.Rw
open Go Go.RowKit
set_option linter.unusedSimpArgs false
set_option linter.unusedVariables false

def look : List (Nat × AV) → Nat → AV
  | [], _ => .any
  | (i, a) :: r, k => if k = i then a else look r k

/-- A state given by lists. -/
def AS.of (n : Nat) (slots : List (Nat × AV)) (objs : List AO) (lvs : List (Nat × Nat)) (mu : Bool := true) : AS where
  n := n
  t := look slots
  hd := fun _ _ => .any
  m := { nh := objs.length, h := fun o => objs[o]?, nl := 2 + lvs.length, fm := fun l => l, lv := fun l => if l < 2 then none else lvs[l - 2]?, mu := mu }

/-- What becomes a live lineage: one that is; a nil slice. -/
inductive Ad where
  | live (l : Nat)
  | nil (sz : Nat)

def Ad.lives : List Ad → List Nat
  | [] => []
  | .live l :: r => l :: Ad.lives r
  | _ :: r => Ad.lives r

def tagOk (ads : List Ad) (fm : Nat → Nat) (sz l l' : Nat) : Prop :=
  if l' = 0 then l ≤ 1 ∨ ∀ l2 ∈ Ad.lives ads, fm l2 ≠ fm l
  else if l' = 1 then l = 1
  else match ads[l' - 2]? with
    | some (.live l2) => l = l2
    | some (.nil s) => l = 1 ∧ s = sz
    | none => False

mutual
def ren (obs : List Nat) (ads : List Ad) (fm : Nat → Nat) : AV → AV → Prop
  | _, .any => True
  | .v x, .v y => x = y
  | .agg cs, .agg ds => renL obs ads fm cs ds
  | .tup cs, .tup ds => renL obs ads fm cs ds
  | .sl l sz xs, .sl l' sz' ys => (l = 1 ∨ sz = sz') ∧ xs = ys ∧ tagOk ads fm sz' l l'
  | .ep l sz xs i j, .ep l' sz' ys i' j' => l' ≠ 1 ∧ l ≠ 1 ∧ sz = sz' ∧ xs = ys ∧ i = i' ∧ j = j' ∧ tagOk ads fm sz' l l'
  | .ptr o k, .ptr o' k' => k = k' ∧ obs[o']? = some o
  | .mp o, .mp o' => obs[o']? = some o
  | .fn f cs, .fn g ds => f = g ∧ renL obs ads fm cs ds
  | _, _ => False
def renL (obs : List Nat) (ads : List Ad) (fm : Nat → Nat) : List AV → List AV → Prop
  | [], [] => True
  | a :: r, b :: s => ren obs ads fm a b ∧ renL obs ads fm r s
  | _, _ => False
end

def renO (obs : List Nat) (ads : List Ad) (fm : Nat → Nat) : AO → AO → Prop
  | .cells cs, .cells ds => renL obs ads fm cs ds
  | .iter s p, .iter s' p' => s = s' ∧ p = p'
  | .map es c, .map es' c' => es = es' ∧ c = c'
  | .mit o i e l, .mit o' i' e' l' => obs[o']? = some o ∧ i = i' ∧ e = e' ∧ l = l'
  | _, _ => False

def obOk (obs : List Nat) (ads : List Ad) (σ : AS) : List Nat → List AO → Prop
  | [], [] => True
  | o :: r, x' :: s => (match σ.m.h o with | some x => renO obs ads σ.m.fm x x' | none => False) ∧ obOk obs ads σ r s
  | _, _ => False

def adOk (σ : AS) : List Ad → List (Nat × Nat) → Prop
  | [], [] => True
  | .live l :: r, p :: s => 2 ≤ l ∧ σ.m.lv l = some p ∧ adOk σ r s
  | .nil sz :: r, p :: s => 0 < sz ∧ p.1 = 0 ∧ adOk σ r s
  | _, _ => False

def slotsOk (obs : List Nat) (ads : List Ad) (σ : AS) : List (Nat × AV) → Prop
  | [] => True
  | (i, a) :: r => ren obs ads σ.m.fm (σ.t i) a ∧ slotsOk obs ads σ r

theorem look_ok {obs : List Nat} {ads : List Ad} {σ : AS} : ∀ {slots : List (Nat × AV)}, slotsOk obs ads σ slots → ∀ k, look slots k = .any ∨ ren obs ads σ.m.fm (σ.t k) (look slots k)
  | [], _, k => .inl rfl
  | (i, a) :: r, h, k => by
    simp only [look]
    split
    · rename_i he; subst he; exact .inr h.1
    · exact look_ok h.2 k

theorem renL_len {obs : List Nat} {ads : List Ad} {fm : Nat → Nat} : ∀ {cs ds : List AV}, renL obs ads fm cs ds → cs.length = ds.length ∧ ∀ k, k < cs.length → ren obs ads fm (cs.getD k .any) (ds.getD k .any)
  | [], [], _ => ⟨rfl, fun k hk => by simp at hk⟩
  | [], _ :: _, h => by simp [renL] at h
  | _ :: _, [], h => by simp [renL] at h
  | a :: r, b :: s, h => by
    simp only [renL] at h
    obtain ⟨h1, h2⟩ := renL_len h.2
    refine ⟨by simp [h1], fun k hk => ?_⟩
    cases k with
    | zero => simpa using h.1
    | succ k => simpa using h2 k (by simpa using hk)

mutual
theorem ren_closed {obs : List Nat} {ads : List Ad} {fm : Nat → Nat} : ∀ a : AV, a.er = a → ren obs ads fm a a
  | .any, _ => by simp [ren]
  | .v x, _ => by simp [ren]
  | .agg cs, h => by simp only [AV.er, AV.agg.injEq] at h; simp only [ren]; exact renL_closed cs h
  | .tup cs, h => by simp only [AV.er, AV.tup.injEq] at h; simp only [ren]; exact renL_closed cs h
  | .sl l sz xs, h => by simp only [AV.er, AV.sl.injEq] at h; simp only [ren, tagOk]; rw [← h.1]; simp
  | .ep .., h => by simp [AV.er] at h
  | .ptr .., h => by simp [AV.er] at h
  | .mp .., h => by simp [AV.er] at h
  | .fn f cs, h => by simp only [AV.er, AV.fn.injEq, true_and] at h; simp only [ren]; exact ⟨trivial, renL_closed cs h⟩
theorem renL_closed {obs : List Nat} {ads : List Ad} {fm : Nat → Nat} : ∀ cs : List AV, AV.erL cs = cs → renL obs ads fm cs cs
  | [], _ => by simp [renL]
  | a :: r, h => by simp only [AV.erL, List.cons.injEq] at h; simp only [renL]; exact ⟨ren_closed a h.1, renL_closed r h.2⟩
end

open Classical in
noncomputable def Gh.ren (G : Gh) (obs : List Nat) (ads : List Ad) (lvs : List (Nat × Nat)) : Gh where
  nh := obs.length
  ob := fun o => G.ob (obs.getD o 0)
  nl := 2 + lvs.length
  fm := fun l => l
  lin := fun g => if G.lin g = 1 then 1 else if h : ∃ j l, ads[j]? = some (.live l) ∧ G.lin g = G.fm l then 2 + h.choose else 0
  fr := G.fr
  lv := fun l => if l < 2 then none else lvs[l - 2]?
  la := fun l => match ads[l - 2]? with
    | some (.live l2) => G.la l2
    | _ => (none, 0)
  ls := fun l => match ads[l - 2]? with
    | some (.live l2) => G.ls l2
    | some (.nil sz) => sz
    | none => 0

section
variable {P : Program} [Tabs] {w0 : World} {F0 : Nat → Nat} {Fp : Nat → Prop} {X : Nat → Nat → Value} {G G' : Gh} {w w' : World} {a : Act} {σ : AS} {m : AM} {g : Nat}
variable {obs : List Nat} {ads : List Ad} {lvs : List (Nat × Nat)} {objs : List AO}

omit [Tabs] in
theorem mem_lives {l : Nat} : ∀ {ads : List Ad}, l ∈ Ad.lives ads ↔ ∃ j : Nat, ads[j]? = some (.live l)
  | [] => by simp [Ad.lives]
  | .live k :: r => by
    simp only [Ad.lives, List.mem_cons, mem_lives (ads := r)]
    constructor
    · rintro (rfl | ⟨j, h⟩)
      · exact ⟨0, rfl⟩
      · exact ⟨j + 1, by simpa using h⟩
    · rintro ⟨j, h⟩
      cases j with
      | zero => simp at h; exact .inl h.symm
      | succ j => exact .inr ⟨j, by simpa using h⟩
  | .nil s :: r => by
    simp only [Ad.lives, mem_lives (ads := r)]
    constructor
    · rintro ⟨j, h⟩; exact ⟨j + 1, by simpa using h⟩
    · rintro ⟨j, h⟩
      cases j with
      | zero => simp at h
      | succ j => exact ⟨j, by simpa using h⟩

omit [Tabs] in
theorem lives_one {l : Nat} : ∀ {ads : List Ad}, (Ad.lives ads).Nodup → ∀ {j j' : Nat}, ads[j]? = some (.live l) → ads[j']? = some (.live l) → j = j'
  | [], _, j, j', h, _ => by simp at h
  | x :: r, hn, j, j', h, h' => by
    have key : ∀ {i : Nat}, x = .live l → r[i]? = some (.live l) → False := by
      rintro i rfl hi
      simp only [Ad.lives, List.nodup_cons] at hn
      exact hn.1 (mem_lives.2 ⟨i, hi⟩)
    have hr : (Ad.lives r).Nodup := by
      cases x with
      | live k => simp only [Ad.lives, List.nodup_cons] at hn; exact hn.2
      | nil s => exact hn
    cases j with
    | zero =>
      cases j' with
      | zero => rfl
      | succ j' => exact (key (by simpa using h) (by simpa using h')).elim
    | succ j =>
      cases j' with
      | zero => exact (key (by simpa using h') (by simpa using h)).elim
      | succ j' => have := lives_one hr (j := j) (j' := j') (by simpa using h) (by simpa using h'); omega

omit [Tabs] in
theorem adOk_get : ∀ {ads : List Ad} {lvs : List (Nat × Nat)}, adOk σ ads lvs → ads.length = lvs.length ∧ ∀ (j : Nat) x, ads[j]? = some x → ∃ p, lvs[j]? = some p ∧ (match x with | .live l => 2 ≤ l ∧ σ.m.lv l = some p | .nil sz => 0 < sz ∧ p.1 = 0)
  | [], [], _ => ⟨rfl, fun j x h => by simp at h⟩
  | [], _ :: _, h => by simp [adOk] at h
  | .live l :: r, [], h => by simp [adOk] at h
  | .nil l :: r, [], h => by simp [adOk] at h
  | .live l :: r, p :: s, h => by
    simp only [adOk] at h
    obtain ⟨h1, h2⟩ := adOk_get h.2.2
    refine ⟨by simp [h1], fun j x hj => ?_⟩
    cases j with
    | zero => simp at hj; subst hj; exact ⟨p, rfl, h.1, h.2.1⟩
    | succ j => simpa using h2 j x (by simpa using hj)
  | .nil sz :: r, p :: s, h => by
    simp only [adOk] at h
    obtain ⟨h1, h2⟩ := adOk_get h.2.2
    refine ⟨by simp [h1], fun j x hj => ?_⟩
    cases j with
    | zero => simp at hj; subst hj; exact ⟨p, rfl, h.1, h.2.1⟩
    | succ j => simpa using h2 j x (by simpa using hj)

omit [Tabs] in
theorem obOk_get : ∀ {obs' : List Nat} {objs : List AO}, obOk obs ads σ obs' objs → obs'.length = objs.length ∧ ∀ (j : Nat) x', objs[j]? = some x' → ∃ o x, obs'[j]? = some o ∧ σ.m.h o = some x ∧ renO obs ads σ.m.fm x x'
  | [], [], _ => ⟨rfl, fun j x h => by simp at h⟩
  | [], _ :: _, h => by simp [obOk] at h
  | _ :: _, [], h => by simp [obOk] at h
  | o :: r, y :: s, h => by
    simp only [obOk] at h
    obtain ⟨h0, h⟩ := h
    obtain ⟨h1, h2⟩ := obOk_get h
    refine ⟨by simp [h1], fun j x' hj => ?_⟩
    cases j with
    | zero =>
      simp at hj; subst hj
      cases hx : σ.m.h o with
      | none => rw [hx] at h0; exact h0.elim
      | some x => rw [hx] at h0; exact ⟨o, x, rfl, hx, h0⟩
    | succ j => simpa using h2 j x' (by simpa using hj)

/-- What is asked of a renaming. -/
structure RenIn (σ : AS) (obs : List Nat) (ads : List Ad) (objs : List AO) (lvs : List (Nat × Nat)) : Prop where
  nd : (Ad.lives ads).Nodup
  od : obs.Nodup
  ob : obOk obs ads σ obs objs
  ad : adOk σ ads lvs

omit [Tabs] in
theorem ren_lin (h : Mem w0 F0 Fp G w σ.m) (hr : RenIn σ obs ads objs lvs) :
    (∀ g j l, ads[j]? = some (.live l) → G.lin g = G.fm l → (G.ren obs ads lvs).lin g = 2 + j) ∧
    (∀ g, G.lin g ≠ 1 → (∀ l ∈ Ad.lives ads, G.fm l ≠ G.lin g) → (G.ren obs ads lvs).lin g = 0) ∧
    (∀ g, G.lin g = 0 → (G.ren obs ads lvs).lin g = 0) ∧ (∀ g, G.lin g = 1 → (G.ren obs ads lvs).lin g = 1) := by
  have hlive : ∀ (j : Nat) l, ads[j]? = some (.live l) → 2 ≤ l ∧ l < G.nl ∧ 2 ≤ G.fm l ∧ ∃ p, G.lv l = some p := by
    intro j l hj
    obtain ⟨p, _, h1, h2⟩ := (adOk_get hr.ad).2 j _ hj
    have h3 : G.lv l = some p := by rw [h.lv]; exact h2
    have h4 := h.lv_lt h3
    exact ⟨h1, h4, h.fm2 l h1 h4, p, h3⟩
  have h0 : ∀ g, G.lin g ≠ 1 → (∀ l ∈ Ad.lives ads, G.fm l ≠ G.lin g) → (G.ren obs ads lvs).lin g = 0 := by
    intro g h1 h2
    simp only [Gh.ren]
    rw [if_neg h1, dif_neg]
    rintro ⟨j, l, h3, h4⟩
    exact h2 l (mem_lives.2 ⟨j, h3⟩) h4.symm
  refine ⟨?_, h0, ?_, ?_⟩
  · intro g j l hj hg
    obtain ⟨_, _, h3, p, hp⟩ := hlive j l hj
    simp only [Gh.ren]
    have hex : ∃ (j : Nat) (l : Nat), ads[j]? = some (.live l) ∧ G.lin g = G.fm l := ⟨j, l, hj, hg⟩
    rw [if_neg (by omega), dif_pos hex]
    obtain ⟨l', h4, h5⟩ := hex.choose_spec
    obtain ⟨_, _, _, p', hp'⟩ := hlive _ l' h4
    have : l = l' := h.fmi l l' p p' hp hp' (hg.symm.trans h5)
    subst this
    rw [lives_one hr.nd hj h4]
  · intro g hg
    refine h0 g (by omega) fun l hl => ?_
    obtain ⟨j, hj⟩ := mem_lives.1 hl
    have := (hlive j l hj).2.2.1
    omega
  · intro g hg
    simp only [Gh.ren]; rw [if_pos hg]

omit [Tabs] in
/-- How the tag of a slice's lineage goes along. -/
theorem ren_tag (h : Mem w0 F0 Fp G w σ.m) (hr : RenIn σ obs ads objs lvs) {sz l l' : Nat} (hl : l < G.nl) (h1 : l ≠ 1) (ht : tagOk ads σ.m.fm sz l l') :
    l' < (G.ren obs ads lvs).nl ∧ l' ≠ 1 ∧ (∀ g, (G.lin g = G.fm l ∨ G.lin g = 0) → ((G.ren obs ads lvs).lin g = (G.ren obs ads lvs).fm l' ∨ (G.ren obs ads lvs).lin g = 0)) ∧
      (∀ n e, (G.ren obs ads lvs).lv l' = some (n, e) → G.lv l = some (n, e) ∧ (G.ren obs ads lvs).la l' = G.la l ∧ (G.ren obs ads lvs).ls l' = G.ls l) := by
  obtain ⟨r1, r2, r3, r4⟩ := ren_lin h hr
  unfold tagOk at ht
  split at ht
  · rename_i hz
    subst hz
    refine ⟨by simp only [Gh.ren]; omega, by omega, ?_, fun n e hn => by simp [Gh.ren] at hn⟩
    rintro g (hg | hg)
    · right
      rcases ht with ht | ht
      · have : l = 0 := by omega
        subst this
        exact r3 g (hg.trans h.fm0)
      · rcases Nat.lt_or_ge l 2 with h2 | h2
        · have : l = 0 := by omega
          subst this
          exact r3 g (hg.trans h.fm0)
        · have := h.fm2 l h2 hl
          exact r2 g (by omega) fun l2 hl2 he => ht l2 hl2 (by rw [← h.fm]; omega)
    · exact .inr (r3 g hg)
  · rename_i hz
    split at ht
    · omega
    · rename_i ho
      split at ht
      · rename_i l2 ha
        subst ht
        obtain ⟨hlen, hget⟩ := adOk_get hr.ad
        obtain ⟨p, hp, h2, h3⟩ := hget _ _ ha
        have hj := (List.getElem?_eq_some_iff.1 ha).1
        have e1 : 2 + (l' - 2) = l' := by omega
        refine ⟨by simp only [Gh.ren]; omega, by omega, ?_, ?_⟩
        · rintro g (hg | hg)
          · left; rw [r1 g _ _ ha hg]; exact e1
          · exact .inr (r3 g hg)
        · intro n e hn
          simp only [Gh.ren] at hn ⊢
          rw [if_neg (by omega), hp] at hn
          rw [ha]
          refine ⟨?_, rfl, rfl⟩
          rw [h.lv, h3]; exact hn
      · omega
      · exact ht.elim

omit [Tabs] in
theorem ren_ok (h : Mem w0 F0 Fp G w σ.m) (hr : RenIn σ obs ads objs lvs) {x : Value} {b : AV} (hv : VR G w x b) : ∀ c, ren obs ads σ.m.fm b c → VR (G.ren obs ads lvs) w x c := by
  have hob : ∀ (o' o : Nat), obs[o']? = some o → o' < (G.ren obs ads lvs).nh ∧ (G.ren obs ads lvs).ob o' = G.ob o := by
    intro o' o ho
    refine ⟨(List.getElem?_eq_some_iff.1 ho).1, ?_⟩
    simp only [Gh.ren, List.getD_eq_getElem?_getD, ho, Option.getD_some]
  induction hv with
  | any x => intro c hc; cases c <;> simp only [ren] at hc; exact .any _
  | v x => intro c hc; cases c <;> simp only [ren] at hc; exact .any _; subst hc; exact .v _
  | agg arr cs hs _ ih =>
    intro c hc
    cases c <;> simp only [ren] at hc
    · exact .any _
    · obtain ⟨h1, h2⟩ := renL_len hc
      exact .agg arr _ (hs.trans h1) fun k hk => ih k (by omega) _ (h2 k (by omega))
  | tup arr cs hs _ ih =>
    intro c hc
    cases c <;> simp only [ren] at hc
    · exact .any _
    · obtain ⟨h1, h2⟩ := renL_len hc
      exact .tup arr _ (hs.trans h1) fun k hk => ih k (by omega) _ (h2 k (by omega))
  | nil sz =>
    intro c hc
    cases c <;> simp only [ren] at hc
    · exact .any _
    · rename_i l' sz' ys
      obtain ⟨_, rfl, ht⟩ := hc
      unfold tagOk at ht
      split at ht
      · rename_i hz; subst hz
        exact .sl none 0 0 sz' [] 0 0 (fun _ => default) (by simp only [Gh.ren]; omega) (by omega) (by simp) (fun n e hn => by simp [Gh.ren] at hn) (fun h => absurd rfl h) (by simp) (fun h => absurd rfl h) (by simp) (by simp)
      · split at ht
        · rename_i _ hz; subst hz; exact .nil _
        · obtain ⟨hlen, hget⟩ := adOk_get hr.ad
          split at ht
          · rename_i l2 ha
            obtain ⟨p, hp, h2, h3⟩ := hget _ _ ha
            omega
          · rename_i s ha
            obtain ⟨_, rfl⟩ := ht
            obtain ⟨p, hp, h2, h3⟩ := hget _ _ ha
            have hj := (List.getElem?_eq_some_iff.1 ha).1
            refine .sl none 0 l' s [] 0 0 (fun _ => default) (by simp only [Gh.ren]; omega) (by omega) (by simp) ?_ (fun h => absurd rfl h) (by simp) (fun h => absurd rfl h) (by simp) (by simp)
            intro n e hn
            simp only [Gh.ren] at hn ⊢
            rw [if_neg (by omega), hp] at hn
            obtain rfl := Option.some.inj hn
            rw [ha]
            exact ⟨Nat.zero_le _, fun _ => ⟨rfl, rfl⟩⟩
          · exact ht.elim
  | sl A cap l sz xs g off us hl h1 hc hlive hA hsz h0 hcell hh ih =>
    intro c hcc
    cases c <;> simp only [ren] at hcc
    · exact .any _
    · rename_i l' sz' ys
      obtain ⟨hs, rfl, ht⟩ := hcc
      have hs : sz = sz' := by rcases hs with h2 | h2; exact absurd h2 h1; exact h2
      subst hs
      obtain ⟨t1, t2, t3, t4⟩ := ren_tag h hr hl h1 ht
      refine .sl A cap l' sz xs g off us t1 t2 hc ?_ ?_ hsz h0 hcell ?_
      · intro n e hn
        obtain ⟨t5, t6, t7⟩ := t4 n e hn
        rw [t6, t7]
        exact hlive n e t5
      · intro hx
        obtain ⟨h2, h3, h4⟩ := hA hx
        exact ⟨h2, t3 g h3, h4⟩
      · exact fun k hk => ih k hk _ (ren_closed _ (flat_closed hsz k))
  | ep l sz xs i j g off us hl hlive hA hi hj hsz h0 hcell hh ih =>
    intro c hcc
    cases c <;> simp only [ren] at hcc
    · exact .any _
    · rename_i l' sz' ys i' j'
      obtain ⟨_, h1, rfl, rfl, rfl, rfl, ht⟩ := hcc
      obtain ⟨t1, t2, t3, t4⟩ := ren_tag h hr hl h1 ht
      refine .ep l' sz xs i j g off us t1 ?_ ⟨t3 g hA.1, hA.2⟩ hi hj hsz h0 hcell ?_
      · intro n e hn
        obtain ⟨t5, t6, t7⟩ := t4 n e hn
        rw [t6, t7]
        exact hlive n e t5
      · exact fun k hk => ih k hk _ (ren_closed _ (flat_closed hsz k))
  | ptr o k ho =>
    intro c hc
    cases c <;> simp only [ren] at hc
    · exact .any _
    · obtain ⟨rfl, h2⟩ := hc
      obtain ⟨h3, h4⟩ := hob _ _ h2
      rw [← h4]; exact .ptr _ _ h3
  | mp o ho =>
    intro c hc
    cases c <;> simp only [ren] at hc
    · exact .any _
    · obtain ⟨h3, h4⟩ := hob _ _ hc
      rw [← h4]; exact .mp _ h3
  | fn f arr cs hs _ ih =>
    intro c hc
    cases c <;> simp only [ren] at hc
    · exact .any _
    · obtain ⟨rfl, hc⟩ := hc
      obtain ⟨h1, h2⟩ := renL_len hc
      exact .fn f arr _ (hs.trans h1) fun k hk => ih k (by omega) _ (h2 k (by omega))

omit [Tabs] in
theorem ren_ob (hr : RenIn σ obs ads objs lvs) {o' o : Nat} (ho : obs[o']? = some o) : o' < (G.ren obs ads lvs).nh ∧ (G.ren obs ads lvs).ob o' = G.ob o := by
  obtain ⟨h1, h2⟩ := List.getElem?_eq_some_iff.1 ho
  refine ⟨h1, ?_⟩
  show G.ob (obs.getD o' 0) = G.ob o
  rw [List.getD_eq_getElem?_getD, ho]; rfl
omit [Tabs] in
theorem renO_ok (h : Mem w0 F0 Fp G w σ.m) (hr : RenIn σ obs ads objs lvs) {x x' : AO} {g : Nat} (ho : OR G w g x) (hx : renO obs ads σ.m.fm x x') : OR (G.ren obs ads lvs) w g x' := by
  cases ho with
  | cells cs arr e hh hs hc =>
    cases x' with
    | cells ds =>
      simp only [renO] at hx
      obtain ⟨h1, h2⟩ := renL_len hx
      exact .cells ds arr e hh (hs.trans h1) fun k hk => ren_ok h hr (hc k (by omega)) _ (h2 k (by omega))
    | _ => simp [renO] at hx
  | iter s pos hh =>
    cases x' with
    | iter s' p' => obtain ⟨rfl, rfl⟩ := hx; exact .iter _ _ hh
    | _ => simp [renO] at hx
  | map es c hh =>
    cases x' with
    | map es' c' => obtain ⟨rfl, rfl⟩ := hx; exact .map _ _ hh
    | _ => simp [renO] at hx
  | mit ob i e l hob hh =>
    cases x' with
    | mit o' i' e' l' =>
      obtain ⟨h1, rfl, rfl, rfl⟩ := hx
      obtain ⟨h3, h4⟩ := ren_ob hr h1
      exact .mit _ _ _ _ h3 (by rw [h4]; exact hh)
    | _ => simp [renO] at hx

omit [Tabs] in
theorem Mem.ren (h : Mem w0 F0 Fp G w σ.m) (hr : RenIn σ obs ads objs lvs) (n : Nat) (slots : List (Nat × AV)) (mu : Bool) (hmu : mu = true → σ.m.mu = true) : Mem w0 F0 Fp (G.ren obs ads lvs) w (AS.of n slots objs lvs mu).m := by
  obtain ⟨r1, r2, r3, r4⟩ := ren_lin h hr
  obtain ⟨hlen, hget⟩ := adOk_get hr.ad
  obtain ⟨holen, hoget⟩ := obOk_get hr.ob
  have hkept : ∀ o, o < obs.length → ∃ o' : Nat, obs[o]? = some o' ∧ o' < G.nh := by
    intro o ho
    have hj : objs[o]? = some objs[o] := List.getElem?_eq_getElem (by omega)
    obtain ⟨o', x, h1, h2, _⟩ := hoget o _ hj
    exact ⟨o', h1, (h.obj o' x h2).1⟩
  have hobs : ∀ (o o' : Nat), obs[o]? = some o' → (G.ren obs ads lvs).ob o = G.ob o' := fun o o' ho => by
    simp only [Gh.ren, List.getD_eq_getElem?_getD, ho, Option.getD_some]
  have hll : ∀ l n e, (G.ren obs ads lvs).lv l = some (n, e) → ∃ (j : Nat) (p : Nat × Nat), l = 2 + j ∧ lvs[j]? = some p ∧ p = (n, e) := by
    intro l n e hl
    simp only [Gh.ren] at hl
    split at hl
    · cases hl
    · exact ⟨l - 2, (n, e), by omega, hl, rfl⟩
  refine ⟨holen, rfl, rfl, rfl, by simp [Gh.ren], rfl, fun l _ => Nat.le_refl _, fun l h2 _ => h2, fun l l' x y _ _ he => he, ?_, ?_, ?_, ?_, h.frl, ?_, ?_, ?_, h.f0, (fun hm => h.mu (hmu hm)), h.keep, h.keepf, h.size, h.os, h.tape, h.output⟩
  · intro o o' ho ho' he
    obtain ⟨k, hk1, hk2⟩ := hkept o ho
    obtain ⟨k', hk3, hk4⟩ := hkept o' ho'
    rw [hobs o k hk1, hobs o' k' hk3] at he
    have := h.inj k k' hk2 hk4 he
    subst this
    obtain ⟨h1, h2⟩ := List.getElem?_eq_some_iff.1 hk1
    obtain ⟨h3, h4⟩ := List.getElem?_eq_some_iff.1 hk3
    rcases Nat.lt_trichotomy o o' with h5 | h5 | h5
    · exact absurd (h2.trans h4.symm) (List.pairwise_iff_getElem.1 hr.od o o' h1 h3 h5)
    · exact h5
    · exact absurd (h4.trans h2.symm) (List.pairwise_iff_getElem.1 hr.od o' o h3 h1 h5)
  · intro o ho
    obtain ⟨k, hk1, hk2⟩ := hkept o ho
    rw [hobs o k hk1]
    obtain ⟨h1, h2, h3, h4⟩ := h.obl k hk2
    exact ⟨r4 _ h1, h2, h3, h4⟩
  · intro o x' ho
    simp only [AS.of] at ho
    obtain ⟨o', x, h1, h2, h3⟩ := hoget o x' ho
    refine ⟨(List.getElem?_eq_some_iff.1 h1).1, ?_⟩
    rw [hobs o o' h1]
    exact renO_ok h hr (h.obj o' x h2).2 h3
  · intro l n e hl
    obtain ⟨j, p, rfl, hp, rfl⟩ := hll l n e hl
    have hj := (List.getElem?_eq_some_iff.1 hp).1
    have ha : ads[j]? = some ads[j] := List.getElem?_eq_getElem (by omega)
    obtain ⟨p', hp', hx⟩ := hget j _ ha
    rw [hp] at hp'
    obtain rfl := Option.some.inj hp'
    generalize ads[j] = x at ha hx
    cases x with
    | live l2 =>
      obtain ⟨h2, h3⟩ := hx
      have h3' : G.lv l2 = some (n, e) := by rw [h.lv]; exact h3
      obtain ⟨h4, h5, h6, h7⟩ := h.live l2 n e h3'
      have e1 : (G.ren obs ads lvs).la (2 + j) = G.la l2 := by simp [Gh.ren, ha]
      have e2 : (G.ren obs ads lvs).ls (2 + j) = G.ls l2 := by simp [Gh.ren, ha]
      refine ⟨by omega, by simp only [Gh.ren]; omega, by rw [e2]; exact h6, ?_⟩
      rw [e1, e2]
      rcases h7 with h7 | ⟨g, oF, cap, cur, h7, h8, h9, h10, h11, h12, h13, h14⟩
      · exact .inl h7
      · exact .inr ⟨g, oF, cap, cur, h7, h8, h9, h10, h11, h12, r1 g j l2 ha h13, h14⟩
    | nil sz =>
      obtain ⟨h2, h3⟩ := hx
      simp only at h3
      subst h3
      refine ⟨by omega, by simp only [Gh.ren]; omega, by simpa [Gh.ren, ha] using h2, .inl ⟨rfl, by simp [Gh.ren, ha]⟩⟩
  · intro g hg; exact r3 g (h.linl g hg)
  · intro g
    simp only [Gh.ren]
    split
    · omega
    · split
      · rename_i hex
        obtain ⟨l', h4, h5⟩ := hex.choose_spec
        have := (List.getElem?_eq_some_iff.1 h4).1
        omega
      · omega
  · intro g h1 h2
    obtain ⟨h3, h4, h5⟩ := h.old g h1 h2
    exact ⟨r3 g h3, h4, h5⟩

/-- The state told anew. -/
theorem weak_of {n : Nat} {slots : List (Nat × AV)} {mu : Bool} (obs : List Nat) (ads : List Ad) (hn : σ.n = n) (hmu : mu = true → σ.m.mu = true) (hr : RenIn σ obs ads objs lvs) (hs : slotsOk obs ads σ slots) : Weak σ (AS.of n slots objs lvs mu) := by
  intro w0 F0 Fp X G w a h
  refine ⟨G.ren obs ads lvs, h.sz.trans hn, h.df, fun i => ?_, fun _ _ => .any _, h.mm.ren hr n slots mu hmu, h.tb⟩
  rcases look_ok hs i with h1 | h1
  · show VR _ w _ (look slots i)
    rw [h1]; exact .any _
  · exact ren_ok h.mm hr (h.tm i) _ h1
end
end Go.Rw
end

-- RwGo
section
namespace Go.Rw
open Go Go.RowKit
set_option linter.unusedSimpArgs false
set_option linter.unusedVariables false

def branchP (a : AV) (A B : AS → Prop) (σ : AS) : Prop := match a with
  | .v (.bool b) => if b = true then A σ else B σ
  | _ => False
def guardB (a : AV) (want : Bool) (Y N : AS → Prop) (σ : AS) : Prop := match a with
  | .v (.bool b) => if b = want then Y σ else N σ
  | .v (.tuple _) => N σ
  | _ => False
def guardO (d : Option Nat) (want : Bool) (Y N : AS → Prop) (σ : AS) : Prop := match d with
  | none => N σ
  | some d => guardB (σ.t d) want Y N σ
def opThen [Tabs] (P : Program) (Γ : Env) (dr : Bool) (ops : Array Oper) (o : Oper) (r : List Oper) (K : AS → Prop) (σ : AS) : Prop := vcOp P Γ dr σ o (vcOps P Γ dr ops r K)
def skipThen [Tabs] (P : Program) (Γ : Env) (dr : Bool) (ops : Array Oper) (d : Option Nat) (r : List Oper) (K : AS → Prop) (σ : AS) : Prop := cont σ d (.v undef) (vcOps P Γ dr ops r K)
def gdst (ops : Array Oper) (j : Nat) : Option Nat := (ops[j]?).bind (·.dst)
def popC (x : Option AV) (d : Option Nat) (K : AS → Prop) (σ : AS) : Prop := match x with
  | some a => cont σ d a K
  | none => False

def pickC (c a b : AV) : Option AV := match c with
  | .v (.bool t) => some (pickA t a b)
  | _ => none
def binV (P : Program) (op : BinOp) (t : TypeId) (x y : Operand) (a b : AV) : Option AV := match a, b with
  | .v a, .v b => res P (do eqGuard op t x y a b; binOp op t a b)
  | _, _ => none
def binA (P : Program) (op : BinOp) (t : TypeId) (x y : Operand) (a b : AV) : Option AV := (binV P op t x y a b).or ((aggBin P op t x y a b).or (ptrBin P op t a b))
def unA (P : Program) (op : UnOp) (a : AV) : Option AV := match a with
  | .v a => res P (Op.unary op a)
  | _ => none
def extractA (a : AV) (i : Nat) : Option AV := match a with
  | .tup cs => cs[i]?
  | _ => none
def fieldAddrA (a : AV) (f : Option (Nat × Nat)) : Option AV := match a, f with
  | .ptr o k, some (off, s) => if 0 < s then some (.ptr o (k + off)) else none
  | .ep l sz xs i j, some (off, s) => if 0 < s ∧ j + off < sz then some (.ep l sz xs i (j + off)) else none
  | _, _ => none
def fieldIn (i : Nat) : Option TI → Option (Nat × Nat)
  | some { kind := .st fs, .. } => fs[i]?
  | _ => none
def slcIn (P : Program) : Option TI → Option (Nat × Nat)
  | some { kind := .slc e, .. } => match tiOf P e with | some i => some (e, i.size) | none => none
  | _ => none
def arrIn (P : Program) : Option TI → Option (Nat × Nat)
  | some { kind := .arr n e, .. } => match tiOf P e with | some i => some (n, i.size) | none => none
  | _ => none
def indexAddrA (a i : AV) (s r : Option (Nat × Nat)) : Option AV := match a, i, s, r with
  | .sl l sz xs, .v (.int _ n), some (_, s), _ => if 0 ≤ n ∧ n < xs.length ∧ sz = s then some (.ep l sz xs n.toNat 0) else none
  | .ptr o k, .v (.int _ n), _, some (m, s) => if 0 ≤ n ∧ n < m then some (.ptr o (k + n.toNat * s)) else none
  | _, _, _, _ => none
def indexA (P : Program) (t : TypeId) (a i : AV) : Option AV := match a, i with
  | .v a, .v b => res P (Instr.index t a b)
  | .agg cs, .v (.int _ n) => match tiOf P t with
    | some { kind := .arr len e, .. } => match tiOf P e with
      | some ie => if 0 ≤ n ∧ n < len then loadA P e cs (n.toNat * ie.size) else none
      | none => none
    | _ => none
  | _, _ => none
def loadP (P : Program) (σ : AS) (t : TypeId) (a : AV) : Option AV := match a with
  | .ptr o k => match σ.m.h o with | some (.cells cs) => loadA P t cs k | _ => none
  | .ep _ _ xs i j => loadA P t (xs.getD i .any).cells j
  | _ => none
def optA : Option AV → Option (Option Value)
  | none => some none
  | some (.v y) => some (some y)
  | _ => none
def optE (σ : AS) : Option Operand → Option AV
  | none => none
  | some x => some (ev σ x)
def sliceP (P : Program) (t : TypeId) (a : AV) (lo hi : Option AV) : Option AV := match a, optA lo, optA hi with
  | .v a, some l, some h => res P (Instr.sliceAt t a l h none)
  | .sl l sz xs, some lo, some hi => match slcOf P t, sliceA lo hi xs.length with
    | some (_, s), some (i, j) => if sz = s ∨ xs = [] then some (if i = 0 ∧ j = xs.length then .sl l sz xs else .sl l sz ((xs.drop i).take (j - i))) else none
    | _, _ => none
  | _, _, _ => none
def nilCheckA (a : AV) : Option AV := match a with
  | .ptr o k => some (.ptr o k)
  | .ep l sz xs i j => some (.ep l sz xs i j)
  | _ => none
def evTs (P : Program) (σ : AS) : List Operand → List TypeId → List AV
  | x :: r, t :: s => evT P t σ x :: evTs P σ r s
  | _, _ => []
section
variable {nh nl : Nat} {h : Nat → Option AO} {fm : Nat → Nat} {lv : Nat → Option (Nat × Nat)} {mu : Bool}
variable {P : Program} [Tabs] {Γ : Env} {Q : Exit → AS → Prop} {σ : AS} {K : AS → Prop} {dr : Bool} {ops : Array Oper} {r : List Oper} {n : Nat} {t : Nat → AV} {hd : Nat → Nat → AV} {m : AM} {d : Option Nat} {ty : TypeId} {pos : String} {after : Array Edge} {g : Option (Nat × Bool)}

-- code
theorem vc_skip : vc P Γ .skip Q σ = Q .normal σ := rfl
theorem vc_region {id : Nat} {l : List Oper} : vc P Γ (.region id (List.toArray l) false) Q σ = vcOps P Γ false (List.toArray l) l (Q .normal) σ := rfl
theorem vc_drawn {id : Nat} {l : List Oper} : vc P Γ (.region id (List.toArray l) true) Q σ = (P.follows .mixedOrders = true ∧ lexM (List.toArray l) = true ∧ vcOps P Γ true (List.toArray l) l (Q .normal) σ) := rfl
theorem vc_seq {x y : Code} : vc P Γ (.seq x y) Q σ = vc P Γ x (thenQ (vc P Γ y Q) Q) σ := rfl
theorem vc_cond {c : Operand} {x y : Code} : vc P Γ (.cond c x y) Q σ = branchP (ev σ c) (vc P Γ x Q) (vc P Γ y Q) σ := by
  simp only [vc, branchP]
  rfl
theorem vc_ret : vc P Γ .ret Q σ = Q .ret σ := rfl
omit [Tabs] in
theorem thenQ_normal : thenQ K Q .normal σ = K σ := rfl
omit [Tabs] in
theorem thenQ_ret : thenQ K Q .ret σ = Q .ret σ := rfl
omit [Tabs] in
theorem thenQ_exit {i : Nat} : thenQ K Q (.exit i) σ = Q (.exit i) σ := rfl
omit [Tabs] in
theorem thenQ_goto {i : Nat} : thenQ K Q (.goto i) σ = Q (.goto i) σ := rfl
omit [Tabs] in
theorem blockQ_normal {i : Nat} : blockQ i Q .normal σ = Q .normal σ := rfl
omit [Tabs] in
theorem blockQ_ret {i : Nat} : blockQ i Q .ret σ = Q .ret σ := rfl
omit [Tabs] in
theorem blockQ_goto {i j : Nat} : blockQ i Q (.goto j) σ = Q (.goto j) σ := rfl
omit [Tabs] in
theorem blockQ_same {i : Nat} : blockQ i Q (.exit i) σ = Q .normal σ := if_pos rfl
omit [Tabs] in
theorem branchP_true {A B : AS → Prop} : branchP (.v (.bool true)) A B σ = A σ := by simp [branchP]
omit [Tabs] in
theorem branchP_false {A B : AS → Prop} : branchP (.v (.bool false)) A B σ = B σ := by simp [branchP]
omit [Tabs] in
theorem branchP_split {A B : AS → Prop} {b : Bool} (h1 : b = true → A σ) (h2 : b = false → B σ) : branchP (.v (.bool b)) A B σ := by
  cases b
  · rw [branchP_false]; exact h2 rfl
  · rw [branchP_true]; exact h1 rfl
omit [Tabs] in
theorem branchP_dec {A B : AS → Prop} {p : Prop} [Decidable p] (h1 : p → A σ) (h2 : ¬ p → B σ) : branchP (.v (.bool (decide p))) A B σ :=
  branchP_split (fun h => h1 (of_decide_eq_true h)) fun h => h2 (of_decide_eq_false h)

-- regions
theorem vcOps_nil : vcOps P Γ dr ops [] K σ = K σ := rfl
theorem vcOps_cons {op : Op} : vcOps P Γ dr ops (⟨d, op, ty, pos, after, none⟩ :: r) K σ = vcOp P Γ dr σ ⟨d, op, ty, pos, after, none⟩ (vcOps P Γ dr ops r K) := rfl
theorem vcOps_guard {op : Op} {j : Nat} {w : Bool} : vcOps P Γ dr ops (⟨d, op, ty, pos, after, some (j, w)⟩ :: r) K σ =
    guardO (gdst ops j) w (opThen P Γ dr ops ⟨d, op, ty, pos, after, some (j, w)⟩ r K) (skipThen P Γ dr ops d r K) σ := by
  simp only [vcOps, guarded, guardO, gdst, guardB, opThen, skipThen]
  rfl
theorem opThen_eq {o : Oper} : opThen P Γ dr ops o r K σ = vcOp P Γ dr σ o (vcOps P Γ dr ops r K) := rfl
theorem skipThen_eq : skipThen P Γ dr ops d r K σ = cont σ d (.v undef) (vcOps P Γ dr ops r K) := rfl
omit [Tabs] in
theorem guardO_some {k : Nat} {w : Bool} {Y N : AS → Prop} : guardO (some k) w Y N ⟨n, t, hd, m⟩ = guardB (t k) w Y N ⟨n, t, hd, m⟩ := rfl
omit [Tabs] in
theorem gdst_zero {o : Oper} {l : List Oper} : gdst (List.toArray (o :: l)) 0 = o.dst := rfl
omit [Tabs] in
theorem gdst_succ {o : Oper} {l : List Oper} {j : Nat} : gdst (List.toArray (o :: l)) (j + 1) = gdst (List.toArray l) j := by simp [gdst]
omit [Tabs] in
theorem guardB_tt {Y N : AS → Prop} : guardB (.v (.bool true)) true Y N σ = Y σ := by simp [guardB]
omit [Tabs] in
theorem guardB_ff {Y N : AS → Prop} : guardB (.v (.bool false)) false Y N σ = Y σ := by simp [guardB]
omit [Tabs] in
theorem guardB_tf {Y N : AS → Prop} : guardB (.v (.bool true)) false Y N σ = N σ := by simp [guardB]
omit [Tabs] in
theorem guardB_ft {Y N : AS → Prop} : guardB (.v (.bool false)) true Y N σ = N σ := by simp [guardB]
omit [Tabs] in
theorem guardB_dec {Y N : AS → Prop} {p : Prop} [Decidable p] {w : Bool} (h1 : p → guardB (.v (.bool true)) w Y N σ) (h2 : ¬ p → guardB (.v (.bool false)) w Y N σ) : guardB (.v (.bool (decide p))) w Y N σ := by
  by_cases h : p
  · simpa [h] using h1 h
  · simpa [h] using h2 h

-- states
omit [Tabs] in
theorem cont_none {a : AV} : cont σ none a K = K σ := rfl
omit [Tabs] in
theorem cont_some {k : Nat} {a : AV} : cont ⟨n, t, hd, m⟩ (some k) a K = (k < n ∧ K ⟨n, upd t k a, hd, m⟩) := rfl
omit [Tabs] in
theorem popC_some {a : AV} : popC (some a) d K σ = cont σ d a K := rfl
omit [Tabs] in
theorem popC_if {a : AV} {c : Prop} [Decidable c] : popC (if c then some a else none) d K σ = (c ∧ cont σ d a K) := by
  by_cases h : c <;> simp [popC, h]
omit [Tabs] in
theorem look_cons {i k : Nat} {a : AV} {s : List (Nat × AV)} : look ((i, a) :: s) k = if k = i then a else look s k := rfl
omit [Tabs] in
theorem AS_of_eq {slots : List (Nat × AV)} {objs : List AO} {lvs : List (Nat × Nat)} {mu : Bool} : AS.of n slots objs lvs mu = ⟨n, look slots, fun _ _ => .any, ⟨objs.length, fun o => objs[o]?, 2 + lvs.length, fun l => l, fun l => if l < 2 then none else lvs[l - 2]?, mu⟩⟩ := rfl
-- operands
omit [Tabs] in
theorem ev_tmp {i : Nat} : ev ⟨n, t, hd, m⟩ (.tmp i) = t i := rfl
omit [Tabs] in
theorem ev_const {x : Value} : ev σ (.const x) = ofV x := rfl
omit [Tabs] in
theorem ev_func {f : FuncId} : ev σ (.func f) = .fn f [] := rfl
omit [Tabs] in
theorem evT_tmp {i : Nat} : evT P ty ⟨n, t, hd, m⟩ (.tmp i) = t i := rfl
omit [Tabs] in
theorem evT_const {x : Value} : evT P ty σ (.const x) = ofVh (hintsT P ty) x := rfl
omit [Tabs] in
theorem ofV_int {k : IntKind} {x : Int} : ofV (.int k x) = .v (.int k x) := rfl
omit [Tabs] in
theorem ofV_bool {b : Bool} : ofV (.bool b) = .v (.bool b) := rfl
omit [Tabs] in
theorem ofVh_int {h : List Nat} {k : IntKind} {x : Int} : ofVh h (.int k x) = .v (.int k x) := rfl
omit [Tabs] in
theorem ofVh_bool {h : List Nat} {b : Bool} : ofVh h (.bool b) = .v (.bool b) := rfl
-- operations
theorem op_move {x : Operand} : vcOp P Γ dr σ ⟨d, .move x, ty, pos, after, g⟩ K = cont σ d (evT P ty σ x) K := by simp [vcOp, popAll, pop]
theorem op_assign {x : Operand} : vcOp P Γ dr σ ⟨d, .assign x, ty, pos, after, g⟩ K = cont σ d (evT P ty σ x) K := by simp [vcOp, popAll, pop]
omit [Tabs] in
theorem popC_ex {x : Option AV} : (∃ a, x = some a ∧ cont σ d a K) = popC x d K σ := by cases x <;> simp [popC]
theorem op_pick {c a b : Operand} : vcOp P Γ dr σ ⟨d, .pick c a b, ty, pos, after, g⟩ K = popC (pickC (ev σ c) (ev σ a) (ev σ b)) d K σ := by
  rw [← popC_ex]
  simp only [vcOp, popAll, pop, pop2, Option.or_none, pickC]
  rfl
def binC (P : Program) (op : BinOp) (t : TypeId) (x y : Operand) (dr : Bool) (a b : AV) (d : Option Nat) (K : AS → Prop) (σ : AS) : Prop :=
  popC (binA P op t x y a b) d K σ ∨ (dr = false ∧ nilB (tiOf P t) op a b d K σ)
theorem op_bin {op : BinOp} {t t2 : TypeId} {x y : Operand} : vcOp P Γ dr σ ⟨d, .binOp op t x y t2, ty, pos, after, g⟩ K = binC P op t x y dr (ev σ x) (ev σ y) d K σ := by
  unfold binC
  rw [← popC_ex]
  simp only [vcOp, popAll, pop, pop2, binA, binV]
  rfl
omit [Tabs] in
theorem nilB_no {ti : Option TI} {op : BinOp} {a b : AV} (h : ∀ l sz xs, a ≠ .sl l sz xs) : nilB ti op a b d K σ = False := by
  unfold nilB
  split
  · exact absurd rfl (h _ _ _)
  · exact absurd rfl (h _ _ _)
  · rfl
omit [Tabs] in
theorem binC_v {op : BinOp} {t : TypeId} {x y : Operand} {p : Value} {b : AV} : binC P op t x y dr (.v p) b d K σ = popC (binA P op t x y (.v p) b) d K σ := by
  unfold binC; rw [nilB_no (by intro l sz xs h; cases h)]; simp
omit [Tabs] in
theorem binC_ptr {op : BinOp} {t : TypeId} {x y : Operand} {o k : Nat} {b : AV} : binC P op t x y dr (.ptr o k) b d K σ = popC (binA P op t x y (.ptr o k) b) d K σ := by
  unfold binC; rw [nilB_no (by intro l sz xs h; cases h)]; simp
theorem op_un {op : UnOp} {t : TypeId} {x : Operand} : vcOp P Γ dr σ ⟨d, .unOp op t x, ty, pos, after, g⟩ K = popC (unA P op (ev σ x)) d K σ := by
  rw [← popC_ex]
  simp only [vcOp, popAll, pop, pop2, Option.or_none, unA]
  rfl
theorem op_extract {x : Operand} {i : Nat} : vcOp P Γ dr σ ⟨d, .extract x i, ty, pos, after, g⟩ K = popC (extractA (ev σ x) i) d K σ := by
  rw [← popC_ex]
  simp only [vcOp, popAll, pop, pop2, Option.or_none, extractA]
  rfl
theorem op_fieldAddr {t : TypeId} {x : Operand} {i : Nat} : vcOp P Γ dr σ ⟨d, .fieldAddr t x i, ty, pos, after, g⟩ K = popC (fieldAddrA (ev σ x) (fieldIn i (tiOf P t))) d K σ := by
  rw [← popC_ex]
  simp only [vcOp, popAll, pop, pop2, Option.or_none, fieldAddrA, fieldOf, fieldIn]
  rfl
theorem op_indexAddr {t : TypeId} {x i : Operand} : vcOp P Γ dr σ ⟨d, .indexAddr t x i, ty, pos, after, g⟩ K = popC (indexAddrA (ev σ x) (ev σ i) (slcIn P (tiOf P t)) (arrIn P (tiOf P t))) d K σ := by
  rw [← popC_ex]
  simp only [vcOp, popAll, pop, pop2, Option.or_none, indexAddrA, slcOf, slcIn, arrOf, arrIn]
  rfl
theorem op_index {t : TypeId} {x i : Operand} : vcOp P Γ dr σ ⟨d, .index t x i, ty, pos, after, g⟩ K = popC (indexA P t (ev σ x) (ev σ i)) d K σ := by
  rw [← popC_ex]
  simp only [vcOp, popAll, pop, pop2, Option.or_none, indexA]
  rfl
theorem op_load {t : TypeId} {x : Operand} : vcOp P Γ dr σ ⟨d, .load t x, ty, pos, after, g⟩ K = popC (loadP P σ t (ev σ x)) d K σ := by
  rw [← popC_ex]
  simp only [vcOp, popAll, pop, pop2, Option.or_none, loadP]
  rfl
theorem op_nilCheck {x : Operand} : vcOp P Γ dr σ ⟨d, .nilCheck x, ty, pos, after, g⟩ K = popC (nilCheckA (ev σ x)) d K σ := by
  rw [← popC_ex]
  simp only [vcOp, popAll, pop, pop2, Option.or_none, nilCheckA]
  rfl
end
end Go.Rw
end

-- RwGo2
section
namespace Go.Rw
open Go Go.RowKit
set_option linter.unusedSimpArgs false
set_option linter.unusedVariables false

/-- A text. -/
def sv (l : List UInt8) : Value := .string ⟨l.toArray⟩

def aggA (hs : List Nat) : Nat → List Value → List AV
  | _, [] => []
  | k, x :: r => (match x with | .slice none 0 0 => .sl 1 (hs.getD k 0) [] | x => .v x) :: aggA hs (k + 1) r
def boolB (u : Option TypeDesc) (dflt : Option AV) (b : Bool) : Option AV := match u with
  | some .bool => some (.v (.bool b))
  | _ => dflt
def convStr (us ud : Option TypeDesc) (dflt : Option AV) (s : Value) : Option AV := match us, ud with
  | some .string, some .string => some (.v s)
  | _, _ => dflt
def lenStr (u : Option TypeDesc) (dflt : Option AV) (l : List UInt8) : Option AV := match u with
  | some .string => some (.v (.int .i64 l.length))
  | _ => dflt
def indexStr (u : Option TypeDesc) (dflt : Option AV) (i : Int) (l : List UInt8) : Option AV := match u with
  | some .string => if 0 ≤ i ∧ i < l.length then some (.v (.int .u8 (l.getD i.toNat 0).toNat)) else none
  | _ => dflt
def slcSz (u : Option TI) (e : Nat) : Option (Nat × Nat) := match u with | some i => some (e, i.size) | none => none
def hintsIn (u : Option TI) : List Nat := match u with | some ti => ti.hints | none => []
def loadO (P : Program) (t : TypeId) (j : Nat) (o : Option AO) : Option AV := match o with | some (.cells cs) => loadA P t cs j | _ => none
def loadIn (ti : Option TI) (cs : List AV) (k : Nat) : Option AV := match ti with
  | some ti => bif ti.kind.isAgg then (if k + ti.size ≤ cs.length then some (.agg ((cs.drop k).take ti.size)) else none) else cs[k]?
  | none => none

section
variable {P : Program} [Tabs] {t : TypeId} {x y : Operand} {k : IntKind} {a b : Int}

omit [Tabs] in
theorem ofV_sv {l : List UInt8} : ofV (.string ⟨List.toArray l⟩) = .v (sv l) := rfl
omit [Tabs] in
theorem ofVh_sv {h : List Nat} {l : List UInt8} : ofVh h (.string ⟨List.toArray l⟩) = .v (sv l) := rfl
omit [Tabs] in
theorem aggA_zip (hs : List Nat) : ∀ (l : List Value) (k : Nat), ((l.zipIdx k).map fun p => match p.1 with | .slice none 0 0 => AV.sl 1 (hs.getD p.2 0) [] | x => .v x) = aggA hs k l
  | [], _ => rfl
  | x :: r, k => by rw [List.zipIdx_cons, List.map_cons, aggA_zip hs r (k + 1)]; rfl
omit [Tabs] in
theorem ofVh_agg {h : List Nat} {l : List Value} : ofVh h (.agg (List.toArray l)) = .agg (aggA h 0 l) := by
  rw [← aggA_zip]; rfl
omit [Tabs] in
theorem aggA_nil {h : List Nat} {k : Nat} : aggA h k [] = [] := rfl
omit [Tabs] in
theorem aggA_int {h : List Nat} {j : Nat} {x : Int} {r : List Value} : aggA h j (.int k x :: r) = .v (.int k x) :: aggA h (j + 1) r := rfl
omit [Tabs] in
theorem aggA_bool {h : List Nat} {j : Nat} {x : Bool} {r : List Value} : aggA h j (.bool x :: r) = .v (.bool x) :: aggA h (j + 1) r := rfl
omit [Tabs] in
theorem aggA_sv {h : List Nat} {j : Nat} {x : List UInt8} {r : List Value} : aggA h j (.string ⟨List.toArray x⟩ :: r) = .v (sv x) :: aggA h (j + 1) r := rfl
omit [Tabs] in
theorem aggA_sl {h : List Nat} {j : Nat} {r : List Value} : aggA h j (.slice none 0 0 :: r) = .sl 1 (h.getD j 0) [] :: aggA h (j + 1) r := rfl
omit [Tabs] in
theorem bin_add : binA P .add t x y (.v (.int k a)) (.v (.int k b)) = some (.v (.int k (k.wrap (a + b)))) := by simp [binA, binV, eqGuard, binOp, Op.intArith, res]
omit [Tabs] in
theorem bin_eql : binA P .eql t x y (.v (.int k a)) (.v (.int k b)) = some (.v (.bool (decide (a = b)))) := by
  simp [binA, binV, eqGuard, binOp, Op.intCmp, res]; rfl
omit [Tabs] in
theorem bin_neq : binA P .neq t x y (.v (.int k a)) (.v (.int k b)) = some (.v (.bool (decide (a ≠ b)))) := by
  simp [binA, binV, eqGuard, binOp, Op.intCmp, res]; rfl
omit [Tabs] in
theorem bin_lss : binA P .lss t x y (.v (.int k a)) (.v (.int k b)) = some (.v (.bool (decide (a < b)))) := by simp [binA, binV, eqGuard, binOp, Op.intCmp, res]
omit [Tabs] in
theorem bin_leq : binA P .leq t x y (.v (.int k a)) (.v (.int k b)) = some (.v (.bool (decide (a ≤ b)))) := by simp [binA, binV, eqGuard, binOp, Op.intCmp, res]
omit [Tabs] in
theorem bin_gtr : binA P .gtr t x y (.v (.int k a)) (.v (.int k b)) = some (.v (.bool (decide (a > b)))) := by simp [binA, binV, eqGuard, binOp, Op.intCmp, res]
omit [Tabs] in
theorem bin_geq : binA P .geq t x y (.v (.int k a)) (.v (.int k b)) = some (.v (.bool (decide (a ≥ b)))) := by simp [binA, binV, eqGuard, binOp, Op.intCmp, res]
omit [Tabs] in
theorem calm_map {α β : Type} (f : α → β) (s : Sem α) : calm P (f <$> s) = (calm P s).map f := by
  show calm P (s >>= fun a => pure (f a)) = _
  rw [calm_bind]; cases calm P s <;> rfl
omit [Tabs] in
theorem sv_inj {l r : List UInt8} : ((⟨l.toArray⟩ : ByteArray).toList == (⟨r.toArray⟩ : ByteArray).toList) = decide (l = r) := by
  rw [show (⟨l.toArray⟩ : ByteArray).toList = l from ?_, show (⟨r.toArray⟩ : ByteArray).toList = r from ?_]
  · rw [Bool.eq_iff_iff]; simp
  · rw [ByteArray.toList_eq]
  · rw [ByteArray.toList_eq]
omit [Tabs] in
theorem bin_seql {l r : List UInt8} : binA P .eql t x y (.v (sv l)) (.v (sv r)) = some (.v (.bool (decide (l = r)))) := by
  simp [sv, binA, binV, eqGuard, binOp, Op.stringOp, res, sv_inj]
  rw [Bool.eq_iff_iff]; simp
omit [Tabs] in
theorem bin_sneq {l r : List UInt8} : binA P .neq t x y (.v (sv l)) (.v (sv r)) = some (.v (.bool (decide (l ≠ r)))) := by
  simp [sv, binA, binV, eqGuard, binOp, Op.stringOp, res, sv_inj]
  rw [Bool.eq_iff_iff]; simp
omit [Tabs] in
theorem bin_sadd {l r : List UInt8} (h : l.length + r.length ≤ 9223372036854775807) : binA P .add t x y (.v (sv l)) (.v (sv r)) = some (.v (sv (l ++ r))) := by
  have h2 : ¬ (9223372036854775807 : Int) < (l.length : Int) + r.length := by omega
  have h3 : (⟨l.toArray⟩ : ByteArray) ++ ⟨r.toArray⟩ = ⟨(l ++ r).toArray⟩ := by
    apply ByteArray.ext; simp
  simp [sv, binA, binV, eqGuard, binOp, Op.stringOp, res, ByteArray.size, IntKind.max, IntKind.signed, IntKind.bits, h2, h3]
omit [Tabs] in
theorem un_not {p : Bool} : unA P .not (.v (.bool p)) = some (.v (.bool (!p))) := rfl
omit [Tabs] in
theorem slcIn_eq {e sz by_ : Nat} {z : Option Value} {h : List Nat} : slcIn P (some ⟨sz, by_, z, .slc e, h⟩) = slcSz (tiOf P e) e := rfl
omit [Tabs] in
theorem slcSz_eq {e sz by_ : Nat} {z : Option Value} {k : TK} {h : List Nat} : slcSz (some ⟨sz, by_, z, k, h⟩) e = some (e, sz) := rfl
def arrSz (n : Nat) (u : Option TI) : Option (Nat × Nat) := match u with | some i => some (n, i.size) | none => none
omit [Tabs] in
theorem arrIn_eq {n e sz by_ : Nat} {z : Option Value} {h : List Nat} : arrIn P (some ⟨sz, by_, z, .arr n e, h⟩) = arrSz n (tiOf P e) := rfl
omit [Tabs] in
theorem arrSz_eq {n sz by_ : Nat} {z : Option Value} {k : TK} {h : List Nat} : arrSz n (some ⟨sz, by_, z, k, h⟩) = some (n, sz) := rfl
omit [Tabs] in
theorem fieldIn_eq {i sz by_ : Nat} {z : Option Value} {h : List Nat} {fs : List (Nat × Nat)} : fieldIn i (some ⟨sz, by_, z, .st fs, h⟩) = fs[i]? := rfl
omit [Tabs] in
theorem hints_eq : hintsT P t = hintsIn (tiOf P t) := rfl
omit [Tabs] in
theorem hintsIn_eq {sz by_ : Nat} {z : Option Value} {k : TK} {h : List Nat} : hintsIn (some ⟨sz, by_, z, k, h⟩) = h := rfl
omit [Tabs] in
theorem ofVh_nil {h : List Nat} : ofVh h (.slice none 0 0) = .sl 1 (h.headD 0) [] := rfl
omit [Tabs] in
theorem loadA_eq {cs : List AV} {n : Nat} : loadA P t cs n = loadIn (tiOf P t) cs n := rfl
omit [Tabs] in
theorem loadIn_int {cs : List AV} {n sz by_ : Nat} {z : Option Value} {h : List Nat} : loadIn (some ⟨sz, by_, z, .int k, h⟩) cs n = cs[n]? := rfl
omit [Tabs] in
theorem loadIn_str {cs : List AV} {n sz by_ : Nat} {z : Option Value} {h : List Nat} : loadIn (some ⟨sz, by_, z, .str, h⟩) cs n = cs[n]? := rfl
omit [Tabs] in
theorem loadIn_slc {cs : List AV} {n sz by_ e : Nat} {z : Option Value} {h : List Nat} : loadIn (some ⟨sz, by_, z, .slc e, h⟩) cs n = cs[n]? := rfl
omit [Tabs] in
theorem loadIn_other {cs : List AV} {n sz by_ : Nat} {z : Option Value} {h : List Nat} : loadIn (some ⟨sz, by_, z, .other, h⟩) cs n = cs[n]? := rfl
omit [Tabs] in
theorem loadIn_st {cs : List AV} {n sz by_ : Nat} {z : Option Value} {fs : List (Nat × Nat)} {h : List Nat} : loadIn (some ⟨sz, by_, z, .st fs, h⟩) cs n = if n + sz ≤ cs.length then some (.agg ((cs.drop n).take sz)) else none := rfl
omit [Tabs] in
theorem loadIn_arr {cs : List AV} {n sz by_ c e : Nat} {z : Option Value} {h : List Nat} : loadIn (some ⟨sz, by_, z, .arr c e, h⟩) cs n = if n + sz ≤ cs.length then some (.agg ((cs.drop n).take sz)) else none := rfl
omit [Tabs] in
theorem pickC_eq {c : Bool} {a b : AV} : pickC (.v (.bool c)) a b = some (pickA c a b) := rfl
omit [Tabs] in
theorem pickA_bool {c p q : Bool} : pickA c (.v (.bool p)) (.v (.bool q)) = .v (.bool (bif c then p else q)) := rfl
omit [Tabs] in
theorem pickA_true {a b : AV} : pickA true a b = a := by
  unfold pickA; split <;> rfl
omit [Tabs] in
theorem pickA_false {a b : AV} : pickA false a b = b := by
  unfold pickA; split <;> rfl
omit [Tabs] in
theorem extractA_eq {cs : List AV} {i : Nat} : extractA (.tup cs) i = cs[i]? := rfl
omit [Tabs] in
theorem fieldAddr_ptr {o j off s : Nat} : fieldAddrA (.ptr o j) (some (off, s)) = if 0 < s then some (.ptr o (j + off)) else none := rfl
omit [Tabs] in
theorem indexAddr_arr {o j : Nat} {n : Int} {m z : Nat} {r : Option (Nat × Nat)} : indexAddrA (.ptr o j) (.v (.int k n)) r (some (m, z)) = if 0 ≤ n ∧ n < m then some (.ptr o (j + n.toNat * z)) else none := by cases r <;> rfl
omit [Tabs] in
theorem nilCheck_ptr {o j : Nat} : nilCheckA (.ptr o j) = some (.ptr o j) := rfl
omit [Tabs] in
theorem load_ptr {n : Nat} {tm : Nat → AV} {hd : Nat → Nat → AV} {nh nl : Nat} {h : Nat → Option AO} {fm : Nat → Nat} {lv : Nat → Option (Nat × Nat)} {mu : Bool} {o j : Nat} :
    loadP P ⟨n, tm, hd, ⟨nh, h, nl, fm, lv, mu⟩⟩ t (.ptr o j) = loadO P t j (h o) := rfl
omit [Tabs] in
theorem loadO_eq {j : Nat} {cs : List AV} : loadO P t j (some (.cells cs)) = loadA P t cs j := rfl
end
end Go.Rw
end

-- RwGo3
section
namespace Go.Rw
open Go Go.RowKit
set_option linter.unusedSimpArgs false
set_option linter.unusedVariables false

def zeroIn (u : Option TI) : Option AV := match u with
  | some { zero := some z, hints, .. } => some (ofVh hints z)
  | _ => none
def newC (cs : Option (List AV)) (d : Option Nat) (K : AS → Prop) (σ : AS) : Prop := match cs with
  | some cs => cont (σ.new (.cells cs)) d (.ptr σ.m.nh 0) K
  | none => False
def storeE (o : Option (Nat × Nat)) (size l sz : Nat) (xs : List AV) (i j : Nat) (vs : List AV) (d : Option Nat) (K : AS → Prop) (σ : AS) : Prop := match o with
  | some (c, _) => c = xs.length ∧ i < xs.length ∧ vs.length = size ∧ 0 < vs.length ∧ j + vs.length ≤ sz ∧ 2 ≤ l ∧ σ.m.mu = true ∧ (AV.tagsL vs).any (fun t => σ.m.fm t == σ.m.fm l) = false ∧
      cont (AS.turned { σ with m := σ.m.killed (AV.tagsL vs) } l c (xs.set i (setEl (xs.getD i .any) j (AV.erL vs)))) d (.v undef) K
  | none => False
def storeC (ti : Option TI) (x : AV) (vs : Option (List AV)) (d : Option Nat) (K : AS → Prop) (σ : AS) : Prop := match x with
  | .ptr ob k => match ti, σ.m.h ob, vs with
    | some ti, some (.cells cs), some vs => vs.length = ti.size ∧ k + vs.length ≤ cs.length ∧ cont { σ with m := σ.m.setObj ob (.cells (cs.take k ++ vs ++ cs.drop (k + vs.length))) } d (.v undef) K
    | _, _, _ => False
  | .ep l sz xs i j => match ti, vs with
    | some ti, some vs => storeE (σ.m.lv l) ti.size l sz xs i j vs d K σ
    | _, _ => False
  | _ => False
def storeO (o : Option AO) (sz ob j : Nat) (vs : List AV) (d : Option Nat) (K : AS → Prop) (σ : AS) : Prop := match o with
  | some (.cells cs) => vs.length = sz ∧ j + vs.length ≤ cs.length ∧ cont { σ with m := σ.m.setObj ob (.cells (cs.take j ++ vs ++ cs.drop (j + vs.length))) } d (.v undef) K
  | _ => False
def lenS (s : Option (Nat × Nat)) (xs : List AV) : Option AV := match s with
  | some _ => some (.v (.int .i64 xs.length))
  | none => none
def lenD (P : Program) (t : TypeId) (a : AV) (args : Array TypeId) (ty : TypeId) : Option AV := lenA P t a args ty
def partsE (σ : AS) : List (Nat × Operand) → List (Nat × AV)
  | [] => []
  | p :: r => (p.1, ev σ p.2) :: partsE σ r
def snds : List (Nat × AV) → List AV
  | [] => []
  | p :: r => p.2 :: snds r
def ersP : List (Nat × AV) → List (Nat × AV)
  | [] => []
  | p :: r => (p.1, p.2.er) :: ersP r
def elemsB (s n : Nat) : List (Nat × AV) → Prop
  | [] => True
  | p :: r => p.1 < n ∧ (cellsOf p.2).map List.length = some s ∧ elemsB s n r
def rowC (es : Option (Nat × Nat)) (z : Option AV) (n : Nat) (ps : List (Nat × AV)) (d : Option Nat) (K : AS → Prop) (σ : AS) : Prop := match es, z with
  | some (e, s), some z => (cellsOf z.er).map List.length = some s ∧ 0 < s ∧ n * s ≤ 16777216 ∧ elemsB s n ps ∧
      cont { σ with m := (σ.m.killed (AV.tagsL (snds ps))).newLin n e } d (.sl σ.m.nl s (setParts z.er n (ersP ps))) K
  | _, _ => False
def rowE (P : Program) (es : Option (Nat × Nat)) (n : Nat) (ps : List (Nat × AV)) (d : Option Nat) (K : AS → Prop) (σ : AS) : Prop := match es with
  | some (e, s) => rowC (some (e, s)) (zeroIn (tiOf P e)) n ps d K σ
  | none => False
def appC (ti : Option TI) (e s : Nat) (a b : AV) (d : Option Nat) (K : AS → Prop) (σ : AS) : Prop := match ti, a, b with
  | some { bytes, zero := some zv, .. }, .sl l s1 xs, .sl _ s2 ys => zv.cells.size = s ∧ 0 < s ∧ (xs.length + ys.length) * bytes ≤ 140737488355328 ∧ (xs.length + ys.length) ≤ maxLen ∧ (s2 = s ∨ ys = []) ∧
      (if l = 1 then cont { σ with m := σ.m.newLin ys.length e } d (.sl σ.m.nl s ys) K
       else σ.m.lv l = some (xs.length, e) ∧ s1 = s ∧ cont { σ with m := σ.m.grow l (xs.length + ys.length) e } d (.sl l s (xs ++ ys)) K)
  | _, _, _ => False
def appE (P : Program) (es : Option (Nat × Nat)) (a b : AV) (d : Option Nat) (K : AS → Prop) (σ : AS) : Prop := match es with
  | some (e, s) => appC (tiOf P e) e s a b d K σ
  | none => False
def callC [Tabs] (P : Program) (Γ : Env) (dr : Bool) (f : AV) (as : List AV) (d : Option Nat) (K : AS → Prop) (σ : AS) : Prop := match f with
  | .fn g caps => vcCall P Γ dr σ g (as ++ caps) d K
  | _ => False

section
variable {P : Program} [Tabs] {Γ : Env} {σ : AS} {K : AS → Prop} {dr : Bool} {n : Nat} {t : Nat → AV} {hd : Nat → Nat → AV} {m : AM} {d : Option Nat} {ty : TypeId} {pos : String} {after : Array Edge} {g : Option (Nat × Bool)}
variable {nh nl : Nat} {h : Nat → Option AO} {fm : Nat → Nat} {lv : Nat → Option (Nat × Nat)} {mu : Bool} {k : IntKind}

omit [Tabs] in
theorem cellsOf_int {x : Int} : cellsOf (.v (.int k x)) = some [.v (.int k x)] := rfl
omit [Tabs] in
theorem cellsOf_bool {x : Bool} : cellsOf (.v (.bool x)) = some [.v (.bool x)] := rfl
omit [Tabs] in
theorem cellsOf_sv {x : List UInt8} : cellsOf (.v (sv x)) = some [.v (sv x)] := rfl
omit [Tabs] in
theorem cellsOf_agg {cs : List AV} : cellsOf (.agg cs) = if cs.all AV.one = true then some cs else none := rfl
omit [Tabs] in
theorem vc_string {x : ByteArray} : (Value.string x).cells.size = 1 := rfl
omit [Tabs] in
theorem maxLen_eq : maxLen = 9223372036854775807 := rfl
omit [Tabs] in
theorem one_int {x : Int} : AV.one (.v (.int k x)) = true := rfl
omit [Tabs] in
theorem one_bool {x : Bool} : AV.one (.v (.bool x)) = true := rfl
omit [Tabs] in
theorem one_sv {x : List UInt8} : AV.one (.v (sv x)) = true := rfl
omit [Tabs] in
theorem one_sl {l sz : Nat} {xs : List AV} : AV.one (.sl l sz xs) = true := rfl
omit [Tabs] in
theorem er_v {x : Value} : AV.er (.v x) = .v x := rfl
omit [Tabs] in
theorem er_sl {l sz : Nat} {xs : List AV} : AV.er (.sl l sz xs) = .sl 0 sz xs := rfl
omit [Tabs] in
theorem er_agg {cs : List AV} : AV.er (.agg cs) = .agg (AV.erL cs) := rfl
omit [Tabs] in
theorem er_tup {cs : List AV} : AV.er (.tup cs) = .tup (AV.erL cs) := rfl
omit [Tabs] in
theorem erL_nil : AV.erL [] = [] := rfl
omit [Tabs] in
theorem erL_cons {a : AV} {r : List AV} : AV.erL (a :: r) = a.er :: AV.erL r := rfl
omit [Tabs] in
theorem tags_v {x : Value} : AV.tags (.v x) = [] := rfl
omit [Tabs] in
theorem tagsL_nil : AV.tagsL [] = [] := rfl
omit [Tabs] in
theorem tagsL_cons {a : AV} {r : List AV} : AV.tagsL (a :: r) = a.tags ++ AV.tagsL r := rfl
omit [Tabs] in
theorem plain_v {x : Value} : AV.plain (.v x) = true := rfl
omit [Tabs] in
theorem plain_agg {cs : List AV} : AV.plain (.agg cs) = AV.plainL cs := rfl
omit [Tabs] in
theorem plain_tup {cs : List AV} : AV.plain (.tup cs) = AV.plainL cs := rfl
omit [Tabs] in
theorem plainL_nil : AV.plainL [] = true := rfl
omit [Tabs] in
theorem plainL_cons {a : AV} {r : List AV} : AV.plainL (a :: r) = (a.plain && AV.plainL r) := rfl
omit [Tabs] in
theorem kill_nil : kill fm [] lv = lv := by funext l; simp [kill]
omit [Tabs] in
theorem updn_eq {α : Type} {f : Nat → α} {j i : Nat} {a : α} : upd f j a i = if i = j then a else f i := rfl

omit [Tabs] in
theorem zeroIn_eq {sz by_ : Nat} {z : Value} {k : TK} {hs : List Nat} : zeroIn (some ⟨sz, by_, some z, k, hs⟩) = some (ofVh hs z) := rfl
theorem op_alloc {e : TypeId} : vcOp P Γ false σ ⟨d, .alloc e, ty, pos, after, g⟩ K = newC ((zeroIn (tiOf P e)).bind cellsOf) d K σ := by
  simp only [vcOp, Bool.false_eq_true, false_implies, true_and]
  have e1 : zeroOf P e = zeroIn (tiOf P e) := rfl
  rw [e1]
  cases zeroIn (tiOf P e) with
  | none => simp [newC]
  | some z => cases hc : cellsOf z <;> simp [newC, hc]
theorem op_box {e : TypeId} {x : Operand} : vcOp P Γ false σ ⟨d, .box e x, ty, pos, after, g⟩ K = newC (cellsOf (ev σ x)) d K σ := by
  simp only [vcOp, true_and]
  cases hc : cellsOf (ev σ x) <;> simp [newC]
omit [Tabs] in
theorem newC_eq {cs : List AV} : newC (some cs) d K ⟨n, t, hd, ⟨nh, h, nl, fm, lv, mu⟩⟩ = cont ⟨n, t, hd, ⟨nh + 1, upd h nh (some (.cells cs)), nl, fm, lv, mu⟩⟩ d (.ptr nh 0) K := rfl
theorem op_store {t : TypeId} {x y : Operand} : vcOp P Γ false σ ⟨d, .store t x y, ty, pos, after, g⟩ K = storeC (tiOf P t) (ev σ x) (cellsOf (ev σ y)) d K σ := by
  simp only [vcOp, Bool.false_eq_true, false_implies, true_and, storeC]
  cases ev σ x with
  | ptr ob k =>
    simp only []
    cases tiOf P t <;> cases σ.m.h ob with
    | none => simp
    | some o => cases o <;> cases cellsOf (ev σ y) <;> simp
  | ep l sz xs i j =>
    simp only []
    cases hti : tiOf P t with
    | none => simp
    | some ti =>
      cases hvs : cellsOf (ev σ y) with
      | none => simp
      | some vs =>
        cases hlv : σ.m.lv l with
        | none => simp [storeE, hlv]
        | some p =>
          obtain ⟨c, e⟩ := p
          simp only [storeE, Option.some.injEq, Prod.mk.injEq]
          apply propext
          constructor
          · rintro ⟨_, e', _, x, rfl, hx, rfl, h1, h2, h3, h4, ⟨rfl, rfl⟩, h5, h6, h7⟩
            have hi := (List.getElem?_eq_some_iff.1 hx).1
            have e1 : xs.getD i .any = x := by rw [List.getD_eq_getElem?_getD, hx]; rfl
            exact ⟨rfl, hi, h1, h2, h3, h4, h5, by simpa using h6, by rw [e1]; exact h7⟩
          · rintro ⟨rfl, hi, h1, h2, h3, h4, h5, h6, h7⟩
            have e1 : xs.getD i .any = xs[i] := by rw [List.getD_eq_getElem?_getD, List.getElem?_eq_getElem hi]; rfl
            exact ⟨_, e, _, xs[i], rfl, List.getElem?_eq_getElem hi, rfl, h1, h2, h3, h4, ⟨rfl, rfl⟩, h5, by simpa using h6, by rw [e1] at h7; exact h7⟩
  | _ => rfl
def storeD (ti : Option TI) (x : AV) (vs : Option (List AV)) (d : Option Nat) (K : AS → Prop) (σ : AS) : Prop := match x with
  | .ptr ob k => storeC ti (.ptr ob k) vs d K σ
  | _ => False
omit [Tabs] in
theorem storeD_ptr {ti : Option TI} {ob k : Nat} {vs : Option (List AV)} : storeD ti (.ptr ob k) vs d K σ = storeC ti (.ptr ob k) vs d K σ := rfl
theorem op_storeD {t : TypeId} {x y : Operand} : vcOp P Γ true σ ⟨d, .store t x y, ty, pos, after, g⟩ K = storeD (tiOf P t) (ev σ x) (cellsOf (ev σ y)) d K σ := by
  have e := op_store (P := P) (Γ := Γ) (σ := σ) (d := d) (K := K) (ty := ty) (pos := pos) (after := after) (g := g) (t := t) (x := x) (y := y)
  simp only [vcOp, Bool.false_eq_true, false_implies, true_and] at e
  simp only [vcOp, true_implies, e, storeD]
  cases ev σ x <;> simp
omit [Tabs] in
theorem storeC_eq {sz by_ : Nat} {z : Option Value} {kk : TK} {hs : List Nat} {ob j : Nat} {vs : List AV} :
    storeC (some ⟨sz, by_, z, kk, hs⟩) (.ptr ob j) (some vs) d K ⟨n, t, hd, ⟨nh, h, nl, fm, lv, mu⟩⟩ = storeO (h ob) sz ob j vs d K ⟨n, t, hd, ⟨nh, h, nl, fm, lv, mu⟩⟩ := by
  unfold storeC storeO
  simp only []
  cases h ob with
  | none => rfl
  | some o => cases o <;> rfl
omit [Tabs] in
theorem storeO_eq {sz ob j : Nat} {cs vs : List AV} : storeO (some (.cells cs)) sz ob j vs d K ⟨n, t, hd, ⟨nh, h, nl, fm, lv, mu⟩⟩ =
    (vs.length = sz ∧ j + vs.length ≤ cs.length ∧ cont ⟨n, t, hd, ⟨nh, upd h ob (some (.cells (cs.take j ++ vs ++ cs.drop (j + vs.length)))), nl, fm, lv, mu⟩⟩ d (.v undef) K) := rfl

omit [Tabs] in
theorem partsE_nil : partsE σ [] = [] := rfl
omit [Tabs] in
theorem partsE_cons {i : Nat} {x : Operand} {r : List (Nat × Operand)} : partsE σ ((i, x) :: r) = (i, ev σ x) :: partsE σ r := rfl
omit [Tabs] in
theorem partsE_eq (σ : AS) : ∀ l : List (Nat × Operand), l.map (fun p => (p.1, ev σ p.2)) = partsE σ l
  | [] => rfl
  | p :: r => by rw [List.map_cons, partsE_eq σ r]; rfl
omit [Tabs] in
theorem snds_eq (σ : AS) : ∀ l : List (Nat × Operand), l.map (fun p => ev σ p.2) = snds (partsE σ l)
  | [] => rfl
  | p :: r => by rw [List.map_cons, snds_eq σ r]; rfl
omit [Tabs] in
theorem ersP_eq (σ : AS) : ∀ l : List (Nat × Operand), l.map (fun p => (p.1, (ev σ p.2).er)) = ersP (partsE σ l)
  | [] => rfl
  | p :: r => by rw [List.map_cons, ersP_eq σ r]; rfl
omit [Tabs] in
theorem elemsB_ok {s n : Nat} : ∀ {l : List (Nat × AV)}, elemsB s n l → elemsOk s n l
  | [], _ => fun p hp => by cases hp
  | p :: r, hb => by
    intro q hq
    rcases List.mem_cons.1 hq with rfl | hq
    · refine ⟨hb.1, ?_⟩
      have h2 := hb.2.1
      cases hc : cellsOf q.2 with
      | none => rw [hc] at h2; cases h2
      | some cs => rw [hc] at h2; exact ⟨cs, rfl, Option.some.inj h2⟩
    · exact elemsB_ok hb.2.2 q hq
omit [Tabs] in
theorem elemsB_of {s n : Nat} : ∀ {l : List (Nat × AV)}, elemsOk s n l → elemsB s n l
  | [], _ => trivial
  | p :: r, hb => by
    obtain ⟨h1, cs, h2, h3⟩ := hb p (List.mem_cons_self ..)
    exact ⟨h1, by rw [h2, ← h3]; rfl, elemsB_of fun q hq => hb q (List.mem_cons_of_mem _ hq)⟩
theorem op_buildSlice {t : TypeId} {c : Nat} {l : List (Nat × Operand)} : vcOp P Γ false σ ⟨d, .buildSlice t c (List.toArray l), ty, pos, after, g⟩ K = rowE P (slcIn P (tiOf P t)) c (partsE σ l) d K σ := by
  simp only [vcOp, true_and]
  have e0 : slcOf P t = slcIn P (tiOf P t) := by unfold slcOf slcIn; rfl
  have e1 : ∀ e, zeroOf P e = zeroIn (tiOf P e) := fun _ => rfl
  rw [e0]
  unfold rowE
  cases hs : slcIn P (tiOf P t) with
  | none => simp
  | some es =>
    obtain ⟨e, s⟩ := es
    simp only [rowC]
    apply propext
    constructor
    · rintro ⟨e', s', z, zs, h1, h2, h3, h4, h5, h6, h7, h8⟩
      simp only [Option.some.injEq, Prod.mk.injEq] at h1
      obtain ⟨rfl, rfl⟩ := h1
      rw [e1] at h2
      rw [h2]
      rw [partsE_eq] at h7
      rw [snds_eq, ersP_eq] at h8
      exact ⟨by rw [h3, ← h4]; rfl, h5, by simpa using h6, elemsB_of h7, h8⟩
    · intro hk
      cases hz : zeroIn (tiOf P e) with
      | none => rw [hz] at hk; exact hk.elim
      | some z =>
        rw [hz] at hk
        obtain ⟨h1, h2, h3, h4, h5⟩ := hk
        cases hc : cellsOf z.er with
        | none => rw [hc] at h1; cases h1
        | some zs =>
          rw [hc] at h1
          refine ⟨e, s, z, zs, rfl, by rw [e1]; exact hz, hc, Option.some.inj h1, h2, by simpa using h3, ?_, ?_⟩
          · rw [partsE_eq]; exact elemsB_ok h4
          · rw [snds_eq, ersP_eq]; exact h5
/-- A new row in a region that draws its order: it stays as it is. -/
def deadB (s : Nat) (z : AV) (n : Nat) (ps : List (Nat × AV)) (d : Option Nat) (K : AS → Prop) (σ : AS) : Prop :=
  (cellsOf z.er).map List.length = some s ∧ 0 < s ∧ n * s ≤ 16777216 ∧ elemsB s n ps ∧ AV.tagsL (snds ps) = [] ∧ cont σ d (.sl 0 s (setParts z.er n (ersP ps))) K
def deadZ (s : Nat) (z : Option AV) (n : Nat) (ps : List (Nat × AV)) (d : Option Nat) (K : AS → Prop) (σ : AS) : Prop := match z with
  | some z => deadB s z n ps d K σ
  | none => False
def deadE (P : Program) (es : Option (Nat × Nat)) (n : Nat) (ps : List (Nat × AV)) (d : Option Nat) (K : AS → Prop) (σ : AS) : Prop := match es with
  | some (e, s) => deadZ s (zeroIn (tiOf P e)) n ps d K σ
  | none => False
theorem op_buildDead {t : TypeId} {c : Nat} {l : List (Nat × Operand)} : vcOp P Γ true σ ⟨d, .buildSlice t c (List.toArray l), ty, pos, after, g⟩ K = deadE P (slcIn P (tiOf P t)) c (partsE σ l) d K σ := by
  simp only [vcOp, deadR]
  have e0 : slcOf P t = slcIn P (tiOf P t) := by unfold slcOf slcIn; rfl
  have e1 : ∀ e, zeroOf P e = zeroIn (tiOf P e) := fun _ => rfl
  rw [e0]
  unfold deadE
  cases hs : slcIn P (tiOf P t) with
  | none => simp
  | some es =>
    obtain ⟨e, s⟩ := es
    simp only [deadZ]
    apply propext
    constructor
    · rintro ⟨r, ⟨e', s', z, zs, h1, h2, h3, h4, h5, h6, h7, h8, rfl⟩, h9⟩
      simp only [Option.some.injEq, Prod.mk.injEq] at h1
      obtain ⟨rfl, rfl⟩ := h1
      rw [e1] at h2
      rw [h2]
      rw [partsE_eq] at h7
      rw [snds_eq] at h8
      rw [ersP_eq] at h9
      exact ⟨by rw [h3, ← h4]; rfl, h5, by simpa using h6, elemsB_of h7, h8, h9⟩
    · intro hk
      cases hz : zeroIn (tiOf P e) with
      | none => rw [hz] at hk; exact hk.elim
      | some z =>
        rw [hz] at hk
        obtain ⟨h1, h2, h3, h4, h5, h6⟩ := hk
        cases hc : cellsOf z.er with
        | none => rw [hc] at h1; cases h1
        | some zs =>
          rw [hc] at h1
          refine ⟨_, ⟨e, s, z, zs, rfl, by rw [e1]; exact hz, hc, Option.some.inj h1, h2, by simpa using h3, ?_, ?_, rfl⟩, ?_⟩
          · rw [partsE_eq]; exact elemsB_ok h4
          · rw [snds_eq]; exact h5
          · rw [ersP_eq]; exact h6
omit [Tabs] in
theorem deadE_eq {e s : Nat} {ps : List (Nat × AV)} : deadE P (some (e, s)) n ps d K σ = deadZ s (zeroIn (tiOf P e)) n ps d K σ := rfl
omit [Tabs] in
theorem deadZ_eq {s c : Nat} {z : AV} {ps : List (Nat × AV)} : deadZ s (some z) c ps d K σ =
    ((cellsOf z.er).map List.length = some s ∧ 0 < s ∧ c * s ≤ 16777216 ∧ elemsB s c ps ∧ AV.tagsL (snds ps) = [] ∧ cont σ d (.sl 0 s (setParts z.er c (ersP ps))) K) := rfl
omit [Tabs] in
theorem rowE_eq {e s : Nat} {ps : List (Nat × AV)} : rowE P (some (e, s)) n ps d K σ = rowC (some (e, s)) (zeroIn (tiOf P e)) n ps d K σ := rfl
omit [Tabs] in
theorem rowC_eq {e s c : Nat} {z : AV} {ps : List (Nat × AV)} : rowC (some (e, s)) (some z) c ps d K ⟨n, t, hd, ⟨nh, h, nl, fm, lv, mu⟩⟩ =
    ((cellsOf z.er).map List.length = some s ∧ 0 < s ∧ c * s ≤ 16777216 ∧ elemsB s c ps ∧
      cont ⟨n, t, hd, ⟨nh, h, nl + 1, upd fm nl nl, upd (kill fm (AV.tagsL (snds ps)) lv) nl (some (c, e)), mu⟩⟩ d (.sl nl s (setParts z.er c (ersP ps))) K) := rfl
omit [Tabs] in
theorem elemsB_nil {s n : Nat} : elemsB s n [] = True := rfl
omit [Tabs] in
theorem elemsB_cons {s n i : Nat} {a : AV} {r : List (Nat × AV)} : elemsB s n ((i, a) :: r) = (i < n ∧ (cellsOf a).map List.length = some s ∧ elemsB s n r) := rfl
omit [Tabs] in
theorem snds_nil : snds [] = [] := rfl
omit [Tabs] in
theorem snds_cons {i : Nat} {a : AV} {r : List (Nat × AV)} : snds ((i, a) :: r) = a :: snds r := rfl
omit [Tabs] in
theorem ersP_nil : ersP [] = [] := rfl
omit [Tabs] in
theorem ersP_cons {i : Nat} {a : AV} {r : List (Nat × AV)} : ersP ((i, a) :: r) = (i, a.er) :: ersP r := rfl
omit [Tabs] in
theorem setParts_eq {z : AV} {ps : List (Nat × AV)} : setParts z n ps = ps.foldl (fun acc p => acc.set p.1 p.2) (List.replicate n z) := rfl

theorem op_append {x y : Operand} {t : TypeId} : vcOp P Γ false σ ⟨d, .call { callee := .builtin .append, args := List.toArray [x, y], argTypes := List.toArray [t, t] }, ty, pos, after, g⟩ K =
    appE P (slcIn P (tiOf P t)) (ev σ x) (ev σ y) d K σ := by
  simp only [vcOp, true_and]
  have e0 : slcOf P t = slcIn P (tiOf P t) := by unfold slcOf slcIn; rfl
  rw [e0]
  unfold appE
  generalize ev σ x = a
  generalize ev σ y = b
  apply propext
  constructor
  · rintro ⟨e, s, ti, zv, h1, h2, h3, h4, h5, h6⟩
    rw [h1]
    simp only [appC, h2]
    obtain ⟨sz, by_, z, kk, hs⟩ := ti
    simp only at h3
    subst h3
    cases a with
    | sl l s1 xs =>
      cases b with
      | sl l2 s2 ys => exact ⟨h4, h5, h6⟩
      | _ => exact h6.elim
    | _ => exact h6.elim
  · intro hk
    cases hs : slcIn P (tiOf P t) with
    | none => rw [hs] at hk; exact hk.elim
    | some es =>
      obtain ⟨e, s⟩ := es
      rw [hs] at hk
      simp only [appC] at hk
      cases hti : tiOf P e with
      | none => rw [hti] at hk; exact hk.elim
      | some ti =>
        obtain ⟨sz, by_, z, kk, hs⟩ := ti
        rw [hti] at hk
        cases z with
        | none => exact hk.elim
        | some zv =>
          cases a with
          | sl l s1 xs =>
            cases b with
            | sl l2 s2 ys =>
              obtain ⟨h1, h2, h3⟩ := hk
              exact ⟨e, s, _, zv, rfl, hti, rfl, h1, h2, h3⟩
            | _ => exact hk.elim
          | _ => exact hk.elim
omit [Tabs] in
theorem appE_eq {e s : Nat} {a b : AV} : appE P (some (e, s)) a b d K σ = appC (tiOf P e) e s a b d K σ := rfl
omit [Tabs] in
theorem appC_eq {sz by_ e s l s1 l2 s2 : Nat} {zv : Value} {kk : TK} {hs : List Nat} {xs ys : List AV} : appC (some ⟨sz, by_, some zv, kk, hs⟩) e s (.sl l s1 xs) (.sl l2 s2 ys) d K ⟨n, t, hd, ⟨nh, h, nl, fm, lv, mu⟩⟩ =
    (zv.cells.size = s ∧ 0 < s ∧ (xs.length + ys.length) * by_ ≤ 140737488355328 ∧ (xs.length + ys.length) ≤ maxLen ∧ (s2 = s ∨ ys = []) ∧
      (if l = 1 then cont ⟨n, t, hd, ⟨nh, h, nl + 1, upd fm nl nl, upd lv nl (some (ys.length, e)), mu⟩⟩ d (.sl nl s ys) K
       else lv l = some (xs.length, e) ∧ s1 = s ∧ cont ⟨n, t, hd, ⟨nh, h, nl, fm, upd lv l (some (xs.length + ys.length, e)), mu⟩⟩ d (.sl l s (xs ++ ys)) K)) := rfl

omit [Tabs] in
theorem evTs_nil : evTs P σ [] [] = [] := rfl
omit [Tabs] in
theorem evTs_cons {x : Operand} {c : TypeId} {xs : List Operand} {ts : List TypeId} : evTs P σ (x :: xs) (c :: ts) = evT P c σ x :: evTs P σ xs ts := rfl
omit [Tabs] in
theorem evTs_eq : ∀ {xs : List Operand} {ts : List TypeId}, List.zipWith (fun x t => evT P t σ x) xs ts = evTs P σ xs ts
  | [], [] => rfl
  | [], _ :: _ => rfl
  | _ :: _, [] => rfl
  | x :: xs, t :: ts => by rw [List.zipWith_cons_cons, evTs_eq]; rfl
theorem op_call {f : Operand} {xs : List Operand} {ts : List TypeId} : vcOp P Γ dr σ ⟨d, .call { callee := .value f, args := List.toArray xs, argTypes := List.toArray ts }, ty, pos, after, g⟩ K =
    (xs.length = ts.length ∧ callC P Γ dr (ev σ f) (evTs P σ xs ts) d K σ) := by
  simp only [vcOp, callC, List.size_toArray, evTs_eq]
  rfl
theorem callC_eq {f : FuncId} {caps as : List AV} : callC P Γ dr (.fn f caps) as d K σ = vcCall P Γ dr σ f (as ++ caps) d K := rfl
omit [Tabs] in
theorem get_nil {f : FuncId} : Env.get [] f = none := rfl
omit [Tabs] in
theorem get_cons {f f' : FuncId} {C : Con} {Γ : List (FuncId × Con)} : Env.get ((f, C) :: Γ) f' = if f = f' then some C else Env.get Γ f' := by
  unfold Env.get
  by_cases he : f = f'
  · rw [if_pos he, List.find?_cons_of_pos (by simp [he])]; rfl
  · rw [if_neg he, List.find?_cons_of_neg (by simpa using he)]

/-- A call of a function of one answer. -/
theorem vcCall_plain {f : FuncId} {C : Con} {as : List AV} {i : C.ι} {r : AV} (hC : Γ.get f = some C) (hp : C.plain = true) (ho : C.own = none) (ht : C.take = none) (ha : AV.erL as = C.args i) (hr : ∀ r', C.post i r' → r' = r) (hrr : r.plain = true)
    (hk : cont σ d r K) : vcCall P Γ dr σ f as d K := by
  unfold vcCall
  rw [hC]
  refine ⟨i, by rw [ht]; exact ha, ?_⟩
  cases dr with
  | true => exact ⟨.inl hp, ho, ht, r, hr, by rw [er_plain _ hrr]; exact hk⟩
  | false =>
    refine ⟨by rw [ht]; trivial, fun r' hr' => ?_⟩
    have := hr r' hr'
    subst this
    simp only [after, ho, ht, hp, tlOf, lvCall, if_true]
    rw [er_plain _ hrr]
    exact hk
/-- A call that answers a slice, not to be gone on with. -/
theorem vcCall_none {f : FuncId} {C : Con} {as : List AV} {i : C.ι} {ts : List Nat} (hC : Γ.get f = some C) (hp : C.plain = false) (ho : C.own = none) (ht : C.take = none) (ha : AV.erL as = C.args i) (hts : AV.tagsL as = ts)
    (hk : ∀ r, C.post i r → cont ⟨n, t, hd, ⟨nh, h, nl, fm, kill fm ts lv, mu⟩⟩ d r.er K) : vcCall P Γ false ⟨n, t, hd, ⟨nh, h, nl, fm, lv, mu⟩⟩ f as d K := by
  unfold vcCall
  rw [hC]
  refine ⟨i, by rw [ht]; exact ha, ?_⟩
  simp only [Bool.false_eq_true, if_false]
  refine ⟨by rw [ht]; trivial, fun r hr => ?_⟩
  have h1 := hk r hr
  simp only [Go.Rw.after, ho, ht, hp, tlOf, lvCall, Bool.false_eq_true, if_false, hts]
  exact h1

-- lengths, parts
omit [Tabs] in
theorem optE_none : optE σ none = none := rfl
omit [Tabs] in
theorem optE_some {x : Operand} : optE σ (some x) = some (ev σ x) := rfl
omit [Tabs] in
theorem optV_eq {lo : Option Operand} : optV σ lo = optA (optE σ lo) := by
  cases lo with
  | none => rfl
  | some x =>
    simp only [optV, optE, optA]
    cases ev σ x <;> rfl
theorem op_slice {t : TypeId} {x : Operand} {lo hi : Option Operand} : vcOp P Γ dr σ ⟨d, .slice t x lo hi none, ty, pos, after, g⟩ K = popC (sliceP P t (ev σ x) (optE σ lo) (optE σ hi)) d K σ := by
  rw [← popC_ex]
  simp only [vcOp, popAll, pop, pop2, Option.or_none, sliceP, optV_eq]
  cases ev σ x <;> cases optA (optE σ lo) <;> cases optA (optE σ hi) <;> rfl
omit [Tabs] in
theorem lenA_sl {a : Array TypeId} {l sz : Nat} {xs : List AV} {c : TypeId} : lenA P c (.sl l sz xs) a ty = lenS (slcIn P (tiOf P c)) xs := by
  have e0 : slcOf P c = slcIn P (tiOf P c) := by unfold slcOf slcIn; rfl
  unfold lenA lenS
  simp only [e0]
  rfl
omit [Tabs] in
theorem lenS_eq {p : Nat × Nat} {xs : List AV} : lenS (some p) xs = some (.v (.int .i64 xs.length)) := rfl
theorem op_len {x : Operand} {c : TypeId} : vcOp P Γ dr σ ⟨d, .call { callee := .builtin .len, args := List.toArray [x], argTypes := List.toArray [c] }, ty, pos, after, g⟩ K = popC (lenA P c (ev σ x) (List.toArray [c]) ty) d K σ := by
  rw [← popC_ex]
  simp only [vcOp, popAll, pop, pop2, Option.or_none]
omit [Tabs] in
theorem lenA_str {l : List UInt8} {c : TypeId} : lenA P c (.v (sv l)) (List.toArray [c]) ty = lenStr (P.underlying c) (lenD P c (.v (sv l)) (List.toArray [c]) ty) l := by
  unfold lenStr
  split
  · rename_i hc
    have e1 : calm P (Builtin.len_ (List.toArray [c]) ty (List.toArray [sv l])) = some (.int .i64 l.length) := by
      unfold Builtin.len_
      simp [calm_bind, underlying, hc, sv, goInt]
      rfl
    show (calm P (Builtin.len_ (List.toArray [c]) ty (List.toArray [sv l]))).map AV.v = _
    rw [e1]; rfl
  · rfl
omit [Tabs] in
theorem lenStr_eq {l : List UInt8} {x : Option AV} : lenStr (some .string) x l = some (.v (.int .i64 l.length)) := rfl
end
end Go.Rw
end

-- RwGo4
section
namespace Go.Rw
open Go Go.RowKit
set_option linter.unusedSimpArgs false
set_option linter.unusedVariables false

def zips : Nat → List AV → List (Nat × AV)
  | _, [] => []
  | k, a :: r => (k, a) :: zips (k + 1) r
def loadPtr (P : Program) (h : Nat → Option AO) (t : TypeId) (a : AV) : Option AV := match a with
  | .ptr o k => loadO P t k (h o)
  | _ => none
def renOo (obs : List Nat) (ads : List Ad) (fm : Nat → Nat) (o : Option AO) (x' : AO) : Prop := match o with
  | some x => renO obs ads fm x x'
  | none => False
def tagAd (a : Option Ad) (sz l : Nat) : Prop := match a with
  | some (.live l2) => l = l2
  | some (.nil s) => l = 1 ∧ s = sz
  | none => False
def consR (a : Option AV) (o : Option (List AV)) : Option (List AV) := match a, o with
  | some a, some as => some (a :: as)
  | _, _ => none
def retP (C : Con) (i : C.ι) (m : AM) : Option (List AV) → Prop
  | some rs => retOk C i m (oneOf rs)
  | none => False
def retR (P : Program) (rs : List ResultVar) (C : Con) (i : C.ι) : Exit → AS → Prop
  | .normal, σ | .ret, σ => retP C i σ.m (resL P σ rs)
  | _, _ => False
/-- The next round begins at a state of the loop, nearer to its end. -/
def Again [Tabs] {α : Type} (St : α → AS) (μ : α → Nat) (x : α) (σ : AS) : Prop := ∃ y, μ y < μ x ∧ Weak σ (St y)
section
variable {P : Program} [Tabs] {Γ : Env} {σ : AS} {Q : Exit → AS → Prop} {K : AS → Prop} {n : Nat} {t : Nat → AV} {hd : Nat → Nat → AV} {m : AM}

omit [Tabs] in
theorem retR_ret {rs : List ResultVar} {C : Con} {i : C.ι} : retR P rs C i .ret ⟨n, t, hd, m⟩ = retP C i m (resL P ⟨n, t, hd, m⟩ rs) := rfl
omit [Tabs] in
theorem retP_some {C : Con} {i : C.ι} {rs : List AV} : retP C i m (some rs) = retOk C i m (oneOf rs) := rfl
omit [Tabs] in
theorem oneOf_one {a : AV} : oneOf [a] = a := rfl
omit [Tabs] in
theorem oneOf_more {a b : AV} {r : List AV} : oneOf (a :: b :: r) = .tup (a :: b :: r) := rfl
omit [Tabs] in
theorem resL_nil : resL P σ [] = some [] := rfl
omit [Tabs] in
theorem resL_tmp {k : Nat} {r : List ResultVar} : resL P ⟨n, t, hd, m⟩ (.tmp k :: r) = consR (some (t k)) (resL P ⟨n, t, hd, m⟩ r) := by
  simp only [resL, resA, consR] <;> rfl
omit [Tabs] in
theorem resL_cell {k : Nat} {c : TypeId} {r : List ResultVar} : resL P ⟨n, t, hd, m⟩ (.cell k c :: r) = consR (loadPtr P m.h c (t k)) (resL P ⟨n, t, hd, m⟩ r) := by
  simp only [resL, resA, consR, loadPtr, loadO] <;> rfl
omit [Tabs] in
theorem loadPtr_eq {h : Nat → Option AO} {c : TypeId} {o j : Nat} : loadPtr P h c (.ptr o j) = loadO P c j (h o) := rfl
omit [Tabs] in
theorem consR_some {a : AV} {l : List AV} : consR (some a) (some l) = some (a :: l) := rfl

omit [Tabs] in
theorem zips_slots {obs : List Nat} {ads : List Ad} (f : Nat → AV) : ∀ (l : List AV) (k : Nat), (∀ j, j < l.length → ren obs ads σ.m.fm (σ.t (k + j)) (l.getD j .any)) → slotsOk obs ads σ (zips k l)
  | [], _, _ => trivial
  | a :: r, k, h => ⟨by simpa using h 0 (by simp), zips_slots f r (k + 1) fun j hj => by
      have := h (j + 1) (by simpa using hj)
      rw [show k + 1 + j = k + (j + 1) by omega]
      simpa using this⟩

omit [Tabs] in
theorem closed_getD {l : List AV} (h : AV.erL l = l) {j : Nat} (hj : j < l.length) : (l.getD j .any).er = l.getD j .any := by
  rw [← erL_getD, h]

/-- A function that takes nothing over meets its contract if its body, reckoned, comes to what it must answer. -/
theorem good_go (hΓ : GoodEnv P Γ) {f : FuncId} {fn : Func} {c : Code} {C : Con} {rs : List ResultVar} {nn : Nat} (hf : P.funcs[f]? = some fn) (hn : (fn.name == "runtime.NumGoroutine") = false) (hb : fn.body = some c)
    (hr : fn.results.toList = rs) (ht : C.take = none) (hnn : ∀ i, (C.args i).length + (fn.ntmps - (C.args i).length) = nn) (hcl : ∀ i, AV.erL (C.args i) = C.args i)
    (h : ∀ i, vc P Γ c (retR P rs C i) (AS.of nn (zips 0 (C.args i)) [] [])) : Good P f C := by
  have hw : ∀ i, Weak (AS.init fn (C.args i) C.take) (AS.of nn (zips 0 (C.args i)) [] []) := by
    intro i
    refine weak_of [] [] (hnn i) (fun _ => by simp [AS.init, ht]) ⟨by simp [Ad.lives], by simp, by simp [obOk], by simp [adOk]⟩ ?_
    refine zips_slots (fun _ => .any) _ _ fun j hj => ?_
    have e : (AS.init fn (C.args i) C.take).t (0 + j) = (C.args i).getD j .any := by
      simp only [AS.init, Nat.zero_add, List.getD_eq_getElem?_getD, List.getElem?_eq_getElem hj, Option.getD_some]
    rw [e]
    exact ren_closed _ (closed_getD (hcl i) hj)
  refine good_awp hf hn hb fun i => ?_
  refine AWP.weak (hw i) ?_
  refine (vc_ok hΓ c (h i)).mono fun e σ hq => ?_
  subst hr
  exact hq

theorem weak_again {α : Type} {St : α → AS} {μ : α → Nat} {x : α} (y : α) (h : μ y < μ x) (hw : Weak σ (St y)) : Again St μ x σ := ⟨y, h, hw⟩
variable {obs : List Nat} {ads : List Ad} {fm : Nat → Nat} {nh nl : Nat} {h : Nat → Option AO} {lv : Nat → Option (Nat × Nat)} {mu : Bool}
omit [Tabs] in
theorem slotsOk_nil : slotsOk obs ads σ [] = True := rfl
omit [Tabs] in
theorem slotsOk_cons {i : Nat} {a : AV} {r : List (Nat × AV)} : slotsOk obs ads ⟨n, t, hd, ⟨nh, h, nl, fm, lv, mu⟩⟩ ((i, a) :: r) = (ren obs ads fm (t i) a ∧ slotsOk obs ads ⟨n, t, hd, ⟨nh, h, nl, fm, lv, mu⟩⟩ r) := rfl
omit [Tabs] in
theorem obOk_nil : obOk obs ads σ [] [] = True := rfl
omit [Tabs] in
theorem obOk_cons {o : Nat} {x : AO} {r : List Nat} {s : List AO} : obOk obs ads ⟨n, t, hd, ⟨nh, h, nl, fm, lv, mu⟩⟩ (o :: r) (x :: s) = (renOo obs ads fm (h o) x ∧ obOk obs ads ⟨n, t, hd, ⟨nh, h, nl, fm, lv, mu⟩⟩ r s) := by
  simp only [obOk, renOo] <;> rfl
omit [Tabs] in
theorem renOo_cells {cs ds : List AV} : renOo obs ads fm (some (.cells cs)) (.cells ds) = renL obs ads fm cs ds := rfl
omit [Tabs] in
theorem renOo_iter {s s' : ByteArray} {p p' : Nat} : renOo obs ads fm (some (.iter s p)) (.iter s' p') = (s = s' ∧ p = p') := rfl
omit [Tabs] in
theorem adOk_nil : adOk σ [] [] = True := rfl
omit [Tabs] in
theorem adOk_live {l : Nat} {r : List Ad} {p : Nat × Nat} {s : List (Nat × Nat)} : adOk ⟨n, t, hd, ⟨nh, h, nl, fm, lv, mu⟩⟩ (.live l :: r) (p :: s) = (2 ≤ l ∧ lv l = some p ∧ adOk ⟨n, t, hd, ⟨nh, h, nl, fm, lv, mu⟩⟩ r s) := rfl
omit [Tabs] in
theorem lives_nil : Ad.lives [] = [] := rfl
omit [Tabs] in
theorem lives_live {l : Nat} {r : List Ad} : Ad.lives (.live l :: r) = l :: Ad.lives r := rfl
omit [Tabs] in
theorem ren_v {x y : Value} : ren obs ads fm (.v x) (.v y) = (x = y) := by simp [ren]
omit [Tabs] in
theorem ren_agg {cs ds : List AV} : ren obs ads fm (.agg cs) (.agg ds) = renL obs ads fm cs ds := by simp [ren]
omit [Tabs] in
theorem ren_tup {cs ds : List AV} : ren obs ads fm (.tup cs) (.tup ds) = renL obs ads fm cs ds := by simp [ren]
omit [Tabs] in
theorem ren_sl {l sz l' sz' : Nat} {xs ys : List AV} : ren obs ads fm (.sl l sz xs) (.sl l' sz' ys) = ((l = 1 ∨ sz = sz') ∧ xs = ys ∧ tagOk ads fm sz' l l') := by simp [ren]
omit [Tabs] in
theorem ren_ptr {o k o' k' : Nat} : ren obs ads fm (.ptr o k) (.ptr o' k') = (k = k' ∧ obs[o']? = some o) := by simp [ren]
omit [Tabs] in
theorem renL_nil : renL obs ads fm [] [] = True := by simp [renL]
omit [Tabs] in
theorem renL_cons {a b : AV} {r s : List AV} : renL obs ads fm (a :: r) (b :: s) = (ren obs ads fm a b ∧ renL obs ads fm r s) := by simp [renL]
omit [Tabs] in
theorem tagOk_low {sz l : Nat} (hl : l ≤ 1) : tagOk ads fm sz l 0 = True := by simp [tagOk, hl]
omit [Tabs] in
theorem tagOk_zero {sz l : Nat} (hl : 2 ≤ l) : tagOk ads fm sz l 0 = (∀ l2 ∈ Ad.lives ads, fm l2 ≠ fm l) := by simp [tagOk, show ¬ l ≤ 1 by omega]
omit [Tabs] in
theorem tagOk_more {sz l j : Nat} : tagOk ads fm sz l (j + 2) = tagAd ads[j]? sz l := by simp [tagOk, tagAd] <;> rfl
omit [Tabs] in
theorem tagAd_live {sz l l2 : Nat} : tagAd (some (.live l2)) sz l = (l = l2) := rfl
end
end Go.Rw
end
