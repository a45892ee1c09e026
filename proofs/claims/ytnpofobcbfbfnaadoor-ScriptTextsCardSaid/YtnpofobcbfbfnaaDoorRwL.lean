/-
  Maps: the rules for rewriting; maps of numbers as plain lists. Proved over any program. Functions that are handed objects, by pointers and as maps, and may hand new ones back. Proved over any program. A call of a function that is handed objects. Proved over any program.
-/
import Derived.Test.YtnpofobcbfbfnaaDoorRwE
import Derived.Test.YtnpofobcbfbfnaaDoorRwJ
set_option linter.unusedSimpArgs false
set_option linter.unusedVariables false
set_option linter.defProp false
set_option linter.unusedSectionVars false

-- RwMap
section
namespace Go.Rw
open Go Go.RowKit
set_option linter.unusedSimpArgs false
set_option linter.unusedVariables false

section
variable [Tabs] {P : Program} {Γ : Env} {σ : AS} {K : AS → Prop} {d : Option Nat} {ty : TypeId} {pos : String} {after : Array Edge} {g : Option (Nat × Bool)} {t : TypeId}
end
end Go.Rw
end

-- RwObj
section
namespace Go.Rw
open Go Go.RowKit
set_option linter.unusedSimpArgs false
set_option linter.unusedVariables false
set_option linter.unusedSectionVars false

/-- What a function takes and answers that is handed objects: 'post': the objects behind the call, new ones last; live lineages that are handed back; the answer. -/
structure ConO where
  ι : Type
  objs : ι → List AO
  args : ι → List AV
  post : ι → List AO → List (Nat × Nat) → AV → Prop

def rootOf (j : Nat) : AO → AV
  | .map _ _ => .mp j
  | _ => .ptr j 0
def rootV (g : Nat) : AO → Value
  | .map _ _ => .map (some g)
  | _ => .pointer (some ⟨g, 0, none⟩)
def rootAt (xs : List AO) (j : Nat) : AV := match xs[j]? with | some x => rootOf j x | none => .any

def GinO (F : Nat → Nat) (bl : List Nat) : Gh where
  nh := bl.length
  ob := fun j => bl.getD j 0
  nl := 2
  lin := fun g => if g ∈ bl then 1 else 0
  fm := fun l => l
  fr := F
  lv := fun _ => none
  la := fun _ => (none, 0)
  ls := fun _ => 0

/-- The function f meets the contract C. -/
def GoodO [Tabs] (P : Program) (f : FuncId) (C : ConO) : Prop := FnOk P f ∧
  ∀ (w : World) (F : Nat → Nat) (i : C.ι) (vs : Array Value) (bl : List Nat), (∀ g, 0 < F g → g < w.heap.size) → bl.Nodup → bl.length = (C.objs i).length → (∀ g, g ∈ bl → g < w.heap.size ∧ F g = 0) → TabOk w (fun g => g ∈ bl) →
    (∀ (j : Nat) x, (C.objs i)[j]? = some x → OR (GinO F bl) w (bl.getD j 0) x) → vs.size = (C.args i).length → (∀ k, VR (GinO F bl) w (vs.getD k undef) ((C.args i).getD k .any)) →
    Calls P f vs w fun e w' => ∃ v r objs lvs G', e = .returned v ∧ C.post i objs lvs r ∧ Mem w F (fun g => g ∈ bl) G' w' (AS.of 0 [] objs lvs).m ∧ VR G' w' v r ∧ bl.length ≤ objs.length ∧ ∀ j, j < bl.length → G'.ob j = bl.getD j 0

/-- A state given by lists; the slots of the one who waits nearest, too. -/
def AS.ofH (n : Nat) (slots hds : List (Nat × AV)) (objs : List AO) (lvs : List (Nat × Nat)) (mu : Bool := true) : AS where
  n := n
  t := look slots
  hd := fun j => match j with | 0 => look hds | _ + 1 => fun _ => .any
  m := { nh := objs.length, h := fun o => objs[o]?, nl := 2 + lvs.length, fm := fun l => l, lv := fun l => if l < 2 then none else lvs[l - 2]?, mu := mu }

def hdsOk (obs : List Nat) (ads : List Ad) (fm : Nat → Nat) (hd : Nat → AV) : List (Nat × AV) → Prop
  | [] => True
  | (i, a) :: r => ren obs ads fm (hd i) a ∧ hdsOk obs ads fm hd r

theorem hds_look {obs : List Nat} {ads : List Ad} {fm : Nat → Nat} {hd : Nat → AV} : ∀ {hds : List (Nat × AV)}, hdsOk obs ads fm hd hds → ∀ k, look hds k = .any ∨ ren obs ads fm (hd k) (look hds k)
  | [], _, k => .inl rfl
  | (i, a) :: r, h, k => by
    simp only [look]
    split
    · rename_i he; subst he; exact .inr h.1
    · exact hds_look h.2 k

def rootsAt : Nat → List AO → List (Nat × AV)
  | _, [] => []
  | j, x :: r => (j, rootOf j x) :: rootsAt (j + 1) r

section
variable {P : Program} [Tabs] {Γ : Env} {w0 : World} {F0 : Nat → Nat} {Fp : Nat → Prop} {X : Nat → Nat → Value} {G G' G0 : Gh} {w w' : World} {a : Act} {σ : AS} {m : AM} {g : Nat}
variable {obs : List Nat} {ads : List Ad} {lvs : List (Nat × Nat)} {objs : List AO} {d : Option Nat} {K : AS → Prop}

omit [Tabs] in
theorem VR.mp_inv {g o : Nat} (h : VR G w (.map (some g)) (.mp o)) : G.ob o = g := by
  generalize hz : Value.map (some g) = z at h
  cases h
  simpa using hz.symm
omit [Tabs] in
theorem VR.ptr_inv {g o : Nat} (h : VR G w (.pointer (some ⟨g, 0, none⟩)) (.ptr o 0)) : G.ob o = g := by
  generalize hz : Value.pointer (some ⟨g, 0, none⟩) = z at h
  cases h
  simpa using hz.symm
/-- The state told anew. -/
theorem weakH_of {n : Nat} {slots hds : List (Nat × AV)} {mu : Bool} (obs : List Nat) (ads : List Ad) (hn : σ.n = n) (hmu : mu = true → σ.m.mu = true) (hr : RenIn σ obs ads objs lvs) (hs : slotsOk obs ads σ slots) (hh : hdsOk obs ads σ.m.fm (σ.hd 0) hds) :
    Weak σ (AS.ofH n slots hds objs lvs mu) := by
  intro w0 F0 Fp X G w a h
  refine ⟨G.ren obs ads lvs, h.sz.trans hn, h.df, fun i => ?_, fun j i => ?_, h.mm.ren hr n slots mu hmu, h.tb⟩
  · rcases look_ok hs i with h1 | h1
    · show VR _ w _ (look slots i)
      rw [h1]; exact .any _
    · exact ren_ok h.mm hr (h.tm i) _ h1
  · cases j with
    | succ j => exact .any _
    | zero =>
      rcases hds_look hh i with h1 | h1
      · show VR _ w _ (look hds i)
        rw [h1]; exact .any _
      · exact ren_ok h.mm hr (h.hd 0 i) _ h1
theorem weakH_go {n : Nat} {slots hds : List (Nat × AV)} {mu : Bool} (obs : List Nat) (ads : List Ad) (h : σ.n = n ∧ (mu = true → σ.m.mu = true) ∧ (Ad.lives ads).Nodup ∧ obs.Nodup ∧ obOk obs ads σ obs objs ∧ adOk σ ads lvs ∧ slotsOk obs ads σ slots ∧ hdsOk obs ads σ.m.fm (σ.hd 0) hds) :
    Weak σ (AS.ofH n slots hds objs lvs mu) := weakH_of obs ads h.1 h.2.1 ⟨h.2.2.1, h.2.2.2.1, h.2.2.2.2.1, h.2.2.2.2.2.1⟩ h.2.2.2.2.2.2.1 h.2.2.2.2.2.2.2

-- a function's begin
def AS.initO (fn : Func) (as : List AV) (objs : List AO) : AS where
  n := as.length + (fn.ntmps - as.length)
  t := fun k => as.getD k (.v undef)
  hd := fun j i => match j with | 0 => rootAt objs i | _ + 1 => .any
  m := (AS.of 0 [] objs []).m
omit [Tabs] in
theorem Mem.initO {F : Nat → Nat} {bl : List Nat} (hF : ∀ g, 0 < F g → g < w.heap.size) (nd : bl.Nodup) (hl : bl.length = objs.length) (hb : ∀ g, g ∈ bl → g < w.heap.size ∧ F g = 0)
    (ho : ∀ (j : Nat) x, objs[j]? = some x → OR (GinO F bl) w (bl.getD j 0) x) : Mem w F (fun g => g ∈ bl) (GinO F bl) w (AS.of 0 [] objs []).m := by
  have hmem : ∀ j, j < bl.length → bl.getD j 0 ∈ bl := fun j hj => by
    rw [List.getD_eq_getElem?_getD, List.getElem?_eq_getElem hj]; exact List.getElem_mem hj
  refine ⟨hl, rfl, rfl, by funext l; simp [GinO, AS.of], by simp [GinO], rfl, fun l _ => Nat.le_refl _, fun l h _ => h, fun l l' x y h => by simp [GinO] at h, ?_, ?_, ?_, fun l n e h => by simp [GinO] at h, hF, ?_, ?_, ?_, hF, ?_, fun g i h => rfl, fun g => Nat.le_refl _, Nat.le_refl _, rfl, rfl, rfl⟩
  · intro o o' h1 h2 he
    simp only [GinO] at h1 h2 he
    rw [List.getD_eq_getElem?_getD, List.getD_eq_getElem?_getD, List.getElem?_eq_getElem h1, List.getElem?_eq_getElem h2] at he
    simp only [Option.getD_some] at he
    rcases Nat.lt_trichotomy o o' with h5 | h5 | h5
    · exact absurd he (List.pairwise_iff_getElem.1 nd o o' h1 h2 h5)
    · exact h5
    · exact absurd he.symm (List.pairwise_iff_getElem.1 nd o' o h2 h1 h5)
  · intro o h1
    simp only [GinO] at h1
    have h2 := hmem o h1
    obtain ⟨h3, h4⟩ := hb _ h2
    exact ⟨by simp only [GinO]; rw [if_pos h2], h4, h3, .inr h2⟩
  · intro o x hx
    simp only [AS.of] at hx
    refine ⟨?_, ho o x hx⟩
    have := (List.getElem?_eq_some_iff.1 hx).1
    simp only [GinO]; omega
  · intro g hg
    simp only [GinO]
    rw [if_neg]
    intro h1; have := (hb g h1).1; omega
  · intro g
    simp only [GinO]; split <;> omega
  · intro g h1 h2
    exact ⟨by simp only [GinO]; rw [if_neg h2], rfl, rfl⟩
  · intro _ g hg; exact (hb g hg).2

/-- A function meets its contract if its body, reckoned from each of its begins, comes to what it must answer. -/
def retO (P : Program) (rs : List ResultVar) (C : ConO) (i : C.ι) : Exit → AS → Prop
  | .normal, σ | .ret, σ => match resL P σ rs with
    | some bs => ∃ obs ads objs lvs r, RenIn σ obs ads objs lvs ∧ ren obs ads σ.m.fm (oneOf bs) r ∧ hdsOk obs ads σ.m.fm (σ.hd 0) (rootsAt 0 (C.objs i)) ∧ (C.objs i).length ≤ objs.length ∧ C.post i objs lvs r ∧ σ.m.mu = true
    | none => False
  | _, _ => False

theorem rootsAt_get {hd : Nat → AV} {fm : Nat → Nat} : ∀ (xs : List AO) (k : Nat), hdsOk obs ads fm hd (rootsAt k xs) → ∀ (j : Nat) x, xs[j]? = some x → ren obs ads fm (hd (k + j)) (rootOf (k + j) x)
  | [], _, _, j, x, hx => by simp at hx
  | y :: r, k, h, j, x, hx => by
    cases j with
    | zero => simp at hx; subst hx; exact h.1
    | succ j =>
      have := rootsAt_get r (k + 1) h.2 j x (by simpa using hx)
      rw [show k + 1 + j = k + (j + 1) by omega] at this
      exact this

theorem goodO_awp {f : FuncId} {fn : Func} {c : Code} {C : ConO} {rs : List ResultVar} (hf : P.funcs[f]? = some fn) (hn : (fn.name == "runtime.NumGoroutine") = false) (hb : fn.body = some c) (hrs : fn.results.toList = rs)
    (h : ∀ i, AWP P c (retO P rs C i) (AS.initO fn (C.args i) (C.objs i))) : GoodO P f C := by
  refine ⟨⟨fn, hf, hn, by rw [hb]; rfl⟩, fun w F i vs bl hF nd hl hbl htb ho hs hv => ?_⟩
  have hroot : ∀ j, VR (GinO F bl) w (match (C.objs i)[j]? with | some x => rootV (bl.getD j 0) x | none => undef) (rootAt (C.objs i) j) := by
    intro j
    unfold rootAt
    cases hx : (C.objs i)[j]? with
    | none => exact .any _
    | some x =>
      have hj : j < bl.length := by have := (List.getElem?_eq_some_iff.1 hx).1; omega
      cases x with
      | map es c => exact VR.mp (G := GinO F bl) j hj
      | cells cs => exact VR.ptr (G := GinO F bl) j 0 hj
      | iter s p => exact VR.ptr (G := GinO F bl) j 0 hj
      | mit o si se la => exact VR.ptr (G := GinO F bl) j 0 hj
  have hinit : Rel w F (fun g => g ∈ bl) (fun j i' => match j with | 0 => (match (C.objs i)[i']? with | some x => rootV (bl.getD i' 0) x | none => undef) | _ + 1 => undef) (GinO F bl) w { tmps := vs ++ Array.replicate (fn.ntmps - vs.size) undef, defers := [] } (AS.initO fn (C.args i) (C.objs i)) := by
    refine ⟨by simp [AS.initO, hs], rfl, fun k => ?_, fun j k => ?_, Mem.initO hF nd hl hbl ho, htb⟩
    · simp only [AS.initO]
      by_cases hi : k < (C.args i).length
      · have h1 := hv k
        have e1 : (vs ++ Array.replicate (fn.ntmps - vs.size) undef).getD k undef = vs.getD k undef := by
          simp only [Array.getD_eq_getD_getElem?]
          rw [Array.getElem?_append_left (by omega)]
        have e2 : (C.args i).getD k (.v undef) = (C.args i).getD k .any := by
          simp only [List.getD_eq_getElem?_getD, List.getElem?_eq_getElem hi, Option.getD_some]
        rw [e1, e2]; exact h1
      · have e1 : (vs ++ Array.replicate (fn.ntmps - vs.size) undef).getD k undef = undef := by
          simp only [Array.getD_eq_getD_getElem?]
          rw [Array.getElem?_append_right (by omega), Array.getElem?_replicate]
          split <;> rfl
        have e2 : (C.args i).getD k (.v undef) = .v undef := by
          rw [List.getD_eq_getElem?_getD, List.getElem?_eq_none (by omega)]; rfl
        rw [e1, e2]; exact .v _
    · cases j with
      | succ j => exact .any _
      | zero => exact hroot k
  have h1 := h i w F (fun g => g ∈ bl) _ (GinO F bl) w _ hinit
  refine calls_of_wp hf hb (wp_mono h1 ?_)
  rintro e a w' ⟨G, σ, hr, hq⟩
  have fin : (match resL P σ rs with
      | some bs => ∃ obs ads objs lvs r, RenIn σ obs ads objs lvs ∧ ren obs ads σ.m.fm (oneOf bs) r ∧ hdsOk obs ads σ.m.fm (σ.hd 0) (rootsAt 0 (C.objs i)) ∧ (C.objs i).length ≤ objs.length ∧ C.post i objs lvs r ∧ σ.m.mu = true
      | none => False) →
      a.defers = [] ∧ ∃ v, (results fn a.tmps).run P w' = .ok v w' ∧ ∃ v' r objs lvs G', Ending.returned v = .returned v' ∧ C.post i objs lvs r ∧ Mem w F (fun g => g ∈ bl) G' w' (AS.of 0 [] objs lvs).m ∧ VR G' w' v' r ∧ bl.length ≤ objs.length ∧ ∀ j, j < bl.length → G'.ob j = bl.getD j 0 := by
    intro hz
    refine ⟨hr.df, ?_⟩
    split at hz
    · rename_i bs hbs
      rw [← hrs] at hbs
      obtain ⟨x, h2, h3⟩ := results_ok hr hbs
      refine ⟨x, h2, ?_⟩
      obtain ⟨obs, ads, objs, lvs, r, q1, q2, q3, q4, q5, q6⟩ := hz
      refine ⟨x, r, objs, lvs, G.ren obs ads lvs, rfl, q5, hr.mm.ren q1 0 [] true (fun _ => q6), ren_ok hr.mm q1 h3 _ q2, by omega, fun j hj => ?_⟩
      have hj2 : j < (C.objs i).length := by omega
      have hx : (C.objs i)[j]? = some (C.objs i)[j] := List.getElem?_eq_getElem hj2
      have q7 := rootsAt_get (C.objs i) 0 q3 j _ hx
      rw [Nat.zero_add] at q7
      have q8 := ren_ok hr.mm q1 (hr.hd 0 j) _ q7
      simp only [hx] at q8
      generalize (C.objs i)[j] = y at q8
      cases y with
      | map es c => exact VR.mp_inv q8
      | cells cs => exact VR.ptr_inv q8
      | iter s p => exact VR.ptr_inv q8
      | mit o si se la => exact VR.ptr_inv q8
    · exact hz.elim
  cases e with
  | normal => exact fin hq
  | ret => exact fin hq
  | _ => exact hq.elim

theorem look_zips {as : List AV} {t : Nat → AV} : ∀ (l : List AV) (k : Nat), (∀ j, j < l.length → t (k + j) = l.getD j .any) → ∀ i, look (zips k l) i = t i ∨ look (zips k l) i = .any :=
  fun l k h => look_eq (zips_eq t l k h)
theorem goodO_fna {f : FuncId} {fn : Func} {c : Code} {C : ConO} {rs : List ResultVar} {nn : Nat} (hf : P.funcs[f]? = some fn) (hn : (fn.name == "runtime.NumGoroutine") = false) (hb : fn.body = some c) (hrs : fn.results.toList = rs)
    (hnn : ∀ i, (C.args i).length + (fn.ntmps - (C.args i).length) = nn)
    (h : ∀ i, AWP P c (retO P rs C i) (AS.ofH nn (zips 0 (C.args i)) (rootsAt 0 (C.objs i)) (C.objs i) [])) : GoodO P f C := by
  refine goodO_awp hf hn hb hrs fun i => AWP.weak (σ' := AS.ofH nn (zips 0 (C.args i)) (rootsAt 0 (C.objs i)) (C.objs i) []) ?_ (h i)
  intro w0 F0 Fp X G w a hr
  refine ⟨G, hr.sz.trans (hnn i), hr.df, fun k => ?_, fun j k => ?_, hr.mm, hr.tb⟩
  · rcases look_zips (as := C.args i) (t := fun k => (C.args i).getD k (.v undef)) (C.args i) 0 (fun j hj => by simp only [Nat.zero_add, List.getD_eq_getElem?_getD, List.getElem?_eq_getElem hj, Option.getD_some]) k with h1 | h1
    · show VR G w _ (look _ k)
      rw [h1]; exact hr.tm k
    · show VR G w _ (look _ k)
      rw [h1]; exact .any _
  · cases j with
    | succ j => exact .any _
    | zero =>
      have key : ∀ (xs ys : List AO) (n : Nat), (∀ j, xs[n + j]? = ys[j]?) → look (rootsAt n ys) k = rootAt xs k ∨ look (rootsAt n ys) k = .any := by
        intro xs ys
        induction ys with
        | nil => intro n _; exact .inr rfl
        | cons y r ih =>
          intro n hy
          simp only [rootsAt, look]
          split
          · rename_i he
            subst he
            left
            have := hy 0
            simp only [Nat.add_zero, List.getElem?_cons_zero] at this
            simp only [rootAt, this]
          · exact ih (n + 1) fun j => by have := hy (j + 1); rw [show n + 1 + j = n + (j + 1) by omega, this, List.getElem?_cons_succ]
      rcases key (C.objs i) (C.objs i) 0 (fun j => by rw [Nat.zero_add]) with h1 | h1
      · show VR G w _ (look _ k)
        rw [h1]; exact hr.hd 0 k
      · show VR G w _ (look _ k)
        rw [h1]; exact .any _
end
end Go.Rw
end

-- RwObj2
section
namespace Go.Rw
open Go Go.RowKit
set_option linter.unusedSimpArgs false
set_option linter.unusedVariables false
set_option linter.unusedSectionVars false

mutual
/-- What a caller has, as the callee is told it; 'obs': the objects that are handed over. -/
def dn (obs : List Nat) : AV → AV → Prop
  | _, .any => True
  | .v x, .v y => x = y
  | .agg cs, .agg ds => dnL obs cs ds
  | .tup cs, .tup ds => dnL obs cs ds
  | .sl l sz xs, .sl l' sz' ys => (l = 1 ∨ sz = sz') ∧ xs = ys ∧ (l' = 0 ∨ (l' = 1 ∧ l = 1))
  | .ptr o k, .ptr o' k' => k = k' ∧ obs[o']? = some o
  | .mp o, .mp o' => obs[o']? = some o
  | .fn f cs, .fn g ds => f = g ∧ dnL obs cs ds
  | _, _ => False
def dnL (obs : List Nat) : List AV → List AV → Prop
  | [], [] => True
  | a :: r, b :: s => dn obs a b ∧ dnL obs r s
  | _, _ => False
end
def dnO (obs : List Nat) : AO → AO → Prop
  | .cells cs, .cells ds => dnL obs cs ds
  | .map es c, .map es' c' => es = es' ∧ c = c'
  | _, _ => False
def dnOo (obs : List Nat) (o : Option AO) (x : AO) : Prop := match o with
  | some y => dnO obs y x
  | none => False
def dnOs (obs : List Nat) (h : Nat → Option AO) : List Nat → List AO → Prop
  | [], [] => True
  | o :: r, x :: s => dnOo obs (h o) x ∧ dnOs obs h r s
  | _, _ => False
def AO.tags : AO → List Nat
  | .cells cs => AV.tagsL cs
  | _ => []
def tagsOs (h : Nat → Option AO) : List Nat → List Nat
  | [] => []
  | o :: r => (match h o with | some x => x.tags | none => []) ++ tagsOs h r

mutual
/-- What a callee has, as its caller is told it. -/
def AV.emb (fo fl : Nat → Nat) : AV → AV
  | .sl l sz xs => .sl (fl l) sz xs
  | .ep .. => .any
  | .ptr o k => .ptr (fo o) k
  | .mp o => .mp (fo o)
  | .agg cs => .agg (AV.embL fo fl cs)
  | .tup cs => .tup (AV.embL fo fl cs)
  | .fn f cs => .fn f (AV.embL fo fl cs)
  | .v x => .v x
  | .any => .any
def AV.embL (fo fl : Nat → Nat) : List AV → List AV
  | [] => []
  | a :: r => a.emb fo fl :: AV.embL fo fl r
end
def AO.emb (fo fl : Nat → Nat) : AO → AO
  | .cells cs => .cells (AV.embL fo fl cs)
  | .iter s p => .iter s p
  | .map es c => .map es c
  | .mit o i e l => .mit (fo o) i e l

/-- The caller's number of a callee's object. -/
def obC (obs : List Nat) (nh o : Nat) : Nat := match obs[o]? with | some x => x | none => nh + (o - obs.length)
def lnC (nl l : Nat) : Nat := if l < 2 then l else nl + (l - 2)
def callH : Nat → List Nat → List AO → (Nat → Option AO) → Nat → Option AO
  | _, _, [], h => h
  | nh, o :: r, x :: s, h => callH nh r s (upd h o (some x))
  | nh, [], x :: s, h => callH (nh + 1) [] s (upd h nh (some x))
def callF : Nat → List (Nat × Nat) → (Nat → Nat) → Nat → Nat
  | _, [], fm => fm
  | nl, _ :: r, fm => callF (nl + 1) r (upd fm nl nl)
def callV : Nat → List (Nat × Nat) → (Nat → Option (Nat × Nat)) → Nat → Option (Nat × Nat)
  | _, [], lv => lv
  | nl, p :: r, lv => callV (nl + 1) r (upd lv nl (some p))
def embsO (fo fl : Nat → Nat) : List AO → List AO
  | [] => []
  | x :: r => x.emb fo fl :: embsO fo fl r
def AM.call (m : AM) (obs : List Nat) (objs : List AO) (lvs : List (Nat × Nat)) : AM where
  nh := m.nh + (objs.length - obs.length)
  h := callH m.nh obs (embsO (obC obs m.nh) (lnC m.nl) objs) m.h
  nl := m.nl + lvs.length
  fm := callF m.nl lvs m.fm
  lv := callV m.nl lvs m.lv
  mu := m.mu

theorem callF_eq : ∀ (lvs : List (Nat × Nat)) (nl : Nat) (fm : Nat → Nat) (l : Nat), callF nl lvs fm l = if nl ≤ l ∧ l < nl + lvs.length then l else fm l
  | [], nl, fm, l => by rw [callF, if_neg (by simp)]
  | p :: r, nl, fm, l => by
    rw [callF, callF_eq r]
    simp only [List.length_cons, upd]
    by_cases h1 : l = nl
    · subst h1; rw [if_neg (by omega), if_pos rfl, if_pos (by omega)]
    · rw [if_neg h1]
      by_cases h2 : nl + 1 ≤ l ∧ l < nl + 1 + r.length
      · rw [if_pos h2, if_pos (by omega)]
      · rw [if_neg h2, if_neg (by omega)]
theorem callV_eq : ∀ (lvs : List (Nat × Nat)) (nl : Nat) (lv : Nat → Option (Nat × Nat)) (l : Nat), callV nl lvs lv l = if nl ≤ l ∧ l < nl + lvs.length then lvs[l - nl]? else lv l
  | [], nl, lv, l => by rw [callV, if_neg (by simp)]
  | p :: r, nl, lv, l => by
    rw [callV, callV_eq r]
    simp only [List.length_cons, upd]
    by_cases h1 : l = nl
    · subst h1; rw [if_neg (by omega), if_pos rfl, if_pos (by omega)]; simp
    · rw [if_neg h1]
      by_cases h2 : nl + 1 ≤ l ∧ l < nl + 1 + r.length
      · rw [if_pos h2, if_pos (by omega), show l - nl = (l - (nl + 1)) + 1 by omega, List.getElem?_cons_succ]
      · rw [if_neg h2, if_neg (by omega)]
theorem callH_some : ∀ (xs : List AO) (obs : List Nat) (nh : Nat) (h : Nat → Option AO) (o : Nat) (x : AO), callH nh obs xs h o = some x →
    (∃ j, xs[j]? = some x ∧ obC obs nh j = o) ∨ (h o = some x ∧ (obs.length ≤ xs.length → o ∉ obs))
  | [], obs, nh, h, o, x, hx => by
    refine .inr ⟨hx, fun hl ho => ?_⟩
    have : obs = [] := List.eq_nil_of_length_eq_zero (by simpa using hl)
    subst this; cases ho
  | y :: s, p :: r, nh, h, o, x, hx => by
    rw [callH] at hx
    rcases callH_some s r nh _ o x hx with ⟨j, h1, h2⟩ | ⟨h1, h2⟩
    · refine .inl ⟨j + 1, by simpa using h1, ?_⟩
      rw [← h2]
      simp only [obC, List.getElem?_cons_succ, List.length_cons]
      split <;> first | rfl | omega
    · rw [upd] at h1
      split at h1
      · rename_i he
        subst he
        exact .inl ⟨0, by simpa using h1, by simp [obC]⟩
      · rename_i he
        refine .inr ⟨h1, fun hl ho => ?_⟩
        rcases List.mem_cons.1 ho with h3 | h3
        · exact he h3
        · exact h2 (by simpa using hl) h3
  | y :: s, [], nh, h, o, x, hx => by
    rw [callH] at hx
    rcases callH_some s [] (nh + 1) _ o x hx with ⟨j, h1, h2⟩ | ⟨h1, h2⟩
    · refine .inl ⟨j + 1, by simpa using h1, ?_⟩
      rw [← h2]
      simp only [obC, List.getElem?_nil, List.length_nil]; omega
    · rw [upd] at h1
      split at h1
      · rename_i he
        subst he
        exact .inl ⟨0, by simpa using h1, by simp [obC]⟩
      · exact .inr ⟨h1, fun _ => by simp⟩

theorem dnL_len {obs : List Nat} : ∀ {cs ds : List AV}, dnL obs cs ds → cs.length = ds.length ∧ ∀ k, k < cs.length → dn obs (cs.getD k .any) (ds.getD k .any)
  | [], [], _ => ⟨rfl, fun k hk => by simp at hk⟩
  | [], _ :: _, h => by simp [dnL] at h
  | _ :: _, [], h => by simp [dnL] at h
  | a :: r, b :: s, h => by
    simp only [dnL] at h
    obtain ⟨h1, h2⟩ := dnL_len h.2
    refine ⟨by simp [h1], fun k hk => ?_⟩
    cases k with
    | zero => simpa using h.1
    | succ k => simpa using h2 k (by simpa using hk)
mutual
theorem dn_closed {obs : List Nat} : ∀ a : AV, a.er = a → dn obs a a
  | .any, _ => by simp [dn]
  | .v x, _ => by simp [dn]
  | .agg cs, h => by simp only [AV.er, AV.agg.injEq] at h; simp only [dn]; exact dnL_closed cs h
  | .tup cs, h => by simp only [AV.er, AV.tup.injEq] at h; simp only [dn]; exact dnL_closed cs h
  | .sl l sz xs, h => by simp only [AV.er, AV.sl.injEq] at h; simp only [dn]; rw [← h.1]; simp
  | .ep .., h => by simp [AV.er] at h
  | .ptr .., h => by simp [AV.er] at h
  | .mp .., h => by simp [AV.er] at h
  | .fn f cs, h => by simp only [AV.er, AV.fn.injEq, true_and] at h; simp only [dn]; exact ⟨trivial, dnL_closed cs h⟩
theorem dnL_closed {obs : List Nat} : ∀ cs : List AV, AV.erL cs = cs → dnL obs cs cs
  | [], _ => by simp [dnL]
  | a :: r, h => by simp only [AV.erL, List.cons.injEq] at h; simp only [dnL]; exact ⟨dn_closed a h.1, dnL_closed r h.2⟩
end
theorem embL_getD {fo fl : Nat → Nat} : ∀ (cs : List AV) (k : Nat), (AV.embL fo fl cs).getD k .any = (cs.getD k .any).emb fo fl
  | [], k => by simp [AV.embL, AV.emb]
  | a :: r, 0 => by simp [AV.embL]
  | a :: r, k + 1 => by simpa [AV.embL] using embL_getD r k
theorem embL_len {fo fl : Nat → Nat} : ∀ (cs : List AV), (AV.embL fo fl cs).length = cs.length
  | [] => rfl
  | a :: r => by simp [AV.embL, embL_len r]
mutual
theorem emb_closed {fo fl : Nat → Nat} (h0 : fl 0 = 0) : ∀ a : AV, a.er = a → a.emb fo fl = a
  | .any, _ => rfl
  | .v x, _ => rfl
  | .agg cs, h => by simp only [AV.er, AV.agg.injEq] at h; simp only [AV.emb, embL_closed h0 cs h]
  | .tup cs, h => by simp only [AV.er, AV.tup.injEq] at h; simp only [AV.emb, embL_closed h0 cs h]
  | .sl l sz xs, h => by simp only [AV.er, AV.sl.injEq] at h; simp only [AV.emb]; rw [← h.1, h0]
  | .ep .., h => by simp [AV.er] at h
  | .ptr .., h => by simp [AV.er] at h
  | .mp .., h => by simp [AV.er] at h
  | .fn f cs, h => by simp only [AV.er, AV.fn.injEq, true_and] at h; simp only [AV.emb, embL_closed h0 cs h]
theorem embL_closed {fo fl : Nat → Nat} (h0 : fl 0 = 0) : ∀ cs : List AV, AV.erL cs = cs → AV.embL fo fl cs = cs
  | [], _ => rfl
  | a :: r, h => by simp only [AV.erL, List.cons.injEq] at h; simp only [AV.embL, emb_closed h0 a h.1, embL_closed h0 r h.2]
end
theorem embsO_get {fo fl : Nat → Nat} : ∀ (xs : List AO) (j : Nat), (embsO fo fl xs)[j]? = xs[j]?.map (AO.emb fo fl)
  | [], j => by simp [embsO]
  | x :: r, 0 => by simp [embsO]
  | x :: r, j + 1 => by simpa [embsO] using embsO_get r j
theorem embsO_len {fo fl : Nat → Nat} : ∀ (xs : List AO), (embsO fo fl xs).length = xs.length
  | [] => rfl
  | x :: r => by simp [embsO, embsO_len r]

/-- The ghosts behind a call. -/
def Gh.call (G G' : Gh) (sz k : Nat) (lvs : List (Nat × Nat)) : Gh where
  nh := G.nh + (G'.nh - k)
  ob := fun o => if o < G.nh then G.ob o else G'.ob (o - G.nh + k)
  nl := G.nl + lvs.length
  lin := fun g => if g < sz then G.lin g else lnC G.nl (G'.lin g)
  fm := callF G.nl lvs G.fm
  fr := fun g => if g < sz then G.fr g else G'.fr g
  lv := callV G.nl lvs G.lv
  la := fun l => if l < G.nl then G.la l else G'.la (l - G.nl + 2)
  ls := fun l => if l < G.nl then G.ls l else G'.ls (l - G.nl + 2)

section
variable {P : Program} [Tabs] {Γ : Env} {w0 : World} {F0 : Nat → Nat} {Fp : Nat → Prop} {X : Nat → Nat → Value} {G G' : Gh} {w w' : World} {a : Act} {σ : AS} {m : AM} {g : Nat}
variable {obs : List Nat} {lvs : List (Nat × Nat)} {objs : List AO} {d : Option Nat} {K : AS → Prop} {ts : List Nat} {F : Nat → Nat}

/-- What the callee sees: blocks of no lineage, of those of ts. -/
structure DnIn (G : Gh) (w : World) (ts : List Nat) (F : Nat → Nat) (bl : List Nat) : Prop where
  fm0 : G.fm 0 = 0
  nl : 2 ≤ G.nl
  fr : ∀ g, g ∈ bl → G.fr g = 0
  see : ∀ g l, l < G.nl → (l = 0 ∨ (2 ≤ l ∧ l ∈ ts)) → (G.lin g = G.fm l ∨ G.lin g = 0) → G.fr g ≤ F g

omit [Tabs] in
theorem dn_ok {bl : List Nat} (hD : DnIn G w ts F bl) (hob : ∀ (j : Nat) o, obs[j]? = some o → j < bl.length ∧ bl.getD j 0 = G.ob o) {x : Value} {b : AV} (hv : VR G w x b) :
    (∀ t ∈ b.tags, 2 ≤ t → t ∈ ts) → ∀ c, dn obs b c → VR (GinO F bl) w x c := by
  induction hv with
  | any x => intro _ c hc; cases c <;> simp only [dn] at hc; exact .any _
  | v x => intro _ c hc; cases c <;> simp only [dn] at hc; exact .any _; subst hc; exact .v _
  | agg arr cs hs _ ih =>
    intro ht c hc
    cases c <;> simp only [dn] at hc
    · exact .any _
    · obtain ⟨h1, h2⟩ := dnL_len hc
      exact .agg arr _ (hs.trans h1) fun k hk => ih k (by omega) (fun t h3 => ht t (mem_tagsL (by omega) h3)) _ (h2 k (by omega))
  | tup arr cs hs _ ih =>
    intro ht c hc
    cases c <;> simp only [dn] at hc
    · exact .any _
    · obtain ⟨h1, h2⟩ := dnL_len hc
      exact .tup arr _ (hs.trans h1) fun k hk => ih k (by omega) (fun t h3 => ht t (mem_tagsL (by omega) h3)) _ (h2 k (by omega))
  | nil sz =>
    intro ht c hc
    cases c <;> simp only [dn] at hc
    · exact .any _
    · rename_i l' sz' ys
      obtain ⟨_, rfl, h3⟩ := hc
      rcases h3 with rfl | ⟨rfl, _⟩
      · exact .sl none 0 0 sz' [] 0 0 (fun _ => default) (by simp [GinO]) (by omega) (by simp) (fun n e hn => by simp [GinO] at hn) (fun h => absurd rfl h) (by simp) (fun h => absurd rfl h) (by simp) (by simp)
      · exact .nil _
  | sl A cap l sz xs g off us hl h1 hc hlive hA hsz h0 hcell hh ih =>
    intro ht c hcc
    cases c <;> simp only [dn] at hcc
    · exact .any _
    · rename_i l' sz' ys
      obtain ⟨hs, rfl, h3⟩ := hcc
      have hs : sz = sz' := by rcases hs with h2 | h2; exact absurd h2 h1; exact h2
      subst hs
      have h3 : l' = 0 := by rcases h3 with h3 | ⟨_, h4⟩; exact h3; exact absurd h4 h1
      subst h3
      refine .sl A cap 0 sz xs g off us (by simp [GinO]) (by omega) hc (fun n e hn => by simp [GinO] at hn) ?_ hsz h0 hcell ?_
      · intro hx
        obtain ⟨h2, h3, h4⟩ := hA hx
        have hpos : 0 < G.fr g := by
          have := Nat.mul_pos (List.length_pos_iff.2 hx) (h0 hx)
          omega
        refine ⟨h2, .inr ?_, ?_⟩
        · simp only [GinO]; rw [if_neg]; intro h5; have := hD.fr g h5; omega
        · have := hD.see g l hl (by rcases Nat.lt_or_ge l 2 with h7 | h7; exact .inl (by omega); exact .inr ⟨h7, ht l (by simp [AV.tags, h7]) h7⟩) h3
          show _ ≤ F g
          omega
      · intro k hk
        have hcl := flat_closed hsz k
        exact ih k hk (fun t h3 h4 => by have := closed_tags _ hcl t h3; omega) _ (dn_closed _ hcl)
  | ep l sz xs i j g off us hl hlive hA hi hj hsz h0 hcell hh ih =>
    intro _ c hc
    cases c <;> simp only [dn] at hc
    exact .any _
  | ptr o k ho =>
    intro _ c hc
    cases c <;> simp only [dn] at hc
    · exact .any _
    · obtain ⟨rfl, h2⟩ := hc
      obtain ⟨h3, h4⟩ := hob _ _ h2
      rw [← h4]; exact VR.ptr (G := GinO F bl) _ _ h3
  | mp o ho =>
    intro _ c hc
    cases c <;> simp only [dn] at hc
    · exact .any _
    · obtain ⟨h3, h4⟩ := hob _ _ hc
      rw [← h4]; exact VR.mp (G := GinO F bl) _ h3
  | fn f arr cs hs _ ih =>
    intro ht c hc
    cases c <;> simp only [dn] at hc
    · exact .any _
    · obtain ⟨rfl, hc⟩ := hc
      obtain ⟨h1, h2⟩ := dnL_len hc
      exact .fn f arr _ (hs.trans h1) fun k hk => ih k (by omega) (fun t h3 => ht t (mem_tagsL (by omega) h3)) _ (h2 k (by omega))

omit [Tabs] in
theorem dnOs_get {h : Nat → Option AO} : ∀ {os : List Nat} {xs : List AO}, dnOs obs h os xs → os.length = xs.length ∧ ∀ (j : Nat) x, xs[j]? = some x → ∃ o y, os[j]? = some o ∧ h o = some y ∧ dnO obs y x
  | [], [], _ => ⟨rfl, fun j x h => by simp at h⟩
  | [], _ :: _, h => by simp [dnOs] at h
  | _ :: _, [], h => by simp [dnOs] at h
  | o :: r, y :: s, h => by
    simp only [dnOs] at h
    obtain ⟨h0, h⟩ := h
    obtain ⟨h1, h2⟩ := dnOs_get h
    refine ⟨by simp [h1], fun j x' hj => ?_⟩
    cases j with
    | zero =>
      simp at hj; subst hj
      unfold dnOo at h0
      split at h0
      · rename_i z hz; exact ⟨o, z, rfl, hz, h0⟩
      · exact h0.elim
    | succ j => simpa using h2 j x' (by simpa using hj)
omit [Tabs] in
theorem mem_tagsOs {h : Nat → Option AO} {t : Nat} : ∀ {os : List Nat} {o : Nat} {x : AO}, o ∈ os → h o = some x → t ∈ x.tags → t ∈ tagsOs h os
  | p :: r, o, x, ho, hx, ht => by
    rw [tagsOs, List.mem_append]
    rcases List.mem_cons.1 ho with rfl | h1
    · left; rw [hx]; exact ht
    · exact .inr (mem_tagsOs h1 hx ht)

/-- What a callee has left behind. -/
structure CallIn (w0 : World) (F0 : Nat → Nat) (Fp : Nat → Prop) (G : Gh) (w : World) (m : AM) (F : Nat → Nat) (bl : List Nat) (obs : List Nat) (G' : Gh) (w' : World) (objs : List AO) (lvs : List (Nat × Nat)) : Prop where
  h : Mem w0 F0 Fp G w m
  h' : Mem w F (fun g => g ∈ bl) G' w' (AS.of 0 [] objs lvs).m
  F1 : ∀ g, F g = if G.lin g = 0 then G.fr g else 0
  nd : obs.Nodup
  lt : ∀ o ∈ obs, o < G.nh
  bl : bl = obs.map G.ob
  le : obs.length ≤ objs.length
  ob : ∀ j, j < obs.length → G'.ob j = G.ob (obs.getD j 0)

omit [Tabs] in
theorem CallIn.bl_lin {bl : List Nat} (c : CallIn w0 F0 Fp G w m F bl obs G' w' objs lvs) {g : Nat} (hg : g ∈ bl) : ∃ o, o ∈ obs ∧ g = G.ob o ∧ G.lin g = 1 ∧ G.fr g = 0 ∧ g < w.heap.size ∧ (w0.heap.size ≤ g ∨ Fp g) := by
  rw [c.bl] at hg
  obtain ⟨o, h1, rfl⟩ := List.mem_map.1 hg
  obtain ⟨h2, h3, h4, h5⟩ := c.h.obl o (c.lt o h1)
  exact ⟨o, h1, rfl, h2, h3, h4, h5⟩
omit [Tabs] in
theorem CallIn.old {bl : List Nat} (c : CallIn w0 F0 Fp G w m F bl obs G' w' objs lvs) {g : Nat} (h1 : g < w.heap.size) (h2 : g ∉ bl) : G'.lin g = 0 ∧ w'.heap[g]? = w.heap[g]? ∧ G'.fr g = F g := c.h'.old g h1 h2
omit [Tabs] in
theorem CallIn.fro {bl : List Nat} (c : CallIn w0 F0 Fp G w m F bl obs G' w' objs lvs) {g : Nat} (hg : g ∈ bl) : G'.fr g = 0 ∧ G'.lin g = 1 := by
  obtain ⟨o, h1, h2, _⟩ := c.bl_lin hg
  obtain ⟨j, hj, h3⟩ := List.getElem_of_mem h1
  have e : G'.ob j = g := by
    rw [c.ob j hj, h2, List.getD_eq_getElem?_getD, List.getElem?_eq_getElem hj, ← h3]; rfl
  obtain ⟨h4, h5, _⟩ := c.h'.obl j (by rw [c.h'.nh]; show j < objs.length; have := c.le; omega)
  rw [e] at h4 h5
  exact ⟨h5, h4⟩
omit [Tabs] in
/-- A new object of the callee's lies in a new block. -/
theorem CallIn.new {bl : List Nat} (c : CallIn w0 F0 Fp G w m F bl obs G' w' objs lvs) {j : Nat} (h1 : obs.length ≤ j) (h2 : j < G'.nh) : w.heap.size ≤ G'.ob j := by
  obtain ⟨_, _, _, h4⟩ := c.h'.obl j h2
  rcases h4 with h4 | h4
  · exact h4
  · exfalso
    obtain ⟨o, h5, h6, _⟩ := c.bl_lin h4
    obtain ⟨j', hj, h3⟩ := List.getElem_of_mem h5
    have e : G'.ob j' = G'.ob j := by
      rw [c.ob j' hj, h6, List.getD_eq_getElem?_getD, List.getElem?_eq_getElem hj, ← h3]; rfl
    have := c.h'.inj j' j (by rw [c.h'.nh]; show j' < objs.length; have := c.le; omega) h2 e
    omega
omit [Tabs] in
theorem CallIn.gle {bl : List Nat} (c : CallIn w0 F0 Fp G w m F bl obs G' w' objs lvs) : GLe G w (G.call G' w.heap.size obs.length lvs) w' where
  nh := by simp only [Gh.call]; omega
  ob := fun o ho => by simp only [Gh.call]; rw [if_pos ho]
  nl := by simp only [Gh.call]; omega
  fm := fun l hl => by simp only [Gh.call]; rw [callF_eq, if_neg (by omega)]
  lin := fun g hg => .inl (by simp only [Gh.call]; rw [if_pos (c.h.frl g hg)])
  fr := fun g => by
    simp only [Gh.call]
    split
    · exact Nat.le_refl _
    · rename_i h1
      rcases Nat.eq_zero_or_pos (G.fr g) with h2 | h2
      · omega
      · exact absurd (c.h.frl g h2) h1
  lv := fun l hl n' e' h1 => by
    simp only [Gh.call] at h1 ⊢
    rw [callV_eq, if_neg (by omega)] at h1
    exact ⟨n', e', h1, Nat.le_refl _, fun _ => ⟨by rw [if_pos hl], by rw [if_pos hl]⟩⟩
  cell := fun g i hi => by
    have h1 := c.h.frl g (by omega)
    have h2 : g ∉ bl := fun hb => by obtain ⟨_, _, _, _, h3, _⟩ := c.bl_lin hb; omega
    exact World.cell?_of_block (a := ⟨g, i, none⟩) (c.old h1 h2).2.1

omit [Tabs] in
theorem CallIn.obC {bl : List Nat} (c : CallIn w0 F0 Fp G w m F bl obs G' w' objs lvs) {o : Nat} (ho : o < G'.nh) : obC obs G.nh o < (G.call G' w.heap.size obs.length lvs).nh ∧ (G.call G' w.heap.size obs.length lvs).ob (Go.Rw.obC obs G.nh o) = G'.ob o := by
  unfold Go.Rw.obC
  cases hx : obs[o]? with
  | some p =>
    have hj := (List.getElem?_eq_some_iff.1 hx).1
    have hp : p < G.nh := c.lt p (List.mem_of_getElem? hx)
    have := c.ob o hj
    rw [List.getD_eq_getElem?_getD, hx] at this
    simp only [Gh.call]
    rw [if_pos hp]
    exact ⟨by omega, this.symm⟩
  | none =>
    have hj := List.getElem?_eq_none_iff.1 hx
    simp only [Gh.call]
    rw [if_neg (by omega)]
    exact ⟨by omega, by congr 1; omega⟩
omit [Tabs] in
theorem CallIn.up {bl : List Nat} (c : CallIn w0 F0 Fp G w m F bl obs G' w' objs lvs) {x : Value} {b : AV} (hv : VR G' w' x b) : VR (G.call G' w.heap.size obs.length lvs) w' x (b.emb (Go.Rw.obC obs G.nh) (lnC G.nl)) := by
  have h0 : lnC G.nl 0 = 0 := rfl
  have htwo := c.h.two
  have fm' : ∀ l, G'.fm l = l := fun l => by rw [c.h'.fm]; rfl
  have nl' : G'.nl = 2 + lvs.length := c.h'.nl
  have hlv : ∀ l, 2 ≤ l → l < G'.nl → (G.call G' w.heap.size obs.length lvs).lv (lnC G.nl l) = G'.lv l ∧ (G.call G' w.heap.size obs.length lvs).la (lnC G.nl l) = G'.la l ∧ (G.call G' w.heap.size obs.length lvs).ls (lnC G.nl l) = G'.ls l := fun l hl hl2 => by
    unfold lnC
    rw [if_neg (by omega)]
    simp only [Gh.call]
    rw [callV_eq, if_pos (by omega), if_neg (by omega), if_neg (by omega), show G.nl + (l - 2) - G.nl + 2 = l by omega]
    refine ⟨?_, rfl, rfl⟩
    rw [c.h'.lv]
    simp only [AS.of]
    rw [if_neg (by omega)]
    congr 1; omega
  have hlv0 : (G.call G' w.heap.size obs.length lvs).lv 0 = none := by
    simp only [Gh.call]; rw [callV_eq, if_neg (by omega)]; exact c.h.lv_two (by omega)
  have hnl : ∀ l, l < G'.nl → lnC G.nl l < (G.call G' w.heap.size obs.length lvs).nl := fun l hl => by
    unfold lnC; simp only [Gh.call]; split <;> omega
  -- where a block lies of which something is told
  have hblk : ∀ g l, l ≠ 1 → l < G'.nl → 0 < G'.fr g → (G'.lin g = l ∨ G'.lin g = 0) → ((G.call G' w.heap.size obs.length lvs).lin g = (G.call G' w.heap.size obs.length lvs).fm (lnC G.nl l) ∨ (G.call G' w.heap.size obs.length lvs).lin g = 0) ∧ G'.fr g ≤ (G.call G' w.heap.size obs.length lvs).fr g := by
    intro g l hl1 hl hpos hlin
    simp only [Gh.call]
    by_cases hg : g < w.heap.size
    · have hb : g ∉ bl := fun hb => by have := (c.fro hb).1; omega
      obtain ⟨h1, h2, h3⟩ := c.old hg hb
      rw [if_pos hg, if_pos hg]
      have h4 := c.F1 g
      split at h4
      · rename_i h5
        exact ⟨.inr h5, by omega⟩
      · omega
    · rw [if_neg hg, if_neg hg]
      refine ⟨?_, Nat.le_refl _⟩
      rcases hlin with h1 | h1
      · rw [h1]
        rcases Nat.lt_or_ge l 2 with h2 | h2
        · have : l = 0 := by omega
          subst this
          exact .inr rfl
        · left
          unfold lnC
          rw [if_neg (by omega), callF_eq, if_pos (by omega)]
      · rw [h1]; exact .inr rfl
  induction hv with
  | any x => exact .any _
  | v x => exact .v _
  | agg arr cs hs _ ih => exact .agg arr _ (hs.trans (embL_len cs).symm) fun k hk => by rw [embL_getD]; rw [embL_len] at hk; exact ih k hk
  | tup arr cs hs _ ih => exact .tup arr _ (hs.trans (embL_len cs).symm) fun k hk => by rw [embL_getD]; rw [embL_len] at hk; exact ih k hk
  | nil sz => exact .nil sz
  | sl A cap l sz xs g off us hl h1 hc hlive hA hsz h0' hcell hh ih =>
    refine .sl A cap (lnC G.nl l) sz xs g off us (hnl l hl) (by unfold lnC; split <;> omega) hc ?_ ?_ hsz h0' hcell ?_
    · intro n e hn
      rcases Nat.lt_or_ge l 2 with h2 | h2
      · have : l = 0 := by omega
        subst this
        rw [show lnC G.nl 0 = 0 from rfl, hlv0] at hn; cases hn
      · obtain ⟨e1, e2, e3⟩ := hlv l h2 hl
        rw [e1] at hn
        rw [e2, e3]
        exact hlive n e hn
    · intro hx
      obtain ⟨h2, h3, h4⟩ := hA hx
      rw [fm' l] at h3
      have hpos : 0 < G'.fr g := by
        have := Nat.mul_pos (List.length_pos_iff.2 hx) (h0' hx)
        omega
      obtain ⟨h5, h6⟩ := hblk g l h1 hl hpos h3
      exact ⟨h2, h5, Nat.le_trans h4 h6⟩
    · intro k hk
      have := ih k hk
      rw [emb_closed h0 _ (flat_closed hsz k)] at this
      exact this
  | ep l sz xs i j g off us hl hlive hA hi hj hsz h0' hcell hh ih => exact .any _
  | ptr o k ho =>
    obtain ⟨h3, h4⟩ := c.obC ho
    rw [← h4]; exact .ptr _ _ h3
  | mp o ho =>
    obtain ⟨h3, h4⟩ := c.obC ho
    rw [← h4]; exact .mp _ h3
  | fn f arr cs hs _ ih => exact .fn f arr _ (hs.trans (embL_len cs).symm) fun k hk => by rw [embL_getD]; rw [embL_len] at hk; exact ih k hk
omit [Tabs] in
theorem CallIn.upO {bl : List Nat} (c : CallIn w0 F0 Fp G w m F bl obs G' w' objs lvs) {g : Nat} {x : AO} (h : OR G' w' g x) : OR (G.call G' w.heap.size obs.length lvs) w' g (x.emb (Go.Rw.obC obs G.nh) (lnC G.nl)) := by
  cases h with
  | cells cs arr e hh hs hc => exact .cells _ arr e hh (hs.trans (embL_len cs).symm) fun k hk => by rw [embL_getD]; rw [embL_len] at hk; exact c.up (hc k hk)
  | iter s pos hh => exact .iter s pos hh
  | map es cl hh => exact .map es cl hh
  | mit ob si se la ho hh =>
    obtain ⟨h3, h4⟩ := c.obC ho
    exact .mit _ _ _ _ h3 (by rw [h4]; exact hh)

omit [Tabs] in
theorem CallIn.mem {bl : List Nat} (c : CallIn w0 F0 Fp G w m F bl obs G' w' objs lvs) : Mem w0 F0 Fp (G.call G' w.heap.size obs.length lvs) w' (m.call obs objs lvs) := by
  have htwo := c.h.two
  have hgle := c.gle
  have nh' : G'.nh = objs.length := c.h'.nh
  have nl' : G'.nl = 2 + lvs.length := c.h'.nl
  have fm' : ∀ l, G'.fm l = l := fun l => by rw [c.h'.fm]; rfl
  have hle := c.le
  have hsz := c.h'.size
  have lv' : ∀ l n e, (G.call G' w.heap.size obs.length lvs).lv l = some (n, e) → (l < G.nl ∧ G.lv l = some (n, e)) ∨ (G.nl ≤ l ∧ l < G.nl + lvs.length ∧ G'.lv (l - G.nl + 2) = some (n, e)) := by
    intro l n e hl
    simp only [Gh.call] at hl
    rw [callV_eq] at hl
    split at hl
    · rename_i h1
      refine .inr ⟨h1.1, h1.2, ?_⟩
      rw [c.h'.lv]
      simp only [AS.of]
      rw [if_neg (by omega), show l - G.nl + 2 - 2 = l - G.nl by omega]
      exact hl
    · exact .inl ⟨c.h.lv_lt hl, hl⟩
  have fmo : ∀ l, l < G.nl → (G.call G' w.heap.size obs.length lvs).fm l = G.fm l := fun l hl => by
    simp only [Gh.call]; rw [callF_eq, if_neg (by omega)]
  have fmn : ∀ l, G.nl ≤ l → l < G.nl + lvs.length → (G.call G' w.heap.size obs.length lvs).fm l = l := fun l h1 h2 => by
    simp only [Gh.call]; rw [callF_eq, if_pos ⟨h1, h2⟩]
  refine ⟨?_, ?_, ?_, ?_, Nat.le_trans htwo hgle.nl, ?_, ?_, ?_, ?_, ?_, ?_, ?_, ?_, ?_, ?_, ?_, ?_, c.h.f0, c.h.mu, ?_, ?_, Nat.le_trans c.h.size hsz, c.h'.os.trans c.h.os, c.h'.tape.trans c.h.tape, c.h'.output.trans c.h.output⟩
  · simp only [Gh.call, AM.call, c.h.nh, nh']
  · simp only [Gh.call, AM.call, c.h.nl]
  · simp only [Gh.call, AM.call, c.h.nl, c.h.fm]
  · simp only [Gh.call, AM.call, c.h.nl, c.h.lv]
  · rw [fmo 0 (by omega)]; exact c.h.fm0
  · intro l hl
    rcases Nat.lt_or_ge l G.nl with h1 | h1
    · rw [fmo l h1]; exact c.h.fml l h1
    · rw [fmn l h1 hl]; exact Nat.le_refl _
  · intro l h2 hl
    rcases Nat.lt_or_ge l G.nl with h1 | h1
    · rw [fmo l h1]; exact c.h.fm2 l h2 h1
    · rw [fmn l h1 hl]; exact h2
  · rintro l l' ⟨n, e⟩ ⟨n', e'⟩ h1 h2 h3
    rcases lv' l n e h1 with ⟨a1, a2⟩ | ⟨a1, a2, a3⟩ <;> rcases lv' l' n' e' h2 with ⟨b1, b2⟩ | ⟨b1, b2, b3⟩
    · rw [fmo l a1, fmo l' b1] at h3
      exact c.h.fmi l l' _ _ a2 b2 h3
    · rw [fmo l a1, fmn l' b1 b2] at h3
      have := c.h.fml l a1; omega
    · rw [fmn l a1 a2, fmo l' b1] at h3
      have := c.h.fml l' b1; omega
    · rw [fmn l a1 a2, fmn l' b1 b2] at h3
      exact h3
  · intro o o' h1 h2 h3
    simp only [Gh.call] at h1 h2 h3
    by_cases a1 : o < G.nh <;> by_cases b1 : o' < G.nh
    · rw [if_pos a1, if_pos b1] at h3
      exact c.h.inj o o' a1 b1 h3
    · rw [if_pos a1, if_neg b1] at h3
      have e1 := (c.h.obl o a1).2.2.1
      have e2 := c.new (j := o' - G.nh + obs.length) (by omega) (by omega)
      omega
    · rw [if_neg a1, if_pos b1] at h3
      have e1 := (c.h.obl o' b1).2.2.1
      have e2 := c.new (j := o - G.nh + obs.length) (by omega) (by omega)
      omega
    · rw [if_neg a1, if_neg b1] at h3
      have := c.h'.inj _ _ (by omega) (by omega) h3
      omega
  · intro o h1
    simp only [Gh.call] at h1 ⊢
    by_cases a1 : o < G.nh
    · rw [if_pos a1]
      obtain ⟨h2, h3, h4, h5⟩ := c.h.obl o a1
      rw [if_pos h4, if_pos h4]
      exact ⟨h2, h3, by omega, h5⟩
    · rw [if_neg a1]
      have e2 := c.new (j := o - G.nh + obs.length) (by omega) (by omega)
      obtain ⟨h2, h3, h4, _⟩ := c.h'.obl (o - G.nh + obs.length) (by omega)
      rw [if_neg (by omega), if_neg (by omega), h2]
      exact ⟨rfl, h3, h4, .inl (Nat.le_trans c.h.size e2)⟩
  · intro o x hx
    simp only [AM.call] at hx
    rcases callH_some _ _ _ _ o x hx with ⟨j, h1, h2⟩ | ⟨h1, h2⟩
    · rw [embsO_get] at h1
      obtain ⟨y, h3, rfl⟩ := Option.map_eq_some_iff.1 h1
      have hj := (List.getElem?_eq_some_iff.1 h3).1
      obtain ⟨_, h4⟩ := c.h'.obj j y (by simp only [AS.of]; exact h3)
      have h5 := c.obC (o := j) (by omega)
      rw [c.h.nh, h2] at h5
      refine ⟨h5.1, ?_⟩
      rw [h5.2, ← c.h.nh, ← c.h.nl]
      exact c.upO h4
    · obtain ⟨h3, h4⟩ := c.h.obj o x h1
      refine ⟨Nat.lt_of_lt_of_le h3 hgle.nh, ?_⟩
      rw [hgle.ob o h3]
      refine h4.mono hgle ?_
      have h5 := (c.h.obl o h3).2.2.1
      refine (c.old h5 fun hb => ?_).2.1
      obtain ⟨o', h6, h7, _⟩ := c.bl_lin hb
      have := c.h.inj o o' h3 (c.lt o' h6) h7
      subst this
      exact h2 (by rw [embsO_len]; exact hle) h6
  · intro l n e hl
    rcases lv' l n e hl with ⟨a1, a2⟩ | ⟨a1, a2, a3⟩
    · obtain ⟨h4, h5, h6, h7⟩ := c.h.live l n e a2
      refine ⟨h4, Nat.lt_of_lt_of_le h5 hgle.nl, by simp only [Gh.call]; rw [if_pos a1]; exact h6, ?_⟩
      have ela : (G.call G' w.heap.size obs.length lvs).la l = G.la l := by simp only [Gh.call]; rw [if_pos a1]
      have els : (G.call G' w.heap.size obs.length lvs).ls l = G.ls l := by simp only [Gh.call]; rw [if_pos a1]
      rw [ela, els]
      rcases h7 with h7 | ⟨g, oF, cap, cur, h7, h8, h9, h10, h11, h12, h13, h14⟩
      · exact .inl h7
      · have hg := (Array.getElem?_eq_some_iff.1 h9).1
        have hb : g ∉ bl := fun hb => by
          obtain ⟨_, _, _, h15, _⟩ := c.bl_lin hb
          have := c.h.fm2 l h4 a1
          omega
        refine .inr ⟨g, oF, cap, cur, h7, h8, (c.old hg hb).2.1.trans h9, h10, h11, h12, ?_, ?_⟩
        · simp only [Gh.call]; rw [if_pos hg, callF_eq, if_neg (by omega)]; exact h13
        · simp only [Gh.call]; rw [if_pos hg]; exact h14
    · obtain ⟨h4, h5, h6, h7⟩ := c.h'.live _ n e a3
      refine ⟨by omega, by simp only [Gh.call]; omega, by simp only [Gh.call]; rw [if_neg (by omega)]; exact h6, ?_⟩
      have ela : (G.call G' w.heap.size obs.length lvs).la l = G'.la (l - G.nl + 2) := by simp only [Gh.call]; rw [if_neg (by omega)]
      have els : (G.call G' w.heap.size obs.length lvs).ls l = G'.ls (l - G.nl + 2) := by simp only [Gh.call]; rw [if_neg (by omega)]
      rw [ela, els]
      rcases h7 with h7 | ⟨g, oF, cap, cur, h7, h8, h9, h10, h11, h12, h13, h14⟩
      · exact .inl h7
      · rw [fm'] at h13
        have hg : w.heap.size ≤ g := by
          rcases h8 with h8 | h8
          · exact h8
          · have := (c.fro h8).2; omega
        refine .inr ⟨g, oF, cap, cur, h7, .inl (Nat.le_trans c.h.size hg), h9, h10, h11, h12, ?_, ?_⟩
        · simp only [Gh.call]; rw [if_neg (by omega), h13, callF_eq, if_pos ⟨a1, a2⟩, lnC, if_neg (by omega)]; omega
        · simp only [Gh.call]; rw [if_neg (by omega)]; exact h14
  · intro g hg
    simp only [Gh.call] at hg
    split at hg
    · omega
    · exact c.h'.frl g hg
  · intro g hg
    simp only [Gh.call]
    rw [if_neg (by omega), c.h'.linl g hg]; rfl
  · intro g
    have h1 := c.h.linn g
    have h2 := c.h'.linn g
    simp only [Gh.call]
    split
    · omega
    · unfold lnC; split <;> omega
  · intro g h1 h2
    have hb : g ∉ bl := fun hb => by
      obtain ⟨_, _, _, _, _, _, h3⟩ := c.bl_lin hb
      rcases h3 with h3 | h3
      · omega
      · exact h2 h3
    have hg : g < w.heap.size := Nat.lt_of_lt_of_le h1 c.h.size
    obtain ⟨h3, h4, h5⟩ := c.h.old g h1 h2
    simp only [Gh.call]
    rw [if_pos hg, if_pos hg]
    exact ⟨h3, (c.old hg hb).2.1.trans h4, h5⟩
  · intro g i hi
    have := c.h.keepf g
    rw [hgle.cell g i (by omega)]
    exact c.h.keep g i hi
  · intro g
    exact Nat.le_trans (c.h.keepf g) (hgle.fr g)

/-- A call of a function that is handed objects. 'ts': the lineages of what is handed over. -/
theorem obj_call {f : FuncId} {C : ConO} (hG : GoodO P f C) {as : List AV} (i : C.ι) (obs : List Nat) (ts : List Nat) (nd : obs.Nodup) (ha : dnL obs as (C.args i)) (ho : dnOs obs σ.m.h obs (C.objs i)) (h1 : ∀ t ∈ AV.tagsL as, 2 ≤ t → t ∈ ts) (h2 : ∀ t ∈ tagsOs σ.m.h obs, 2 ≤ t → t ∈ ts)
    (hr : Rel w0 F0 Fp X G w a σ) {vs : Array Value} (hlen : vs.size = as.length) (hv : ∀ k, VR G w (vs.getD k undef) (as.getD k .any)) :
    Calls P f vs w fun ed w' => ∃ v objs lvs r G', ed = .returned v ∧ C.post i objs lvs r ∧ obs.length ≤ objs.length ∧ Rel w0 F0 Fp X G' w' a { σ with m := (σ.m.killed ts).call obs objs lvs } ∧ VR G' w' v (r.emb (obC obs σ.m.nh) (lnC σ.m.nl)) := by
  obtain ⟨hal, hag⟩ := dnL_len ha
  obtain ⟨hol, hog⟩ := dnOs_get ho
  have hrk := hr.killed ts
  have hm := hr.mm
  have hmk := hrk.mm
  have hlt : ∀ o ∈ obs, o < G.nh := fun o hoo => by
    obtain ⟨j, hj, rfl⟩ := List.getElem_of_mem hoo
    have hx : (C.objs i)[j]? = some ((C.objs i)[j]'(by omega)) := List.getElem?_eq_getElem (by omega)
    obtain ⟨o, y, h3, h4, _⟩ := hog j _ hx
    rw [List.getElem?_eq_getElem hj] at h3
    obtain rfl := Option.some.inj h3
    exact (hm.obj _ y h4).1
  have hF : ∃ F : Nat → Nat, ∀ g, F g = if (G.killed ts).lin g = 0 then (G.killed ts).fr g else 0 := ⟨_, fun _ => rfl⟩
  obtain ⟨F, hF⟩ := hF
  obtain ⟨bl, hbl⟩ : ∃ bl, bl = obs.map G.ob := ⟨_, rfl⟩
  have hbm : ∀ g, g ∈ bl → G.fr g = 0 ∧ g < w.heap.size ∧ G.lin g = 1 ∧ (w0.heap.size ≤ g ∨ Fp g) := fun g hg => by
    rw [hbl] at hg
    obtain ⟨o, h3, rfl⟩ := List.mem_map.1 hg
    obtain ⟨h4, h5, h6, h7⟩ := hm.obl o (hlt o h3)
    exact ⟨h5, h6, h4, h7⟩
  have hD : DnIn G w ts F bl := by
    refine ⟨hm.fm0, hm.two, fun g hg => (hbm g hg).1, fun g l hl hll hlin => ?_⟩
    rw [hF]
    have : (G.killed ts).lin g = 0 := by
      simp only [Gh.killed]
      split
      · rfl
      · rename_i hne
        rcases hlin with h3 | h3
        · rcases hll with rfl | ⟨h4, h5⟩
          · rw [h3, hm.fm0]
          · exact absurd ⟨l, h5, h4, hl, h3⟩ hne
        · exact h3
    rw [if_pos this]
    exact Nat.le_refl _
  have hob : ∀ (j : Nat) o, obs[j]? = some o → j < bl.length ∧ bl.getD j 0 = G.ob o := fun j o hj => by
    have := (List.getElem?_eq_some_iff.1 hj).1
    rw [hbl, List.length_map]
    refine ⟨this, ?_⟩
    rw [List.getD_eq_getElem?_getD, List.getElem?_map, hj]; rfl
  have hargs : ∀ k, VR (GinO F bl) w (vs.getD k undef) ((C.args i).getD k .any) := fun k => by
    rcases Nat.lt_or_ge k as.length with h3 | h3
    · exact dn_ok hD hob (hv k) (fun t h4 h5 => h1 t (mem_tagsL h3 h4) h5) _ (hag k h3)
    · rw [List.getD_eq_getElem?_getD, List.getElem?_eq_none (by omega)]; exact .any _
  have hobj : ∀ (j : Nat) x, (C.objs i)[j]? = some x → OR (GinO F bl) w (bl.getD j 0) x := fun j x hx => by
    obtain ⟨o, y, h3, h4, h5⟩ := hog j x hx
    rw [(hob j o h3).2]
    have htg : ∀ t ∈ y.tags, 2 ≤ t → t ∈ ts := fun t h6 h7 => h2 t (mem_tagsOs (List.mem_of_getElem? h3) h4 h6) h7
    have hy := (hm.obj o y h4).2
    cases hy with
    | cells cs arr e hh hs hc =>
      cases x with
      | cells ds =>
        simp only [dnO] at h5
        obtain ⟨h6, h7⟩ := dnL_len h5
        exact .cells ds arr e hh (hs.trans h6) fun k hk' => dn_ok hD hob (hc k (by omega)) (fun t h8 h9 => htg t (mem_tagsL (by omega) h8) h9) _ (h7 k (by omega))
      | _ => simp [dnO] at h5
    | map es c hh =>
      cases x with
      | map es' c' => simp only [dnO] at h5; obtain ⟨rfl, rfl⟩ := h5; exact .map _ _ hh
      | _ => simp [dnO] at h5
    | iter => simp [dnO] at h5
    | mit => simp [dnO] at h5
  have hnd : bl.Nodup := by
    rw [hbl, List.nodup_iff_pairwise_ne, List.pairwise_map]
    have h3 : List.Pairwise (fun a b => a ≠ b ∧ a ∈ obs ∧ b ∈ obs) obs := by
      have := List.nodup_iff_pairwise_ne.1 nd
      rw [List.pairwise_iff_getElem] at this ⊢
      exact fun p q hp hq hpq => ⟨this p q hp hq hpq, List.getElem_mem hp, List.getElem_mem hq⟩
    refine h3.imp ?_
    rintro p q ⟨h4, h5, h6⟩ he
    exact h4 (hm.inj p q (hlt p h5) (hlt q h6) he)
  have htb : TabOk w (fun g => g ∈ bl) := by
    refine ⟨Tabs.stable w0 w (fun g hg => (hm.old g (hr.tb.2 g hg).1 (hr.tb.2 g hg).2).2.1) hr.tb.1, fun g hg => ?_⟩
    obtain ⟨h3, h4⟩ := hr.tb.2 g hg
    refine ⟨Nat.lt_of_lt_of_le h3 hm.size, fun hb => ?_⟩
    obtain ⟨_, _, _, h5⟩ := hbm g hb
    rcases h5 with h5 | h5
    · omega
    · exact h4 h5
  have hF0 : ∀ g, 0 < F g → g < w.heap.size := fun g hg => by
    rw [hF] at hg
    split at hg
    · exact hmk.frl g hg
    · omega
  refine (hG.2 w F i vs bl hF0 hnd (by rw [hbl, List.length_map]; exact hol) (fun g hg => ⟨(hbm g hg).2.1, ?_⟩) htb hobj (hlen.trans hal) hargs).mono ?_
  · rw [hF]
    split
    · exact (hbm g hg).1
    · rfl
  rintro ed w' ⟨v, r, objs, lvs, G', rfl, hpost, hM, hV, hle, hG'⟩
  have hbll : bl.length = obs.length := by rw [hbl, List.length_map]
  have c : CallIn w0 F0 Fp (G.killed ts) w (σ.m.killed ts) F bl obs G' w' objs lvs := {
    h := hmk
    h' := hM
    F1 := hF
    nd := nd
    lt := hlt
    bl := hbl
    le := by omega
    ob := fun j hj => by rw [hG' j (by omega), (hob j _ (List.getElem?_eq_getElem hj)).2, List.getD_eq_getElem?_getD, List.getElem?_eq_getElem hj]; rfl }
  have e1 : (G.killed ts).nh = σ.m.nh := hm.nh
  have e2 : (G.killed ts).nl = σ.m.nl := hm.nl
  have hV2 := c.up hV
  rw [e1, e2] at hV2
  exact ⟨v, objs, lvs, r, _, rfl, hpost, by omega, ⟨hr.sz, hr.df, fun k => (hrk.tm k).mono c.gle, fun j k => (hrk.hd j k).mono c.gle, c.mem, hr.tb⟩, hV2⟩
theorem raw_obj {f : FuncId} {C : ConO} (hG : GoodO P f C) {as : List AV} (i : C.ι) (obs : List Nat) (ts : List Nat) (nd : obs.Nodup) (ha : dnL obs as (C.args i)) (ho : dnOs obs σ.m.h obs (C.objs i)) (h1 : ∀ t ∈ AV.tagsL as, 2 ≤ t → t ∈ ts) (h2 : ∀ t ∈ tagsOs σ.m.h obs, 2 ≤ t → t ∈ ts)
    (hk : ∀ objs lvs r, C.post i objs lvs r → obs.length ≤ objs.length → cont { σ with m := (σ.m.killed ts).call obs objs lvs } d (r.emb (obC obs σ.m.nh) (lnC σ.m.nl)) K) : RawC P σ f as d K := by
  refine ⟨hG.1, fun w0 F0 Fp X G w a vs hr hlen hv => (obj_call hG i obs ts nd ha ho h1 h2 hr hlen hv).mono ?_⟩
  rintro ed w' ⟨v, objs, lvs, r, G', rfl, h3, h4, h5, h6⟩
  exact ⟨v, _, _, G', rfl, h5, h6, hk objs lvs r h3 h4⟩

theorem vcCall_obj {f : FuncId} {C : ConO} (hG : GoodO P f C) (hC : Γ.get f = none) {as : List AV} (i : C.ι) (obs : List Nat) (h : obs.Nodup ∧ dnL obs as (C.args i) ∧ dnOs obs σ.m.h obs (C.objs i) ∧ AV.tagsL as = [] ∧ tagsOs σ.m.h obs = [])
    (hk : ∀ objs lvs r, C.post i objs lvs r → obs.length ≤ objs.length → cont { σ with m := σ.m.call obs objs lvs } d (r.emb (obC obs σ.m.nh) (lnC σ.m.nl)) K) : vcCall P Γ false σ f as d K := by
  refine vcCall_raw hC (raw_obj hG i obs [] h.1 h.2.1 h.2.2.1 (by rw [h.2.2.2.1]; simp) (by rw [h.2.2.2.2]; simp) fun objs lvs r hp hl => ?_)
  rw [killed_nil]
  exact hk objs lvs r hp hl
end
end Go.Rw
end
