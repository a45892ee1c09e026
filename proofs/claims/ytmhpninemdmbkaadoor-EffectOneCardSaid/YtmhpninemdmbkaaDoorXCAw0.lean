/-
  Edits, unit by unit. Plain. Walks along an edit: their Kind, Len and Take, reckoned in place. Two edits as one, piece by piece. Plain. compose.Two, walked. compose.Two, walked. The document's walks. The document's Two. Keep, All: the program's, the document's.
-/
import Derived.Test.YtmhpninemdmbkaaDoorXCAq0
set_option linter.unusedSimpArgs false
set_option linter.unusedVariables false
set_option linter.defProp false

-- CAw0
section
namespace Go.Proofs
open Go Go.Rw
set_option maxRecDepth 100000
set_option linter.unusedSimpArgs false
set_option linter.unusedVariables false

/-- A unit of an edit: a code point kept, or gone, or put in. -/
inductive Un where
  | r
  | d
  | i (c : Nat)
  deriving DecidableEq
def size (c : Cp) : Nat := if c.k = 2 then (cpts c.t).length else c.n.toNat
def unP (c : Cp) : List Un := if c.k = 2 then (cpts c.t).map .i else if c.k = 1 then List.replicate c.n.toNat .r else if c.k = 3 then List.replicate c.n.toNat .d else []
def unL : List Cp → List Un
  | [] => []
  | c :: r => unP c ++ unL r
theorem unL_app : ∀ a b : List Cp, unL (a ++ b) = unL a ++ unL b
  | [], _ => rfl
  | c :: a, b => by simp [unL, unL_app a b]
theorem unP_len {c : Cp} (h : c.k = 1 ∨ c.k = 2 ∨ c.k = 3) : (unP c).length = size c := by
  unfold unP size
  rcases h with h | h | h <;> simp [h]
theorem sound_k {c : Cp} (h : sound c = true) : c.k = 1 ∨ c.k = 2 ∨ c.k = 3 := by
  rcases sound_cases h with ⟨h, _⟩ | ⟨h | h, _⟩ <;> simp [h]
theorem size_pos {c : Cp} (h : sound c = true) : 0 < size c := by
  unfold size
  rcases sound_cases h with ⟨h2, _, hne, hv⟩ | ⟨h13, hp, _⟩
  · rw [if_pos h2]; have := cpts_ne hv hne; omega
  · rw [if_neg (by omega)]; omega
def doU : List Nat → List Un → List Nat
  | _, [] => []
  | cs, .i c :: u => c :: doU cs u
  | cs, .d :: u => doU cs.tail u
  | [], .r :: u => doU [] u
  | c :: cs, .r :: u => c :: doU cs u
theorem doU_ins : ∀ (xs cs : List Nat) (u : List Un), doU cs (xs.map .i ++ u) = xs ++ doU cs u
  | [], _, _ => rfl
  | x :: xs, cs, u => by simp only [List.map_cons, List.cons_append, doU]; rw [doU_ins xs cs u]
theorem doU_del : ∀ (n : Nat) (cs : List Nat) (u : List Un), doU cs (List.replicate n .d ++ u) = doU (cs.drop n) u
  | 0, _, _ => rfl
  | n + 1, cs, u => by
    simp only [List.replicate_succ, List.cons_append, doU]
    rw [doU_del n]
    cases cs <;> simp
theorem doU_ret : ∀ (n : Nat) (cs : List Nat) (u : List Un), doU cs (List.replicate n .r ++ u) = cs.take n ++ doU (cs.drop n) u
  | 0, _, _ => rfl
  | n + 1, [], u => by
    simp only [List.replicate_succ, List.cons_append, doU]
    rw [doU_ret n]; simp
  | n + 1, c :: cs, u => by
    simp only [List.replicate_succ, List.cons_append, doU]
    rw [doU_ret n]; simp
theorem do_units : ∀ (l : List Cp) (cs : List Nat), (∀ c ∈ l, sound c = true) → doL cs l = doU cs (unL l)
  | [], _, _ => rfl
  | c :: r, cs, h => by
    have hs := h c (by simp)
    have hr := fun x hx => h x (List.mem_cons_of_mem c hx)
    rcases sound_cases hs with ⟨h2, _⟩ | ⟨h1 | h3, _⟩
    · rw [do_ins (sound_some hs) h2, unL, unP, if_pos h2, doU_ins, do_units r _ hr]
    · rw [do_ret (sound_some hs) (by omega) (by omega), unL, unP, if_neg (by omega), if_pos h1, doU_ret, do_units r _ hr]
    · rw [do_del (sound_some hs) h3, unL, unP, if_neg (by omega), if_neg (by omega), if_pos h3, doU_del, do_units r _ hr]
def bU : List Un → Nat
  | [] => 0
  | .i _ :: u => bU u
  | _ :: u => bU u + 1
def oU : List Un → Nat
  | [] => 0
  | .d :: u => oU u
  | _ :: u => oU u + 1
theorem bU_app : ∀ a b : List Un, bU (a ++ b) = bU a + bU b
  | [], b => by simp [bU]
  | .i _ :: a, b => by simp [bU, bU_app a b]
  | .r :: a, b => by simp [bU, bU_app a b]; omega
  | .d :: a, b => by simp [bU, bU_app a b]; omega
theorem oU_app : ∀ a b : List Un, oU (a ++ b) = oU a + oU b
  | [], b => by simp [oU]
  | .i _ :: a, b => by simp [oU, oU_app a b]; omega
  | .r :: a, b => by simp [oU, oU_app a b]; omega
  | .d :: a, b => by simp [oU, oU_app a b]
theorem bU_i : ∀ xs : List Nat, bU (xs.map .i) = 0
  | [] => rfl
  | x :: xs => by simp [bU, bU_i xs]
theorem oU_i : ∀ xs : List Nat, oU (xs.map .i) = xs.length
  | [] => rfl
  | x :: xs => by simp [oU, oU_i xs]
theorem bU_r : ∀ n, bU (List.replicate n .r) = n
  | 0 => rfl
  | n + 1 => by simp [List.replicate_succ, bU, bU_r n]
theorem oU_r : ∀ n, oU (List.replicate n .r) = n
  | 0 => rfl
  | n + 1 => by simp [List.replicate_succ, oU, oU_r n]
theorem bU_d : ∀ n, bU (List.replicate n .d) = n
  | 0 => rfl
  | n + 1 => by simp [List.replicate_succ, bU, bU_d n]
theorem oU_d : ∀ n, oU (List.replicate n .d) = 0
  | 0 => rfl
  | n + 1 => by simp [List.replicate_succ, oU, oU_d n]
theorem base_units : ∀ (l : List Cp), (∀ c ∈ l, sound c = true) → (bU (unL l) : Int) = tn l
  | [], _ => rfl
  | c :: r, h => by
    have hr := base_units r (fun x hx => h x (List.mem_cons_of_mem c hx))
    rcases sound_cases (h c (by simp)) with ⟨h2, h0, _⟩ | ⟨h1 | h3, h0, _⟩
    · simp only [unL, tn, bU_app]; rw [unP, if_pos h2, bU_i]; omega
    · simp only [unL, tn, bU_app]; rw [unP, if_neg (by omega), if_pos h1, bU_r]; omega
    · simp only [unL, tn, bU_app]; rw [unP, if_neg (by omega), if_neg (by omega), if_pos h3, bU_d]; omega
theorem do_len : ∀ (u : List Un) (cs : List Nat), cs.length = bU u → (doU cs u).length = oU u
  | [], _, _ => rfl
  | .i c :: u, cs, h => by simp only [doU, oU, List.length_cons]; rw [do_len u cs h]
  | .d :: u, cs, h => by
    simp only [doU, oU]
    rw [do_len u cs.tail (by simp only [bU] at h; rw [List.length_tail]; omega)]
  | .r :: u, [], h => by simp [bU] at h
  | .r :: u, c :: cs, h => by
    simp only [doU, oU, List.length_cons]
    rw [do_len u cs (by simpa [bU] using h)]
/-- One edit, then another one. -/
def twoU : List Un → List Un → List Un
  | .d :: x, y => .d :: twoU x y
  | [], .i c :: y => .i c :: twoU [] y
  | .r :: x, .i c :: y => .i c :: twoU (.r :: x) y
  | .i a :: x, .i c :: y => .i c :: twoU (.i a :: x) y
  | .r :: x, .r :: y => .r :: twoU x y
  | .r :: x, .d :: y => .d :: twoU x y
  | .i a :: x, .r :: y => .i a :: twoU x y
  | .i a :: x, .d :: y => twoU x y
  | _, _ => []
termination_by x y => x.length + y.length
theorem do_twoU (x y : List Un) : ∀ cs : List Nat, cs.length = bU x → bU y = oU x → doU cs (twoU x y) = doU (doU cs x) y := by
  induction x, y using twoU.induct with
  | case1 y x ih =>
    intro cs h1 h2
    rw [twoU, doU, doU]
    exact ih cs.tail (by simp only [bU] at h1; rw [List.length_tail]; omega) (by simpa [oU] using h2)
  | case2 c y ih =>
    intro cs h1 h2
    have h3 := ih cs h1 (by simpa [bU] using h2)
    rw [twoU]
    simp only [doU] at h3 ⊢
    rw [h3]
  | case3 x c y ih =>
    intro cs h1 h2
    rw [twoU, doU, ih cs h1 (by simpa [bU] using h2)]
    simp only [doU]
  | case4 a x c y ih =>
    intro cs h1 h2
    rw [twoU, doU, ih cs h1 (by simpa [bU] using h2)]
    simp only [doU]
  | case5 x y ih =>
    intro cs h1 h2
    cases cs with
    | nil => simp [bU] at h1
    | cons c cs =>
      rw [twoU]
      simp only [doU]
      rw [ih cs (by simpa [bU] using h1) (by simpa [bU, oU] using h2)]
  | case6 x y ih =>
    intro cs h1 h2
    cases cs with
    | nil => simp [bU] at h1
    | cons c cs =>
      rw [twoU]
      simp only [doU, List.tail_cons]
      rw [ih cs (by simpa [bU] using h1) (by simpa [bU, oU] using h2)]
  | case7 a x y ih =>
    intro cs h1 h2
    rw [twoU]
    simp only [doU]
    rw [ih cs (by simpa [bU] using h1) (by simpa [bU, oU] using h2)]
  | case8 a x y ih =>
    intro cs h1 h2
    rw [twoU]
    simp only [doU, List.tail_cons]
    rw [ih cs (by simpa [bU] using h1) (by simpa [bU, oU] using h2)]
  | case9 x y h1 h2 h3 h4 h5 h6 h7 h8 =>
    intro cs e1 e2
    cases y with
    | nil => cases x with
      | nil => rw [twoU] <;> first | rfl | simp
      | cons a x => cases a <;> simp_all [oU, bU]
    | cons b y => cases x with
      | nil => cases b <;> simp_all [oU, bU]
      | cons a x => cases a <;> cases b <;> first | exact (h4 _ _ _ _ rfl rfl).elim | simp_all
theorem two_len (x y : List Un) : bU y = oU x → bU (twoU x y) = bU x ∧ oU (twoU x y) = oU y := by
  induction x, y using twoU.induct with
  | case1 y x ih =>
    intro h
    have := ih (by simpa [oU] using h)
    rw [twoU]; simp only [bU, oU]; omega
  | case2 c y ih =>
    intro h
    have := ih (by simpa [bU] using h)
    rw [twoU]; simp only [bU, oU]; simp only [bU, oU] at this; omega
  | case3 x c y ih =>
    intro h
    have := ih (by simpa [bU] using h)
    rw [twoU]; simp only [bU, oU]; simp only [bU, oU] at this; omega
  | case4 a x c y ih =>
    intro h
    have := ih (by simpa [bU] using h)
    rw [twoU]; simp only [bU, oU]; simp only [bU, oU] at this; omega
  | case5 x y ih =>
    intro h
    have := ih (by simpa [bU, oU] using h)
    rw [twoU]; simp only [bU, oU]; omega
  | case6 x y ih =>
    intro h
    have := ih (by simpa [bU, oU] using h)
    rw [twoU]; simp only [bU, oU]; omega
  | case7 a x y ih =>
    intro h
    have := ih (by simpa [bU, oU] using h)
    rw [twoU]; simp only [bU, oU]; omega
  | case8 a x y ih =>
    intro h
    have := ih (by simpa [bU, oU] using h)
    rw [twoU]; simp only [bU, oU]; omega
  | case9 x y h1 h2 h3 h4 h5 h6 h7 h8 =>
    intro e
    cases y with
    | nil => cases x with
      | nil => rw [twoU] <;> first | simp [bU, oU] | simp
      | cons a x => cases a <;> simp_all [oU, bU]
    | cons b y => cases x with
      | nil => cases b <;> simp_all [oU, bU]
      | cons a x => cases a <;> cases b <;> first | exact (h4 _ _ _ _ rfl rfl).elim | simp_all
end Go.Proofs
end

-- CAw1
section
namespace Go.Proofs
open Go Go.Rw
open _root_.Nat renaming reduceAdd → N0, reduceSub → N1, reduceMul → N2, reduceLT → N3, reduceLeDiff → N4, reduceEqDiff → N5
open _root_.Int renaming reduceNeg → Z0, reduceAdd → Z1, reduceSub → Z2, reduceMul → Z3, reduceGT → Z4, reduceGE → Z5, reduceLT → Z6, reduceLE → Z7, reduceEq → Z8, reduceNe → Z9, reduceToNat → Z10, cast_ofNat_Int → Zc
set_option maxRecDepth 100000
set_option linter.unusedSimpArgs false
set_option linter.unusedVariables false

def kindL : List Cp → Int
  | [] => 0
  | c :: _ => c.k
theorem call_wkind {Γ : Env} (hΓ : GoodEnv Tryd.prog Γ) (hC : Γ.get 70 = none) {n : Nat} {t : Nat → AV} {hd : Nat → Nat → AV} {nh nl : Nat} {h : Nat → Option AO} {fm : Nat → Nat} {lv : Nat → Option (Nat × Nat)} {mu : Bool} {o : Nat} {r : List Cp} {dn : Int} {d : Option Nat} {K : AS → Prop}
    (ho : h o = some (.cells [.sl 0 3 (comps r), .v (.int .i64 dn)])) (hl : r.length ≤ 1099511627776)
    (hk : cont ⟨n, t, hd, ⟨nh, h, nl, fm, lv, mu⟩⟩ d (.v (.int .i64 (kindL r))) K) : vcCall Tryd.prog Γ false ⟨n, t, hd, ⟨nh, h, nl, fm, lv, mu⟩⟩ 70 [.ptr o 0] d K := by
  refine vcCall_inl (nn := 16) hΓ (by first | assumption | simp [get_cons, get_nil]) Tryd.func70 (by kernel_rfl) rfl (show Tryd.f70.results.toList = [.tmp 2] from rfl) rfl ?_
  simp only [goRules, coreRules, tiRules, unRules, AS_of_eq, ← decide_not, N0, N1, N2, N3, N4, N5, Z0, Z1, Z2, Z3, Z4, Z5, Z6, Z7, Z8, Z9, Z10, Zc, ↓reduceIte, reduceCtorEq, ho, comps_len]
  cases r with
  | nil =>
    simp only [goRules, coreRules, tiRules, unRules, AS_of_eq, ← decide_not, N0, N1, N2, N3, N4, N5, Z0, Z1, Z2, Z3, Z4, Z5, Z6, Z7, Z8, Z9, Z10, Zc, ↓reduceIte, reduceCtorEq, ho, comps_len, List.length_nil]
    exact hk
  | cons c r =>
    have e1 := comps_getD (c :: r) (i := 0) (by simp)
    simp only [List.getElem_cons_zero] at e1
    simp only [List.length_cons] at hl
    simp only [goRules, coreRules, tiRules, unRules, AS_of_eq, ← decide_not, N0, N1, N2, N3, N4, N5, Z0, Z1, Z2, Z3, Z4, Z5, Z6, Z7, Z8, Z9, Z10, Zc, ↓reduceIte, reduceCtorEq, ho, comps_len, e1, List.length_cons, show (((r.length + 1 : Nat) : Int) = 0) = False from eq_false (by omega)]
    (repeat (with_reducible refine And.intro ?_ ?_; focus (first | omega | exact mixed1 | kernel_rfl)))
    exact hk
def lenW : List Cp → Nat → Nat
  | [], _ => 0
  | c :: _, dn => size c - dn
theorem call_wlen {Γ : Env} (hΓ : GoodEnv Tryd.prog Γ) (hC : Γ.get 72 = none) (hD : Γ.get 70 = none) (hR : Γ.get 92 = some rcCon) {n : Nat} {t : Nat → AV} {hd : Nat → Nat → AV} {nh nl : Nat} {h : Nat → Option AO} {fm : Nat → Nat} {lv : Nat → Option (Nat × Nat)} {mu : Bool} {o : Nat} {r : List Cp} {dn : Nat} {d : Option Nat} {K : AS → Prop}
    (ho : h o = some (.cells [.sl 0 3 (comps r), .v (.int .i64 dn)])) (hl : okL r) (hs : ∀ c ∈ r, sound c = true) (hdn : dn ≤ 1099511627776) (hdl : r ≠ [] → dn ≤ size (r.headD ⟨0, 0, []⟩))
    (hk : cont ⟨n, t, hd, ⟨nh, h, nl, fm, lv, mu⟩⟩ d (.v (.int .i64 (lenW r dn))) K) : vcCall Tryd.prog Γ false ⟨n, t, hd, ⟨nh, h, nl, fm, lv, mu⟩⟩ 72 [.ptr o 0] d K := by
  refine vcCall_inl (nn := 34) hΓ (by first | assumption | simp [get_cons, get_nil]) Tryd.func72 (by kernel_rfl) rfl (show Tryd.f72.results.toList = [.tmp 2] from rfl) rfl ?_
  simp only [goRules, coreRules, tiRules, unRules, AS_of_eq, ← decide_not, N0, N1, N2, N3, N4, N5, Z0, Z1, Z2, Z3, Z4, Z5, Z6, Z7, Z8, Z9, Z10, Zc, ↓reduceIte, reduceCtorEq, ho, comps_len]
  refine call_wkind hΓ hD ho hl.1 ?_
  cases r with
  | nil =>
    simp only [goRules, coreRules, tiRules, unRules, AS_of_eq, ← decide_not, N0, N1, N2, N3, N4, N5, Z0, Z1, Z2, Z3, Z4, Z5, Z6, Z7, Z8, Z9, Z10, Zc, ↓reduceIte, reduceCtorEq, kindL]
    exact hk
  | cons c r =>
    have e1 := comps_getD (c :: r) (i := 0) (by simp)
    have hsc := sound_cases (hs c (by simp))
    have htl := hl.text (c := c) (by simp)
    have hcn := hl.2.2 c (by simp)
    have hz := hdl (by simp)
    simp only [List.getElem_cons_zero] at e1
    simp only [List.headD_cons] at hz
    have hll := hl.1
    simp only [List.length_cons] at hll
    simp only [lenW] at hk
    obtain ⟨ck, cn, ct⟩ := c
    rw [kindL]
    by_cases h2 : ck = 2
    · subst h2
      rcases hsc with ⟨_, _, _, hv⟩ | ⟨h, _⟩
      case inr => simp at h
      rw [size, if_pos rfl] at hz hk
      dsimp only at hz hk htl hcn
      have hcl := cpts_len ct
      simp only [goRules, coreRules, tiRules, unRules, AS_of_eq, ← decide_not, N0, N1, N2, N3, N4, N5, Z0, Z1, Z2, Z3, Z4, Z5, Z6, Z7, Z8, Z9, Z10, Zc, ↓reduceIte, reduceCtorEq, ho, comps_len, e1, List.length_cons]
      (repeat (with_reducible refine And.intro ?_ ?_; focus (first | omega | exact mixed1 | kernel_rfl)))
      refine call_rc (by first | assumption | simp [get_cons]) htl ?_
      rw [lc_cpts hv]
      simp only [goRules, coreRules, tiRules, unRules, AS_of_eq, ← decide_not, N0, N1, N2, N3, N4, N5, Z0, Z1, Z2, Z3, Z4, Z5, Z6, Z7, Z8, Z9, Z10, Zc, ↓reduceIte, reduceCtorEq, ho, comps_len, e1, List.length_cons, wrap_i64 (n := ((cpts ct).length : Int) - dn) (by omega) (by omega)]
      rw [show ((cpts ct).length : Int) - dn = (((cpts ct).length - dn : Nat) : Int) by omega]
      exact hk
    · have hne : ¬ ck = 0 := by
        rcases hsc with ⟨h, _⟩ | ⟨h, _⟩
        · exact absurd h h2
        · simp only at h; omega
      rcases hsc with ⟨h, _⟩ | ⟨_, hp, _⟩
      · exact absurd h h2
      rw [size, if_neg h2] at hz hk
      dsimp only at hz hk hp hcn
      simp only [goRules, coreRules, tiRules, unRules, AS_of_eq, ← decide_not, N0, N1, N2, N3, N4, N5, Z0, Z1, Z2, Z3, Z4, Z5, Z6, Z7, Z8, Z9, Z10, Zc, ↓reduceIte, reduceCtorEq, ho, comps_len, e1, List.length_cons, h2, hne, wrap_i64 (n := cn - dn) (by omega) (by omega)]
      (repeat (with_reducible refine And.intro ?_ ?_; focus (first | omega | exact mixed1 | kernel_rfl)))
      rw [show cn - dn = ((cn.toNat - dn : Nat) : Int) by omega]
      exact hk
theorem comps_tail (c : Cp) (r : List Cp) : partA 0 3 (comps (c :: r)) 1 (r.length + 1) = .sl 0 3 (comps r) := by
  unfold partA
  rw [if_neg (by omega)]
  simp only [comps, List.map_cons, List.drop_succ_cons, List.drop_zero, Nat.add_sub_cancel]
  rw [List.take_of_length_le (by simp)]
def part (c : Cp) (dn m : Nat) : Cp := if c.k = 2 then ⟨c.k, c.n, encs (((cpts c.t).drop dn).take m)⟩ else ⟨c.k, m, c.t⟩
def advR (c : Cp) (r : List Cp) (dn m : Nat) : List Cp := if dn + m = size c then r else c :: r
def advD (c : Cp) (dn m : Nat) : Nat := if dn + m = size c then 0 else dn + m
theorem call_wtake {Γ : Env} (hΓ : GoodEnv Tryd.prog Γ) (hC : Γ.get 71 = none) (hE : Γ.get 72 = none) (hD : Γ.get 70 = none) (hR : Γ.get 92 = some rcCon) (hS : Γ.get 94 = some sliceCon) {n : Nat} {t : Nat → AV} {hd : Nat → Nat → AV} {nh nl : Nat} {h : Nat → Option AO} {fm : Nat → Nat} {lv : Nat → Option (Nat × Nat)} {mu : Bool} {o : Nat} {c : Cp} {r : List Cp} {dn m : Nat} {d : Option Nat} {K : AS → Prop}
    (hn : o < nh) (ho : h o = some (.cells [.sl 0 3 (comps (c :: r)), .v (.int .i64 dn)])) (hl : okL (c :: r)) (hs : ∀ x ∈ c :: r, sound x = true) (hdn : dn + m ≤ size c) (hb : size c ≤ 1099511627776)
    (hk : ∀ h' : Nat → Option AO, h' o = some (.cells [.sl 0 3 (comps (advR c r dn m)), .v (.int .i64 (advD c dn m))]) → (∀ j, j < nh → j ≠ o → h' j = h j) → cont ⟨n, t, hd, ⟨nh + 2, h', nl, fm, lv, mu⟩⟩ d (cA (part c dn m)) K) :
    vcCall Tryd.prog Γ false ⟨n, t, hd, ⟨nh, h, nl, fm, lv, mu⟩⟩ 71 [.ptr o 0, .v (.int .i64 m)] d K := by
  have e1 := comps_getD (c :: r) (i := 0) (by simp)
  have hsc := sound_cases (hs c (by simp))
  have htl := hl.text (c := c) (by simp)
  have hcn := hl.2.2 c (by simp)
  simp only [List.getElem_cons_zero] at e1
  have hll := hl.1
  simp only [List.length_cons] at hll
  have hcl := cpts_len c.t
  have q1 : (o = nh) = False := eq_false (by omega)
  have q2 : (o = nh + 1) = False := eq_false (by omega)
  have q3 : (nh = o) = False := eq_false (by omega)
  have q4 : (nh + 1 = o) = False := eq_false (by omega)
  have q5 : (nh = nh + 1) = False := eq_false (by omega)
  have q6 : (nh + 1 = nh) = False := eq_false (by omega)
  refine vcCall_inl (nn := 60) hΓ (by first | assumption | simp [get_cons, get_nil]) Tryd.func71 (by kernel_rfl) rfl (show Tryd.f71.results.toList = [.cell 4 53] from rfl) rfl ?_
  simp only [goRules, coreRules, tiRules, unRules, AS_of_eq, ← decide_not, N0, N1, N2, N3, N4, N5, Z0, Z1, Z2, Z3, Z4, Z5, Z6, Z7, Z8, Z9, Z10, Zc, ↓reduceIte, reduceCtorEq, ho, comps_len, e1, List.length_cons, q1, q2, q3, q4, q5, q6]
  (repeat (with_reducible refine And.intro ?_ ?_; focus (first | omega | exact mixed1 | kernel_rfl)))
  refine call_wlen hΓ hE hD hR (dn := dn) (r := c :: r) (by simp only [upd, q1, q2, if_false]; exact ho) hl hs (by omega) (by simp; omega) ?_
  rw [lenW]
  have q7 : IntKind.wrap .i64 ((dn : Int) + m) = ((dn + m : Nat) : Int) := by rw [wrap_i64 (by omega) (by omega)]; omega
  by_cases h2 : c.k = 2
  · rw [part, if_pos h2] at hk
    have hz : size c = (cpts c.t).length := by rw [size, if_pos h2]
    have hv : pts c.t = some (cpts c.t) := by
      rcases hsc with ⟨_, _, _, hv⟩ | ⟨h, _⟩
      · exact isSome_cpts hv
      · omega
    have hr : sliceR c.t dn ((dn + m : Nat) : Int) = res2 (.v (sv (encs (((cpts c.t).drop dn).take m)))) 0 := by
      unfold sliceR
      rw [hv]
      simp only
      rw [if_pos (by omega), Int.toNat_natCast, Int.toNat_natCast, show dn + m - dn = m by omega]
    simp only [goRules, coreRules, tiRules, unRules, AS_of_eq, ← decide_not, N0, N1, N2, N3, N4, N5, Z0, Z1, Z2, Z3, Z4, Z5, Z6, Z7, Z8, Z9, Z10, Zc, ↓reduceIte, reduceCtorEq, ho, comps_len, e1, List.length_cons, comps_tail, h2, q1, q2, q3, q4, q5, q6, q7]
    (repeat (with_reducible refine And.intro ?_ ?_; focus (first | omega | exact mixed1 | kernel_rfl)))
    refine call_slice (by first | assumption | simp [get_cons]) htl (by omega) (by omega) ?_
    rw [hr]
    by_cases h3 : dn + m = size c
    · rw [advR, if_pos h3, advD, if_pos h3] at hk
      simp only [goRules, coreRules, tiRules, unRules, AS_of_eq, ← decide_not, N0, N1, N2, N3, N4, N5, Z0, Z1, Z2, Z3, Z4, Z5, Z6, Z7, Z8, Z9, Z10, Zc, ↓reduceIte, reduceCtorEq, ho, comps_len, e1, List.length_cons, comps_tail, h2, q1, q2, q3, q4, q5, q6, q7, res2, show ((m : Int) = ((size c - dn : Nat) : Int)) = True from eq_true (by omega)]
      (repeat (with_reducible refine And.intro ?_ ?_; focus (first | omega | exact mixed1 | kernel_rfl)))
      try rw [h2] at hk
      refine hk _ ?_ ?_
      · simp only [upd, q1, q2, if_true, if_false] <;> rfl
      · intro j hj hne
        simp only [upd, if_neg hne, if_neg (show ¬ j = nh by omega), if_neg (show ¬ j = nh + 1 by omega)]
    · rw [advR, if_neg h3, advD, if_neg h3] at hk
      simp only [goRules, coreRules, tiRules, unRules, AS_of_eq, ← decide_not, N0, N1, N2, N3, N4, N5, Z0, Z1, Z2, Z3, Z4, Z5, Z6, Z7, Z8, Z9, Z10, Zc, ↓reduceIte, reduceCtorEq, ho, comps_len, e1, List.length_cons, comps_tail, h2, q1, q2, q3, q4, q5, q6, q7, res2, show ((m : Int) = ((size c - dn : Nat) : Int)) = False from eq_false (by omega)]
      (repeat (with_reducible refine And.intro ?_ ?_; focus (first | omega | exact mixed1 | kernel_rfl)))
      try rw [h2] at hk
      refine hk _ ?_ ?_
      · simp only [upd, q1, q2, if_true, if_false] <;> rfl
      · intro j hj hne
        simp only [upd, if_neg hne, if_neg (show ¬ j = nh by omega), if_neg (show ¬ j = nh + 1 by omega)]
  · rw [part, if_neg h2] at hk
    by_cases h3 : dn + m = size c
    · rw [advR, if_pos h3, advD, if_pos h3] at hk
      simp only [goRules, coreRules, tiRules, unRules, AS_of_eq, ← decide_not, N0, N1, N2, N3, N4, N5, Z0, Z1, Z2, Z3, Z4, Z5, Z6, Z7, Z8, Z9, Z10, Zc, ↓reduceIte, reduceCtorEq, ho, comps_len, e1, List.length_cons, comps_tail, h2, q1, q2, q3, q4, q5, q6, q7, show ((m : Int) = ((size c - dn : Nat) : Int)) = True from eq_true (by omega)]
      (repeat (with_reducible refine And.intro ?_ ?_; focus (first | omega | exact mixed1 | kernel_rfl)))
      try rw [h2] at hk
      refine hk _ ?_ ?_
      · simp only [upd, q1, q2, if_true, if_false] <;> rfl
      · intro j hj hne
        simp only [upd, if_neg hne, if_neg (show ¬ j = nh by omega), if_neg (show ¬ j = nh + 1 by omega)]
    · rw [advR, if_neg h3, advD, if_neg h3] at hk
      simp only [goRules, coreRules, tiRules, unRules, AS_of_eq, ← decide_not, N0, N1, N2, N3, N4, N5, Z0, Z1, Z2, Z3, Z4, Z5, Z6, Z7, Z8, Z9, Z10, Zc, ↓reduceIte, reduceCtorEq, ho, comps_len, e1, List.length_cons, comps_tail, h2, q1, q2, q3, q4, q5, q6, q7, show ((m : Int) = ((size c - dn : Nat) : Int)) = False from eq_false (by omega)]
      (repeat (with_reducible refine And.intro ?_ ?_; focus (first | omega | exact mixed1 | kernel_rfl)))
      try rw [h2] at hk
      refine hk _ ?_ ?_
      · simp only [upd, q1, q2, if_true, if_false] <;> rfl
      · intro j hj hne
        simp only [upd, if_neg hne, if_neg (show ¬ j = nh by omega), if_neg (show ¬ j = nh + 1 by omega)]
end Go.Proofs
end

-- CAw2
section
namespace Go.Proofs
open Go Go.Rw
set_option maxRecDepth 100000
set_option linter.unusedSimpArgs false
set_option linter.unusedVariables false

theorem twoU_d : ∀ (n : Nat) (x y : List Un), twoU (List.replicate n .d ++ x) y = List.replicate n .d ++ twoU x y
  | 0, _, _ => rfl
  | n + 1, x, y => by rw [List.replicate_succ, List.cons_append, twoU, twoU_d n]; rfl
theorem twoU_i : ∀ (cs : List Nat) (x y : List Un), (∀ z, x ≠ .d :: z) → twoU x (cs.map .i ++ y) = cs.map .i ++ twoU x y
  | [], _, _, _ => rfl
  | c :: cs, x, y, h => by
    rw [List.map_cons, List.cons_append, List.cons_append, ← twoU_i cs x y h]
    cases x with
    | nil => rw [twoU]
    | cons a x => cases a with
      | r => rw [twoU]
      | i a => rw [twoU]
      | d => exact absurd rfl (h x)
theorem twoU_rr : ∀ (n : Nat) (x y : List Un), twoU (List.replicate n .r ++ x) (List.replicate n .r ++ y) = List.replicate n .r ++ twoU x y
  | 0, _, _ => rfl
  | n + 1, x, y => by simp only [List.replicate_succ, List.cons_append]; rw [twoU, twoU_rr n]
theorem twoU_rd : ∀ (n : Nat) (x y : List Un), twoU (List.replicate n .r ++ x) (List.replicate n .d ++ y) = List.replicate n .d ++ twoU x y
  | 0, _, _ => rfl
  | n + 1, x, y => by simp only [List.replicate_succ, List.cons_append]; rw [twoU, twoU_rd n]
theorem twoU_ir : ∀ (cs : List Nat) (n : Nat) (x y : List Un), cs.length = n → twoU (cs.map .i ++ x) (List.replicate n .r ++ y) = cs.map .i ++ twoU x y
  | [], n, _, _, h => by subst h; rfl
  | c :: cs, n, x, y, h => by subst h; simp only [List.map_cons, List.length_cons, List.replicate_succ, List.cons_append]; rw [twoU, twoU_ir cs _ _ _ rfl]
theorem twoU_id : ∀ (cs : List Nat) (n : Nat) (x y : List Un), cs.length = n → twoU (cs.map .i ++ x) (List.replicate n .d ++ y) = twoU x y
  | [], n, _, _, h => by subst h; rfl
  | c :: cs, n, x, y, h => by subst h; simp only [List.map_cons, List.length_cons, List.replicate_succ, List.cons_append]; rw [twoU, twoU_id cs _ _ _ rfl]

/-- A walk: the parts ahead, and how much of the first one is gone. -/
def wOk (w : List Cp × Nat) : Prop := (∀ c ∈ w.1, sound c = true) ∧ (w.1 = [] → w.2 = 0) ∧ ∀ c r, w.1 = c :: r → w.2 < size c
def wU (w : List Cp × Nat) : List Un := (unL w.1).drop w.2
def adv (w : List Cp × Nat) (n : Nat) : List Cp × Nat := match w with
  | ([], a) => ([], a)
  | (c :: r, a) => (advR c r a n, advD c a n)
def piece (w : List Cp × Nat) (n : Nat) : Cp := match w with
  | ([], _) => ⟨0, 0, []⟩
  | (c :: _, a) => part c a n
theorem unP_part {c : Cp} {a n : Nat} (hs : sound c = true) (h : a + n ≤ size c) : unP (part c a n) = ((unP c).drop a).take n := by
  unfold part size at *
  unfold unP
  rcases sound_cases hs with ⟨h2, _, _, hv⟩ | ⟨h1 | h3, _⟩
  · rw [if_pos h2]
    simp only [h2, if_true]
    rw [cpts_enc (fun x hx => (encs_cpts hv).2 x (List.mem_of_mem_drop (List.mem_of_mem_take hx))), List.map_take, List.map_drop]
  · rw [if_neg (by omega)] at h
    simp only [h1, List.drop_replicate, List.take_replicate, if_neg (show ¬ (1 : Int) = 2 by decide), if_true, Int.toNat_natCast]
    congr 1; omega
  · rw [if_neg (by omega)] at h
    simp only [h3, List.drop_replicate, List.take_replicate, if_neg (show ¬ (3 : Int) = 2 by decide), if_neg (show ¬ (3 : Int) = 1 by decide), if_true, Int.toNat_natCast]
    congr 1; omega
theorem part_sound {c : Cp} {a n : Nat} (hs : sound c = true) (h : a + n ≤ size c) (hn : 0 < n) : sound (part c a n) = true := by
  unfold part size at *
  rcases sound_cases hs with ⟨h2, h0, _, hv⟩ | ⟨h13, _, ht⟩
  · rw [if_pos h2] at h ⊢
    have hp := pts_enc (cs := ((cpts c.t).drop a).take n) (fun x hx => (encs_cpts hv).2 x (List.mem_of_mem_drop (List.mem_of_mem_take hx)))
    have hne : encs (((cpts c.t).drop a).take n) ≠ [] := by
      intro e
      have h1 := encs_le (((cpts c.t).drop a).take n)
      rw [e, List.length_take, List.length_drop] at h1
      simp at h1
      omega
    unfold sound
    simp [h2, h0, hp, hne]
  · rw [if_neg (by omega)]
    unfold sound
    simp [ht]
    rcases h13 with h | h <;> simp [h, hn]
theorem wU_adv {w : List Cp × Nat} {n : Nat} (h : wOk w) (hn : w.2 + n ≤ (w.1.headD ⟨0, 0, []⟩ |> size) ∨ w.1 = []) : wU (adv w n) = (wU w).drop n ∧ (0 < n → wOk (adv w n)) := by
  obtain ⟨r, a⟩ := w
  obtain ⟨h1, h2, h3⟩ := h
  cases r with
  | nil =>
    have e0 : a = 0 := h2 rfl
    subst e0
    exact ⟨by simp [wU, adv, unL], fun _ => ⟨by simp [adv], by simp [adv], by simp [adv]⟩⟩
  | cons c r =>
    simp only [List.headD_cons, reduceCtorEq, or_false] at hn
    have hl := unP_len (sound_k (h1 c (by simp)))
    simp only [wU, adv, advR, advD]
    by_cases hz : a + n = size c
    · rw [if_pos hz, if_pos hz, List.drop_drop, unL, show a + n = (unP c).length by omega, List.drop_left]
      refine ⟨by simp, fun _ => ⟨fun x hx => h1 x (by simp [hx]), fun _ => rfl, fun c' r' e => ?_⟩⟩
      simp only at e
      subst e
      exact size_pos (h1 c' (by simp))
    · rw [if_neg hz, if_neg hz, List.drop_drop]
      refine ⟨rfl, fun _ => ⟨h1, fun e => by simp at e, fun c' r' e => ?_⟩⟩
      simp only [List.cons.injEq] at e
      obtain ⟨rfl, rfl⟩ := e
      show a + n < size c
      omega
/-- Two edits as one, before it is put in order. -/
def twoF : Nat → List Cp × Nat → List Cp × Nat → List Cp
  | 0, _, _ => []
  | f + 1, x, y =>
    if kindL x.1 = 3 then piece x (lenW x.1 x.2) :: twoF f (adv x (lenW x.1 x.2)) y
    else if kindL y.1 = 2 then piece y (lenW y.1 y.2) :: twoF f x (adv y (lenW y.1 y.2))
    else if kindL x.1 = 0 ∨ kindL y.1 = 0 then []
    else
      let n := min (lenW x.1 x.2) (lenW y.1 y.2)
      (if kindL y.1 = 1 then [piece x n] else if kindL x.1 = 1 then [piece y n] else []) ++ twoF f (adv x n) (adv y n)
theorem unP_shape {c : Cp} (h : sound c = true) : (c.k = 1 → unP c = List.replicate (size c) .r) ∧ (c.k = 3 → unP c = List.replicate (size c) .d) ∧ (c.k = 2 → unP c = (cpts c.t).map .i ∧ (cpts c.t).length = size c) := by
  unfold unP size
  refine ⟨fun h => by simp [h], fun h => by simp [h], fun h => by simp [h]⟩
theorem size_part {c : Cp} {a n : Nat} (hs : sound c = true) (h : a + n ≤ size c) (hn : 0 < n) : size (part c a n) = n := by
  rw [← unP_len (sound_k (part_sound hs h hn)), unP_part hs h, List.length_take, List.length_drop, unP_len (sound_k hs)]
  omega
theorem part_k {c : Cp} {a n : Nat} : (part c a n).k = c.k := by unfold part; split <;> rfl
/-- What comes first, and what is behind it. -/
theorem wU_split {w : List Cp × Nat} {n : Nat} (h : wOk w) (hk : kindL w.1 ≠ 0) (hn : 0 < n) (hl : n ≤ lenW w.1 w.2) :
    wU w = unP (piece w n) ++ wU (adv w n) ∧ wOk (adv w n) ∧ sound (piece w n) = true ∧ size (piece w n) = n ∧ (piece w n).k = kindL w.1 ∧ (wU w).length = n + (wU (adv w n)).length := by
  obtain ⟨r, a⟩ := w
  cases r with
  | nil => simp [kindL] at hk
  | cons c r =>
    have hs := h.1 c (by simp)
    have hlt := h.2.2 c r rfl
    simp only [lenW] at hl
    have hle : a + n ≤ size c := by simp only at hlt; omega
    obtain ⟨e1, e2⟩ := wU_adv (n := n) h (.inl (by simpa using hle))
    have hul := unP_len (sound_k hs)
    have e3 : wU (c :: r, a) = unP (part c a n) ++ wU (adv (c :: r, a) n) := by
      rw [e1, unP_part hs hle]
      show (unP c ++ unL r).drop a = _
      have e4 : (unP c ++ unL r).drop a = (unP c).drop a ++ unL r := by rw [List.drop_append_of_le_length (by omega)]
      have e5 : (wU (c :: r, a)) = (unP c).drop a ++ unL r := e4
      rw [e4, e5, List.drop_append_of_le_length (by rw [List.length_drop]; omega), ← List.append_assoc, List.take_append_drop]
    refine ⟨e3, e2 hn, part_sound hs hle hn, size_part hs hle hn, part_k, ?_⟩
    rw [e3, List.length_append]
    show (unP (part c a n)).length + _ = _
    rw [unP_len (sound_k (part_sound hs hle hn)), size_part hs hle hn]
theorem lenW_pos {w : List Cp × Nat} (h : wOk w) (hk : kindL w.1 ≠ 0) : 0 < lenW w.1 w.2 := by
  obtain ⟨r, a⟩ := w
  cases r with
  | nil => simp [kindL] at hk
  | cons c r =>
    have := h.2.2 c r rfl
    simp only [lenW] at this ⊢; omega
theorem kind_of {w : List Cp × Nat} (h : wOk w) : kindL w.1 = 0 ∧ wU w = [] ∨ kindL w.1 = 1 ∨ kindL w.1 = 2 ∨ kindL w.1 = 3 := by
  obtain ⟨r, a⟩ := w
  cases r with
  | nil => left; exact ⟨rfl, by simp [wU, unL]⟩
  | cons c r =>
    right
    exact sound_k (h.1 c (by simp))
/-- The whole of what comes first. -/
theorem wU_first {w : List Cp × Nat} (h : wOk w) : (kindL w.1 = 1 → ∃ n z, wU w = List.replicate (n + 1) .r ++ z) ∧ (kindL w.1 = 3 → ∃ n z, wU w = List.replicate (n + 1) .d ++ z) ∧ (kindL w.1 = 2 → ∃ c cs z, wU w = (c :: cs).map .i ++ z) := by
  refine ⟨fun hk => ?_, fun hk => ?_, fun hk => ?_⟩
  all_goals
    have hp := lenW_pos h (by omega)
    obtain ⟨e1, e2, e3, e4, e5, e6⟩ := wU_split h (by omega) hp (Nat.le_refl _)
    obtain ⟨s1, s2, s3⟩ := unP_shape e3
    rw [e4] at s1 s2 s3
  · rw [s1 (by omega)] at e1
    exact ⟨lenW w.1 w.2 - 1, _, by rw [e1]; congr 2; omega⟩
  · rw [s2 (by omega)] at e1
    exact ⟨lenW w.1 w.2 - 1, _, by rw [e1]; congr 2; omega⟩
  · obtain ⟨t1, t2⟩ := s3 (by omega)
    rw [t1] at e1
    cases hc : cpts (piece w (lenW w.1 w.2)).t with
    | nil => rw [hc] at t2; simp at t2; omega
    | cons c cs => exact ⟨c, cs, _, by rw [e1, hc]⟩
theorem not_d {w : List Cp × Nat} (h : wOk w) (hk : kindL w.1 ≠ 3) : ∀ z, wU w ≠ .d :: z := by
  intro z e
  obtain ⟨f1, f2, f3⟩ := wU_first h
  rcases kind_of h with ⟨_, h0⟩ | h1 | h2 | h3
  · rw [h0] at e; cases e
  · obtain ⟨n, y, e1⟩ := f1 h1; rw [e1, List.replicate_succ] at e; cases e
  · obtain ⟨c, cs, y, e1⟩ := f3 h2; rw [e1] at e; cases e
  · exact hk h3
theorem two_units : ∀ (f : Nat) (x y : List Cp × Nat), wOk x → wOk y → (wU x).length + (wU y).length ≤ f → unL (twoF f x y) = twoU (wU x) (wU y) ∧ ∀ c ∈ twoF f x y, sound c = true
  | 0, x, y, hx, hy, hf => by
    have h1 : wU x = [] := List.eq_nil_of_length_eq_zero (by omega)
    have h2 : wU y = [] := List.eq_nil_of_length_eq_zero (by omega)
    rw [h1, h2, twoF, twoU] <;> simp [unL]
  | f + 1, x, y, hx, hy, hf => by
    have fx := wU_first hx
    have fy := wU_first hy
    rw [twoF]
    by_cases c1 : kindL x.1 = 3
    · rw [if_pos c1]
      have hp := lenW_pos hx (by omega)
      obtain ⟨e1, e2, e3, e4, e5, e6⟩ := wU_split hx (by omega) hp (Nat.le_refl _)
      obtain ⟨i1, i2⟩ := two_units f _ y e2 hy (by omega)
      rw [unL, i1, e1, (unP_shape e3).2.1 (by omega), twoU_d]
      exact ⟨rfl, fun c hc => by rcases List.mem_cons.1 hc with rfl | hc; exact e3; exact i2 c hc⟩
    rw [if_neg c1]
    have hnd := not_d hx c1
    by_cases c2 : kindL y.1 = 2
    · rw [if_pos c2]
      have hp := lenW_pos hy (by omega)
      obtain ⟨e1, e2, e3, e4, e5, e6⟩ := wU_split hy (by omega) hp (Nat.le_refl _)
      obtain ⟨i1, i2⟩ := two_units f x _ hx e2 (by omega)
      rw [unL, i1, e1, ((unP_shape e3).2.2 (by omega)).1, twoU_i _ _ _ hnd]
      exact ⟨rfl, fun c hc => by rcases List.mem_cons.1 hc with rfl | hc; exact e3; exact i2 c hc⟩
    rw [if_neg c2]
    by_cases c3 : kindL x.1 = 0 ∨ kindL y.1 = 0
    · rw [if_pos c3]
      refine ⟨?_, by simp⟩
      show [] = _
      rcases c3 with c3 | c3
      · rcases kind_of hx with ⟨_, h0⟩ | h | h | h <;> try omega
        rw [h0]
        rcases kind_of hy with ⟨_, h0⟩ | h | h | h
        · rw [h0, twoU] <;> simp
        · obtain ⟨n, z, e⟩ := fy.1 h; rw [e, List.replicate_succ, List.cons_append, twoU] <;> simp
        · omega
        · obtain ⟨n, z, e⟩ := fy.2.1 h; rw [e, List.replicate_succ, List.cons_append, twoU] <;> simp
      · rcases kind_of hy with ⟨_, h0⟩ | h | h | h <;> try omega
        rw [h0]
        rcases kind_of hx with ⟨_, h0⟩ | h | h | h
        · rw [h0, twoU] <;> simp
        · obtain ⟨n, z, e⟩ := fx.1 h; rw [e, List.replicate_succ, List.cons_append, twoU] <;> simp
        · obtain ⟨c, cs, z, e⟩ := fx.2.2 h; rw [e, List.map_cons, List.cons_append, twoU] <;> simp
        · omega
    rw [if_neg c3]
    have c4 : kindL x.1 ≠ 0 := fun h => c3 (.inl h)
    have c5 : kindL y.1 ≠ 0 := fun h => c3 (.inr h)
    have hpx := lenW_pos hx c4
    have hpy := lenW_pos hy c5
    simp only
    generalize hn : min (lenW x.1 x.2) (lenW y.1 y.2) = n
    obtain ⟨e1, e2, e3, e4, e5, e6⟩ := wU_split (n := n) hx c4 (by omega) (by omega)
    obtain ⟨g1, g2, g3, g4, g5, g6⟩ := wU_split (n := n) hy c5 (by omega) (by omega)
    obtain ⟨i1, i2⟩ := two_units f _ _ e2 g2 (by omega)
    rw [unL_app, i1, e1, g1]
    obtain ⟨s1, s2, s3⟩ := unP_shape e3
    obtain ⟨t1, t2, t3⟩ := unP_shape g3
    rw [e4] at s1 s2 s3
    rw [g4] at t1 t2 t3
    have hkx : kindL x.1 = 1 ∨ kindL x.1 = 2 := by rcases kind_of hx with h | h | h | h <;> omega
    have hky : kindL y.1 = 1 ∨ kindL y.1 = 3 := by rcases kind_of hy with h | h | h | h <;> omega
    rcases hky with hky | hky
    · rw [if_pos hky, t1 (by omega)]
      refine ⟨?_, fun c hc => by
        rcases List.mem_append.1 hc with hc | hc
        · rw [List.mem_singleton.1 hc]; exact e3
        · exact i2 c hc⟩
      simp only [unL, List.append_nil]
      rcases hkx with hkx | hkx
      · rw [s1 (by omega), twoU_rr]
      · obtain ⟨s4, s5⟩ := s3 (by omega)
        rw [s4, twoU_ir _ _ _ _ s5]
    · rw [if_neg (by omega), t2 (by omega)]
      rcases hkx with hkx | hkx
      · rw [if_pos hkx]
        refine ⟨?_, fun c hc => by
          rcases List.mem_append.1 hc with hc | hc
          · rw [List.mem_singleton.1 hc]; exact g3
          · exact i2 c hc⟩
        simp only [unL, List.append_nil]
        rw [s1 (by omega), t2 (by omega), twoU_rd]
      · rw [if_neg (by omega)]
        refine ⟨?_, fun c hc => i2 c (by simpa using hc)⟩
        obtain ⟨s4, s5⟩ := s3 (by omega)
        rw [s4, twoU_id _ _ _ _ s5]; rfl
end Go.Proofs
end

-- CAw3
section
namespace Go.Proofs
open Go Go.Rw
set_option maxRecDepth 100000
set_option linter.unusedSimpArgs false
set_option linter.unusedVariables false

theorem ulen_le : ∀ u : List Un, u.length ≤ bU u + oU u
  | [] => by simp [bU, oU]
  | .r :: u => by have := ulen_le u; simp only [List.length_cons, bU, oU]; omega
  | .d :: u => by have := ulen_le u; simp only [List.length_cons, bU, oU]; omega
  | .i _ :: u => by have := ulen_le u; simp only [List.length_cons, bU, oU]; omega
theorem out_units {l : List Cp} (h : checkI l = 0) : outL l = oU (unL l) ∧ baseL l = bU (unL l) ∧ (unL l).length ≤ 4000 := by
  obtain ⟨h1, h2, h3, h4, h5, h6⟩ := check_cases h
  have hb := base_units l h3
  have hf : fit (List.replicate (bU (unL l)) 1) l := ⟨h3, by rw [List.length_replicate]; omega⟩
  have h7 := out_do l (List.replicate (bU (unL l)) 1) 0 (by omega) hf h6
  rw [do_units l _ h3, do_len _ _ (by simp)] at h7
  have h8 := ulen_le (unL l)
  have h9 : outL l = outF 0 l := rfl
  omega
theorem okL_tail {c : Cp} {r : List Cp} (h : okL (c :: r)) : okL r := by
  obtain ⟨h1, h2, h3⟩ := h
  simp only [List.length_cons, tot] at h1 h2
  exact ⟨by omega, by omega, fun x hx => h3 x (by simp [hx])⟩
theorem size_text {c : Cp} (h : sound c = true) : c.t.length ≤ 4 * size c ∧ 0 ≤ c.n ∧ c.n ≤ size c := by
  unfold size
  rcases sound_cases h with ⟨h2, h0, _, hv⟩ | ⟨h13, hp, ht⟩
  · rw [if_pos h2]
    have := encs_ge (cpts c.t)
    rw [(encs_cpts hv).1] at this
    omega
  · rw [if_neg (by omega), ht]
    simp; omega
theorem okL_units : ∀ {l : List Cp}, (∀ c ∈ l, sound c = true) → l.length ≤ (unL l).length ∧ tot l ≤ 4 * (unL l).length ∧ ∀ c ∈ l, 0 ≤ c.n ∧ c.n ≤ (unL l).length
  | [], _ => by simp [unL, tot]
  | c :: r, h => by
    have hs := h c (by simp)
    obtain ⟨h1, h2, h3⟩ := okL_units (l := r) (fun x hx => h x (by simp [hx]))
    have h4 := size_pos hs
    have h5 := unP_len (sound_k hs)
    obtain ⟨h6, h7, h8⟩ := size_text hs
    simp only [unL, tot, List.length_append, List.length_cons]
    refine ⟨by omega, by omega, fun x hx => ?_⟩
    rcases List.mem_cons.1 hx with rfl | hx
    · omega
    · have := h3 x hx; omega
theorem okL_raw {l : List Cp} (h : ∀ c ∈ l, sound c = true) (hb : (unL l).length ≤ 100000) : okL l := by
  obtain ⟨h1, h2, h3⟩ := okL_units h
  exact ⟨by omega, by omega, fun c hc => by have := h3 c hc; omega⟩
/-- A walk that may be taken. -/
def WOK (w : List Cp × Nat) : Prop := wOk w ∧ okL w.1 ∧ ∀ c ∈ w.1, size c ≤ 100000
theorem WOK_adv {w : List Cp × Nat} {n : Nat} (h : WOK w) (hk : kindL w.1 ≠ 0) (hn : 0 < n) (hl : n ≤ lenW w.1 w.2) : WOK (adv w n) := by
  refine ⟨(wU_split h.1 hk hn hl).2.1, ?_, ?_⟩
  · obtain ⟨r, a⟩ := w
    cases r with
    | nil => simp [kindL] at hk
    | cons c r =>
      show okL (advR c r a n)
      unfold advR
      split
      · exact okL_tail h.2.1
      · exact h.2.1
  · obtain ⟨r, a⟩ := w
    cases r with
    | nil => simp [kindL] at hk
    | cons c r =>
      intro x hx
      have hx2 : x ∈ advR c r a n := hx
      unfold advR at hx2
      split at hx2
      · exact h.2.2 x (by simp [hx2])
      · exact h.2.2 x hx2
theorem WOK_init {l : List Cp} (h : checkI l = 0) (ho : okL l) : WOK (l, 0) := by
  obtain ⟨h1, h2, h3, h4, h5, h6⟩ := check_cases h
  refine ⟨⟨h3, fun _ => rfl, fun c r e => ?_⟩, ho, fun c hc => ?_⟩
  · have e2 : l = c :: r := e
    exact size_pos (h3 c (by rw [e2]; simp))
  · have h7 := (out_units h).2.2
    obtain ⟨a, b, e⟩ := List.append_of_mem hc
    have e0 : l = a ++ c :: b := e
    have e2 : (unL l).length = (unL a).length + ((unP c).length + (unL b).length) := by rw [e0, unL_app, unL]; simp
    rw [unP_len (sound_k (h3 c hc))] at e2
    show size c ≤ 100000
    omega
theorem lenW_le {w : List Cp × Nat} (h : WOK w) : lenW w.1 w.2 ≤ 100000 ∧ w.2 ≤ 100000 ∧ (w.1 ≠ [] → w.2 ≤ size (w.1.headD ⟨0, 0, []⟩)) := by
  obtain ⟨r, a⟩ := w
  cases r with
  | nil => have := h.1.2.1 rfl; simp only at this; simp [lenW, this]
  | cons c r =>
    have h1 := h.2.2 c (by simp)
    have h2 := h.1.2.2 c r rfl
    simp only at h2
    simp only [lenW, List.headD_cons]
    exact ⟨by omega, by omega, fun _ => by omega⟩
theorem kind_nil {w : List Cp × Nat} (h : kindL w.1 ≠ 0) : ∃ c r a, w = (c :: r, a) := by
  obtain ⟨r, a⟩ := w
  cases r with
  | nil => simp [kindL] at h
  | cons c r => exact ⟨c, r, a, rfl⟩
theorem call_wkd {Γ : Env} (hΓ : GoodEnv Tryd.prog Γ) (hC : Γ.get 70 = none) {n : Nat} {t : Nat → AV} {hd : Nat → Nat → AV} {nh nl : Nat} {h : Nat → Option AO} {fm : Nat → Nat} {lv : Nat → Option (Nat × Nat)} {mu : Bool} {o : Nat} {w : List Cp × Nat} {d : Option Nat} {K : AS → Prop}
    (hw : WOK w) (ho : h o = some (.cells [.sl 0 3 (comps w.1), .v (.int .i64 w.2)]))
    (hk : cont ⟨n, t, hd, ⟨nh, h, nl, fm, lv, mu⟩⟩ d (.v (.int .i64 (kindL w.1))) K) : vcCall Tryd.prog Γ false ⟨n, t, hd, ⟨nh, h, nl, fm, lv, mu⟩⟩ 70 [.ptr o 0] d K :=
  call_wkind hΓ hC ho hw.2.1.1 hk
theorem call_wln {Γ : Env} (hΓ : GoodEnv Tryd.prog Γ) (hC : Γ.get 72 = none) (hD : Γ.get 70 = none) (hR : Γ.get 92 = some rcCon) {n : Nat} {t : Nat → AV} {hd : Nat → Nat → AV} {nh nl : Nat} {h : Nat → Option AO} {fm : Nat → Nat} {lv : Nat → Option (Nat × Nat)} {mu : Bool} {o : Nat} {w : List Cp × Nat} {d : Option Nat} {K : AS → Prop}
    (hw : WOK w) (ho : h o = some (.cells [.sl 0 3 (comps w.1), .v (.int .i64 w.2)]))
    (hk : cont ⟨n, t, hd, ⟨nh, h, nl, fm, lv, mu⟩⟩ d (.v (.int .i64 (lenW w.1 w.2))) K) : vcCall Tryd.prog Γ false ⟨n, t, hd, ⟨nh, h, nl, fm, lv, mu⟩⟩ 72 [.ptr o 0] d K := by
  obtain ⟨h1, h2, h3⟩ := lenW_le hw
  exact call_wlen hΓ hC hD hR ho hw.2.1 hw.1.1 (by omega) h3 hk
theorem call_wtk {Γ : Env} (hΓ : GoodEnv Tryd.prog Γ) (hC : Γ.get 71 = none) (hE : Γ.get 72 = none) (hD : Γ.get 70 = none) (hR : Γ.get 92 = some rcCon) (hS : Γ.get 94 = some sliceCon) {n : Nat} {t : Nat → AV} {hd : Nat → Nat → AV} {nh nl : Nat} {h : Nat → Option AO} {fm : Nat → Nat} {lv : Nat → Option (Nat × Nat)} {mu : Bool} {o : Nat} {w : List Cp × Nat} {m : Nat} {d : Option Nat} {K : AS → Prop}
    (hn : o < nh) (hw : WOK w) (hkk : kindL w.1 ≠ 0) (hm : m ≤ lenW w.1 w.2) (ho : h o = some (.cells [.sl 0 3 (comps w.1), .v (.int .i64 w.2)]))
    (hk : ∀ h' : Nat → Option AO, h' o = some (.cells [.sl 0 3 (comps (adv w m).1), .v (.int .i64 (adv w m).2)]) → (∀ j, j < nh → j ≠ o → h' j = h j) → cont ⟨n, t, hd, ⟨nh + 2, h', nl, fm, lv, mu⟩⟩ d (cA (piece w m)) K) :
    vcCall Tryd.prog Γ false ⟨n, t, hd, ⟨nh, h, nl, fm, lv, mu⟩⟩ 71 [.ptr o 0, .v (.int .i64 m)] d K := by
  obtain ⟨c, r, a, rfl⟩ := kind_nil hkk
  have h1 := hw.1.2.2 c r rfl
  have h2 := hw.2.2 c (by simp)
  simp only [lenW] at hm
  simp only at h1
  exact call_wtake hΓ hC hE hD hR hS hn ho hw.2.1 hw.1.1 (by omega) (by omega) hk
def twoN (a b : List Cp) : List Cp := nf (twoF ((unL a).length + (unL b).length) (a, 0) (b, 0))
def twoE (a b : List Cp) : Int := if checkI a = 0 then (if checkI b = 0 then (if outL a = baseL b then 0 else 11) else checkI b) else checkI a
def twoR (a b : List Cp) : AV := if twoE a b = 0 then res2 (.sl 0 3 (comps (twoN a b))) 0 else res2 (.sl 0 3 []) (twoE a b)
abbrev twoCon : Con where
  ι := Ed × Ed
  args := fun p => [.sl 0 3 (comps p.1.1), .sl 0 3 (comps p.2.1)]
  post := fun p r => r = twoR p.1.1 p.2.1
theorem twoU_len (x y : List Un) : (twoU x y).length ≤ x.length + y.length := by
  induction x, y using twoU.induct with
  | case9 x y h1 h2 h3 h4 h5 h6 h7 h8 => rw [twoU] <;> first | assumption | simp
  | _ => rw [twoU]; simp only [List.length_cons] at *; omega
theorem two_raw {a b : List Cp} (h1 : checkI a = 0) (h2 : checkI b = 0) (o1 : okL a) (o2 : okL b) :
    unL (twoF ((unL a).length + (unL b).length) (a, 0) (b, 0)) = twoU (unL a) (unL b) ∧ (∀ c ∈ twoF ((unL a).length + (unL b).length) (a, 0) (b, 0), sound c = true) ∧ okL (twoF ((unL a).length + (unL b).length) (a, 0) (b, 0)) := by
  have w1 := WOK_init h1 o1
  have w2 := WOK_init h2 o2
  obtain ⟨i1, i2⟩ := two_units ((unL a).length + (unL b).length) (a, 0) (b, 0) w1.1 w2.1 (by simp [wU])
  have e1 : wU (a, 0) = unL a := by simp [wU]
  have e2 : wU (b, 0) = unL b := by simp [wU]
  rw [e1, e2] at i1
  refine ⟨i1, i2, okL_raw i2 ?_⟩
  rw [i1]
  have := twoU_len (unL a) (unL b)
  have := (out_units h1).2.2
  have := (out_units h2).2.2
  omega
end Go.Proofs
end

-- CAw4
section
namespace Go.Proofs
open Go Go.Rw
set_option maxRecDepth 100000
set_option linter.unusedSimpArgs false
set_option linter.unusedVariables false

theorem twoE_zero {a b : List Cp} (h : twoE a b = 0) : checkI a = 0 ∧ checkI b = 0 ∧ outL a = baseL b := by
  unfold twoE at h
  split at h
  · split at h
    · split at h
      · exact ⟨by assumption, by assumption, by assumption⟩
      · cases h
    · exact absurd h (by assumption)
  · exact absurd h (by assumption)
abbrev TwSt (e : Prop) (raw : List Cp) := { p : List Cp × (List Cp × Nat) × (List Cp × Nat) × Nat // e ∧ WOK p.2.1 ∧ WOK p.2.2.1 ∧ (wU p.2.1).length + (wU p.2.2.1).length ≤ p.2.2.2 ∧ p.1.length + p.2.2.2 ≤ 10000 ∧ p.1 ++ twoF p.2.2.2 p.2.1 p.2.2.1 = raw }
end Go.Proofs
end

-- CAw5
section
namespace Go.Proofs
open Go Go.Rw
open _root_.Nat renaming reduceAdd → N0, reduceSub → N1, reduceMul → N2, reduceLT → N3, reduceLeDiff → N4, reduceEqDiff → N5
open _root_.Int renaming reduceNeg → Z0, reduceAdd → Z1, reduceSub → Z2, reduceMul → Z3, reduceGT → Z4, reduceGE → Z5, reduceLT → Z6, reduceLE → Z7, reduceEq → Z8, reduceNe → Z9, reduceToNat → Z10, cast_ofNat_Int → Zc
set_option maxRecDepth 100000
set_option linter.unusedSimpArgs false
set_option linter.unusedVariables false

theorem call_rkd {Γ : Env} (hΓ : GoodEnv Tryd.prog Γ) (hC : Γ.get 39 = none) {n : Nat} {t : Nat → AV} {hd : Nat → Nat → AV} {nh nl : Nat} {h : Nat → Option AO} {fm : Nat → Nat} {lv : Nat → Option (Nat × Nat)} {mu : Bool} {o : Nat} {l : List Cp} {at' dn : Nat} {d : Option Nat} {K : AS → Prop}
    (ol : okL l) (ha : at' ≤ l.length) (ho : h o = some (.cells [.sl 0 3 (comps l), .v (.int .i64 at'), .v (.int .i64 dn)]))
    (hk : cont ⟨n, t, hd, ⟨nh, h, nl, fm, lv, mu⟩⟩ d (.v (.int .i64 (kindL (l.drop at')))) K) : vcCall Tryd.prog Γ false ⟨n, t, hd, ⟨nh, h, nl, fm, lv, mu⟩⟩ 39 [.ptr o 0] d K := by
  have hll := ol.1
  refine vcCall_inl (nn := 24) hΓ (by first | assumption | simp [get_cons, get_nil]) Tryd.func39 (by kernel_rfl) rfl (show Tryd.f39.results.toList = [.tmp 2] from rfl) rfl ?_
  by_cases hlt : at' < l.length
  · have e1 := comps_getD l hlt
    have e2 : kindL (l.drop at') = l[at'].k := by rw [List.drop_eq_getElem_cons hlt]; rfl
    rw [e2] at hk
    simp only [goRules, coreRules, tiRules, unRules, AS_of_eq, ← decide_not, N0, N1, N2, N3, N4, N5, Z0, Z1, Z2, Z3, Z4, Z5, Z6, Z7, Z8, Z9, Z10, Zc, ↓reduceIte, reduceCtorEq, ho, comps_len, e1, show ((at' : Int) ≥ l.length) = False from eq_false (by omega)]
    (repeat (with_reducible refine And.intro ?_ ?_; focus (first | omega | exact mixed1 | kernel_rfl)))
    exact hk
  · have e2 : kindL (l.drop at') = 0 := by rw [List.drop_of_length_le (by omega)]; rfl
    rw [e2] at hk
    simp only [goRules, coreRules, tiRules, unRules, AS_of_eq, ← decide_not, N0, N1, N2, N3, N4, N5, Z0, Z1, Z2, Z3, Z4, Z5, Z6, Z7, Z8, Z9, Z10, Zc, ↓reduceIte, reduceCtorEq, ho, comps_len, show ((at' : Int) ≥ l.length) = True from eq_true (by omega)]
    (repeat (with_reducible refine And.intro ?_ ?_; focus (first | omega | exact mixed1 | kernel_rfl)))
    exact hk
theorem call_rln {Γ : Env} (hΓ : GoodEnv Tryd.prog Γ) (hC : Γ.get 41 = none) (hR : Γ.get 29 = some rcountCon) {n : Nat} {t : Nat → AV} {hd : Nat → Nat → AV} {nh nl : Nat} {h : Nat → Option AO} {fm : Nat → Nat} {lv : Nat → Option (Nat × Nat)} {mu : Bool} {o : Nat} {l : List Cp} {at' dn : Nat} {d : Option Nat} {K : AS → Prop}
    (hn : o < nh) (hnh : h nh = none) (ol : okL l) (ha : at' < l.length) (hs : sound (l[at']'ha) = true) (hsz : size (l[at']'ha) ≤ 100000) (hdn : dn ≤ size (l[at']'ha)) (ho : h o = some (.cells [.sl 0 3 (comps l), .v (.int .i64 at'), .v (.int .i64 dn)]))
    (hk : ∀ h' : Nat → Option AO, (∀ j, j ≠ nh → h' j = h j) → cont ⟨n, t, hd, ⟨nh + 1, h', nl, fm, lv, mu⟩⟩ d (.v (.int .i64 (size (l[at']'ha) - dn : Nat))) K) : vcCall Tryd.prog Γ false ⟨n, t, hd, ⟨nh, h, nl, fm, lv, mu⟩⟩ 41 [.ptr o 0] d K := by
  have hll := ol.1
  have htl := ol.text (List.getElem_mem ha)
  have hcn := ol.2.2 _ (List.getElem_mem ha)
  have e1 := comps_getD l ha
  have q1 : (o = nh) = False := eq_false (by omega)
  have q3 : (nh = o) = False := eq_false (by omega)
  generalize l[at'] = c at *
  have hsc := sound_cases hs
  refine vcCall_inl (nn := 32) hΓ (by first | assumption | simp [get_cons, get_nil]) Tryd.func41 (by kernel_rfl) rfl (show Tryd.f41.results.toList = [.tmp 2] from rfl) rfl ?_
  simp only [goRules, coreRules, tiRules, unRules, AS_of_eq, ← decide_not, N0, N1, N2, N3, N4, N5, Z0, Z1, Z2, Z3, Z4, Z5, Z6, Z7, Z8, Z9, Z10, Zc, ↓reduceIte, reduceCtorEq, ho, hnh, comps_len, e1, q1, q3]
  (repeat (with_reducible refine And.intro ?_ ?_; focus (first | omega | exact mixed1 | kernel_rfl)))
  by_cases h2 : c.k = 2
  · have hz : size c = (cpts c.t).length := by rw [size, if_pos h2]
    rw [hz] at hsz hdn hk
    simp only [goRules, coreRules, tiRules, unRules, AS_of_eq, ← decide_not, N0, N1, N2, N3, N4, N5, Z0, Z1, Z2, Z3, Z4, Z5, Z6, Z7, Z8, Z9, Z10, Zc, ↓reduceIte, reduceCtorEq, ho, comps_len, e1, q1, q3, h2]
    (repeat (with_reducible refine And.intro ?_ ?_; focus (first | omega | exact mixed1 | kernel_rfl)))
    refine call_rcount (by first | assumption | simp [get_cons]) htl ?_
    rw [cnt_cpts]
    simp only [goRules, coreRules, tiRules, unRules, AS_of_eq, ← decide_not, N0, N1, N2, N3, N4, N5, Z0, Z1, Z2, Z3, Z4, Z5, Z6, Z7, Z8, Z9, Z10, Zc, ↓reduceIte, reduceCtorEq, ho, comps_len, e1, q1, q3, h2, wrap_i64 (n := ((cpts c.t).length : Int) - dn) (by omega) (by omega)]
    try (repeat (with_reducible refine And.intro ?_ ?_; focus (first | omega | exact mixed1 | kernel_rfl)))
    rw [show ((cpts c.t).length : Int) - dn = (((cpts c.t).length - dn : Nat) : Int) by omega]
    refine hk _ ?_
    intro j hne
    simp only [upd, if_neg hne]
  · have hz : size c = c.n.toNat := by rw [size, if_neg h2]
    rw [hz] at hsz hdn hk
    have hp : 0 < c.n := by
      rcases hsc with ⟨h, _⟩ | ⟨_, hp, _⟩
      · exact absurd h h2
      · exact hp
    simp only [goRules, coreRules, tiRules, unRules, AS_of_eq, ← decide_not, N0, N1, N2, N3, N4, N5, Z0, Z1, Z2, Z3, Z4, Z5, Z6, Z7, Z8, Z9, Z10, Zc, ↓reduceIte, reduceCtorEq, ho, comps_len, e1, q1, q3, h2, wrap_i64 (n := c.n - dn) (by omega) (by omega)]
    try (repeat (with_reducible refine And.intro ?_ ?_; focus (first | omega | exact mixed1 | kernel_rfl)))
    rw [show c.n - dn = ((c.n.toNat - dn : Nat) : Int) by omega]
    refine hk _ ?_
    intro j hne
    simp only [upd, if_neg hne]
theorem call_rtk {Γ : Env} (hΓ : GoodEnv Tryd.prog Γ) (hC : Γ.get 40 = none) (hE : Γ.get 41 = none) (hR : Γ.get 29 = some rcountCon) (hS : Γ.get 31 = some rsliceCon) {n : Nat} {t : Nat → AV} {hd : Nat → Nat → AV} {nh nl : Nat} {h : Nat → Option AO} {fm : Nat → Nat} {lv : Nat → Option (Nat × Nat)} {mu : Bool} {o : Nat} {l : List Cp} {at' dn m : Nat} {d : Option Nat} {K : AS → Prop}
    (hn : o < nh) (hnh : ∀ j, nh ≤ j → h j = none) (ol : okL l) (hw : WOK (l.drop at', dn)) (hkk : kindL (l.drop at') ≠ 0) (hm : m ≤ lenW (l.drop at') dn) (ho : h o = some (.cells [.sl 0 3 (comps l), .v (.int .i64 at'), .v (.int .i64 dn)]))
    (hk : ∀ (h' : Nat → Option AO) (b : Nat), h' o = some (.cells [.sl 0 3 (comps l), .v (.int .i64 b), .v (.int .i64 (adv (l.drop at', dn) m).2)]) → l.drop b = (adv (l.drop at', dn) m).1 → b ≤ l.length → (∀ j, j < nh → j ≠ o → h' j = h j) → (∀ j, nh + 4 ≤ j → h' j = none) → cont ⟨n, t, hd, ⟨nh + 4, h', nl, fm, lv, mu⟩⟩ d (cA (piece (l.drop at', dn) m)) K) :
    vcCall Tryd.prog Γ false ⟨n, t, hd, ⟨nh, h, nl, fm, lv, mu⟩⟩ 40 [.ptr o 0, .v (.int .i64 m)] d K := by
  have hlt : at' < l.length := by
    rcases Nat.lt_or_ge at' l.length with h | h
    · exact h
    · rw [List.drop_of_length_le h] at hkk; simp [kindL] at hkk
  have hdr := List.drop_eq_getElem_cons hlt
  have hll := ol.1
  have htl := ol.text (List.getElem_mem hlt)
  have hcn := ol.2.2 _ (List.getElem_mem hlt)
  have e1 := comps_getD l hlt
  have hs := hw.1.1 l[at'] (by rw [hdr]; exact List.mem_cons_self)
  have hdl := hw.1.2.2 l[at'] (l.drop (at' + 1)) hdr
  have hsz := hw.2.2 l[at'] (by rw [hdr]; exact List.mem_cons_self)
  simp only at hdl
  have hlw : lenW (l.drop at') dn = size l[at'] - dn := by rw [hdr]; rfl
  rw [hlw] at hm
  have hpc : piece (l.drop at', dn) m = part l[at'] dn m := by rw [hdr]; rfl
  have had : adv (l.drop at', dn) m = (advR l[at'] (l.drop (at' + 1)) dn m, advD l[at'] dn m) := by rw [hdr]; rfl
  rw [hpc, had] at hk
  simp only at hk
  have q1 : (o = nh) = False := eq_false (by omega)
  have q2 : (o = nh + 1) = False := eq_false (by omega)
  have q3 : (nh = o) = False := eq_false (by omega)
  have q4 : (nh + 1 = o) = False := eq_false (by omega)
  have q5 : (nh = nh + 1) = False := eq_false (by omega)
  have q6 : (nh + 1 = nh) = False := eq_false (by omega)
  have q8 : (o = nh + 1 + 1) = False := eq_false (by omega)
  have q9 : (nh + 1 + 1 = o) = False := eq_false (by omega)
  have qa : (nh + 1 + 1 = nh) = False := eq_false (by omega)
  have qb : (nh + 1 + 1 = nh + 1) = False := eq_false (by omega)
  have qc : (nh = nh + 1 + 1) = False := eq_false (by omega)
  have qd : (nh + 1 = nh + 1 + 1) = False := eq_false (by omega)
  have q7 : IntKind.wrap .i64 ((dn : Int) + m) = ((dn + m : Nat) : Int) := by rw [wrap_i64 (by omega) (by omega)]; omega
  have qe : IntKind.wrap .i64 ((at' : Int) + 1) = ((at' + 1 : Nat) : Int) := by rw [wrap_i64 (by omega) (by omega)]; omega
  have n0 := hnh nh (by omega)
  have n1 := hnh (nh + 1) (by omega)
  have n2 := hnh (nh + 1 + 1) (by omega)
  have n3 := hnh (nh + 1 + 1 + 1) (by omega)
  generalize hcc : l[at'] = c at *
  have hsc := sound_cases hs
  have hcl := cpts_len c.t
  -- what follows when the piece is put together
  refine vcCall_inl (nn := 61) hΓ (by first | assumption | simp [get_cons, get_nil]) Tryd.func40 (by kernel_rfl) rfl (show Tryd.f40.results.toList = [.cell 4 53] from rfl) rfl ?_
  simp only [goRules, coreRules, tiRules, unRules, AS_of_eq, ← decide_not, N0, N1, N2, N3, N4, N5, Z0, Z1, Z2, Z3, Z4, Z5, Z6, Z7, Z8, Z9, Z10, Zc, ↓reduceIte, reduceCtorEq, ho, n0, n1, n2, comps_len, e1, q1, q2, q3, q4, q5, q6, q7]
  (repeat (with_reducible refine And.intro ?_ ?_; focus (first | omega | exact mixed1 | kernel_rfl)))
  by_cases h2 : c.k = 2
  · simp only [goRules, coreRules, tiRules, unRules, AS_of_eq, ← decide_not, N0, N1, N2, N3, N4, N5, Z0, Z1, Z2, Z3, Z4, Z5, Z6, Z7, Z8, Z9, Z10, Zc, ↓reduceIte, reduceCtorEq, ho, n0, n1, n2, comps_len, e1, q1, q2, q3, q4, q5, q6, q7, q8, q9, qa, qb, qc, qd, h2, List.map_cons, List.map_nil]
    (repeat (with_reducible refine And.intro ?_ ?_; focus (first | omega | exact mixed1 | kernel_rfl)))
    rcases hsc with ⟨_, h0, _, hv⟩ | ⟨h, _⟩
    case inr => omega
    have hz : size c = (cpts c.t).length := by rw [size, if_pos h2]
    obtain ⟨te, tok⟩ := encs_cpts hv
    rw [← te]
    refine call_rslice (by first | assumption | simp [get_cons]) tok (by rw [te]; exact htl) (by omega) ?_
    rw [te, Int.toNat_natCast, Int.toNat_natCast, show dn + m - dn = m by omega]
    rw [part, if_pos h2, h0, h2] at hk
    simp only [goRules, coreRules, tiRules, unRules, AS_of_eq, ← decide_not, N0, N1, N2, N3, N4, N5, Z0, Z1, Z2, Z3, Z4, Z5, Z6, Z7, Z8, Z9, Z10, Zc, ↓reduceIte, reduceCtorEq, ho, n0, n1, n2, comps_len, e1, q1, q2, q3, q4, q5, q6, q7, q8, q9, qa, qb, qc, qd, h2, List.map_cons, List.map_nil]
    try (repeat (with_reducible refine And.intro ?_ ?_; focus (first | omega | exact mixed1 | kernel_rfl)))
    refine call_rln (l := l) (at' := at') (dn := dn + m) hΓ (by first | assumption | simp [get_cons, get_nil]) (by first | assumption | simp [get_cons]) (by omega) (by simp only [upd, show ¬ nh + 1 + 1 + 1 = nh + 1 + 1 by omega, show ¬ nh + 1 + 1 + 1 = nh + 1 by omega, show ¬ nh + 1 + 1 + 1 = nh by omega, show ¬ nh + 1 + 1 + 1 = o by omega, if_false]; exact n3) ol hlt (by rw [hcc]; exact hs) (by rw [hcc]; exact hsz) (by rw [hcc]; omega) (by simp only [upd, q1, q2, q8, if_true, if_false] <;> rfl) ?_
    intro h' hj
    rw [hcc]
    have j0 := hj nh (by omega)
    have j1 := hj (nh + 1) (by omega)
    have j2 := hj (nh + 1 + 1) (by omega)
    have jo := hj o (by omega)
    have frame : ∀ j, j < nh → j ≠ o → h' j = h j := fun j h1 h2 => by
      rw [hj j (by omega)]
      simp only [upd, if_neg h2, if_neg (show ¬ j = nh by omega), if_neg (show ¬ j = nh + 1 by omega), if_neg (show ¬ j = nh + 1 + 1 by omega)]
    have above : ∀ j, nh + 1 + 1 + 1 + 1 ≤ j → h' j = none := fun j h1 => by
      rw [hj j (by omega)]
      simp only [upd, if_neg (show ¬ j = o by omega), if_neg (show ¬ j = nh by omega), if_neg (show ¬ j = nh + 1 by omega), if_neg (show ¬ j = nh + 1 + 1 by omega)]
      exact hnh j (by omega)
    by_cases h3 : dn + m = size c
    · rw [advR, if_pos h3, advD, if_pos h3] at hk
      simp only [goRules, coreRules, tiRules, unRules, AS_of_eq, ← decide_not, N0, N1, N2, N3, N4, N5, Z0, Z1, Z2, Z3, Z4, Z5, Z6, Z7, Z8, Z9, Z10, Zc, ↓reduceIte, reduceCtorEq, j0, j1, j2, jo, q1, q2, q3, q4, q5, q6, q8, q9, qa, qb, qc, qd, qe, show (((size c - (dn + m) : Nat) : Int) = 0) = True from eq_true (by omega)]
      try (repeat (with_reducible refine And.intro ?_ ?_; focus (first | omega | exact mixed1 | kernel_rfl)))
      skip
      refine hk _ (at' + 1) ?_ rfl (by omega) ?_ ?_
      · simp only [upd, q1, q2, q8, if_true, if_false] <;> rfl
      · intro j h4 h5
        simp only [upd, if_neg h5, if_neg (show ¬ j = nh by omega)]
        exact frame j h4 h5
      · intro j h4
        simp only [upd, if_neg (show ¬ j = o by omega), if_neg (show ¬ j = nh by omega)]
        exact above j h4
    · rw [advR, if_neg h3, advD, if_neg h3] at hk
      simp only [goRules, coreRules, tiRules, unRules, AS_of_eq, ← decide_not, N0, N1, N2, N3, N4, N5, Z0, Z1, Z2, Z3, Z4, Z5, Z6, Z7, Z8, Z9, Z10, Zc, ↓reduceIte, reduceCtorEq, j0, j1, j2, jo, q1, q2, q3, q4, q5, q6, q8, q9, qa, qb, qc, qd, qe, show (((size c - (dn + m) : Nat) : Int) = 0) = False from eq_false (by omega)]
      try (repeat (with_reducible refine And.intro ?_ ?_; focus (first | omega | exact mixed1 | kernel_rfl)))
      skip
      refine hk _ at' ?_ (by rw [List.drop_eq_getElem_cons hlt, hcc]) (by omega) ?_ ?_
      · simp only [upd, q1, q2, q8, if_true, if_false, jo] <;> rfl
      · intro j h4 h5
        simp only [upd, if_neg h5, if_neg (show ¬ j = nh by omega)]
        exact frame j h4 h5
      · intro j h4
        simp only [upd, if_neg (show ¬ j = o by omega), if_neg (show ¬ j = nh by omega)]
        exact above j h4
  · rcases hsc with ⟨h, _⟩ | ⟨_, _, ht0⟩
    · exact absurd h h2
    rw [part, if_neg h2, ht0] at hk
    simp only [goRules, coreRules, tiRules, unRules, AS_of_eq, ← decide_not, N0, N1, N2, N3, N4, N5, Z0, Z1, Z2, Z3, Z4, Z5, Z6, Z7, Z8, Z9, Z10, Zc, ↓reduceIte, reduceCtorEq, ho, n0, n1, n2, comps_len, e1, q1, q2, q3, q4, q5, q6, q7, q8, q9, qa, qb, qc, qd, h2, List.map_cons, List.map_nil]
    try (repeat (with_reducible refine And.intro ?_ ?_; focus (first | omega | exact mixed1 | kernel_rfl)))
    refine call_rln (l := l) (at' := at') (dn := dn + m) hΓ (by first | assumption | simp [get_cons, get_nil]) (by first | assumption | simp [get_cons]) (by omega) (by simp only [upd, show ¬ nh + 1 + 1 + 1 = nh + 1 + 1 by omega, show ¬ nh + 1 + 1 + 1 = nh + 1 by omega, show ¬ nh + 1 + 1 + 1 = nh by omega, show ¬ nh + 1 + 1 + 1 = o by omega, if_false]; exact n3) ol hlt (by rw [hcc]; exact hs) (by rw [hcc]; exact hsz) (by rw [hcc]; omega) (by simp only [upd, q1, q2, q8, if_true, if_false] <;> rfl) ?_
    intro h' hj
    rw [hcc]
    have j0 := hj nh (by omega)
    have j1 := hj (nh + 1) (by omega)
    have j2 := hj (nh + 1 + 1) (by omega)
    have jo := hj o (by omega)
    have frame : ∀ j, j < nh → j ≠ o → h' j = h j := fun j h1 h2 => by
      rw [hj j (by omega)]
      simp only [upd, if_neg h2, if_neg (show ¬ j = nh by omega), if_neg (show ¬ j = nh + 1 by omega), if_neg (show ¬ j = nh + 1 + 1 by omega)]
    have above : ∀ j, nh + 1 + 1 + 1 + 1 ≤ j → h' j = none := fun j h1 => by
      rw [hj j (by omega)]
      simp only [upd, if_neg (show ¬ j = o by omega), if_neg (show ¬ j = nh by omega), if_neg (show ¬ j = nh + 1 by omega), if_neg (show ¬ j = nh + 1 + 1 by omega)]
      exact hnh j (by omega)
    by_cases h3 : dn + m = size c
    · rw [advR, if_pos h3, advD, if_pos h3] at hk
      simp only [goRules, coreRules, tiRules, unRules, AS_of_eq, ← decide_not, N0, N1, N2, N3, N4, N5, Z0, Z1, Z2, Z3, Z4, Z5, Z6, Z7, Z8, Z9, Z10, Zc, ↓reduceIte, reduceCtorEq, j0, j1, j2, jo, q1, q2, q3, q4, q5, q6, q8, q9, qa, qb, qc, qd, qe, show (((size c - (dn + m) : Nat) : Int) = 0) = True from eq_true (by omega)]
      try (repeat (with_reducible refine And.intro ?_ ?_; focus (first | omega | exact mixed1 | kernel_rfl)))
      skip
      refine hk _ (at' + 1) ?_ rfl (by omega) ?_ ?_
      · simp only [upd, q1, q2, q8, if_true, if_false] <;> rfl
      · intro j h4 h5
        simp only [upd, if_neg h5, if_neg (show ¬ j = nh by omega)]
        exact frame j h4 h5
      · intro j h4
        simp only [upd, if_neg (show ¬ j = o by omega), if_neg (show ¬ j = nh by omega)]
        exact above j h4
    · rw [advR, if_neg h3, advD, if_neg h3] at hk
      simp only [goRules, coreRules, tiRules, unRules, AS_of_eq, ← decide_not, N0, N1, N2, N3, N4, N5, Z0, Z1, Z2, Z3, Z4, Z5, Z6, Z7, Z8, Z9, Z10, Zc, ↓reduceIte, reduceCtorEq, j0, j1, j2, jo, q1, q2, q3, q4, q5, q6, q8, q9, qa, qb, qc, qd, qe, show (((size c - (dn + m) : Nat) : Int) = 0) = False from eq_false (by omega)]
      try (repeat (with_reducible refine And.intro ?_ ?_; focus (first | omega | exact mixed1 | kernel_rfl)))
      skip
      refine hk _ at' ?_ (by rw [List.drop_eq_getElem_cons hlt, hcc]) (by omega) ?_ ?_
      · simp only [upd, q1, q2, q8, if_true, if_false, jo] <;> rfl
      · intro j h4 h5
        simp only [upd, if_neg h5, if_neg (show ¬ j = nh by omega)]
        exact frame j h4 h5
      · intro j h4
        simp only [upd, if_neg (show ¬ j = o by omega), if_neg (show ¬ j = nh by omega)]
        exact above j h4
end Go.Proofs
end

-- CAw6
section
namespace Go.Proofs
open Go Go.Rw
set_option maxRecDepth 100000
set_option linter.unusedSimpArgs false
set_option linter.unusedVariables false

theorem oU_piece {c : Cp} (h : sound c = true) : oU (unP c) = if c.k = 3 then 0 else size c := by
  obtain ⟨h1, h2, h3⟩ := unP_shape h
  rcases sound_k h with k | k | k
  · rw [h1 k, oU_r, if_neg (by omega)]
  · rw [(h3 k).1, oU_i, if_neg (by omega), (h3 k).2]
  · rw [h2 k, oU_d, if_pos k]
theorem bU_piece {c : Cp} (h : sound c = true) : bU (unP c) = if c.k = 2 then 0 else size c := by
  obtain ⟨h1, h2, h3⟩ := unP_shape h
  rcases sound_k h with k | k | k
  · rw [h1 k, bU_r, if_neg (by omega)]
  · rw [(h3 k).1, bU_i, if_pos k]
  · rw [h2 k, bU_d, if_neg (by omega)]
theorem wU_out {w : List Cp × Nat} {n : Nat} (h : wOk w) (hk : kindL w.1 ≠ 0) (hn : 0 < n) (hl : n ≤ lenW w.1 w.2) :
    oU (wU w) = (if kindL w.1 = 3 then 0 else n) + oU (wU (adv w n)) ∧ bU (wU w) = (if kindL w.1 = 2 then 0 else n) + bU (wU (adv w n)) := by
  obtain ⟨e1, e2, e3, e4, e5, e6⟩ := wU_split h hk hn hl
  rw [e1, oU_app, bU_app, oU_piece e3, bU_piece e3, e4, e5]
  exact ⟨rfl, rfl⟩
theorem kind_out {w : List Cp × Nat} (h : wOk w) : (oU (wU w) = 0 → kindL w.1 = 0 ∨ kindL w.1 = 3) ∧ (bU (wU w) = 0 → kindL w.1 = 0 ∨ kindL w.1 = 2) := by
  by_cases hk : kindL w.1 = 0
  · exact ⟨fun _ => .inl hk, fun _ => .inl hk⟩
  · have hp := lenW_pos h hk
    obtain ⟨h1, h2⟩ := wU_out h hk hp (Nat.le_refl _)
    constructor
    · intro h0; right
      by_cases h3 : kindL w.1 = 3
      · exact h3
      · rw [if_neg h3] at h1; omega
    · intro h0; right
      by_cases h3 : kindL w.1 = 2
      · exact h3
      · rw [if_neg h3] at h2; omega
theorem call_rlw {Γ : Env} (hΓ : GoodEnv Tryd.prog Γ) (hC : Γ.get 41 = none) (hR : Γ.get 29 = some rcountCon) {n : Nat} {t : Nat → AV} {hd : Nat → Nat → AV} {nh nl : Nat} {h : Nat → Option AO} {fm : Nat → Nat} {lv : Nat → Option (Nat × Nat)} {mu : Bool} {o : Nat} {l : List Cp} {at' dn : Nat} {d : Option Nat} {K : AS → Prop}
    (hn : o < nh) (hnh : ∀ j, nh ≤ j → h j = none) (ol : okL l) (hw : WOK (l.drop at', dn)) (hkk : kindL (l.drop at') ≠ 0) (ho : h o = some (.cells [.sl 0 3 (comps l), .v (.int .i64 at'), .v (.int .i64 dn)]))
    (hk : ∀ h' : Nat → Option AO, (∀ j, j < nh → h' j = h j) → (∀ j, nh + 1 ≤ j → h' j = none) → cont ⟨n, t, hd, ⟨nh + 1, h', nl, fm, lv, mu⟩⟩ d (.v (.int .i64 (lenW (l.drop at') dn))) K) : vcCall Tryd.prog Γ false ⟨n, t, hd, ⟨nh, h, nl, fm, lv, mu⟩⟩ 41 [.ptr o 0] d K := by
  have hlt : at' < l.length := by
    rcases Nat.lt_or_ge at' l.length with h | h
    · exact h
    · rw [List.drop_of_length_le h] at hkk; simp [kindL] at hkk
  have hdr := List.drop_eq_getElem_cons hlt
  have hs := hw.1.1 l[at'] (by rw [hdr]; exact List.mem_cons_self)
  have hdl := hw.1.2.2 l[at'] (l.drop (at' + 1)) hdr
  have hsz := hw.2.2 l[at'] (by rw [hdr]; exact List.mem_cons_self)
  simp only at hdl
  have hlw : lenW (l.drop at') dn = size l[at'] - dn := by rw [hdr]; rfl
  rw [hlw] at hk
  refine call_rln hΓ hC hR hn (hnh nh (by omega)) ol hlt hs hsz (by omega) ho ?_
  intro h' hj
  exact hk h' (fun j h1 => hj j (by omega)) (fun j h1 => by rw [hj j (by omega)]; exact hnh j (by omega))
abbrev RT (a b raw : List Cp) := { p : List Cp × (Nat × Nat) × (Nat × Nat) × Nat // (p.2.1.1 ≤ a.length ∧ p.2.2.1.1 ≤ b.length) ∧ WOK (a.drop p.2.1.1, p.2.1.2) ∧ WOK (b.drop p.2.2.1.1, p.2.2.1.2) ∧ (wU (a.drop p.2.1.1, p.2.1.2)).length + (wU (b.drop p.2.2.1.1, p.2.2.1.2)).length ≤ p.2.2.2 ∧ p.1.length + p.2.2.2 ≤ 10000 ∧ p.1 ++ twoF p.2.2.2 (a.drop p.2.1.1, p.2.1.2) (b.drop p.2.2.1.1, p.2.2.1.2) = raw ∧ oU (wU (a.drop p.2.1.1, p.2.1.2)) = bU (wU (b.drop p.2.2.1.1, p.2.2.1.2)) }
end Go.Proofs
end

-- CAw7
section
namespace Go.Proofs
open Go Go.Rw
set_option maxRecDepth 100000
set_option linter.unusedSimpArgs false
set_option linter.unusedVariables false

theorem twoR_er (a b : List Cp) : (twoR a b).er = twoR a b := by
  unfold twoR
  split <;> simp [res2, AV.er, AV.erL]
theorem call_two {Γ : Env} {f : Nat} (hf : Γ.get f = some twoCon) {σ : AS} {dr : Bool} {a b : List Cp} {ys zs : List AV} {d : Option Nat} {K : AS → Prop} (hy : ys = comps a) (hz : zs = comps b) (oa : okL a) (ob : okL b)
    (hk : cont σ d (twoR a b) K) : vcCall Tryd.prog Γ dr σ f [.sl 0 3 ys, .sl 0 3 zs] d K := by
  subst hy hz
  exact vcCall_fn (C := twoCon) (i := (⟨a, oa⟩, ⟨b, ob⟩)) (r := twoR a b) hf rfl rfl rfl rfl (fun _ h => h) (by rw [twoR_er]; exact hk)
/-- Edits, one behind the other. -/
def allS : List Cp → List (List Cp) → List Cp × Int
  | out, [] => (out, 0)
  | out, x :: r => if twoE out x = 0 then allS (twoN out x) r else ([], twoE out x)
def edits (l : List (List Cp)) : List AV := l.map fun x => .sl 0 3 (comps x)
theorem edits_len (l : List (List Cp)) : (edits l).length = l.length := by simp [edits]
theorem edits_getD (l : List (List Cp)) {i : Nat} (h : i < l.length) : (edits l).getD i .any = .sl 0 3 (comps l[i]) := by
  simp [edits, List.getD_eq_getElem?_getD, h]
abbrev Eds := { l : List (List Cp) // l.length ≤ 1099511627776 ∧ ∀ x ∈ l, okL x }
abbrev allCon : Con where
  ι := I64 × Eds
  args := fun p => [.v (.int .i64 p.1.1), .sl 0 1 (edits p.2.1)]
  post := fun p r => r = res2 (.sl 0 3 (comps (allS (keepL p.1.1) p.2.1).1)) (allS (keepL p.1.1) p.2.1).2
theorem okL_nf {l : List Cp} (h : okL l) (hb : l.length ≤ 100000) : okL (nf l) := by
  obtain ⟨h1, h2, h3⟩ := nfF_ok l 0 [] 0 (by omega) (by omega)
  have h4 := h.2.1
  rw [List.length_nil] at h2
  unfold nf
  exact ⟨by omega, by omega, fun c hc => by have := h3 c hc; omega⟩
theorem two_rawlen {a b : List Cp} (h1 : checkI a = 0) (h2 : checkI b = 0) (o1 : okL a) (o2 : okL b) : (twoF ((unL a).length + (unL b).length) (a, 0) (b, 0)).length ≤ 100000 := by
  obtain ⟨r1, r2, r3⟩ := two_raw h1 h2 o1 o2
  have := (okL_units r2).1
  rw [r1] at this
  have := twoU_len (unL a) (unL b)
  have := (out_units h1).2.2
  have := (out_units h2).2.2
  omega
theorem okL_two {a b : List Cp} (h : twoE a b = 0) (oa : okL a) (ob : okL b) : okL (twoN a b) := by
  obtain ⟨h1, h2, _⟩ := twoE_zero h
  exact okL_nf (two_raw h1 h2 oa ob).2.2 (two_rawlen h1 h2 oa ob)
theorem okL_keep {n : Int} (hn : -9223372036854775808 ≤ n ∧ n ≤ 9223372036854775807) : okL (keepL n) := by
  unfold keepL
  split
  · exact ⟨by simp, by simp [tot], by simp⟩
  · exact ⟨by simp, by simp [tot], by simpa using hn⟩
theorem call_all {Γ : Env} {f : Nat} (hf : Γ.get f = some allCon) {σ : AS} {dr : Bool} {n : Int} {l : List (List Cp)} {tg : Nat} {ys : List AV} {d : Option Nat} {K : AS → Prop} (htg : tg ≤ 1) (hy : ys = edits l) (hn : -9223372036854775808 ≤ n ∧ n ≤ 9223372036854775807) (hl : l.length ≤ 1099511627776) (ho : ∀ x ∈ l, okL x)
    (hk : cont σ d (res2 (.sl 0 3 (comps (allS (keepL n) l).1)) (allS (keepL n) l).2) K) : vcCall Tryd.prog Γ dr σ f [.v (.int .i64 n), .sl tg 1 ys] d K := by
  subst hy
  have ht : tg = 0 ∨ tg = 1 := by omega
  rcases ht with rfl | rfl
  · refine vcCall_fn (C := allCon) (i := (⟨n, hn⟩, ⟨l, hl, ho⟩)) (r := res2 (.sl 0 3 (comps (allS (keepL n) l).1)) (allS (keepL n) l).2) hf rfl rfl rfl rfl (fun _ h => h) ?_
    exact hk
  · refine vcCall_fn (C := allCon) (i := (⟨n, hn⟩, ⟨l, hl, ho⟩)) (r := res2 (.sl 0 3 (comps (allS (keepL n) l).1)) (allS (keepL n) l).2) hf rfl rfl rfl rfl (fun _ h => h) ?_
    exact hk
end Go.Proofs
end
