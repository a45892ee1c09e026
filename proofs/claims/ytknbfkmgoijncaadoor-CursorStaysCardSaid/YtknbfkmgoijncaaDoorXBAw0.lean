/-
  Edits, unit by unit. Plain.
-/
import Derived.Test.YtknbfkmgoijncaaDoorXBAq0
set_option linter.unusedSimpArgs false
set_option linter.unusedVariables false
set_option linter.defProp false

-- BAw0
section
namespace Go.Proofs
open Go Go.Rw
set_option maxRecDepth 100000
set_option linter.unusedSimpArgs false
set_option linter.unusedVariables false

/-- A unit of an edit: a code point kept, or gone, or put in. -/
inductive Un where
  | r
  | d
  | i (c : Nat)
  deriving DecidableEq
def size (c : Cp) : Nat := if c.k = 2 then (cpts c.t).length else c.n.toNat
def unP (c : Cp) : List Un := if c.k = 2 then (cpts c.t).map .i else if c.k = 1 then List.replicate c.n.toNat .r else if c.k = 3 then List.replicate c.n.toNat .d else []
def unL : List Cp → List Un
  | [] => []
  | c :: r => unP c ++ unL r
theorem unL_app : ∀ a b : List Cp, unL (a ++ b) = unL a ++ unL b
  | [], _ => rfl
  | c :: a, b => by simp [unL, unL_app a b]
theorem unP_len {c : Cp} (h : c.k = 1 ∨ c.k = 2 ∨ c.k = 3) : (unP c).length = size c := by
  unfold unP size
  rcases h with h | h | h <;> simp [h]
theorem sound_k {c : Cp} (h : sound c = true) : c.k = 1 ∨ c.k = 2 ∨ c.k = 3 := by
  rcases sound_cases h with ⟨h, _⟩ | ⟨h | h, _⟩ <;> simp [h]
theorem size_pos {c : Cp} (h : sound c = true) : 0 < size c := by
  unfold size
  rcases sound_cases h with ⟨h2, _, hne, hv⟩ | ⟨h13, hp, _⟩
  · rw [if_pos h2]; have := cpts_ne hv hne; omega
  · rw [if_neg (by omega)]; omega
def doU : List Nat → List Un → List Nat
  | _, [] => []
  | cs, .i c :: u => c :: doU cs u
  | cs, .d :: u => doU cs.tail u
  | [], .r :: u => doU [] u
  | c :: cs, .r :: u => c :: doU cs u
theorem doU_ins : ∀ (xs cs : List Nat) (u : List Un), doU cs (xs.map .i ++ u) = xs ++ doU cs u
  | [], _, _ => rfl
  | x :: xs, cs, u => by simp only [List.map_cons, List.cons_append, doU]; rw [doU_ins xs cs u]
theorem doU_del : ∀ (n : Nat) (cs : List Nat) (u : List Un), doU cs (List.replicate n .d ++ u) = doU (cs.drop n) u
  | 0, _, _ => rfl
  | n + 1, cs, u => by
    simp only [List.replicate_succ, List.cons_append, doU]
    rw [doU_del n]
    cases cs <;> simp
theorem doU_ret : ∀ (n : Nat) (cs : List Nat) (u : List Un), doU cs (List.replicate n .r ++ u) = cs.take n ++ doU (cs.drop n) u
  | 0, _, _ => rfl
  | n + 1, [], u => by
    simp only [List.replicate_succ, List.cons_append, doU]
    rw [doU_ret n]; simp
  | n + 1, c :: cs, u => by
    simp only [List.replicate_succ, List.cons_append, doU]
    rw [doU_ret n]; simp
theorem do_units : ∀ (l : List Cp) (cs : List Nat), (∀ c ∈ l, sound c = true) → doL cs l = doU cs (unL l)
  | [], _, _ => rfl
  | c :: r, cs, h => by
    have hs := h c (by simp)
    have hr := fun x hx => h x (List.mem_cons_of_mem c hx)
    rcases sound_cases hs with ⟨h2, _⟩ | ⟨h1 | h3, _⟩
    · rw [do_ins (sound_some hs) h2, unL, unP, if_pos h2, doU_ins, do_units r _ hr]
    · rw [do_ret (sound_some hs) (by omega) (by omega), unL, unP, if_neg (by omega), if_pos h1, doU_ret, do_units r _ hr]
    · rw [do_del (sound_some hs) h3, unL, unP, if_neg (by omega), if_neg (by omega), if_pos h3, doU_del, do_units r _ hr]
def bU : List Un → Nat
  | [] => 0
  | .i _ :: u => bU u
  | _ :: u => bU u + 1
def oU : List Un → Nat
  | [] => 0
  | .d :: u => oU u
  | _ :: u => oU u + 1
theorem bU_app : ∀ a b : List Un, bU (a ++ b) = bU a + bU b
  | [], b => by simp [bU]
  | .i _ :: a, b => by simp [bU, bU_app a b]
  | .r :: a, b => by simp [bU, bU_app a b]; omega
  | .d :: a, b => by simp [bU, bU_app a b]; omega
theorem oU_app : ∀ a b : List Un, oU (a ++ b) = oU a + oU b
  | [], b => by simp [oU]
  | .i _ :: a, b => by simp [oU, oU_app a b]; omega
  | .r :: a, b => by simp [oU, oU_app a b]; omega
  | .d :: a, b => by simp [oU, oU_app a b]
theorem bU_i : ∀ xs : List Nat, bU (xs.map .i) = 0
  | [] => rfl
  | x :: xs => by simp [bU, bU_i xs]
theorem oU_i : ∀ xs : List Nat, oU (xs.map .i) = xs.length
  | [] => rfl
  | x :: xs => by simp [oU, oU_i xs]
theorem bU_r : ∀ n, bU (List.replicate n .r) = n
  | 0 => rfl
  | n + 1 => by simp [List.replicate_succ, bU, bU_r n]
theorem oU_r : ∀ n, oU (List.replicate n .r) = n
  | 0 => rfl
  | n + 1 => by simp [List.replicate_succ, oU, oU_r n]
theorem bU_d : ∀ n, bU (List.replicate n .d) = n
  | 0 => rfl
  | n + 1 => by simp [List.replicate_succ, bU, bU_d n]
theorem oU_d : ∀ n, oU (List.replicate n .d) = 0
  | 0 => rfl
  | n + 1 => by simp [List.replicate_succ, oU, oU_d n]
theorem base_units : ∀ (l : List Cp), (∀ c ∈ l, sound c = true) → (bU (unL l) : Int) = tn l
  | [], _ => rfl
  | c :: r, h => by
    have hr := base_units r (fun x hx => h x (List.mem_cons_of_mem c hx))
    rcases sound_cases (h c (by simp)) with ⟨h2, h0, _⟩ | ⟨h1 | h3, h0, _⟩
    · simp only [unL, tn, bU_app]; rw [unP, if_pos h2, bU_i]; omega
    · simp only [unL, tn, bU_app]; rw [unP, if_neg (by omega), if_pos h1, bU_r]; omega
    · simp only [unL, tn, bU_app]; rw [unP, if_neg (by omega), if_neg (by omega), if_pos h3, bU_d]; omega
theorem do_len : ∀ (u : List Un) (cs : List Nat), cs.length = bU u → (doU cs u).length = oU u
  | [], _, _ => rfl
  | .i c :: u, cs, h => by simp only [doU, oU, List.length_cons]; rw [do_len u cs h]
  | .d :: u, cs, h => by
    simp only [doU, oU]
    rw [do_len u cs.tail (by simp only [bU] at h; rw [List.length_tail]; omega)]
  | .r :: u, [], h => by simp [bU] at h
  | .r :: u, c :: cs, h => by
    simp only [doU, oU, List.length_cons]
    rw [do_len u cs (by simpa [bU] using h)]
/-- One edit, then another one. -/
def twoU : List Un → List Un → List Un
  | .d :: x, y => .d :: twoU x y
  | [], .i c :: y => .i c :: twoU [] y
  | .r :: x, .i c :: y => .i c :: twoU (.r :: x) y
  | .i a :: x, .i c :: y => .i c :: twoU (.i a :: x) y
  | .r :: x, .r :: y => .r :: twoU x y
  | .r :: x, .d :: y => .d :: twoU x y
  | .i a :: x, .r :: y => .i a :: twoU x y
  | .i a :: x, .d :: y => twoU x y
  | _, _ => []
termination_by x y => x.length + y.length
theorem do_twoU (x y : List Un) : ∀ cs : List Nat, cs.length = bU x → bU y = oU x → doU cs (twoU x y) = doU (doU cs x) y := by
  induction x, y using twoU.induct with
  | case1 y x ih =>
    intro cs h1 h2
    rw [twoU, doU, doU]
    exact ih cs.tail (by simp only [bU] at h1; rw [List.length_tail]; omega) (by simpa [oU] using h2)
  | case2 c y ih =>
    intro cs h1 h2
    have h3 := ih cs h1 (by simpa [bU] using h2)
    rw [twoU]
    simp only [doU] at h3 ⊢
    rw [h3]
  | case3 x c y ih =>
    intro cs h1 h2
    rw [twoU, doU, ih cs h1 (by simpa [bU] using h2)]
    simp only [doU]
  | case4 a x c y ih =>
    intro cs h1 h2
    rw [twoU, doU, ih cs h1 (by simpa [bU] using h2)]
    simp only [doU]
  | case5 x y ih =>
    intro cs h1 h2
    cases cs with
    | nil => simp [bU] at h1
    | cons c cs =>
      rw [twoU]
      simp only [doU]
      rw [ih cs (by simpa [bU] using h1) (by simpa [bU, oU] using h2)]
  | case6 x y ih =>
    intro cs h1 h2
    cases cs with
    | nil => simp [bU] at h1
    | cons c cs =>
      rw [twoU]
      simp only [doU, List.tail_cons]
      rw [ih cs (by simpa [bU] using h1) (by simpa [bU, oU] using h2)]
  | case7 a x y ih =>
    intro cs h1 h2
    rw [twoU]
    simp only [doU]
    rw [ih cs (by simpa [bU] using h1) (by simpa [bU, oU] using h2)]
  | case8 a x y ih =>
    intro cs h1 h2
    rw [twoU]
    simp only [doU, List.tail_cons]
    rw [ih cs (by simpa [bU] using h1) (by simpa [bU, oU] using h2)]
  | case9 x y h1 h2 h3 h4 h5 h6 h7 h8 =>
    intro cs e1 e2
    cases y with
    | nil => cases x with
      | nil => rw [twoU] <;> first | rfl | simp
      | cons a x => cases a <;> simp_all [oU, bU]
    | cons b y => cases x with
      | nil => cases b <;> simp_all [oU, bU]
      | cons a x => cases a <;> cases b <;> first | exact (h4 _ _ _ _ rfl rfl).elim | simp_all
theorem two_len (x y : List Un) : bU y = oU x → bU (twoU x y) = bU x ∧ oU (twoU x y) = oU y := by
  induction x, y using twoU.induct with
  | case1 y x ih =>
    intro h
    have := ih (by simpa [oU] using h)
    rw [twoU]; simp only [bU, oU]; omega
  | case2 c y ih =>
    intro h
    have := ih (by simpa [bU] using h)
    rw [twoU]; simp only [bU, oU]; simp only [bU, oU] at this; omega
  | case3 x c y ih =>
    intro h
    have := ih (by simpa [bU] using h)
    rw [twoU]; simp only [bU, oU]; simp only [bU, oU] at this; omega
  | case4 a x c y ih =>
    intro h
    have := ih (by simpa [bU] using h)
    rw [twoU]; simp only [bU, oU]; simp only [bU, oU] at this; omega
  | case5 x y ih =>
    intro h
    have := ih (by simpa [bU, oU] using h)
    rw [twoU]; simp only [bU, oU]; omega
  | case6 x y ih =>
    intro h
    have := ih (by simpa [bU, oU] using h)
    rw [twoU]; simp only [bU, oU]; omega
  | case7 a x y ih =>
    intro h
    have := ih (by simpa [bU, oU] using h)
    rw [twoU]; simp only [bU, oU]; omega
  | case8 a x y ih =>
    intro h
    have := ih (by simpa [bU, oU] using h)
    rw [twoU]; simp only [bU, oU]; omega
  | case9 x y h1 h2 h3 h4 h5 h6 h7 h8 =>
    intro e
    cases y with
    | nil => cases x with
      | nil => rw [twoU] <;> first | simp [bU, oU] | simp
      | cons a x => cases a <;> simp_all [oU, bU]
    | cons b y => cases x with
      | nil => cases b <;> simp_all [oU, bU]
      | cons a x => cases a <;> cases b <;> first | exact (h4 _ _ _ _ rfl rfl).elim | simp_all
end Go.Proofs
end
