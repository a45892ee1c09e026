/-
  Edits, unit by unit. Plain. Walks along an edit: their Kind, Len and Take, reckoned in place. Two edits as one, kA8 by kA8. Plain. compose.Two, walked. compose.Two, walked. The document's walks. The document's Two. Keep, All: the program's, the document's.
-/
import Derived.Test.YtmhpninemdmbkaaGreatDoorXZAq0
set_option linter.unusedSimpArgs false
set_option linter.unusedVariables false
set_option linter.defProp false

-- ZAw0
section
namespace Go.Proofs
open Go Go.Rw
set_option maxRecDepth 100000
set_option linter.unusedSimpArgs false
set_option linter.unusedVariables false

/-- A unit of an edit: a code point kept, or gone, or put in. -/
inductive Un where
  | r
  | d
  | i (c : Nat)
  deriving DecidableEq
def size (c : Cp) : Nat := if c.k = 2 then (cpts c.t).length else c.n.toNat
def unP (c : Cp) : List Un := if c.k = 2 then (cpts c.t).map .i else if c.k = 1 then List.replicate c.n.toNat .r else if c.k = 3 then List.replicate c.n.toNat .d else []
def unL : List Cp → List Un
  | [] => []
  | c :: r => unP c ++ unL r
theorem unL_app : ∀ a b : List Cp, unL (a ++ b) = unL a ++ unL b
  | [], _ => rfl
  | c :: a, b => by simp [unL, unL_app a b]
theorem kB8 {c : Cp} (h : c.k = 1 ∨ c.k = 2 ∨ c.k = 3) : (unP c).length = size c := by
  unfold unP size
  rcases h with h | h | h <;> simp [h]
theorem kA9 {c : Cp} (h : qD c = true) : c.k = 1 ∨ c.k = 2 ∨ c.k = 3 := by
  rcases qB h with ⟨h, _⟩ | ⟨h | h, _⟩ <;> simp [h]
theorem size_pos {c : Cp} (h : qD c = true) : 0 < size c := by
  unfold size
  rcases qB h with ⟨h2, _, hne, hv⟩ | ⟨h13, hp, _⟩
  · rw [if_pos h2]; have := cpts_ne hv hne; omega
  · rw [if_neg (by omega)]; omega
def doU : List Nat → List Un → List Nat
  | _, [] => []
  | cs, .i c :: u => c :: doU cs u
  | cs, .d :: u => doU cs.tail u
  | [], .r :: u => doU [] u
  | c :: cs, .r :: u => c :: doU cs u
theorem doU_ins : ∀ (xs cs : List Nat) (u : List Un), doU cs (xs.map .i ++ u) = xs ++ doU cs u
  | [], _, _ => rfl
  | x :: xs, cs, u => by simp only [List.map_cons, List.cons_append, doU]; rw [doU_ins xs cs u]
theorem doU_del : ∀ (n : Nat) (cs : List Nat) (u : List Un), doU cs (List.replicate n .d ++ u) = doU (cs.drop n) u
  | 0, _, _ => rfl
  | n + 1, cs, u => by
    simp only [List.replicate_succ, List.cons_append, doU]
    rw [doU_del n]
    cases cs <;> simp
theorem doU_ret : ∀ (n : Nat) (cs : List Nat) (u : List Un), doU cs (List.replicate n .r ++ u) = cs.take n ++ doU (cs.drop n) u
  | 0, _, _ => rfl
  | n + 1, [], u => by
    simp only [List.replicate_succ, List.cons_append, doU]
    rw [doU_ret n]; simp
  | n + 1, c :: cs, u => by
    simp only [List.replicate_succ, List.cons_append, doU]
    rw [doU_ret n]; simp
theorem kBi : ∀ (l : List Cp) (cs : List Nat), (∀ c ∈ l, qD c = true) → doL cs l = doU cs (unL l)
  | [], _, _ => rfl
  | c :: r, cs, h => by
    have hs := h c (by simp)
    have hr := fun x hx => h x (List.mem_cons_of_mem c hx)
    rcases qB hs with ⟨h2, _⟩ | ⟨h1 | h3, _⟩
    · rw [do_ins (kBT hs) h2, unL, unP, if_pos h2, doU_ins, kBi r _ hr]
    · rw [do_ret (kBT hs) (by omega) (by omega), unL, unP, if_neg (by omega), if_pos h1, doU_ret, kBi r _ hr]
    · rw [do_del (kBT hs) h3, unL, unP, if_neg (by omega), if_neg (by omega), if_pos h3, doU_del, kBi r _ hr]
def bU : List Un → Nat
  | [] => 0
  | .i _ :: u => bU u
  | _ :: u => bU u + 1
def oU : List Un → Nat
  | [] => 0
  | .d :: u => oU u
  | _ :: u => oU u + 1
theorem kET : ∀ a b : List Un, bU (a ++ b) = bU a + bU b
  | [], b => by simp [bU]
  | .i _ :: a, b => by simp [bU, kET a b]
  | .r :: a, b => by simp [bU, kET a b]; omega
  | .d :: a, b => by simp [bU, kET a b]; omega
theorem oU_app : ∀ a b : List Un, oU (a ++ b) = oU a + oU b
  | [], b => by simp [oU]
  | .i _ :: a, b => by simp [oU, oU_app a b]; omega
  | .r :: a, b => by simp [oU, oU_app a b]; omega
  | .d :: a, b => by simp [oU, oU_app a b]
theorem bU_i : ∀ xs : List Nat, bU (xs.map .i) = 0
  | [] => rfl
  | x :: xs => by simp [bU, bU_i xs]
theorem oU_i : ∀ xs : List Nat, oU (xs.map .i) = xs.length
  | [] => rfl
  | x :: xs => by simp [oU, oU_i xs]
theorem bU_r : ∀ n, bU (List.replicate n .r) = n
  | 0 => rfl
  | n + 1 => by simp [List.replicate_succ, bU, bU_r n]
theorem oU_r : ∀ n, oU (List.replicate n .r) = n
  | 0 => rfl
  | n + 1 => by simp [List.replicate_succ, oU, oU_r n]
theorem bU_d : ∀ n, bU (List.replicate n .d) = n
  | 0 => rfl
  | n + 1 => by simp [List.replicate_succ, bU, bU_d n]
theorem oU_d : ∀ n, oU (List.replicate n .d) = 0
  | 0 => rfl
  | n + 1 => by simp [List.replicate_succ, oU, oU_d n]
theorem kCK : ∀ (l : List Cp), (∀ c ∈ l, qD c = true) → (bU (unL l) : Int) = tn l
  | [], _ => rfl
  | c :: r, h => by
    have hr := kCK r (fun x hx => h x (List.mem_cons_of_mem c hx))
    rcases qB (h c (by simp)) with ⟨h2, h0, _⟩ | ⟨h1 | h3, h0, _⟩
    · simp only [unL, tn, kET]; rw [unP, if_pos h2, bU_i]; omega
    · simp only [unL, tn, kET]; rw [unP, if_neg (by omega), if_pos h1, bU_r]; omega
    · simp only [unL, tn, kET]; rw [unP, if_neg (by omega), if_neg (by omega), if_pos h3, bU_d]; omega
theorem do_len : ∀ (u : List Un) (cs : List Nat), cs.length = bU u → (doU cs u).length = oU u
  | [], _, _ => rfl
  | .i c :: u, cs, h => by simp only [doU, oU, List.length_cons]; rw [do_len u cs h]
  | .d :: u, cs, h => by
    simp only [doU, oU]
    rw [do_len u cs.tail (by simp only [bU] at h; rw [List.length_tail]; omega)]
  | .r :: u, [], h => by simp [bU] at h
  | .r :: u, c :: cs, h => by
    simp only [doU, oU, List.length_cons]
    rw [do_len u cs (by simpa [bU] using h)]
end Go.Proofs
end

-- ZAw1
section
namespace Go.Proofs
open Go Go.Rw
open _root_.Nat renaming reduceAdd → N0, reduceSub → N1, reduceMul → N2, reduceLT → N3, reduceLeDiff → N4, reduceEqDiff → N5
open _root_.Int renaming reduceNeg → Z0, reduceAdd → Z1, reduceSub → Z2, reduceMul → Z3, reduceGT → Z4, reduceGE → Z5, reduceLT → Z6, reduceLE → Z7, reduceEq → Z8, reduceNe → Z9, reduceToNat → Z10, cast_ofNat_Int → Zc
set_option maxRecDepth 100000
set_option linter.unusedSimpArgs false
set_option linter.unusedVariables false

def qP : List Cp → Int
  | [] => 0
  | c :: _ => c.k
theorem kEh {Γ : Env} (hΓ : kL Tryz.prog Γ) (hC : Γ.get 95 = none) {n : Nat} {t : Nat → AV} {hd : Nat → Nat → AV} {nh nl : Nat} {h : Nat → Option AO} {fm : Nat → Nat} {lv : Nat → Option (Nat × Nat)} {mu : Bool} {o : Nat} {r : List Cp} {dn : Int} {d : Option Nat} {K : AS → Prop}
    (ho : h o = some (.cells [.sl 0 3 (kR r), .v (.int .i64 dn)])) (hl : r.length ≤ 1099511627776)
    (hk : cont ⟨n, t, hd, ⟨nh, h, nl, fm, lv, mu⟩⟩ d (.v (.int .i64 (qP r))) K) : kP Tryz.prog Γ false ⟨n, t, hd, ⟨nh, h, nl, fm, lv, mu⟩⟩ 95 [.ptr o 0] d K := by
  refine zD (nn := 16) hΓ (by first | assumption | simp [kC, kW]) Tryz.func95 (by kernel_rfl) rfl (show Tryz.f95.results.toList = [.tmp 2] from rfl) rfl ?_
  simp only [aR,N0,N1,N2,N3,N4,N5,Z0,Z1,Z2,Z3,Z4,Z5,Z6,Z7,Z8,Z9,Z10,Zc,↓reduceIte,reduceCtorEq, ho, kF]
  cases r with
  | nil =>
    simp only [aR,N0,N1,N2,N3,N4,N5,Z0,Z1,Z2,Z3,Z4,Z5,Z6,Z7,Z8,Z9,Z10,Zc,↓reduceIte,reduceCtorEq, ho, kF, List.length_nil]
    exact hk
  | cons c r =>
    have e1 := qA (c :: r) (i := 0) (by simp)
    simp only [List.getElem_cons_zero] at e1
    simp only [List.length_cons] at hl
    simp only [aR,N0,N1,N2,N3,N4,N5,Z0,Z1,Z2,Z3,Z4,Z5,Z6,Z7,Z8,Z9,Z10,Zc,↓reduceIte,reduceCtorEq, ho, kF, e1, List.length_cons, show (((r.length + 1 : Nat) : Int) = 0) = False from eq_false (by omega)]
    (repeat (with_reducible refine And.intro ?_ ?_; focus (first | omega | exact kG | kernel_rfl)))
    exact hk
def lenW : List Cp → Nat → Nat
  | [], _ => 0
  | c :: _, dn => size c - dn
theorem call_wlen {Γ : Env} (hΓ : kL Tryz.prog Γ) (hC : Γ.get 97 = none) (hD : Γ.get 95 = none) (hR : Γ.get 92 = some kBs) {n : Nat} {t : Nat → AV} {hd : Nat → Nat → AV} {nh nl : Nat} {h : Nat → Option AO} {fm : Nat → Nat} {lv : Nat → Option (Nat × Nat)} {mu : Bool} {o : Nat} {r : List Cp} {dn : Nat} {d : Option Nat} {K : AS → Prop}
    (ho : h o = some (.cells [.sl 0 3 (kR r), .v (.int .i64 dn)])) (hl : okL r) (hs : ∀ c ∈ r, qD c = true) (hdn : dn ≤ 1099511627776) (hdl : r ≠ [] → dn ≤ size (r.headD ⟨0, 0, []⟩))
    (hk : cont ⟨n, t, hd, ⟨nh, h, nl, fm, lv, mu⟩⟩ d (.v (.int .i64 (lenW r dn))) K) : kP Tryz.prog Γ false ⟨n, t, hd, ⟨nh, h, nl, fm, lv, mu⟩⟩ 97 [.ptr o 0] d K := by
  refine zD (nn := 34) hΓ (by first | assumption | simp [kC, kW]) Tryz.func97 (by kernel_rfl) rfl (show Tryz.f97.results.toList = [.tmp 2] from rfl) rfl ?_
  simp only [aR,N0,N1,N2,N3,N4,N5,Z0,Z1,Z2,Z3,Z4,Z5,Z6,Z7,Z8,Z9,Z10,Zc,↓reduceIte,reduceCtorEq, ho, kF]
  refine kEh hΓ hD ho hl.1 ?_
  cases r with
  | nil =>
    simp only [aR,N0,N1,N2,N3,N4,N5,Z0,Z1,Z2,Z3,Z4,Z5,Z6,Z7,Z8,Z9,Z10,Zc,↓reduceIte,reduceCtorEq, qP]
    exact hk
  | cons c r =>
    have e1 := qA (c :: r) (i := 0) (by simp)
    have hsc := qB (hs c (by simp))
    have htl := hl.text (c := c) (by simp)
    have hcn := hl.2.2 c (by simp)
    have hz := hdl (by simp)
    simp only [List.getElem_cons_zero] at e1
    simp only [List.headD_cons] at hz
    have hll := hl.1
    simp only [List.length_cons] at hll
    simp only [lenW] at hk
    obtain ⟨ck, cn, ct⟩ := c
    rw [qP]
    by_cases h2 : ck = 2
    · subst h2
      rcases hsc with ⟨_, _, _, hv⟩ | ⟨h, _⟩
      case inr => simp at h
      rw [size, if_pos rfl] at hz hk
      dsimp only at hz hk htl hcn
      have hcl := cpts_len ct
      simp only [aR,N0,N1,N2,N3,N4,N5,Z0,Z1,Z2,Z3,Z4,Z5,Z6,Z7,Z8,Z9,Z10,Zc,↓reduceIte,reduceCtorEq, ho, kF, e1, List.length_cons]
      (repeat (with_reducible refine And.intro ?_ ?_; focus (first | omega | exact kG | kernel_rfl)))
      refine call_rc (by first | assumption | simp [kC]) htl ?_
      rw [lc_cpts hv]
      simp only [aR,N0,N1,N2,N3,N4,N5,Z0,Z1,Z2,Z3,Z4,Z5,Z6,Z7,Z8,Z9,Z10,Zc,↓reduceIte,reduceCtorEq, ho, kF, e1, List.length_cons, kA (n := ((cpts ct).length : Int) - dn) (by omega) (by omega)]
      rw [show ((cpts ct).length : Int) - dn = (((cpts ct).length - dn : Nat) : Int) by omega]
      exact hk
    · have hne : ¬ ck = 0 := by
        rcases hsc with ⟨h, _⟩ | ⟨h, _⟩
        · exact absurd h h2
        · simp only at h; omega
      rcases hsc with ⟨h, _⟩ | ⟨_, hp, _⟩
      · exact absurd h h2
      rw [size, if_neg h2] at hz hk
      dsimp only at hz hk hp hcn
      simp only [aR,N0,N1,N2,N3,N4,N5,Z0,Z1,Z2,Z3,Z4,Z5,Z6,Z7,Z8,Z9,Z10,Zc,↓reduceIte,reduceCtorEq, ho, kF, e1, List.length_cons, h2, hne, kA (n := cn - dn) (by omega) (by omega)]
      (repeat (with_reducible refine And.intro ?_ ?_; focus (first | omega | exact kG | kernel_rfl)))
      rw [show cn - dn = ((cn.toNat - dn : Nat) : Int) by omega]
      exact hk
theorem kAW (c : Cp) (r : List Cp) : kB1 0 3 (kR (c :: r)) 1 (r.length + 1) = .sl 0 3 (kR r) := by
  unfold kB1
  rw [if_neg (by omega)]
  simp only [kR, List.map_cons, List.drop_succ_cons, List.drop_zero, Nat.add_sub_cancel]
  rw [List.take_of_length_le (by simp)]
def part (c : Cp) (dn m : Nat) : Cp := if c.k = 2 then ⟨c.k, c.n, encs (((cpts c.t).drop dn).take m)⟩ else ⟨c.k, m, c.t⟩
def advR (c : Cp) (r : List Cp) (dn m : Nat) : List Cp := if dn + m = size c then r else c :: r
def advD (c : Cp) (dn m : Nat) : Nat := if dn + m = size c then 0 else dn + m
theorem call_wtake {Γ : Env} (hΓ : kL Tryz.prog Γ) (hC : Γ.get 96 = none) (hE : Γ.get 97 = none) (hD : Γ.get 95 = none) (hR : Γ.get 92 = some kBs) (hS : Γ.get 118 = some kBR) {n : Nat} {t : Nat → AV} {hd : Nat → Nat → AV} {nh nl : Nat} {h : Nat → Option AO} {fm : Nat → Nat} {lv : Nat → Option (Nat × Nat)} {mu : Bool} {o : Nat} {c : Cp} {r : List Cp} {dn m : Nat} {d : Option Nat} {K : AS → Prop}
    (hn : o < nh) (ho : h o = some (.cells [.sl 0 3 (kR (c :: r)), .v (.int .i64 dn)])) (hl : okL (c :: r)) (hs : ∀ x ∈ c :: r, qD x = true) (hdn : dn + m ≤ size c) (hb : size c ≤ 1099511627776)
    (hk : ∀ h' : Nat → Option AO, h' o = some (.cells [.sl 0 3 (kR (advR c r dn m)), .v (.int .i64 (advD c dn m))]) → (∀ j, j < nh → j ≠ o → h' j = h j) → cont ⟨n, t, hd, ⟨nh + 2, h', nl, fm, lv, mu⟩⟩ d (cA (part c dn m)) K) :
    kP Tryz.prog Γ false ⟨n, t, hd, ⟨nh, h, nl, fm, lv, mu⟩⟩ 96 [.ptr o 0, .v (.int .i64 m)] d K := by
  have e1 := qA (c :: r) (i := 0) (by simp)
  have hsc := qB (hs c (by simp))
  have htl := hl.text (c := c) (by simp)
  have hcn := hl.2.2 c (by simp)
  simp only [List.getElem_cons_zero] at e1
  have hll := hl.1
  simp only [List.length_cons] at hll
  have hcl := cpts_len c.t
  have q1 : (o = nh) = False := eq_false (by omega)
  have q2 : (o = nh + 1) = False := eq_false (by omega)
  have q3 : (nh = o) = False := eq_false (by omega)
  have q4 : (nh + 1 = o) = False := eq_false (by omega)
  have q5 : (nh = nh + 1) = False := eq_false (by omega)
  have q6 : (nh + 1 = nh) = False := eq_false (by omega)
  refine zD (nn := 60) hΓ (by first | assumption | simp [kC, kW]) Tryz.func96 (by kernel_rfl) rfl (show Tryz.f96.results.toList = [.cell 4 80] from rfl) rfl ?_
  simp only [aR,N0,N1,N2,N3,N4,N5,Z0,Z1,Z2,Z3,Z4,Z5,Z6,Z7,Z8,Z9,Z10,Zc,↓reduceIte,reduceCtorEq, ho, kF, e1, List.length_cons, q1, q2, q3, q4, q5, q6]
  (repeat (with_reducible refine And.intro ?_ ?_; focus (first | omega | exact kG | kernel_rfl)))
  refine call_wlen hΓ hE hD hR (dn := dn) (r := c :: r) (by simp only [upd, q1, q2, if_false]; exact ho) hl hs (by omega) (by simp; omega) ?_
  rw [lenW]
  have q7 : IntKind.wrap .i64 ((dn : Int) + m) = ((dn + m : Nat) : Int) := by rw [kA (by omega) (by omega)]; omega
  by_cases h2 : c.k = 2
  · rw [part, if_pos h2] at hk
    have hz : size c = (cpts c.t).length := by rw [size, if_pos h2]
    have hv : pts c.t = some (cpts c.t) := by
      rcases hsc with ⟨_, _, _, hv⟩ | ⟨h, _⟩
      · exact kDZ hv
      · omega
    have hr : kAp c.t dn ((dn + m : Nat) : Int) = res2 (.v (sv (encs (((cpts c.t).drop dn).take m)))) 0 := by
      unfold kAp
      rw [hv]
      simp only
      rw [if_pos (by omega), Int.toNat_natCast, Int.toNat_natCast, show dn + m - dn = m by omega]
    simp only [aR,N0,N1,N2,N3,N4,N5,Z0,Z1,Z2,Z3,Z4,Z5,Z6,Z7,Z8,Z9,Z10,Zc,↓reduceIte,reduceCtorEq, ho, kF, e1, List.length_cons, kAW, h2, q1, q2, q3, q4, q5, q6, q7]
    (repeat (with_reducible refine And.intro ?_ ?_; focus (first | omega | exact kG | kernel_rfl)))
    refine call_slice (by first | assumption | simp [kC]) htl (by omega) (by omega) ?_
    rw [hr]
    by_cases h3 : dn + m = size c
    · rw [advR, if_pos h3, advD, if_pos h3] at hk
      simp only [aR,N0,N1,N2,N3,N4,N5,Z0,Z1,Z2,Z3,Z4,Z5,Z6,Z7,Z8,Z9,Z10,Zc,↓reduceIte,reduceCtorEq, ho, kF, e1, List.length_cons, kAW, h2, q1, q2, q3, q4, q5, q6, q7, res2, show ((m : Int) = ((size c - dn : Nat) : Int)) = True from eq_true (by omega)]
      (repeat (with_reducible refine And.intro ?_ ?_; focus (first | omega | exact kG | kernel_rfl)))
      try rw [h2] at hk
      refine hk _ ?_ ?_
      · simp only [upd, q1, q2, if_true, if_false] <;> rfl
      · intro j hj hne
        simp only [upd, if_neg hne, if_neg (show ¬ j = nh by omega), if_neg (show ¬ j = nh + 1 by omega)]
    · rw [advR, if_neg h3, advD, if_neg h3] at hk
      simp only [aR,N0,N1,N2,N3,N4,N5,Z0,Z1,Z2,Z3,Z4,Z5,Z6,Z7,Z8,Z9,Z10,Zc,↓reduceIte,reduceCtorEq, ho, kF, e1, List.length_cons, kAW, h2, q1, q2, q3, q4, q5, q6, q7, res2, show ((m : Int) = ((size c - dn : Nat) : Int)) = False from eq_false (by omega)]
      (repeat (with_reducible refine And.intro ?_ ?_; focus (first | omega | exact kG | kernel_rfl)))
      try rw [h2] at hk
      refine hk _ ?_ ?_
      · simp only [upd, q1, q2, if_true, if_false] <;> rfl
      · intro j hj hne
        simp only [upd, if_neg hne, if_neg (show ¬ j = nh by omega), if_neg (show ¬ j = nh + 1 by omega)]
  · rw [part, if_neg h2] at hk
    by_cases h3 : dn + m = size c
    · rw [advR, if_pos h3, advD, if_pos h3] at hk
      simp only [aR,N0,N1,N2,N3,N4,N5,Z0,Z1,Z2,Z3,Z4,Z5,Z6,Z7,Z8,Z9,Z10,Zc,↓reduceIte,reduceCtorEq, ho, kF, e1, List.length_cons, kAW, h2, q1, q2, q3, q4, q5, q6, q7, show ((m : Int) = ((size c - dn : Nat) : Int)) = True from eq_true (by omega)]
      (repeat (with_reducible refine And.intro ?_ ?_; focus (first | omega | exact kG | kernel_rfl)))
      try rw [h2] at hk
      refine hk _ ?_ ?_
      · simp only [upd, q1, q2, if_true, if_false] <;> rfl
      · intro j hj hne
        simp only [upd, if_neg hne, if_neg (show ¬ j = nh by omega), if_neg (show ¬ j = nh + 1 by omega)]
    · rw [advR, if_neg h3, advD, if_neg h3] at hk
      simp only [aR,N0,N1,N2,N3,N4,N5,Z0,Z1,Z2,Z3,Z4,Z5,Z6,Z7,Z8,Z9,Z10,Zc,↓reduceIte,reduceCtorEq, ho, kF, e1, List.length_cons, kAW, h2, q1, q2, q3, q4, q5, q6, q7, show ((m : Int) = ((size c - dn : Nat) : Int)) = False from eq_false (by omega)]
      (repeat (with_reducible refine And.intro ?_ ?_; focus (first | omega | exact kG | kernel_rfl)))
      try rw [h2] at hk
      refine hk _ ?_ ?_
      · simp only [upd, q1, q2, if_true, if_false] <;> rfl
      · intro j hj hne
        simp only [upd, if_neg hne, if_neg (show ¬ j = nh by omega), if_neg (show ¬ j = nh + 1 by omega)]
end Go.Proofs
end

-- ZAw2
section
namespace Go.Proofs
open Go Go.Rw
set_option maxRecDepth 100000
set_option linter.unusedSimpArgs false
set_option linter.unusedVariables false

/-- A walk: the parts ahead, and how much of the first one is gone. -/
def wOk (w : List Cp × Nat) : Prop := (∀ c ∈ w.1, qD c = true) ∧ (w.1 = [] → w.2 = 0) ∧ ∀ c r, w.1 = c :: r → w.2 < size c
def wU (w : List Cp × Nat) : List Un := (unL w.1).drop w.2
def adv (w : List Cp × Nat) (n : Nat) : List Cp × Nat := match w with
  | ([], a) => ([], a)
  | (c :: r, a) => (advR c r a n, advD c a n)
def kA8 (w : List Cp × Nat) (n : Nat) : Cp := match w with
  | ([], _) => ⟨0, 0, []⟩
  | (c :: _, a) => part c a n
theorem unP_part {c : Cp} {a n : Nat} (hs : qD c = true) (h : a + n ≤ size c) : unP (part c a n) = ((unP c).drop a).take n := by
  unfold part size at *
  unfold unP
  rcases qB hs with ⟨h2, _, _, hv⟩ | ⟨h1 | h3, _⟩
  · rw [if_pos h2]
    simp only [h2, if_true]
    rw [cpts_enc (fun x hx => (kAB hv).2 x (List.mem_of_mem_drop (List.mem_of_mem_take hx))), List.map_take, List.map_drop]
  · rw [if_neg (by omega)] at h
    simp only [h1, List.drop_replicate, List.take_replicate, if_neg (show ¬ (1 : Int) = 2 by decide), if_true, Int.toNat_natCast]
    congr 1; omega
  · rw [if_neg (by omega)] at h
    simp only [h3, List.drop_replicate, List.take_replicate, if_neg (show ¬ (3 : Int) = 2 by decide), if_neg (show ¬ (3 : Int) = 1 by decide), if_true, Int.toNat_natCast]
    congr 1; omega
theorem kCI {c : Cp} {a n : Nat} (hs : qD c = true) (h : a + n ≤ size c) (hn : 0 < n) : qD (part c a n) = true := by
  unfold part size at *
  rcases qB hs with ⟨h2, h0, _, hv⟩ | ⟨h13, _, ht⟩
  · rw [if_pos h2] at h ⊢
    have hp := kCT (cs := ((cpts c.t).drop a).take n) (fun x hx => (kAB hv).2 x (List.mem_of_mem_drop (List.mem_of_mem_take hx)))
    have hne : encs (((cpts c.t).drop a).take n) ≠ [] := by
      intro e
      have h1 := kDS (((cpts c.t).drop a).take n)
      rw [e, List.length_take, List.length_drop] at h1
      simp at h1
      omega
    unfold qD
    simp [h2, h0, hp, hne]
  · rw [if_neg (by omega)]
    unfold qD
    simp [ht]
    rcases h13 with h | h <;> simp [h, hn]
theorem wU_adv {w : List Cp × Nat} {n : Nat} (h : wOk w) (hn : w.2 + n ≤ (w.1.headD ⟨0, 0, []⟩ |> size) ∨ w.1 = []) : wU (adv w n) = (wU w).drop n ∧ (0 < n → wOk (adv w n)) := by
  obtain ⟨r, a⟩ := w
  obtain ⟨h1, h2, h3⟩ := h
  cases r with
  | nil =>
    have e0 : a = 0 := h2 rfl
    subst e0
    exact ⟨by simp [wU, adv, unL], fun _ => ⟨by simp [adv], by simp [adv], by simp [adv]⟩⟩
  | cons c r =>
    simp only [List.headD_cons, reduceCtorEq, or_false] at hn
    have hl := kB8 (kA9 (h1 c (by simp)))
    simp only [wU, adv, advR, advD]
    by_cases hz : a + n = size c
    · rw [if_pos hz, if_pos hz, List.drop_drop, unL, show a + n = (unP c).length by omega, List.drop_left]
      refine ⟨by simp, fun _ => ⟨fun x hx => h1 x (by simp [hx]), fun _ => rfl, fun c' r' e => ?_⟩⟩
      simp only at e
      subst e
      exact size_pos (h1 c' (by simp))
    · rw [if_neg hz, if_neg hz, List.drop_drop]
      refine ⟨rfl, fun _ => ⟨h1, fun e => by simp at e, fun c' r' e => ?_⟩⟩
      simp only [List.cons.injEq] at e
      obtain ⟨rfl, rfl⟩ := e
      show a + n < size c
      omega
theorem kAT {c : Cp} (h : qD c = true) : (c.k = 1 → unP c = List.replicate (size c) .r) ∧ (c.k = 3 → unP c = List.replicate (size c) .d) ∧ (c.k = 2 → unP c = (cpts c.t).map .i ∧ (cpts c.t).length = size c) := by
  unfold unP size
  refine ⟨fun h => by simp [h], fun h => by simp [h], fun h => by simp [h]⟩
theorem size_part {c : Cp} {a n : Nat} (hs : qD c = true) (h : a + n ≤ size c) (hn : 0 < n) : size (part c a n) = n := by
  rw [← kB8 (kA9 (kCI hs h hn)), unP_part hs h, List.length_take, List.length_drop, kB8 (kA9 hs)]
  omega
theorem part_k {c : Cp} {a n : Nat} : (part c a n).k = c.k := by unfold part; split <;> rfl
/-- What comes first, and what is behind it. -/
theorem zN {w : List Cp × Nat} {n : Nat} (h : wOk w) (hk : qP w.1 ≠ 0) (hn : 0 < n) (hl : n ≤ lenW w.1 w.2) :
    wU w = unP (kA8 w n) ++ wU (adv w n) ∧ wOk (adv w n) ∧ qD (kA8 w n) = true ∧ size (kA8 w n) = n ∧ (kA8 w n).k = qP w.1 ∧ (wU w).length = n + (wU (adv w n)).length := by
  obtain ⟨r, a⟩ := w
  cases r with
  | nil => simp [qP] at hk
  | cons c r =>
    have hs := h.1 c (by simp)
    have hlt := h.2.2 c r rfl
    simp only [lenW] at hl
    have hle : a + n ≤ size c := by simp only at hlt; omega
    obtain ⟨e1, e2⟩ := wU_adv (n := n) h (.inl (by simpa using hle))
    have hul := kB8 (kA9 hs)
    have e3 : wU (c :: r, a) = unP (part c a n) ++ wU (adv (c :: r, a) n) := by
      rw [e1, unP_part hs hle]
      show (unP c ++ unL r).drop a = _
      have e4 : (unP c ++ unL r).drop a = (unP c).drop a ++ unL r := by rw [List.drop_append_of_le_length (by omega)]
      have e5 : (wU (c :: r, a)) = (unP c).drop a ++ unL r := e4
      rw [e4, e5, List.drop_append_of_le_length (by rw [List.length_drop]; omega), ← List.append_assoc, List.take_append_drop]
    refine ⟨e3, e2 hn, kCI hs hle hn, size_part hs hle hn, part_k, ?_⟩
    rw [e3, List.length_append]
    show (unP (part c a n)).length + _ = _
    rw [kB8 (kA9 (kCI hs hle hn)), size_part hs hle hn]
theorem jA {w : List Cp × Nat} (h : wOk w) (hk : qP w.1 ≠ 0) : 0 < lenW w.1 w.2 := by
  obtain ⟨r, a⟩ := w
  cases r with
  | nil => simp [qP] at hk
  | cons c r =>
    have := h.2.2 c r rfl
    simp only [lenW] at this ⊢; omega
theorem kBb {w : List Cp × Nat} (h : wOk w) : qP w.1 = 0 ∧ wU w = [] ∨ qP w.1 = 1 ∨ qP w.1 = 2 ∨ qP w.1 = 3 := by
  obtain ⟨r, a⟩ := w
  cases r with
  | nil => left; exact ⟨rfl, by simp [wU, unL]⟩
  | cons c r =>
    right
    exact kA9 (h.1 c (by simp))
/-- The whole of what comes first. -/
theorem wU_first {w : List Cp × Nat} (h : wOk w) : (qP w.1 = 1 → ∃ n z, wU w = List.replicate (n + 1) .r ++ z) ∧ (qP w.1 = 3 → ∃ n z, wU w = List.replicate (n + 1) .d ++ z) ∧ (qP w.1 = 2 → ∃ c cs z, wU w = (c :: cs).map .i ++ z) := by
  refine ⟨fun hk => ?_, fun hk => ?_, fun hk => ?_⟩
  all_goals
    have hp := jA h (by omega)
    obtain ⟨e1, e2, e3, e4, e5, e6⟩ := zN h (by omega) hp (Nat.le_refl _)
    obtain ⟨s1, s2, s3⟩ := kAT e3
    rw [e4] at s1 s2 s3
  · rw [s1 (by omega)] at e1
    exact ⟨lenW w.1 w.2 - 1, _, by rw [e1]; congr 2; omega⟩
  · rw [s2 (by omega)] at e1
    exact ⟨lenW w.1 w.2 - 1, _, by rw [e1]; congr 2; omega⟩
  · obtain ⟨t1, t2⟩ := s3 (by omega)
    rw [t1] at e1
    cases hc : cpts (kA8 w (lenW w.1 w.2)).t with
    | nil => rw [hc] at t2; simp at t2; omega
    | cons c cs => exact ⟨c, cs, _, by rw [e1, hc]⟩
end Go.Proofs
end

-- ZAw3
section
namespace Go.Proofs
open Go Go.Rw
set_option maxRecDepth 100000
set_option linter.unusedSimpArgs false
set_option linter.unusedVariables false

theorem ulen_le : ∀ u : List Un, u.length ≤ bU u + oU u
  | [] => by simp [bU, oU]
  | .r :: u => by have := ulen_le u; simp only [List.length_cons, bU, oU]; omega
  | .d :: u => by have := ulen_le u; simp only [List.length_cons, bU, oU]; omega
  | .i _ :: u => by have := ulen_le u; simp only [List.length_cons, bU, oU]; omega
theorem kAD {l : List Cp} (h : qG l = 0) : outL l = oU (unL l) ∧ zZ l = bU (unL l) ∧ (unL l).length ≤ 4000 := by
  obtain ⟨h1, h2, h3, h4, h5, h6⟩ := kA6 h
  have hb := kCK l h3
  have hf : fit (List.replicate (bU (unL l)) 1) l := ⟨h3, by rw [List.length_replicate]; omega⟩
  have h7 := out_do l (List.replicate (bU (unL l)) 1) 0 (by omega) hf h6
  rw [kBi l _ h3, do_len _ _ (by simp)] at h7
  have h8 := ulen_le (unL l)
  have h9 : outL l = outF 0 l := rfl
  omega
theorem okL_tail {c : Cp} {r : List Cp} (h : okL (c :: r)) : okL r := by
  obtain ⟨h1, h2, h3⟩ := h
  simp only [List.length_cons, tot] at h1 h2
  exact ⟨by omega, by omega, fun x hx => h3 x (by simp [hx])⟩
theorem size_text {c : Cp} (h : qD c = true) : c.t.length ≤ 4 * size c ∧ 0 ≤ c.n ∧ c.n ≤ size c := by
  unfold size
  rcases qB h with ⟨h2, h0, _, hv⟩ | ⟨h13, hp, ht⟩
  · rw [if_pos h2]
    have := encs_ge (cpts c.t)
    rw [(kAB hv).1] at this
    omega
  · rw [if_neg (by omega), ht]
    simp; omega
theorem kBt : ∀ {l : List Cp}, (∀ c ∈ l, qD c = true) → l.length ≤ (unL l).length ∧ tot l ≤ 4 * (unL l).length ∧ ∀ c ∈ l, 0 ≤ c.n ∧ c.n ≤ (unL l).length
  | [], _ => by simp [unL, tot]
  | c :: r, h => by
    have hs := h c (by simp)
    obtain ⟨h1, h2, h3⟩ := kBt (l := r) (fun x hx => h x (by simp [hx]))
    have h4 := size_pos hs
    have h5 := kB8 (kA9 hs)
    obtain ⟨h6, h7, h8⟩ := size_text hs
    simp only [unL, tot, List.length_append, List.length_cons]
    refine ⟨by omega, by omega, fun x hx => ?_⟩
    rcases List.mem_cons.1 hx with rfl | hx
    · omega
    · have := h3 x hx; omega
theorem okL_raw {l : List Cp} (h : ∀ c ∈ l, qD c = true) (hb : (unL l).length ≤ 100000) : okL l := by
  obtain ⟨h1, h2, h3⟩ := kBt h
  exact ⟨by omega, by omega, fun c hc => by have := h3 c hc; omega⟩
/-- A walk that may be taken. -/
def WOK (w : List Cp × Nat) : Prop := wOk w ∧ okL w.1 ∧ ∀ c ∈ w.1, size c ≤ 100000
theorem kC2 {w : List Cp × Nat} {n : Nat} (h : WOK w) (hk : qP w.1 ≠ 0) (hn : 0 < n) (hl : n ≤ lenW w.1 w.2) : WOK (adv w n) := by
  refine ⟨(zN h.1 hk hn hl).2.1, ?_, ?_⟩
  · obtain ⟨r, a⟩ := w
    cases r with
    | nil => simp [qP] at hk
    | cons c r =>
      show okL (advR c r a n)
      unfold advR
      split
      · exact okL_tail h.2.1
      · exact h.2.1
  · obtain ⟨r, a⟩ := w
    cases r with
    | nil => simp [qP] at hk
    | cons c r =>
      intro x hx
      have hx2 : x ∈ advR c r a n := hx
      unfold advR at hx2
      split at hx2
      · exact h.2.2 x (by simp [hx2])
      · exact h.2.2 x hx2
theorem kDD {l : List Cp} (h : qG l = 0) (ho : okL l) : WOK (l, 0) := by
  obtain ⟨h1, h2, h3, h4, h5, h6⟩ := kA6 h
  refine ⟨⟨h3, fun _ => rfl, fun c r e => ?_⟩, ho, fun c hc => ?_⟩
  · have e2 : l = c :: r := e
    exact size_pos (h3 c (by rw [e2]; simp))
  · have h7 := (kAD h).2.2
    obtain ⟨a, b, e⟩ := List.append_of_mem hc
    have e0 : l = a ++ c :: b := e
    have e2 : (unL l).length = (unL a).length + ((unP c).length + (unL b).length) := by rw [e0, unL_app, unL]; simp
    rw [kB8 (kA9 (h3 c hc))] at e2
    show size c ≤ 100000
    omega
theorem lenW_le {w : List Cp × Nat} (h : WOK w) : lenW w.1 w.2 ≤ 100000 ∧ w.2 ≤ 100000 ∧ (w.1 ≠ [] → w.2 ≤ size (w.1.headD ⟨0, 0, []⟩)) := by
  obtain ⟨r, a⟩ := w
  cases r with
  | nil => have := h.1.2.1 rfl; simp only at this; simp [lenW, this]
  | cons c r =>
    have h1 := h.2.2 c (by simp)
    have h2 := h.1.2.2 c r rfl
    simp only at h2
    simp only [lenW, List.headD_cons]
    exact ⟨by omega, by omega, fun _ => by omega⟩
theorem kind_nil {w : List Cp × Nat} (h : qP w.1 ≠ 0) : ∃ c r a, w = (c :: r, a) := by
  obtain ⟨r, a⟩ := w
  cases r with
  | nil => simp [qP] at h
  | cons c r => exact ⟨c, r, a, rfl⟩
theorem kBP {Γ : Env} (hΓ : kL Tryz.prog Γ) (hC : Γ.get 95 = none) {n : Nat} {t : Nat → AV} {hd : Nat → Nat → AV} {nh nl : Nat} {h : Nat → Option AO} {fm : Nat → Nat} {lv : Nat → Option (Nat × Nat)} {mu : Bool} {o : Nat} {w : List Cp × Nat} {d : Option Nat} {K : AS → Prop}
    (hw : WOK w) (ho : h o = some (.cells [.sl 0 3 (kR w.1), .v (.int .i64 w.2)]))
    (hk : cont ⟨n, t, hd, ⟨nh, h, nl, fm, lv, mu⟩⟩ d (.v (.int .i64 (qP w.1))) K) : kP Tryz.prog Γ false ⟨n, t, hd, ⟨nh, h, nl, fm, lv, mu⟩⟩ 95 [.ptr o 0] d K :=
  kEh hΓ hC ho hw.2.1.1 hk
theorem kBS {Γ : Env} (hΓ : kL Tryz.prog Γ) (hC : Γ.get 97 = none) (hD : Γ.get 95 = none) (hR : Γ.get 92 = some kBs) {n : Nat} {t : Nat → AV} {hd : Nat → Nat → AV} {nh nl : Nat} {h : Nat → Option AO} {fm : Nat → Nat} {lv : Nat → Option (Nat × Nat)} {mu : Bool} {o : Nat} {w : List Cp × Nat} {d : Option Nat} {K : AS → Prop}
    (hw : WOK w) (ho : h o = some (.cells [.sl 0 3 (kR w.1), .v (.int .i64 w.2)]))
    (hk : cont ⟨n, t, hd, ⟨nh, h, nl, fm, lv, mu⟩⟩ d (.v (.int .i64 (lenW w.1 w.2))) K) : kP Tryz.prog Γ false ⟨n, t, hd, ⟨nh, h, nl, fm, lv, mu⟩⟩ 97 [.ptr o 0] d K := by
  obtain ⟨h1, h2, h3⟩ := lenW_le hw
  exact call_wlen hΓ hC hD hR ho hw.2.1 hw.1.1 (by omega) h3 hk
theorem kBN {Γ : Env} (hΓ : kL Tryz.prog Γ) (hC : Γ.get 96 = none) (hE : Γ.get 97 = none) (hD : Γ.get 95 = none) (hR : Γ.get 92 = some kBs) (hS : Γ.get 118 = some kBR) {n : Nat} {t : Nat → AV} {hd : Nat → Nat → AV} {nh nl : Nat} {h : Nat → Option AO} {fm : Nat → Nat} {lv : Nat → Option (Nat × Nat)} {mu : Bool} {o : Nat} {w : List Cp × Nat} {m : Nat} {d : Option Nat} {K : AS → Prop}
    (hn : o < nh) (hw : WOK w) (hkk : qP w.1 ≠ 0) (hm : m ≤ lenW w.1 w.2) (ho : h o = some (.cells [.sl 0 3 (kR w.1), .v (.int .i64 w.2)]))
    (hk : ∀ h' : Nat → Option AO, h' o = some (.cells [.sl 0 3 (kR (adv w m).1), .v (.int .i64 (adv w m).2)]) → (∀ j, j < nh → j ≠ o → h' j = h j) → cont ⟨n, t, hd, ⟨nh + 2, h', nl, fm, lv, mu⟩⟩ d (cA (kA8 w m)) K) :
    kP Tryz.prog Γ false ⟨n, t, hd, ⟨nh, h, nl, fm, lv, mu⟩⟩ 96 [.ptr o 0, .v (.int .i64 m)] d K := by
  obtain ⟨c, r, a, rfl⟩ := kind_nil hkk
  have h1 := hw.1.2.2 c r rfl
  have h2 := hw.2.2 c (by simp)
  simp only [lenW] at hm
  simp only at h1
  exact call_wtake hΓ hC hE hD hR hS hn ho hw.2.1 hw.1.1 (by omega) (by omega) hk
end Go.Proofs
end

-- ZAw4
section
namespace Go.Proofs
open Go Go.Rw
set_option maxRecDepth 100000
set_option linter.unusedSimpArgs false
set_option linter.unusedVariables false

end Go.Proofs
end

-- ZAw5
section
namespace Go.Proofs
open Go Go.Rw
open _root_.Nat renaming reduceAdd → N0, reduceSub → N1, reduceMul → N2, reduceLT → N3, reduceLeDiff → N4, reduceEqDiff → N5
open _root_.Int renaming reduceNeg → Z0, reduceAdd → Z1, reduceSub → Z2, reduceMul → Z3, reduceGT → Z4, reduceGE → Z5, reduceLT → Z6, reduceLE → Z7, reduceEq → Z8, reduceNe → Z9, reduceToNat → Z10, cast_ofNat_Int → Zc
set_option maxRecDepth 100000
set_option linter.unusedSimpArgs false
set_option linter.unusedVariables false

end Go.Proofs
end

-- ZAw6
section
namespace Go.Proofs
open Go Go.Rw
set_option maxRecDepth 100000
set_option linter.unusedSimpArgs false
set_option linter.unusedVariables false

theorem oU_piece {c : Cp} (h : qD c = true) : oU (unP c) = if c.k = 3 then 0 else size c := by
  obtain ⟨h1, h2, h3⟩ := kAT h
  rcases kA9 h with k | k | k
  · rw [h1 k, oU_r, if_neg (by omega)]
  · rw [(h3 k).1, oU_i, if_neg (by omega), (h3 k).2]
  · rw [h2 k, oU_d, if_pos k]
end Go.Proofs
end

-- ZAw7
section
namespace Go.Proofs
open Go Go.Rw
set_option maxRecDepth 100000
set_option linter.unusedSimpArgs false
set_option linter.unusedVariables false

def edits (l : List (List Cp)) : List AV := l.map fun x => .sl 0 3 (kR x)
theorem okL_nf {l : List Cp} (h : okL l) (hb : l.length ≤ 100000) : okL (nf l) := by
  obtain ⟨h1, h2, h3⟩ := kED l 0 [] 0 (by omega) (by omega)
  have h4 := h.2.1
  rw [List.length_nil] at h2
  unfold nf
  exact ⟨by omega, by omega, fun c hc => by have := h3 c hc; omega⟩
end Go.Proofs
end
