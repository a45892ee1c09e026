/-
  Edits, unit by unit. Plain. Walks along an edit: their Kind, Len and Take, reckoned in place. Two edits as one, jP by jP. Plain. compose.Two, walked. compose.Two, walked. The document's walks. The document's Two. Keep, All: the program's, the document's.
-/
import Derived.Test.YtmhpninemdmbkaaGreatDoorXZAq0
set_option linter.unusedSimpArgs false
set_option linter.unusedVariables false
set_option linter.defProp false

-- ZAw0
section
namespace Go.Proofs
open Go Go.Rw
set_option maxRecDepth 100000
inductive Un where
  | r
  | d
  | i (c : Nat)
  deriving DecidableEq
def size (c : Cp) : Nat := if c.k = 2 then (cpts c.t).length else c.n.toNat
def unP (c : Cp) : List Un := if c.k = 2 then (cpts c.t).map .i else if c.k = 1 then List.replicate c.n.toNat .r else if c.k = 3 then List.replicate c.n.toNat .d else []
def unL : List Cp → List Un
  | [] => []
  | c :: r => unP c ++ unL r
theorem unL_app : ∀ a b : List Cp, unL (a ++ b) = unL a ++ unL b
  | [], _ => rfl
  | c :: a, b => by simp [unL, unL_app a b]
theorem kCB {c : Cp} (h : c.k = 1 ∨ c.k = 2 ∨ c.k = 3) : (unP c).length = size c := by
  unfold unP size
  rcases h with h | h | h <;> simp [h]
theorem kA6 {c : Cp} (h : qE c = true) : c.k = 1 ∨ c.k = 2 ∨ c.k = 3 := by
  rcases qB h with ⟨h, _⟩ | ⟨h | h, _⟩ <;> simp [h]
theorem size_pos {c : Cp} (h : qE c = true) : 0 < size c := by
  unfold size
  rcases qB h with ⟨h2, _, hne, hv⟩ | ⟨h13, hp, _⟩
  · rw [if_pos h2]; have := cpts_ne hv hne; omega
  · rw [if_neg (by omega)]; omega
def doU : List Nat → List Un → List Nat
  | _, [] => []
  | cs, .i c :: u => c :: doU cs u
  | cs, .d :: u => doU cs.tail u
  | [], .r :: u => doU [] u
  | c :: cs, .r :: u => c :: doU cs u
theorem doU_ins : ∀ (xs cs : List Nat) (u : List Un), doU cs (xs.map .i ++ u) = xs ++ doU cs u
  | [], _, _ => rfl
  | x :: xs, cs, u => by simp only [List.map_cons, List.cons_append, doU]; rw [doU_ins xs cs u]
theorem doU_del : ∀ (n : Nat) (cs : List Nat) (u : List Un), doU cs (List.replicate n .d ++ u) = doU (cs.drop n) u
  | 0, _, _ => rfl
  | n + 1, cs, u => by
    simp only [List.replicate_succ, List.cons_append, doU]
    rw [doU_del n]
    cases cs <;> simp
theorem doU_ret : ∀ (n : Nat) (cs : List Nat) (u : List Un), doU cs (List.replicate n .r ++ u) = cs.take n ++ doU (cs.drop n) u
  | 0, _, _ => rfl
  | n + 1, [], u => by
    simp only [List.replicate_succ, List.cons_append, doU]
    rw [doU_ret n]; simp
  | n + 1, c :: cs, u => by
    simp only [List.replicate_succ, List.cons_append, doU]
    rw [doU_ret n]; simp
theorem kCR : ∀ (l : List Cp) (cs : List Nat), (∀ c ∈ l, qE c = true) → doL cs l = doU cs (unL l)
  | [], _, _ => rfl
  | c :: r, cs, h => by
    have hs := h c (by simp)
    have hr := fun x hx => h x (List.mem_cons_of_mem c hx)
    rcases qB hs with ⟨h2, _⟩ | ⟨h1 | h3, _⟩
    · rw [do_ins (kBU hs) h2, unL, unP, if_pos h2, doU_ins, kCR r _ hr]
    · rw [do_ret (kBU hs) (by omega) (by omega), unL, unP, if_neg (by omega), if_pos h1, doU_ret, kCR r _ hr]
    · rw [do_del (kBU hs) h3, unL, unP, if_neg (by omega), if_neg (by omega), if_pos h3, doU_del, kCR r _ hr]
def bU : List Un → Nat
  | [] => 0
  | .i _ :: u => bU u
  | _ :: u => bU u + 1
def oU : List Un → Nat
  | [] => 0
  | .d :: u => oU u
  | _ :: u => oU u + 1
theorem kEW : ∀ a b : List Un, bU (a ++ b) = bU a + bU b
  | [], b => by simp [bU]
  | .i _ :: a, b => by simp [bU, kEW a b]
  | .r :: a, b => by simp [bU, kEW a b]; omega
  | .d :: a, b => by simp [bU, kEW a b]; omega
theorem oU_app : ∀ a b : List Un, oU (a ++ b) = oU a + oU b
  | [], b => by simp [oU]
  | .i _ :: a, b => by simp [oU, oU_app a b]; omega
  | .r :: a, b => by simp [oU, oU_app a b]; omega
  | .d :: a, b => by simp [oU, oU_app a b]
theorem bU_i : ∀ xs : List Nat, bU (xs.map .i) = 0
  | [] => rfl
  | x :: xs => by simp [bU, bU_i xs]
theorem oU_i : ∀ xs : List Nat, oU (xs.map .i) = xs.length
  | [] => rfl
  | x :: xs => by simp [oU, oU_i xs]
theorem bU_r : ∀ n, bU (List.replicate n .r) = n
  | 0 => rfl
  | n + 1 => by simp [List.replicate_succ, bU, bU_r n]
theorem oU_r : ∀ n, oU (List.replicate n .r) = n
  | 0 => rfl
  | n + 1 => by simp [List.replicate_succ, oU, oU_r n]
theorem bU_d : ∀ n, bU (List.replicate n .d) = n
  | 0 => rfl
  | n + 1 => by simp [List.replicate_succ, bU, bU_d n]
theorem oU_d : ∀ n, oU (List.replicate n .d) = 0
  | 0 => rfl
  | n + 1 => by simp [List.replicate_succ, oU, oU_d n]
theorem kDE : ∀ (l : List Cp), (∀ c ∈ l, qE c = true) → (bU (unL l) : Int) = tn l
  | [], _ => rfl
  | c :: r, h => by
    have hr := kDE r (fun x hx => h x (List.mem_cons_of_mem c hx))
    rcases qB (h c (by simp)) with ⟨h2, h0, _⟩ | ⟨h1 | h3, h0, _⟩
    · simp only [unL, tn, kEW]; rw [unP, if_pos h2, bU_i]; omega
    · simp only [unL, tn, kEW]; rw [unP, if_neg (by omega), if_pos h1, bU_r]; omega
    · simp only [unL, tn, kEW]; rw [unP, if_neg (by omega), if_neg (by omega), if_pos h3, bU_d]; omega
theorem do_len : ∀ (u : List Un) (cs : List Nat), cs.length = bU u → (doU cs u).length = oU u
  | [], _, _ => rfl
  | .i c :: u, cs, h => by simp only [doU, oU, List.length_cons]; rw [do_len u cs h]
  | .d :: u, cs, h => by
    simp only [doU, oU]
    rw [do_len u cs.tail (by simp only [bU] at h; rw [List.length_tail]; omega)]
  | .r :: u, [], h => by simp [bU] at h
  | .r :: u, c :: cs, h => by
    simp only [doU, oU, List.length_cons]
    rw [do_len u cs (by simpa [bU] using h)]
end Go.Proofs
end
-- ZAw1
section
namespace Go.Proofs
open Go Go.Rw
open _root_.Nat renaming reduceAdd → N0, reduceSub → N1, reduceMul → N2, reduceLT → N3, reduceLeDiff → N4, reduceEqDiff → N5
open _root_.Int renaming reduceNeg → Z0, reduceAdd → Z1, reduceSub → Z2, reduceMul → Z3, reduceGT → Z4, reduceGE → Z5, reduceLT → Z6, reduceLE → Z7, reduceEq → Z8, reduceNe → Z9, reduceToNat → Z10, cast_ofNat_Int → Zc
set_option maxRecDepth 100000
def qA : List Cp → Int
  | [] => 0
  | c :: _ => c.k
theorem kFK {Γ : Env} (hΓ : kL Tryz.prog Γ) (hC : Γ.get 95 = none) {n : Nat} {t : Nat → AV} {hd : Nat → Nat → AV} {nh nl : Nat} {h : Nat → Option AO} {fm : Nat → Nat} {lv : Nat → Option (Nat × Nat)} {mu : Bool} {o : Nat} {r : List Cp} {dn : Int} {d : Option Nat} {K : AS → Prop}
    (ho : h o = some (.cells [.sl 0 3 (kU r), .v (.int .i64 dn)])) (hl : r.length ≤ 1099511627776)
    (hk : cont ⟨n, t, hd, ⟨nh, h, nl, fm, lv, mu⟩⟩ d (.v (.int .i64 (qA r))) K) : kR Tryz.prog Γ false ⟨n, t, hd, ⟨nh, h, nl, fm, lv, mu⟩⟩ 95 [.ptr o 0] d K := by
  refine qX (nn := 16) hΓ (by first | assumption | simp [kB, kQ]) Tryz.func95 (by kernel_rfl) rfl (show Tryz.f95.results.toList = [.tmp 2] from rfl) rfl ?_
  simp only [aR,N0,N1,N2,N3,N4,N5,Z0,Z1,Z2,Z3,Z4,Z5,Z6,Z7,Z8,Z9,Z10,Zc,↓reduceIte,reduceCtorEq, ho, kD]
  cases r with
  | nil =>
    simp only [aR,N0,N1,N2,N3,N4,N5,Z0,Z1,Z2,Z3,Z4,Z5,Z6,Z7,Z8,Z9,Z10,Zc,↓reduceIte,reduceCtorEq, ho, kD, List.length_nil]
    exact hk
  | cons c r =>
    have e1 := k9 (c :: r) (i := 0) (by simp)
    simp only [List.getElem_cons_zero] at e1
    simp only [List.length_cons] at hl
    simp only [aR,N0,N1,N2,N3,N4,N5,Z0,Z1,Z2,Z3,Z4,Z5,Z6,Z7,Z8,Z9,Z10,Zc,↓reduceIte,reduceCtorEq, ho, kD, e1, List.length_cons, show (((r.length + 1 : Nat) : Int) = 0) = False from eq_false (by omega)]
    (repeat (with_reducible refine And.intro ?_ ?_; focus (first | omega | exact kG | kernel_rfl)))
    exact hk
def lenW : List Cp → Nat → Nat
  | [], _ => 0
  | c :: _, dn => size c - dn
theorem call_wlen {Γ : Env} (hΓ : kL Tryz.prog Γ) (hC : Γ.get 97 = none) (hD : Γ.get 95 = none) (hR : Γ.get 92 = some kCd) {n : Nat} {t : Nat → AV} {hd : Nat → Nat → AV} {nh nl : Nat} {h : Nat → Option AO} {fm : Nat → Nat} {lv : Nat → Option (Nat × Nat)} {mu : Bool} {o : Nat} {r : List Cp} {dn : Nat} {d : Option Nat} {K : AS → Prop}
    (ho : h o = some (.cells [.sl 0 3 (kU r), .v (.int .i64 dn)])) (hl : okL r) (hs : ∀ c ∈ r, qE c = true) (hdn : dn ≤ 1099511627776) (hdl : r ≠ [] → dn ≤ size (r.headD ⟨0, 0, []⟩))
    (hk : cont ⟨n, t, hd, ⟨nh, h, nl, fm, lv, mu⟩⟩ d (.v (.int .i64 (lenW r dn))) K) : kR Tryz.prog Γ false ⟨n, t, hd, ⟨nh, h, nl, fm, lv, mu⟩⟩ 97 [.ptr o 0] d K := by
  refine qX (nn := 34) hΓ (by first | assumption | simp [kB, kQ]) Tryz.func97 (by kernel_rfl) rfl (show Tryz.f97.results.toList = [.tmp 2] from rfl) rfl ?_
  simp only [aR,N0,N1,N2,N3,N4,N5,Z0,Z1,Z2,Z3,Z4,Z5,Z6,Z7,Z8,Z9,Z10,Zc,↓reduceIte,reduceCtorEq, ho, kD]
  refine kFK hΓ hD ho hl.1 ?_
  cases r with
  | nil =>
    simp only [aR,N0,N1,N2,N3,N4,N5,Z0,Z1,Z2,Z3,Z4,Z5,Z6,Z7,Z8,Z9,Z10,Zc,↓reduceIte,reduceCtorEq, qA]
    exact hk
  | cons c r =>
    have e1 := k9 (c :: r) (i := 0) (by simp)
    have hsc := qB (hs c (by simp))
    have htl := hl.text (c := c) (by simp)
    have hcn := hl.2.2 c (by simp)
    have hz := hdl (by simp)
    simp only [List.getElem_cons_zero] at e1
    simp only [List.headD_cons] at hz
    have hll := hl.1
    simp only [List.length_cons] at hll
    simp only [lenW] at hk
    obtain ⟨ck, cn, ct⟩ := c
    rw [qA]
    by_cases h2 : ck = 2
    · subst h2
      rcases hsc with ⟨_, _, _, hv⟩ | ⟨h, _⟩
      case inr => simp at h
      rw [size, if_pos rfl] at hz hk
      dsimp only at hz hk htl hcn
      have hcl := cpts_len ct
      simp only [aR,N0,N1,N2,N3,N4,N5,Z0,Z1,Z2,Z3,Z4,Z5,Z6,Z7,Z8,Z9,Z10,Zc,↓reduceIte,reduceCtorEq, ho, kD, e1, List.length_cons]
      (repeat (with_reducible refine And.intro ?_ ?_; focus (first | omega | exact kG | kernel_rfl)))
      refine call_rc (by first | assumption | simp [kB]) htl ?_
      rw [lc_cpts hv]
      simp only [aR,N0,N1,N2,N3,N4,N5,Z0,Z1,Z2,Z3,Z4,Z5,Z6,Z7,Z8,Z9,Z10,Zc,↓reduceIte,reduceCtorEq, ho, kD, e1, List.length_cons, kA (n := ((cpts ct).length : Int) - dn) (by omega) (by omega)]
      rw [show ((cpts ct).length : Int) - dn = (((cpts ct).length - dn : Nat) : Int) by omega]
      exact hk
    · have hne : ¬ ck = 0 := by
        rcases hsc with ⟨h, _⟩ | ⟨h, _⟩
        · exact absurd h h2
        · simp only at h; omega
      rcases hsc with ⟨h, _⟩ | ⟨_, hp, _⟩
      · exact absurd h h2
      rw [size, if_neg h2] at hz hk
      dsimp only at hz hk hp hcn
      simp only [aR,N0,N1,N2,N3,N4,N5,Z0,Z1,Z2,Z3,Z4,Z5,Z6,Z7,Z8,Z9,Z10,Zc,↓reduceIte,reduceCtorEq, ho, kD, e1, List.length_cons, h2, hne, kA (n := cn - dn) (by omega) (by omega)]
      (repeat (with_reducible refine And.intro ?_ ?_; focus (first | omega | exact kG | kernel_rfl)))
      rw [show cn - dn = ((cn.toNat - dn : Nat) : Int) by omega]
      exact hk
theorem kAg (c : Cp) (r : List Cp) : kBm 0 3 (kU (c :: r)) 1 (r.length + 1) = .sl 0 3 (kU r) := by
  unfold kBm
  rw [if_neg (by omega)]
  simp only [kU, List.map_cons, List.drop_succ_cons, List.drop_zero, Nat.add_sub_cancel]
  rw [List.take_of_length_le (by simp)]
def part (c : Cp) (dn m : Nat) : Cp := if c.k = 2 then ⟨c.k, c.n, encs (((cpts c.t).drop dn).take m)⟩ else ⟨c.k, m, c.t⟩
def advR (c : Cp) (r : List Cp) (dn m : Nat) : List Cp := if dn + m = size c then r else c :: r
def advD (c : Cp) (dn m : Nat) : Nat := if dn + m = size c then 0 else dn + m
theorem call_wtake {Γ : Env} (hΓ : kL Tryz.prog Γ) (hC : Γ.get 96 = none) (hE : Γ.get 97 = none) (hD : Γ.get 95 = none) (hR : Γ.get 92 = some kCd) (hS : Γ.get 118 = some kBe) {n : Nat} {t : Nat → AV} {hd : Nat → Nat → AV} {nh nl : Nat} {h : Nat → Option AO} {fm : Nat → Nat} {lv : Nat → Option (Nat × Nat)} {mu : Bool} {o : Nat} {c : Cp} {r : List Cp} {dn m : Nat} {d : Option Nat} {K : AS → Prop}
    (hn : o < nh) (ho : h o = some (.cells [.sl 0 3 (kU (c :: r)), .v (.int .i64 dn)])) (hl : okL (c :: r)) (hs : ∀ x ∈ c :: r, qE x = true) (hdn : dn + m ≤ size c) (hb : size c ≤ 1099511627776)
    (hk : ∀ h' : Nat → Option AO, h' o = some (.cells [.sl 0 3 (kU (advR c r dn m)), .v (.int .i64 (advD c dn m))]) → (∀ j, j < nh → j ≠ o → h' j = h j) → cont ⟨n, t, hd, ⟨nh + 2, h', nl, fm, lv, mu⟩⟩ d (cA (part c dn m)) K) :
    kR Tryz.prog Γ false ⟨n, t, hd, ⟨nh, h, nl, fm, lv, mu⟩⟩ 96 [.ptr o 0, .v (.int .i64 m)] d K := by
  have e1 := k9 (c :: r) (i := 0) (by simp)
  have hsc := qB (hs c (by simp))
  have htl := hl.text (c := c) (by simp)
  have hcn := hl.2.2 c (by simp)
  simp only [List.getElem_cons_zero] at e1
  have hll := hl.1
  simp only [List.length_cons] at hll
  have hcl := cpts_len c.t
  have q1 : (o = nh) = False := eq_false (by omega)
  have q2 : (o = nh + 1) = False := eq_false (by omega)
  have q3 : (nh = o) = False := eq_false (by omega)
  have q4 : (nh + 1 = o) = False := eq_false (by omega)
  have q5 : (nh = nh + 1) = False := eq_false (by omega)
  have q6 : (nh + 1 = nh) = False := eq_false (by omega)
  refine qX (nn := 60) hΓ (by first | assumption | simp [kB, kQ]) Tryz.func96 (by kernel_rfl) rfl (show Tryz.f96.results.toList = [.cell 4 80] from rfl) rfl ?_
  simp only [aR,N0,N1,N2,N3,N4,N5,Z0,Z1,Z2,Z3,Z4,Z5,Z6,Z7,Z8,Z9,Z10,Zc,↓reduceIte,reduceCtorEq, ho, kD, e1, List.length_cons, q1, q2, q3, q4, q5, q6]
  (repeat (with_reducible refine And.intro ?_ ?_; focus (first | omega | exact kG | kernel_rfl)))
  refine call_wlen hΓ hE hD hR (dn := dn) (r := c :: r) (by simp only [upd, q1, q2, if_false]; exact ho) hl hs (by omega) (by simp; omega) ?_
  rw [lenW]
  have q7 : IntKind.wrap .i64 ((dn : Int) + m) = ((dn + m : Nat) : Int) := by rw [kA (by omega) (by omega)]; omega
  by_cases h2 : c.k = 2
  · rw [part, if_pos h2] at hk
    have hz : size c = (cpts c.t).length := by rw [size, if_pos h2]
    have hv : pts c.t = some (cpts c.t) := by
      rcases hsc with ⟨_, _, _, hv⟩ | ⟨h, _⟩
      · exact kEq hv
      · omega
    have hr : kBH c.t dn ((dn + m : Nat) : Int) = res2 (.v (sv (encs (((cpts c.t).drop dn).take m)))) 0 := by
      unfold kBH
      rw [hv]
      simp only
      rw [if_pos (by omega), Int.toNat_natCast, Int.toNat_natCast, show dn + m - dn = m by omega]
    simp only [aR,N0,N1,N2,N3,N4,N5,Z0,Z1,Z2,Z3,Z4,Z5,Z6,Z7,Z8,Z9,Z10,Zc,↓reduceIte,reduceCtorEq, ho, kD, e1, List.length_cons, kAg, h2, q1, q2, q3, q4, q5, q6, q7]
    (repeat (with_reducible refine And.intro ?_ ?_; focus (first | omega | exact kG | kernel_rfl)))
    refine call_slice (by first | assumption | simp [kB]) htl (by omega) (by omega) ?_
    rw [hr]
    by_cases h3 : dn + m = size c
    · rw [advR, if_pos h3, advD, if_pos h3] at hk
      simp only [aR,N0,N1,N2,N3,N4,N5,Z0,Z1,Z2,Z3,Z4,Z5,Z6,Z7,Z8,Z9,Z10,Zc,↓reduceIte,reduceCtorEq, ho, kD, e1, List.length_cons, kAg, h2, q1, q2, q3, q4, q5, q6, q7, res2, show ((m : Int) = ((size c - dn : Nat) : Int)) = True from eq_true (by omega)]
      (repeat (with_reducible refine And.intro ?_ ?_; focus (first | omega | exact kG | kernel_rfl)))
      try rw [h2] at hk
      refine hk _ ?_ ?_
      · simp only [upd, q1, q2, if_true, if_false] <;> rfl
      · intro j hj hne
        simp only [upd, if_neg hne, if_neg (show ¬ j = nh by omega), if_neg (show ¬ j = nh + 1 by omega)]
    · rw [advR, if_neg h3, advD, if_neg h3] at hk
      simp only [aR,N0,N1,N2,N3,N4,N5,Z0,Z1,Z2,Z3,Z4,Z5,Z6,Z7,Z8,Z9,Z10,Zc,↓reduceIte,reduceCtorEq, ho, kD, e1, List.length_cons, kAg, h2, q1, q2, q3, q4, q5, q6, q7, res2, show ((m : Int) = ((size c - dn : Nat) : Int)) = False from eq_false (by omega)]
      (repeat (with_reducible refine And.intro ?_ ?_; focus (first | omega | exact kG | kernel_rfl)))
      try rw [h2] at hk
      refine hk _ ?_ ?_
      · simp only [upd, q1, q2, if_true, if_false] <;> rfl
      · intro j hj hne
        simp only [upd, if_neg hne, if_neg (show ¬ j = nh by omega), if_neg (show ¬ j = nh + 1 by omega)]
  · rw [part, if_neg h2] at hk
    by_cases h3 : dn + m = size c
    · rw [advR, if_pos h3, advD, if_pos h3] at hk
      simp only [aR,N0,N1,N2,N3,N4,N5,Z0,Z1,Z2,Z3,Z4,Z5,Z6,Z7,Z8,Z9,Z10,Zc,↓reduceIte,reduceCtorEq, ho, kD, e1, List.length_cons, kAg, h2, q1, q2, q3, q4, q5, q6, q7, show ((m : Int) = ((size c - dn : Nat) : Int)) = True from eq_true (by omega)]
      (repeat (with_reducible refine And.intro ?_ ?_; focus (first | omega | exact kG | kernel_rfl)))
      try rw [h2] at hk
      refine hk _ ?_ ?_
      · simp only [upd, q1, q2, if_true, if_false] <;> rfl
      · intro j hj hne
        simp only [upd, if_neg hne, if_neg (show ¬ j = nh by omega), if_neg (show ¬ j = nh + 1 by omega)]
    · rw [advR, if_neg h3, advD, if_neg h3] at hk
      simp only [aR,N0,N1,N2,N3,N4,N5,Z0,Z1,Z2,Z3,Z4,Z5,Z6,Z7,Z8,Z9,Z10,Zc,↓reduceIte,reduceCtorEq, ho, kD, e1, List.length_cons, kAg, h2, q1, q2, q3, q4, q5, q6, q7, show ((m : Int) = ((size c - dn : Nat) : Int)) = False from eq_false (by omega)]
      (repeat (with_reducible refine And.intro ?_ ?_; focus (first | omega | exact kG | kernel_rfl)))
      try rw [h2] at hk
      refine hk _ ?_ ?_
      · simp only [upd, q1, q2, if_true, if_false] <;> rfl
      · intro j hj hne
        simp only [upd, if_neg hne, if_neg (show ¬ j = nh by omega), if_neg (show ¬ j = nh + 1 by omega)]
end Go.Proofs
end
-- ZAw2
section
namespace Go.Proofs
open Go Go.Rw
set_option maxRecDepth 100000
def wOk (w : List Cp × Nat) : Prop := (∀ c ∈ w.1, qE c = true) ∧ (w.1 = [] → w.2 = 0) ∧ ∀ c r, w.1 = c :: r → w.2 < size c
def wU (w : List Cp × Nat) : List Un := (unL w.1).drop w.2
def adv (w : List Cp × Nat) (n : Nat) : List Cp × Nat := match w with
  | ([], a) => ([], a)
  | (c :: r, a) => (advR c r a n, advD c a n)
def jP (w : List Cp × Nat) (n : Nat) : Cp := match w with
  | ([], _) => ⟨0, 0, []⟩
  | (c :: _, a) => part c a n
theorem unP_part {c : Cp} {a n : Nat} (hs : qE c = true) (h : a + n ≤ size c) : unP (part c a n) = ((unP c).drop a).take n := by
  unfold part size at *
  unfold unP
  rcases qB hs with ⟨h2, _, _, hv⟩ | ⟨h1 | h3, _⟩
  · rw [if_pos h2]
    simp only [h2, if_true]
    rw [cpts_enc (fun x hx => (j3 hv).2 x (List.mem_of_mem_drop (List.mem_of_mem_take hx))), List.map_take, List.map_drop]
  · rw [if_neg (by omega)] at h
    simp only [h1, List.drop_replicate, List.take_replicate, if_neg (show ¬ (1 : Int) = 2 by decide), if_true, Int.toNat_natCast]
    congr 1; omega
  · rw [if_neg (by omega)] at h
    simp only [h3, List.drop_replicate, List.take_replicate, if_neg (show ¬ (3 : Int) = 2 by decide), if_neg (show ¬ (3 : Int) = 1 by decide), if_true, Int.toNat_natCast]
    congr 1; omega
theorem kDM {c : Cp} {a n : Nat} (hs : qE c = true) (h : a + n ≤ size c) (hn : 0 < n) : qE (part c a n) = true := by
  unfold part size at *
  rcases qB hs with ⟨h2, h0, _, hv⟩ | ⟨h13, _, ht⟩
  · rw [if_pos h2] at h ⊢
    have hp := kCp (cs := ((cpts c.t).drop a).take n) (fun x hx => (j3 hv).2 x (List.mem_of_mem_drop (List.mem_of_mem_take hx)))
    have hne : encs (((cpts c.t).drop a).take n) ≠ [] := by
      intro e
      have h1 := kCm (((cpts c.t).drop a).take n)
      rw [e, List.length_take, List.length_drop] at h1
      simp at h1
      omega
    unfold qE
    simp [h2, h0, hp, hne]
  · rw [if_neg (by omega)]
    unfold qE
    simp [ht]
    rcases h13 with h | h <;> simp [h, hn]
theorem wU_adv {w : List Cp × Nat} {n : Nat} (h : wOk w) (hn : w.2 + n ≤ (w.1.headD ⟨0, 0, []⟩ |> size) ∨ w.1 = []) : wU (adv w n) = (wU w).drop n ∧ (0 < n → wOk (adv w n)) := by
  obtain ⟨r, a⟩ := w
  obtain ⟨h1, h2, h3⟩ := h
  cases r with
  | nil =>
    have e0 : a = 0 := h2 rfl
    subst e0
    exact ⟨by simp [wU, adv, unL], fun _ => ⟨by simp [adv], by simp [adv], by simp [adv]⟩⟩
  | cons c r =>
    simp only [List.headD_cons, reduceCtorEq, or_false] at hn
    have hl := kCB (kA6 (h1 c (by simp)))
    simp only [wU, adv, advR, advD]
    by_cases hz : a + n = size c
    · rw [if_pos hz, if_pos hz, List.drop_drop, unL, show a + n = (unP c).length by omega, List.drop_left]
      refine ⟨by simp, fun _ => ⟨fun x hx => h1 x (by simp [hx]), fun _ => rfl, fun c' r' e => ?_⟩⟩
      simp only at e
      subst e
      exact size_pos (h1 c' (by simp))
    · rw [if_neg hz, if_neg hz, List.drop_drop]
      refine ⟨rfl, fun _ => ⟨h1, fun e => by simp at e, fun c' r' e => ?_⟩⟩
      simp only [List.cons.injEq] at e
      obtain ⟨rfl, rfl⟩ := e
      show a + n < size c
      omega
theorem kAQ {c : Cp} (h : qE c = true) : (c.k = 1 → unP c = List.replicate (size c) .r) ∧ (c.k = 3 → unP c = List.replicate (size c) .d) ∧ (c.k = 2 → unP c = (cpts c.t).map .i ∧ (cpts c.t).length = size c) := by
  unfold unP size
  refine ⟨fun h => by simp [h], fun h => by simp [h], fun h => by simp [h]⟩
theorem size_part {c : Cp} {a n : Nat} (hs : qE c = true) (h : a + n ≤ size c) (hn : 0 < n) : size (part c a n) = n := by
  rw [← kCB (kA6 (kDM hs h hn)), unP_part hs h, List.length_take, List.length_drop, kCB (kA6 hs)]
  omega
theorem part_k {c : Cp} {a n : Nat} : (part c a n).k = c.k := by unfold part; split <;> rfl
theorem qQ {w : List Cp × Nat} {n : Nat} (h : wOk w) (hk : qA w.1 ≠ 0) (hn : 0 < n) (hl : n ≤ lenW w.1 w.2) :
    wU w = unP (jP w n) ++ wU (adv w n) ∧ wOk (adv w n) ∧ qE (jP w n) = true ∧ size (jP w n) = n ∧ (jP w n).k = qA w.1 ∧ (wU w).length = n + (wU (adv w n)).length := by
  obtain ⟨r, a⟩ := w
  cases r with
  | nil => simp [qA] at hk
  | cons c r =>
    have hs := h.1 c (by simp)
    have hlt := h.2.2 c r rfl
    simp only [lenW] at hl
    have hle : a + n ≤ size c := by simp only at hlt; omega
    obtain ⟨e1, e2⟩ := wU_adv (n := n) h (.inl (by simpa using hle))
    have hul := kCB (kA6 hs)
    have e3 : wU (c :: r, a) = unP (part c a n) ++ wU (adv (c :: r, a) n) := by
      rw [e1, unP_part hs hle]
      show (unP c ++ unL r).drop a = _
      have e4 : (unP c ++ unL r).drop a = (unP c).drop a ++ unL r := by rw [List.drop_append_of_le_length (by omega)]
      have e5 : (wU (c :: r, a)) = (unP c).drop a ++ unL r := e4
      rw [e4, e5, List.drop_append_of_le_length (by rw [List.length_drop]; omega), ← List.append_assoc, List.take_append_drop]
    refine ⟨e3, e2 hn, kDM hs hle hn, size_part hs hle hn, part_k, ?_⟩
    rw [e3, List.length_append]
    show (unP (part c a n)).length + _ = _
    rw [kCB (kA6 (kDM hs hle hn)), size_part hs hle hn]
theorem qW {w : List Cp × Nat} (h : wOk w) (hk : qA w.1 ≠ 0) : 0 < lenW w.1 w.2 := by
  obtain ⟨r, a⟩ := w
  cases r with
  | nil => simp [qA] at hk
  | cons c r =>
    have := h.2.2 c r rfl
    simp only [lenW] at this ⊢; omega
theorem kAl {w : List Cp × Nat} (h : wOk w) : qA w.1 = 0 ∧ wU w = [] ∨ qA w.1 = 1 ∨ qA w.1 = 2 ∨ qA w.1 = 3 := by
  obtain ⟨r, a⟩ := w
  cases r with
  | nil => left; exact ⟨rfl, by simp [wU, unL]⟩
  | cons c r =>
    right
    exact kA6 (h.1 c (by simp))
theorem wU_first {w : List Cp × Nat} (h : wOk w) : (qA w.1 = 1 → ∃ n z, wU w = List.replicate (n + 1) .r ++ z) ∧ (qA w.1 = 3 → ∃ n z, wU w = List.replicate (n + 1) .d ++ z) ∧ (qA w.1 = 2 → ∃ c cs z, wU w = (c :: cs).map .i ++ z) := by
  refine ⟨fun hk => ?_, fun hk => ?_, fun hk => ?_⟩
  all_goals
    have hp := qW h (by omega)
    obtain ⟨e1, e2, e3, e4, e5, e6⟩ := qQ h (by omega) hp (Nat.le_refl _)
    obtain ⟨s1, s2, s3⟩ := kAQ e3
    rw [e4] at s1 s2 s3
  · rw [s1 (by omega)] at e1
    exact ⟨lenW w.1 w.2 - 1, _, by rw [e1]; congr 2; omega⟩
  · rw [s2 (by omega)] at e1
    exact ⟨lenW w.1 w.2 - 1, _, by rw [e1]; congr 2; omega⟩
  · obtain ⟨t1, t2⟩ := s3 (by omega)
    rw [t1] at e1
    cases hc : cpts (jP w (lenW w.1 w.2)).t with
    | nil => rw [hc] at t2; simp at t2; omega
    | cons c cs => exact ⟨c, cs, _, by rw [e1, hc]⟩
end Go.Proofs
end
-- ZAw3
section
namespace Go.Proofs
open Go Go.Rw
set_option maxRecDepth 100000
theorem ulen_le : ∀ u : List Un, u.length ≤ bU u + oU u
  | [] => by simp [bU, oU]
  | .r :: u => by have := ulen_le u; simp only [List.length_cons, bU, oU]; omega
  | .d :: u => by have := ulen_le u; simp only [List.length_cons, bU, oU]; omega
  | .i _ :: u => by have := ulen_le u; simp only [List.length_cons, bU, oU]; omega
theorem jN {l : List Cp} (h : qI l = 0) : outL l = oU (unL l) ∧ zY l = bU (unL l) ∧ (unL l).length ≤ 4000 := by
  obtain ⟨h1, h2, h3, h4, h5, h6⟩ := kAm h
  have hb := kDE l h3
  have hf : fit (List.replicate (bU (unL l)) 1) l := ⟨h3, by rw [List.length_replicate]; omega⟩
  have h7 := out_do l (List.replicate (bU (unL l)) 1) 0 (by omega) hf h6
  rw [kCR l _ h3, do_len _ _ (by simp)] at h7
  have h8 := ulen_le (unL l)
  have h9 : outL l = outF 0 l := rfl
  omega
theorem okL_tail {c : Cp} {r : List Cp} (h : okL (c :: r)) : okL r := by
  obtain ⟨h1, h2, h3⟩ := h
  simp only [List.length_cons, tot] at h1 h2
  exact ⟨by omega, by omega, fun x hx => h3 x (by simp [hx])⟩
theorem size_text {c : Cp} (h : qE c = true) : c.t.length ≤ 4 * size c ∧ 0 ≤ c.n ∧ c.n ≤ size c := by
  unfold size
  rcases qB h with ⟨h2, h0, _, hv⟩ | ⟨h13, hp, ht⟩
  · rw [if_pos h2]
    have := encs_ge (cpts c.t)
    rw [(j3 hv).1] at this
    omega
  · rw [if_neg (by omega), ht]
    simp; omega
theorem kC3 : ∀ {l : List Cp}, (∀ c ∈ l, qE c = true) → l.length ≤ (unL l).length ∧ tot l ≤ 4 * (unL l).length ∧ ∀ c ∈ l, 0 ≤ c.n ∧ c.n ≤ (unL l).length
  | [], _ => by simp [unL, tot]
  | c :: r, h => by
    have hs := h c (by simp)
    obtain ⟨h1, h2, h3⟩ := kC3 (l := r) (fun x hx => h x (by simp [hx]))
    have h4 := size_pos hs
    have h5 := kCB (kA6 hs)
    obtain ⟨h6, h7, h8⟩ := size_text hs
    simp only [unL, tot, List.length_append, List.length_cons]
    refine ⟨by omega, by omega, fun x hx => ?_⟩
    rcases List.mem_cons.1 hx with rfl | hx
    · omega
    · have := h3 x hx; omega
theorem okL_raw {l : List Cp} (h : ∀ c ∈ l, qE c = true) (hb : (unL l).length ≤ 100000) : okL l := by
  obtain ⟨h1, h2, h3⟩ := kC3 h
  exact ⟨by omega, by omega, fun c hc => by have := h3 c hc; omega⟩
def WOK (w : List Cp × Nat) : Prop := wOk w ∧ okL w.1 ∧ ∀ c ∈ w.1, size c ≤ 100000
theorem jU {w : List Cp × Nat} {n : Nat} (h : WOK w) (hk : qA w.1 ≠ 0) (hn : 0 < n) (hl : n ≤ lenW w.1 w.2) : WOK (adv w n) := by
  refine ⟨(qQ h.1 hk hn hl).2.1, ?_, ?_⟩
  · obtain ⟨r, a⟩ := w
    cases r with
    | nil => simp [qA] at hk
    | cons c r =>
      show okL (advR c r a n)
      unfold advR
      split
      · exact okL_tail h.2.1
      · exact h.2.1
  · obtain ⟨r, a⟩ := w
    cases r with
    | nil => simp [qA] at hk
    | cons c r =>
      intro x hx
      have hx2 : x ∈ advR c r a n := hx
      unfold advR at hx2
      split at hx2
      · exact h.2.2 x (by simp [hx2])
      · exact h.2.2 x hx2
theorem kBX {l : List Cp} (h : qI l = 0) (ho : okL l) : WOK (l, 0) := by
  obtain ⟨h1, h2, h3, h4, h5, h6⟩ := kAm h
  refine ⟨⟨h3, fun _ => rfl, fun c r e => ?_⟩, ho, fun c hc => ?_⟩
  · have e2 : l = c :: r := e
    exact size_pos (h3 c (by rw [e2]; simp))
  · have h7 := (jN h).2.2
    obtain ⟨a, b, e⟩ := List.append_of_mem hc
    have e0 : l = a ++ c :: b := e
    have e2 : (unL l).length = (unL a).length + ((unP c).length + (unL b).length) := by rw [e0, unL_app, unL]; simp
    rw [kCB (kA6 (h3 c hc))] at e2
    show size c ≤ 100000
    omega
theorem lenW_le {w : List Cp × Nat} (h : WOK w) : lenW w.1 w.2 ≤ 100000 ∧ w.2 ≤ 100000 ∧ (w.1 ≠ [] → w.2 ≤ size (w.1.headD ⟨0, 0, []⟩)) := by
  obtain ⟨r, a⟩ := w
  cases r with
  | nil => have := h.1.2.1 rfl; simp only at this; simp [lenW, this]
  | cons c r =>
    have h1 := h.2.2 c (by simp)
    have h2 := h.1.2.2 c r rfl
    simp only at h2
    simp only [lenW, List.headD_cons]
    exact ⟨by omega, by omega, fun _ => by omega⟩
theorem kind_nil {w : List Cp × Nat} (h : qA w.1 ≠ 0) : ∃ c r a, w = (c :: r, a) := by
  obtain ⟨r, a⟩ := w
  cases r with
  | nil => simp [qA] at h
  | cons c r => exact ⟨c, r, a, rfl⟩
theorem kBj {Γ : Env} (hΓ : kL Tryz.prog Γ) (hC : Γ.get 95 = none) {n : Nat} {t : Nat → AV} {hd : Nat → Nat → AV} {nh nl : Nat} {h : Nat → Option AO} {fm : Nat → Nat} {lv : Nat → Option (Nat × Nat)} {mu : Bool} {o : Nat} {w : List Cp × Nat} {d : Option Nat} {K : AS → Prop}
    (hw : WOK w) (ho : h o = some (.cells [.sl 0 3 (kU w.1), .v (.int .i64 w.2)]))
    (hk : cont ⟨n, t, hd, ⟨nh, h, nl, fm, lv, mu⟩⟩ d (.v (.int .i64 (qA w.1))) K) : kR Tryz.prog Γ false ⟨n, t, hd, ⟨nh, h, nl, fm, lv, mu⟩⟩ 95 [.ptr o 0] d K :=
  kFK hΓ hC ho hw.2.1.1 hk
theorem kBd {Γ : Env} (hΓ : kL Tryz.prog Γ) (hC : Γ.get 97 = none) (hD : Γ.get 95 = none) (hR : Γ.get 92 = some kCd) {n : Nat} {t : Nat → AV} {hd : Nat → Nat → AV} {nh nl : Nat} {h : Nat → Option AO} {fm : Nat → Nat} {lv : Nat → Option (Nat × Nat)} {mu : Bool} {o : Nat} {w : List Cp × Nat} {d : Option Nat} {K : AS → Prop}
    (hw : WOK w) (ho : h o = some (.cells [.sl 0 3 (kU w.1), .v (.int .i64 w.2)]))
    (hk : cont ⟨n, t, hd, ⟨nh, h, nl, fm, lv, mu⟩⟩ d (.v (.int .i64 (lenW w.1 w.2))) K) : kR Tryz.prog Γ false ⟨n, t, hd, ⟨nh, h, nl, fm, lv, mu⟩⟩ 97 [.ptr o 0] d K := by
  obtain ⟨h1, h2, h3⟩ := lenW_le hw
  exact call_wlen hΓ hC hD hR ho hw.2.1 hw.1.1 (by omega) h3 hk
theorem kB5 {Γ : Env} (hΓ : kL Tryz.prog Γ) (hC : Γ.get 96 = none) (hE : Γ.get 97 = none) (hD : Γ.get 95 = none) (hR : Γ.get 92 = some kCd) (hS : Γ.get 118 = some kBe) {n : Nat} {t : Nat → AV} {hd : Nat → Nat → AV} {nh nl : Nat} {h : Nat → Option AO} {fm : Nat → Nat} {lv : Nat → Option (Nat × Nat)} {mu : Bool} {o : Nat} {w : List Cp × Nat} {m : Nat} {d : Option Nat} {K : AS → Prop}
    (hn : o < nh) (hw : WOK w) (hkk : qA w.1 ≠ 0) (hm : m ≤ lenW w.1 w.2) (ho : h o = some (.cells [.sl 0 3 (kU w.1), .v (.int .i64 w.2)]))
    (hk : ∀ h' : Nat → Option AO, h' o = some (.cells [.sl 0 3 (kU (adv w m).1), .v (.int .i64 (adv w m).2)]) → (∀ j, j < nh → j ≠ o → h' j = h j) → cont ⟨n, t, hd, ⟨nh + 2, h', nl, fm, lv, mu⟩⟩ d (cA (jP w m)) K) :
    kR Tryz.prog Γ false ⟨n, t, hd, ⟨nh, h, nl, fm, lv, mu⟩⟩ 96 [.ptr o 0, .v (.int .i64 m)] d K := by
  obtain ⟨c, r, a, rfl⟩ := kind_nil hkk
  have h1 := hw.1.2.2 c r rfl
  have h2 := hw.2.2 c (by simp)
  simp only [lenW] at hm
  simp only at h1
  exact call_wtake hΓ hC hE hD hR hS hn ho hw.2.1 hw.1.1 (by omega) (by omega) hk
end Go.Proofs
end
-- ZAw4
section
namespace Go.Proofs
open Go Go.Rw
set_option maxRecDepth 100000
end Go.Proofs
end
-- ZAw5
section
namespace Go.Proofs
open Go Go.Rw
open _root_.Nat renaming reduceAdd → N0, reduceSub → N1, reduceMul → N2, reduceLT → N3, reduceLeDiff → N4, reduceEqDiff → N5
open _root_.Int renaming reduceNeg → Z0, reduceAdd → Z1, reduceSub → Z2, reduceMul → Z3, reduceGT → Z4, reduceGE → Z5, reduceLT → Z6, reduceLE → Z7, reduceEq → Z8, reduceNe → Z9, reduceToNat → Z10, cast_ofNat_Int → Zc
set_option maxRecDepth 100000
theorem kAX {Γ : Env} (hΓ : kL Tryz.prog Γ) (hC : Γ.get 78 = none) {n : Nat} {t : Nat → AV} {hd : Nat → Nat → AV} {nh nl : Nat} {h : Nat → Option AO} {fm : Nat → Nat} {lv : Nat → Option (Nat × Nat)} {mu : Bool} {o : Nat} {l : List Cp} {at' dn : Nat} {d : Option Nat} {K : AS → Prop}
    (ol : okL l) (ha : at' ≤ l.length) (ho : h o = some (.cells [.sl 0 3 (kU l), .v (.int .i64 at'), .v (.int .i64 dn)]))
    (hk : cont ⟨n, t, hd, ⟨nh, h, nl, fm, lv, mu⟩⟩ d (.v (.int .i64 (qA (l.drop at')))) K) : kR Tryz.prog Γ false ⟨n, t, hd, ⟨nh, h, nl, fm, lv, mu⟩⟩ 78 [.ptr o 0] d K := by
  have hll := ol.1
  refine qX (nn := 24) hΓ (by first | assumption | simp [kB, kQ]) Tryz.func78 (by kernel_rfl) rfl (show Tryz.f78.results.toList = [.tmp 2] from rfl) rfl ?_
  by_cases hlt : at' < l.length
  · have e1 := k9 l hlt
    have e2 : qA (l.drop at') = l[at'].k := by rw [List.drop_eq_getElem_cons hlt]; rfl
    rw [e2] at hk
    simp only [aR,N0,N1,N2,N3,N4,N5,Z0,Z1,Z2,Z3,Z4,Z5,Z6,Z7,Z8,Z9,Z10,Zc,↓reduceIte,reduceCtorEq, ho, kD, e1, show ((at' : Int) ≥ l.length) = False from eq_false (by omega)]
    (repeat (with_reducible refine And.intro ?_ ?_; focus (first | omega | exact kG | kernel_rfl)))
    exact hk
  · have e2 : qA (l.drop at') = 0 := by rw [List.drop_of_length_le (by omega)]; rfl
    rw [e2] at hk
    simp only [aR,N0,N1,N2,N3,N4,N5,Z0,Z1,Z2,Z3,Z4,Z5,Z6,Z7,Z8,Z9,Z10,Zc,↓reduceIte,reduceCtorEq, ho, kD, show ((at' : Int) ≥ l.length) = True from eq_true (by omega)]
    (repeat (with_reducible refine And.intro ?_ ?_; focus (first | omega | exact kG | kernel_rfl)))
    exact hk
theorem call_rln {Γ : Env} (hΓ : kL Tryz.prog Γ) (hC : Γ.get 80 = none) (hR : Γ.get 35 = some j7) {n : Nat} {t : Nat → AV} {hd : Nat → Nat → AV} {nh nl : Nat} {h : Nat → Option AO} {fm : Nat → Nat} {lv : Nat → Option (Nat × Nat)} {mu : Bool} {o : Nat} {l : List Cp} {at' dn : Nat} {d : Option Nat} {K : AS → Prop}
    (hn : o < nh) (hnh : h nh = none) (ol : okL l) (ha : at' < l.length) (hs : qE (l[at']'ha) = true) (hsz : size (l[at']'ha) ≤ 100000) (hdn : dn ≤ size (l[at']'ha)) (ho : h o = some (.cells [.sl 0 3 (kU l), .v (.int .i64 at'), .v (.int .i64 dn)]))
    (hk : ∀ h' : Nat → Option AO, (∀ j, j ≠ nh → h' j = h j) → cont ⟨n, t, hd, ⟨nh + 1, h', nl, fm, lv, mu⟩⟩ d (.v (.int .i64 (size (l[at']'ha) - dn : Nat))) K) : kR Tryz.prog Γ false ⟨n, t, hd, ⟨nh, h, nl, fm, lv, mu⟩⟩ 80 [.ptr o 0] d K := by
  have hll := ol.1
  have htl := ol.text (List.getElem_mem ha)
  have hcn := ol.2.2 _ (List.getElem_mem ha)
  have e1 := k9 l ha
  have q1 : (o = nh) = False := eq_false (by omega)
  have q3 : (nh = o) = False := eq_false (by omega)
  generalize l[at'] = c at *
  have hsc := qB hs
  refine qX (nn := 32) hΓ (by first | assumption | simp [kB, kQ]) Tryz.func80 (by kernel_rfl) rfl (show Tryz.f80.results.toList = [.tmp 2] from rfl) rfl ?_
  simp only [aR,N0,N1,N2,N3,N4,N5,Z0,Z1,Z2,Z3,Z4,Z5,Z6,Z7,Z8,Z9,Z10,Zc,↓reduceIte,reduceCtorEq, ho, hnh, kD, e1, q1, q3]
  (repeat (with_reducible refine And.intro ?_ ?_; focus (first | omega | exact kG | kernel_rfl)))
  by_cases h2 : c.k = 2
  · have hz : size c = (cpts c.t).length := by rw [size, if_pos h2]
    rw [hz] at hsz hdn hk
    simp only [aR,N0,N1,N2,N3,N4,N5,Z0,Z1,Z2,Z3,Z4,Z5,Z6,Z7,Z8,Z9,Z10,Zc,↓reduceIte,reduceCtorEq, ho, kD, e1, q1, q3, h2]
    (repeat (with_reducible refine And.intro ?_ ?_; focus (first | omega | exact kG | kernel_rfl)))
    refine kEX (by first | assumption | simp [kB]) htl ?_
    rw [cnt_cpts]
    simp only [aR,N0,N1,N2,N3,N4,N5,Z0,Z1,Z2,Z3,Z4,Z5,Z6,Z7,Z8,Z9,Z10,Zc,↓reduceIte,reduceCtorEq, ho, kD, e1, q1, q3, h2, kA (n := ((cpts c.t).length : Int) - dn) (by omega) (by omega)]
    try (repeat (with_reducible refine And.intro ?_ ?_; focus (first | omega | exact kG | kernel_rfl)))
    rw [show ((cpts c.t).length : Int) - dn = (((cpts c.t).length - dn : Nat) : Int) by omega]
    refine hk _ ?_
    intro j hne
    simp only [upd, if_neg hne]
  · have hz : size c = c.n.toNat := by rw [size, if_neg h2]
    rw [hz] at hsz hdn hk
    have hp : 0 < c.n := by
      rcases hsc with ⟨h, _⟩ | ⟨_, hp, _⟩
      · exact absurd h h2
      · exact hp
    simp only [aR,N0,N1,N2,N3,N4,N5,Z0,Z1,Z2,Z3,Z4,Z5,Z6,Z7,Z8,Z9,Z10,Zc,↓reduceIte,reduceCtorEq, ho, kD, e1, q1, q3, h2, kA (n := c.n - dn) (by omega) (by omega)]
    try (repeat (with_reducible refine And.intro ?_ ?_; focus (first | omega | exact kG | kernel_rfl)))
    rw [show c.n - dn = ((c.n.toNat - dn : Nat) : Int) by omega]
    refine hk _ ?_
    intro j hne
    simp only [upd, if_neg hne]
theorem kAs {Γ : Env} (hΓ : kL Tryz.prog Γ) (hC : Γ.get 79 = none) (hE : Γ.get 80 = none) (hR : Γ.get 35 = some j7) (hS : Γ.get 85 = some kBT) {n : Nat} {t : Nat → AV} {hd : Nat → Nat → AV} {nh nl : Nat} {h : Nat → Option AO} {fm : Nat → Nat} {lv : Nat → Option (Nat × Nat)} {mu : Bool} {o : Nat} {l : List Cp} {at' dn m : Nat} {d : Option Nat} {K : AS → Prop}
    (hn : o < nh) (hnh : ∀ j, nh ≤ j → h j = none) (ol : okL l) (hw : WOK (l.drop at', dn)) (hkk : qA (l.drop at') ≠ 0) (hm : m ≤ lenW (l.drop at') dn) (ho : h o = some (.cells [.sl 0 3 (kU l), .v (.int .i64 at'), .v (.int .i64 dn)]))
    (hk : ∀ (h' : Nat → Option AO) (b : Nat), h' o = some (.cells [.sl 0 3 (kU l), .v (.int .i64 b), .v (.int .i64 (adv (l.drop at', dn) m).2)]) → l.drop b = (adv (l.drop at', dn) m).1 → b ≤ l.length → (∀ j, j < nh → j ≠ o → h' j = h j) → (∀ j, nh + 4 ≤ j → h' j = none) → cont ⟨n, t, hd, ⟨nh + 4, h', nl, fm, lv, mu⟩⟩ d (cA (jP (l.drop at', dn) m)) K) :
    kR Tryz.prog Γ false ⟨n, t, hd, ⟨nh, h, nl, fm, lv, mu⟩⟩ 79 [.ptr o 0, .v (.int .i64 m)] d K := by
  have hlt : at' < l.length := by
    rcases Nat.lt_or_ge at' l.length with h | h
    · exact h
    · rw [List.drop_of_length_le h] at hkk; simp [qA] at hkk
  have hdr := List.drop_eq_getElem_cons hlt
  have hll := ol.1
  have htl := ol.text (List.getElem_mem hlt)
  have hcn := ol.2.2 _ (List.getElem_mem hlt)
  have e1 := k9 l hlt
  have hs := hw.1.1 l[at'] (by rw [hdr]; exact List.mem_cons_self)
  have hdl := hw.1.2.2 l[at'] (l.drop (at' + 1)) hdr
  have hsz := hw.2.2 l[at'] (by rw [hdr]; exact List.mem_cons_self)
  simp only at hdl
  have hlw : lenW (l.drop at') dn = size l[at'] - dn := by rw [hdr]; rfl
  rw [hlw] at hm
  have hpc : jP (l.drop at', dn) m = part l[at'] dn m := by rw [hdr]; rfl
  have had : adv (l.drop at', dn) m = (advR l[at'] (l.drop (at' + 1)) dn m, advD l[at'] dn m) := by rw [hdr]; rfl
  rw [hpc, had] at hk
  simp only at hk
  have q1 : (o = nh) = False := eq_false (by omega)
  have q2 : (o = nh + 1) = False := eq_false (by omega)
  have q3 : (nh = o) = False := eq_false (by omega)
  have q4 : (nh + 1 = o) = False := eq_false (by omega)
  have q5 : (nh = nh + 1) = False := eq_false (by omega)
  have q6 : (nh + 1 = nh) = False := eq_false (by omega)
  have q8 : (o = nh + 1 + 1) = False := eq_false (by omega)
  have q9 : (nh + 1 + 1 = o) = False := eq_false (by omega)
  have qa : (nh + 1 + 1 = nh) = False := eq_false (by omega)
  have qb : (nh + 1 + 1 = nh + 1) = False := eq_false (by omega)
  have qc : (nh = nh + 1 + 1) = False := eq_false (by omega)
  have qd : (nh + 1 = nh + 1 + 1) = False := eq_false (by omega)
  have q7 : IntKind.wrap .i64 ((dn : Int) + m) = ((dn + m : Nat) : Int) := by rw [kA (by omega) (by omega)]; omega
  have qe : IntKind.wrap .i64 ((at' : Int) + 1) = ((at' + 1 : Nat) : Int) := by rw [kA (by omega) (by omega)]; omega
  have n0 := hnh nh (by omega)
  have n1 := hnh (nh + 1) (by omega)
  have n2 := hnh (nh + 1 + 1) (by omega)
  have n3 := hnh (nh + 1 + 1 + 1) (by omega)
  generalize hcc : l[at'] = c at *
  have hsc := qB hs
  have hcl := cpts_len c.t
  -- what follows when the jP is put together
  refine qX (nn := 61) hΓ (by first | assumption | simp [kB, kQ]) Tryz.func79 (by kernel_rfl) rfl (show Tryz.f79.results.toList = [.cell 4 80] from rfl) rfl ?_
  simp only [aR,N0,N1,N2,N3,N4,N5,Z0,Z1,Z2,Z3,Z4,Z5,Z6,Z7,Z8,Z9,Z10,Zc,↓reduceIte,reduceCtorEq, ho, n0, n1, n2, kD, e1, q1, q2, q3, q4, q5, q6, q7]
  (repeat (with_reducible refine And.intro ?_ ?_; focus (first | omega | exact kG | kernel_rfl)))
  by_cases h2 : c.k = 2
  · simp only [aR,N0,N1,N2,N3,N4,N5,Z0,Z1,Z2,Z3,Z4,Z5,Z6,Z7,Z8,Z9,Z10,Zc,↓reduceIte,reduceCtorEq, ho, n0, n1, n2, kD, e1, q1, q2, q3, q4, q5, q6, q7, q8, q9, qa, qb, qc, qd, h2, List.map_cons, List.map_nil]
    (repeat (with_reducible refine And.intro ?_ ?_; focus (first | omega | exact kG | kernel_rfl)))
    rcases hsc with ⟨_, h0, _, hv⟩ | ⟨h, _⟩
    case inr => omega
    have hz : size c = (cpts c.t).length := by rw [size, if_pos h2]
    obtain ⟨te, tok⟩ := j3 hv
    rw [← te]
    refine call_rslice (by first | assumption | simp [kB]) tok (by rw [te]; exact htl) (by omega) ?_
    rw [te, Int.toNat_natCast, Int.toNat_natCast, show dn + m - dn = m by omega]
    rw [part, if_pos h2, h0, h2] at hk
    simp only [aR,N0,N1,N2,N3,N4,N5,Z0,Z1,Z2,Z3,Z4,Z5,Z6,Z7,Z8,Z9,Z10,Zc,↓reduceIte,reduceCtorEq, ho, n0, n1, n2, kD, e1, q1, q2, q3, q4, q5, q6, q7, q8, q9, qa, qb, qc, qd, h2, List.map_cons, List.map_nil]
    try (repeat (with_reducible refine And.intro ?_ ?_; focus (first | omega | exact kG | kernel_rfl)))
    refine call_rln (l := l) (at' := at') (dn := dn + m) hΓ (by first | assumption | simp [kB, kQ]) (by first | assumption | simp [kB]) (by omega) (by simp only [upd, show ¬ nh + 1 + 1 + 1 = nh + 1 + 1 by omega, show ¬ nh + 1 + 1 + 1 = nh + 1 by omega, show ¬ nh + 1 + 1 + 1 = nh by omega, show ¬ nh + 1 + 1 + 1 = o by omega, if_false]; exact n3) ol hlt (by rw [hcc]; exact hs) (by rw [hcc]; exact hsz) (by rw [hcc]; omega) (by simp only [upd, q1, q2, q8, if_true, if_false] <;> rfl) ?_
    intro h' hj
    rw [hcc]
    have j0 := hj nh (by omega)
    have j1 := hj (nh + 1) (by omega)
    have j2 := hj (nh + 1 + 1) (by omega)
    have jo := hj o (by omega)
    have frame : ∀ j, j < nh → j ≠ o → h' j = h j := fun j h1 h2 => by
      rw [hj j (by omega)]
      simp only [upd, if_neg h2, if_neg (show ¬ j = nh by omega), if_neg (show ¬ j = nh + 1 by omega), if_neg (show ¬ j = nh + 1 + 1 by omega)]
    have above : ∀ j, nh + 1 + 1 + 1 + 1 ≤ j → h' j = none := fun j h1 => by
      rw [hj j (by omega)]
      simp only [upd, if_neg (show ¬ j = o by omega), if_neg (show ¬ j = nh by omega), if_neg (show ¬ j = nh + 1 by omega), if_neg (show ¬ j = nh + 1 + 1 by omega)]
      exact hnh j (by omega)
    by_cases h3 : dn + m = size c
    · rw [advR, if_pos h3, advD, if_pos h3] at hk
      simp only [aR,N0,N1,N2,N3,N4,N5,Z0,Z1,Z2,Z3,Z4,Z5,Z6,Z7,Z8,Z9,Z10,Zc,↓reduceIte,reduceCtorEq, j0, j1, j2, jo, q1, q2, q3, q4, q5, q6, q8, q9, qa, qb, qc, qd, qe, show (((size c - (dn + m) : Nat) : Int) = 0) = True from eq_true (by omega)]
      try (repeat (with_reducible refine And.intro ?_ ?_; focus (first | omega | exact kG | kernel_rfl)))
      skip
      refine hk _ (at' + 1) ?_ rfl (by omega) ?_ ?_
      · simp only [upd, q1, q2, q8, if_true, if_false] <;> rfl
      · intro j h4 h5
        simp only [upd, if_neg h5, if_neg (show ¬ j = nh by omega)]
        exact frame j h4 h5
      · intro j h4
        simp only [upd, if_neg (show ¬ j = o by omega), if_neg (show ¬ j = nh by omega)]
        exact above j h4
    · rw [advR, if_neg h3, advD, if_neg h3] at hk
      simp only [aR,N0,N1,N2,N3,N4,N5,Z0,Z1,Z2,Z3,Z4,Z5,Z6,Z7,Z8,Z9,Z10,Zc,↓reduceIte,reduceCtorEq, j0, j1, j2, jo, q1, q2, q3, q4, q5, q6, q8, q9, qa, qb, qc, qd, qe, show (((size c - (dn + m) : Nat) : Int) = 0) = False from eq_false (by omega)]
      try (repeat (with_reducible refine And.intro ?_ ?_; focus (first | omega | exact kG | kernel_rfl)))
      skip
      refine hk _ at' ?_ (by rw [List.drop_eq_getElem_cons hlt, hcc]) (by omega) ?_ ?_
      · simp only [upd, q1, q2, q8, if_true, if_false, jo] <;> rfl
      · intro j h4 h5
        simp only [upd, if_neg h5, if_neg (show ¬ j = nh by omega)]
        exact frame j h4 h5
      · intro j h4
        simp only [upd, if_neg (show ¬ j = o by omega), if_neg (show ¬ j = nh by omega)]
        exact above j h4
  · rcases hsc with ⟨h, _⟩ | ⟨_, _, ht0⟩
    · exact absurd h h2
    rw [part, if_neg h2, ht0] at hk
    simp only [aR,N0,N1,N2,N3,N4,N5,Z0,Z1,Z2,Z3,Z4,Z5,Z6,Z7,Z8,Z9,Z10,Zc,↓reduceIte,reduceCtorEq, ho, n0, n1, n2, kD, e1, q1, q2, q3, q4, q5, q6, q7, q8, q9, qa, qb, qc, qd, h2, List.map_cons, List.map_nil]
    try (repeat (with_reducible refine And.intro ?_ ?_; focus (first | omega | exact kG | kernel_rfl)))
    refine call_rln (l := l) (at' := at') (dn := dn + m) hΓ (by first | assumption | simp [kB, kQ]) (by first | assumption | simp [kB]) (by omega) (by simp only [upd, show ¬ nh + 1 + 1 + 1 = nh + 1 + 1 by omega, show ¬ nh + 1 + 1 + 1 = nh + 1 by omega, show ¬ nh + 1 + 1 + 1 = nh by omega, show ¬ nh + 1 + 1 + 1 = o by omega, if_false]; exact n3) ol hlt (by rw [hcc]; exact hs) (by rw [hcc]; exact hsz) (by rw [hcc]; omega) (by simp only [upd, q1, q2, q8, if_true, if_false] <;> rfl) ?_
    intro h' hj
    rw [hcc]
    have j0 := hj nh (by omega)
    have j1 := hj (nh + 1) (by omega)
    have j2 := hj (nh + 1 + 1) (by omega)
    have jo := hj o (by omega)
    have frame : ∀ j, j < nh → j ≠ o → h' j = h j := fun j h1 h2 => by
      rw [hj j (by omega)]
      simp only [upd, if_neg h2, if_neg (show ¬ j = nh by omega), if_neg (show ¬ j = nh + 1 by omega), if_neg (show ¬ j = nh + 1 + 1 by omega)]
    have above : ∀ j, nh + 1 + 1 + 1 + 1 ≤ j → h' j = none := fun j h1 => by
      rw [hj j (by omega)]
      simp only [upd, if_neg (show ¬ j = o by omega), if_neg (show ¬ j = nh by omega), if_neg (show ¬ j = nh + 1 by omega), if_neg (show ¬ j = nh + 1 + 1 by omega)]
      exact hnh j (by omega)
    by_cases h3 : dn + m = size c
    · rw [advR, if_pos h3, advD, if_pos h3] at hk
      simp only [aR,N0,N1,N2,N3,N4,N5,Z0,Z1,Z2,Z3,Z4,Z5,Z6,Z7,Z8,Z9,Z10,Zc,↓reduceIte,reduceCtorEq, j0, j1, j2, jo, q1, q2, q3, q4, q5, q6, q8, q9, qa, qb, qc, qd, qe, show (((size c - (dn + m) : Nat) : Int) = 0) = True from eq_true (by omega)]
      try (repeat (with_reducible refine And.intro ?_ ?_; focus (first | omega | exact kG | kernel_rfl)))
      skip
      refine hk _ (at' + 1) ?_ rfl (by omega) ?_ ?_
      · simp only [upd, q1, q2, q8, if_true, if_false] <;> rfl
      · intro j h4 h5
        simp only [upd, if_neg h5, if_neg (show ¬ j = nh by omega)]
        exact frame j h4 h5
      · intro j h4
        simp only [upd, if_neg (show ¬ j = o by omega), if_neg (show ¬ j = nh by omega)]
        exact above j h4
    · rw [advR, if_neg h3, advD, if_neg h3] at hk
      simp only [aR,N0,N1,N2,N3,N4,N5,Z0,Z1,Z2,Z3,Z4,Z5,Z6,Z7,Z8,Z9,Z10,Zc,↓reduceIte,reduceCtorEq, j0, j1, j2, jo, q1, q2, q3, q4, q5, q6, q8, q9, qa, qb, qc, qd, qe, show (((size c - (dn + m) : Nat) : Int) = 0) = False from eq_false (by omega)]
      try (repeat (with_reducible refine And.intro ?_ ?_; focus (first | omega | exact kG | kernel_rfl)))
      skip
      refine hk _ at' ?_ (by rw [List.drop_eq_getElem_cons hlt, hcc]) (by omega) ?_ ?_
      · simp only [upd, q1, q2, q8, if_true, if_false, jo] <;> rfl
      · intro j h4 h5
        simp only [upd, if_neg h5, if_neg (show ¬ j = nh by omega)]
        exact frame j h4 h5
      · intro j h4
        simp only [upd, if_neg (show ¬ j = o by omega), if_neg (show ¬ j = nh by omega)]
        exact above j h4
end Go.Proofs
end
-- ZAw6
section
namespace Go.Proofs
open Go Go.Rw
set_option maxRecDepth 100000
theorem oU_piece {c : Cp} (h : qE c = true) : oU (unP c) = if c.k = 3 then 0 else size c := by
  obtain ⟨h1, h2, h3⟩ := kAQ h
  rcases kA6 h with k | k | k
  · rw [h1 k, oU_r, if_neg (by omega)]
  · rw [(h3 k).1, oU_i, if_neg (by omega), (h3 k).2]
  · rw [h2 k, oU_d, if_pos k]
theorem bU_piece {c : Cp} (h : qE c = true) : bU (unP c) = if c.k = 2 then 0 else size c := by
  obtain ⟨h1, h2, h3⟩ := kAQ h
  rcases kA6 h with k | k | k
  · rw [h1 k, bU_r, if_neg (by omega)]
  · rw [(h3 k).1, bU_i, if_pos k]
  · rw [h2 k, bU_d, if_neg (by omega)]
theorem kDW {w : List Cp × Nat} {n : Nat} (h : wOk w) (hk : qA w.1 ≠ 0) (hn : 0 < n) (hl : n ≤ lenW w.1 w.2) :
    oU (wU w) = (if qA w.1 = 3 then 0 else n) + oU (wU (adv w n)) ∧ bU (wU w) = (if qA w.1 = 2 then 0 else n) + bU (wU (adv w n)) := by
  obtain ⟨e1, e2, e3, e4, e5, e6⟩ := qQ h hk hn hl
  rw [e1, oU_app, kEW, oU_piece e3, bU_piece e3, e4, e5]
  exact ⟨rfl, rfl⟩
theorem kind_out {w : List Cp × Nat} (h : wOk w) : (oU (wU w) = 0 → qA w.1 = 0 ∨ qA w.1 = 3) ∧ (bU (wU w) = 0 → qA w.1 = 0 ∨ qA w.1 = 2) := by
  by_cases hk : qA w.1 = 0
  · exact ⟨fun _ => .inl hk, fun _ => .inl hk⟩
  · have hp := qW h hk
    obtain ⟨h1, h2⟩ := kDW h hk hp (Nat.le_refl _)
    constructor
    · intro h0; right
      by_cases h3 : qA w.1 = 3
      · exact h3
      · rw [if_neg h3] at h1; omega
    · intro h0; right
      by_cases h3 : qA w.1 = 2
      · exact h3
      · rw [if_neg h3] at h2; omega
theorem jW {Γ : Env} (hΓ : kL Tryz.prog Γ) (hC : Γ.get 80 = none) (hR : Γ.get 35 = some j7) {n : Nat} {t : Nat → AV} {hd : Nat → Nat → AV} {nh nl : Nat} {h : Nat → Option AO} {fm : Nat → Nat} {lv : Nat → Option (Nat × Nat)} {mu : Bool} {o : Nat} {l : List Cp} {at' dn : Nat} {d : Option Nat} {K : AS → Prop}
    (hn : o < nh) (hnh : ∀ j, nh ≤ j → h j = none) (ol : okL l) (hw : WOK (l.drop at', dn)) (hkk : qA (l.drop at') ≠ 0) (ho : h o = some (.cells [.sl 0 3 (kU l), .v (.int .i64 at'), .v (.int .i64 dn)]))
    (hk : ∀ h' : Nat → Option AO, (∀ j, j < nh → h' j = h j) → (∀ j, nh + 1 ≤ j → h' j = none) → cont ⟨n, t, hd, ⟨nh + 1, h', nl, fm, lv, mu⟩⟩ d (.v (.int .i64 (lenW (l.drop at') dn))) K) : kR Tryz.prog Γ false ⟨n, t, hd, ⟨nh, h, nl, fm, lv, mu⟩⟩ 80 [.ptr o 0] d K := by
  have hlt : at' < l.length := by
    rcases Nat.lt_or_ge at' l.length with h | h
    · exact h
    · rw [List.drop_of_length_le h] at hkk; simp [qA] at hkk
  have hdr := List.drop_eq_getElem_cons hlt
  have hs := hw.1.1 l[at'] (by rw [hdr]; exact List.mem_cons_self)
  have hdl := hw.1.2.2 l[at'] (l.drop (at' + 1)) hdr
  have hsz := hw.2.2 l[at'] (by rw [hdr]; exact List.mem_cons_self)
  simp only at hdl
  have hlw : lenW (l.drop at') dn = size l[at'] - dn := by rw [hdr]; rfl
  rw [hlw] at hk
  refine call_rln hΓ hC hR hn (hnh nh (by omega)) ol hlt hs hsz (by omega) ho ?_
  intro h' hj
  exact hk h' (fun j h1 => hj j (by omega)) (fun j h1 => by rw [hj j (by omega)]; exact hnh j (by omega))
end Go.Proofs
end
-- ZAw7
section
namespace Go.Proofs
open Go Go.Rw
set_option maxRecDepth 100000
def edits (l : List (List Cp)) : List AV := l.map fun x => .sl 0 3 (kU x)
theorem okL_nf {l : List Cp} (h : okL l) (hb : l.length ≤ 100000) : okL (nf l) := by
  obtain ⟨h1, h2, h3⟩ := kDO l 0 [] 0 (by omega) (by omega)
  have h4 := h.2.1
  rw [List.length_nil] at h2
  unfold nf
  exact ⟨by omega, by omega, fun c hc => by have := h3 c hc; omega⟩
end Go.Proofs
end
