/-
  The document's walks.
-/
import Derived.Test.YtmenbocckhbdjaaDoorXAAw4
set_option linter.unusedSimpArgs false
set_option linter.unusedVariables false
set_option linter.defProp false

-- AAw5
section
namespace Go.Proofs
open Go Go.Rw
open _root_.Nat renaming reduceAdd → N0, reduceSub → N1, reduceMul → N2, reduceLT → N3, reduceLeDiff → N4, reduceEqDiff → N5
open _root_.Int renaming reduceNeg → Z0, reduceAdd → Z1, reduceSub → Z2, reduceMul → Z3, reduceGT → Z4, reduceGE → Z5, reduceLT → Z6, reduceLE → Z7, reduceEq → Z8, reduceNe → Z9, reduceToNat → Z10, cast_ofNat_Int → Zc
set_option maxRecDepth 100000
set_option linter.unusedSimpArgs false
set_option linter.unusedVariables false

theorem call_rkd {Γ : Env} (hΓ : GoodEnv Tryd.prog Γ) (hC : Γ.get 72 = none) {n : Nat} {t : Nat → AV} {hd : Nat → Nat → AV} {nh nl : Nat} {h : Nat → Option AO} {fm : Nat → Nat} {lv : Nat → Option (Nat × Nat)} {mu : Bool} {o : Nat} {l : List Cp} {at' dn : Nat} {d : Option Nat} {K : AS → Prop}
    (ol : okL l) (ha : at' ≤ l.length) (ho : h o = some (.cells [.sl 0 3 (comps l), .v (.int .i64 at'), .v (.int .i64 dn)]))
    (hk : cont ⟨n, t, hd, ⟨nh, h, nl, fm, lv, mu⟩⟩ d (.v (.int .i64 (kindL (l.drop at')))) K) : vcCall Tryd.prog Γ false ⟨n, t, hd, ⟨nh, h, nl, fm, lv, mu⟩⟩ 72 [.ptr o 0] d K := by
  have hll := ol.1
  refine vcCall_inl (nn := 24) hΓ (by first | assumption | simp [get_cons, get_nil]) Tryd.func72 (by kernel_rfl) rfl (show Tryd.f72.results.toList = [.tmp 2] from rfl) rfl ?_
  by_cases hlt : at' < l.length
  · have e1 := comps_getD l hlt
    have e2 : kindL (l.drop at') = l[at'].k := by rw [List.drop_eq_getElem_cons hlt]; rfl
    rw [e2] at hk
    simp only [goRules, coreRules, tiRules, unRules, AS_of_eq, ← decide_not, N0, N1, N2, N3, N4, N5, Z0, Z1, Z2, Z3, Z4, Z5, Z6, Z7, Z8, Z9, Z10, Zc, ↓reduceIte, reduceCtorEq, ho, comps_len, e1, show ((at' : Int) ≥ l.length) = False from eq_false (by omega)]
    (repeat (with_reducible refine And.intro ?_ ?_; focus (first | omega | exact mixed1 | kernel_rfl)))
    exact hk
  · have e2 : kindL (l.drop at') = 0 := by rw [List.drop_of_length_le (by omega)]; rfl
    rw [e2] at hk
    simp only [goRules, coreRules, tiRules, unRules, AS_of_eq, ← decide_not, N0, N1, N2, N3, N4, N5, Z0, Z1, Z2, Z3, Z4, Z5, Z6, Z7, Z8, Z9, Z10, Zc, ↓reduceIte, reduceCtorEq, ho, comps_len, show ((at' : Int) ≥ l.length) = True from eq_true (by omega)]
    (repeat (with_reducible refine And.intro ?_ ?_; focus (first | omega | exact mixed1 | kernel_rfl)))
    exact hk
theorem call_rln {Γ : Env} (hΓ : GoodEnv Tryd.prog Γ) (hC : Γ.get 74 = none) (hR : Γ.get 21 = some rcountCon) {n : Nat} {t : Nat → AV} {hd : Nat → Nat → AV} {nh nl : Nat} {h : Nat → Option AO} {fm : Nat → Nat} {lv : Nat → Option (Nat × Nat)} {mu : Bool} {o : Nat} {l : List Cp} {at' dn : Nat} {d : Option Nat} {K : AS → Prop}
    (hn : o < nh) (hnh : h nh = none) (ol : okL l) (ha : at' < l.length) (hs : sound (l[at']'ha) = true) (hsz : size (l[at']'ha) ≤ 100000) (hdn : dn ≤ size (l[at']'ha)) (ho : h o = some (.cells [.sl 0 3 (comps l), .v (.int .i64 at'), .v (.int .i64 dn)]))
    (hk : ∀ h' : Nat → Option AO, (∀ j, j ≠ nh → h' j = h j) → cont ⟨n, t, hd, ⟨nh + 1, h', nl, fm, lv, mu⟩⟩ d (.v (.int .i64 (size (l[at']'ha) - dn : Nat))) K) : vcCall Tryd.prog Γ false ⟨n, t, hd, ⟨nh, h, nl, fm, lv, mu⟩⟩ 74 [.ptr o 0] d K := by
  have hll := ol.1
  have htl := ol.text (List.getElem_mem ha)
  have hcn := ol.2.2 _ (List.getElem_mem ha)
  have e1 := comps_getD l ha
  have q1 : (o = nh) = False := eq_false (by omega)
  have q3 : (nh = o) = False := eq_false (by omega)
  generalize l[at'] = c at *
  have hsc := sound_cases hs
  refine vcCall_inl (nn := 32) hΓ (by first | assumption | simp [get_cons, get_nil]) Tryd.func74 (by kernel_rfl) rfl (show Tryd.f74.results.toList = [.tmp 2] from rfl) rfl ?_
  simp only [goRules, coreRules, tiRules, unRules, AS_of_eq, ← decide_not, N0, N1, N2, N3, N4, N5, Z0, Z1, Z2, Z3, Z4, Z5, Z6, Z7, Z8, Z9, Z10, Zc, ↓reduceIte, reduceCtorEq, ho, hnh, comps_len, e1, q1, q3]
  (repeat (with_reducible refine And.intro ?_ ?_; focus (first | omega | exact mixed1 | kernel_rfl)))
  by_cases h2 : c.k = 2
  · have hz : size c = (cpts c.t).length := by rw [size, if_pos h2]
    rw [hz] at hsz hdn hk
    simp only [goRules, coreRules, tiRules, unRules, AS_of_eq, ← decide_not, N0, N1, N2, N3, N4, N5, Z0, Z1, Z2, Z3, Z4, Z5, Z6, Z7, Z8, Z9, Z10, Zc, ↓reduceIte, reduceCtorEq, ho, comps_len, e1, q1, q3, h2]
    (repeat (with_reducible refine And.intro ?_ ?_; focus (first | omega | exact mixed1 | kernel_rfl)))
    refine call_rcount (by first | assumption | simp [get_cons]) htl ?_
    rw [cnt_cpts]
    simp only [goRules, coreRules, tiRules, unRules, AS_of_eq, ← decide_not, N0, N1, N2, N3, N4, N5, Z0, Z1, Z2, Z3, Z4, Z5, Z6, Z7, Z8, Z9, Z10, Zc, ↓reduceIte, reduceCtorEq, ho, comps_len, e1, q1, q3, h2, wrap_i64 (n := ((cpts c.t).length : Int) - dn) (by omega) (by omega)]
    try (repeat (with_reducible refine And.intro ?_ ?_; focus (first | omega | exact mixed1 | kernel_rfl)))
    rw [show ((cpts c.t).length : Int) - dn = (((cpts c.t).length - dn : Nat) : Int) by omega]
    refine hk _ ?_
    intro j hne
    simp only [upd, if_neg hne]
  · have hz : size c = c.n.toNat := by rw [size, if_neg h2]
    rw [hz] at hsz hdn hk
    have hp : 0 < c.n := by
      rcases hsc with ⟨h, _⟩ | ⟨_, hp, _⟩
      · exact absurd h h2
      · exact hp
    simp only [goRules, coreRules, tiRules, unRules, AS_of_eq, ← decide_not, N0, N1, N2, N3, N4, N5, Z0, Z1, Z2, Z3, Z4, Z5, Z6, Z7, Z8, Z9, Z10, Zc, ↓reduceIte, reduceCtorEq, ho, comps_len, e1, q1, q3, h2, wrap_i64 (n := c.n - dn) (by omega) (by omega)]
    try (repeat (with_reducible refine And.intro ?_ ?_; focus (first | omega | exact mixed1 | kernel_rfl)))
    rw [show c.n - dn = ((c.n.toNat - dn : Nat) : Int) by omega]
    refine hk _ ?_
    intro j hne
    simp only [upd, if_neg hne]
theorem call_rtk {Γ : Env} (hΓ : GoodEnv Tryd.prog Γ) (hC : Γ.get 73 = none) (hE : Γ.get 74 = none) (hR : Γ.get 21 = some rcountCon) (hS : Γ.get 60 = some rsliceCon) {n : Nat} {t : Nat → AV} {hd : Nat → Nat → AV} {nh nl : Nat} {h : Nat → Option AO} {fm : Nat → Nat} {lv : Nat → Option (Nat × Nat)} {mu : Bool} {o : Nat} {l : List Cp} {at' dn m : Nat} {d : Option Nat} {K : AS → Prop}
    (hn : o < nh) (hnh : ∀ j, nh ≤ j → h j = none) (ol : okL l) (hw : WOK (l.drop at', dn)) (hkk : kindL (l.drop at') ≠ 0) (hm : m ≤ lenW (l.drop at') dn) (ho : h o = some (.cells [.sl 0 3 (comps l), .v (.int .i64 at'), .v (.int .i64 dn)]))
    (hk : ∀ (h' : Nat → Option AO) (b : Nat), h' o = some (.cells [.sl 0 3 (comps l), .v (.int .i64 b), .v (.int .i64 (adv (l.drop at', dn) m).2)]) → l.drop b = (adv (l.drop at', dn) m).1 → b ≤ l.length → (∀ j, j < nh → j ≠ o → h' j = h j) → (∀ j, nh + 4 ≤ j → h' j = none) → cont ⟨n, t, hd, ⟨nh + 4, h', nl, fm, lv, mu⟩⟩ d (cA (piece (l.drop at', dn) m)) K) :
    vcCall Tryd.prog Γ false ⟨n, t, hd, ⟨nh, h, nl, fm, lv, mu⟩⟩ 73 [.ptr o 0, .v (.int .i64 m)] d K := by
  have hlt : at' < l.length := by
    rcases Nat.lt_or_ge at' l.length with h | h
    · exact h
    · rw [List.drop_of_length_le h] at hkk; simp [kindL] at hkk
  have hdr := List.drop_eq_getElem_cons hlt
  have hll := ol.1
  have htl := ol.text (List.getElem_mem hlt)
  have hcn := ol.2.2 _ (List.getElem_mem hlt)
  have e1 := comps_getD l hlt
  have hs := hw.1.1 l[at'] (by rw [hdr]; exact List.mem_cons_self)
  have hdl := hw.1.2.2 l[at'] (l.drop (at' + 1)) hdr
  have hsz := hw.2.2 l[at'] (by rw [hdr]; exact List.mem_cons_self)
  simp only at hdl
  have hlw : lenW (l.drop at') dn = size l[at'] - dn := by rw [hdr]; rfl
  rw [hlw] at hm
  have hpc : piece (l.drop at', dn) m = part l[at'] dn m := by rw [hdr]; rfl
  have had : adv (l.drop at', dn) m = (advR l[at'] (l.drop (at' + 1)) dn m, advD l[at'] dn m) := by rw [hdr]; rfl
  rw [hpc, had] at hk
  simp only at hk
  have q1 : (o = nh) = False := eq_false (by omega)
  have q2 : (o = nh + 1) = False := eq_false (by omega)
  have q3 : (nh = o) = False := eq_false (by omega)
  have q4 : (nh + 1 = o) = False := eq_false (by omega)
  have q5 : (nh = nh + 1) = False := eq_false (by omega)
  have q6 : (nh + 1 = nh) = False := eq_false (by omega)
  have q8 : (o = nh + 1 + 1) = False := eq_false (by omega)
  have q9 : (nh + 1 + 1 = o) = False := eq_false (by omega)
  have qa : (nh + 1 + 1 = nh) = False := eq_false (by omega)
  have qb : (nh + 1 + 1 = nh + 1) = False := eq_false (by omega)
  have qc : (nh = nh + 1 + 1) = False := eq_false (by omega)
  have qd : (nh + 1 = nh + 1 + 1) = False := eq_false (by omega)
  have q7 : IntKind.wrap .i64 ((dn : Int) + m) = ((dn + m : Nat) : Int) := by rw [wrap_i64 (by omega) (by omega)]; omega
  have qe : IntKind.wrap .i64 ((at' : Int) + 1) = ((at' + 1 : Nat) : Int) := by rw [wrap_i64 (by omega) (by omega)]; omega
  have n0 := hnh nh (by omega)
  have n1 := hnh (nh + 1) (by omega)
  have n2 := hnh (nh + 1 + 1) (by omega)
  have n3 := hnh (nh + 1 + 1 + 1) (by omega)
  generalize hcc : l[at'] = c at *
  have hsc := sound_cases hs
  have hcl := cpts_len c.t
  -- what follows when the piece is put together
  refine vcCall_inl (nn := 61) hΓ (by first | assumption | simp [get_cons, get_nil]) Tryd.func73 (by kernel_rfl) rfl (show Tryd.f73.results.toList = [.cell 4 32] from rfl) rfl ?_
  simp only [goRules, coreRules, tiRules, unRules, AS_of_eq, ← decide_not, N0, N1, N2, N3, N4, N5, Z0, Z1, Z2, Z3, Z4, Z5, Z6, Z7, Z8, Z9, Z10, Zc, ↓reduceIte, reduceCtorEq, ho, n0, n1, n2, comps_len, e1, q1, q2, q3, q4, q5, q6, q7]
  (repeat (with_reducible refine And.intro ?_ ?_; focus (first | omega | exact mixed1 | kernel_rfl)))
  by_cases h2 : c.k = 2
  · simp only [goRules, coreRules, tiRules, unRules, AS_of_eq, ← decide_not, N0, N1, N2, N3, N4, N5, Z0, Z1, Z2, Z3, Z4, Z5, Z6, Z7, Z8, Z9, Z10, Zc, ↓reduceIte, reduceCtorEq, ho, n0, n1, n2, comps_len, e1, q1, q2, q3, q4, q5, q6, q7, q8, q9, qa, qb, qc, qd, h2, List.map_cons, List.map_nil]
    (repeat (with_reducible refine And.intro ?_ ?_; focus (first | omega | exact mixed1 | kernel_rfl)))
    rcases hsc with ⟨_, h0, _, hv⟩ | ⟨h, _⟩
    case inr => omega
    have hz : size c = (cpts c.t).length := by rw [size, if_pos h2]
    obtain ⟨te, tok⟩ := encs_cpts hv
    rw [← te]
    refine call_rslice (by first | assumption | simp [get_cons]) tok (by rw [te]; exact htl) (by omega) ?_
    rw [te, Int.toNat_natCast, Int.toNat_natCast, show dn + m - dn = m by omega]
    rw [part, if_pos h2, h0, h2] at hk
    simp only [goRules, coreRules, tiRules, unRules, AS_of_eq, ← decide_not, N0, N1, N2, N3, N4, N5, Z0, Z1, Z2, Z3, Z4, Z5, Z6, Z7, Z8, Z9, Z10, Zc, ↓reduceIte, reduceCtorEq, ho, n0, n1, n2, comps_len, e1, q1, q2, q3, q4, q5, q6, q7, q8, q9, qa, qb, qc, qd, h2, List.map_cons, List.map_nil]
    try (repeat (with_reducible refine And.intro ?_ ?_; focus (first | omega | exact mixed1 | kernel_rfl)))
    refine call_rln (l := l) (at' := at') (dn := dn + m) hΓ (by first | assumption | simp [get_cons, get_nil]) (by first | assumption | simp [get_cons]) (by omega) (by simp only [upd, show ¬ nh + 1 + 1 + 1 = nh + 1 + 1 by omega, show ¬ nh + 1 + 1 + 1 = nh + 1 by omega, show ¬ nh + 1 + 1 + 1 = nh by omega, show ¬ nh + 1 + 1 + 1 = o by omega, if_false]; exact n3) ol hlt (by rw [hcc]; exact hs) (by rw [hcc]; exact hsz) (by rw [hcc]; omega) (by simp only [upd, q1, q2, q8, if_true, if_false] <;> rfl) ?_
    intro h' hj
    rw [hcc]
    have j0 := hj nh (by omega)
    have j1 := hj (nh + 1) (by omega)
    have j2 := hj (nh + 1 + 1) (by omega)
    have jo := hj o (by omega)
    have frame : ∀ j, j < nh → j ≠ o → h' j = h j := fun j h1 h2 => by
      rw [hj j (by omega)]
      simp only [upd, if_neg h2, if_neg (show ¬ j = nh by omega), if_neg (show ¬ j = nh + 1 by omega), if_neg (show ¬ j = nh + 1 + 1 by omega)]
    have above : ∀ j, nh + 1 + 1 + 1 + 1 ≤ j → h' j = none := fun j h1 => by
      rw [hj j (by omega)]
      simp only [upd, if_neg (show ¬ j = o by omega), if_neg (show ¬ j = nh by omega), if_neg (show ¬ j = nh + 1 by omega), if_neg (show ¬ j = nh + 1 + 1 by omega)]
      exact hnh j (by omega)
    by_cases h3 : dn + m = size c
    · rw [advR, if_pos h3, advD, if_pos h3] at hk
      simp only [goRules, coreRules, tiRules, unRules, AS_of_eq, ← decide_not, N0, N1, N2, N3, N4, N5, Z0, Z1, Z2, Z3, Z4, Z5, Z6, Z7, Z8, Z9, Z10, Zc, ↓reduceIte, reduceCtorEq, j0, j1, j2, jo, q1, q2, q3, q4, q5, q6, q8, q9, qa, qb, qc, qd, qe, show (((size c - (dn + m) : Nat) : Int) = 0) = True from eq_true (by omega)]
      try (repeat (with_reducible refine And.intro ?_ ?_; focus (first | omega | exact mixed1 | kernel_rfl)))
      skip
      refine hk _ (at' + 1) ?_ rfl (by omega) ?_ ?_
      · simp only [upd, q1, q2, q8, if_true, if_false] <;> rfl
      · intro j h4 h5
        simp only [upd, if_neg h5, if_neg (show ¬ j = nh by omega)]
        exact frame j h4 h5
      · intro j h4
        simp only [upd, if_neg (show ¬ j = o by omega), if_neg (show ¬ j = nh by omega)]
        exact above j h4
    · rw [advR, if_neg h3, advD, if_neg h3] at hk
      simp only [goRules, coreRules, tiRules, unRules, AS_of_eq, ← decide_not, N0, N1, N2, N3, N4, N5, Z0, Z1, Z2, Z3, Z4, Z5, Z6, Z7, Z8, Z9, Z10, Zc, ↓reduceIte, reduceCtorEq, j0, j1, j2, jo, q1, q2, q3, q4, q5, q6, q8, q9, qa, qb, qc, qd, qe, show (((size c - (dn + m) : Nat) : Int) = 0) = False from eq_false (by omega)]
      try (repeat (with_reducible refine And.intro ?_ ?_; focus (first | omega | exact mixed1 | kernel_rfl)))
      skip
      refine hk _ at' ?_ (by rw [List.drop_eq_getElem_cons hlt, hcc]) (by omega) ?_ ?_
      · simp only [upd, q1, q2, q8, if_true, if_false, jo] <;> rfl
      · intro j h4 h5
        simp only [upd, if_neg h5, if_neg (show ¬ j = nh by omega)]
        exact frame j h4 h5
      · intro j h4
        simp only [upd, if_neg (show ¬ j = o by omega), if_neg (show ¬ j = nh by omega)]
        exact above j h4
  · rcases hsc with ⟨h, _⟩ | ⟨_, _, ht0⟩
    · exact absurd h h2
    rw [part, if_neg h2, ht0] at hk
    simp only [goRules, coreRules, tiRules, unRules, AS_of_eq, ← decide_not, N0, N1, N2, N3, N4, N5, Z0, Z1, Z2, Z3, Z4, Z5, Z6, Z7, Z8, Z9, Z10, Zc, ↓reduceIte, reduceCtorEq, ho, n0, n1, n2, comps_len, e1, q1, q2, q3, q4, q5, q6, q7, q8, q9, qa, qb, qc, qd, h2, List.map_cons, List.map_nil]
    try (repeat (with_reducible refine And.intro ?_ ?_; focus (first | omega | exact mixed1 | kernel_rfl)))
    refine call_rln (l := l) (at' := at') (dn := dn + m) hΓ (by first | assumption | simp [get_cons, get_nil]) (by first | assumption | simp [get_cons]) (by omega) (by simp only [upd, show ¬ nh + 1 + 1 + 1 = nh + 1 + 1 by omega, show ¬ nh + 1 + 1 + 1 = nh + 1 by omega, show ¬ nh + 1 + 1 + 1 = nh by omega, show ¬ nh + 1 + 1 + 1 = o by omega, if_false]; exact n3) ol hlt (by rw [hcc]; exact hs) (by rw [hcc]; exact hsz) (by rw [hcc]; omega) (by simp only [upd, q1, q2, q8, if_true, if_false] <;> rfl) ?_
    intro h' hj
    rw [hcc]
    have j0 := hj nh (by omega)
    have j1 := hj (nh + 1) (by omega)
    have j2 := hj (nh + 1 + 1) (by omega)
    have jo := hj o (by omega)
    have frame : ∀ j, j < nh → j ≠ o → h' j = h j := fun j h1 h2 => by
      rw [hj j (by omega)]
      simp only [upd, if_neg h2, if_neg (show ¬ j = nh by omega), if_neg (show ¬ j = nh + 1 by omega), if_neg (show ¬ j = nh + 1 + 1 by omega)]
    have above : ∀ j, nh + 1 + 1 + 1 + 1 ≤ j → h' j = none := fun j h1 => by
      rw [hj j (by omega)]
      simp only [upd, if_neg (show ¬ j = o by omega), if_neg (show ¬ j = nh by omega), if_neg (show ¬ j = nh + 1 by omega), if_neg (show ¬ j = nh + 1 + 1 by omega)]
      exact hnh j (by omega)
    by_cases h3 : dn + m = size c
    · rw [advR, if_pos h3, advD, if_pos h3] at hk
      simp only [goRules, coreRules, tiRules, unRules, AS_of_eq, ← decide_not, N0, N1, N2, N3, N4, N5, Z0, Z1, Z2, Z3, Z4, Z5, Z6, Z7, Z8, Z9, Z10, Zc, ↓reduceIte, reduceCtorEq, j0, j1, j2, jo, q1, q2, q3, q4, q5, q6, q8, q9, qa, qb, qc, qd, qe, show (((size c - (dn + m) : Nat) : Int) = 0) = True from eq_true (by omega)]
      try (repeat (with_reducible refine And.intro ?_ ?_; focus (first | omega | exact mixed1 | kernel_rfl)))
      skip
      refine hk _ (at' + 1) ?_ rfl (by omega) ?_ ?_
      · simp only [upd, q1, q2, q8, if_true, if_false] <;> rfl
      · intro j h4 h5
        simp only [upd, if_neg h5, if_neg (show ¬ j = nh by omega)]
        exact frame j h4 h5
      · intro j h4
        simp only [upd, if_neg (show ¬ j = o by omega), if_neg (show ¬ j = nh by omega)]
        exact above j h4
    · rw [advR, if_neg h3, advD, if_neg h3] at hk
      simp only [goRules, coreRules, tiRules, unRules, AS_of_eq, ← decide_not, N0, N1, N2, N3, N4, N5, Z0, Z1, Z2, Z3, Z4, Z5, Z6, Z7, Z8, Z9, Z10, Zc, ↓reduceIte, reduceCtorEq, j0, j1, j2, jo, q1, q2, q3, q4, q5, q6, q8, q9, qa, qb, qc, qd, qe, show (((size c - (dn + m) : Nat) : Int) = 0) = False from eq_false (by omega)]
      try (repeat (with_reducible refine And.intro ?_ ?_; focus (first | omega | exact mixed1 | kernel_rfl)))
      skip
      refine hk _ at' ?_ (by rw [List.drop_eq_getElem_cons hlt, hcc]) (by omega) ?_ ?_
      · simp only [upd, q1, q2, q8, if_true, if_false, jo] <;> rfl
      · intro j h4 h5
        simp only [upd, if_neg h5, if_neg (show ¬ j = nh by omega)]
        exact frame j h4 h5
      · intro j h4
        simp only [upd, if_neg (show ¬ j = o by omega), if_neg (show ¬ j = nh by omega)]
        exact above j h4
end Go.Proofs
end
