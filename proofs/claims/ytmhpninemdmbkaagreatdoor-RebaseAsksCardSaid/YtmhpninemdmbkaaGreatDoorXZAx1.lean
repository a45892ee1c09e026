/-
  An edit behind another one, unit by unit and jP by jP. Plain. xform.Over, walked. What an edit behind another one does. Plain.
-/
import Derived.Test.YtmhpninemdmbkaaGreatDoorXZAw9
set_option linter.unusedSimpArgs false
set_option linter.unusedVariables false
set_option linter.defProp false

-- ZAx1
section
namespace Go.Proofs
open Go Go.Rw
set_option maxRecDepth 100000
def overU (f : Bool) : List Un → List Un → List Un
  | .i a :: x, .i c :: y => if f = true then .i a :: overU f x (.i c :: y) else .r :: overU f (.i a :: x) y
  | .i a :: x, [] => .i a :: overU f x []
  | .i a :: x, .r :: y => .i a :: overU f x (.r :: y)
  | .i a :: x, .d :: y => .i a :: overU f x (.d :: y)
  | [], .i _ :: y => .r :: overU f [] y
  | .r :: x, .i _ :: y => .r :: overU f (.r :: x) y
  | .d :: x, .i _ :: y => .r :: overU f (.d :: x) y
  | .r :: x, .r :: y => .r :: overU f x y
  | .r :: x, .d :: y => overU f x y
  | .d :: x, .r :: y => .d :: overU f x y
  | .d :: x, .d :: y => overU f x y
  | _, _ => []
termination_by x y => x.length + y.length
theorem over_i1 (f : Bool) : ∀ (cs : List Nat) (x y : List Un), (f = true ∨ ∀ c z, y ≠ .i c :: z) → overU f (cs.map .i ++ x) y = cs.map .i ++ overU f x y
  | [], _, _, _ => rfl
  | c :: cs, x, y, h => by
    rw [List.map_cons, List.cons_append, List.cons_append, ← over_i1 f cs x y h]
    cases y with
    | nil => rw [overU]
    | cons b y => cases b with
      | r => rw [overU]
      | d => rw [overU]
      | i b =>
        rcases h with h | h
        · rw [overU, if_pos h]
        · exact absurd rfl (h b y)
theorem over_i2 (f : Bool) : ∀ (cs : List Nat) (x y : List Un), (f = false ∨ ∀ c z, x ≠ .i c :: z) → overU f x (cs.map .i ++ y) = List.replicate cs.length .r ++ overU f x y
  | [], _, _, _ => rfl
  | c :: cs, x, y, h => by
    rw [List.map_cons, List.cons_append, List.length_cons, List.replicate_succ, List.cons_append, ← over_i2 f cs x y h]
    cases x with
    | nil => rw [overU]
    | cons a x => cases a with
      | r => rw [overU]
      | d => rw [overU]
      | i a =>
        rcases h with h | h
        · rw [overU, if_neg (by rw [h]; decide)]
        · exact absurd rfl (h a x)
theorem over_rr (f : Bool) : ∀ (n : Nat) (x y : List Un), overU f (List.replicate n .r ++ x) (List.replicate n .r ++ y) = List.replicate n .r ++ overU f x y
  | 0, _, _ => rfl
  | n + 1, x, y => by simp only [List.replicate_succ, List.cons_append]; rw [overU, over_rr f n]
theorem over_rd (f : Bool) : ∀ (n : Nat) (x y : List Un), overU f (List.replicate n .r ++ x) (List.replicate n .d ++ y) = overU f x y
  | 0, _, _ => rfl
  | n + 1, x, y => by simp only [List.replicate_succ, List.cons_append]; rw [overU, over_rd f n]
theorem over_dr (f : Bool) : ∀ (n : Nat) (x y : List Un), overU f (List.replicate n .d ++ x) (List.replicate n .r ++ y) = List.replicate n .d ++ overU f x y
  | 0, _, _ => rfl
  | n + 1, x, y => by simp only [List.replicate_succ, List.cons_append]; rw [overU, over_dr f n]
theorem over_dd (f : Bool) : ∀ (n : Nat) (x y : List Un), overU f (List.replicate n .d ++ x) (List.replicate n .d ++ y) = overU f x y
  | 0, _, _ => rfl
  | n + 1, x, y => by simp only [List.replicate_succ, List.cons_append]; rw [overU, over_dd f n]
theorem overU_len (f : Bool) (x y : List Un) : (overU f x y).length ≤ x.length + y.length := by
  induction x, y using overU.induct (f := f) with
  | case1 a x c y hf ih => rw [overU, if_pos hf]; simp only [List.length_cons] at *; omega
  | case2 a x c y hf ih => rw [overU, if_neg hf]; simp only [List.length_cons] at *; omega
  | case13 x y h1 h2 h3 h4 h5 h6 h7 h8 h9 h10 h11 => rw [overU] <;> first | assumption | simp
  | _ => rw [overU]; simp only [List.length_cons, List.length_nil] at *; omega
theorem over_base (f : Bool) (x y : List Un) : bU x = bU y → bU (overU f x y) = oU y := by
  induction x, y using overU.induct (f := f) with
  | case1 a x c y hf ih => intro h; rw [overU, if_pos hf]; simp only [bU, oU] at *; exact ih h
  | case2 a x c y hf ih => intro h; rw [overU, if_neg hf]; simp only [bU, oU] at *; rw [ih h]
  | case3 a x ih => intro h; rw [overU]; simp only [bU, oU] at *; exact ih h
  | case4 a x y ih => intro h; rw [overU]; simp only [bU, oU] at *; exact ih h
  | case5 a x y ih => intro h; rw [overU]; simp only [bU, oU] at *; exact ih h
  | case6 c y ih => intro h; rw [overU]; simp only [bU, oU] at *; rw [ih h]
  | case7 x c y ih => intro h; rw [overU]; simp only [bU, oU] at *; rw [ih h]
  | case8 x c y ih => intro h; rw [overU]; simp only [bU, oU] at *; rw [ih h]
  | case9 x y ih => intro h; rw [overU]; simp only [bU, oU] at *; rw [ih (by omega)]
  | case10 x y ih => intro h; rw [overU]; simp only [bU, oU] at *; rw [ih (by omega)]
  | case11 x y ih => intro h; rw [overU]; simp only [bU, oU] at *; rw [ih (by omega)]
  | case12 x y ih => intro h; rw [overU]; simp only [bU, oU] at *; rw [ih (by omega)]
  | case13 x y h1 h2 h3 h4 h5 h6 h7 h8 h9 h10 h11 =>
    intro e
    rw [overU] <;> first | assumption | skip
    cases y with
    | nil => simp [bU, oU]
    | cons b y => cases x with
      | nil => cases b <;> simp_all [oU, bU]
      | cons a x => cases a <;> cases b <;> first | exact (h1 _ _ _ _ rfl rfl).elim | exact (h3 _ _ rfl rfl).elim | simp_all
def zW (first : Bool) : Nat → List Cp × Nat → List Cp × Nat → List Cp
  | 0, _, _ => []
  | f + 1, x, y =>
    if qA x.1 = 2 ∧ (first = true ∨ qA y.1 ≠ 2) then jP x (lenW x.1 x.2) :: zW first f (adv x (lenW x.1 x.2)) y
    else if qA y.1 = 2 then ⟨1, lenW y.1 y.2, []⟩ :: zW first f x (adv y (lenW y.1 y.2))
    else if qA x.1 = 0 ∨ qA y.1 = 0 then []
    else
      let n := min (lenW x.1 x.2) (lenW y.1 y.2)
      (if qA y.1 = 1 then [jP x n] else []) ++ zW first f (adv x n) (adv y n)
theorem not_i {w : List Cp × Nat} (h : wOk w) (hk : qA w.1 ≠ 2) : ∀ c z, wU w ≠ .i c :: z := by
  intro c z e
  obtain ⟨f1, f2, f3⟩ := wU_first h
  rcases kAl h with ⟨_, h0⟩ | h1 | h2 | h3
  · rw [h0] at e; cases e
  · obtain ⟨n, y, e1⟩ := f1 h1; rw [e1, List.replicate_succ] at e; cases e
  · exact hk h2
  · obtain ⟨n, y, e1⟩ := f2 h3; rw [e1, List.replicate_succ] at e; cases e
theorem kBg (first : Bool) : ∀ (f : Nat) (x y : List Cp × Nat), wOk x → wOk y → (wU x).length + (wU y).length ≤ f → unL (zW first f x y) = overU first (wU x) (wU y) ∧ ∀ c ∈ zW first f x y, qE c = true
  | 0, x, y, hx, hy, hf => by
    have h1 : wU x = [] := List.eq_nil_of_length_eq_zero (by omega)
    have h2 : wU y = [] := List.eq_nil_of_length_eq_zero (by omega)
    rw [h1, h2, zW, overU] <;> simp [unL]
  | f + 1, x, y, hx, hy, hf => by
    have fx := wU_first hx
    have fy := wU_first hy
    rw [zW]
    by_cases c1 : qA x.1 = 2 ∧ (first = true ∨ qA y.1 ≠ 2)
    · rw [if_pos c1]
      have hp := qW hx (by omega)
      obtain ⟨e1, e2, e3, e4, e5, e6⟩ := qQ hx (by omega) hp (Nat.le_refl _)
      obtain ⟨i1, i2⟩ := kBg first f _ y e2 hy (by omega)
      rw [unL, i1, e1, ((kAQ e3).2.2 (by omega)).1, over_i1 first _ _ _ (by rcases c1.2 with h | h; exact .inl h; exact .inr (not_i hy h))]
      exact ⟨rfl, fun c hc => by rcases List.mem_cons.1 hc with rfl | hc; exact e3; exact i2 c hc⟩
    rw [if_neg c1]
    by_cases c2 : qA y.1 = 2
    · rw [if_pos c2]
      have hp := qW hy (by omega)
      obtain ⟨e1, e2, e3, e4, e5, e6⟩ := qQ hy (by omega) hp (Nat.le_refl _)
      obtain ⟨i1, i2⟩ := kBg first f x _ hx e2 (by omega)
      obtain ⟨t1, t2⟩ := (kAQ e3).2.2 (by omega)
      have hcond : first = false ∨ ∀ c z, wU x ≠ .i c :: z := by
        by_cases h2 : qA x.1 = 2
        · left
          cases first with
          | false => rfl
          | true => exact absurd ⟨h2, .inl rfl⟩ c1
        · exact .inr (not_i hx h2)
      rw [unL, i1, e1, t1, over_i2 first _ _ _ hcond, t2, e4]
      refine ⟨by simp [unP], fun c hc => ?_⟩
      rcases List.mem_cons.1 hc with rfl | hc
      · simp [qE]; omega
      · exact i2 c hc
    rw [if_neg c2]
    have c1' : qA x.1 ≠ 2 := fun h => c1 ⟨h, .inr c2⟩
    by_cases c3 : qA x.1 = 0 ∨ qA y.1 = 0
    · rw [if_pos c3]
      refine ⟨?_, by simp⟩
      show [] = _
      rcases c3 with c3 | c3
      · rcases kAl hx with ⟨_, h0⟩ | h | h | h <;> try omega
        rw [h0]
        rcases kAl hy with ⟨_, h0⟩ | h | h | h
        · rw [h0, overU] <;> simp
        · obtain ⟨n, z, e⟩ := fy.1 h; rw [e, List.replicate_succ, List.cons_append, overU] <;> simp
        · omega
        · obtain ⟨n, z, e⟩ := fy.2.1 h; rw [e, List.replicate_succ, List.cons_append, overU] <;> simp
      · rcases kAl hy with ⟨_, h0⟩ | h | h | h <;> try omega
        rw [h0]
        rcases kAl hx with ⟨_, h0⟩ | h | h | h
        · rw [h0, overU] <;> simp
        · obtain ⟨n, z, e⟩ := fx.1 h; rw [e, List.replicate_succ, List.cons_append, overU] <;> simp
        · omega
        · obtain ⟨n, z, e⟩ := fx.2.1 h; rw [e, List.replicate_succ, List.cons_append, overU] <;> simp
    rw [if_neg c3]
    have c4 : qA x.1 ≠ 0 := fun h => c3 (.inl h)
    have c5 : qA y.1 ≠ 0 := fun h => c3 (.inr h)
    have hpx := qW hx c4
    have hpy := qW hy c5
    simp only
    generalize hn : min (lenW x.1 x.2) (lenW y.1 y.2) = n
    obtain ⟨e1, e2, e3, e4, e5, e6⟩ := qQ (n := n) hx c4 (by omega) (by omega)
    obtain ⟨g1, g2, g3, g4, g5, g6⟩ := qQ (n := n) hy c5 (by omega) (by omega)
    obtain ⟨i1, i2⟩ := kBg first f _ _ e2 g2 (by omega)
    rw [unL_app, i1, e1, g1]
    obtain ⟨s1, s2, s3⟩ := kAQ e3
    obtain ⟨t1, t2, t3⟩ := kAQ g3
    rw [e4] at s1 s2 s3
    rw [g4] at t1 t2 t3
    have hkx : qA x.1 = 1 ∨ qA x.1 = 3 := by rcases kAl hx with h | h | h | h <;> omega
    have hky : qA y.1 = 1 ∨ qA y.1 = 3 := by rcases kAl hy with h | h | h | h <;> omega
    rcases hky with hky | hky
    · rw [if_pos hky, t1 (by omega)]
      refine ⟨?_, fun c hc => by
        rcases List.mem_append.1 hc with hc | hc
        · rw [List.mem_singleton.1 hc]; exact e3
        · exact i2 c hc⟩
      simp only [unL, List.append_nil]
      rcases hkx with hkx | hkx
      · rw [s1 (by omega), over_rr]
      · rw [s2 (by omega), over_dr]
    · rw [if_neg (by omega), t2 (by omega)]
      refine ⟨?_, fun c hc => i2 c (by simpa using hc)⟩
      rcases hkx with hkx | hkx
      · rw [s1 (by omega), over_rd]; rfl
      · rw [s2 (by omega), over_dd]; rfl
end Go.Proofs
end
-- ZAx2
section
namespace Go.Proofs
open Go Go.Rw
open _root_.Nat renaming reduceAdd → N0, reduceSub → N1, reduceMul → N2, reduceLT → N3, reduceLeDiff → N4, reduceEqDiff → N5
open _root_.Int renaming reduceNeg → Z0, reduceAdd → Z1, reduceSub → Z2, reduceMul → Z3, reduceGT → Z4, reduceGE → Z5, reduceLT → Z6, reduceLE → Z7, reduceEq → Z8, reduceNe → Z9, reduceToNat → Z10, cast_ofNat_Int → Zc
set_option maxRecDepth 100000
def ovE (a b : List Cp) : Int := if qI a = 0 then (if qI b = 0 then (if zY a = zY b then 0 else 11) else qI b) else qI a
def ovN (f : Bool) (a b : List Cp) : List Cp := nf (zW f ((unL a).length + (unL b).length) (a, 0) (b, 0))
def ovR (f : Bool) (a b : List Cp) : AV := if ovE a b = 0 then res2 (.sl 0 3 (kU (ovN f a b))) 0 else res2 (.sl 0 3 []) (ovE a b)
theorem ovE_zero {a b : List Cp} (h : ovE a b = 0) : qI a = 0 ∧ qI b = 0 ∧ zY a = zY b := by
  unfold ovE at h
  split at h
  · split at h
    · split at h
      · exact ⟨by assumption, by assumption, by assumption⟩
      · cases h
    · exact absurd h (by assumption)
  · exact absurd h (by assumption)
abbrev sideCon : Con where
  ι := Ed × Ed
  args := fun p => [.sl 0 3 (kU p.1.1), .sl 0 3 (kU p.2.1)]
  post := fun p r => r = .v (.int .i64 (ovE p.1.1 p.2.1))
  plain := true
theorem side_good : Rw.Good Tryz.prog 94 sideCon := by
  have hΓ : kL Tryz.prog [(90, jX), (116, kA4)] := (kE kFP (kE base_good kJ))
  refine kS (nn := 22) hΓ Tryz.func94 (by kernel_rfl) rfl (show Tryz.f94.results.toList = [.tmp 4] from rfl) (fun _ => rfl) (fun _ => rfl) ?_
  rintro ⟨⟨a, oa⟩, ⟨b, ob⟩⟩
  simp only [aR,N0,N1,N2,N3,N4,N5,Z0,Z1,Z2,Z3,Z4,Z5,Z6,Z7,Z8,Z9,Z10,Zc,↓reduceIte,reduceCtorEq]
  refine kDD (by simp [kB]) rfl oa ?_
  by_cases d1 : qI a = 0
  case neg =>
    simp only [aR,N0,N1,N2,N3,N4,N5,Z0,Z1,Z2,Z3,Z4,Z5,Z6,Z7,Z8,Z9,Z10,Zc,↓reduceIte,reduceCtorEq, d1]
    unfold ovE; rw [if_neg d1]
  simp only [aR,N0,N1,N2,N3,N4,N5,Z0,Z1,Z2,Z3,Z4,Z5,Z6,Z7,Z8,Z9,Z10,Zc,↓reduceIte,reduceCtorEq, d1]
  refine kDD (by simp [kB]) rfl ob ?_
  by_cases d2 : qI b = 0
  case neg =>
    simp only [aR,N0,N1,N2,N3,N4,N5,Z0,Z1,Z2,Z3,Z4,Z5,Z6,Z7,Z8,Z9,Z10,Zc,↓reduceIte,reduceCtorEq, d2]
    unfold ovE; rw [if_pos d1, if_neg d2]
  simp only [aR,N0,N1,N2,N3,N4,N5,Z0,Z1,Z2,Z3,Z4,Z5,Z6,Z7,Z8,Z9,Z10,Zc,↓reduceIte,reduceCtorEq, d2]
  refine kEg (by simp [kB]) rfl oa ?_
  simp only [aR,N0,N1,N2,N3,N4,N5,Z0,Z1,Z2,Z3,Z4,Z5,Z6,Z7,Z8,Z9,Z10,Zc,↓reduceIte,reduceCtorEq]
  refine kEg (by simp [kB]) rfl ob ?_
  by_cases d3 : zY a = zY b
  · simp only [aR,N0,N1,N2,N3,N4,N5,Z0,Z1,Z2,Z3,Z4,Z5,Z6,Z7,Z8,Z9,Z10,Zc,↓reduceIte,reduceCtorEq, d3]
    unfold ovE; rw [if_pos d1, if_pos d2, if_pos d3]
  · simp only [aR,N0,N1,N2,N3,N4,N5,Z0,Z1,Z2,Z3,Z4,Z5,Z6,Z7,Z8,Z9,Z10,Zc,↓reduceIte,reduceCtorEq, d3]
    unfold ovE; rw [if_pos d1, if_pos d2, if_neg d3]
theorem call_side {Γ : Env} (hf : Γ.get 94 = some sideCon) {σ : AS} {dr : Bool} {a b : List Cp} {t1 t2 : Nat} {ys zs : List AV} {d : Option Nat} {K : AS → Prop} (hy : ys = kU a) (hz : zs = kU b) (oa : okL a) (ob : okL b)
    (hk : cont σ d (.v (.int .i64 (ovE a b))) K) : kR Tryz.prog Γ dr σ 94 [.sl t1 3 ys, .sl t2 3 zs] d K := by
  subst hy hz
  exact kK (C := sideCon) (i := (⟨a, oa⟩, ⟨b, ob⟩)) hf rfl rfl rfl rfl (fun _ h => h) rfl hk
abbrev kBQ : Con where
  ι := Ed × Ed × Bool
  args := fun p => [.sl 0 3 (kU p.1.1), .sl 0 3 (kU p.2.1.1), .v (.bool p.2.2)]
  post := fun p r => r = ovR p.2.2 p.1.1 p.2.1.1
theorem over_raw (f : Bool) {a b : List Cp} (h1 : qI a = 0) (h2 : qI b = 0) (o1 : okL a) (o2 : okL b) :
    unL (zW f ((unL a).length + (unL b).length) (a, 0) (b, 0)) = overU f (unL a) (unL b) ∧ (∀ c ∈ zW f ((unL a).length + (unL b).length) (a, 0) (b, 0), qE c = true) ∧ okL (zW f ((unL a).length + (unL b).length) (a, 0) (b, 0)) ∧ (zW f ((unL a).length + (unL b).length) (a, 0) (b, 0)).length ≤ 100000 := by
  have w1 := kBX h1 o1
  have w2 := kBX h2 o2
  obtain ⟨i1, i2⟩ := kBg f ((unL a).length + (unL b).length) (a, 0) (b, 0) w1.1 w2.1 (by simp [wU])
  have e1 : wU (a, 0) = unL a := by simp [wU]
  have e2 : wU (b, 0) = unL b := by simp [wU]
  rw [e1, e2] at i1
  have h3 := overU_len f (unL a) (unL b)
  have h4 := (jN h1).2.2
  have h5 := (jN h2).2.2
  have h6 := (kC3 i2).1
  rw [i1] at h6
  exact ⟨i1, i2, okL_raw i2 (by rw [i1]; omega), by omega⟩
theorem keepL_pos {n : Nat} (h : 0 < n) : keepL n = [⟨1, n, []⟩] := by unfold keepL; rw [if_neg (by omega)]
theorem kEL (a b : List Cp) : kU a ++ kU b = kU (a ++ b) := by simp [kU]
theorem field_k (a b c : AV) : kFZ Tryz.prog 80 (.agg [a, b, c]) 0 = some a := by
  unfold kFZ
  rw [Tryz.underlying80]
  simp [kAS, tiRules, TK.isAgg]
abbrev OvSt (fi : Bool) (e : Prop) (raw : List Cp) := { p : List Cp × (List Cp × Nat) × (List Cp × Nat) × Nat // e ∧ WOK p.2.1 ∧ WOK p.2.2.1 ∧ (wU p.2.1).length + (wU p.2.2.1).length ≤ p.2.2.2 ∧ p.1.length + p.2.2.2 ≤ 10000 ∧ p.1 ++ zW fi p.2.2.2 p.2.1 p.2.2.1 = raw }
theorem over_good : Rw.Good Tryz.prog 70 kBQ := by
  have hΓ : kL Tryz.prog [(94, sideCon), (99, kCh), (98, keepCon), (92, kCd), (118, kBe)] := (kE side_good (kE norm_good (kE keep_good (kE rc_good (kE slice_good kJ)))))
  refine kS (nn := 79) hΓ Tryz.func70 (by kernel_rfl) rfl (show Tryz.f70.results.toList = [.tmp 6, .tmp 7] from rfl) (fun _ => rfl) (fun _ => rfl) ?_
  rintro ⟨⟨a, oa⟩, ⟨b, ob⟩, fi⟩
  simp only [aR,N0,N1,N2,N3,N4,N5,Z0,Z1,Z2,Z3,Z4,Z5,Z6,Z7,Z8,Z9,Z10,Zc,↓reduceIte,reduceCtorEq, kD]
  generalize hF : (unL a).length + (unL b).length = F
  generalize hraw : zW fi F (a, 0) (b, 0) = raw
  obtain ⟨St, hSt⟩ : ∃ St : OvSt fi (ovE a b = 0) raw → AS, ∀ p, St p = AS.of 79 [(2, .v (.bool fi)), (6, .sl 2 3 (kU p.1.1)), (8, .ptr 0 0), (9, .ptr 1 0), (11, .ptr 2 0)] [.cells [.sl 0 3 (kU p.1.2.1.1), .v (.int .i64 p.1.2.1.2)], .cells [.sl 0 3 (kU p.1.2.2.1.1), .v (.int .i64 p.1.2.2.1.2)], .cells [.any, .any, .any]] [(p.1.1.length, 80)] := ⟨_, fun _ => rfl⟩
  refine vc_lab hΓ 0 St (fun p => p.1.2.2.2) 1 rfl rfl ?_ ?_
  · rintro ⟨⟨out, x, y, f⟩, he, hx, hy, hf, hlen, hr⟩
    simp only at hx hy hf hlen hr
    have fin : raw = out → okL out ∧ AV.tup [.sl 0 3 (kU (nf out)), .v (.int .i64 0)] = ovR fi a b := fun h => by
      obtain ⟨f1, f2, f3⟩ := ovE_zero he
      have f4 := (over_raw fi f1 f2 oa ob).2.2.1
      rw [hF, hraw, h] at f4
      refine ⟨f4, ?_⟩
      unfold ovR ovN
      rw [if_pos he, hF, hraw, h]
      rfl
    rw [hSt]
    simp only
    simp only [aR,N0,N1,N2,N3,N4,N5,Z0,Z1,Z2,Z3,Z4,Z5,Z6,Z7,Z8,Z9,Z10,Zc,↓reduceIte,reduceCtorEq, kD]
    refine kBj hΓ (by simp [kB, kQ]) hx rfl ?_
    by_cases k2 : qA x.1 = 2
    · cases fi with
      | true =>
        simp only [aR,N0,N1,N2,N3,N4,N5,Z0,Z1,Z2,Z3,Z4,Z5,Z6,Z7,Z8,Z9,Z10,Zc,↓reduceIte,reduceCtorEq, k2]
        have hp := qW hx.1 (by omega)
        obtain ⟨e1, e2, e3, e4, e5, e6⟩ := qQ hx.1 (by omega) hp (Nat.le_refl _)
        obtain ⟨f, rfl⟩ : ∃ g, f = g + 1 := ⟨f - 1, by omega⟩
        rw [zW, if_pos ⟨k2, .inl rfl⟩] at hr
        refine kBd hΓ (by simp [kB, kQ]) (by simp [kB, kQ]) (by simp [kB]) hx rfl ?_
        simp only [aR,N0,N1,N2,N3,N4,N5,Z0,Z1,Z2,Z3,Z4,Z5,Z6,Z7,Z8,Z9,Z10,Zc,↓reduceIte,reduceCtorEq]
        refine kB5 hΓ (by simp [kB, kQ]) (by simp [kB, kQ]) (by simp [kB, kQ]) (by simp [kB]) (by simp [kB]) (by omega) hx (by omega) (Nat.le_refl _) rfl ?_
        intro h' g0 g
        have g1 := g 1 (by omega) (by omega)
        have g2 := g 2 (by omega) (by omega)
        have hx2 := jU hx (by omega) hp (Nat.le_refl _)
        generalize jP x (lenW x.1 x.2) = pc at *
        generalize adv x (lenW x.1 x.2) = x2 at *
        obtain ⟨pk, pn, pt⟩ := pc
        simp only [aR,N0,N1,N2,N3,N4,N5,Z0,Z1,Z2,Z3,Z4,Z5,Z6,Z7,Z8,Z9,Z10,Zc,↓reduceIte,reduceCtorEq, kD, g0, g1, g2, cA, qP]
        (repeat (with_reducible refine And.intro ?_ ?_; focus (first | omega | exact kG | kernel_rfl)))
        refine kI ⟨(out ++ [⟨pk, pn, pt⟩], x2, y, f), he, hx2, hy, by simp only; omega, by simp only [List.length_append, List.length_singleton]; omega, by simp only; rw [← hr]; simp⟩ (by simp only; omega) ?_
        rw [hSt]
        refine kH [0, 1, 2] [.live 2] ?_
        simp only [aR,N0,N1,N2,N3,N4,N5,Z0,Z1,Z2,Z3,Z4,Z5,Z6,Z7,Z8,Z9,Z10,Zc,↓reduceIte,reduceCtorEq, kD, List.length_append, g0, g1, g2] <;> ((repeat' apply And.intro) <;> first | rfl | omega | trivial)
      | false =>
        simp only [aR,N0,N1,N2,N3,N4,N5,Z0,Z1,Z2,Z3,Z4,Z5,Z6,Z7,Z8,Z9,Z10,Zc,↓reduceIte,reduceCtorEq, k2]
        refine kBj hΓ (by simp [kB, kQ]) hy rfl ?_
        by_cases ky : qA y.1 = 2
        · simp only [aR,N0,N1,N2,N3,N4,N5,Z0,Z1,Z2,Z3,Z4,Z5,Z6,Z7,Z8,Z9,Z10,Zc,↓reduceIte,reduceCtorEq, ky]
          refine kBj hΓ (by simp [kB, kQ]) hy rfl ?_
          simp only [aR,N0,N1,N2,N3,N4,N5,Z0,Z1,Z2,Z3,Z4,Z5,Z6,Z7,Z8,Z9,Z10,Zc,↓reduceIte,reduceCtorEq, ky]
          have hp := qW hy.1 (by omega)
          obtain ⟨e1, e2, e3, e4, e5, e6⟩ := qQ hy.1 (by omega) hp (Nat.le_refl _)
          obtain ⟨f, rfl⟩ : ∃ g, f = g + 1 := ⟨f - 1, by omega⟩
          rw [zW, if_neg (by rintro ⟨_, h | h⟩; exact absurd h (by decide); exact h ky), if_pos ky] at hr
          have hlw := (lenW_le hy).1
          refine kBd hΓ (by simp [kB, kQ]) (by simp [kB, kQ]) (by simp [kB]) hy rfl ?_
          simp only [aR,N0,N1,N2,N3,N4,N5,Z0,Z1,Z2,Z3,Z4,Z5,Z6,Z7,Z8,Z9,Z10,Zc,↓reduceIte,reduceCtorEq]
          refine kB5 hΓ (by simp [kB, kQ]) (by simp [kB, kQ]) (by simp [kB, kQ]) (by simp [kB]) (by simp [kB]) (by omega) hy (by omega) (Nat.le_refl _) rfl ?_
          intro h' g1 g
          have g0 := g 0 (by omega) (by omega)
          have g2 := g 2 (by omega) (by omega)
          have hy2 := jU hy (by omega) hp (Nat.le_refl _)
          simp only [aR,N0,N1,N2,N3,N4,N5,Z0,Z1,Z2,Z3,Z4,Z5,Z6,Z7,Z8,Z9,Z10,Zc,↓reduceIte,reduceCtorEq]
          refine call_keep (by simp [kB]) (by omega) ?_
          rw [keepL_pos hp]
          generalize lenW y.1 y.2 = ly at *
          generalize jP y ly = pc at *
          generalize adv y ly = y2 at *
          simp only [aR,N0,N1,N2,N3,N4,N5,Z0,Z1,Z2,Z3,Z4,Z5,Z6,Z7,Z8,Z9,Z10,Zc,↓reduceIte,reduceCtorEq, kD, kEL, List.length_append, List.length_singleton, g0, g1, g2, cA]
          (repeat (with_reducible refine And.intro ?_ ?_; focus (first | omega | exact kG | kernel_rfl)))
          refine kI ⟨(out ++ [⟨1, (ly : Int), []⟩], x, y2, f), he, hx, hy2, by simp only; omega, by simp only [List.length_append, List.length_singleton]; omega, by simp only; rw [← hr]; simp⟩ (by simp only; omega) ?_
          rw [hSt]
          refine kH [0, 1, 2] [.live 2] ?_
          simp only [aR,N0,N1,N2,N3,N4,N5,Z0,Z1,Z2,Z3,Z4,Z5,Z6,Z7,Z8,Z9,Z10,Zc,↓reduceIte,reduceCtorEq, kD, List.length_append, List.length_singleton, g0, g1, g2] <;> ((repeat' apply And.intro) <;> first | rfl | omega | trivial)
        · simp only [aR,N0,N1,N2,N3,N4,N5,Z0,Z1,Z2,Z3,Z4,Z5,Z6,Z7,Z8,Z9,Z10,Zc,↓reduceIte,reduceCtorEq, ky]
          have hp := qW hx.1 (by omega)
          obtain ⟨e1, e2, e3, e4, e5, e6⟩ := qQ hx.1 (by omega) hp (Nat.le_refl _)
          obtain ⟨f, rfl⟩ : ∃ g, f = g + 1 := ⟨f - 1, by omega⟩
          rw [zW, if_pos ⟨k2, .inr ky⟩] at hr
          refine kBd hΓ (by simp [kB, kQ]) (by simp [kB, kQ]) (by simp [kB]) hx rfl ?_
          simp only [aR,N0,N1,N2,N3,N4,N5,Z0,Z1,Z2,Z3,Z4,Z5,Z6,Z7,Z8,Z9,Z10,Zc,↓reduceIte,reduceCtorEq]
          refine kB5 hΓ (by simp [kB, kQ]) (by simp [kB, kQ]) (by simp [kB, kQ]) (by simp [kB]) (by simp [kB]) (by omega) hx (by omega) (Nat.le_refl _) rfl ?_
          intro h' g0 g
          have g1 := g 1 (by omega) (by omega)
          have g2 := g 2 (by omega) (by omega)
          have hx2 := jU hx (by omega) hp (Nat.le_refl _)
          generalize jP x (lenW x.1 x.2) = pc at *
          generalize adv x (lenW x.1 x.2) = x2 at *
          obtain ⟨pk, pn, pt⟩ := pc
          simp only [aR,N0,N1,N2,N3,N4,N5,Z0,Z1,Z2,Z3,Z4,Z5,Z6,Z7,Z8,Z9,Z10,Zc,↓reduceIte,reduceCtorEq, kD, g0, g1, g2, cA, qP]
          (repeat (with_reducible refine And.intro ?_ ?_; focus (first | omega | exact kG | kernel_rfl)))
          refine kI ⟨(out ++ [⟨pk, pn, pt⟩], x2, y, f), he, hx2, hy, by simp only; omega, by simp only [List.length_append, List.length_singleton]; omega, by simp only; rw [← hr]; simp⟩ (by simp only; omega) ?_
          rw [hSt]
          refine kH [0, 1, 2] [.live 2] ?_
          simp only [aR,N0,N1,N2,N3,N4,N5,Z0,Z1,Z2,Z3,Z4,Z5,Z6,Z7,Z8,Z9,Z10,Zc,↓reduceIte,reduceCtorEq, kD, List.length_append, g0, g1, g2] <;> ((repeat' apply And.intro) <;> first | rfl | omega | trivial)
    simp only [aR,N0,N1,N2,N3,N4,N5,Z0,Z1,Z2,Z3,Z4,Z5,Z6,Z7,Z8,Z9,Z10,Zc,↓reduceIte,reduceCtorEq, k2]
    refine kBj hΓ (by simp [kB, kQ]) hy rfl ?_
    by_cases ky : qA y.1 = 2
    · simp only [aR,N0,N1,N2,N3,N4,N5,Z0,Z1,Z2,Z3,Z4,Z5,Z6,Z7,Z8,Z9,Z10,Zc,↓reduceIte,reduceCtorEq, ky]
      have hp := qW hy.1 (by omega)
      obtain ⟨e1, e2, e3, e4, e5, e6⟩ := qQ hy.1 (by omega) hp (Nat.le_refl _)
      obtain ⟨f, rfl⟩ : ∃ g, f = g + 1 := ⟨f - 1, by omega⟩
      rw [zW, if_neg (by rintro ⟨h, _⟩; exact k2 h), if_pos ky] at hr
      have hlw := (lenW_le hy).1
      refine kBd hΓ (by simp [kB, kQ]) (by simp [kB, kQ]) (by simp [kB]) hy rfl ?_
      simp only [aR,N0,N1,N2,N3,N4,N5,Z0,Z1,Z2,Z3,Z4,Z5,Z6,Z7,Z8,Z9,Z10,Zc,↓reduceIte,reduceCtorEq]
      refine kB5 hΓ (by simp [kB, kQ]) (by simp [kB, kQ]) (by simp [kB, kQ]) (by simp [kB]) (by simp [kB]) (by omega) hy (by omega) (Nat.le_refl _) rfl ?_
      intro h' g1 g
      have g0 := g 0 (by omega) (by omega)
      have g2 := g 2 (by omega) (by omega)
      have hy2 := jU hy (by omega) hp (Nat.le_refl _)
      simp only [aR,N0,N1,N2,N3,N4,N5,Z0,Z1,Z2,Z3,Z4,Z5,Z6,Z7,Z8,Z9,Z10,Zc,↓reduceIte,reduceCtorEq]
      refine call_keep (by simp [kB]) (by omega) ?_
      rw [keepL_pos hp]
      generalize lenW y.1 y.2 = ly at *
      generalize jP y ly = pc at *
      generalize adv y ly = y2 at *
      simp only [aR,N0,N1,N2,N3,N4,N5,Z0,Z1,Z2,Z3,Z4,Z5,Z6,Z7,Z8,Z9,Z10,Zc,↓reduceIte,reduceCtorEq, kD, kEL, List.length_append, List.length_singleton, g0, g1, g2, cA]
      (repeat (with_reducible refine And.intro ?_ ?_; focus (first | omega | exact kG | kernel_rfl)))
      refine kI ⟨(out ++ [⟨1, (ly : Int), []⟩], x, y2, f), he, hx, hy2, by simp only; omega, by simp only [List.length_append, List.length_singleton]; omega, by simp only; rw [← hr]; simp⟩ (by simp only; omega) ?_
      rw [hSt]
      refine kH [0, 1, 2] [.live 2] ?_
      simp only [aR,N0,N1,N2,N3,N4,N5,Z0,Z1,Z2,Z3,Z4,Z5,Z6,Z7,Z8,Z9,Z10,Zc,↓reduceIte,reduceCtorEq, kD, List.length_append, List.length_singleton, g0, g1, g2] <;> ((repeat' apply And.intro) <;> first | rfl | omega | trivial)
    simp only [aR,N0,N1,N2,N3,N4,N5,Z0,Z1,Z2,Z3,Z4,Z5,Z6,Z7,Z8,Z9,Z10,Zc,↓reduceIte,reduceCtorEq, ky]
    refine kBj hΓ (by simp [kB, kQ]) hx rfl ?_
    by_cases c3 : qA x.1 = 0
    · have hend : raw = out := by
        rw [← hr]
        cases f with
        | zero => simp [zW]
        | succ f => rw [zW, if_neg (by rintro ⟨h, _⟩; exact k2 h), if_neg ky, if_pos (.inl c3)]; simp
      obtain ⟨f1, f2⟩ := fin hend
      simp only [aR,N0,N1,N2,N3,N4,N5,Z0,Z1,Z2,Z3,Z4,Z5,Z6,Z7,Z8,Z9,Z10,Zc,↓reduceIte,reduceCtorEq, c3]
      refine ⟨_, rfl, ?_⟩
      simp only [aR,N0,N1,N2,N3,N4,N5,Z0,Z1,Z2,Z3,Z4,Z5,Z6,Z7,Z8,Z9,Z10,Zc,↓reduceIte,reduceCtorEq]
      refine kEd (by simp [kB]) (by omega) rfl f1 ?_
      simp only [aR,N0,N1,N2,N3,N4,N5,Z0,Z1,Z2,Z3,Z4,Z5,Z6,Z7,Z8,Z9,Z10,Zc,↓reduceIte,reduceCtorEq]
      exact f2
    simp only [aR,N0,N1,N2,N3,N4,N5,Z0,Z1,Z2,Z3,Z4,Z5,Z6,Z7,Z8,Z9,Z10,Zc,↓reduceIte,reduceCtorEq, c3]
    refine kBj hΓ (by simp [kB, kQ]) hy rfl ?_
    by_cases c4 : qA y.1 = 0
    · have hend : raw = out := by
        rw [← hr]
        cases f with
        | zero => simp [zW]
        | succ f => rw [zW, if_neg (by rintro ⟨h, _⟩; exact k2 h), if_neg ky, if_pos (.inr c4)]; simp
      obtain ⟨f1, f2⟩ := fin hend
      simp only [aR,N0,N1,N2,N3,N4,N5,Z0,Z1,Z2,Z3,Z4,Z5,Z6,Z7,Z8,Z9,Z10,Zc,↓reduceIte,reduceCtorEq, c4]
      refine ⟨_, rfl, ?_⟩
      simp only [aR,N0,N1,N2,N3,N4,N5,Z0,Z1,Z2,Z3,Z4,Z5,Z6,Z7,Z8,Z9,Z10,Zc,↓reduceIte,reduceCtorEq]
      refine kEd (by simp [kB]) (by omega) rfl f1 ?_
      simp only [aR,N0,N1,N2,N3,N4,N5,Z0,Z1,Z2,Z3,Z4,Z5,Z6,Z7,Z8,Z9,Z10,Zc,↓reduceIte,reduceCtorEq]
      exact f2
    simp only [aR,N0,N1,N2,N3,N4,N5,Z0,Z1,Z2,Z3,Z4,Z5,Z6,Z7,Z8,Z9,Z10,Zc,↓reduceIte,reduceCtorEq, c4]
    refine kBd hΓ (by simp [kB, kQ]) (by simp [kB, kQ]) (by simp [kB]) hx rfl ?_
    simp only [aR,N0,N1,N2,N3,N4,N5,Z0,Z1,Z2,Z3,Z4,Z5,Z6,Z7,Z8,Z9,Z10,Zc,↓reduceIte,reduceCtorEq]
    refine kBd hΓ (by simp [kB, kQ]) (by simp [kB, kQ]) (by simp [kB]) hy rfl ?_
    have hpx := qW hx.1 c3
    have hpy := qW hy.1 c4
    have hmin : min ((lenW x.1 x.2 : Nat) : Int) ((lenW y.1 y.2 : Nat) : Int) = ((min (lenW x.1 x.2) (lenW y.1 y.2) : Nat) : Int) := by omega
    obtain ⟨f, rfl⟩ : ∃ g, f = g + 1 := ⟨f - 1, by
      have := (qQ hx.1 c3 hpx (Nat.le_refl _)).2.2.2.2.2
      omega⟩
    rw [zW, if_neg (by rintro ⟨h, _⟩; exact k2 h), if_neg ky, if_neg (by simp [c3, c4])] at hr
    simp only at hr
    generalize hm : min (lenW x.1 x.2) (lenW y.1 y.2) = m at *
    simp only [aR,N0,N1,N2,N3,N4,N5,Z0,Z1,Z2,Z3,Z4,Z5,Z6,Z7,Z8,Z9,Z10,Zc,↓reduceIte,reduceCtorEq, kB7, hmin]
    obtain ⟨e1, e2, e3, e4, e5, e6⟩ := qQ (n := m) hx.1 c3 (by omega) (by omega)
    obtain ⟨u1, u2, u3, u4, u5, u6⟩ := qQ (n := m) hy.1 c4 (by omega) (by omega)
    refine kB5 hΓ (by simp [kB, kQ]) (by simp [kB, kQ]) (by simp [kB, kQ]) (by simp [kB]) (by simp [kB]) (by omega) hx c3 (by omega) rfl ?_
    intro h' g0 g
    have g1 := g 1 (by omega) (by omega)
    have g2 := g 2 (by omega) (by omega)
    have hx2 := jU hx c3 (n := m) (by omega) (by omega)
    generalize jP x m = pc at *
    generalize adv x m = x2 at *
    obtain ⟨pk, pn, pt⟩ := pc
    simp only [aR,N0,N1,N2,N3,N4,N5,Z0,Z1,Z2,Z3,Z4,Z5,Z6,Z7,Z8,Z9,Z10,Zc,↓reduceIte,reduceCtorEq, g0, g1, g2, cA]
    refine kB5 hΓ (by simp [kB, kQ]) (by simp [kB, kQ]) (by simp [kB, kQ]) (by simp [kB]) (by simp [kB]) (by omega) hy c4 (by omega) (by simp only [upd]; exact g1) ?_
    intro h2 v1 v
    have v0 := v 0 (by omega) (by omega)
    have v2 := v 2 (by omega) (by omega)
    have v0 := v0.trans ((show upd h' 2 _ 0 = h' 0 from rfl).trans g0)
    have v2 := v2.trans (show upd h' 2 _ 2 = _ from rfl)
    have hy2 := jU hy c4 (n := m) (by omega) (by omega)
    generalize jP y m = qc at *
    generalize adv y m = y2 at *
    obtain ⟨qk, qn, qt⟩ := qc
    simp only at e5 u5
    rw [← u5] at hr
    clear hmin
    by_cases c5 : qk = 1
    · rw [if_pos c5] at hr
      simp only [aR,N0,N1,N2,N3,N4,N5,Z0,Z1,Z2,Z3,Z4,Z5,Z6,Z7,Z8,Z9,Z10,Zc,↓reduceIte,reduceCtorEq, kD, v0, v1, v2, cA, qP, c5, field_k]
      (repeat (with_reducible refine And.intro ?_ ?_; focus (first | omega | exact kG | kernel_rfl)))
      refine kI ⟨(out ++ [⟨pk, pn, pt⟩], x2, y2, f), he, hx2, hy2, by simp only; omega, by simp only [List.length_append, List.length_singleton]; omega, by simp only; rw [← hr]; simp⟩ (by simp only; omega) ?_
      rw [hSt]
      refine kH [0, 1, 2] [.live 2] ?_
      simp only [aR,N0,N1,N2,N3,N4,N5,Z0,Z1,Z2,Z3,Z4,Z5,Z6,Z7,Z8,Z9,Z10,Zc,↓reduceIte,reduceCtorEq, kD, List.length_append, v0, v1, v2] <;> ((repeat' apply And.intro) <;> first | rfl | omega | trivial)
    rw [if_neg c5, List.nil_append] at hr
    simp only [aR,N0,N1,N2,N3,N4,N5,Z0,Z1,Z2,Z3,Z4,Z5,Z6,Z7,Z8,Z9,Z10,Zc,↓reduceIte,reduceCtorEq, kD, v0, v1, v2, cA, qP, c5, field_k]
    refine kI ⟨(out, x2, y2, f), he, hx2, hy2, by simp only; omega, by simp only; omega, hr⟩ (by simp only; omega) ?_
    rw [hSt]
    refine kH [0, 1, 2] [.live 2] ?_
    simp only [aR,N0,N1,N2,N3,N4,N5,Z0,Z1,Z2,Z3,Z4,Z5,Z6,Z7,Z8,Z9,Z10,Zc,↓reduceIte,reduceCtorEq, kD, List.length_append, v0, v1, v2] <;> ((repeat' apply And.intro) <;> first | rfl | omega | trivial)
  · simp only [aR,N0,N1,N2,N3,N4,N5,Z0,Z1,Z2,Z3,Z4,Z5,Z6,Z7,Z8,Z9,Z10,Zc,↓reduceIte,reduceCtorEq, kD]
    refine qX (nn := 6) hΓ (by first | assumption | simp [kB, kQ]) Tryz.func93 (by kernel_rfl) rfl (show Tryz.f93.results.toList = [.tmp 2] from rfl) rfl ?_
    simp only [aR,N0,N1,N2,N3,N4,N5,Z0,Z1,Z2,Z3,Z4,Z5,Z6,Z7,Z8,Z9,Z10,Zc,↓reduceIte,reduceCtorEq, kD, List.map_cons, List.map_nil]
    refine qX (nn := 6) hΓ (by first | assumption | simp [kB, kQ]) Tryz.func93 (by kernel_rfl) rfl (show Tryz.f93.results.toList = [.tmp 2] from rfl) rfl ?_
    simp only [aR,N0,N1,N2,N3,N4,N5,Z0,Z1,Z2,Z3,Z4,Z5,Z6,Z7,Z8,Z9,Z10,Zc,↓reduceIte,reduceCtorEq, kD, List.map_cons, List.map_nil]
    refine call_side (by simp [kB]) rfl rfl oa ob ?_
    by_cases he : ovE a b = 0
    case neg =>
      simp only [aR,N0,N1,N2,N3,N4,N5,Z0,Z1,Z2,Z3,Z4,Z5,Z6,Z7,Z8,Z9,Z10,Zc,↓reduceIte,reduceCtorEq, he]
      unfold ovR
      rw [if_neg he]; rfl
    simp only [aR,N0,N1,N2,N3,N4,N5,Z0,Z1,Z2,Z3,Z4,Z5,Z6,Z7,Z8,Z9,Z10,Zc,↓reduceIte,reduceCtorEq, he]
    obtain ⟨d1, d2, d3⟩ := ovE_zero he
    have f1 := (jN d1).2.2
    have f2 := (jN d2).2.2
    refine ⟨⟨([], (a, 0), (b, 0), F), he, kBX d1 oa, kBX d2 ob, by simp only [wU, List.drop_zero]; omega, by simp only [List.length_nil]; omega, hraw⟩, ?_⟩
    rw [hSt]
    refine kH [0, 1, 2] [.nil 3] ?_
    simp only [aR,N0,N1,N2,N3,N4,N5,Z0,Z1,Z2,Z3,Z4,Z5,Z6,Z7,Z8,Z9,Z10,Zc,↓reduceIte,reduceCtorEq, qM] <;> ((repeat' apply And.intro) <;> first | rfl | omega | trivial)
end Go.Proofs
end
-- ZAx4
section
namespace Go.Proofs
open Go Go.Rw
set_option maxRecDepth 100000
theorem ov_facts (f : Bool) {a b : List Cp} (he : ovE a b = 0) (oa : okL a) (ob : okL b) :
    (∀ cs : List Nat, doL cs (ovN f a b) = doU cs (overU f (unL a) (unL b))) ∧ zY (ovN f a b) = outL b ∧ qL (ovN f a b) = true ∧ okL (ovN f a b) := by
  obtain ⟨h1, h2, h3⟩ := ovE_zero he
  obtain ⟨r1, r2, r3, r4⟩ := over_raw f h1 h2 oa ob
  obtain ⟨o1, o2, o3⟩ := jN h1
  obtain ⟨p1, p2, p3⟩ := jN h2
  have hl := overU_len f (unL a) (unL b)
  obtain ⟨n1, n2, n3, n4⟩ := nf_facts r2 (by rw [r1]; omega)
  rw [r1] at n1 n2 n3
  have hb := over_base f (unL a) (unL b) (by omega)
  refine ⟨n1, ?_, n4, okL_nf r3 r4⟩
  show zY (nf _) = _
  rw [n2, hb, p1]
theorem kDo {f : Bool} {a b : List Cp} (he : ovE a b = 0) : ovR f a b = res2 (.sl 0 3 (kU (ovN f a b))) 0 := by unfold ovR; rw [if_pos he]
theorem ovR_err {f : Bool} {a b : List Cp} (he : ¬ ovE a b = 0) : ovR f a b = res2 (.sl 0 3 []) (ovE a b) := by unfold ovR; rw [if_neg he]
theorem ovR_er (f : Bool) (a b : List Cp) : (ovR f a b).er = ovR f a b := by
  unfold ovR
  split <;> simp [res2, AV.er, AV.erL]
theorem kC9 {Γ : Env} {f : Nat} (hf : Γ.get f = some kBQ) {σ : AS} {dr : Bool} {a b : List Cp} {fi : Bool} {ys zs : List AV} {d : Option Nat} {K : AS → Prop} (hy : ys = kU a) (hz : zs = kU b) (oa : okL a) (ob : okL b)
    (hk : cont σ d (ovR fi a b) K) : kR Tryz.prog Γ dr σ f [.sl 0 3 ys, .sl 0 3 zs, .v (.bool fi)] d K := by
  subst hy hz
  exact qK (C := kBQ) (i := (⟨a, oa⟩, ⟨b, ob⟩, fi)) (r := ovR fi a b) hf rfl rfl rfl rfl (fun _ h => h) (by rw [ovR_er]; exact hk)
end Go.Proofs
end
