/-
  An edit of a place; what does nothing; the law's own readiness. OpOf answers true. Sums, held; how much an edit takes. Laws of the normal form. What the normal form keeps.
-/
import Derived.Test.YtmhpninemdmbkaaGreatDoorXZUo2
set_option linter.unusedSimpArgs false
set_option linter.unusedVariables false
set_option linter.defProp false

-- ZUo6
section
namespace Go.Proofs
open Go Go.Rw
open _root_.Nat renaming reduceAdd → N0, reduceSub → N1, reduceMul → N2, reduceLT → N3, reduceLeDiff → N4, reduceEqDiff → N5
open _root_.Int renaming reduceNeg → Z0, reduceAdd → Z1, reduceSub → Z2, reduceMul → Z3, reduceGT → Z4, reduceGE → Z5, reduceLT → Z6, reduceLE → Z7, reduceEq → Z8, reduceNe → Z9, reduceToNat → Z10, cast_ofNat_Int → Zc
set_option maxRecDepth 100000
set_option linter.unusedSimpArgs false
set_option linter.unusedVariables false

def ofBad (n a b : Int) (t : List UInt8) : Prop := a < 0 ∨ b < a ∨ n < b ∨ pts t = none
instance (n a b : Int) (t : List UInt8) : Decidable (ofBad n a b t) := by unfold ofBad; exact inferInstance
def keepL (n : Int) : List Cp := if n < 1 then [] else [⟨1, n, []⟩]
abbrev keepCon : Con where
  ι := I64
  args := fun n => [.v (.int .i64 n.1)]
  post := fun n r => r = .sl 0 3 (kR (keepL n.1))
theorem keep_good : Rw.Good Tryz.prog 98 keepCon := by
  have hΓ : kL Tryz.prog [] := kJ
  refine kS (nn := 8) hΓ Tryz.func98 (by kernel_rfl) rfl (show Tryz.f98.results.toList = [.tmp 2] from rfl) (fun _ => rfl) (fun _ => rfl) ?_
  rintro ⟨n, hn⟩
  simp only [aR,N0,N1,N2,N3,N4,N5,Z0,Z1,Z2,Z3,Z4,Z5,Z6,Z7,Z8,Z9,Z10,Zc,↓reduceIte,reduceCtorEq]
  by_cases h : n < 1
  · simp only [aR,N0,N1,N2,N3,N4,N5,Z0,Z1,Z2,Z3,Z4,Z5,Z6,Z7,Z8,Z9,Z10,Zc,↓reduceIte,reduceCtorEq, h, keepL]
    rfl
  · simp only [aR,N0,N1,N2,N3,N4,N5,Z0,Z1,Z2,Z3,Z4,Z5,Z6,Z7,Z8,Z9,Z10,Zc,↓reduceIte,reduceCtorEq, h, keepL, List.map_cons, List.map_nil]
    rfl
theorem call_keep {Γ : Env} (hf : Γ.get 98 = some keepCon) {σ : AS} {dr : Bool} {n : Int} {d : Option Nat} {K : AS → Prop} (hn : -9223372036854775808 ≤ n ∧ n ≤ 9223372036854775807)
    (hk : cont σ d (.sl 0 3 (kR (keepL n))) K) : kP Tryz.prog Γ dr σ 98 [.v (.int .i64 n)] d K :=
  qM (C := keepCon) (i := ⟨n, hn⟩) (r := .sl 0 3 (kR (keepL n))) hf rfl rfl rfl rfl (fun _ h => h) hk

end Go.Proofs
end

-- ZUo7
section
namespace Go.Proofs
open Go Go.Rw
set_option maxRecDepth 100000
set_option linter.unusedSimpArgs false
set_option linter.unusedVariables false

theorem z7 {n m : Int} (h1 : n + m ≤ 1099511627776) : addI n m = n + m := by unfold addI; omega
theorem kBf : ∀ (x y : List Cp) (n : Int), zQ n (x ++ y) = zQ (zQ n x) y
  | [], _, _ => rfl
  | c :: x, y, n => by simp only [List.cons_append, zQ]; exact kBf x y _
theorem kCx : ∀ (x y : List Cp) (n : Int), outF n (x ++ y) = outF (outF n x) y
  | [], _, _ => rfl
  | c :: x, y, n => by simp only [List.cons_append, outF]; exact kCx x y _
theorem kES {m k g : Int} {t : List UInt8} (hk : 0 ≤ k) (hg : 0 ≤ g) (h : m + k + g ≤ 1099511627776) : zQ m (putL k t g) = m + k + g := by
  have e1 : zQ m (if k > 0 then [⟨1, k, []⟩] else []) = m + k := by
    split
    · simp only [zQ, true_or, if_true, addI]; omega
    · simp only [zQ]; omega
  have e2 : zQ (m + k) (if t ≠ [] then [⟨2, 0, t⟩] else []) = m + k := by
    split
    · simp [zQ]
    · rfl
  have e3 : zQ (m + k) (if g > 0 then [⟨3, g, []⟩] else []) = m + k + g := by
    split
    · simp only [zQ, or_true, if_true, addI]; omega
    · simp only [zQ]; omega
  rw [putL, kBf, e1, kBf, e2, e3]
theorem outF_putL {m k g : Int} {t : List UInt8} (hk : 0 ≤ k) (h : m + k + lc t ≤ 1099511627776) : outF m (putL k t g) = m + k + lc t := by
  have e1 : outF m (if k > 0 then [⟨1, k, []⟩] else []) = m + k := by
    split
    · simp only [outF, if_true, addI]; omega
    · simp only [outF]; omega
  have e2 : outF (m + k) (if t ≠ [] then [⟨2, 0, t⟩] else []) = m + k + lc t := by
    split
    · simp [outF, addI]; omega
    · rename_i h
      have : t = [] := Classical.byContradiction fun h2 => h h2
      subst this
      simp [outF, kCb]
  have e3 : outF (m + k + lc t) (if g > 0 then [⟨3, g, []⟩] else []) = m + k + lc t := by
    split
    · simp [outF]
    · rfl
  rw [putL, kCx, e1, kCx, e2, e3]
end Go.Proofs
end

-- ZUo8
section
namespace Go.Proofs
open Go Go.Rw
open _root_.Nat renaming reduceAdd → N0, reduceSub → N1, reduceMul → N2, reduceLT → N3, reduceLeDiff → N4, reduceEqDiff → N5
open _root_.Int renaming reduceNeg → Z0, reduceAdd → Z1, reduceSub → Z2, reduceMul → Z3, reduceGT → Z4, reduceGE → Z5, reduceLT → Z6, reduceLE → Z7, reduceEq → Z8, reduceNe → Z9, reduceToNat → Z10, cast_ofNat_Int → Zc
set_option maxRecDepth 100000
set_option linter.unusedSimpArgs false
set_option linter.unusedVariables false

/-- A sum, held at the most. -/
def sumF (x : Int) (ys : List Int) : Int := ys.foldl addI x
theorem sumF_top : ∀ (ys : List Int), (∀ y ∈ ys, 0 ≤ y) → sumF 1099511627776 ys = 1099511627776
  | [], _ => rfl
  | y :: ys, h => by
    show sumF (addI 1099511627776 y) ys = _
    have := h y (by simp)
    rw [show addI 1099511627776 y = 1099511627776 by unfold addI; omega, sumF_top ys fun z hz => h z (by simp [hz])]
abbrev Sm := { p : Int × List Int // (0 ≤ p.1 ∧ p.1 ≤ 1099511627776) ∧ (∀ y ∈ p.2, 0 ≤ y ∧ y ≤ 9223372036854775807) ∧ p.2.length ≤ 9223372036854775807 }
abbrev kD3 : Con where
  ι := Sm
  args := fun p => [.v (.int .i64 p.1.1), .sl 0 1 (ints .i64 p.1.2)]
  post := fun p r => r = .v (.int .i64 (sumF p.1.1 p.1.2))
  plain := true
theorem kDI : Rw.Good Tryz.prog 31 kD3 := by
  have hΓ : kL Tryz.prog [] := kJ
  refine kS (nn := 30) hΓ Tryz.func31 (by kernel_rfl) rfl (show Tryz.f31.results.toList = [.tmp 4] from rfl) (fun _ => rfl) (fun _ => rfl) ?_
  rintro ⟨⟨x, ys⟩, hx, hy, hl⟩
  simp only at hx hy hl
  simp only [aR,N0,N1,N2,N3,N4,N5,Z0,Z1,Z2,Z3,Z4,Z5,Z6,Z7,Z8,Z9,Z10,Zc,↓reduceIte,reduceCtorEq, zV]
  obtain ⟨St, hSt⟩ : ∃ St : { p : Int × Nat // p.2 ≤ ys.length ∧ (0 ≤ p.1 ∧ p.1 ≤ 1099511627776) ∧ sumF x ys = sumF p.1 (ys.drop p.2) } → AS, ∀ p, St p = AS.of 30 [(0, .v (.int .i64 p.1.1)), (1, .sl 0 1 (ints .i64 ys)), (5, .v (.int .i64 p.1.2))] [] [] := ⟨_, fun _ => rfl⟩
  refine kY hΓ St (fun p => ys.length - p.1.2) ⟨(x, 0), by omega, hx, rfl⟩ (by rw [hSt]; refine kH [] [] ?_; simp only [aR,N0,N1,N2,N3,N4,N5,Z0,Z1,Z2,Z3,Z4,Z5,Z6,Z7,Z8,Z9,Z10,Zc,↓reduceIte,reduceCtorEq] <;> ((repeat' apply And.intro) <;> first | rfl | omega | trivial)) ?_
  rintro ⟨⟨s, i⟩, hi, hs, hb⟩
  simp only at hi hs hb
  rw [hSt]
  simp only
  simp only [aR,N0,N1,N2,N3,N4,N5,Z0,Z1,Z2,Z3,Z4,Z5,Z6,Z7,Z8,Z9,Z10,Zc,↓reduceIte,reduceCtorEq, zV]
  (with_reducible first | refine kB (fun h => ?_) (fun h => ?_) | refine kD (fun h => ?_) (fun h => ?_))
  · have hlt : i < ys.length := by omega
    have hyi := hy ys[i] (List.getElem_mem hlt)
    have hge : ∀ y ∈ ys.drop i, 0 ≤ y := fun y hm => (hy y (List.mem_of_mem_drop hm)).1
    rw [List.drop_eq_getElem_cons hlt] at hb hge
    have e1 : (ints .i64 ys).getD i .any = .v (.int .i64 ys[i]) := by simp [ints, List.getD_eq_getElem?_getD, hlt]
    have hs2 : ¬ s > 1099511627776 := by omega
    have early : ys[i] > 1099511627776 - s → sumF x ys = 1099511627776 := fun h => by
      rw [hb]
      show sumF (addI s ys[i]) _ = _
      rw [show addI s ys[i] = 1099511627776 by unfold addI; omega, sumF_top _ fun z hz => hge z (List.mem_cons_of_mem _ hz)]
    generalize ys[i] = y at *
    simp (disch := omega) only [aR,N0,N1,N2,N3,N4,N5,Z0,Z1,Z2,Z3,Z4,Z5,Z6,Z7,Z8,Z9,Z10,Zc,↓reduceIte,reduceCtorEq, kA, h, hs2, e1, zV]
    (repeat (with_reducible refine And.intro ?_ ?_; focus (first | omega | exact kG | kernel_rfl)))
    (with_reducible first | refine kB (fun h2 => ?_) (fun h2 => ?_) | refine kD (fun h2 => ?_) (fun h2 => ?_))
    · simp (disch := omega) only [aR,N0,N1,N2,N3,N4,N5,Z0,Z1,Z2,Z3,Z4,Z5,Z6,Z7,Z8,Z9,Z10,Zc,↓reduceIte,reduceCtorEq, kA, h2, e1, zV]
      rw [early h2]
    · simp (disch := omega) only [aR,N0,N1,N2,N3,N4,N5,Z0,Z1,Z2,Z3,Z4,Z5,Z6,Z7,Z8,Z9,Z10,Zc,↓reduceIte,reduceCtorEq, kA, h2, e1, zV]
      (repeat (with_reducible refine And.intro ?_ ?_; focus (first | omega | exact kG | kernel_rfl)))
      have hr : addI s y = s + y := z7 (by omega)
      refine kI ⟨(s + y, i + 1), by simp only; omega, by simp only; omega, by rw [hb, ← hr]; rfl⟩ (by simp only; omega) ?_
      rw [hSt]; refine kH [] [] ?_
      simp only [aR,N0,N1,N2,N3,N4,N5,Z0,Z1,Z2,Z3,Z4,Z5,Z6,Z7,Z8,Z9,Z10,Zc,↓reduceIte,reduceCtorEq] <;> ((repeat' apply And.intro) <;> first | rfl | omega | trivial)
  · simp only [aR,N0,N1,N2,N3,N4,N5,Z0,Z1,Z2,Z3,Z4,Z5,Z6,Z7,Z8,Z9,Z10,Zc,↓reduceIte,reduceCtorEq, h]
    rw [List.drop_of_length_le (by omega)] at hb
    rw [hb]; rfl
theorem kBn {Γ : Env} (hf : Γ.get 31 = some kD3) {σ : AS} {dr : Bool} {x : Int} {y : List Int} {t : Nat} {ys : List AV} {d : Option Nat} {K : AS → Prop} (hy : ys = ints .i64 y) (h1 : 0 ≤ x ∧ x ≤ 1099511627776) (h2 : ∀ z ∈ y, 0 ≤ z ∧ z ≤ 9223372036854775807) (h3 : y.length ≤ 9223372036854775807)
    (hk : cont σ d (.v (.int .i64 (sumF x y))) K) : kP Tryz.prog Γ dr σ 31 [.v (.int .i64 x), .sl t 1 ys] d K := by
  subst hy
  exact kK (C := kD3) (i := ⟨(x, y), h1, h2, h3⟩) hf rfl rfl rfl rfl (fun _ h => h) rfl hk
theorem jM : ∀ (ys : List Int) {x : Int}, (0 ≤ x ∧ x ≤ 1099511627776) → (∀ y ∈ ys, 0 ≤ y) → x ≤ sumF x ys ∧ sumF x ys ≤ 1099511627776
  | [], x, h, _ => by simp [sumF]; omega
  | y :: ys, x, h, hy => by
    have h1 := hy y (by simp)
    have h2 := k8 h.1 h1
    have h3 : x ≤ addI x y := by unfold addI; omega
    have h4 := jM ys h2 fun z hz => hy z (by simp [hz])
    show x ≤ sumF (addI x y) ys ∧ sumF (addI x y) ys ≤ _
    omega

/-- How much an edit takes, up to a bound. -/
def zC (m : Int) : Int → List Cp → Int
  | s, [] => s
  | s, c :: r => if s ≤ m then zC m (sumF s [c.t.length, 2]) r else s
theorem compsF_le {m : Int} (hm : m < 1099511627776) : ∀ (l : List Cp) {s : Int}, 0 ≤ s → zC m s l ≤ m → s + tot l + 2 * l.length ≤ m
  | [], s, _, h => by simp only [zC] at h; simp [tot]; exact h
  | c :: r, s, hs, h => by
    simp only [zC] at h
    split at h
    · rename_i h1
      have e : sumF s [(c.t.length : Int), 2] = addI (addI s c.t.length) 2 := rfl
      have h2 : 0 ≤ addI (addI s c.t.length) 2 := by unfold addI; omega
      rw [e] at h
      have h3 := compsF_le hm r h2 h
      simp only [tot, List.length_cons]
      have h4 : addI (addI s c.t.length) 2 ≤ m := by omega
      have h5 : addI (addI s c.t.length) 2 = s + c.t.length + 2 := by unfold addI at h4 ⊢; omega
      omega
    · omega
abbrev Wide := { l : List Cp // l.length ≤ 9223372036854775807 ∧ ∀ c ∈ l, c.t.length ≤ 9223372036854775807 }
end Go.Proofs
end

-- ZUo9
section
namespace Go.Proofs
open Go Go.Rw
set_option maxRecDepth 100000
set_option linter.unusedSimpArgs false
set_option linter.unusedVariables false

/-- Whether a part of the kind k may stand behind one of the kind q; 0: none. -/
def fol (q k : Int) : Bool := !(decide (q = k) || (decide (q = 3) && decide (k = 2)))
/-- A part as a normal form has it. -/
def neat (c : Cp) : Bool := if c.k = 2 then decide (c.n = 0) && decide (c.t ≠ []) else (decide (c.k = 1) || decide (c.k = 3)) && decide (0 < c.n) && decide (c.n ≤ 1099511627776) && decide (c.t = [])
def kAk : Int → List Cp → Bool
  | _, [] => true
  | q, c :: r => neat c && fol q c.k && kAk c.k r
theorem putL_g {k : Int} {t : List UInt8} {g : Int} (hg : g > 0) : putL k t g = putL k t 0 ++ [⟨3, g, []⟩] := by
  unfold putL
  rw [if_pos hg, if_neg (by omega : ¬ (0 : Int) > 0), List.append_nil, List.append_assoc]
theorem putL_t {k : Int} {t : List UInt8} (ht : t ≠ []) : putL k t 0 = putL k [] 0 ++ [⟨2, 0, t⟩] := by
  unfold putL
  simp [ht]
theorem shape_app : ∀ (a b : List Cp) (q q2 : Int), kAk q a = true → (∀ c ∈ a.getLast?, c.k = q2) → (a = [] → q = q2) → kAk q2 b = true → kAk q (a ++ b) = true
  | [], b, q, q2, _, _, h, hb => by rw [h rfl]; exact hb
  | [c], b, q, q2, ha, hl, _, hb => by
    simp only [kAk, Bool.and_true, List.cons_append, List.nil_append] at ha ⊢
    have := hl c (by simp)
    rw [this, hb, ← this, ha]; rfl
  | c :: d :: a, b, q, q2, ha, hl, _, hb => by
    simp only [kAk, List.cons_append] at ha ⊢
    rw [Bool.and_eq_true] at ha ⊢
    have := shape_app (d :: a) b c.k q2 (by simpa only [kAk] using ha.2) (fun x hx => hl x (by simpa using hx)) (fun h => by cases h) hb
    exact ⟨ha.1, by simpa only [List.cons_append, kAk] using this⟩
theorem kEp {q k g : Int} {t : List UInt8} (hk : k ≤ 1099511627776) (hg : g ≤ 1099511627776) (hq : q = 0 ∨ ((q = 2 ∨ q = 3) ∧ k > 0)) : kAk q (putL k t g) = true := by
  unfold putL
  by_cases h1 : k > 0 <;> by_cases h2 : t = [] <;> by_cases h3 : g > 0
  all_goals
    simp only [h1, h2, h3, if_true, if_false, ne_eq, not_true_eq_false, not_false_eq_true, List.nil_append, List.append_nil, List.cons_append, kAk, neat, fol, Bool.and_true]
    try (rcases hq with rfl | ⟨rfl | rfl, h4⟩ <;> simp [h2] <;> omega)
theorem last_putL {k g : Int} {t : List UInt8} (h : t ≠ [] ∨ g > 0) : (∀ c ∈ (putL k t g).getLast?, c.k = (if g > 0 then 3 else 2)) ∧ putL k t g ≠ [] := by
  by_cases h3 : g > 0
  · rw [putL_g h3, if_pos h3]
    simp
  · have h2 : t ≠ [] := by
      rcases h with h | h
      · exact h
      · exact absurd h h3
    have e : putL k t g = putL k t 0 := by unfold putL; rw [if_neg h3, if_neg (by omega : ¬ (0 : Int) > 0)]
    rw [e, putL_t h2, if_neg h3]
    simp
theorem kBD : ∀ (l : List Cp) (q k : Int) (t : List UInt8) (g : Int), (0 ≤ k ∧ k ≤ 1099511627776) → (0 ≤ g ∧ g ≤ 1099511627776) → (q = 0 ∨ ((q = 2 ∨ q = 3) ∧ k > 0)) → kAk q (nfF k t g l) = true
  | [], q, k, t, g, hk, hg, hq => by rw [nfF]; exact kEp hk.2 hg.2 hq
  | c :: r, q, k, t, g, hk, hg, hq => by
    by_cases hs : qJ c = false
    · rw [nf_no hs]; exact kBD r q k t g hk hg hq
    · have hs : qJ c = true := by simpa using hs
      by_cases h2 : c.k = 2
      · rw [kD6 hs h2]; exact kBD r q k _ g hk hg hq
      · have hp := kCz hs h2
        by_cases h3 : c.k = 3
        · rw [kDn hs h3]; exact kBD r q k t _ hk (k8 hg.1 (by omega)) hq
        · by_cases h4 : t ≠ [] ∨ g > 0
          · rw [nf_put hs h2 h3 h4]
            obtain ⟨h5, h6⟩ := last_putL (k := k) h4
            refine shape_app _ _ q _ (kEp hk.2 hg.2 hq) h5 (fun h => absurd h h6) (kBD r _ _ [] 0 (k8 (by omega) (by omega)) (by omega) (.inr ⟨by split <;> simp, by unfold addI; omega⟩))
          · rw [kDx hs h2 h3 h4]
            refine kBD r q _ t g (k8 hk.1 (by omega)) hg ?_
            rcases hq with h | ⟨h, h7⟩
            · exact .inl h
            · exact .inr ⟨h, by unfold addI; omega⟩
end Go.Proofs
end

-- ZUo10
section
namespace Go.Proofs
open Go Go.Rw
set_option maxRecDepth 100000
set_option linter.unusedSimpArgs false
set_option linter.unusedVariables false

/-- The numbers of all parts together. -/
def tn : List Cp → Int
  | [] => 0
  | c :: r => max c.n 0 + tn r
def sumN : Int → List Cp → Int
  | s, [] => s
  | s, c :: r => sumN (addI s (max c.n 0)) r
theorem kD0 : ∀ l : List Cp, 0 ≤ tn l
  | [] => by simp [tn]
  | c :: r => by simp only [tn]; have := kD0 r; omega
theorem sumN_eq : ∀ (l : List Cp) {s : Int}, (0 ≤ s ∧ s ≤ 1099511627776) → sumN s l = min (s + tn l) 1099511627776
  | [], s, h => by simp only [sumN, tn]; omega
  | c :: r, s, h => by
    have h2 := k8 h.1 (show 0 ≤ max c.n 0 by omega)
    have := kD0 r
    simp only [sumN, tn]
    rw [sumN_eq r h2]
    unfold addI
    omega
/-- Whether all texts are. -/
def allV (l : List Cp) : Bool := l.all fun c => (pts c.t).isSome
theorem addI_z {x : Int} (h : x ≤ 1099511627776) : addI x 0 = x := by unfold addI; omega
theorem kCR : ∀ (l : List Cp) (m k : Int) (t : List UInt8) (g : Int), 0 ≤ m → 0 ≤ k → 0 ≤ g → m + k + g + tn l ≤ 1099511627776 → zQ m (nfF k t g l) = zQ (m + k + g) l
  | [], m, k, t, g, hm, hk, hg, h => by
    simp only [tn] at h
    rw [nfF, kES hk hg (by omega)]; rfl
  | c :: r, m, k, t, g, hm, hk, hg, h => by
    have htn := kD0 r
    simp only [tn] at h
    by_cases hs : qJ c = false
    · rw [nf_no hs, kCR r m k t g hm hk hg (by omega)]
      simp only [zQ]
      split
      · rename_i h13
        have : c.n ≤ 0 := by
          unfold qJ at hs
          rw [if_neg (by omega)] at hs
          simp at hs
          exact hs (by omega)
        rw [show max c.n 0 = 0 by omega, addI_z (by omega)]
      · rfl
    · have hs : qJ c = true := by simpa using hs
      by_cases h2 : c.k = 2
      · rw [kD6 hs h2, kCR r m k _ g hm hk hg (by omega)]
        simp only [zQ]
        rw [if_neg (by omega)]
      · have hp := kCz hs h2
        have h13 : c.k = 1 ∨ c.k = 3 := by
          unfold qJ at hs
          rw [if_neg h2] at hs
          simp at hs
          exact hs.1
        have e : zQ (m + k + g) (c :: r) = zQ (m + k + g + c.n) r := by
          simp only [zQ]
          rw [if_pos h13, show max c.n 0 = c.n by omega, z7 (by omega)]
        rw [e]
        by_cases h3 : c.k = 3
        · rw [kDn hs h3, z7 (by omega), kCR r m k t _ hm hk (by omega) (by omega), show m + k + (g + c.n) = m + k + g + c.n by omega]
        · by_cases h4 : t ≠ [] ∨ g > 0
          · rw [nf_put hs h2 h3 h4, z7 (by omega), kBf, kES hk hg (by omega), kCR r (m + k + g) (0 + c.n) [] 0 (by omega) (by omega) (by omega) (by omega), show m + k + g + (0 + c.n) + 0 = m + k + g + c.n by omega]
          · rw [kDx hs h2 h3 h4, z7 (by omega), kCR r m (k + c.n) t g hm (by omega) hg (by omega), show m + (k + c.n) + g = m + k + g + c.n by omega]
theorem pts_app {s t : List UInt8} (h1 : (pts s).isSome = true) (h2 : (pts t).isSome = true) : lc (s ++ t) = lc s + lc t ∧ (pts (s ++ t)).isSome = true := by
  obtain ⟨a, ha⟩ := Option.isSome_iff_exists.1 h1
  obtain ⟨b, hb⟩ := Option.isSome_iff_exists.1 h2
  obtain ⟨oa, rfl⟩ := jP ha
  obtain ⟨ob, rfl⟩ := jP hb
  have oab : ∀ c ∈ a ++ b, okc c := fun c hc => by
    rcases List.mem_append.1 hc with h | h
    · exact oa c h
    · exact ob c h
  rw [← jF, kDq _ oab, kDq _ oa, kDq _ ob, kCT oab, List.length_append]
  exact ⟨rfl, rfl⟩
theorem kEo : ∀ (l : List Cp) (m k : Int) (t : List UInt8) (g : Int), 0 ≤ m → 0 ≤ k → (pts t).isSome = true → allV l = true → m + k + t.length + tn l + tot l ≤ 1099511627776 → outF m (nfF k t g l) = outF (m + k + lc t) l
  | [], m, k, t, g, hm, hk, ht, hv, h => by
    have := kC9 t
    simp only [tn, tot] at h
    rw [nfF, outF_putL hk (by omega)]; rfl
  | c :: r, m, k, t, g, hm, hk, ht, hv, h => by
    have htn := kD0 r
    have hlt := kC9 t
    have hlc := kC9 c.t
    simp only [tn, tot] at h
    simp only [allV, List.all_cons, Bool.and_eq_true] at hv
    obtain ⟨hvc, hvr⟩ := hv
    by_cases hs : qJ c = false
    · rw [nf_no hs, kEo r m k t g hm hk ht hvr (by omega)]
      simp only [outF]
      split
      · rename_i h1
        have : c.n ≤ 0 := by
          unfold qJ at hs
          rw [if_neg (by omega)] at hs
          simp at hs
          exact hs (by omega)
        rw [show max c.n 0 = 0 by omega, addI_z (by omega)]
      · split
        · rename_i h2
          have : c.t = [] := by
            unfold qJ at hs
            rw [if_pos h2] at hs
            simpa using hs
          rw [this, kCb, show ((0 : Nat) : Int) = 0 from rfl, addI_z (by omega)]
        · rfl
    · have hs : qJ c = true := by simpa using hs
      by_cases h2 : c.k = 2
      · obtain ⟨e1, e2⟩ := pts_app ht hvc
        rw [kD6 hs h2, kEo r m k _ g hm hk e2 hvr (by rw [List.length_append]; omega), e1]
        simp only [outF]
        rw [if_neg (by omega), if_pos h2, z7 (by omega), show m + k + ((lc t + lc c.t : Nat) : Int) = m + k + lc t + lc c.t by omega]
      · have hp := kCz hs h2
        by_cases h3 : c.k = 3
        · rw [kDn hs h3, kEo r m k t _ hm hk ht hvr (by omega)]
          simp only [outF]
          rw [if_neg (by omega), if_neg h2]
        · have h1 : c.k = 1 := by
            unfold qJ at hs
            rw [if_neg h2] at hs
            simp at hs
            omega
          have e : outF (m + k + lc t) (c :: r) = outF (m + k + lc t + c.n) r := by
            simp only [outF]
            rw [if_pos h1, show max c.n 0 = c.n by omega, z7 (by omega)]
          rw [e]
          by_cases h4 : t ≠ [] ∨ g > 0
          · rw [nf_put hs h2 h3 h4, z7 (by omega), kCx, outF_putL hk (by omega), kEo r (m + k + lc t) (0 + c.n) [] 0 (by omega) (by omega) (by rw [kA7]; rfl) hvr (by simp only [List.length_nil]; omega), kCb, show m + k + (lc t : Int) + (0 + c.n) + ((0 : Nat) : Int) = m + k + lc t + c.n by omega]
          · rw [kDx hs h2 h3 h4, z7 (by omega), kEo r m (k + c.n) t g hm (by omega) ht hvr (by omega), show m + (k + c.n) + (lc t : Int) = m + k + lc t + c.n by omega]
theorem kEr {k g : Int} {t : List UInt8} (ht : (pts t).isSome = true) : allV (putL k t g) = true := by
  have h0 : (pts []).isSome = true := by rw [kA7]; rfl
  unfold putL allV
  repeat' split
  all_goals simp [h0, ht]
theorem kBU : ∀ (l : List Cp) (k : Int) (t : List UInt8) (g : Int), (pts t).isSome = true → allV l = true → allV (nfF k t g l) = true
  | [], k, t, g, ht, _ => by rw [nfF]; exact kEr ht
  | c :: r, k, t, g, ht, hv => by
    simp only [allV, List.all_cons, Bool.and_eq_true] at hv
    obtain ⟨hvc, hvr⟩ := hv
    have h0 : (pts []).isSome = true := by rw [kA7]; rfl
    rw [nfF]
    repeat' split
    · exact kBU r k t g ht hvr
    · exact kBU r k _ g (pts_app ht hvc).2 hvr
    · exact kBU r k t _ ht hvr
    · unfold allV
      rw [List.all_append, Bool.and_eq_true]
      exact ⟨kEr ht, kBU r _ [] 0 h0 hvr⟩
    · exact kBU r _ t g ht hvr
theorem kCm : ∀ (l : List Cp) (p : Option Cp), kAk (match p with | none => 0 | some c => c.k) l = true → allV l = true → zH p l = true
  | [], _, _, _ => rfl
  | c :: r, p, h, hv => by
    simp only [kAk, Bool.and_eq_true] at h
    simp only [allV, List.all_cons, Bool.and_eq_true] at hv
    simp only [zH, Bool.and_eq_true]
    refine ⟨⟨?_, ?_⟩, kCm r (some c) h.2 hv.2⟩
    · have hn := h.1.1
      unfold neat at hn
      unfold qD
      split
      · rename_i h2
        rw [if_pos h2] at hn
        simp at hn
        simp [hn, hv.1]
      · rename_i h2
        rw [if_neg h2] at hn
        simp at hn
        rw [if_pos hn.1.1.1]
        simp [hn.2]; omega
    · cases p with
      | none => rfl
      | some q => exact h.1.2
theorem nf_normal {l : List Cp} (h : allV l = true) : qF (nf l) = true :=
  kCm _ none (kBD l 0 0 [] 0 (by omega) (by omega) (.inl rfl)) (kBU l 0 [] 0 (by rw [kA7]; rfl) h)
end Go.Proofs
end
