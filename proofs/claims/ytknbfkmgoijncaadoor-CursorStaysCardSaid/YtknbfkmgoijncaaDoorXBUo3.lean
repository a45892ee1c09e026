/-
  Parts put behind others; the normal form.
-/
import Derived.Test.YtknbfkmgoijncaaDoorXBUo2
set_option linter.unusedSimpArgs false
set_option linter.unusedVariables false
set_option linter.defProp false

-- BUo3
section
namespace Go.Proofs
open Go Go.Rw
open _root_.Nat renaming reduceAdd → N0, reduceSub → N1, reduceMul → N2, reduceLT → N3, reduceLeDiff → N4, reduceEqDiff → N5
open _root_.Int renaming reduceNeg → Z0, reduceAdd → Z1, reduceSub → Z2, reduceMul → Z3, reduceGT → Z4, reduceGE → Z5, reduceLT → Z6, reduceLE → Z7, reduceEq → Z8, reduceNe → Z9, reduceToNat → Z10, cast_ofNat_Int → Zc
set_option maxRecDepth 100000
set_option linter.unusedSimpArgs false
set_option linter.unusedVariables false

theorem ofV1_aggv {a : Array Value} : ofV1 (.agg a) = .v (.agg a) := rfl
/-- What is put behind others, up to a place. -/
def pN (c : Cp) : List Cp := if someC c then [c] else []
def putN (k : Int) (t : List UInt8) (g : Int) : Nat → List Cp
  | 0 => []
  | 1 => pN ⟨1, k, []⟩
  | 2 => pN ⟨1, k, []⟩ ++ pN ⟨2, 0, t⟩
  | _ => pN ⟨1, k, []⟩ ++ pN ⟨2, 0, t⟩ ++ pN ⟨3, g, []⟩
theorem putN_three (k : Int) (t : List UInt8) (g : Int) : putN k t g 3 = putL k t g := by
  unfold putN putL pN someC
  simp
theorem pN_len (c : Cp) : (pN c).length ≤ 1 := by
  unfold pN
  split <;> simp
theorem putN_len (k : Int) (t : List UInt8) (g : Int) (j : Nat) : (putN k t g j).length ≤ 3 := by
  have h1 := pN_len ⟨1, k, []⟩
  have h2 := pN_len ⟨2, 0, t⟩
  have h3 := pN_len ⟨3, g, []⟩
  match j with
  | 0 => simp [putN]
  | 1 => simp only [putN]; omega
  | 2 => simp only [putN, List.length_append]; omega
  | n + 3 => simp only [putN, List.length_append]; omega
abbrev Pt := { p : (List Cp × Int) × (List UInt8 × Int) // p.1.1.length ≤ 4000000000000 ∧ (0 ≤ p.1.2 ∧ p.1.2 ≤ 1099511627776) ∧ p.2.1.length ≤ 1099511627776 ∧ (0 ≤ p.2.2 ∧ p.2.2 ≤ 1099511627776) }
abbrev putCon : Con where
  ι := Pt
  args := fun p => [.sl 2 3 (comps p.1.1.1), .v (.int .i64 p.1.1.2), .v (sv p.1.2.1), .v (.int .i64 p.1.2.2)]
  post := fun p r => r = .sl 2 3 (comps (p.1.1.1 ++ putL p.1.1.2 p.1.2.1 p.1.2.2))
  own := some (0, 73)
  take := some (0, 73)
theorem put_good : Rw.Good Tryd.prog 61 putCon := by
  have hΓ : GoodEnv Tryd.prog [(60, someCon)] := (goodEnv_cons some_good goodEnv_nil)
  refine good_tk (nn := 31) hΓ Tryd.func61 (by kernel_rfl) rfl (show Tryd.f61.results.toList = [.tmp 8] from rfl) (fun _ => rfl) (fun _ => rfl) ?_
  rintro ⟨⟨⟨l, k⟩, ⟨t, g⟩⟩, hl, hk, ht, hg⟩
  simp only at hl hk ht hg
  have hmin : min k 1099511627776 = k := by omega
  have hmin2 : min g 1099511627776 = g := by omega
  simp only [goRules, coreRules, tiRules, unRules, AS_of_eq, ← decide_not, N0, N1, N2, N3, N4, N5, Z0, Z1, Z2, Z3, Z4, Z5, Z6, Z7, Z8, Z9, Z10, Zc, ↓reduceIte, reduceCtorEq, comps_len, min2_int, hmin, hmin2, List.map_cons, List.map_nil, ofV1_aggv]
  obtain ⟨St, hSt⟩ : ∃ St : { j : Nat // j ≤ 3 } → AS, ∀ j, St j = AS.of 31 [(0, .sl 2 3 (comps (l ++ putN k t g j.1))), (19, .agg [.v (.int .i64 1), .v (.int .i64 k), .v (sv []), .v (.int .i64 2), .v (.int .i64 0), .v (sv t), .v (.int .i64 3), .v (.int .i64 g), .v (sv [])]), (20, .v (.int .i64 j.1))] [] [((comps (l ++ putN k t g j.1)).length, 73)] false := ⟨_, fun _ => rfl⟩
  refine vc_loop hΓ St (fun j => 3 - j.1) ⟨0, by omega⟩ (by rw [hSt]; refine weak_go [] [.live 2] ?_; simp only [goRules, coreRules, tiRules, unRules, AS_of_eq, ← decide_not, N0, N1, N2, N3, N4, N5, Z0, Z1, Z2, Z3, Z4, Z5, Z6, Z7, Z8, Z9, Z10, Zc, ↓reduceIte, reduceCtorEq, putN, comps_len] <;> ((repeat' apply And.intro) <;> first | rfl | omega | trivial)) ?_
  rintro ⟨j, hj⟩
  rw [hSt]
  simp only
  have hpl := putN_len k t g j
  have again : ∀ σ : AS, (j < 3) → Weak σ (AS.of 31 [(0, .sl 2 3 (comps (l ++ putN k t g (j + 1)))), (19, .agg [.v (.int .i64 1), .v (.int .i64 k), .v (sv []), .v (.int .i64 2), .v (.int .i64 0), .v (sv t), .v (.int .i64 3), .v (.int .i64 g), .v (sv [])]), (20, .v (.int .i64 (j + 1 : Nat)))] [] [((comps (l ++ putN k t g (j + 1))).length, 73)] false) → ∀ (x : { j : Nat // j ≤ 3 }), x.1 = j → Again St (fun j => 3 - j.1) x σ := fun σ h3 hw x hx =>
    weak_again ⟨j + 1, by omega⟩ (by simp only; omega) (by rw [hSt]; exact hw)
  match j with
  | 0 =>
    simp only [goRules, coreRules, tiRules, unRules, AS_of_eq, ← decide_not, N0, N1, N2, N3, N4, N5, Z0, Z1, Z2, Z3, Z4, Z5, Z6, Z7, Z8, Z9, Z10, Zc, ↓reduceIte, reduceCtorEq, comps_len, putN]
    refine call_some (c := ⟨1, k, []⟩) (by simp [get_cons]) (by simp only [List.length_nil]; omega) ?_
    cases hs : someC ⟨1, k, []⟩ with
    | false =>
      simp (disch := omega) only [goRules, coreRules, tiRules, unRules, AS_of_eq, ← decide_not, N0, N1, N2, N3, N4, N5, Z0, Z1, Z2, Z3, Z4, Z5, Z6, Z7, Z8, Z9, Z10, Zc, ↓reduceIte, reduceCtorEq, wrap_i64, hs]
      refine again _ (by omega) ?_ _ rfl
      rw [show putN k t g (0 + 1) = putN k t g 0 from by simp [putN, pN, hs]]
      refine weak_go [] [.live 2] ?_
      simp only [goRules, coreRules, tiRules, unRules, AS_of_eq, ← decide_not, N0, N1, N2, N3, N4, N5, Z0, Z1, Z2, Z3, Z4, Z5, Z6, Z7, Z8, Z9, Z10, Zc, ↓reduceIte, reduceCtorEq, comps_len, putN] <;> ((repeat' apply And.intro) <;> first | rfl | omega | trivial)
    | true =>
      simp (disch := omega) only [goRules, coreRules, tiRules, unRules, AS_of_eq, ← decide_not, N0, N1, N2, N3, N4, N5, Z0, Z1, Z2, Z3, Z4, Z5, Z6, Z7, Z8, Z9, Z10, Zc, ↓reduceIte, reduceCtorEq, wrap_i64, hs, comps_len, comps_snoc, List.append_assoc, List.length_append]
      (repeat (with_reducible refine And.intro ?_ ?_; focus (first | omega | exact mixed1 | kernel_rfl)))
      refine again _ (by omega) ?_ _ rfl
      rw [show putN k t g (0 + 1) = putN k t g 0 ++ [⟨1, k, []⟩] from by simp [putN, pN, hs]]
      refine weak_go [] [.live 2] ?_
      simp only [goRules, coreRules, tiRules, unRules, AS_of_eq, ← decide_not, N0, N1, N2, N3, N4, N5, Z0, Z1, Z2, Z3, Z4, Z5, Z6, Z7, Z8, Z9, Z10, Zc, ↓reduceIte, reduceCtorEq, comps_len, List.append_assoc, List.length_append, putN] <;> ((repeat' apply And.intro) <;> first | rfl | omega | trivial)
  | 1 =>
    simp only [goRules, coreRules, tiRules, unRules, AS_of_eq, ← decide_not, N0, N1, N2, N3, N4, N5, Z0, Z1, Z2, Z3, Z4, Z5, Z6, Z7, Z8, Z9, Z10, Zc, ↓reduceIte, reduceCtorEq, comps_len, List.length_append]
    refine call_some (c := ⟨2, 0, t⟩) (by simp [get_cons]) (by simp only [List.length_nil]; omega) ?_
    cases hs : someC ⟨2, 0, t⟩ with
    | false =>
      simp (disch := omega) only [goRules, coreRules, tiRules, unRules, AS_of_eq, ← decide_not, N0, N1, N2, N3, N4, N5, Z0, Z1, Z2, Z3, Z4, Z5, Z6, Z7, Z8, Z9, Z10, Zc, ↓reduceIte, reduceCtorEq, wrap_i64, hs]
      refine again _ (by omega) ?_ _ rfl
      rw [show putN k t g (1 + 1) = putN k t g 1 from by simp [putN, pN, hs]]
      refine weak_go [] [.live 2] ?_
      simp only [goRules, coreRules, tiRules, unRules, AS_of_eq, ← decide_not, N0, N1, N2, N3, N4, N5, Z0, Z1, Z2, Z3, Z4, Z5, Z6, Z7, Z8, Z9, Z10, Zc, ↓reduceIte, reduceCtorEq, comps_len, List.length_append] <;> ((repeat' apply And.intro) <;> first | rfl | omega | trivial)
    | true =>
      simp (disch := omega) only [goRules, coreRules, tiRules, unRules, AS_of_eq, ← decide_not, N0, N1, N2, N3, N4, N5, Z0, Z1, Z2, Z3, Z4, Z5, Z6, Z7, Z8, Z9, Z10, Zc, ↓reduceIte, reduceCtorEq, wrap_i64, hs, comps_len, comps_snoc, List.append_assoc, List.length_append]
      (repeat (with_reducible refine And.intro ?_ ?_; focus (first | omega | exact mixed1 | kernel_rfl)))
      refine again _ (by omega) ?_ _ rfl
      rw [show putN k t g (1 + 1) = putN k t g 1 ++ [⟨2, 0, t⟩] from by simp [putN, pN, hs]]
      refine weak_go [] [.live 2] ?_
      simp only [goRules, coreRules, tiRules, unRules, AS_of_eq, ← decide_not, N0, N1, N2, N3, N4, N5, Z0, Z1, Z2, Z3, Z4, Z5, Z6, Z7, Z8, Z9, Z10, Zc, ↓reduceIte, reduceCtorEq, comps_len, List.append_assoc, List.length_append, List.length_append] <;> ((repeat' apply And.intro) <;> first | rfl | omega | trivial)
  | 2 =>
    simp only [goRules, coreRules, tiRules, unRules, AS_of_eq, ← decide_not, N0, N1, N2, N3, N4, N5, Z0, Z1, Z2, Z3, Z4, Z5, Z6, Z7, Z8, Z9, Z10, Zc, ↓reduceIte, reduceCtorEq, comps_len, List.length_append]
    refine call_some (c := ⟨3, g, []⟩) (by simp [get_cons]) (by simp only [List.length_nil]; omega) ?_
    cases hs : someC ⟨3, g, []⟩ with
    | false =>
      simp (disch := omega) only [goRules, coreRules, tiRules, unRules, AS_of_eq, ← decide_not, N0, N1, N2, N3, N4, N5, Z0, Z1, Z2, Z3, Z4, Z5, Z6, Z7, Z8, Z9, Z10, Zc, ↓reduceIte, reduceCtorEq, wrap_i64, hs]
      refine again _ (by omega) ?_ _ rfl
      rw [show putN k t g (2 + 1) = putN k t g 2 from by simp [putN, pN, hs]]
      refine weak_go [] [.live 2] ?_
      simp only [goRules, coreRules, tiRules, unRules, AS_of_eq, ← decide_not, N0, N1, N2, N3, N4, N5, Z0, Z1, Z2, Z3, Z4, Z5, Z6, Z7, Z8, Z9, Z10, Zc, ↓reduceIte, reduceCtorEq, comps_len, List.length_append] <;> ((repeat' apply And.intro) <;> first | rfl | omega | trivial)
    | true =>
      simp (disch := omega) only [goRules, coreRules, tiRules, unRules, AS_of_eq, ← decide_not, N0, N1, N2, N3, N4, N5, Z0, Z1, Z2, Z3, Z4, Z5, Z6, Z7, Z8, Z9, Z10, Zc, ↓reduceIte, reduceCtorEq, wrap_i64, hs, comps_len, comps_snoc, List.append_assoc, List.length_append]
      (repeat (with_reducible refine And.intro ?_ ?_; focus (first | omega | exact mixed1 | kernel_rfl)))
      refine again _ (by omega) ?_ _ rfl
      rw [show putN k t g (2 + 1) = putN k t g 2 ++ [⟨3, g, []⟩] from by simp [putN, pN, hs]]
      refine weak_go [] [.live 2] ?_
      simp only [goRules, coreRules, tiRules, unRules, AS_of_eq, ← decide_not, N0, N1, N2, N3, N4, N5, Z0, Z1, Z2, Z3, Z4, Z5, Z6, Z7, Z8, Z9, Z10, Zc, ↓reduceIte, reduceCtorEq, comps_len, List.append_assoc, List.length_append, List.length_append] <;> ((repeat' apply And.intro) <;> first | rfl | omega | trivial)
  | 3 =>
    simp only [goRules, coreRules, tiRules, unRules, AS_of_eq, ← decide_not, N0, N1, N2, N3, N4, N5, Z0, Z1, Z2, Z3, Z4, Z5, Z6, Z7, Z8, Z9, Z10, Zc, ↓reduceIte, reduceCtorEq]
    rw [putN_three]
  | n + 4 => omega
theorem call_put {Γ : Env} (hf : Γ.get 61 = some putCon) {n : Nat} {t : Nat → AV} {hd : Nat → Nat → AV} {nh nl : Nat} {h : Nat → Option AO} {fm : Nat → Nat} {lv : Nat → Option (Nat × Nat)} {mu : Bool} {tag : Nat} {l : List Cp} {k : Int} {tx : List UInt8} {g : Int} {ys : List AV} {d : Option Nat} {K : AS → Prop}
    (hy : ys = comps l) (h2 : 2 ≤ tag) (hlv : lv tag = some (ys.length, 73)) (hone : ∀ l2, lv l2 ≠ none → fm l2 = fm tag → l2 = tag)
    (hl : l.length ≤ 4000000000000) (hkk : 0 ≤ k ∧ k ≤ 1099511627776) (ht : tx.length ≤ 1099511627776) (hg : 0 ≤ g ∧ g ≤ 1099511627776)
    (hk : cont ⟨n, t, hd, ⟨nh, h, nl + 1, upd fm nl (fm tag), upd (upd lv tag none) nl (some ((comps (l ++ putL k tx g)).length, 73)), mu⟩⟩ d (.sl nl 3 (comps (l ++ putL k tx g))) K) :
    vcCall Tryd.prog Γ false ⟨n, t, hd, ⟨nh, h, nl, fm, lv, mu⟩⟩ 61 [.sl tag 3 ys, .v (.int .i64 k), .v (sv tx), .v (.int .i64 g)] d K := by
  subst hy
  refine vcCall_take (C := putCon) (i := ⟨((l, k), (tx, g)), hl, hkk, ht, hg⟩) hf rfl rfl rfl (l := tag) (sz := 3) (xs := comps l) rfl h2 hlv rfl ?_ rfl hone ?_
  · have : (tag == 0) = false := by simp; omega
    simp [AV.tagsL, AV.tags]; omega
  · rintro r rfl
    exact hk
theorem nf_no {k : Int} {t : List UInt8} {g : Int} {c : Cp} {r : List Cp} (h : someC c = false) : nfF k t g (c :: r) = nfF k t g r := by rw [nfF, if_pos h]
theorem nf_text {k : Int} {t : List UInt8} {g : Int} {c : Cp} {r : List Cp} (h : someC c = true) (h2 : c.k = 2) : nfF k t g (c :: r) = nfF k (t ++ c.t) g r := by rw [nfF, if_neg (by rw [h]; decide), if_pos h2]
theorem nf_gone {k : Int} {t : List UInt8} {g : Int} {c : Cp} {r : List Cp} (h : someC c = true) (h2 : c.k = 3) : nfF k t g (c :: r) = nfF k t (addI g c.n) r := by rw [nfF, if_neg (by rw [h]; decide), if_neg (by omega), if_pos h2]
theorem nf_put {k : Int} {t : List UInt8} {g : Int} {c : Cp} {r : List Cp} (h : someC c = true) (h2 : ¬ c.k = 2) (h3 : ¬ c.k = 3) (h4 : t ≠ [] ∨ g > 0) : nfF k t g (c :: r) = putL k t g ++ nfF (addI 0 c.n) [] 0 r := by rw [nfF, if_neg (by rw [h]; decide), if_neg h2, if_neg h3, if_pos h4]
theorem nf_keep {k : Int} {t : List UInt8} {g : Int} {c : Cp} {r : List Cp} (h : someC c = true) (h2 : ¬ c.k = 2) (h3 : ¬ c.k = 3) (h4 : ¬ (t ≠ [] ∨ g > 0)) : nfF k t g (c :: r) = nfF (addI k c.n) t g r := by rw [nfF, if_neg (by rw [h]; decide), if_neg h2, if_neg h3, if_neg h4]
theorem some_pos {c : Cp} (h : someC c = true) (h2 : ¬ c.k = 2) : 0 < c.n := by
  simp only [someC, if_neg h2] at h
  simp at h; omega
abbrev normCon : Con where
  ι := Ed
  args := fun l => [.sl 0 3 (comps l.1)]
  post := fun l r => r = .sl 0 3 (comps (nf l.1))
abbrev NSt (l : List Cp) := { p : (List Cp × Nat) × ((Int × List UInt8) × Int) // p.1.2 ≤ l.length ∧ (0 ≤ p.2.1.1 ∧ p.2.1.1 ≤ 1099511627776) ∧ (0 ≤ p.2.2 ∧ p.2.2 ≤ 1099511627776) ∧ p.2.1.2.length + tot (l.drop p.1.2) ≤ 1099511627776 ∧ p.1.1 ++ nfF p.2.1.1 p.2.1.2 p.2.2 (l.drop p.1.2) = nf l }
theorem norm_good : Rw.Good Tryd.prog 52 normCon := by
  have hΓ : GoodEnv Tryd.prog [(60, someCon), (49, addCon), (61, putCon)] := (goodEnv_cons some_good (goodEnv_cons add_good (goodEnv_cons put_good goodEnv_nil)))
  refine good_fn (nn := 55) hΓ Tryd.func52 (by kernel_rfl) rfl (show Tryd.f52.results.toList = [.tmp 2] from rfl) (fun _ => rfl) (fun _ => rfl) ?_
  rintro ⟨l, hl, htot, hc⟩
  have hlen := (nfF_ok l 0 [] 0 (by omega) (by omega)).1
  simp only [goRules, coreRules, tiRules, unRules, AS_of_eq, ← decide_not, N0, N1, N2, N3, N4, N5, Z0, Z1, Z2, Z3, Z4, Z5, Z6, Z7, Z8, Z9, Z10, Zc, ↓reduceIte, reduceCtorEq, comps_len]
  obtain ⟨St, hSt⟩ : ∃ St : NSt l → AS, ∀ p, St p = AS.of 55 [(0, .sl 0 3 (comps l)), (2, .sl 2 3 (comps p.1.1.1)), (3, .ptr 0 0), (4, .v (sv p.1.2.1.2)), (5, .v (.int .i64 p.1.2.2)), (6, .v (.int .i64 p.1.2.1.1)), (7, .v (.int .i64 p.1.1.2))] [.cells [.any, .any, .any]] [(p.1.1.1.length, 73)] := ⟨_, fun _ => rfl⟩
  refine vc_lab hΓ 1 St (fun p => l.length - p.1.1.2) 1 rfl rfl ?_ ?_
  · rintro ⟨⟨⟨out, i⟩, ⟨⟨k, t⟩, g⟩⟩, hi, hk, hg, ht, hn⟩
    simp only at hi hk hg ht hn
    have hout : out.length ≤ 4000000000000 := by
      have := congrArg List.length hn
      rw [List.length_append] at this
      unfold nf at this
      omega
    rw [hSt]
    simp only
    simp only [goRules, coreRules, tiRules, unRules, AS_of_eq, ← decide_not, N0, N1, N2, N3, N4, N5, Z0, Z1, Z2, Z3, Z4, Z5, Z6, Z7, Z8, Z9, Z10, Zc, ↓reduceIte, reduceCtorEq, comps_len]
    (with_reducible first | refine branchP_dec (fun h => ?_) (fun h => ?_) | refine guardB_dec (fun h => ?_) (fun h => ?_))
    · simp only [goRules, coreRules, tiRules, unRules, AS_of_eq, ← decide_not, N0, N1, N2, N3, N4, N5, Z0, Z1, Z2, Z3, Z4, Z5, Z6, Z7, Z8, Z9, Z10, Zc, ↓reduceIte, reduceCtorEq]
      refine ⟨_, rfl, ?_⟩
      simp only [goRules, coreRules, tiRules, unRules, AS_of_eq, ← decide_not, N0, N1, N2, N3, N4, N5, Z0, Z1, Z2, Z3, Z4, Z5, Z6, Z7, Z8, Z9, Z10, Zc, ↓reduceIte, reduceCtorEq]
      refine call_put (by simp [get_cons]) rfl (by omega) (by simp [comps_len]) (by simp) hout hk (by omega) hg ?_
      simp only [goRules, coreRules, tiRules, unRules, AS_of_eq, ← decide_not, N0, N1, N2, N3, N4, N5, Z0, Z1, Z2, Z3, Z4, Z5, Z6, Z7, Z8, Z9, Z10, Zc, ↓reduceIte, reduceCtorEq]
      rw [← hn, List.drop_of_length_le (by omega)]
      rfl
    · have hlt : i < l.length := by omega
      have e1 := comps_getD l hlt
      have hci := okL.text ⟨hl, htot, hc⟩ (List.getElem_mem hlt)
      have hcn := hc l[i] (List.getElem_mem hlt)
      have hpos : someC l[i] = true → ¬ l[i].k = 2 → 0 < l[i].n := some_pos
      have hd2 := ht
      rw [List.drop_eq_getElem_cons hlt] at hn hd2
      simp only [tot] at hd2
      have again : ∀ (σ : AS) (out2 : List Cp) (k2 : Int) (t2 : List UInt8) (g2 : Int), Weak σ (AS.of 55 [(0, .sl 0 3 (comps l)), (2, .sl 2 3 (comps out2)), (3, .ptr 0 0), (4, .v (sv t2)), (5, .v (.int .i64 g2)), (6, .v (.int .i64 k2)), (7, .v (.int .i64 (i + 1 : Nat)))] [.cells [.any, .any, .any]] [(out2.length, 73)]) →
          (0 ≤ k2 ∧ k2 ≤ 1099511627776) → (0 ≤ g2 ∧ g2 ≤ 1099511627776) → t2.length + tot (l.drop (i + 1)) ≤ 1099511627776 → out2 ++ nfF k2 t2 g2 (l.drop (i + 1)) = nf l →
          ∃ y : NSt l, l.length - y.1.1.2 < l.length - i ∧ Weak σ (St y) := fun σ out2 k2 t2 g2 hw h1 h2 h3 h4 =>
        ⟨⟨((out2, i + 1), ((k2, t2), g2)), by simp only; omega, h1, h2, h3, h4⟩, by simp only; omega, by rw [hSt]; exact hw⟩
      generalize l[i] = c at *
      obtain ⟨ck, cn, ct⟩ := c
      simp only at hci hcn hpos hd2 e1
      simp (disch := omega) only [goRules, coreRules, tiRules, unRules, AS_of_eq, ← decide_not, N0, N1, N2, N3, N4, N5, Z0, Z1, Z2, Z3, Z4, Z5, Z6, Z7, Z8, Z9, Z10, Zc, ↓reduceIte, reduceCtorEq, wrap_i64, h, e1, comps_len]
      (repeat (with_reducible refine And.intro ?_ ?_; focus (first | omega | exact mixed1 | kernel_rfl)))
      refine call_some (c := ⟨ck, cn, ct⟩) (by simp [get_cons]) hci ?_
      cases hs : someC ⟨ck, cn, ct⟩ with
      | false =>
        simp only [goRules, coreRules, tiRules, unRules, AS_of_eq, ← decide_not, N0, N1, N2, N3, N4, N5, Z0, Z1, Z2, Z3, Z4, Z5, Z6, Z7, Z8, Z9, Z10, Zc, ↓reduceIte, reduceCtorEq, hs]
        refine again _ out k t g ?_ hk hg (by omega) (by rw [← hn, nf_no hs])
        refine weak_go [0] [.live 2] ?_
        simp only [goRules, coreRules, tiRules, unRules, AS_of_eq, ← decide_not, N0, N1, N2, N3, N4, N5, Z0, Z1, Z2, Z3, Z4, Z5, Z6, Z7, Z8, Z9, Z10, Zc, ↓reduceIte, reduceCtorEq, comps_len] <;> ((repeat' apply And.intro) <;> first | rfl | omega | trivial)
      | true =>
        simp only [goRules, coreRules, tiRules, unRules, AS_of_eq, ← decide_not, N0, N1, N2, N3, N4, N5, Z0, Z1, Z2, Z3, Z4, Z5, Z6, Z7, Z8, Z9, Z10, Zc, ↓reduceIte, reduceCtorEq, hs]
        (with_reducible first | refine branchP_dec (fun h2 => ?_) (fun h2 => ?_) | refine guardB_dec (fun h2 => ?_) (fun h2 => ?_))
        · simp (disch := omega) only [goRules, coreRules, tiRules, unRules, AS_of_eq, ← decide_not, N0, N1, N2, N3, N4, N5, Z0, Z1, Z2, Z3, Z4, Z5, Z6, Z7, Z8, Z9, Z10, Zc, ↓reduceIte, reduceCtorEq, wrap_i64, h2]
          (repeat (with_reducible refine And.intro ?_ ?_; focus (first | omega | exact mixed1 | kernel_rfl)))
          refine again _ out k (t ++ ct) g ?_ hk hg (by rw [List.length_append]; omega) (by rw [← hn, nf_text hs h2])
          refine weak_go [0] [.live 2] ?_
          simp only [goRules, coreRules, tiRules, unRules, AS_of_eq, ← decide_not, N0, N1, N2, N3, N4, N5, Z0, Z1, Z2, Z3, Z4, Z5, Z6, Z7, Z8, Z9, Z10, Zc, ↓reduceIte, reduceCtorEq, comps_len] <;> ((repeat' apply And.intro) <;> first | rfl | omega | trivial)
        · simp (disch := omega) only [goRules, coreRules, tiRules, unRules, AS_of_eq, ← decide_not, N0, N1, N2, N3, N4, N5, Z0, Z1, Z2, Z3, Z4, Z5, Z6, Z7, Z8, Z9, Z10, Zc, ↓reduceIte, reduceCtorEq, wrap_i64, h2]
          have hp := hpos hs h2
          (with_reducible first | refine branchP_dec (fun h3 => ?_) (fun h3 => ?_) | refine guardB_dec (fun h3 => ?_) (fun h3 => ?_))
          · simp (disch := omega) only [goRules, coreRules, tiRules, unRules, AS_of_eq, ← decide_not, N0, N1, N2, N3, N4, N5, Z0, Z1, Z2, Z3, Z4, Z5, Z6, Z7, Z8, Z9, Z10, Zc, ↓reduceIte, reduceCtorEq, wrap_i64, h3]
            refine call_add (by simp [get_cons]) hg (by omega) ?_
            simp only [goRules, coreRules, tiRules, unRules, AS_of_eq, ← decide_not, N0, N1, N2, N3, N4, N5, Z0, Z1, Z2, Z3, Z4, Z5, Z6, Z7, Z8, Z9, Z10, Zc, ↓reduceIte, reduceCtorEq]
            refine again _ out k t (addI g cn) ?_ hk (addI_range hg.1 (by omega)) (by omega) (by rw [← hn, nf_gone hs h3])
            refine weak_go [0] [.live 2] ?_
            simp only [goRules, coreRules, tiRules, unRules, AS_of_eq, ← decide_not, N0, N1, N2, N3, N4, N5, Z0, Z1, Z2, Z3, Z4, Z5, Z6, Z7, Z8, Z9, Z10, Zc, ↓reduceIte, reduceCtorEq, comps_len] <;> ((repeat' apply And.intro) <;> first | rfl | omega | trivial)
          · simp (disch := omega) only [goRules, coreRules, tiRules, unRules, AS_of_eq, ← decide_not, N0, N1, N2, N3, N4, N5, Z0, Z1, Z2, Z3, Z4, Z5, Z6, Z7, Z8, Z9, Z10, Zc, ↓reduceIte, reduceCtorEq, wrap_i64, h3]
            by_cases h4 : t ≠ [] ∨ g > 0
            · have fin : ∀ (σ : AS), Weak σ (AS.of 55 [(0, .sl 0 3 (comps l)), (2, .sl 2 3 (comps (out ++ putL k t g))), (3, .ptr 0 0), (4, .v (sv [])), (5, .v (.int .i64 0)), (6, .v (.int .i64 (addI 0 cn))), (7, .v (.int .i64 (i + 1 : Nat)))] [.cells [.any, .any, .any]] [((out ++ putL k t g).length, 73)]) → ∃ y : NSt l, l.length - y.1.1.2 < l.length - i ∧ Weak σ (St y) := fun σ hw =>
                again σ (out ++ putL k t g) (addI 0 cn) [] 0 hw (addI_range (by omega) (by omega)) (by omega) (by rw [List.length_nil]; omega) (by rw [← hn, nf_put hs h2 h3 h4, List.append_assoc])
              by_cases h5 : t = []
              · have h6 : g > 0 := by
                  rcases h4 with h | h
                  · exact absurd h5 h
                  · exact h
                subst h5
                simp (disch := omega) only [goRules, coreRules, tiRules, unRules, AS_of_eq, ← decide_not, N0, N1, N2, N3, N4, N5, Z0, Z1, Z2, Z3, Z4, Z5, Z6, Z7, Z8, Z9, Z10, Zc, ↓reduceIte, reduceCtorEq, wrap_i64, h6]
                refine call_put (by simp [get_cons]) rfl (by omega) (by simp [comps_len]) (by simp) hout hk (by simp only [List.length_nil]; omega) hg ?_
                simp only [goRules, coreRules, tiRules, unRules, AS_of_eq, ← decide_not, N0, N1, N2, N3, N4, N5, Z0, Z1, Z2, Z3, Z4, Z5, Z6, Z7, Z8, Z9, Z10, Zc, ↓reduceIte, reduceCtorEq]
                refine call_add (by simp [get_cons]) ⟨by omega, by omega⟩ (by omega) ?_
                simp only [goRules, coreRules, tiRules, unRules, AS_of_eq, ← decide_not, N0, N1, N2, N3, N4, N5, Z0, Z1, Z2, Z3, Z4, Z5, Z6, Z7, Z8, Z9, Z10, Zc, ↓reduceIte, reduceCtorEq]
                refine fin _ ?_
                refine weak_go [0] [.live 3] ?_
                simp only [goRules, coreRules, tiRules, unRules, AS_of_eq, ← decide_not, N0, N1, N2, N3, N4, N5, Z0, Z1, Z2, Z3, Z4, Z5, Z6, Z7, Z8, Z9, Z10, Zc, ↓reduceIte, reduceCtorEq, comps_len] <;> ((repeat' apply And.intro) <;> first | rfl | omega | trivial)
              · simp (disch := omega) only [goRules, coreRules, tiRules, unRules, AS_of_eq, ← decide_not, N0, N1, N2, N3, N4, N5, Z0, Z1, Z2, Z3, Z4, Z5, Z6, Z7, Z8, Z9, Z10, Zc, ↓reduceIte, reduceCtorEq, wrap_i64, h5]
                refine call_put (by simp [get_cons]) rfl (by omega) (by simp [comps_len]) (by simp) hout hk (by omega) hg ?_
                simp only [goRules, coreRules, tiRules, unRules, AS_of_eq, ← decide_not, N0, N1, N2, N3, N4, N5, Z0, Z1, Z2, Z3, Z4, Z5, Z6, Z7, Z8, Z9, Z10, Zc, ↓reduceIte, reduceCtorEq]
                refine call_add (by simp [get_cons]) ⟨by omega, by omega⟩ (by omega) ?_
                simp only [goRules, coreRules, tiRules, unRules, AS_of_eq, ← decide_not, N0, N1, N2, N3, N4, N5, Z0, Z1, Z2, Z3, Z4, Z5, Z6, Z7, Z8, Z9, Z10, Zc, ↓reduceIte, reduceCtorEq]
                refine fin _ ?_
                refine weak_go [0] [.live 3] ?_
                simp only [goRules, coreRules, tiRules, unRules, AS_of_eq, ← decide_not, N0, N1, N2, N3, N4, N5, Z0, Z1, Z2, Z3, Z4, Z5, Z6, Z7, Z8, Z9, Z10, Zc, ↓reduceIte, reduceCtorEq, comps_len] <;> ((repeat' apply And.intro) <;> first | rfl | omega | trivial)
            · have h5 : t = [] := Classical.byContradiction fun h => h4 (.inl h)
              have h6 : ¬ g > 0 := fun h => h4 (.inr h)
              simp (disch := omega) only [goRules, coreRules, tiRules, unRules, AS_of_eq, ← decide_not, N0, N1, N2, N3, N4, N5, Z0, Z1, Z2, Z3, Z4, Z5, Z6, Z7, Z8, Z9, Z10, Zc, ↓reduceIte, reduceCtorEq, wrap_i64, h5, h6]
              refine call_add (by simp [get_cons]) hk (by omega) ?_
              simp only [goRules, coreRules, tiRules, unRules, AS_of_eq, ← decide_not, N0, N1, N2, N3, N4, N5, Z0, Z1, Z2, Z3, Z4, Z5, Z6, Z7, Z8, Z9, Z10, Zc, ↓reduceIte, reduceCtorEq]
              refine again _ out (addI k cn) t g ?_ (addI_range hk.1 (by omega)) hg (by omega) (by rw [← hn, nf_keep hs h2 h3 h4])
              refine weak_go [0] [.live 2] ?_
              simp only [goRules, coreRules, tiRules, unRules, AS_of_eq, ← decide_not, N0, N1, N2, N3, N4, N5, Z0, Z1, Z2, Z3, Z4, Z5, Z6, Z7, Z8, Z9, Z10, Zc, ↓reduceIte, reduceCtorEq, comps_len, h5] <;> ((repeat' apply And.intro) <;> first | rfl | omega | trivial)
  · simp only [goRules, coreRules, tiRules, unRules, AS_of_eq, ← decide_not, N0, N1, N2, N3, N4, N5, Z0, Z1, Z2, Z3, Z4, Z5, Z6, Z7, Z8, Z9, Z10, Zc, ↓reduceIte, reduceCtorEq]
    refine ⟨⟨(([], 0), ((0, []), 0)), by simp, by simp, by simp, by simpa using htot, rfl⟩, ?_⟩
    rw [hSt]
    refine weak_go [0] [.nil 3] ?_
    simp only [goRules, coreRules, tiRules, unRules, AS_of_eq, ← decide_not, N0, N1, N2, N3, N4, N5, Z0, Z1, Z2, Z3, Z4, Z5, Z6, Z7, Z8, Z9, Z10, Zc, ↓reduceIte, reduceCtorEq, comps_nil] <;> ((repeat' apply And.intro) <;> first | rfl | omega | trivial)
theorem call_norm0 {Γ : Env} {f : Nat} (hf : Γ.get f = some normCon) {σ : AS} {dr : Bool} {l : List Cp} {ys : List AV} {d : Option Nat} {K : AS → Prop} (hy : ys = comps l) (hl : okL l)
    (hk : cont σ d (.sl 0 3 (comps (nf l))) K) : vcCall Tryd.prog Γ dr σ f [.sl 0 3 ys] d K := by
  subst hy
  refine vcCall_fn (C := normCon) (i := ⟨l, hl⟩) (r := .sl 0 3 (comps (nf l))) hf rfl rfl rfl rfl (fun _ h => h) hk
theorem call_norm {Γ : Env} {f : Nat} (hf : Γ.get f = some normCon) {n : Nat} {t : Nat → AV} {hd : Nat → Nat → AV} {nh nl : Nat} {h : Nat → Option AO} {fm : Nat → Nat} {lv : Nat → Option (Nat × Nat)} {mu : Bool} {l : List Cp} {tg : Nat} {ys : List AV} {d : Option Nat} {K : AS → Prop} (htg : 2 ≤ tg) (hy : ys = comps l) (hl : okL l)
    (hk : cont ⟨n, t, hd, ⟨nh, h, nl, fm, kill fm [tg] lv, mu⟩⟩ d (.sl 0 3 (comps (nf l))) K) : vcCall Tryd.prog Γ false ⟨n, t, hd, ⟨nh, h, nl, fm, lv, mu⟩⟩ f [.sl tg 3 ys] d K := by
  subst hy
  refine vcCall_none (C := normCon) (i := ⟨l, hl⟩) hf rfl rfl rfl rfl (ts := [tg]) ?_ ?_
  · simp [AV.tagsL, AV.tags]; omega
  · rintro r rfl
    exact hk
end Go.Proofs
end
