/-
  RebaseParent answers true.
-/
import Derived.Test.YtmhpninemdmbkaaDoorXCUn4
import Derived.Test.YtmhpninemdmbkaaDoorXCUe11
import Derived.Test.YtmhpninemdmbkaaDoorXCUt8
set_option linter.unusedSimpArgs false
set_option linter.unusedVariables false
set_option linter.defProp false

-- CUn9
section
namespace Go.Proofs
open Go Go.Rw
open _root_.Nat renaming reduceAdd → N0, reduceSub → N1, reduceMul → N2, reduceLT → N3, reduceLeDiff → N4, reduceEqDiff → N5
open _root_.Int renaming reduceNeg → Z0, reduceAdd → Z1, reduceSub → Z2, reduceMul → Z3, reduceGT → Z4, reduceGE → Z5, reduceLT → Z6, reduceLE → Z7, reduceEq → Z8, reduceNe → Z9, reduceToNat → Z10, cast_ofNat_Int → Zc
set_option maxRecDepth 100000
set_option linter.unusedSimpArgs false
set_option linter.unusedVariables false

def rmA (g : Int) : Ac := ⟨2, 1 + g % 100, 0, [], false, []⟩
def hitB (l : List Int) (p : Int) : Bool := l.any fun g => decide (1 + g % 100 = p)
theorem hasK_rm (k p : Int) (l : List Int) : hasK k p (l.map rmA) = (decide (k = 2) && hitB l p) := by
  unfold hasK hitB
  rw [List.any_map]
  induction l with
  | nil => simp
  | cons g l ih =>
    simp only [List.any_cons, ih, Function.comp_apply, rmA]
    by_cases h1 : k = 2 <;> by_cases h2 : 1 + g % 100 = p <;> simp [h1, h2, eq_comm]
theorem hit_ids (l : List Int) (p : Int) : hitB l p = true ↔ p ∈ (l.map rmA).map Ac.id := by
  simp only [hitB, List.any_eq_true, decide_eq_true_eq, List.map_map, List.mem_map, Function.comp_apply, rmA]
theorem effS_ids2 : ∀ (l : List Ac) (out : List On) (p : Int), p ∈ (effS out l).map On.id → p ∈ out.map On.id ∨ p ∈ l.map Ac.id
  | [], out, p, h => .inl h
  | a :: l, out, p, h => by
    rw [effS_cons] at h
    rcases effS_ids2 l (stepS out a) p h with h | h
    · unfold stepS at h
      split at h
      · rw [modify_ids] at h; exact .inl h
      · rw [List.map_append, List.mem_append] at h
        rcases h with h | h
        · exact .inl h
        · simp only [List.map_cons, List.map_nil, List.mem_singleton, addA_id, newO] at h
          exact .inr (by rw [h]; simp)
    · exact .inr (by simp only [List.map_cons, List.mem_cons]; exact .inr h)
theorem eff_ids_iff (l : List Ac) (p : Int) : p ∈ (effL l).map On.id ↔ p ∈ l.map Ac.id := by
  rw [effL, ((List.mergeSort_perm (effS [] l) leO).map On.id).mem_iff]
  constructor
  · intro h
    rcases effS_ids2 l [] p h with h | h
    · cases h
    · exact h
  · intro h
    obtain ⟨a, ha, rfl⟩ := List.mem_map.1 h
    exact (effS_ids l []).2 a ha
theorem get_rm (l : List Int) (p : Int) : (getO p (effL (l.map rmA))).rm = hitB l p ∧ (getO p (effL (l.map rmA))).cr = false ∧ (getO p (effL (l.map rmA))).mv = false := by
  by_cases h : p ∈ (effL (l.map rmA)).map On.id
  · have hf := (fnd_mem p _).2 h
    have hg := fnd_get p _ hf
    have e1 : getO p (effL (l.map rmA)) = (effL (l.map rmA))[fnd p (effL (l.map rmA))] := by simp [getO, List.getD_eq_getElem?_getD, hf]
    obtain ⟨h1, h2, h3, _⟩ := eff_flags (List.getElem_mem hf)
    rw [e1]
    rw [hg, hasK_rm] at h1 h2 h3
    exact ⟨by rw [h2]; simp, by rw [h1]; simp, by rw [h3]; simp⟩
  · have hf : ¬ fnd p (effL (l.map rmA)) < (effL (l.map rmA)).length := fun hh => h ((fnd_mem p _).1 hh)
    have e1 : getO p (effL (l.map rmA)) = zeroO := by simp [getO, List.getD_eq_getElem?_getD, List.getElem?_eq_none (show (effL (l.map rmA)).length ≤ fnd p (effL (l.map rmA)) by omega)]
    rw [e1]
    have : hitB l p = false := by
      cases hb : hitB l p
      · rfl
      · exact absurd ((eff_ids_iff _ p).2 ((hit_ids l p).1 hb)) h
    rw [this]
    exact ⟨rfl, rfl, rfl⟩
def mkA (mv : Bool) (id par : Int) : Ac := ⟨if mv then 3 else 1, id, par, [110], false, []⟩
theorem why_rm (mv : Bool) (id par : Int) (l : List Int) : whyI (mkA mv id par) (effL (l.map rmA)) = if hitB l par = true ∨ (mv = true ∧ hitB l id = true) then 12 else 0 := by
  obtain ⟨h1, h2, h3⟩ := get_rm l id
  obtain ⟨g1, g2, g3⟩ := get_rm l par
  cases mv <;> simp only [whyI, mkA, rulesL, whyL, h1, h2, h3, g1, g2, g3] <;> cases hitB l id <;> cases hitB l par <;> simp
theorem mk_txn (mv : Bool) {id par : Int} (hi : 1 ≤ id ∧ id ≤ 100) (hp : 1 ≤ par ∧ par ≤ 100) : txnE [mkA mv id par] = 0 := by
  have hone : oneI (mkA mv id par) = 0 := by
    have hn : nameOk [110] = true := by decide
    have hpl : mkA mv id par = plainA (mkA mv id par) := by cases mv <;> rfl
    unfold oneI
    rw [if_neg]
    · cases mv <;> simp [mkA]
    · rw [badA, decide_eq_true_eq]
      rintro (h | h | h | h | h | h | h | h)
      · cases mv <;> simp [mkA] at h
      · cases mv <;> simp [mkA] at h
      · exact h hpl
      · simp only [mkA] at h; omega
      · simp only [mkA] at h; omega
      · simp only [mkA] at h; omega
      · simp only [mkA] at h; omega
      · rw [mkA] at h; simp only [hn] at h; exact absurd h.2 (by simp)
  have hc : checkP [] [mkA mv id par] = 0 := by
    rw [checkP, if_neg (by rw [hone]; simp), if_neg (by cases mv <;> simp [mkA]), checkP]
  simp only [txnE, hc]
  simp [putS, putC, mkA]
theorem reb_rm (mv : Bool) {id par : Int} (hi : 1 ≤ id ∧ id ≤ 100) (hp : 1 ≤ par ∧ par ≤ 100) (l : List Int) (h : ¬ (hitB l par = true ∨ (mv = true ∧ hitB l id = true))) :
    (rebR [mkA mv id par] (effL (l.map rmA))).e = 0 ∧ (rebR [mkA mv id par] (effL (l.map rmA))).out = [mkA mv id par] := by
  have hw := why_rm mv id par l
  rw [if_neg h] at hw
  obtain ⟨h1, h2, h3⟩ := get_rm l id
  have ht := mk_txn mv hi hp
  have hf : rebF (effL (l.map rmA)) [] [mkA mv id par] = ([mkA mv id par], 0) := by
    have hd : dropB (mkA mv id par) (getO id (effL (l.map rmA))) = false := by cases mv <;> simp [dropB, mkA, h3]
    have hid : (mkA mv id par).id = id := rfl
    rw [rebF, if_neg (by rw [hw]; simp), hid, if_neg (by rw [hd]; simp), if_neg (by cases mv <;> simp [mkA]), rebF]
    rfl
  have : rebR [mkA mv id par] (effL (l.map rmA)) = ⟨[mkA mv id par], (effL (l.map rmA)).map fun z => overO z [mkA mv id par], 0⟩ := by
    rw [rebR, if_neg (by rw [ht]; simp), hf]
    simp only
    rw [if_neg (by simp), if_neg (by rw [ht]; simp)]
  rw [this]
  exact ⟨rfl, rfl⟩
theorem reb_rm_e (mv : Bool) {id par : Int} (hi : 1 ≤ id ∧ id ≤ 100) (hp : 1 ≤ par ∧ par ≤ 100) (l : List Int) (h : hitB l par = true ∨ (mv = true ∧ hitB l id = true)) :
    (rebR [mkA mv id par] (effL (l.map rmA))).e = 12 ∧ (rebR [mkA mv id par] (effL (l.map rmA))).out = [] := by
  have hw := why_rm mv id par l
  rw [if_pos h] at hw
  have ht := mk_txn mv hi hp
  have hf : rebF (effL (l.map rmA)) [] [mkA mv id par] = ([], 12) := by rw [rebF, if_pos (by rw [hw]; simp), hw]
  have : rebR [mkA mv id par] (effL (l.map rmA)) = ⟨[], effL (l.map rmA), 12⟩ := by
    rw [rebR, if_neg (by rw [ht]; simp), hf]
    simp
  rw [this]
  exact ⟨rfl, rfl⟩
abbrev parent16Con : Con where
  ι := I64 × I64 × Bool × { l : List Int // ∀ x ∈ l, -9223372036854775808 ≤ x ∧ x ≤ 9223372036854775807 }
  args := fun p => [.v (.int .i64 p.1.1), .v (.int .i64 p.2.1.1), .v (.bool p.2.2.1), .sl 0 1 (ints .i64 p.2.2.2.1)]
  post := fun _ r => r = .v (.bool true)
  plain := true
theorem hit_take {l : List Int} {p : Int} {i : Nat} (h : i < l.length) : hitB (l.take (i + 1)) p = (hitB (l.take i) p || decide (1 + l[i] % 100 = p)) := by
  rw [List.take_succ_eq_append_getElem h, hitB, List.any_append]; simp [hitB]
set_option maxHeartbeats 4000000 in
theorem parent16_good : Rw.Good Tryd.prog 7 parent16Con := by
  have hΓ : GoodEnv Tryd.prog [(23, roundCon), (12, effCon), (24, roverCon16), (26, whyCon), (25, trueCon)] := (goodEnv_cons round_good (goodEnv_cons eff_good (goodEnv_cons rover16_good (goodEnv_cons why_good (goodEnv_cons awake16_good goodEnv_nil)))))
  refine good_fn (nn := 127) hΓ Tryd.func7 (by kernel_rfl) rfl (show Tryd.f7.results.toList = [.tmp 8] from rfl) (fun _ => rfl) (fun x => by simp [AV.erL, AV.er]) ?_
  rintro ⟨⟨x, hx⟩, ⟨y, hy⟩, mv, ⟨l, hl⟩⟩
  simp only [goRules, coreRules, tiRules, unRules, AS_of_eq, ← decide_not, N0, N1, N2, N3, N4, N5, Z0, Z1, Z2, Z3, Z4, Z5, Z6, Z7, Z8, Z9, Z10, Zc, ↓reduceIte, reduceCtorEq, ints_len]
  by_cases h1 : x < 1
  · simp only [goRules, coreRules, tiRules, unRules, AS_of_eq, ← decide_not, N0, N1, N2, N3, N4, N5, Z0, Z1, Z2, Z3, Z4, Z5, Z6, Z7, Z8, Z9, Z10, Zc, ↓reduceIte, reduceCtorEq, ints_len, h1]
    refine call_awake16 (by simp [get_cons]) ?_
    simp only [goRules, coreRules, tiRules, unRules, AS_of_eq, ← decide_not, N0, N1, N2, N3, N4, N5, Z0, Z1, Z2, Z3, Z4, Z5, Z6, Z7, Z8, Z9, Z10, Zc, ↓reduceIte, reduceCtorEq]
  by_cases h2 : x > 100
  · simp only [goRules, coreRules, tiRules, unRules, AS_of_eq, ← decide_not, N0, N1, N2, N3, N4, N5, Z0, Z1, Z2, Z3, Z4, Z5, Z6, Z7, Z8, Z9, Z10, Zc, ↓reduceIte, reduceCtorEq, ints_len, h1, h2]
    refine call_awake16 (by simp [get_cons]) ?_
    simp only [goRules, coreRules, tiRules, unRules, AS_of_eq, ← decide_not, N0, N1, N2, N3, N4, N5, Z0, Z1, Z2, Z3, Z4, Z5, Z6, Z7, Z8, Z9, Z10, Zc, ↓reduceIte, reduceCtorEq]
  by_cases h3 : y < 1
  · simp only [goRules, coreRules, tiRules, unRules, AS_of_eq, ← decide_not, N0, N1, N2, N3, N4, N5, Z0, Z1, Z2, Z3, Z4, Z5, Z6, Z7, Z8, Z9, Z10, Zc, ↓reduceIte, reduceCtorEq, ints_len, h1, h2, h3]
    refine call_awake16 (by simp [get_cons]) ?_
    simp only [goRules, coreRules, tiRules, unRules, AS_of_eq, ← decide_not, N0, N1, N2, N3, N4, N5, Z0, Z1, Z2, Z3, Z4, Z5, Z6, Z7, Z8, Z9, Z10, Zc, ↓reduceIte, reduceCtorEq]
  by_cases h4 : y > 100
  · simp only [goRules, coreRules, tiRules, unRules, AS_of_eq, ← decide_not, N0, N1, N2, N3, N4, N5, Z0, Z1, Z2, Z3, Z4, Z5, Z6, Z7, Z8, Z9, Z10, Zc, ↓reduceIte, reduceCtorEq, ints_len, h1, h2, h3, h4]
    refine call_awake16 (by simp [get_cons]) ?_
    simp only [goRules, coreRules, tiRules, unRules, AS_of_eq, ← decide_not, N0, N1, N2, N3, N4, N5, Z0, Z1, Z2, Z3, Z4, Z5, Z6, Z7, Z8, Z9, Z10, Zc, ↓reduceIte, reduceCtorEq]
  by_cases h5 : (l.length : Int) > 20
  · simp only [goRules, coreRules, tiRules, unRules, AS_of_eq, ← decide_not, N0, N1, N2, N3, N4, N5, Z0, Z1, Z2, Z3, Z4, Z5, Z6, Z7, Z8, Z9, Z10, Zc, ↓reduceIte, reduceCtorEq, ints_len, h1, h2, h3, h4, h5]
    refine call_awake16 (by simp [get_cons]) ?_
    simp only [goRules, coreRules, tiRules, unRules, AS_of_eq, ← decide_not, N0, N1, N2, N3, N4, N5, Z0, Z1, Z2, Z3, Z4, Z5, Z6, Z7, Z8, Z9, Z10, Zc, ↓reduceIte, reduceCtorEq]
  by_cases h6 : x = y
  · simp only [goRules, coreRules, tiRules, unRules, AS_of_eq, ← decide_not, N0, N1, N2, N3, N4, N5, Z0, Z1, Z2, Z3, Z4, Z5, Z6, Z7, Z8, Z9, Z10, Zc, ↓reduceIte, reduceCtorEq, ints_len, h1, h2, h3, h4, h5, h6]
    refine call_awake16 (by simp [get_cons]) ?_
    simp only [goRules, coreRules, tiRules, unRules, AS_of_eq, ← decide_not, N0, N1, N2, N3, N4, N5, Z0, Z1, Z2, Z3, Z4, Z5, Z6, Z7, Z8, Z9, Z10, Zc, ↓reduceIte, reduceCtorEq]
  have hxr : 1 ≤ x ∧ x ≤ 100 := by omega
  have hyr : 1 ≤ y ∧ y ≤ 100 := by omega
  have hgl : ∀ g ∈ l.map rmA, okL g.ops := fun g hg => by
    obtain ⟨q, _, rfl⟩ := List.mem_map.1 hg
    exact okL_nil
  have hbo : ∀ z ∈ effL (l.map rmA), okL z.ops := fun z hz => eff_ok hgl hz
  have hbl := eff_len (l.map rmA)
  rw [List.length_map] at hbl
  cases mv
  · simp only [goRules, coreRules, tiRules, unRules, AS_of_eq, ← decide_not, N0, N1, N2, N3, N4, N5, Z0, Z1, Z2, Z3, Z4, Z5, Z6, Z7, Z8, Z9, Z10, Zc, ↓reduceIte, reduceCtorEq, ints_len, h1, h2, h3, h4, h5, h6]
    obtain ⟨St, hSt⟩ : ∃ St : { i : Nat // i ≤ l.length } → AS, ∀ i, St i = AS.of 127 [(0, .v (.int .i64 x)), (1, .v (.int .i64 y)), (2, .v (.bool false)), (3, .sl 0 1 (ints .i64 l)), (9, .ptr 0 0), (10, .sl 2 6 (acts ((l.take i.1).map rmA))), (11, .v (.bool (hitB (l.take i.1) y))), (12, .v (.bool (hitB (l.take i.1) x))), (13, .v (.int .i64 i.1))] [.cells [.v (.int .i64 1), .v (.int .i64 x), .v (.int .i64 y), .v (sv [110]), .v (.bool false), .sl 0 3 []]] [(i.1, 31)] := ⟨_, fun _ => rfl⟩
    refine vc_loop hΓ St (fun i => l.length - i.1) ⟨0, by omega⟩ (by rw [hSt]; refine weak_go [0] [.nil 6] ?_; simp only [goRules, coreRules, tiRules, unRules, AS_of_eq, ← decide_not, N0, N1, N2, N3, N4, N5, Z0, Z1, Z2, Z3, Z4, Z5, Z6, Z7, Z8, Z9, Z10, Zc, ↓reduceIte, reduceCtorEq, List.take_zero, hitB, List.any_nil, List.map_nil, acts] <;> ((repeat' apply And.intro) <;> first | rfl | omega | trivial)) ?_
    rintro ⟨i, hi⟩
    rw [hSt]
    simp only
    simp only [goRules, coreRules, tiRules, unRules, AS_of_eq, ← decide_not, N0, N1, N2, N3, N4, N5, Z0, Z1, Z2, Z3, Z4, Z5, Z6, Z7, Z8, Z9, Z10, Zc, ↓reduceIte, reduceCtorEq, ints_len]
    (with_reducible first | refine branchP_dec (fun h => ?_) (fun h => ?_) | refine guardB_dec (fun h => ?_) (fun h => ?_))
    · have hlt : i < l.length := by omega
      have e1 : (ints .i64 l).getD i .any = .v (.int .i64 l[i]) := by rw [ints_getD hlt, List.getD_eq_getElem?_getD, List.getElem?_eq_getElem hlt]; rfl
      have e2 : (l.take (i + 1)).map rmA = (l.take i).map rmA ++ [rmA l[i]] := by rw [List.take_succ_eq_append_getElem hlt, List.map_append]; rfl
      have e3 := hit_take (p := y) hlt
      have e4 := hit_take (p := x) hlt
      have hg := hl _ (List.getElem_mem hlt)
      generalize l[i] = g at *
      have hr : 0 ≤ g % 100 ∧ g % 100 < 100 := by omega
      simp only [goRules, coreRules, tiRules, unRules, AS_of_eq, ← decide_not, N0, N1, N2, N3, N4, N5, Z0, Z1, Z2, Z3, Z4, Z5, Z6, Z7, Z8, Z9, Z10, Zc, ↓reduceIte, reduceCtorEq, h, e1, ints_len]
      (repeat (with_reducible refine And.intro ?_ ?_; focus (first | omega | exact mixed1 | kernel_rfl)))
      refine call_round (by simp [get_cons]) hg (by omega) ?_
      simp only [goRules, coreRules, tiRules, unRules, AS_of_eq, ← decide_not, N0, N1, N2, N3, N4, N5, Z0, Z1, Z2, Z3, Z4, Z5, Z6, Z7, Z8, Z9, Z10, Zc, ↓reduceIte, reduceCtorEq, wrap_i64 (n := 1 + g % 100) (by omega) (by omega), wrap_i64 (n := (i : Int) + 1) (by omega) (by omega), acts_len, List.length_map, List.length_take, show min i l.length = i by omega, List.map_cons, List.map_nil]
      (repeat (with_reducible refine And.intro ?_ ?_; focus (first | omega | exact mixed1 | kernel_rfl)))
      cases hh1 : hitB (l.take i) y <;> cases hh2 : hitB (l.take i) x
      all_goals
        simp only [goRules, coreRules, tiRules, unRules, AS_of_eq, ← decide_not, N0, N1, N2, N3, N4, N5, Z0, Z1, Z2, Z3, Z4, Z5, Z6, Z7, Z8, Z9, Z10, Zc, ↓reduceIte, reduceCtorEq, wrap_i64 (n := 1 + g % 100) (by omega) (by omega), wrap_i64 (n := (i : Int) + 1) (by omega) (by omega)]
        refine weak_again ⟨i + 1, by omega⟩ (by simp only; omega) ?_
        rw [hSt]; refine weak_go [0] [.live 2] ?_
        rw [e2]
        simp only [goRules, coreRules, tiRules, unRules, AS_of_eq, ← decide_not, N0, N1, N2, N3, N4, N5, Z0, Z1, Z2, Z3, Z4, Z5, Z6, Z7, Z8, Z9, Z10, Zc, ↓reduceIte, reduceCtorEq, e3, e4, hh1, hh2, acts, rmA, aA, comps, List.map_append, List.map_cons, List.map_nil, List.length_append, List.length_cons, List.length_nil, List.length_map, List.length_take, show min i l.length = i by omega, Bool.false_or, Bool.true_or] <;> ((repeat' apply And.intro) <;> first | rfl | omega | trivial)
    · have e5 : l.take i = l := List.take_of_length_le (by omega)
      rw [e5]
      have hw := why_rm false x y l
      have hm : (⟨1, x, y, [110], false, []⟩ : Ac) = mkA false x y := rfl
      simp only [goRules, coreRules, tiRules, unRules, AS_of_eq, ← decide_not, N0, N1, N2, N3, N4, N5, Z0, Z1, Z2, Z3, Z4, Z5, Z6, Z7, Z8, Z9, Z10, Zc, ↓reduceIte, reduceCtorEq, h]
      refine call_eff_t (by simp [get_cons]) (by omega) rfl (by rw [List.length_map]; omega) hgl ?_
      simp only [goRules, coreRules, tiRules, unRules, AS_of_eq, ← decide_not, N0, N1, N2, N3, N4, N5, Z0, Z1, Z2, Z3, Z4, Z5, Z6, Z7, Z8, Z9, Z10, Zc, ↓reduceIte, reduceCtorEq, List.map_cons, List.map_nil]
      refine call_rover16_t (by simp [get_cons]) (by omega) (l := [⟨1, x, y, [110], false, []⟩]) rfl rfl (by simp) (okA1 okL_nil (by simp)) (by omega) hbo ?_
      rw [hm]
      by_cases hc : hitB l y = true ∨ (false = true ∧ hitB l x = true)
      · obtain ⟨r1, r2⟩ := reb_rm_e false hxr hyr l hc
        rw [if_pos hc] at hw
        generalize rebR [mkA false x y] (effL (l.map rmA)) = R at *
        obtain ⟨ro, rl, re⟩ := R
        simp only at r1 r2
        subst r1; subst r2
        cases hh1 : hitB l y <;> cases hh2 : hitB l x
        all_goals first
          | (exfalso; simp [hh1, hh2] at hc; done)
          | (simp only [goRules, coreRules, tiRules, unRules, AS_of_eq, ← decide_not, N0, N1, N2, N3, N4, N5, Z0, Z1, Z2, Z3, Z4, Z5, Z6, Z7, Z8, Z9, Z10, Zc, ↓reduceIte, reduceCtorEq, acts, List.map_nil]
             refine call_why_e (by simp [get_cons]) (a := mkA false x y) rfl rfl okL_nil (by simp [mkA]) (by omega) hbo ?_
             rw [hw]
             simp only [goRules, coreRules, tiRules, unRules, AS_of_eq, ← decide_not, N0, N1, N2, N3, N4, N5, Z0, Z1, Z2, Z3, Z4, Z5, Z6, Z7, Z8, Z9, Z10, Zc, ↓reduceIte, reduceCtorEq]
             refine call_awake16 (by simp [get_cons]) ?_
             simp only [goRules, coreRules, tiRules, unRules, AS_of_eq, ← decide_not, N0, N1, N2, N3, N4, N5, Z0, Z1, Z2, Z3, Z4, Z5, Z6, Z7, Z8, Z9, Z10, Zc, ↓reduceIte, reduceCtorEq])
      · obtain ⟨r1, r2⟩ := reb_rm false hxr hyr l hc
        rw [if_neg hc] at hw
        generalize rebR [mkA false x y] (effL (l.map rmA)) = R at *
        obtain ⟨ro, rl, re⟩ := R
        simp only at r1 r2
        subst r1; subst r2
        cases hh1 : hitB l y <;> cases hh2 : hitB l x
        all_goals first
          | (exfalso; simp [hh1, hh2] at hc; done)
          | (simp only [goRules, coreRules, tiRules, unRules, AS_of_eq, ← decide_not, N0, N1, N2, N3, N4, N5, Z0, Z1, Z2, Z3, Z4, Z5, Z6, Z7, Z8, Z9, Z10, Zc, ↓reduceIte, reduceCtorEq, acts, List.map_cons, List.map_nil]
             refine call_why_e (by simp [get_cons]) (a := mkA false x y) rfl rfl okL_nil (by simp [mkA]) (by omega) hbo ?_
             rw [hw]
             simp only [goRules, coreRules, tiRules, unRules, AS_of_eq, ← decide_not, N0, N1, N2, N3, N4, N5, Z0, Z1, Z2, Z3, Z4, Z5, Z6, Z7, Z8, Z9, Z10, Zc, ↓reduceIte, reduceCtorEq, List.length_cons, List.length_nil]
             refine call_awake16 (by simp [get_cons]) ?_
             simp only [goRules, coreRules, tiRules, unRules, AS_of_eq, ← decide_not, N0, N1, N2, N3, N4, N5, Z0, Z1, Z2, Z3, Z4, Z5, Z6, Z7, Z8, Z9, Z10, Zc, ↓reduceIte, reduceCtorEq])
  · simp only [goRules, coreRules, tiRules, unRules, AS_of_eq, ← decide_not, N0, N1, N2, N3, N4, N5, Z0, Z1, Z2, Z3, Z4, Z5, Z6, Z7, Z8, Z9, Z10, Zc, ↓reduceIte, reduceCtorEq, ints_len, h1, h2, h3, h4, h5, h6]
    obtain ⟨St, hSt⟩ : ∃ St : { i : Nat // i ≤ l.length } → AS, ∀ i, St i = AS.of 127 [(0, .v (.int .i64 x)), (1, .v (.int .i64 y)), (2, .v (.bool true)), (3, .sl 0 1 (ints .i64 l)), (9, .ptr 0 0), (10, .sl 2 6 (acts ((l.take i.1).map rmA))), (11, .v (.bool (hitB (l.take i.1) y))), (12, .v (.bool (hitB (l.take i.1) x))), (13, .v (.int .i64 i.1))] [.cells [.v (.int .i64 3), .v (.int .i64 x), .v (.int .i64 y), .v (sv [110]), .v (.bool false), .sl 0 3 []]] [(i.1, 31)] := ⟨_, fun _ => rfl⟩
    refine vc_loop hΓ St (fun i => l.length - i.1) ⟨0, by omega⟩ (by rw [hSt]; refine weak_go [0] [.nil 6] ?_; simp only [goRules, coreRules, tiRules, unRules, AS_of_eq, ← decide_not, N0, N1, N2, N3, N4, N5, Z0, Z1, Z2, Z3, Z4, Z5, Z6, Z7, Z8, Z9, Z10, Zc, ↓reduceIte, reduceCtorEq, List.take_zero, hitB, List.any_nil, List.map_nil, acts] <;> ((repeat' apply And.intro) <;> first | rfl | omega | trivial)) ?_
    rintro ⟨i, hi⟩
    rw [hSt]
    simp only
    simp only [goRules, coreRules, tiRules, unRules, AS_of_eq, ← decide_not, N0, N1, N2, N3, N4, N5, Z0, Z1, Z2, Z3, Z4, Z5, Z6, Z7, Z8, Z9, Z10, Zc, ↓reduceIte, reduceCtorEq, ints_len]
    (with_reducible first | refine branchP_dec (fun h => ?_) (fun h => ?_) | refine guardB_dec (fun h => ?_) (fun h => ?_))
    · have hlt : i < l.length := by omega
      have e1 : (ints .i64 l).getD i .any = .v (.int .i64 l[i]) := by rw [ints_getD hlt, List.getD_eq_getElem?_getD, List.getElem?_eq_getElem hlt]; rfl
      have e2 : (l.take (i + 1)).map rmA = (l.take i).map rmA ++ [rmA l[i]] := by rw [List.take_succ_eq_append_getElem hlt, List.map_append]; rfl
      have e3 := hit_take (p := y) hlt
      have e4 := hit_take (p := x) hlt
      have hg := hl _ (List.getElem_mem hlt)
      generalize l[i] = g at *
      have hr : 0 ≤ g % 100 ∧ g % 100 < 100 := by omega
      simp only [goRules, coreRules, tiRules, unRules, AS_of_eq, ← decide_not, N0, N1, N2, N3, N4, N5, Z0, Z1, Z2, Z3, Z4, Z5, Z6, Z7, Z8, Z9, Z10, Zc, ↓reduceIte, reduceCtorEq, h, e1, ints_len]
      (repeat (with_reducible refine And.intro ?_ ?_; focus (first | omega | exact mixed1 | kernel_rfl)))
      refine call_round (by simp [get_cons]) hg (by omega) ?_
      simp only [goRules, coreRules, tiRules, unRules, AS_of_eq, ← decide_not, N0, N1, N2, N3, N4, N5, Z0, Z1, Z2, Z3, Z4, Z5, Z6, Z7, Z8, Z9, Z10, Zc, ↓reduceIte, reduceCtorEq, wrap_i64 (n := 1 + g % 100) (by omega) (by omega), wrap_i64 (n := (i : Int) + 1) (by omega) (by omega), acts_len, List.length_map, List.length_take, show min i l.length = i by omega, List.map_cons, List.map_nil]
      (repeat (with_reducible refine And.intro ?_ ?_; focus (first | omega | exact mixed1 | kernel_rfl)))
      cases hh1 : hitB (l.take i) y <;> cases hh2 : hitB (l.take i) x
      all_goals
        simp only [goRules, coreRules, tiRules, unRules, AS_of_eq, ← decide_not, N0, N1, N2, N3, N4, N5, Z0, Z1, Z2, Z3, Z4, Z5, Z6, Z7, Z8, Z9, Z10, Zc, ↓reduceIte, reduceCtorEq, wrap_i64 (n := 1 + g % 100) (by omega) (by omega), wrap_i64 (n := (i : Int) + 1) (by omega) (by omega)]
        refine weak_again ⟨i + 1, by omega⟩ (by simp only; omega) ?_
        rw [hSt]; refine weak_go [0] [.live 2] ?_
        rw [e2]
        simp only [goRules, coreRules, tiRules, unRules, AS_of_eq, ← decide_not, N0, N1, N2, N3, N4, N5, Z0, Z1, Z2, Z3, Z4, Z5, Z6, Z7, Z8, Z9, Z10, Zc, ↓reduceIte, reduceCtorEq, e3, e4, hh1, hh2, acts, rmA, aA, comps, List.map_append, List.map_cons, List.map_nil, List.length_append, List.length_cons, List.length_nil, List.length_map, List.length_take, show min i l.length = i by omega, Bool.false_or, Bool.true_or] <;> ((repeat' apply And.intro) <;> first | rfl | omega | trivial)
    · have e5 : l.take i = l := List.take_of_length_le (by omega)
      rw [e5]
      have hw := why_rm true x y l
      have hm : (⟨3, x, y, [110], false, []⟩ : Ac) = mkA true x y := rfl
      simp only [goRules, coreRules, tiRules, unRules, AS_of_eq, ← decide_not, N0, N1, N2, N3, N4, N5, Z0, Z1, Z2, Z3, Z4, Z5, Z6, Z7, Z8, Z9, Z10, Zc, ↓reduceIte, reduceCtorEq, h]
      refine call_eff_t (by simp [get_cons]) (by omega) rfl (by rw [List.length_map]; omega) hgl ?_
      simp only [goRules, coreRules, tiRules, unRules, AS_of_eq, ← decide_not, N0, N1, N2, N3, N4, N5, Z0, Z1, Z2, Z3, Z4, Z5, Z6, Z7, Z8, Z9, Z10, Zc, ↓reduceIte, reduceCtorEq, List.map_cons, List.map_nil]
      refine call_rover16_t (by simp [get_cons]) (by omega) (l := [⟨3, x, y, [110], false, []⟩]) rfl rfl (by simp) (okA1 okL_nil (by simp)) (by omega) hbo ?_
      rw [hm]
      by_cases hc : hitB l y = true ∨ (true = true ∧ hitB l x = true)
      · obtain ⟨r1, r2⟩ := reb_rm_e true hxr hyr l hc
        rw [if_pos hc] at hw
        generalize rebR [mkA true x y] (effL (l.map rmA)) = R at *
        obtain ⟨ro, rl, re⟩ := R
        simp only at r1 r2
        subst r1; subst r2
        cases hh1 : hitB l y <;> cases hh2 : hitB l x
        all_goals first
          | (exfalso; simp [hh1, hh2] at hc; done)
          | (simp only [goRules, coreRules, tiRules, unRules, AS_of_eq, ← decide_not, N0, N1, N2, N3, N4, N5, Z0, Z1, Z2, Z3, Z4, Z5, Z6, Z7, Z8, Z9, Z10, Zc, ↓reduceIte, reduceCtorEq, acts, List.map_nil]
             refine call_why_e (by simp [get_cons]) (a := mkA true x y) rfl rfl okL_nil (by simp [mkA]) (by omega) hbo ?_
             rw [hw]
             simp only [goRules, coreRules, tiRules, unRules, AS_of_eq, ← decide_not, N0, N1, N2, N3, N4, N5, Z0, Z1, Z2, Z3, Z4, Z5, Z6, Z7, Z8, Z9, Z10, Zc, ↓reduceIte, reduceCtorEq]
             refine call_awake16 (by simp [get_cons]) ?_
             simp only [goRules, coreRules, tiRules, unRules, AS_of_eq, ← decide_not, N0, N1, N2, N3, N4, N5, Z0, Z1, Z2, Z3, Z4, Z5, Z6, Z7, Z8, Z9, Z10, Zc, ↓reduceIte, reduceCtorEq])
      · obtain ⟨r1, r2⟩ := reb_rm true hxr hyr l hc
        rw [if_neg hc] at hw
        generalize rebR [mkA true x y] (effL (l.map rmA)) = R at *
        obtain ⟨ro, rl, re⟩ := R
        simp only at r1 r2
        subst r1; subst r2
        cases hh1 : hitB l y <;> cases hh2 : hitB l x
        all_goals first
          | (exfalso; simp [hh1, hh2] at hc; done)
          | (simp only [goRules, coreRules, tiRules, unRules, AS_of_eq, ← decide_not, N0, N1, N2, N3, N4, N5, Z0, Z1, Z2, Z3, Z4, Z5, Z6, Z7, Z8, Z9, Z10, Zc, ↓reduceIte, reduceCtorEq, acts, List.map_cons, List.map_nil]
             refine call_why_e (by simp [get_cons]) (a := mkA true x y) rfl rfl okL_nil (by simp [mkA]) (by omega) hbo ?_
             rw [hw]
             simp only [goRules, coreRules, tiRules, unRules, AS_of_eq, ← decide_not, N0, N1, N2, N3, N4, N5, Z0, Z1, Z2, Z3, Z4, Z5, Z6, Z7, Z8, Z9, Z10, Zc, ↓reduceIte, reduceCtorEq, List.length_cons, List.length_nil]
             refine call_awake16 (by simp [get_cons]) ?_
             simp only [goRules, coreRules, tiRules, unRules, AS_of_eq, ← decide_not, N0, N1, N2, N3, N4, N5, Z0, Z1, Z2, Z3, Z4, Z5, Z6, Z7, Z8, Z9, Z10, Zc, ↓reduceIte, reduceCtorEq])
end Go.Proofs
end
