/-
  Of two edits: numbered anew, how much neither deletes. How much of a text neither of two edits deletes. XformKeeps answers true.
-/
import Derived.Test.YtmenbocckhbdjaaDoorXAAx5
import Derived.Test.YtmenbocckhbdjaaDoorXAAx8
import Derived.Test.YtmenbocckhbdjaaDoorXAAp17
set_option linter.unusedSimpArgs false
set_option linter.unusedVariables false
set_option linter.defProp false

-- AAy1
section
namespace Go.Proofs
open Go Go.Rw
open _root_.Nat renaming reduceAdd → N0, reduceSub → N1, reduceMul → N2, reduceLT → N3, reduceLeDiff → N4, reduceEqDiff → N5
open _root_.Int renaming reduceNeg → Z0, reduceAdd → Z1, reduceSub → Z2, reduceMul → Z3, reduceGT → Z4, reduceGE → Z5, reduceLT → Z6, reduceLE → Z7, reduceEq → Z8, reduceNe → Z9, reduceToNat → Z10, cast_ofNat_Int → Zc
set_option maxRecDepth 100000
set_option linter.unusedSimpArgs false
set_option linter.unusedVariables false

abbrev namedCon : Con where
  ι := { p : List Cp × Nat // okL p.1 ∧ p.1.length ≤ 2000 ∧ tot p.1 ≤ 2000 ∧ 1 ≤ p.2 ∧ p.2 ≤ 50000 }
  args := fun p => [.sl 0 3 (comps p.1.1), .v (.int .i64 p.1.2)]
  post := fun p r => r = .tup [.sl 0 3 (comps (ren p.1.2 p.1.1)), .v (.int .i64 (nxt p.1.2 p.1.1))]
theorem named_good : Rw.Good Tryd.prog 47 namedCon := by
  have hΓ : GoodEnv Tryd.prog [(20, rtextCon), (21, rcountCon)] := (goodEnv_cons rtext_good (goodEnv_cons rcount_good goodEnv_nil))
  refine good_fn (nn := 52) hΓ Tryd.func47 (by kernel_rfl) rfl (show Tryd.f47.results.toList = [.tmp 4, .tmp 5] from rfl) (fun _ => rfl) (fun _ => rfl) ?_
  rintro ⟨⟨l, nx⟩, ol, hl, ht, hn1, hn2⟩
  simp only at ol hl ht hn1 hn2
  simp only [goRules, coreRules, tiRules, unRules, AS_of_eq, ← decide_not, N0, N1, N2, N3, N4, N5, Z0, Z1, Z2, Z3, Z4, Z5, Z6, Z7, Z8, Z9, Z10, Zc, ↓reduceIte, reduceCtorEq, comps_len, List.length_nil]
  (repeat (with_reducible refine And.intro ?_ ?_; focus (first | omega | exact mixed1 | kernel_rfl)))
  obtain ⟨St, hSt⟩ : ∃ St : { j : Nat // j ≤ l.length } → AS, ∀ j, St j = AS.of 52 [(0, .sl 0 3 (comps l)), (1, .v (.int .i64 (nxt nx (l.take j.1)))), (6, .sl 2 3 (comps (ren nx (l.take j.1) ++ l.drop j.1))), (7, .v (.int .i64 j.1))] [] [(l.length, 32)] := ⟨_, fun _ => rfl⟩
  refine vc_loop hΓ St (fun j => l.length - j.1) ⟨0, by omega⟩ (by rw [hSt]; refine weak_go [] [.live 2] ?_; simp only [goRules, coreRules, tiRules, unRules, AS_of_eq, ← decide_not, N0, N1, N2, N3, N4, N5, Z0, Z1, Z2, Z3, Z4, Z5, Z6, Z7, Z8, Z9, Z10, Zc, ↓reduceIte, reduceCtorEq, List.take_zero, ren, nxt, List.nil_append, List.drop_zero] <;> ((repeat' apply And.intro) <;> first | rfl | omega | trivial)) ?_
  rintro ⟨j, hj⟩
  rw [hSt]
  simp only
  have hml2 : (ren nx (l.take j) ++ l.drop j).length = l.length := by rw [List.length_append, ren_len, List.length_take, List.length_drop]; omega
  simp only [goRules, coreRules, tiRules, unRules, AS_of_eq, ← decide_not, N0, N1, N2, N3, N4, N5, Z0, Z1, Z2, Z3, Z4, Z5, Z6, Z7, Z8, Z9, Z10, Zc, ↓reduceIte, reduceCtorEq, comps_len, hml2]
  (with_reducible first | refine branchP_dec (fun h6 => ?_) (fun h6 => ?_) | refine guardB_dec (fun h6 => ?_) (fun h6 => ?_))
  · have hlt : j < l.length := by omega
    have e1 : (comps (ren nx (l.take j) ++ l.drop j)).getD j .any = cA l[j] := by
      have hlt2 : j < (ren nx (l.take j) ++ l.drop j).length := by omega
      rw [comps_getD _ hlt2, List.getElem_append_right (by rw [ren_len, List.length_take]; omega)]
      simp only [ren_len, List.length_take, List.getElem_drop, show min j l.length = j by omega, Nat.sub_self, Nat.add_zero]
      rfl
    have e2 := comps_getD l hlt
    have htj := nxt_le (l.take j) nx
    have htt := tot_app (l.take j) (l.drop j)
    rw [List.take_append_drop] at htt
    have htm := tot_mem (List.getElem_mem hlt)
    have hcl := cpts_len l[j].t
    have ern := List.take_succ_eq_append_getElem hlt
    have edr := List.drop_eq_getElem_cons hlt
    generalize l[j] = c at *
    obtain ⟨ck, cn, ct⟩ := c
    simp only [cA] at e1 e2
    simp only at htm hcl
    simp (disch := omega) only [goRules, coreRules, tiRules, unRules, AS_of_eq, ← decide_not, N0, N1, N2, N3, N4, N5, Z0, Z1, Z2, Z3, Z4, Z5, Z6, Z7, Z8, Z9, Z10, Zc, ↓reduceIte, reduceCtorEq, wrap_i64, h6, e1, e2, comps_len, hml2]
    (repeat (with_reducible refine And.intro ?_ ?_; focus (first | omega | exact mixed1 | kernel_rfl)))
    by_cases h7 : ck = 2
    · simp (disch := omega) only [goRules, coreRules, tiRules, unRules, AS_of_eq, ← decide_not, N0, N1, N2, N3, N4, N5, Z0, Z1, Z2, Z3, Z4, Z5, Z6, Z7, Z8, Z9, Z10, Zc, ↓reduceIte, reduceCtorEq, wrap_i64, h7, h6, e1, e2, comps_len, hml2]
      generalize hN : nxt nx (l.take j) = N at *
      obtain ⟨St2, hSt2⟩ : ∃ St2 : { k : Nat // k ≤ (cpts ct).length } → AS, ∀ k, St2 k = AS.of 52 [(0, .sl 0 3 (comps l)), (1, .v (.int .i64 (N + k.1 : Nat))), (6, .sl 2 3 (comps (ren nx (l.take j) ++ l.drop j))), (7, .v (.int .i64 j)), (8, .sl 3 1 (nats (List.range' N k.1))), (9, .v (.int .i64 k.1))] [] [(l.length, 32), (k.1, 3)] := ⟨_, fun _ => rfl⟩
      refine vc_loop hΓ St2 (fun k => (cpts ct).length - k.1) ⟨0, by omega⟩ (by rw [hSt2]; refine weak_go [] [.live 2, .nil 1] ?_; simp only [goRules, coreRules, tiRules, unRules, AS_of_eq, ← decide_not, N0, N1, N2, N3, N4, N5, Z0, Z1, Z2, Z3, Z4, Z5, Z6, Z7, Z8, Z9, Z10, Zc, ↓reduceIte, reduceCtorEq, nats_nil, List.range'] <;> ((repeat' apply And.intro) <;> first | rfl | omega | trivial)) ?_
      rintro ⟨k, hk⟩
      rw [hSt2]
      simp only
      simp only [goRules, coreRules, tiRules, unRules, AS_of_eq, ← decide_not, N0, N1, N2, N3, N4, N5, Z0, Z1, Z2, Z3, Z4, Z5, Z6, Z7, Z8, Z9, Z10, Zc, ↓reduceIte, reduceCtorEq, comps_len, hml2, e2]
      (repeat (with_reducible refine And.intro ?_ ?_; focus (first | omega | exact mixed1 | kernel_rfl)))
      refine call_rcount (by simp [get_cons]) (by omega) ?_
      rw [cnt_cpts]
      simp only [goRules, coreRules, tiRules, unRules, AS_of_eq, ← decide_not, N0, N1, N2, N3, N4, N5, Z0, Z1, Z2, Z3, Z4, Z5, Z6, Z7, Z8, Z9, Z10, Zc, ↓reduceIte, reduceCtorEq]
      (with_reducible first | refine branchP_dec (fun h8 => ?_) (fun h8 => ?_) | refine guardB_dec (fun h8 => ?_) (fun h8 => ?_))
      · simp (disch := omega) only [goRules, coreRules, tiRules, unRules, AS_of_eq, ← decide_not, N0, N1, N2, N3, N4, N5, Z0, Z1, Z2, Z3, Z4, Z5, Z6, Z7, Z8, Z9, Z10, Zc, ↓reduceIte, reduceCtorEq, wrap_i64, h8, nats_len, List.length_range', List.map_cons, List.map_nil]
        (repeat (with_reducible refine And.intro ?_ ?_; focus (first | omega | exact mixed1 | kernel_rfl)))
        refine weak_again ⟨k + 1, by omega⟩ (by simp only; omega) ?_
        rw [hSt2]
        refine weak_go [] [.live 2, .live 3] ?_
        rw [nats_snoc, range_snoc]
        simp only [goRules, coreRules, tiRules, unRules, AS_of_eq, ← decide_not, N0, N1, N2, N3, N4, N5, Z0, Z1, Z2, Z3, Z4, Z5, Z6, Z7, Z8, Z9, Z10, Zc, ↓reduceIte, reduceCtorEq, nats_len, List.length_range'] <;> ((repeat' apply And.intro) <;> first | rfl | omega | trivial)
      · have hk2 : k = (cpts ct).length := by omega
        simp only [goRules, coreRules, tiRules, unRules, AS_of_eq, ← decide_not, N0, N1, N2, N3, N4, N5, Z0, Z1, Z2, Z3, Z4, Z5, Z6, Z7, Z8, Z9, Z10, Zc, ↓reduceIte, reduceCtorEq, h8]
        refine call_rtext (by simp [get_cons]) rfl (by rw [List.length_range']; omega) (okc_range (by omega) (by omega)) ?_
        simp only [goRules, coreRules, tiRules, unRules, AS_of_eq, ← decide_not, N0, N1, N2, N3, N4, N5, Z0, Z1, Z2, Z3, Z4, Z5, Z6, Z7, Z8, Z9, Z10, Zc, ↓reduceIte, reduceCtorEq, h8]
        rw [comps_len, hml2]
        refine ⟨by omega, rfl, hlt, ?_⟩
        have e4 : (comps (ren nx (l.take j) ++ l.drop j)).set j (setEl ((comps (ren nx (l.take j) ++ l.drop j)).getD j .any) 2 [AV.v (sv (encs (List.range' N k)))]) = comps (ren nx (l.take (j + 1)) ++ l.drop (j + 1)) := by
          rw [e1, setEl_agg, edr, ern, ren_app, hN]
          have hjl : (ren nx (l.take j)).length = j := by rw [ren_len, List.length_take]; omega
          unfold comps
          rw [List.map_append, List.set_append_right _ _ (by rw [List.length_map]; omega), List.length_map, hjl, Nat.sub_self]
          simp [ren, rc1, h7, cA, hk2]
        refine weak_again ⟨j + 1, by omega⟩ (by simp only; omega) ?_
        rw [hSt, e4]
        have e5 : nxt nx (l.take (j + 1)) = N + k := by rw [ern, nxt_app, hN, hk2]; simp [nxt, nx1, h7]
        rw [e5]
        refine weak_go [] [.live 2] ?_
        simp only [goRules, coreRules, tiRules, unRules, AS_of_eq, ← decide_not, N0, N1, N2, N3, N4, N5, Z0, Z1, Z2, Z3, Z4, Z5, Z6, Z7, Z8, Z9, Z10, Zc, ↓reduceIte, reduceCtorEq, comps_len, hml2, AV.turn, show IntKind.i64.wrap ((j : Int) + 1) = ((j + 1 : Nat) : Int) by rw [wrap_i64 (by omega) (by omega)]; omega] <;> ((repeat' apply And.intro) <;> first | rfl | omega | trivial)
    · simp (disch := omega) only [goRules, coreRules, tiRules, unRules, AS_of_eq, ← decide_not, N0, N1, N2, N3, N4, N5, Z0, Z1, Z2, Z3, Z4, Z5, Z6, Z7, Z8, Z9, Z10, Zc, ↓reduceIte, reduceCtorEq, wrap_i64, h7, h6, e1, e2, comps_len, hml2]
      refine weak_again ⟨j + 1, by omega⟩ (by simp only; omega) ?_
      rw [hSt, ern, ren_app, nxt_app]
      simp only [ren, nxt, rc1, nx1, h7, if_false, List.append_assoc, List.singleton_append]
      rw [← edr]
      refine weak_go [] [.live 2] ?_
      simp only [goRules, coreRules, tiRules, unRules, AS_of_eq, ← decide_not, N0, N1, N2, N3, N4, N5, Z0, Z1, Z2, Z3, Z4, Z5, Z6, Z7, Z8, Z9, Z10, Zc, ↓reduceIte, reduceCtorEq, comps_len, hml2] <;> ((repeat' apply And.intro) <;> first | rfl | omega | trivial)
  rw [List.drop_of_length_le (by omega), List.take_of_length_le (by omega), List.append_nil] at *
  simp only [goRules, coreRules, tiRules, unRules, AS_of_eq, ← decide_not, N0, N1, N2, N3, N4, N5, Z0, Z1, Z2, Z3, Z4, Z5, Z6, Z7, Z8, Z9, Z10, Zc, ↓reduceIte, reduceCtorEq, h6]
theorem call_named {Γ : Env} (hf : Γ.get 47 = some namedCon) {σ : AS} {dr : Bool} {l : List Cp} {nx : Nat} {n : Int} {ys : List AV} {d : Option Nat} {K : AS → Prop} (hn : n = nx) (hy : ys = comps l) (h : okL l ∧ l.length ≤ 2000 ∧ tot l ≤ 2000 ∧ 1 ≤ nx ∧ nx ≤ 50000)
    (hk : cont σ d (.tup [.sl 0 3 (comps (ren nx l)), .v (.int .i64 (nxt nx l))]) K) : vcCall Tryd.prog Γ dr σ 47 [.sl 0 3 ys, .v (.int .i64 n)] d K := by
  subst hn hy
  exact vcCall_fn (C := namedCon) (i := ⟨(l, nx), h⟩) (r := .tup [.sl 0 3 (comps (ren nx l)), .v (.int .i64 (nxt nx l))]) hf rfl rfl rfl rfl (fun _ h => h) hk
end Go.Proofs
end

-- AAy2
section
namespace Go.Proofs
open Go Go.Rw
open _root_.Nat renaming reduceAdd → N0, reduceSub → N1, reduceMul → N2, reduceLT → N3, reduceLeDiff → N4, reduceEqDiff → N5
open _root_.Int renaming reduceNeg → Z0, reduceAdd → Z1, reduceSub → Z2, reduceMul → Z3, reduceGT → Z4, reduceGE → Z5, reduceLT → Z6, reduceLE → Z7, reduceEq → Z8, reduceNe → Z9, reduceToNat → Z10, cast_ofNat_Int → Zc
set_option maxRecDepth 100000
set_option linter.unusedSimpArgs false
set_option linter.unusedVariables false

def bls (l : List Bool) : List AV := l.map fun b => .v (.bool b)
theorem bls_len (l : List Bool) : (bls l).length = l.length := by simp [bls]
theorem bls_rep (n : Nat) : List.replicate n (AV.v (.bool false)) = bls (List.replicate n false) := by simp [bls]
theorem bls_getD (l : List Bool) {i : Nat} (h : i < l.length) : (bls l).getD i .any = .v (.bool l[i]) := by simp [bls, List.getD_eq_getElem?_getD, h]
theorem bls_set (l : List Bool) (i : Nat) (b : Bool) : (bls l).set i (.v (.bool b)) = bls (l.set i b) := by simp [bls, List.map_set]
/-- The first k of a list, with another one's. -/
def mix (g h : List Bool) (k : Nat) : List Bool := List.zipWith (· || ·) (g.take k) (h.take k) ++ g.drop k
theorem mix_zero (g h : List Bool) : mix g h 0 = g := by simp [mix]
theorem mix_len {g h : List Bool} (e : h.length = g.length) {k : Nat} : (mix g h k).length = g.length := by
  simp only [mix, List.length_append, List.length_zipWith, List.length_take, List.length_drop]; omega
theorem mix_get {g h : List Bool} {k : Nat} (h1 : k < g.length) (h2 : k < h.length) : (mix g h k)[k]? = some g[k] := by
  unfold mix
  have hl : (List.zipWith (· || ·) (g.take k) (h.take k)).length = k := by rw [List.length_zipWith, List.length_take, List.length_take]; omega
  rw [List.getElem?_append_right (by omega), hl, Nat.sub_self, List.getElem?_drop, Nat.add_zero, List.getElem?_eq_getElem h1]
theorem mix_step {g h : List Bool} {k : Nat} (h1 : k < g.length) (h2 : k < h.length) : (mix g h k).set k (g[k] || h[k]) = mix g h (k + 1) := by
  unfold mix
  have hl : (List.zipWith (· || ·) (g.take k) (h.take k)).length = k := by rw [List.length_zipWith, List.length_take, List.length_take]; omega
  rw [List.set_append_right _ _ (by omega), hl, Nat.sub_self, List.drop_eq_getElem_cons h1, List.set_cons_zero, List.take_succ_eq_append_getElem h1, List.take_succ_eq_append_getElem h2, List.zipWith_append (by rw [List.length_take, List.length_take]; omega)]
  simp
theorem mix_all {g h : List Bool} {k : Nat} (h1 : g.length = k) (h2 : h.length = k) : mix g h k = List.zipWith (· || ·) g h := by
  unfold mix
  rw [List.take_of_length_le (by omega), List.take_of_length_le (by omega), List.drop_of_length_le (by omega), List.append_nil]
theorem zip_false : ∀ (h : List Bool), List.zipWith (· || ·) (List.replicate h.length false) h = h
  | [] => rfl
  | b :: h => by simp [List.replicate_succ, zip_false h]
theorem gone_mid {a r : List Cp} {c : Cp} (hs : sound c = true) : ∀ k, k < (if c.k = 2 then 0 else c.n.toNat) → (goneU (unL (a ++ c :: r)))[bU (unL a) + k]? = some (decide (c.k = 3)) := by
  intro k hk
  rw [unL_app, goneU_app, unL, goneU_app, goneU_part hs]
  have h1 := goneU_len (unL a)
  by_cases h2 : c.k = 2
  · rw [if_pos h2] at hk; omega
  rw [if_neg h2] at hk
  unfold goneC
  rw [if_neg h2, List.getElem?_append_right (by omega), show bU (unL a) + k - (goneU (unL a)).length = k by omega, List.getElem?_append_left (by rw [List.length_replicate]; exact hk)]
  simp [hk]
theorem bU_part {c : Cp} (h : sound c = true) : bU (unP c) = if c.k = 2 then 0 else c.n.toNat := by
  have h1 := congrArg List.length (goneU_part h)
  rw [goneU_len] at h1
  rw [h1]; unfold goneC
  split <;> simp
theorem count_take {g : List Bool} {k : Nat} (h : k < g.length) : (g.take (k + 1)).count false = (g.take k).count false + (if g[k] = false then 1 else 0) := by
  rw [List.take_succ_eq_append_getElem h, List.count_append, List.count_singleton]
  cases g[k] <;> simp
abbrev bothnCon : Con where
  ι := { p : Nat × List Cp × List Cp // p.1 ≤ 2000 ∧ checkI p.2.1 = 0 ∧ checkI p.2.2 = 0 ∧ okL p.2.1 ∧ okL p.2.2 ∧ baseL p.2.1 = p.1 ∧ baseL p.2.2 = p.1 }
  args := fun p => [.v (.int .i64 p.1.1), .sl 0 3 (comps p.1.2.1), .sl 0 3 (comps p.1.2.2)]
  post := fun p r => r = .v (.int .i64 (stayN (goneU (unL p.1.2.1)) (goneU (unL p.1.2.2))))
  plain := true
theorem bothn_good : Rw.Good Tryd.prog 48 bothnCon := by
  have hΓ : GoodEnv Tryd.prog [] := goodEnv_nil
  refine good_fn (nn := 81) hΓ Tryd.func48 (by kernel_rfl) rfl (show Tryd.f48.results.toList = [.tmp 6] from rfl) (fun _ => rfl) (fun _ => rfl) ?_
  rintro ⟨⟨n, a, b⟩, hn, hca, hcb, oa, ob, hba, hbb⟩
  simp only at hn hca hcb oa ob hba hbb
  have ca := check_cases hca
  have cb := check_cases hcb
  have ba := (out_units hca).2.1
  have bb := (out_units hcb).2.1
  have ga := goneU_len (unL a)
  have gb := goneU_len (unL b)
  simp only [goRules, coreRules, tiRules, unRules, AS_of_eq, ← decide_not, N0, N1, N2, N3, N4, N5, Z0, Z1, Z2, Z3, Z4, Z5, Z6, Z7, Z8, Z9, Z10, Zc, ↓reduceIte, reduceCtorEq]
  try (repeat (with_reducible refine And.intro ?_ ?_; focus (first | omega | exact mixed1 | kernel_rfl)))
  rw [bls_rep]
  obtain ⟨G, hG0, hG1, hG2⟩ : ∃ G : Nat → List Bool, G 0 = List.replicate n false ∧ G 1 = goneU (unL a) ∧ G 2 = List.zipWith (· || ·) (goneU (unL a)) (goneU (unL b)) := ⟨fun t => if t = 0 then List.replicate n false else if t = 1 then goneU (unL a) else List.zipWith (· || ·) (goneU (unL a)) (goneU (unL b)), rfl, rfl, rfl⟩
  obtain ⟨St, hSt⟩ : ∃ St : { t : Nat // t ≤ 2 } → AS, ∀ t, St t = AS.of 81 [(0, .v (.int .i64 n)), (1, .sl 0 3 (comps a)), (2, .sl 0 3 (comps b)), (7, .sl 2 1 (bls (G t.1))), (8, .v (.int .i64 t.1))] [] [(n, 4)] := ⟨_, fun _ => rfl⟩
  refine vc_loop hΓ St (fun t => 2 - t.1) ⟨0, by omega⟩ (by rw [hSt]; refine weak_go [] [.live 2] ?_; simp only [goRules, coreRules, tiRules, unRules, AS_of_eq, ← decide_not, N0, N1, N2, N3, N4, N5, Z0, Z1, Z2, Z3, Z4, Z5, Z6, Z7, Z8, Z9, Z10, Zc, ↓reduceIte, reduceCtorEq, hG0] <;> ((repeat' apply And.intro) <;> first | rfl | omega | trivial)) ?_
  rintro ⟨t, ht⟩
  rw [hSt]
  simp only
  have h2 : t = 0 ∨ t = 1 ∨ t = 2 := by omega
  rcases h2 with rfl | rfl | rfl
  · simp only [goRules, coreRules, tiRules, unRules, AS_of_eq, ← decide_not, N0, N1, N2, N3, N4, N5, Z0, Z1, Z2, Z3, Z4, Z5, Z6, Z7, Z8, Z9, Z10, Zc, ↓reduceIte, reduceCtorEq, hG0]
    obtain ⟨St2, hSt2⟩ : ∃ St2 : { j : Nat // j ≤ a.length } → AS, ∀ j, St2 j = AS.of 81 [(0, .v (.int .i64 n)), (1, .sl 0 3 (comps a)), (2, .sl 0 3 (comps b)), (7, .sl 2 1 (bls (mix (List.replicate n false) (goneU (unL a)) (bU (unL (a.take j.1)))))), (8, .v (.int .i64 ((0 : Nat) : Int))), (9, .sl 0 3 (comps a)), (10, .v (.int .i64 (bU (unL (a.take j.1))))), (11, .v (.int .i64 j.1))] [] [(n, 4)] := ⟨_, fun _ => rfl⟩
    refine vc_loop hΓ St2 (fun j => a.length - j.1) ⟨0, by omega⟩ (by rw [hSt2]; refine weak_go [] [.live 2] ?_; simp only [goRules, coreRules, tiRules, unRules, AS_of_eq, ← decide_not, N0, N1, N2, N3, N4, N5, Z0, Z1, Z2, Z3, Z4, Z5, Z6, Z7, Z8, Z9, Z10, Zc, ↓reduceIte, reduceCtorEq, List.take_zero, unL, bU, mix_zero, bls_len, List.length_replicate] <;> ((repeat' apply And.intro) <;> first | rfl | omega | trivial)) ?_
    rintro ⟨j, hj⟩
    rw [hSt2]
    simp only
    simp only [goRules, coreRules, tiRules, unRules, AS_of_eq, ← decide_not, N0, N1, N2, N3, N4, N5, Z0, Z1, Z2, Z3, Z4, Z5, Z6, Z7, Z8, Z9, Z10, Zc, ↓reduceIte, reduceCtorEq, comps_len]
    (with_reducible first | refine branchP_dec (fun h => ?_) (fun h => ?_) | refine guardB_dec (fun h => ?_) (fun h => ?_))
    · have hlt : j < a.length := by omega
      have e1 := comps_getD a hlt
      have etk := List.take_succ_eq_append_getElem hlt
      have edr := List.take_append_drop j a
      rw [List.drop_eq_getElem_cons hlt] at edr
      have es := ca.2.2.1 a[j] (List.getElem_mem hlt)
      have esp := size_pos es
      have eok := oa.2.2 a[j] (List.getElem_mem hlt)
      have hmid := gone_mid (a := a.take j) (c := a[j]) (r := a.drop (j + 1)) es
      rw [edr] at hmid
      have hbase := (show bU (unL a) = n by omega)
      have hbt : bU (unL (a.take (j + 1))) = bU (unL (a.take j)) + (if a[j].k = 2 then 0 else a[j].n.toNat) := by
        rw [etk, unL_app, bU_app]; congr 1
        simp only [unL, List.append_nil]; exact bU_part es
      have hle : bU (unL (a.take (j + 1))) ≤ n := by
        have e3 := List.take_append_drop (j + 1) a
        have e4 : bU (unL a) = bU (unL (a.take (j + 1))) + bU (unL (a.drop (j + 1))) := by
          rw [← bU_app, ← unL_app, e3]
        omega
      clear edr
      generalize a[j] = c at *
      obtain ⟨ck, cn, ct⟩ := c
      simp only at hmid hbt eok
      simp (disch := omega) only [goRules, coreRules, tiRules, unRules, AS_of_eq, ← decide_not, N0, N1, N2, N3, N4, N5, Z0, Z1, Z2, Z3, Z4, Z5, Z6, Z7, Z8, Z9, Z10, Zc, ↓reduceIte, reduceCtorEq, wrap_i64, h, e1, comps_len]
      (repeat (with_reducible refine And.intro ?_ ?_; focus (first | omega | exact mixed1 | kernel_rfl)))
      by_cases hk : ck = 2
      · simp (disch := omega) only [goRules, coreRules, tiRules, unRules, AS_of_eq, ← decide_not, N0, N1, N2, N3, N4, N5, Z0, Z1, Z2, Z3, Z4, Z5, Z6, Z7, Z8, Z9, Z10, Zc, ↓reduceIte, reduceCtorEq, wrap_i64, hk, h, e1, comps_len]
        rw [if_pos hk] at hbt
        refine weak_again ⟨j + 1, by omega⟩ (by simp only; omega) ?_
        rw [hSt2]
        simp only
        rw [hbt, Nat.add_zero]
        refine weak_go [] [.live 2] ?_
        simp only [goRules, coreRules, tiRules, unRules, AS_of_eq, ← decide_not, N0, N1, N2, N3, N4, N5, Z0, Z1, Z2, Z3, Z4, Z5, Z6, Z7, Z8, Z9, Z10, Zc, ↓reduceIte, reduceCtorEq, bls_len, mix_len (g := (List.replicate n false)) (h := goneU (unL a)) (by rw [goneU_len, List.length_replicate]; omega), List.length_replicate] <;> ((repeat' apply And.intro) <;> first | rfl | omega | trivial)
      rw [if_neg hk] at hbt
      simp only [hk, if_false] at hmid
      simp (disch := omega) only [goRules, coreRules, tiRules, unRules, AS_of_eq, ← decide_not, N0, N1, N2, N3, N4, N5, Z0, Z1, Z2, Z3, Z4, Z5, Z6, Z7, Z8, Z9, Z10, Zc, ↓reduceIte, reduceCtorEq, wrap_i64, hk, h, e1, comps_len]
      generalize hA : bU (unL (a.take j)) = A at *
      obtain ⟨St3, hSt3⟩ : ∃ St3 : { k : Nat // k ≤ cn.toNat } → AS, ∀ k, St3 k = AS.of 81 [(0, .v (.int .i64 n)), (1, .sl 0 3 (comps a)), (2, .sl 0 3 (comps b)), (7, .sl 2 1 (bls (mix (List.replicate n false) (goneU (unL a)) (A + k.1)))), (8, .v (.int .i64 ((0 : Nat) : Int))), (9, .sl 0 3 (comps a)), (10, .v (.int .i64 (A + k.1 : Nat))), (11, .v (.int .i64 j)), (12, .v (.int .i64 k.1))] [] [(n, 4)] := ⟨_, fun _ => rfl⟩
      refine vc_loop hΓ St3 (fun k => cn.toNat - k.1) ⟨0, by omega⟩ (by rw [hSt3]; refine weak_go [] [.live 2] ?_; simp only [goRules, coreRules, tiRules, unRules, AS_of_eq, ← decide_not, N0, N1, N2, N3, N4, N5, Z0, Z1, Z2, Z3, Z4, Z5, Z6, Z7, Z8, Z9, Z10, Zc, ↓reduceIte, reduceCtorEq, bls_len, mix_len (g := (List.replicate n false)) (h := goneU (unL a)) (by rw [goneU_len, List.length_replicate]; omega), List.length_replicate] <;> ((repeat' apply And.intro) <;> first | rfl | omega | trivial)) ?_
      rintro ⟨k, hkk⟩
      rw [hSt3]
      simp only
      simp only [goRules, coreRules, tiRules, unRules, AS_of_eq, ← decide_not, N0, N1, N2, N3, N4, N5, Z0, Z1, Z2, Z3, Z4, Z5, Z6, Z7, Z8, Z9, Z10, Zc, ↓reduceIte, reduceCtorEq, comps_len, e1]
      (repeat (with_reducible refine And.intro ?_ ?_; focus (first | omega | exact mixed1 | kernel_rfl)))
      by_cases h6 : (k : Int) < cn
      · have e5 : goneU (unL a) = goneU (unL a) := rfl
        have hg := hmid k (by omega)
        have hst := mix_step (g := (List.replicate n false)) (h := goneU (unL a)) (k := A + k) (by rw [List.length_replicate]; omega) (by rw [goneU_len]; omega)
        have hgl : A + k < (goneU (unL a)).length := by rw [goneU_len]; omega
        have hgg : A + k < ((List.replicate n false)).length := by rw [List.length_replicate]; omega
        rw [List.getElem?_eq_getElem hgl] at hg
        rw [Option.some.inj hg] at hst
        have e7 : (bls (mix (List.replicate n false) (goneU (unL a)) (A + k))).getD (A + k) .any = .v (.bool ((List.replicate n false))[A + k]) := by
          rw [bls, List.getD_eq_getElem?_getD, List.getElem?_map, mix_get hgg hgl]; rfl
        try simp only [List.getElem_replicate] at e7 hst
        simp (disch := omega) only [goRules, coreRules, tiRules, unRules, AS_of_eq, ← decide_not, N0, N1, N2, N3, N4, N5, Z0, Z1, Z2, Z3, Z4, Z5, Z6, Z7, Z8, Z9, Z10, Zc, ↓reduceIte, reduceCtorEq, wrap_i64, h6, e1, comps_len, show ((A + k : Nat) : Int) < n from by omega]
        refine ⟨⟨by omega, by rw [bls_len, mix_len (g := (List.replicate n false)) (h := goneU (unL a)) (by rw [goneU_len, List.length_replicate]; omega), List.length_replicate]; omega⟩, ?_⟩
        rw [e7]
        simp only [Bool.true_or, Bool.false_or] at hst
        simp only [goRules, coreRules, tiRules, unRules, AS_of_eq, ← decide_not, N0, N1, N2, N3, N4, N5, Z0, Z1, Z2, Z3, Z4, Z5, Z6, Z7, Z8, Z9, Z10, Zc, ↓reduceIte, reduceCtorEq, h6, e1, comps_len]
        have hbl : (bls (mix (List.replicate n false) (goneU (unL a)) (A + k))).length = n := by rw [bls_len, mix_len (g := (List.replicate n false)) (h := goneU (unL a)) (by rw [goneU_len, List.length_replicate]; omega), List.length_replicate] <;> omega
        rw [hbl]
        (repeat (with_reducible refine And.intro ?_ ?_; focus (first | omega | exact mixed1 | kernel_rfl)))
        rw [e7]
        refine weak_again ⟨k + 1, by omega⟩ (by simp only; omega) ?_
        rw [hSt3]
        simp only [setEl, List.headD_cons]
        rw [show A + (k + 1) = A + k + 1 by omega, ← hst, ← bls_set]
        have w1 : IntKind.i64.wrap (((A + k : Nat) : Int) + 1) = ((A + k + 1 : Nat) : Int) := by rw [wrap_i64 (by omega) (by omega)]; omega
        have w2 : IntKind.i64.wrap ((k : Int) + 1) = ((k + 1 : Nat) : Int) := by rw [wrap_i64 (by omega) (by omega)]; omega
        refine weak_go [] [.live 2] ?_
        simp only [goRules, coreRules, tiRules, unRules, AS_of_eq, ← decide_not, N0, N1, N2, N3, N4, N5, Z0, Z1, Z2, Z3, Z4, Z5, Z6, Z7, Z8, Z9, Z10, Zc, ↓reduceIte, reduceCtorEq, AV.turn, hbl, w1, w2, List.length_set] <;> ((repeat' apply And.intro) <;> first | rfl | omega | trivial)
      · have hkk2 : k = cn.toNat := by omega
        simp (disch := omega) only [goRules, coreRules, tiRules, unRules, AS_of_eq, ← decide_not, N0, N1, N2, N3, N4, N5, Z0, Z1, Z2, Z3, Z4, Z5, Z6, Z7, Z8, Z9, Z10, Zc, ↓reduceIte, reduceCtorEq, wrap_i64, h6, h, e1, comps_len]
        refine weak_again ⟨j + 1, by omega⟩ (by simp only; omega) ?_
        rw [hSt2]
        simp only
        rw [hbt, hkk2]
        refine weak_go [] [.live 2] ?_
        simp only [goRules, coreRules, tiRules, unRules, AS_of_eq, ← decide_not, N0, N1, N2, N3, N4, N5, Z0, Z1, Z2, Z3, Z4, Z5, Z6, Z7, Z8, Z9, Z10, Zc, ↓reduceIte, reduceCtorEq, bls_len, mix_len (g := (List.replicate n false)) (h := goneU (unL a)) (by rw [goneU_len, List.length_replicate]; omega), List.length_replicate] <;> ((repeat' apply And.intro) <;> first | rfl | omega | trivial)
    · rw [List.take_of_length_le (by omega)] at *
      simp only [goRules, coreRules, tiRules, unRules, AS_of_eq, ← decide_not, N0, N1, N2, N3, N4, N5, Z0, Z1, Z2, Z3, Z4, Z5, Z6, Z7, Z8, Z9, Z10, Zc, ↓reduceIte, reduceCtorEq, h]
      refine weak_again ⟨0 + 1, by omega⟩ (by simp only; omega) ?_
      rw [hSt]
      simp only
      rw [mix_all (by rw [List.length_replicate]; omega) (goneU_len _), show (List.replicate n false) = List.replicate (goneU (unL a)).length false by rw [goneU_len]; congr 1; omega, zip_false, hG1]
      refine weak_go [] [.live 2] ?_
      simp only [goRules, coreRules, tiRules, unRules, AS_of_eq, ← decide_not, N0, N1, N2, N3, N4, N5, Z0, Z1, Z2, Z3, Z4, Z5, Z6, Z7, Z8, Z9, Z10, Zc, ↓reduceIte, reduceCtorEq, bls_len, List.length_zipWith, goneU_len] <;> ((repeat' apply And.intro) <;> first | rfl | omega | trivial)
  · simp only [goRules, coreRules, tiRules, unRules, AS_of_eq, ← decide_not, N0, N1, N2, N3, N4, N5, Z0, Z1, Z2, Z3, Z4, Z5, Z6, Z7, Z8, Z9, Z10, Zc, ↓reduceIte, reduceCtorEq, hG1]
    obtain ⟨St2, hSt2⟩ : ∃ St2 : { j : Nat // j ≤ b.length } → AS, ∀ j, St2 j = AS.of 81 [(0, .v (.int .i64 n)), (1, .sl 0 3 (comps a)), (2, .sl 0 3 (comps b)), (7, .sl 2 1 (bls (mix (goneU (unL a)) (goneU (unL b)) (bU (unL (b.take j.1)))))), (8, .v (.int .i64 ((1 : Nat) : Int))), (9, .sl 0 3 (comps b)), (10, .v (.int .i64 (bU (unL (b.take j.1))))), (11, .v (.int .i64 j.1))] [] [(n, 4)] := ⟨_, fun _ => rfl⟩
    refine vc_loop hΓ St2 (fun j => b.length - j.1) ⟨0, by omega⟩ (by rw [hSt2]; refine weak_go [] [.live 2] ?_; simp only [goRules, coreRules, tiRules, unRules, AS_of_eq, ← decide_not, N0, N1, N2, N3, N4, N5, Z0, Z1, Z2, Z3, Z4, Z5, Z6, Z7, Z8, Z9, Z10, Zc, ↓reduceIte, reduceCtorEq, List.take_zero, unL, bU, mix_zero, bls_len, goneU_len] <;> ((repeat' apply And.intro) <;> first | rfl | omega | trivial)) ?_
    rintro ⟨j, hj⟩
    rw [hSt2]
    simp only
    simp only [goRules, coreRules, tiRules, unRules, AS_of_eq, ← decide_not, N0, N1, N2, N3, N4, N5, Z0, Z1, Z2, Z3, Z4, Z5, Z6, Z7, Z8, Z9, Z10, Zc, ↓reduceIte, reduceCtorEq, comps_len]
    (with_reducible first | refine branchP_dec (fun h => ?_) (fun h => ?_) | refine guardB_dec (fun h => ?_) (fun h => ?_))
    · have hlt : j < b.length := by omega
      have e1 := comps_getD b hlt
      have etk := List.take_succ_eq_append_getElem hlt
      have edr := List.take_append_drop j b
      rw [List.drop_eq_getElem_cons hlt] at edr
      have es := cb.2.2.1 b[j] (List.getElem_mem hlt)
      have esp := size_pos es
      have eok := ob.2.2 b[j] (List.getElem_mem hlt)
      have hmid := gone_mid (a := b.take j) (c := b[j]) (r := b.drop (j + 1)) es
      rw [edr] at hmid
      have hbase := (show bU (unL b) = n by omega)
      have hbt : bU (unL (b.take (j + 1))) = bU (unL (b.take j)) + (if b[j].k = 2 then 0 else b[j].n.toNat) := by
        rw [etk, unL_app, bU_app]; congr 1
        simp only [unL, List.append_nil]; exact bU_part es
      have hle : bU (unL (b.take (j + 1))) ≤ n := by
        have e3 := List.take_append_drop (j + 1) b
        have e4 : bU (unL b) = bU (unL (b.take (j + 1))) + bU (unL (b.drop (j + 1))) := by
          rw [← bU_app, ← unL_app, e3]
        omega
      clear edr
      generalize b[j] = c at *
      obtain ⟨ck, cn, ct⟩ := c
      simp only at hmid hbt eok
      simp (disch := omega) only [goRules, coreRules, tiRules, unRules, AS_of_eq, ← decide_not, N0, N1, N2, N3, N4, N5, Z0, Z1, Z2, Z3, Z4, Z5, Z6, Z7, Z8, Z9, Z10, Zc, ↓reduceIte, reduceCtorEq, wrap_i64, h, e1, comps_len]
      (repeat (with_reducible refine And.intro ?_ ?_; focus (first | omega | exact mixed1 | kernel_rfl)))
      by_cases hk : ck = 2
      · simp (disch := omega) only [goRules, coreRules, tiRules, unRules, AS_of_eq, ← decide_not, N0, N1, N2, N3, N4, N5, Z0, Z1, Z2, Z3, Z4, Z5, Z6, Z7, Z8, Z9, Z10, Zc, ↓reduceIte, reduceCtorEq, wrap_i64, hk, h, e1, comps_len]
        rw [if_pos hk] at hbt
        refine weak_again ⟨j + 1, by omega⟩ (by simp only; omega) ?_
        rw [hSt2]
        simp only
        rw [hbt, Nat.add_zero]
        refine weak_go [] [.live 2] ?_
        simp only [goRules, coreRules, tiRules, unRules, AS_of_eq, ← decide_not, N0, N1, N2, N3, N4, N5, Z0, Z1, Z2, Z3, Z4, Z5, Z6, Z7, Z8, Z9, Z10, Zc, ↓reduceIte, reduceCtorEq, bls_len, mix_len (g := (goneU (unL a))) (h := goneU (unL b)) (by rw [goneU_len, goneU_len]; omega), goneU_len] <;> ((repeat' apply And.intro) <;> first | rfl | omega | trivial)
      rw [if_neg hk] at hbt
      simp only [hk, if_false] at hmid
      simp (disch := omega) only [goRules, coreRules, tiRules, unRules, AS_of_eq, ← decide_not, N0, N1, N2, N3, N4, N5, Z0, Z1, Z2, Z3, Z4, Z5, Z6, Z7, Z8, Z9, Z10, Zc, ↓reduceIte, reduceCtorEq, wrap_i64, hk, h, e1, comps_len]
      generalize hA : bU (unL (b.take j)) = A at *
      obtain ⟨St3, hSt3⟩ : ∃ St3 : { k : Nat // k ≤ cn.toNat } → AS, ∀ k, St3 k = AS.of 81 [(0, .v (.int .i64 n)), (1, .sl 0 3 (comps a)), (2, .sl 0 3 (comps b)), (7, .sl 2 1 (bls (mix (goneU (unL a)) (goneU (unL b)) (A + k.1)))), (8, .v (.int .i64 ((1 : Nat) : Int))), (9, .sl 0 3 (comps b)), (10, .v (.int .i64 (A + k.1 : Nat))), (11, .v (.int .i64 j)), (12, .v (.int .i64 k.1))] [] [(n, 4)] := ⟨_, fun _ => rfl⟩
      refine vc_loop hΓ St3 (fun k => cn.toNat - k.1) ⟨0, by omega⟩ (by rw [hSt3]; refine weak_go [] [.live 2] ?_; simp only [goRules, coreRules, tiRules, unRules, AS_of_eq, ← decide_not, N0, N1, N2, N3, N4, N5, Z0, Z1, Z2, Z3, Z4, Z5, Z6, Z7, Z8, Z9, Z10, Zc, ↓reduceIte, reduceCtorEq, bls_len, mix_len (g := (goneU (unL a))) (h := goneU (unL b)) (by rw [goneU_len, goneU_len]; omega), goneU_len] <;> ((repeat' apply And.intro) <;> first | rfl | omega | trivial)) ?_
      rintro ⟨k, hkk⟩
      rw [hSt3]
      simp only
      simp only [goRules, coreRules, tiRules, unRules, AS_of_eq, ← decide_not, N0, N1, N2, N3, N4, N5, Z0, Z1, Z2, Z3, Z4, Z5, Z6, Z7, Z8, Z9, Z10, Zc, ↓reduceIte, reduceCtorEq, comps_len, e1]
      (repeat (with_reducible refine And.intro ?_ ?_; focus (first | omega | exact mixed1 | kernel_rfl)))
      by_cases h6 : (k : Int) < cn
      · have e5 : goneU (unL b) = goneU (unL b) := rfl
        have hg := hmid k (by omega)
        have hst := mix_step (g := (goneU (unL a))) (h := goneU (unL b)) (k := A + k) (by rw [goneU_len]; omega) (by rw [goneU_len]; omega)
        have hgl : A + k < (goneU (unL b)).length := by rw [goneU_len]; omega
        have hgg : A + k < ((goneU (unL a))).length := by rw [goneU_len]; omega
        rw [List.getElem?_eq_getElem hgl] at hg
        rw [Option.some.inj hg] at hst
        have e7 : (bls (mix (goneU (unL a)) (goneU (unL b)) (A + k))).getD (A + k) .any = .v (.bool ((goneU (unL a)))[A + k]) := by
          rw [bls, List.getD_eq_getElem?_getD, List.getElem?_map, mix_get hgg hgl]; rfl
        try simp only [List.getElem_replicate] at e7 hst
        simp (disch := omega) only [goRules, coreRules, tiRules, unRules, AS_of_eq, ← decide_not, N0, N1, N2, N3, N4, N5, Z0, Z1, Z2, Z3, Z4, Z5, Z6, Z7, Z8, Z9, Z10, Zc, ↓reduceIte, reduceCtorEq, wrap_i64, h6, e1, comps_len, show ((A + k : Nat) : Int) < n from by omega]
        refine ⟨⟨by omega, by rw [bls_len, mix_len (g := (goneU (unL a))) (h := goneU (unL b)) (by rw [goneU_len, goneU_len]; omega), goneU_len]; omega⟩, ?_⟩
        rw [e7]
        generalize hx : (goneU (unL a))[A + k] = x at e7 hst ⊢
        cases x with
        | true =>
          simp only [Bool.true_or, Bool.false_or] at hst
          simp only [goRules, coreRules, tiRules, unRules, AS_of_eq, ← decide_not, N0, N1, N2, N3, N4, N5, Z0, Z1, Z2, Z3, Z4, Z5, Z6, Z7, Z8, Z9, Z10, Zc, ↓reduceIte, reduceCtorEq, h6, e1, comps_len]
          have hbl : (bls (mix (goneU (unL a)) (goneU (unL b)) (A + k))).length = n := by rw [bls_len, mix_len (g := (goneU (unL a))) (h := goneU (unL b)) (by rw [goneU_len, goneU_len]; omega), goneU_len] <;> omega
          rw [hbl]
          (repeat (with_reducible refine And.intro ?_ ?_; focus (first | omega | exact mixed1 | kernel_rfl)))
          rw [e7]
          refine weak_again ⟨k + 1, by omega⟩ (by simp only; omega) ?_
          rw [hSt3]
          simp only [setEl, List.headD_cons]
          rw [show A + (k + 1) = A + k + 1 by omega, ← hst, ← bls_set]
          have w1 : IntKind.i64.wrap (((A + k : Nat) : Int) + 1) = ((A + k + 1 : Nat) : Int) := by rw [wrap_i64 (by omega) (by omega)]; omega
          have w2 : IntKind.i64.wrap ((k : Int) + 1) = ((k + 1 : Nat) : Int) := by rw [wrap_i64 (by omega) (by omega)]; omega
          refine weak_go [] [.live 2] ?_
          simp only [goRules, coreRules, tiRules, unRules, AS_of_eq, ← decide_not, N0, N1, N2, N3, N4, N5, Z0, Z1, Z2, Z3, Z4, Z5, Z6, Z7, Z8, Z9, Z10, Zc, ↓reduceIte, reduceCtorEq, AV.turn, hbl, w1, w2, List.length_set] <;> ((repeat' apply And.intro) <;> first | rfl | omega | trivial)
        | false =>
          simp only [Bool.true_or, Bool.false_or] at hst
          simp only [goRules, coreRules, tiRules, unRules, AS_of_eq, ← decide_not, N0, N1, N2, N3, N4, N5, Z0, Z1, Z2, Z3, Z4, Z5, Z6, Z7, Z8, Z9, Z10, Zc, ↓reduceIte, reduceCtorEq, h6, e1, comps_len]
          have hbl : (bls (mix (goneU (unL a)) (goneU (unL b)) (A + k))).length = n := by rw [bls_len, mix_len (g := (goneU (unL a))) (h := goneU (unL b)) (by rw [goneU_len, goneU_len]; omega), goneU_len] <;> omega
          rw [hbl]
          (repeat (with_reducible refine And.intro ?_ ?_; focus (first | omega | exact mixed1 | kernel_rfl)))
          rw [e7]
          refine weak_again ⟨k + 1, by omega⟩ (by simp only; omega) ?_
          rw [hSt3]
          simp only [setEl, List.headD_cons]
          rw [show A + (k + 1) = A + k + 1 by omega, ← hst, ← bls_set]
          have w1 : IntKind.i64.wrap (((A + k : Nat) : Int) + 1) = ((A + k + 1 : Nat) : Int) := by rw [wrap_i64 (by omega) (by omega)]; omega
          have w2 : IntKind.i64.wrap ((k : Int) + 1) = ((k + 1 : Nat) : Int) := by rw [wrap_i64 (by omega) (by omega)]; omega
          refine weak_go [] [.live 2] ?_
          simp only [goRules, coreRules, tiRules, unRules, AS_of_eq, ← decide_not, N0, N1, N2, N3, N4, N5, Z0, Z1, Z2, Z3, Z4, Z5, Z6, Z7, Z8, Z9, Z10, Zc, ↓reduceIte, reduceCtorEq, AV.turn, hbl, w1, w2, List.length_set] <;> ((repeat' apply And.intro) <;> first | rfl | omega | trivial)
      · have hkk2 : k = cn.toNat := by omega
        simp (disch := omega) only [goRules, coreRules, tiRules, unRules, AS_of_eq, ← decide_not, N0, N1, N2, N3, N4, N5, Z0, Z1, Z2, Z3, Z4, Z5, Z6, Z7, Z8, Z9, Z10, Zc, ↓reduceIte, reduceCtorEq, wrap_i64, h6, h, e1, comps_len]
        refine weak_again ⟨j + 1, by omega⟩ (by simp only; omega) ?_
        rw [hSt2]
        simp only
        rw [hbt, hkk2]
        refine weak_go [] [.live 2] ?_
        simp only [goRules, coreRules, tiRules, unRules, AS_of_eq, ← decide_not, N0, N1, N2, N3, N4, N5, Z0, Z1, Z2, Z3, Z4, Z5, Z6, Z7, Z8, Z9, Z10, Zc, ↓reduceIte, reduceCtorEq, bls_len, mix_len (g := (goneU (unL a))) (h := goneU (unL b)) (by rw [goneU_len, goneU_len]; omega), goneU_len] <;> ((repeat' apply And.intro) <;> first | rfl | omega | trivial)
    · rw [List.take_of_length_le (by omega)] at *
      simp only [goRules, coreRules, tiRules, unRules, AS_of_eq, ← decide_not, N0, N1, N2, N3, N4, N5, Z0, Z1, Z2, Z3, Z4, Z5, Z6, Z7, Z8, Z9, Z10, Zc, ↓reduceIte, reduceCtorEq, h]
      refine weak_again ⟨1 + 1, by omega⟩ (by simp only; omega) ?_
      rw [hSt]
      simp only
      rw [mix_all (by rw [goneU_len]; omega) (goneU_len _), hG2]
      refine weak_go [] [.live 2] ?_
      simp only [goRules, coreRules, tiRules, unRules, AS_of_eq, ← decide_not, N0, N1, N2, N3, N4, N5, Z0, Z1, Z2, Z3, Z4, Z5, Z6, Z7, Z8, Z9, Z10, Zc, ↓reduceIte, reduceCtorEq, bls_len, List.length_zipWith, goneU_len] <;> ((repeat' apply And.intro) <;> first | rfl | omega | trivial)
  · simp only [goRules, coreRules, tiRules, unRules, AS_of_eq, ← decide_not, N0, N1, N2, N3, N4, N5, Z0, Z1, Z2, Z3, Z4, Z5, Z6, Z7, Z8, Z9, Z10, Zc, ↓reduceIte, reduceCtorEq, hG2]
    generalize hz : List.zipWith (· || ·) (goneU (unL a)) (goneU (unL b)) = z at *
    have hzl : z.length = n := by rw [← hz, List.length_zipWith]; omega
    clear hSt St
    obtain ⟨St, hSt⟩ : ∃ St : { i : Nat // i ≤ n } → AS, ∀ i, St i = AS.of 81 [(0, .v (.int .i64 n)), (7, .sl 2 1 (bls z)), (13, .v (.int .i64 ((z.take i.1).count false : Nat))), (14, .v (.int .i64 i.1))] [] [(n, 4)] := ⟨_, fun _ => rfl⟩
    refine vc_loop hΓ St (fun i => n - i.1) ⟨0, by omega⟩ (by rw [hSt]; refine weak_go [] [.live 2] ?_; simp only [goRules, coreRules, tiRules, unRules, AS_of_eq, ← decide_not, N0, N1, N2, N3, N4, N5, Z0, Z1, Z2, Z3, Z4, Z5, Z6, Z7, Z8, Z9, Z10, Zc, ↓reduceIte, reduceCtorEq, List.take_zero, List.count_nil, hzl, bls_len] <;> ((repeat' apply And.intro) <;> first | rfl | omega | trivial)) ?_
    rintro ⟨i, hi⟩
    rw [hSt]
    simp only
    simp only [goRules, coreRules, tiRules, unRules, AS_of_eq, ← decide_not, N0, N1, N2, N3, N4, N5, Z0, Z1, Z2, Z3, Z4, Z5, Z6, Z7, Z8, Z9, Z10, Zc, ↓reduceIte, reduceCtorEq, bls_len, hzl]
    (with_reducible first | refine branchP_dec (fun h => ?_) (fun h => ?_) | refine guardB_dec (fun h => ?_) (fun h => ?_))
    · have hlt : i < z.length := by omega
      have hct := count_take hlt
      have hcl := List.count_le_length (a := false) (l := z.take i)
      rw [List.length_take] at hcl
      simp (disch := omega) only [goRules, coreRules, tiRules, unRules, AS_of_eq, ← decide_not, N0, N1, N2, N3, N4, N5, Z0, Z1, Z2, Z3, Z4, Z5, Z6, Z7, Z8, Z9, Z10, Zc, ↓reduceIte, reduceCtorEq, wrap_i64, h, bls_len, hzl, bls_getD z hlt]
      (repeat (with_reducible refine And.intro ?_ ?_; focus (first | omega | exact mixed1 | kernel_rfl)))
      cases hzi : z[i] with
      | true =>
        rw [hzi] at hct
        simp (disch := omega) only [goRules, coreRules, tiRules, unRules, AS_of_eq, ← decide_not, N0, N1, N2, N3, N4, N5, Z0, Z1, Z2, Z3, Z4, Z5, Z6, Z7, Z8, Z9, Z10, Zc, ↓reduceIte, reduceCtorEq, wrap_i64, h, bls_len, hzl, hzi]
        (repeat (with_reducible refine And.intro ?_ ?_; focus (first | omega | exact mixed1 | kernel_rfl)))
        refine weak_again ⟨i + 1, by omega⟩ (by simp only; omega) ?_
        rw [hSt]
        simp only
        rw [hct]
        refine weak_go [] [.live 2] ?_
        simp only [goRules, coreRules, tiRules, unRules, AS_of_eq, ← decide_not, N0, N1, N2, N3, N4, N5, Z0, Z1, Z2, Z3, Z4, Z5, Z6, Z7, Z8, Z9, Z10, Zc, ↓reduceIte, reduceCtorEq, bls_len, hzl] <;> ((repeat' apply And.intro) <;> first | rfl | omega | trivial)
      | false =>
        rw [hzi] at hct
        simp (disch := omega) only [goRules, coreRules, tiRules, unRules, AS_of_eq, ← decide_not, N0, N1, N2, N3, N4, N5, Z0, Z1, Z2, Z3, Z4, Z5, Z6, Z7, Z8, Z9, Z10, Zc, ↓reduceIte, reduceCtorEq, wrap_i64, h, bls_len, hzl, hzi]
        (repeat (with_reducible refine And.intro ?_ ?_; focus (first | omega | exact mixed1 | kernel_rfl)))
        refine weak_again ⟨i + 1, by omega⟩ (by simp only; omega) ?_
        rw [hSt]
        simp only
        rw [hct]
        refine weak_go [] [.live 2] ?_
        simp only [goRules, coreRules, tiRules, unRules, AS_of_eq, ← decide_not, N0, N1, N2, N3, N4, N5, Z0, Z1, Z2, Z3, Z4, Z5, Z6, Z7, Z8, Z9, Z10, Zc, ↓reduceIte, reduceCtorEq, bls_len, hzl] <;> ((repeat' apply And.intro) <;> first | rfl | omega | trivial)
    · rw [List.take_of_length_le (by omega)]
      simp only [goRules, coreRules, tiRules, unRules, AS_of_eq, ← decide_not, N0, N1, N2, N3, N4, N5, Z0, Z1, Z2, Z3, Z4, Z5, Z6, Z7, Z8, Z9, Z10, Zc, ↓reduceIte, reduceCtorEq, h]
      unfold stayN
      rw [hz]
end Go.Proofs
end

-- AAy3
section
namespace Go.Proofs
open Go Go.Rw
open _root_.Nat renaming reduceAdd → N0, reduceSub → N1, reduceMul → N2, reduceLT → N3, reduceLeDiff → N4, reduceEqDiff → N5
open _root_.Int renaming reduceNeg → Z0, reduceAdd → Z1, reduceSub → Z2, reduceMul → Z3, reduceGT → Z4, reduceGE → Z5, reduceLT → Z6, reduceLE → Z7, reduceEq → Z8, reduceNe → Z9, reduceToNat → Z10, cast_ofNat_Int → Zc
set_option maxRecDepth 100000
set_option linter.unusedSimpArgs false
set_option linter.unusedVariables false

theorem call_bothn {Γ : Env} (hf : Γ.get 48 = some bothnCon) {σ : AS} {dr : Bool} {n : Int} {m : Nat} {a b : List Cp} {ys zs : List AV} {d : Option Nat} {K : AS → Prop} (hn : n = m) (hy : ys = comps a) (hz : zs = comps b)
    (h : m ≤ 2000 ∧ checkI a = 0 ∧ checkI b = 0 ∧ okL a ∧ okL b ∧ baseL a = m ∧ baseL b = m)
    (hk : cont σ d (.v (.int .i64 (stayN (goneU (unL a)) (goneU (unL b))))) K) : vcCall Tryd.prog Γ dr σ 48 [.v (.int .i64 n), .sl 0 3 ys, .sl 0 3 zs] d K := by
  subst hn hy hz
  exact vcCall_plain (C := bothnCon) (i := ⟨(m, a, b), h⟩) hf rfl rfl rfl rfl (fun _ h => h) rfl hk
abbrev keeps10Con : Con where
  ι := Num × Given × Given × Bool
  args := fun p => [.v (.int .i64 p.1.1), .sl 0 3 (comps p.2.1.1), .sl 0 3 (comps p.2.2.1.1), .v (.bool p.2.2.2)]
  post := fun _ r => r = .v (.bool true)
  plain := true
theorem keeps10_good : Rw.Good Tryd.prog 13 keeps10Con := by
  have hΓ : GoodEnv Tryd.prog [(42, trueCon), (16, weighCon), (17, checkCon), (18, baseCon), (20, rtextCon), (22, doCon), (23, rpointsCon), (43, overCon), (47, namedCon), (48, bothnCon)] := (goodEnv_cons awake10_good (goodEnv_cons weigh_good (goodEnv_cons check_good (goodEnv_cons base_good (goodEnv_cons rtext_good (goodEnv_cons do_good (goodEnv_cons rpoints_good (goodEnv_cons over_good (goodEnv_cons named_good (goodEnv_cons bothn_good goodEnv_nil))))))))))
  refine good_fn (nn := 199) hΓ Tryd.func13 (by kernel_rfl) rfl (show Tryd.f13.results.toList = [.tmp 8] from rfl) (fun _ => rfl) (fun _ => rfl) ?_
  rintro ⟨⟨n, hn⟩, ⟨a, ha, hca⟩, ⟨b, hb, hcb⟩, f⟩
  simp only [goRules, coreRules, tiRules, unRules, AS_of_eq, ← decide_not, N0, N1, N2, N3, N4, N5, Z0, Z1, Z2, Z3, Z4, Z5, Z6, Z7, Z8, Z9, Z10, Zc, ↓reduceIte, reduceCtorEq]
  by_cases h1 : n < 0
  · simp only [goRules, coreRules, tiRules, unRules, AS_of_eq, ← decide_not, N0, N1, N2, N3, N4, N5, Z0, Z1, Z2, Z3, Z4, Z5, Z6, Z7, Z8, Z9, Z10, Zc, ↓reduceIte, reduceCtorEq, h1]
    refine call_awake10 (by simp [get_cons]) ?_
    simp only [goRules, coreRules, tiRules, unRules, AS_of_eq, ← decide_not, N0, N1, N2, N3, N4, N5, Z0, Z1, Z2, Z3, Z4, Z5, Z6, Z7, Z8, Z9, Z10, Zc, ↓reduceIte, reduceCtorEq]
  by_cases h2 : n > 200
  · simp only [goRules, coreRules, tiRules, unRules, AS_of_eq, ← decide_not, N0, N1, N2, N3, N4, N5, Z0, Z1, Z2, Z3, Z4, Z5, Z6, Z7, Z8, Z9, Z10, Zc, ↓reduceIte, reduceCtorEq, h1, h2]
    refine call_awake10 (by simp [get_cons]) ?_
    simp only [goRules, coreRules, tiRules, unRules, AS_of_eq, ← decide_not, N0, N1, N2, N3, N4, N5, Z0, Z1, Z2, Z3, Z4, Z5, Z6, Z7, Z8, Z9, Z10, Zc, ↓reduceIte, reduceCtorEq]
  simp only [goRules, coreRules, tiRules, unRules, AS_of_eq, ← decide_not, N0, N1, N2, N3, N4, N5, Z0, Z1, Z2, Z3, Z4, Z5, Z6, Z7, Z8, Z9, Z10, Zc, ↓reduceIte, reduceCtorEq, h1, h2]
  refine call_weigh (by simp [get_cons]) rfl ha (fun c h => (hca c h).2) (by omega) ?_
  by_cases h3 : compsF 1000 0 a > 1000
  · simp only [goRules, coreRules, tiRules, unRules, AS_of_eq, ← decide_not, N0, N1, N2, N3, N4, N5, Z0, Z1, Z2, Z3, Z4, Z5, Z6, Z7, Z8, Z9, Z10, Zc, ↓reduceIte, reduceCtorEq, h3]
    refine call_awake10 (by simp [get_cons]) ?_
    simp only [goRules, coreRules, tiRules, unRules, AS_of_eq, ← decide_not, N0, N1, N2, N3, N4, N5, Z0, Z1, Z2, Z3, Z4, Z5, Z6, Z7, Z8, Z9, Z10, Zc, ↓reduceIte, reduceCtorEq]
  simp only [goRules, coreRules, tiRules, unRules, AS_of_eq, ← decide_not, N0, N1, N2, N3, N4, N5, Z0, Z1, Z2, Z3, Z4, Z5, Z6, Z7, Z8, Z9, Z10, Zc, ↓reduceIte, reduceCtorEq, h3]
  refine call_weigh (by simp [get_cons]) rfl hb (fun c h => (hcb c h).2) (by omega) ?_
  by_cases h4 : compsF 1000 0 b > 1000
  · simp only [goRules, coreRules, tiRules, unRules, AS_of_eq, ← decide_not, N0, N1, N2, N3, N4, N5, Z0, Z1, Z2, Z3, Z4, Z5, Z6, Z7, Z8, Z9, Z10, Zc, ↓reduceIte, reduceCtorEq, h4]
    refine call_awake10 (by simp [get_cons]) ?_
    simp only [goRules, coreRules, tiRules, unRules, AS_of_eq, ← decide_not, N0, N1, N2, N3, N4, N5, Z0, Z1, Z2, Z3, Z4, Z5, Z6, Z7, Z8, Z9, Z10, Zc, ↓reduceIte, reduceCtorEq]
  obtain ⟨oa, hwa⟩ := weigh_ok (by omega) hca (show compsF 1000 0 a ≤ 1000 by omega)
  obtain ⟨ob, hwb⟩ := weigh_ok (by omega) hcb (show compsF 1000 0 b ≤ 1000 by omega)
  simp only [goRules, coreRules, tiRules, unRules, AS_of_eq, ← decide_not, N0, N1, N2, N3, N4, N5, Z0, Z1, Z2, Z3, Z4, Z5, Z6, Z7, Z8, Z9, Z10, Zc, ↓reduceIte, reduceCtorEq, h4]
  refine call_check (by simp [get_cons]) rfl oa ?_
  by_cases k1 : checkI a = 0
  case neg =>
    simp only [goRules, coreRules, tiRules, unRules, AS_of_eq, ← decide_not, N0, N1, N2, N3, N4, N5, Z0, Z1, Z2, Z3, Z4, Z5, Z6, Z7, Z8, Z9, Z10, Zc, ↓reduceIte, reduceCtorEq, k1]
    refine call_awake10 (by simp [get_cons]) ?_
    simp only [goRules, coreRules, tiRules, unRules, AS_of_eq, ← decide_not, N0, N1, N2, N3, N4, N5, Z0, Z1, Z2, Z3, Z4, Z5, Z6, Z7, Z8, Z9, Z10, Zc, ↓reduceIte, reduceCtorEq]
  simp only [goRules, coreRules, tiRules, unRules, AS_of_eq, ← decide_not, N0, N1, N2, N3, N4, N5, Z0, Z1, Z2, Z3, Z4, Z5, Z6, Z7, Z8, Z9, Z10, Zc, ↓reduceIte, reduceCtorEq, k1]
  refine call_check (by simp [get_cons]) rfl ob ?_
  by_cases k2 : checkI b = 0
  case neg =>
    simp only [goRules, coreRules, tiRules, unRules, AS_of_eq, ← decide_not, N0, N1, N2, N3, N4, N5, Z0, Z1, Z2, Z3, Z4, Z5, Z6, Z7, Z8, Z9, Z10, Zc, ↓reduceIte, reduceCtorEq, k2]
    refine call_awake10 (by simp [get_cons]) ?_
    simp only [goRules, coreRules, tiRules, unRules, AS_of_eq, ← decide_not, N0, N1, N2, N3, N4, N5, Z0, Z1, Z2, Z3, Z4, Z5, Z6, Z7, Z8, Z9, Z10, Zc, ↓reduceIte, reduceCtorEq]
  simp only [goRules, coreRules, tiRules, unRules, AS_of_eq, ← decide_not, N0, N1, N2, N3, N4, N5, Z0, Z1, Z2, Z3, Z4, Z5, Z6, Z7, Z8, Z9, Z10, Zc, ↓reduceIte, reduceCtorEq, k2]
  refine call_base (by simp [get_cons]) rfl oa ?_
  by_cases k3 : baseL a = n
  case neg =>
    simp only [goRules, coreRules, tiRules, unRules, AS_of_eq, ← decide_not, N0, N1, N2, N3, N4, N5, Z0, Z1, Z2, Z3, Z4, Z5, Z6, Z7, Z8, Z9, Z10, Zc, ↓reduceIte, reduceCtorEq, k3]
    refine call_awake10 (by simp [get_cons]) ?_
    simp only [goRules, coreRules, tiRules, unRules, AS_of_eq, ← decide_not, N0, N1, N2, N3, N4, N5, Z0, Z1, Z2, Z3, Z4, Z5, Z6, Z7, Z8, Z9, Z10, Zc, ↓reduceIte, reduceCtorEq]
  simp only [goRules, coreRules, tiRules, unRules, AS_of_eq, ← decide_not, N0, N1, N2, N3, N4, N5, Z0, Z1, Z2, Z3, Z4, Z5, Z6, Z7, Z8, Z9, Z10, Zc, ↓reduceIte, reduceCtorEq, k3]
  refine call_base (by simp [get_cons]) rfl ob ?_
  by_cases k4 : baseL b = n
  case neg =>
    simp only [goRules, coreRules, tiRules, unRules, AS_of_eq, ← decide_not, N0, N1, N2, N3, N4, N5, Z0, Z1, Z2, Z3, Z4, Z5, Z6, Z7, Z8, Z9, Z10, Zc, ↓reduceIte, reduceCtorEq, k4]
    refine call_awake10 (by simp [get_cons]) ?_
    simp only [goRules, coreRules, tiRules, unRules, AS_of_eq, ← decide_not, N0, N1, N2, N3, N4, N5, Z0, Z1, Z2, Z3, Z4, Z5, Z6, Z7, Z8, Z9, Z10, Zc, ↓reduceIte, reduceCtorEq]
  simp only [goRules, coreRules, tiRules, unRules, AS_of_eq, ← decide_not, N0, N1, N2, N3, N4, N5, Z0, Z1, Z2, Z3, Z4, Z5, Z6, Z7, Z8, Z9, Z10, Zc, ↓reduceIte, reduceCtorEq, k4]
  obtain ⟨m, rfl⟩ := Int.eq_ofNat_of_zero_le (show 0 ≤ n by omega)
  have ora : okL (ren 3000 a) := ⟨by rw [ren_len]; omega, by have := ren_tot a 3000; omega, fun c hc' => by obtain ⟨c', h7, h8⟩ := ren_n a 3000 c hc'; rw [← h8]; exact (hca c' h7).1⟩
  have orb : okL (ren 9000 b) := ⟨by rw [ren_len]; omega, by have := ren_tot b 9000; omega, fun c hc' => by obtain ⟨c', h7, h8⟩ := ren_n b 9000 c hc'; rw [← h8]; exact (hcb c' h7).1⟩
  obtain ⟨l1, l2, l3⟩ := xkeeps_law f k1 k2 k3 k4 (by omega) (by omega) (by omega) ora orb
  obtain ⟨St, hSt⟩ : ∃ St : { i : Nat // i ≤ m } → AS, ∀ i, St i = AS.of 199 [(0, .v (.int .i64 m)), (1, .sl 0 3 (comps a)), (2, .sl 0 3 (comps b)), (3, .v (.bool f)), (9, .sl 2 1 (nats (List.range' 1000 i.1))), (10, .v (.int .i64 i.1))] [] [(i.1, 3)] := ⟨_, fun _ => rfl⟩
  refine vc_loop hΓ St (fun i => m - i.1) ⟨0, by omega⟩ (by rw [hSt]; refine weak_go [] [.nil 1] ?_; simp only [goRules, coreRules, tiRules, unRules, AS_of_eq, ← decide_not, N0, N1, N2, N3, N4, N5, Z0, Z1, Z2, Z3, Z4, Z5, Z6, Z7, Z8, Z9, Z10, Zc, ↓reduceIte, reduceCtorEq, nats_nil, List.range'] <;> ((repeat' apply And.intro) <;> first | rfl | omega | trivial)) ?_
  rintro ⟨i, hi⟩
  rw [hSt]
  simp only
  simp only [goRules, coreRules, tiRules, unRules, AS_of_eq, ← decide_not, N0, N1, N2, N3, N4, N5, Z0, Z1, Z2, Z3, Z4, Z5, Z6, Z7, Z8, Z9, Z10, Zc, ↓reduceIte, reduceCtorEq, nats_len, List.length_range']
  (with_reducible first | refine branchP_dec (fun h => ?_) (fun h => ?_) | refine guardB_dec (fun h => ?_) (fun h => ?_))
  · simp (disch := omega) only [goRules, coreRules, tiRules, unRules, AS_of_eq, ← decide_not, N0, N1, N2, N3, N4, N5, Z0, Z1, Z2, Z3, Z4, Z5, Z6, Z7, Z8, Z9, Z10, Zc, ↓reduceIte, reduceCtorEq, wrap_i64, h, nats_len, List.length_range', List.map_cons, List.map_nil]
    (repeat (with_reducible refine And.intro ?_ ?_; focus (first | omega | exact mixed1 | kernel_rfl)))
    refine weak_again ⟨i + 1, by omega⟩ (by simp only; omega) ?_
    rw [hSt]
    refine weak_go [] [.live 2] ?_
    rw [show ((1000 + (i : Int))) = ((1000 + i : Nat) : Int) by omega, nats_snoc, range_snoc]
    simp only [goRules, coreRules, tiRules, unRules, AS_of_eq, ← decide_not, N0, N1, N2, N3, N4, N5, Z0, Z1, Z2, Z3, Z4, Z5, Z6, Z7, Z8, Z9, Z10, Zc, ↓reduceIte, reduceCtorEq, nats_len, List.length_range'] <;> ((repeat' apply And.intro) <;> first | rfl | omega | trivial)
  have hmi : i = m := by omega
  subst hmi
  simp only [goRules, coreRules, tiRules, unRules, AS_of_eq, ← decide_not, N0, N1, N2, N3, N4, N5, Z0, Z1, Z2, Z3, Z4, Z5, Z6, Z7, Z8, Z9, Z10, Zc, ↓reduceIte, reduceCtorEq, h]
  refine call_rtext (by simp [get_cons]) rfl (by rw [List.length_range']; omega) (okc_range (by omega) (by omega)) ?_
  simp only [goRules, coreRules, tiRules, unRules, AS_of_eq, ← decide_not, N0, N1, N2, N3, N4, N5, Z0, Z1, Z2, Z3, Z4, Z5, Z6, Z7, Z8, Z9, Z10, Zc, ↓reduceIte, reduceCtorEq]
  have hsl : (encs (List.range' 1000 i)).length ≤ 1099511627776 := by
    have := encs_ge (List.range' 1000 i)
    rw [List.length_range'] at this
    omega
  generalize encs (List.range' 1000 i) = s at *
  clear hSt St
  refine call_named (nx := 3000) (by simp [get_cons]) rfl rfl ⟨oa, by omega, by omega, by omega, by omega⟩ ?_
  simp only [goRules, coreRules, tiRules, unRules, AS_of_eq, ← decide_not, N0, N1, N2, N3, N4, N5, Z0, Z1, Z2, Z3, Z4, Z5, Z6, Z7, Z8, Z9, Z10, Zc, ↓reduceIte, reduceCtorEq]
  refine call_named (nx := 9000) (by simp [get_cons]) rfl rfl ⟨ob, by omega, by omega, by omega, by omega⟩ ?_
  simp only [goRules, coreRules, tiRules, unRules, AS_of_eq, ← decide_not, N0, N1, N2, N3, N4, N5, Z0, Z1, Z2, Z3, Z4, Z5, Z6, Z7, Z8, Z9, Z10, Zc, ↓reduceIte, reduceCtorEq]
  refine call_do (by simp [get_cons]) rfl hsl orb ?_
  simp only [goRules, coreRules, tiRules, unRules, AS_of_eq, ← decide_not, N0, N1, N2, N3, N4, N5, Z0, Z1, Z2, Z3, Z4, Z5, Z6, Z7, Z8, Z9, Z10, Zc, ↓reduceIte, reduceCtorEq, doR, res2, l1]
  refine call_over (by simp [get_cons]) rfl rfl ora orb ?_
  have og := (ov_facts f l2 ora orb).2.2.2
  simp only [goRules, coreRules, tiRules, unRules, AS_of_eq, ← decide_not, N0, N1, N2, N3, N4, N5, Z0, Z1, Z2, Z3, Z4, Z5, Z6, Z7, Z8, Z9, Z10, Zc, ↓reduceIte, reduceCtorEq, ovR_zero l2, res2]
  refine call_check (by simp [get_cons]) rfl og ?_
  by_cases k5 : checkI (ovN f (ren 3000 a) (ren 9000 b)) = 0
  case neg =>
    simp only [goRules, coreRules, tiRules, unRules, AS_of_eq, ← decide_not, N0, N1, N2, N3, N4, N5, Z0, Z1, Z2, Z3, Z4, Z5, Z6, Z7, Z8, Z9, Z10, Zc, ↓reduceIte, reduceCtorEq, k5]
    refine call_awake10 (by simp [get_cons]) ?_
    simp only [goRules, coreRules, tiRules, unRules, AS_of_eq, ← decide_not, N0, N1, N2, N3, N4, N5, Z0, Z1, Z2, Z3, Z4, Z5, Z6, Z7, Z8, Z9, Z10, Zc, ↓reduceIte, reduceCtorEq]
  obtain ⟨y, m1, m2, m3, m4⟩ := l3 k5
  have db := done_small s (ren 9000 b)
  have dd := done_small (doneB s (ren 9000 b)) (ovN f (ren 3000 a) (ren 9000 b))
  simp only [goRules, coreRules, tiRules, unRules, AS_of_eq, ← decide_not, N0, N1, N2, N3, N4, N5, Z0, Z1, Z2, Z3, Z4, Z5, Z6, Z7, Z8, Z9, Z10, Zc, ↓reduceIte, reduceCtorEq, k5]
  refine call_do (by simp [get_cons]) rfl (by omega) og ?_
  simp only [goRules, coreRules, tiRules, unRules, AS_of_eq, ← decide_not, N0, N1, N2, N3, N4, N5, Z0, Z1, Z2, Z3, Z4, Z5, Z6, Z7, Z8, Z9, Z10, Zc, ↓reduceIte, reduceCtorEq, doR, res2, m1]
  refine call_rpoints (by simp [get_cons]) (by omega) ?_
  simp only [goRules, coreRules, tiRules, unRules, AS_of_eq, ← decide_not, N0, N1, N2, N3, N4, N5, Z0, Z1, Z2, Z3, Z4, Z5, Z6, Z7, Z8, Z9, Z10, Zc, ↓reduceIte, reduceCtorEq, rpointsR, m2]
  have hyo := (pts_some m2).1
  have nxa := nxt_le a 3000
  have nxb := nxt_le b 9000
  generalize hNA : nxt 3000 a = NA at *
  generalize hNB : nxt 9000 b = NB at *
  generalize hKP : stayN (goneU (unL a)) (goneU (unL b)) = KP at *
  obtain ⟨St, hSt⟩ : ∃ St : { p : Nat × Nat × Nat × Nat × Nat // p.2.2.2.2 ≤ y.length ∧ p.1 ≤ 1114111 ∧ p.2.1 ≤ 3000 + p.2.2.2.2 ∧ p.2.2.1 ≤ 9000 + p.2.2.2.2 ∧ p.2.2.2.1 ≤ p.2.2.2.2 ∧ scan3 p.1 p.2.1 p.2.2.1 p.2.2.2.1 (y.drop p.2.2.2.2) = some (NA, NB, KP) } → AS, ∀ p, St p = AS.of 199 [(0, .v (.int .i64 i)), (1, .sl 0 3 (comps a)), (2, .sl 0 3 (comps b)), (14, .v (.int .i64 NA)), (16, .v (.int .i64 NB)), (23, .sl 0 1 (nats y)), (25, .v (.int .i64 p.1.1)), (26, .v (.int .i64 p.1.2.1)), (27, .v (.int .i64 p.1.2.2.1)), (28, .v (.int .i64 p.1.2.2.2.1)), (29, .v (.int .i64 p.1.2.2.2.2))] [] [] := ⟨_, fun _ => rfl⟩
  refine vc_loop hΓ St (fun p => y.length - p.1.2.2.2.2) ⟨(0, 3000, 9000, 0, 0), by simp only; omega, by simp only; omega, by simp only; omega, by simp only; omega, by simp only; omega, m4⟩ (by rw [hSt]; refine weak_go [] [] ?_; simp only [goRules, coreRules, tiRules, unRules, AS_of_eq, ← decide_not, N0, N1, N2, N3, N4, N5, Z0, Z1, Z2, Z3, Z4, Z5, Z6, Z7, Z8, Z9, Z10, Zc, ↓reduceIte, reduceCtorEq] <;> ((repeat' apply And.intro) <;> first | rfl | omega | trivial)) ?_
  rintro ⟨⟨last, x, k, kept, p⟩, hp1, hla, hx, hkk, hke, hsc⟩
  simp only at hp1 hla hx hkk hke hsc
  rw [hSt]
  simp only
  simp only [goRules, coreRules, tiRules, unRules, AS_of_eq, ← decide_not, N0, N1, N2, N3, N4, N5, Z0, Z1, Z2, Z3, Z4, Z5, Z6, Z7, Z8, Z9, Z10, Zc, ↓reduceIte, reduceCtorEq, nats_len]
  (with_reducible first | refine branchP_dec (fun h7 => ?_) (fun h7 => ?_) | refine guardB_dec (fun h7 => ?_) (fun h7 => ?_))
  · have hlt : p < y.length := by omega
    have e1 := nats_getD y hlt
    have hyc := hyo _ (List.getElem_mem hlt)
    unfold okc at hyc
    rw [List.drop_eq_getElem_cons hlt, scan3] at hsc
    generalize y[p] = c at *
    simp (disch := omega) only [goRules, coreRules, tiRules, unRules, AS_of_eq, ← decide_not, N0, N1, N2, N3, N4, N5, Z0, Z1, Z2, Z3, Z4, Z5, Z6, Z7, Z8, Z9, Z10, Zc, ↓reduceIte, reduceCtorEq, wrap_i64, h7, e1, nats_len]
    (repeat (with_reducible refine And.intro ?_ ?_; focus (first | omega | exact mixed1 | kernel_rfl)))
    by_cases h8 : 9000 ≤ c
    · rw [if_pos h8] at hsc
      by_cases h9 : c = k
      · rw [if_pos h9] at hsc
        simp (disch := omega) only [goRules, coreRules, tiRules, unRules, AS_of_eq, ← decide_not, N0, N1, N2, N3, N4, N5, Z0, Z1, Z2, Z3, Z4, Z5, Z6, Z7, Z8, Z9, Z10, Zc, ↓reduceIte, reduceCtorEq, wrap_i64, h7, e1, nats_len, show ((c : Int) ≥ 9000) = True from eq_true (by omega), show ((c : Int) ≠ k) = False from eq_false (by omega), show ((c : Int) = k) = True from eq_true (by omega)]
        (repeat (with_reducible refine And.intro ?_ ?_; focus (first | omega | exact mixed1 | kernel_rfl)))
        refine weak_again ⟨(last, x, k + 1, kept, p + 1), by simp only; omega, hla, by simp only; omega, by simp only; omega, by simp only; omega, hsc⟩ (by simp only; omega) ?_
        rw [hSt]; refine weak_go [] [] ?_
        simp only [goRules, coreRules, tiRules, unRules, AS_of_eq, ← decide_not, N0, N1, N2, N3, N4, N5, Z0, Z1, Z2, Z3, Z4, Z5, Z6, Z7, Z8, Z9, Z10, Zc, ↓reduceIte, reduceCtorEq] <;> ((repeat' apply And.intro) <;> first | rfl | omega | trivial)
      · rw [if_neg h9] at hsc; cases hsc
    · rw [if_neg h8] at hsc
      by_cases h10 : 3000 ≤ c
      · rw [if_pos h10] at hsc
        by_cases h9 : c = x
        · rw [if_pos h9] at hsc
          simp (disch := omega) only [goRules, coreRules, tiRules, unRules, AS_of_eq, ← decide_not, N0, N1, N2, N3, N4, N5, Z0, Z1, Z2, Z3, Z4, Z5, Z6, Z7, Z8, Z9, Z10, Zc, ↓reduceIte, reduceCtorEq, wrap_i64, h7, e1, nats_len, show ((c : Int) ≥ 9000) = False from eq_false (by omega), show ((c : Int) ≥ 3000) = True from eq_true (by omega), show ((c : Int) ≠ x) = False from eq_false (by omega), show ((c : Int) = x) = True from eq_true (by omega)]
          (repeat (with_reducible refine And.intro ?_ ?_; focus (first | omega | exact mixed1 | kernel_rfl)))
          refine weak_again ⟨(last, x + 1, k, kept, p + 1), by simp only; omega, hla, by simp only; omega, by simp only; omega, by simp only; omega, hsc⟩ (by simp only; omega) ?_
          rw [hSt]; refine weak_go [] [] ?_
          simp only [goRules, coreRules, tiRules, unRules, AS_of_eq, ← decide_not, N0, N1, N2, N3, N4, N5, Z0, Z1, Z2, Z3, Z4, Z5, Z6, Z7, Z8, Z9, Z10, Zc, ↓reduceIte, reduceCtorEq] <;> ((repeat' apply And.intro) <;> first | rfl | omega | trivial)
        · rw [if_neg h9] at hsc; cases hsc
      · rw [if_neg h10] at hsc
        by_cases h9 : c ≤ last
        · rw [if_pos h9] at hsc; cases hsc
        · rw [if_neg h9] at hsc
          simp (disch := omega) only [goRules, coreRules, tiRules, unRules, AS_of_eq, ← decide_not, N0, N1, N2, N3, N4, N5, Z0, Z1, Z2, Z3, Z4, Z5, Z6, Z7, Z8, Z9, Z10, Zc, ↓reduceIte, reduceCtorEq, wrap_i64, h7, e1, nats_len, show ((c : Int) ≥ 9000) = False from eq_false (by omega), show ((c : Int) ≥ 3000) = False from eq_false (by omega), show ((c : Int) ≤ last) = False from eq_false (by omega)]
          (repeat (with_reducible refine And.intro ?_ ?_; focus (first | omega | exact mixed1 | kernel_rfl)))
          refine weak_again ⟨(c, x, k, kept + 1, p + 1), by simp only; omega, by simp only; omega, by simp only; omega, by simp only; omega, by simp only; omega, hsc⟩ (by simp only; omega) ?_
          rw [hSt]; refine weak_go [] [] ?_
          simp only [goRules, coreRules, tiRules, unRules, AS_of_eq, ← decide_not, N0, N1, N2, N3, N4, N5, Z0, Z1, Z2, Z3, Z4, Z5, Z6, Z7, Z8, Z9, Z10, Zc, ↓reduceIte, reduceCtorEq] <;> ((repeat' apply And.intro) <;> first | rfl | omega | trivial)
  rw [List.drop_of_length_le (by omega), scan3] at hsc
  have hsc2 := Option.some.inj hsc
  simp only [Prod.mk.injEq] at hsc2
  obtain ⟨rfl, rfl, rfl⟩ := hsc2
  simp only [goRules, coreRules, tiRules, unRules, AS_of_eq, ← decide_not, N0, N1, N2, N3, N4, N5, Z0, Z1, Z2, Z3, Z4, Z5, Z6, Z7, Z8, Z9, Z10, Zc, ↓reduceIte, reduceCtorEq, h7]
  refine call_bothn (by simp [get_cons]) rfl rfl rfl ⟨by omega, k1, k2, oa, ob, k3, k4⟩ ?_
  simp only [goRules, coreRules, tiRules, unRules, AS_of_eq, ← decide_not, N0, N1, N2, N3, N4, N5, Z0, Z1, Z2, Z3, Z4, Z5, Z6, Z7, Z8, Z9, Z10, Zc, ↓reduceIte, reduceCtorEq, hKP]
  refine call_awake10 (by simp [get_cons]) ?_
  simp only [goRules, coreRules, tiRules, unRules, AS_of_eq, ← decide_not, N0, N1, N2, N3, N4, N5, Z0, Z1, Z2, Z3, Z4, Z5, Z6, Z7, Z8, Z9, Z10, Zc, ↓reduceIte, reduceCtorEq]
end Go.Proofs
end
