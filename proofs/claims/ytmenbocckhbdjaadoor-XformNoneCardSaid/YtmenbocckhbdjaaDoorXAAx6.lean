/-
  XformNone answers true.
-/
import Derived.Test.YtmenbocckhbdjaaDoorXAAx5
import Derived.Test.YtmenbocckhbdjaaDoorXAUo12
set_option linter.unusedSimpArgs false
set_option linter.unusedVariables false
set_option linter.defProp false

-- AAx6
section
namespace Go.Proofs
open Go Go.Rw
set_option maxRecDepth 100000
set_option linter.unusedSimpArgs false
set_option linter.unusedVariables false

theorem rep_ni (n : Nat) (c : Nat) (z : List Un) : List.replicate n Un.r ≠ .i c :: z := by cases n <;> simp [List.replicate_succ]
theorem over_keepr (f : Bool) : ∀ u : List Un, overU f u (List.replicate (bU u) .r) = u
  | [] => by simp only [bU, List.replicate_zero]; rw [overU] <;> simp
  | .r :: u => by simp only [bU, List.replicate_succ]; rw [overU, over_keepr f u]
  | .d :: u => by simp only [bU, List.replicate_succ]; rw [overU, over_keepr f u]
  | .i c :: u => by
    have h := over_i1 f [c] u (List.replicate (bU u) .r) (.inr (rep_ni _))
    simp only [List.map_cons, List.map_nil, List.cons_append, List.nil_append] at h
    simp only [bU]
    rw [h, over_keepr f u]
theorem over_keepl (f : Bool) : ∀ u : List Un, overU f (List.replicate (bU u) .r) u = List.replicate (oU u) .r
  | [] => by simp only [bU, oU, List.replicate_zero]; rw [overU] <;> simp
  | .r :: u => by simp only [bU, oU, List.replicate_succ]; rw [overU, over_keepl f u]
  | .d :: u => by simp only [bU, oU, List.replicate_succ]; rw [overU, over_keepl f u]
  | .i c :: u => by
    have h := over_i2 f [c] (List.replicate (bU u) .r) u (.inr (rep_ni _))
    simp only [List.map_cons, List.map_nil, List.cons_append, List.nil_append, List.length_cons, List.length_nil] at h
    simp only [bU, oU, List.replicate_succ]
    rw [h, over_keepl f u]; rfl
/-- Some kept, a text, some kept. -/
def mk (a : Nat) (c : Nat) (b : Nat) : List Cp := (if 0 < a then [⟨1, a, []⟩] else []) ++ ([⟨2, 0, [bt c]⟩] ++ (if 0 < b then [⟨1, b, []⟩] else []))
theorem one_pts {c : Nat} (h : 1 ≤ c ∧ c < 128) : pts [bt c] = some [c] := by
  have h1 := pts_enc (cs := [c]) (fun x hx => by rw [List.mem_singleton.1 hx]; unfold okc; omega)
  have h2 : encs [c] = [bt c] := by simp [encs, enc, h.2]
  rw [h2] at h1; exact h1
theorem mk_facts {a c b : Nat} (h : 1 ≤ c ∧ c < 128) (ha : a + b ≤ 1000) : checkI (mk a c b) = 0 ∧ unL (mk a c b) = List.replicate a .r ++ (.i c :: List.replicate b .r) ∧ baseL (mk a c b) = a + b ∧ okL (mk a c b) := by
  have hp := one_pts h
  have hc : cpts [bt c] = [c] := cpts_some hp
  have hlc : lc [bt c] = 1 := by rw [lc_cpts (by rw [hp]; rfl), hc]; rfl
  by_cases h1 : 0 < a <;> by_cases h2 : 0 < b
  all_goals
    have hb : baseL (mk a c b) = a + b := by
      simp [mk, h1, h2, baseL, baseF, addI]; omega
    have ho : outL (mk a c b) = a + b + 1 := by
      simp [mk, h1, h2, outL, outF, addI, hlc]; omega
    refine ⟨?_, ?_, hb, ?_⟩
    · unfold checkI
      rw [hb, ho, if_neg (by simp [mk, h1, h2]), if_neg (by simp [mk, h1, h2, normalL, normalF, sound, follows, hp]), if_neg (by omega)]
    · simp [mk, h1, h2, unL, unP, hc]
      try (rw [show a = 0 by omega]; simp)
      try (rw [show b = 0 by omega]; simp)
      try omega
    · refine ⟨by simp [mk, h1, h2], by simp [mk, h1, h2, tot], fun x hx => ?_⟩
      simp [mk, h1, h2] at hx
      rcases hx with rfl | rfl | rfl <;> simp <;> omega
theorem mk_of {n k c : Nat} (h : 1 ≤ c ∧ c < 128) (hk : k ≤ n) (hn : n ≤ 1000) : ofR n k k [bt c] = res2 (.sl 0 3 (comps (mk k c (n - k)))) 0 := by
  have hp := one_pts h
  have hb : ¬ ofBad (n : Int) k k [bt c] := by
    unfold ofBad
    rintro (h1 | h1 | h1 | h1)
    · omega
    · omega
    · omega
    · rw [hp] at h1; simp at h1
  unfold ofR
  rw [if_neg hb]
  have e : ofL (n : Int) k k [bt c] = mk k c (n - k) := by
    obtain ⟨m1, m2, m3, m4⟩ := mk_facts (a := k) (b := n - k) h (by omega)
    rw [← nf_check m1]
    unfold ofL nf
    rw [step_keep (by omega), step_text, show ((k : Int) - k) = 0 by omega, nf_no (by simp [someC])]
    unfold mk
    by_cases h1 : 0 < k
    · rw [if_pos h1, List.cons_append, List.nil_append, List.cons_append, List.nil_append, step_keep (by omega), step_text]
      by_cases h2 : 0 < n - k
      · rw [if_pos h2, show ((n : Int) - k) = ((n - k : Nat) : Int) by omega]
      · rw [if_neg h2, nf_no (by simp [someC]; omega)]
    · rw [if_neg h1, List.nil_append, List.cons_append, List.nil_append, step_text, show k = 0 by omega]
      by_cases h2 : 0 < n - 0
      · rw [if_pos h2]; rfl
      · rw [if_neg h2, nf_no (by simp [someC]; omega)]; rfl
  rw [e]
/-- Where both put in at one place. -/
theorem mk_over (f : Bool) {k m : Nat} (h : k + m ≤ 900) : ovE (mk k 65 m) (mk k 66 m) = 0 ∧ ovN f (mk k 65 m) (mk k 66 m) = if f = true then mk k 65 (m + 1) else mk (k + 1) 65 m := by
  obtain ⟨a1, a2, a3, a4⟩ := mk_facts (a := k) (c := 65) (b := m) (by omega) (by omega)
  obtain ⟨b1, b2, b3, b4⟩ := mk_facts (a := k) (c := 66) (b := m) (by omega) (by omega)
  have he := ovE_of a1 b1 (by omega)
  refine ⟨he, ?_⟩
  obtain ⟨r1, r2, r3, r4⟩ := over_raw f a1 b1 a4 b4
  have h2 := over_i2 f [66] (List.replicate m .r) (List.replicate m .r) (.inr (rep_ni _))
  have h1 := over_i1 f [65] (List.replicate m .r) (List.replicate m .r) (.inr (rep_ni _))
  have h3 : overU f (List.replicate m .r) (List.replicate m .r) = List.replicate m .r := by
    have := over_keepr f (List.replicate m .r)
    rw [bU_r] at this; exact this
  simp only [List.map_cons, List.map_nil, List.cons_append, List.nil_append, List.length_cons, List.length_nil] at h1 h2
  unfold ovN
  generalize overF f _ (mk k 65 m, 0) (mk k 66 m, 0) = raw at r1 r2 ⊢
  rw [a2, b2, over_rr] at r1
  cases f with
  | true =>
    obtain ⟨c1, c2, c3, c4⟩ := mk_facts (a := k) (c := 65) (b := m + 1) (by omega) (by omega)
    rw [overU, if_pos rfl, h2, h3] at r1
    rw [if_pos rfl, ← nf_check c1]
    have hs := (check_cases c1).2.2.1
    have hb := (check_cases c1).2.2.2.2.1
    exact (nf_eq hs r2 (by omega) (by rw [c2, r1, List.replicate_succ]; rfl)).symm
  | false =>
    obtain ⟨c1, c2, c3, c4⟩ := mk_facts (a := k + 1) (c := 65) (b := m) (by omega) (by omega)
    rw [overU, if_neg (by decide), h1, h3] at r1
    rw [if_neg (by decide), ← nf_check c1]
    have hs := (check_cases c1).2.2.1
    have hb := (check_cases c1).2.2.2.2.1
    exact (nf_eq hs r2 (by omega) (by rw [c2, r1, List.replicate_succ']; simp)).symm
theorem mk_do {a c b : Nat} (h : 1 ≤ c ∧ c < 128) (ha : a + b ≤ 1000) (cs : List Nat) (hl : cs.length = a + b) : doL cs (mk a c b) = cs.take a ++ c :: cs.drop a := by
  obtain ⟨m1, m2, m3, m4⟩ := mk_facts (a := a) (c := c) (b := b) h ha
  rw [do_units _ _ (check_cases m1).2.2.1, m2, doU_ret, doU]
  have h1 := doU_ret b (cs.drop a) []
  rw [List.append_nil] at h1
  rw [h1, doU, List.append_nil, List.take_of_length_le (l := cs.drop a) (by rw [List.length_drop]; omega)]
theorem ov_keepr (f : Bool) {l : List Cp} {n : Nat} (h : checkI l = 0) (ol : okL l) (hn : baseL l = n) : ovE l (keepL n) = 0 ∧ ovN f l (keepL n) = l := by
  obtain ⟨c1, c2, c3, c4, c5, c6⟩ := check_cases h
  obtain ⟨o1, o2, o3⟩ := out_units h
  obtain ⟨k1, k2, k3, k4⟩ := keep_facts (n := (n : Int)) (by omega)
  have he := ovE_of h k1 (by omega)
  have ok := okL_keep (n := (n : Int)) (by omega)
  obtain ⟨r1, r2, r3, r4⟩ := over_raw f h k1 ol ok
  refine ⟨he, ?_⟩
  unfold ovN
  generalize overF f _ (l, 0) (keepL n, 0) = raw at r1 r2 ⊢
  rw [k2, Int.toNat_natCast, show n = bU (unL l) by omega, over_keepr] at r1
  exact (nf_eq c3 r2 (by omega) r1.symm).symm.trans (nf_check h)
theorem ov_keepl (f : Bool) {l : List Cp} {n : Nat} (h : checkI l = 0) (ol : okL l) (hn : baseL l = n) : ovE (keepL n) l = 0 ∧ ovN f (keepL n) l = keepL (outL l) := by
  obtain ⟨c1, c2, c3, c4, c5, c6⟩ := check_cases h
  obtain ⟨o1, o2, o3⟩ := out_units h
  obtain ⟨k1, k2, k3, k4⟩ := keep_facts (n := (n : Int)) (by omega)
  obtain ⟨q1, q2, q3, q4⟩ := keep_facts (n := outL l) (by omega)
  have he := ovE_of k1 h (by omega)
  have ok := okL_keep (n := (n : Int)) (by omega)
  obtain ⟨r1, r2, r3, r4⟩ := over_raw f k1 h ok ol
  refine ⟨he, ?_⟩
  unfold ovN
  generalize overF f _ (keepL n, 0) (l, 0) = raw at r1 r2 ⊢
  rw [k2, Int.toNat_natCast, show n = bU (unL l) by omega, over_keepl] at r1
  have hs := (check_cases q1).2.2.1
  have hb := (check_cases q1).2.2.2.2.1
  exact (nf_eq hs r2 (by omega) (by rw [q2, r1]; congr 1; omega)).symm.trans (nf_check q1)
theorem blk_law (n : Nat) : ∃ cs : List Nat, cs.length = n ∧ (∀ c ∈ cs, 1 ≤ c ∧ c < 128) ∧ blk 1 n = encs cs ∧ pts (blk 1 n) = some cs := by
  have hok := blk_okc 1 n
  refine ⟨(List.range n).map fun i => (blkF 1 i).toNat, by simp, fun c hc => ?_, blk_encs 1 n, by rw [blk_encs]; exact pts_enc hok⟩
  obtain ⟨i, _, rfl⟩ := List.mem_map.1 hc
  have := blkF_range (k := 1) (i := i)
  omega
theorem encs_take {cs : List Nat} (h : ∀ c ∈ cs, 1 ≤ c ∧ c < 128) (k : Nat) : (encs cs).take k = encs (cs.take k) ∧ (encs cs).drop k = encs (cs.drop k) := by
  rw [encs_ascii cs (fun c hc => (h c hc).2), encs_ascii _ (fun c hc => (h c (List.mem_of_mem_take hc)).2), encs_ascii _ (fun c hc => (h c (List.mem_of_mem_drop hc)).2)]
  exact ⟨by rw [List.map_take], by rw [List.map_drop]⟩
abbrev none10Con : Con where
  ι := Num × Given × Bool × Num
  args := fun p => [.v (.int .i64 p.1.1), .sl 0 3 (comps p.2.1.1), .v (.bool p.2.2.1), .v (.int .i64 p.2.2.2.1)]
  post := fun _ r => r = .v (.bool true)
  plain := true
theorem keep_idle (n : Int) : (keepL n).any busy = false := by
  unfold keepL
  split <;> simp [busy]
theorem none10_good : Rw.Good Tryd.prog 15 none10Con := by
  have hΓ : GoodEnv Tryd.prog [(42, trueCon), (16, weighCon), (17, checkCon), (18, baseCon), (40, keepCon), (43, overCon), (41, roundCon), (49, ofCon), (50, blockCon), (22, doCon), (33, sameCon), (27, idleCon), (34, outCon)] := (goodEnv_cons awake10_good (goodEnv_cons weigh_good (goodEnv_cons check_good (goodEnv_cons base_good (goodEnv_cons keep_good (goodEnv_cons over_good (goodEnv_cons round_good (goodEnv_cons of_good (goodEnv_cons block_good (goodEnv_cons do_good (goodEnv_cons same_good (goodEnv_cons idle_good (goodEnv_cons out_good goodEnv_nil)))))))))))))
  refine good_fn (nn := 152) hΓ Tryd.func15 (by kernel_rfl) rfl (show Tryd.f15.results.toList = [.tmp 8] from rfl) (fun _ => rfl) (fun _ => rfl) ?_
  rintro ⟨⟨n, hn⟩, ⟨l, hl, hcl⟩, f, ⟨at', hat⟩⟩
  simp only [goRules, coreRules, tiRules, unRules, AS_of_eq, ← decide_not, Nat.reduceAdd, Nat.reduceSub, Nat.reduceMul, Nat.reduceLT, Nat.reduceLeDiff, Nat.reduceEqDiff, Int.reduceNeg, Int.reduceAdd, Int.reduceSub, Int.reduceMul, Int.reduceGT, Int.reduceGE, Int.reduceLT, Int.reduceLE, Int.reduceEq, Int.reduceNe, Int.cast_ofNat_Int, Int.reduceToNat, ↓reduceIte, reduceCtorEq]
  by_cases h1 : n < 1
  · simp only [goRules, coreRules, tiRules, unRules, AS_of_eq, ← decide_not, Nat.reduceAdd, Nat.reduceSub, Nat.reduceMul, Nat.reduceLT, Nat.reduceLeDiff, Nat.reduceEqDiff, Int.reduceNeg, Int.reduceAdd, Int.reduceSub, Int.reduceMul, Int.reduceGT, Int.reduceGE, Int.reduceLT, Int.reduceLE, Int.reduceEq, Int.reduceNe, Int.cast_ofNat_Int, Int.reduceToNat, ↓reduceIte, reduceCtorEq, h1]
    refine call_awake10 (by simp [get_cons]) ?_
    simp only [goRules, coreRules, tiRules, unRules, AS_of_eq, ← decide_not, Nat.reduceAdd, Nat.reduceSub, Nat.reduceMul, Nat.reduceLT, Nat.reduceLeDiff, Nat.reduceEqDiff, Int.reduceNeg, Int.reduceAdd, Int.reduceSub, Int.reduceMul, Int.reduceGT, Int.reduceGE, Int.reduceLT, Int.reduceLE, Int.reduceEq, Int.reduceNe, Int.cast_ofNat_Int, Int.reduceToNat, ↓reduceIte, reduceCtorEq]
  by_cases h2 : n > 300
  · simp only [goRules, coreRules, tiRules, unRules, AS_of_eq, ← decide_not, Nat.reduceAdd, Nat.reduceSub, Nat.reduceMul, Nat.reduceLT, Nat.reduceLeDiff, Nat.reduceEqDiff, Int.reduceNeg, Int.reduceAdd, Int.reduceSub, Int.reduceMul, Int.reduceGT, Int.reduceGE, Int.reduceLT, Int.reduceLE, Int.reduceEq, Int.reduceNe, Int.cast_ofNat_Int, Int.reduceToNat, ↓reduceIte, reduceCtorEq, h1, h2]
    refine call_awake10 (by simp [get_cons]) ?_
    simp only [goRules, coreRules, tiRules, unRules, AS_of_eq, ← decide_not, Nat.reduceAdd, Nat.reduceSub, Nat.reduceMul, Nat.reduceLT, Nat.reduceLeDiff, Nat.reduceEqDiff, Int.reduceNeg, Int.reduceAdd, Int.reduceSub, Int.reduceMul, Int.reduceGT, Int.reduceGE, Int.reduceLT, Int.reduceLE, Int.reduceEq, Int.reduceNe, Int.cast_ofNat_Int, Int.reduceToNat, ↓reduceIte, reduceCtorEq]
  simp only [goRules, coreRules, tiRules, unRules, AS_of_eq, ← decide_not, Nat.reduceAdd, Nat.reduceSub, Nat.reduceMul, Nat.reduceLT, Nat.reduceLeDiff, Nat.reduceEqDiff, Int.reduceNeg, Int.reduceAdd, Int.reduceSub, Int.reduceMul, Int.reduceGT, Int.reduceGE, Int.reduceLT, Int.reduceLE, Int.reduceEq, Int.reduceNe, Int.cast_ofNat_Int, Int.reduceToNat, ↓reduceIte, reduceCtorEq, h1, h2]
  refine call_weigh (by simp [get_cons]) rfl hl (fun c h => (hcl c h).2) (by omega) ?_
  by_cases h3 : compsF 1000 0 l > 1000
  · simp only [goRules, coreRules, tiRules, unRules, AS_of_eq, ← decide_not, Nat.reduceAdd, Nat.reduceSub, Nat.reduceMul, Nat.reduceLT, Nat.reduceLeDiff, Nat.reduceEqDiff, Int.reduceNeg, Int.reduceAdd, Int.reduceSub, Int.reduceMul, Int.reduceGT, Int.reduceGE, Int.reduceLT, Int.reduceLE, Int.reduceEq, Int.reduceNe, Int.cast_ofNat_Int, Int.reduceToNat, ↓reduceIte, reduceCtorEq, h3]
    refine call_awake10 (by simp [get_cons]) ?_
    simp only [goRules, coreRules, tiRules, unRules, AS_of_eq, ← decide_not, Nat.reduceAdd, Nat.reduceSub, Nat.reduceMul, Nat.reduceLT, Nat.reduceLeDiff, Nat.reduceEqDiff, Int.reduceNeg, Int.reduceAdd, Int.reduceSub, Int.reduceMul, Int.reduceGT, Int.reduceGE, Int.reduceLT, Int.reduceLE, Int.reduceEq, Int.reduceNe, Int.cast_ofNat_Int, Int.reduceToNat, ↓reduceIte, reduceCtorEq]
  obtain ⟨ol, hw⟩ := weigh_ok (by omega) hcl (show compsF 1000 0 l ≤ 1000 by omega)
  simp only [goRules, coreRules, tiRules, unRules, AS_of_eq, ← decide_not, Nat.reduceAdd, Nat.reduceSub, Nat.reduceMul, Nat.reduceLT, Nat.reduceLeDiff, Nat.reduceEqDiff, Int.reduceNeg, Int.reduceAdd, Int.reduceSub, Int.reduceMul, Int.reduceGT, Int.reduceGE, Int.reduceLT, Int.reduceLE, Int.reduceEq, Int.reduceNe, Int.cast_ofNat_Int, Int.reduceToNat, ↓reduceIte, reduceCtorEq, h3]
  refine call_check (by simp [get_cons]) rfl ol ?_
  by_cases h4 : checkI l = 0
  case neg =>
    simp only [goRules, coreRules, tiRules, unRules, AS_of_eq, ← decide_not, Nat.reduceAdd, Nat.reduceSub, Nat.reduceMul, Nat.reduceLT, Nat.reduceLeDiff, Nat.reduceEqDiff, Int.reduceNeg, Int.reduceAdd, Int.reduceSub, Int.reduceMul, Int.reduceGT, Int.reduceGE, Int.reduceLT, Int.reduceLE, Int.reduceEq, Int.reduceNe, Int.cast_ofNat_Int, Int.reduceToNat, ↓reduceIte, reduceCtorEq, h4]
    refine call_awake10 (by simp [get_cons]) ?_
    simp only [goRules, coreRules, tiRules, unRules, AS_of_eq, ← decide_not, Nat.reduceAdd, Nat.reduceSub, Nat.reduceMul, Nat.reduceLT, Nat.reduceLeDiff, Nat.reduceEqDiff, Int.reduceNeg, Int.reduceAdd, Int.reduceSub, Int.reduceMul, Int.reduceGT, Int.reduceGE, Int.reduceLT, Int.reduceLE, Int.reduceEq, Int.reduceNe, Int.cast_ofNat_Int, Int.reduceToNat, ↓reduceIte, reduceCtorEq]
  simp only [goRules, coreRules, tiRules, unRules, AS_of_eq, ← decide_not, Nat.reduceAdd, Nat.reduceSub, Nat.reduceMul, Nat.reduceLT, Nat.reduceLeDiff, Nat.reduceEqDiff, Int.reduceNeg, Int.reduceAdd, Int.reduceSub, Int.reduceMul, Int.reduceGT, Int.reduceGE, Int.reduceLT, Int.reduceLE, Int.reduceEq, Int.reduceNe, Int.cast_ofNat_Int, Int.reduceToNat, ↓reduceIte, reduceCtorEq, h4]
  refine call_base (by simp [get_cons]) rfl ol ?_
  by_cases h5 : baseL l = n
  case neg =>
    simp only [goRules, coreRules, tiRules, unRules, AS_of_eq, ← decide_not, Nat.reduceAdd, Nat.reduceSub, Nat.reduceMul, Nat.reduceLT, Nat.reduceLeDiff, Nat.reduceEqDiff, Int.reduceNeg, Int.reduceAdd, Int.reduceSub, Int.reduceMul, Int.reduceGT, Int.reduceGE, Int.reduceLT, Int.reduceLE, Int.reduceEq, Int.reduceNe, Int.cast_ofNat_Int, Int.reduceToNat, ↓reduceIte, reduceCtorEq, h5]
    refine call_awake10 (by simp [get_cons]) ?_
    simp only [goRules, coreRules, tiRules, unRules, AS_of_eq, ← decide_not, Nat.reduceAdd, Nat.reduceSub, Nat.reduceMul, Nat.reduceLT, Nat.reduceLeDiff, Nat.reduceEqDiff, Int.reduceNeg, Int.reduceAdd, Int.reduceSub, Int.reduceMul, Int.reduceGT, Int.reduceGE, Int.reduceLT, Int.reduceLE, Int.reduceEq, Int.reduceNe, Int.cast_ofNat_Int, Int.reduceToNat, ↓reduceIte, reduceCtorEq]
  simp only [goRules, coreRules, tiRules, unRules, AS_of_eq, ← decide_not, Nat.reduceAdd, Nat.reduceSub, Nat.reduceMul, Nat.reduceLT, Nat.reduceLeDiff, Nat.reduceEqDiff, Int.reduceNeg, Int.reduceAdd, Int.reduceSub, Int.reduceMul, Int.reduceGT, Int.reduceGE, Int.reduceLT, Int.reduceLE, Int.reduceEq, Int.reduceNe, Int.cast_ofNat_Int, Int.reduceToNat, ↓reduceIte, reduceCtorEq, h5]
  obtain ⟨m, rfl⟩ := Int.eq_ofNat_of_zero_le (show 0 ≤ n by omega)
  obtain ⟨r1, r2⟩ := ov_keepr f h4 ol h5
  obtain ⟨l1, l2⟩ := ov_keepl f h4 ol h5
  have okm := okL_keep (n := (m : Int)) (by omega)
  have hcc := check_cases h4
  have hout : 0 ≤ outL l := by rw [(out_units h4).1]; omega
  obtain ⟨q1, q2, q3, q4⟩ := keep_facts (n := outL l) (by omega)
  have oko := okL_keep (n := outL l) (by omega)
  refine call_keep (by simp [get_cons]) (by omega) ?_
  simp only [goRules, coreRules, tiRules, unRules, AS_of_eq, ← decide_not, Nat.reduceAdd, Nat.reduceSub, Nat.reduceMul, Nat.reduceLT, Nat.reduceLeDiff, Nat.reduceEqDiff, Int.reduceNeg, Int.reduceAdd, Int.reduceSub, Int.reduceMul, Int.reduceGT, Int.reduceGE, Int.reduceLT, Int.reduceLE, Int.reduceEq, Int.reduceNe, Int.cast_ofNat_Int, Int.reduceToNat, ↓reduceIte, reduceCtorEq]
  refine call_over (by simp [get_cons]) rfl rfl ol okm ?_
  simp only [goRules, coreRules, tiRules, unRules, AS_of_eq, ← decide_not, Nat.reduceAdd, Nat.reduceSub, Nat.reduceMul, Nat.reduceLT, Nat.reduceLeDiff, Nat.reduceEqDiff, Int.reduceNeg, Int.reduceAdd, Int.reduceSub, Int.reduceMul, Int.reduceGT, Int.reduceGE, Int.reduceLT, Int.reduceLE, Int.reduceEq, Int.reduceNe, Int.cast_ofNat_Int, Int.reduceToNat, ↓reduceIte, reduceCtorEq, ovR_zero r1, r2, res2]
  refine call_keep (by simp [get_cons]) (by omega) ?_
  simp only [goRules, coreRules, tiRules, unRules, AS_of_eq, ← decide_not, Nat.reduceAdd, Nat.reduceSub, Nat.reduceMul, Nat.reduceLT, Nat.reduceLeDiff, Nat.reduceEqDiff, Int.reduceNeg, Int.reduceAdd, Int.reduceSub, Int.reduceMul, Int.reduceGT, Int.reduceGE, Int.reduceLT, Int.reduceLE, Int.reduceEq, Int.reduceNe, Int.cast_ofNat_Int, Int.reduceToNat, ↓reduceIte, reduceCtorEq]
  refine call_over (by simp [get_cons]) rfl rfl okm ol ?_
  simp only [goRules, coreRules, tiRules, unRules, AS_of_eq, ← decide_not, Nat.reduceAdd, Nat.reduceSub, Nat.reduceMul, Nat.reduceLT, Nat.reduceLeDiff, Nat.reduceEqDiff, Int.reduceNeg, Int.reduceAdd, Int.reduceSub, Int.reduceMul, Int.reduceGT, Int.reduceGE, Int.reduceLT, Int.reduceLE, Int.reduceEq, Int.reduceNe, Int.cast_ofNat_Int, Int.reduceToNat, ↓reduceIte, reduceCtorEq, ovR_zero l1, l2, res2, wrap_i64 (n := (m : Int) + 1) (by omega) (by omega)]
  refine call_round (by simp [get_cons]) hat (by omega) ?_
  have hk1 := Int.emod_nonneg at' (show ((m : Int) + 1) ≠ 0 by omega)
  have hk2 := Int.emod_lt_of_pos at' (show 0 < (m : Int) + 1 by omega)
  obtain ⟨k, hk⟩ := Int.eq_ofNat_of_zero_le hk1
  rw [hk]
  have hkm : k ≤ m := by omega
  obtain ⟨a1, a2, a3, a4⟩ := mk_facts (a := k) (c := 65) (b := m - k) (by omega) (by omega)
  obtain ⟨b1, b2, b3, b4⟩ := mk_facts (a := k) (c := 66) (b := m - k) (by omega) (by omega)
  obtain ⟨v1, v2⟩ := mk_over f (k := k) (m := m - k) (by omega)
  obtain ⟨cs, c1, c2, c3, c4⟩ := blk_law m
  have hokcs := (pts_some c4).1
  simp only [goRules, coreRules, tiRules, unRules, AS_of_eq, ← decide_not, Nat.reduceAdd, Nat.reduceSub, Nat.reduceMul, Nat.reduceLT, Nat.reduceLeDiff, Nat.reduceEqDiff, Int.reduceNeg, Int.reduceAdd, Int.reduceSub, Int.reduceMul, Int.reduceGT, Int.reduceGE, Int.reduceLT, Int.reduceLE, Int.reduceEq, Int.reduceNe, Int.cast_ofNat_Int, Int.reduceToNat, ↓reduceIte, reduceCtorEq]
  refine call_of (by simp [get_cons]) (by omega) (by omega) (by omega) (by simp) ?_
  simp only [goRules, coreRules, tiRules, unRules, AS_of_eq, ← decide_not, Nat.reduceAdd, Nat.reduceSub, Nat.reduceMul, Nat.reduceLT, Nat.reduceLeDiff, Nat.reduceEqDiff, Int.reduceNeg, Int.reduceAdd, Int.reduceSub, Int.reduceMul, Int.reduceGT, Int.reduceGE, Int.reduceLT, Int.reduceLE, Int.reduceEq, Int.reduceNe, Int.cast_ofNat_Int, Int.reduceToNat, ↓reduceIte, reduceCtorEq, show ofR (m : Int) k k [65] = _ from mk_of (c := 65) (by omega) hkm (by omega), res2]
  refine call_of (by simp [get_cons]) (by omega) (by omega) (by omega) (by simp) ?_
  simp only [goRules, coreRules, tiRules, unRules, AS_of_eq, ← decide_not, Nat.reduceAdd, Nat.reduceSub, Nat.reduceMul, Nat.reduceLT, Nat.reduceLeDiff, Nat.reduceEqDiff, Int.reduceNeg, Int.reduceAdd, Int.reduceSub, Int.reduceMul, Int.reduceGT, Int.reduceGE, Int.reduceLT, Int.reduceLE, Int.reduceEq, Int.reduceNe, Int.cast_ofNat_Int, Int.reduceToNat, ↓reduceIte, reduceCtorEq, show ofR (m : Int) k k [66] = _ from mk_of (c := 66) (by omega) hkm (by omega), res2]
  have e1 : errI (blk 1 m) (mk k 66 (m - k)) = 0 := err_of b1 c4 (by omega)
  have e2 : doneB (blk 1 m) (mk k 66 (m - k)) = encs (cs.take k ++ 66 :: cs.drop k) := by
    unfold doneB
    rw [if_pos e1, cpts_some c4, mk_do (by omega) (by omega) cs (by omega)]
  have e3 := done_law e1
  rw [e2, cpts_some c4, mk_do (by omega) (by omega) cs (by omega)] at e3
  have hlen : (cs.take k ++ 66 :: cs.drop k).length = m + 1 := by rw [List.length_append, List.length_cons, List.length_take, List.length_drop]; omega
  have hb2 : (blk 1 m).length = m := blk_len 1 m
  obtain ⟨t1, t2⟩ := encs_take c2 k
  rw [← c3] at t1 t2
  have hek : (encs (cs.take k)).length = k := by rw [← t1, List.length_take]; omega
  cases f with
  | true =>
    obtain ⟨p1, p2, p3, p4⟩ := mk_facts (a := k) (c := 65) (b := m - k + 1) (by omega) (by omega)
    have e4 : errI (encs (cs.take k ++ 66 :: cs.drop k)) (mk k 65 (m - k + 1)) = 0 := err_of p1 e3.1 (by omega)
    have e5 : doneB (encs (cs.take k ++ 66 :: cs.drop k)) (mk k 65 (m - k + 1)) = (blk 1 m).take k ++ [65, 66] ++ (blk 1 m).drop k := by
      unfold doneB
      rw [if_pos e4, cpts_some e3.1, mk_do (by omega) (by omega) _ (by omega), t1, t2]
      rw [List.take_left' (by rw [List.length_take]; omega), List.drop_left' (by rw [List.length_take]; omega), encs_app, encs_cons, encs_cons]
      simp [enc]; exact ⟨rfl, rfl⟩
    simp only [if_true, Bool.false_eq_true, if_false] at v2
    refine call_over (by simp [get_cons]) rfl rfl a4 b4 ?_
    simp only [goRules, coreRules, tiRules, unRules, AS_of_eq, ← decide_not, Nat.reduceAdd, Nat.reduceSub, Nat.reduceMul, Nat.reduceLT, Nat.reduceLeDiff, Nat.reduceEqDiff, Int.reduceNeg, Int.reduceAdd, Int.reduceSub, Int.reduceMul, Int.reduceGT, Int.reduceGE, Int.reduceLT, Int.reduceLE, Int.reduceEq, Int.reduceNe, Int.cast_ofNat_Int, Int.reduceToNat, ↓reduceIte, reduceCtorEq, ovR_zero v1, v2, res2]
    refine call_block (by simp [get_cons]) (by omega) (by omega) ?_
    simp only [goRules, coreRules, tiRules, unRules, AS_of_eq, ← decide_not, Nat.reduceAdd, Nat.reduceSub, Nat.reduceMul, Nat.reduceLT, Nat.reduceLeDiff, Nat.reduceEqDiff, Int.reduceNeg, Int.reduceAdd, Int.reduceSub, Int.reduceMul, Int.reduceGT, Int.reduceGE, Int.reduceLT, Int.reduceLE, Int.reduceEq, Int.reduceNe, Int.cast_ofNat_Int, Int.reduceToNat, ↓reduceIte, reduceCtorEq, Int.toNat_natCast]
    refine call_do (by simp [get_cons]) rfl (by omega) b4 ?_
    simp only [goRules, coreRules, tiRules, unRules, AS_of_eq, ← decide_not, Nat.reduceAdd, Nat.reduceSub, Nat.reduceMul, Nat.reduceLT, Nat.reduceLeDiff, Nat.reduceEqDiff, Int.reduceNeg, Int.reduceAdd, Int.reduceSub, Int.reduceMul, Int.reduceGT, Int.reduceGE, Int.reduceLT, Int.reduceLE, Int.reduceEq, Int.reduceNe, Int.cast_ofNat_Int, Int.reduceToNat, ↓reduceIte, reduceCtorEq, doR, res2, e1, e2]
    refine call_do (by simp [get_cons]) rfl (by omega) p4 ?_
    simp only [goRules, coreRules, tiRules, unRules, AS_of_eq, ← decide_not, Nat.reduceAdd, Nat.reduceSub, Nat.reduceMul, Nat.reduceLT, Nat.reduceLeDiff, Nat.reduceEqDiff, Int.reduceNeg, Int.reduceAdd, Int.reduceSub, Int.reduceMul, Int.reduceGT, Int.reduceGE, Int.reduceLT, Int.reduceLE, Int.reduceEq, Int.reduceNe, Int.cast_ofNat_Int, Int.reduceToNat, ↓reduceIte, reduceCtorEq, doR, res2, e4, e5]
    refine call_block (by simp [get_cons]) (by omega) (by omega) ?_
    simp only [goRules, coreRules, tiRules, unRules, AS_of_eq, ← decide_not, Nat.reduceAdd, Nat.reduceSub, Nat.reduceMul, Nat.reduceLT, Nat.reduceLeDiff, Nat.reduceEqDiff, Int.reduceNeg, Int.reduceAdd, Int.reduceSub, Int.reduceMul, Int.reduceGT, Int.reduceGE, Int.reduceLT, Int.reduceLE, Int.reduceEq, Int.reduceNe, Int.cast_ofNat_Int, Int.reduceToNat, ↓reduceIte, reduceCtorEq, Int.toNat_natCast]
    (repeat (with_reducible refine And.intro ?_ ?_; focus (first | omega | exact mixed1 | kernel_rfl)))
    refine call_same (by simp [get_cons]) rfl rfl (by omega) (by omega) ?_
    simp only [goRules, coreRules, tiRules, unRules, AS_of_eq, ← decide_not, Nat.reduceAdd, Nat.reduceSub, Nat.reduceMul, Nat.reduceLT, Nat.reduceLeDiff, Nat.reduceEqDiff, Int.reduceNeg, Int.reduceAdd, Int.reduceSub, Int.reduceMul, Int.reduceGT, Int.reduceGE, Int.reduceLT, Int.reduceLE, Int.reduceEq, Int.reduceNe, Int.cast_ofNat_Int, Int.reduceToNat, ↓reduceIte, reduceCtorEq]
    refine call_idle (by simp [get_cons]) rfl oko ?_
    simp only [goRules, coreRules, tiRules, unRules, AS_of_eq, ← decide_not, Nat.reduceAdd, Nat.reduceSub, Nat.reduceMul, Nat.reduceLT, Nat.reduceLeDiff, Nat.reduceEqDiff, Int.reduceNeg, Int.reduceAdd, Int.reduceSub, Int.reduceMul, Int.reduceGT, Int.reduceGE, Int.reduceLT, Int.reduceLE, Int.reduceEq, Int.reduceNe, Int.cast_ofNat_Int, Int.reduceToNat, ↓reduceIte, reduceCtorEq, keep_idle]
    refine call_base (by simp [get_cons]) rfl oko ?_
    simp only [goRules, coreRules, tiRules, unRules, AS_of_eq, ← decide_not, Nat.reduceAdd, Nat.reduceSub, Nat.reduceMul, Nat.reduceLT, Nat.reduceLeDiff, Nat.reduceEqDiff, Int.reduceNeg, Int.reduceAdd, Int.reduceSub, Int.reduceMul, Int.reduceGT, Int.reduceGE, Int.reduceLT, Int.reduceLE, Int.reduceEq, Int.reduceNe, Int.cast_ofNat_Int, Int.reduceToNat, ↓reduceIte, reduceCtorEq, q3]
    refine call_out (by simp [get_cons]) rfl ol ?_
    simp only [goRules, coreRules, tiRules, unRules, AS_of_eq, ← decide_not, Nat.reduceAdd, Nat.reduceSub, Nat.reduceMul, Nat.reduceLT, Nat.reduceLeDiff, Nat.reduceEqDiff, Int.reduceNeg, Int.reduceAdd, Int.reduceSub, Int.reduceMul, Int.reduceGT, Int.reduceGE, Int.reduceLT, Int.reduceLE, Int.reduceEq, Int.reduceNe, Int.cast_ofNat_Int, Int.reduceToNat, ↓reduceIte, reduceCtorEq, hb2]
    (repeat (with_reducible refine And.intro ?_ ?_; focus (first | omega | exact mixed1 | kernel_rfl)))
    have hs1 : (blk 1 m).take (k - 0) = (blk 1 m).take k := by rw [Nat.sub_zero]
    simp only [goRules, coreRules, tiRules, unRules, AS_of_eq, ← decide_not, Nat.reduceAdd, Nat.reduceSub, Nat.reduceMul, Nat.reduceLT, Nat.reduceLeDiff, Nat.reduceEqDiff, Int.reduceNeg, Int.reduceAdd, Int.reduceSub, Int.reduceMul, Int.reduceGT, Int.reduceGE, Int.reduceLT, Int.reduceLE, Int.reduceEq, Int.reduceNe, Int.cast_ofNat_Int, Int.reduceToNat, ↓reduceIte, reduceCtorEq, hs1, bin_sadd (l := (blk 1 m).take k) (r := [65, 66]) (by rw [List.length_take]; simp; omega), hb2]
    (repeat (with_reducible refine And.intro ?_ ?_; focus (first | omega | exact mixed1 | kernel_rfl)))
    simp only [goRules, coreRules, tiRules, unRules, AS_of_eq, ← decide_not, Nat.reduceAdd, Nat.reduceSub, Nat.reduceMul, Nat.reduceLT, Nat.reduceLeDiff, Nat.reduceEqDiff, Int.reduceNeg, Int.reduceAdd, Int.reduceSub, Int.reduceMul, Int.reduceGT, Int.reduceGE, Int.reduceLT, Int.reduceLE, Int.reduceEq, Int.reduceNe, Int.cast_ofNat_Int, Int.reduceToNat, ↓reduceIte, reduceCtorEq, hb2, List.take_of_length_le (l := (blk 1 m).drop k) (i := m - k) (by rw [List.length_drop]; omega), bin_sadd (l := (blk 1 m).take k ++ [65, 66]) (r := (blk 1 m).drop k) (by rw [List.length_append, List.length_take, List.length_drop]; simp; omega)]
    refine call_awake10 (by simp [get_cons]) ?_
    simp only [goRules, coreRules, tiRules, unRules, AS_of_eq, ← decide_not, Nat.reduceAdd, Nat.reduceSub, Nat.reduceMul, Nat.reduceLT, Nat.reduceLeDiff, Nat.reduceEqDiff, Int.reduceNeg, Int.reduceAdd, Int.reduceSub, Int.reduceMul, Int.reduceGT, Int.reduceGE, Int.reduceLT, Int.reduceLE, Int.reduceEq, Int.reduceNe, Int.cast_ofNat_Int, Int.reduceToNat, ↓reduceIte, reduceCtorEq]
  | false =>
    obtain ⟨p1, p2, p3, p4⟩ := mk_facts (a := (k + 1)) (c := 65) (b := m - k) (by omega) (by omega)
    have e4 : errI (encs (cs.take k ++ 66 :: cs.drop k)) (mk (k + 1) 65 (m - k)) = 0 := err_of p1 e3.1 (by omega)
    have e5 : doneB (encs (cs.take k ++ 66 :: cs.drop k)) (mk (k + 1) 65 (m - k)) = (blk 1 m).take k ++ [66, 65] ++ (blk 1 m).drop k := by
      unfold doneB
      rw [if_pos e4, cpts_some e3.1, mk_do (by omega) (by omega) _ (by omega), t1, t2]
      have h6 : (cs.take k ++ 66 :: cs.drop k) = (cs.take k ++ [66]) ++ cs.drop k := by simp
      rw [h6, List.take_left' (by rw [List.length_append, List.length_take]; simp; omega), List.drop_left' (by rw [List.length_append, List.length_take]; simp; omega), encs_app, encs_app, encs_cons, encs_cons]
      simp [enc]; exact ⟨rfl, rfl⟩
    simp only [if_true, Bool.false_eq_true, if_false] at v2
    refine call_over (by simp [get_cons]) rfl rfl a4 b4 ?_
    simp only [goRules, coreRules, tiRules, unRules, AS_of_eq, ← decide_not, Nat.reduceAdd, Nat.reduceSub, Nat.reduceMul, Nat.reduceLT, Nat.reduceLeDiff, Nat.reduceEqDiff, Int.reduceNeg, Int.reduceAdd, Int.reduceSub, Int.reduceMul, Int.reduceGT, Int.reduceGE, Int.reduceLT, Int.reduceLE, Int.reduceEq, Int.reduceNe, Int.cast_ofNat_Int, Int.reduceToNat, ↓reduceIte, reduceCtorEq, ovR_zero v1, v2, res2]
    refine call_block (by simp [get_cons]) (by omega) (by omega) ?_
    simp only [goRules, coreRules, tiRules, unRules, AS_of_eq, ← decide_not, Nat.reduceAdd, Nat.reduceSub, Nat.reduceMul, Nat.reduceLT, Nat.reduceLeDiff, Nat.reduceEqDiff, Int.reduceNeg, Int.reduceAdd, Int.reduceSub, Int.reduceMul, Int.reduceGT, Int.reduceGE, Int.reduceLT, Int.reduceLE, Int.reduceEq, Int.reduceNe, Int.cast_ofNat_Int, Int.reduceToNat, ↓reduceIte, reduceCtorEq, Int.toNat_natCast]
    refine call_do (by simp [get_cons]) rfl (by omega) b4 ?_
    simp only [goRules, coreRules, tiRules, unRules, AS_of_eq, ← decide_not, Nat.reduceAdd, Nat.reduceSub, Nat.reduceMul, Nat.reduceLT, Nat.reduceLeDiff, Nat.reduceEqDiff, Int.reduceNeg, Int.reduceAdd, Int.reduceSub, Int.reduceMul, Int.reduceGT, Int.reduceGE, Int.reduceLT, Int.reduceLE, Int.reduceEq, Int.reduceNe, Int.cast_ofNat_Int, Int.reduceToNat, ↓reduceIte, reduceCtorEq, doR, res2, e1, e2]
    refine call_do (by simp [get_cons]) rfl (by omega) p4 ?_
    simp only [goRules, coreRules, tiRules, unRules, AS_of_eq, ← decide_not, Nat.reduceAdd, Nat.reduceSub, Nat.reduceMul, Nat.reduceLT, Nat.reduceLeDiff, Nat.reduceEqDiff, Int.reduceNeg, Int.reduceAdd, Int.reduceSub, Int.reduceMul, Int.reduceGT, Int.reduceGE, Int.reduceLT, Int.reduceLE, Int.reduceEq, Int.reduceNe, Int.cast_ofNat_Int, Int.reduceToNat, ↓reduceIte, reduceCtorEq, doR, res2, e4, e5]
    refine call_block (by simp [get_cons]) (by omega) (by omega) ?_
    simp only [goRules, coreRules, tiRules, unRules, AS_of_eq, ← decide_not, Nat.reduceAdd, Nat.reduceSub, Nat.reduceMul, Nat.reduceLT, Nat.reduceLeDiff, Nat.reduceEqDiff, Int.reduceNeg, Int.reduceAdd, Int.reduceSub, Int.reduceMul, Int.reduceGT, Int.reduceGE, Int.reduceLT, Int.reduceLE, Int.reduceEq, Int.reduceNe, Int.cast_ofNat_Int, Int.reduceToNat, ↓reduceIte, reduceCtorEq, Int.toNat_natCast]
    (repeat (with_reducible refine And.intro ?_ ?_; focus (first | omega | exact mixed1 | kernel_rfl)))
    refine call_same (by simp [get_cons]) rfl rfl (by omega) (by omega) ?_
    simp only [goRules, coreRules, tiRules, unRules, AS_of_eq, ← decide_not, Nat.reduceAdd, Nat.reduceSub, Nat.reduceMul, Nat.reduceLT, Nat.reduceLeDiff, Nat.reduceEqDiff, Int.reduceNeg, Int.reduceAdd, Int.reduceSub, Int.reduceMul, Int.reduceGT, Int.reduceGE, Int.reduceLT, Int.reduceLE, Int.reduceEq, Int.reduceNe, Int.cast_ofNat_Int, Int.reduceToNat, ↓reduceIte, reduceCtorEq]
    refine call_idle (by simp [get_cons]) rfl oko ?_
    simp only [goRules, coreRules, tiRules, unRules, AS_of_eq, ← decide_not, Nat.reduceAdd, Nat.reduceSub, Nat.reduceMul, Nat.reduceLT, Nat.reduceLeDiff, Nat.reduceEqDiff, Int.reduceNeg, Int.reduceAdd, Int.reduceSub, Int.reduceMul, Int.reduceGT, Int.reduceGE, Int.reduceLT, Int.reduceLE, Int.reduceEq, Int.reduceNe, Int.cast_ofNat_Int, Int.reduceToNat, ↓reduceIte, reduceCtorEq, keep_idle]
    refine call_base (by simp [get_cons]) rfl oko ?_
    simp only [goRules, coreRules, tiRules, unRules, AS_of_eq, ← decide_not, Nat.reduceAdd, Nat.reduceSub, Nat.reduceMul, Nat.reduceLT, Nat.reduceLeDiff, Nat.reduceEqDiff, Int.reduceNeg, Int.reduceAdd, Int.reduceSub, Int.reduceMul, Int.reduceGT, Int.reduceGE, Int.reduceLT, Int.reduceLE, Int.reduceEq, Int.reduceNe, Int.cast_ofNat_Int, Int.reduceToNat, ↓reduceIte, reduceCtorEq, q3]
    refine call_out (by simp [get_cons]) rfl ol ?_
    simp only [goRules, coreRules, tiRules, unRules, AS_of_eq, ← decide_not, Nat.reduceAdd, Nat.reduceSub, Nat.reduceMul, Nat.reduceLT, Nat.reduceLeDiff, Nat.reduceEqDiff, Int.reduceNeg, Int.reduceAdd, Int.reduceSub, Int.reduceMul, Int.reduceGT, Int.reduceGE, Int.reduceLT, Int.reduceLE, Int.reduceEq, Int.reduceNe, Int.cast_ofNat_Int, Int.reduceToNat, ↓reduceIte, reduceCtorEq, hb2]
    (repeat (with_reducible refine And.intro ?_ ?_; focus (first | omega | exact mixed1 | kernel_rfl)))
    have hs1 : (blk 1 m).take (k - 0) = (blk 1 m).take k := by rw [Nat.sub_zero]
    simp only [goRules, coreRules, tiRules, unRules, AS_of_eq, ← decide_not, Nat.reduceAdd, Nat.reduceSub, Nat.reduceMul, Nat.reduceLT, Nat.reduceLeDiff, Nat.reduceEqDiff, Int.reduceNeg, Int.reduceAdd, Int.reduceSub, Int.reduceMul, Int.reduceGT, Int.reduceGE, Int.reduceLT, Int.reduceLE, Int.reduceEq, Int.reduceNe, Int.cast_ofNat_Int, Int.reduceToNat, ↓reduceIte, reduceCtorEq, hs1, bin_sadd (l := (blk 1 m).take k) (r := [66, 65]) (by rw [List.length_take]; simp; omega), hb2]
    (repeat (with_reducible refine And.intro ?_ ?_; focus (first | omega | exact mixed1 | kernel_rfl)))
    simp only [goRules, coreRules, tiRules, unRules, AS_of_eq, ← decide_not, Nat.reduceAdd, Nat.reduceSub, Nat.reduceMul, Nat.reduceLT, Nat.reduceLeDiff, Nat.reduceEqDiff, Int.reduceNeg, Int.reduceAdd, Int.reduceSub, Int.reduceMul, Int.reduceGT, Int.reduceGE, Int.reduceLT, Int.reduceLE, Int.reduceEq, Int.reduceNe, Int.cast_ofNat_Int, Int.reduceToNat, ↓reduceIte, reduceCtorEq, hb2, List.take_of_length_le (l := (blk 1 m).drop k) (i := m - k) (by rw [List.length_drop]; omega), bin_sadd (l := (blk 1 m).take k ++ [66, 65]) (r := (blk 1 m).drop k) (by rw [List.length_append, List.length_take, List.length_drop]; simp; omega)]
    refine call_awake10 (by simp [get_cons]) ?_
    simp only [goRules, coreRules, tiRules, unRules, AS_of_eq, ← decide_not, Nat.reduceAdd, Nat.reduceSub, Nat.reduceMul, Nat.reduceLT, Nat.reduceLeDiff, Nat.reduceEqDiff, Int.reduceNeg, Int.reduceAdd, Int.reduceSub, Int.reduceMul, Int.reduceGT, Int.reduceGE, Int.reduceLT, Int.reduceLE, Int.reduceEq, Int.reduceNe, Int.cast_ofNat_Int, Int.reduceToNat, ↓reduceIte, reduceCtorEq]
end Go.Proofs
end
