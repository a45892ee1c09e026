/-
  What an edit behind another one keeps, character by character. Plain.
-/
import Derived.Test.YtmenbocckhbdjaaDoorXAAx1
import Derived.Test.YtmenbocckhbdjaaDoorXAAp16
set_option linter.unusedSimpArgs false
set_option linter.unusedVariables false
set_option linter.defProp false

-- AAx8
section
namespace Go.Proofs
open Go Go.Rw
set_option maxRecDepth 100000
set_option linter.unusedSimpArgs false
set_option linter.unusedVariables false

/-- What is put in. -/
def insU : List Un → List Nat
  | [] => []
  | .i c :: u => c :: insU u
  | _ :: u => insU u
/-- Which of the base's characters go. -/
def goneU : List Un → List Bool
  | [] => []
  | .i _ :: u => goneU u
  | .r :: u => false :: goneU u
  | .d :: u => true :: goneU u
def stayN (a b : List Bool) : Nat := (List.zipWith (· || ·) a b).count false
def scan3 : Nat → Nat → Nat → Nat → List Nat → Option (Nat × Nat × Nat)
  | _, i, k, kept, [] => some (i, k, kept)
  | last, i, k, kept, c :: r => if 9000 ≤ c then (if c = k then scan3 last i (k + 1) kept r else none) else if 3000 ≤ c then (if c = i then scan3 last (i + 1) k kept r else none) else if c ≤ last then none else scan3 c i k (kept + 1) r
theorem scan3_i {last i k kept c : Nat} {z : List Nat} {r : List Nat} {n : Nat} (h : c :: z = List.range' i n) (hi : 3000 ≤ i) (hb : i + n ≤ 9000) : scan3 last i k kept (c :: r) = scan3 last (i + 1) k kept r ∧ z = List.range' (i + 1) (n - 1) ∧ 1 ≤ n := by
  cases n with
  | zero => simp at h
  | succ n =>
    rw [List.range'_succ] at h
    obtain ⟨rfl, rfl⟩ := List.cons.inj h
    refine ⟨?_, rfl, by omega⟩
    rw [scan3, if_neg (by omega), if_pos hi, if_pos rfl]
theorem scan3_k {last i k kept c : Nat} {z : List Nat} {r : List Nat} {n : Nat} (h : c :: z = List.range' k n) (hi : 9000 ≤ k) : scan3 last i k kept (c :: r) = scan3 last i (k + 1) kept r ∧ z = List.range' (k + 1) (n - 1) ∧ 1 ≤ n := by
  cases n with
  | zero => simp at h
  | succ n =>
    rw [List.range'_succ] at h
    obtain ⟨rfl, rfl⟩ := List.cons.inj h
    refine ⟨?_, rfl, by omega⟩
    rw [scan3, if_pos hi, if_pos rfl]
theorem stay_cons (a b : Bool) (x y : List Bool) : stayN (a :: x) (b :: y) = (if (a || b) = false then 1 else 0) + stayN x y := by
  unfold stayN
  rw [List.zipWith_cons_cons, List.count_cons]
  cases a <;> cases b <;> simp <;> omega
theorem scan_over (f : Bool) (x y : List Un) : ∀ (cs : List Nat) (last i k kept n m : Nat), cs.length = bU x → bU x = bU y → List.Pairwise (· < ·) (last :: cs) → (∀ c ∈ cs, c < 3000) → insU x = List.range' i n → insU y = List.range' k m → 3000 ≤ i → i + n ≤ 9000 → 9000 ≤ k →
    scan3 last i k kept (doU (doU cs y) (overU f x y)) = some (i + n, k + m, kept + stayN (goneU x) (goneU y)) := by
  induction x, y using overU.induct (f := f) with
  | case1 a x c y hf ih =>
    intro cs last i k kept n m h1 h2 h3 h4 h5 h6 h7 h8 h9
    rw [overU, if_pos hf]
    simp only [insU] at h5
    simp only [doU, goneU]
    obtain ⟨e1, e2, e3⟩ := scan3_i (last := last) (k := k) (kept := kept) (r := doU (c :: doU cs y) (overU f x (.i c :: y))) h5 h7 h8
    have := ih cs last (i + 1) k kept (n - 1) m h1 h2 h3 h4 e2 h6 (by omega) (by omega) h9
    simp only [doU, goneU] at this
    rw [e1, this]; congr 2; omega
  | case2 a x c y hf ih =>
    intro cs last i k kept n m h1 h2 h3 h4 h5 h6 h7 h8 h9
    rw [overU, if_neg hf]
    simp only [insU] at h6
    simp only [doU, goneU]
    obtain ⟨e1, e2, e3⟩ := scan3_k (last := last) (i := i) (kept := kept) (r := doU (doU cs y) (overU f (.i a :: x) y)) h6 h9
    have := ih cs last i (k + 1) kept n (m - 1) h1 h2 h3 h4 h5 e2 h7 h8 (by omega)
    simp only [goneU] at this
    rw [e1, this]; congr 3; omega
  | case3 a x ih =>
    intro cs last i k kept n m h1 h2 h3 h4 h5 h6 h7 h8 h9
    rw [overU]
    simp only [insU] at h5
    simp only [doU, goneU]
    obtain ⟨e1, e2, e3⟩ := scan3_i (last := last) (k := k) (kept := kept) (r := doU [] (overU f x [])) h5 h7 h8
    have := ih cs last (i + 1) k kept (n - 1) m h1 h2 h3 h4 e2 h6 (by omega) (by omega) h9
    simp only [doU, goneU] at this
    first
    | (rw [e1, this]; congr 2; omega)
    | (obtain ⟨e1, e2, e3⟩ := scan3_i (last := last) (k := k) (kept := kept) (r := doU cs (overU f x [])) h5 h7 h8
       rw [e1, this]; congr 2; omega)
  | case4 a x y ih =>
    intro cs last i k kept n m h1 h2 h3 h4 h5 h6 h7 h8 h9
    rw [overU]
    simp only [insU] at h5
    have := ih cs last (i + 1) k kept (n - 1) m h1 h2 h3 h4 (scan3_i (last := last) (k := k) (kept := kept) (r := []) h5 h7 h8).2.1 h6 (by omega) (by have := (scan3_i (last := last) (k := k) (kept := kept) (r := []) h5 h7 h8).2.2; omega) h9
    rw [doU, (scan3_i h5 h7 h8).1]
    simp only [goneU] at this ⊢
    rw [this]; congr 2; have := (scan3_i (last := last) (k := k) (kept := kept) (r := []) h5 h7 h8).2.2; omega
  | case5 a x y ih =>
    intro cs last i k kept n m h1 h2 h3 h4 h5 h6 h7 h8 h9
    rw [overU]
    simp only [insU] at h5
    have := ih cs last (i + 1) k kept (n - 1) m h1 h2 h3 h4 (scan3_i (last := last) (k := k) (kept := kept) (r := []) h5 h7 h8).2.1 h6 (by omega) (by have := (scan3_i (last := last) (k := k) (kept := kept) (r := []) h5 h7 h8).2.2; omega) h9
    rw [doU, (scan3_i h5 h7 h8).1]
    simp only [goneU] at this ⊢
    rw [this]; congr 2; have := (scan3_i (last := last) (k := k) (kept := kept) (r := []) h5 h7 h8).2.2; omega
  | case6 c y ih =>
    intro cs last i k kept n m h1 h2 h3 h4 h5 h6 h7 h8 h9
    rw [overU]
    simp only [insU] at h6
    simp only [doU, goneU]
    obtain ⟨e1, e2, e3⟩ := scan3_k (last := last) (i := i) (kept := kept) (r := doU (doU cs y) (overU f [] y)) h6 h9
    have := ih cs last i (k + 1) kept n (m - 1) h1 h2 h3 h4 h5 e2 h7 h8 (by omega)
    simp only [goneU] at this
    rw [e1, this]; congr 3; omega
  | case7 x c y ih =>
    intro cs last i k kept n m h1 h2 h3 h4 h5 h6 h7 h8 h9
    rw [overU]
    simp only [insU] at h6
    simp only [doU, goneU]
    obtain ⟨e1, e2, e3⟩ := scan3_k (last := last) (i := i) (kept := kept) (r := doU (doU cs y) (overU f (.r :: x) y)) h6 h9
    have := ih cs last i (k + 1) kept n (m - 1) h1 h2 h3 h4 h5 e2 h7 h8 (by omega)
    simp only [goneU] at this
    rw [e1, this]; congr 3; omega
  | case8 x c y ih =>
    intro cs last i k kept n m h1 h2 h3 h4 h5 h6 h7 h8 h9
    rw [overU]
    simp only [insU] at h6
    simp only [doU, goneU]
    obtain ⟨e1, e2, e3⟩ := scan3_k (last := last) (i := i) (kept := kept) (r := doU (doU cs y) (overU f (.d :: x) y)) h6 h9
    have := ih cs last i (k + 1) kept n (m - 1) h1 h2 h3 h4 h5 e2 h7 h8 (by omega)
    simp only [goneU] at this
    rw [e1, this]; congr 3; omega
  | case9 x y ih =>
    intro cs last i k kept n m h1 h2 h3 h4 h5 h6 h7 h8 h9
    simp only [bU] at h1 h2
    cases cs with
    | nil => simp at h1
    | cons c cs =>
      rw [overU]
      have hc := h4 c (by simp)
      have hp := List.pairwise_cons.1 h3
      have hl : last < c := hp.1 c (by simp)
      have := ih cs c i k (kept + 1) n m (by simpa using h1) (by omega) hp.2 (fun z hz => h4 z (by simp [hz])) h5 h6 h7 h8 h9
      simp only [doU, goneU]
      rw [scan3, if_neg (by omega), if_neg (by omega), if_neg (by omega), this, stay_cons]
      simp only [Bool.or_false, if_true]
      congr 3; omega
  | case10 x y ih =>
    intro cs last i k kept n m h1 h2 h3 h4 h5 h6 h7 h8 h9
    simp only [bU] at h1 h2
    cases cs with
    | nil => simp at h1
    | cons c cs =>
      rw [overU]
      have hp := List.pairwise_cons.1 h3
      have hl : last < c := hp.1 c (by simp)
      have hq : List.Pairwise (· < ·) (last :: cs) := List.pairwise_cons.2 ⟨fun z hz => hp.1 z (by simp [hz]), (List.pairwise_cons.1 hp.2).2⟩
      have := ih cs last i k kept n m (by simpa using h1) (by omega) hq (fun z hz => h4 z (by simp [hz])) h5 h6 h7 h8 h9
      simp only [doU, goneU, List.tail_cons]
      rw [this, stay_cons]
      simp
  | case11 x y ih =>
    intro cs last i k kept n m h1 h2 h3 h4 h5 h6 h7 h8 h9
    simp only [bU] at h1 h2
    cases cs with
    | nil => simp at h1
    | cons c cs =>
      rw [overU]
      have hp := List.pairwise_cons.1 h3
      have hl : last < c := hp.1 c (by simp)
      have hq : List.Pairwise (· < ·) (last :: cs) := List.pairwise_cons.2 ⟨fun z hz => hp.1 z (by simp [hz]), (List.pairwise_cons.1 hp.2).2⟩
      have := ih cs last i k kept n m (by simpa using h1) (by omega) hq (fun z hz => h4 z (by simp [hz])) h5 h6 h7 h8 h9
      simp only [doU, goneU, List.tail_cons]
      rw [this, stay_cons]
      simp
  | case12 x y ih =>
    intro cs last i k kept n m h1 h2 h3 h4 h5 h6 h7 h8 h9
    simp only [bU] at h1 h2
    cases cs with
    | nil => simp at h1
    | cons c cs =>
      rw [overU]
      have hp := List.pairwise_cons.1 h3
      have hl : last < c := hp.1 c (by simp)
      have hq : List.Pairwise (· < ·) (last :: cs) := List.pairwise_cons.2 ⟨fun z hz => hp.1 z (by simp [hz]), (List.pairwise_cons.1 hp.2).2⟩
      have := ih cs last i k kept n m (by simpa using h1) (by omega) hq (fun z hz => h4 z (by simp [hz])) h5 h6 h7 h8 h9
      simp only [doU, goneU, List.tail_cons]
      rw [this, stay_cons]
      simp
  | case13 x y h1 h2 h3 h4 h5 h6 h7 h8 h9 h10 h11 =>
    intro cs last i k kept n m e1 e e3 e4 e5 e6 e7 e8 e9
    cases y with
    | nil => cases x with
      | nil =>
        have hn : n = 0 := by have := congrArg List.length e5; simpa [insU] using this.symm
        have hm : m = 0 := by have := congrArg List.length e6; simpa [insU] using this.symm
        subst hn hm
        rw [overU] <;> first | simp [doU, scan3, goneU, stayN] | simp
      | cons a x => cases a <;> first | exact (h2 _ _ rfl rfl).elim | simp_all [bU]
    | cons b y => cases x with
      | nil => cases b <;> first | exact (h5 _ _ rfl rfl).elim | simp_all [bU]
      | cons a x => cases a <;> cases b <;> first | exact (h1 _ _ _ _ rfl rfl).elim | simp_all
theorem insU_app : ∀ a b : List Un, insU (a ++ b) = insU a ++ insU b
  | [], _ => rfl
  | .i c :: a, b => by simp [insU, insU_app a b]
  | .r :: a, b => by simp [insU, insU_app a b]
  | .d :: a, b => by simp [insU, insU_app a b]
theorem insU_i : ∀ xs : List Nat, insU (xs.map .i) = xs
  | [] => rfl
  | x :: xs => by simp [insU, insU_i xs]
theorem insU_r : ∀ n, insU (List.replicate n .r) = []
  | 0 => rfl
  | n + 1 => by simp [List.replicate_succ, insU, insU_r n]
theorem insU_d : ∀ n, insU (List.replicate n .d) = []
  | 0 => rfl
  | n + 1 => by simp [List.replicate_succ, insU, insU_d n]
theorem goneU_app : ∀ a b : List Un, goneU (a ++ b) = goneU a ++ goneU b
  | [], _ => rfl
  | .i c :: a, b => by simp [goneU, goneU_app a b]
  | .r :: a, b => by simp [goneU, goneU_app a b]
  | .d :: a, b => by simp [goneU, goneU_app a b]
theorem goneU_i : ∀ xs : List Nat, goneU (xs.map .i) = []
  | [] => rfl
  | x :: xs => by simp [goneU, goneU_i xs]
theorem goneU_r : ∀ n, goneU (List.replicate n .r) = List.replicate n false
  | 0 => rfl
  | n + 1 => by simp [List.replicate_succ, goneU, goneU_r n]
theorem goneU_d : ∀ n, goneU (List.replicate n .d) = List.replicate n true
  | 0 => rfl
  | n + 1 => by simp [List.replicate_succ, goneU, goneU_d n]
theorem goneU_len : ∀ u : List Un, (goneU u).length = bU u
  | [] => rfl
  | .i c :: a => by simp [goneU, bU, goneU_len a]
  | .r :: a => by simp [goneU, bU, goneU_len a]
  | .d :: a => by simp [goneU, bU, goneU_len a]
/-- Of an edit numbered anew: its characters, and what goes. -/
theorem ren_units : ∀ (l : List Cp) (nx : Nat), (∀ c ∈ l, sound c = true) → 1 ≤ nx → nx + tot l ≤ 55296 → insU (unL (ren nx l)) = List.range' nx (nxt nx l - nx) ∧ goneU (unL (ren nx l)) = goneU (unL l)
  | [], nx, _, _, _ => by simp [ren, unL, insU, goneU, nxt]
  | c :: r, nx, h, h1, h2 => by
    have hs := h c (by simp)
    simp only [tot] at h2
    have h3 := nx1_le nx c
    have h4 := nxt_le r (nx1 nx c)
    have hcl := cpts_len c.t
    obtain ⟨i1, i2⟩ := ren_units r (nx1 nx c) (fun x hx => h x (by simp [hx])) (by omega) (by omega)
    have hk := rc1_k nx c
    simp only [ren, unL, nxt, insU_app, goneU_app, i1, i2]
    rcases sound_cases hs with ⟨hk2, h0, hne, hv⟩ | ⟨h13, h0, ht⟩
    · have e1 : cpts (rc1 nx c).t = List.range' nx (cpts c.t).length := by
        unfold rc1
        rw [if_pos hk2, cpts_enc (okc_range (by omega) (by omega))]
      have e2 : nx1 nx c = nx + (cpts c.t).length := by unfold nx1; rw [if_pos hk2]
      rw [unP, if_pos (by rw [hk.1]; exact hk2), e1, insU_i, goneU_i, unP, if_pos hk2, goneU_i, e2]
      rw [e2] at h4
      refine ⟨?_, rfl⟩
      rw [List.range'_append_1]
      congr 1; omega
    · have e1 : rc1 nx c = c := by unfold rc1; rw [if_neg (by omega)]
      have e2 : nx1 nx c = nx := by unfold nx1; rw [if_neg (by omega)]
      rw [e1, e2]
      refine ⟨?_, rfl⟩
      unfold unP
      rw [if_neg (by omega)]
      rcases h13 with h13 | h13
      · rw [if_pos h13, insU_r]; rfl
      · rw [if_neg (by omega), if_pos h13, insU_d]; rfl
/-- What of the base goes, part by part. -/
def goneC (c : Cp) : List Bool := if c.k = 2 then [] else List.replicate c.n.toNat (decide (c.k = 3))
theorem goneU_part {c : Cp} (h : sound c = true) : goneU (unP c) = goneC c := by
  unfold unP goneC
  rcases sound_cases h with ⟨h2, _⟩ | ⟨h1 | h3, _⟩
  · rw [if_pos h2, goneU_i, if_pos h2]
  · rw [if_neg (by omega), if_pos h1, goneU_r, if_neg (by omega)]; simp [h1]
  · rw [if_neg (by omega), if_neg (by omega), if_pos h3, goneU_d, if_neg (by omega)]; simp [h3]
theorem xkeeps_law (f : Bool) {n : Nat} {a b : List Cp} (ha : checkI a = 0) (hb : checkI b = 0) (hna : baseL a = n) (hnb : baseL b = n) (hn : n ≤ 200) (hta : tot a ≤ 1000) (htb : tot b ≤ 1000) (oa : okL (ren 3000 a)) (ob : okL (ren 9000 b)) :
    errI (encs (List.range' 1000 n)) (ren 9000 b) = 0 ∧ ovE (ren 3000 a) (ren 9000 b) = 0 ∧ (checkI (ovN f (ren 3000 a) (ren 9000 b)) = 0 →
      ∃ y : List Nat, errI (doneB (encs (List.range' 1000 n)) (ren 9000 b)) (ovN f (ren 3000 a) (ren 9000 b)) = 0 ∧ pts (doneB (doneB (encs (List.range' 1000 n)) (ren 9000 b)) (ovN f (ren 3000 a) (ren 9000 b))) = some y ∧ y.length ≤ 2000 ∧
        scan3 0 3000 9000 0 y = some (nxt 3000 a, nxt 9000 b, stayN (goneU (unL a)) (goneU (unL b)))) := by
  obtain ⟨a1, a2, a3, a4, a5, a6⟩ := check_cases ha
  obtain ⟨b1, b2, b3, b4, b5, b6⟩ := check_cases hb
  have ra := ren_check ha (nx := 3000) (by omega) (by omega)
  have rb := ren_check hb (nx := 9000) (by omega) (by omega)
  have ho := okc_range (nx := 1000) (n := n) (by omega) (by omega)
  have hp := pts_enc ho
  have hba : baseL (ren 3000 a) = n := by show baseF 0 _ = _; rw [ren_base]; exact hna
  have hbb : baseL (ren 9000 b) = n := by show baseF 0 _ = _; rw [ren_base]; exact hnb
  have he : errI (encs (List.range' 1000 n)) (ren 9000 b) = 0 := err_of rb hp (by rw [List.length_range', hbb])
  have hov := ovE_of ra rb (by rw [hba, hbb])
  refine ⟨he, hov, fun hc => ?_⟩
  obtain ⟨d1, d2, d3⟩ := done_law he
  rw [cpts_some hp] at d1 d2
  obtain ⟨f1, f2, f3, f4⟩ := ov_facts f hov oa ob
  have hr := err_of hc d1 (by rw [f2]; omega)
  obtain ⟨g1, g2, g3⟩ := done_law hr
  rw [cpts_some d1, f1] at g1 g2
  refine ⟨_, hr, g1, ?_, ?_⟩
  · have := (check_cases hc).2.2.2.2.2
    omega
  · obtain ⟨u1, u2⟩ := ren_units a 3000 a3 (by omega) (by omega)
    obtain ⟨v1, v2⟩ := ren_units b 9000 b3 (by omega) (by omega)
    have n1 := nxt_le a 3000
    have n2 := nxt_le b 9000
    have w1 := (out_units ra).2.1
    have w2 := (out_units rb).2.1
    have sb := (check_cases rb).2.2.1
    rw [do_units _ _ sb]
    have := scan_over f (unL (ren 3000 a)) (unL (ren 9000 b)) (List.range' 1000 n) 0 3000 9000 0 (nxt 3000 a - 3000) (nxt 9000 b - 9000) (by rw [List.length_range']; omega) (by omega) (List.pairwise_cons.2 ⟨fun x hx => by rw [List.mem_range'_1] at hx; omega, List.pairwise_lt_range'⟩) (fun x hx => by rw [List.mem_range'_1] at hx; omega) u1 v1 (by omega) (by omega) (by omega)
    rw [this, u2, v2, show 3000 + (nxt 3000 a - 3000) = nxt 3000 a by omega, show 9000 + (nxt 9000 b - 9000) = nxt 9000 b by omega, Nat.zero_add]
end Go.Proofs
end
