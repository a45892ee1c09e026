/-
  Numbers of quarters as floats. Floats and complex numbers of quarters: rules.
-/
import GoSem.Core.Float
import Derived.Test.YtknbfkmgoijncaaDoorRwE
set_option linter.unusedSimpArgs false
set_option linter.unusedVariables false
set_option linter.defProp false

-- RwFl
section
namespace Go.Rw
open Go Ieee
set_option linter.unusedSimpArgs false
set_option maxRecDepth 20000
set_option exponentiation.threshold 2000

/-- m * 2^e is z quarters. -/
def ValI (m : Int) (e : Int) (z : Int) : Prop := m * 2 ^ (e + 2).toNat = z * 2 ^ (-(e + 2)).toNat
/-- A datum that is z quarters. -/
def Vl (d : Datum) (z : Int) : Prop := ∃ s m e, d = .number s m e ∧ ValI (if s then -(m : Int) else m) e z

theorem signed_eq (s : Bool) (m k : Nat) : signed s m k = (if s then -(m : Int) else m) * 2 ^ k := by
  unfold signed
  cases s
  · simp [Nat.shiftLeft_eq]
  · simp [Nat.shiftLeft_eq]; exact (Int.neg_mul _ _).symm

theorem pow2_pos (n : Nat) : (0 : Int) < 2 ^ n := Int.pow_pos (by decide)

theorem ValI.lower {m e z b : Int} (h : ValI m e z) (hb : b ≤ e) : ValI (m * 2 ^ (e - b).toNat) b z := by
  unfold ValI at *
  by_cases h1 : 0 ≤ b + 2
  · have e1 : (e + 2).toNat = (e - b).toNat + (b + 2).toNat := by omega
    have e2 : (-(e + 2)).toNat = 0 := by omega
    have e3 : (-(b + 2)).toNat = 0 := by omega
    rw [e1, e2, Int.pow_add] at h
    rw [e3, Int.mul_assoc]; exact h
  · have e3 : (b + 2).toNat = 0 := by omega
    rw [e3, Int.pow_zero, Int.mul_one]
    by_cases h2 : 0 ≤ e + 2
    · have e4 : (e - b).toNat = (e + 2).toNat + (-(b + 2)).toNat := by omega
      have e2 : (-(e + 2)).toNat = 0 := by omega
      rw [e2, Int.pow_zero, Int.mul_one] at h
      rw [e4, Int.pow_add, ← Int.mul_assoc, h]
    · have e2 : (e + 2).toNat = 0 := by omega
      have e4 : (-(b + 2)).toNat = (-(e + 2)).toNat + (e - b).toNat := by omega
      rw [e2, Int.pow_zero, Int.mul_one] at h
      rw [h, e4, Int.pow_add, Int.mul_assoc]

theorem ValI.add {m n e z y : Int} (h : ValI m e z) (h2 : ValI n e y) : ValI (m + n) e (z + y) := by
  unfold ValI at *
  rw [Int.add_mul, Int.add_mul, h, h2]
theorem ValI.lt {m n e z y : Int} (h : ValI m e z) (h2 : ValI n e y) : m < n ↔ z < y := by
  unfold ValI at *
  rw [← Int.mul_lt_mul_right (pow2_pos (e + 2).toNat), h, h2, Int.mul_lt_mul_right (pow2_pos _)]
theorem ValI.zero {m e z : Int} (h : ValI m e z) : m = 0 ↔ z = 0 := by
  have h0 : ValI 0 e 0 := by simp [ValI]
  have h1 := h.lt h0
  have h2 := h0.lt h
  omega
theorem ValI.neg {m e z : Int} (h : ValI m e z) : ValI (-m) e (-z) := by
  unfold ValI at *
  rw [Int.neg_mul, Int.neg_mul, h]
theorem ValI.mul {m n e f z y w : Int} (h : ValI m e z) (h2 : ValI n f y) (hw : z * y = 4 * w) : ValI (m * n) (e + f) w := by
  have hA := h.lower (b := min e (-2) ) (by omega)
  have hB := h2.lower (b := min f (-2)) (by omega)
  unfold ValI at hA hB ⊢
  have k1 : (min e (-2) + 2).toNat = 0 := by omega
  have k2 : (min f (-2) + 2).toNat = 0 := by omega
  rw [k1, Int.pow_zero, Int.mul_one] at hA
  rw [k2, Int.pow_zero, Int.mul_one] at hB
  -- m * 2^a = z * 2^a' ; n * 2^b = y * 2^b'
  generalize ha : (e - min e (-2)).toNat = a at hA
  generalize ha' : (-(min e (-2) + 2)).toNat = a' at hA
  generalize hb : (f - min f (-2)).toNat = b at hB
  generalize hb' : (-(min f (-2) + 2)).toNat = b' at hB
  have h3 : (m * n) * 2 ^ (a + b) = w * 2 ^ (a' + b' + 2) := by
    rw [Int.pow_add, Int.pow_add, Int.pow_add]
    have : (m * n) * (2 ^ a * 2 ^ b) = (m * 2 ^ a) * (n * 2 ^ b) := by
      rw [Int.mul_assoc, Int.mul_assoc, Int.mul_left_comm n]
    rw [this, hA, hB]
    have : (z * 2 ^ a') * (y * 2 ^ b') = (z * y) * (2 ^ a' * 2 ^ b') := by
      rw [Int.mul_assoc, Int.mul_assoc, Int.mul_left_comm (2 ^ a')]
    rw [this, hw]
    show 4 * w * (2 ^ a' * 2 ^ b') = w * (2 ^ a' * 2 ^ b' * 4)
    rw [Int.mul_comm 4 w, Int.mul_assoc, Int.mul_comm 4]
  -- shift both sides to the wanted powers
  have key : ∀ (x w : Int) (p q c d : Nat), x * 2 ^ p = w * 2 ^ q → p + d = q + c → x * 2 ^ c = w * 2 ^ d := by
    intro x w p q c d hx hpq
    have h5 : (x * 2 ^ c) * 2 ^ (p + d) = (w * 2 ^ d) * 2 ^ (p + d) := by
      calc (x * 2 ^ c) * 2 ^ (p + d) = (x * 2 ^ p) * 2 ^ (c + d) := by
            rw [Int.mul_assoc, Int.mul_assoc, ← Int.pow_add, ← Int.pow_add]; congr 2; omega
        _ = (w * 2 ^ q) * 2 ^ (c + d) := by rw [hx]
        _ = (w * 2 ^ d) * 2 ^ (p + d) := by
            rw [Int.mul_assoc, Int.mul_assoc, ← Int.pow_add, ← Int.pow_add]; congr 2; omega
    exact Int.eq_of_mul_eq_mul_right (Int.ne_of_gt (pow2_pos _)) h5
  exact key _ _ _ _ _ _ h3 (by omega)

theorem Vl.neg_zero {d : Datum} {z : Int} (h : Vl d z) (hz : z ≠ 0) : d.neg = decide (z < 0) := by
  obtain ⟨s, m, e, rfl, hv⟩ := h
  have h0 : ValI 0 e 0 := by simp [ValI]
  have h1 := hv.lt h0
  have h2 := h0.lt hv
  show s = _
  cases s
  · simp only [Bool.false_eq_true, if_false] at *
    have : ¬ z < 0 := by omega
    simp [this]
  · simp only [if_true] at *
    have : z < 0 := by omega
    simp [this]

theorem Vl.sum {d d' : Datum} {z y : Int} (h : Vl d z) (h2 : Vl d' y) : ∃ r, d.sum d' = some r ∧ Vl r (z + y) ∧ (z + y = 0 → r.neg = (d.neg && d'.neg)) := by
  obtain ⟨s, m, i, rfl, hv⟩ := h
  obtain ⟨t, n, j, rfl, hv2⟩ := h2
  have h3 := hv.lower (b := min i j) (by omega)
  have h4 := hv2.lower (b := min i j) (by omega)
  have h5 := h3.add h4
  rw [← signed_eq, ← signed_eq] at h5
  refine ⟨_, rfl, ⟨_, _, _, rfl, ?_⟩, ?_⟩
  · generalize signed s m (i - min i j).toNat + signed t n (j - min i j).toNat = T at h5
    by_cases h0 : T = 0
    · rw [if_pos h0]
      subst h0
      have e : (if (s && t) = true then -((0 : Int).natAbs : Int) else ((0 : Int).natAbs : Int)) = 0 := by split <;> rfl
      rw [e]; exact h5
    · rw [if_neg h0]
      have e : (if decide (T < 0) = true then -(T.natAbs : Int) else (T.natAbs : Int)) = T := by
        by_cases hn : T < 0 <;> simp [hn] <;> omega
      rw [e]; exact h5
  · intro hz
    have h6 := (h5.zero).2 hz
    show (if _ then _ else _) = _
    rw [if_pos h6]; rfl
theorem Vl.opposite {d : Datum} {z : Int} (h : Vl d z) : Vl d.opposite (-z) ∧ d.opposite.neg = !d.neg := by
  obtain ⟨s, m, e, rfl, hv⟩ := h
  refine ⟨⟨!s, m, e, rfl, ?_⟩, rfl⟩
  cases s
  · simpa using hv.neg
  · have := hv.neg
    simpa using this
theorem Vl.order {d d' : Datum} {z y : Int} (h : Vl d z) (h2 : Vl d' y) : d.order d' = some (compare z y) := by
  obtain ⟨s, m, i, rfl, hv⟩ := h
  obtain ⟨t, n, j, rfl, hv2⟩ := h2
  have h3 := hv.lower (b := min i j) (by omega)
  have h4 := hv2.lower (b := min i j) (by omega)
  rw [← signed_eq] at h3 h4
  show some (compare _ _) = _
  have l1 := h3.lt h4
  have l2 := h4.lt h3
  congr 1
  show compareOfLessAndEq _ _ = compareOfLessAndEq _ _
  unfold compareOfLessAndEq
  generalize signed s m (i - min i j).toNat = A at *
  generalize signed t n (j - min i j).toNat = B at *
  by_cases c1 : A < B
  · rw [if_pos c1, if_pos (l1.1 c1)]
  · rw [if_neg c1, if_neg (fun h => c1 (l1.2 h))]
    by_cases c2 : A = B
    · rw [if_pos c2, if_pos (by omega)]
    · rw [if_neg c2, if_neg (by omega)]
theorem Vl.product {d d' : Datum} {z y w : Int} (h : Vl d z) (h2 : Vl d' y) (hw : z * y = 4 * w) : ∃ r, d.product d' = some r ∧ Vl r w ∧ r.neg = (d.neg ^^ d'.neg) := by
  obtain ⟨s, m, i, rfl, hv⟩ := h
  obtain ⟨t, n, j, rfl, hv2⟩ := h2
  refine ⟨_, rfl, ⟨_, _, _, rfl, ?_⟩, rfl⟩
  have h3 := hv.mul hv2 hw
  have e : (if (s ^^ t) = true then -((m * n : Nat) : Int) else ((m * n : Nat) : Int)) = (if s = true then -(m : Int) else m) * (if t = true then -(n : Int) else n) := by
    cases s <;> cases t <;> simp [Int.neg_mul, Int.mul_neg]
  rw [e]; exact h3

/-- The word of z quarters. -/
def qf (z : Int) : Nat := double.write (.number (z < 0) z.natAbs (-2))
/-- The word of a number. -/
def fl (n : Int) : Nat := qf (4 * n)

/-- Digits and place in which a number of quarters is kept. -/
def normM (z : Int) : Nat := z.natAbs * 2 ^ (52 - z.natAbs.log2)
def normE (z : Int) : Int := (z.natAbs.log2 : Int) - 54
theorem log2_lt {a : Nat} (ha : a < 2 ^ 53) (h0 : a ≠ 0) : a.log2 < 53 := (Nat.log2_lt h0).2 ha
theorem normM_range {z : Int} (h0 : z ≠ 0) (hz : z.natAbs < 2 ^ 53) : 2 ^ 52 ≤ normM z ∧ normM z < 2 ^ 53 := by
  have hn : z.natAbs ≠ 0 := by omega
  have hl := log2_lt hz hn
  have h1 := Nat.log2_self_le hn
  have h2 := Nat.lt_log2_self (n := z.natAbs)
  unfold normM
  generalize z.natAbs.log2 = l at *
  have e : 52 = l + (52 - l) := by omega
  constructor
  · calc 2 ^ 52 = 2 ^ l * 2 ^ (52 - l) := by rw [← Nat.pow_add, ← e]
      _ ≤ _ := Nat.mul_le_mul_right _ h1
  · calc _ < 2 ^ (l + 1) * 2 ^ (52 - l) := Nat.mul_lt_mul_of_pos_right h2 (Nat.pow_pos (by decide))
      _ = 2 ^ 53 := by rw [← Nat.pow_add]; congr 1; omega

theorem cut_zero {n : Nat} {neg : Bool} : Toward.even.cut neg n 0 = n := by
  simp [Toward.cut, Nat.mod_one]
theorem cut_exact {neg : Bool} {q drop : Nat} (h : q ≠ 0) : Toward.even.cut neg (q * 2 ^ drop) drop = q := by
  have hl : drop ≤ (q * 2 ^ drop).log2 := by
    rw [Nat.le_log2 (Nat.mul_ne_zero h (Nat.ne_of_gt (Nat.pow_pos (by decide))))]
    exact Nat.le_mul_of_pos_left _ (by omega)
  have e : min drop ((q * 2 ^ drop).log2 + 2) = drop := Nat.min_eq_left (by omega)
  simp only [Toward.cut, e, Nat.shiftLeft_eq, Nat.one_mul]
  rw [Nat.mul_div_cancel _ (Nat.pow_pos (by decide)), Nat.mul_mod_left]
  have h2 : ¬ 2 ^ drop < 2 * 0 := Nat.not_lt_zero _
  have h3 : ¬ 2 ^ drop = 2 * 0 := by have := Nat.pow_pos (a := 2) (n := drop) (by decide); omega
  simp [h2, h3]

/-- What a number of quarters is written as. -/
theorem nearest_val {s : Bool} {m : Nat} {e z : Int} (hv : ValI (if s then -(m : Int) else m) e z) (h0 : z ≠ 0) (hz : z.natAbs < 2 ^ 53) :
    double.nearest s m e = double.word s ((normE z + 1074).toNat * 2 ^ 52 + normM z) := by
  have hm : m ≠ 0 := by
    rintro rfl
    have := (hv.zero).1 (by cases s <;> rfl)
    exact h0 this
  have habs : m * 2 ^ (e + 2).toNat = z.natAbs * 2 ^ (-(e + 2)).toNat := by
    unfold ValI at hv
    have h1 := congrArg Int.natAbs hv
    rw [Int.natAbs_mul, Int.natAbs_mul, Int.natAbs_pow, Int.natAbs_pow] at h1
    cases s <;> simpa using h1
  have hn : z.natAbs ≠ 0 := by omega
  have hl := log2_lt hz hn
  have hlog : (m.log2 : Int) + e = (z.natAbs.log2 : Int) - 2 := by
    have h1 := congrArg Nat.log2 habs
    have l1 : ∀ (a k : Nat), a ≠ 0 → (a * 2 ^ k).log2 = a.log2 + k := fun a k ha => by
      induction k with
      | zero => simp
      | succ k ih =>
        have hne : a * 2 ^ k ≠ 0 := Nat.mul_ne_zero ha (Nat.ne_of_gt (Nat.pow_pos (by decide)))
        rw [Nat.pow_succ, ← Nat.mul_assoc, Nat.mul_comm _ 2, Nat.log2_two_mul hne, ih]; omega
    rw [l1 _ _ hm, l1 _ _ hn] at h1
    omega
  have hlast : max (e + m.log2 - double.fractionBits) double.leastPlace = normE z := by
    have e1 : (double.fractionBits : Int) = 52 := rfl
    have e2 : double.leastPlace = -1074 := by decide
    rw [e1, e2]; unfold normE; omega
  have hr := normM_range h0 hz
  have hkept : Toward.even.cut s (m <<< (e - normE z).toNat) (normE z - e).toNat = normM z := by
    have hM : normM z = z.natAbs * 2 ^ (52 - z.natAbs.log2) := rfl
    by_cases h1 : normE z ≤ e
    · have e1 : (normE z - e).toNat = 0 := by omega
      rw [e1, cut_zero, Nat.shiftLeft_eq]
      -- m * 2^(e - last) = |z| * 2^(-2-last)
      have h2 : m * 2 ^ (e - normE z).toNat * 2 ^ (e + 2).toNat = normM z * 2 ^ (e + 2).toNat := by
        calc m * 2 ^ (e - normE z).toNat * 2 ^ (e + 2).toNat = (m * 2 ^ (e + 2).toNat) * 2 ^ (e - normE z).toNat := Nat.mul_right_comm _ _ _
          _ = z.natAbs * 2 ^ (-(e + 2)).toNat * 2 ^ (e - normE z).toNat := by rw [habs]
          _ = normM z * 2 ^ (e + 2).toNat := by
            rw [hM, Nat.mul_assoc, Nat.mul_assoc, ← Nat.pow_add, ← Nat.pow_add]
            congr 2; unfold normE at *; omega
      exact Nat.eq_of_mul_eq_mul_right (Nat.pow_pos (by decide)) h2
    · have e1 : (e - normE z).toNat = 0 := by omega
      rw [e1, Nat.shiftLeft_zero]
      have h2 : m = normM z * 2 ^ (normE z - e).toNat := by
        have h3 : m * 2 ^ (e + 2).toNat = normM z * 2 ^ (normE z - e).toNat * 2 ^ (e + 2).toNat := by
          rw [habs, hM, Nat.mul_assoc, Nat.mul_assoc, ← Nat.pow_add, ← Nat.pow_add]
          congr 2; unfold normE at *; omega
        exact Nat.eq_of_mul_eq_mul_right (Nat.pow_pos (by decide)) h3
      rw [h2]
      exact cut_exact (by omega)
  unfold Format.nearest
  rw [if_neg hm]
  simp only
  rw [hlast, hkept]
  have e2 : double.leastPlace = -1074 := by decide
  have e3 : double.binade = 2 ^ 52 := by decide
  have e4 : double.infRung = 2047 * 2 ^ 52 := by decide
  rw [e2, e3, e4, show normE z - -1074 = normE z + 1074 by omega]
  have h1 : (normE z + 1074).toNat ≤ 1073 := by unfold normE; omega
  have h2 := Nat.mul_le_mul_right (2 ^ 52) h1
  have h4 : (1073 : Nat) * 2 ^ 52 + 2 ^ 53 ≤ 2047 * 2 ^ 52 := by decide
  exact congrArg _ (Nat.min_eq_left (Nat.le_trans (Nat.add_le_add h2 (Nat.le_of_lt hr.2)) h4))
theorem natAbs_valI (z : Int) : ValI (if decide (z < 0) = true then -(z.natAbs : Int) else (z.natAbs : Int)) (-2) z := by
  have : (if decide (z < 0) = true then -(z.natAbs : Int) else (z.natAbs : Int)) = z := by
    by_cases h : z < 0 <;> simp [h] <;> omega
  rw [this]; simp [ValI]
/-- What is z quarters is written as its word. -/
theorem Vl.write {d : Datum} {z : Int} (h : Vl d z) (hz : z.natAbs < 2 ^ 53) (hs : z = 0 → d.neg = false) : double.write d = qf z := by
  have hneg : z ≠ 0 → d.neg = decide (z < 0) := h.neg_zero
  obtain ⟨s, m, e, rfl, hv⟩ := h
  simp only [Datum.neg] at hs hneg
  unfold qf Format.write
  by_cases h0 : z = 0
  · have hm := (hv.zero).2 h0
    have hm0 : m = 0 := by cases s <;> simp at hm <;> omega
    subst h0 hm0
    rw [hs rfl]
    simp [Format.nearest]
  · have e1 := nearest_val hv h0 hz
    have e2 := nearest_val (natAbs_valI z) h0 hz
    simp only
    rw [e1, e2, hneg h0]
theorem normVal {z : Int} (h0 : z ≠ 0) (hz : z.natAbs < 2 ^ 53) : ValI (if decide (z < 0) = true then -(normM z : Int) else (normM z : Int)) (normE z) z := by
  have hn : z.natAbs ≠ 0 := by omega
  have hl := log2_lt hz hn
  unfold ValI
  have t1 : (normE z + 2).toNat = 0 := by unfold normE; omega
  have t2 : (-(normE z + 2)).toNat = 52 - z.natAbs.log2 := by unfold normE; omega
  rw [t1, t2, Int.pow_zero, Int.mul_one]
  have hM : normM z = z.natAbs * 2 ^ (52 - z.natAbs.log2) := rfl
  rw [hM]
  have hz3 : (if decide (z < 0) = true then -(z.natAbs : Int) else (z.natAbs : Int)) = z := by
    by_cases h : z < 0 <;> simp [h] <;> omega
  by_cases hs : z < 0
  · simp only [hs, decide_true, if_true] at hz3 ⊢
    rw [Int.natCast_mul, ← Int.neg_mul, hz3]; simp
  · simp only [hs, decide_false, Bool.false_eq_true, if_false] at hz3 ⊢
    rw [Int.natCast_mul, hz3]; simp
/-- A word is read as it was written. -/
theorem qf_read_eq {z : Int} (h0 : z ≠ 0) (hz : z.natAbs < 2 ^ 53) : double.read (qf z) = .number (decide (z < 0)) (normM z) (normE z) := by
  have hr := normM_range h0 hz
  have hn : z.natAbs ≠ 0 := by omega
  have hl := log2_lt hz hn
  have e2 := nearest_val (natAbs_valI z) h0 hz
  have hw : qf z = double.word (decide (z < 0)) ((normE z + 1074).toNat * 2 ^ 52 + normM z) := e2
  have hE : 1020 ≤ (normE z + 1074).toNat ∧ (normE z + 1074).toNat ≤ 1073 := by unfold normE; omega
  rw [hw]
  have hR : (normE z + 1074).toNat * 2 ^ 52 + normM z < 2 ^ 63 := by
    have := Nat.mul_le_mul_right (2 ^ 52) hE.2
    omega
  have s1 : double.signWeight = 2 ^ 63 := by decide
  have hneg : (double.word (decide (z < 0)) ((normE z + 1074).toNat * 2 ^ 52 + normM z) / double.signWeight % 2 == 1) = decide (z < 0) := by
    rw [s1]
    unfold Format.word
    by_cases hs : z < 0
    · simp only [hs, decide_true, if_true, s1]
      rw [Nat.add_div_left _ (by decide), Nat.div_eq_of_lt hR]; rfl
    · simp only [hs, decide_false, Bool.false_eq_true, if_false]
      rw [Nat.div_eq_of_lt hR]; rfl
  have hrung : double.word (decide (z < 0)) ((normE z + 1074).toNat * 2 ^ 52 + normM z) % double.signWeight = (normE z + 1074).toNat * 2 ^ 52 + normM z := by
    rw [s1]
    unfold Format.word
    by_cases hs : z < 0
    · simp only [hs, decide_true, if_true, s1]
      rw [Nat.add_mod_left, Nat.mod_eq_of_lt hR]
    · simp only [hs, decide_false, Bool.false_eq_true, if_false]
      rw [Nat.mod_eq_of_lt hR]
  have b1 : double.binade = 2 ^ 52 := by decide
  have b2 : double.infRung = 2047 * 2 ^ 52 := by decide
  have b3 : double.leastPlace = -1074 := by decide
  unfold Format.read
  rw [hneg, hrung, b1, b2, b3]
  simp only
  rw [if_neg (by omega), if_pos (by omega)]
  have q1 : ((normE z + 1074).toNat * 2 ^ 52 + normM z) / 2 ^ 52 = (normE z + 1074).toNat + 1 := by omega
  have q2 : ((normE z + 1074).toNat * 2 ^ 52 + normM z) % 2 ^ 52 = normM z - 2 ^ 52 := by omega
  rw [q1, q2]
  have q3 : 2 ^ 52 + (normM z - 2 ^ 52) = normM z := by omega
  have q4 : (-1074 : Int) + ((normE z + 1074).toNat + 1 - 1 : Nat) = normE z := by omega
  rw [q3, q4]
theorem qf_zero : qf 0 = 0 := by decide +kernel
theorem read_zero : double.read 0 = .number false 0 (-1074) := by decide +kernel
theorem qf_read {z : Int} (hz : z.natAbs < 2 ^ 53) : Vl (double.read (qf z)) z ∧ (z = 0 → (double.read (qf z)).neg = false) := by
  by_cases h0 : z = 0
  · subst h0
    rw [qf_zero, read_zero]
    exact ⟨⟨false, 0, -1074, rfl, by simp [ValI]⟩, fun _ => rfl⟩
  · exact ⟨⟨_, _, _, qf_read_eq h0 hz, normVal h0 hz⟩, fun h => absurd h h0⟩

theorem qf_add {z y : Int} (hz : z.natAbs < 2 ^ 53) (hy : y.natAbs < 2 ^ 53) (h : (z + y).natAbs < 2 ^ 53) : double.add (qf z) (qf y) = some (qf (z + y)) := by
  obtain ⟨h1, h2⟩ := qf_read hz
  obtain ⟨h3, h4⟩ := qf_read hy
  obtain ⟨r, e, hr, hs⟩ := h1.sum h3
  unfold Format.add
  rw [e, Option.map_some, hr.write h]
  intro h0
  rw [hs h0]
  by_cases hz0 : z = 0
  · rw [h2 hz0]; rfl
  · have hy0 : y ≠ 0 := by omega
    rw [h1.neg_zero hz0, h3.neg_zero hy0, ← Bool.decide_and, decide_eq_false (by omega)]
theorem qf_order {z y : Int} (hz : z.natAbs < 2 ^ 53) (hy : y.natAbs < 2 ^ 53) : double.order (qf z) (qf y) = some (compare z y) := (qf_read hz).1.order (qf_read hy).1
theorem fl_eq {n : Int} (h : (4 * n).natAbs < 2 ^ 53) : FloatKind.f64.nearest n = fl n := by
  unfold FloatKind.nearest FloatKind.encode fl
  refine Vl.write (d := .number (n < 0) n.natAbs 0) ⟨_, _, _, rfl, ?_⟩ h (fun h0 => ?_)
  · have : (if decide (n < 0) = true then -(n.natAbs : Int) else (n.natAbs : Int)) = n := by
      by_cases h : n < 0 <;> simp [h] <;> omega
    rw [this]; simp [ValI]; omega
  · show decide (n < 0) = false
    simp; omega
/-- Cut towards zero. -/
theorem cut_down {neg : Bool} {n drop : Nat} : Toward.zero.cut neg n drop = n / 2 ^ drop := by
  simp only [Toward.cut, Nat.shiftLeft_eq, Nat.one_mul, Bool.toNat_false, Nat.add_zero]
  by_cases h : drop ≤ n.log2 + 2
  · rw [Nat.min_eq_left h]
  · rw [Nat.min_eq_right (by omega)]
    have h1 : n < 2 ^ (n.log2 + 2) := Nat.lt_of_lt_of_le Nat.lt_log2_self (Nat.pow_le_pow_right (by decide) (by omega))
    have h2 : n < 2 ^ drop := Nat.lt_of_lt_of_le h1 (Nat.pow_le_pow_right (by decide) (by omega))
    rw [Nat.div_eq_of_lt h1, Nat.div_eq_of_lt h2]
theorem cut_val {s : Bool} {m : Nat} {e z : Int} (hv : ValI (if s then -(m : Int) else m) e z) : (m <<< e.toNat) / 2 ^ (-e).toNat = z.natAbs / 4 := by
  have habs : m * 2 ^ (e + 2).toNat = z.natAbs * 2 ^ (-(e + 2)).toNat := by
    unfold ValI at hv
    have h1 := congrArg Int.natAbs hv
    rw [Int.natAbs_mul, Int.natAbs_mul, Int.natAbs_pow, Int.natAbs_pow] at h1
    cases s <;> simpa using h1
  rw [Nat.shiftLeft_eq]
  by_cases h0 : 0 ≤ e
  · have e1 : (-e).toNat = 0 := by omega
    have e2 : (e + 2).toNat = e.toNat + 2 := by omega
    have e3 : (-(e + 2)).toNat = 0 := by omega
    rw [e2, e3, Nat.pow_add, Nat.pow_zero, Nat.mul_one] at habs
    rw [e1, Nat.pow_zero, Nat.div_one, ← habs, ← Nat.mul_assoc]
    omega
  · have e1 : e.toNat = 0 := by omega
    rw [e1, Nat.pow_zero, Nat.mul_one]
    by_cases h1 : e = -1
    · subst h1
      have e2 : ((-1 : Int) + 2).toNat = 1 := rfl
      have e3 : (-((-1 : Int) + 2)).toNat = 0 := rfl
      have e4 : (-(-1 : Int)).toNat = 1 := rfl
      rw [e2, e3] at habs
      rw [e4]; omega
    · have e2 : (e + 2).toNat = 0 := by omega
      have e3 : (-e).toNat = (-(e + 2)).toNat + 2 := by omega
      rw [e2, Nat.pow_zero, Nat.mul_one] at habs
      rw [habs, e3, Nat.pow_add, ← Nat.div_div_eq_div_mul, Nat.mul_div_cancel _ (Nat.pow_pos (by decide))]
theorem tdiv_abs (z : Int) : z.tdiv 4 = if z < 0 then -((z.natAbs / 4 : Nat) : Int) else ((z.natAbs / 4 : Nat) : Int) := by
  by_cases h : z < 0
  · rw [if_pos h]
    obtain ⟨n, rfl⟩ : ∃ n : Nat, z = -(n : Int) := ⟨z.natAbs, by omega⟩
    rw [Int.neg_tdiv, Int.natAbs_neg, Int.natAbs_natCast]
    rw [Int.tdiv_eq_ediv_of_nonneg (by omega)]; rfl
  · rw [if_neg h]
    obtain ⟨n, rfl⟩ : ∃ n : Nat, z = (n : Int) := ⟨z.natAbs, by omega⟩
    rw [Int.tdiv_eq_ediv_of_nonneg (by omega)]; rfl
theorem Vl.integral {d : Datum} {z : Int} (h : Vl d z) : Vl (d.integral .zero) (4 * z.tdiv 4) ∧ (d.integral .zero).neg = d.neg ∧ d.toInt .zero = some (z.tdiv 4) := by
  have hneg : z ≠ 0 → d.neg = decide (z < 0) := h.neg_zero
  obtain ⟨s, m, e, rfl, hv⟩ := h
  simp only [Datum.neg] at hneg
  have hc := cut_val hv
  have hi : (Datum.number s m e).integral .zero = .number s (z.natAbs / 4) 0 := by
    simp only [Datum.integral, cut_down, hc]
  have hsg : (if s = true then -((z.natAbs / 4 : Nat) : Int) else ((z.natAbs / 4 : Nat) : Int)) = z.tdiv 4 := by
    rw [tdiv_abs]
    by_cases h0 : z = 0
    · subst h0; cases s <;> rfl
    · rw [hneg h0]
      by_cases h : z < 0 <;> simp [h]
  refine ⟨?_, by rw [hi]; rfl, ?_⟩
  · rw [hi]
    refine ⟨_, _, _, rfl, ?_⟩
    rw [hsg]
    simp [ValI]; omega
  · unfold Datum.toInt
    rw [hi]
    simp only
    rw [signed_eq, hsg]; simp
theorem qf_toInt {z : Int} (hz : z.natAbs < 2 ^ 53) : (double.read (qf z)).toInt .zero = some (z.tdiv 4) := (qf_read hz).1.integral.2.2
theorem qf_trunc {z : Int} (hz : z.natAbs < 2 ^ 53) (h : 0 ≤ z ∨ z % 4 = 0) : double.write ((double.read (qf z)).integral .zero) = qf (4 * z.tdiv 4) := by
  obtain ⟨h1, h2⟩ := qf_read hz
  obtain ⟨h3, h4, _⟩ := h1.integral
  have hb : (4 * z.tdiv 4).natAbs < 2 ^ 53 := by rw [tdiv_abs]; split <;> omega
  refine h3.write hb fun h0 => ?_
  rw [h4]
  by_cases hz0 : z = 0
  · exact h2 hz0
  · rw [h1.neg_zero hz0]
    rw [tdiv_abs] at h0
    simp only [decide_eq_false_iff_not]
    intro hneg
    rw [if_pos hneg] at h0
    omega
/-- Half of an even number of quarters. -/
theorem qf_half {z : Int} (hz : z.natAbs < 2 ^ 52) (h2 : z % 2 = 0) : double.div (qf z) (qf 8) = some (qf (z / 2)) := by
  have h8 : double.read (qf 8) = .number false (2 ^ 52) (-51) := by decide +kernel
  unfold Format.div
  rw [h8]
  by_cases h0 : z = 0
  · subst h0
    rw [qf_zero, read_zero]
    decide +kernel
  · rw [qf_read_eq h0 (by omega)]
    have hr := normM_range h0 (by omega)
    have hlog : (normM z).log2 = 52 := by
      rw [Nat.log2_eq_iff (by omega)]; exact hr
    have hfb : double.fractionBits + 2 = 54 := rfl
    rw [hfb]
    simp only [Datum.quotient]
    rw [if_neg (by decide), hlog, show (2 ^ 52 : Nat).log2 = 52 by decide +kernel]
    have e1 : normM z <<< (54 + 52 - 52) = 4 * normM z * 2 ^ 52 := by rw [Nat.shiftLeft_eq]; omega
    rw [e1, Nat.mul_div_cancel _ (by decide), Nat.mul_mod_left]
    simp only [Bool.xor_false, Option.map_some]
    refine congrArg some ?_
    have hv := normVal h0 (show z.natAbs < 2 ^ 53 by omega)
    have hv2 : Vl (.number (decide (z < 0)) (2 * (4 * normM z) + ((0 : Nat) != 0).toNat) (normE z - -51 - ((54 + 52 - 52 : Nat) : Int) - 1)) (z / 2) := by
      refine ⟨_, _, _, rfl, ?_⟩
      have h3 := hv.mul (n := 8) (f := -4) (y := 2) (w := z / 2) (by simp [ValI]) (by omega)
      have e2 : normE z + -4 = normE z - -51 - ((54 + 52 - 52 : Nat) : Int) - 1 := by omega
      rw [e2] at h3
      have e3 : (if decide (z < 0) = true then -((2 * (4 * normM z) + ((0 : Nat) != 0).toNat : Nat) : Int) else ((2 * (4 * normM z) + ((0 : Nat) != 0).toNat : Nat) : Int)) = (if decide (z < 0) = true then -(normM z : Int) else (normM z : Int)) * 8 := by
        by_cases h : z < 0 <;> simp [h] <;> omega
      rw [e3]; exact h3
    exact hv2.write (by omega) (fun h => by omega)
/-- Zero, below zero if z is. -/
def nzW (z : Int) : Nat := if z < 0 then 9223372036854775808 else 0
theorem read_nzW (z : Int) : double.read (nzW z) = .number (decide (z < 0)) 0 (-1074) := by
  unfold nzW
  by_cases h : z < 0
  · simp only [h, if_true, decide_true]; decide +kernel
  · simp only [h, if_false, decide_false]; decide +kernel
theorem write_zero (s : Bool) (e : Int) : double.write (.number s 0 e) = if s then 9223372036854775808 else 0 := by
  unfold Format.write Format.nearest
  simp only
  rw [if_pos trivial]
  unfold Format.word
  have e : double.signWeight = 9223372036854775808 := by decide
  rw [e]
theorem mul_zero_l {z : Int} (hz : z.natAbs < 2 ^ 53) : double.mul (qf 0) (qf z) = some (nzW z) := by
  unfold Format.mul
  rw [qf_zero, read_zero]
  by_cases h0 : z = 0
  · subst h0; rw [qf_zero, read_zero]; rfl
  · rw [qf_read_eq h0 hz]
    simp only [Datum.product, Option.map_some, Nat.zero_mul, write_zero, Bool.false_xor, nzW]
    by_cases h : z < 0 <;> simp [h]
theorem mul_zero_r {z : Int} (hz : z.natAbs < 2 ^ 53) (hn : 0 ≤ z) : double.mul (qf z) (qf 0) = some (qf 0) := by
  unfold Format.mul
  rw [qf_zero, read_zero]
  by_cases h0 : z = 0
  · subst h0; rw [qf_zero, read_zero]; rfl
  · rw [qf_read_eq h0 hz]
    have : ¬ z < 0 := by omega
    simp [Datum.product, write_zero, this]
theorem mul_one_l {z : Int} (hz : z.natAbs < 2 ^ 53) : double.mul (qf 4) (qf z) = some (qf z) := by
  have h4 := qf_read (z := 4) (by decide)
  have hz2 := qf_read hz
  obtain ⟨r, h1, h2, h3⟩ := h4.1.product hz2.1 (w := z) rfl
  unfold Format.mul
  rw [h1, Option.map_some, h2.write hz fun h0 => by rw [h3, h4.1.neg_zero (by decide), hz2.2 h0]; rfl]
theorem sub_nz (z : Int) : double.sub (nzW z) (qf 0) = some (nzW z) := by
  unfold nzW
  by_cases h : z < 0
  · simp only [h, if_true]; decide +kernel
  · simp only [h, if_false]; decide +kernel
theorem add_nz {z y : Int} (hz : z.natAbs < 2 ^ 53) : double.add (qf z) (nzW y) = some (qf z) := by
  have h1 := qf_read hz
  have h2 : Vl (double.read (nzW y)) 0 := by rw [read_nzW]; exact ⟨_, _, _, rfl, by split <;> simp [ValI]⟩
  obtain ⟨r, h3, h4, h5⟩ := h1.1.sum h2
  rw [Int.add_zero] at h4 h5
  unfold Format.add
  rw [h3, Option.map_some, h4.write hz fun h0 => by rw [h5 h0, h1.2 h0]; rfl]
theorem qf_sub {z y : Int} (hz : z.natAbs < 2 ^ 53) (hy : y.natAbs < 2 ^ 53) (h : (z - y).natAbs < 2 ^ 53) (h0 : z - y = 0 → z ≠ 0 ∨ y = 0) : double.sub (qf z) (qf y) = some (qf (z - y)) := by
  obtain ⟨h1, h2⟩ := qf_read hz
  obtain ⟨h3, h4⟩ := qf_read hy
  obtain ⟨h5, h6⟩ := h3.opposite
  obtain ⟨r, e, hr, hs⟩ := h1.sum h5
  rw [← Int.sub_eq_add_neg] at hr hs
  unfold Format.sub
  rw [e, Option.map_some, hr.write h]
  intro hd
  rw [hs hd, h6]
  by_cases hz0 : z = 0
  · rw [h2 hz0]; rfl
  · have hy0 : y ≠ 0 := by omega
    rw [h1.neg_zero hz0, h3.neg_zero hy0]
    by_cases hn : z < 0
    · have : y < 0 := by omega
      simp [this]
    · simp [hn]
end Go.Rw
end

-- RwFlt
section
namespace Go.Rw
open Go Ieee
set_option linter.unusedSimpArgs false
set_option linter.unusedVariables false

theorem cmp_lt (z w : Int) : (some (compare z w) == some Ordering.lt) = decide (z < w) := by
  rw [compare]; show (some (compareOfLessAndEq z w) == _) = _
  unfold compareOfLessAndEq
  by_cases h : z < w
  · simp [h]
  · by_cases h2 : z = w <;> simp [h, h2]
theorem cmp_eq (z w : Int) : (some (compare z w) == some Ordering.eq) = decide (z = w) := by
  rw [compare]; show (some (compareOfLessAndEq z w) == _) = _
  unfold compareOfLessAndEq
  by_cases h : z < w
  · have : z ≠ w := by omega
    simp [h, this]
  · by_cases h2 : z = w <;> simp [h, h2]
theorem cmp_gt (z w : Int) : (some (compare z w) == some Ordering.gt) = decide (z > w) := by
  rw [compare]; show (some (compareOfLessAndEq z w) == _) = _
  unfold compareOfLessAndEq
  by_cases h : z < w
  · have : ¬ z > w := by omega
    simp [h]; omega
  · by_cases h2 : z = w
    · simp [h2]
    · have : z > w := by omega
      simp [h, h2, this]

section
variable {P : Program} {t : TypeId} {x y : Operand} {z w u v : Int}

theorem near_qf {n : Int} (h1 : -1125899906842624 < n) (h2 : n < 1125899906842624) : FloatKind.nearest .f64 n = qf (4 * n) := fl_eq (by omega)
theorem ord_qf (h1 : -4503599627370496 < z) (h2 : z < 4503599627370496) (h3 : -4503599627370496 < w) (h4 : w < 4503599627370496) : FloatKind.f64.format.order (qf z) (qf w) = some (compare z w) := qf_order (by omega) (by omega)
theorem binq_add (h1 : -2251799813685248 < z) (h2 : z < 2251799813685248) (h3 : -2251799813685248 < w) (h4 : w < 2251799813685248) : binA P .add t x y (.v (.float .f64 (qf z))) (.v (.float .f64 (qf w))) = some (.v (.float .f64 (qf (z + w)))) := by
  rw [bin_fadd, show FloatKind.f64.format.add (qf z) (qf w) = some (qf (z + w)) from qf_add (by omega) (by omega) (by omega)]; rfl
theorem binq_half (h1 : -1125899906842624 < z) (h2 : z < 1125899906842624) : binA P .quo t x y (.v (.float .f64 (qf (4 * z)))) (.v (.float .f64 (qf 8))) = some (.v (.float .f64 (qf (2 * z)))) := by
  rw [bin_fquo, show FloatKind.f64.format.div (qf (4 * z)) (qf 8) = some (qf (4 * z / 2)) from qf_half (by omega) (by omega), show 4 * z / 2 = 2 * z by omega]; rfl
theorem binq_eql (h1 : -4503599627370496 < z) (h2 : z < 4503599627370496) (h3 : -4503599627370496 < w) (h4 : w < 4503599627370496) : binA P .eql t x y (.v (.float .f64 (qf z))) (.v (.float .f64 (qf w))) = some (.v (.bool (decide (z = w)))) := by
  rw [bin_fcmp (by simp), Op.floatCmp, ord_qf h1 h2 h3 h4, ← cmp_eq]; rfl
theorem binq_neq (h1 : -4503599627370496 < z) (h2 : z < 4503599627370496) (h3 : -4503599627370496 < w) (h4 : w < 4503599627370496) : binA P .neq t x y (.v (.float .f64 (qf z))) (.v (.float .f64 (qf w))) = some (.v (.bool (decide (¬ z = w)))) := by
  rw [bin_fcmp (by simp), Op.floatCmp, ord_qf h1 h2 h3 h4, decide_not, ← cmp_eq]; rfl
theorem binq_lss (h1 : -4503599627370496 < z) (h2 : z < 4503599627370496) (h3 : -4503599627370496 < w) (h4 : w < 4503599627370496) : binA P .lss t x y (.v (.float .f64 (qf z))) (.v (.float .f64 (qf w))) = some (.v (.bool (decide (z < w)))) := by
  rw [bin_fcmp (by simp), Op.floatCmp, ord_qf h1 h2 h3 h4, ← cmp_lt]; rfl
theorem binq_leq (h1 : -4503599627370496 < z) (h2 : z < 4503599627370496) (h3 : -4503599627370496 < w) (h4 : w < 4503599627370496) : binA P .leq t x y (.v (.float .f64 (qf z))) (.v (.float .f64 (qf w))) = some (.v (.bool (decide (z ≤ w)))) := by
  rw [bin_fcmp (by simp), Op.floatCmp, ord_qf h1 h2 h3 h4]
  show some (AV.v (.bool ((some (compare z w) == some Ordering.lt) || (some (compare z w) == some Ordering.eq)))) = _
  rw [cmp_lt, cmp_eq, ← Bool.decide_or]
  congr 4; exact propext (by omega)
theorem binq_gtr (h1 : -4503599627370496 < z) (h2 : z < 4503599627370496) (h3 : -4503599627370496 < w) (h4 : w < 4503599627370496) : binA P .gtr t x y (.v (.float .f64 (qf z))) (.v (.float .f64 (qf w))) = some (.v (.bool (decide (z > w)))) := by
  rw [bin_fcmp (by simp), Op.floatCmp, ord_qf h1 h2 h3 h4, ← cmp_gt]; rfl
theorem binq_geq (h1 : -4503599627370496 < z) (h2 : z < 4503599627370496) (h3 : -4503599627370496 < w) (h4 : w < 4503599627370496) : binA P .geq t x y (.v (.float .f64 (qf z))) (.v (.float .f64 (qf w))) = some (.v (.bool (decide (z ≥ w)))) := by
  rw [bin_fcmp (by simp), Op.floatCmp, ord_qf h1 h2 h3 h4]
  show some (AV.v (.bool ((some (compare z w) == some Ordering.gt) || (some (compare z w) == some Ordering.eq)))) = _
  rw [cmp_gt, cmp_eq, ← Bool.decide_or]
  congr 4; exact propext (by omega)
theorem binq_cadd (h1 : -2251799813685248 < z) (h2 : z < 2251799813685248) (h3 : -2251799813685248 < w) (h4 : w < 2251799813685248) (h5 : -2251799813685248 < u) (h6 : u < 2251799813685248) (h7 : -2251799813685248 < v) (h8 : v < 2251799813685248) :
    binA P .add t x y (.v (.complex .f64 (qf z) (qf w))) (.v (.complex .f64 (qf u) (qf v))) = some (.v (.complex .f64 (qf (z + u)) (qf (w + v)))) := by
  rw [bin_cadd, show FloatKind.f64.format.add (qf z) (qf u) = some (qf (z + u)) from qf_add (by omega) (by omega) (by omega), show FloatKind.f64.format.add (qf w) (qf v) = some (qf (w + v)) from qf_add (by omega) (by omega) (by omega)]; rfl
theorem binq_cadd_nz (h1 : -2251799813685248 < z) (h2 : z < 2251799813685248) (h3 : -2251799813685248 < w) (h4 : w < 2251799813685248) (h7 : -2251799813685248 < v) (h8 : v < 2251799813685248) :
    binA P .add t x y (.v (.complex .f64 (qf z) (qf w))) (.v (.complex .f64 (nzW u) (qf v))) = some (.v (.complex .f64 (qf z) (qf (w + v)))) := by
  rw [bin_cadd, show FloatKind.f64.format.add (qf z) (nzW u) = some (qf z) from add_nz (by omega), show FloatKind.f64.format.add (qf w) (qf v) = some (qf (w + v)) from qf_add (by omega) (by omega) (by omega)]; rfl
theorem binq_csub (h1 : -2251799813685248 < z) (h2 : z < 2251799813685248) (h3 : -2251799813685248 < w) (h4 : w < 2251799813685248) (h5 : -2251799813685248 < u) (h6 : u < 2251799813685248) (h7 : -2251799813685248 < v) (h8 : v < 2251799813685248) (h9 : z - u = 0 → z ≠ 0 ∨ u = 0) (h10 : w - v = 0 → w ≠ 0 ∨ v = 0) :
    binA P .sub t x y (.v (.complex .f64 (qf z) (qf w))) (.v (.complex .f64 (qf u) (qf v))) = some (.v (.complex .f64 (qf (z - u)) (qf (w - v)))) := by
  rw [bin_csub, show FloatKind.f64.format.sub (qf z) (qf u) = some (qf (z - u)) from qf_sub (by omega) (by omega) (by omega) h9, show FloatKind.f64.format.sub (qf w) (qf v) = some (qf (w - v)) from qf_sub (by omega) (by omega) (by omega) h10]; rfl
theorem binq_ceql (h1 : -4503599627370496 < z) (h2 : z < 4503599627370496) (h3 : -4503599627370496 < w) (h4 : w < 4503599627370496) (h5 : -4503599627370496 < u) (h6 : u < 4503599627370496) (h7 : -4503599627370496 < v) (h8 : v < 4503599627370496) :
    binA P .eql t x y (.v (.complex .f64 (qf z) (qf w))) (.v (.complex .f64 (qf u) (qf v))) = some (.v (.bool (decide (z = u ∧ w = v)))) := by
  rw [bin_ceql, ord_qf h1 h2 h5 h6, ord_qf h3 h4 h7 h8, cmp_eq, cmp_eq, Bool.decide_and]
theorem binq_cneq (h1 : -4503599627370496 < z) (h2 : z < 4503599627370496) (h3 : -4503599627370496 < w) (h4 : w < 4503599627370496) (h5 : -4503599627370496 < u) (h6 : u < 4503599627370496) (h7 : -4503599627370496 < v) (h8 : v < 4503599627370496) :
    binA P .neq t x y (.v (.complex .f64 (qf z) (qf w))) (.v (.complex .f64 (qf u) (qf v))) = some (.v (.bool (decide (¬ (z = u ∧ w = v))))) := by
  rw [bin_cneq, ord_qf h1 h2 h5 h6, ord_qf h3 h4 h7 h8, cmp_eq, cmp_eq, decide_not, Bool.decide_and]
/-- 1i, times a number. -/
theorem binq_imul (h1 : -4503599627370496 < z) (h2 : z < 4503599627370496) : binA P .mul t x y (.v (.complex .f64 (qf 0) (qf 4))) (.v (.complex .f64 (qf z) (qf 0))) = some (.v (.complex .f64 (nzW z) (qf z))) := by
  have e1 : FloatKind.f64.format.mul (qf 0) (qf z) = some (nzW z) := mul_zero_l (by omega)
  have e2 : FloatKind.f64.format.mul (qf 4) (qf 0) = some (qf 0) := mul_zero_r (by decide) (by decide)
  have e3 : FloatKind.f64.format.mul (qf 0) (qf 0) = some (qf 0) := mul_zero_r (by decide) (by decide)
  have e4 : FloatKind.f64.format.mul (qf 4) (qf z) = some (qf z) := mul_one_l (by omega)
  have e5 : FloatKind.f64.format.sub (nzW z) (qf 0) = some (nzW z) := sub_nz z
  have e6 : FloatKind.f64.format.add (qf 0) (qf z) = some (qf z) := by
    have := qf_add (z := 0) (y := z) (by decide) (by omega) (by omega)
    rw [Int.zero_add] at this; exact this
  simp [binA, binV, eqGuard, binOp, Op.complexOp, Op.Complex.conv, Op.Complex.product, Op.Complex.sub, Op.Complex.add, Op.Complex.mul, Op.Complex.arith, Op.floatArith, res, calm_bind, calm_pure, e1, e2, e3, e4, e5, e6]
theorem convF_qf {us : TypeDesc} {dflt : Option AV} (h1 : -4503599627370496 < z) (h2 : z < 4503599627370496) : convF (some us) (some (.int .i64)) dflt (qf z) = some (.v (.int .i64 (z.tdiv 4))) := by
  rw [convF_int]
  rw [show (FloatKind.f64.decode (qf z)).toInt .zero = some (z.tdiv 4) from qf_toInt (by omega)]
  simp only
  have hb := tdiv_abs z
  have : IntKind.i64.min ≤ z.tdiv 4 ∧ z.tdiv 4 ≤ IntKind.i64.max := by
    have e1 : IntKind.i64.min = -9223372036854775808 := rfl
    have e2 : IntKind.i64.max = 9223372036854775807 := rfl
    rw [e1, e2, hb]; split <;> omega
  rw [if_pos this]
theorem tdiv_four {n : Int} : (4 * n).tdiv 4 = n := by rw [Int.mul_tdiv_cancel_left _ (by decide)]
end
end Go.Rw
end
