/-
  Edits done, undone, found. Plain. Edits done by the program. Which edits may be, as the document says. Edits done, undone, by the program. Edits done, undone, by the program.
-/
import Derived.Test.YtmenbocckhbdjaaDoorXAUo9
import Derived.Test.YtmenbocckhbdjaaDoorRwF
set_option linter.unusedSimpArgs false
set_option linter.unusedVariables false
set_option linter.defProp false

-- AAp0
section
namespace Go.Proofs
open Go Go.Rw
set_option linter.unusedSimpArgs false
set_option linter.unusedVariables false

def cpts (t : List UInt8) : List Nat := (pts t).getD []
theorem cpts_some {t : List UInt8} {cs : List Nat} (h : pts t = some cs) : cpts t = cs := by unfold cpts; rw [h]; rfl
theorem cpts_nil : cpts [] = [] := rfl
theorem cpts_enc {cs : List Nat} (h : ∀ c ∈ cs, okc c) : cpts (encs cs) = cs := cpts_some (pts_enc h)
theorem isSome_cpts {t : List UInt8} (h : (pts t).isSome = true) : pts t = some (cpts t) := by
  obtain ⟨cs, hc⟩ := Option.isSome_iff_exists.1 h
  rw [hc, cpts_some hc]
theorem encs_cpts {t : List UInt8} (h : (pts t).isSome = true) : encs (cpts t) = t ∧ ∀ c ∈ cpts t, okc c := by
  obtain ⟨h1, h2⟩ := pts_some (isSome_cpts h)
  exact ⟨h2.symm, h1⟩
theorem cpts_app {s t : List UInt8} (h1 : (pts s).isSome = true) (h2 : (pts t).isSome = true) : cpts (s ++ t) = cpts s ++ cpts t := by
  obtain ⟨e1, o1⟩ := encs_cpts h1
  obtain ⟨e2, o2⟩ := encs_cpts h2
  have : s ++ t = encs (cpts s ++ cpts t) := by rw [encs_app, e1, e2]
  rw [this, cpts_enc]
  intro c hc
  rcases List.mem_append.1 hc with h | h
  · exact o1 c h
  · exact o2 c h
theorem lc_cpts {t : List UInt8} (h : (pts t).isSome = true) : lc t = (cpts t).length := by
  obtain ⟨e1, o1⟩ := encs_cpts h
  conv => lhs; rw [← e1]
  exact lc_encs _ o1
theorem okc_take {cs : List Nat} (h : ∀ c ∈ cs, okc c) (n : Nat) : ∀ c ∈ cs.take n, okc c := fun c hc => h c (List.mem_of_mem_take hc)
theorem okc_drop {cs : List Nat} (h : ∀ c ∈ cs, okc c) (n : Nat) : ∀ c ∈ cs.drop n, okc c := fun c hc => h c (List.mem_of_mem_drop hc)
theorem encs_len_le {cs : List Nat} : (encs cs).length ≤ 4 * cs.length := by
  induction cs with
  | nil => simp [encs_nil]
  | cons c cs ih => rw [encs_cons_len, List.length_cons]; have := wid_le c; omega

/-- A text's code points, behind an edit. -/
def doL : List Nat → List Cp → List Nat
  | _, [] => []
  | cs, c :: r => if someC c = false then doL cs r else if c.k = 2 then cpts c.t ++ doL cs r else if c.k = 3 then doL (cs.drop c.n.toNat) r else cs.take c.n.toNat ++ doL (cs.drop c.n.toNat) r
theorem do_no {cs : List Nat} {c : Cp} {r : List Cp} (h : someC c = false) : doL cs (c :: r) = doL cs r := by rw [doL, if_pos h]
theorem do_ins {cs : List Nat} {c : Cp} {r : List Cp} (h : someC c = true) (h2 : c.k = 2) : doL cs (c :: r) = cpts c.t ++ doL cs r := by rw [doL, if_neg (by rw [h]; decide), if_pos h2]
theorem do_del {cs : List Nat} {c : Cp} {r : List Cp} (h : someC c = true) (h2 : c.k = 3) : doL cs (c :: r) = doL (cs.drop c.n.toNat) r := by rw [doL, if_neg (by rw [h]; decide), if_neg (by omega), if_pos h2]
theorem do_ret {cs : List Nat} {c : Cp} {r : List Cp} (h : someC c = true) (h2 : ¬ c.k = 2) (h3 : ¬ c.k = 3) : doL cs (c :: r) = cs.take c.n.toNat ++ doL (cs.drop c.n.toNat) r := by rw [doL, if_neg (by rw [h]; decide), if_neg h2, if_neg h3]

/-- Of what length an edit is. -/
def fit (cs : List Nat) (l : List Cp) : Prop := (∀ c ∈ l, sound c = true) ∧ (cs.length : Int) = tn l
theorem sound_cases {c : Cp} (h : sound c = true) : (c.k = 2 ∧ c.n = 0 ∧ c.t ≠ [] ∧ (pts c.t).isSome = true) ∨ ((c.k = 1 ∨ c.k = 3) ∧ 0 < c.n ∧ c.t = []) := by
  unfold sound at h
  split at h
  · rename_i h2
    simp at h
    exact .inl ⟨h2, h.1.1, h.1.2, h.2⟩
  · split at h
    · rename_i h13
      simp at h
      exact .inr ⟨h13, h.1, h.2⟩
    · cases h
theorem sound_some {c : Cp} (h : sound c = true) : someC c = true := by
  unfold someC
  rcases sound_cases h with ⟨h2, _, h3, _⟩ | ⟨h13, h4, _⟩
  · rw [if_pos h2]; simp [h3]
  · rw [if_neg (by omega)]
    rcases h13 with h | h <;> simp [h, h4]
theorem fit_cons {cs : List Nat} {c : Cp} {r : List Cp} (h : fit cs (c :: r)) : sound c = true ∧ 0 ≤ c.n ∧ c.n.toNat ≤ cs.length ∧ fit (cs.drop c.n.toNat) r := by
  obtain ⟨h1, h2⟩ := h
  have hs := h1 c (by simp)
  have hp := tn_pos r
  have hn : 0 ≤ c.n := by rcases sound_cases hs with ⟨_, h, _⟩ | ⟨_, h, _⟩ <;> omega
  simp only [tn] at h2
  exact ⟨hs, hn, by omega, fun x hx => h1 x (by simp [hx]), by rw [List.length_drop]; omega⟩
theorem sumN_base : ∀ (l : List Cp) (m : Int), (0 ≤ m ∧ m ≤ 1099511627776) → (∀ c ∈ l, sound c = true) → baseF m l = sumN m l
  | [], _, _, _ => rfl
  | c :: r, m, hm, h => by
    have hr := fun x hx => h x (List.mem_cons_of_mem c hx)
    have hs := sound_cases (h c (by simp))
    simp only [baseF, sumN]
    by_cases h13 : c.k = 1 ∨ c.k = 3
    · rw [if_pos h13]
      exact sumN_base r _ (addI_range hm.1 (by omega)) hr
    · rw [if_neg h13]
      rcases hs with ⟨_, h0, _⟩ | ⟨h, _⟩
      · rw [h0, show max (0 : Int) 0 = 0 from rfl, addI_z hm.2]
        exact sumN_base r m hm hr
      · exact absurd h h13
theorem normal_sound : ∀ (l : List Cp) (p : Option Cp), normalF p l = true → ∀ c ∈ l, sound c = true
  | [], _, _, c, hc => by cases hc
  | c :: r, p, h, x, hx => by
    simp only [normalF, Bool.and_eq_true] at h
    rcases List.mem_cons.1 hx with rfl | hx
    · exact h.1.1
    · exact normal_sound r (some c) h.2 x hx
theorem check_cases {l : List Cp} (h : checkI l = 0) : l.length ≤ 100 ∧ normalL l = true ∧ (∀ c ∈ l, sound c = true) ∧ baseL l = tn l ∧ tn l ≤ 2000 ∧ outL l ≤ 2000 := by
  unfold checkI at h
  split at h
  · cases h
  · split at h
    · cases h
    · split at h
      · cases h
      · rename_i h1 h2 h3
        have h4 : normalL l = true := by simpa using h2
        have h5 := normal_sound l none h4
        have h6 : baseL l = min (0 + tn l) 1099511627776 := by
          unfold baseL
          rw [sumN_base l 0 (by omega) h5, sumN_eq l (by omega)]
        have h7 := tn_pos l
        exact ⟨by omega, h4, h5, by omega, by omega, by omega⟩
theorem fit_check {l : List Cp} (h : checkI l = 0) {cs : List Nat} (hb : (cs.length : Int) = baseL l) : fit cs l := by
  obtain ⟨_, _, h1, h2, _, _⟩ := check_cases h
  exact ⟨h1, by rw [hb, h2]⟩
theorem out_do : ∀ (l : List Cp) (cs : List Nat) (m : Int), 0 ≤ m → fit cs l → outF m l ≤ 2000 → outF m l = m + (doL cs l).length
  | [], _, m, _, _, _ => by simp [outF, doL]
  | c :: r, cs, m, hm, hf, ho => by
    obtain ⟨hs, hn, hle, hf2⟩ := fit_cons hf
    have hso := sound_some hs
    simp only [outF] at ho ⊢
    have mono : ∀ (l : List Cp) (m : Int), 0 ≤ m → m ≤ 1099511627776 → m ≤ outF m l := by
      intro l
      induction l with
      | nil => intro m _ _; simp [outF]
      | cons c r ih =>
        intro m h1 h2
        simp only [outF]
        split
        · have h3 := addI_range h1 (show 0 ≤ max c.n 0 by omega)
          have h4 := ih _ h3.1 h3.2
          have : m ≤ addI m (max c.n 0) := by unfold addI; omega
          omega
        · split
          · have h3 := addI_range h1 (show 0 ≤ (lc c.t : Int) by omega)
            have h4 := ih _ h3.1 h3.2
            have : m ≤ addI m (lc c.t) := by unfold addI; omega
            omega
          · exact ih m h1 h2
    rcases sound_cases hs with ⟨h2, h0, _, hv⟩ | ⟨h13, hp, _⟩
    · rw [if_neg (by omega), if_pos h2] at ho ⊢
      have hb := addI_range hm (show 0 ≤ (lc c.t : Int) by omega)
      have hm2 := mono r _ hb.1 hb.2
      have hm3 : addI m (lc c.t) ≤ 2000 := by omega
      have e : addI m (lc c.t) = m + lc c.t := by unfold addI at hm3 ⊢; omega
      rw [e] at ho ⊢
      rw [h0] at hf2
      have := out_do r cs (m + lc c.t) (by omega) (by simpa using hf2) ho
      rw [this, do_ins hso h2, List.length_append, lc_cpts hv]; omega
    · by_cases h1 : c.k = 1
      · rw [if_pos h1] at ho ⊢
        have hb := addI_range hm (show 0 ≤ max c.n 0 by omega)
        have hm2 := mono r _ hb.1 hb.2
        have hm3 : addI m (max c.n 0) ≤ 2000 := by omega
        have e : addI m (max c.n 0) = m + c.n := by unfold addI at hm3 ⊢; omega
        rw [e] at ho ⊢
        have := out_do r _ (m + c.n) (by omega) hf2 ho
        rw [this, do_ret hso (by omega) (by omega), List.length_append, List.length_take]; omega
      · rw [if_neg h1, if_neg (by omega)] at ho ⊢
        have := out_do r _ m hm hf2 ho
        rw [this, do_del hso (by omega)]
theorem do_okc : ∀ (l : List Cp) (cs : List Nat), (∀ c ∈ cs, okc c) → allV l = true → ∀ c ∈ doL cs l, okc c
  | [], _, _, _, c, h => by cases h
  | c :: r, cs, hc, hv, x, hx => by
    simp only [allV, List.all_cons, Bool.and_eq_true] at hv
    rw [doL] at hx
    split at hx
    · exact do_okc r cs hc hv.2 x hx
    · split at hx
      · rcases List.mem_append.1 hx with h | h
        · exact (encs_cpts hv.1).2 x h
        · exact do_okc r cs hc hv.2 x h
      · split at hx
        · exact do_okc r _ (okc_drop hc _) hv.2 x hx
        · rcases List.mem_append.1 hx with h | h
          · exact okc_take hc _ x h
          · exact do_okc r _ (okc_drop hc _) hv.2 x h
theorem sound_texts {l : List Cp} (h : ∀ c ∈ l, sound c = true) : allV l = true := by
  unfold allV
  rw [List.all_eq_true]
  intro c hc
  rcases sound_cases (h c hc) with ⟨_, _, _, hv⟩ | ⟨_, _, ht⟩
  · exact hv
  · rw [ht, pts_nil]; rfl

/-- A part that is done. -/
structure Sp where
  c : Cp
  was : List UInt8
  puts : List UInt8
def stepsL : List Nat → List Cp → List Sp
  | _, [] => []
  | cs, c :: r => ⟨c, if c.k = 2 then [] else encs (cs.take c.n.toNat), if c.k = 2 then c.t else if c.k = 3 then [] else encs (cs.take c.n.toNat)⟩ :: stepsL (cs.drop c.n.toNat) r
theorem steps_len : ∀ (l : List Cp) (cs : List Nat), (stepsL cs l).length = l.length
  | [], _ => rfl
  | c :: r, cs => by rw [stepsL, List.length_cons, steps_len r, List.length_cons]
theorem steps_puts : ∀ (l : List Cp) (cs : List Nat), fit cs l → (stepsL cs l).flatMap Sp.puts = encs (doL cs l)
  | [], _, _ => rfl
  | c :: r, cs, h => by
    obtain ⟨hs, hn, hle, hf⟩ := fit_cons h
    have hso := sound_some hs
    rw [stepsL, List.flatMap_cons, steps_puts r _ hf]
    simp only
    rcases sound_cases hs with ⟨h2, h0, _, hv⟩ | ⟨h13, hp, _⟩
    · rw [if_pos h2, do_ins hso h2, encs_app, (encs_cpts hv).1, h0]; rfl
    · rw [if_neg (by omega)]
      by_cases h3 : c.k = 3
      · rw [if_pos h3, do_del hso h3]; rfl
      · rw [if_neg h3, do_ret hso (by omega) h3, encs_app]
/-- What undoes a part. -/
def undoS (x : Sp) : Cp := if x.c.k = 2 then ⟨3, (cpts x.puts).length, []⟩ else if x.c.k = 3 then ⟨2, 0, x.was⟩ else x.c
def undoL (cs : List Nat) (l : List Cp) : List Cp := (stepsL cs l).map undoS
/-- Why an edit of a text is refused. -/
def errI (s : List UInt8) (l : List Cp) : Int := if checkI l = 0 then (match pts s with | none => 2 | some cs => if (cs.length : Int) = baseL l then 0 else 11) else checkI l
theorem err_zero {s : List UInt8} {l : List Cp} (h : errI s l = 0) : checkI l = 0 ∧ pts s = some (cpts s) ∧ ((cpts s).length : Int) = baseL l ∧ fit (cpts s) l := by
  unfold errI at h
  split at h
  · rename_i hc
    split at h
    · cases h
    · rename_i cs hp
      split at h
      · rename_i hb
        rw [cpts_some hp]
        exact ⟨hc, hp, hb, fit_check hc hb⟩
      · cases h
  · rename_i hc; exact absurd h hc
def stp (s : List UInt8) (l : List Cp) : List Sp := if errI s l = 0 then stepsL (cpts s) l else []
def doneB (s : List UInt8) (l : List Cp) : List UInt8 := if errI s l = 0 then encs (doL (cpts s) l) else []
def undone (s : List UInt8) (l : List Cp) : List Cp := if errI s l = 0 then nf (undoL (cpts s) l) else []

end Go.Proofs
end

-- AAp1
section
namespace Go.Proofs
open Go Go.Rw
open _root_.Nat renaming reduceAdd → N0, reduceSub → N1, reduceMul → N2, reduceLT → N3, reduceLeDiff → N4, reduceEqDiff → N5
open _root_.Int renaming reduceNeg → Z0, reduceAdd → Z1, reduceSub → Z2, reduceMul → Z3, reduceGT → Z4, reduceGE → Z5, reduceLT → Z6, reduceLE → Z7, reduceEq → Z8, reduceNe → Z9, reduceToNat → Z10, cast_ofNat_Int → Zc
set_option maxRecDepth 100000
set_option linter.unusedSimpArgs false
set_option linter.unusedVariables false

def stA (x : Sp) : AV := .agg [.v (.int .i64 x.c.k), .v (.int .i64 x.c.n), .v (sv x.c.t), .v (sv x.was), .v (sv x.puts)]
def sts (l : List Sp) : List AV := l.map stA
theorem sts_nil : sts [] = [] := rfl
theorem sts_len (l : List Sp) : (sts l).length = l.length := by simp [sts]
theorem sts_snoc (l : List Sp) (k n : Int) (t w p : List UInt8) : sts l ++ [.agg [.v (.int .i64 k), .v (.int .i64 n), .v (sv t), .v (sv w), .v (sv p)]] = sts (l ++ [⟨⟨k, n, t⟩, w, p⟩]) := by simp [sts, stA]
theorem sts_getD (l : List Sp) {i : Nat} (h : i < l.length) : (sts l).getD i .any = .agg [.v (.int .i64 l[i].c.k), .v (.int .i64 l[i].c.n), .v (sv l[i].c.t), .v (sv l[i].was), .v (sv l[i].puts)] := by
  simp [sts, stA, List.getD_eq_getElem?_getD, h]
theorem part_le {l sz i j : Nat} {xs : List AV} (h : j ≤ xs.length) : partA l sz xs i j = .sl l sz ((xs.drop i).take (j - i)) := by
  unfold partA
  split
  · rename_i hc
    obtain ⟨rfl, rfl⟩ := hc
    simp
  · rfl
def stepsR (s : List UInt8) (l : List Cp) : AV := res2 (.sl 0 5 (sts (stp s l))) (errI s l)
theorem stepsR_er (s : List UInt8) (l : List Cp) : (stepsR s l).er = stepsR s l := by
  have : ∀ l : List Sp, AV.erL (sts l) = sts l := fun l => by
    induction l with
    | nil => rfl
    | cons c r ih => show AV.er (stA c) :: AV.erL (sts r) = _; rw [ih]; rfl
  rfl
abbrev stepsCon : Con where
  ι := Str × Ed
  args := fun p => [.v (sv p.1.1), .sl 0 3 (comps p.2.1)]
  post := fun p r => r = stepsR p.1.1 p.2.1
abbrev SSt (cs : List Nat) (l : List Cp) := { p : List Sp × List Nat × Nat // p.2.2 ≤ l.length ∧ fit p.2.1 (l.drop p.2.2) ∧ p.1 ++ stepsL p.2.1 (l.drop p.2.2) = stepsL cs l ∧ ∀ c ∈ p.2.1, okc c }
theorem steps_good : Rw.Good Tryd.prog 53 stepsCon := by
  have hΓ : GoodEnv Tryd.prog [(17, checkCon), (61, countCon), (18, baseCon)] := (goodEnv_cons check_good (goodEnv_cons count_good (goodEnv_cons base_good goodEnv_nil)))
  refine good_fn (nn := 72) hΓ Tryd.func53 (by kernel_rfl) rfl (show Tryd.f53.results.toList = [.tmp 4, .tmp 5] from rfl) (fun _ => rfl) (fun _ => rfl) ?_
  rintro ⟨⟨s, hs⟩, ⟨l, hl⟩⟩
  simp only [goRules, coreRules, tiRules, unRules, AS_of_eq, ← decide_not, N0, N1, N2, N3, N4, N5, Z0, Z1, Z2, Z3, Z4, Z5, Z6, Z7, Z8, Z9, Z10, Zc, ↓reduceIte, reduceCtorEq]
  refine vc_scope hΓ 1 ?_
  simp only [goRules, coreRules, tiRules, unRules, AS_of_eq, ← decide_not, N0, N1, N2, N3, N4, N5, Z0, Z1, Z2, Z3, Z4, Z5, Z6, Z7, Z8, Z9, Z10, Zc, ↓reduceIte, reduceCtorEq]
  refine call_check (by simp [get_cons]) rfl hl ?_
  by_cases hc : checkI l = 0
  · simp only [goRules, coreRules, tiRules, unRules, AS_of_eq, ← decide_not, N0, N1, N2, N3, N4, N5, Z0, Z1, Z2, Z3, Z4, Z5, Z6, Z7, Z8, Z9, Z10, Zc, ↓reduceIte, reduceCtorEq, hc]
    refine call_count (by simp [get_cons]) hs ?_
    rcases opt_cases (pts s) with hp | ⟨cs, hp⟩
    · have he : errI s l = 2 := by unfold errI; rw [if_pos hc, hp]
      simp only [goRules, coreRules, tiRules, unRules, AS_of_eq, ← decide_not, N0, N1, N2, N3, N4, N5, Z0, Z1, Z2, Z3, Z4, Z5, Z6, Z7, Z8, Z9, Z10, Zc, ↓reduceIte, reduceCtorEq, countR, hp, res2]
      refine ⟨_, rfl, ?_⟩
      simp only [goRules, coreRules, tiRules, unRules, AS_of_eq, ← decide_not, N0, N1, N2, N3, N4, N5, Z0, Z1, Z2, Z3, Z4, Z5, Z6, Z7, Z8, Z9, Z10, Zc, ↓reduceIte, reduceCtorEq]
      unfold stepsR stp
      rw [he]; rfl
    · simp only [goRules, coreRules, tiRules, unRules, AS_of_eq, ← decide_not, N0, N1, N2, N3, N4, N5, Z0, Z1, Z2, Z3, Z4, Z5, Z6, Z7, Z8, Z9, Z10, Zc, ↓reduceIte, reduceCtorEq, countR, hp, res2]
      refine call_base (by simp [get_cons]) rfl hl ?_
      by_cases hb : (cs.length : Int) = baseL l
      · have he : errI s l = 0 := by unfold errI; rw [if_pos hc, hp]; simp only; rw [if_pos hb]
        have hfit := fit_check hc hb
        obtain ⟨hok, hse⟩ := pts_some hp
        have hr := runesA_pts hp
        have hlen := (check_cases hc).1
        have hcl := cpts_some hp
        simp only [goRules, coreRules, tiRules, unRules, AS_of_eq, ← decide_not, N0, N1, N2, N3, N4, N5, Z0, Z1, Z2, Z3, Z4, Z5, Z6, Z7, Z8, Z9, Z10, Zc, ↓reduceIte, reduceCtorEq, hb, hr, i32s_len]
        refine ⟨by omega, ?_⟩
        obtain ⟨St, hSt⟩ : ∃ St : SSt cs l → AS, ∀ p, St p = AS.of 72 [(4, .sl 2 5 (sts p.1.1)), (5, .v (.int .i64 0)), (7, .sl 0 1 (i32s p.1.2.1)), (28, .sl 0 3 (comps l)), (29, .v (.int .i64 l.length)), (30, .v (.int .i64 p.1.2.2))] [] [(p.1.1.length, 84)] := ⟨_, fun _ => rfl⟩
        refine vc_loop hΓ St (fun p => l.length - p.1.2.2) ⟨([], cs, 0), by simp, hfit, rfl, hok⟩ (by rw [hSt]; refine weak_go [] [.nil 5] ?_; simp only [goRules, coreRules, tiRules, unRules, AS_of_eq, ← decide_not, N0, N1, N2, N3, N4, N5, Z0, Z1, Z2, Z3, Z4, Z5, Z6, Z7, Z8, Z9, Z10, Zc, ↓reduceIte, reduceCtorEq, sts_nil, comps_len] <;> ((repeat' apply And.intro) <;> first | rfl | omega | trivial)) ?_
        rintro ⟨⟨out, ds, i⟩, hi, hf, ho, hdk⟩
        simp only at hi hf ho hdk
        rw [hSt]
        simp only
        simp only [goRules, coreRules, tiRules, unRules, AS_of_eq, ← decide_not, N0, N1, N2, N3, N4, N5, Z0, Z1, Z2, Z3, Z4, Z5, Z6, Z7, Z8, Z9, Z10, Zc, ↓reduceIte, reduceCtorEq, comps_len]
        (with_reducible first | refine branchP_dec (fun h => ?_) (fun h => ?_) | refine guardB_dec (fun h => ?_) (fun h => ?_))
        · have hlt : i < l.length := by omega
          have e1 := comps_getD l hlt
          have hct := okL.text hl (List.getElem_mem hlt)
          rw [List.drop_eq_getElem_cons hlt] at hf ho
          obtain ⟨hso, hn0, hnl, hf2⟩ := fit_cons hf
          rw [stepsL] at ho
          have hcs := sound_cases hso
          have hol : out.length ≤ 100 := by
            have := congrArg List.length ho
            rw [List.length_append, steps_len] at this
            omega
          generalize l[i] = c at *
          obtain ⟨k, n, t⟩ := c
          simp only at *
          have htk : utfL ((ds.take n.toNat).map fun (c : Nat) => (c : Int)) = encs (ds.take n.toNat) := utfL_encs (okc_take hdk _)
          have again : ∀ (σ : AS) (x : Sp), x = ⟨⟨k, n, t⟩, if k = 2 then [] else encs (ds.take n.toNat), if k = 2 then t else if k = 3 then [] else encs (ds.take n.toNat)⟩ → Weak σ (AS.of 72 [(4, .sl 2 5 (sts (out ++ [x]))), (5, .v (.int .i64 0)), (7, .sl 0 1 (i32s (ds.drop n.toNat))), (28, .sl 0 3 (comps l)), (29, .v (.int .i64 l.length)), (30, .v (.int .i64 (i + 1 : Nat)))] [] [((out ++ [x]).length, 84)]) → ∃ y : SSt cs l, l.length - y.1.2.2 < l.length - i ∧ Weak σ (St y) := fun σ x hx hw =>
            ⟨⟨(out ++ [x], ds.drop n.toNat, i + 1), by simp only; omega, hf2, by simp only; rw [← ho, hx]; simp, okc_drop hdk _⟩, by simp only; omega, by rw [hSt]; exact hw⟩
          have p1 : partA 0 1 (i32s ds) 0 n.toNat = .sl 0 1 (i32s (ds.take n.toNat)) := by rw [part_le (by rw [i32s_len]; omega), i32s_part]; simp
          have p2 : partA 0 1 (i32s ds) n.toNat ds.length = .sl 0 1 (i32s (ds.drop n.toNat)) := by rw [part_le (by rw [i32s_len]; omega), i32s_part, List.take_of_length_le (by rw [List.length_drop]; omega)]
          simp (disch := omega) only [goRules, coreRules, tiRules, unRules, AS_of_eq, ← decide_not, N0, N1, N2, N3, N4, N5, Z0, Z1, Z2, Z3, Z4, Z5, Z6, Z7, Z8, Z9, Z10, Zc, ↓reduceIte, reduceCtorEq, wrap_i64, h, e1, comps_len, i32s_len, p1, p2, i32sOf_i32s, htk, Int.toNat_natCast]
          (repeat (with_reducible refine And.intro ?_ ?_; focus (first | omega | exact mixed1 | kernel_rfl)))
          (with_reducible first | refine branchP_dec (fun h2 => ?_) (fun h2 => ?_) | refine guardB_dec (fun h2 => ?_) (fun h2 => ?_))
          · subst h2
            simp (disch := omega) only [goRules, coreRules, tiRules, unRules, AS_of_eq, ← decide_not, N0, N1, N2, N3, N4, N5, Z0, Z1, Z2, Z3, Z4, Z5, Z6, Z7, Z8, Z9, Z10, Zc, ↓reduceIte, reduceCtorEq, wrap_i64, sts_len, sts_snoc, List.map_cons, List.map_nil]
            (repeat (with_reducible refine And.intro ?_ ?_; focus (first | omega | exact mixed1 | kernel_rfl)))
            refine again _ ⟨⟨2, n, t⟩, [], t⟩ ?_ ?_
            rotate_left
            · refine weak_go [] [.live 2] ?_
              simp only [goRules, coreRules, tiRules, unRules, AS_of_eq, ← decide_not, N0, N1, N2, N3, N4, N5, Z0, Z1, Z2, Z3, Z4, Z5, Z6, Z7, Z8, Z9, Z10, Zc, ↓reduceIte, reduceCtorEq, sts_len, List.length_append] <;> ((repeat' apply And.intro) <;> first | rfl | omega | trivial)
            · simp
          · simp (disch := omega) only [goRules, coreRules, tiRules, unRules, AS_of_eq, ← decide_not, N0, N1, N2, N3, N4, N5, Z0, Z1, Z2, Z3, Z4, Z5, Z6, Z7, Z8, Z9, Z10, Zc, ↓reduceIte, reduceCtorEq, wrap_i64, h2]
            (with_reducible first | refine branchP_dec (fun h3 => ?_) (fun h3 => ?_) | refine guardB_dec (fun h3 => ?_) (fun h3 => ?_))
            · subst h3
              simp (disch := omega) only [goRules, coreRules, tiRules, unRules, AS_of_eq, ← decide_not, N0, N1, N2, N3, N4, N5, Z0, Z1, Z2, Z3, Z4, Z5, Z6, Z7, Z8, Z9, Z10, Zc, ↓reduceIte, reduceCtorEq, wrap_i64, sts_len, sts_snoc, List.map_cons, List.map_nil]
              (repeat (with_reducible refine And.intro ?_ ?_; focus (first | omega | exact mixed1 | kernel_rfl)))
              refine again _ ⟨⟨3, n, t⟩, encs (ds.take n.toNat), []⟩ ?_ ?_
              rotate_left
              · refine weak_go [] [.live 2] ?_
                simp only [goRules, coreRules, tiRules, unRules, AS_of_eq, ← decide_not, N0, N1, N2, N3, N4, N5, Z0, Z1, Z2, Z3, Z4, Z5, Z6, Z7, Z8, Z9, Z10, Zc, ↓reduceIte, reduceCtorEq, sts_len, List.length_append] <;> ((repeat' apply And.intro) <;> first | rfl | omega | trivial)
              · simp
            · simp (disch := omega) only [goRules, coreRules, tiRules, unRules, AS_of_eq, ← decide_not, N0, N1, N2, N3, N4, N5, Z0, Z1, Z2, Z3, Z4, Z5, Z6, Z7, Z8, Z9, Z10, Zc, ↓reduceIte, reduceCtorEq, wrap_i64, h3, sts_len, sts_snoc, List.map_cons, List.map_nil]
              (repeat (with_reducible refine And.intro ?_ ?_; focus (first | omega | exact mixed1 | kernel_rfl)))
              refine again _ ⟨⟨k, n, t⟩, encs (ds.take n.toNat), encs (ds.take n.toNat)⟩ ?_ ?_
              rotate_left
              · refine weak_go [] [.live 2] ?_
                simp only [goRules, coreRules, tiRules, unRules, AS_of_eq, ← decide_not, N0, N1, N2, N3, N4, N5, Z0, Z1, Z2, Z3, Z4, Z5, Z6, Z7, Z8, Z9, Z10, Zc, ↓reduceIte, reduceCtorEq, sts_len, List.length_append] <;> ((repeat' apply And.intro) <;> first | rfl | omega | trivial)
              · simp [h2, h3]
        · have hin : i = l.length := by omega
          simp only [goRules, coreRules, tiRules, unRules, AS_of_eq, ← decide_not, N0, N1, N2, N3, N4, N5, Z0, Z1, Z2, Z3, Z4, Z5, Z6, Z7, Z8, Z9, Z10, Zc, ↓reduceIte, reduceCtorEq, h]
          rw [hin, List.drop_length, stepsL, List.append_nil] at ho
          unfold stepsR stp
          rw [if_pos he, he, hcl, ho]; rfl
      · have he : errI s l = 11 := by unfold errI; rw [if_pos hc, hp]; simp only; rw [if_neg hb]
        simp only [goRules, coreRules, tiRules, unRules, AS_of_eq, ← decide_not, N0, N1, N2, N3, N4, N5, Z0, Z1, Z2, Z3, Z4, Z5, Z6, Z7, Z8, Z9, Z10, Zc, ↓reduceIte, reduceCtorEq, hb]
        refine ⟨_, rfl, ?_⟩
        simp only [goRules, coreRules, tiRules, unRules, AS_of_eq, ← decide_not, N0, N1, N2, N3, N4, N5, Z0, Z1, Z2, Z3, Z4, Z5, Z6, Z7, Z8, Z9, Z10, Zc, ↓reduceIte, reduceCtorEq]
        unfold stepsR stp
        rw [he]; rfl
  · have he : errI s l = checkI l := by unfold errI; rw [if_neg hc]
    simp only [goRules, coreRules, tiRules, unRules, AS_of_eq, ← decide_not, N0, N1, N2, N3, N4, N5, Z0, Z1, Z2, Z3, Z4, Z5, Z6, Z7, Z8, Z9, Z10, Zc, ↓reduceIte, reduceCtorEq, hc]
    refine ⟨_, rfl, ?_⟩
    simp only [goRules, coreRules, tiRules, unRules, AS_of_eq, ← decide_not, N0, N1, N2, N3, N4, N5, Z0, Z1, Z2, Z3, Z4, Z5, Z6, Z7, Z8, Z9, Z10, Zc, ↓reduceIte, reduceCtorEq]
    unfold stepsR stp
    rw [he, if_neg hc]; rfl
theorem call_steps {Γ : Env} (hf : Γ.get 53 = some stepsCon) {σ : AS} {dr : Bool} {s : List UInt8} {l : List Cp} {t : Nat} {ys : List AV} {d : Option Nat} {K : AS → Prop} (hy : ys = comps l) (hs : s.length ≤ 1099511627776) (hl : okL l) (ht : t < 2)
    (hk : cont σ d (stepsR s l) K) : vcCall Tryd.prog Γ dr σ 53 [.v (sv s), .sl t 3 ys] d K := by
  subst hy
  refine vcCall_fn (C := stepsCon) (i := (⟨s, hs⟩, ⟨l, hl⟩)) (r := stepsR s l) hf rfl rfl rfl ?_ (fun _ h => h) (by rw [stepsR_er]; exact hk) <;> simp [AV.erL, AV.er, AV.tagsL, AV.tags, comps_er] <;> omega
end Go.Proofs
end

-- AAp2
section
namespace Go.Proofs
open Go Go.Rw
open _root_.Nat renaming reduceAdd → N0, reduceSub → N1, reduceMul → N2, reduceLT → N3, reduceLeDiff → N4, reduceEqDiff → N5
open _root_.Int renaming reduceNeg → Z0, reduceAdd → Z1, reduceSub → Z2, reduceMul → Z3, reduceGT → Z4, reduceGE → Z5, reduceLT → Z6, reduceLE → Z7, reduceEq → Z8, reduceNe → Z9, reduceToNat → Z10, cast_ofNat_Int → Zc
set_option maxRecDepth 100000
set_option linter.unusedSimpArgs false
set_option linter.unusedVariables false

end Go.Proofs
end

-- AAp3
section
namespace Go.Proofs
open Go Go.Rw
open _root_.Nat renaming reduceAdd → N0, reduceSub → N1, reduceMul → N2, reduceLT → N3, reduceLeDiff → N4, reduceEqDiff → N5
open _root_.Int renaming reduceNeg → Z0, reduceAdd → Z1, reduceSub → Z2, reduceMul → Z3, reduceGT → Z4, reduceGE → Z5, reduceLT → Z6, reduceLE → Z7, reduceEq → Z8, reduceNe → Z9, reduceToNat → Z10, cast_ofNat_Int → Zc
set_option maxRecDepth 100000
set_option linter.unusedSimpArgs false
set_option linter.unusedVariables false

end Go.Proofs
end

-- AAp4
section
namespace Go.Proofs
open Go Go.Rw
open _root_.Nat renaming reduceAdd → N0, reduceSub → N1, reduceMul → N2, reduceLT → N3, reduceLeDiff → N4, reduceEqDiff → N5
open _root_.Int renaming reduceNeg → Z0, reduceAdd → Z1, reduceSub → Z2, reduceMul → Z3, reduceGT → Z4, reduceGE → Z5, reduceLT → Z6, reduceLE → Z7, reduceEq → Z8, reduceNe → Z9, reduceToNat → Z10, cast_ofNat_Int → Zc
set_option maxRecDepth 100000
set_option linter.unusedSimpArgs false
set_option linter.unusedVariables false

def doR (s : List UInt8) (l : List Cp) : AV := res2 (.v (sv (doneB s l))) (errI s l)
abbrev doCon : Con where
  ι := Str × Ed
  args := fun p => [.v (sv p.1.1), .sl 0 3 (comps p.2.1)]
  post := fun p r => r = doR p.1.1 p.2.1
  plain := true
theorem stp_puts (s : List UInt8) (l : List Cp) : (stp s l).flatMap Sp.puts = doneB s l ∧ (doneB s l).length ≤ 8000 := by
  unfold stp doneB
  by_cases he : errI s l = 0
  · rw [if_pos he, if_pos he]
    obtain ⟨hc, _, hb, hf⟩ := err_zero he
    have hcc := check_cases hc
    have ho := out_do l (cpts s) 0 (by omega) hf hcc.2.2.2.2.2
    have h4 := encs_len_le (cs := doL (cpts s) l)
    have : outL l = outF 0 l := rfl
    exact ⟨steps_puts l _ hf, by omega⟩
  · rw [if_neg he, if_neg he]; exact ⟨rfl, by simp⟩
theorem take_puts (S : List Sp) (i : Nat) (h : i < S.length) : (S.take (i + 1)).flatMap Sp.puts = (S.take i).flatMap Sp.puts ++ S[i].puts := by
  rw [List.take_succ_eq_append_getElem h, List.flatMap_append]; simp
theorem take_puts_le (S : List Sp) (i : Nat) : ((S.take i).flatMap Sp.puts).length ≤ (S.flatMap Sp.puts).length := by
  conv => rhs; rw [← List.take_append_drop i S]
  rw [List.flatMap_append, List.length_append]; omega
theorem stp_len (s : List UInt8) (l : List Cp) : (stp s l).length ≤ 100 := by
  unfold stp
  split
  · rename_i he
    have := (check_cases (err_zero he).1).1
    rw [steps_len]; exact this
  · simp
theorem do_good : Rw.Good Tryd.prog 22 doCon := by
  have hΓ : GoodEnv Tryd.prog [(53, stepsCon)] := (goodEnv_cons steps_good goodEnv_nil)
  refine good_fn (nn := 30) hΓ Tryd.func22 (by kernel_rfl) rfl (show Tryd.f22.results.toList = [.tmp 4, .tmp 5] from rfl) (fun _ => rfl) (fun _ => rfl) ?_
  rintro ⟨⟨s, hs⟩, ⟨l, hl⟩⟩
  simp only [goRules, coreRules, tiRules, unRules, AS_of_eq, ← decide_not, N0, N1, N2, N3, N4, N5, Z0, Z1, Z2, Z3, Z4, Z5, Z6, Z7, Z8, Z9, Z10, Zc, ↓reduceIte, reduceCtorEq]
  refine call_steps (by simp [get_cons]) rfl hs hl (by omega) ?_
  obtain ⟨hp1, hp2⟩ := stp_puts s l
  have hle := take_puts_le (stp s l)
  have hlen := stp_len s l
  have hdo : doR s l = res2 (.v (sv ((stp s l).flatMap Sp.puts))) (errI s l) := by unfold doR; rw [hp1]
  rw [← hp1] at hp2
  simp only [goRules, coreRules, tiRules, unRules, AS_of_eq, ← decide_not, N0, N1, N2, N3, N4, N5, Z0, Z1, Z2, Z3, Z4, Z5, Z6, Z7, Z8, Z9, Z10, Zc, ↓reduceIte, reduceCtorEq, stepsR, res2, sts_len]
  generalize stp s l = S at *
  obtain ⟨St, hSt⟩ : ∃ St : { i : Nat // i ≤ S.length } → AS, ∀ i, St i = AS.of 30 [(6, .v (sv ((S.take i.1).flatMap Sp.puts))), (8, .v (.int .i64 (errI s l))), (17, .sl 0 5 (sts S)), (18, .v (.int .i64 S.length)), (19, .v (.int .i64 i.1))] [] [] := ⟨_, fun _ => rfl⟩
  refine vc_loop hΓ St (fun i => S.length - i.1) ⟨0, by omega⟩ (by rw [hSt]; refine weak_go [] [] ?_; simp only [goRules, coreRules, tiRules, unRules, AS_of_eq, ← decide_not, N0, N1, N2, N3, N4, N5, Z0, Z1, Z2, Z3, Z4, Z5, Z6, Z7, Z8, Z9, Z10, Zc, ↓reduceIte, reduceCtorEq, List.take_zero, List.flatMap_nil] <;> ((repeat' apply And.intro) <;> first | rfl | omega | trivial)) ?_
  rintro ⟨i, hi⟩
  rw [hSt]
  simp only
  simp only [goRules, coreRules, tiRules, unRules, AS_of_eq, ← decide_not, N0, N1, N2, N3, N4, N5, Z0, Z1, Z2, Z3, Z4, Z5, Z6, Z7, Z8, Z9, Z10, Zc, ↓reduceIte, reduceCtorEq]
  (with_reducible first | refine branchP_dec (fun h => ?_) (fun h => ?_) | refine guardB_dec (fun h => ?_) (fun h => ?_))
  · have hlt : i < S.length := by omega
    have e1 := sts_getD S hlt
    have h1 := hle i
    have h2 := hle (i + 1)
    have htp := take_puts S i hlt
    rw [htp, List.length_append] at h2
    simp (disch := omega) only [goRules, coreRules, tiRules, unRules, AS_of_eq, ← decide_not, N0, N1, N2, N3, N4, N5, Z0, Z1, Z2, Z3, Z4, Z5, Z6, Z7, Z8, Z9, Z10, Zc, ↓reduceIte, reduceCtorEq, wrap_i64, h, e1, sts_len]
    (repeat (with_reducible refine And.intro ?_ ?_; focus (first | omega | exact mixed1 | kernel_rfl)))
    refine weak_again ⟨i + 1, by omega⟩ (by simp only; omega) ?_
    rw [hSt]
    simp only
    rw [htp]
    refine weak_go [] [] ?_
    simp only [goRules, coreRules, tiRules, unRules, AS_of_eq, ← decide_not, N0, N1, N2, N3, N4, N5, Z0, Z1, Z2, Z3, Z4, Z5, Z6, Z7, Z8, Z9, Z10, Zc, ↓reduceIte, reduceCtorEq] <;> ((repeat' apply And.intro) <;> first | rfl | omega | trivial)
  · have hin : i = S.length := by omega
    simp only [goRules, coreRules, tiRules, unRules, AS_of_eq, ← decide_not, N0, N1, N2, N3, N4, N5, Z0, Z1, Z2, Z3, Z4, Z5, Z6, Z7, Z8, Z9, Z10, Zc, ↓reduceIte, reduceCtorEq, h, hin, List.take_length]
    rw [hdo]; rfl
theorem call_do {Γ : Env} {f : Nat} (hf : Γ.get f = some doCon) {σ : AS} {dr : Bool} {s : List UInt8} {l : List Cp} {t : Nat} {ys : List AV} {d : Option Nat} {K : AS → Prop} (hy : ys = comps l) (hs : s.length ≤ 1099511627776) (hl : okL l)
    (hk : cont σ d (doR s l) K) : vcCall Tryd.prog Γ dr σ f [.v (sv s), .sl t 3 ys] d K := by
  subst hy
  exact vcCall_plain (C := doCon) (i := (⟨s, hs⟩, ⟨l, hl⟩)) hf rfl rfl rfl rfl (fun _ h => h) rfl hk
end Go.Proofs
end
