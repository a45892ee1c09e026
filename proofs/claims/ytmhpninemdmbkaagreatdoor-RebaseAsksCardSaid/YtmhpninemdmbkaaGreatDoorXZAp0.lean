/-
  Edits done, undone, found. Plain. Edits done by the program. Which edits may be, as the document says. Edits done, undone, by the program. Edits done, undone, by the program.
-/
import Derived.Test.YtmhpninemdmbkaaGreatDoorXZUo2
import Derived.Test.YtmhpninemdmbkaaGreatDoorRwF
set_option linter.unusedSimpArgs false
set_option linter.unusedVariables false
set_option linter.defProp false

-- ZAp0
section
namespace Go.Proofs
open Go Go.Rw
def cpts (t : List UInt8) : List Nat := (pts t).getD []
theorem cpts_some {t : List UInt8} {cs : List Nat} (h : pts t = some cs) : cpts t = cs := by unfold cpts; rw [h]; rfl
theorem kCN : cpts [] = [] := rfl
theorem cpts_enc {cs : List Nat} (h : ∀ c ∈ cs, okc c) : cpts (encs cs) = cs := cpts_some (kCp h)
theorem kEq {t : List UInt8} (h : (pts t).isSome = true) : pts t = some (cpts t) := by
  obtain ⟨cs, hc⟩ := Option.isSome_iff_exists.1 h
  rw [hc, cpts_some hc]
theorem j3 {t : List UInt8} (h : (pts t).isSome = true) : encs (cpts t) = t ∧ ∀ c ∈ cpts t, okc c := by
  obtain ⟨h1, h2⟩ := jY (kEq h)
  exact ⟨h2.symm, h1⟩
theorem cpts_app {s t : List UInt8} (h1 : (pts s).isSome = true) (h2 : (pts t).isSome = true) : cpts (s ++ t) = cpts s ++ cpts t := by
  obtain ⟨e1, o1⟩ := j3 h1
  obtain ⟨e2, o2⟩ := j3 h2
  have : s ++ t = encs (cpts s ++ cpts t) := by rw [jL, e1, e2]
  rw [this, cpts_enc]
  intro c hc
  rcases List.mem_append.1 hc with h | h
  · exact o1 c h
  · exact o2 c h
theorem lc_cpts {t : List UInt8} (h : (pts t).isSome = true) : lc t = (cpts t).length := by
  obtain ⟨e1, o1⟩ := j3 h
  conv => lhs; rw [← e1]
  exact kEk _ o1
def doL : List Nat → List Cp → List Nat
  | _, [] => []
  | cs, c :: r => if qJ c = false then doL cs r else if c.k = 2 then cpts c.t ++ doL cs r else if c.k = 3 then doL (cs.drop c.n.toNat) r else cs.take c.n.toNat ++ doL (cs.drop c.n.toNat) r
theorem do_no {cs : List Nat} {c : Cp} {r : List Cp} (h : qJ c = false) : doL cs (c :: r) = doL cs r := by rw [doL, if_pos h]
theorem do_ins {cs : List Nat} {c : Cp} {r : List Cp} (h : qJ c = true) (h2 : c.k = 2) : doL cs (c :: r) = cpts c.t ++ doL cs r := by rw [doL, if_neg (by rw [h]; decide), if_pos h2]
theorem do_del {cs : List Nat} {c : Cp} {r : List Cp} (h : qJ c = true) (h2 : c.k = 3) : doL cs (c :: r) = doL (cs.drop c.n.toNat) r := by rw [doL, if_neg (by rw [h]; decide), if_neg (by omega), if_pos h2]
theorem do_ret {cs : List Nat} {c : Cp} {r : List Cp} (h : qJ c = true) (h2 : ¬ c.k = 2) (h3 : ¬ c.k = 3) : doL cs (c :: r) = cs.take c.n.toNat ++ doL (cs.drop c.n.toNat) r := by rw [doL, if_neg (by rw [h]; decide), if_neg h2, if_neg h3]
def fit (cs : List Nat) (l : List Cp) : Prop := (∀ c ∈ l, qE c = true) ∧ (cs.length : Int) = tn l
theorem qB {c : Cp} (h : qE c = true) : (c.k = 2 ∧ c.n = 0 ∧ c.t ≠ [] ∧ (pts c.t).isSome = true) ∨ ((c.k = 1 ∨ c.k = 3) ∧ 0 < c.n ∧ c.t = []) := by
  unfold qE at h
  split at h
  · rename_i h2
    simp at h
    exact .inl ⟨h2, h.1.1, h.1.2, h.2⟩
  · split at h
    · rename_i h13
      simp at h
      exact .inr ⟨h13, h.1, h.2⟩
    · cases h
theorem kBU {c : Cp} (h : qE c = true) : qJ c = true := by
  unfold qJ
  rcases qB h with ⟨h2, _, h3, _⟩ | ⟨h13, h4, _⟩
  · rw [if_pos h2]; simp [h3]
  · rw [if_neg (by omega)]
    rcases h13 with h | h <;> simp [h, h4]
theorem fit_cons {cs : List Nat} {c : Cp} {r : List Cp} (h : fit cs (c :: r)) : qE c = true ∧ 0 ≤ c.n ∧ c.n.toNat ≤ cs.length ∧ fit (cs.drop c.n.toNat) r := by
  obtain ⟨h1, h2⟩ := h
  have hs := h1 c (by simp)
  have hp := kEI r
  have hn : 0 ≤ c.n := by rcases qB hs with ⟨_, h, _⟩ | ⟨_, h, _⟩ <;> omega
  simp only [tn] at h2
  exact ⟨hs, hn, by omega, fun x hx => h1 x (by simp [hx]), by rw [List.length_drop]; omega⟩
theorem kCM : ∀ (l : List Cp) (m : Int), (0 ≤ m ∧ m ≤ 1099511627776) → (∀ c ∈ l, qE c = true) → zX m l = sumN m l
  | [], _, _, _ => rfl
  | c :: r, m, hm, h => by
    have hr := fun x hx => h x (List.mem_cons_of_mem c hx)
    have hs := qB (h c (by simp))
    simp only [zX, sumN]
    by_cases h13 : c.k = 1 ∨ c.k = 3
    · rw [if_pos h13]
      exact kCM r _ (k8 hm.1 (by omega)) hr
    · rw [if_neg h13]
      rcases hs with ⟨_, h0, _⟩ | ⟨h, _⟩
      · rw [h0, show max (0 : Int) 0 = 0 from rfl, addI_z hm.2]
        exact kCM r m hm hr
      · exact absurd h h13
theorem kDR : ∀ (l : List Cp) (p : Option Cp), zP p l = true → ∀ c ∈ l, qE c = true
  | [], _, _, c, hc => by cases hc
  | c :: r, p, h, x, hx => by
    simp only [zP, Bool.and_eq_true] at h
    rcases List.mem_cons.1 hx with rfl | hx
    · exact h.1.1
    · exact kDR r (some c) h.2 x hx
theorem kAm {l : List Cp} (h : qI l = 0) : l.length ≤ 100 ∧ qL l = true ∧ (∀ c ∈ l, qE c = true) ∧ zY l = tn l ∧ tn l ≤ 2000 ∧ outL l ≤ 2000 := by
  unfold qI at h
  split at h
  · cases h
  · split at h
    · cases h
    · split at h
      · cases h
      · rename_i h1 h2 h3
        have h4 : qL l = true := by simpa using h2
        have h5 := kDR l none h4
        have h6 : zY l = min (0 + tn l) 1099511627776 := by
          unfold zY
          rw [kCM l 0 (by omega) h5, sumN_eq l (by omega)]
        have h7 := kEI l
        exact ⟨by omega, h4, h5, by omega, by omega, by omega⟩
theorem out_do : ∀ (l : List Cp) (cs : List Nat) (m : Int), 0 ≤ m → fit cs l → outF m l ≤ 2000 → outF m l = m + (doL cs l).length
  | [], _, m, _, _, _ => by simp [outF, doL]
  | c :: r, cs, m, hm, hf, ho => by
    obtain ⟨hs, hn, hle, hf2⟩ := fit_cons hf
    have hso := kBU hs
    simp only [outF] at ho ⊢
    have mono : ∀ (l : List Cp) (m : Int), 0 ≤ m → m ≤ 1099511627776 → m ≤ outF m l := by
      intro l
      induction l with
      | nil => intro m _ _; simp [outF]
      | cons c r ih =>
        intro m h1 h2
        simp only [outF]
        split
        · have h3 := k8 h1 (show 0 ≤ max c.n 0 by omega)
          have h4 := ih _ h3.1 h3.2
          have : m ≤ addI m (max c.n 0) := by unfold addI; omega
          omega
        · split
          · have h3 := k8 h1 (show 0 ≤ (lc c.t : Int) by omega)
            have h4 := ih _ h3.1 h3.2
            have : m ≤ addI m (lc c.t) := by unfold addI; omega
            omega
          · exact ih m h1 h2
    rcases qB hs with ⟨h2, h0, _, hv⟩ | ⟨h13, hp, _⟩
    · rw [if_neg (by omega), if_pos h2] at ho ⊢
      have hb := k8 hm (show 0 ≤ (lc c.t : Int) by omega)
      have hm2 := mono r _ hb.1 hb.2
      have hm3 : addI m (lc c.t) ≤ 2000 := by omega
      have e : addI m (lc c.t) = m + lc c.t := by unfold addI at hm3 ⊢; omega
      rw [e] at ho ⊢
      rw [h0] at hf2
      have := out_do r cs (m + lc c.t) (by omega) (by simpa using hf2) ho
      rw [this, do_ins hso h2, List.length_append, lc_cpts hv]; omega
    · by_cases h1 : c.k = 1
      · rw [if_pos h1] at ho ⊢
        have hb := k8 hm (show 0 ≤ max c.n 0 by omega)
        have hm2 := mono r _ hb.1 hb.2
        have hm3 : addI m (max c.n 0) ≤ 2000 := by omega
        have e : addI m (max c.n 0) = m + c.n := by unfold addI at hm3 ⊢; omega
        rw [e] at ho ⊢
        have := out_do r _ (m + c.n) (by omega) hf2 ho
        rw [this, do_ret hso (by omega) (by omega), List.length_append, List.length_take]; omega
      · rw [if_neg h1, if_neg (by omega)] at ho ⊢
        have := out_do r _ m hm hf2 ho
        rw [this, do_del hso (by omega)]
theorem sound_texts {l : List Cp} (h : ∀ c ∈ l, qE c = true) : allV l = true := by
  unfold allV
  rw [List.all_eq_true]
  intro c hc
  rcases qB (h c hc) with ⟨_, _, _, hv⟩ | ⟨_, _, ht⟩
  · exact hv
  · rw [ht, kAr]; rfl
structure Sp where
  c : Cp
  was : List UInt8
  puts : List UInt8
def stepsL : List Nat → List Cp → List Sp
  | _, [] => []
  | cs, c :: r => ⟨c, if c.k = 2 then [] else encs (cs.take c.n.toNat), if c.k = 2 then c.t else if c.k = 3 then [] else encs (cs.take c.n.toNat)⟩ :: stepsL (cs.drop c.n.toNat) r
def undoS (x : Sp) : Cp := if x.c.k = 2 then ⟨3, (cpts x.puts).length, []⟩ else if x.c.k = 3 then ⟨2, 0, x.was⟩ else x.c
def undoL (cs : List Nat) (l : List Cp) : List Cp := (stepsL cs l).map undoS
def errI (s : List UInt8) (l : List Cp) : Int := if qI l = 0 then (match pts s with | none => 2 | some cs => if (cs.length : Int) = zY l then 0 else 11) else qI l
def undone (s : List UInt8) (l : List Cp) : List Cp := if errI s l = 0 then nf (undoL (cpts s) l) else []
end Go.Proofs
end
-- ZAp1
section
namespace Go.Proofs
open Go Go.Rw
set_option maxRecDepth 100000
end Go.Proofs
end
-- ZAp2
section
namespace Go.Proofs
open Go Go.Rw
open _root_.Nat renaming reduceAdd → N0, reduceSub → N1, reduceMul → N2, reduceLT → N3, reduceLeDiff → N4, reduceEqDiff → N5
open _root_.Int renaming reduceNeg → Z0, reduceAdd → Z1, reduceSub → Z2, reduceMul → Z3, reduceGT → Z4, reduceGE → Z5, reduceLT → Z6, reduceLE → Z7, reduceEq → Z8, reduceNe → Z9, reduceToNat → Z10, cast_ofNat_Int → Zc
set_option maxRecDepth 100000
theorem pnt_width {l : List UInt8} (h : l ≠ []) : max ((pnt l).2 : Int) 1 = (Lib.decodeL l).2 ∧ 1 ≤ (Lib.decodeL l).2 := by
  have hw := Lib.decodeL_width l
  refine ⟨?_, hw⟩
  unfold pnt
  split
  · rename_i hc
    rcases hc with ⟨_, h2⟩ | h2
    · simp only; omega
    · by_cases hv : (Lib.decodeL l).1 = 65533 ∧ (Lib.decodeL l).2 = 1
      · simp only; omega
      · obtain ⟨_, h3, _⟩ := kCD h hv
        rw [h2] at h3
        simp only
        rw [h3]; rfl
  · omega
theorem head_zero {l : List UInt8} (h : l ≠ []) (h0 : l.getD 0 0 = 0) : (Lib.decodeL l).2 = 1 := by
  cases l with
  | nil => exact absurd rfl h
  | cons x r =>
    simp only [List.getD_cons_zero] at h0
    subst h0
    have := kBk (c := 0) (.inr rfl) r
    have e : enc 0 ++ r = 0 :: r := rfl
    rw [e] at this
    rw [this]; rfl
theorem loose_good : Rw.Good Tryz.prog 111 kCd := by
  have hΓ : kL Tryz.prog [(84, kEx)] := (kE kCq kJ)
  refine kS (nn := 27) hΓ Tryz.func111 (by kernel_rfl) rfl (show Tryz.f111.results.toList = [.tmp 2] from rfl) (fun _ => rfl) (fun _ => rfl) ?_
  rintro ⟨s, hs⟩
  simp only [aR,N0,N1,N2,N3,N4,N5,Z0,Z1,Z2,Z3,Z4,Z5,Z6,Z7,Z8,Z9,Z10,Zc,↓reduceIte,reduceCtorEq]
  obtain ⟨St, hSt⟩ : ∃ St : { p : Nat × Nat // p.1 + lc (s.drop p.2) = lc s } → AS, ∀ p, St p = AS.of 27 [(0, .v (sv s)), (3, .v (.int .i64 p.1.1)), (4, .v (.int .i64 p.1.2))] [] [] := ⟨_, fun _ => rfl⟩
  refine kX hΓ St (fun p => s.length - p.1.2) ⟨(0, 0), by simp⟩ (by rw [hSt]; refine kH [] [] ?_; simp only [aR,N0,N1,N2,N3,N4,N5,Z0,Z1,Z2,Z3,Z4,Z5,Z6,Z7,Z8,Z9,Z10,Zc,↓reduceIte,reduceCtorEq] <;> ((repeat' apply And.intro) <;> first | rfl | omega | trivial)) ?_
  rintro ⟨⟨k, i⟩, hk⟩
  simp only at hk
  have hlk := kDY s
  rw [hSt]
  simp only
  simp only [aR,N0,N1,N2,N3,N4,N5,Z0,Z1,Z2,Z3,Z4,Z5,Z6,Z7,Z8,Z9,Z10,Zc,↓reduceIte,reduceCtorEq]
  (with_reducible first | refine kC (fun h => ?_) (fun h => ?_) | refine kF (fun h => ?_) (fun h => ?_))
  · have hlt : i < s.length := by omega
    have hne := drop_ne hlt
    have hw := pnt_width hne
    have hsm := kE7 (s.drop i)
    have hle : (Lib.decodeL (s.drop i)).2 ≤ 4 := by omega
    rw [lc_step hne, List.drop_drop] at hk
    have again : ∀ σ : AS, Weak σ (AS.of 27 [(0, .v (sv s)), (3, .v (.int .i64 (k + 1 : Nat))), (4, .v (.int .i64 (i + (Lib.decodeL (s.drop i)).2 : Nat)))] [] []) → ∃ y : { p : Nat × Nat // p.1 + lc (s.drop p.2) = lc s }, s.length - y.1.2 < s.length - i ∧ Weak σ (St y) := fun σ hw2 =>
      ⟨⟨(k + 1, i + (Lib.decodeL (s.drop i)).2), by simp only; omega⟩, by simp only; omega, by rw [hSt]; exact hw2⟩
    simp (disch := omega) only [aR,N0,N1,N2,N3,N4,N5,Z0,Z1,Z2,Z3,Z4,Z5,Z6,Z7,Z8,Z9,Z10,Zc,↓reduceIte,reduceCtorEq, kA, h]
    (repeat (with_reducible refine And.intro ?_ ?_; focus (first | omega | exact kG | kernel_rfl)))
    (with_reducible first | refine kC (fun h2 => ?_) (fun h2 => ?_) | refine kF (fun h2 => ?_) (fun h2 => ?_))
    · simp (disch := omega) only [aR,N0,N1,N2,N3,N4,N5,Z0,Z1,Z2,Z3,Z4,Z5,Z6,Z7,Z8,Z9,Z10,Zc,↓reduceIte,reduceCtorEq, kA, h2]
      refine kDL (by simp [kB]) hs hlt ?_
      unfold pntR
      simp (disch := omega) only [aR,N0,N1,N2,N3,N4,N5,Z0,Z1,Z2,Z3,Z4,Z5,Z6,Z7,Z8,Z9,Z10,Zc,↓reduceIte,reduceCtorEq, kA, zU, hw.1]
      refine again _ ?_
      refine kH [] [] ?_
      simp only [aR,N0,N1,N2,N3,N4,N5,Z0,Z1,Z2,Z3,Z4,Z5,Z6,Z7,Z8,Z9,Z10,Zc,↓reduceIte,reduceCtorEq] <;> ((repeat' apply And.intro) <;> first | rfl | omega | trivial)
    · have h3 : (s.drop i).getD 0 0 = 0 := by
        have h4 : ((s.getD i 0).toNat : Int) = 0 := by omega
        have h5 : s.getD i 0 = 0 := by
          have : (s.getD i 0).toNat = 0 := by omega
          exact UInt8.toNat_inj.1 (by simpa using this)
        simp only [List.getD_eq_getElem?_getD, List.getElem?_drop, Nat.add_zero] at h5 ⊢
        exact h5
      have h6 := head_zero hne h3
      simp (disch := omega) only [aR,N0,N1,N2,N3,N4,N5,Z0,Z1,Z2,Z3,Z4,Z5,Z6,Z7,Z8,Z9,Z10,Zc,↓reduceIte,reduceCtorEq, kA, h2, zU, show max (1 : Int) 1 = 1 from rfl]
      refine again _ ?_
      rw [h6]
      refine kH [] [] ?_
      simp only [aR,N0,N1,N2,N3,N4,N5,Z0,Z1,Z2,Z3,Z4,Z5,Z6,Z7,Z8,Z9,Z10,Zc,↓reduceIte,reduceCtorEq] <;> ((repeat' apply And.intro) <;> first | rfl | omega | trivial)
  · simp only [aR,N0,N1,N2,N3,N4,N5,Z0,Z1,Z2,Z3,Z4,Z5,Z6,Z7,Z8,Z9,Z10,Zc,↓reduceIte,reduceCtorEq, h]
    rw [List.drop_of_length_le (by omega), kD6] at hk
    omega
theorem call_loose {Γ : Env} (hf : Γ.get 111 = some kCd) {σ : AS} {dr : Bool} {l : List UInt8} {d : Option Nat} {K : AS → Prop} (h : l.length ≤ 1099511627776)
    (hk : cont σ d (.v (.int .i64 (lc l))) K) : kR Tryz.prog Γ dr σ 111 [.v (sv l)] d K :=
  kK (C := kCd) (i := ⟨l, h⟩) hf rfl rfl rfl rfl (fun _ h => h) rfl hk
theorem kFF : Rw.Good Tryz.prog 77 kA4 := by
  have hΓ : kL Tryz.prog [(110, kDK)] := (kE kE8 kJ)
  refine kS (nn := 33) hΓ Tryz.func77 (by kernel_rfl) rfl (show Tryz.f77.results.toList = [.tmp 2] from rfl) (fun _ => rfl) (fun _ => rfl) ?_
  rintro ⟨l, hl, htot, hc⟩
  simp only [aR,N0,N1,N2,N3,N4,N5,Z0,Z1,Z2,Z3,Z4,Z5,Z6,Z7,Z8,Z9,Z10,Zc,↓reduceIte,reduceCtorEq, kD]
  obtain ⟨St, hSt⟩ : ∃ St : { p : Int × Nat // p.2 ≤ l.length ∧ 0 ≤ p.1 ∧ p.1 ≤ 1099511627776 ∧ zY l = zX p.1 (l.drop p.2) } → AS, ∀ p, St p = AS.of 33 [(0, .sl 0 3 (kU l)), (3, .v (.int .i64 p.1.1)), (4, .v (.int .i64 p.1.2))] [] [] := ⟨_, fun _ => rfl⟩
  refine kX hΓ St (fun p => l.length - p.1.2) ⟨(0, 0), by omega, by omega, by omega, rfl⟩ (by rw [hSt]; refine kH [] [] ?_; simp only [aR,N0,N1,N2,N3,N4,N5,Z0,Z1,Z2,Z3,Z4,Z5,Z6,Z7,Z8,Z9,Z10,Zc,↓reduceIte,reduceCtorEq] <;> ((repeat' apply And.intro) <;> first | rfl | omega | trivial)) ?_
  rintro ⟨⟨n, i⟩, hi, hn1, hn2, hb⟩
  simp only at hi hn1 hn2 hb
  rw [hSt]
  simp only
  simp only [aR,N0,N1,N2,N3,N4,N5,Z0,Z1,Z2,Z3,Z4,Z5,Z6,Z7,Z8,Z9,Z10,Zc,↓reduceIte,reduceCtorEq, kD]
  (with_reducible first | refine kC (fun h => ?_) (fun h => ?_) | refine kF (fun h => ?_) (fun h => ?_))
  · have hlt : i < l.length := by omega
    have hcn := hc l[i] (List.getElem_mem hlt)
    have e1 := k9 l hlt
    rw [List.drop_eq_getElem_cons hlt] at hb
    simp only [zX] at hb
    generalize l[i] = c at *
    obtain ⟨k, m, t⟩ := c
    simp only at hcn hb e1
    have yes : (k = 1 ∨ k = 3) → zY l = zX (addI n (max m 0)) (l.drop (i + 1)) := fun h => by rw [hb, if_pos h]
    have no : ¬ (k = 1 ∨ k = 3) → zY l = zX n (l.drop (i + 1)) := fun h => by rw [hb, if_neg h]
    have hr := k8 hn1 (show 0 ≤ max m 0 by omega)
    simp (disch := omega) only [aR,N0,N1,N2,N3,N4,N5,Z0,Z1,Z2,Z3,Z4,Z5,Z6,Z7,Z8,Z9,Z10,Zc,↓reduceIte,reduceCtorEq, kA, h, e1, kD]
    (repeat (with_reducible refine And.intro ?_ ?_; focus (first | omega | exact kG | kernel_rfl)))
    (try ((with_reducible first | refine kC (fun q1 => ?_) (fun q1 => ?_) | refine kF (fun q1 => ?_) (fun q1 => ?_)) <;> simp (disch := omega) only [aR,N0,N1,N2,N3,N4,N5,Z0,Z1,Z2,Z3,Z4,Z5,Z6,Z7,Z8,Z9,Z10,Zc,↓reduceIte,reduceCtorEq, kA, q1, e1, kD] <;> (with_reducible first | (refine And.intro ?_ ?_; focus (first | omega | exact kG | kernel_rfl)); (repeat (with_reducible refine And.intro ?_ ?_; focus (first | omega | exact kG | kernel_rfl))); (try simp (disch := omega) only [aR,N0,N1,N2,N3,N4,N5,Z0,Z1,Z2,Z3,Z4,Z5,Z6,Z7,Z8,Z9,Z10,Zc,↓reduceIte,reduceCtorEq, kA, q1, e1, kD]) | skip) <;> (try ((with_reducible first | refine kC (fun q2 => ?_) (fun q2 => ?_) | refine kF (fun q2 => ?_) (fun q2 => ?_)) <;> simp (disch := omega) only [aR,N0,N1,N2,N3,N4,N5,Z0,Z1,Z2,Z3,Z4,Z5,Z6,Z7,Z8,Z9,Z10,Zc,↓reduceIte,reduceCtorEq, kA, q2, e1, kD] <;> (with_reducible first | (refine And.intro ?_ ?_; focus (first | omega | exact kG | kernel_rfl)); (repeat (with_reducible refine And.intro ?_ ?_; focus (first | omega | exact kG | kernel_rfl))); (try simp (disch := omega) only [aR,N0,N1,N2,N3,N4,N5,Z0,Z1,Z2,Z3,Z4,Z5,Z6,Z7,Z8,Z9,Z10,Zc,↓reduceIte,reduceCtorEq, kA, q2, e1, kD]) | skip) <;> skip))))
    all_goals first
      | (refine kAf (by simp [kB]) ⟨hn1, hn2⟩ hcn ?_
         simp (disch := omega) only [aR,N0,N1,N2,N3,N4,N5,Z0,Z1,Z2,Z3,Z4,Z5,Z6,Z7,Z8,Z9,Z10,Zc,↓reduceIte,reduceCtorEq, kA]
         refine kI ⟨(addI n (max m 0), i + 1), by omega, hr.1, hr.2, yes (by omega)⟩ (by simp only; omega) ?_
         rw [hSt]; refine kH [] [] ?_
         simp only [aR,N0,N1,N2,N3,N4,N5,Z0,Z1,Z2,Z3,Z4,Z5,Z6,Z7,Z8,Z9,Z10,Zc,↓reduceIte,reduceCtorEq] <;> ((repeat' apply And.intro) <;> first | rfl | omega | trivial))
      | (refine kI ⟨(n, i + 1), by omega, hn1, hn2, no (by omega)⟩ (by simp only; omega) ?_
         rw [hSt]; refine kH [] [] ?_
         simp only [aR,N0,N1,N2,N3,N4,N5,Z0,Z1,Z2,Z3,Z4,Z5,Z6,Z7,Z8,Z9,Z10,Zc,↓reduceIte,reduceCtorEq] <;> ((repeat' apply And.intro) <;> first | rfl | omega | trivial))
      | trace_state
  · simp only [aR,N0,N1,N2,N3,N4,N5,Z0,Z1,Z2,Z3,Z4,Z5,Z6,Z7,Z8,Z9,Z10,Zc,↓reduceIte,reduceCtorEq, h]
    rw [List.drop_of_length_le (by omega)] at hb
    rw [hb]; rfl
theorem kCw {Γ : Env} (hf : Γ.get 77 = some kA4) {σ : AS} {dr : Bool} {l : List Cp} {t : Nat} {ys : List AV} {d : Option Nat} {K : AS → Prop} (hy : ys = kU l) (h : okL l)
    (hk : cont σ d (.v (.int .i64 (zY l))) K) : kR Tryz.prog Γ dr σ 77 [.sl t 3 ys] d K := by
  subst hy
  exact kK (C := kA4) (i := ⟨l, h⟩) hf rfl rfl rfl rfl (fun _ h => h) rfl hk
theorem rout_good : Rw.Good Tryz.prog 83 kD8 := by
  have hΓ : kL Tryz.prog [(110, kDK), (111, kCd)] := (kE kE8 (kE loose_good kJ))
  refine kS (nn := 36) hΓ Tryz.func83 (by kernel_rfl) rfl (show Tryz.f83.results.toList = [.tmp 2] from rfl) (fun _ => rfl) (fun _ => rfl) ?_
  rintro ⟨l, hl, htot, hc⟩
  simp only [aR,N0,N1,N2,N3,N4,N5,Z0,Z1,Z2,Z3,Z4,Z5,Z6,Z7,Z8,Z9,Z10,Zc,↓reduceIte,reduceCtorEq, kD]
  obtain ⟨St, hSt⟩ : ∃ St : { p : Int × Nat // p.2 ≤ l.length ∧ 0 ≤ p.1 ∧ p.1 ≤ 1099511627776 ∧ outL l = outF p.1 (l.drop p.2) } → AS, ∀ p, St p = AS.of 36 [(0, .sl 0 3 (kU l)), (3, .v (.int .i64 p.1.1)), (4, .v (.int .i64 p.1.2))] [] [] := ⟨_, fun _ => rfl⟩
  refine kX hΓ St (fun p => l.length - p.1.2) ⟨(0, 0), by omega, by omega, by omega, rfl⟩ (by rw [hSt]; refine kH [] [] ?_; simp only [aR,N0,N1,N2,N3,N4,N5,Z0,Z1,Z2,Z3,Z4,Z5,Z6,Z7,Z8,Z9,Z10,Zc,↓reduceIte,reduceCtorEq] <;> ((repeat' apply And.intro) <;> first | rfl | omega | trivial)) ?_
  rintro ⟨⟨n, i⟩, hi, hn1, hn2, hb⟩
  simp only at hi hn1 hn2 hb
  rw [hSt]
  simp only
  simp only [aR,N0,N1,N2,N3,N4,N5,Z0,Z1,Z2,Z3,Z4,Z5,Z6,Z7,Z8,Z9,Z10,Zc,↓reduceIte,reduceCtorEq, kD]
  (with_reducible first | refine kC (fun h => ?_) (fun h => ?_) | refine kF (fun h => ?_) (fun h => ?_))
  · have hlt : i < l.length := by omega
    have hcn := hc l[i] (List.getElem_mem hlt)
    have hct := okL.text ⟨hl, htot, hc⟩ (List.getElem_mem hlt)
    have e1 := k9 l hlt
    rw [List.drop_eq_getElem_cons hlt] at hb
    simp only [outF] at hb
    generalize l[i] = c at *
    obtain ⟨k, m, t⟩ := c
    simp only at hcn hct hb e1
    have hl1 : k = 1 → outL l = outF (addI n (max m 0)) (l.drop (i + 1)) := fun h => by rw [hb, if_pos h]
    have hl2 : ¬ k = 1 → k = 2 → outL l = outF (addI n (lc t)) (l.drop (i + 1)) := fun h h2 => by rw [hb, if_neg h, if_pos h2]
    have hl3 : ¬ k = 1 → ¬ k = 2 → outL l = outF n (l.drop (i + 1)) := fun h h2 => by rw [hb, if_neg h, if_neg h2]
    have hr := k8 hn1 (show 0 ≤ max m 0 by omega)
    have hr2 := k8 hn1 (show 0 ≤ (lc t : Int) by omega)
    have hlt2 := kDY t
    simp (disch := omega) only [aR,N0,N1,N2,N3,N4,N5,Z0,Z1,Z2,Z3,Z4,Z5,Z6,Z7,Z8,Z9,Z10,Zc,↓reduceIte,reduceCtorEq, kA, h, e1, kD]
    (repeat (with_reducible refine And.intro ?_ ?_; focus (first | omega | exact kG | kernel_rfl)))
    (try ((with_reducible first | refine kC (fun q1 => ?_) (fun q1 => ?_) | refine kF (fun q1 => ?_) (fun q1 => ?_)) <;> simp (disch := omega) only [aR,N0,N1,N2,N3,N4,N5,Z0,Z1,Z2,Z3,Z4,Z5,Z6,Z7,Z8,Z9,Z10,Zc,↓reduceIte,reduceCtorEq, kA, q1, e1, kD] <;> (with_reducible first | (refine And.intro ?_ ?_; focus (first | omega | exact kG | kernel_rfl)); (repeat (with_reducible refine And.intro ?_ ?_; focus (first | omega | exact kG | kernel_rfl))); (try simp (disch := omega) only [aR,N0,N1,N2,N3,N4,N5,Z0,Z1,Z2,Z3,Z4,Z5,Z6,Z7,Z8,Z9,Z10,Zc,↓reduceIte,reduceCtorEq, kA, q1, e1, kD]) | skip) <;> (try ((with_reducible first | refine kC (fun q2 => ?_) (fun q2 => ?_) | refine kF (fun q2 => ?_) (fun q2 => ?_)) <;> simp (disch := omega) only [aR,N0,N1,N2,N3,N4,N5,Z0,Z1,Z2,Z3,Z4,Z5,Z6,Z7,Z8,Z9,Z10,Zc,↓reduceIte,reduceCtorEq, kA, q2, e1, kD] <;> (with_reducible first | (refine And.intro ?_ ?_; focus (first | omega | exact kG | kernel_rfl)); (repeat (with_reducible refine And.intro ?_ ?_; focus (first | omega | exact kG | kernel_rfl))); (try simp (disch := omega) only [aR,N0,N1,N2,N3,N4,N5,Z0,Z1,Z2,Z3,Z4,Z5,Z6,Z7,Z8,Z9,Z10,Zc,↓reduceIte,reduceCtorEq, kA, q2, e1, kD]) | skip) <;> skip))))
    all_goals first
      | (refine kAf (by simp [kB]) ⟨hn1, hn2⟩ hcn ?_
         simp (disch := omega) only [aR,N0,N1,N2,N3,N4,N5,Z0,Z1,Z2,Z3,Z4,Z5,Z6,Z7,Z8,Z9,Z10,Zc,↓reduceIte,reduceCtorEq, kA]
         refine kI ⟨(addI n (max m 0), i + 1), by omega, hr.1, hr.2, hl1 (by omega)⟩ (by simp only; omega) ?_
         rw [hSt]; refine kH [] [] ?_
         simp only [aR,N0,N1,N2,N3,N4,N5,Z0,Z1,Z2,Z3,Z4,Z5,Z6,Z7,Z8,Z9,Z10,Zc,↓reduceIte,reduceCtorEq] <;> ((repeat' apply And.intro) <;> first | rfl | omega | trivial))
      | (refine call_loose (by simp [kB]) hct ?_
         simp (disch := omega) only [aR,N0,N1,N2,N3,N4,N5,Z0,Z1,Z2,Z3,Z4,Z5,Z6,Z7,Z8,Z9,Z10,Zc,↓reduceIte,reduceCtorEq, kA]
         refine kAf (by simp [kB]) ⟨hn1, hn2⟩ (by omega) ?_
         simp (disch := omega) only [aR,N0,N1,N2,N3,N4,N5,Z0,Z1,Z2,Z3,Z4,Z5,Z6,Z7,Z8,Z9,Z10,Zc,↓reduceIte,reduceCtorEq, kA]
         refine kI ⟨(addI n (lc t), i + 1), by omega, hr2.1, hr2.2, hl2 (by omega) (by omega)⟩ (by simp only; omega) ?_
         rw [hSt]; refine kH [] [] ?_
         simp only [aR,N0,N1,N2,N3,N4,N5,Z0,Z1,Z2,Z3,Z4,Z5,Z6,Z7,Z8,Z9,Z10,Zc,↓reduceIte,reduceCtorEq, show max (lc t : Int) 0 = lc t by omega] <;> ((repeat' apply And.intro) <;> first | rfl | omega | trivial))
      | (refine kI ⟨(n, i + 1), by omega, hn1, hn2, hl3 (by omega) (by omega)⟩ (by simp only; omega) ?_
         rw [hSt]; refine kH [] [] ?_
         simp only [aR,N0,N1,N2,N3,N4,N5,Z0,Z1,Z2,Z3,Z4,Z5,Z6,Z7,Z8,Z9,Z10,Zc,↓reduceIte,reduceCtorEq] <;> ((repeat' apply And.intro) <;> first | rfl | omega | trivial))
      | trace_state
  · simp only [aR,N0,N1,N2,N3,N4,N5,Z0,Z1,Z2,Z3,Z4,Z5,Z6,Z7,Z8,Z9,Z10,Zc,↓reduceIte,reduceCtorEq, h]
    rw [List.drop_of_length_le (by omega)] at hb
    rw [hb]; rfl
theorem call_rout {Γ : Env} (hf : Γ.get 83 = some kD8) {σ : AS} {dr : Bool} {l : List Cp} {t : Nat} {ys : List AV} {d : Option Nat} {K : AS → Prop} (hy : ys = kU l) (h : okL l)
    (hk : cont σ d (.v (.int .i64 (outL l))) K) : kR Tryz.prog Γ dr σ 83 [.sl t 3 ys] d K := by
  subst hy
  exact kK (C := kD8) (i := ⟨l, h⟩) hf rfl rfl rfl rfl (fun _ h => h) rfl hk
end Go.Proofs
end
-- ZAp3
section
namespace Go.Proofs
open Go Go.Rw
open _root_.Nat renaming reduceAdd → N0, reduceSub → N1, reduceMul → N2, reduceLT → N3, reduceLeDiff → N4, reduceEqDiff → N5
open _root_.Int renaming reduceNeg → Z0, reduceAdd → Z1, reduceSub → Z2, reduceMul → Z3, reduceGT → Z4, reduceGE → Z5, reduceLT → Z6, reduceLE → Z7, reduceEq → Z8, reduceNe → Z9, reduceToNat → Z10, cast_ofNat_Int → Zc
set_option maxRecDepth 100000
theorem rnormal_good : Rw.Good Tryz.prog 82 j6 := by
  have hΓ : kL Tryz.prog [(34, kAE)] := (kE rvalid_good kJ)
  refine kS (nn := 70) hΓ Tryz.func82 (by kernel_rfl) rfl (show Tryz.f82.results.toList = [.tmp 2] from rfl) (fun _ => rfl) (fun _ => rfl) ?_
  rintro ⟨l, hl, htot, hc⟩
  simp only [aR,N0,N1,N2,N3,N4,N5,Z0,Z1,Z2,Z3,Z4,Z5,Z6,Z7,Z8,Z9,Z10,Zc,↓reduceIte,reduceCtorEq, kD]
  obtain ⟨St, hSt⟩ : ∃ St : { i : Nat // i ≤ l.length ∧ qL l = zP (ahead l i) (l.drop i) } → AS, ∀ i, St i = AS.of 70 [(0, .sl 0 3 (kU l)), (3, .v (.int .i64 i.1))] [] [] := ⟨_, fun _ => rfl⟩
  refine kX hΓ St (fun i => l.length - i.1) ⟨0, by omega, rfl⟩ (by rw [hSt]; refine kH [] [] ?_; simp only [aR,N0,N1,N2,N3,N4,N5,Z0,Z1,Z2,Z3,Z4,Z5,Z6,Z7,Z8,Z9,Z10,Zc,↓reduceIte,reduceCtorEq] <;> ((repeat' apply And.intro) <;> first | rfl | omega | trivial)) ?_
  rintro ⟨i, hi, hb⟩
  rw [hSt]
  simp only
  simp only [aR,N0,N1,N2,N3,N4,N5,Z0,Z1,Z2,Z3,Z4,Z5,Z6,Z7,Z8,Z9,Z10,Zc,↓reduceIte,reduceCtorEq, kD]
  (with_reducible first | refine kC (fun h => ?_) (fun h => ?_) | refine kF (fun h => ?_) (fun h => ?_))
  · have hlt : i < l.length := by omega
    have hci := okL.text ⟨hl, htot, hc⟩ (List.getElem_mem hlt)
    have e1 := k9 l hlt
    rw [List.drop_eq_getElem_cons hlt] at hb
    simp only [zP] at hb
    have hne : ahead l (i + 1) = some l[i] := by simp [ahead, hlt]
    rw [← hne] at hb
    have again : ∀ σ : AS, Weak σ (AS.of 70 [(0, .sl 0 3 (kU l)), (3, .v (.int .i64 (i + 1 : Nat)))] [] []) → qL l = zP (ahead l (i + 1)) (l.drop (i + 1)) → ∃ y : { i : Nat // i ≤ l.length ∧ qL l = zP (ahead l i) (l.drop i) }, l.length - y.1 < l.length - i ∧ Weak σ (St y) := fun σ hw hb2 =>
      ⟨⟨i + 1, by omega, hb2⟩, by simp only; omega, by rw [hSt]; exact hw⟩
    by_cases h0 : i = 0
    · have hp : ahead l i = none := by simp [ahead, h0]
      rw [hp] at hb
      simp only [Bool.and_true] at hb
      have no : qE l[i] = false ∨ False → qL l = false := fun h => by
        rcases h with h | h
        · rw [hb, h]; rfl
        · exact h.elim
      have yes : qE l[i] = true → qL l = zP (ahead l (i + 1)) (l.drop (i + 1)) := fun h => by rw [hb, h]; rfl
      generalize l[i] = c at *
      obtain ⟨k, n, t⟩ := c
      simp only at *
      have hz : ¬ (i : Int) > 0 := by omega
      have hi3 : 0 ≤ (i : Int) := by omega
      by_cases k13 : k = 1 ∨ k = 3
      · rcases k13 with rfl | rfl
        all_goals
          by_cases n1 : n < 1
          · have n2 : ¬ n > 0 := by omega
            simp (disch := omega) only [aR,N0,N1,N2,N3,N4,N5,Z0,Z1,Z2,Z3,Z4,Z5,Z6,Z7,Z8,Z9,Z10,Zc,↓reduceIte,reduceCtorEq, kA, h, e1, kD, hz, hi3, n1, no (.inl (by simp [qE, n2]))]
          · have n2 : n > 0 := by omega
            by_cases t0 : t = []
            · subst t0
              simp (disch := omega) only [aR,N0,N1,N2,N3,N4,N5,Z0,Z1,Z2,Z3,Z4,Z5,Z6,Z7,Z8,Z9,Z10,Zc,↓reduceIte,reduceCtorEq, kA, h, e1, kD, hz, hi3, n1]
              (repeat (with_reducible refine And.intro ?_ ?_; focus (first | omega | exact kG | kernel_rfl)))
              refine again _ ?_ (yes (by simp [qE, n2]))
              refine kH [] [] ?_
              simp only [aR,N0,N1,N2,N3,N4,N5,Z0,Z1,Z2,Z3,Z4,Z5,Z6,Z7,Z8,Z9,Z10,Zc,↓reduceIte,reduceCtorEq] <;> ((repeat' apply And.intro) <;> first | rfl | omega | trivial)
            · simp (disch := omega) only [aR,N0,N1,N2,N3,N4,N5,Z0,Z1,Z2,Z3,Z4,Z5,Z6,Z7,Z8,Z9,Z10,Zc,↓reduceIte,reduceCtorEq, kA, h, e1, kD, hz, hi3, n1, t0, no (.inl (by simp [qE, t0]))]
      · have k1 : ¬ k = 1 := by omega
        have k3 : ¬ k = 3 := by omega
        by_cases k2 : k = 2
        · subst k2
          by_cases n0 : n = 0
          · subst n0
            by_cases t0 : t = []
            · subst t0
              simp (disch := omega) only [aR,N0,N1,N2,N3,N4,N5,Z0,Z1,Z2,Z3,Z4,Z5,Z6,Z7,Z8,Z9,Z10,Zc,↓reduceIte,reduceCtorEq, kA, h, e1, kD, hz, hi3, no (.inl (by simp [qE]))]
            · simp (disch := omega) only [aR,N0,N1,N2,N3,N4,N5,Z0,Z1,Z2,Z3,Z4,Z5,Z6,Z7,Z8,Z9,Z10,Zc,↓reduceIte,reduceCtorEq, kA, h, e1, kD, hz, hi3, t0]
              refine kDv (by simp [kB]) hci ?_
              cases hv : (pts t).isSome with
              | false => simp (disch := omega) only [aR,N0,N1,N2,N3,N4,N5,Z0,Z1,Z2,Z3,Z4,Z5,Z6,Z7,Z8,Z9,Z10,Zc,↓reduceIte,reduceCtorEq, kA, h, e1, kD, hz, hi3, hv, no (.inl (by simp [qE, hv]))]
              | true =>
                simp (disch := omega) only [aR,N0,N1,N2,N3,N4,N5,Z0,Z1,Z2,Z3,Z4,Z5,Z6,Z7,Z8,Z9,Z10,Zc,↓reduceIte,reduceCtorEq, kA, h, e1, kD, hz, hi3, hv]
                (repeat (with_reducible refine And.intro ?_ ?_; focus (first | omega | exact kG | kernel_rfl)))
                refine again _ ?_ (yes (by simp [qE, hv, t0]))
                refine kH [] [] ?_
                simp only [aR,N0,N1,N2,N3,N4,N5,Z0,Z1,Z2,Z3,Z4,Z5,Z6,Z7,Z8,Z9,Z10,Zc,↓reduceIte,reduceCtorEq] <;> ((repeat' apply And.intro) <;> first | rfl | omega | trivial)
          · simp (disch := omega) only [aR,N0,N1,N2,N3,N4,N5,Z0,Z1,Z2,Z3,Z4,Z5,Z6,Z7,Z8,Z9,Z10,Zc,↓reduceIte,reduceCtorEq, kA, h, e1, kD, hz, hi3, n0, no (.inl (by simp [qE, n0]))]
        · simp (disch := omega) only [aR,N0,N1,N2,N3,N4,N5,Z0,Z1,Z2,Z3,Z4,Z5,Z6,Z7,Z8,Z9,Z10,Zc,↓reduceIte,reduceCtorEq, kA, h, e1, kD, hz, hi3, k1, k2, k3, no (.inl (by simp [qE, k1, k2, k3]))]
    · have hp : ahead l i = some l[i - 1] := by simp [ahead, h0]
      have e2 : (kU l).getD (i - 1) .any = .agg [.v (.int .i64 l[i - 1].k), .v (.int .i64 l[i - 1].n), .v (sv l[i - 1].t)] := k9 l (by omega)
      have e3 : ((i : Int) - 1).toNat = i - 1 := by omega
      rw [hp] at hb
      simp only at hb
      have no : qE l[i] = false ∨ follows l[i - 1] l[i] = false → qL l = false := fun h => by
        rcases h with h | h
        · rw [hb, h]; rfl
        · rw [hb, h]; simp
      have yes : qE l[i] = true → follows l[i - 1] l[i] = true → qL l = zP (ahead l (i + 1)) (l.drop (i + 1)) := fun h h2 => by rw [hb, h, h2]; rfl
      generalize l[i - 1] = pc at *
      generalize l[i] = c at *
      obtain ⟨k, n, t⟩ := c
      obtain ⟨pk0, pn, pt⟩ := pc
      simp only at *
      have hz : (i : Int) > 0 := by omega
      have hi3 : 0 ≤ (i : Int) := by omega
      have hi4 : 0 ≤ (i : Int) - 1 ∧ (i : Int) - 1 < l.length := by omega
      by_cases k13 : k = 1 ∨ k = 3
      · rcases k13 with rfl | rfl
        all_goals
          by_cases n1 : n < 1
          · have n2 : ¬ n > 0 := by omega
            simp (disch := omega) only [aR,N0,N1,N2,N3,N4,N5,Z0,Z1,Z2,Z3,Z4,Z5,Z6,Z7,Z8,Z9,Z10,Zc,↓reduceIte,reduceCtorEq, kA, h, e1, e2, e3, kD, hz, hi3, hi4, n1, no (.inl (by simp [qE, n2]))]
          · have n2 : n > 0 := by omega
            by_cases t0 : t = []
            · subst t0
              first
                | (by_cases pk : pk0 = 1
                   · simp (disch := omega) only [aR,N0,N1,N2,N3,N4,N5,Z0,Z1,Z2,Z3,Z4,Z5,Z6,Z7,Z8,Z9,Z10,Zc,↓reduceIte,reduceCtorEq, kA, h, e1, e2, e3, kD, hz, hi3, hi4, n1, pk, no (.inr (by simp [follows, pk]; done))]
                     all_goals exact ⟨kG, by kernel_rfl⟩
                   · simp (disch := omega) only [aR,N0,N1,N2,N3,N4,N5,Z0,Z1,Z2,Z3,Z4,Z5,Z6,Z7,Z8,Z9,Z10,Zc,↓reduceIte,reduceCtorEq, kA, h, e1, e2, e3, kD, hz, hi3, hi4, n1, pk]
                     (repeat (with_reducible refine And.intro ?_ ?_; focus (first | omega | exact kG | kernel_rfl)))
                     refine again _ ?_ (yes (by simp [qE, n2]) (by simp [follows, pk]; done))
                     refine kH [] [] ?_
                     simp only [aR,N0,N1,N2,N3,N4,N5,Z0,Z1,Z2,Z3,Z4,Z5,Z6,Z7,Z8,Z9,Z10,Zc,↓reduceIte,reduceCtorEq] <;> ((repeat' apply And.intro) <;> first | rfl | omega | trivial))
                | (by_cases pk : pk0 = 3
                   · simp (disch := omega) only [aR,N0,N1,N2,N3,N4,N5,Z0,Z1,Z2,Z3,Z4,Z5,Z6,Z7,Z8,Z9,Z10,Zc,↓reduceIte,reduceCtorEq, kA, h, e1, e2, e3, kD, hz, hi3, hi4, n1, pk, no (.inr (by simp [follows, pk]; done))]
                     all_goals exact ⟨kG, by kernel_rfl⟩
                   · simp (disch := omega) only [aR,N0,N1,N2,N3,N4,N5,Z0,Z1,Z2,Z3,Z4,Z5,Z6,Z7,Z8,Z9,Z10,Zc,↓reduceIte,reduceCtorEq, kA, h, e1, e2, e3, kD, hz, hi3, hi4, n1, pk]
                     (repeat (with_reducible refine And.intro ?_ ?_; focus (first | omega | exact kG | kernel_rfl)))
                     refine again _ ?_ (yes (by simp [qE, n2]) (by simp [follows, pk]; done))
                     refine kH [] [] ?_
                     simp only [aR,N0,N1,N2,N3,N4,N5,Z0,Z1,Z2,Z3,Z4,Z5,Z6,Z7,Z8,Z9,Z10,Zc,↓reduceIte,reduceCtorEq] <;> ((repeat' apply And.intro) <;> first | rfl | omega | trivial))
            · simp (disch := omega) only [aR,N0,N1,N2,N3,N4,N5,Z0,Z1,Z2,Z3,Z4,Z5,Z6,Z7,Z8,Z9,Z10,Zc,↓reduceIte,reduceCtorEq, kA, h, e1, e2, e3, kD, hz, hi3, hi4, n1, t0, no (.inl (by simp [qE, t0]))]
      · have k1 : ¬ k = 1 := by omega
        have k3 : ¬ k = 3 := by omega
        by_cases k2 : k = 2
        · subst k2
          by_cases n0 : n = 0
          · subst n0
            by_cases t0 : t = []
            · subst t0
              simp (disch := omega) only [aR,N0,N1,N2,N3,N4,N5,Z0,Z1,Z2,Z3,Z4,Z5,Z6,Z7,Z8,Z9,Z10,Zc,↓reduceIte,reduceCtorEq, kA, h, e1, e2, e3, kD, hz, hi3, hi4, no (.inl (by simp [qE]))]
            · simp (disch := omega) only [aR,N0,N1,N2,N3,N4,N5,Z0,Z1,Z2,Z3,Z4,Z5,Z6,Z7,Z8,Z9,Z10,Zc,↓reduceIte,reduceCtorEq, kA, h, e1, e2, e3, kD, hz, hi3, hi4, t0]
              refine kDv (by simp [kB]) hci ?_
              cases hv : (pts t).isSome with
              | false => simp (disch := omega) only [aR,N0,N1,N2,N3,N4,N5,Z0,Z1,Z2,Z3,Z4,Z5,Z6,Z7,Z8,Z9,Z10,Zc,↓reduceIte,reduceCtorEq, kA, h, e1, e2, e3, kD, hz, hi3, hi4, hv, no (.inl (by simp [qE, hv]))]
              | true =>
                by_cases pk : pk0 = 3
                · simp (disch := omega) only [aR,N0,N1,N2,N3,N4,N5,Z0,Z1,Z2,Z3,Z4,Z5,Z6,Z7,Z8,Z9,Z10,Zc,↓reduceIte,reduceCtorEq, kA, h, e1, e2, e3, kD, hz, hi3, hi4, hv, pk, no (.inr (by simp [follows, pk]))]
                  all_goals exact ⟨kG, by kernel_rfl⟩
                · by_cases pl : pk0 = 2
                  · simp (disch := omega) only [aR,N0,N1,N2,N3,N4,N5,Z0,Z1,Z2,Z3,Z4,Z5,Z6,Z7,Z8,Z9,Z10,Zc,↓reduceIte,reduceCtorEq, kA, h, e1, e2, e3, kD, hz, hi3, hi4, hv, pl, no (.inr (by simp [follows, pl]))]
                    all_goals exact ⟨kG, by kernel_rfl⟩
                  · simp (disch := omega) only [aR,N0,N1,N2,N3,N4,N5,Z0,Z1,Z2,Z3,Z4,Z5,Z6,Z7,Z8,Z9,Z10,Zc,↓reduceIte,reduceCtorEq, kA, h, e1, e2, e3, kD, hz, hi3, hi4, hv, pk, pl]
                    (repeat (with_reducible refine And.intro ?_ ?_; focus (first | omega | exact kG | kernel_rfl)))
                    refine again _ ?_ (yes (by simp [qE, hv, t0]) (by simp [follows, pk, pl]))
                    refine kH [] [] ?_
                    simp only [aR,N0,N1,N2,N3,N4,N5,Z0,Z1,Z2,Z3,Z4,Z5,Z6,Z7,Z8,Z9,Z10,Zc,↓reduceIte,reduceCtorEq] <;> ((repeat' apply And.intro) <;> first | rfl | omega | trivial)
          · simp (disch := omega) only [aR,N0,N1,N2,N3,N4,N5,Z0,Z1,Z2,Z3,Z4,Z5,Z6,Z7,Z8,Z9,Z10,Zc,↓reduceIte,reduceCtorEq, kA, h, e1, e2, e3, kD, hz, hi3, hi4, n0, no (.inl (by simp [qE, n0]))]
        · simp (disch := omega) only [aR,N0,N1,N2,N3,N4,N5,Z0,Z1,Z2,Z3,Z4,Z5,Z6,Z7,Z8,Z9,Z10,Zc,↓reduceIte,reduceCtorEq, kA, h, e1, e2, e3, kD, hz, hi3, hi4, k1, k2, k3, no (.inl (by simp [qE, k1, k2, k3]))]
  · simp only [aR,N0,N1,N2,N3,N4,N5,Z0,Z1,Z2,Z3,Z4,Z5,Z6,Z7,Z8,Z9,Z10,Zc,↓reduceIte,reduceCtorEq, h]
    rw [List.drop_of_length_le (by omega)] at hb
    rw [hb]; rfl
end Go.Proofs
end
-- ZAp4
section
namespace Go.Proofs
open Go Go.Rw
open _root_.Nat renaming reduceAdd → N0, reduceSub → N1, reduceMul → N2, reduceLT → N3, reduceLeDiff → N4, reduceEqDiff → N5
open _root_.Int renaming reduceNeg → Z0, reduceAdd → Z1, reduceSub → Z2, reduceMul → Z3, reduceGT → Z4, reduceGE → Z5, reduceLT → Z6, reduceLE → Z7, reduceEq → Z8, reduceNe → Z9, reduceToNat → Z10, cast_ofNat_Int → Zc
set_option maxRecDepth 100000
theorem call_rnormal {Γ : Env} (hf : Γ.get 82 = some j6) {σ : AS} {dr : Bool} {l : List Cp} {t : Nat} {ys : List AV} {d : Option Nat} {K : AS → Prop} (hy : ys = kU l) (h : okL l)
    (hk : cont σ d (.v (.bool (qL l))) K) : kR Tryz.prog Γ dr σ 82 [.sl t 3 ys] d K := by
  subst hy
  exact kK (C := j6) (i := ⟨l, h⟩) hf rfl rfl rfl rfl (fun _ h => h) rfl hk
theorem kET : Rw.Good Tryz.prog 58 jX := by
  have hΓ : kL Tryz.prog [(82, j6), (77, kA4), (83, kD8)] := (kE rnormal_good (kE kFF (kE rout_good kJ)))
  refine kS (nn := 20) hΓ Tryz.func58 (by kernel_rfl) rfl (show Tryz.f58.results.toList = [.tmp 2] from rfl) (fun _ => rfl) (fun _ => rfl) ?_
  rintro ⟨l, hl⟩
  simp only [aR,N0,N1,N2,N3,N4,N5,Z0,Z1,Z2,Z3,Z4,Z5,Z6,Z7,Z8,Z9,Z10,Zc,↓reduceIte,reduceCtorEq, kD]
  have c1 : 100 < (l.length : Int) → qI l = 3 := fun h => by rw [qI, if_pos (by omega)]
  have c2 : ¬ 100 < (l.length : Int) → qL l = false → qI l = 1 := fun h h2 => by rw [qI, if_neg (by omega), if_pos h2]
  have c3 : ¬ 100 < (l.length : Int) → qL l = true → (zY l > 2000 ∨ outL l > 2000) → qI l = 3 := fun h h2 h3 => by rw [qI, if_neg (by omega), if_neg (by rw [h2]; decide), if_pos h3]
  have c4 : ¬ 100 < (l.length : Int) → qL l = true → ¬ (zY l > 2000 ∨ outL l > 2000) → qI l = 0 := fun h h2 h3 => by rw [qI, if_neg (by omega), if_neg (by rw [h2]; decide), if_neg h3]
  (with_reducible first | refine kC (fun h => ?_) (fun h => ?_) | refine kF (fun h => ?_) (fun h => ?_))
  · simp only [aR,N0,N1,N2,N3,N4,N5,Z0,Z1,Z2,Z3,Z4,Z5,Z6,Z7,Z8,Z9,Z10,Zc,↓reduceIte,reduceCtorEq, h, c1 (by omega)]
  · simp only [aR,N0,N1,N2,N3,N4,N5,Z0,Z1,Z2,Z3,Z4,Z5,Z6,Z7,Z8,Z9,Z10,Zc,↓reduceIte,reduceCtorEq, h]
    refine call_rnormal (by simp [kB]) rfl hl ?_
    cases hn : qL l with
    | false => simp only [aR,N0,N1,N2,N3,N4,N5,Z0,Z1,Z2,Z3,Z4,Z5,Z6,Z7,Z8,Z9,Z10,Zc,↓reduceIte,reduceCtorEq, hn, c2 (by omega) hn]
    | true =>
      simp only [aR,N0,N1,N2,N3,N4,N5,Z0,Z1,Z2,Z3,Z4,Z5,Z6,Z7,Z8,Z9,Z10,Zc,↓reduceIte,reduceCtorEq, hn]
      refine kCw (by simp [kB]) rfl hl ?_
      simp only [aR,N0,N1,N2,N3,N4,N5,Z0,Z1,Z2,Z3,Z4,Z5,Z6,Z7,Z8,Z9,Z10,Zc,↓reduceIte,reduceCtorEq]
      by_cases h1 : zY l > 2000
      · simp only [aR,N0,N1,N2,N3,N4,N5,Z0,Z1,Z2,Z3,Z4,Z5,Z6,Z7,Z8,Z9,Z10,Zc,↓reduceIte,reduceCtorEq, h1, c3 (by omega) hn (.inl (by omega))]
      · simp only [aR,N0,N1,N2,N3,N4,N5,Z0,Z1,Z2,Z3,Z4,Z5,Z6,Z7,Z8,Z9,Z10,Zc,↓reduceIte,reduceCtorEq, h1]
        refine call_rout (by simp [kB]) rfl hl ?_
        simp only [aR,N0,N1,N2,N3,N4,N5,Z0,Z1,Z2,Z3,Z4,Z5,Z6,Z7,Z8,Z9,Z10,Zc,↓reduceIte,reduceCtorEq]
        by_cases h2 : outL l > 2000
        · simp only [aR,N0,N1,N2,N3,N4,N5,Z0,Z1,Z2,Z3,Z4,Z5,Z6,Z7,Z8,Z9,Z10,Zc,↓reduceIte,reduceCtorEq, h2, c3 (by omega) hn (.inr (by omega))]
        · simp only [aR,N0,N1,N2,N3,N4,N5,Z0,Z1,Z2,Z3,Z4,Z5,Z6,Z7,Z8,Z9,Z10,Zc,↓reduceIte,reduceCtorEq, h2, c4 (by omega) hn (by omega)]
theorem kBz {Γ : Env} (hf : Γ.get 58 = some jX) {σ : AS} {dr : Bool} {l : List Cp} {t : Nat} {ys : List AV} {d : Option Nat} {K : AS → Prop} (hy : ys = kU l) (h : okL l)
    (hk : cont σ d (.v (.int .i64 (qI l))) K) : kR Tryz.prog Γ dr σ 58 [.sl t 3 ys] d K := by
  subst hy
  exact kK (C := jX) (i := ⟨l, h⟩) hf rfl rfl rfl rfl (fun _ h => h) rfl hk
end Go.Proofs
end
