/-
  RebaseMeets: what two kDG of one file come to. Plain. RebaseRow answers true.
-/
import Derived.Test.YtmhpninemdmbkaaGreatDoorXZUk3
import Derived.Test.YtmhpninemdmbkaaGreatDoorXZUn4
import Derived.Test.YtmhpninemdmbkaaGreatDoorXZAx5
import Derived.Test.YtmhpninemdmbkaaGreatDoorXZUo12
import Derived.Test.YtmhpninemdmbkaaGreatDoorXZUe7
import Derived.Test.YtmhpninemdmbkaaGreatDoorXZUk11
import Derived.Test.YtmhpninemdmbkaaGreatDoorXZAw0
import Derived.Test.YtmhpninemdmbkaaGreatDoorXZAw8
set_option linter.unusedSimpArgs false
set_option linter.unusedVariables false
set_option linter.defProp false

-- ZUk6
section
namespace Go.Proofs
open Go Go.Rw
set_option maxRecDepth 100000
set_option linter.unusedSimpArgs false
set_option linter.unusedVariables false

def edA (l : List Cp) : Ac := ⟨4, 1, 0, [], false, l⟩
def fN (s : List UInt8) : Nd := ⟨1, 0, [102], false, s⟩
theorem one_ed (l : List Cp) : oneI (edA l) = kX l := by
  have hb : badA (edA l) = false := by
    rw [bad_rest (a := edA l) (by simp [edA]) (by simp [edA]) rfl]
    simp [edA]
  rw [one_ok hb]; rfl
theorem txn_ed (l : List Cp) : txnE [edA l] = if kX l ≠ 0 then kX l else if (putC l : Int) > 2000 then 3 else 0 := by
  have hc : zZ [] [edA l] = kX l := by
    rw [zZ, one_ed]
    split
    · rfl
    · rename_i h
      rw [if_neg (by simp [kBh]), zZ]
      simpa using (Decidable.not_not.1 h).symm
  unfold txnE
  rw [if_neg (by simp), hc]
  have : putS [edA l] = putC l := by simp [putS, edA]
  rw [this]
theorem put_out : ∀ (l : List Cp) (m : Int), 0 ≤ m → outF m l ≤ 2000 → m + putC l ≤ outF m l
  | [], m, _, _ => by simp [putC, outF]
  | c :: r, m, hm, h => by
    rw [outF] at h ⊢
    have hstep : 0 ≤ (if c.k = 1 then addI m (max c.n 0) else if c.k = 2 then addI m (lc c.t) else m) := by
      split
      · unfold addI; omega
      · split
        · unfold addI; omega
        · exact hm
    have ih := put_out r _ hstep h
    rw [putC]
    by_cases h1 : c.k = 1
    · simp only [h1, if_true] at ih h ⊢
      rw [if_neg (by decide)]
      have h3 : addI m (max c.n 0) ≤ 2000 := by omega
      unfold addI at h3 ih ⊢; omega
    · simp only [h1, if_false] at ih h ⊢
      by_cases h2 : c.k = 2
      · simp only [h2, if_true] at ih h ⊢
        have h3 : addI m (lc c.t) ≤ 2000 := by omega
        unfold addI at h3 ih ⊢; omega
      · simp only [h2, if_false] at ih h ⊢
        omega
theorem txn_ed0 {l : List Cp} (h : kX l = 0) : txnE [edA l] = 0 := by
  have h1 := (zB h).2.2.2.2.2
  have h2 := put_out l 0 (by omega) (by simpa [outL] using h1)
  rw [txn_ed, if_neg (by rw [h]; simp), if_neg]
  simp only [outL] at h1
  omega
theorem txn_ed1 {l : List Cp} (h : ¬ kX l = 0) : txnE [edA l] = kX l := by rw [txn_ed, if_pos h]
theorem doN_ed (s : List UInt8) (l : List Cp) : doN [fN s] (edA l) = if errI s l ≠ 0 then ([fN s], errI s l) else if (totN [fN (zQ s l)] : Int) > 10000 then ([fN s], 4) else ([fN (zQ s l)], 0) := by
  rfl
theorem do_ed {s : List UInt8} {l : List Cp} (h : errI s l = 0) : doN [fN s] (edA l) = ([fN (zQ s l)], 0) := by
  obtain ⟨h1, h2, _⟩ := kDL h
  have h3 := (zB (kAQ h).1).2.2.2.2.2
  have ht : totN [fN (zQ s l)] = (doL (cpts s) l).length := by
    show cnt (zQ s l) + 0 = _
    rw [cnt_pts h1]; rfl
  rw [doN_ed, if_neg (by rw [h]; simp), if_neg (by rw [ht]; omega)]
theorem all_ed {s : List UInt8} {l : List Cp} (h : errI s l = 0) : allN [fN s] [edA l] = ⟨[fN (zQ s l)], 1, 0⟩ := by
  have hc := (kAQ h).1
  rw [allN, if_neg (by rw [txn_ed0 hc]; simp), allF, do_ed h]
  simp [allF]
theorem all_ed_e {s : List UInt8} {l : List Cp} (h : ¬ errI s l = 0) : (allN [fN s] [edA l]).e = errI s l := by
  by_cases hc : kX l = 0
  · rw [allN, if_neg (by rw [txn_ed0 hc]; simp), allF, doN_ed, if_pos h]
    simp only
    rw [if_pos h]
  · have e : errI s l = kX l := by unfold errI; rw [if_neg hc]
    rw [allN, txn_ed1 hc, if_pos hc, e]
theorem why_ed (a b : List Cp) : whyI (edA b) [⟨1, a, true, false, false, false, 0, []⟩] = 0 := by
  have h1 : getO 1 [⟨1, a, true, false, false, false, 0, []⟩] = ⟨1, a, true, false, false, false, 0, []⟩ := rfl
  have h2 : getO 0 [⟨1, a, true, false, false, false, 0, []⟩] = zeroO := rfl
  simp only [whyI, edA, h1, h2, kAy, whyL]
  simp
/-- The later edit, behind the first one. -/
def jE (a b : List Cp) : List Cp := if a = [] then b else ovN false b a
theorem norm_big {l : List Cp} (h : qH l = true) : kX l = 0 ∨ kX l = 3 := by
  unfold kX
  split
  · exact .inr rfl
  · rw [if_neg (by rw [h]; simp)]
    split
    · exact .inr rfl
    · exact .inl rfl
theorem reb_ed {s : List UInt8} {a b : List Cp} (e1 : errI s a = 0) (e2 : errI s b = 0) (oa : okL a) (ob : okL b) :
    (kX (jE a b) = 0 ∨ kX (jE a b) = 3) ∧ okL (jE a b) ∧
    rebR [edA b] [⟨1, a, true, false, false, false, 0, []⟩] = if kX (jE a b) = 0 then ⟨[edA (jE a b)], [⟨1, if a = [] then [] else ovN true a b, true, false, false, false, 0, []⟩], 0⟩ else ⟨[], [⟨1, a, true, false, false, false, 0, []⟩], 3⟩ := by
  obtain ⟨a1, a2, a3, a4⟩ := kAQ e1
  obtain ⟨b1, b2, b3, b4⟩ := kAQ e2
  have he := ovE_of a1 b1 (by omega)
  have he2 := ovE_comm he
  have hk : (kX (jE a b) = 0 ∨ kX (jE a b) = 3) ∧ okL (jE a b) := by
    unfold jE
    split
    · exact ⟨.inl b1, ob⟩
    · exact ⟨norm_big (kCL false he2 ob oa).2.2.1, (kCL false he2 ob oa).2.2.2⟩
  refine ⟨hk.1, hk.2, ?_⟩
  have hg : getO 1 [⟨1, a, true, false, false, false, 0, []⟩] = ⟨1, a, true, false, false, false, 0, []⟩ := rfl
  have hed : kAq (edA b) ⟨1, a, true, false, false, false, 0, []⟩ = (edA (jE a b), 0) := by
    unfold kAq jE
    by_cases h : a = []
    · rw [if_pos (.inr h), if_pos h]
    · rw [if_neg (by simp [h]), if_neg h, if_pos (by exact he2)]; rfl
  have hf : rebF [⟨1, a, true, false, false, false, 0, []⟩] [] [edA b] = ([edA (jE a b)], 0) := by
    rw [rebF, if_neg (by rw [why_ed]; simp), show (edA b).id = 1 from rfl, hg, if_neg (by simp [dropB, edA])]
    have h4 : (edA b).k = 4 := rfl
    simp only [h4, if_true, hed]
    rw [if_neg (by simp), rebF]
    rfl
  rw [rebR, if_neg (by rw [txn_ed0 b1]; simp), hf]
  simp only
  rw [if_neg (by simp)]
  by_cases hc : kX (jE a b) = 0
  · rw [if_neg (by rw [txn_ed0 hc]; simp), if_pos hc]
    have ho : kAp ⟨1, a, true, false, false, false, 0, []⟩ [edA b] = ⟨1, if a = [] then [] else ovN true a b, true, false, false, false, 0, []⟩ := by
      rw [kAp, kAp]
      by_cases h : a = []
      · rw [if_neg (by simp [h]), if_pos h, h]
      · rw [if_pos ⟨rfl, rfl, h⟩, if_neg h, behL, show (edA b).ops = b from rfl, if_pos he]
    simp only [List.map_cons, List.map_nil, ho]
  · have h3 : kX (jE a b) = 3 := by rcases hk.1 with h | h; exact absurd h hc; exact h
    rw [if_pos (by rw [txn_ed1 hc]; exact hc), txn_ed1 hc, if_neg hc, h3]
theorem nil_text {s : List UInt8} (h : errI s [] = 0) : s = [] := by
  obtain ⟨_, h2, h3, _⟩ := kAQ h
  have : (cpts s).length = 0 := by simpa [zH, zX] using h3
  have e := (zV h2).2
  rw [e, List.eq_nil_of_length_eq_zero this]; rfl
theorem later_do {s : List UInt8} {a b : List Cp} (e1 : errI s a = 0) (e2 : errI s b = 0) (oa : okL a) (ob : okL b) (hc : kX (jE a b) = 0) : errI (zQ s a) (jE a b) = 0 := by
  unfold jE at hc ⊢
  by_cases h : a = []
  · subst h
    rw [if_pos rfl]
    have hs := nil_text e1
    subst hs
    have : zQ [] [] = [] := by
      have := (kDL e1).1
      unfold zQ; rw [if_pos e1]; rfl
    rw [this]; exact e2
  · rw [if_neg h] at hc ⊢
    exact (do_over e2 e1 ob oa hc).2.1
end Go.Proofs
end

-- ZUk12
section
namespace Go.Proofs
open Go Go.Rw
open _root_.Nat renaming reduceAdd → N0, reduceSub → N1, reduceMul → N2, reduceLT → N3, reduceLeDiff → N4, reduceEqDiff → N5
open _root_.Int renaming reduceNeg → Z0, reduceAdd → Z1, reduceSub → Z2, reduceMul → Z3, reduceGT → Z4, reduceGE → Z5, reduceLT → Z6, reduceLE → Z7, reduceEq → Z8, reduceNe → Z9, reduceToNat → Z10, cast_ofNat_Int → Zc
set_option maxRecDepth 100000
set_option linter.unusedSimpArgs false
set_option linter.unusedVariables false

/-- Commits that each edit the file as it then is. -/
def kEH : List UInt8 → List Cm → List UInt8 → Prop
  | s, [], u => u = s
  | s, c :: r, u => ∃ a, c.acs = [edA a] ∧ okL a ∧ errI s a = 0 ∧ kEH (zQ s a) r u
theorem kE7 {c : Cm} {a : List Cp} (h1 : c.acs = [edA a]) (h2 : okL a) : ∀ (cs : List Cm) (s u : List UInt8), kEH s cs u → errI u a = 0 → kEH s (cs ++ [c]) (zQ u a)
  | [], s, u, h, he => by
    rw [kEH] at h
    subst h
    exact ⟨a, h1, h2, he, rfl⟩
  | d :: r, s, u, h, he => by
    obtain ⟨b, g1, g2, g3, g4⟩ := h
    exact ⟨b, g1, g2, g3, kE7 h1 h2 r _ u g4 he⟩
theorem chain_beh : ∀ (cs : List Cm) (s u : List UInt8) (m : List Cp), kEH s cs u → okL m → errI s m = 0 →
    (∃ m', okL m' ∧ behB [edA m] cs = ([edA m'], 0) ∧ errI u m' = 0) ∨ behB [edA m] cs = ([], 3)
  | [], s, u, m, h, om, he => by
    rw [kEH] at h
    subst h
    exact .inl ⟨m, om, rfl, he⟩
  | c :: r, s, u, m, h, om, he => by
    obtain ⟨a, g1, g2, g3, g4⟩ := h
    obtain ⟨k1, k2, k3⟩ := reb_ed g3 he g2 om
    have e0 : effL c.acs = [⟨1, a, true, false, false, false, 0, []⟩] := by rw [g1]; exact eff_one 1 a
    by_cases hc : kX (jE a m) = 0
    · rw [if_pos hc] at k3
      have hl := later_do g3 he g2 om hc
      have e1 : behB [edA m] (c :: r) = behB [edA (jE a m)] r := by rw [behB, e0, k3]; simp
      rw [e1]
      exact chain_beh r _ u _ g4 k2 hl
    · rw [if_neg hc] at k3
      right
      rw [behB, e0, k3]; simp
theorem beh_app : ∀ (cs ds : List Cm) (l : List Ac), behB l (cs ++ ds) = if (behB l cs).2 ≠ 0 then ([], (behB l cs).2) else behB (behB l cs).1 ds
  | [], ds, l => by simp [behB]
  | c :: r, ds, l => by
    rw [List.cons_append, behB, behB]
    by_cases h : (rebR l (effL c.acs)).e = 0
    · have e : ¬ (rebR l (effL c.acs)).e ≠ 0 := by simpa using h
      simp only [if_neg e]
      exact beh_app r ds _
    · simp only [if_pos h]
theorem beh_pre {cs : List Cm} {l : List Ac} (h : (behB l cs).2 = 0) (i : Nat) : (behB l (cs.take i)).2 = 0 := by
  rw [← List.take_append_drop i cs, beh_app] at h
  by_cases g : (behB l (cs.take i)).2 = 0
  · exact g
  · rw [if_pos g] at h; exact absurd h g
theorem beh_step {cs : List Cm} {l : List Ac} (h : (behB l cs).2 = 0) {i : Nat} (hi : i < cs.length) : behB (behB l (cs.take i)).1 [cs[i]] = behB l (cs.take (i + 1)) := by
  rw [List.take_succ_eq_append_getElem hi, beh_app, if_neg (by rw [beh_pre h]; simp)]
theorem beh_ok : ∀ (cs : List Cm) (l : List Ac), l.length ≤ 1000000 → (∀ a ∈ l, okA a) → (∀ c ∈ cs, okCm c) → (behB l cs).1.length ≤ 1000000 ∧ ∀ a ∈ (behB l cs).1, okA a
  | [], l, h1, h2, _ => ⟨h1, h2⟩
  | c :: r, l, h1, h2, h3 => by
    rw [behB]
    split
    · exact ⟨by simp, by simp⟩
    · obtain ⟨g1, g2⟩ := rebR_ok h1 h2 (bys := effL c.acs) fun z hz => eff_ok (fun w hw => ((h3 c (List.mem_cons_self ..)).2 w hw).1) hz
      exact beh_ok r _ g1 g2 fun d hd => h3 d (List.mem_cons_of_mem _ hd)
theorem call_rbeh {Γ : Env} (hf : Γ.get 24 = some rbehCon) {n : Nat} {t : Nat → AV} {hd : Nat → Nat → AV} {nh nl : Nat} {h : Nat → Option AO} {fm : Nat → Nat} {lv : Nat → Option (Nat × Nat)} {mu : Bool} {l : List Ac} {cs : List Cm} {xs ys : List AV} {t1 t2 : Nat} {d : Option Nat} {K : AS → Prop} (hx : xs = acts l) (hy : ys = cms cs) (hl : l.length ≤ 1000000) (ho : ∀ a ∈ l, okA a) (hc : cs.length ≤ 1099511627776) (hco : ∀ c ∈ cs, okCm c) (h1 : t1 = 0 ∨ 2 ≤ t1) (h2 : t2 = 0 ∨ 2 ≤ t2)
    (hk : cont ⟨n, t, hd, ⟨nh, h, nl, fm, kill fm ((if t1 = 0 then [] else [t1]) ++ (if t2 = 0 then [] else [t2])) lv, mu⟩⟩ d (.tup [.sl 0 6 (acts (behB l cs).1), .v (.int .i64 (behB l cs).2)]) K) : kP Tryz.prog Γ false ⟨n, t, hd, ⟨nh, h, nl, fm, lv, mu⟩⟩ 24 [.sl t1 6 xs, .sl t2 4 ys] d K := by
  subst hx hy
  refine kAE (C := rbehCon) (i := (⟨l, hl, ho⟩, ⟨cs, hc, hco⟩)) hf rfl rfl rfl (by simp [AV.erL, AV.er, zN, cms_er]) (ts := (if t1 = 0 then [] else [t1]) ++ (if t2 = 0 then [] else [t2])) ?_ ?_
  · have c : ∀ t : Nat, (t = 0 ∨ 2 ≤ t) → (if 2 ≤ t then [t] else []) = (if t = 0 then [] else [t]) := fun t ht => by
      rcases ht with rfl | ht
      · rfl
      · rw [if_pos ht, if_neg (by omega)]
    rw [← c t1 h1, ← c t2 h2]
    simp [AV.tagsL, AV.tags]
  · rintro r rfl
    simp only [AV.er, AV.erL, zN]
    exact hk
theorem part_cms {l : List Cm} {i j : Nat} (hj : j ≤ l.length) : kAf 0 4 (cms l) i j = .sl 0 4 (cms ((l.drop i).take (j - i))) := by
  unfold kAf
  simp only [kBF]
  split
  · rename_i h
    obtain ⟨rfl, h2⟩ := h
    rw [List.drop_zero, Nat.sub_zero, List.take_of_length_le (by omega)]
  · simp [cms, List.map_take, List.map_drop]
abbrev row16Con : Con where
  ι := I64 × GivenE × Given
  args := fun p => [.v (.int .i64 p.1.1), .sl 0 1 (kDG p.2.1.1), .sl 0 3 (kN p.2.2.1)]
  post := fun _ r => r = .v (.bool true)
  plain := true
theorem kBJ {l : List Cp} (h : okL l) : ∀ x ∈ [edA l], okA x := okA1 h (by simp [edA])
theorem okT1b {s : List UInt8} (h : s.length ≤ 1099511627776) : okT [fN s] := ⟨by simp, fun y hy => by rw [List.mem_singleton.1 hy]; exact h⟩
set_option maxHeartbeats 4000000 in
theorem row16_good : Rw.Good Tryz.prog 6 row16Con := by
  have hΓ : kL Tryz.prog [(11, trueCon), (18, kDO), (19, kDQ), (12, kDM), (24, rbehCon), (16, kDR)] := (kD awake16_good (kD weigh_good (kD block_good (kD rdoall_good (kD rbeh_good (kD sacts_good kJ))))))
  refine kR (nn := 148) hΓ Tryz.func6 (by kernel_rfl) rfl (show Tryz.f6.results.toList = [.tmp 6] from rfl) (fun _ => rfl) (fun x => by simp [AV.erL, AV.er]) ?_
  rintro ⟨⟨n, hn⟩, ⟨l, hl, hlc⟩, ⟨b, hb, hcb⟩⟩
  simp only [aR,N0,N1,N2,N3,N4,N5,Z0,Z1,Z2,Z3,Z4,Z5,Z6,Z7,Z8,Z9,Z10,Zc,↓reduceIte,reduceCtorEq, jX]
  by_cases h0 : n < 0
  · simp only [aR,N0,N1,N2,N3,N4,N5,Z0,Z1,Z2,Z3,Z4,Z5,Z6,Z7,Z8,Z9,Z10,Zc,↓reduceIte,reduceCtorEq, jX, h0]
    refine qZ (by simp [kC]) ?_
    simp only [aR,N0,N1,N2,N3,N4,N5,Z0,Z1,Z2,Z3,Z4,Z5,Z6,Z7,Z8,Z9,Z10,Zc,↓reduceIte,reduceCtorEq]
  by_cases h1 : n > 150
  · simp only [aR,N0,N1,N2,N3,N4,N5,Z0,Z1,Z2,Z3,Z4,Z5,Z6,Z7,Z8,Z9,Z10,Zc,↓reduceIte,reduceCtorEq, jX, h0, h1]
    refine qZ (by simp [kC]) ?_
    simp only [aR,N0,N1,N2,N3,N4,N5,Z0,Z1,Z2,Z3,Z4,Z5,Z6,Z7,Z8,Z9,Z10,Zc,↓reduceIte,reduceCtorEq]
  by_cases h2 : (l.length : Int) > 6
  · simp only [aR,N0,N1,N2,N3,N4,N5,Z0,Z1,Z2,Z3,Z4,Z5,Z6,Z7,Z8,Z9,Z10,Zc,↓reduceIte,reduceCtorEq, jX, h0, h1, h2]
    refine qZ (by simp [kC]) ?_
    simp only [aR,N0,N1,N2,N3,N4,N5,Z0,Z1,Z2,Z3,Z4,Z5,Z6,Z7,Z8,Z9,Z10,Zc,↓reduceIte,reduceCtorEq]
  simp only [aR,N0,N1,N2,N3,N4,N5,Z0,Z1,Z2,Z3,Z4,Z5,Z6,Z7,Z8,Z9,Z10,Zc,↓reduceIte,reduceCtorEq, jX, h0, h1, h2]
  refine kEa (by simp [kC]) rfl hb (fun c h => (hcb c h).2) (by omega) ?_
  by_cases h3 : kAM 600 0 b > 600
  · simp only [aR,N0,N1,N2,N3,N4,N5,Z0,Z1,Z2,Z3,Z4,Z5,Z6,Z7,Z8,Z9,Z10,Zc,↓reduceIte,reduceCtorEq, h3]
    refine qZ (by simp [kC]) ?_
    simp only [aR,N0,N1,N2,N3,N4,N5,Z0,Z1,Z2,Z3,Z4,Z5,Z6,Z7,Z8,Z9,Z10,Zc,↓reduceIte,reduceCtorEq]
  obtain ⟨ob, hwb⟩ := weigh_ok (by omega) hcb (show kAM 600 0 b ≤ 600 by omega)
  simp only [aR,N0,N1,N2,N3,N4,N5,Z0,Z1,Z2,Z3,Z4,Z5,Z6,Z7,Z8,Z9,Z10,Zc,↓reduceIte,reduceCtorEq, h3]
  refine call_block (by simp [kC]) (by omega) (by omega) ?_
  obtain ⟨s, hs, hsl⟩ : ∃ s, blk 3 n.toNat = s ∧ s.length ≤ 200 := ⟨_, rfl, by rw [blk_len]; omega⟩
  rw [hs]
  clear hs
  simp only [aR,N0,N1,N2,N3,N4,N5,Z0,Z1,Z2,Z3,Z4,Z5,Z6,Z7,Z8,Z9,Z10,Zc,↓reduceIte,reduceCtorEq, List.map_cons, List.map_nil]
  refine kC6 (by simp [kC]) (x := [fN s]) (l := [edA b]) rfl rfl (okT1b (by omega)) (by simp) (kBJ ob) (by omega) (by omega) ?_
  by_cases e1 : errI s b = 0
  case neg =>
    have k1 := all_ed_e e1
    simp only [aR,N0,N1,N2,N3,N4,N5,Z0,Z1,Z2,Z3,Z4,Z5,Z6,Z7,Z8,Z9,Z10,Zc,↓reduceIte,reduceCtorEq, k1, e1]
    refine qZ (by simp [kC]) ?_
    simp only [aR,N0,N1,N2,N3,N4,N5,Z0,Z1,Z2,Z3,Z4,Z5,Z6,Z7,Z8,Z9,Z10,Zc,↓reduceIte,reduceCtorEq]
  rw [all_ed e1]
  simp only [aR,N0,N1,N2,N3,N4,N5,Z0,Z1,Z2,Z3,Z4,Z5,Z6,Z7,Z8,Z9,Z10,Zc,↓reduceIte,reduceCtorEq, jX]
  obtain ⟨St, hSt⟩ : ∃ St : { p : List UInt8 × List Cm × Nat // p.2.2 ≤ l.length ∧ p.2.1.length ≤ p.2.2 ∧ p.1.length ≤ 8000 ∧ kEH s p.2.1 p.1 ∧ ∀ c ∈ p.2.1, okCm c } → AS, ∀ p, St p = AS.of 148 [(0, .v (.int .i64 n)), (1, .sl 0 1 (kDG l)), (2, .sl 0 3 (kN b)), (7, .sl 0 5 (qI [fN p.1.1])), (11, .sl 2 4 (cms p.1.2.1)), (12, .v (.int .i64 p.1.2.2))] [] [(p.1.2.1.length, 70)] := ⟨_, fun _ => rfl⟩
  refine kZ hΓ St (fun p => l.length - p.1.2.2) ⟨(s, [], 0), by simp, by simp, by simp only; omega, rfl, by simp⟩ (by rw [hSt]; refine kH [] [.nil 4] ?_; simp only [aR,N0,N1,N2,N3,N4,N5,Z0,Z1,Z2,Z3,Z4,Z5,Z6,Z7,Z8,Z9,Z10,Zc,↓reduceIte,reduceCtorEq, cms_nil, List.length_nil, qI, nA, fN, List.map_cons, List.map_nil] <;> ((repeat' apply And.intro) <;> first | rfl | omega | trivial)) ?_
  rintro ⟨⟨u, c, i⟩, hi, hci, hu, hch, hcm⟩
  simp only at hi hci hu hch hcm
  rw [hSt]
  simp only
  simp only [aR,N0,N1,N2,N3,N4,N5,Z0,Z1,Z2,Z3,Z4,Z5,Z6,Z7,Z8,Z9,Z10,Zc,↓reduceIte,reduceCtorEq, jX]
  (with_reducible first | refine kB (fun h4 => ?_) (fun h4 => ?_) | refine kE (fun h4 => ?_) (fun h4 => ?_))
  · have hlt : i < l.length := by omega
    have f1 := edits_getD l hlt
    have hgi := hlc _ (List.getElem_mem hlt)
    generalize l[i] = a at *
    obtain ⟨ha, hca⟩ := hgi
    simp only [aR,N0,N1,N2,N3,N4,N5,Z0,Z1,Z2,Z3,Z4,Z5,Z6,Z7,Z8,Z9,Z10,Zc,↓reduceIte,reduceCtorEq, h4, f1, jX, List.map_cons, List.map_nil]
    (repeat (with_reducible refine And.intro ?_ ?_; focus (first | omega | exact kG | kernel_rfl)))
    refine kEa (by simp [kC]) rfl ha (fun c h => (hca c h).2) (by omega) ?_
    by_cases h5 : kAM 600 0 a > 600
    · simp only [aR,N0,N1,N2,N3,N4,N5,Z0,Z1,Z2,Z3,Z4,Z5,Z6,Z7,Z8,Z9,Z10,Zc,↓reduceIte,reduceCtorEq, h5]
      refine qZ (by simp [kC]) ?_
      simp only [aR,N0,N1,N2,N3,N4,N5,Z0,Z1,Z2,Z3,Z4,Z5,Z6,Z7,Z8,Z9,Z10,Zc,↓reduceIte,reduceCtorEq]
    obtain ⟨oa, hwa⟩ := weigh_ok (by omega) hca (show kAM 600 0 a ≤ 600 by omega)
    simp only [aR,N0,N1,N2,N3,N4,N5,Z0,Z1,Z2,Z3,Z4,Z5,Z6,Z7,Z8,Z9,Z10,Zc,↓reduceIte,reduceCtorEq, h5]
    refine kC6 (by simp [kC]) (x := [fN u]) (l := [edA a]) rfl rfl (okT1b (by omega)) (by simp) (kBJ oa) (by omega) (by omega) ?_
    by_cases e2 : errI u a = 0
    case neg =>
      have k1 := all_ed_e e2
      simp only [aR,N0,N1,N2,N3,N4,N5,Z0,Z1,Z2,Z3,Z4,Z5,Z6,Z7,Z8,Z9,Z10,Zc,↓reduceIte,reduceCtorEq, k1, e2, kA (n := (i : Int) + 1) (by omega) (by omega)]
      refine kI ⟨(u, c, i + 1), by simp only; omega, by simp only; omega, hu, hch, hcm⟩ (by simp only; omega) ?_
      rw [hSt]; refine kH [] [.live 2] ?_
      simp only [aR,N0,N1,N2,N3,N4,N5,Z0,Z1,Z2,Z3,Z4,Z5,Z6,Z7,Z8,Z9,Z10,Zc,↓reduceIte,reduceCtorEq] <;> ((repeat' apply And.intro) <;> first | rfl | omega | trivial)
    rw [all_ed e2]
    have da := kC3 u a
    have hch2 := kE7 (c := ⟨i, 1, 1, [edA a]⟩) rfl oa c s u hch e2
    have hcm2 : ∀ d ∈ c ++ [⟨i, 1, 1, [edA a]⟩], okCm d := fun d hd => by
      rcases List.mem_append.1 hd with hd | hd
      · exact hcm d hd
      · rw [List.mem_singleton.1 hd]; exact ⟨by simp, kBJ oa⟩
    have e3 : cms (c ++ [⟨i, 1, 1, [⟨4, 1, 0, [], false, a⟩]⟩]) = cms c ++ [cmA ⟨i, 1, 1, [⟨4, 1, 0, [], false, a⟩]⟩] := by simp [cms]
    simp only [aR,N0,N1,N2,N3,N4,N5,Z0,Z1,Z2,Z3,Z4,Z5,Z6,Z7,Z8,Z9,Z10,Zc,↓reduceIte,reduceCtorEq, kBF, List.map_cons, List.map_nil, kA (n := (i : Int) + 1) (by omega) (by omega)]
    (repeat (with_reducible refine And.intro ?_ ?_; focus (first | omega | exact kG | kernel_rfl)))
    refine kI ⟨(zQ u a, c ++ [⟨i, 1, 1, [edA a]⟩], i + 1), by simp only; omega, by simp; omega, da, hch2, hcm2⟩ (by simp only; omega) ?_
    rw [hSt]; refine kH [] [.live 2] ?_
    simp only [aR,N0,N1,N2,N3,N4,N5,Z0,Z1,Z2,Z3,Z4,Z5,Z6,Z7,Z8,Z9,Z10,Zc,↓reduceIte,reduceCtorEq, e3, cmA, acts, aA, edA, List.map_cons, List.map_nil, kBF, List.length_append, List.length_cons, List.length_nil] <;> ((repeat' apply And.intro) <;> first | rfl | omega | trivial)
  · simp only [aR,N0,N1,N2,N3,N4,N5,Z0,Z1,Z2,Z3,Z4,Z5,Z6,Z7,Z8,Z9,Z10,Zc,↓reduceIte,reduceCtorEq, h4, List.map_cons, List.map_nil]
    refine call_rbeh (by simp [kC]) (l := [edA b]) rfl rfl (by simp) (kBJ ob) (by omega) hcm (by omega) (by omega) ?_
    rcases chain_beh c s u b hch ob e1 with ⟨m, om, hm, em⟩ | hm
    case inr =>
      rw [hm]
      simp only [aR,N0,N1,N2,N3,N4,N5,Z0,Z1,Z2,Z3,Z4,Z5,Z6,Z7,Z8,Z9,Z10,Zc,↓reduceIte,reduceCtorEq]
      refine qZ (by simp [kC]) ?_
      simp only [aR,N0,N1,N2,N3,N4,N5,Z0,Z1,Z2,Z3,Z4,Z5,Z6,Z7,Z8,Z9,Z10,Zc,↓reduceIte,reduceCtorEq]
    rw [hm]
    simp only [aR,N0,N1,N2,N3,N4,N5,Z0,Z1,Z2,Z3,Z4,Z5,Z6,Z7,Z8,Z9,Z10,Zc,↓reduceIte,reduceCtorEq, List.map_cons, List.map_nil]
    have hm2 : (behB [edA b] c).2 = 0 := by rw [hm]
    obtain ⟨St, hSt⟩ : ∃ St : { k : Nat // k ≤ c.length } → AS, ∀ k, St k = AS.of 148 [(7, .sl 0 5 (qI [fN u])), (11, .sl 0 4 (cms c)), (17, .sl 0 6 (acts [edA m])), (19, .sl 0 6 (acts (behB [edA b] (c.take k.1)).1)), (20, .v (.int .i64 k.1))] [] [] := ⟨_, fun _ => rfl⟩
    refine kZ hΓ St (fun k => c.length - k.1) ⟨0, by omega⟩ (by rw [hSt]; refine kH [] [] ?_; simp only [aR,N0,N1,N2,N3,N4,N5,Z0,Z1,Z2,Z3,Z4,Z5,Z6,Z7,Z8,Z9,Z10,Zc,↓reduceIte,reduceCtorEq, List.take_zero, behB, acts, aA, edA, List.map_cons, List.map_nil] <;> ((repeat' apply And.intro) <;> first | rfl | omega | trivial)) ?_
    rintro ⟨k, hk⟩
    rw [hSt]
    simp only
    simp only [aR,N0,N1,N2,N3,N4,N5,Z0,Z1,Z2,Z3,Z4,Z5,Z6,Z7,Z8,Z9,Z10,Zc,↓reduceIte,reduceCtorEq, kBF]
    (with_reducible first | refine kB (fun h6 => ?_) (fun h6 => ?_) | refine kE (fun h6 => ?_) (fun h6 => ?_))
    · have hkc : k < c.length := by omega
      have p1 : kAf 0 4 (cms c) k (k + 1) = .sl 0 4 (cms [c[k]]) := by
        rw [part_cms (by omega), show k + 1 - k = 1 by omega, List.drop_eq_getElem_cons hkc]; rfl
      have hst := beh_step hm2 hkc
      have hpre := beh_pre hm2 (k + 1)
      obtain ⟨g1, g2⟩ := beh_ok (c.take k) [edA b] (by simp) (kBJ ob) fun d hd => hcm d (List.mem_of_mem_take hd)
      have hck := hcm _ (List.getElem_mem hkc)
      generalize c[k] = d at *
      simp only [aR,N0,N1,N2,N3,N4,N5,Z0,Z1,Z2,Z3,Z4,Z5,Z6,Z7,Z8,Z9,Z10,Zc,↓reduceIte,reduceCtorEq, h6, p1, kBF, kA (n := (k : Int) + 1) (by omega) (by omega), show ((k : Int) + 1).toNat = k + 1 by omega]
      (repeat (with_reducible refine And.intro ?_ ?_; focus (first | omega | exact kG | kernel_rfl)))
      refine call_rbeh (by simp [kC]) rfl rfl g1 g2 (by simp) (fun x hx => by rw [List.mem_singleton.1 hx]; exact hck) (by omega) (by omega) ?_
      rw [hst]
      simp only [aR,N0,N1,N2,N3,N4,N5,Z0,Z1,Z2,Z3,Z4,Z5,Z6,Z7,Z8,Z9,Z10,Zc,↓reduceIte,reduceCtorEq, hpre, kA (n := (k : Int) + 1) (by omega) (by omega)]
      refine kI ⟨k + 1, by omega⟩ (by simp only; omega) ?_
      rw [hSt]; refine kH [] [] ?_
      simp only [aR,N0,N1,N2,N3,N4,N5,Z0,Z1,Z2,Z3,Z4,Z5,Z6,Z7,Z8,Z9,Z10,Zc,↓reduceIte,reduceCtorEq] <;> ((repeat' apply And.intro) <;> first | rfl | omega | trivial)
    · simp only [aR,N0,N1,N2,N3,N4,N5,Z0,Z1,Z2,Z3,Z4,Z5,Z6,Z7,Z8,Z9,Z10,Zc,↓reduceIte,reduceCtorEq, h6]
      refine kC6 (by simp [kC]) (x := [fN u]) (l := [edA m]) rfl rfl (okT1b (by omega)) (by simp) (kBJ om) (by omega) (by omega) ?_
      rw [all_ed em, show k = c.length by omega, List.take_length, hm]
      simp only [aR,N0,N1,N2,N3,N4,N5,Z0,Z1,Z2,Z3,Z4,Z5,Z6,Z7,Z8,Z9,Z10,Zc,↓reduceIte,reduceCtorEq]
      refine call_sacts (by simp [kC]) rfl rfl (by simp) (fun z hz => (kBJ om z hz).1) (by simp) (fun z hz => (kBJ om z hz).1) ?_
      simp only [aR,N0,N1,N2,N3,N4,N5,Z0,Z1,Z2,Z3,Z4,Z5,Z6,Z7,Z8,Z9,Z10,Zc,↓reduceIte,reduceCtorEq]
      refine qZ (by simp [kC]) ?_
      simp only [aR,N0,N1,N2,N3,N4,N5,Z0,Z1,Z2,Z3,Z4,Z5,Z6,Z7,Z8,Z9,Z10,Zc,↓reduceIte,reduceCtorEq]
end Go.Proofs
end
