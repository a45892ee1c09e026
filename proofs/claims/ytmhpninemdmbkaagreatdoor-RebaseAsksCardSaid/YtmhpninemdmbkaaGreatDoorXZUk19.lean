/-
  What the acts did, the document's way. Plain. The document's Effects.
-/
import Derived.Test.YtmhpninemdmbkaaGreatDoorXZUk8
import Derived.Test.YtmhpninemdmbkaaGreatDoorXZUk9t
import Derived.Test.YtmhpninemdmbkaaGreatDoorXZUe11
set_option linter.unusedSimpArgs false
set_option linter.unusedVariables false
set_option linter.defProp false

-- ZUk19
section
namespace Go.Proofs
open Go Go.Rw
set_option maxRecDepth 100000
theorem bk_facts (x : Int) (l : List Int) : ∀ n, n ≤ l.length → (∀ j, bkI x l n ≤ j → (h : j < n) → (hl : j < l.length) → x < l[j]) ∧ (bkI x l n = 0 ∨ l.getD (bkI x l n - 1) 0 ≤ x)
  | 0, _ => ⟨fun j _ h _ => by omega, .inl rfl⟩
  | n + 1, hn => by
    obtain ⟨h1, h2⟩ := bk_facts x l n (by omega)
    rw [bkI]
    have hg : l.getD n 0 = l[n] := by rw [List.getD_eq_getElem?_getD, List.getElem?_eq_getElem (by omega)]; rfl
    split
    · rename_i h
      refine ⟨fun j hj hj2 hl => ?_, h2⟩
      by_cases e : j = n
      · subst e; rw [hg] at h; omega
      · exact h1 j hj (by omega) hl
    · rename_i h
      refine ⟨fun j hj hj2 hl => by omega, .inr ?_⟩
      rw [Nat.add_sub_cancel]; omega
theorem ins_sorted {l : List Int} {x : Int} (h : l.Pairwise (· < ·)) : (insI l x).Pairwise (· < ·) := by
  obtain ⟨h1, h2⟩ := bk_facts x l l.length (Nat.le_refl _)
  have hb := bkI_le x l l.length
  unfold insI
  generalize bkI x l l.length = p at *
  split
  · exact h
  · rename_i hc
    have hp : ∀ y ∈ l.take p, y < x := fun y hy => by
      obtain ⟨j, hj, rfl⟩ := List.getElem_of_mem hy
      rw [List.length_take] at hj
      rw [List.getElem_take]
      have hpp : 0 < p := by omega
      have hg : l.getD (p - 1) 0 = l[p - 1] := by rw [List.getD_eq_getElem?_getD, List.getElem?_eq_getElem (by omega)]; rfl
      rw [hg] at hc h2
      have hlt : l[p - 1] < x := by
        rcases h2 with h2 | h2
        · omega
        · have : ¬ l[p - 1] = x := fun e => hc ⟨hpp, e⟩
          omega
      by_cases e : j = p - 1
      · subst e; exact hlt
      · have := List.pairwise_iff_getElem.1 h j (p - 1) (by omega) (by omega) (by omega)
        omega
    have hq : ∀ y ∈ l.drop p, x < y := fun y hy => by
      obtain ⟨j, hj, rfl⟩ := List.getElem_of_mem hy
      rw [List.length_drop] at hj
      rw [List.getElem_drop]
      exact h1 (p + j) (by omega) (by omega) (by omega)
    have e : l = l.take p ++ l.drop p := (List.take_append_drop p l).symm
    rw [e, List.pairwise_append] at h
    obtain ⟨g1, g2, g3⟩ := h
    refine List.pairwise_append.2 ⟨g1, List.pairwise_cons.2 ⟨hq, g2⟩, fun a ha b hb => ?_⟩
    rcases List.mem_cons.1 hb with rfl | hb
    · exact hp a ha
    · have := hp a ha; have := hq b hb; omega
theorem kEn : ∀ (xs out : List Int), out.Pairwise (· < ·) → (xs.foldl insI out).Pairwise (· < ·)
  | [], out, h => h
  | x :: xs, out, h => kEn xs _ (ins_sorted h)
theorem srtO_ext : ∀ {l m : List On}, (l.Pairwise fun a b => a.id < b.id) → (m.Pairwise fun a b => a.id < b.id) → (∀ x, x ∈ l ↔ x ∈ m) → l = m
  | [], [], _, _, _ => rfl
  | [], y :: m, _, _, h => by have := (h y).2 (List.mem_cons_self ..); cases this
  | x :: l, [], _, _, h => by have := (h x).1 (List.mem_cons_self ..); cases this
  | x :: l, y :: m, hl, hm, h => by
    obtain ⟨h1, h2⟩ := List.pairwise_cons.1 hl
    obtain ⟨g1, g2⟩ := List.pairwise_cons.1 hm
    have e : x = y := by
      rcases List.mem_cons.1 ((h x).1 (List.mem_cons_self ..)) with e | e
      · exact e
      · rcases List.mem_cons.1 ((h y).2 (List.mem_cons_self ..)) with e2 | e2
        · exact e2.symm
        · have := g1 _ e; have := h1 _ e2; omega
    subst e
    rw [srtO_ext h2 g2 fun z => ?_]
    constructor
    · intro hz
      rcases List.mem_cons.1 ((h z).1 (List.mem_cons_of_mem _ hz)) with e | e
      · subst e; have := h1 _ hz; omega
      · exact e
    · intro hz
      rcases List.mem_cons.1 ((h z).2 (List.mem_cons_of_mem _ hz)) with e | e
      · subst e; have := g1 _ hz; omega
      · exact e
def idsI (l : List Ac) : List Int := (l.map Ac.id).foldl insI []
def atO (l : List Ac) (i : Int) : On := (l.filter fun a => decide (a.id = i)).foldl addA (newO i)
theorem fold_id : ∀ (m : List Ac) (x : On), (m.foldl addA x).id = x.id
  | [], x => rfl
  | a :: m, x => by rw [List.foldl_cons, fold_id m, kDB]
theorem eff_ref (l : List Ac) : (idsI l).map (atO l) = effL l := by
  have hid : ∀ i, (atO l i).id = i := fun i => fold_id _ _
  refine srtO_ext ?_ (eff_sorted l) fun x => ?_
  · rw [List.pairwise_map]
    exact (kEn _ [] List.Pairwise.nil).imp fun h => by rw [hid, hid]; exact h
  · have hone : ∀ y ∈ effL l, y = atO l y.id := fun y hy => by
      have := effS_cur l [] (by simp) y ((List.mergeSort_perm _ leO).mem_iff.1 hy)
      exact this
    rw [List.mem_map]
    constructor
    · rintro ⟨i, hi, rfl⟩
      rw [idsI, kEB] at hi
      rcases hi with hi | hi
      · cases hi
      · obtain ⟨y, hy, e⟩ := List.mem_map.1 ((kEe l i).2 hi)
        have h2 := hone y hy
        rw [e] at h2
        rw [← h2]; exact hy
    · intro hx
      refine ⟨x.id, ?_, (hone x hx).symm⟩
      rw [idsI, kEB]
      exact .inr ((kEe l x.id).1 (List.mem_map.2 ⟨x, hx, rfl⟩))
theorem idsI_len (l : List Ac) : (idsI l).length ≤ l.length := by
  have := foldI_len (l.map Ac.id) []
  rw [List.length_map, List.length_nil] at this
  rw [idsI]; omega
end Go.Proofs
end
-- ZUk20
section
namespace Go.Proofs
open Go Go.Rw
open _root_.Nat renaming reduceAdd → N0, reduceSub → N1, reduceMul → N2, reduceLT → N3, reduceLeDiff → N4, reduceEqDiff → N5
open _root_.Int renaming reduceNeg → Z0, reduceAdd → Z1, reduceSub → Z2, reduceMul → Z3, reduceGT → Z4, reduceGE → Z5, reduceLT → Z6, reduceLE → Z7, reduceEq → Z8, reduceNe → Z9, reduceToNat → Z10, cast_ofNat_Int → Zc
set_option maxRecDepth 100000
set_option maxHeartbeats 4000000 in
theorem reff_good : Rw.Good Tryz.prog 55 kBI := by
  have hΓ : kL Tryz.prog [] := kJ
  refine kS (nn := 147) hΓ Tryz.func55 (by kernel_rfl) rfl (show Tryz.f55.results.toList = [.tmp 2] from rfl) (fun _ => rfl) (fun x => by simp [AV.erL, AV.er, qF]) ?_
  rintro ⟨l, hl, ho⟩
  simp only [aR,N0,N1,N2,N3,N4,N5,Z0,Z1,Z2,Z3,Z4,Z5,Z6,Z7,Z8,Z9,Z10,Zc,↓reduceIte,reduceCtorEq, kM]
  obtain ⟨St, hSt⟩ : ∃ St : { p : List Int × Nat // p.2 ≤ l.length ∧ ((l.drop p.2).map Ac.id).foldl insI p.1 = idsI l ∧ p.1.length ≤ p.2 } → AS, ∀ p, St p = AS.of 147 [(0, .sl 0 6 (acts l)), (3, .sl 0 1 (ints .i64 p.1.1)), (4, .v (.int .i64 p.1.2))] [] [] := ⟨_, fun _ => rfl⟩
  refine kCc [(9, [2010], [])] hΓ St (fun p => l.length - p.1.2) ⟨([], 0), by simp, rfl, by simp⟩ (by rw [hSt]; refine kH [] [] ?_; simp only [aR,N0,N1,N2,N3,N4,N5,Z0,Z1,Z2,Z3,Z4,Z5,Z6,Z7,Z8,Z9,Z10,Zc,↓reduceIte,reduceCtorEq, ints, List.map_nil] <;> ((repeat' apply And.intro) <;> first | rfl | omega | trivial)) ?_
  rintro ⟨⟨o2, i⟩, hi, hg, hl2⟩
  simp only at hi hg hl2
  rw [hSt]
  simp only
  simp only [aR,N0,N1,N2,N3,N4,N5,Z0,Z1,Z2,Z3,Z4,Z5,Z6,Z7,Z8,Z9,Z10,Zc,↓reduceIte,reduceCtorEq, kP, kM]
  (with_reducible first | refine kC (fun h => ?_) (fun h => ?_) | refine kF (fun h => ?_) (fun h => ?_))
  · have hlt : i < l.length := by omega
    have e1 := qV l hlt
    rw [List.drop_eq_getElem_cons hlt, List.map_cons, List.foldl_cons] at hg
    generalize l[i] = a at *
    obtain ⟨kk, x, par, nm, dir, ops⟩ := a
    simp only at hg
    simp only [aR,N0,N1,N2,N3,N4,N5,Z0,Z1,Z2,Z3,Z4,Z5,Z6,Z7,Z8,Z9,Z10,Zc,↓reduceIte,reduceCtorEq, kP, h, zC]
    obtain ⟨Sv, hSv⟩ : ∃ Sv : { k : Nat // k ≤ o2.length ∧ bkI x o2 k = bkI x o2 o2.length } → AS, ∀ k, Sv k = AS.of 147 [(0, .sl 0 6 (acts l)), (3, .sl 0 1 (ints .i64 o2)), (4, .v (.int .i64 i)), (5, .v (.int .i64 k.1))] [] [] := ⟨_, fun _ => rfl⟩
    refine vcD_lp ?_
    refine kX hΓ Sv (fun k => k.1) ⟨o2.length, Nat.le_refl _, rfl⟩ (by rw [hSv]; refine kH [] [] ?_; simp only [aR,N0,N1,N2,N3,N4,N5,Z0,Z1,Z2,Z3,Z4,Z5,Z6,Z7,Z8,Z9,Z10,Zc,↓reduceIte,reduceCtorEq, zC] <;> ((repeat' apply And.intro) <;> first | rfl | omega | trivial)) ?_
    rintro ⟨k, hk, hbk⟩
    rw [hSv]
    simp only
    cases k with
    | zero =>
      have hbk' : bkI x o2 o2.length = 0 := by rw [← hbk]; rfl
      have hin : insI o2 x = x :: o2 := by rw [insI, hbk', if_neg (by simp)]; simp
      have p1 : kBm 0 1 (ints .i64 o2) 0 0 = .sl 0 1 [] := by rw [kCT (by omega)]; simp [ints]
      have p2 : kBm 0 1 (ints .i64 o2) 0 o2.length = .sl 0 1 (ints .i64 o2) := by rw [kCT (by omega)]; simp
      simp only [aR,N0,N1,N2,N3,N4,N5,Z0,Z1,Z2,Z3,Z4,Z5,Z6,Z7,Z8,Z9,Z10,Zc,↓reduceIte,reduceCtorEq, zC]
      (repeat (with_reducible refine And.intro ?_ ?_; focus (first | omega | exact kG | kernel_rfl)))
      simp only [aR,N0,N1,N2,N3,N4,N5,Z0,Z1,Z2,Z3,Z4,Z5,Z6,Z7,Z8,Z9,Z10,Zc,↓reduceIte,reduceCtorEq, kP, zC, e1, aA, kM, List.map_cons, List.map_nil, p1, p2, List.length_append, List.length_take, List.length_drop, List.length_cons, List.length_nil, kA (n := (i : Int) + 1) (by omega) (by omega)]
      (repeat (with_reducible refine And.intro ?_ ?_; focus (first | omega | exact kG | kernel_rfl)))
      refine kI ⟨(insI o2 x, i + 1), by simp only; omega, hg, by have := kDg o2 x; simp only; omega⟩ (by simp only; omega) ?_
      rw [hSt]; refine kH [] [] ?_
      simp only [aR,N0,N1,N2,N3,N4,N5,Z0,Z1,Z2,Z3,Z4,Z5,Z6,Z7,Z8,Z9,Z10,Zc,↓reduceIte,reduceCtorEq, hin, ints, List.map_cons, List.map_nil, List.map_append, List.nil_append, List.append_assoc, List.cons_append] <;> ((repeat' apply And.intro) <;> first | rfl | omega | trivial)
    | succ k =>
      have hkt : k < o2.length := by omega
      have e3 : (ints .i64 o2).getD k .any = .v (.int .i64 o2[k]) := by rw [ints_getD hkt, List.getD_eq_getElem?_getD, List.getElem?_eq_getElem hkt]; rfl
      have hw : IntKind.wrap .i64 (((k + 1 : Nat) : Int) - 1) = k := by rw [kA (by omega) (by omega)]; omega
      have hgd : o2.getD k 0 = o2[k] := by rw [List.getD_eq_getElem?_getD, List.getElem?_eq_getElem hkt]; rfl
      rw [bkI, hgd] at hbk
      have hin : insI o2 x = if 0 < bkI x o2 o2.length ∧ o2.getD (bkI x o2 o2.length - 1) 0 = x then o2 else o2.take (bkI x o2 o2.length) ++ x :: o2.drop (bkI x o2 o2.length) := rfl
      generalize o2[k] = y at *
      have hp : ((k + 1 : Nat) : Int) > 0 := by omega
      have hp0 : (((k + 1 : Nat) : Int) = 0) = False := eq_false (by omega)
      simp only [aR,N0,N1,N2,N3,N4,N5,Z0,Z1,Z2,Z3,Z4,Z5,Z6,Z7,Z8,Z9,Z10,Zc,↓reduceIte,reduceCtorEq, zC, hw, e3, hp, e1, aA, kM]
      (repeat (with_reducible refine And.intro ?_ ?_; focus (first | omega | exact kG | kernel_rfl)))
      (with_reducible first | refine kC (fun h3 => ?_) (fun h3 => ?_) | refine kF (fun h3 => ?_) (fun h3 => ?_))
      · rw [if_pos h3] at hbk
        simp only [aR,N0,N1,N2,N3,N4,N5,Z0,Z1,Z2,Z3,Z4,Z5,Z6,Z7,Z8,Z9,Z10,Zc,↓reduceIte,reduceCtorEq, kP, h3, hw]
        refine kI ⟨k, by omega, hbk⟩ (by simp only; omega) ?_
        rw [hSv]; refine kH [] [] ?_
        simp only [aR,N0,N1,N2,N3,N4,N5,Z0,Z1,Z2,Z3,Z4,Z5,Z6,Z7,Z8,Z9,Z10,Zc,↓reduceIte,reduceCtorEq] <;> ((repeat' apply And.intro) <;> first | rfl | omega | trivial)
      · rw [if_neg h3] at hbk
        rw [← hbk, show k + 1 - 1 = k by omega, hgd] at hin
        have p1 : kBm 0 1 (ints .i64 o2) 0 (k + 1) = .sl 0 1 (ints .i64 (o2.take (k + 1))) := by rw [kCT (by omega)]; simp
        have p2 : kBm 0 1 (ints .i64 o2) (k + 1) o2.length = .sl 0 1 (ints .i64 (o2.drop (k + 1))) := by rw [kCT (by omega), List.take_of_length_le (by simp)]
        by_cases h4 : y = x
        · rw [if_pos ⟨by omega, h4⟩] at hin
          simp only [aR,N0,N1,N2,N3,N4,N5,Z0,Z1,Z2,Z3,Z4,Z5,Z6,Z7,Z8,Z9,Z10,Zc,↓reduceIte,reduceCtorEq, kP, h3, zC, e1, aA, kM, e3, hw, hp, hp0, h4, List.map_cons, List.map_nil, kA (n := (i : Int) + 1) (by omega) (by omega)]
          (repeat (with_reducible refine And.intro ?_ ?_; focus (first | omega | exact kG | kernel_rfl)))
          refine kI ⟨(insI o2 x, i + 1), by simp only; omega, hg, by have := kDg o2 x; simp only; omega⟩ (by simp only; omega) ?_
          rw [hSt]; refine kH [] [] ?_
          simp only [aR,N0,N1,N2,N3,N4,N5,Z0,Z1,Z2,Z3,Z4,Z5,Z6,Z7,Z8,Z9,Z10,Zc,↓reduceIte,reduceCtorEq, hin, ints, List.map_cons, List.map_nil, List.map_append, List.nil_append, List.append_assoc, List.cons_append] <;> ((repeat' apply And.intro) <;> first | rfl | omega | trivial)
        · rw [if_neg (by omega)] at hin
          simp only [aR,N0,N1,N2,N3,N4,N5,Z0,Z1,Z2,Z3,Z4,Z5,Z6,Z7,Z8,Z9,Z10,Zc,↓reduceIte,reduceCtorEq, kP, h3, zC, e1, aA, kM, e3, hw, hp, hp0, h4, List.map_cons, List.map_nil, p1, p2, List.length_append, List.length_take, List.length_drop, List.length_cons, List.length_nil, show min (k + 1) o2.length = k + 1 by omega, kA (n := (i : Int) + 1) (by omega) (by omega)]
          (repeat (with_reducible refine And.intro ?_ ?_; focus (first | omega | exact kG | kernel_rfl)))
          refine kI ⟨(insI o2 x, i + 1), by simp only; omega, hg, by have := kDg o2 x; simp only; omega⟩ (by simp only; omega) ?_
          rw [hSt]; refine kH [] [] ?_
          simp only [aR,N0,N1,N2,N3,N4,N5,Z0,Z1,Z2,Z3,Z4,Z5,Z6,Z7,Z8,Z9,Z10,Zc,↓reduceIte,reduceCtorEq, hin, ints, List.map_cons, List.map_nil, List.map_append, List.nil_append, List.append_assoc, List.cons_append] <;> ((repeat' apply And.intro) <;> first | rfl | omega | trivial)
  · rw [List.drop_of_length_le (by omega), List.map_nil, List.foldl_nil] at hg
    have hil := idsI_len l
    have her := eff_ref l
    subst hg
    generalize hT : idsI l = T at *
    simp only [aR,N0,N1,N2,N3,N4,N5,Z0,Z1,Z2,Z3,Z4,Z5,Z6,Z7,Z8,Z9,Z10,Zc,↓reduceIte,reduceCtorEq, kP, h, zC]
    obtain ⟨Su, hSu⟩ : ∃ Su : { k : Nat // k ≤ T.length } → AS, ∀ k, Su k = AS.of 147 [(0, .sl 0 6 (acts l)), (3, .sl 0 1 (ints .i64 T)), (6, .sl 2 8 (ones ((T.take k.1).map (atO l)))), (7, .v (.int .i64 k.1))] [] [(k.1, 97)] := ⟨_, fun _ => rfl⟩
    refine kX hΓ Su (fun k => T.length - k.1) ⟨0, by omega⟩ (by rw [hSu]; refine kH [] [.nil 8] ?_; simp only [aR,N0,N1,N2,N3,N4,N5,Z0,Z1,Z2,Z3,Z4,Z5,Z6,Z7,Z8,Z9,Z10,Zc,↓reduceIte,reduceCtorEq, List.take_zero, List.map_nil, kCL] <;> ((repeat' apply And.intro) <;> first | rfl | omega | trivial)) ?_
    rintro ⟨k, hk⟩
    rw [hSu]
    simp only
    simp only [aR,N0,N1,N2,N3,N4,N5,Z0,Z1,Z2,Z3,Z4,Z5,Z6,Z7,Z8,Z9,Z10,Zc,↓reduceIte,reduceCtorEq, zC]
    (with_reducible first | refine kC (fun h2 => ?_) (fun h2 => ?_) | refine kF (fun h2 => ?_) (fun h2 => ?_))
    · have hkt : k < T.length := by omega
      have f1 : (ints .i64 T).getD k .any = .v (.int .i64 T[k]) := by rw [ints_getD hkt, List.getD_eq_getElem?_getD, List.getElem?_eq_getElem hkt]; rfl
      have f2 : ones ((T.take (k + 1)).map (atO l)) = ones ((T.take k).map (atO l)) ++ [oA (atO l T[k])] := by rw [List.take_succ_eq_append_getElem hkt, List.map_append, ones, List.map_append]; rfl
      generalize T[k] = q at *
      simp only [aR,N0,N1,N2,N3,N4,N5,Z0,Z1,Z2,Z3,Z4,Z5,Z6,Z7,Z8,Z9,Z10,Zc,↓reduceIte,reduceCtorEq, h2, f1, zC]
      (repeat (with_reducible refine And.intro ?_ ?_; focus (first | omega | exact kG | kernel_rfl)))
      obtain ⟨Sv, hSv⟩ : ∃ Sv : { p : On × Nat // p.2 ≤ l.length ∧ ((l.drop p.2).filter fun a => decide (a.id = q)).foldl addA p.1 = atO l q } → AS, ∀ p, Sv p = AS.of 147 [(0, .sl 0 6 (acts l)), (3, .sl 0 1 (ints .i64 T)), (6, .sl 2 8 (ones ((T.take k).map (atO l)))), (7, .v (.int .i64 k)), (8, .ptr 0 0), (9, .v (.int .i64 p.1.2))] [.cells [.v (.int .i64 p.1.1.id), .sl 0 3 (kU p.1.1.ops), .v (.bool p.1.1.ed), .v (.bool p.1.1.rm), .v (.bool p.1.1.cr), .v (.bool p.1.1.mv), .v (.int .i64 p.1.1.par), .v (sv p.1.1.nm)]] [(k, 97)] := ⟨_, fun _ => rfl⟩
      refine kX hΓ Sv (fun p => l.length - p.1.2) ⟨(newO q, 0), by simp, rfl⟩ (by rw [hSv]; refine kH [0] [.live 2] ?_; simp only [aR,N0,N1,N2,N3,N4,N5,Z0,Z1,Z2,Z3,Z4,Z5,Z6,Z7,Z8,Z9,Z10,Zc,↓reduceIte,reduceCtorEq, newO, qM] <;> ((repeat' apply And.intro) <;> first | rfl | omega | trivial)) ?_
      rintro ⟨⟨y, j⟩, hj, hf⟩
      simp only at hj hf
      obtain ⟨yid, yops, yed, yrm, ycr, ymv, ypar, ynm⟩ := y
      rw [hSv]
      simp only
      simp only [aR,N0,N1,N2,N3,N4,N5,Z0,Z1,Z2,Z3,Z4,Z5,Z6,Z7,Z8,Z9,Z10,Zc,↓reduceIte,reduceCtorEq, kM]
      (with_reducible first | refine kC (fun h3 => ?_) (fun h3 => ?_) | refine kF (fun h3 => ?_) (fun h3 => ?_))
      · have hjl : j < l.length := by omega
        have e1 := qV l hjl
        rw [List.drop_eq_getElem_cons hjl, List.filter_cons] at hf
        generalize l[j] = a at *
        obtain ⟨kk, x, par, nm, dir, ops⟩ := a
        simp only at hf
        by_cases c : x = q
        case neg =>
          rw [if_neg (by simpa using c)] at hf
          simp only [aR,N0,N1,N2,N3,N4,N5,Z0,Z1,Z2,Z3,Z4,Z5,Z6,Z7,Z8,Z9,Z10,Zc,↓reduceIte,reduceCtorEq, h3, e1, f1, aA, kM, zC, c, kA (n := (j : Int) + 1) (by omega) (by omega)]
          (repeat (with_reducible refine And.intro ?_ ?_; focus (first | omega | exact kG | kernel_rfl)))
          refine kI ⟨(⟨yid, yops, yed, yrm, ycr, ymv, ypar, ynm⟩, j + 1), by simp only; omega, hf⟩ (by simp only; omega) ?_
          rw [hSv]; refine kH [0] [.live 2] ?_
          simp only [aR,N0,N1,N2,N3,N4,N5,Z0,Z1,Z2,Z3,Z4,Z5,Z6,Z7,Z8,Z9,Z10,Zc,↓reduceIte,reduceCtorEq] <;> ((repeat' apply And.intro) <;> first | rfl | omega | trivial)
        rw [if_pos (by simpa using c), List.foldl_cons] at hf
        have hkk : kk = 1 ∨ kk = 2 ∨ kk = 3 ∨ kk = 4 ∨ (kk ≠ 1 ∧ kk ≠ 2 ∧ kk ≠ 3 ∧ kk ≠ 4) := by omega
        rcases hkk with hkk | hkk | hkk | hkk | ⟨k1, k2, k3, k4⟩
        · subst hkk
          have ha : addA ⟨yid, yops, yed, yrm, ycr, ymv, ypar, ynm⟩ ⟨1, x, par, nm, dir, ops⟩ = ⟨yid, yops, yed, yrm, true, ymv, par, nm⟩ := by simp [addA]
          rw [ha] at hf
          simp only [aR,N0,N1,N2,N3,N4,N5,Z0,Z1,Z2,Z3,Z4,Z5,Z6,Z7,Z8,Z9,Z10,Zc,↓reduceIte,reduceCtorEq, h3, e1, f1, aA, kM, zC, c, kA (n := (j : Int) + 1) (by omega) (by omega)]
          (repeat (with_reducible refine And.intro ?_ ?_; focus (first | omega | exact kG | kernel_rfl)))
          refine kI ⟨(⟨yid, yops, yed, yrm, true, ymv, par, nm⟩, j + 1), by simp only; omega, hf⟩ (by simp only; omega) ?_
          rw [hSv]; refine kH [0] [.live 2] ?_
          simp only [aR,N0,N1,N2,N3,N4,N5,Z0,Z1,Z2,Z3,Z4,Z5,Z6,Z7,Z8,Z9,Z10,Zc,↓reduceIte,reduceCtorEq] <;> ((repeat' apply And.intro) <;> first | rfl | omega | trivial)
        · subst hkk
          have ha : addA ⟨yid, yops, yed, yrm, ycr, ymv, ypar, ynm⟩ ⟨2, x, par, nm, dir, ops⟩ = ⟨yid, yops, yed, true, ycr, ymv, ypar, ynm⟩ := by simp [addA]
          rw [ha] at hf
          simp only [aR,N0,N1,N2,N3,N4,N5,Z0,Z1,Z2,Z3,Z4,Z5,Z6,Z7,Z8,Z9,Z10,Zc,↓reduceIte,reduceCtorEq, h3, e1, f1, aA, kM, zC, c, kA (n := (j : Int) + 1) (by omega) (by omega)]
          (repeat (with_reducible refine And.intro ?_ ?_; focus (first | omega | exact kG | kernel_rfl)))
          refine kI ⟨(⟨yid, yops, yed, true, ycr, ymv, ypar, ynm⟩, j + 1), by simp only; omega, hf⟩ (by simp only; omega) ?_
          rw [hSv]; refine kH [0] [.live 2] ?_
          simp only [aR,N0,N1,N2,N3,N4,N5,Z0,Z1,Z2,Z3,Z4,Z5,Z6,Z7,Z8,Z9,Z10,Zc,↓reduceIte,reduceCtorEq] <;> ((repeat' apply And.intro) <;> first | rfl | omega | trivial)
        · subst hkk
          have ha : addA ⟨yid, yops, yed, yrm, ycr, ymv, ypar, ynm⟩ ⟨3, x, par, nm, dir, ops⟩ = ⟨yid, yops, yed, yrm, ycr, true, par, nm⟩ := by simp [addA]
          rw [ha] at hf
          simp only [aR,N0,N1,N2,N3,N4,N5,Z0,Z1,Z2,Z3,Z4,Z5,Z6,Z7,Z8,Z9,Z10,Zc,↓reduceIte,reduceCtorEq, h3, e1, f1, aA, kM, zC, c, kA (n := (j : Int) + 1) (by omega) (by omega)]
          (repeat (with_reducible refine And.intro ?_ ?_; focus (first | omega | exact kG | kernel_rfl)))
          refine kI ⟨(⟨yid, yops, yed, yrm, ycr, true, par, nm⟩, j + 1), by simp only; omega, hf⟩ (by simp only; omega) ?_
          rw [hSv]; refine kH [0] [.live 2] ?_
          simp only [aR,N0,N1,N2,N3,N4,N5,Z0,Z1,Z2,Z3,Z4,Z5,Z6,Z7,Z8,Z9,Z10,Zc,↓reduceIte,reduceCtorEq] <;> ((repeat' apply And.intro) <;> first | rfl | omega | trivial)
        · subst hkk
          have ha : addA ⟨yid, yops, yed, yrm, ycr, ymv, ypar, ynm⟩ ⟨4, x, par, nm, dir, ops⟩ = ⟨yid, ops, true, yrm, ycr, ymv, ypar, ynm⟩ := by simp [addA]
          rw [ha] at hf
          simp only [aR,N0,N1,N2,N3,N4,N5,Z0,Z1,Z2,Z3,Z4,Z5,Z6,Z7,Z8,Z9,Z10,Zc,↓reduceIte,reduceCtorEq, h3, e1, f1, aA, kM, zC, c, kA (n := (j : Int) + 1) (by omega) (by omega)]
          (repeat (with_reducible refine And.intro ?_ ?_; focus (first | omega | exact kG | kernel_rfl)))
          refine kI ⟨(⟨yid, ops, true, yrm, ycr, ymv, ypar, ynm⟩, j + 1), by simp only; omega, hf⟩ (by simp only; omega) ?_
          rw [hSv]; refine kH [0] [.live 2] ?_
          simp only [aR,N0,N1,N2,N3,N4,N5,Z0,Z1,Z2,Z3,Z4,Z5,Z6,Z7,Z8,Z9,Z10,Zc,↓reduceIte,reduceCtorEq] <;> ((repeat' apply And.intro) <;> first | rfl | omega | trivial)
        · have ha : addA ⟨yid, yops, yed, yrm, ycr, ymv, ypar, ynm⟩ ⟨kk, x, par, nm, dir, ops⟩ = ⟨yid, yops, yed, yrm, ycr, ymv, ypar, ynm⟩ := by simp [addA, k1, k2, k3, k4]
          rw [ha] at hf
          simp only [aR,N0,N1,N2,N3,N4,N5,Z0,Z1,Z2,Z3,Z4,Z5,Z6,Z7,Z8,Z9,Z10,Zc,↓reduceIte,reduceCtorEq, h3, e1, f1, aA, kM, zC, c, k1, k2, k3, k4, kA (n := (j : Int) + 1) (by omega) (by omega)]
          (repeat (with_reducible refine And.intro ?_ ?_; focus (first | omega | exact kG | kernel_rfl)))
          refine kI ⟨(⟨yid, yops, yed, yrm, ycr, ymv, ypar, ynm⟩, j + 1), by simp only; omega, hf⟩ (by simp only; omega) ?_
          rw [hSv]; refine kH [0] [.live 2] ?_
          simp only [aR,N0,N1,N2,N3,N4,N5,Z0,Z1,Z2,Z3,Z4,Z5,Z6,Z7,Z8,Z9,Z10,Zc,↓reduceIte,reduceCtorEq] <;> ((repeat' apply And.intro) <;> first | rfl | omega | trivial)
      · rw [List.drop_of_length_le (by omega), List.filter_nil, List.foldl_nil] at hf
        rw [← hf] at f2
        simp only [oA] at f2
        simp only [aR,N0,N1,N2,N3,N4,N5,Z0,Z1,Z2,Z3,Z4,Z5,Z6,Z7,Z8,Z9,Z10,Zc,↓reduceIte,reduceCtorEq, h3, List.map_cons, List.map_nil, kN, List.length_map, List.length_take, show min k T.length = k by omega, kA (n := (k : Int) + 1) (by omega) (by omega)]
        (repeat (with_reducible refine And.intro ?_ ?_; focus (first | omega | exact kG | kernel_rfl)))
        refine kI ⟨k + 1, by omega⟩ (by simp only; omega) ?_
        rw [hSu]; refine kH [] [.live 2] ?_
        simp only [aR,N0,N1,N2,N3,N4,N5,Z0,Z1,Z2,Z3,Z4,Z5,Z6,Z7,Z8,Z9,Z10,Zc,↓reduceIte,reduceCtorEq, f2, kN, List.length_append, List.length_cons, List.length_nil, List.length_map, List.length_take, show min k T.length = k by omega] <;> ((repeat' apply And.intro) <;> first | rfl | omega | trivial)
    · simp only [aR,N0,N1,N2,N3,N4,N5,Z0,Z1,Z2,Z3,Z4,Z5,Z6,Z7,Z8,Z9,Z10,Zc,↓reduceIte,reduceCtorEq, h2, show k = T.length by omega, List.take_length, her]
end Go.Proofs
end
