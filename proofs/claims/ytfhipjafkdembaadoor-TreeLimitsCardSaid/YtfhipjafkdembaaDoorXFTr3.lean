/-
  The program's tree: from a node to the root; how many code points. The program's tree: a copy; nodes made. The program's tree: nodes moved, edited. Library functions' bodies at this dump, compared by the kernel: slices.SortFunc at nodes. The order of names; slices.SortFunc at nodes, by their names. slices.DeleteFunc at nodes, as Children takes it. The program's tree: what a directory has. The program's tree: nodes taken away; any act.
-/
import Derived.Test.YtfhipjafkdembaaDoorXFAp1
import Derived.Test.YtfhipjafkdembaaDoorXFTi
import Derived.Shelf.SlLaysF0
import Derived.Sort.LotA
import Derived.Test.YtfhipjafkdembaaDoorRwQ
import Derived.Test.YtfhipjafkdembaaDoorRwO
set_option linter.unusedSimpArgs false
set_option linter.unusedVariables false
set_option linter.defProp false
set_option linter.unusedSectionVars false

-- FTr3
section
namespace Go.Proofs
open Go Go.Rw
set_option maxRecDepth 100000
set_option linter.unusedSimpArgs false
set_option linter.unusedVariables false

theorem countR_cnt (l : List UInt8) : countR l = .tup [.v (.int .i64 (cnt l)), .v (.int .i64 (if (pts l).isSome = true then 0 else 2))] := by
  unfold countR cnt res2
  cases pts l <;> rfl
theorem cnt_le (l : List UInt8) : cnt l ≤ l.length := by rw [cnt_cpts]; exact cpts_len l
theorem fieldN_par {a b c d e : AV} : fieldA Tryd.prog 39 (.agg [a, b, c, d, e]) 1 = some b := rfl
theorem fieldN_dir {a b c d e : AV} : fieldA Tryd.prog 39 (.agg [a, b, c, d, e]) 3 = some d := rfl
/-- Does one come to the root, in so many steps? -/
def rootB (l : List Nd) : Nat → Int → Bool
  | 0, id => decide (id = 0)
  | k + 1, id => if id = 0 then true else rootB l k (gN l id).par
abbrev trootCon : ConO where
  ι := { p : TS × Int // p.1.l.length ≤ 1000000 }
  objs := fun p => tsO (some p.1.1)
  args := fun p => [.ptr 0 0, .v (.int .i64 p.1.2)]
  post := fun p objs lvs r => objs = tsO (some p.1.1) ∧ lvs = [] ∧ r = .v (.bool (rootB p.1.1.l p.1.1.l.length p.1.2))
theorem troot_good : GoodO Tryd.prog 19 trootCon := by
  have hΓ : GoodEnv Tryd.prog [] := goodEnv_nil
  refine goodO_fna (nn := 24) Tryd.func19 (by kernel_rfl) rfl (show Tryd.f19.results.toList = [.tmp 4] from rfl) (fun _ => rfl) ?_
  rintro ⟨⟨s, id⟩, hl⟩
  simp only at hl
  refine vcM_ok hΓ (Ws := []) _ ?_
  have e1 := look_tm s.h
  have e2 := size_tm s.h
  simp only [goRules, coreRules, tiRules, unRules, AS_of_eq, ← decide_not, seval, mapRules, objRules, tsRules]
  refine vcM_sc ?_
  obtain ⟨St, hSt⟩ : ∃ St : { p : Nat × Int // p.1 ≤ s.l.length ∧ rootB s.l (s.l.length - p.1) p.2 = rootB s.l s.l.length id } → AS, ∀ p, St p = AS.ofH 24 [(0, .ptr 0 0), (1, .v (.int .i64 p.1.2)), (5, .v (.int .i64 p.1.1))] [(0, .ptr 0 0), (1, .mp 1)] (tsO (some s)) [] := ⟨_, fun _ => rfl⟩
  refine vc_labM [] hΓ 0 St (fun p => s.l.length - p.1.1) 0 rfl rfl ?_ ?_
  · rintro ⟨⟨k, x⟩, hk, hr⟩
    simp only at hk hr
    rw [hSt]
    simp only
    simp only [goRules, coreRules, tiRules, unRules, AS_of_eq, ← decide_not, seval, mapRules, objRules, labMRules, tsRules, e1, e2]
    by_cases hx : x = 0
    · have e3 : rootB s.l s.l.length id = true := by
        rw [← hr, hx]
        cases s.l.length - k <;> simp [rootB]
      simp only [goRules, coreRules, tiRules, unRules, AS_of_eq, ← decide_not, seval, mapRules, objRules, labMRules, tsRules, e1, e2, hx]
      refine retG_go [0, 1] [] (tsO (some s)) [] (.v (.bool true)) ⟨rfl, rfl, by rw [e3]⟩ ?_
      simp only [goRules, coreRules, tiRules, unRules, AS_of_eq, ← decide_not, seval, mapRules, objRules, tsRules] <;> ((repeat' apply And.intro) <;> first | rfl | omega | trivial)
    simp only [goRules, coreRules, tiRules, unRules, AS_of_eq, ← decide_not, seval, mapRules, objRules, labMRules, tsRules, e1, e2, hx, wrap_i64 (n := (k : Int) + 1) (by omega) (by omega)]
    (with_reducible first | refine branchP_dec (fun h => ?_) (fun h => ?_) | refine guardB_dec (fun h => ?_) (fun h => ?_))
    · have e3 : rootB s.l s.l.length id = false := by
        rw [← hr, show s.l.length - k = 0 by omega, rootB]
        simp [hx]
      simp only [goRules, coreRules, tiRules, unRules, AS_of_eq, ← decide_not, seval, mapRules, objRules, labMRules, tsRules, h]
      refine retG_go [0, 1] [] (tsO (some s)) [] (.v (.bool false)) ⟨rfl, rfl, by rw [e3]⟩ ?_
      simp only [goRules, coreRules, tiRules, unRules, AS_of_eq, ← decide_not, seval, mapRules, objRules, tsRules] <;> ((repeat' apply And.intro) <;> first | rfl | omega | trivial)
    · have hlt : k < s.l.length := by omega
      rw [show s.l.length - k = (s.l.length - (k + 1)) + 1 by omega, rootB, if_neg hx] at hr
      simp only [goRules, coreRules, tiRules, unRules, AS_of_eq, ← decide_not, seval, mapRules, objRules, labMRules, tsRules, h, e1, nA, fieldN_par]
      (repeat (with_reducible refine And.intro ?_ ?_; focus (first | omega | exact mixed1 | kernel_rfl)))
      refine weak_again ⟨(k + 1, (gN s.l x).par), by simp only; omega, hr⟩ (by simp only; omega) ?_
      rw [hSt]; refine weakH_go [0, 1] [] ?_
      simp only [goRules, coreRules, tiRules, unRules, AS_of_eq, ← decide_not, seval, mapRules, objRules, tsRules] <;> ((repeat' apply And.intro) <;> first | rfl | omega | trivial)
  · simp only [goRules, coreRules, tiRules, unRules, AS_of_eq, ← decide_not, seval, mapRules, objRules, labMRules, tsRules]
    refine ⟨⟨(0, id), by simp, by simp⟩, ?_⟩
    rw [hSt]; refine weakH_go [0, 1] [] ?_
    simp only [goRules, coreRules, tiRules, unRules, AS_of_eq, ← decide_not, seval, mapRules, objRules, tsRules] <;> ((repeat' apply And.intro) <;> first | rfl | omega | trivial)
-- how many code points
def wE (e : MapEntry) : Nat := match e.val with
  | .agg a => match (a[4]? : Option Value) with
    | some (.string s) => cnt s.data.toList
    | _ => 0
  | _ => 0
theorem ent_of {es : Array MapEntry} {cl : Nat} {l : List Nd} (h : TM es cl l) : ∀ e ∈ es.toList, ∃ x ∈ l, e.key = .int .i64 x.id ∧ e.val = nV x ∧ wE e = cnt x.text := by
  obtain ⟨⟨hu, ps', hp, hm, hb, hc⟩, hs⟩ := h
  intro e he
  obtain ⟨i, hi, rfl⟩ := List.getElem_of_mem he
  have hil : i < ps'.length := by
    have := congrArg List.length hm
    simp only [List.length_map] at this
    omega
  have h1 : (es.toList.map fun e => (e.key, e.val))[i]? = (ps'.map fun p => (Value.int .i64 p.1, p.2))[i]? := by rw [hm]
  rw [List.getElem?_map, List.getElem?_map, List.getElem?_eq_getElem hi, List.getElem?_eq_getElem hil] at h1
  simp only [Option.map_some, Option.some.injEq, Prod.mk.injEq] at h1
  have h2 : ps'[i] ∈ ents l := hp.mem_iff.1 (List.getElem_mem hil)
  obtain ⟨x, hx, hx2⟩ := List.mem_map.1 h2
  refine ⟨x, hx, ?_, ?_, ?_⟩
  · rw [h1.1, ← hx2]
  · rw [h1.2, ← hx2]
  · unfold wE
    rw [h1.2, ← hx2]
    simp [nV, sv]
theorem tot_sum : ∀ l : List Nd, (l.map fun x => cnt x.text).sum = totN l
  | [] => rfl
  | x :: l => by rw [List.map_cons, List.sum_cons, tot_sum l, totN]
theorem tot_tm {es : Array MapEntry} {cl : Nat} {l : List Nd} (h : TM es cl l) : (es.toList.map wE).sum = totN l := by
  have hw := ent_of h
  obtain ⟨⟨hu, ps', hp, hm, hb, hc⟩, hs⟩ := h
  have e1 : es.toList.map wE = ps'.map fun p => wE ⟨.int .i64 p.1, p.2, 0⟩ := by
    have := congrArg (List.map fun q : Value × Value => wE ⟨q.1, q.2, 0⟩) hm
    rw [List.map_map, List.map_map] at this
    exact this
  have e2 : (ps'.map fun p => wE ⟨.int .i64 p.1, p.2, 0⟩).Perm (l.map fun x => cnt x.text) := by
    refine (hp.map _).trans ?_
    unfold ents
    rw [List.map_map]
    have : ((fun p : Int × Value => wE ⟨.int .i64 p.1, p.2, 0⟩) ∘ fun x : Nd => (x.id, nV x)) = fun x => cnt x.text := by
      funext x
      simp [wE, nV, sv]
    rw [this]
  rw [e1, e2.sum_nat]
  exact tot_sum l
def leftE (L : List MapEntry) (seen : Array Nat) : List MapEntry := L.filter fun e => !seen.contains e.born
theorem left_push {seen : Array Nat} {e : MapEntry} : ∀ {L : List MapEntry}, (L.map (·.born)).Nodup → e ∈ L → seen.contains e.born = false → ((leftE L seen).map wE).sum = wE e + ((leftE L (seen.push e.born)).map wE).sum ∧ (leftE L (seen.push e.born)).length < (leftE L seen).length
  | [], _, h, _ => by cases h
  | x :: L, hn, h, hs => by
    simp only [List.map_cons, List.nodup_cons] at hn
    have hpush : ∀ y : MapEntry, (seen.push e.born).contains y.born = (seen.contains y.born || y.born == e.born) := fun y => by
      rw [Bool.eq_iff_iff]
      simp [Array.contains_iff_mem, Array.mem_push]
    rcases List.mem_cons.1 h with rfl | h1
    · have hrest : leftE L (seen.push e.born) = leftE L seen := by
        unfold leftE
        refine List.filter_congr fun y hy => ?_
        rw [hpush]
        have : (y.born == e.born) = false := by
          simp only [beq_eq_false_iff_ne, ne_eq]
          intro hc
          exact hn.1 (hc ▸ List.mem_map.2 ⟨y, hy, rfl⟩)
        rw [this, Bool.or_false]
      have e1 : leftE (e :: L) seen = e :: leftE L seen := by unfold leftE; rw [List.filter_cons_of_pos (by show (!seen.contains e.born) = true; rw [hs]; rfl)]
      have e2 : leftE (e :: L) (seen.push e.born) = leftE L seen := by
        rw [← hrest]
        unfold leftE
        rw [List.filter_cons_of_neg (by show ¬ (!(seen.push e.born).contains e.born) = true; rw [hpush]; simp)]
      rw [e1, e2]
      simp
    · obtain ⟨ih1, ih2⟩ := left_push hn.2 h1 hs
      have hne : (x.born == e.born) = false := by
        simp only [beq_eq_false_iff_ne, ne_eq]
        intro hc
        exact hn.1 (hc ▸ List.mem_map.2 ⟨e, h1, rfl⟩)
      have e1 : (seen.push e.born).contains x.born = seen.contains x.born := by rw [hpush, hne, Bool.or_false]
      cases hx : seen.contains x.born with
      | true =>
        have a1 : leftE (x :: L) seen = leftE L seen := by unfold leftE; rw [List.filter_cons_of_neg (by show ¬ (!seen.contains x.born) = true; rw [hx]; decide)]
        have a2 : leftE (x :: L) (seen.push e.born) = leftE L (seen.push e.born) := by unfold leftE; rw [List.filter_cons_of_neg (by show ¬ (!(seen.push e.born).contains x.born) = true; rw [e1, hx]; decide)]
        rw [a1, a2]; exact ⟨ih1, ih2⟩
      | false =>
        have a1 : leftE (x :: L) seen = x :: leftE L seen := by unfold leftE; rw [List.filter_cons_of_pos (by show (!seen.contains x.born) = true; rw [hx]; rfl)]
        have a2 : leftE (x :: L) (seen.push e.born) = x :: leftE L (seen.push e.born) := by unfold leftE; rw [List.filter_cons_of_pos (by show (!(seen.push e.born).contains x.born) = true; rw [e1, hx]; rfl)]
        rw [a1, a2]
        simp only [List.map_cons, List.sum_cons, List.length_cons]
        omega
theorem find_born {es : Array MapEntry} {e : MapEntry} (hn : (es.toList.map (·.born)).Nodup) (he : e ∈ es) : es.find? (·.born == e.born) = some e := by
  rw [← Array.find?_toList]
  have he : e ∈ es.toList := by simpa using he
  generalize es.toList = L at hn he
  induction L with
  | nil => cases he
  | cons x L ih =>
    simp only [List.map_cons, List.nodup_cons] at hn
    rcases List.mem_cons.1 he with rfl | h1
    · simp
    · rw [List.find?_cons_of_neg]
      · exact ih hn.2 h1
      · simp only [beq_iff_eq]
        intro hc
        exact hn.1 (hc ▸ List.mem_map.2 ⟨e, h1, rfl⟩)
abbrev tallCon : ConO where
  ι := { s : TS // totN s.l ≤ 1000000000000 ∧ ∀ x ∈ s.l, x.text.length ≤ 1099511627776 }
  objs := fun p => tsO (some p.1)
  args := fun p => [.ptr 0 0]
  post := fun p objs lvs r => objs = tsO (some p.1) ∧ lvs = [] ∧ r = .v (.int .i64 (totN p.1.l))
set_option maxHeartbeats 1000000 in
theorem tall_good : GoodO Tryd.prog 20 tallCon := by
  have hΓ : GoodEnv Tryd.prog [(26, countCon)] := (goodEnv_cons count_good goodEnv_nil)
  refine goodO_fna (nn := 26) Tryd.func20 (by kernel_rfl) rfl (show Tryd.f20.results.toList = [.tmp 2] from rfl) (fun _ => rfl) ?_
  rintro ⟨s, ht, hx⟩
  refine vcM_ok hΓ (Ws := []) _ ?_
  have hM := s.h
  have hent := ent_of hM
  have htot := tot_tm hM
  obtain ⟨⟨hu, ps', hp, hm, hb, hc⟩, hs⟩ := hM
  simp only [goRules, coreRules, tiRules, unRules, AS_of_eq, ← decide_not, seval, mapRules, objRules, tsRules]
  (repeat (with_reducible refine And.intro ?_ ?_; focus (first | omega | exact mixed1 | kernel_rfl)))
  obtain ⟨St, hSt⟩ : ∃ St : { p : Array Nat × Nat // p.2 + ((leftE s.es.toList p.1).map wE).sum = totN s.l } → AS, ∀ p, St p = AS.ofH 26 [(0, .ptr 0 0), (2, .v (.int .i64 p.1.2)), (11, .ptr 2 0)] [(0, .ptr 0 0), (1, .mp 1)] [.cells [.mp 1], .map s.es s.cl, .mit 1 s.cl p.1.1 s.cl] [] := ⟨_, fun _ => rfl⟩
  refine vcM_lp ?_
  refine vc_loopM [] hΓ St (fun p => (leftE s.es.toList p.1.1).length) ⟨(#[], 0), by simp only [Nat.zero_add]; rw [← htot]; congr 2; unfold leftE; rw [List.filter_eq_self]; intro e _; simp⟩ (by rw [hSt]; refine weakH_go [0, 1, 2] [] ?_; simp only [goRules, coreRules, tiRules, unRules, AS_of_eq, ← decide_not, seval, mapRules, objRules, tsRules] <;> ((repeat' apply And.intro) <;> first | rfl | omega | trivial)) ?_
  rintro ⟨⟨seen, n⟩, hsum⟩
  simp only at hsum
  rw [hSt]
  simp only
  simp only [goRules, coreRules, tiRules, unRules, AS_of_eq, ← decide_not, seval, mapRules, objRules, tsRules]
  refine ⟨1, s.cl, seen, s.cl, s.es, s.cl, rfl, rfl, ?_, fun e he hne => ?_, fun hall => ?_⟩
  · cases hsn : seen.isEmpty with
    | true => simp
    | false =>
      cases hen : s.es.isEmpty with
      | true => simp
      | false =>
        simp only [Bool.not_false, Bool.true_and, Bool.and_true]
        rw [Bool.eq_false_iff]
        intro hall
        rw [Array.all_eq_true'] at hall
        have hpos : 0 < s.es.size := by
          rw [Array.isEmpty_eq_false_iff] at hen
          exact Array.size_pos_iff.2 hen
        have h1 := hall s.es[0] (Array.getElem_mem hpos)
        have h2 := hc s.es[0] (by simp)
        simp at h1
        omega
  · have hel : e ∈ s.es.toList := by simpa using he
    obtain ⟨x, hx1, hx2, hx3, hx4⟩ := hent e hel
    obtain ⟨p1, p2⟩ := left_push hb hel hne
    have hcx := hx x hx1
    have hcl := cnt_le x.text
    have hfe := find_born hb he
    have hcr := countR_cnt x.text
    have hv : flatV e.val = nA x := by rw [hx3]; rfl
    rw [hx4] at p1
    simp only [goRules, coreRules, tiRules, unRules, AS_of_eq, ← decide_not, seval, mapRules, objRules, tsRules]
    (repeat (with_reducible refine And.intro ?_ ?_; focus (first | omega | exact mixed1 | kernel_rfl)))
    refine ⟨1, s.cl, seen.push e.born, s.cl, s.es, e.born, e, rfl, rfl, by simp, hfe, ?_⟩
    simp only [goRules, coreRules, tiRules, unRules, AS_of_eq, ← decide_not, seval, mapRules, objRules, tsRules, hv, nA]
    (repeat (with_reducible refine And.intro ?_ ?_; focus (first | omega | exact mixed1 | kernel_rfl)))
    refine call_count (by simp [get_cons]) hcx ?_
    simp only [goRules, coreRules, tiRules, unRules, AS_of_eq, ← decide_not, seval, mapRules, objRules, tsRules, hcr, wrap_i64 (n := (n : Int) + cnt x.text) (by omega) (by omega)]
    (repeat (with_reducible refine And.intro ?_ ?_; focus (first | omega | exact mixed1 | kernel_rfl)))
    refine weak_again ⟨(seen.push e.born, n + cnt x.text), by simp only; omega⟩ (by simp only; omega) ?_
    rw [hSt]; refine weakH_go [0, 1, 2] [] ?_
    simp only [goRules, coreRules, tiRules, unRules, AS_of_eq, ← decide_not, seval, mapRules, objRules, tsRules] <;> ((repeat' apply And.intro) <;> first | rfl | omega | trivial)
  · have e0 : leftE s.es.toList seen = [] := by
      unfold leftE
      rw [List.filter_eq_nil_iff]
      intro e he
      have h1 := hc e he
      cases h2 : seen.contains e.born with
      | true => simp
      | false =>
        have := hall e (by simpa using he) h2
        omega
    rw [e0] at hsum
    simp only [List.map_nil, List.sum_nil, Nat.add_zero] at hsum
    subst hsum
    simp only [goRules, coreRules, tiRules, unRules, AS_of_eq, ← decide_not, seval, mapRules, objRules, tsRules]
    (repeat (with_reducible refine And.intro ?_ ?_; focus (first | omega | exact mixed1 | kernel_rfl)))
    refine retG_go [0, 1] [] (tsO (some s)) [] (.v (.int .i64 (totN s.l))) ⟨rfl, rfl, rfl⟩ ?_
    simp only [goRules, coreRules, tiRules, unRules, AS_of_eq, ← decide_not, seval, mapRules, objRules, tsRules] <;> ((repeat' apply And.intro) <;> first | rfl | omega | trivial)
theorem call_tall {Γ : Env} {n : Nat} {t : Nat → AV} {hd : Nat → Nat → AV} {d : Option Nat} {K : AS → Prop} {nh nl : Nat} {h : Nat → Option AO} {fm : Nat → Nat} {lv : Nat → Option (Nat × Nat)} {mu : Bool} (hC : Γ.get 20 = none) {s : TS} (ht : totN s.l ≤ 1000000000000 ∧ ∀ x ∈ s.l, x.text.length ≤ 1099511627776) {o ob : Nat} (hT : TreeAt h o ob s)
    (hk : cont ⟨n, t, hd, ⟨nh, h, nl, fm, lv, mu⟩⟩ d (.v (.int .i64 (totN s.l))) K) : vcCall Tryd.prog Γ false ⟨n, t, hd, ⟨nh, h, nl, fm, lv, mu⟩⟩ 20 [.ptr o 0] d K := by
  refine call_tree tall_good hC ⟨s, ht⟩ rfl hT (by simp [dnL, dn]) rfl (fun _ _ _ hp => hp.1) ?_
  rintro lvs r ⟨_, rfl, rfl⟩
  exact hk
end Go.Proofs
end

-- FTr4
section
namespace Go.Proofs
open Go Go.Rw
set_option maxRecDepth 100000
set_option linter.unusedSimpArgs false
set_option linter.unusedVariables false

section
variable {Γ : Env} {n : Nat} {t : Nat → AV} {hd : Nat → Nat → AV} {d : Option Nat} {K : AS → Prop}
variable {nh nl : Nat} {h : Nat → Option AO} {fm : Nat → Nat} {lv : Nat → Option (Nat × Nat)} {mu : Bool}
theorem upd_it {α : Type} {f : Nat → α} {o : Nat} {x : α} (h : f o = x) : upd f o x = f := by
  funext j
  simp only [upd]
  split
  · rename_i he; rw [he, h]
  · rfl
end
/-- What a creation does. -/
def creN (l : List Nd) (a : Ac) : List Nd × Int :=
  if a.id < 1 ∨ a.id > 1099511627776 ∨ nameOk a.nm = false then (l, 1)
  else if hasN l a.id = true then (l, 6)
  else if dirI l a.par ≠ 0 then (l, dirI l a.par)
  else if 0 < kid a.par a.nm l then (l, 6)
  else if l.length ≥ 100 then (l, 4)
  else (setT ⟨a.id, a.par, a.nm, a.dir, []⟩ l, 0)
/-- A tree that may be worked on. -/
def trOk (l : List Nd) : Prop := idsOk l ∧ (∀ x ∈ l, 1 ≤ x.id) ∧ (totN l ≤ 1000000000000 ∧ ∀ x ∈ l, x.text.length ≤ 1099511627776)
def mutP (s : TS) (q : List Nd × Int) (objs : List AO) (lvs : List (Nat × Nat)) (r : AV) : Prop :=
  ∃ s' : TS, s'.l = q.1 ∧ objs = tsO (some s') ∧ lvs = [] ∧ r = .v (.int .i64 q.2)
abbrev tcreCon : ConO where
  ι := { p : TS × Ac // trOk p.1.l ∧ p.2.nm.length ≤ 1099511627776 }
  objs := fun p => tsO (some p.1.1)
  args := fun p => [.ptr 0 0, aA p.1.2]
  post := fun p => mutP p.1.1 (creN p.1.1.l p.1.2)
set_option maxHeartbeats 2000000 in
theorem tcre_good : GoodO Tryd.prog 11 tcreCon := by
  have hΓ : GoodEnv Tryd.prog [(10, nameCon)] := (goodEnv_cons name_good goodEnv_nil)
  refine goodO_fna (nn := 73) Tryd.func11 (by kernel_rfl) rfl (show Tryd.f11.results.toList = [.tmp 4] from rfl) (fun _ => rfl) ?_
  rintro ⟨⟨s, a⟩, ⟨hi, hpos, hw⟩, hn⟩
  obtain ⟨k, id, par, nm, dir, ops⟩ := a
  simp only at hi hpos hn
  refine vcM_ok hΓ (Ws := []) _ ?_
  have e1 := look_tm s.h
  have e2 := size_tm s.h
  simp only [goRules, coreRules, tiRules, unRules, AS_of_eq, ← decide_not, seval, mapRules, objRules, tsRules, aA]
  (repeat (with_reducible refine And.intro ?_ ?_; focus (first | omega | exact mixed1 | kernel_rfl)))
  have e0 : creN s.l ⟨k, id, par, nm, dir, ops⟩ = if id < 1 ∨ id > 1099511627776 ∨ nameOk nm = false then (s.l, 1) else if hasN s.l id = true then (s.l, 6) else if dirI s.l par ≠ 0 then (s.l, dirI s.l par) else if 0 < kid par nm s.l then (s.l, 6) else if s.l.length ≥ 100 then (s.l, 4) else (setT ⟨id, par, nm, dir, []⟩ s.l, 0) := rfl
  by_cases h1 : id < 1
  · rw [if_pos (.inl h1)] at e0
    simp only [goRules, coreRules, tiRules, unRules, AS_of_eq, ← decide_not, seval, mapRules, objRules, tsRules, h1]
    refine retG_go [0, 1] [] (tsO (some s)) [] (.v (.int .i64 1)) ⟨s, by rw [e0], rfl, rfl, by rw [e0]⟩ ?_
    simp only [goRules, coreRules, tiRules, unRules, AS_of_eq, ← decide_not, seval, mapRules, objRules, tsRules] <;> ((repeat' apply And.intro) <;> first | rfl | omega | trivial)
  by_cases h2 : id > 1099511627776
  · rw [if_pos (.inr (.inl h2))] at e0
    simp only [goRules, coreRules, tiRules, unRules, AS_of_eq, ← decide_not, seval, mapRules, objRules, tsRules, h1, h2]
    refine retG_go [0, 1] [] (tsO (some s)) [] (.v (.int .i64 1)) ⟨s, by rw [e0], rfl, rfl, by rw [e0]⟩ ?_
    simp only [goRules, coreRules, tiRules, unRules, AS_of_eq, ← decide_not, seval, mapRules, objRules, tsRules] <;> ((repeat' apply And.intro) <;> first | rfl | omega | trivial)
  simp only [goRules, coreRules, tiRules, unRules, AS_of_eq, ← decide_not, seval, mapRules, objRules, tsRules, h1, h2]
  refine call_name (by simp [get_cons]) hn ?_
  cases hnm : nameOk nm
  · rw [if_pos (.inr (.inr hnm))] at e0
    simp only [goRules, coreRules, tiRules, unRules, AS_of_eq, ← decide_not, seval, mapRules, objRules, tsRules, h1, h2, hnm]
    refine retG_go [0, 1] [] (tsO (some s)) [] (.v (.int .i64 1)) ⟨s, by rw [e0], rfl, rfl, by rw [e0]⟩ ?_
    simp only [goRules, coreRules, tiRules, unRules, AS_of_eq, ← decide_not, seval, mapRules, objRules, tsRules] <;> ((repeat' apply And.intro) <;> first | rfl | omega | trivial)
  rw [if_neg (by rintro (hh | hh | hh); exact h1 hh; exact h2 hh; rw [hnm] at hh; cases hh)] at e0
  simp only [goRules, coreRules, tiRules, unRules, AS_of_eq, ← decide_not, seval, mapRules, objRules, tsRules, h1, h2, hnm, e1, nA]
  (repeat (with_reducible refine And.intro ?_ ?_; focus (first | omega | exact mixed1 | kernel_rfl)))
  cases hh : hasN s.l id
  case true =>
    rw [if_pos hh] at e0
    simp only [goRules, coreRules, tiRules, unRules, AS_of_eq, ← decide_not, seval, mapRules, objRules, tsRules, hh]
    refine retG_go [0, 1] [] (tsO (some s)) [] (.v (.int .i64 6)) ⟨s, by rw [e0], rfl, rfl, by rw [e0]⟩ ?_
    simp only [goRules, coreRules, tiRules, unRules, AS_of_eq, ← decide_not, seval, mapRules, objRules, tsRules] <;> ((repeat' apply And.intro) <;> first | rfl | omega | trivial)
  rw [if_neg (by rw [hh]; decide)] at e0
  simp only [goRules, coreRules, tiRules, unRules, AS_of_eq, ← decide_not, seval, mapRules, objRules, tsRules, hh]
  refine call_tdir (s := s) (o := 0) (ob := 1) (by simp [get_cons, get_nil]) (by simp [TreeAt, upd]) ?_
  simp only [goRules, coreRules, tiRules, unRules, AS_of_eq, ← decide_not, seval, mapRules, objRules, tsRules]
  (repeat (with_reducible refine And.intro ?_ ?_; focus (first | omega | exact mixed1 | kernel_rfl)))
  by_cases hd : dirI s.l par = 0
  case neg =>
    rw [if_pos hd] at e0
    simp only [goRules, coreRules, tiRules, unRules, AS_of_eq, ← decide_not, seval, mapRules, objRules, tsRules, hd]
    refine retG_go [0, 1] [] (tsO (some s)) [] (.v (.int .i64 (dirI s.l par))) ⟨s, by rw [e0], rfl, rfl, by rw [e0]⟩ ?_
    simp only [goRules, coreRules, tiRules, unRules, AS_of_eq, ← decide_not, seval, mapRules, objRules, tsRules] <;> ((repeat' apply And.intro) <;> first | rfl | omega | trivial)
  rw [if_neg (fun hc => hc hd)] at e0
  simp only [goRules, coreRules, tiRules, unRules, AS_of_eq, ← decide_not, seval, mapRules, objRules, tsRules, hd]
  (repeat (with_reducible refine And.intro ?_ ?_; focus (first | omega | exact mixed1 | kernel_rfl)))
  refine call_tchild (s := s) (o := 0) (ob := 1) (by simp [get_cons, get_nil]) hi hpos (by simp [TreeAt, upd]) ?_
  simp only [goRules, coreRules, tiRules, unRules, AS_of_eq, ← decide_not, seval, mapRules, objRules, tsRules]
  (repeat (with_reducible refine And.intro ?_ ?_; focus (first | omega | exact mixed1 | kernel_rfl)))
  by_cases hk : 0 < kid par nm s.l
  · rw [if_pos hk] at e0
    simp only [goRules, coreRules, tiRules, unRules, AS_of_eq, ← decide_not, seval, mapRules, objRules, tsRules, hk]
    refine retG_go [0, 1] [] (tsO (some s)) [] (.v (.int .i64 6)) ⟨s, by rw [e0], rfl, rfl, by rw [e0]⟩ ?_
    simp only [goRules, coreRules, tiRules, unRules, AS_of_eq, ← decide_not, seval, mapRules, objRules, tsRules] <;> ((repeat' apply And.intro) <;> first | rfl | omega | trivial)
  rw [if_neg hk] at e0
  simp only [goRules, coreRules, tiRules, unRules, AS_of_eq, ← decide_not, seval, mapRules, objRules, tsRules, hk, e2]
  (repeat (with_reducible refine And.intro ?_ ?_; focus (first | omega | exact mixed1 | kernel_rfl)))
  by_cases hl : s.l.length ≥ 100
  · rw [if_pos hl] at e0
    simp only [goRules, coreRules, tiRules, unRules, AS_of_eq, ← decide_not, seval, mapRules, objRules, tsRules, show ((s.l.length : Int) ≥ 100) = True from eq_true (by omega)]
    refine retG_go [0, 1] [] (tsO (some s)) [] (.v (.int .i64 4)) ⟨s, by rw [e0], rfl, rfl, by rw [e0]⟩ ?_
    simp only [goRules, coreRules, tiRules, unRules, AS_of_eq, ← decide_not, seval, mapRules, objRules, tsRules] <;> ((repeat' apply And.intro) <;> first | rfl | omega | trivial)
  rw [if_neg hl] at e0
  obtain ⟨es', cl', p1, p2⟩ := put_tm s.h ⟨id, par, nm, dir, []⟩
  simp only [nV] at p1
  simp only [goRules, coreRules, tiRules, unRules, AS_of_eq, ← decide_not, seval, mapRules, objRules, tsRules, show ((s.l.length : Int) ≥ 100) = False from eq_false (by omega), p1]
  (repeat (with_reducible refine And.intro ?_ ?_; focus (first | omega | exact mixed1 | kernel_rfl)))
  refine retG_go [0, 1] [] (tsO (some ⟨es', cl', _, p2⟩)) [] (.v (.int .i64 0)) ⟨⟨es', cl', _, p2⟩, by rw [e0], rfl, rfl, by rw [e0]⟩ ?_
  simp only [goRules, coreRules, tiRules, unRules, AS_of_eq, ← decide_not, seval, mapRules, objRules, tsRules] <;> ((repeat' apply And.intro) <;> first | rfl | omega | trivial)
end Go.Proofs
end

-- FTr5
section
namespace Go.Proofs
open Go Go.Rw
set_option maxRecDepth 100000
set_option linter.unusedSimpArgs false
set_option linter.unusedVariables false

/-- Does one come to id, going up? -/
def upB (l : List Nd) (id : Int) : Nat → Int → Bool
  | 0, x => decide (x = id)
  | k + 1, x => if x = id then true else if x = 0 then false else upB l id k (gN l x).par
/-- What a move does. -/
def movN (l : List Nd) (a : Ac) : List Nd × Int :=
  if nameOk a.nm = false then (l, 1)
  else if hasN l a.id = false then (l, 5)
  else if dirI l a.par ≠ 0 then (l, dirI l a.par)
  else if upB l a.id l.length a.par = true then (l, 10)
  else if 0 < kid a.par a.nm l ∧ kid a.par a.nm l ≠ a.id then (l, 6)
  else (setT ⟨a.id, a.par, a.nm, (gN l a.id).dir, (gN l a.id).text⟩ l, 0)
/-- All come to the root. -/
def rtOk (l : List Nd) : Prop := ∀ x ∈ l, rootB l l.length x.id = true
theorem rt_of {l : List Nd} (h : rtOk l) {par : Int} (hd : dirI l par = 0) : rootB l l.length par = true := by
  unfold dirI at hd
  split at hd
  · rename_i h0; rw [h0]; cases l.length <;> simp [rootB]
  · split at hd
    · rename_i h1
      obtain ⟨h2, _, h3⟩ := gN_get h1
      have := h _ (List.getElem_mem h2)
      rwa [h3] at this
    · cases hd
abbrev tmovCon : ConO where
  ι := { p : TS × Ac // trOk p.1.l ∧ rtOk p.1.l ∧ p.2.nm.length ≤ 1099511627776 }
  objs := fun p => tsO (some p.1.1)
  args := fun p => [.ptr 0 0, aA p.1.2]
  post := fun p => mutP p.1.1 (movN p.1.1.l p.1.2)
set_option maxHeartbeats 4000000 in
theorem tmov_good : GoodO Tryd.prog 13 tmovCon := by
  have hΓ : GoodEnv Tryd.prog [(10, nameCon)] := (goodEnv_cons name_good goodEnv_nil)
  refine goodO_fna (nn := 75) Tryd.func13 (by kernel_rfl) rfl (show Tryd.f13.results.toList = [.tmp 4] from rfl) (fun _ => rfl) ?_
  rintro ⟨⟨s, a⟩, ⟨hi, hpos, hw⟩, hrt, hn⟩
  obtain ⟨k, id, par, nm, dir, ops⟩ := a
  simp only at hi hpos hn hrt
  refine vcM_ok hΓ (Ws := []) _ ?_
  have e1 := look_tm s.h
  have e2 := size_tm s.h
  simp only [goRules, coreRules, tiRules, unRules, AS_of_eq, ← decide_not, seval, mapRules, objRules, tsRules, aA]
  refine vcM_sc ?_
  have e0 : movN s.l ⟨k, id, par, nm, dir, ops⟩ = if nameOk nm = false then (s.l, 1) else if hasN s.l id = false then (s.l, 5) else if dirI s.l par ≠ 0 then (s.l, dirI s.l par) else if upB s.l id s.l.length par = true then (s.l, 10) else if 0 < kid par nm s.l ∧ kid par nm s.l ≠ id then (s.l, 6) else (setT ⟨id, par, nm, (gN s.l id).dir, (gN s.l id).text⟩ s.l, 0) := rfl
  obtain ⟨St, hSt⟩ : ∃ St : { p : Nat × Int // rootB s.l p.1 p.2 = true ∧ upB s.l id p.1 p.2 = upB s.l id s.l.length par ∧ nameOk nm = true ∧ hasN s.l id = true ∧ dirI s.l par = 0 } → AS, ∀ p, St p = AS.ofH 75 [(0, .ptr 0 0), (3, .ptr 2 0), (5, .ptr 3 0), (6, .v (.bool true)), (7, .v (.int .i64 p.1.2))] [(0, .ptr 0 0), (1, .mp 1)] [.cells [.mp 1], .map s.es s.cl, .cells [.v (.int .i64 k), .v (.int .i64 id), .v (.int .i64 par), .v (sv nm), .v (.bool dir), .sl 0 3 (comps ops)], .cells [.v (.int .i64 (gN s.l id).id), .v (.int .i64 (gN s.l id).par), .v (sv (gN s.l id).nm), .v (.bool (gN s.l id).dir), .v (sv (gN s.l id).text)]] [] := ⟨_, fun _ => rfl⟩
  refine vc_labM [(20, [3], [])] hΓ 0 St (fun p => p.1.1) 0 rfl rfl ?_ ?_
  · rintro ⟨⟨q, x⟩, hr, hu, hnm, hh, hd⟩
    simp only at hr hu
    rw [if_neg (by rw [hnm]; decide), if_neg (by rw [hh]; decide), if_neg (fun hc => hc hd)] at e0
    obtain ⟨_, _, hid⟩ := gN_get hh
    rw [hSt]
    simp only
    simp only [goRules, coreRules, tiRules, unRules, AS_of_eq, ← decide_not, seval, mapRules, objRules, labMRules, tsRules]
    (repeat (with_reducible refine And.intro ?_ ?_; focus (first | omega | exact mixed1 | kernel_rfl)))
    by_cases hx : x = id
    · have hup : upB s.l id s.l.length par = true := by
        rw [← hu, hx]
        cases q <;> simp [upB]
      rw [if_pos hup] at e0
      simp only [goRules, coreRules, tiRules, unRules, AS_of_eq, ← decide_not, seval, mapRules, objRules, labMRules, tsRules, hx]
      refine retG_go [0, 1] [] (tsO (some s)) [] (.v (.int .i64 10)) ⟨s, by rw [e0], rfl, rfl, by rw [e0]⟩ ?_
      simp only [goRules, coreRules, tiRules, unRules, AS_of_eq, ← decide_not, seval, mapRules, objRules, tsRules] <;> ((repeat' apply And.intro) <;> first | rfl | omega | trivial)
    by_cases h0 : x = 0
    case neg =>
      cases q with
      | zero => rw [rootB] at hr; simp [h0] at hr
      | succ q =>
        rw [rootB, if_neg h0] at hr
        rw [upB, if_neg hx, if_neg h0] at hu
        simp only [goRules, coreRules, tiRules, unRules, AS_of_eq, ← decide_not, seval, mapRules, objRules, labMRules, tsRules, hx, h0, e1, nA, fieldN_par]
        (repeat (with_reducible refine And.intro ?_ ?_; focus (first | omega | exact mixed1 | kernel_rfl)))
        refine weak_again ⟨(q, (gN s.l x).par), hr, hu, hnm, hh, hd⟩ (by simp only; omega) ?_
        rw [hSt]; refine weakH_go [0, 1, 2, 3] [] ?_
        simp only [goRules, coreRules, tiRules, unRules, AS_of_eq, ← decide_not, seval, mapRules, objRules, tsRules] <;> ((repeat' apply And.intro) <;> first | rfl | omega | trivial)
    subst h0
    have hup : upB s.l id s.l.length par = false := by
      rw [← hu]
      cases q with
      | zero => rw [upB]; simpa using hx
      | succ q => rw [upB, if_neg hx, if_pos rfl]
    rw [if_neg (by rw [hup]; decide)] at e0
    simp only [goRules, coreRules, tiRules, unRules, AS_of_eq, ← decide_not, seval, mapRules, objRules, labMRules, tsRules, hx]
    (repeat (with_reducible refine And.intro ?_ ?_; focus (first | omega | exact mixed1 | kernel_rfl)))
    refine call_tchild (s := s) (o := 0) (ob := 1) (by simp [get_cons, get_nil]) hi hpos (by simp [TreeAt]) ?_
    simp only [goRules, coreRules, tiRules, unRules, AS_of_eq, ← decide_not, seval, mapRules, objRules, labMRules, tsRules]
    (repeat (with_reducible refine And.intro ?_ ?_; focus (first | omega | exact mixed1 | kernel_rfl)))
    have fin : ¬ (0 < kid par nm s.l ∧ kid par nm s.l ≠ id) → movN s.l ⟨k, id, par, nm, dir, ops⟩ = (setT ⟨id, par, nm, (gN s.l id).dir, (gN s.l id).text⟩ s.l, 0) := fun hc => by rw [e0, if_neg hc]
    have hgid : (gN s.l id).id = id := by rw [(gN_get hh).2.1, hid]
    obtain ⟨es', cl', p1, p2⟩ := put_tm s.h ⟨id, par, nm, (gN s.l id).dir, (gN s.l id).text⟩
    simp only [nV] at p1
    by_cases hk : 0 < kid par nm s.l
    · by_cases hk2 : kid par nm s.l = id
      · have e3 := fin (fun hc => hc.2 hk2)
        have hm : max 0 (kid par nm s.l) = id := by rw [Int.max_eq_right (by omega), hk2]
        rw [hk2] at hk hm
        simp only [goRules, coreRules, tiRules, unRules, AS_of_eq, ← decide_not, seval, mapRules, objRules, labMRules, wideRules, tsRules, hk2, hk, hm, hgid, p1]
        (repeat (with_reducible refine And.intro ?_ ?_; focus (first | omega | exact mixed1 | kernel_rfl)))
        refine retG_go [0, 1] [] (tsO (some ⟨es', cl', _, p2⟩)) [] (.v (.int .i64 0)) ⟨⟨es', cl', _, p2⟩, by rw [e3], rfl, rfl, by rw [e3]⟩ ?_
        simp only [goRules, coreRules, tiRules, unRules, AS_of_eq, ← decide_not, seval, mapRules, objRules, tsRules] <;> ((repeat' apply And.intro) <;> first | rfl | omega | trivial)
      · rw [if_pos ⟨hk, hk2⟩] at e0
        have hm : max 0 (kid par nm s.l) = kid par nm s.l := by rw [Int.max_eq_right (by omega)]
        simp only [goRules, coreRules, tiRules, unRules, AS_of_eq, ← decide_not, seval, mapRules, objRules, labMRules, tsRules, hk, hm, hk2]
        refine retG_go [0, 1] [] (tsO (some s)) [] (.v (.int .i64 6)) ⟨s, by rw [e0], rfl, rfl, by rw [e0]⟩ ?_
        simp only [goRules, coreRules, tiRules, unRules, AS_of_eq, ← decide_not, seval, mapRules, objRules, tsRules] <;> ((repeat' apply And.intro) <;> first | rfl | omega | trivial)
    · have e3 := fin (fun hc => hk hc.1)
      simp only [goRules, coreRules, tiRules, unRules, AS_of_eq, ← decide_not, seval, mapRules, objRules, labMRules, wideRules, tsRules, hk, hgid, p1]
      (repeat (with_reducible refine And.intro ?_ ?_; focus (first | omega | exact mixed1 | kernel_rfl)))
      refine retG_go [0, 1] [] (tsO (some ⟨es', cl', _, p2⟩)) [] (.v (.int .i64 0)) ⟨⟨es', cl', _, p2⟩, by rw [e3], rfl, rfl, by rw [e3]⟩ ?_
      simp only [goRules, coreRules, tiRules, unRules, AS_of_eq, ← decide_not, seval, mapRules, objRules, tsRules] <;> ((repeat' apply And.intro) <;> first | rfl | omega | trivial)
  · simp only [goRules, coreRules, tiRules, unRules, AS_of_eq, ← decide_not, seval, mapRules, objRules, labMRules, tsRules]
    (repeat (with_reducible refine And.intro ?_ ?_; focus (first | omega | exact mixed1 | kernel_rfl)))
    refine call_name (by simp [get_cons]) hn ?_
    rcases Bool.eq_false_or_eq_true (nameOk nm) with hnm | hnm
    case inr =>
      rw [if_pos hnm] at e0
      simp only [goRules, coreRules, tiRules, unRules, AS_of_eq, ← decide_not, seval, mapRules, objRules, labMRules, tsRules, hnm]
      refine retG_go [0, 1] [] (tsO (some s)) [] (.v (.int .i64 1)) ⟨s, by rw [e0], rfl, rfl, by rw [e0]⟩ ?_
      simp only [goRules, coreRules, tiRules, unRules, AS_of_eq, ← decide_not, seval, mapRules, objRules, tsRules] <;> ((repeat' apply And.intro) <;> first | rfl | omega | trivial)
    rw [if_neg (by rw [hnm]; decide)] at e0
    simp only [goRules, coreRules, tiRules, unRules, AS_of_eq, ← decide_not, seval, mapRules, objRules, labMRules, tsRules, hnm, e1, nA]
    (repeat (with_reducible refine And.intro ?_ ?_; focus (first | omega | exact mixed1 | kernel_rfl)))
    rcases Bool.eq_false_or_eq_true (hasN s.l id) with hh | hh
    case inr =>
      rw [if_pos hh] at e0
      simp only [goRules, coreRules, tiRules, unRules, AS_of_eq, ← decide_not, seval, mapRules, objRules, labMRules, tsRules, hh]
      refine retG_go [0, 1] [] (tsO (some s)) [] (.v (.int .i64 5)) ⟨s, by rw [e0], rfl, rfl, by rw [e0]⟩ ?_
      simp only [goRules, coreRules, tiRules, unRules, AS_of_eq, ← decide_not, seval, mapRules, objRules, tsRules] <;> ((repeat' apply And.intro) <;> first | rfl | omega | trivial)
    rw [if_neg (by rw [hh]; decide)] at e0
    simp only [goRules, coreRules, tiRules, unRules, AS_of_eq, ← decide_not, seval, mapRules, objRules, labMRules, tsRules, hh]
    refine call_tdir (s := s) (o := 0) (ob := 1) (by simp [get_cons, get_nil]) (by simp [TreeAt, upd]) ?_
    simp only [goRules, coreRules, tiRules, unRules, AS_of_eq, ← decide_not, seval, mapRules, objRules, labMRules, tsRules]
    (repeat (with_reducible refine And.intro ?_ ?_; focus (first | omega | exact mixed1 | kernel_rfl)))
    by_cases hd : dirI s.l par = 0
    case neg =>
      rw [if_pos hd] at e0
      simp only [goRules, coreRules, tiRules, unRules, AS_of_eq, ← decide_not, seval, mapRules, objRules, labMRules, tsRules, hd]
      refine retG_go [0, 1] [] (tsO (some s)) [] (.v (.int .i64 (dirI s.l par))) ⟨s, by rw [e0], rfl, rfl, by rw [e0]⟩ ?_
      simp only [goRules, coreRules, tiRules, unRules, AS_of_eq, ← decide_not, seval, mapRules, objRules, tsRules] <;> ((repeat' apply And.intro) <;> first | rfl | omega | trivial)
    simp only [goRules, coreRules, tiRules, unRules, AS_of_eq, ← decide_not, seval, mapRules, objRules, labMRules, tsRules, hd]
    (repeat (with_reducible refine And.intro ?_ ?_; focus (first | omega | exact mixed1 | kernel_rfl)))
    refine ⟨⟨(s.l.length, par), rt_of hrt hd, rfl, hnm, hh, hd⟩, ?_⟩
    rw [hSt]; refine weakH_go [0, 1, 2, 3] [] ?_
    simp only [goRules, coreRules, tiRules, unRules, AS_of_eq, ← decide_not, seval, mapRules, objRules, tsRules] <;> ((repeat' apply And.intro) <;> first | rfl | omega | trivial)
/-- What an edit does. -/
def ediN (l : List Nd) (a : Ac) : List Nd × Int :=
  if hasN l a.id = false then (l, 5)
  else if (gN l a.id).dir = true then (l, 8)
  else if errI (gN l a.id).text a.ops ≠ 0 then (l, errI (gN l a.id).text a.ops)
  else if (totN l : Int) - cnt (gN l a.id).text + cnt (doneB (gN l a.id).text a.ops) > 10000 then (l, 4)
  else (setT ⟨a.id, (gN l a.id).par, (gN l a.id).nm, (gN l a.id).dir, doneB (gN l a.id).text a.ops⟩ l, 0)
abbrev tediCon : ConO where
  ι := { p : TS × Ac // trOk p.1.l ∧ okL p.2.ops }
  objs := fun p => tsO (some p.1.1)
  args := fun p => [.ptr 0 0, aA p.1.2]
  post := fun p => mutP p.1.1 (ediN p.1.1.l p.1.2)
set_option maxHeartbeats 4000000 in
theorem tedi_good : GoodO Tryd.prog 14 tediCon := by
  have hΓ : GoodEnv Tryd.prog [(25, doCon), (26, countCon)] := (goodEnv_cons do_good (goodEnv_cons count_good goodEnv_nil))
  refine goodO_fna (nn := 67) Tryd.func14 (by kernel_rfl) rfl (show Tryd.f14.results.toList = [.tmp 4] from rfl) (fun _ => rfl) ?_
  rintro ⟨⟨s, a⟩, ⟨hi, hpos, hw⟩, oa⟩
  obtain ⟨k, id, par, nm, dir, ops⟩ := a
  simp only at hi hpos oa hw
  refine vcM_ok hΓ (Ws := []) _ ?_
  have e1 := look_tm s.h
  have e2 := size_tm s.h
  have e0 : ediN s.l ⟨k, id, par, nm, dir, ops⟩ = if hasN s.l id = false then (s.l, 5) else if (gN s.l id).dir = true then (s.l, 8) else if errI (gN s.l id).text ops ≠ 0 then (s.l, errI (gN s.l id).text ops) else if (totN s.l : Int) - cnt (gN s.l id).text + cnt (doneB (gN s.l id).text ops) > 10000 then (s.l, 4) else (setT ⟨id, (gN s.l id).par, (gN s.l id).nm, (gN s.l id).dir, doneB (gN s.l id).text ops⟩ s.l, 0) := rfl
  simp only [goRules, coreRules, tiRules, unRules, AS_of_eq, ← decide_not, seval, mapRules, objRules, tsRules, aA, e1, nA]
  (repeat (with_reducible refine And.intro ?_ ?_; focus (first | omega | exact mixed1 | kernel_rfl)))
  rcases Bool.eq_false_or_eq_true (hasN s.l id) with hh | hh
  case inr =>
    rw [if_pos hh] at e0
    simp only [goRules, coreRules, tiRules, unRules, AS_of_eq, ← decide_not, seval, mapRules, objRules, tsRules, hh]
    refine retG_go [0, 1] [] (tsO (some s)) [] (.v (.int .i64 5)) ⟨s, by rw [e0], rfl, rfl, by rw [e0]⟩ ?_
    simp only [goRules, coreRules, tiRules, unRules, AS_of_eq, ← decide_not, seval, mapRules, objRules, tsRules] <;> ((repeat' apply And.intro) <;> first | rfl | omega | trivial)
  rw [if_neg (by rw [hh]; decide)] at e0
  obtain ⟨h1, h2, hid⟩ := gN_get hh
  have hgid : (gN s.l id).id = id := by rw [h2, hid]
  have hmem : gN s.l id ∈ s.l := by rw [h2]; exact List.getElem_mem h1
  have htx := hw.2 _ hmem
  obtain ⟨es', cl', p1, p2⟩ := put_tm s.h ⟨id, (gN s.l id).par, (gN s.l id).nm, (gN s.l id).dir, doneB (gN s.l id).text ops⟩
  simp only [nV] at p1
  have hcl := cnt_le (gN s.l id).text
  have hdl := (stp_puts (gN s.l id).text ops).2
  have hcd := cnt_le (doneB (gN s.l id).text ops)
  have hc1 := countR_cnt (gN s.l id).text
  have hc2 := countR_cnt (doneB (gN s.l id).text ops)
  generalize gN s.l id = x at *
  obtain ⟨xid, xpar, xnm, xdir, xtx⟩ := x
  simp only at *
  subst hgid
  simp only [goRules, coreRules, tiRules, unRules, AS_of_eq, ← decide_not, seval, mapRules, objRules, tsRules, hh]
  cases xdir
  case true =>
    rw [if_pos rfl] at e0
    simp only [goRules, coreRules, tiRules, unRules, AS_of_eq, ← decide_not, seval, mapRules, objRules, tsRules]
    refine retG_go [0, 1] [] (tsO (some s)) [] (.v (.int .i64 8)) ⟨s, by rw [e0], rfl, rfl, by rw [e0]⟩ ?_
    simp only [goRules, coreRules, tiRules, unRules, AS_of_eq, ← decide_not, seval, mapRules, objRules, tsRules] <;> ((repeat' apply And.intro) <;> first | rfl | omega | trivial)
  rw [if_neg (by decide)] at e0
  simp only [goRules, coreRules, tiRules, unRules, AS_of_eq, ← decide_not, seval, mapRules, objRules, tsRules]
  (repeat (with_reducible refine And.intro ?_ ?_; focus (first | omega | exact mixed1 | kernel_rfl)))
  refine call_do (by simp [get_cons]) rfl htx oa ?_
  simp only [goRules, coreRules, tiRules, unRules, AS_of_eq, ← decide_not, seval, mapRules, objRules, tsRules, doR, res2]
  (repeat (with_reducible refine And.intro ?_ ?_; focus (first | omega | exact mixed1 | kernel_rfl)))
  by_cases he : errI xtx ops = 0
  case neg =>
    rw [if_pos he] at e0
    simp only [goRules, coreRules, tiRules, unRules, AS_of_eq, ← decide_not, seval, mapRules, objRules, tsRules, he]
    refine retG_go [0, 1] [] (tsO (some s)) [] (.v (.int .i64 (errI xtx ops))) ⟨s, by rw [e0], rfl, rfl, by rw [e0]⟩ ?_
    simp only [goRules, coreRules, tiRules, unRules, AS_of_eq, ← decide_not, seval, mapRules, objRules, tsRules] <;> ((repeat' apply And.intro) <;> first | rfl | omega | trivial)
  rw [if_neg (fun hc => hc he)] at e0
  simp only [goRules, coreRules, tiRules, unRules, AS_of_eq, ← decide_not, seval, mapRules, objRules, tsRules, he]
  (repeat (with_reducible refine And.intro ?_ ?_; focus (first | omega | exact mixed1 | kernel_rfl)))
  refine call_count (by simp [get_cons]) htx ?_
  simp only [goRules, coreRules, tiRules, unRules, AS_of_eq, ← decide_not, seval, mapRules, objRules, tsRules, hc1]
  (repeat (with_reducible refine And.intro ?_ ?_; focus (first | omega | exact mixed1 | kernel_rfl)))
  refine call_count (by simp [get_cons]) (by omega) ?_
  simp only [goRules, coreRules, tiRules, unRules, AS_of_eq, ← decide_not, seval, mapRules, objRules, tsRules, hc2]
  (repeat (with_reducible refine And.intro ?_ ?_; focus (first | omega | exact mixed1 | kernel_rfl)))
  refine call_tall (s := s) (o := 0) (ob := 1) (by simp [get_cons, get_nil]) hw (by simp [TreeAt, upd]) ?_
  have hw1 := hw.1
  simp only [goRules, coreRules, tiRules, unRules, AS_of_eq, ← decide_not, seval, mapRules, objRules, tsRules, wrap_i64 (n := (totN s.l : Int) - cnt xtx) (by omega) (by omega), wrap_i64 (n := (totN s.l : Int) - cnt xtx + cnt (doneB xtx ops)) (by omega) (by omega)]
  (repeat (with_reducible refine And.intro ?_ ?_; focus (first | omega | exact mixed1 | kernel_rfl)))
  by_cases hb : (totN s.l : Int) - cnt xtx + cnt (doneB xtx ops) > 10000
  · rw [if_pos hb] at e0
    simp only [goRules, coreRules, tiRules, unRules, AS_of_eq, ← decide_not, seval, mapRules, objRules, tsRules, hb]
    refine retG_go [0, 1] [] (tsO (some s)) [] (.v (.int .i64 4)) ⟨s, by rw [e0], rfl, rfl, by rw [e0]⟩ ?_
    simp only [goRules, coreRules, tiRules, unRules, AS_of_eq, ← decide_not, seval, mapRules, objRules, tsRules] <;> ((repeat' apply And.intro) <;> first | rfl | omega | trivial)
  · rw [if_neg hb] at e0
    simp only [goRules, coreRules, tiRules, unRules, AS_of_eq, ← decide_not, seval, mapRules, objRules, tsRules, hb, p1]
    (repeat (with_reducible refine And.intro ?_ ?_; focus (first | omega | exact mixed1 | kernel_rfl)))
    refine retG_go [0, 1] [] (tsO (some ⟨es', cl', _, p2⟩)) [] (.v (.int .i64 0)) ⟨⟨es', cl', _, p2⟩, by rw [e0], rfl, rfl, by rw [e0]⟩ ?_
    simp only [goRules, coreRules, tiRules, unRules, AS_of_eq, ← decide_not, seval, mapRules, objRules, tsRules] <;> ((repeat' apply And.intro) <;> first | rfl | omega | trivial)
end Go.Proofs
end

-- FTrLs
section
namespace Go.Proofs
open Go.Shelf
def Tryd.sortN_ren : Go.Shelf.Ren := ⟨fun | 6 => 32 | 15 => 40 | 14 => 42 | 28 => 57 | 29 => 58 | 20 => 59 | 21 => 60 | 22 => 61 | 23 => 62 | 24 => 63 | 25 => 64 | 26 => 65 | 27 => 66 | 46 => 78 | 47 => 73 | 48 => 74 | 49 => 79 | 50 => 80 | 57 => 85 | n => n, fun | 22 => 33 | 24 => 39 | 25 => 69 | 3 => 3 | 39 => 78 | 0 => 0 | 53 => 93 | 55 => 95 | 4 => 4 | 46 => 87 | 45 => 86 | 50 => 58 | 5 => 5 | 9 => 9 | 66 => 107 | 70 => 111 | 76 => 117 | 77 => 118 | n => n, fun | n => n⟩
theorem Tryd.sortN : Go.Proofs.SlLaysF0.n6 Tryd.prog Tryd.sortN_ren where
  mixed := by kernel_rfl
  f6 := ⟨"slices.SortFunc[[]ropewalk/api.Node,ropewalk/api.Node]", by decide, Tryd.func32.trans (congrArg some (by kernel_rfl))⟩
  f14 := ⟨"slices.pdqsortCmpFunc[ropewalk/api.Node]", by decide, Tryd.func42.trans (congrArg some (by kernel_rfl))⟩
  f15 := Tryd.func40.trans (congrArg some (by kernel_rfl))
  f20 := ⟨"slices.insertionSortCmpFunc[ropewalk/api.Node]", by decide, Tryd.func59.trans (congrArg some (by kernel_rfl))⟩
  f21 := ⟨"slices.heapSortCmpFunc[ropewalk/api.Node]", by decide, Tryd.func60.trans (congrArg some (by kernel_rfl))⟩
  f22 := ⟨"slices.breakPatternsCmpFunc[ropewalk/api.Node]", by decide, Tryd.func61.trans (congrArg some (by kernel_rfl))⟩
  f23 := ⟨"slices.choosePivotCmpFunc[ropewalk/api.Node]", by decide, Tryd.func62.trans (congrArg some (by kernel_rfl))⟩
  f24 := ⟨"slices.reverseRangeCmpFunc[ropewalk/api.Node]", by decide, Tryd.func63.trans (congrArg some (by kernel_rfl))⟩
  f25 := ⟨"slices.partialInsertionSortCmpFunc[ropewalk/api.Node]", by decide, Tryd.func64.trans (congrArg some (by kernel_rfl))⟩
  f26 := ⟨"slices.partitionEqualCmpFunc[ropewalk/api.Node]", by decide, Tryd.func65.trans (congrArg some (by kernel_rfl))⟩
  f27 := ⟨"slices.partitionCmpFunc[ropewalk/api.Node]", by decide, Tryd.func66.trans (congrArg some (by kernel_rfl))⟩
  f28 := Tryd.func57.trans (congrArg some (by kernel_rfl))
  f29 := Tryd.func58.trans (congrArg some (by kernel_rfl))
  f46 := ⟨"slices.siftDownCmpFunc[ropewalk/api.Node]", by decide, Tryd.func78.trans (congrArg some (by kernel_rfl))⟩
  f47 := Tryd.func73.trans (congrArg some (by kernel_rfl))
  f48 := Tryd.func74.trans (congrArg some (by kernel_rfl))
  f49 := ⟨"slices.medianAdjacentCmpFunc[ropewalk/api.Node]", by decide, Tryd.func79.trans (congrArg some (by kernel_rfl))⟩
  f50 := ⟨"slices.medianCmpFunc[ropewalk/api.Node]", by decide, Tryd.func80.trans (congrArg some (by kernel_rfl))⟩
  f57 := ⟨"slices.order2CmpFunc[ropewalk/api.Node]", by decide, Tryd.func85.trans (congrArg some (by kernel_rfl))⟩
  t0 := Tryd.underlying0
  a0 := Tryd.isAgg0
  z0 := Tryd.sizeOf0
  v0 := Tryd.zeroValue0
  t3 := Tryd.underlying3
  a3 := Tryd.isAgg3
  z3 := Tryd.sizeOf3
  v3 := Tryd.zeroValue3
  t4 := Tryd.underlying4
  a4 := Tryd.isAgg4
  z4 := Tryd.sizeOf4
  v4 := Tryd.zeroValue4
  t5 := Tryd.underlying5
  a5 := Tryd.isAgg5
  z5 := Tryd.sizeOf5
  v5 := Tryd.zeroValue5
  t9 := Tryd.underlying9
  a9 := Tryd.isAgg9
  z9 := Tryd.sizeOf9
  v9 := Tryd.zeroValue9
  t22 := Tryd.underlying33
  a22 := Tryd.isAgg33
  z22 := Tryd.sizeOf33
  v22 := Tryd.zeroValue33
  t25 := Tryd.underlying69
  a25 := Tryd.isAgg69
  z25 := Tryd.sizeOf69
  v25 := Tryd.zeroValue69
  t39 := Tryd.underlying78
  a39 := Tryd.isAgg78
  z39 := Tryd.sizeOf78
  v39 := Tryd.zeroValue78
  t45 := Tryd.underlying86
  a45 := Tryd.isAgg86
  z45 := Tryd.sizeOf86
  v45 := Tryd.zeroValue86
  t46 := Tryd.underlying87
  a46 := Tryd.isAgg87
  z46 := Tryd.sizeOf87
  v46 := Tryd.zeroValue87
  t50 := Tryd.underlying58
  a50 := Tryd.isAgg58
  z50 := Tryd.sizeOf58
  v50 := Tryd.zeroValue58
  t53 := Tryd.underlying93
  a53 := Tryd.isAgg93
  z53 := Tryd.sizeOf93
  v53 := Tryd.zeroValue93
  t55 := Tryd.underlying95
  a55 := Tryd.isAgg95
  z55 := Tryd.sizeOf95
  v55 := Tryd.zeroValue95
  t66 := Tryd.underlying107
  a66 := Tryd.isAgg107
  z66 := Tryd.sizeOf107
  v66 := Tryd.zeroValue107
  t70 := Tryd.underlying111
  a70 := Tryd.isAgg111
  z70 := Tryd.sizeOf111
  v70 := Tryd.zeroValue111
  t76 := Tryd.underlying117
  a76 := Tryd.isAgg117
  z76 := Tryd.sizeOf117
  v76 := Tryd.zeroValue117
  t77 := Tryd.underlying118
  a77 := Tryd.isAgg118
  z77 := Tryd.sizeOf118
  v77 := Tryd.zeroValue118
end Go.Proofs
end

-- FTr6
section
namespace Go.Proofs
open Go Go.Shelf Go.RowKit Go.Lib Go.Sort
set_option maxRecDepth 100000
set_option linter.unusedSimpArgs false
set_option linter.unusedVariables false

theorem bytesLess_lt : ∀ (x y : List UInt8), Op.bytesLess x y = decide (x < y)
  | [], [] => by simp [Op.bytesLess]
  | _ :: _, [] => by simp [Op.bytesLess]
  | [], _ :: _ => by simp [Op.bytesLess]
  | a :: x, b :: y => by
    rw [Op.bytesLess, bytesLess_lt x y]
    simp only [List.cons_lt_cons_iff]
    by_cases h1 : a < b <;> by_cases h2 : a = b <;> by_cases h3 : x < y <;> simp [h1, h2, h3]
/-- Names, held against each other. -/
def cmpB (x y : List UInt8) : Int := if x < y then -1 else if y < x then 1 else 0
theorem cmpB_neg (x y : List UInt8) : cmpB x y < 0 ↔ x < y := by
  unfold cmpB
  by_cases h : x < y
  · simp [h]
  · rw [if_neg h]
    split <;> simp [h]
theorem ltOf_cmpB : ltOf cmpB = ltStr := by
  funext x y
  exact decide_eq_decide.2 (cmpB_neg x y)
theorem swo_cmpB : SWO (ltOf cmpB) := by rw [ltOf_cmpB]; exact swo_ltStr
@[go_sem] theorem binOp_string_gtr_tr (t : TypeId) (a b : ByteArray) : binOp .gtr t (.string a) (.string b) = pure (.bool !(Op.bytesLess a.toList b.toList || a.toList == b.toList)) := by simp [binOp, Op.stringOp]
theorem list5 {x : List Value} (h : x.length = 5) : ∃ a b c d e, x = [a, b, c, d, e] := by
  match x, h with
  | [a, b, c, d, e], _ => exact ⟨a, b, c, d, e, rfl⟩
theorem isNaN_str (x : ByteArray) (w : World) : Calls Tryd.prog 43 #[.string x] w fun e w' => e = .returned (.bool false) ∧ w' = w := by
  go_enter Tryd.func43, Tryd.ntmps43
  go_wp2
  go_ret
  exact ⟨by simp, rfl⟩
set_option maxHeartbeats 1000000 in
theorem cmp_str (a b : List UInt8) (w : World) : Calls Tryd.prog 34 #[Rw.sv a, Rw.sv b] w fun e w' => e = .returned (.int .i64 (cmpB a b)) ∧ w' = w := by
  unfold Rw.sv
  go_enter Tryd.func34, Tryd.ntmps34
  go_wp2_with (go_at_call 43; refine (isNaN_str _ _).mono ?_; rintro e w' ⟨rfl, hw⟩; rw [hw])
  all_goals (rename_i hb; go_ret; refine ⟨?_, by first | assumption | rfl⟩)
  · rw [bytesLess_lt] at hb
    simp only [cmpB, if_pos (of_decide_eq_true hb)]; rfl
  · rename_i hl _ _
    rw [bytesLess_lt] at hl
    have h1 : ¬ a < b := of_decide_eq_false hl
    have h2 : a ≠ b := by simpa using hb
    have h3 : b < a := by
      rcases Classical.em (b < a) with h4 | h4
      · exact h4
      · exact absurd (List.le_antisymm (List.not_lt.1 h4) (List.not_lt.1 h1)) h2
    simp only [cmpB, if_neg h1, if_pos h3]; rfl
  · rename_i hl
    rw [bytesLess_lt] at hl
    have h1 : ¬ a < b := of_decide_eq_false hl
    have h2 : a = b := by simpa using hb
    subst h2
    simp only [cmpB, if_neg h1]; rfl
set_option maxHeartbeats 1000000 in
theorem cmpN : Rw.CmpAt Tryd.prog 33 5 2 Rw.sv cmpB := by
  intro x y a b W hx hy ox oy ha hb
  obtain ⟨x0, x1, x2, x3, x4, rfl⟩ := list5 hx
  obtain ⟨y0, y1, y2, y3, y4, rfl⟩ := list5 hy
  simp only [List.getD_cons_zero, List.getD_cons_succ] at ha hb
  subst ha hb
  simp only [List.mem_cons, List.not_mem_nil, or_false, forall_eq_or_imp, forall_eq] at ox oy
  obtain ⟨p0, p1, p2, p3, p4⟩ := ox
  obtain ⟨q0, q1, q2, q3, q4⟩ := oy
  have hcon := fun W' => cmp_str a b W'
  generalize cmpB a b = r at hcon ⊢
  clear hx hy
  simp only [Rw.sv] at *
  go_enter Tryd.func33, Tryd.ntmps33
  go_wp2_with (go_at_call 34; refine (hcon _).mono ?_; rintro e w' ⟨rfl, rfl⟩)
  go_ret
  exact ⟨rfl, 0, _, by rw [alloc_eq_grow, alloc_eq_grow, grow_grow]; rfl⟩
end Go.Proofs
end

-- FTr7
section
namespace Go.Proofs
open Go Go.Rw
set_option maxRecDepth 100000
set_option linter.unusedSimpArgs false
set_option linter.unusedVariables false

def kept (par : Int) (l : List Nd) : List Nd := l.filter fun x => decide (x.par = par)
/-- The first that goes. -/
def goI (par : Int) : List Nd → Nat
  | [] => 0
  | x :: r => if x.par = par then goI par r + 1 else 0
theorem goI_le (par : Int) : ∀ l, goI par l ≤ l.length
  | [] => Nat.le_refl _
  | x :: r => by rw [goI]; split <;> have := goI_le par r <;> simp <;> omega
theorem goI_all (par : Int) : ∀ l, goI par l = l.length → kept par l = l
  | [], _ => rfl
  | x :: r, h => by
    rw [goI] at h
    split at h
    · rename_i hx
      have := goI_all par r (by simpa using h)
      unfold kept at *
      rw [List.filter_cons, if_pos (by simpa using hx), this]
    · simp at h
theorem goI_take (par : Int) : ∀ l : List Nd, kept par (l.take (goI par l + 1)) = l.take (goI par l)
  | [] => rfl
  | x :: r => by
    rw [goI]
    split
    · rename_i hx
      have := goI_take par r
      rw [List.take_succ_cons, List.take_succ_cons, kept, List.filter_cons, if_pos (by simpa using hx)]
      exact congrArg _ this
    · rename_i hx
      simp [kept, hx]
abbrev DelT (par : Int) (xs : List Nd) := { p : List Nd × Nat × Nat // p.1.length = xs.length ∧ p.2.1 < p.2.2 ∧ p.2.2 ≤ xs.length ∧ p.1.take p.2.1 = kept par (xs.take p.2.2) ∧ p.1.drop p.2.2 = xs.drop p.2.2 }
abbrev IdxT (par : Int) (xs : List Nd) := { j : Nat // j ≤ xs.length ∧ goI par xs = j + goI par (xs.drop j) }
section
variable {Γ : Env} {n : Nat} {t : Nat → AV} {hd : Nat → Nat → AV} {d : Option Nat} {K : AS → Prop}
variable {nh nl : Nat} {h : Nat → Option AO} {fm : Nat → Nat} {lv : Nat → Option (Nat × Nat)}
set_option maxHeartbeats 1000000 in
theorem call_del (hΓ : GoodEnv Tryd.prog Γ) (hC : Γ.get 30 = none) (hC2 : Γ.get 41 = none) (hC3 : Γ.get 31 = none) {xs : List Nd} {l o : Nat} {par : Int} (hl2 : 2 ≤ l) (hlv : lv l = some (xs.length, 39)) (hlen : xs.length ≤ 1000000)
    (hob : h o = some (.cells [.v (.int .i64 par)])) (hb : ∀ o x, h o = some x → o < nh)
    (hk : ∀ k' h', nh ≤ k' → HasO (cutO fm l h) h' → cont ⟨n, cutT fm l t, cutH fm l hd, ⟨k', h', nl, fm, upd lv l (some ((kept par xs).length, 39)), true⟩⟩ d (.sl l 5 (nodes (kept par xs))) K) :
    vcCall Tryd.prog Γ false ⟨n, t, hd, ⟨nh, h, nl, fm, lv, true⟩⟩ 30 [.sl l 5 (nodes xs), .fn 31 [.ptr o 0]] d K := by
  have hob' : cutO fm l h o = some (.cells [.v (.int .i64 par)]) := by simp only [cutO, hob]; rfl
  have hb' : ∀ o x, cutO fm l h o = some x → o < nh := fun o x hx => by
    obtain ⟨y, hy, _⟩ := Option.map_eq_some_iff.1 hx
    exact hb o y hy
  have hlt := hb o _ hob
  refine vcCall_inlM (nn := 42) hΓ [(11, [0, 0], []), (12, [0, 0, 0, 0, 0, 0], [])] (by first | assumption | simp [get_cons, get_nil]) Tryd.func30 (by kernel_rfl) rfl (show Tryd.f30.results.toList = [.tmp 4] from rfl) rfl ?_
  simp only [goRules, coreRules, tiRules, unRules, AS_of_eq, ← decide_not, seval, mapRules, objRules,]
  refine vcCall_inlM (nn := 19) hΓ [] (by first | assumption | simp [get_cons, get_nil]) Tryd.func41 (by kernel_rfl) rfl (show Tryd.f41.results.toList = [.tmp 4] from rfl) rfl ?_
  simp only [goRules, coreRules, tiRules, unRules, AS_of_eq, ← decide_not, seval, mapRules, objRules, nodes_len]
  refine loop_cut l ?_
  refine vc_loop_keepM [] hΓ (fun i : IdxT par xs => [(0, .sl l 5 (nodes xs)), (1, .fn 31 [.ptr o 0]), (7, .v (.int .i64 xs.length)), (8, .v (.int .i64 i.1))]) (fun i => xs.length - i.1) ⟨0, Nat.zero_le _, by simp⟩ (by simp only [goRules, coreRules, tiRules, unRules, AS_of_eq, ← decide_not, seval, mapRules, objRules,] <;> ((repeat' apply And.intro) <;> first | rfl | omega | trivial)) (fun _ _ hx => hx) ?_
  rintro ⟨i, hi, hn⟩ q hq
  simp only
  simp only [goRules, coreRules, tiRules, unRules, AS_of_eq, ← decide_not, seval, mapRules, objRules, nodes_len]
  have hoq : (o = q) = False := eq_false (by omega)
  (with_reducible first | refine branchP_dec (fun h1 => ?_) (fun h1 => ?_) | refine guardB_dec (fun h1 => ?_) (fun h1 => ?_))
  · have hlt2 : i < xs.length := by omega
    have e1 := nodes_getD xs hlt2
    rw [List.drop_eq_getElem_cons hlt2, goI] at hn
    generalize xs[i] = x at *
    simp only [goRules, coreRules, tiRules, unRules, AS_of_eq, ← decide_not, seval, mapRules, objRules, h1, e1, nA, nodes_len]
    (repeat (with_reducible refine And.intro ?_ ?_; focus (first | omega | exact mixed1 | kernel_rfl)))
    refine vcCall_inlM (nn := 8) hΓ [] (by first | assumption | simp [get_cons, get_nil]) Tryd.func31 (by kernel_rfl) rfl (show Tryd.f31.results.toList = [.tmp 3] from rfl) rfl ?_
    simp only [goRules, coreRules, tiRules, unRules, AS_of_eq, ← decide_not, seval, mapRules, objRules, nA, hob', hoq]
    (repeat (with_reducible refine And.intro ?_ ?_; focus (first | omega | exact mixed1 | kernel_rfl)))
    by_cases hx : x.par = par
    · rw [if_pos hx] at hn
      simp only [goRules, coreRules, tiRules, unRules, AS_of_eq, ← decide_not, seval, mapRules, objRules, hx, wrap_i64 (n := (i : Int) + 1) (by omega) (by omega)]
      refine keep_endM ⟨i + 1, by omega, by omega⟩ (by simp only; omega) (by omega) ?_ (HasO.new ?_ HasO.refl) rfl ⟨rfl, rfl⟩
      · simp only [goRules, coreRules, tiRules, unRules, AS_of_eq, ← decide_not, seval, mapRules, objRules,] <;> ((repeat' apply And.intro) <;> first | rfl | omega | trivial)
      · intro o x h; have := hb' o x h; omega
    · rw [if_neg hx] at hn
      simp only [goRules, coreRules, tiRules, unRules, AS_of_eq, ← decide_not, seval, mapRules, objRules, hx, show ((i : Int) = -1) = False from eq_false (by omega), wrap_i64 (n := (i : Int) + 1) (by omega) (by omega)]
      have hgi : goI par xs = i := by omega
      have hk0 := goI_take par xs
      rw [hgi] at hk0
      have hn2 : nh ≤ q + 1 := by omega
      refine vc_loop_keepM [(11, [0, 0], []), (12, [0, 0, 0, 0, 0, 0], [])] hΓ (nh := q + 1) (h := cutO fm l h) (fun p : DelT par xs => [(0, .sl l 5 (nodes p.1.1)), (1, .fn 31 [.ptr o 0]), (5, .v (.int .i64 p.1.2.1)), (6, .v (.int .i64 p.1.2.2))]) (fun p => xs.length - p.1.2.2) ⟨(xs, i, i + 1), rfl, by simp only; omega, by simp only; omega, hk0.symm, rfl⟩ (by simp only [goRules, coreRules, tiRules, unRules, AS_of_eq, ← decide_not, seval, mapRules, objRules,] <;> ((repeat' apply And.intro) <;> first | rfl | omega | trivial)) (HasO.new (fun o x h => by have := hb' o x h; omega) HasO.refl) ?_
      clear hk0 hn2 hn hgi e1
      rintro ⟨⟨ys, i, j⟩, hys, hij, hj, hta, hdr⟩ q2 hq2
      simp only at hys hij hj hta hdr
      have hoq2 : (o = q2) = False := eq_false (by omega)
      have hoq3 : (o = q2 + 1) = False := eq_false (by omega)
      simp only
      simp only [goRules, coreRules, tiRules, unRules, AS_of_eq, ← decide_not, seval, mapRules, objRules, nodes_len]
      (with_reducible first | refine branchP_dec (fun h2 => ?_) (fun h2 => ?_) | refine guardB_dec (fun h2 => ?_) (fun h2 => ?_))
      · have hlt3 : j < xs.length := by omega
        have e4 : ys[j]'(by omega) = xs[j] := by
          have := congrArg (fun l : List Nd => l[0]?) hdr
          simp only [List.getElem?_drop, Nat.add_zero] at this
          rw [List.getElem?_eq_getElem (by omega), List.getElem?_eq_getElem hlt3] at this
          exact Option.some.inj this
        have e5 := nodes_getD ys (i := j) (by omega)
        rw [e4] at e5
        have e6 : kept par (xs.take (j + 1)) = kept par (xs.take j) ++ kept par [xs[j]] := by
          rw [List.take_succ_eq_append_getElem hlt3, kept, List.filter_append]; rfl
        generalize xs[j] = y at *
        simp only [goRules, coreRules, tiRules, unRules, AS_of_eq, ← decide_not, seval, mapRules, objRules, h2, e5, nA, nodes_len, hys]
        (repeat (with_reducible refine And.intro ?_ ?_; focus (first | omega | exact mixed1 | kernel_rfl)))
        refine vcCall_inlM (nn := 8) hΓ [] (by first | assumption | simp [get_cons, get_nil]) Tryd.func31 (by kernel_rfl) rfl (show Tryd.f31.results.toList = [.tmp 3] from rfl) rfl ?_
        simp only [goRules, coreRules, tiRules, unRules, AS_of_eq, ← decide_not, seval, mapRules, objRules, nA, hob', hoq2, hoq3]
        (repeat (with_reducible refine And.intro ?_ ?_; focus (first | omega | exact mixed1 | kernel_rfl)))
        by_cases hy : y.par = par
        · have hk1 : kept par [y] = [y] := by simp [kept, hy]
          have e7 := nodes_getD ys (i := i) (by omega)
          have hq3 : (q2 = q2 + 1) = False := eq_false (by omega)
          have e8 : AV.agg [.v (.int .i64 y.id), .v (.int .i64 par), .v (sv y.nm), .v (.bool y.dir), .v (sv y.text)] = nA y := by rw [← hy]; rfl
          have e9 := nodes_set ys i y
          have hi9 : i < xs.length := by omega
          have e10 : setEl ((nodes ys).getD i .any) 0 [.v (.int .i64 y.id), .v (.int .i64 par), .v (sv y.nm), .v (.bool y.dir), .v (sv y.text)] = nA y := by rw [e7, ← e8]; rfl
          simp only [goRules, coreRules, tiRules, unRules, AS_of_eq, ← decide_not, seval, mapRules, objRules, hy, nA, nodes_len, hys, e5, hq3, hlv, hl2, e9, wrap_i64 (n := (i : Int) + 1) (by omega) (by omega), wrap_i64 (n := (j : Int) + 1) (by omega) (by omega)]
          (repeat (with_reducible refine And.intro ?_ ?_; focus (first | omega | exact mixed1 | kernel_rfl)))
          refine keep_endM ⟨(ys.set i y, i + 1, j + 1), (show (ys.set i y).length = _ by rw [List.length_set]; exact hys), (show i + 1 < j + 1 by omega), (show j + 1 ≤ xs.length by omega), ?_, ?_⟩ (show xs.length - (j + 1) < xs.length - j by omega) (by omega) ?_ ?_ turnH_cut ⟨rfl, rfl⟩
          · show (ys.set i y).take (i + 1) = _
            rw [e6, hk1, ← hta, List.take_succ_eq_append_getElem (by rw [List.length_set]; omega), List.getElem_set_self, List.take_set_of_le (Nat.le_refl _)]
          · show (ys.set i y).drop (j + 1) = _
            have := congrArg (List.drop 1) hdr
            rw [List.drop_drop, List.drop_drop] at this
            rw [List.drop_set, if_pos (by omega)]
            exact this
          · simp only [goRules, coreRules, tiRules, unRules, AS_of_eq, ← decide_not, seval, mapRules, objRules, e9, e10, nodes_len, hys] <;> ((repeat' apply And.intro) <;> first | rfl | omega | trivial)
          · have hbq : ∀ k, nh ≤ k → ∀ o x, cutO fm l h o = some x → o < k := fun k hk o x h => by have := hb' o x h; omega
            repeat' first | exact HasO.refl | refine HasO.turn ?_ | refine HasO.new (hbq _ (by omega)) ?_
        · have hk1 : kept par [y] = [] := by simp [kept, hy]
          rw [hk1, List.append_nil] at e6
          simp only [goRules, coreRules, tiRules, unRules, AS_of_eq, ← decide_not, seval, mapRules, objRules, hy, wrap_i64 (n := (j : Int) + 1) (by omega) (by omega)]
          refine keep_endM ⟨(ys, i, j + 1), hys, (show i < j + 1 by omega), (show j + 1 ≤ xs.length by omega), (show ys.take i = _ by rw [e6, hta]), ?_⟩ (show xs.length - (j + 1) < xs.length - j by omega) (by omega) ?_ ?_ rfl ⟨rfl, rfl⟩
          · have := congrArg (List.drop 1) hdr
            rw [List.drop_drop, List.drop_drop] at this
            exact this
          · simp only [goRules, coreRules, tiRules, unRules, AS_of_eq, ← decide_not, seval, mapRules, objRules,] <;> ((repeat' apply And.intro) <;> first | rfl | omega | trivial)
          · have hbq : ∀ k, nh ≤ k → ∀ o x, cutO fm l h o = some x → o < k := fun k hk o x h => by have := hb' o x h; omega
            repeat' first | exact HasO.refl | refine HasO.turn ?_ | refine HasO.new (hbq _ (by omega)) ?_
      · have hj2 : j = xs.length := by omega
        subst hj2
        rw [List.take_length] at hta
        have hkl : (kept par xs).length = i := by rw [← hta, List.length_take]; omega
        have e11 : ∀ zs : List AV, (nodes (kept par xs) ++ zs).take i = nodes (kept par xs) := fun zs => by
          rw [List.take_append_of_le_length (by rw [nodes_len]; omega), List.take_of_length_le (by rw [nodes_len]; omega)]
        have e12 : i + (xs.length - i) = xs.length := by omega
        simp only [goRules, coreRules, tiRules, unRules, AS_of_eq, ← decide_not, seval, mapRules, objRules, cutRules, h2, nodes_len, hys, hlv, hl2, nodes_take, hta, e11, hkl, List.length_append, List.length_replicate, e12, turnH_cut, cutH_cut]
        (repeat (with_reducible refine And.intro ?_ ?_; focus (first | omega | exact mixed1 | kernel_rfl)))
        rw [hkl] at hk
        exact hk _ _ (by omega) (HasO.cut (HasO.turn HasO.refl))
  · have hi2 : i = xs.length := by omega
    subst hi2
    rw [List.drop_length] at hn
    have e2 := goI_all par xs hn
    simp only [goRules, coreRules, tiRules, unRules, AS_of_eq, ← decide_not, seval, mapRules, objRules, h1]
    rw [e2, upd_self hlv] at hk
    exact hk _ _ hq HasO.refl
end
/-- A node, of what is told of it. -/
def unA : AV → Nd
  | .agg [.v (.int _ a), .v (.int _ b), .v (.string c), .v (.bool d), .v (.string e)] => ⟨a, b, c.data.toList, d, e.data.toList⟩
  | _ => zeroN
theorem unA_nA (x : Nd) : unA (nA x) = x := by
  obtain ⟨a, b, c, d, e⟩ := x
  simp [nA, unA, sv]
section
variable {Γ : Env} {d : Option Nat} {K : AS → Prop} {σ : AS}
theorem call_sortN (hC : Γ.get 32 = none) {xs : List Nd} {l : Nat} (hl2 : 2 ≤ l) (hlen : xs.length ≤ 1000000) (hlv : σ.m.lv l = some (xs.length, 39)) (hmu : σ.m.mu = true)
    (hk0 : xs = [] → cont σ d (.tup []) K) (hk1 : ∀ zs : List Nd, zs.Perm xs → zs.Pairwise (fun a b => ¬ b.nm < a.nm) → cont (σ.turned l xs.length (nodes zs)) d (.tup []) K) :
    vcCall Tryd.prog Γ false σ 32 [.sl l 5 (nodes xs), .fn 33 []] d K := by
  refine vcCall_raw hC (sort_rawG (ρ := Tryd.sortN_ren) (kx := fun z => (unA z).nm) swo_cmpB Tryd.sortN (by omega) Tryd.isAgg39 Tryd.sizeOf39 (enters_of Tryd.func33 (by kernel_rfl) rfl) (by omega) cmpN ⟨_, Tryd.func32, by kernel_rfl, rfl⟩ hl2 (by rw [nodes_len]; omega) (by rw [nodes_len]; exact hlv) hmu ?_ ?_ ?_ ?_)
  · intro z hz
    obtain ⟨x, _, rfl⟩ := List.mem_map.1 hz
    exact ⟨rfl, rfl⟩
  · intro z hz
    obtain ⟨x, _, rfl⟩ := List.mem_map.1 hz
    rw [unA_nA]; rfl
  · intro h
    exact hk0 (by simpa [nodes] using h)
  · intro zs h1 h2
    have e1 : zs = nodes (zs.map unA) := by
      rw [nodes, List.map_map]
      refine (List.map_id' zs).symm.trans (List.map_congr_left fun z hz => ?_)
      obtain ⟨x, _, rfl⟩ := List.mem_map.1 (h1.mem_iff.1 hz)
      show nA x = nA (unA (nA x))
      rw [unA_nA]
    have e2 : (zs.map unA).Perm xs := by
      have := h1.map unA
      rwa [nodes, List.map_map, show (unA ∘ nA) = id from funext unA_nA, List.map_id] at this
    rw [e1, nodes_len]
    refine hk1 _ e2 ?_
    rw [List.pairwise_map]
    exact h2.imp fun h3 => by rw [cmpB_neg] at h3; exact h3
end
end Go.Proofs
end

-- FTr8
section
namespace Go.Proofs
open Go Go.Rw
set_option maxRecDepth 100000
set_option linter.unusedSimpArgs false
set_option linter.unusedVariables false

/-- The IDs of what a directory has, by their names. -/
def kidsR (par : Int) (l : List Nd) (ids : List Int) : Prop := ∃ zs : List Nd, zs.Perm (kept par l) ∧ zs.Pairwise (fun a b => ¬ b.nm < a.nm) ∧ ids = zs.map Nd.id
theorem kidsR_len {par : Int} {l : List Nd} {ids : List Int} (h : kidsR par l ids) : ids.length = (kept par l).length := by
  obtain ⟨zs, h1, _, rfl⟩ := h
  rw [List.length_map]; exact h1.length_eq
theorem kept_len (par : Int) (l : List Nd) : (kept par l).length ≤ l.length := List.length_filter_le _ _
abbrev tkidsCon : ConO where
  ι := { p : TS × Int // idsOk p.1.l }
  objs := fun p => tsO (some p.1.1)
  args := fun p => [.ptr 0 0, .v (.int .i64 p.1.2)]
  post := fun p objs lvs r => objs = tsO (some p.1.1) ∧ ∃ ids, kidsR p.1.2 p.1.1.l ids ∧ lvs = [] ∧ r = .sl 0 1 (ints .i64 ids)
set_option maxHeartbeats 1000000 in
theorem tkids_good : GoodO Tryd.prog 24 tkidsCon := by
  have hΓ : GoodEnv Tryd.prog [] := goodEnv_nil
  refine goodO_fna (nn := 27) Tryd.func24 (by kernel_rfl) rfl (show Tryd.f24.results.toList = [.tmp 4] from rfl) (fun _ => rfl) ?_
  rintro ⟨⟨s, par⟩, hi⟩
  simp only at hi
  have hl := hi.1
  have hkl := kept_len par s.l
  refine vcM_ok hΓ (Ws := []) _ ?_
  simp only [goRules, coreRules, tiRules, unRules, AS_of_eq, ← decide_not, seval, mapRules, objRules, tsRules]
  refine call_tnodes (s := s) (o := 0) (ob := 1) (by simp [get_cons, get_nil]) hi (by simp [TreeAt, upd]) ?_
  simp only [goRules, coreRules, tiRules, unRules, AS_of_eq, ← decide_not, seval, mapRules, objRules, tsRules, nodes_len]
  (repeat (with_reducible refine And.intro ?_ ?_; focus (first | omega | exact mixed1 | kernel_rfl)))
  refine call_del hΓ (by simp [get_cons, get_nil]) (by simp [get_cons, get_nil]) (by simp [get_cons, get_nil]) (xs := s.l) (par := par) (by omega) (by simp [upd]) hl (by simp [upd]) ?_ ?_
  · intro o x h
    simp only [upd] at h
    split at h
    · omega
    · have := (List.getElem?_eq_some_iff.1 h).1
      simp at this; omega
  · intro k' h' hk' hh
    have t0 := hh 0 (.cells [.mp 1]) (by simp [cutO, upd, AO.cut, AV.cutL, AV.cut])
    have t1 := hh 1 (.map s.es s.cl) (by simp [cutO, upd, AO.cut])
    simp only [goRules, coreRules, tiRules, unRules, AS_of_eq, ← decide_not, seval, mapRules, objRules, cutRules, tsRules, nodes_len, t0, t1]
    (repeat (with_reducible refine And.intro ?_ ?_; focus (first | omega | exact mixed1 | kernel_rfl)))
    refine call_sortN (by simp [get_cons, get_nil]) (by omega) (by omega) (by simp [upd]) rfl ?_ ?_
    · intro h0
      obtain ⟨zs, hz, hp⟩ : ∃ zs : List Nd, kept par s.l = zs ∧ zs.Pairwise (fun a b => ¬ b.nm < a.nm) := ⟨[], h0, List.Pairwise.nil⟩
      have hz1 : zs.Perm (kept par s.l) := by rw [hz]
      rw [hz]
      have hzl : zs.length = (kept par s.l).length := hz1.length_eq
      simp only [goRules, coreRules, tiRules, unRules, AS_of_eq, ← decide_not, seval, mapRules, objRules, cutRules, tsRules, nodes_len, t0, t1, hzl]
      (repeat (with_reducible refine And.intro ?_ ?_; focus (first | omega | exact mixed1 | kernel_rfl)))
      obtain ⟨St, hSt⟩ : ∃ St : { i : Nat // i ≤ zs.length } → AS, ∀ i, St i = AS.ofH 27 [(4, .sl 2 1 (ints .i64 ((zs.take i.1).map Nd.id))), (14, .sl 0 5 (nodes zs)), (15, .v (.int .i64 zs.length)), (16, .v (.int .i64 i.1))] [(0, .ptr 0 0), (1, .mp 1)] (tsO (some s)) [(i.1, 3)] := ⟨_, fun _ => rfl⟩
      refine vcM_lp ?_
      refine vc_loopM [] hΓ St (fun i => zs.length - i.1) ⟨0, by omega⟩ (by rw [hSt]; refine weakH_go [0, 1] [.nil 1] ?_; simp only [goRules, coreRules, tiRules, unRules, AS_of_eq, ← decide_not, seval, mapRules, objRules, cutRules, tsRules, List.take_zero, List.map_nil, ints_nil, nodes_len, hzl, t0, t1] <;> ((repeat' apply And.intro) <;> first | rfl | omega | trivial)) ?_
      rintro ⟨i, hle⟩
      rw [hSt]
      simp only
      simp only [goRules, coreRules, tiRules, unRules, AS_of_eq, ← decide_not, seval, mapRules, objRules, tsRules, nodes_len]
      (with_reducible first | refine branchP_dec (fun h => ?_) (fun h => ?_) | refine guardB_dec (fun h => ?_) (fun h => ?_))
      · have hlt : i < zs.length := by omega
        have e3 := nodes_getD zs hlt
        have e4 : ints .i64 ((zs.take (i + 1)).map Nd.id) = ints .i64 ((zs.take i).map Nd.id) ++ [.v (.int .i64 zs[i].id)] := by
          rw [List.take_succ_eq_append_getElem hlt, List.map_append]; simp [ints]
        have e5 : (ints .i64 ((zs.take i).map Nd.id)).length = i := by simp [ints]; omega
        generalize zs[i] = x at *
        simp only [goRules, coreRules, tiRules, unRules, AS_of_eq, ← decide_not, seval, mapRules, objRules, tsRules, h, e3, nA, nodes_len, e5, wrap_i64 (n := (i : Int) + 1) (by omega) (by omega)]
        (repeat (with_reducible refine And.intro ?_ ?_; focus (first | omega | exact mixed1 | kernel_rfl)))
        refine weak_again ⟨i + 1, by omega⟩ (by simp only; omega) ?_
        rw [hSt]; refine weakH_go [0, 1] [.live 2] ?_
        simp only [goRules, coreRules, tiRules, unRules, AS_of_eq, ← decide_not, seval, mapRules, objRules, tsRules, e4, nA] <;> ((repeat' apply And.intro) <;> first | rfl | omega | trivial)
      · have hi2 : i = zs.length := by omega
        subst hi2
        have e6 := List.take_of_length_le (Nat.le_refl zs.length)
        simp only [goRules, coreRules, tiRules, unRules, AS_of_eq, ← decide_not, seval, mapRules, objRules, tsRules, h, e6]
        refine retG_go [0, 1] [] (tsO (some s)) [] (.sl 0 1 (ints .i64 (zs.map Nd.id))) ⟨rfl, zs.map Nd.id, ⟨zs, hz1, hp, rfl⟩, rfl, rfl⟩ ?_
        simp only [goRules, coreRules, tiRules, unRules, AS_of_eq, ← decide_not, seval, mapRules, objRules, tsRules] <;> ((repeat' apply And.intro) <;> first | rfl | omega | trivial)
    · intro zs hz1 hp
      have hzl : zs.length = (kept par s.l).length := hz1.length_eq
      simp only [goRules, coreRules, tiRules, unRules, AS_of_eq, ← decide_not, seval, mapRules, objRules, cutRules, tsRules, nodes_len, t0, t1, hzl]
      (repeat (with_reducible refine And.intro ?_ ?_; focus (first | omega | exact mixed1 | kernel_rfl)))
      obtain ⟨St, hSt⟩ : ∃ St : { i : Nat // i ≤ zs.length } → AS, ∀ i, St i = AS.ofH 27 [(4, .sl 2 1 (ints .i64 ((zs.take i.1).map Nd.id))), (14, .sl 0 5 (nodes zs)), (15, .v (.int .i64 zs.length)), (16, .v (.int .i64 i.1))] [(0, .ptr 0 0), (1, .mp 1)] (tsO (some s)) [(i.1, 3)] := ⟨_, fun _ => rfl⟩
      refine vcM_lp ?_
      refine vc_loopM [] hΓ St (fun i => zs.length - i.1) ⟨0, by omega⟩ (by rw [hSt]; refine weakH_go [0, 1] [.nil 1] ?_; simp only [goRules, coreRules, tiRules, unRules, AS_of_eq, ← decide_not, seval, mapRules, objRules, cutRules, tsRules, List.take_zero, List.map_nil, ints_nil, nodes_len, hzl, t0, t1] <;> ((repeat' apply And.intro) <;> first | rfl | omega | trivial)) ?_
      rintro ⟨i, hle⟩
      rw [hSt]
      simp only
      simp only [goRules, coreRules, tiRules, unRules, AS_of_eq, ← decide_not, seval, mapRules, objRules, tsRules, nodes_len]
      (with_reducible first | refine branchP_dec (fun h => ?_) (fun h => ?_) | refine guardB_dec (fun h => ?_) (fun h => ?_))
      · have hlt : i < zs.length := by omega
        have e3 := nodes_getD zs hlt
        have e4 : ints .i64 ((zs.take (i + 1)).map Nd.id) = ints .i64 ((zs.take i).map Nd.id) ++ [.v (.int .i64 zs[i].id)] := by
          rw [List.take_succ_eq_append_getElem hlt, List.map_append]; simp [ints]
        have e5 : (ints .i64 ((zs.take i).map Nd.id)).length = i := by simp [ints]; omega
        generalize zs[i] = x at *
        simp only [goRules, coreRules, tiRules, unRules, AS_of_eq, ← decide_not, seval, mapRules, objRules, tsRules, h, e3, nA, nodes_len, e5, wrap_i64 (n := (i : Int) + 1) (by omega) (by omega)]
        (repeat (with_reducible refine And.intro ?_ ?_; focus (first | omega | exact mixed1 | kernel_rfl)))
        refine weak_again ⟨i + 1, by omega⟩ (by simp only; omega) ?_
        rw [hSt]; refine weakH_go [0, 1] [.live 2] ?_
        simp only [goRules, coreRules, tiRules, unRules, AS_of_eq, ← decide_not, seval, mapRules, objRules, tsRules, e4, nA] <;> ((repeat' apply And.intro) <;> first | rfl | omega | trivial)
      · have hi2 : i = zs.length := by omega
        subst hi2
        have e6 := List.take_of_length_le (Nat.le_refl zs.length)
        simp only [goRules, coreRules, tiRules, unRules, AS_of_eq, ← decide_not, seval, mapRules, objRules, tsRules, h, e6]
        refine retG_go [0, 1] [] (tsO (some s)) [] (.sl 0 1 (ints .i64 (zs.map Nd.id))) ⟨rfl, zs.map Nd.id, ⟨zs, hz1, hp, rfl⟩, rfl, rfl⟩ ?_
        simp only [goRules, coreRules, tiRules, unRules, AS_of_eq, ← decide_not, seval, mapRules, objRules, tsRules] <;> ((repeat' apply And.intro) <;> first | rfl | omega | trivial)
end Go.Proofs
end

-- FTr9
section
namespace Go.Proofs
open Go Go.Rw
set_option maxRecDepth 100000
set_option linter.unusedSimpArgs false
set_option linter.unusedVariables false

section
variable {Γ : Env} {n : Nat} {t : Nat → AV} {hd : Nat → Nat → AV} {d : Option Nat} {K : AS → Prop}
variable {nh nl : Nat} {h : Nat → Option AO} {fm : Nat → Nat} {lv : Nat → Option (Nat × Nat)} {mu : Bool}
theorem call_tkids (hC : Γ.get 24 = none) {s : TS} {par : Int} (hi : idsOk s.l) {o ob : Nat} (hT : TreeAt h o ob s)
    (hk : ∀ ids, kidsR par s.l ids → cont ⟨n, t, hd, ⟨nh, h, nl, fm, lv, mu⟩⟩ d (.sl 0 1 (ints .i64 ids)) K) : vcCall Tryd.prog Γ false ⟨n, t, hd, ⟨nh, h, nl, fm, lv, mu⟩⟩ 24 [.ptr o 0, .v (.int .i64 par)] d K := by
  refine call_tree tkids_good hC ⟨(s, par), hi⟩ rfl hT (by simp [dnL, dn]) rfl (fun _ _ _ hp => hp.1) ?_
  rintro lvs r ⟨_, ids, h1, rfl, rfl⟩
  exact hk ids h1
/-- A call that turns the tree. -/
theorem call_mut {f : FuncId} {C : ConO} (hG : GoodO Tryd.prog f C) (hC : Γ.get f = none) (i : C.ι) {s : TS} (hobjs : C.objs i = tsO (some s)) {o ob : Nat} (hT : TreeAt h o ob s) {bs : List AV} (ha : dnL [o, ob] bs (C.args i)) (ht : AV.tagsL bs = []) {q : List Nd × Int}
    (hpost : ∀ objs lvs r, C.post i objs lvs r → mutP s q objs lvs r)
    (hk : ∀ s' : TS, s'.l = q.1 → cont ⟨n, t, hd, ⟨nh, upd h ob (some (.map s'.es s'.cl)), nl, fm, lv, mu⟩⟩ d (.v (.int .i64 q.2)) K) : vcCall Tryd.prog Γ false ⟨n, t, hd, ⟨nh, h, nl, fm, lv, mu⟩⟩ f bs d K := by
  obtain ⟨h1, h2, h3⟩ := hT
  refine vc_obj hG hC i [o, ob] ⟨by simp [h3], ha, ?_, ht, ?_⟩ ?_
  · rw [hobjs]
    simp only [tsO, dnOs_cons, dnOs_nil, h1, h2, dnOo_cells, dnOo_map, dnL_cons, dnL_nil, dn_mp]
    simp
  · simp [tagsOs_cons, tagsOs_nil, h1, h2, tagsO1, AO.tags, AV.tagsL, AV.tags]
  · intro objs lvs r hp hl
    obtain ⟨s', h4, rfl, rfl, rfl⟩ := hpost _ _ _ hp
    have e1 : upd h o (some (.cells [.mp ob])) = h := upd_it h1
    have e3 : (tsO (some s')).length - [o, ob].length = 0 := rfl
    rw [e3]
    simp only [tsO, List.cons_append, List.nil_append, embsO_cons, embsO_nil, embO_cells, embO_map, embL_cons, embL_nil, emb_mp, obC_succ, obC_zero, obC_nil, callH_cons, callH_new, callH_nil, callF_nil, callV_nil, emb_v, List.length_nil, Nat.add_zero, e1]
    exact hk s' h4
end
/-- What taking away does. -/
def remN (l : List Nd) (id : Int) : List Nd × Int :=
  if hasN l id = false then (l, 5) else if 0 < (kept id l).length then (l, 9) else (offT id l, 0)
abbrev tremCon : ConO where
  ι := { p : TS × Int // idsOk p.1.l }
  objs := fun p => tsO (some p.1.1)
  args := fun p => [.ptr 0 0, .v (.int .i64 p.1.2)]
  post := fun p => mutP p.1.1 (remN p.1.1.l p.1.2)
set_option maxHeartbeats 1000000 in
theorem trem_good : GoodO Tryd.prog 12 tremCon := by
  have hΓ : GoodEnv Tryd.prog [] := goodEnv_nil
  refine goodO_fna (nn := 28) Tryd.func12 (by kernel_rfl) rfl (show Tryd.f12.results.toList = [.tmp 4] from rfl) (fun _ => rfl) ?_
  rintro ⟨⟨s, id⟩, hi⟩
  simp only at hi
  refine vcM_ok hΓ (Ws := []) _ ?_
  have e1 := look_tm s.h
  have e0 : remN s.l id = if hasN s.l id = false then (s.l, 5) else if 0 < (kept id s.l).length then (s.l, 9) else (offT id s.l, 0) := rfl
  simp only [goRules, coreRules, tiRules, unRules, AS_of_eq, ← decide_not, seval, mapRules, objRules, tsRules, e1, nA]
  (repeat (with_reducible refine And.intro ?_ ?_; focus (first | omega | exact mixed1 | kernel_rfl)))
  rcases Bool.eq_false_or_eq_true (hasN s.l id) with hh | hh
  case inr =>
    rw [if_pos hh] at e0
    simp only [goRules, coreRules, tiRules, unRules, AS_of_eq, ← decide_not, seval, mapRules, objRules, tsRules, hh]
    refine retG_go [0, 1] [] (tsO (some s)) [] (.v (.int .i64 5)) ⟨s, by rw [e0], rfl, rfl, by rw [e0]⟩ ?_
    simp only [goRules, coreRules, tiRules, unRules, AS_of_eq, ← decide_not, seval, mapRules, objRules, tsRules] <;> ((repeat' apply And.intro) <;> first | rfl | omega | trivial)
  rw [if_neg (by rw [hh]; decide)] at e0
  simp only [goRules, coreRules, tiRules, unRules, AS_of_eq, ← decide_not, seval, mapRules, objRules, tsRules, hh]
  (repeat (with_reducible refine And.intro ?_ ?_; focus (first | omega | exact mixed1 | kernel_rfl)))
  refine call_tkids (s := s) (o := 0) (ob := 1) (by simp [get_cons, get_nil]) hi (by simp [TreeAt, upd]) ?_
  intro ids hk
  have e2 := kidsR_len hk
  have e3 : (ints .i64 ids).length = ids.length := by simp [ints]
  simp only [goRules, coreRules, tiRules, unRules, AS_of_eq, ← decide_not, seval, mapRules, objRules, tsRules, e3, e2]
  (repeat (with_reducible refine And.intro ?_ ?_; focus (first | omega | exact mixed1 | kernel_rfl)))
  by_cases h9 : 0 < (kept id s.l).length
  · rw [if_pos h9] at e0
    simp only [goRules, coreRules, tiRules, unRules, AS_of_eq, ← decide_not, seval, mapRules, objRules, tsRules, show (((kept id s.l).length : Int) > 0) = True from eq_true (by omega)]
    refine retG_go [0, 1] [] (tsO (some s)) [] (.v (.int .i64 9)) ⟨s, by rw [e0], rfl, rfl, by rw [e0]⟩ ?_
    simp only [goRules, coreRules, tiRules, unRules, AS_of_eq, ← decide_not, seval, mapRules, objRules, tsRules] <;> ((repeat' apply And.intro) <;> first | rfl | omega | trivial)
  rw [if_neg h9] at e0
  simp only [goRules, coreRules, tiRules, unRules, AS_of_eq, ← decide_not, seval, mapRules, objRules, tsRules, show (((kept id s.l).length : Int) > 0) = False from eq_false (by omega)]
  obtain ⟨es', cl', p1, p2⟩ := off_tm s.h id
  simp only [goRules, coreRules, tiRules, unRules, AS_of_eq, ← decide_not, seval, mapRules, objRules, tsRules, p1]
  (repeat (with_reducible refine And.intro ?_ ?_; focus (first | omega | exact mixed1 | kernel_rfl)))
  refine retG_go [0, 1] [] (tsO (some ⟨es', cl', _, p2⟩)) [] (.v (.int .i64 0)) ⟨⟨es', cl', _, p2⟩, by rw [e0], rfl, rfl, by rw [e0]⟩ ?_
  simp only [goRules, coreRules, tiRules, unRules, AS_of_eq, ← decide_not, seval, mapRules, objRules, tsRules] <;> ((repeat' apply And.intro) <;> first | rfl | omega | trivial)
/-- What an act does, as the tree has it. -/
def dotN (l : List Nd) (a : Ac) : List Nd × Int :=
  if a.k < 1 ∨ a.k > 4 then (l, 1)
  else if a.k = 1 then creN l a
  else if a.k = 2 then remN l a.id
  else if a.k = 3 then movN l a
  else ediN l a
/-- A tree, and an act, that may be worked on. -/
def doOk (l : List Nd) (a : Ac) : Prop := trOk l ∧ rtOk l ∧ a.nm.length ≤ 1099511627776 ∧ okL a.ops
abbrev tdoCon : ConO where
  ι := { p : TS × Ac // doOk p.1.l p.2 }
  objs := fun p => tsO (some p.1.1)
  args := fun p => [.ptr 0 0, aA p.1.2]
  post := fun p => mutP p.1.1 (dotN p.1.1.l p.1.2)
set_option maxHeartbeats 4000000 in
theorem tdo_good : GoodO Tryd.prog 6 tdoCon := by
  have hΓ : GoodEnv Tryd.prog [] := goodEnv_nil
  refine goodO_fna (nn := 45) Tryd.func6 (by kernel_rfl) rfl (show Tryd.f6.results.toList = [.tmp 4] from rfl) (fun _ => rfl) ?_
  rintro ⟨⟨s, a⟩, ho, hr, hn, hc⟩
  obtain ⟨k, id, par, nm, dir, ops⟩ := a
  simp only at ho hr hn hc
  refine vcM_ok hΓ (Ws := []) _ ?_
  have e0 : dotN s.l ⟨k, id, par, nm, dir, ops⟩ = if k < 1 ∨ k > 4 then (s.l, 1) else if k = 1 then creN s.l ⟨k, id, par, nm, dir, ops⟩ else if k = 2 then remN s.l id else if k = 3 then movN s.l ⟨k, id, par, nm, dir, ops⟩ else ediN s.l ⟨k, id, par, nm, dir, ops⟩ := rfl
  simp only [goRules, coreRules, tiRules, unRules, AS_of_eq, ← decide_not, seval, mapRules, objRules, tsRules, aA]
  (repeat (with_reducible refine And.intro ?_ ?_; focus (first | omega | exact mixed1 | kernel_rfl)))
  by_cases h1 : k < 1
  · rw [if_pos (.inl h1)] at e0
    simp only [goRules, coreRules, tiRules, unRules, AS_of_eq, ← decide_not, seval, mapRules, objRules, tsRules, h1]
    refine retG_go [0, 1] [] (tsO (some s)) [] (.v (.int .i64 1)) ⟨s, by rw [e0], rfl, rfl, by rw [e0]⟩ ?_
    simp only [goRules, coreRules, tiRules, unRules, AS_of_eq, ← decide_not, seval, mapRules, objRules, tsRules] <;> ((repeat' apply And.intro) <;> first | rfl | omega | trivial)
  by_cases h2 : k > 4
  · rw [if_pos (.inr h2)] at e0
    simp only [goRules, coreRules, tiRules, unRules, AS_of_eq, ← decide_not, seval, mapRules, objRules, tsRules, h1, h2]
    refine retG_go [0, 1] [] (tsO (some s)) [] (.v (.int .i64 1)) ⟨s, by rw [e0], rfl, rfl, by rw [e0]⟩ ?_
    simp only [goRules, coreRules, tiRules, unRules, AS_of_eq, ← decide_not, seval, mapRules, objRules, tsRules] <;> ((repeat' apply And.intro) <;> first | rfl | omega | trivial)
  rw [if_neg (by omega)] at e0
  simp only [goRules, coreRules, tiRules, unRules, AS_of_eq, ← decide_not, seval, mapRules, objRules, tsRules, h1, h2]
  (repeat (with_reducible refine And.intro ?_ ?_; focus (first | omega | exact mixed1 | kernel_rfl)))
  by_cases k1 : k = 1
  · subst k1
    rw [if_pos rfl] at e0
    simp only [goRules, coreRules, tiRules, unRules, AS_of_eq, ← decide_not, seval, mapRules, objRules, tsRules, aA]
    (repeat (with_reducible refine And.intro ?_ ?_; focus (first | omega | exact mixed1 | kernel_rfl)))
    refine call_mut (o := 0) (ob := 1) (q := creN s.l ⟨1, id, par, nm, dir, ops⟩) tcre_good (by simp [get_cons, get_nil]) ⟨(s, ⟨1, id, par, nm, dir, ops⟩), ho, hn⟩ rfl (by simp [TreeAt, upd]) (by simp [dnL, dn, aA]) (by simp [AV.tagsL, AV.tags]) (fun _ _ _ hp => hp) ?_
    intro s' hs
    simp only [goRules, coreRules, tiRules, unRules, AS_of_eq, ← decide_not, seval, mapRules, objRules, tsRules, h1, h2]
    (repeat (with_reducible refine And.intro ?_ ?_; focus (first | omega | exact mixed1 | kernel_rfl)))
    refine retG_go [0, 1] [] (tsO (some s')) [] (.v (.int .i64 (creN s.l ⟨1, id, par, nm, dir, ops⟩).2)) ⟨s', by rw [e0]; exact hs, rfl, rfl, by rw [e0]⟩ ?_
    simp only [goRules, coreRules, tiRules, unRules, AS_of_eq, ← decide_not, seval, mapRules, objRules, tsRules] <;> ((repeat' apply And.intro) <;> first | rfl | omega | trivial)
  rw [if_neg k1] at e0
  by_cases k2 : k = 2
  · subst k2
    rw [if_pos rfl] at e0
    simp only [goRules, coreRules, tiRules, unRules, AS_of_eq, ← decide_not, seval, mapRules, objRules, tsRules, aA]
    (repeat (with_reducible refine And.intro ?_ ?_; focus (first | omega | exact mixed1 | kernel_rfl)))
    refine call_mut (o := 0) (ob := 1) (q := remN s.l id) trem_good (by simp [get_cons, get_nil]) ⟨(s, id), ho.1⟩ rfl (by simp [TreeAt, upd]) (by simp [dnL, dn, aA]) (by simp [AV.tagsL, AV.tags]) (fun _ _ _ hp => hp) ?_
    intro s' hs
    simp only [goRules, coreRules, tiRules, unRules, AS_of_eq, ← decide_not, seval, mapRules, objRules, tsRules, h1, h2]
    (repeat (with_reducible refine And.intro ?_ ?_; focus (first | omega | exact mixed1 | kernel_rfl)))
    refine retG_go [0, 1] [] (tsO (some s')) [] (.v (.int .i64 (remN s.l id).2)) ⟨s', by rw [e0]; exact hs, rfl, rfl, by rw [e0]⟩ ?_
    simp only [goRules, coreRules, tiRules, unRules, AS_of_eq, ← decide_not, seval, mapRules, objRules, tsRules] <;> ((repeat' apply And.intro) <;> first | rfl | omega | trivial)
  rw [if_neg k2] at e0
  by_cases k3 : k = 3
  · subst k3
    rw [if_pos rfl] at e0
    simp only [goRules, coreRules, tiRules, unRules, AS_of_eq, ← decide_not, seval, mapRules, objRules, tsRules, aA]
    (repeat (with_reducible refine And.intro ?_ ?_; focus (first | omega | exact mixed1 | kernel_rfl)))
    refine call_mut (o := 0) (ob := 1) (q := movN s.l ⟨3, id, par, nm, dir, ops⟩) tmov_good (by simp [get_cons, get_nil]) ⟨(s, ⟨3, id, par, nm, dir, ops⟩), ho, hr, hn⟩ rfl (by simp [TreeAt, upd]) (by simp [dnL, dn, aA]) (by simp [AV.tagsL, AV.tags]) (fun _ _ _ hp => hp) ?_
    intro s' hs
    simp only [goRules, coreRules, tiRules, unRules, AS_of_eq, ← decide_not, seval, mapRules, objRules, tsRules, h1, h2]
    (repeat (with_reducible refine And.intro ?_ ?_; focus (first | omega | exact mixed1 | kernel_rfl)))
    refine retG_go [0, 1] [] (tsO (some s')) [] (.v (.int .i64 (movN s.l ⟨3, id, par, nm, dir, ops⟩).2)) ⟨s', by rw [e0]; exact hs, rfl, rfl, by rw [e0]⟩ ?_
    simp only [goRules, coreRules, tiRules, unRules, AS_of_eq, ← decide_not, seval, mapRules, objRules, tsRules] <;> ((repeat' apply And.intro) <;> first | rfl | omega | trivial)
  rw [if_neg k3] at e0
  simp only [goRules, coreRules, tiRules, unRules, AS_of_eq, ← decide_not, seval, mapRules, objRules, tsRules, k1, k2, k3, aA]
  (repeat (with_reducible refine And.intro ?_ ?_; focus (first | omega | exact mixed1 | kernel_rfl)))
  refine call_mut (o := 0) (ob := 1) (q := ediN s.l ⟨k, id, par, nm, dir, ops⟩) tedi_good (by simp [get_cons, get_nil]) ⟨(s, ⟨k, id, par, nm, dir, ops⟩), ho, hc⟩ rfl (by simp [TreeAt, upd]) (by simp [dnL, dn, aA]) (by simp [AV.tagsL, AV.tags]) (fun _ _ _ hp => hp) ?_
  intro s' hs
  simp only [goRules, coreRules, tiRules, unRules, AS_of_eq, ← decide_not, seval, mapRules, objRules, tsRules, h1, h2]
  (repeat (with_reducible refine And.intro ?_ ?_; focus (first | omega | exact mixed1 | kernel_rfl)))
  refine retG_go [0, 1] [] (tsO (some s')) [] (.v (.int .i64 (ediN s.l ⟨k, id, par, nm, dir, ops⟩).2)) ⟨s', by rw [e0]; exact hs, rfl, rfl, by rw [e0]⟩ ?_
  simp only [goRules, coreRules, tiRules, unRules, AS_of_eq, ← decide_not, seval, mapRules, objRules, tsRules] <;> ((repeat' apply And.intro) <;> first | rfl | omega | trivial)
end Go.Proofs
end
