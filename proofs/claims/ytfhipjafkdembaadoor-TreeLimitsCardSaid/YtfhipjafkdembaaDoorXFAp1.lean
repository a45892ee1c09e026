/-
  Edits done by the program. Which edits may be, as the document says. Edits done, undone, by the program. Edits done, undone, by the program. How much is given; texts and their code points. The document's tree: nodes by their IDs; what an act does. Plain. The document's tree: looking nodes up. Nodes held against each other, field by field. The document's tree: names, texts; acts held against each other. Edits undone, by the program; both, by the document. Edits, unit by unit. Plain. Walks along an edit: their Kind, Len and Take, reckoned in place. Two edits as one, piece by piece. Plain. compose.Two, walked. compose.Two, walked. The document's walks. The document's Two. Keep, All: the program's, the document's. What an edit in its normal form does. Plain. The normal form, unit by unit; what two edits do as one. Plain. The document's tree: an act. The document's Check of a transaction. The document's transaction on a tree. What the acts did, in the order of the IDs. Plain. Library functions' bodies at this dump, compared by the kernel: slices.SortFunc, cmp.Compare. The order of what was done: by ID. effect.Of, up to the sort. An edit behind another one, unit by unit and piece by piece. Plain. xform.Over, walked. What an edit behind another one does. Plain. effect: own, Get, behind, Over. ComposeAsks answers true. ComposeDoes answers true. XformMeets answers true. The document's Over. EffectSees answers true. How much is given; lists of what was done, the document's and the program's. Lists of what was done: the document's and the program's. effect.Same. The document's SameOnes. EffectKeeps answers true. rebase: why an act clashes; an edit behind what was done. rebase: a transaction behind what was done. rebase.Over. What the acts did, ID by ID. Plain. Two transactions with nothing in common. Plain. How much a tree is; is it sound; whose nodes a transaction touches. The program's tree: a map of nodes, by their IDs. What the map has. The program's tree: new ones; looking at nodes. Library functions' bodies at this dump, compared by the kernel: maps.Keys, slices.Sorted, slices.Sort, maps.Clone. The program's tree: all its nodes; from a node to the root; how many code points.
-/
import Derived.Test.YtfhipjafkdembaaDoorXFSh
import Derived.Test.YtfhipjafkdembaaDoorRwJ
import Derived.Test.YtfhipjafkdembaaDoorXFTi
import Derived.Shelf.SlLaysF0
import Derived.Shelf.SlicesG.Cmp
import Derived.Test.YtfhipjafkdembaaDoorRwK
import Derived.Test.YtfhipjafkdembaaDoorRwO
import Derived.Shelf.SlIterI.Sorted
import Derived.Shelf.SlIterI.Nil
import Derived.Shelf.SlMaps.Clone
import Derived.Shelf.SortM.Plain
import Derived.Shelf.SortM.SortNone
import Derived.Test.YtfhipjafkdembaaDoorRwP
set_option linter.unusedSimpArgs false
set_option linter.unusedVariables false
set_option linter.defProp false
set_option linter.unusedSectionVars false

-- FAp1
section
namespace Go.Proofs
open Go Go.Rw
set_option maxRecDepth 100000
set_option linter.unusedSimpArgs false
set_option linter.unusedVariables false

def stA (x : Sp) : AV := .agg [.v (.int .i64 x.c.k), .v (.int .i64 x.c.n), .v (sv x.c.t), .v (sv x.was), .v (sv x.puts)]
def sts (l : List Sp) : List AV := l.map stA
theorem sts_nil : sts [] = [] := rfl
theorem sts_len (l : List Sp) : (sts l).length = l.length := by simp [sts]
theorem sts_snoc (l : List Sp) (k n : Int) (t w p : List UInt8) : sts l ++ [.agg [.v (.int .i64 k), .v (.int .i64 n), .v (sv t), .v (sv w), .v (sv p)]] = sts (l ++ [⟨⟨k, n, t⟩, w, p⟩]) := by simp [sts, stA]
theorem sts_getD (l : List Sp) {i : Nat} (h : i < l.length) : (sts l).getD i .any = .agg [.v (.int .i64 l[i].c.k), .v (.int .i64 l[i].c.n), .v (sv l[i].c.t), .v (sv l[i].was), .v (sv l[i].puts)] := by
  simp [sts, stA, List.getD_eq_getElem?_getD, h]
theorem part_le {l sz i j : Nat} {xs : List AV} (h : j ≤ xs.length) : partA l sz xs i j = .sl l sz ((xs.drop i).take (j - i)) := by
  unfold partA
  split
  · rename_i hc
    obtain ⟨rfl, rfl⟩ := hc
    simp
  · rfl
def stepsR (s : List UInt8) (l : List Cp) : AV := res2 (.sl 0 5 (sts (stp s l))) (errI s l)
theorem stepsR_er (s : List UInt8) (l : List Cp) : (stepsR s l).er = stepsR s l := by
  have : ∀ l : List Sp, AV.erL (sts l) = sts l := fun l => by
    induction l with
    | nil => rfl
    | cons c r ih => show AV.er (stA c) :: AV.erL (sts r) = _; rw [ih]; rfl
  rfl
abbrev stepsCon : Con where
  ι := Str × Ed
  args := fun p => [.v (sv p.1.1), .sl 0 3 (comps p.2.1)]
  post := fun p r => r = stepsR p.1.1 p.2.1
abbrev SSt (cs : List Nat) (l : List Cp) := { p : List Sp × List Nat × Nat // p.2.2 ≤ l.length ∧ fit p.2.1 (l.drop p.2.2) ∧ p.1 ++ stepsL p.2.1 (l.drop p.2.2) = stepsL cs l ∧ ∀ c ∈ p.2.1, okc c }
theorem steps_good : Rw.Good Tryd.prog 35 stepsCon := by
  have hΓ : GoodEnv Tryd.prog [(44, checkCon), (26, countCon), (45, baseCon)] := (goodEnv_cons check_good (goodEnv_cons count_good (goodEnv_cons base_good goodEnv_nil)))
  refine good_fn (nn := 72) hΓ Tryd.func35 (by kernel_rfl) rfl (show Tryd.f35.results.toList = [.tmp 4, .tmp 5] from rfl) (fun _ => rfl) (fun _ => rfl) ?_
  rintro ⟨⟨s, hs⟩, ⟨l, hl⟩⟩
  simp only [goRules, coreRules, tiRules, unRules, AS_of_eq, ← decide_not, seval]
  refine vc_scope hΓ 1 ?_
  simp only [goRules, coreRules, tiRules, unRules, AS_of_eq, ← decide_not, seval]
  refine call_check (by simp [get_cons]) rfl hl ?_
  by_cases hc : checkI l = 0
  · simp only [goRules, coreRules, tiRules, unRules, AS_of_eq, ← decide_not, seval, hc]
    refine call_count (by simp [get_cons]) hs ?_
    rcases opt_cases (pts s) with hp | ⟨cs, hp⟩
    · have he : errI s l = 2 := by unfold errI; rw [if_pos hc, hp]
      simp only [goRules, coreRules, tiRules, unRules, AS_of_eq, ← decide_not, seval, countR, hp, res2]
      refine ⟨_, rfl, ?_⟩
      simp only [goRules, coreRules, tiRules, unRules, AS_of_eq, ← decide_not, seval]
      unfold stepsR stp
      rw [he]; rfl
    · simp only [goRules, coreRules, tiRules, unRules, AS_of_eq, ← decide_not, seval, countR, hp, res2]
      refine call_base (by simp [get_cons]) rfl hl ?_
      by_cases hb : (cs.length : Int) = baseL l
      · have he : errI s l = 0 := by unfold errI; rw [if_pos hc, hp]; simp only; rw [if_pos hb]
        have hfit := fit_check hc hb
        obtain ⟨hok, hse⟩ := pts_some hp
        have hr := runesA_pts hp
        have hlen := (check_cases hc).1
        have hcl := cpts_some hp
        simp only [goRules, coreRules, tiRules, unRules, AS_of_eq, ← decide_not, seval, hb, hr, i32s_len]
        refine ⟨by omega, ?_⟩
        obtain ⟨St, hSt⟩ : ∃ St : SSt cs l → AS, ∀ p, St p = AS.of 72 [(4, .sl 2 5 (sts p.1.1)), (5, .v (.int .i64 0)), (7, .sl 0 1 (i32s p.1.2.1)), (28, .sl 0 3 (comps l)), (29, .v (.int .i64 l.length)), (30, .v (.int .i64 p.1.2.2))] [] [(p.1.1.length, 74)] := ⟨_, fun _ => rfl⟩
        refine vc_loop hΓ St (fun p => l.length - p.1.2.2) ⟨([], cs, 0), by simp, hfit, rfl, hok⟩ (by rw [hSt]; refine weak_go [] [.nil 5] ?_; simp only [goRules, coreRules, tiRules, unRules, AS_of_eq, ← decide_not, seval, sts_nil, comps_len] <;> ((repeat' apply And.intro) <;> first | rfl | omega | trivial)) ?_
        rintro ⟨⟨out, ds, i⟩, hi, hf, ho, hdk⟩
        simp only at hi hf ho hdk
        rw [hSt]
        simp only
        simp only [goRules, coreRules, tiRules, unRules, AS_of_eq, ← decide_not, seval, comps_len]
        (with_reducible first | refine branchP_dec (fun h => ?_) (fun h => ?_) | refine guardB_dec (fun h => ?_) (fun h => ?_))
        · have hlt : i < l.length := by omega
          have e1 := comps_getD l hlt
          have hct := okL.text hl (List.getElem_mem hlt)
          rw [List.drop_eq_getElem_cons hlt] at hf ho
          obtain ⟨hso, hn0, hnl, hf2⟩ := fit_cons hf
          rw [stepsL] at ho
          have hcs := sound_cases hso
          have hol : out.length ≤ 100 := by
            have := congrArg List.length ho
            rw [List.length_append, steps_len] at this
            omega
          generalize l[i] = c at *
          obtain ⟨k, n, t⟩ := c
          simp only at *
          have htk : utfL ((ds.take n.toNat).map fun (c : Nat) => (c : Int)) = encs (ds.take n.toNat) := utfL_encs (okc_take hdk _)
          have again : ∀ (σ : AS) (x : Sp), x = ⟨⟨k, n, t⟩, if k = 2 then [] else encs (ds.take n.toNat), if k = 2 then t else if k = 3 then [] else encs (ds.take n.toNat)⟩ → Weak σ (AS.of 72 [(4, .sl 2 5 (sts (out ++ [x]))), (5, .v (.int .i64 0)), (7, .sl 0 1 (i32s (ds.drop n.toNat))), (28, .sl 0 3 (comps l)), (29, .v (.int .i64 l.length)), (30, .v (.int .i64 (i + 1 : Nat)))] [] [((out ++ [x]).length, 74)]) → ∃ y : SSt cs l, l.length - y.1.2.2 < l.length - i ∧ Weak σ (St y) := fun σ x hx hw =>
            ⟨⟨(out ++ [x], ds.drop n.toNat, i + 1), by simp only; omega, hf2, by simp only; rw [← ho, hx]; simp, okc_drop hdk _⟩, by simp only; omega, by rw [hSt]; exact hw⟩
          have p1 : partA 0 1 (i32s ds) 0 n.toNat = .sl 0 1 (i32s (ds.take n.toNat)) := by rw [part_le (by rw [i32s_len]; omega), i32s_part]; simp
          have p2 : partA 0 1 (i32s ds) n.toNat ds.length = .sl 0 1 (i32s (ds.drop n.toNat)) := by rw [part_le (by rw [i32s_len]; omega), i32s_part, List.take_of_length_le (by rw [List.length_drop]; omega)]
          simp (disch := omega) only [goRules, coreRules, tiRules, unRules, AS_of_eq, ← decide_not, seval, wrap_i64, h, e1, comps_len, i32s_len, p1, p2, i32sOf_i32s, htk, Int.toNat_natCast]
          (repeat (with_reducible refine And.intro ?_ ?_; focus (first | omega | exact mixed1 | kernel_rfl)))
          (with_reducible first | refine branchP_dec (fun h2 => ?_) (fun h2 => ?_) | refine guardB_dec (fun h2 => ?_) (fun h2 => ?_))
          · subst h2
            simp (disch := omega) only [goRules, coreRules, tiRules, unRules, AS_of_eq, ← decide_not, seval, wrap_i64, sts_len, sts_snoc, List.map_cons, List.map_nil]
            (repeat (with_reducible refine And.intro ?_ ?_; focus (first | omega | exact mixed1 | kernel_rfl)))
            refine again _ ⟨⟨2, n, t⟩, [], t⟩ ?_ ?_
            rotate_left
            · refine weak_go [] [.live 2] ?_
              simp only [goRules, coreRules, tiRules, unRules, AS_of_eq, ← decide_not, seval, sts_len, List.length_append] <;> ((repeat' apply And.intro) <;> first | rfl | omega | trivial)
            · simp
          · simp (disch := omega) only [goRules, coreRules, tiRules, unRules, AS_of_eq, ← decide_not, seval, wrap_i64, h2]
            (with_reducible first | refine branchP_dec (fun h3 => ?_) (fun h3 => ?_) | refine guardB_dec (fun h3 => ?_) (fun h3 => ?_))
            · subst h3
              simp (disch := omega) only [goRules, coreRules, tiRules, unRules, AS_of_eq, ← decide_not, seval, wrap_i64, sts_len, sts_snoc, List.map_cons, List.map_nil]
              (repeat (with_reducible refine And.intro ?_ ?_; focus (first | omega | exact mixed1 | kernel_rfl)))
              refine again _ ⟨⟨3, n, t⟩, encs (ds.take n.toNat), []⟩ ?_ ?_
              rotate_left
              · refine weak_go [] [.live 2] ?_
                simp only [goRules, coreRules, tiRules, unRules, AS_of_eq, ← decide_not, seval, sts_len, List.length_append] <;> ((repeat' apply And.intro) <;> first | rfl | omega | trivial)
              · simp
            · simp (disch := omega) only [goRules, coreRules, tiRules, unRules, AS_of_eq, ← decide_not, seval, wrap_i64, h3, sts_len, sts_snoc, List.map_cons, List.map_nil]
              (repeat (with_reducible refine And.intro ?_ ?_; focus (first | omega | exact mixed1 | kernel_rfl)))
              refine again _ ⟨⟨k, n, t⟩, encs (ds.take n.toNat), encs (ds.take n.toNat)⟩ ?_ ?_
              rotate_left
              · refine weak_go [] [.live 2] ?_
                simp only [goRules, coreRules, tiRules, unRules, AS_of_eq, ← decide_not, seval, sts_len, List.length_append] <;> ((repeat' apply And.intro) <;> first | rfl | omega | trivial)
              · simp [h2, h3]
        · have hin : i = l.length := by omega
          simp only [goRules, coreRules, tiRules, unRules, AS_of_eq, ← decide_not, seval, h]
          rw [hin, List.drop_length, stepsL, List.append_nil] at ho
          unfold stepsR stp
          rw [if_pos he, he, hcl, ho]; rfl
      · have he : errI s l = 11 := by unfold errI; rw [if_pos hc, hp]; simp only; rw [if_neg hb]
        simp only [goRules, coreRules, tiRules, unRules, AS_of_eq, ← decide_not, seval, hb]
        refine ⟨_, rfl, ?_⟩
        simp only [goRules, coreRules, tiRules, unRules, AS_of_eq, ← decide_not, seval]
        unfold stepsR stp
        rw [he]; rfl
  · have he : errI s l = checkI l := by unfold errI; rw [if_neg hc]
    simp only [goRules, coreRules, tiRules, unRules, AS_of_eq, ← decide_not, seval, hc]
    refine ⟨_, rfl, ?_⟩
    simp only [goRules, coreRules, tiRules, unRules, AS_of_eq, ← decide_not, seval]
    unfold stepsR stp
    rw [he, if_neg hc]; rfl
theorem call_steps {Γ : Env} (hf : Γ.get 35 = some stepsCon) {σ : AS} {dr : Bool} {s : List UInt8} {l : List Cp} {t : Nat} {ys : List AV} {d : Option Nat} {K : AS → Prop} (hy : ys = comps l) (hs : s.length ≤ 1099511627776) (hl : okL l) (ht : t < 2)
    (hk : cont σ d (stepsR s l) K) : vcCall Tryd.prog Γ dr σ 35 [.v (sv s), .sl t 3 ys] d K := by
  subst hy
  refine vcCall_fn (C := stepsCon) (i := (⟨s, hs⟩, ⟨l, hl⟩)) (r := stepsR s l) hf rfl rfl rfl ?_ (fun _ h => h) (by rw [stepsR_er]; exact hk) <;> simp [AV.erL, AV.er, AV.tagsL, AV.tags, comps_er] <;> omega
end Go.Proofs
end

-- FAp2
section
namespace Go.Proofs
open Go Go.Rw
set_option maxRecDepth 100000
set_option linter.unusedSimpArgs false
set_option linter.unusedVariables false

end Go.Proofs
end

-- FAp3
section
namespace Go.Proofs
open Go Go.Rw
set_option maxRecDepth 100000
set_option linter.unusedSimpArgs false
set_option linter.unusedVariables false

end Go.Proofs
end

-- FAp4
section
namespace Go.Proofs
open Go Go.Rw
set_option maxRecDepth 100000
set_option linter.unusedSimpArgs false
set_option linter.unusedVariables false

def doR (s : List UInt8) (l : List Cp) : AV := res2 (.v (sv (doneB s l))) (errI s l)
abbrev doCon : Con where
  ι := Str × Ed
  args := fun p => [.v (sv p.1.1), .sl 0 3 (comps p.2.1)]
  post := fun p r => r = doR p.1.1 p.2.1
  plain := true
theorem stp_puts (s : List UInt8) (l : List Cp) : (stp s l).flatMap Sp.puts = doneB s l ∧ (doneB s l).length ≤ 8000 := by
  unfold stp doneB
  by_cases he : errI s l = 0
  · rw [if_pos he, if_pos he]
    obtain ⟨hc, _, hb, hf⟩ := err_zero he
    have hcc := check_cases hc
    have ho := out_do l (cpts s) 0 (by omega) hf hcc.2.2.2.2.2
    have h4 := encs_len_le (cs := doL (cpts s) l)
    have : outL l = outF 0 l := rfl
    exact ⟨steps_puts l _ hf, by omega⟩
  · rw [if_neg he, if_neg he]; exact ⟨rfl, by simp⟩
theorem take_puts (S : List Sp) (i : Nat) (h : i < S.length) : (S.take (i + 1)).flatMap Sp.puts = (S.take i).flatMap Sp.puts ++ S[i].puts := by
  rw [List.take_succ_eq_append_getElem h, List.flatMap_append]; simp
theorem take_puts_le (S : List Sp) (i : Nat) : ((S.take i).flatMap Sp.puts).length ≤ (S.flatMap Sp.puts).length := by
  conv => rhs; rw [← List.take_append_drop i S]
  rw [List.flatMap_append, List.length_append]; omega
theorem stp_len (s : List UInt8) (l : List Cp) : (stp s l).length ≤ 100 := by
  unfold stp
  split
  · rename_i he
    have := (check_cases (err_zero he).1).1
    rw [steps_len]; exact this
  · simp
theorem do_good : Rw.Good Tryd.prog 25 doCon := by
  have hΓ : GoodEnv Tryd.prog [(35, stepsCon)] := (goodEnv_cons steps_good goodEnv_nil)
  refine good_fn (nn := 30) hΓ Tryd.func25 (by kernel_rfl) rfl (show Tryd.f25.results.toList = [.tmp 4, .tmp 5] from rfl) (fun _ => rfl) (fun _ => rfl) ?_
  rintro ⟨⟨s, hs⟩, ⟨l, hl⟩⟩
  simp only [goRules, coreRules, tiRules, unRules, AS_of_eq, ← decide_not, seval]
  refine call_steps (by simp [get_cons]) rfl hs hl (by omega) ?_
  obtain ⟨hp1, hp2⟩ := stp_puts s l
  have hle := take_puts_le (stp s l)
  have hlen := stp_len s l
  have hdo : doR s l = res2 (.v (sv ((stp s l).flatMap Sp.puts))) (errI s l) := by unfold doR; rw [hp1]
  rw [← hp1] at hp2
  simp only [goRules, coreRules, tiRules, unRules, AS_of_eq, ← decide_not, seval, stepsR, res2, sts_len]
  generalize stp s l = S at *
  obtain ⟨St, hSt⟩ : ∃ St : { i : Nat // i ≤ S.length } → AS, ∀ i, St i = AS.of 30 [(6, .v (sv ((S.take i.1).flatMap Sp.puts))), (8, .v (.int .i64 (errI s l))), (17, .sl 0 5 (sts S)), (18, .v (.int .i64 S.length)), (19, .v (.int .i64 i.1))] [] [] := ⟨_, fun _ => rfl⟩
  refine vc_loop hΓ St (fun i => S.length - i.1) ⟨0, by omega⟩ (by rw [hSt]; refine weak_go [] [] ?_; simp only [goRules, coreRules, tiRules, unRules, AS_of_eq, ← decide_not, seval, List.take_zero, List.flatMap_nil] <;> ((repeat' apply And.intro) <;> first | rfl | omega | trivial)) ?_
  rintro ⟨i, hi⟩
  rw [hSt]
  simp only
  simp only [goRules, coreRules, tiRules, unRules, AS_of_eq, ← decide_not, seval]
  (with_reducible first | refine branchP_dec (fun h => ?_) (fun h => ?_) | refine guardB_dec (fun h => ?_) (fun h => ?_))
  · have hlt : i < S.length := by omega
    have e1 := sts_getD S hlt
    have h1 := hle i
    have h2 := hle (i + 1)
    have htp := take_puts S i hlt
    rw [htp, List.length_append] at h2
    simp (disch := omega) only [goRules, coreRules, tiRules, unRules, AS_of_eq, ← decide_not, seval, wrap_i64, h, e1, sts_len]
    (repeat (with_reducible refine And.intro ?_ ?_; focus (first | omega | exact mixed1 | kernel_rfl)))
    refine weak_again ⟨i + 1, by omega⟩ (by simp only; omega) ?_
    rw [hSt]
    simp only
    rw [htp]
    refine weak_go [] [] ?_
    simp only [goRules, coreRules, tiRules, unRules, AS_of_eq, ← decide_not, seval] <;> ((repeat' apply And.intro) <;> first | rfl | omega | trivial)
  · have hin : i = S.length := by omega
    simp only [goRules, coreRules, tiRules, unRules, AS_of_eq, ← decide_not, seval, h, hin, List.take_length]
    rw [hdo]; rfl
theorem call_do {Γ : Env} {f : Nat} (hf : Γ.get f = some doCon) {σ : AS} {dr : Bool} {s : List UInt8} {l : List Cp} {t : Nat} {ys : List AV} {d : Option Nat} {K : AS → Prop} (hy : ys = comps l) (hs : s.length ≤ 1099511627776) (hl : okL l)
    (hk : cont σ d (doR s l) K) : vcCall Tryd.prog Γ dr σ f [.v (sv s), .sl t 3 ys] d K := by
  subst hy
  exact vcCall_plain (C := doCon) (i := (⟨s, hs⟩, ⟨l, hl⟩)) hf rfl rfl rfl rfl (fun _ h => h) rfl hk
end Go.Proofs
end

-- FAq0
section
namespace Go.Proofs
open Go Go.Rw
set_option maxRecDepth 100000
set_option linter.unusedSimpArgs false
set_option linter.unusedVariables false

theorem cpts_len (t : List UInt8) : (cpts t).length ≤ t.length := by
  unfold cpts
  cases h : pts t with
  | none => simp
  | some cs =>
    obtain ⟨_, e⟩ := pts_some h
    have := encs_le cs
    rw [← e] at this
    exact this
theorem cnt_cpts (t : List UInt8) : cnt t = (cpts t).length := by
  unfold cnt cpts
  cases h : pts t <;> rfl
end Go.Proofs
end

-- FUk0
section
namespace Go.Proofs
open Go Go.Rw
set_option maxRecDepth 100000
set_option linter.unusedSimpArgs false
set_option linter.unusedVariables false

/-- A file or a directory. -/
structure Nd where
  id : Int
  par : Int
  nm : List UInt8
  dir : Bool
  text : List UInt8
  deriving Inhabited, DecidableEq
def nA (x : Nd) : AV := .agg [.v (.int .i64 x.id), .v (.int .i64 x.par), .v (sv x.nm), .v (.bool x.dir), .v (sv x.text)]
def nodes (l : List Nd) : List AV := l.map nA
theorem nodes_nil : nodes [] = [] := rfl
theorem nodes_len (l : List Nd) : (nodes l).length = l.length := by simp [nodes]
theorem nodes_getD (l : List Nd) {i : Nat} (h : i < l.length) : (nodes l).getD i .any = nA l[i] := by simp [nodes, List.getD_eq_getElem?_getD, h]
theorem nodes_take (l : List Nd) (i : Nat) : (nodes l).take i = nodes (l.take i) := by simp [nodes, List.map_take]
theorem nA_er (x : Nd) : (nA x).er = nA x := by simp [nA, AV.er, AV.erL]
theorem nodes_er : ∀ l : List Nd, AV.erL (nodes l) = nodes l
  | [] => rfl
  | x :: l => by simp only [nodes, List.map_cons, AV.erL, nA_er]; rw [show List.map nA l = nodes l from rfl, nodes_er l]
def zeroN : Nd := ⟨0, 0, [], false, []⟩
/-- An ID's place; as many as there are: it is not there. -/
def ndx (id : Int) : List Nd → Nat
  | [] => 0
  | x :: l => if x.id = id then 0 else ndx id l + 1
theorem ndx_le (id : Int) : ∀ l : List Nd, ndx id l ≤ l.length
  | [] => Nat.le_refl _
  | x :: l => by
    have := ndx_le id l
    rw [ndx]; split <;> simp only [List.length_cons] <;> omega
theorem ndx_get (id : Int) : ∀ (l : List Nd) (h : ndx id l < l.length), (l[ndx id l]).id = id
  | x :: l, h => by
    by_cases hx : x.id = id
    · simp [ndx, hx]
    · have e : ndx id (x :: l) = ndx id l + 1 := by rw [ndx, if_neg hx]
      simp only [e, List.getElem_cons_succ]
      exact ndx_get id l (by rw [e] at h; simpa using h)
theorem ndx_mem (id : Int) : ∀ l : List Nd, ndx id l < l.length ↔ ∃ x ∈ l, x.id = id
  | [] => by simp [ndx]
  | x :: l => by
    rw [ndx]
    by_cases hx : x.id = id
    · rw [if_pos hx]; simp [hx]
    · rw [if_neg hx]; simp [hx, ndx_mem id l]
/-- What has a name in a directory; -1: nothing. -/
def kid (par : Int) (nm : List UInt8) : List Nd → Int
  | [] => -1
  | x :: l => if x.par = par ∧ x.nm = nm then x.id else kid par nm l
/-- Does a node stand at another one, or within it? -/
def inN (l : List Nd) (top : Int) : Nat → Int → Bool
  | 0, _ => true
  | n + 1, id => if id = top then true else if ndx id l < l.length then inN l top n (l.getD (ndx id l) zeroN).par else false
def withinB (l : List Nd) (id top : Int) : Bool := inN l top (l.length + 1) id
def childI (l : List Nd) (par : Int) (nm : List UInt8) (id : Int) : Int := if 0 ≤ kid par nm l ∧ kid par nm l ≠ id then 6 else 0
def placeI (l : List Nd) (par : Int) (nm : List UInt8) (id : Int) : Int :=
  if par = 0 then childI l par nm id
  else if ndx par l < l.length then (if (l.getD (ndx par l) zeroN).dir = false then 8 else if id > 0 ∧ withinB l par id = true then 10 else childI l par nm id)
  else 5
def totN : List Nd → Nat
  | [] => 0
  | x :: l => cnt x.text + totN l
/-- As many as stand ahead of an ID. -/
def atN (id : Int) : List Nd → Nat
  | [] => 0
  | x :: l => if x.id < id then atN id l + 1 else 0
theorem atN_le (id : Int) : ∀ l : List Nd, atN id l ≤ l.length
  | [] => Nat.le_refl _
  | x :: l => by
    have := atN_le id l
    rw [atN]; split <;> simp only [List.length_cons] <;> omega
/-- What an act does: the nodes, the error. -/
def doN (l : List Nd) (a : Ac) : List Nd × Int :=
  let x := l.getD (ndx a.id l) zeroN
  if a.k = 1 then
    if a.id < 1 ∨ a.id > 1099511627776 ∨ nameOk a.nm = false then (l, 1)
    else if ndx a.id l < l.length then (l, 6)
    else if placeI l a.par a.nm 0 ≠ 0 then (l, placeI l a.par a.nm 0)
    else if l.length ≥ 100 then (l, 4)
    else (l.take (atN a.id l) ++ ⟨a.id, a.par, a.nm, a.dir, []⟩ :: l.drop (atN a.id l), 0)
  else if a.k = 2 then
    if ¬ ndx a.id l < l.length then (l, 5)
    else if (l.any fun y => decide (y.par = a.id)) = true then (l, 9)
    else (l.take (ndx a.id l) ++ l.drop (ndx a.id l + 1), 0)
  else if a.k = 3 then
    if nameOk a.nm = false then (l, 1)
    else if ¬ ndx a.id l < l.length then (l, 5)
    else if placeI l a.par a.nm a.id ≠ 0 then (l, placeI l a.par a.nm a.id)
    else (l.set (ndx a.id l) ⟨x.id, a.par, a.nm, x.dir, x.text⟩, 0)
  else if a.k = 4 then
    if ¬ ndx a.id l < l.length then (l, 5)
    else if x.dir = true then (l, 8)
    else if errI x.text a.ops ≠ 0 then (l, errI x.text a.ops)
    else if (totN (l.set (ndx a.id l) ⟨x.id, x.par, x.nm, x.dir, doneB x.text a.ops⟩) : Int) > 10000 then (l, 4)
    else (l.set (ndx a.id l) ⟨x.id, x.par, x.nm, x.dir, doneB x.text a.ops⟩, 0)
  else (l, 1)
structure Alln where
  now : List Nd
  n : Int
  e : Int
  deriving DecidableEq
end Go.Proofs
end

-- FUk1
section
namespace Go.Proofs
open Go Go.Rw
set_option maxRecDepth 100000
set_option linter.unusedSimpArgs false
set_option linter.unusedVariables false

end Go.Proofs
end

-- FUk1e
section
namespace Go.Proofs
open Go Go.Rw
set_option maxRecDepth 100000
set_option linter.unusedSimpArgs false
set_option linter.unusedVariables false

section
variable {P : Program}
theorem calm_eqB {d : Nat} {t : TypeId} {a b : Bool} (h : P.underlying t = some .bool) : calm P (Op.equalIn (d + 1) t (.bool a) (.bool b)) = some (a == b) := by
  simp [Op.equalIn, calm_bind, underlying, h]
/-- A struct of two numbers, a text, yes or no, a text. -/
def is5 (P : Program) (t ti ts tb : TypeId) : Bool := match P.underlying t with
  | some (.struct fs) => match fs.toList with
    | [f1, f2, f3, f4, f5] => (f1.type == ti && (f1.offset == 0 && f1.name != "_")) && ((f2.type == ti && (f2.offset == 1 && f2.name != "_")) && ((f3.type == ts && (f3.offset == 2 && f3.name != "_")) && ((f4.type == tb && (f4.offset == 3 && f4.name != "_")) && (f5.type == ts && (f5.offset == 4 && f5.name != "_")))))
    | _ => false
  | _ => false
theorem calm_eq5 {d : Nat} {t ti ts tb : TypeId} {k : IntKind} {a b a' b' : Int} {s s' u u' : List UInt8} {q q' : Bool} (h5 : is5 P t ti ts tb = true) (hp : P.stoodInHeld t = false) (hi : P.underlying ti = some (.int k)) (hs : P.underlying ts = some .string) (hb : P.underlying tb = some .bool) :
    calm P (Op.equalIn (d + 2) t (.agg #[.int .i64 a, .int .i64 b, .string ⟨s.toArray⟩, .bool q, .string ⟨u.toArray⟩]) (.agg #[.int .i64 a', .int .i64 b', .string ⟨s'.toArray⟩, .bool q', .string ⟨u'.toArray⟩])) = some (a == a' && b == b' && s == s' && q == q' && u == u') := by
  unfold is5 at h5
  split at h5
  · rename_i fs ht
    split at h5
    · rename_i f1 f2 f3 f4 f5 hl
      have hfs : fs = #[f1, f2, f3, f4, f5] := by rw [← hl]
      subst hfs
      simp only [Bool.and_eq_true, beq_iff_eq, bne_iff_ne] at h5
      obtain ⟨⟨rfl, o1, n1⟩, ⟨e2, o2, n2⟩, ⟨rfl, o3, n3⟩, ⟨rfl, o4, n4⟩, ⟨e5, o5, n5⟩⟩ := h5
      have p0 : ∀ (a b : Int) (s u : List UInt8) (q : Bool), calm P (part f1.type #[.int .i64 a, .int .i64 b, .string ⟨s.toArray⟩, .bool q, .string ⟨u.toArray⟩] 0) = some (.int .i64 a) := fun a b s u q => calm_part1 hi rfl rfl
      have p1 : ∀ (a b : Int) (s u : List UInt8) (q : Bool), calm P (part f1.type #[.int .i64 a, .int .i64 b, .string ⟨s.toArray⟩, .bool q, .string ⟨u.toArray⟩] 1) = some (.int .i64 b) := fun a b s u q => calm_part1 hi rfl rfl
      have p2 : ∀ (a b : Int) (s u : List UInt8) (q : Bool), calm P (part f3.type #[.int .i64 a, .int .i64 b, .string ⟨s.toArray⟩, .bool q, .string ⟨u.toArray⟩] 2) = some (.string ⟨s.toArray⟩) := fun a b s u q => calm_part1 hs rfl rfl
      have p3 : ∀ (a b : Int) (s u : List UInt8) (q : Bool), calm P (part f4.type #[.int .i64 a, .int .i64 b, .string ⟨s.toArray⟩, .bool q, .string ⟨u.toArray⟩] 3) = some (.bool q) := fun a b s u q => calm_part1 hb rfl rfl
      have p4 : ∀ (a b : Int) (s u : List UInt8) (q : Bool), calm P (part f3.type #[.int .i64 a, .int .i64 b, .string ⟨s.toArray⟩, .bool q, .string ⟨u.toArray⟩] 4) = some (.string ⟨u.toArray⟩) := fun a b s u q => calm_part1 hs rfl rfl
      rw [Op.equalIn]
      simp only [calm_bind, underlying, calm_program, Option.bind_some, ht, calm_pure, hp, Bool.false_eq_true, if_false, ← Array.forIn_toList, List.forIn_cons, List.forIn_nil, n1, n2, n3, n4, n5, o1, o2, o3, o4, o5, e2, e5, p0, p1, p2, p3, p4, calm_eqI hi, calm_eqS hs, calm_eqB hb, if_true, ne_eq, not_false_eq_true]
      by_cases c1 : a = a' <;> by_cases c2 : b = b' <;> by_cases c3 : s = s' <;> by_cases c4 : q = q' <;> by_cases c5 : u = u' <;> simp [c1, c2, c3, c4, c5, calm_bind, p0, p1, p2, p3, p4, calm_eqI hi, calm_eqS hs, calm_eqB hb]
    · cases h5
  · cases h5
end
end Go.Proofs
end

-- FUk2
section
namespace Go.Proofs
open Go Go.Rw
set_option maxRecDepth 100000
set_option linter.unusedSimpArgs false
set_option linter.unusedVariables false

theorem nodes_set (l : List Nd) (i : Nat) (x : Nd) : (nodes l).set i (nA x) = nodes (l.set i x) := by simp [nodes, List.map_set]
end Go.Proofs
end

-- FAp5
section
namespace Go.Proofs
open Go Go.Rw
set_option maxRecDepth 100000
set_option linter.unusedSimpArgs false
set_option linter.unusedVariables false

end Go.Proofs
end

-- FAw0
section
namespace Go.Proofs
open Go Go.Rw
set_option maxRecDepth 100000
set_option linter.unusedSimpArgs false
set_option linter.unusedVariables false

/-- A unit of an edit: a code point kept, or gone, or put in. -/
inductive Un where
  | r
  | d
  | i (c : Nat)
  deriving DecidableEq
def size (c : Cp) : Nat := if c.k = 2 then (cpts c.t).length else c.n.toNat
end Go.Proofs
end

-- FAw1
section
namespace Go.Proofs
open Go Go.Rw
set_option maxRecDepth 100000
set_option linter.unusedSimpArgs false
set_option linter.unusedVariables false

def part (c : Cp) (dn m : Nat) : Cp := if c.k = 2 then ⟨c.k, c.n, encs (((cpts c.t).drop dn).take m)⟩ else ⟨c.k, m, c.t⟩
def advR (c : Cp) (r : List Cp) (dn m : Nat) : List Cp := if dn + m = size c then r else c :: r
def advD (c : Cp) (dn m : Nat) : Nat := if dn + m = size c then 0 else dn + m
end Go.Proofs
end

-- FAw2
section
namespace Go.Proofs
open Go Go.Rw
set_option maxRecDepth 100000
set_option linter.unusedSimpArgs false
set_option linter.unusedVariables false

def adv (w : List Cp × Nat) (n : Nat) : List Cp × Nat := match w with
  | ([], a) => ([], a)
  | (c :: r, a) => (advR c r a n, advD c a n)
def piece (w : List Cp × Nat) (n : Nat) : Cp := match w with
  | ([], _) => ⟨0, 0, []⟩
  | (c :: _, a) => part c a n
end Go.Proofs
end

-- FAw3
section
namespace Go.Proofs
open Go Go.Rw
set_option maxRecDepth 100000
set_option linter.unusedSimpArgs false
set_option linter.unusedVariables false

end Go.Proofs
end

-- FAw4
section
namespace Go.Proofs
open Go Go.Rw
set_option maxRecDepth 100000
set_option linter.unusedSimpArgs false
set_option linter.unusedVariables false

end Go.Proofs
end

-- FAw5
section
namespace Go.Proofs
open Go Go.Rw
set_option maxRecDepth 100000
set_option linter.unusedSimpArgs false
set_option linter.unusedVariables false

end Go.Proofs
end

-- FAw6
section
namespace Go.Proofs
open Go Go.Rw
set_option maxRecDepth 100000
set_option linter.unusedSimpArgs false
set_option linter.unusedVariables false

end Go.Proofs
end

-- FAw7
section
namespace Go.Proofs
open Go Go.Rw
set_option maxRecDepth 100000
set_option linter.unusedSimpArgs false
set_option linter.unusedVariables false

def edits (l : List (List Cp)) : List AV := l.map fun x => .sl 0 3 (comps x)
end Go.Proofs
end

-- FAq1
section
namespace Go.Proofs
open Go Go.Rw
set_option maxRecDepth 100000
set_option linter.unusedSimpArgs false
set_option linter.unusedVariables false

end Go.Proofs
end

-- FAw9
section
namespace Go.Proofs
open Go Go.Rw
set_option maxRecDepth 100000
set_option linter.unusedSimpArgs false
set_option linter.unusedVariables false

end Go.Proofs
end

-- FUk3
section
namespace Go.Proofs
open Go Go.Rw
set_option maxRecDepth 100000
set_option linter.unusedSimpArgs false
set_option linter.unusedVariables false

end Go.Proofs
end

-- FUk4
section
namespace Go.Proofs
open Go Go.Rw
set_option maxRecDepth 100000
set_option linter.unusedSimpArgs false
set_option linter.unusedVariables false

theorem one_ok {a : Ac} (h : badA a = false) : oneI a = if a.k = 4 then checkI a.ops else 0 := by rw [oneI, h]; rfl
end Go.Proofs
end

-- FUk5
section
namespace Go.Proofs
open Go Go.Rw
set_option maxRecDepth 100000
set_option linter.unusedSimpArgs false
set_option linter.unusedVariables false

end Go.Proofs
end

-- FUe5
section
namespace Go.Proofs
open Go Go.Rw
set_option maxRecDepth 100000
set_option linter.unusedSimpArgs false
set_option linter.unusedVariables false

end Go.Proofs
end

-- FUeL
section
namespace Go.Proofs
open Go.Shelf
end Go.Proofs
end

-- FUe4
section
namespace Go.Proofs
open Go Go.Shelf Go.RowKit Go.Lib Go.Sort
set_option maxRecDepth 100000
set_option linter.unusedSimpArgs false
set_option linter.unusedVariables false

end Go.Proofs
end

-- FUe3
section
namespace Go.Proofs
open Go Go.Rw
set_option maxRecDepth 100000
set_option linter.unusedSimpArgs false
set_option linter.unusedVariables false

end Go.Proofs
end

-- FAx1
section
namespace Go.Proofs
open Go Go.Rw
set_option maxRecDepth 100000
set_option linter.unusedSimpArgs false
set_option linter.unusedVariables false

end Go.Proofs
end

-- FAx2
section
namespace Go.Proofs
open Go Go.Rw
set_option maxRecDepth 100000
set_option linter.unusedSimpArgs false
set_option linter.unusedVariables false

end Go.Proofs
end

-- FAx4
section
namespace Go.Proofs
open Go Go.Rw
set_option maxRecDepth 100000
set_option linter.unusedSimpArgs false
set_option linter.unusedVariables false

end Go.Proofs
end

-- FUe6
section
namespace Go.Proofs
open Go Go.Rw
set_option maxRecDepth 100000
set_option linter.unusedSimpArgs false
set_option linter.unusedVariables false

end Go.Proofs
end

-- FAw8
section
namespace Go.Proofs
open Go Go.Rw
set_option maxRecDepth 100000
set_option linter.unusedSimpArgs false
set_option linter.unusedVariables false

end Go.Proofs
end

-- FAw10
section
namespace Go.Proofs
open Go Go.Rw
set_option maxRecDepth 100000
set_option linter.unusedSimpArgs false
set_option linter.unusedVariables false

end Go.Proofs
end

-- FAx5
section
namespace Go.Proofs
open Go Go.Rw
set_option maxRecDepth 100000
set_option linter.unusedSimpArgs false
set_option linter.unusedVariables false

end Go.Proofs
end

-- FAx3
section
namespace Go.Proofs
open Go Go.Rw
set_option maxRecDepth 100000
set_option linter.unusedSimpArgs false
set_option linter.unusedVariables false

end Go.Proofs
end

-- FUe7
section
namespace Go.Proofs
open Go Go.Rw
set_option maxRecDepth 100000
set_option linter.unusedSimpArgs false
set_option linter.unusedVariables false

end Go.Proofs
end

-- FUe8
section
namespace Go.Proofs
open Go Go.Rw
set_option maxRecDepth 100000
set_option linter.unusedSimpArgs false
set_option linter.unusedVariables false

end Go.Proofs
end

-- FUe9
section
namespace Go.Proofs
open Go Go.Rw
set_option maxRecDepth 100000
set_option linter.unusedSimpArgs false
set_option linter.unusedVariables false

end Go.Proofs
end

-- FUe10
section
namespace Go.Proofs
open Go Go.Rw
set_option maxRecDepth 100000
set_option linter.unusedSimpArgs false
set_option linter.unusedVariables false

end Go.Proofs
end

-- FUe13
section
namespace Go.Proofs
open Go Go.Rw
set_option maxRecDepth 100000
set_option linter.unusedSimpArgs false
set_option linter.unusedVariables false

end Go.Proofs
end

-- FUe14
section
namespace Go.Proofs
open Go Go.Rw
set_option maxRecDepth 100000
set_option linter.unusedSimpArgs false
set_option linter.unusedVariables false

end Go.Proofs
end

-- FUn4
section
namespace Go.Proofs
open Go Go.Rw
set_option maxRecDepth 100000
set_option linter.unusedSimpArgs false
set_option linter.unusedVariables false

end Go.Proofs
end

-- FUn5
section
namespace Go.Proofs
open Go Go.Rw
set_option maxRecDepth 100000
set_option linter.unusedSimpArgs false
set_option linter.unusedVariables false

theorem okL_nil : okL ([] : List Cp) := ⟨by decide, by decide, fun c hc => by cases hc⟩
end Go.Proofs
end

-- FUn6
section
namespace Go.Proofs
open Go Go.Rw
set_option maxRecDepth 100000
set_option linter.unusedSimpArgs false
set_option linter.unusedVariables false

structure Reb where
  out : List Ac
  left : List On
  e : Int
  deriving DecidableEq
end Go.Proofs
end

-- FUe11
section
namespace Go.Proofs
open Go Go.Rw
set_option maxRecDepth 100000
set_option linter.unusedSimpArgs false
set_option linter.unusedVariables false

end Go.Proofs
end

-- FUk8
section
namespace Go.Proofs
open Go Go.Rw
set_option maxRecDepth 100000
set_option linter.unusedSimpArgs false
set_option linter.unusedVariables false

def srtN (l : List Nd) : Prop := (l.map Nd.id).Pairwise (· < ·)
/-- The node of an ID. -/
def atI (i : Int) : List Nd → Option Nd
  | [] => none
  | x :: l => if x.id = i then some x else atI i l
theorem at_ndx (i : Int) : ∀ l : List Nd, atI i l = if ndx i l < l.length then some (l.getD (ndx i l) zeroN) else none
  | [] => by simp [atI, ndx]
  | x :: l => by
    rw [atI, ndx, at_ndx i l]
    by_cases h : x.id = i
    · simp [h]
    · simp only [if_neg h, List.length_cons, Nat.add_lt_add_iff_right, List.getD_cons_succ]
theorem at_none {i : Int} : ∀ {l : List Nd}, (∀ x ∈ l, x.id ≠ i) → atI i l = none
  | [], _ => rfl
  | x :: l, h => by rw [atI, if_neg (h x (List.mem_cons_self ..)), at_none fun y hy => h y (List.mem_cons_of_mem _ hy)]
theorem at_some {i : Int} {x : Nd} : ∀ {l : List Nd}, atI i l = some x → x ∈ l ∧ x.id = i
  | [], h => by simp [atI] at h
  | y :: l, h => by
    rw [atI] at h
    split at h
    · rename_i hy; cases h; exact ⟨List.mem_cons_self .., hy⟩
    · exact ⟨List.mem_cons_of_mem _ (at_some h).1, (at_some h).2⟩
theorem srt_cons {x : Nd} {l : List Nd} : srtN (x :: l) ↔ (∀ y ∈ l, x.id < y.id) ∧ srtN l := by
  simp only [srtN, List.map_cons, List.pairwise_cons, List.mem_map, forall_exists_index, and_imp, forall_apply_eq_imp_iff₂]
def insN (x : Nd) : List Nd → List Nd
  | [] => [x]
  | y :: l => if y.id < x.id then y :: insN x l else x :: y :: l
theorem ins_eq (x : Nd) : ∀ l : List Nd, l.take (atN x.id l) ++ x :: l.drop (atN x.id l) = insN x l
  | [] => rfl
  | y :: l => by
    rw [atN, insN]
    split
    · rw [List.take_succ_cons, List.drop_succ_cons, List.cons_append, ins_eq x l]
    · simp
theorem ins_mem (x y : Nd) : ∀ l : List Nd, y ∈ insN x l → y = x ∨ y ∈ l
  | [], h => .inl (by simpa [insN] using h)
  | z :: l, h => by
    rw [insN] at h
    split at h
    · rcases List.mem_cons.1 h with h | h
      · exact .inr (by simp [h])
      · rcases ins_mem x y l h with h | h
        · exact .inl h
        · exact .inr (List.mem_cons_of_mem _ h)
    · rcases List.mem_cons.1 h with h | h
      · exact .inl h
      · exact .inr h
theorem ins_srt (x : Nd) : ∀ l : List Nd, srtN l → (∀ y ∈ l, y.id ≠ x.id) → srtN (insN x l)
  | [], _, _ => by simp [insN, srtN]
  | y :: l, h, hn => by
    obtain ⟨h1, h2⟩ := srt_cons.1 h
    have hy := hn y (List.mem_cons_self ..)
    rw [insN]
    split
    · rename_i hlt
      refine srt_cons.2 ⟨fun z hz => ?_, ins_srt x l h2 fun z hz => hn z (List.mem_cons_of_mem _ hz)⟩
      rcases ins_mem x z l hz with rfl | hz
      · exact hlt
      · exact h1 z hz
    · refine srt_cons.2 ⟨fun z hz => ?_, h⟩
      rcases List.mem_cons.1 hz with rfl | hz
      · omega
      · have := h1 z hz; omega
theorem ins_at (x : Nd) (i : Int) : ∀ l : List Nd, (∀ y ∈ l, y.id ≠ x.id) → atI i (insN x l) = if i = x.id then some x else atI i l
  | [], _ => by
    by_cases h : i = x.id
    · rw [if_pos h, insN, atI, if_pos h.symm]
    · rw [if_neg h, insN]; simp [atI, Ne.symm h]
  | y :: l, hn => by
    have hy := hn y (List.mem_cons_self ..)
    have ih := ins_at x i l fun z hz => hn z (List.mem_cons_of_mem _ hz)
    rw [insN]
    split
    · rw [atI, ih, atI]
      by_cases h : i = x.id
      · rw [if_neg (by rw [h]; exact hy), if_pos h, if_pos h]
      · rw [if_neg h, if_neg h]
    · rw [atI]
      by_cases h : i = x.id
      · rw [if_pos h.symm, if_pos h]
      · rw [if_neg (Ne.symm h), if_neg h]
def delN (i : Int) : List Nd → List Nd
  | [] => []
  | x :: l => if x.id = i then l else x :: delN i l
theorem del_eq (i : Int) : ∀ l : List Nd, l.take (ndx i l) ++ l.drop (ndx i l + 1) = delN i l
  | [] => rfl
  | x :: l => by
    rw [ndx, delN]
    split
    · simp
    · rw [List.take_succ_cons, List.drop_succ_cons, List.cons_append, del_eq i l]
theorem del_mem (i : Int) (y : Nd) : ∀ l : List Nd, y ∈ delN i l → y ∈ l
  | [], h => h
  | x :: l, h => by
    rw [delN] at h
    split at h
    · exact List.mem_cons_of_mem _ h
    · rcases List.mem_cons.1 h with h | h
      · simp [h]
      · exact List.mem_cons_of_mem _ (del_mem i y l h)
theorem del_srt (i : Int) : ∀ l : List Nd, srtN l → srtN (delN i l)
  | [], h => h
  | x :: l, h => by
    obtain ⟨h1, h2⟩ := srt_cons.1 h
    rw [delN]
    split
    · exact h2
    · exact srt_cons.2 ⟨fun y hy => h1 y (del_mem i y l hy), del_srt i l h2⟩
theorem del_at (k i : Int) : ∀ l : List Nd, srtN l → atI i (delN k l) = if i = k then none else atI i l
  | [], h => by simp [delN, atI]
  | x :: l, h => by
    obtain ⟨h1, h2⟩ := srt_cons.1 h
    rw [delN]
    by_cases hx : x.id = k
    · rw [if_pos hx, atI]
      by_cases hi : i = k
      · rw [if_pos hi, at_none fun y hy => by have := h1 y hy; omega]
      · rw [if_neg hi, if_neg (by omega)]
    · rw [if_neg hx, atI, atI, del_at k i l h2]
      by_cases hi : i = k
      · rw [if_neg (by omega), if_pos hi, if_pos hi]
      · rw [if_neg hi, if_neg hi]
theorem set_srt {i : Int} {y : Nd} (hy : y.id = i) : ∀ l : List Nd, (l.set (ndx i l) y).map Nd.id = l.map Nd.id
  | [] => rfl
  | x :: l => by
    rw [ndx]
    split
    · rename_i h; simp [hy, h]
    · rw [List.set_cons_succ, List.map_cons, set_srt hy l, List.map_cons]
theorem set_at {k : Int} {y : Nd} (hy : y.id = k) (i : Int) : ∀ l : List Nd, ndx k l < l.length → atI i (l.set (ndx k l) y) = if i = k then some y else atI i l
  | [], h => by simp [ndx] at h
  | x :: l, h => by
    rw [ndx] at h ⊢
    by_cases hx : x.id = k
    · rw [if_pos hx, List.set_cons_zero, atI, atI]
      by_cases hi : i = k
      · rw [if_pos hi, if_pos (by omega)]
      · rw [if_neg hi, if_neg (by omega), if_neg (by omega)]
    · rw [if_neg hx] at h ⊢
      rw [List.set_cons_succ, atI, atI, set_at hy i l (by simpa using h)]
      by_cases hi : i = k
      · rw [if_neg (by omega), if_pos hi, if_pos hi]
      · rw [if_neg hi, if_neg hi]
def stepN (a : Ac) (o : Option Nd) : Option Nd :=
  if a.k = 1 then some ⟨a.id, a.par, a.nm, a.dir, []⟩ else if a.k = 2 then none
  else if a.k = 3 then o.map fun x => ⟨x.id, a.par, a.nm, x.dir, x.text⟩ else o.map fun x => ⟨x.id, x.par, x.nm, x.dir, doneB x.text a.ops⟩
theorem doN_at {l : List Nd} {a : Ac} (h : (doN l a).2 = 0) (hs : srtN l) : srtN (doN l a).1 ∧ ∀ i, atI i (doN l a).1 = if i = a.id then stepN a (atI i l) else atI i l := by
  have hid : ndx a.id l < l.length → (l.getD (ndx a.id l) zeroN).id = a.id := fun hl => by
    rw [List.getD_eq_getElem?_getD, List.getElem?_eq_getElem hl]; exact ndx_get a.id l hl
  have hset : ∀ (y : Nd) (f : Nd → Nd), ndx a.id l < l.length → y = f (l.getD (ndx a.id l) zeroN) → (∀ x, (f x).id = x.id) → srtN (l.set (ndx a.id l) y) ∧ ∀ i, atI i (l.set (ndx a.id l) y) = if i = a.id then (atI i l).map f else atI i l := fun y f hl hy hf => by
    have e : y.id = a.id := by rw [hy, hf, hid hl]
    refine ⟨by rw [srtN, set_srt e]; exact hs, fun i => ?_⟩
    rw [set_at e i l hl]
    by_cases hi : i = a.id
    · rw [if_pos hi, if_pos hi, hi, at_ndx, if_pos hl, hy]; rfl
    · rw [if_neg hi, if_neg hi]
  unfold doN at h ⊢
  simp only at h ⊢
  by_cases k1 : a.k = 1
  · simp only [k1, if_true] at h ⊢
    by_cases c1 : a.id < 1 ∨ a.id > 1099511627776 ∨ nameOk a.nm = false
    · rw [if_pos c1] at h; simp at h
    rw [if_neg c1] at h ⊢
    by_cases c2 : ndx a.id l < l.length
    · rw [if_pos c2] at h; simp at h
    rw [if_neg c2] at h ⊢
    by_cases c3 : placeI l a.par a.nm 0 ≠ 0
    · rw [if_pos c3] at h; exact absurd h c3
    rw [if_neg c3] at h ⊢
    by_cases c4 : l.length ≥ 100
    · rw [if_pos c4] at h; simp at h
    rw [if_neg c4]
    have hn : ∀ y ∈ l, y.id ≠ a.id := fun y hy e => c2 ((ndx_mem a.id l).2 ⟨y, hy, e⟩)
    have e1 := ins_eq ⟨a.id, a.par, a.nm, a.dir, []⟩ l
    simp only at e1 ⊢
    rw [e1]
    refine ⟨ins_srt _ l hs hn, fun i => ?_⟩
    rw [ins_at _ i l hn]
    simp only [stepN, k1, if_true]
  simp only [k1, if_false] at h ⊢
  by_cases k2 : a.k = 2
  · simp only [k2, if_true] at h ⊢
    by_cases c1 : ¬ ndx a.id l < l.length
    · rw [if_pos c1] at h; simp at h
    rw [if_neg c1] at h ⊢
    by_cases c2 : (l.any fun y => decide (y.par = a.id)) = true
    · rw [if_pos c2] at h; simp at h
    rw [if_neg c2]
    simp only
    rw [del_eq]
    refine ⟨del_srt _ l hs, fun i => ?_⟩
    rw [del_at _ i l hs]
    simp [stepN, k2]
  simp only [k2, if_false] at h ⊢
  by_cases k3 : a.k = 3
  · simp only [k3, if_true] at h ⊢
    by_cases c1 : nameOk a.nm = false
    · rw [if_pos c1] at h; simp at h
    rw [if_neg c1] at h ⊢
    by_cases c2 : ¬ ndx a.id l < l.length
    · rw [if_pos c2] at h; simp at h
    rw [if_neg c2] at h ⊢
    by_cases c3 : placeI l a.par a.nm a.id ≠ 0
    · rw [if_pos c3] at h; exact absurd h c3
    rw [if_neg c3]
    have := hset _ (fun x => ⟨x.id, a.par, a.nm, x.dir, x.text⟩) (Decidable.not_not.1 c2) rfl (fun _ => rfl)
    simpa [stepN, k3] using this
  simp only [k3, if_false] at h ⊢
  by_cases k4 : a.k = 4
  · simp only [k4, if_true] at h ⊢
    by_cases c2 : ¬ ndx a.id l < l.length
    · rw [if_pos c2] at h; simp at h
    rw [if_neg c2] at h ⊢
    by_cases c1 : (l.getD (ndx a.id l) zeroN).dir = true
    · rw [if_pos c1] at h; simp at h
    rw [if_neg c1] at h ⊢
    by_cases c3 : errI (l.getD (ndx a.id l) zeroN).text a.ops ≠ 0
    · rw [if_pos c3] at h; exact absurd h c3
    rw [if_neg c3] at h ⊢
    split at h
    · simp at h
    rename_i c5
    rw [if_neg c5]
    have := hset _ (fun x => ⟨x.id, x.par, x.nm, x.dir, doneB x.text a.ops⟩) (Decidable.not_not.1 c2) rfl (fun _ => rfl)
    simpa [stepN, k4] using this
  · simp only [k4, if_false] at h
    simp at h
end Go.Proofs
end

-- FUk9
section
namespace Go.Proofs
open Go Go.Rw
set_option maxRecDepth 100000
set_option linter.unusedSimpArgs false
set_option linter.unusedVariables false

end Go.Proofs
end

-- FTr0
section
namespace Go.Proofs
open Go Go.Rw
set_option maxRecDepth 100000
set_option linter.unusedSimpArgs false
set_option linter.unusedVariables false

/-- A node, as the map has it. -/
def nV (x : Nd) : Value := .agg #[.int .i64 x.id, .int .i64 x.par, sv x.nm, .bool x.dir, sv x.text]
def ents (l : List Nd) : List (Int × Value) := l.map fun x => (x.id, nV x)
def hasN (l : List Nd) (id : Int) : Bool := decide (ndx id l < l.length)
def gN (l : List Nd) (id : Int) : Nd := l.getD (ndx id l) zeroN
theorem hasN_iff (l : List Nd) (id : Int) : hasN l id = true ↔ ndx id l < l.length := by simp [hasN]
theorem lk_ents (k : Int) : ∀ l : List Nd, lkG k (ents l) = if hasN l k = true then some (nV (gN l k)) else none
  | [] => rfl
  | x :: l => by
    have ih := lk_ents k l
    rw [ents, List.map_cons, lkG, show List.map (fun x : Nd => (x.id, nV x)) l = ents l from rfl, ih]
    by_cases h : x.id = k
    · simp [h, hasN, ndx, gN]
    · simp only [if_neg h, hasN, ndx, gN, List.length_cons, decide_eq_true_eq, Nat.add_lt_add_iff_right, List.getD_cons_succ]
/-- The tree's map. -/
def TM (es : Array MapEntry) (cl : Nat) (l : List Nd) : Prop := MapG es cl (ents l) ∧ srtN l
theorem zero_node : zeroOf Tryd.prog 39 = some (nA zeroN) := by kernel_rfl
theorem elem_node : elemT Tryd.prog 41 = some 39 := by kernel_rfl
theorem look_tm {es : Array MapEntry} {cl : Nat} {l : List Nd} (h : TM es cl l) (id : Int) (c : Bool) : lookIn Tryd.prog 41 (.int .i64) (.int .i64 id) es.toList c = some (packA c (nA (gN l id)) (hasN l id)) := by
  rw [lkG_look h.1, lk_ents]
  by_cases hh : hasN l id = true
  · rw [if_pos hh, hh]; rfl
  · rw [if_neg hh, elem_node]
    simp only [zero_node, Option.map_some]
    have e1 : hasN l id = false := by simpa using hh
    have e2 : gN l id = zeroN := by
      unfold gN
      rw [List.getD_eq_getElem?_getD, List.getElem?_eq_none (by simp [hasN] at hh; omega)]; rfl
    rw [e1, e2]
theorem size_tm {es : Array MapEntry} {cl : Nat} {l : List Nd} (h : TM es cl l) : es.size = l.length := by rw [h.1.size, ents, List.length_map]
theorem tm_empty : TM #[] 0 [] := ⟨MapG.empty, by simp [srtN]⟩
/-- A node put in, or in another's place. -/
def setT (x : Nd) (l : List Nd) : List Nd := if hasN l x.id = true then l.set (ndx x.id l) x else l.take (atN x.id l) ++ x :: l.drop (atN x.id l)
theorem srt_mem {l : List Nd} (h : srtN l) : (l.map Nd.id).Nodup := by
  unfold srtN at h
  exact h.imp fun h1 => by omega
theorem ndx_self {x : Nd} : ∀ {l : List Nd}, (l.map Nd.id).Nodup → ∀ i, l[i]? = some x → ndx x.id l = i
  | [], _, _, h => by simp at h
  | y :: l, hu, 0, h => by
    simp only [List.getElem?_cons_zero, Option.some.injEq] at h
    rw [ndx, if_pos (by rw [h])]
  | y :: l, hu, i + 1, h => by
    simp only [List.getElem?_cons_succ] at h
    simp only [List.map_cons, List.nodup_cons] at hu
    rw [ndx, if_neg, ndx_self hu.2 i h]
    intro he
    apply hu.1
    rw [he]
    exact List.mem_map.2 ⟨x, List.mem_of_getElem? h, rfl⟩
theorem gN_get {l : List Nd} {id : Int} (h : hasN l id = true) : ∃ hh : ndx id l < l.length, gN l id = l[ndx id l] ∧ (l[ndx id l]).id = id := by
  have hh := (hasN_iff l id).1 h
  refine ⟨hh, ?_, ndx_get id l hh⟩
  unfold gN
  rw [List.getD_eq_getElem?_getD, List.getElem?_eq_getElem hh]; rfl
theorem put_ents {l : List Nd} (hs : (l.map Nd.id).Nodup) (x : Nd) : (putG x.id (nV x) (ents l)).Perm (ents (setT x l)) := by
  unfold putG setT
  rw [lk_ents]
  by_cases hh : hasN l x.id = true
  · rw [if_pos hh, if_pos hh]
    obtain ⟨h1, h2, h3⟩ := gN_get hh
    rw [if_pos (show (some (nV (gN l x.id))).isSome = true from rfl)]
    have hk : keysU (ents l) := by
      unfold keysU ents
      rw [List.map_map]; exact hs
    have hat : (ents l)[ndx x.id l]? = some (x.id, nV l[ndx x.id l]) := by
      unfold ents
      rw [List.getElem?_map, List.getElem?_eq_getElem h1]
      simp [h3]
    rw [map_one hk hat]
    unfold ents
    rw [List.map_set]
  · rw [if_neg hh, if_neg hh]
    simp only [Option.isSome_none, Bool.false_eq_true, if_false]
    unfold ents
    rw [List.map_append, List.map_cons]
    have e : l.map (fun x => (x.id, nV x)) = (l.take (atN x.id l)).map (fun x => (x.id, nV x)) ++ (l.drop (atN x.id l)).map (fun x => (x.id, nV x)) := by
      rw [← List.map_append, List.take_append_drop]
    rw [e]
    refine (List.perm_append_comm).trans ?_
    simp only [List.singleton_append]
    exact List.perm_middle.symm
theorem ndx_ids {l : List Nd} {k : Int} (h : ¬ ndx k l < l.length) : ∀ x ∈ l, x.id ≠ k := fun x hx he => h ((ndx_mem k l).2 ⟨x, hx, he⟩)
theorem atN_lo {k : Int} : ∀ (l : List Nd), ∀ x ∈ l.take (atN k l), x.id < k
  | [], x, h => by simp [atN] at h
  | y :: l, x, h => by
    rw [atN] at h
    split at h
    · rename_i hy
      rw [List.take_succ_cons] at h
      rcases List.mem_cons.1 h with rfl | h1
      · exact hy
      · exact atN_lo l x h1
    · simp at h
theorem atN_hi {k : Int} : ∀ (l : List Nd), srtN l → ∀ x ∈ l.drop (atN k l), k ≤ x.id
  | [], _, x, h => by simp at h
  | y :: l, hs, x, h => by
    simp only [srtN, List.map_cons, List.pairwise_cons] at hs
    rw [atN] at h
    split at h
    · rw [List.drop_succ_cons] at h
      exact atN_hi l hs.2 x h
    · rename_i hy
      simp only [List.drop_zero] at h
      rcases List.mem_cons.1 h with rfl | h1
      · omega
      · have := hs.1 x.id (List.mem_map.2 ⟨x, h1, rfl⟩); omega
theorem srt_put {l : List Nd} (hs : srtN l) (x : Nd) : srtN (setT x l) := by
  unfold setT
  split
  · rename_i hh
    obtain ⟨h1, h2, h3⟩ := gN_get hh
    unfold srtN at hs ⊢
    rw [List.map_set]
    have : (l.map Nd.id).set (ndx x.id l) x.id = l.map Nd.id := by
      apply List.ext_getElem (by simp)
      intro j h4 h5
      rw [List.getElem_set]
      split
      · rename_i hij; subst hij; simp [h3]
      · rfl
    rw [this]; exact hs
  · rename_i hh
    have hne := ndx_ids (k := x.id) (l := l) (by simpa [hasN] using hh)
    unfold srtN
    rw [List.map_append, List.map_cons, List.pairwise_append]
    have hsub : ∀ {m : List Nd}, m.Sublist l → (m.map Nd.id).Pairwise (· < ·) := fun h => List.Pairwise.sublist (h.map _) hs
    refine ⟨hsub (List.take_sublist _ _), ?_, ?_⟩
    · rw [List.pairwise_cons]
      refine ⟨fun a ha => ?_, hsub (List.drop_sublist _ _)⟩
      obtain ⟨y, hy, rfl⟩ := List.mem_map.1 ha
      have h1 := atN_hi l hs y hy
      have h2 := hne y (List.mem_of_mem_drop hy)
      omega
    · intro a ha b hb
      obtain ⟨y, hy, rfl⟩ := List.mem_map.1 ha
      have h1 := atN_lo l y hy
      rcases List.mem_cons.1 hb with rfl | hb
      · exact h1
      · obtain ⟨z, hz, rfl⟩ := List.mem_map.1 hb
        have h2 := atN_hi l hs z hz
        omega
theorem put_tm {es : Array MapEntry} {cl : Nat} {l : List Nd} (h : TM es cl l) (x : Nd) : ∃ es' cl', updO (.int .i64) (.int .i64 x.id) (nV x) (some (.map es cl)) = some (.map es' cl') ∧ TM es' cl' (setT x l) := by
  obtain ⟨es', cl', h1, h2⟩ := h.1.upd (j := .i64) x.id (nV x)
  exact ⟨es', cl', h1, h2.perm (put_ents (srt_mem h.2) x), srt_put h.2 x⟩
/-- A node taken away. -/
def offT (id : Int) (l : List Nd) : List Nd := l.take (ndx id l) ++ l.drop (ndx id l + 1)
theorem off_filter {id : Int} : ∀ {l : List Nd}, (l.map Nd.id).Nodup → offT id l = l.filter fun x => x.id ≠ id
  | [], _ => rfl
  | y :: l, hu => by
    simp only [List.map_cons, List.nodup_cons] at hu
    have ih := off_filter (id := id) hu.2
    unfold offT at ih ⊢
    rw [ndx]
    by_cases h : y.id = id
    · rw [if_pos h, List.filter_cons_of_neg (by simp [h])]
      simp only [List.take_zero, List.nil_append, Nat.zero_add, List.drop_succ_cons, List.drop_zero]
      symm
      rw [List.filter_eq_self]
      intro z hz
      simp only [ne_eq, decide_not, Bool.not_eq_eq_eq_not, Bool.not_true, decide_eq_false_iff_not]
      intro hk
      apply hu.1
      rw [h, ← hk]
      exact List.mem_map.2 ⟨z, hz, rfl⟩
    · rw [if_neg h, List.filter_cons_of_pos (by simpa using h), List.take_succ_cons, List.drop_succ_cons, List.cons_append, ih]
theorem off_tm {es : Array MapEntry} {cl : Nat} {l : List Nd} (h : TM es cl l) (id : Int) : ∃ es' cl', delO (.int .i64) (.int .i64 id) (some (.map es cl)) = some (.map es' cl') ∧ TM es' cl' (offT id l) := by
  obtain ⟨es', cl', h1, h2⟩ := h.1.del (j := .i64) id
  rw [off_filter (srt_mem h.2)]
  refine ⟨es', cl', h1, ?_, List.Pairwise.sublist (List.Sublist.map _ List.filter_sublist) h.2⟩
  have e : delG id (ents l) = ents (l.filter fun x => x.id ≠ id) := by
    unfold delG ents
    rw [List.filter_map]; rfl
  rw [← e]; exact h2
end Go.Proofs
end

-- FTr1
section
namespace Go.Proofs
open Go Go.Rw
set_option maxRecDepth 100000
set_option linter.unusedSimpArgs false
set_option linter.unusedVariables false

abbrev tnewCon : ConO where
  ι := Unit
  objs := fun _ => []
  args := fun _ => []
  post := fun _ objs lvs r => objs = [.cells [.mp 1], .map #[] 0] ∧ lvs = [] ∧ r = .ptr 0 0
theorem tnew_good : GoodO Tryd.prog 5 tnewCon := by
  have hΓ : GoodEnv Tryd.prog [] := goodEnv_nil
  refine goodO_fna (nn := 4) Tryd.func5 (by kernel_rfl) rfl (show Tryd.f5.results.toList = [.tmp 0] from rfl) (fun _ => rfl) ?_
  rintro ⟨⟩
  refine vcM_ok hΓ (Ws := []) _ ?_
  simp only [goRules, coreRules, tiRules, unRules, AS_of_eq, ← decide_not, seval, mapRules, objRules,]
  refine retG_go [1, 0] [] [.cells [.mp 1], .map #[] 0] [] (.ptr 0 0) ⟨rfl, rfl, rfl⟩ ?_
  simp only [goRules, coreRules, tiRules, unRules, AS_of_eq, ← decide_not, seval, mapRules, objRules,] <;> ((repeat' apply And.intro) <;> first | rfl | omega | trivial)
/-- A tree: its map, its nodes. -/
structure TS where
  es : Array MapEntry
  cl : Nat
  l : List Nd
  h : TM es cl l
def tsO : Option TS → List AO
  | none => []
  | some s => [.cells [.mp 1], .map s.es s.cl]
def tsA : Option TS → AV
  | none => .v (.pointer none)
  | some _ => .ptr 0 0
def tsL : Option TS → List Nd
  | none => []
  | some s => s.l
theorem tsO_none : tsO none = [] := rfl
theorem tsO_some {s : TS} : tsO (some s) = [.cells [.mp 1], .map s.es s.cl] := rfl
theorem tsA_none : tsA none = .v (.pointer none) := rfl
theorem tsA_some {s : TS} : tsA (some s) = .ptr 0 0 := rfl
def tsRules := (And.intro @tsO_none (And.intro @tsO_some (And.intro @tsA_none @tsA_some)))
/-- Why something may not stand in a directory. -/
def dirI (l : List Nd) (par : Int) : Int := if par = 0 then 0 else if hasN l par = true then (if (gN l par).dir = true then 0 else 8) else 5
abbrev tdirCon : ConO where
  ι := TS × Int
  objs := fun p => tsO (some p.1)
  args := fun p => [.ptr 0 0, .v (.int .i64 p.2)]
  post := fun p objs lvs r => objs = tsO (some p.1) ∧ lvs = [] ∧ r = .v (.int .i64 (dirI p.1.l p.2))
theorem tdir_good : GoodO Tryd.prog 22 tdirCon := by
  have hΓ : GoodEnv Tryd.prog [] := goodEnv_nil
  refine goodO_fna (nn := 26) Tryd.func22 (by kernel_rfl) rfl (show Tryd.f22.results.toList = [.tmp 4] from rfl) (fun _ => rfl) ?_
  rintro ⟨s, par⟩
  refine vcM_ok hΓ (Ws := []) _ ?_
  have e1 := look_tm s.h
  have fin : ∀ {σ : AS} {v : Int}, dirI s.l par = v → RetG tdirCon (s, par) σ [.v (.int .i64 v)] → RetG tdirCon (s, par) σ [.v (.int .i64 (dirI s.l par))] := fun h1 h2 => by rw [h1]; exact h2
  simp only [goRules, coreRules, tiRules, unRules, AS_of_eq, ← decide_not, seval, mapRules, objRules, tsRules, e1, nA]
  (repeat (with_reducible refine And.intro ?_ ?_; focus (first | omega | exact mixed1 | kernel_rfl)))
  by_cases h1 : par = 0
  · simp only [goRules, coreRules, tiRules, unRules, AS_of_eq, ← decide_not, seval, mapRules, objRules, tsRules, e1, nA, h1]
    refine retG_go [0, 1] [] (tsO (some s)) [] (.v (.int .i64 0)) ⟨rfl, rfl, by simp [dirI]⟩ ?_
    simp only [goRules, coreRules, tiRules, unRules, AS_of_eq, ← decide_not, seval, mapRules, objRules, tsRules, nA] <;> ((repeat' apply And.intro) <;> first | rfl | omega | trivial)
  cases h2 : hasN s.l par
  · simp only [goRules, coreRules, tiRules, unRules, AS_of_eq, ← decide_not, seval, mapRules, objRules, tsRules, e1, nA, h1, h2]
    refine retG_go [0, 1] [] (tsO (some s)) [] (.v (.int .i64 5)) ⟨rfl, rfl, by simp [dirI, h1, h2]⟩ ?_
    simp only [goRules, coreRules, tiRules, unRules, AS_of_eq, ← decide_not, seval, mapRules, objRules, tsRules, nA] <;> ((repeat' apply And.intro) <;> first | rfl | omega | trivial)
  cases h3 : (gN s.l par).dir
  · simp only [goRules, coreRules, tiRules, unRules, AS_of_eq, ← decide_not, seval, mapRules, objRules, tsRules, e1, nA, h1, h2, h3]
    refine retG_go [0, 1] [] (tsO (some s)) [] (.v (.int .i64 8)) ⟨rfl, rfl, by simp [dirI, h1, h2, h3]⟩ ?_
    simp only [goRules, coreRules, tiRules, unRules, AS_of_eq, ← decide_not, seval, mapRules, objRules, tsRules, nA] <;> ((repeat' apply And.intro) <;> first | rfl | omega | trivial)
  · simp only [goRules, coreRules, tiRules, unRules, AS_of_eq, ← decide_not, seval, mapRules, objRules, tsRules, e1, nA, h1, h2, h3]
    refine retG_go [0, 1] [] (tsO (some s)) [] (.v (.int .i64 0)) ⟨rfl, rfl, by simp [dirI, h1, h2, h3]⟩ ?_
    simp only [goRules, coreRules, tiRules, unRules, AS_of_eq, ← decide_not, seval, mapRules, objRules, tsRules, nA] <;> ((repeat' apply And.intro) <;> first | rfl | omega | trivial)
end Go.Proofs
end

-- FTrL
section
namespace Go.Proofs
open Go.Shelf
def Tryd.keysA_ren : Go.Shelf.Ren := ⟨fun | 7 => 17 | 10 => 29 | n => n, fun | 23 => 41 | 26 => 3 | 3 => 39 | 28 => 50 | 0 => 0 | 27 => 49 | 33 => 54 | 4 => 4 | n => n, fun | n => n⟩
theorem Tryd.keysA : Go.Proofs.SlLaysZI.n7 Tryd.prog Tryd.keysA_ren where
  mixed := by kernel_rfl
  f7 := ⟨"maps.Keys[map[int]ropewalk/api.Node,int,ropewalk/api.Node]", by decide, Tryd.func17.trans (congrArg some (by kernel_rfl))⟩
  f10 := ⟨"maps.Keys[map[int]ropewalk/api.Node,int,ropewalk/api.Node]$1", by decide, Tryd.func29.trans (congrArg some (by kernel_rfl))⟩
  t0 := Tryd.underlying0
  a0 := Tryd.isAgg0
  z0 := Tryd.sizeOf0
  v0 := Tryd.zeroValue0
  t4 := Tryd.underlying4
  a4 := Tryd.isAgg4
  z4 := Tryd.sizeOf4
  v4 := Tryd.zeroValue4
  t23 := Tryd.underlying41
  a23 := Tryd.isAgg41
  z23 := Tryd.sizeOf41
  v23 := Tryd.zeroValue41
  t26 := Tryd.underlying3
  a26 := Tryd.isAgg3
  z26 := Tryd.sizeOf3
  v26 := Tryd.zeroValue3
  t27 := Tryd.underlying49
  a27 := Tryd.isAgg49
  z27 := Tryd.sizeOf49
  v27 := Tryd.zeroValue49
  t28 := Tryd.underlying50
  a28 := Tryd.isAgg50
  z28 := Tryd.sizeOf50
  v28 := Tryd.zeroValue50
  t33 := Tryd.underlying54
  a33 := Tryd.isAgg54
  z33 := Tryd.sizeOf54
  v33 := Tryd.zeroValue54
def Tryd.sortedA_ren : Go.Shelf.Ren := ⟨fun | 6 => 16 | 8 => 27 | 9 => 28 | 11 => 38 | 13 => 40 | 12 => 39 | 23 => 57 | 24 => 58 | 14 => 48 | 15 => 49 | 16 => 50 | 17 => 51 | 18 => 52 | 19 => 53 | 20 => 54 | 21 => 55 | 22 => 56 | 25 => 72 | 26 => 73 | 27 => 74 | 28 => 75 | 29 => 76 | 30 => 77 | 31 => 84 | n => n, fun | 26 => 3 | 28 => 50 | 24 => 47 | 0 => 0 | 3 => 3 | 37 => 78 | 48 => 93 | 50 => 95 | 4 => 4 | 40 => 87 | 39 => 86 | 45 => 58 | 5 => 5 | 9 => 9 | 51 => 107 | 55 => 111 | 57 => 117 | 58 => 118 | 33 => 54 | n => n, fun | n => n⟩
theorem Tryd.sortedA : Go.Proofs.SlLaysZI.n6 Tryd.prog Tryd.sortedA_ren where
  mixed := by kernel_rfl
  f6 := ⟨"slices.Sorted[int]", by decide, Tryd.func16.trans (congrArg some (by kernel_rfl))⟩
  f8 := ⟨"slices.Collect[int]", by decide, Tryd.func27.trans (congrArg some (by kernel_rfl))⟩
  f11 := ⟨"slices.AppendSeq[[]int,int]", by decide, Tryd.func38.trans (congrArg some (by kernel_rfl))⟩
  t0 := Tryd.underlying0
  a0 := Tryd.isAgg0
  z0 := Tryd.sizeOf0
  v0 := Tryd.zeroValue0
  t24 := Tryd.underlying47
  a24 := Tryd.isAgg47
  z24 := Tryd.sizeOf47
  v24 := Tryd.zeroValue47
  t26 := Tryd.underlying3
  a26 := Tryd.isAgg3
  z26 := Tryd.sizeOf3
  v26 := Tryd.zeroValue3
  t28 := Tryd.underlying50
  a28 := Tryd.isAgg50
  z28 := Tryd.sizeOf50
  v28 := Tryd.zeroValue50
  i26 := by kernel_rfl
def Tryd.sortA_ren : Go.Shelf.Ren := ⟨fun | 5 => 28 | 8 => 40 | 7 => 39 | 19 => 57 | 20 => 58 | 10 => 48 | 11 => 49 | 12 => 50 | 13 => 51 | 14 => 52 | 15 => 53 | 16 => 54 | 17 => 55 | 18 => 56 | 30 => 72 | 31 => 73 | 32 => 74 | 33 => 75 | 34 => 76 | 35 => 77 | 40 => 84 | n => n, fun | 23 => 47 | 25 => 3 | 3 => 3 | 32 => 78 | 22 => 47 | 0 => 0 | 44 => 93 | 46 => 95 | 4 => 4 | 36 => 87 | 35 => 86 | 41 => 58 | 5 => 5 | 9 => 9 | 53 => 107 | 57 => 111 | 63 => 117 | 64 => 118 | n => n, fun | n => n⟩
theorem Tryd.sortA : Go.Proofs.SlLaysM.n5 Tryd.prog Tryd.sortA_ren where
  mixed := by kernel_rfl
  f5 := ⟨"slices.Sort[[]int,int]", by decide, Tryd.func28.trans (congrArg some (by kernel_rfl))⟩
  f7 := ⟨"slices.pdqsortOrdered[int]", by decide, Tryd.func39.trans (congrArg some (by kernel_rfl))⟩
  f8 := Tryd.func40.trans (congrArg some (by kernel_rfl))
  f10 := ⟨"slices.insertionSortOrdered[int]", by decide, Tryd.func48.trans (congrArg some (by kernel_rfl))⟩
  f11 := ⟨"slices.heapSortOrdered[int]", by decide, Tryd.func49.trans (congrArg some (by kernel_rfl))⟩
  f12 := ⟨"slices.breakPatternsOrdered[int]", by decide, Tryd.func50.trans (congrArg some (by kernel_rfl))⟩
  f13 := ⟨"slices.choosePivotOrdered[int]", by decide, Tryd.func51.trans (congrArg some (by kernel_rfl))⟩
  f14 := ⟨"slices.reverseRangeOrdered[int]", by decide, Tryd.func52.trans (congrArg some (by kernel_rfl))⟩
  f15 := ⟨"slices.partialInsertionSortOrdered[int]", by decide, Tryd.func53.trans (congrArg some (by kernel_rfl))⟩
  f16 := ⟨"cmp.Less[int]", by decide, Tryd.func54.trans (congrArg some (by kernel_rfl))⟩
  f17 := ⟨"slices.partitionEqualOrdered[int]", by decide, Tryd.func55.trans (congrArg some (by kernel_rfl))⟩
  f18 := ⟨"slices.partitionOrdered[int]", by decide, Tryd.func56.trans (congrArg some (by kernel_rfl))⟩
  f19 := Tryd.func57.trans (congrArg some (by kernel_rfl))
  f20 := Tryd.func58.trans (congrArg some (by kernel_rfl))
  f30 := ⟨"slices.siftDownOrdered[int]", by decide, Tryd.func72.trans (congrArg some (by kernel_rfl))⟩
  f31 := Tryd.func73.trans (congrArg some (by kernel_rfl))
  f32 := Tryd.func74.trans (congrArg some (by kernel_rfl))
  f33 := ⟨"slices.medianAdjacentOrdered[int]", by decide, Tryd.func75.trans (congrArg some (by kernel_rfl))⟩
  f34 := ⟨"slices.medianOrdered[int]", by decide, Tryd.func76.trans (congrArg some (by kernel_rfl))⟩
  f35 := ⟨"cmp.isNaN[int]", by decide, Tryd.func77.trans (congrArg some (by kernel_rfl))⟩
  f40 := ⟨"slices.order2Ordered[int]", by decide, Tryd.func84.trans (congrArg some (by kernel_rfl))⟩
  t0 := Tryd.underlying0
  a0 := Tryd.isAgg0
  z0 := Tryd.sizeOf0
  v0 := Tryd.zeroValue0
  t3 := Tryd.underlying3
  a3 := Tryd.isAgg3
  z3 := Tryd.sizeOf3
  v3 := Tryd.zeroValue3
  t4 := Tryd.underlying4
  a4 := Tryd.isAgg4
  z4 := Tryd.sizeOf4
  v4 := Tryd.zeroValue4
  t5 := Tryd.underlying5
  a5 := Tryd.isAgg5
  z5 := Tryd.sizeOf5
  v5 := Tryd.zeroValue5
  t9 := Tryd.underlying9
  a9 := Tryd.isAgg9
  z9 := Tryd.sizeOf9
  v9 := Tryd.zeroValue9
  t22 := Tryd.underlying47
  a22 := Tryd.isAgg47
  z22 := Tryd.sizeOf47
  v22 := Tryd.zeroValue47
  t23 := Tryd.underlying47
  a23 := Tryd.isAgg47
  z23 := Tryd.sizeOf47
  v23 := Tryd.zeroValue47
  t25 := Tryd.underlying3
  a25 := Tryd.isAgg3
  z25 := Tryd.sizeOf3
  v25 := Tryd.zeroValue3
  t32 := Tryd.underlying78
  a32 := Tryd.isAgg78
  z32 := Tryd.sizeOf78
  v32 := Tryd.zeroValue78
  t35 := Tryd.underlying86
  a35 := Tryd.isAgg86
  z35 := Tryd.sizeOf86
  v35 := Tryd.zeroValue86
  t36 := Tryd.underlying87
  a36 := Tryd.isAgg87
  z36 := Tryd.sizeOf87
  v36 := Tryd.zeroValue87
  t41 := Tryd.underlying58
  a41 := Tryd.isAgg58
  z41 := Tryd.sizeOf58
  v41 := Tryd.zeroValue58
  t44 := Tryd.underlying93
  a44 := Tryd.isAgg93
  z44 := Tryd.sizeOf93
  v44 := Tryd.zeroValue93
  t46 := Tryd.underlying95
  a46 := Tryd.isAgg95
  z46 := Tryd.sizeOf95
  v46 := Tryd.zeroValue95
  t53 := Tryd.underlying107
  a53 := Tryd.isAgg107
  z53 := Tryd.sizeOf107
  v53 := Tryd.zeroValue107
  t57 := Tryd.underlying111
  a57 := Tryd.isAgg111
  z57 := Tryd.sizeOf111
  v57 := Tryd.zeroValue111
  t63 := Tryd.underlying117
  a63 := Tryd.isAgg117
  z63 := Tryd.sizeOf117
  v63 := Tryd.zeroValue117
  t64 := Tryd.underlying118
  a64 := Tryd.isAgg118
  z64 := Tryd.sizeOf118
  v64 := Tryd.zeroValue118
end Go.Proofs
end

-- FTr2
section
namespace Go.Proofs
open Go Go.Rw
set_option maxRecDepth 100000
set_option linter.unusedSimpArgs false
set_option linter.unusedVariables false

/-- IDs that may be. -/
def idsOk (l : List Nd) : Prop := l.length ≤ 1000000 ∧ ∀ x ∈ l, -9223372036854775808 ≤ x.id ∧ x.id ≤ 9223372036854775807
theorem keys_srt {l : List Nd} (h : srtN l) : keysOf (ents l) = l.map Nd.id := by
  unfold keysOf ents
  rw [List.map_map]
  have e : (Prod.fst ∘ fun x : Nd => (x.id, nV x)) = Nd.id := rfl
  rw [e]
  refine List.mergeSort_of_pairwise ?_
  unfold srtN at h
  exact h.imp fun h1 => by simpa using Int.le_of_lt h1
/-- slices.Sorted(maps.Keys(m)), for a tree's map. -/
theorem call_keys {Γ : Env} (hΓ : GoodEnv Tryd.prog Γ) (hC : Γ.get 16 = none) {σ : AS} {d : Option Nat} {K : AS → Prop} {bx ob : Nat} {es : Array MapEntry} {cl : Nat} {l : List Nd}
    (hbx : σ.m.h bx = some (.cells [.mp ob])) (hob : σ.m.h ob = some (.map es cl)) (hM : TM es cl l) (hi : idsOk l)
    (hk : cont σ d (.sl 0 1 (ints .i64 (l.map Nd.id))) K) : vcCall Tryd.prog Γ false σ 16 [.fn 29 [.ptr bx 0]] d K := by
  refine vcCall_raw hC (sorted_raw Tryd.keysA Tryd.sortedA Tryd.sortA rfl rfl rfl hbx hob hM.1 ?_ ?_ ?_)
  · intro p hp
    obtain ⟨x, hx, rfl⟩ := List.mem_map.1 hp
    exact hi.2 x hx
  · rw [size_tm hM]; exact hi.1
  · rw [keys_srt hM.2]; exact hk
abbrev tnodesCon : ConO where
  ι := { p : Option TS // ∀ s, p = some s → idsOk s.l }
  objs := fun p => tsO p.1
  args := fun p => [tsA p.1]
  post := fun p objs lvs r => objs = tsO p.1 ∧ lvs = [((tsL p.1).length, 39)] ∧ r = .sl 2 5 (nodes (tsL p.1))
set_option maxHeartbeats 1000000 in
theorem tnodes_good : GoodO Tryd.prog 8 tnodesCon := by
  have hΓ : GoodEnv Tryd.prog [] := goodEnv_nil
  refine goodO_fna (nn := 29) Tryd.func8 (by kernel_rfl) rfl (show Tryd.f8.results.toList = [.tmp 2] from rfl) (fun _ => rfl) ?_
  rintro ⟨s, hs⟩
  refine vcM_ok hΓ (Ws := []) _ ?_
  cases s with
  | none =>
    simp only [goRules, coreRules, tiRules, unRules, AS_of_eq, ← decide_not, seval, mapRules, objRules, tsRules]
    refine retG_go [] [.nil 5] [] [(0, 39)] (.sl 2 5 (nodes [])) ⟨rfl, rfl, rfl⟩ ?_
    simp only [goRules, coreRules, tiRules, unRules, AS_of_eq, ← decide_not, seval, mapRules, objRules, tsRules, nodes_nil] <;> ((repeat' apply And.intro) <;> first | rfl | omega | trivial)
  | some s =>
    have hi := hs s rfl
    have e1 := look_tm s.h
    simp only [goRules, coreRules, tiRules, unRules, AS_of_eq, ← decide_not, seval, mapRules, objRules, tsRules, e1]
    (repeat (with_reducible refine And.intro ?_ ?_; focus (first | omega | exact mixed1 | kernel_rfl)))
    refine vcCall_inlM (nn := 4) hΓ [] (by first | assumption | simp [get_cons, get_nil]) Tryd.func17 (by kernel_rfl) rfl (show Tryd.f17.results.toList = [.tmp 2] from rfl) rfl ?_
    simp only [goRules, coreRules, tiRules, unRules, AS_of_eq, ← decide_not, seval, mapRules, objRules,]
    (repeat (with_reducible refine And.intro ?_ ?_; focus (first | omega | exact mixed1 | kernel_rfl)))
    refine call_keys (es := s.es) (cl := s.cl) (ob := 1) hΓ (by simp [get_cons, get_nil]) (by simp [upd]) (by simp [upd]) s.h hi ?_
    simp only [goRules, coreRules, tiRules, unRules, AS_of_eq, ← decide_not, seval, mapRules, objRules,]
    (repeat (with_reducible refine And.intro ?_ ?_; focus (first | omega | exact mixed1 | kernel_rfl)))
    have hmem : ∀ {i : Nat}, (h : i < s.l.length) → gN s.l s.l[i].id = s.l[i] := fun h => by
      unfold gN
      rw [ndx_self (srt_mem s.h.2) _ (List.getElem?_eq_getElem h), List.getD_eq_getElem?_getD, List.getElem?_eq_getElem h]; rfl
    have hil : (ints .i64 (s.l.map Nd.id)).length = s.l.length := by simp [ints]
    obtain ⟨St, hSt⟩ : ∃ St : { i : Nat // i ≤ s.l.length } → AS, ∀ i, St i = AS.ofH 29 [(0, .ptr 0 0), (2, .sl 2 5 (nodes (s.l.take i.1))), (12, .sl 0 1 (ints .i64 (s.l.map Nd.id))), (13, .v (.int .i64 s.l.length)), (14, .v (.int .i64 i.1))] [(0, .ptr 0 0), (1, .mp 1)] (tsO (some s)) [(i.1, 39)] := ⟨_, fun _ => rfl⟩
    have hl := hi.1
    refine vcM_lp ?_
    refine vc_loopM [] hΓ St (fun i => s.l.length - i.1) ⟨0, by omega⟩ (by rw [hSt]; refine weakH_go [0, 1] [.nil 5] ?_; simp only [goRules, coreRules, tiRules, unRules, AS_of_eq, ← decide_not, seval, mapRules, objRules, tsRules, List.take_zero, nodes_nil, hil] <;> ((repeat' apply And.intro) <;> first | rfl | omega | trivial)) ?_
    rintro ⟨i, hle⟩
    rw [hSt]
    simp only
    simp only [goRules, coreRules, tiRules, unRules, AS_of_eq, ← decide_not, seval, mapRules, objRules, tsRules]
    (with_reducible first | refine branchP_dec (fun h => ?_) (fun h => ?_) | refine guardB_dec (fun h => ?_) (fun h => ?_))
    · have hlt : i < s.l.length := by omega
      have e2 : (ints .i64 (s.l.map Nd.id)).getD i .any = .v (.int .i64 s.l[i].id) := by simp [ints, List.getD_eq_getElem?_getD, hlt]
      have e3 := hmem hlt
      have e4 : nodes (s.l.take (i + 1)) = nodes (s.l.take i) ++ [nA s.l[i]] := by
        show (s.l.take (i + 1)).map nA = (s.l.take i).map nA ++ [nA s.l[i]]
        rw [List.take_succ_eq_append_getElem hlt, List.map_append]; rfl
      have e5 : (nodes (s.l.take i)).length = i := by rw [nodes_len, List.length_take]; omega
      generalize s.l[i] = x at *
      simp only [goRules, coreRules, tiRules, unRules, AS_of_eq, ← decide_not, seval, mapRules, objRules, tsRules, h, e1, e2, e3, nA, hil, e5, wrap_i64 (n := (i : Int) + 1) (by omega) (by omega)]
      (repeat (with_reducible refine And.intro ?_ ?_; focus (first | omega | exact mixed1 | kernel_rfl)))
      refine weak_again ⟨i + 1, by omega⟩ (by simp only; omega) ?_
      rw [hSt]; refine weakH_go [0, 1] [.live 2] ?_
      simp only [goRules, coreRules, tiRules, unRules, AS_of_eq, ← decide_not, seval, mapRules, objRules, tsRules, e4, nA] <;> ((repeat' apply And.intro) <;> first | rfl | omega | trivial)
    · have hi2 : i = s.l.length := by omega
      subst hi2
      have e6 := List.take_of_length_le (Nat.le_refl s.l.length)
      simp only [goRules, coreRules, tiRules, unRules, AS_of_eq, ← decide_not, seval, mapRules, objRules, tsRules, h, e6]
      refine retG_go [0, 1] [.live 2] (tsO (some s)) [(s.l.length, 39)] (.sl 2 5 (nodes s.l)) ⟨rfl, rfl, rfl⟩ ?_
      simp only [goRules, coreRules, tiRules, unRules, AS_of_eq, ← decide_not, seval, mapRules, objRules, tsRules] <;> ((repeat' apply And.intro) <;> first | rfl | omega | trivial)

section
variable {Γ : Env} {n : Nat} {t : Nat → AV} {hd : Nat → Nat → AV} {d : Option Nat} {K : AS → Prop}
variable {nh nl : Nat} {h : Nat → Option AO} {fm : Nat → Nat} {lv : Nat → Option (Nat × Nat)} {mu : Bool}
/-- A tree in memory. -/
def TreeAt (h : Nat → Option AO) (o ob : Nat) (s : TS) : Prop := h o = some (.cells [.mp ob]) ∧ h ob = some (.map s.es s.cl) ∧ o ≠ ob
/-- A call that is handed a tree, and leaves it as it is. -/
theorem call_tree {f : FuncId} {C : ConO} (hG : GoodO Tryd.prog f C) (hC : Γ.get f = none) (i : C.ι) {s : TS} (hobjs : C.objs i = tsO (some s)) {o ob : Nat} (hT : TreeAt h o ob s) {bs : List AV} (ha : dnL [o, ob] bs (C.args i)) (ht : AV.tagsL bs = [])
    (hro : ∀ objs lvs r, C.post i objs lvs r → objs = C.objs i)
    (hk : ∀ lvs r, C.post i (C.objs i) lvs r → cont ⟨n, t, hd, ⟨nh, h, nl + lvs.length, callF nl lvs fm, callV nl lvs lv, mu⟩⟩ d (r.emb (obC [o, ob] nh) (lnC nl)) K) : vcCall Tryd.prog Γ false ⟨n, t, hd, ⟨nh, h, nl, fm, lv, mu⟩⟩ f bs d K := by
  obtain ⟨h1, h2, h3⟩ := hT
  refine vc_obj hG hC i [o, ob] ⟨by simp [h3], ha, ?_, ht, ?_⟩ ?_
  · rw [hobjs]
    simp only [tsO, dnOs_cons, dnOs_nil, h1, h2, dnOo_cells, dnOo_map, dnL_cons, dnL_nil, dn_mp]
    simp
  · simp [tagsOs_cons, tagsOs_nil, h1, h2, tagsO1, AO.tags, AV.tagsL, AV.tags]
  · intro objs lvs r hp hl
    have e := hro _ _ _ hp
    subst e
    have e2 : callH nh [o, ob] (embsO (obC [o, ob] nh) (lnC nl) (C.objs i)) h = h := by
      refine callH_same _ _ (by rw [embsO_len, hobjs]; rfl) fun j q x hj hx => ?_
      rw [embsO_get, hobjs] at hx
      match j, hj, hx with
      | 0, hj, hx => cases hj; simp [tsO] at hx; subst hx; exact h1
      | 1, hj, hx => cases hj; simp [tsO] at hx; subst hx; exact h2
      | j + 2, hj, hx => cases hj
    have e3 : (C.objs i).length - [o, ob].length = 0 := by rw [hobjs]; rfl
    rw [e2, e3]
    exact hk lvs r hp
theorem call_tnodes (hC : Γ.get 8 = none) {s : TS} (hi : idsOk s.l) {o ob : Nat} (hT : TreeAt h o ob s)
    (hk : cont ⟨n, t, hd, ⟨nh, h, nl + 1, upd fm nl nl, upd lv nl (some (s.l.length, 39)), mu⟩⟩ d (.sl nl 5 (nodes s.l)) K) : vcCall Tryd.prog Γ false ⟨n, t, hd, ⟨nh, h, nl, fm, lv, mu⟩⟩ 8 [.ptr o 0] d K := by
  refine call_tree tnodes_good hC ⟨some s, fun s' hs => by cases hs; exact hi⟩ rfl hT (by simp [tsA, dnL, dn]) rfl (fun _ _ _ hp => hp.1) ?_
  rintro lvs r ⟨_, rfl, rfl⟩
  exact hk
theorem call_tdir (hC : Γ.get 22 = none) {s : TS} {id : Int} {o ob : Nat} (hT : TreeAt h o ob s)
    (hk : cont ⟨n, t, hd, ⟨nh, h, nl, fm, lv, mu⟩⟩ d (.v (.int .i64 (dirI s.l id))) K) : vcCall Tryd.prog Γ false ⟨n, t, hd, ⟨nh, h, nl, fm, lv, mu⟩⟩ 22 [.ptr o 0, .v (.int .i64 id)] d K := by
  refine call_tree tdir_good hC (s, id) rfl hT (by simp [dnL, dn]) rfl (fun _ _ _ hp => hp.1) ?_
  rintro lvs r ⟨_, rfl, rfl⟩
  exact hk
end
/-- What has a name in a directory. -/
abbrev tchildCon : ConO where
  ι := { p : TS × Int × List UInt8 // idsOk p.1.l ∧ (∀ x ∈ p.1.l, 1 ≤ x.id) }
  objs := fun p => tsO (some p.1.1)
  args := fun p => [.ptr 0 0, .v (.int .i64 p.1.2.1), .v (sv p.1.2.2)]
  post := fun p objs lvs r => objs = tsO (some p.1.1) ∧ lvs = [] ∧ r = .tup [.v (.int .i64 (max 0 (kid p.1.2.1 p.1.2.2 p.1.1.l))), .v (.bool (decide (0 < kid p.1.2.1 p.1.2.2 p.1.1.l)))]
set_option maxHeartbeats 1000000 in
theorem tchild_good : GoodO Tryd.prog 23 tchildCon := by
  have hΓ : GoodEnv Tryd.prog [] := goodEnv_nil
  refine goodO_fna (nn := 30) Tryd.func23 (by kernel_rfl) rfl (show Tryd.f23.results.toList = [.tmp 6, .tmp 7] from rfl) (fun _ => rfl) ?_
  rintro ⟨⟨s, par, nm⟩, hi, hpos⟩
  simp only at hi hpos
  refine vcM_ok hΓ (Ws := []) _ ?_
  simp only [goRules, coreRules, tiRules, unRules, AS_of_eq, ← decide_not, seval, mapRules, objRules, tsRules]
  refine call_tnodes (s := s) (o := 0) (ob := 1) (by simp [get_cons, get_nil]) hi (by simp [TreeAt]) ?_
  simp only [goRules, coreRules, tiRules, unRules, AS_of_eq, ← decide_not, seval, mapRules, objRules, tsRules, nodes_len]
  (repeat (with_reducible refine And.intro ?_ ?_; focus (first | omega | exact mixed1 | kernel_rfl)))
  have hl := hi.1
  obtain ⟨St, hSt⟩ : ∃ St : { i : Nat // i ≤ s.l.length ∧ kid par nm (s.l.drop i) = kid par nm s.l } → AS, ∀ i, St i = AS.ofH 30 [(0, .ptr 0 0), (1, .v (.int .i64 par)), (2, .v (sv nm)), (11, .sl 0 5 (nodes s.l)), (12, .v (.int .i64 s.l.length)), (13, .v (.int .i64 i.1))] [(0, .ptr 0 0), (1, .mp 1)] (tsO (some s)) [] := ⟨_, fun _ => rfl⟩
  refine vcM_lp ?_
  refine vc_loopM [] hΓ St (fun i => s.l.length - i.1) ⟨0, by omega, by simp⟩ (by rw [hSt]; refine weakH_go [0, 1] [] ?_; simp only [goRules, coreRules, tiRules, unRules, AS_of_eq, ← decide_not, seval, mapRules, objRules, tsRules, nodes_len] <;> ((repeat' apply And.intro) <;> first | rfl | omega | trivial)) ?_
  rintro ⟨i, hle, hf⟩
  rw [hSt]
  simp only
  simp only [goRules, coreRules, tiRules, unRules, AS_of_eq, ← decide_not, seval, mapRules, objRules, tsRules, nodes_len]
  (with_reducible first | refine branchP_dec (fun h => ?_) (fun h => ?_) | refine guardB_dec (fun h => ?_) (fun h => ?_))
  · have hlt : i < s.l.length := by omega
    have e1 := nodes_getD s.l hlt
    have hx1 := hpos s.l[i] (List.getElem_mem hlt)
    rw [List.drop_eq_getElem_cons hlt, kid] at hf
    generalize s.l[i] = x at *
    by_cases hx : x.par = par
    · by_cases hy : x.nm = nm
      · rw [if_pos ⟨hx, hy⟩] at hf
        simp only [goRules, coreRules, tiRules, unRules, AS_of_eq, ← decide_not, seval, mapRules, objRules, tsRules, h, e1, nA, nodes_len, hx, hy]
        (repeat (with_reducible refine And.intro ?_ ?_; focus (first | omega | exact mixed1 | kernel_rfl)))
        refine retG_go [0, 1] [] (tsO (some s)) [] (.tup [.v (.int .i64 x.id), .v (.bool true)]) ⟨rfl, rfl, ?_⟩ ?_
        · rw [← hf, Int.max_eq_right (by omega), decide_eq_true (by omega)]
        · simp only [goRules, coreRules, tiRules, unRules, AS_of_eq, ← decide_not, seval, mapRules, objRules, tsRules] <;> ((repeat' apply And.intro) <;> first | rfl | omega | trivial)
      · rw [if_neg (fun hh => hy hh.2)] at hf
        simp only [goRules, coreRules, tiRules, unRules, AS_of_eq, ← decide_not, seval, mapRules, objRules, tsRules, h, e1, nA, nodes_len, hx, hy, wrap_i64 (n := (i : Int) + 1) (by omega) (by omega)]
        (repeat (with_reducible refine And.intro ?_ ?_; focus (first | omega | exact mixed1 | kernel_rfl)))
        refine weak_again ⟨i + 1, by omega, hf⟩ (by simp only; omega) ?_
        rw [hSt]; refine weakH_go [0, 1] [] ?_
        simp only [goRules, coreRules, tiRules, unRules, AS_of_eq, ← decide_not, seval, mapRules, objRules, tsRules] <;> ((repeat' apply And.intro) <;> first | rfl | omega | trivial)
    · rw [if_neg (fun hh => hx hh.1)] at hf
      simp only [goRules, coreRules, tiRules, unRules, AS_of_eq, ← decide_not, seval, mapRules, objRules, tsRules, h, e1, nA, nodes_len, hx, wrap_i64 (n := (i : Int) + 1) (by omega) (by omega)]
      (repeat (with_reducible refine And.intro ?_ ?_; focus (first | omega | exact mixed1 | kernel_rfl)))
      refine weak_again ⟨i + 1, by omega, hf⟩ (by simp only; omega) ?_
      rw [hSt]; refine weakH_go [0, 1] [] ?_
      simp only [goRules, coreRules, tiRules, unRules, AS_of_eq, ← decide_not, seval, mapRules, objRules, tsRules] <;> ((repeat' apply And.intro) <;> first | rfl | omega | trivial)
  · rw [List.drop_of_length_le (by omega), kid] at hf
    simp only [goRules, coreRules, tiRules, unRules, AS_of_eq, ← decide_not, seval, mapRules, objRules, tsRules, h]
    refine retG_go [0, 1] [] (tsO (some s)) [] (.tup [.v (.int .i64 0), .v (.bool false)]) ⟨rfl, rfl, ?_⟩ ?_
    · rw [← hf]; rfl
    · simp only [goRules, coreRules, tiRules, unRules, AS_of_eq, ← decide_not, seval, mapRules, objRules, tsRules] <;> ((repeat' apply And.intro) <;> first | rfl | omega | trivial)
theorem call_tchild {Γ : Env} {n : Nat} {t : Nat → AV} {hd : Nat → Nat → AV} {d : Option Nat} {K : AS → Prop} {nh nl : Nat} {h : Nat → Option AO} {fm : Nat → Nat} {lv : Nat → Option (Nat × Nat)} {mu : Bool} (hC : Γ.get 23 = none) {s : TS} (hi : idsOk s.l) (hpos : ∀ x ∈ s.l, 1 ≤ x.id) {par : Int} {nm : List UInt8} {o ob : Nat} (hT : TreeAt h o ob s)
    (hk : cont ⟨n, t, hd, ⟨nh, h, nl, fm, lv, mu⟩⟩ d (.tup [.v (.int .i64 (max 0 (kid par nm s.l))), .v (.bool (decide (0 < kid par nm s.l)))]) K) : vcCall Tryd.prog Γ false ⟨n, t, hd, ⟨nh, h, nl, fm, lv, mu⟩⟩ 23 [.ptr o 0, .v (.int .i64 par), .v (sv nm)] d K := by
  refine call_tree tchild_good hC ⟨(s, par, nm), hi, hpos⟩ rfl hT (by simp [dnL, dn]) rfl (fun _ _ _ hp => hp.1) ?_
  rintro lvs r ⟨_, rfl, rfl⟩
  exact hk
end Go.Proofs
end
