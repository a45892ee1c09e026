/-
  Two transactions with nothing in common. Plain. How much a tree is; is it qF; whose k9 a transaction touches.
-/
import Derived.Test.YtmhpninemdmbkaaGreatDoorXZUk3
import Derived.Test.YtmhpninemdmbkaaGreatDoorXZUn4
import Derived.Test.YtmhpninemdmbkaaGreatDoorXZUe11
set_option linter.unusedSimpArgs false
set_option linter.unusedVariables false
set_option linter.defProp false

-- ZUk8
section
namespace Go.Proofs
open Go Go.Rw
set_option maxRecDepth 100000
set_option linter.unusedSimpArgs false
set_option linter.unusedVariables false

def srtN (l : List Nd) : Prop := (l.map Nd.id).Pairwise (· < ·)
/-- The node of an ID. -/
def atI (i : Int) : List Nd → Option Nd
  | [] => none
  | x :: l => if x.id = i then some x else atI i l
theorem at_ndx (i : Int) : ∀ l : List Nd, atI i l = if ndx i l < l.length then some (l.getD (ndx i l) jE) else none
  | [] => by simp [atI, ndx]
  | x :: l => by
    rw [atI, ndx, at_ndx i l]
    by_cases h : x.id = i
    · simp [h]
    · simp only [if_neg h, List.length_cons, Nat.add_lt_add_iff_right, List.getD_cons_succ]
theorem at_none {i : Int} : ∀ {l : List Nd}, (∀ x ∈ l, x.id ≠ i) → atI i l = none
  | [], _ => rfl
  | x :: l, h => by rw [atI, if_neg (h x (List.mem_cons_self ..)), at_none fun y hy => h y (List.mem_cons_of_mem _ hy)]
theorem at_some {i : Int} {x : Nd} : ∀ {l : List Nd}, atI i l = some x → x ∈ l ∧ x.id = i
  | [], h => by simp [atI] at h
  | y :: l, h => by
    rw [atI] at h
    split at h
    · rename_i hy; cases h; exact ⟨List.mem_cons_self .., hy⟩
    · exact ⟨List.mem_cons_of_mem _ (at_some h).1, (at_some h).2⟩
theorem srt_cons {x : Nd} {l : List Nd} : srtN (x :: l) ↔ (∀ y ∈ l, x.id < y.id) ∧ srtN l := by
  simp only [srtN, List.map_cons, List.pairwise_cons, List.mem_map, forall_exists_index, and_imp, forall_apply_eq_imp_iff₂]
theorem srt_ext : ∀ {l m : List Nd}, srtN l → srtN m → (∀ i, atI i l = atI i m) → l = m
  | [], [], _, _, _ => rfl
  | [], y :: m, _, _, h => by have := h y.id; simp [atI] at this
  | x :: l, [], _, _, h => by have := h x.id; simp [atI] at this
  | x :: l, y :: m, hl, hm, h => by
    obtain ⟨h1, h2⟩ := srt_cons.1 hl
    obtain ⟨g1, g2⟩ := srt_cons.1 hm
    have a1 := h x.id
    have a2 := h y.id
    have e : x.id = y.id := by
      rw [atI, if_pos rfl] at a1
      have b1 := (at_some a1.symm).1
      rw [show atI y.id (y :: m) = some y by rw [atI, if_pos rfl]] at a2
      have b2 := (at_some a2).1
      rcases List.mem_cons.1 b1 with b1 | b1
      · rw [b1]
      · rcases List.mem_cons.1 b2 with b2 | b2
        · rw [b2]
        · have := g1 _ b1; have := h1 _ b2; omega
    have e2 : x = y := by
      rw [atI, if_pos rfl, atI, if_pos e.symm] at a1
      exact Option.some.inj a1
    subst e2
    rw [srt_ext h2 g2 fun i => ?_]
    by_cases hi : x.id = i
    · subst hi
      rw [at_none fun y hy => by have := h1 y hy; omega, at_none fun y hy => by have := g1 y hy; omega]
    · have := h i
      rw [atI, if_neg hi, atI, if_neg hi] at this
      exact this
def insN (x : Nd) : List Nd → List Nd
  | [] => [x]
  | y :: l => if y.id < x.id then y :: insN x l else x :: y :: l
theorem ins_eq (x : Nd) : ∀ l : List Nd, l.take (atN x.id l) ++ x :: l.drop (atN x.id l) = insN x l
  | [] => rfl
  | y :: l => by
    rw [atN, insN]
    split
    · rw [List.take_succ_cons, List.drop_succ_cons, List.cons_append, ins_eq x l]
    · simp
theorem ins_mem (x y : Nd) : ∀ l : List Nd, y ∈ insN x l → y = x ∨ y ∈ l
  | [], h => .inl (by simpa [insN] using h)
  | z :: l, h => by
    rw [insN] at h
    split at h
    · rcases List.mem_cons.1 h with h | h
      · exact .inr (by simp [h])
      · rcases ins_mem x y l h with h | h
        · exact .inl h
        · exact .inr (List.mem_cons_of_mem _ h)
    · rcases List.mem_cons.1 h with h | h
      · exact .inl h
      · exact .inr h
theorem ins_srt (x : Nd) : ∀ l : List Nd, srtN l → (∀ y ∈ l, y.id ≠ x.id) → srtN (insN x l)
  | [], _, _ => by simp [insN, srtN]
  | y :: l, h, hn => by
    obtain ⟨h1, h2⟩ := srt_cons.1 h
    have hy := hn y (List.mem_cons_self ..)
    rw [insN]
    split
    · rename_i hlt
      refine srt_cons.2 ⟨fun z hz => ?_, ins_srt x l h2 fun z hz => hn z (List.mem_cons_of_mem _ hz)⟩
      rcases ins_mem x z l hz with rfl | hz
      · exact hlt
      · exact h1 z hz
    · refine srt_cons.2 ⟨fun z hz => ?_, h⟩
      rcases List.mem_cons.1 hz with rfl | hz
      · omega
      · have := h1 z hz; omega
theorem ins_at (x : Nd) (i : Int) : ∀ l : List Nd, (∀ y ∈ l, y.id ≠ x.id) → atI i (insN x l) = if i = x.id then some x else atI i l
  | [], _ => by
    by_cases h : i = x.id
    · rw [if_pos h, insN, atI, if_pos h.symm]
    · rw [if_neg h, insN]; simp [atI, Ne.symm h]
  | y :: l, hn => by
    have hy := hn y (List.mem_cons_self ..)
    have ih := ins_at x i l fun z hz => hn z (List.mem_cons_of_mem _ hz)
    rw [insN]
    split
    · rw [atI, ih, atI]
      by_cases h : i = x.id
      · rw [if_neg (by rw [h]; exact hy), if_pos h, if_pos h]
      · rw [if_neg h, if_neg h]
    · rw [atI]
      by_cases h : i = x.id
      · rw [if_pos h.symm, if_pos h]
      · rw [if_neg (Ne.symm h), if_neg h]
def delN (i : Int) : List Nd → List Nd
  | [] => []
  | x :: l => if x.id = i then l else x :: delN i l
theorem del_eq (i : Int) : ∀ l : List Nd, l.take (ndx i l) ++ l.drop (ndx i l + 1) = delN i l
  | [] => rfl
  | x :: l => by
    rw [ndx, delN]
    split
    · simp
    · rw [List.take_succ_cons, List.drop_succ_cons, List.cons_append, del_eq i l]
theorem del_mem (i : Int) (y : Nd) : ∀ l : List Nd, y ∈ delN i l → y ∈ l
  | [], h => h
  | x :: l, h => by
    rw [delN] at h
    split at h
    · exact List.mem_cons_of_mem _ h
    · rcases List.mem_cons.1 h with h | h
      · simp [h]
      · exact List.mem_cons_of_mem _ (del_mem i y l h)
theorem del_srt (i : Int) : ∀ l : List Nd, srtN l → srtN (delN i l)
  | [], h => h
  | x :: l, h => by
    obtain ⟨h1, h2⟩ := srt_cons.1 h
    rw [delN]
    split
    · exact h2
    · exact srt_cons.2 ⟨fun y hy => h1 y (del_mem i y l hy), del_srt i l h2⟩
theorem del_at (k i : Int) : ∀ l : List Nd, srtN l → atI i (delN k l) = if i = k then none else atI i l
  | [], h => by simp [delN, atI]
  | x :: l, h => by
    obtain ⟨h1, h2⟩ := srt_cons.1 h
    rw [delN]
    by_cases hx : x.id = k
    · rw [if_pos hx, atI]
      by_cases hi : i = k
      · rw [if_pos hi, at_none fun y hy => by have := h1 y hy; omega]
      · rw [if_neg hi, if_neg (by omega)]
    · rw [if_neg hx, atI, atI, del_at k i l h2]
      by_cases hi : i = k
      · rw [if_neg (by omega), if_pos hi, if_pos hi]
      · rw [if_neg hi, if_neg hi]
theorem set_srt {i : Int} {y : Nd} (hy : y.id = i) : ∀ l : List Nd, (l.set (ndx i l) y).map Nd.id = l.map Nd.id
  | [] => rfl
  | x :: l => by
    rw [ndx]
    split
    · rename_i h; simp [hy, h]
    · rw [List.set_cons_succ, List.map_cons, set_srt hy l, List.map_cons]
theorem set_at {k : Int} {y : Nd} (hy : y.id = k) (i : Int) : ∀ l : List Nd, ndx k l < l.length → atI i (l.set (ndx k l) y) = if i = k then some y else atI i l
  | [], h => by simp [ndx] at h
  | x :: l, h => by
    rw [ndx] at h ⊢
    by_cases hx : x.id = k
    · rw [if_pos hx, List.set_cons_zero, atI, atI]
      by_cases hi : i = k
      · rw [if_pos hi, if_pos (by omega)]
      · rw [if_neg hi, if_neg (by omega), if_neg (by omega)]
    · rw [if_neg hx] at h ⊢
      rw [List.set_cons_succ, atI, atI, set_at hy i l (by simpa using h)]
      by_cases hi : i = k
      · rw [if_neg (by omega), if_pos hi, if_pos hi]
      · rw [if_neg hi, if_neg hi]
def stepN (a : Ac) (o : Option Nd) : Option Nd :=
  if a.k = 1 then some ⟨a.id, a.par, a.nm, a.dir, []⟩ else if a.k = 2 then none
  else if a.k = 3 then o.map fun x => ⟨x.id, a.par, a.nm, x.dir, x.text⟩ else o.map fun x => ⟨x.id, x.par, x.nm, x.dir, kBQ x.text a.ops⟩
theorem doN_at {l : List Nd} {a : Ac} (h : (doN l a).2 = 0) (hs : srtN l) : srtN (doN l a).1 ∧ ∀ i, atI i (doN l a).1 = if i = a.id then stepN a (atI i l) else atI i l := by
  have hid : ndx a.id l < l.length → (l.getD (ndx a.id l) jE).id = a.id := fun hl => by
    rw [List.getD_eq_getElem?_getD, List.getElem?_eq_getElem hl]; exact ndx_get a.id l hl
  have hset : ∀ (y : Nd) (f : Nd → Nd), ndx a.id l < l.length → y = f (l.getD (ndx a.id l) jE) → (∀ x, (f x).id = x.id) → srtN (l.set (ndx a.id l) y) ∧ ∀ i, atI i (l.set (ndx a.id l) y) = if i = a.id then (atI i l).map f else atI i l := fun y f hl hy hf => by
    have e : y.id = a.id := by rw [hy, hf, hid hl]
    refine ⟨by rw [srtN, set_srt e]; exact hs, fun i => ?_⟩
    rw [set_at e i l hl]
    by_cases hi : i = a.id
    · rw [if_pos hi, if_pos hi, hi, at_ndx, if_pos hl, hy]; rfl
    · rw [if_neg hi, if_neg hi]
  unfold doN at h ⊢
  simp only at h ⊢
  by_cases k1 : a.k = 1
  · simp only [k1, if_true] at h ⊢
    by_cases c1 : a.id < 1 ∨ a.id > 1099511627776 ∨ qV a.nm = false
    · rw [if_pos c1] at h; simp at h
    rw [if_neg c1] at h ⊢
    by_cases c2 : ndx a.id l < l.length
    · rw [if_pos c2] at h; simp at h
    rw [if_neg c2] at h ⊢
    by_cases c3 : jO l a.par a.nm 0 ≠ 0
    · rw [if_pos c3] at h; exact absurd h c3
    rw [if_neg c3] at h ⊢
    by_cases c4 : l.length ≥ 100
    · rw [if_pos c4] at h; simp at h
    rw [if_neg c4]
    have hn : ∀ y ∈ l, y.id ≠ a.id := fun y hy e => c2 ((ndx_mem a.id l).2 ⟨y, hy, e⟩)
    have e1 := ins_eq ⟨a.id, a.par, a.nm, a.dir, []⟩ l
    simp only at e1 ⊢
    rw [e1]
    refine ⟨ins_srt _ l hs hn, fun i => ?_⟩
    rw [ins_at _ i l hn]
    simp only [stepN, k1, if_true]
  simp only [k1, if_false] at h ⊢
  by_cases k2 : a.k = 2
  · simp only [k2, if_true] at h ⊢
    by_cases c1 : ¬ ndx a.id l < l.length
    · rw [if_pos c1] at h; simp at h
    rw [if_neg c1] at h ⊢
    by_cases c2 : (l.any fun y => decide (y.par = a.id)) = true
    · rw [if_pos c2] at h; simp at h
    rw [if_neg c2]
    simp only
    rw [del_eq]
    refine ⟨del_srt _ l hs, fun i => ?_⟩
    rw [del_at _ i l hs]
    simp [stepN, k2]
  simp only [k2, if_false] at h ⊢
  by_cases k3 : a.k = 3
  · simp only [k3, if_true] at h ⊢
    by_cases c1 : qV a.nm = false
    · rw [if_pos c1] at h; simp at h
    rw [if_neg c1] at h ⊢
    by_cases c2 : ¬ ndx a.id l < l.length
    · rw [if_pos c2] at h; simp at h
    rw [if_neg c2] at h ⊢
    by_cases c3 : jO l a.par a.nm a.id ≠ 0
    · rw [if_pos c3] at h; exact absurd h c3
    rw [if_neg c3]
    have := hset _ (fun x => ⟨x.id, a.par, a.nm, x.dir, x.text⟩) (Decidable.not_not.1 c2) rfl (fun _ => rfl)
    simpa [stepN, k3] using this
  simp only [k3, if_false] at h ⊢
  by_cases k4 : a.k = 4
  · simp only [k4, if_true] at h ⊢
    by_cases c2 : ¬ ndx a.id l < l.length
    · rw [if_pos c2] at h; simp at h
    rw [if_neg c2] at h ⊢
    by_cases c1 : (l.getD (ndx a.id l) jE).dir = true
    · rw [if_pos c1] at h; simp at h
    rw [if_neg c1] at h ⊢
    by_cases c3 : errI (l.getD (ndx a.id l) jE).text a.ops ≠ 0
    · rw [if_pos c3] at h; exact absurd h c3
    rw [if_neg c3] at h ⊢
    split at h
    · simp at h
    rename_i c5
    rw [if_neg c5]
    have := hset _ (fun x => ⟨x.id, x.par, x.nm, x.dir, kBQ x.text a.ops⟩) (Decidable.not_not.1 c2) rfl (fun _ => rfl)
    simpa [stepN, k4] using this
  · simp only [k4, if_false] at h
    simp at h
def runN (i : Int) (l : List Ac) (o : Option Nd) : Option Nd := l.foldl (fun o a => if i = a.id then stepN a o else o) o
theorem allF_at : ∀ (l : List Ac) (t : List Nd) (n : Nat), (allF t l n).e = 0 → srtN t → srtN (allF t l n).now ∧ ∀ i, atI i (allF t l n).now = runN i l (atI i t)
  | [], t, n, _, hs => ⟨hs, fun i => rfl⟩
  | a :: r, t, n, h, hs => by
    rw [allF] at h ⊢
    by_cases c : (doN t a).2 = 0
    · rw [if_neg (by simpa using c)] at h ⊢
      obtain ⟨h1, h2⟩ := doN_at c hs
      obtain ⟨g1, g2⟩ := allF_at r _ _ h h1
      refine ⟨g1, fun i => ?_⟩
      rw [g2, h2, runN, runN, List.foldl_cons]
    · rw [if_pos c] at h; exact absurd h c
theorem kDC {t : List Nd} {l : List Ac} (h : (allN t l).e = 0) (hs : srtN t) : txnE l = 0 ∧ srtN (allN t l).now ∧ ∀ i, atI i (allN t l).now = runN i l (atI i t) := by
  unfold allN at h ⊢
  by_cases c : txnE l = 0
  · rw [if_neg (by simpa using c)] at h ⊢
    exact ⟨c, allF_at l t 0 h hs⟩
  · rw [if_pos c] at h; exact absurd h c
theorem run_id {i : Int} : ∀ {l : List Ac} {o : Option Nd}, (∀ a ∈ l, a.id ≠ i) → runN i l o = o
  | [], o, _ => rfl
  | a :: l, o, h => by
    rw [runN, List.foldl_cons, if_neg (Ne.symm (h a (List.mem_cons_self ..)))]
    exact run_id fun b hb => h b (List.mem_cons_of_mem _ hb)
theorem allF_ok : ∀ (l : List Ac) (t : List Nd) (n : Nat), okT t → okT (allF t l n).now
  | [], t, n, h => h
  | a :: r, t, n, h => by
    rw [allF]
    split
    · exact ⟨by simp, fun y hy => by cases hy⟩
    · exact allF_ok r _ _ (doN_ok h)
theorem allN_ok {t : List Nd} {l : List Ac} (h : okT t) : okT (allN t l).now := by
  unfold allN
  split
  · exact ⟨by simp, fun y hy => by cases hy⟩
  · exact allF_ok l t 0 h
/-- Nothing in common. -/
def kFZ (a b : List Ac) : Prop := ∀ x ∈ zU [] a, x ∉ zU [] b
theorem apart_ids {a b : List Ac} (h : kFZ a b) {x y : Ac} (hx : x ∈ a) (hy : y ∈ b) : x.id ≠ y.id := fun e =>
  h x.id ((kBG a [] _).2 (.inr ⟨x, hx, by simp [j9]⟩)) ((kBG b [] _).2 (.inr ⟨y, hy, by simp [j9, e]⟩))
theorem apart_meet {t : List Nd} {a b : List Ac} (h : kFZ a b) (hs : srtN t) (h1 : (allN t a).e = 0) (h2 : (allN t b).e = 0) (h3 : (allN (allN t b).now a).e = 0) (h4 : (allN (allN t a).now b).e = 0) :
    (allN (allN t b).now a).now = (allN (allN t a).now b).now := by
  obtain ⟨_, a1, a2⟩ := kDC h1 hs
  obtain ⟨_, b1, b2⟩ := kDC h2 hs
  obtain ⟨_, c1, c2⟩ := kDC h3 b1
  obtain ⟨_, d1, d2⟩ := kDC h4 a1
  refine srt_ext c1 d1 fun i => ?_
  rw [c2, d2, a2, b2]
  by_cases hi : ∃ x ∈ a, x.id = i
  · obtain ⟨x, hx, rfl⟩ := hi
    have hb : ∀ y ∈ b, y.id ≠ x.id := fun y hy => (apart_ids h hx hy).symm
    rw [run_id hb, run_id hb]
  · have ha : ∀ y ∈ a, y.id ≠ i := fun y hy e => hi ⟨y, hy, e⟩
    rw [run_id ha, run_id ha]
theorem effS_ids2 : ∀ (l : List Ac) (out : List On) (p : Int), p ∈ (effS out l).map On.id → p ∈ out.map On.id ∨ p ∈ l.map Ac.id
  | [], out, p, h => .inl h
  | a :: l, out, p, h => by
    rw [kEX] at h
    rcases effS_ids2 l (kEU out a) p h with h | h
    · unfold kEU at h
      split at h
      · rw [kB4] at h; exact .inl h
      · rw [List.map_append, List.mem_append] at h
        rcases h with h | h
        · exact .inl h
        · simp only [List.map_cons, List.map_nil, List.mem_singleton, kEc, newO] at h
          exact .inr (by rw [h]; simp)
    · exact .inr (by simp only [List.map_cons, List.mem_cons]; exact .inr h)
theorem eff_ids_iff (l : List Ac) (p : Int) : p ∈ (effL l).map On.id ↔ p ∈ l.map Ac.id := by
  rw [effL, ((List.mergeSort_perm (effS [] l) leO).map On.id).mem_iff]
  constructor
  · intro h
    rcases effS_ids2 l [] p h with h | h
    · cases h
    · exact h
  · intro h
    obtain ⟨a, ha, rfl⟩ := List.mem_map.1 h
    exact (effS_ids l []).2 a ha
theorem getO_no {i : Int} {b : List Ac} (h : ∀ y ∈ b, y.id ≠ i) : getO i (effL b) = kDZ := by
  have : ¬ fnd i (effL b) < (effL b).length := fun hl => by
    obtain ⟨y, hy, e⟩ := List.mem_map.1 ((eff_ids_iff b i).1 ((fnd_mem i _).1 hl))
    exact h y hy e
  simp [getO, List.getD_eq_getElem?_getD, List.getElem?_eq_none (show (effL b).length ≤ fnd i (effL b) by omega)]
theorem txn_one : ∀ {l m : List Ac}, zV m l = 0 → ∀ a ∈ l, oneI a = 0
  | a :: l, m, h, b, hb => by
    rw [zV] at h
    split at h
    · rename_i h1; exact absurd h h1
    · rename_i h1
      split at h
      · simp at h
      · rcases List.mem_cons.1 hb with rfl | hb
        · exact Decidable.not_not.1 h1
        · exact txn_one h b hb
theorem txn_good {l : List Ac} (h : txnE l = 0) : ∀ a ∈ l, badA a = false := fun a ha => by
  have hc : zV [] l = 0 := by
    unfold txnE at h
    split at h
    · simp at h
    · split at h
      · exact h
      · rename_i h2; exact Decidable.not_not.1 h2
  have h1 := txn_one hc a ha
  cases hb : badA a
  · rfl
  · rw [one_bad hb] at h1; simp at h1
theorem apart_reb {a b : List Ac} (h : kFZ a b) (ha : txnE a = 0) (hb : txnE b = 0) : (rebR a (effL b)).out = a ∧ (rebR a (effL b)).e = 0 := by
  have hbad := txn_good hb
  have hw : ∀ x ∈ a, getO x.id (effL b) = kDZ ∧ whyI x (effL b) = 0 := fun x hx => by
    have h1 : getO x.id (effL b) = kDZ := getO_no fun y hy => (apart_ids h hx hy).symm
    refine ⟨h1, ?_⟩
    have h2 : x.k = 1 ∨ x.k = 3 → getO x.par (effL b) = kDZ := fun hk => getO_no fun y hy e => by
      by_cases hp : x.par = 0
      · have := hbad y hy
        rw [badA, decide_eq_false_iff_not] at this
        exact this (.inr (.inr (.inr (.inl (by omega)))))
      · refine h x.par ((kBG a [] _).2 (.inr ⟨x, hx, ?_⟩)) ((kBG b [] _).2 (.inr ⟨y, hy, by simp [j9, e]⟩))
        have hn : kAt x = true := by simpa [kAt] using hk
        simp [j9, hn, hp]
    rw [whyI, h1]
    by_cases hk : x.k = 1 ∨ x.k = 3
    · rw [h2 hk]; rcases hk with hk | hk <;> simp [kAv, whyL, hk, kDZ]
    · have n1 : ¬ 1 = x.k := fun e => hk (.inl e.symm)
      have n3 : ¬ 3 = x.k := fun e => hk (.inr e.symm)
      simp [kAv, whyL, kDZ, n1, n3]
  have hf : ∀ (r out : List Ac), (∀ x ∈ r, x ∈ a) → rebF (effL b) out r = (out ++ r, 0) := by
    intro r
    induction r with
    | nil => intro out _; simp [rebF]
    | cons x r ih =>
      intro out hr
      obtain ⟨g1, g2⟩ := hw x (hr x (List.mem_cons_self ..))
      have hd : dropB x kDZ = false := by simp [dropB, kDZ]
      have he : kAz x kDZ = (x, 0) := by simp [kAz, kDZ]
      rw [rebF, if_neg (by rw [g2]; simp), g1, if_neg (by rw [hd]; simp), he]
      have e2 := ih (out ++ [x]) fun y hy => hr y (List.mem_cons_of_mem _ hy)
      rw [List.append_assoc, List.singleton_append] at e2
      simp only
      split
      · rw [if_neg (by simp)]; exact e2
      · exact e2
  have hf2 := hf a [] fun x hx => hx
  rw [List.nil_append] at hf2
  have : rebR a (effL b) = ⟨a, (effL b).map fun z => kBn z a, 0⟩ := by
    rw [rebR, if_neg (by rw [ha]; simp), hf2]
    simp only
    rw [if_neg (by simp), if_neg (by rw [ha]; simp)]
  rw [this]
  exact ⟨rfl, rfl⟩
end Go.Proofs
end

-- ZUk9
section
namespace Go.Proofs
open Go Go.Rw
open _root_.Nat renaming reduceAdd → N0, reduceSub → N1, reduceMul → N2, reduceLT → N3, reduceLeDiff → N4, reduceEqDiff → N5
open _root_.Int renaming reduceNeg → Z0, reduceAdd → Z1, reduceSub → Z2, reduceMul → Z3, reduceGT → Z4, reduceGE → Z5, reduceLT → Z6, reduceLE → Z7, reduceEq → Z8, reduceNe → Z9, reduceToNat → Z10, cast_ofNat_Int → Zc
set_option maxRecDepth 100000
set_option linter.unusedSimpArgs false
set_option linter.unusedVariables false

def nF (m : Int) : Int → List Nd → Int
  | s, [] => s
  | s, x :: r => if s ≤ m then nF m (sumF s [(x.nm.length : Int), (x.text.length : Int), 3]) r else s
theorem nF_le {m : Int} (hm : m < 1099511627776) : ∀ (l : List Nd) {s : Int}, 0 ≤ s → nF m s l ≤ m → s + 3 * l.length ≤ m ∧ ∀ p ∈ l, (p.nm.length : Int) ≤ m ∧ (p.text.length : Int) ≤ m
  | [], s, _, h => by simp only [nF] at h; simp; exact h
  | x :: l, s, hs, h => by
    simp only [nF] at h
    split at h
    · rename_i h1
      have e : sumF s [(x.nm.length : Int), (x.text.length : Int), 3] = addI (addI (addI s x.nm.length) x.text.length) 3 := rfl
      have h2 : 0 ≤ addI (addI (addI s x.nm.length) x.text.length) 3 := by unfold addI; omega
      rw [e] at h
      obtain ⟨h3, h4⟩ := nF_le hm l h2 h
      have h5 : addI (addI (addI s x.nm.length) x.text.length) 3 ≤ m := by omega
      have h6 : addI (addI (addI s x.nm.length) x.text.length) 3 = s + x.nm.length + x.text.length + 3 := by unfold addI at h5 ⊢; omega
      refine ⟨by simp only [List.length_cons]; omega, fun p hp => ?_⟩
      rcases List.mem_cons.1 hp with rfl | hp
      · exact ⟨by omega, by omega⟩
      · exact h4 p hp
    · omega
abbrev GivenN := { l : List Nd // l.length ≤ 9223372036854775807 ∧ ∀ x ∈ l, x.nm.length ≤ 9223372036854775807 ∧ x.text.length ≤ 9223372036854775807 }
abbrev kCT : Con where
  ι := GivenN × { m : Int // 0 ≤ m ∧ m ≤ 1000000 }
  args := fun p => [.sl 0 5 (k9 p.1.1), .v (.int .i64 p.2.1)]
  post := fun p r => r = .v (.int .i64 (nF p.2.1 0 p.1.1))
  plain := true
theorem wnodes_good : Rw.Good Tryz.prog 8 kCT := by
  have hΓ : kM Tryz.prog [(31, kFB)] := (kD sum_good kJ)
  refine kR (nn := 34) hΓ Tryz.func8 (by kernel_rfl) rfl (show Tryz.f8.results.toList = [.tmp 4] from rfl) (fun _ => rfl) (fun x => by simp [AV.erL, AV.er, kB1]) ?_
  rintro ⟨⟨l, hl, hc⟩, ⟨m, hm⟩⟩
  simp only [aR,N0,N1,N2,N3,N4,N5,Z0,Z1,Z2,Z3,Z4,Z5,Z6,Z7,Z8,Z9,Z10,Zc,↓reduceIte,reduceCtorEq, kP]
  obtain ⟨St, hSt⟩ : ∃ St : { p : Int × Nat // p.2 ≤ l.length ∧ (0 ≤ p.1 ∧ p.1 ≤ 1099511627776) ∧ nF m 0 l = nF m p.1 (l.drop p.2) } → AS, ∀ p, St p = AS.of 34 [(0, .sl 0 5 (k9 l)), (1, .v (.int .i64 m)), (5, .v (.int .i64 p.1.1)), (6, .v (.int .i64 p.1.2))] [] [] := ⟨_, fun _ => rfl⟩
  refine kCd [(5, [], [])] hΓ St (fun p => l.length - p.1.2) ⟨(0, 0), by omega, by simp only; omega, rfl⟩ (by rw [hSt]; refine kH [] [] ?_; simp only [aR,N0,N1,N2,N3,N4,N5,Z0,Z1,Z2,Z3,Z4,Z5,Z6,Z7,Z8,Z9,Z10,Zc,↓reduceIte,reduceCtorEq] <;> ((repeat' apply And.intro) <;> first | rfl | omega | trivial)) ?_
  rintro ⟨⟨s, i⟩, hi, hs, hb⟩
  simp only at hi hs hb
  rw [hSt]
  simp only
  simp only [aR,N0,N1,N2,N3,N4,N5,Z0,Z1,Z2,Z3,Z4,Z5,Z6,Z7,Z8,Z9,Z10,Zc,↓reduceIte,reduceCtorEq, kK, kP]
  (with_reducible first | refine kC (fun h => ?_) (fun h => ?_) | refine kE (fun h => ?_) (fun h => ?_))
  · have hlt : i < l.length := by omega
    have hci := hc l[i] (List.getElem_mem hlt)
    have e1 := qI l hlt
    rw [List.drop_eq_getElem_cons hlt, nF] at hb
    generalize l[i] = a at *
    obtain ⟨id, par, nm, dir, tx⟩ := a
    obtain ⟨hn, ho⟩ := hci
    simp only at hn ho hb e1
    simp (disch := omega) only [aR,N0,N1,N2,N3,N4,N5,Z0,Z1,Z2,Z3,Z4,Z5,Z6,Z7,Z8,Z9,Z10,Zc,↓reduceIte,reduceCtorEq, kA, kK, h]
    (with_reducible first | refine kC (fun h2 => ?_) (fun h2 => ?_) | refine kE (fun h2 => ?_) (fun h2 => ?_))
    · simp (disch := omega) only [aR,N0,N1,N2,N3,N4,N5,Z0,Z1,Z2,Z3,Z4,Z5,Z6,Z7,Z8,Z9,Z10,Zc,↓reduceIte,reduceCtorEq, kA, kK, h2, e1, nA, kP]
      (repeat (with_reducible refine And.intro ?_ ?_; focus (first | omega | exact kF | kernel_rfl)))
      refine call_sum (by simp [kB]) (y := [(nm.length : Int), (tx.length : Int), 3]) rfl hs (by simp; omega) (by simp) ?_
      simp (disch := omega) only [aR,N0,N1,N2,N3,N4,N5,Z0,Z1,Z2,Z3,Z4,Z5,Z6,Z7,Z8,Z9,Z10,Zc,↓reduceIte,reduceCtorEq, kA, kK]
      rw [if_pos h2] at hb
      have hr := kAk [(nm.length : Int), (tx.length : Int), 3] hs (by simp)
      refine kI ⟨(sumF s [(nm.length : Int), (tx.length : Int), 3], i + 1), by simp only; omega, by simp only; omega, hb⟩ (by simp only; omega) ?_
      rw [hSt]; refine kH [] [] ?_
      simp only [aR,N0,N1,N2,N3,N4,N5,Z0,Z1,Z2,Z3,Z4,Z5,Z6,Z7,Z8,Z9,Z10,Zc,↓reduceIte,reduceCtorEq] <;> ((repeat' apply And.intro) <;> first | rfl | omega | trivial)
    · simp (disch := omega) only [aR,N0,N1,N2,N3,N4,N5,Z0,Z1,Z2,Z3,Z4,Z5,Z6,Z7,Z8,Z9,Z10,Zc,↓reduceIte,reduceCtorEq, kA, kK, h2]
      rw [hb, if_neg h2]
  · simp only [aR,N0,N1,N2,N3,N4,N5,Z0,Z1,Z2,Z3,Z4,Z5,Z6,Z7,Z8,Z9,Z10,Zc,↓reduceIte,reduceCtorEq, kK, h]
    rw [List.drop_of_length_le (by omega)] at hb
    rw [hb]; rfl
theorem call_wnodes {Γ : Env} (hf : Γ.get 8 = some kCT) {σ : AS} {dr : Bool} {l : List Nd} {m : Int} {ys : List AV} {d : Option Nat} {K : AS → Prop} (hy : ys = k9 l) (h1 : l.length ≤ 9223372036854775807) (h2 : ∀ a ∈ l, a.nm.length ≤ 9223372036854775807 ∧ a.text.length ≤ 9223372036854775807) (hm : 0 ≤ m ∧ m ≤ 1000000)
    (hk : cont σ d (.v (.int .i64 (nF m 0 l))) K) : kN Tryz.prog Γ dr σ 8 [.sl 0 5 ys, .v (.int .i64 m)] d K := by
  subst hy
  exact kL (C := kCT) (i := (⟨l, h1, h2⟩, ⟨m, hm⟩)) hf rfl rfl rfl (by simp [AV.erL, AV.er, kB1]) (fun _ h => h) rfl hk
end Go.Proofs
end
