/-
  What a sound tree is; going up in it. Plain. What the tree does is what the document says; a sound tree stays sound. Plain. A sound tree stays sound. Plain. A transaction, done on a copy of a tree. Names that are taken: a map whose keys are nodes. Plain. A node by itself; a tree of nodes. The IDs of a transaction's acts, by a map. law14: what the document fixes. A tree of nodes: what Load takes is what is sound. Is a tree sound. Whose nodes a transaction touches. What the document fixes of rebase. RebaseApart answers true. law14: small; TxnAsks answers true. TxnAsks answers true. Is a tree sound: just so. TxnDoes answers true.
-/
import Derived.Test.YtfhipjafkdembaaDoorXFTr3
import Derived.Test.YtfhipjafkdembaaDoorXFAp1
import Derived.Test.YtfhipjafkdembaaDoorRwO
import Derived.Test.YtfhipjafkdembaaDoorXFSh
set_option linter.unusedSimpArgs false
set_option linter.unusedVariables false
set_option linter.defProp false
set_option linter.unusedSectionVars false

-- FTr10
section
namespace Go.Proofs
open Go Go.Rw
set_option maxRecDepth 100000
set_option linter.unusedSimpArgs false
set_option linter.unusedVariables false

theorem gN_at (l : List Nd) (i : Int) : gN l i = (atI i l).getD zeroN := by
  rw [at_ndx]
  unfold gN
  split
  · rfl
  · rw [List.getD_eq_getElem?_getD, List.getElem?_eq_none (by omega)]
theorem hasN_at (l : List Nd) (i : Int) : hasN l i = (atI i l).isSome := by
  rw [at_ndx]
  unfold hasN
  split <;> simp [*]
/-- The one above. -/
def pf (l : List Nd) (i : Int) : Int := (gN l i).par
def upN (l : List Nd) : Nat → Int → Int
  | 0, i => i
  | k + 1, i => upN l k (pf l i)
theorem up_add (l : List Nd) : ∀ (j k : Nat) (i : Int), upN l (j + k) i = upN l k (upN l j i)
  | 0, k, i => by rw [Nat.zero_add]; rfl
  | j + 1, k, i => by rw [Nat.add_right_comm]; exact up_add l j k (pf l i)
theorem up_succ (l : List Nd) (k : Nat) (i : Int) : upN l (k + 1) i = pf l (upN l k i) := up_add l k 1 i
theorem pf_no {l : List Nd} {i : Int} (h : hasN l i = false) : pf l i = 0 := by
  unfold pf
  rw [gN_at]
  rw [hasN_at] at h
  cases h2 : atI i l with
  | none => rfl
  | some x => rw [h2] at h; simp at h
/-- A row of different ones in another row is no longer. -/
theorem nodup_sub : ∀ {a b : List Int}, a.Nodup → (∀ x ∈ a, x ∈ b) → a.length ≤ b.length
  | [], b, _, _ => Nat.zero_le _
  | x :: a, b, hn, hs => by
    rw [List.nodup_cons] at hn
    have h1 := hs x (List.mem_cons_self ..)
    have h2 := nodup_sub (a := a) (b := b.erase x) hn.2 fun y hy => (List.mem_erase_of_ne (by rintro rfl; exact hn.1 hy)).2 (hs y (List.mem_cons_of_mem _ hy))
    rw [List.length_erase_of_mem h1] at h2
    have : 0 < b.length := List.length_pos_of_mem h1
    simp only [List.length_cons]; omega
/-- A sound node. -/
structure okNd (x : Nd) : Prop where
  id : 1 ≤ x.id ∧ x.id ≤ 1099511627776
  nm : nameOk x.nm = true
  dir : x.dir = true → x.text = []
  valid : (pts x.text).isSome = true
  cnt : cnt x.text ≤ 2000
/-- A sound tree. -/
structure sndN (l : List Nd) : Prop where
  srt : srtN l
  len : l.length ≤ 100
  node : ∀ x ∈ l, okNd x
  tot : totN l ≤ 10000
  sib : ∀ x ∈ l, ∀ y ∈ l, x.par = y.par → x.nm = y.nm → x.id = y.id
  par : ∀ x ∈ l, x.par = 0 ∨ (hasN l x.par = true ∧ (gN l x.par).dir = true)
  rt : ∀ x ∈ l, ∃ k, upN l k x.id = 0
theorem snd_nil : sndN [] := ⟨by simp [srtN], by simp, by simp, by simp [totN], by simp, by simp, by simp⟩
theorem at_mem {l : List Nd} (h : srtN l) {x : Nd} (hx : x ∈ l) : atI x.id l = some x := by
  obtain ⟨i, hi, rfl⟩ := List.getElem_of_mem hx
  have := ndx_self (srt_mem h) i (List.getElem?_eq_getElem hi)
  rw [at_ndx, this, if_pos hi, List.getD_eq_getElem?_getD, List.getElem?_eq_getElem hi]; rfl
theorem gN_mem {l : List Nd} {i : Int} (h : hasN l i = true) : gN l i ∈ l ∧ (gN l i).id = i := by
  obtain ⟨h1, h2, h3⟩ := gN_get h
  rw [h2]
  exact ⟨List.getElem_mem h1, h3⟩
theorem hasN_mem {l : List Nd} {x : Nd} (hx : x ∈ l) : hasN l x.id = true := (hasN_iff l x.id).2 ((ndx_mem x.id l).2 ⟨x, hx, rfl⟩)
theorem gN_self {l : List Nd} (h : srtN l) {x : Nd} (hx : x ∈ l) : gN l x.id = x := by rw [gN_at, at_mem h hx]; rfl
section
variable {l : List Nd} (S : sndN l)
include S
theorem no_zero : hasN l 0 = false := by
  rcases Bool.eq_false_or_eq_true (hasN l 0) with h | h
  · have := gN_mem h
    have h2 := (S.node _ this.1).id.1
    omega
  · exact h
theorem pf_zero : pf l 0 = 0 := pf_no (no_zero S)
theorem up_zero : ∀ k, upN l k 0 = 0
  | 0 => rfl
  | k + 1 => by rw [upN, pf_zero S]; exact up_zero k
theorem up_stay {j k : Nat} {i : Int} (h : upN l j i = 0) (hk : j ≤ k) : upN l k i = 0 := by
  obtain ⟨m, rfl⟩ : ∃ m, k = j + m := ⟨k - j, by omega⟩
  rw [up_add, h, up_zero S]
/-- The root, or a node. -/
def inT (l : List Nd) (i : Int) : Prop := i = 0 ∨ hasN l i = true
theorem pf_in {i : Int} : inT l (pf l i) := by
  rcases Bool.eq_false_or_eq_true (hasN l i) with h | h
  · obtain ⟨h1, h2⟩ := gN_mem h
    rcases S.par _ h1 with h3 | h3
    · exact .inl h3
    · exact .inr h3.1
  · exact .inl (pf_no h)
theorem up_in {i : Int} (hi : inT l i) : ∀ k, inT l (upN l k i)
  | 0 => hi
  | k + 1 => by rw [up_succ]; exact pf_in S
theorem rt_in {i : Int} (hi : inT l i) : ∃ k, upN l k i = 0 := by
  rcases hi with rfl | hi
  · exact ⟨0, rfl⟩
  · obtain ⟨h1, h2⟩ := gN_mem hi
    have := S.rt _ h1
    rwa [h2] at this
/-- One comes to the root in as many steps as there are nodes. -/
theorem rt_len {i : Int} (hi : inT l i) : upN l l.length i = 0 := by
  obtain ⟨k, hk⟩ := rt_in S hi
  induction k using Nat.strongRecOn with
  | ind k ih =>
    by_cases hlt : k ≤ l.length
    · exact up_stay S hk hlt
    · -- two of the k are the same
      by_cases hall : ∀ j, j < k → upN l j i ≠ 0
      · by_cases hnd : ((List.range k).map fun j => upN l j i).Nodup
        · have := nodup_sub (b := l.map Nd.id) hnd fun y hy => by
            obtain ⟨j, hj, rfl⟩ := List.mem_map.1 hy
            rcases up_in S hi j with h0 | h0
            · exact absurd h0 (hall j (by simpa using hj))
            · obtain ⟨h1, h2⟩ := gN_mem h0
              exact List.mem_map.2 ⟨_, h1, h2⟩
          simp at this
          omega
        · exfalso
          apply hnd
          rw [List.nodup_iff_pairwise_ne, List.pairwise_map]
          rw [List.pairwise_iff_getElem]
          intro a b ha hb hab
          simp only [List.length_range] at ha hb
          simp only [List.getElem_range]
          intro he
          -- from b on as from a on: the root sooner
          have h1 : upN l (a + (k - b)) i = 0 := by rw [up_add, he, ← up_add, show b + (k - b) = k by omega, hk]
          exact hall _ (by omega) h1
      · have : ∃ j, j < k ∧ upN l j i = 0 := by
          refine Classical.byContradiction fun hc => hall fun j hj h0 => hc ⟨j, hj, h0⟩
        obtain ⟨j, hj, h0⟩ := this
        exact ih j hj h0
theorem root_iff {i : Int} : ∀ n, rootB l n i = true ↔ upN l n i = 0
  | 0 => by simp [rootB, upN]
  | n + 1 => by
    rw [rootB, upN]
    split
    · rename_i h0
      subst h0
      simp [pf_zero S, up_zero S]
    · exact root_iff n
theorem snd_rt : rtOk l := fun x hx => (root_iff S _).2 (rt_len S (.inr (hasN_mem hx)))
/-- Does one come to top, going up? -/
def meets (l : List Nd) (i top : Int) : Prop := ∃ k, upN l k i = top
theorem up_iff {i top : Int} : ∀ n, upB l top n i = true ↔ ∃ k, k ≤ n ∧ upN l k i = top ∧ ∀ j, j < k → upN l j i ≠ 0
  | 0 => by
    simp only [upB, decide_eq_true_eq]
    constructor
    · rintro rfl; exact ⟨0, Nat.le_refl _, rfl, by omega⟩
    · rintro ⟨k, hk, h, _⟩
      have : k = 0 := by omega
      subst this; exact h
  | n + 1 => by
    rw [upB]
    split
    · rename_i h0
      simp only [true_iff]
      exact ⟨0, Nat.zero_le _, h0, by omega⟩
    · rename_i h0
      split
      · rename_i h1
        subst h1
        simp only [Bool.false_eq_true, false_iff]
        rintro ⟨k, hk, h, h2⟩
        cases k with
        | zero => exact h0 h
        | succ k => exact h2 0 (by omega) rfl
      · rename_i h1
        rw [show (gN l i).par = pf l i from rfl, up_iff n]
        constructor
        · rintro ⟨k, hk, h, h2⟩
          refine ⟨k + 1, by omega, h, fun j hj => ?_⟩
          cases j with
          | zero => exact h1
          | succ j => exact h2 j (by omega)
        · rintro ⟨k, hk, h, h2⟩
          cases k with
          | zero => exact absurd h h0
          | succ k => exact ⟨k, by omega, h, fun j hj => h2 (j + 1) (by omega)⟩
theorem up_meets {i top : Int} (hi : inT l i) (ht : top ≠ 0) : upB l top l.length i = true ↔ meets l i top := by
  rw [up_iff S]
  constructor
  · rintro ⟨k, _, h, _⟩; exact ⟨k, h⟩
  · rintro ⟨k, h⟩
    have hz : ∀ j, j ≤ k → upN l j i ≠ 0 := fun j hj h0 => ht (by rw [← h, up_stay S h0 hj])
    refine ⟨k, ?_, h, fun j hj => hz j (by omega)⟩
    refine Classical.byContradiction fun hc => hz l.length (by omega) (rt_len S hi)
theorem in_iff {top : Int} (ht : top ≠ 0) : ∀ (n : Nat) {i : Int}, inT l i → upN l n i = 0 → (inN l top (n + 1) i = true ↔ meets l i top)
  | n, i, hi, h0 => by
    rw [inN]
    split
    · rename_i h1
      simp only [true_iff]
      exact ⟨0, h1⟩
    · rename_i h1
      split
      · rename_i h2
        have h3 : (l.getD (ndx i l) zeroN).par = pf l i := rfl
        rw [h3]
        have h4 : meets l i top ↔ meets l (pf l i) top := by
          constructor
          · rintro ⟨k, h⟩
            cases k with
            | zero => exact absurd h h1
            | succ k => exact ⟨k, h⟩
          · rintro ⟨k, h⟩; exact ⟨k + 1, h⟩
        rw [h4]
        cases n with
        | zero =>
          have : i = 0 := h0
          subst this
          have := no_zero S
          simp [hasN] at this
          omega
        | succ n => exact in_iff ht n (pf_in S) h0
      · rename_i h2
        have h5 : i = 0 := by
          rcases hi with h | h
          · exact h
          · exact absurd ((hasN_iff l i).1 h) h2
        subst h5
        simp only [Bool.false_eq_true, false_iff]
        rintro ⟨k, h⟩
        rw [up_zero S] at h
        exact ht h.symm
theorem within_meets {i top : Int} (hi : inT l i) (ht : top ≠ 0) : withinB l i top = true ↔ meets l i top := in_iff S ht l.length hi (rt_len S hi)
theorem kid_some {par : Int} {nm : List UInt8} : ∀ {m : List Nd}, (∀ x ∈ m, 1 ≤ x.id) → (kid par nm m = -1 ∨ 1 ≤ kid par nm m)
  | [], _ => .inl rfl
  | x :: m, h => by
    rw [kid]
    split
    · exact .inr (h x (List.mem_cons_self ..))
    · exact kid_some fun y hy => h y (List.mem_cons_of_mem _ hy)
end
theorem kid_iff {par i : Int} {nm : List UInt8} : ∀ {m : List Nd}, (∀ x ∈ m, 1 ≤ x.id) → 1 ≤ i → kid par nm m = i → ∃ x ∈ m, x.par = par ∧ x.nm = nm ∧ x.id = i
  | [], _, h1, h => by rw [kid] at h; omega
  | x :: m, hp, h1, h => by
    rw [kid] at h
    split at h
    · rename_i hx
      exact ⟨x, List.mem_cons_self .., hx.1, hx.2, h⟩
    · obtain ⟨y, hy, h2⟩ := kid_iff (fun y hy => hp y (List.mem_cons_of_mem _ hy)) h1 h
      exact ⟨y, List.mem_cons_of_mem _ hy, h2⟩
theorem kid_none {par : Int} {nm : List UInt8} : ∀ {m : List Nd}, (∀ x ∈ m, 1 ≤ x.id) → ¬ 1 ≤ kid par nm m → ∀ x ∈ m, ¬ (x.par = par ∧ x.nm = nm)
  | [], _, h, x, hx => by cases hx
  | y :: m, hp, h, x, hx => by
    rw [kid] at h
    split at h
    · exact absurd (hp y (List.mem_cons_self ..)) h
    · rename_i hy
      rcases List.mem_cons.1 hx with rfl | hx
      · exact hy
      · exact kid_none (fun y hy => hp y (List.mem_cons_of_mem _ hy)) h x hx
end Go.Proofs
end

-- FTr11
section
namespace Go.Proofs
open Go Go.Rw
set_option maxRecDepth 100000
set_option linter.unusedSimpArgs false
set_option linter.unusedVariables false

theorem tot_app (a b : List Nd) : totN (a ++ b) = totN a + totN b := by
  induction a with
  | nil => simp [totN]
  | cons x a ih => simp [totN, ih, Nat.add_assoc]
theorem tot_set : ∀ (l : List Nd) (i : Nat) (h : i < l.length) (y : Nd), totN (l.set i y) + cnt l[i].text = totN l + cnt y.text
  | [], i, h, y => by simp at h
  | x :: l, 0, h, y => by simp [totN]; omega
  | x :: l, i + 1, h, y => by
    have := tot_set l i (by simpa using h) y
    simp [totN]; omega
theorem dir_place {l : List Nd} {par id : Int} {nm : List UInt8} (h : dirI l par ≠ 0) : placeI l par nm id = dirI l par := by
  unfold dirI at h ⊢
  unfold placeI
  split
  · rename_i h0; rw [if_pos h0] at h; exact absurd rfl h
  · rename_i h0
    rw [if_neg h0] at h
    by_cases h1 : hasN l par = true
    · rw [if_pos h1] at h ⊢
      rw [if_pos ((hasN_iff l par).1 h1)]
      split at h
      · exact absurd rfl h
      · rename_i h2
        rw [if_neg h2, if_pos (by simpa [gN] using h2)]
    · rw [if_neg h1, if_neg (fun hc => h1 ((hasN_iff l par).2 hc))]
theorem place_dir {l : List Nd} {par id : Int} {nm : List UInt8} (h : dirI l par = 0) : placeI l par nm id = if par ≠ 0 ∧ id > 0 ∧ withinB l par id = true then 10 else childI l par nm id := by
  unfold dirI at h
  unfold placeI
  split
  · rename_i h0; rw [if_neg (fun hc => hc.1 h0)]
  · rename_i h0
    rw [if_neg h0] at h
    split at h
    · rename_i h1
      rw [if_pos ((hasN_iff l par).1 h1)]
      split at h
      · rename_i h2
        rw [if_neg (by rw [show l.getD (ndx par l) zeroN = gN l par from rfl, h2]; decide)]
        by_cases h3 : id > 0 ∧ withinB l par id = true
        · rw [if_pos h3, if_pos ⟨h0, h3⟩]
        · rw [if_neg h3, if_neg (fun hc => h3 hc.2)]
      · omega
    · omega
theorem dir_in {l : List Nd} {par : Int} (h : dirI l par = 0) : inT l par ∧ (par = 0 ∨ (hasN l par = true ∧ (gN l par).dir = true)) := by
  unfold dirI at h
  split at h
  · exact ⟨.inl ‹_›, .inl ‹_›⟩
  · split at h
    · split at h
      · exact ⟨.inr ‹_›, .inr ⟨‹_›, ‹_›⟩⟩
      · omega
    · omega
theorem doN_k1 {l : List Nd} {a : Ac} (hk : a.k = 1) : doN l a =
    if a.id < 1 ∨ a.id > 1099511627776 ∨ nameOk a.nm = false then (l, 1)
    else if ndx a.id l < l.length then (l, 6)
    else if placeI l a.par a.nm 0 ≠ 0 then (l, placeI l a.par a.nm 0)
    else if l.length ≥ 100 then (l, 4)
    else (l.take (atN a.id l) ++ ⟨a.id, a.par, a.nm, a.dir, []⟩ :: l.drop (atN a.id l), 0) := by
  show (if a.k = 1 then _ else _) = _
  rw [if_pos hk]
theorem doN_k2 {l : List Nd} {a : Ac} (hk : a.k = 2) : doN l a =
    if ¬ ndx a.id l < l.length then (l, 5)
    else if (l.any fun y => decide (y.par = a.id)) = true then (l, 9)
    else (l.take (ndx a.id l) ++ l.drop (ndx a.id l + 1), 0) := by
  show (if a.k = 1 then _ else _) = _
  rw [if_neg (by omega)]
  show (if a.k = 2 then _ else _) = _
  rw [if_pos hk]
theorem doN_k3 {l : List Nd} {a : Ac} (hk : a.k = 3) : doN l a =
    if nameOk a.nm = false then (l, 1)
    else if ¬ ndx a.id l < l.length then (l, 5)
    else if placeI l a.par a.nm a.id ≠ 0 then (l, placeI l a.par a.nm a.id)
    else (l.set (ndx a.id l) ⟨(gN l a.id).id, a.par, a.nm, (gN l a.id).dir, (gN l a.id).text⟩, 0) := by
  show (if a.k = 1 then _ else _) = _
  rw [if_neg (by omega)]
  show (if a.k = 2 then _ else _) = _
  rw [if_neg (by omega)]
  show (if a.k = 3 then _ else _) = _
  rw [if_pos hk]
  rfl
theorem doN_k4 {l : List Nd} {a : Ac} (hk : a.k = 4) : doN l a =
    if ¬ ndx a.id l < l.length then (l, 5)
    else if (gN l a.id).dir = true then (l, 8)
    else if errI (gN l a.id).text a.ops ≠ 0 then (l, errI (gN l a.id).text a.ops)
    else if (totN (l.set (ndx a.id l) ⟨(gN l a.id).id, (gN l a.id).par, (gN l a.id).nm, (gN l a.id).dir, doneB (gN l a.id).text a.ops⟩) : Int) > 10000 then (l, 4)
    else (l.set (ndx a.id l) ⟨(gN l a.id).id, (gN l a.id).par, (gN l a.id).nm, (gN l a.id).dir, doneB (gN l a.id).text a.ops⟩, 0) := by
  show (if a.k = 1 then _ else _) = _
  rw [if_neg (by omega)]
  show (if a.k = 2 then _ else _) = _
  rw [if_neg (by omega)]
  show (if a.k = 3 then _ else _) = _
  rw [if_neg (by omega)]
  show (if a.k = 4 then _ else _) = _
  rw [if_pos hk]
  rfl
theorem doN_k0 {l : List Nd} {a : Ac} (hk : a.k < 1 ∨ a.k > 4) : doN l a = (l, 1) := by
  show (if a.k = 1 then _ else _) = _
  rw [if_neg (by omega)]
  show (if a.k = 2 then _ else _) = _
  rw [if_neg (by omega)]
  show (if a.k = 3 then _ else _) = _
  rw [if_neg (by omega)]
  show (if a.k = 4 then _ else _) = _
  rw [if_neg (by omega)]
section
variable {l : List Nd} (S : sndN l)
include S
theorem cre_eq {a : Ac} (hk : a.k = 1) : creN l a = doN l a := by
  have hp : ∀ x ∈ l, 1 ≤ x.id := fun x hx => (S.node x hx).id.1
  rw [doN_k1 hk]
  unfold creN
  by_cases h1 : a.id < 1 ∨ a.id > 1099511627776 ∨ nameOk a.nm = false
  · rw [if_pos h1, if_pos h1]
  rw [if_neg h1, if_neg h1]
  by_cases h2 : hasN l a.id = true
  · rw [if_pos h2, if_pos ((hasN_iff l a.id).1 h2)]
  rw [if_neg h2, if_neg (fun hc => h2 ((hasN_iff l a.id).2 hc))]
  by_cases h3 : dirI l a.par = 0
  case neg => rw [if_pos h3, dir_place h3, if_pos h3]
  rw [if_neg (fun hc => hc h3), place_dir h3, if_neg (show ¬ (a.par ≠ 0 ∧ (0 : Int) > 0 ∧ withinB l a.par 0 = true) by omega)]
  unfold childI
  by_cases h4 : 0 < kid a.par a.nm l
  · rw [if_pos h4, if_pos (show (0 ≤ kid a.par a.nm l ∧ kid a.par a.nm l ≠ 0) by omega)]; rfl
  have h5 := kid_some S (par := a.par) (nm := a.nm) hp
  rw [if_neg h4, if_neg (show ¬ (0 ≤ kid a.par a.nm l ∧ kid a.par a.nm l ≠ 0) by omega), if_neg (show ¬ ((0 : Int) ≠ 0) by decide)]
  split
  · rfl
  · unfold setT
    rw [if_neg h2]
theorem rem_eq {a : Ac} (hk : a.k = 2) : remN l a.id = doN l a := by
  rw [doN_k2 hk]
  unfold remN
  by_cases h2 : hasN l a.id = true
  case neg =>
    rw [if_pos (show hasN l a.id = false by simpa using h2), if_pos (show ¬ ndx a.id l < l.length from fun hc => h2 ((hasN_iff l a.id).2 hc))]
  rw [if_neg (show ¬ (hasN l a.id = false) by rw [h2]; decide), if_neg (show ¬ ¬ ndx a.id l < l.length from fun hc => hc ((hasN_iff l a.id).1 h2))]
  have e : 0 < (kept a.id l).length ↔ (l.any fun y => decide (y.par = a.id)) = true := by
    unfold kept
    rw [List.length_pos_iff, ne_eq, List.filter_eq_nil_iff, List.any_eq_true]
    simp
  by_cases h3 : 0 < (kept a.id l).length
  · rw [if_pos h3, if_pos (e.1 h3)]
  · rw [if_neg h3, if_neg (fun hc => h3 (e.2 hc))]; rfl
theorem mov_eq {a : Ac} (hk : a.k = 3) : movN l a = doN l a := by
  have hp : ∀ x ∈ l, 1 ≤ x.id := fun x hx => (S.node x hx).id.1
  rw [doN_k3 hk]
  unfold movN
  by_cases h1 : nameOk a.nm = false
  · rw [if_pos h1, if_pos h1]
  rw [if_neg h1, if_neg h1]
  by_cases h2 : hasN l a.id = true
  case neg =>
    rw [if_pos (show hasN l a.id = false by simpa using h2), if_pos (show ¬ ndx a.id l < l.length from fun hc => h2 ((hasN_iff l a.id).2 hc))]
  obtain ⟨h6, h7⟩ := gN_mem h2
  have h8 := hp _ h6
  rw [h7] at h8
  rw [if_neg (show ¬ (hasN l a.id = false) by rw [h2]; decide), if_neg (show ¬ ¬ ndx a.id l < l.length from fun hc => hc ((hasN_iff l a.id).1 h2))]
  by_cases h3 : dirI l a.par = 0
  case neg => rw [if_pos h3, dir_place h3, if_pos h3]
  rw [if_neg (fun hc => hc h3), place_dir h3]
  obtain ⟨h9, _⟩ := dir_in h3
  by_cases h4 : upB l a.id l.length a.par = true
  · have h10 := (up_meets S h9 (show a.id ≠ 0 by omega)).1 h4
    have h11 : a.par ≠ 0 := by
      rintro h0
      rw [h0] at h10
      obtain ⟨k, hk2⟩ := h10
      rw [up_zero S] at hk2; omega
    rw [if_pos h4, if_pos (show a.par ≠ 0 ∧ a.id > 0 ∧ withinB l a.par a.id = true from ⟨h11, by omega, (within_meets S h9 (by omega)).2 h10⟩)]; rfl
  · rw [if_neg h4, if_neg (show ¬ (a.par ≠ 0 ∧ a.id > 0 ∧ withinB l a.par a.id = true) from fun hc => h4 ((up_meets S h9 (show a.id ≠ 0 by omega)).2 ((within_meets S h9 (by omega)).1 hc.2.2)))]
    have h5 := kid_some S (par := a.par) (nm := a.nm) hp
    unfold childI
    by_cases h12 : 0 < kid a.par a.nm l ∧ kid a.par a.nm l ≠ a.id
    · rw [if_pos h12, if_pos (show 0 ≤ kid a.par a.nm l ∧ kid a.par a.nm l ≠ a.id from ⟨by omega, h12.2⟩)]; rfl
    · rw [if_neg h12, if_neg (show ¬ (0 ≤ kid a.par a.nm l ∧ kid a.par a.nm l ≠ a.id) from fun hc => h12 ⟨by omega, hc.2⟩), if_neg (show ¬ ((0 : Int) ≠ 0) by decide)]
      unfold setT
      rw [if_pos h2]
      show (l.set (ndx a.id l) ⟨a.id, a.par, a.nm, (gN l a.id).dir, (gN l a.id).text⟩, (0 : Int)) = (l.set (ndx a.id l) ⟨(gN l a.id).id, a.par, a.nm, (gN l a.id).dir, (gN l a.id).text⟩, 0)
      rw [h7]
theorem edi_eq {a : Ac} (hk : a.k = 4) : ediN l a = doN l a := by
  rw [doN_k4 hk]
  unfold ediN
  by_cases h2 : hasN l a.id = true
  case neg =>
    rw [if_pos (show hasN l a.id = false by simpa using h2), if_pos (show ¬ ndx a.id l < l.length from fun hc => h2 ((hasN_iff l a.id).2 hc))]
  have h6 := gN_mem h2
  rw [if_neg (show ¬ (hasN l a.id = false) by rw [h2]; decide), if_neg (show ¬ ¬ ndx a.id l < l.length from fun hc => hc ((hasN_iff l a.id).1 h2))]
  split
  · rfl
  split
  · rfl
  obtain ⟨h7, h8, h9⟩ := gN_get h2
  have h10 := tot_set l (ndx a.id l) h7 ⟨(gN l a.id).id, (gN l a.id).par, (gN l a.id).nm, (gN l a.id).dir, doneB (gN l a.id).text a.ops⟩
  rw [← h8] at h10
  simp only at h10
  have e : (totN l : Int) - cnt (gN l a.id).text + cnt (doneB (gN l a.id).text a.ops) = (totN (l.set (ndx a.id l) ⟨(gN l a.id).id, (gN l a.id).par, (gN l a.id).nm, (gN l a.id).dir, doneB (gN l a.id).text a.ops⟩) : Int) := by omega
  rw [e]
  split
  · rfl
  · unfold setT
    rw [if_pos h2]
    show (l.set (ndx a.id l) ⟨a.id, (gN l a.id).par, (gN l a.id).nm, (gN l a.id).dir, doneB (gN l a.id).text a.ops⟩, (0 : Int)) = (l.set (ndx a.id l) ⟨(gN l a.id).id, (gN l a.id).par, (gN l a.id).nm, (gN l a.id).dir, doneB (gN l a.id).text a.ops⟩, 0)
    rw [h6.2]
/-- The tree's own doing is the document's. -/
theorem dot_eq (a : Ac) : dotN l a = doN l a := by
  unfold dotN
  by_cases h : a.k < 1 ∨ a.k > 4
  · rw [if_pos h, doN_k0 h]
  rw [if_neg h]
  by_cases h1 : a.k = 1
  · rw [if_pos h1]; exact cre_eq S h1
  rw [if_neg h1]
  by_cases h2 : a.k = 2
  · rw [if_pos h2]; exact rem_eq S h2
  rw [if_neg h2]
  by_cases h3 : a.k = 3
  · rw [if_pos h3]; exact mov_eq S h3
  rw [if_neg h3]
  exact edi_eq S (by omega)
end
end Go.Proofs
end

-- FTr12
section
namespace Go.Proofs
open Go Go.Rw
set_option maxRecDepth 100000
set_option linter.unusedSimpArgs false
set_option linter.unusedVariables false

theorem done_ok {s : List UInt8} {l : List Cp} (h : errI s l = 0) : (pts (doneB s l)).isSome = true ∧ cnt (doneB s l) ≤ 2000 := by
  obtain ⟨h1, h2, h3, h4⟩ := err_zero h
  obtain ⟨c1, c2, c3, c4, c5, c6⟩ := check_cases h1
  have hs : (pts s).isSome = true := by rw [h2]; rfl
  have hok := do_okc l (cpts s) (encs_cpts hs).2 (sound_texts c3)
  have e : doneB s l = encs (doL (cpts s) l) := by unfold doneB; rw [if_pos h]
  have ho := out_do l (cpts s) 0 (by omega) h4 c6
  rw [e]
  refine ⟨by rw [pts_enc hok]; rfl, ?_⟩
  rw [cnt_cpts, cpts_enc hok]
  have c6' : outF 0 l ≤ 2000 := c6
  omega
theorem doN_err {l : List Nd} {a : Ac} (h : (doN l a).2 ≠ 0) : (doN l a).1 = l := by
  by_cases h0 : a.k < 1 ∨ a.k > 4
  · rw [doN_k0 h0]
  rcases (show a.k = 1 ∨ a.k = 2 ∨ a.k = 3 ∨ a.k = 4 by omega) with hk | hk | hk | hk
  · rw [doN_k1 hk] at h ⊢
    repeat' split
    all_goals first | rfl | simp_all
  · rw [doN_k2 hk] at h ⊢
    repeat' split
    all_goals first | rfl | simp_all
  · rw [doN_k3 hk] at h ⊢
    repeat' split
    all_goals first | rfl | simp_all
  · rw [doN_k4 hk] at h ⊢
    repeat' split
    all_goals first | rfl | (exfalso; rename_i q1 q2 q3 q4; rw [if_neg q1, if_neg q2, if_neg q3, if_neg q4] at h; exact h rfl)
/-- The chains that keep clear of a node are as they were. -/
theorem up_same {l l' : List Nd} (A : Int → Prop) (h1 : ∀ i, A i → pf l' i = pf l i) (h2 : ∀ i, A i → A (pf l i)) : ∀ (k : Nat) (i : Int), A i → upN l' k i = upN l k i
  | 0, i, _ => rfl
  | k + 1, i, h => by rw [upN, upN, h1 i h]; exact up_same A h1 h2 k _ (h2 i h)
section
variable {l : List Nd} (S : sndN l) {a : Ac} (h0 : (doN l a).2 = 0)
include S h0
theorem do_mem {x : Nd} (hx : x ∈ (doN l a).1) : (x.id = a.id ∧ stepN a (atI a.id l) = some x) ∨ (x ∈ l ∧ x.id ≠ a.id) := by
  obtain ⟨d1, d2⟩ := doN_at h0 S.srt
  have := at_mem d1 hx
  rw [d2] at this
  split at this
  · rename_i he
    rw [he] at this
    exact .inl ⟨he, this⟩
  · exact .inr ⟨(at_some this).1, by assumption⟩
theorem do_pf {i : Int} (hi : i ≠ a.id) : gN (doN l a).1 i = gN l i ∧ hasN (doN l a).1 i = hasN l i := by
  obtain ⟨d1, d2⟩ := doN_at h0 S.srt
  rw [gN_at, gN_at, hasN_at, hasN_at, d2, if_neg hi]
  exact ⟨rfl, rfl⟩
theorem snd_cre (hk : a.k = 1) : sndN (doN l a).1 := by
  obtain ⟨d1, d2⟩ := doN_at h0 S.srt
  have dm := fun x hx => do_mem S h0 (x := x) hx
  have dp := fun i hi => do_pf S h0 (i := i) hi
  have hpos : ∀ x ∈ l, 1 ≤ x.id := fun x hx => (S.node x hx).id.1
  have hst : stepN a (atI a.id l) = some ⟨a.id, a.par, a.nm, a.dir, []⟩ := by unfold stepN; rw [if_pos hk]
  have hat : atI a.id (doN l a).1 = some ⟨a.id, a.par, a.nm, a.dir, []⟩ := by rw [d2, if_pos rfl, hst]
  have hdo := doN_k1 (l := l) hk
  rw [hdo] at h0
  split at h0
  · simp at h0
  rename_i c1
  split at h0
  · simp at h0
  rename_i c2
  split at h0
  · rename_i c3; exact absurd h0 c3
  rename_i c3
  split at h0
  · simp at h0
  rename_i c4
  rw [if_neg c1, if_neg c2, if_neg c3, if_neg c4] at hdo
  have c3 : placeI l a.par a.nm 0 = 0 := Decidable.not_not.1 c3
  have hno : hasN l a.id = false := by
    rcases Bool.eq_false_or_eq_true (hasN l a.id) with hh | hh
    · exact absurd ((hasN_iff l a.id).1 hh) c2
    · exact hh
  have c1a : 1 ≤ a.id ∧ a.id ≤ 1099511627776 := by omega
  have c1b : nameOk a.nm = true := by
    rcases Bool.eq_false_or_eq_true (nameOk a.nm) with hh | hh
    · exact hh
    · exact absurd (.inr (.inr hh)) c1
  have hd : dirI l a.par = 0 := by
    refine Decidable.not_not.1 fun hc => ?_
    rw [dir_place hc] at c3; exact hc c3
  rw [place_dir hd, if_neg (show ¬ (a.par ≠ 0 ∧ (0 : Int) > 0 ∧ withinB l a.par 0 = true) by omega)] at c3
  have hkid : ¬ 1 ≤ kid a.par a.nm l := fun hc => by
    unfold childI at c3
    rw [if_pos (by omega)] at c3; omega
  obtain ⟨hin, hpd⟩ := dir_in hd
  have hinA : ∀ i, inT l i → i ≠ a.id := fun i hi => by
    rcases hi with rfl | hi
    · omega
    · rintro rfl; rw [hno] at hi; cases hi
  have hup : ∀ k i, inT l i → upN (doN l a).1 k i = upN l k i := fun k i hi => up_same (inT l) (fun i hi => by unfold pf; rw [(dp i (hinA i hi)).1]) (fun i _ => pf_in S) k i hi
  refine ⟨d1, ?_, ?_, ?_, ?_, ?_, ?_⟩
  · rw [hdo]
    have := atN_le a.id l
    simp only [List.length_append, List.length_take, List.length_cons, List.length_drop]
    omega
  · intro x hx
    rcases dm x hx with ⟨_, h⟩ | ⟨h, _⟩
    · rw [hst] at h
      cases h
      exact ⟨c1a, c1b, fun _ => rfl, rfl, by simp [cnt_cpts, cpts_nil]⟩
    · exact S.node x h
  · rw [hdo]
    have e1 := tot_app (l.take (atN a.id l)) (l.drop (atN a.id l))
    rw [List.take_append_drop] at e1
    have := S.tot
    simp only [tot_app, totN]
    have e2 : cnt ([] : List UInt8) = 0 := by simp [cnt_cpts, cpts_nil]
    omega
  · intro x hx y hy hp hn
    rcases dm x hx with ⟨e1, h1⟩ | ⟨h1, _⟩ <;> rcases dm y hy with ⟨e2, h2⟩ | ⟨h2, _⟩
    · rw [e1, e2]
    · rw [hst] at h1; cases h1
      exact absurd ⟨hp.symm, hn.symm⟩ (kid_none hpos hkid y h2)
    · rw [hst] at h2; cases h2
      exact absurd ⟨hp, hn⟩ (kid_none hpos hkid x h1)
    · exact S.sib x h1 y h2 hp hn
  · intro x hx
    have key : ∀ p, (p = 0 ∨ (hasN l p = true ∧ (gN l p).dir = true)) → (p = 0 ∨ (hasN (doN l a).1 p = true ∧ (gN (doN l a).1 p).dir = true)) := fun p hp => by
      rcases hp with hp | ⟨h1, h2⟩
      · exact .inl hp
      · obtain ⟨q1, q2⟩ := dp p (hinA p (.inr h1))
        rw [q1, q2]; exact .inr ⟨h1, h2⟩
    rcases dm x hx with ⟨_, h⟩ | ⟨h, _⟩
    · rw [hst] at h; cases h
      exact key _ hpd
    · exact key _ (S.par x h)
  · intro x hx
    rcases dm x hx with ⟨e, h⟩ | ⟨h, _⟩
    · obtain ⟨k, hk⟩ := rt_in S hin
      refine ⟨k + 1, ?_⟩
      rw [e, upN]
      have : pf (doN l a).1 a.id = a.par := by unfold pf; rw [gN_at, hat]; rfl
      rw [this, hup k _ hin, hk]
    · obtain ⟨k, hk⟩ := S.rt x h
      exact ⟨k, by rw [hup k _ (.inr (hasN_mem h)), hk]⟩
theorem snd_rem (hk : a.k = 2) : sndN (doN l a).1 := by
  obtain ⟨d1, d2⟩ := doN_at h0 S.srt
  have dm := fun x hx => do_mem S h0 (x := x) hx
  have dp := fun i hi => do_pf S h0 (i := i) hi
  have hpos : ∀ x ∈ l, 1 ≤ x.id := fun x hx => (S.node x hx).id.1
  have hst : stepN a (atI a.id l) = none := by unfold stepN; rw [if_neg (by omega), if_pos hk]
  have hdo := doN_k2 (l := l) hk
  rw [hdo] at h0
  split at h0
  · simp at h0
  rename_i c1
  split at h0
  · simp at h0
  rename_i c2
  rw [if_neg c1, if_neg c2] at hdo
  have c1 := Decidable.not_not.1 c1
  obtain ⟨g1, g2⟩ := gN_mem ((hasN_iff l a.id).2 c1)
  have hid := hpos _ g1
  rw [g2] at hid
  have hnp : ∀ x ∈ l, x.par ≠ a.id := fun x hx he => c2 (List.any_eq_true.2 ⟨x, hx, by simpa using he⟩)
  have dm2 : ∀ x ∈ (doN l a).1, x ∈ l ∧ x.id ≠ a.id := fun x hx => by
    rcases dm x hx with ⟨_, h⟩ | h
    · rw [hst] at h; cases h
    · exact h
  have hup : ∀ k i, i ≠ a.id → upN (doN l a).1 k i = upN l k i := fun k i hi => up_same (fun i => i ≠ a.id) (fun i hi => by unfold pf; rw [(dp i hi).1]) (fun i _ => by
    rcases Bool.eq_false_or_eq_true (hasN l i) with hh | hh
    · exact hnp _ (gN_mem hh).1
    · rw [pf_no hh]; omega) k i hi
  refine ⟨d1, ?_, fun x hx => S.node x (dm2 x hx).1, ?_, fun x hx y hy => S.sib x (dm2 x hx).1 y (dm2 y hy).1, ?_, ?_⟩
  · rw [hdo]
    have := S.len
    simp only [List.length_append, List.length_take, List.length_drop]
    omega
  · rw [hdo]
    have e1 := tot_app (l.take (ndx a.id l)) (l.drop (ndx a.id l))
    rw [List.take_append_drop, List.drop_eq_getElem_cons c1, totN] at e1
    have := S.tot
    simp only [tot_app]
    omega
  · intro x hx
    have hx2 := (dm2 x hx).1
    rcases S.par x hx2 with hp | ⟨h1, h2⟩
    · exact .inl hp
    · obtain ⟨q1, q2⟩ := dp _ (hnp x hx2)
      rw [q1, q2]; exact .inr ⟨h1, h2⟩
  · intro x hx
    obtain ⟨h1, h2⟩ := dm2 x hx
    obtain ⟨k, hk⟩ := S.rt x h1
    exact ⟨k, by rw [hup k _ h2, hk]⟩
theorem snd_mov (hk : a.k = 3) : sndN (doN l a).1 := by
  obtain ⟨d1, d2⟩ := doN_at h0 S.srt
  have dm := fun x hx => do_mem S h0 (x := x) hx
  have dp := fun i hi => do_pf S h0 (i := i) hi
  have hpos : ∀ x ∈ l, 1 ≤ x.id := fun x hx => (S.node x hx).id.1
  have hdo := doN_k3 (l := l) hk
  rw [hdo] at h0
  split at h0
  · simp at h0
  rename_i c1
  split at h0
  · simp at h0
  rename_i c2
  split at h0
  · rename_i c3; exact absurd h0 c3
  rename_i c3
  rw [if_neg c1, if_neg c2, if_neg c3] at hdo
  have c3 : placeI l a.par a.nm a.id = 0 := Decidable.not_not.1 c3
  have c2 := Decidable.not_not.1 c2
  have c2h := (hasN_iff l a.id).2 c2
  have c1b : nameOk a.nm = true := by
    rcases Bool.eq_false_or_eq_true (nameOk a.nm) with hh | hh
    · exact hh
    · exact absurd hh c1
  obtain ⟨g1, g2⟩ := gN_mem c2h
  have hid := hpos _ g1
  rw [g2] at hid
  have hat0 : atI a.id l = some (gN l a.id) := by have := at_mem S.srt g1; rwa [g2] at this
  have hst : stepN a (atI a.id l) = some ⟨(gN l a.id).id, a.par, a.nm, (gN l a.id).dir, (gN l a.id).text⟩ := by
    unfold stepN; rw [if_neg (by omega), if_neg (by omega), if_pos hk, hat0]; rfl
  have hat : atI a.id (doN l a).1 = some ⟨(gN l a.id).id, a.par, a.nm, (gN l a.id).dir, (gN l a.id).text⟩ := by rw [d2, if_pos rfl, hst]
  have hd : dirI l a.par = 0 := by
    refine Decidable.not_not.1 fun hc => ?_
    rw [dir_place hc] at c3; exact hc c3
  obtain ⟨hin, hpd⟩ := dir_in hd
  rw [place_dir hd] at c3
  have hcy : ¬ (a.par ≠ 0 ∧ a.id > 0 ∧ withinB l a.par a.id = true) := fun hc => by rw [if_pos hc] at c3; omega
  rw [if_neg hcy] at c3
  have hkid : 1 ≤ kid a.par a.nm l → kid a.par a.nm l = a.id := fun hc => by
    unfold childI at c3
    refine Decidable.not_not.1 fun hne => ?_
    rw [if_pos ⟨by omega, hne⟩] at c3; omega
  have hnm : ∀ k, upN l k a.par ≠ a.id := fun k hc => by
    by_cases hp0 : a.par = 0
    · rw [hp0, up_zero S] at hc; omega
    · exact hcy ⟨hp0, by omega, (within_meets S hin (by omega)).2 ⟨k, hc⟩⟩
  have dh : ∀ i, hasN (doN l a).1 i = hasN l i ∧ (gN (doN l a).1 i).dir = (gN l i).dir := fun i => by
    by_cases hi : i = a.id
    · rw [hi, hasN_at, hasN_at, gN_at, hat, hat0]
      exact ⟨rfl, rfl⟩
    · obtain ⟨q1, q2⟩ := dp i hi
      rw [q1, q2]; exact ⟨rfl, rfl⟩
  have hpf : pf (doN l a).1 a.id = a.par := by unfold pf; rw [gN_at, hat]; rfl
  -- from the new parent on the way is as it was
  have hup : ∀ k, upN (doN l a).1 k a.par = upN l k a.par := fun k =>
    up_same (fun i => ∃ j, i = upN l j a.par) (fun i hi => by
      obtain ⟨j, rfl⟩ := hi
      unfold pf; rw [(dp _ (hnm j)).1]) (fun i hi => by
      obtain ⟨j, rfl⟩ := hi
      exact ⟨j + 1, (up_succ l j a.par).symm⟩) k a.par ⟨0, rfl⟩
  have hrt : ∀ k i, upN l k i = 0 → ∃ k', upN (doN l a).1 k' i = 0 := fun k => by
    induction k with
    | zero => intro i hi; exact ⟨0, hi⟩
    | succ k ih =>
      intro i hi
      by_cases he : i = a.id
      · obtain ⟨m, hm⟩ := rt_in S hin
        exact ⟨m + 1, by rw [he, upN, hpf, hup, hm]⟩
      · obtain ⟨m, hm⟩ := ih (pf l i) hi
        exact ⟨m + 1, by rw [upN]; unfold pf at hm ⊢; rw [(dp i he).1]; exact hm⟩
  refine ⟨d1, ?_, ?_, ?_, ?_, ?_, ?_⟩
  · rw [hdo]
    have := S.len
    simpa using this
  · intro x hx
    rcases dm x hx with ⟨_, h⟩ | ⟨h, _⟩
    · rw [hst] at h; cases h
      have := S.node _ g1
      exact ⟨this.id, c1b, this.dir, this.valid, this.cnt⟩
    · exact S.node x h
  · rw [hdo]
    have := tot_set l (ndx a.id l) c2 ⟨(gN l a.id).id, a.par, a.nm, (gN l a.id).dir, (gN l a.id).text⟩
    obtain ⟨_, g4, _⟩ := gN_get c2h
    rw [← g4] at this
    have := S.tot
    simp only at *
    omega
  · have key : ∀ y ∈ l, y.id ≠ a.id → ¬ (y.par = a.par ∧ y.nm = a.nm) := fun y hy hne hc => by
      by_cases hk1 : 1 ≤ kid a.par a.nm l
      · obtain ⟨x, hx, h1, h2, h3⟩ := kid_iff hpos hid (hkid hk1)
        have := S.sib x hx y hy (h1.trans hc.1.symm) (h2.trans hc.2.symm)
        omega
      · exact kid_none hpos hk1 y hy hc
    intro x hx y hy hp hn
    rcases dm x hx with ⟨e1, h1⟩ | ⟨h1, n1⟩ <;> rcases dm y hy with ⟨e2, h2⟩ | ⟨h2, n2⟩
    · rw [e1, e2]
    · rw [hst] at h1; cases h1
      exact absurd ⟨hp.symm, hn.symm⟩ (key y h2 n2)
    · rw [hst] at h2; cases h2
      exact absurd ⟨hp, hn⟩ (key x h1 n1)
    · exact S.sib x h1 y h2 hp hn
  · intro x hx
    have k2 : ∀ p, (p = 0 ∨ (hasN l p = true ∧ (gN l p).dir = true)) → (p = 0 ∨ (hasN (doN l a).1 p = true ∧ (gN (doN l a).1 p).dir = true)) := fun p hp => by
      rw [(dh p).1, (dh p).2]; exact hp
    rcases dm x hx with ⟨_, h⟩ | ⟨h, _⟩
    · rw [hst] at h; cases h
      exact k2 _ hpd
    · exact k2 _ (S.par x h)
  · intro x hx
    rcases dm x hx with ⟨e, _⟩ | ⟨h, _⟩
    · obtain ⟨m, hm⟩ := rt_in S hin
      exact ⟨m + 1, by rw [e, upN, hpf, hup, hm]⟩
    · obtain ⟨k, hk⟩ := S.rt x h
      exact hrt k _ hk
theorem snd_edi (hk : a.k = 4) : sndN (doN l a).1 := by
  obtain ⟨d1, d2⟩ := doN_at h0 S.srt
  have dm := fun x hx => do_mem S h0 (x := x) hx
  have dp := fun i hi => do_pf S h0 (i := i) hi
  have hdo := doN_k4 (l := l) hk
  rw [hdo] at h0
  split at h0
  · simp at h0
  rename_i c1
  split at h0
  · simp at h0
  rename_i c2
  split at h0
  · rename_i c3; exact absurd h0 c3
  rename_i c3
  split at h0
  · simp at h0
  rename_i c4
  rw [if_neg c1, if_neg c2, if_neg c3, if_neg c4] at hdo
  have c1 := Decidable.not_not.1 c1
  have c1h := (hasN_iff l a.id).2 c1
  obtain ⟨v1, v2⟩ := done_ok (Decidable.not_not.1 c3)
  obtain ⟨g1, g2⟩ := gN_mem c1h
  have hat0 : atI a.id l = some (gN l a.id) := by have := at_mem S.srt g1; rwa [g2] at this
  have hst : stepN a (atI a.id l) = some ⟨(gN l a.id).id, (gN l a.id).par, (gN l a.id).nm, (gN l a.id).dir, doneB (gN l a.id).text a.ops⟩ := by
    unfold stepN; rw [if_neg (by omega), if_neg (by omega), if_neg (by omega), hat0]; rfl
  have hat : atI a.id (doN l a).1 = some ⟨(gN l a.id).id, (gN l a.id).par, (gN l a.id).nm, (gN l a.id).dir, doneB (gN l a.id).text a.ops⟩ := by rw [d2, if_pos rfl, hst]
  have dh : ∀ i, hasN (doN l a).1 i = hasN l i ∧ (gN (doN l a).1 i).dir = (gN l i).dir ∧ (gN (doN l a).1 i).par = (gN l i).par := fun i => by
    by_cases hi : i = a.id
    · rw [hi, hasN_at, hasN_at, gN_at, hat, hat0]
      exact ⟨rfl, rfl, rfl⟩
    · obtain ⟨q1, q2⟩ := dp i hi
      rw [q1, q2]; exact ⟨rfl, rfl, rfl⟩
  have hup : ∀ k i, upN (doN l a).1 k i = upN l k i := fun k i => up_same (fun _ => True) (fun i _ => (dh i).2.2) (fun _ _ => trivial) k i trivial
  -- each node's like in the tree as it was
  have like : ∀ x ∈ (doN l a).1, ∃ y ∈ l, y.id = x.id ∧ y.par = x.par ∧ y.nm = x.nm ∧ y.dir = x.dir := fun x hx => by
    rcases dm x hx with ⟨_, h⟩ | ⟨h, _⟩
    · rw [hst] at h; cases h
      exact ⟨_, g1, rfl, rfl, rfl, rfl⟩
    · exact ⟨x, h, rfl, rfl, rfl, rfl⟩
  refine ⟨d1, ?_, ?_, ?_, ?_, ?_, ?_⟩
  · rw [hdo]
    have := S.len
    simpa using this
  · intro x hx
    rcases dm x hx with ⟨_, h⟩ | ⟨h, _⟩
    · rw [hst] at h; cases h
      have := S.node _ g1
      exact ⟨this.id, this.nm, fun hd => absurd hd c2, v1, v2⟩
    · exact S.node x h
  · rw [hdo]; simp only; omega
  · intro x hx y hy hp hn
    obtain ⟨x', hx', e1, e2, e3, _⟩ := like x hx
    obtain ⟨y', hy', e5, e6, e7, _⟩ := like y hy
    rw [← e1, ← e5]
    exact S.sib x' hx' y' hy' (by rw [e2, e6, hp]) (by rw [e3, e7, hn])
  · intro x hx
    obtain ⟨x', hx', e1, e2, e3, _⟩ := like x hx
    rw [← e2, (dh _).1, (dh _).2.1]
    exact S.par x' hx'
  · intro x hx
    obtain ⟨x', hx', e1, _⟩ := like x hx
    obtain ⟨k, hk⟩ := S.rt x' hx'
    exact ⟨k, by rw [hup, ← e1, hk]⟩
omit h0 in
/-- A sound tree stays sound, whatever is done. -/
theorem snd_do (a : Ac) : sndN (doN l a).1 := by
  by_cases h0 : (doN l a).2 = 0
  · by_cases hk : a.k < 1 ∨ a.k > 4
    · rw [doN_k0 hk]; exact S
    rcases (show a.k = 1 ∨ a.k = 2 ∨ a.k = 3 ∨ a.k = 4 by omega) with hk | hk | hk | hk
    · exact snd_cre S h0 hk
    · exact snd_rem S h0 hk
    · exact snd_mov S h0 hk
    · exact snd_edi S h0 hk
  · rw [doN_err h0]; exact S
end
end Go.Proofs
end

-- FTr13
section
namespace Go.Proofs
open Go Go.Rw
set_option maxRecDepth 100000
set_option linter.unusedSimpArgs false
set_option linter.unusedVariables false

theorem valid_len {t : List UInt8} (h : (pts t).isSome = true) : t.length ≤ 4 * cnt t := by
  rw [cnt_cpts]
  have := encs_len_le (cs := cpts t)
  rwa [(encs_cpts h).1] at this
theorem snd_ok {l : List Nd} (S : sndN l) : trOk l := by
  have hl := S.len
  refine ⟨⟨by omega, fun x hx => ?_⟩, fun x hx => (S.node x hx).id.1, ?_, fun x hx => ?_⟩
  · have := (S.node x hx).id; omega
  · have := S.tot; omega
  · have := valid_len (S.node x hx).valid
    have := (S.node x hx).cnt; omega
theorem snd_doOk {l : List Nd} (S : sndN l) {a : Ac} (ho : okA a) : doOk l a := ⟨snd_ok S, snd_rt S, ho.2, ho.1⟩
end Go.Proofs
end

-- FTr20
section
namespace Go.Proofs
open Go Go.Rw
set_option maxRecDepth 100000
set_option linter.unusedSimpArgs false
set_option linter.unusedVariables false

abbrev Ky := Int × List UInt8
def kV (p : Ky) : Value := nV ⟨0, p.1, p.2, false, []⟩
def entL : List (Ky × Int) → Nat → List MapEntry
  | [], _ => []
  | (p, c) :: r, i => { key := kV p, val := .int .i64 c, born := i } :: entL r (i + 1)
structure NM (es : Array MapEntry) (cl : Nat) (ps : List (Ky × Int)) : Prop where
  es : es.toList = entL ps 0
  cl : cl = ps.length
  nd : (ps.map Prod.fst).Nodup
def fndP (p : Ky) : List (Ky × Int) → Nat → Option (Nat × Value)
  | [], _ => none
  | (q, c) :: r, i => if q = p then some (i, .int .i64 c) else fndP p r (i + 1)
theorem equal_kV (p q : Ky) : calm Tryd.prog (Op.equal 39 (kV p) (kV q)) = some (decide (p = q)) := by
  have e : Op.maxDepth = 9998 + 2 := rfl
  have h := calm_eq5 (P := Tryd.prog) (d := 9998) (t := 39) (ti := 3) (ts := 9) (tb := 4) (k := .i64) (a := 0) (a' := 0) (b := p.1) (b' := q.1) (s := p.2) (s' := q.2) (q := false) (q' := false) (u := []) (u' := []) (by kernel_rfl) (by kernel_rfl) (by kernel_rfl) (by kernel_rfl) (by kernel_rfl)
  unfold Op.equal
  rw [e]
  refine h.trans ?_
  congr 1
  obtain ⟨p1, p2⟩ := p
  obtain ⟨q1, q2⟩ := q
  by_cases h1 : p1 = q1 <;> by_cases h2 : p2 = q2 <;> simp [h1, h2]
theorem ask_all (p : Ky) : ∀ (ps : List (Ky × Int)) (n i : Nat), calm Tryd.prog (Instr.findAsking 39 (kV p) (entL ps n) i) = some (fndP p ps i)
  | [], n, i => rfl
  | (q, c) :: r, n, i => by
    rw [entL, Instr.findAsking, calm_bind, equal_kV, Option.bind_some, fndP]
    by_cases h : p = q
    · subst h; simp
    · rw [decide_eq_false h, if_neg (Ne.symm h)]
      simpa using ask_all p r (n + 1) (i + 1)
theorem chk_kV (b : Bool) (p : Ky) : calm Tryd.prog (Instr.checkKey b 10000 39 (kV p)) = some () := by
  obtain ⟨p1, p2⟩ := p
  rfl
theorem und_kV : Tryd.prog.underlying 53 = some (.map 39 3) := by kernel_rfl
theorem ask_nm {es : Array MapEntry} {cl : Nat} {ps : List (Ky × Int)} (h : NM es cl ps) (b : Bool) (p : Ky) : askK Tryd.prog 53 b (kV p) es.toList = some (fndP p ps 0) := by
  unfold askK
  rw [und_kV]
  simp only
  rw [chk_kV, Option.bind_some, h.es]
  unfold Instr.findKey
  obtain ⟨fs, hu⟩ : ∃ fs, Tryd.prog.underlying 39 = some (.struct fs) := by
    have h5 : is5 Tryd.prog 39 3 9 4 = true := by kernel_rfl
    unfold is5 at h5
    split at h5
    · exact ⟨_, by assumption⟩
    · cases h5
  rw [calm_bind]
  simp only [underlying, calm_bind, calm_program, Option.bind_some, hu]
  cases ps with
  | nil => simp [entL, Instr.findNow, fndP, calm_pure]
  | cons q r =>
    obtain ⟨q, c⟩ := q
    have : Instr.findNow (.struct fs) (kV p) (entL ((q, c) :: r) 0) 0 = none := rfl
    simp only [calm_pure, Option.bind_some, this]
    exact ask_all p _ 0 0
def cntK (p : Ky) : List (Ky × Int) → Int
  | [] => 0
  | (q, c) :: r => if q = p then c else cntK p r
theorem fnd_some {p : Ky} : ∀ {ps : List (Ky × Int)} {n i : Nat} {v : Value}, fndP p ps n = some (i, v) → ∃ j c, i = n + j ∧ ps[j]? = some (p, c) ∧ v = .int .i64 c ∧ cntK p ps = c
  | [], n, i, v, h => by cases h
  | (q, c) :: r, n, i, v, h => by
    rw [fndP] at h
    split at h
    · rename_i hq
      subst hq
      cases h
      exact ⟨0, c, by omega, rfl, rfl, by rw [cntK, if_pos rfl]⟩
    · rename_i hq
      obtain ⟨j, c2, h1, h2, h3, h4⟩ := fnd_some h
      exact ⟨j + 1, c2, by omega, by simpa using h2, h3, by rw [cntK, if_neg hq, h4]⟩
theorem fnd_none {p : Ky} : ∀ {ps : List (Ky × Int)} {n : Nat}, fndP p ps n = none → p ∉ ps.map Prod.fst ∧ cntK p ps = 0
  | [], n, _ => by simp [cntK]
  | (q, c) :: r, n, h => by
    rw [fndP] at h
    split at h
    · cases h
    · rename_i hq
      obtain ⟨h1, h2⟩ := fnd_none h
      refine ⟨?_, by rw [cntK, if_neg hq, h2]⟩
      simp only [List.map_cons, List.mem_cons, not_or]
      exact ⟨fun hc => hq hc.symm, h1⟩
theorem look_nm {es : Array MapEntry} {cl : Nat} {ps : List (Ky × Int)} (h : NM es cl ps) (p : Ky) : lookS Tryd.prog 53 (kV p) es false = some (.v (.int .i64 (cntK p ps))) := by
  unfold lookS
  rw [ask_nm h]
  cases hf : fndP p ps 0 with
  | none =>
    have e1 : elemT Tryd.prog 53 = some 3 := by kernel_rfl
    have e2 : zeroOf Tryd.prog 3 = some (.v (.int .i64 0)) := by kernel_rfl
    simp only [e1, e2, Option.map_some, (fnd_none hf).2]
    rfl
  | some q =>
    obtain ⟨i, v⟩ := q
    obtain ⟨j, c, _, _, rfl, h4⟩ := fnd_some hf
    rw [h4]; rfl
theorem entL_len : ∀ (ps : List (Ky × Int)) (n : Nat), (entL ps n).length = ps.length
  | [], _ => rfl
  | (p, c) :: r, n => by simp [entL, entL_len r]
theorem entL_get : ∀ (ps : List (Ky × Int)) (n j : Nat), (entL ps n)[j]? = (ps[j]?).map fun q => { key := kV q.1, val := .int .i64 q.2, born := n + j }
  | [], _, _ => by simp [entL]
  | (p, c) :: r, n, 0 => by simp [entL]
  | (p, c) :: r, n, j + 1 => by
    simp only [entL, List.getElem?_cons_succ]
    rw [entL_get r (n + 1) j]
    cases r[j]? with
    | none => rfl
    | some q => simp only [Option.map_some]; congr 2; omega
theorem entL_app (ps : List (Ky × Int)) (p : Ky) (c : Int) (n : Nat) : entL (ps ++ [(p, c)]) n = entL ps n ++ [{ key := kV p, val := .int .i64 c, born := n + ps.length }] := by
  induction ps generalizing n with
  | nil => rfl
  | cons q r ih =>
    obtain ⟨q, d⟩ := q
    simp only [List.cons_append, entL, ih, List.length_cons]
    congr 3; congr 1; omega
/-- An entry laid at a key. -/
def layK (p : Ky) (ps : List (Ky × Int)) : List (Ky × Int) := if (fndP p ps 0).isSome then ps else ps ++ [(p, 0)]
theorem ba_beq (d : Array UInt8) : ((⟨d⟩ : ByteArray) == ⟨d⟩) = true := (beq_self_eq_true d : (d == d) = true)
theorem same_kV (p : Ky) : Instr.sameBits 10000 (kV p) (kV p) = true := by
  obtain ⟨p1, p2⟩ := p
  simp [kV, nV, Instr.sameBits, sv, ba_beq]
theorem cnt_app {p : Ky} : ∀ {ps : List (Ky × Int)}, p ∉ ps.map Prod.fst → cntK p (ps ++ [(p, 0)]) = 0
  | [], _ => by simp [cntK]
  | (q, c) :: r, h => by
    simp only [List.map_cons, List.mem_cons, not_or] at h
    rw [List.cons_append, cntK, if_neg (Ne.symm h.1), cnt_app h.2]
theorem get_es {es : Array MapEntry} {cl : Nat} {ps : List (Ky × Int)} (h : NM es cl ps) (j : Nat) : es[j]? = (ps[j]?).map fun q => { key := kV q.1, val := .int .i64 q.2, born := j } := by
  rw [← Array.getElem?_toList, h.es, entL_get]
  simp
theorem size_nm {es : Array MapEntry} {cl : Nat} {ps : List (Ky × Int)} (h : NM es cl ps) : es.size = ps.length := by
  rw [← Array.length_toList, h.es, entL_len]
theorem cnt_lay (p : Ky) (ps : List (Ky × Int)) : cntK p (layK p ps) = cntK p ps := by
  unfold layK
  cases hf : fndP p ps 0 with
  | none =>
    obtain ⟨h1, h2⟩ := fnd_none hf
    simp only [Option.isSome_none, Bool.false_eq_true, if_false]
    rw [cnt_app h1, h2]
  | some q => rfl
theorem mod_same {es : Array MapEntry} {i : Nat} {e : MapEntry} (h : es[i]? = some e) {k : Value} (hk : e.key = k) : (es.modify i fun e => { e with key := k }) = es := by
  apply Array.ext (by simp)
  intro j h1 h2
  rw [Array.getElem_modify]
  split
  · rename_i hj
    subst hj
    rw [Array.getElem?_eq_getElem h2] at h
    cases h
    subst hk
    rfl
  · rfl
theorem ent_nm {es : Array MapEntry} {cl : Nat} {ps : List (Ky × Int)} (h : NM es cl ps) (p : Ky) : ∃ es' cl' i, entA Tryd.prog 53 (kV p) es cl = some (.map es' cl', .tup [.v (.int .i64 (cntK p ps)), .v (.int .i64 (i : Nat))]) ∧ NM es' cl' (layK p ps) ∧ (layK p ps)[i]? = some (p, cntK p ps) := by
  have hs := h
  unfold entA
  rw [ask_nm h]
  cases hf : fndP p ps 0 with
  | none =>
    obtain ⟨h1, h2⟩ := fnd_none hf
    have e1 : elemT Tryd.prog 53 = some 3 := by kernel_rfl
    have e3 : ∃ a b c d, tiOf Tryd.prog 3 = some ⟨a, b, some (.int .i64 0), c, d⟩ := by
      have : ((tiOf Tryd.prog 3).bind fun ti => ti.zero) = some (.int .i64 0) := by kernel_rfl
      obtain ⟨ti, q1, q2⟩ := Option.bind_eq_some_iff.1 this
      obtain ⟨a, b, z, c, d⟩ := ti
      simp only at q2
      subst q2
      exact ⟨a, b, c, d, q1⟩
    obtain ⟨a, b, c, d, e3⟩ := e3
    have hl : layK p ps = ps ++ [(p, 0)] := by unfold layK; rw [hf]; rfl
    refine ⟨es.push { key := kV p, val := .int .i64 0, born := cl }, cl + 1, cl, ?_, ?_, ?_⟩
    · simp only [e1, e3, h2]; rfl
    · rw [hl]
      refine ⟨?_, by rw [h.cl]; simp, ?_⟩
      · rw [Array.toList_push, h.es, entL_app, h.cl]; simp
      · rw [List.map_append, List.nodup_append]
        refine ⟨h.nd, by simp, fun x hx y hy => ?_⟩
        simp only [List.map_cons, List.map_nil, List.mem_singleton] at hy
        subst hy
        rintro rfl
        exact h1 hx
    · rw [hl, h.cl, h2]; simp
  | some q =>
    obtain ⟨i, v⟩ := q
    obtain ⟨j, c, h1, h2, rfl, h4⟩ := fnd_some hf
    rw [Nat.zero_add] at h1
    subst h1
    have hl : layK p ps = ps := by unfold layK; rw [hf]; rfl
    have hg : es[i]? = some { key := kV p, val := .int .i64 c, born := i } := by rw [get_es h, h2]; rfl
    refine ⟨es, cl, i, ?_, by rw [hl]; exact h, by rw [hl, h4]; exact h2⟩
    simp only [hg, Option.map_some, Option.getD_some, same_kV, if_true, mod_same hg rfl, h4]
    rfl
/-- What a map of names has, one name more counted. -/
theorem put_nm {es : Array MapEntry} {cl : Nat} {ps : List (Ky × Int)} (h : NM es cl ps) {i : Nat} {p : Ky} {c : Int} (hi : ps[i]? = some (p, c)) (c' : Int) :
    es.findIdx? (fun e => (e.born : Int) == ((i : Nat) : Int)) = some i ∧ NM (es.modify i fun e => { e with val := .int .i64 c' }) cl (ps.set i (p, c')) := by
  have hlt := (List.getElem?_eq_some_iff.1 hi).1
  have hsz := size_nm h
  have hb : ∀ (j : Nat) (hj : j < es.size), es[j].born = j := fun j hj => by
    have := get_es h j
    rw [Array.getElem?_eq_getElem hj, List.getElem?_eq_getElem (by omega)] at this
    simp only [Option.map_some, Option.some.injEq] at this
    rw [this]
  refine ⟨?_, ?_, by rw [List.length_set]; exact h.cl, ?_⟩
  · rw [Array.findIdx?_eq_some_iff_getElem]
    refine ⟨by omega, by rw [hb]; simp, fun j hj => ?_⟩
    rw [hb]; simp; omega
  · apply List.ext_getElem?
    intro j
    rw [Array.getElem?_toList, Array.getElem?_modify, entL_get, List.getElem?_set, get_es h]
    by_cases hj : i = j
    · subst hj
      rw [if_pos rfl, if_pos rfl, if_pos hlt, hi]
      simp
    · rw [if_neg hj, if_neg hj]; simp
  · have : (ps.set i (p, c')).map Prod.fst = ps.map Prod.fst := by
      rw [List.map_set]
      apply List.ext_getElem?
      intro j
      rw [List.getElem?_set]
      split
      · rename_i hj
        subst hj
        rw [List.getElem?_map, hi, List.length_map, if_pos hlt]; rfl
      · rfl
    rw [this]; exact h.nd
end Go.Proofs
end

-- FTr21
section
namespace Go.Proofs
open Go Go.Rw
set_option maxRecDepth 100000
set_option linter.unusedSimpArgs false
set_option linter.unusedVariables false

def okB (x : Nd) : Bool := decide (1 ≤ x.id ∧ x.id ≤ 1099511627776) && nameOk x.nm && (pts x.text).isSome && decide (cnt x.text ≤ 2000) && (!x.dir || decide (x.text = []))
theorem okB_iff (x : Nd) : okB x = true ↔ okNd x := by
  unfold okB
  simp only [Bool.and_eq_true, decide_eq_true_eq, Bool.or_eq_true, Bool.not_eq_true']
  constructor
  · rintro ⟨⟨⟨⟨h1, h2⟩, h3⟩, h4⟩, h5⟩
    exact ⟨h1, h2, fun hd => by rcases h5 with h5 | h5; rw [hd] at h5; cases h5; exact h5, h3, h4⟩
  · rintro ⟨h1, h2, h3, h4, h5⟩
    refine ⟨⟨⟨⟨h1, h2⟩, h4⟩, h5⟩, ?_⟩
    cases hd : x.dir
    · exact .inl rfl
    · exact .inr (h3 hd)
abbrev okNCon : Con where
  ι := { x : Nd // x.nm.length ≤ 1099511627776 ∧ x.text.length ≤ 1099511627776 }
  args := fun p => [nA p.1]
  post := fun p r => r = .v (.bool (okB p.1))
  plain := true
set_option maxHeartbeats 1000000 in
theorem okn_good : Rw.Good Tryd.prog 18 okNCon := by
  have hΓ : GoodEnv Tryd.prog [(26, countCon), (10, nameCon)] := (goodEnv_cons count_good (goodEnv_cons name_good goodEnv_nil))
  refine good_fn (nn := 42) hΓ Tryd.func18 (by kernel_rfl) rfl (show Tryd.f18.results.toList = [.tmp 2] from rfl) (fun _ => rfl) (fun x => by simp [AV.erL, nA_er]) ?_
  rintro ⟨⟨id, par, nm, dir, tx⟩, hn, ht⟩
  simp only at hn ht
  simp only [goRules, coreRules, tiRules, unRules, AS_of_eq, ← decide_not, seval, nA]
  refine call_count (by simp [get_cons]) ht ?_
  rw [countR_cnt]
  have e0 : okB ⟨id, par, nm, dir, tx⟩ = (decide (1 ≤ id ∧ id ≤ 1099511627776) && nameOk nm && (pts tx).isSome && decide (cnt tx ≤ 2000) && (!dir || decide (tx = []))) := rfl
  by_cases h1 : id ≥ 1
  case neg =>
    simp only [goRules, coreRules, tiRules, unRules, AS_of_eq, ← decide_not, seval, h1]
    rw [e0, decide_eq_false (by omega)]; simp
  by_cases h2 : id ≤ 1099511627776
  case neg =>
    simp only [goRules, coreRules, tiRules, unRules, AS_of_eq, ← decide_not, seval, h1, h2]
    rw [e0, decide_eq_false (by omega)]; simp
  rw [decide_eq_true (show 1 ≤ id ∧ id ≤ 1099511627776 from ⟨h1, h2⟩)] at e0
  simp only [goRules, coreRules, tiRules, unRules, AS_of_eq, ← decide_not, seval, h1, h2]
  refine call_name (by simp [get_cons]) hn ?_
  rcases Bool.eq_false_or_eq_true (nameOk nm) with h3 | h3
  case inr => simp only [goRules, coreRules, tiRules, unRules, AS_of_eq, ← decide_not, seval, h3]; rw [e0, h3]; rfl
  rw [h3] at e0
  rcases Bool.eq_false_or_eq_true (pts tx).isSome with h4 | h4
  case inr =>
    have h4f : ((pts tx).isSome = true) = False := by rw [h4]; simp
    simp only [goRules, coreRules, tiRules, unRules, AS_of_eq, ← decide_not, seval, h3, h4f]; rw [e0, h4]; rfl
  have h4t : ((pts tx).isSome = true) = True := eq_true h4
  rw [h4] at e0
  by_cases h5 : (cnt tx : Int) ≤ 2000
  case neg =>
    simp only [goRules, coreRules, tiRules, unRules, AS_of_eq, ← decide_not, seval, h3, h4t, h5]; rw [e0, decide_eq_false (by omega)]; rfl
  rw [decide_eq_true (show cnt tx ≤ 2000 by omega)] at e0
  cases dir
  · simp only [goRules, coreRules, tiRules, unRules, AS_of_eq, ← decide_not, seval, h3, h4t, h5]; rw [e0]; rfl
  · simp only [goRules, coreRules, tiRules, unRules, AS_of_eq, ← decide_not, seval, h3, h4t, h5]; rw [e0]; rfl
end Go.Proofs
end

-- FTr14
section
namespace Go.Proofs
open Go Go.Rw
set_option maxRecDepth 100000
set_option linter.unusedSimpArgs false
set_option linter.unusedVariables false

/-- A map of numbers, in memory. -/
structure CI where
  es : Array MapEntry
  cl : Nat
  ps : List (Int × Value)
  h : MapG es cl ps
  v : ∀ p ∈ ps, ∃ c, p.2 = .int .i64 c
  b : ∀ p ∈ ps, -9223372036854775808 ≤ p.1 ∧ p.1 ≤ 9223372036854775807
end Go.Proofs
end

-- FTr15
section
namespace Go.Proofs
open Go Go.Rw
set_option maxRecDepth 100000
set_option linter.unusedSimpArgs false
set_option linter.unusedVariables false

def ts0 : TS := ⟨#[], 0, [], tm_empty⟩
section
variable {Γ : Env} {n : Nat} {t : Nat → AV} {hd : Nat → Nat → AV} {d : Option Nat} {K : AS → Prop}
variable {nh nl : Nat} {h : Nat → Option AO} {fm : Nat → Nat} {lv : Nat → Option (Nat × Nat)} {mu : Bool}
theorem call_tnew (hC : Γ.get 5 = none)
    (hk : cont ⟨n, t, hd, ⟨nh + 2, upd (upd h nh (some (.cells [.mp (nh + 1)]))) (nh + 1) (some (.map #[] 0)), nl, fm, lv, mu⟩⟩ d (.ptr nh 0) K) : vcCall Tryd.prog Γ false ⟨n, t, hd, ⟨nh, h, nl, fm, lv, mu⟩⟩ 5 [] d K := by
  refine vc_obj tnew_good hC () [] ⟨by simp, by simp [dnL], by simp [dnOs], rfl, rfl⟩ ?_
  rintro objs lvs r ⟨rfl, rfl, rfl⟩ hl
  have e3 : [AO.cells [.mp 1], .map #[] 0].length - ([] : List Nat).length = 2 := rfl
  rw [e3]
  simp only [embsO_cons, embsO_nil, embO_cells, embO_map, embL_cons, embL_nil, emb_mp, obC_succ, obC_zero, obC_nil, callH_cons, callH_new, callH_nil, callF_nil, callV_nil, emb_ptr, List.length_nil, Nat.add_zero]
  exact hk
end
abbrev trueCon' : Con where
  ι := Unit
  args := fun _ => []
  post := fun _ r => r = .v (.bool true)
end Go.Proofs
end

-- FTr22
section
namespace Go.Proofs
open Go Go.Rw
set_option maxRecDepth 100000
set_option linter.unusedSimpArgs false
set_option linter.unusedVariables false

theorem set_end {x : Nd} : ∀ {m : List Nd}, (∀ y ∈ m, y.id < x.id) → setT x m = m ++ [x] := fun {m} h => by
  have h1 : hasN m x.id = false := by
    rcases Bool.eq_false_or_eq_true (hasN m x.id) with hh | hh
    · obtain ⟨h2, h3⟩ := gN_mem hh
      have := h _ h2
      omega
    · exact hh
  have h2 : ∀ {m : List Nd}, (∀ y ∈ m, y.id < x.id) → atN x.id m = m.length := fun {m} => by
    induction m with
    | nil => intro _; rfl
    | cons y m ih =>
      intro h
      rw [atN, if_pos (h y (List.mem_cons_self ..)), ih fun z hz => h z (List.mem_cons_of_mem _ hz)]; rfl
  unfold setT
  rw [h1, if_neg (by decide), h2 h, List.take_length, List.drop_length]
abbrev Ld1 (l : List Nd) := { p : Nat × TS × Int // p.1 ≤ l.length ∧ p.2.1.l = l.take p.1 ∧ (∀ x ∈ l.take p.1, okNd x ∧ x.id ≤ p.2.2) ∧ (0 ≤ p.2.2 ∧ p.2.2 ≤ 1099511627776) ∧ (p.2.2 = 0 ∨ ∃ x ∈ l.take p.1, x.id = p.2.2) }
def kOf (x : Nd) : Ky := (x.par, x.nm)
structure NS where
  es : Array MapEntry
  cl : Nat
  ps : List (Ky × Int)
  h : NM es cl ps
/-- The names of the first i nodes. -/
def NI (l : List Nd) (i : Nat) (ps : List (Ky × Int)) : Prop := (∀ k, k ∈ ps.map Prod.fst ↔ k ∈ (l.take i).map kOf) ∧ ((ps.length = i ∧ ((l.take i).map kOf).Nodup) ∨ (ps.length < i ∧ ¬ ((l.take i).map kOf).Nodup))
def goodP (l : List Nd) (x : Nd) : Prop := (x.par = 0 ∨ (gN l x.par).dir = true) ∧ rootB l l.length x.id = true
abbrev Ld2 (l : List Nd) := { p : Nat × NS // p.1 ≤ l.length ∧ (∀ x ∈ l.take p.1, goodP l x) ∧ NI l p.1 p.2.ps }
abbrev tloadCon : ConO where
  ι := { l : List Nd // l.length ≤ 1000000 ∧ ∀ x ∈ l, x.nm.length ≤ 1099511627776 ∧ x.text.length ≤ 1099511627776 }
  objs := fun _ => []
  args := fun p => [.sl 0 5 (nodes p.1)]
  post := fun p objs lvs r => lvs = [] ∧ ((sndN p.1 ∧ ∃ s : TS, s.l = p.1 ∧ objs = tsO (some s) ∧ r = .tup [.ptr 0 0, .v (.int .i64 0)]) ∨ (¬ sndN p.1 ∧ objs = [] ∧ r = .tup [.v (.pointer none), .v (.int .i64 1)]))
theorem steady_nm {σ : AS} {ob : Nat} {m : NS} (hob : σ.m.h ob = some (.map m.es m.cl)) {p : Ky} {es' : Array MapEntry} {cl' : Nat} (h' : NM es' cl' (layK p m.ps)) :
    Steady Tryd.prog σ ob (.map es' cl') 53 (.agg [.v (.int .i64 0), .v (.int .i64 p.1), .v (sv p.2), .v (.bool false), .v (sv [])]) := by
  intro r hr
  have hk : keyT Tryd.prog 53 = none := by kernel_rfl
  have tv : toV (.agg [.v (.int .i64 0), .v (.int .i64 p.1), .v (sv p.2), .v (.bool false), .v (sv [])]) = some (kV p) := rfl
  have e : (σ.m.setObj ob (.map es' cl')).h ob = some (.map es' cl') := upd_same ..
  unfold readL at hr ⊢
  simp only [hk, tv, lookK, hob, e] at hr ⊢
  rw [look_nm m.h] at hr
  rw [look_nm h', cnt_lay]
  exact hr
theorem lay_keys (p : Ky) (ps : List (Ky × Int)) : (layK p ps).map Prod.fst = if p ∈ ps.map Prod.fst then ps.map Prod.fst else ps.map Prod.fst ++ [p] := by
  unfold layK
  cases hf : fndP p ps 0 with
  | none => rw [if_neg (fnd_none hf).1]; simp
  | some q =>
    obtain ⟨i, v⟩ := q
    obtain ⟨j, c, _, h2, _, _⟩ := fnd_some hf
    rw [if_pos (List.mem_map.2 ⟨_, List.mem_of_getElem? h2, rfl⟩)]; rfl
theorem set_keys {p : Ky} {ps : List (Ky × Int)} {i : Nat} {c c' : Int} (hi : ps[i]? = some (p, c)) : (ps.set i (p, c')).map Prod.fst = ps.map Prod.fst := by
  have hlt := (List.getElem?_eq_some_iff.1 hi).1
  rw [List.map_set]
  apply List.ext_getElem?
  intro j
  rw [List.getElem?_set]
  split
  · rename_i hj
    subst hj
    rw [List.getElem?_map, hi, List.length_map, if_pos hlt]; rfl
  · rfl
theorem ni_step {l : List Nd} {i : Nat} {ps : List (Ky × Int)} {x : Nd} (h : NI l i ps) (hx : l.take (i + 1) = l.take i ++ [x]) {ix : Nat} {c c' : Int} (hg : (layK (kOf x) ps)[ix]? = some (kOf x, c)) : NI l (i + 1) ((layK (kOf x) ps).set ix (kOf x, c')) := by
  obtain ⟨h1, h2⟩ := h
  have e := lay_keys (kOf x) ps
  have e2 := set_keys (c' := c') hg
  have hlen : ((layK (kOf x) ps).set ix (kOf x, c')).length = (layK (kOf x) ps).length := List.length_set
  have hlk : (layK (kOf x) ps).length = ((layK (kOf x) ps).map Prod.fst).length := by rw [List.length_map]
  unfold NI
  rw [e2, hlen, hlk, e, hx, List.map_append]
  by_cases hm : kOf x ∈ ps.map Prod.fst
  · rw [if_pos hm]
    refine ⟨fun k => ?_, .inr ⟨by rw [List.length_map]; rcases h2 with h2 | h2 <;> omega, fun hn => ?_⟩⟩
    · rw [h1, List.mem_append]
      simp only [List.map_cons, List.map_nil, List.mem_singleton]
      constructor
      · exact .inl
      · rintro (h | rfl)
        · exact h
        · exact (h1 _).1 hm
    · rw [List.nodup_append] at hn
      exact hn.2.2 _ ((h1 _).1 hm) _ (by simp) rfl
  · rw [if_neg hm]
    refine ⟨fun k => ?_, ?_⟩
    · rw [List.mem_append, h1, List.mem_append]; simp
    · rw [List.length_append, List.length_map]
      rcases h2 with ⟨h3, h4⟩ | ⟨h3, h4⟩
      · refine .inl ⟨by simp; omega, ?_⟩
        rw [List.nodup_append]
        refine ⟨h4, by simp, fun a ha b hb => ?_⟩
        simp only [List.map_cons, List.map_nil, List.mem_singleton] at hb
        subst hb
        rintro rfl
        exact hm ((h1 _).2 ha)
      · refine .inr ⟨by simp; omega, fun hn => h4 ?_⟩
        rw [List.nodup_append] at hn
        exact hn.1
theorem still_troot {m : AM} {s : TS} (hl : s.l.length ≤ 1000000) {id : Int} {o ob : Nat} (hT : TreeAt m.h o ob s) : Still Tryd.prog m 19 [.ptr o 0, .v (.int .i64 id)] (.v (.bool (rootB s.l s.l.length id))) := by
  obtain ⟨h1, h2, h3⟩ := hT
  refine still_obj troot_good ⟨(s, id), hl⟩ [o, ob] (by simp [h3]) (by simp [dnL, dn]) ?_ rfl ?_ ?_ ?_
  · simp only [tsO, dnOs_cons, dnOs_nil, h1, h2, dnOo_cells, dnOo_map, dnL_cons, dnL_nil, dn_mp]
    simp
  · simp [tagsOs_cons, tagsOs_nil, h1, h2, tagsO1, AO.tags, AV.tagsL, AV.tags]
  · intro nh nl j o' x y ho hx hy
    match j, ho, hx with
    | 0, ho, hx => cases ho; simp [tsO] at hx; subst hx; rw [h1] at hy; cases hy; rfl
    | 1, ho, hx => cases ho; simp [tsO] at hx; subst hx; rw [h2] at hy; cases hy; rfl
    | j + 2, ho, hx => cases ho
  · rintro objs lvs r ⟨h4, h5, h6⟩
    exact ⟨h4, h5, h6, rfl⟩
theorem vq_root {Γ : Env} {n : Nat} {t : Nat → AV} {hd : Nat → Nat → AV} {d : Option Nat} {K : AS → Prop} {nh nl : Nat} {h : Nat → Option AO} {fm : Nat → Nat} {lv : Nat → Option (Nat × Nat)} {mu : Bool} (hC : Γ.get 19 = none) {s : TS} (hl : s.l.length ≤ 1000000) {id : Int} {o ob : Nat} (hT : TreeAt h o ob s)
    (hk : cont ⟨n, t, hd, ⟨nh, h, nl, fm, lv, mu⟩⟩ d (.v (.bool (rootB s.l s.l.length id))) K) : callQ.callQ2 Tryd.prog Γ d K ⟨n, t, hd, ⟨nh, h, nl, fm, lv, mu⟩⟩ (Γ.get 19) 19 [.ptr o 0, .v (.int .i64 id)] := by
  rw [hC]
  exact ⟨_, still_troot hl hT, hk⟩
theorem snd_keys {l : List Nd} (S : sndN l) : (l.map kOf).Nodup := by
  have h := S.srt
  unfold srtN at h
  rw [List.pairwise_map] at h
  rw [List.nodup_iff_pairwise_ne, List.pairwise_map, List.pairwise_iff_getElem]
  intro i j hi hj hij he
  have h1 := List.pairwise_iff_getElem.1 h i j hi hj hij
  simp only [kOf, Prod.mk.injEq] at he
  have := S.sib _ (List.getElem_mem hi) _ (List.getElem_mem hj) he.1 he.2
  omega
theorem root_up {l : List Nd} : ∀ (n : Nat) (i : Int), rootB l n i = true → ∃ k, upN l k i = 0
  | 0, i, h => ⟨0, of_decide_eq_true h⟩
  | n + 1, i, h => by
    rw [rootB] at h
    split at h
    · exact ⟨0, by assumption⟩
    · obtain ⟨k, hk⟩ := root_up n _ h
      exact ⟨k + 1, hk⟩
theorem tot_le {l : List Nd} (h : ∀ x ∈ l, cnt x.text ≤ 2000) : totN l ≤ 2000 * l.length := by
  induction l with
  | nil => simp [totN]
  | cons x l ih =>
    have h1 := h x (List.mem_cons_self ..)
    have h2 := ih fun y hy => h y (List.mem_cons_of_mem _ hy)
    simp only [totN, List.length_cons]; omega
theorem load_snd {l : List Nd} (hs : srtN l) (hl : l.length ≤ 100) (hn : ∀ x ∈ l, okNd x) (ht : totN l ≤ 10000) (hk : (l.map kOf).Nodup) (hg : ∀ x ∈ l, goodP l x) : sndN l := by
  refine ⟨hs, hl, hn, ht, fun x hx y hy h1 h2 => ?_, fun x hx => ?_, fun x hx => root_up _ _ (hg x hx).2⟩
  · obtain ⟨i, hi, rfl⟩ := List.getElem_of_mem hx
    obtain ⟨j, hj, rfl⟩ := List.getElem_of_mem hy
    have he : kOf l[i] = kOf l[j] := by simp only [kOf, h1, h2]
    rw [List.nodup_iff_pairwise_ne, List.pairwise_map, List.pairwise_iff_getElem] at hk
    rcases Nat.lt_trichotomy i j with h3 | h3 | h3
    · exact absurd he (hk i j hi hj h3)
    · subst h3; rfl
    · exact absurd he.symm (hk j i hj hi h3)
  · rcases (hg x hx).1 with h3 | h3
    · exact .inl h3
    · refine .inr ⟨?_, h3⟩
      rcases Bool.eq_false_or_eq_true (hasN l x.par) with h4 | h4
      · exact h4
      · rw [gN_at] at h3
        rw [hasN_at] at h4
        cases h5 : atI x.par l with
        | none => rw [h5] at h3; cases h3
        | some y => rw [h5] at h4; simp at h4
set_option maxHeartbeats 4000000 in
theorem tload_good : GoodO Tryd.prog 9 tloadCon := by
  have hΓ : GoodEnv Tryd.prog [(18, okNCon)] := (goodEnv_cons okn_good goodEnv_nil)
  refine goodO_fna (nn := 92) Tryd.func9 (by kernel_rfl) rfl (show Tryd.f9.results.toList = [.tmp 2, .tmp 3] from rfl) (fun _ => rfl) ?_
  rintro ⟨l, hl, ht⟩
  refine vcM_ok hΓ (Ws := []) _ ?_
  simp only [goRules, coreRules, tiRules, unRules, AS_of_eq, ← decide_not, seval, mapRules, objRules, tsRules]
  refine call_tnew (by simp [get_cons, get_nil]) ?_
  simp only [goRules, coreRules, tiRules, unRules, AS_of_eq, ← decide_not, seval, mapRules, objRules, tsRules, nodes_len]
  (repeat (with_reducible refine And.intro ?_ ?_; focus (first | omega | exact mixed1 | kernel_rfl)))
  obtain ⟨St, hSt⟩ : ∃ St : Ld1 l → AS, ∀ p, St p = AS.ofH 92 [(0, .sl 0 5 (nodes l)), (4, .ptr 0 0), (5, .v (.int .i64 p.1.2.2)), (12, .sl 0 5 (nodes l)), (13, .v (.int .i64 l.length)), (14, .v (.int .i64 p.1.1))] [] (tsO (some p.1.2.1)) [] := ⟨_, fun _ => rfl⟩
  refine vcM_lp ?_
  refine vc_loopM [] hΓ St (fun p => l.length - p.1.1) ⟨(0, ⟨#[], 0, [], tm_empty⟩, 0), by simp only; omega, by simp, by simp, by simp only; omega, .inl rfl⟩ (by rw [hSt]; refine weakH_go [0, 1] [] ?_; simp only [goRules, coreRules, tiRules, unRules, AS_of_eq, ← decide_not, seval, mapRules, objRules, tsRules] <;> ((repeat' apply And.intro) <;> first | rfl | omega | trivial)) ?_
  rintro ⟨⟨i, s, last⟩, hi, hs, hok, hlast, hex⟩
  simp only at hi hs hok hlast hex
  rw [hSt]
  simp only
  simp only [goRules, coreRules, tiRules, unRules, AS_of_eq, ← decide_not, seval, mapRules, objRules, tsRules, nodes_len]
  (with_reducible first | refine branchP_dec (fun h => ?_) (fun h => ?_) | refine guardB_dec (fun h => ?_) (fun h => ?_))
  · have hlt : i < l.length := by omega
    have e1 := nodes_getD l hlt
    have hx := ht l[i] (List.getElem_mem hlt)
    have hmem := List.getElem_mem hlt
    have htk := List.take_succ_eq_append_getElem hlt
    have hsrt : sndN l → ∀ y ∈ l.take i, y.id < l[i].id := fun S y hy => by
      obtain ⟨j, hj, rfl⟩ := List.getElem_of_mem hy
      simp only [List.length_take] at hj
      have := S.srt
      unfold srtN at this
      rw [List.pairwise_map] at this
      rw [List.getElem_take]
      exact List.pairwise_iff_getElem.1 this j i (by omega) hlt (by omega)
    generalize l[i] = x at *
    obtain ⟨id, par, nm, dir, tx⟩ := x
    simp only at hx hsrt
    simp only [goRules, coreRules, tiRules, unRules, AS_of_eq, ← decide_not, seval, mapRules, objRules, tsRules, h, e1, nA, nodes_len]
    (repeat (with_reducible refine And.intro ?_ ?_; focus (first | omega | exact mixed1 | kernel_rfl)))
    refine vcCall_plain (C := okNCon) (i := ⟨⟨id, par, nm, dir, tx⟩, hx⟩) (by simp [get_cons]) rfl rfl rfl (by simp [AV.erL, AV.er, nA]) (fun _ h => h) rfl ?_
    have fin : ¬ sndN l → tloadCon.post ⟨l, hl, ht⟩ [] [] (.tup [.v (.pointer none), .v (.int .i64 1)]) := fun hn => ⟨rfl, .inr ⟨hn, rfl, rfl⟩⟩
    rcases Bool.eq_false_or_eq_true (okB ⟨id, par, nm, dir, tx⟩) with ho | ho
    case inr =>
      simp only [goRules, coreRules, tiRules, unRules, AS_of_eq, ← decide_not, seval, mapRules, objRules, tsRules, ho]
      (repeat (with_reducible refine And.intro ?_ ?_; focus (first | omega | exact mixed1 | kernel_rfl)))
      refine retG_go [] [] [] [] (.tup [.v (.pointer none), .v (.int .i64 1)]) (fin fun S => by
        have := (okB_iff _).2 ⟨(S.node _ hmem).id, (S.node _ hmem).nm, (S.node _ hmem).dir, (S.node _ hmem).valid, (S.node _ hmem).cnt⟩
        rw [ho] at this; cases this) ?_
      simp only [goRules, coreRules, tiRules, unRules, AS_of_eq, ← decide_not, seval, mapRules, objRules, tsRules] <;> ((repeat' apply And.intro) <;> first | rfl | omega | trivial)
    have hnd := (okB_iff _).1 ho
    have hid := hnd.id
    simp only at hid
    by_cases hle : id ≤ last
    · simp only [goRules, coreRules, tiRules, unRules, AS_of_eq, ← decide_not, seval, mapRules, objRules, tsRules, ho, hle]
      (repeat (with_reducible refine And.intro ?_ ?_; focus (first | omega | exact mixed1 | kernel_rfl)))
      refine retG_go [] [] [] [] (.tup [.v (.pointer none), .v (.int .i64 1)]) (fin fun S => by
        rcases hex with hex | ⟨y, hy, hye⟩
        · omega
        · have := hsrt S y hy; omega) ?_
      simp only [goRules, coreRules, tiRules, unRules, AS_of_eq, ← decide_not, seval, mapRules, objRules, tsRules] <;> ((repeat' apply And.intro) <;> first | rfl | omega | trivial)
    obtain ⟨es', cl', p1, p2⟩ := put_tm s.h ⟨id, par, nm, dir, tx⟩
    simp only [nV] at p1
    rw [hs, set_end (fun y hy => by have := (hok y hy).2; simp only; omega), ← htk] at p2
    simp only [goRules, coreRules, tiRules, unRules, AS_of_eq, ← decide_not, seval, mapRules, objRules, tsRules, ho, hle, p1, wrap_i64 (n := (i : Int) + 1) (by omega) (by omega)]
    (repeat (with_reducible refine And.intro ?_ ?_; focus (first | omega | exact mixed1 | kernel_rfl)))
    refine weak_again ⟨(i + 1, ⟨es', cl', l.take (i + 1), p2⟩, id), by simp only; omega, rfl, ?_, by simp only; omega, .inr ⟨⟨id, par, nm, dir, tx⟩, by simp only; rw [htk]; simp, rfl⟩⟩ (by simp only; omega) ?_
    · intro y hy
      simp only at hy ⊢
      rw [htk, List.mem_append, List.mem_singleton] at hy
      rcases hy with hy | rfl
      · exact ⟨(hok y hy).1, by have := (hok y hy).2; omega⟩
      · exact ⟨hnd, by simp only; omega⟩
    · rw [hSt]; refine weakH_go [0, 1] [] ?_
      simp only [goRules, coreRules, tiRules, unRules, AS_of_eq, ← decide_not, seval, mapRules, objRules, tsRules] <;> ((repeat' apply And.intro) <;> first | rfl | omega | trivial)
  · have hi2 : i = l.length := by omega
    subst hi2
    rw [List.take_length] at hs hok
    have hok2 : ∀ x ∈ l, okNd x := fun x hx => (hok x hx).1
    have e1 := look_tm s.h
    have e2 := size_tm s.h
    have hsr := s.h.2
    rw [hs] at hsr e1 e2
    simp only [goRules, coreRules, tiRules, unRules, AS_of_eq, ← decide_not, seval, mapRules, objRules, tsRules, h, nodes_len]
    (repeat (with_reducible refine And.intro ?_ ?_; focus (first | omega | exact mixed1 | kernel_rfl)))
    obtain ⟨St, hSt⟩ : ∃ St : Ld2 l → AS, ∀ p, St p = AS.ofH 92 [(0, .sl 0 5 (nodes l)), (4, .ptr 0 0), (8, .mp 2), (38, .sl 0 5 (nodes l)), (39, .v (.int .i64 l.length)), (40, .v (.int .i64 p.1.1))] [] (tsO (some s) ++ [.map p.1.2.es p.1.2.cl]) [] := ⟨_, fun _ => rfl⟩
    refine vcM_lp ?_
    refine vc_loopM [] hΓ St (fun p => l.length - p.1.1) ⟨(0, ⟨#[], 0, [], ⟨rfl, rfl, by simp⟩⟩), by simp only; omega, by simp, by simp [NI]⟩ (by rw [hSt]; refine weakH_go [0, 1, 2] [] ?_; simp only [goRules, coreRules, tiRules, unRules, AS_of_eq, ← decide_not, seval, mapRules, objRules, tsRules, nodes_len, List.cons_append, List.nil_append] <;> ((repeat' apply And.intro) <;> first | rfl | omega | trivial)) ?_
    rintro ⟨⟨i, m⟩, hi, hg, hni⟩
    simp only at hi hg hni
    rw [hSt]
    simp only
    simp only [goRules, coreRules, tiRules, unRules, AS_of_eq, ← decide_not, seval, mapRules, objRules, tsRules, nodes_len, List.cons_append, List.nil_append]
    (with_reducible first | refine branchP_dec (fun h2 => ?_) (fun h2 => ?_) | refine guardB_dec (fun h2 => ?_) (fun h2 => ?_))
    · have hlt : i < l.length := by omega
      have e3 := nodes_getD l hlt
      have hmem := List.getElem_mem hlt
      have htk := List.take_succ_eq_append_getElem hlt
      generalize l[i] = x at *
      obtain ⟨id, par, nm, dir, tx⟩ := x
      simp only [goRules, coreRules, tiRules, unRules, AS_of_eq, ← decide_not, seval, mapRules, objRules, tsRules, h2, e3, nA, nodes_len]
      (repeat (with_reducible refine And.intro ?_ ?_; focus (first | omega | exact mixed1 | kernel_rfl)))
      have fin : ¬ sndN l → tloadCon.post ⟨l, hl, ht⟩ [] [] (.tup [.v (.pointer none), .v (.int .i64 1)]) := fun hn => ⟨rfl, .inr ⟨hn, rfl, rfl⟩⟩
      by_cases hp : par = 0
      · subst hp
        simp only [goRules, coreRules, tiRules, unRules, AS_of_eq, ← decide_not, seval, mapRules, objRules,]
        (repeat (with_reducible refine And.intro ?_ ?_; focus (first | omega | exact mixed1 | kernel_rfl)))
        refine vq_root (by simp [get_cons, get_nil]) (s := s) (o := 0) (ob := 1) (by rw [hs]; omega) (by simp [TreeAt, upd]) ?_
        rw [hs]
        rcases Bool.eq_false_or_eq_true (rootB l l.length id) with hr | hr
        case inr =>
          simp only [goRules, coreRules, tiRules, unRules, AS_of_eq, ← decide_not, seval, mapRules, objRules, hr]
          (repeat (with_reducible refine And.intro ?_ ?_; focus (first | omega | exact mixed1 | kernel_rfl)))
          refine retG_go [] [] [] [] (.tup [.v (.pointer none), .v (.int .i64 1)]) (fin fun S => by
            have := (root_iff S _).2 (rt_len S (.inr (hasN_mem hmem)))
            simp only at this
            rw [hr] at this; cases this) ?_
          simp only [goRules, coreRules, tiRules, unRules, AS_of_eq, ← decide_not, seval, mapRules, objRules, tsRules] <;> ((repeat' apply And.intro) <;> first | rfl | omega | trivial)
        have q1 : lookS Tryd.prog 53 (.agg #[.int .i64 0, .int .i64 0, sv nm, .bool false, sv []]) m.es false = some (.v (.int .i64 (cntK (0, nm) m.ps))) := look_nm m.h (0, nm)
        obtain ⟨es', cl', ix, n1, n2, n3⟩ := ent_nm m.h (0, nm)
        simp only [goRules, coreRules, tiRules, unRules, AS_of_eq, ← decide_not, seval, mapRules, objRules, hr, q1]
        (repeat (with_reducible refine And.intro ?_ ?_; focus (first | omega | exact mixed1 | kernel_rfl)))
        refine ⟨m.es, m.cl, .map es' cl', _, rfl, n1, steady_nm (m := m) (p := (0, nm)) rfl n2, ?_⟩
        simp only [goRules, coreRules, tiRules, unRules, AS_of_eq, ← decide_not, seval, mapRules, objRules, hr]
        (repeat (with_reducible refine And.intro ?_ ?_; focus (first | omega | exact mixed1 | kernel_rfl)))
        refine ⟨es', cl', ix, rfl, (put_nm n2 n3 (IntKind.wrap .i64 (cntK (0, nm) m.ps + 1))).1, ?_⟩
        simp only [goRules, coreRules, tiRules, unRules, AS_of_eq, ← decide_not, seval, mapRules, objRules, hr, wrap_i64 (n := (i : Int) + 1) (by omega) (by omega)]
        (repeat (with_reducible refine And.intro ?_ ?_; focus (first | omega | exact mixed1 | kernel_rfl)))
        refine weak_again ⟨(i + 1, ⟨_, _, _, (put_nm n2 n3 (IntKind.wrap .i64 (cntK (0, nm) m.ps + 1))).2⟩), by simp only; omega, ?_, ni_step hni htk (x := ⟨id, 0, nm, dir, tx⟩) n3⟩ (by simp only; omega) ?_
        · intro y hy
          simp only at hy
          rw [htk, List.mem_append, List.mem_singleton] at hy
          rcases hy with hy | rfl
          · exact hg y hy
          · exact ⟨.inl rfl, hr⟩
        · rw [hSt]; refine weakH_go [0, 1, 2] [] ?_
          simp only [goRules, coreRules, tiRules, unRules, AS_of_eq, ← decide_not, seval, mapRules, objRules, tsRules, nodes_len, List.cons_append, List.nil_append] <;> ((repeat' apply And.intro) <;> first | rfl | omega | trivial)
      · rcases Bool.eq_false_or_eq_true (gN l par).dir with hdd | hdd
        case inr =>
          simp only [goRules, coreRules, tiRules, unRules, AS_of_eq, ← decide_not, seval, mapRules, objRules, hp, e1, nA, hdd, fieldN_dir]
          (repeat (with_reducible refine And.intro ?_ ?_; focus (first | omega | exact mixed1 | kernel_rfl)))
          refine retG_go [] [] [] [] (.tup [.v (.pointer none), .v (.int .i64 1)]) (fin fun S => by
            rcases S.par _ hmem with h5 | h5
            · exact hp h5
            · simp only at h5; rw [hdd] at h5; cases h5.2) ?_
          simp only [goRules, coreRules, tiRules, unRules, AS_of_eq, ← decide_not, seval, mapRules, objRules, tsRules] <;> ((repeat' apply And.intro) <;> first | rfl | omega | trivial)
        simp only [goRules, coreRules, tiRules, unRules, AS_of_eq, ← decide_not, seval, mapRules, objRules, hp, e1, nA, hdd, fieldN_dir]
        (repeat (with_reducible refine And.intro ?_ ?_; focus (first | omega | exact mixed1 | kernel_rfl)))
        refine vq_root (by simp [get_cons, get_nil]) (s := s) (o := 0) (ob := 1) (by rw [hs]; omega) (by simp [TreeAt, upd]) ?_
        rw [hs]
        rcases Bool.eq_false_or_eq_true (rootB l l.length id) with hr | hr
        case inr =>
          simp only [goRules, coreRules, tiRules, unRules, AS_of_eq, ← decide_not, seval, mapRules, objRules, hr]
          (repeat (with_reducible refine And.intro ?_ ?_; focus (first | omega | exact mixed1 | kernel_rfl)))
          refine retG_go [] [] [] [] (.tup [.v (.pointer none), .v (.int .i64 1)]) (fin fun S => by
            have := (root_iff S _).2 (rt_len S (.inr (hasN_mem hmem)))
            simp only at this
            rw [hr] at this; cases this) ?_
          simp only [goRules, coreRules, tiRules, unRules, AS_of_eq, ← decide_not, seval, mapRules, objRules, tsRules] <;> ((repeat' apply And.intro) <;> first | rfl | omega | trivial)
        have q1 : lookS Tryd.prog 53 (.agg #[.int .i64 0, .int .i64 par, sv nm, .bool false, sv []]) m.es false = some (.v (.int .i64 (cntK (par, nm) m.ps))) := look_nm m.h (par, nm)
        obtain ⟨es', cl', ix, n1, n2, n3⟩ := ent_nm m.h (par, nm)
        simp only [goRules, coreRules, tiRules, unRules, AS_of_eq, ← decide_not, seval, mapRules, objRules, hr, q1]
        (repeat (with_reducible refine And.intro ?_ ?_; focus (first | omega | exact mixed1 | kernel_rfl)))
        refine ⟨m.es, m.cl, .map es' cl', _, rfl, n1, steady_nm (m := m) (p := (par, nm)) rfl n2, ?_⟩
        simp only [goRules, coreRules, tiRules, unRules, AS_of_eq, ← decide_not, seval, mapRules, objRules, hr]
        (repeat (with_reducible refine And.intro ?_ ?_; focus (first | omega | exact mixed1 | kernel_rfl)))
        refine ⟨es', cl', ix, rfl, (put_nm n2 n3 (IntKind.wrap .i64 (cntK (par, nm) m.ps + 1))).1, ?_⟩
        simp only [goRules, coreRules, tiRules, unRules, AS_of_eq, ← decide_not, seval, mapRules, objRules, hr, wrap_i64 (n := (i : Int) + 1) (by omega) (by omega)]
        (repeat (with_reducible refine And.intro ?_ ?_; focus (first | omega | exact mixed1 | kernel_rfl)))
        refine weak_again ⟨(i + 1, ⟨_, _, _, (put_nm n2 n3 (IntKind.wrap .i64 (cntK (par, nm) m.ps + 1))).2⟩), by simp only; omega, ?_, ni_step hni htk (x := ⟨id, par, nm, dir, tx⟩) n3⟩ (by simp only; omega) ?_
        · intro y hy
          simp only at hy
          rw [htk, List.mem_append, List.mem_singleton] at hy
          rcases hy with hy | rfl
          · exact hg y hy
          · exact ⟨.inr hdd, hr⟩
        · rw [hSt]; refine weakH_go [0, 1, 2] [] ?_
          simp only [goRules, coreRules, tiRules, unRules, AS_of_eq, ← decide_not, seval, mapRules, objRules, tsRules, nodes_len, List.cons_append, List.nil_append] <;> ((repeat' apply And.intro) <;> first | rfl | omega | trivial)
    · have hi2 : i = l.length := by omega
      subst hi2
      have fin : ¬ sndN l → tloadCon.post ⟨l, hl, ht⟩ [] [] (.tup [.v (.pointer none), .v (.int .i64 1)]) := fun hn => ⟨rfl, .inr ⟨hn, rfl, rfl⟩⟩
      have hsz := size_nm m.h
      unfold NI at hni
      rw [List.take_length] at hg hni
      simp only [goRules, coreRules, tiRules, unRules, AS_of_eq, ← decide_not, seval, mapRules, objRules, tsRules, h2, nodes_len, hsz]
      (repeat (with_reducible refine And.intro ?_ ?_; focus (first | omega | exact mixed1 | kernel_rfl)))
      by_cases c1 : (m.ps.length : Int) < l.length
      · simp only [goRules, coreRules, tiRules, unRules, AS_of_eq, ← decide_not, seval, mapRules, objRules, c1]
        (repeat (with_reducible refine And.intro ?_ ?_; focus (first | omega | exact mixed1 | kernel_rfl)))
        refine retG_go [] [] [] [] (.tup [.v (.pointer none), .v (.int .i64 1)]) (fin fun S => by
          rcases hni.2 with h5 | h5
          · omega
          · exact h5.2 (snd_keys S)) ?_
        simp only [goRules, coreRules, tiRules, unRules, AS_of_eq, ← decide_not, seval, mapRules, objRules, tsRules] <;> ((repeat' apply And.intro) <;> first | rfl | omega | trivial)
      by_cases c2 : (l.length : Int) > 100
      · simp only [goRules, coreRules, tiRules, unRules, AS_of_eq, ← decide_not, seval, mapRules, objRules, c1, c2, nodes_len]
        (repeat (with_reducible refine And.intro ?_ ?_; focus (first | omega | exact mixed1 | kernel_rfl)))
        refine retG_go [] [] [] [] (.tup [.v (.pointer none), .v (.int .i64 1)]) (fin fun S => by have := S.len; omega) ?_
        simp only [goRules, coreRules, tiRules, unRules, AS_of_eq, ← decide_not, seval, mapRules, objRules, tsRules] <;> ((repeat' apply And.intro) <;> first | rfl | omega | trivial)
      simp only [goRules, coreRules, tiRules, unRules, AS_of_eq, ← decide_not, seval, mapRules, objRules, c1, c2, nodes_len]
      (repeat (with_reducible refine And.intro ?_ ?_; focus (first | omega | exact mixed1 | kernel_rfl)))
      have htl := tot_le (l := l) fun x hx => (hok2 x hx).cnt
      refine call_tall (s := s) (o := 0) (ob := 1) (by simp [get_cons, get_nil]) (by rw [hs]; exact ⟨by omega, fun x hx => by have := (ht x hx).2; omega⟩) (by simp [TreeAt, upd]) ?_
      rw [hs]
      by_cases c3 : (totN l : Int) > 10000
      · simp only [goRules, coreRules, tiRules, unRules, AS_of_eq, ← decide_not, seval, mapRules, objRules, c3]
        (repeat (with_reducible refine And.intro ?_ ?_; focus (first | omega | exact mixed1 | kernel_rfl)))
        refine retG_go [] [] [] [] (.tup [.v (.pointer none), .v (.int .i64 1)]) (fin fun S => by have := S.tot; omega) ?_
        simp only [goRules, coreRules, tiRules, unRules, AS_of_eq, ← decide_not, seval, mapRules, objRules, tsRules] <;> ((repeat' apply And.intro) <;> first | rfl | omega | trivial)
      simp only [goRules, coreRules, tiRules, unRules, AS_of_eq, ← decide_not, seval, mapRules, objRules, c3]
      (repeat (with_reducible refine And.intro ?_ ?_; focus (first | omega | exact mixed1 | kernel_rfl)))
      have hnd : (l.map kOf).Nodup := by
        rcases hni.2 with h5 | h5
        · exact h5.2
        · omega
      have hS : sndN l := load_snd hsr (by omega) hok2 (by omega) hnd hg
      refine retG_go [0, 1] [] (tsO (some s)) [] (.tup [.ptr 0 0, .v (.int .i64 0)]) ⟨rfl, .inl ⟨hS, s, hs, rfl, rfl⟩⟩ ?_
      simp only [goRules, coreRules, tiRules, unRules, AS_of_eq, ← decide_not, seval, mapRules, objRules, tsRules] <;> ((repeat' apply And.intro) <;> first | rfl | omega | trivial)
end Go.Proofs
end

-- FUk9s
section
namespace Go.Proofs
open Go Go.Rw
set_option maxRecDepth 100000
set_option linter.unusedSimpArgs false
set_option linter.unusedVariables false

end Go.Proofs
end

-- FUk9t
section
namespace Go.Proofs
open Go Go.Rw
set_option maxRecDepth 100000
set_option linter.unusedSimpArgs false
set_option linter.unusedVariables false

end Go.Proofs
end

-- FUn7
section
namespace Go.Proofs
open Go Go.Rw
set_option maxRecDepth 100000
set_option linter.unusedSimpArgs false
set_option linter.unusedVariables false

end Go.Proofs
end

-- FUk10
section
namespace Go.Proofs
open Go Go.Rw
set_option maxRecDepth 100000
set_option linter.unusedSimpArgs false
set_option linter.unusedVariables false

end Go.Proofs
end

-- FTr16
section
namespace Go.Proofs
open Go Go.Rw
set_option maxRecDepth 100000
set_option linter.unusedSimpArgs false
set_option linter.unusedVariables false

end Go.Proofs
end

-- FTr17
section
namespace Go.Proofs
open Go Go.Rw
set_option maxRecDepth 100000
set_option linter.unusedSimpArgs false
set_option linter.unusedVariables false

end Go.Proofs
end

-- FTr18
section
namespace Go.Proofs
open Go Go.Rw
set_option maxRecDepth 100000
set_option linter.unusedSimpArgs false
set_option linter.unusedVariables false

/-- What is looked at of each node. -/
structure chkN (l : List Nd) (x : Nd) : Prop where
  id : 1 ≤ x.id ∧ x.id ≤ 1099511627776
  nm : nameOk x.nm = true
  kid : kid x.par x.nm l = x.id
  dir : x.dir = true → x.text = []
  valid : (pts x.text).isSome = true
  cnt : cnt x.text ≤ 2000
  par : x.par = 0 ∨ (ndx x.par l < l.length ∧ (l.getD (ndx x.par l) zeroN).dir = true ∧ withinB l x.par x.id = false)
end Go.Proofs
end

-- FTr23
section
namespace Go.Proofs
open Go Go.Rw
set_option maxRecDepth 100000
set_option linter.unusedSimpArgs false
set_option linter.unusedVariables false

section
variable {Γ : Env} {n : Nat} {t : Nat → AV} {hd : Nat → Nat → AV} {d : Option Nat} {K : AS → Prop}
variable {nh nl : Nat} {h : Nat → Option AO} {fm : Nat → Nat} {lv : Nat → Option (Nat × Nat)} {mu : Bool}
end
end Go.Proofs
end
