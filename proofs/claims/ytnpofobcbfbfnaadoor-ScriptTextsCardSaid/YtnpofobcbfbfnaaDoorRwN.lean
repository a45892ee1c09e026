/-
  A live slice's end cleared; a live slice cut short. Proved over any program. Code where maps may be: how it is reckoned; the rules for rewriting. Proved over any program.
-/
import Derived.Test.YtnpofobcbfbfnaaDoorRwM
set_option linter.unusedSimpArgs false
set_option linter.unusedVariables false
set_option linter.defProp false
set_option linter.unusedSectionVars false

-- RwCut
section
namespace Go.Rw
open Go Go.RowKit Go.Builtin
set_option linter.unusedSimpArgs false
set_option linter.unusedVariables false
set_option linter.unusedSectionVars false

mutual
/-- What is told of the slices of l's family is let go. -/
def AV.cut (fm : Nat → Nat) (l : Nat) : AV → AV
  | .sl l' sz ys => if fm l' = fm l then .any else .sl l' sz ys
  | .ep l' sz ys i j => if fm l' = fm l then .any else .ep l' sz ys i j
  | .agg cs => .agg (AV.cutL fm l cs)
  | .tup cs => .tup (AV.cutL fm l cs)
  | .fn f cs => .fn f (AV.cutL fm l cs)
  | .any => .any
  | .v x => .v x
  | .ptr o k => .ptr o k
  | .mp o => .mp o
def AV.cutL (fm : Nat → Nat) (l : Nat) : List AV → List AV
  | [] => []
  | a :: r => a.cut fm l :: AV.cutL fm l r
end
def AO.cut (fm : Nat → Nat) (l : Nat) : AO → AO
  | .cells cs => .cells (AV.cutL fm l cs)
  | .iter s p => .iter s p
  | .map es c => .map es c
  | .mit o i e l' => .mit o i e l'
/-- The live lineage l is i elements long from now on. -/
def AS.cut (σ : AS) (l i e : Nat) : AS := { σ with t := fun j => (σ.t j).cut σ.m.fm l, hd := fun k j => (σ.hd k j).cut σ.m.fm l, m := { σ.m with h := fun o => (σ.m.h o).map (AO.cut σ.m.fm l), lv := upd σ.m.lv l (some (i, e)) } }
def cutE [Tabs] (P : Program) (t : TypeId) (a b : AV) (d : Option Nat) (K : AS → Prop) (σ : AS) : Prop := match a, b with
  | .sl l sz xs, .v (.int _ i) => ∃ e, 0 ≤ i ∧ i ≤ xs.length ∧ 0 < xs.length ∧ slcOf P t = some (e, sz) ∧ 2 ≤ l ∧ σ.m.lv l = some (xs.length, e) ∧ σ.m.mu = true ∧ cont (σ.cut l i.toNat e) d (.sl l sz (xs.take i.toNat)) K
  | _, _ => False
/-- A live slice cut at its front. -/
def cutLoE [Tabs] (P : Program) (t : TypeId) (a b : AV) (d : Option Nat) (K : AS → Prop) (σ : AS) : Prop := match a, b with
  | .sl l sz xs, .v (.int _ i) => ∃ e, 0 ≤ i ∧ i ≤ xs.length ∧ 0 < xs.length ∧ slcOf P t = some (e, sz) ∧ 2 ≤ l ∧ σ.m.lv l = some (xs.length, e) ∧ σ.m.mu = true ∧ cont (σ.cut l (xs.length - i.toNat) e) d (.sl l sz (xs.drop i.toNat)) K
  | _, _ => False
def clearE [Tabs] (P : Program) (t : TypeId) (a b : AV) (d : Nat) (K : AS → Prop) (σ : AS) : Prop := match a, b with
  | .sl l sz xs, .v (.int _ i) => ∃ e ti zv zs, 0 ≤ i ∧ i < xs.length ∧ slcOf P t = some (e, sz) ∧ tiOf P e = some ti ∧ ti.zero = some zv ∧ cellsOf (ofVh ti.hints zv).er = some zs ∧ zs.length = sz ∧ 0 < sz ∧ 2 ≤ l ∧ σ.m.lv l = some (xs.length, e) ∧ σ.m.mu = true ∧ d < σ.n ∧
      K ((σ.put d .any).turned l xs.length (xs.take i.toNat ++ List.replicate (xs.length - i.toNat) (ofVh ti.hints zv).er))
  | _, _ => False
/-- A slice's end, cleared: the two operations. -/
def clrOf (o : Oper) (r : List Oper) : Option (TypeId × Operand × Operand × Nat) := match o, r with
  | ⟨some d, .slice t x (some lo) none none, _, _, _, none⟩, [⟨none, .call { callee := .builtin .clear, args, argTypes }, _, _, _, none⟩] => match args, argTypes with
    | ⟨[.tmp d2]⟩, ⟨[t2]⟩ => bif d2 == d && t2 == t then some (t, x, lo, d) else none
    | _, _ => none
  | _, _ => none
def vcC [Tabs] (P : Program) (Γ : Env) (k : Nat) (σ : AS) (o : Oper) (K : AS → Prop) : Prop := match k, o.op with
  | _, .slice t x none (some hi) none => cutE P t (ev σ x) (ev σ hi) o.dst K σ
  | 1, .slice t x (some lo) none none => cutLoE P t (ev σ x) (ev σ lo) o.dst K σ
  | _, _ => vcE P Γ σ o K
/-- So many operations; then a clearing. -/
def vcOpsC [Tabs] (P : Program) (Γ : Env) (ops : Array Oper) : List Nat → List Oper → (AS → Prop) → AS → Prop
  | _, [], K, σ => K σ
  | [], o :: r, K, σ => match clrOf o r with
    | some (t, x, lo, d) => clearE P t (ev σ x) (ev σ lo) d K σ
    | none => False
  | k :: m, o :: r, K, σ => guarded ops σ o (vcC P Γ k σ o (vcOpsC P Γ ops m r K)) (cont σ o.dst (.v undef) (vcOpsC P Γ ops m r K))

section
variable {P : Program} [Tabs] {Γ : Env} {w0 : World} {F0 : Nat → Nat} {Fp : Nat → Prop} {X : Nat → Nat → Value} {G : Gh} {w : World} {a : Act} {σ : AS} {d : Option Nat} {K : AS → Prop}

theorem cutL_len {fm : Nat → Nat} {l : Nat} : ∀ cs : List AV, (AV.cutL fm l cs).length = cs.length
  | [] => rfl
  | a :: r => by simp [AV.cutL, cutL_len r]
theorem cutL_getD {fm : Nat → Nat} {l : Nat} : ∀ (cs : List AV) (k : Nat), (AV.cutL fm l cs).getD k .any = (cs.getD k .any).cut fm l
  | [], k => by simp [AV.cutL, AV.cut]
  | a :: r, 0 => by simp [AV.cutL]
  | a :: r, k + 1 => by simpa [AV.cutL] using cutL_getD r k
def Gh.cut (G : Gh) (l g i e n : Nat) (A : Option Addr) (c : Nat) : Gh := { G with fr := upd G.fr g n, la := upd G.la l (A, c), lv := upd G.lv l (some (i, e)) }
mutual
theorem cut_closed {fm : Nat → Nat} {l : Nat} (h : fm 0 ≠ fm l) : ∀ a : AV, a.er = a → a.cut fm l = a
  | .any, _ => rfl
  | .v x, _ => rfl
  | .agg cs, h2 => by simp only [AV.er, AV.agg.injEq] at h2; simp only [AV.cut, cutL_closed h cs h2]
  | .tup cs, h2 => by simp only [AV.er, AV.tup.injEq] at h2; simp only [AV.cut, cutL_closed h cs h2]
  | .sl l' sz xs, h2 => by simp only [AV.er, AV.sl.injEq] at h2; simp only [AV.cut]; rw [← h2.1, if_neg h]
  | .ep .., h2 => by simp [AV.er] at h2
  | .ptr .., h2 => by simp [AV.er] at h2
  | .mp .., h2 => by simp [AV.er] at h2
  | .fn f cs, h2 => by simp only [AV.er, AV.fn.injEq, true_and] at h2; simp only [AV.cut, cutL_closed h cs h2]
theorem cutL_closed {fm : Nat → Nat} {l : Nat} (h : fm 0 ≠ fm l) : ∀ cs : List AV, AV.erL cs = cs → AV.cutL fm l cs = cs
  | [], _ => rfl
  | a :: r, h2 => by simp only [AV.erL, List.cons.injEq] at h2; simp only [AV.cutL, cut_closed h a h2.1, cutL_closed h r h2.2]
end
theorem VR.cut {l g i e n : Nat} {A : Option Addr} {c : Nat} (h0 : G.fm 0 ≠ G.fm l) (hl0 : G.fm l ≠ 0) (hlin : G.lin g = G.fm l) {x : Value} {b : AV} (hv : VR G w x b) : VR (G.cut l g i e n A c) w x (b.cut G.fm l) := by
  induction hv with
  | any x => exact .any _
  | v x => exact .v _
  | agg arr cs hs _ ih => exact .agg arr _ (hs.trans (cutL_len cs).symm) fun k hk => by rw [cutL_getD]; rw [cutL_len] at hk; exact ih k hk
  | tup arr cs hs _ ih => exact .tup arr _ (hs.trans (cutL_len cs).symm) fun k hk => by rw [cutL_getD]; rw [cutL_len] at hk; exact ih k hk
  | nil sz =>
    simp only [AV.cut]
    split
    · exact .any _
    · exact .nil sz
  | sl A' cap l' sz xs g' off us hl h1 hc hlive hA hsz h0' hcell hh ih =>
    simp only [AV.cut]
    split
    · exact .any _
    · rename_i hne
      have hll : l' ≠ l := by rintro rfl; exact hne rfl
      refine .sl A' cap l' sz xs g' off us hl h1 hc ?_ ?_ hsz h0' hcell ?_
      · intro n' e' hn
        simp only [Gh.cut] at hn ⊢
        rw [upd_other _ _ hll] at hn ⊢
        exact hlive n' e' hn
      · intro hx
        obtain ⟨h2, h3, h4⟩ := hA hx
        refine ⟨h2, h3, ?_⟩
        simp only [Gh.cut]
        rw [upd_other _ _ (by rintro rfl; rcases h3 with h3 | h3; exact hne (h3.symm.trans hlin); exact hl0 (hlin.symm.trans h3))]
        exact h4
      · intro k hk
        have := ih k hk
        rw [cut_closed h0 _ (flat_closed hsz k)] at this
        exact this
  | ep l' sz xs i' j' g' off us hl hlive hA hi hj hsz h0' hcell hh ih =>
    simp only [AV.cut]
    split
    · exact .any _
    · rename_i hne
      have hll : l' ≠ l := by rintro rfl; exact hne rfl
      refine .ep l' sz xs i' j' g' off us hl ?_ ⟨hA.1, ?_⟩ hi hj hsz h0' hcell ?_
      · intro n' e' hn
        simp only [Gh.cut] at hn ⊢
        rw [upd_other _ _ hll] at hn ⊢
        exact hlive n' e' hn
      · simp only [Gh.cut]
        rw [upd_other _ _ (by rintro rfl; rcases hA.1 with h3 | h3; exact hne (h3.symm.trans hlin); exact hl0 (hlin.symm.trans h3))]
        exact hA.2
      · intro k hk
        have := ih k hk
        rw [cut_closed h0 _ (flat_closed hsz k)] at this
        exact this
  | ptr o k ho => exact VR.ptr (G := G.cut l g i e n A c) o k ho
  | mp o ho => exact VR.mp (G := G.cut l g i e n A c) o ho
  | fn f arr cs hs _ ih => exact .fn f arr _ (hs.trans (cutL_len cs).symm) fun k hk => by rw [cutL_getD]; rw [cutL_len] at hk; exact ih k hk

/-- The world tells the state, cut. -/
theorem Rel.cut (h : Rel w0 F0 Fp X G w a σ) {l i e n m g c : Nat} {A : Option Addr} {cur : Array Value} (hlv : G.lv l = some (n, e)) (hlin : G.lin g = G.fm l) (hfp : w0.heap.size ≤ g ∨ Fp g) (hmu : σ.m.mu = true)
    (hrow : w.heap[g]? = some (.cells cur e (0, 0))) (hlo : (i = 0 ∧ c = 0) ∨ ∃ o, A = some ⟨g, o, none⟩ ∧ i ≤ c ∧ c ≤ maxLen ∧ cur.size = o + c * G.ls l ∧ m = o + i * G.ls l) : Rel w0 F0 Fp X (G.cut l g i e m A c) w a (σ.cut l i e) := by
  have hm := h.mm
  obtain ⟨h2, hll, hls, _⟩ := hm.live l n e hlv
  have hfl := hm.fm2 l h2 hll
  have h0 : G.fm 0 ≠ G.fm l := by rw [hm.fm0]; omega
  have hl0 : G.fm l ≠ 0 := by omega
  have hF0 : F0 g = 0 := by
    rcases hfp with h1 | h1
    · rcases Nat.eq_zero_or_pos (F0 g) with h3 | h3
      · exact h3
      · have := hm.f0 g h3; omega
    · exact hm.mu hmu g h1
  have hglt : g < w.heap.size := (Array.getElem?_eq_some_iff.1 hrow).1
  refine ⟨h.sz, h.df, fun j => ?_, fun k j => ?_, ?_, h.tb⟩
  · show VR _ w _ ((σ.t j).cut σ.m.fm l)
    rw [← hm.fm]; exact (h.tm j).cut h0 hl0 hlin
  · show VR _ w _ ((σ.hd k j).cut σ.m.fm l)
    rw [← hm.fm]; exact (h.hd k j).cut h0 hl0 hlin
  · refine ⟨hm.nh, hm.nl, hm.fm, ?_, hm.two, hm.fm0, hm.fml, hm.fm2, ?_, hm.inj, ?_, ?_, ?_, ?_, hm.linl, hm.linn, ?_, hm.f0, hm.mu, hm.keep, ?_, hm.size, hm.os, hm.tape, hm.output⟩
    · simp only [Gh.cut, AS.cut, hm.lv]
    · intro l1 l2 x y h3 h4 h5
      simp only [Gh.cut] at h3 h4 h5
      have key : ∀ {q z}, upd G.lv l (some (i, e)) q = some z → ∃ z', G.lv q = some z' := fun {q z} hq => by
        by_cases hql : q = l
        · subst hql; exact ⟨_, hlv⟩
        · rw [upd_other _ _ hql] at hq; exact ⟨_, hq⟩
      obtain ⟨z1, hz1⟩ := key h3
      obtain ⟨z2, hz2⟩ := key h4
      exact hm.fmi l1 l2 z1 z2 hz1 hz2 h5
    · intro o ho
      obtain ⟨h3, h4, h5, h6⟩ := hm.obl o ho
      refine ⟨h3, ?_, h5, h6⟩
      simp only [Gh.cut]
      rw [upd_other _ _ (by rintro he; rw [he] at h3; omega)]
      exact h4
    · intro o x hx
      simp only [AS.cut] at hx
      obtain ⟨y, hy, rfl⟩ := Option.map_eq_some_iff.1 hx
      obtain ⟨h3, h4⟩ := hm.obj o y hy
      refine ⟨h3, ?_⟩
      rw [← hm.fm]
      cases h4 with
      | cells cs arr e2 hh hs hc => exact .cells _ arr e2 hh (hs.trans (cutL_len cs).symm) fun k hk => by rw [cutL_getD]; rw [cutL_len] at hk; exact (hc k hk).cut h0 hl0 hlin
      | iter s p hh => exact .iter s p hh
      | map es c hh => exact .map es c hh
      | mit ob si se la ho hh => exact .mit ob si se la ho hh
    · intro l1 n1 e1 h3
      simp only [Gh.cut] at h3
      by_cases hql : l1 = l
      · subst hql
        rw [upd_same] at h3
        obtain ⟨rfl, rfl⟩ := Prod.mk.injEq .. ▸ Option.some.inj h3
        refine ⟨h2, hll, hls, ?_⟩
        rcases hlo with ⟨rfl, rfl⟩ | ⟨o, rfl, p1, p2, p3, p4⟩
        · exact .inl ⟨rfl, by simp only [Gh.cut]; rw [upd_same]⟩
        · exact .inr ⟨g, o, c, cur, by simp only [Gh.cut]; rw [upd_same], hfp, hrow, p1, p2, p3, hlin, by simp only [Gh.cut]; rw [upd_same]; exact p4⟩
      · rw [upd_other _ _ hql] at h3
        obtain ⟨q1, q2, q3, q4⟩ := hm.live l1 n1 e1 h3
        refine ⟨q1, q2, q3, ?_⟩
        rcases q4 with q4 | ⟨g', oF, cap', cur', r1, r2, r3, r4, r5, r6, r7, r8⟩
        · exact .inl ⟨q4.1, by simp only [Gh.cut]; rw [upd_other _ _ hql]; exact q4.2⟩
        · refine .inr ⟨g', oF, cap', cur', by simp only [Gh.cut]; rw [upd_other _ _ hql]; exact r1, r2, r3, r4, r5, r6, r7, ?_⟩
          simp only [Gh.cut]
          rw [upd_other _ _ (by rintro rfl; exact hql (hm.fmi l1 l _ _ h3 hlv (r7.symm.trans hlin)))]
          exact r8
    · intro g' h3
      simp only [Gh.cut] at h3
      by_cases hg : g' = g
      · subst hg; exact hglt
      · rw [upd_other _ _ hg] at h3; exact hm.frl g' h3
    · intro g' h3 h4
      obtain ⟨q1, q2, q3⟩ := hm.old g' h3 h4
      refine ⟨q1, q2, ?_⟩
      simp only [Gh.cut]
      rw [upd_other _ _ (by rintro rfl; rw [q1] at hlin; omega)]
      exact q3
    · intro g'
      simp only [Gh.cut]
      by_cases hg : g' = g
      · subst hg; rw [hF0]; omega
      · rw [upd_other _ _ hg]; exact hm.keepf g'

theorem bounds_lo {A : Option Addr} {n cap i : Nat} {t e : TypeId} {sz : Nat} {kk : IntKind} (hs : slcOf P t = some (e, sz)) (hcap : n ≤ cap) (hi : i ≤ n) (w : World) :
    (Instr.sliceAt t (.slice A n cap) (some (.int kk (i : Nat))) none none).run P w = .ok (.slice (if cap = i then A else A.map (·.add (i * sz))) (n - i) (cap - i)) w := by
  obtain ⟨hu, ie, hie, rfl⟩ := slcOf_some hs
  have hsl : sliceA (some (.int kk (i : Nat))) none n = some (i, n) := by
    simp only [sliceA]
    rw [if_pos ⟨by omega, by omega, Int.le_refl _⟩]
    simp
  have h1 := (bounds_run (P := P) (w := w) hcap hsl).1
  simp [Instr.sliceAt, run_underlying hu, Instr.slice, h1, sizeOf_run hie]
theorem bounds_hi {A : Option Addr} {n cap i : Nat} {t e : TypeId} {sz : Nat} {kk : IntKind} (hs : slcOf P t = some (e, sz)) (hcap : n ≤ cap) (hi : i ≤ n) (w : World) :
    (Instr.sliceAt t (.slice A n cap) none (some (.int kk (i : Nat))) none).run P w = .ok (.slice (if cap = 0 then A else A.map (·.add (0 * sz))) (i - 0) (cap - 0)) w := by
  obtain ⟨hu, ie, hie, rfl⟩ := slcOf_some hs
  have hsl : sliceA none (some (.int kk (i : Nat))) n = some (0, i) := by
    simp only [sliceA]
    rw [if_pos ⟨Int.le_refl _, by omega, by omega⟩]
    simp
  have h1 := (bounds_run (P := P) (w := w) hcap hsl).1
  simp [Instr.sliceAt, run_underlying hu, Instr.slice, h1, sizeOf_run hie]

/-- A live slice that is all of its lineage: its block. -/
theorem live_at (h : Rel w0 F0 Fp X G w a σ) {l e sz : Nat} {xs : List AV} {x : Value} (hx : VR G w x (.sl l sz xs)) (h2 : 2 ≤ l) (hlv : σ.m.lv l = some (xs.length, e)) (hpos : 0 < xs.length) :
    ∃ (g oF cap : Nat) (cur : Array Value) (us : Nat → Value), x = .slice (some ⟨g, oF, none⟩) xs.length cap ∧ G.lv l = some (xs.length, e) ∧ G.la l = (some ⟨g, oF, none⟩, cap) ∧ G.lin g = G.fm l ∧ (w0.heap.size ≤ g ∨ Fp g) ∧ xs.length ≤ cap ∧ cap ≤ maxLen ∧ w.heap[g]? = some (.cells cur e (0, 0)) ∧ cur.size = oF + cap * sz ∧ G.ls l = sz ∧ G.fr g = oF + xs.length * sz ∧
      0 < sz ∧ (∀ y ∈ xs, y.cells.length = sz ∧ y.er = y) ∧ (∀ k, k < xs.length * sz → w.cell? ⟨g, oF + k, none⟩ = some (us k) ∧ (us k).oneCell' = true) ∧ (∀ k, k < xs.length * sz → VR G w (us k) ((flat xs).getD k .any)) ∧ l < G.nl := by
  have hlvG : G.lv l = some (xs.length, e) := by rw [h.mm.lv]; exact hlv
  have hll := h.mm.lv_lt hlvG
  generalize hys : xs = ys at hx
  cases hx with
  | nil => omega
  | sl A cap _ _ _ g off us hl' h1' hcap hlive hA hsz h0 hcell hh =>
    subst hys
    obtain ⟨_, h3⟩ := hlive _ _ hlvG
    obtain ⟨h4, h5⟩ := h3 rfl
    obtain ⟨_, _, hls, hlo⟩ := h.mm.live l _ e hlvG
    have hne : xs ≠ [] := List.length_pos_iff.1 hpos
    rcases hlo with h6 | ⟨g', oF, cap', cur, h6, h7, h8, h9, h10, h11, h12, h13⟩
    · omega
    · rw [h6] at h4
      simp only [Prod.mk.injEq] at h4
      obtain ⟨rfl, rfl⟩ := h4
      obtain ⟨h15, _, _⟩ := hA hne
      simp only [Option.some.injEq, Addr.mk.injEq, and_true] at h15
      obtain ⟨rfl, rfl⟩ := h15
      exact ⟨g', oF, cap, cur, us, rfl, hlvG, h6, h12, h7, hcap, h10, h8, by rw [h11, ← h5], h5.symm, by rw [h13, ← h5], h0 hne, hsz, hcell, hh, hll⟩

theorem cutE_ok (h : Rel w0 F0 Fp X G w a σ) {t : TypeId} {x hi : Operand} {ty : TypeId} {pos : String} {aft : Array Edge} {gd : Option (Nat × Bool)} {next : Act → World → Prop} {Q : Exit → Act → World → Prop}
    (hK : ∀ G' w' a' σ', Rel w0 F0 Fp X G' w' a' σ' → K σ' → next a' w') (hv : cutE P t (ev σ x) (ev σ hi) d K σ) : Oper.wp P ⟨d, .slice t x none (some hi) none, ty, pos, aft, gd⟩ a w next Q := by
  unfold cutE at hv
  split at hv
  · rename_i l sz xs kk i hx hhi
    obtain ⟨e, hi0, hin, hpos, hs, h2, hlv, hmu, hc⟩ := hv
    have hxv := ev_ok h x
    rw [hx] at hxv
    obtain ⟨g, oF, cap, cur, us, q1, q2, q3, q4, q5, q6, q7, q8, q9, q10, q11, q12, q13, q14, q15, q16⟩ := live_at h hxv h2 hlv hpos
    obtain ⟨i, rfl⟩ := Int.eq_ofNat_of_zero_le hi0
    simp only [Int.toNat_natCast] at hc
    have hile : i ≤ xs.length := by omega
    have hr := h.cut (i := i) (m := oF + i * sz) (A := some ⟨g, oF, none⟩) (c := cap) q2 q4 q5 hmu q8 (.inr ⟨oF, rfl, by omega, q7, by rw [q10]; exact q9, by rw [q10]⟩)
    have hfl := h.mm.fm2 l h2 q16
    have hrun : (execOp a.eval ⟨d, .slice t x none (some hi) none, ty, pos, aft, gd⟩).run P w = .ok (.value (.slice (some ⟨g, oF, none⟩) i cap)) w := by
      have hb := bounds_hi (A := some ⟨g, oF, none⟩) (kk := kk) hs q6 hile w
      simp only [execOp, q1, Option.map_none, Option.map_some, ev_v h hhi, Sem.run_bind, hb, Result.andThen_ok, Sem.run_pure, Nat.sub_zero]
      congr 2
      split
      · rfl
      · simp [Addr.add]
    have hvr : VR (G.cut l g i e (oF + i * sz) (some ⟨g, oF, none⟩) cap) w (.slice (some ⟨g, oF, none⟩) (xs.take i).length cap) (.sl l sz (xs.take i)) := by
      have htl : (xs.take i).length = i := by rw [List.length_take]; omega
      have hmul : i * sz ≤ xs.length * sz := Nat.mul_le_mul_right _ hile
      refine .sl _ cap l sz (xs.take i) g oF us q16 (by omega) (by omega) ?_ ?_ (fun y hy => q13 y (List.mem_of_mem_take hy)) (fun _ => q12) ?_ ?_
      · intro n' e' hn
        simp only [Gh.cut] at hn ⊢
        rw [upd_same] at hn
        obtain ⟨rfl, rfl⟩ := Prod.mk.injEq .. ▸ Option.some.inj hn
        exact ⟨by omega, fun _ => ⟨by rw [upd_same], q10.symm⟩⟩
      · intro _
        refine ⟨rfl, .inl q4, ?_⟩
        simp only [Gh.cut]
        rw [upd_same, htl]; omega
      · intro k hk
        rw [htl] at hk
        exact q14 k (by omega)
      · intro k hk
        rw [htl] at hk
        have h0 : G.fm 0 ≠ G.fm l := by rw [h.mm.fm0]; omega
        have hl0 : G.fm l ≠ 0 := by omega
        have h5 := (q15 k (by omega)).cut (i := i) (e := e) (n := oF + i * sz) (A := some ⟨g, oF, none⟩) (c := cap) h0 hl0 q4
        rw [cut_closed h0 _ (flat_closed q13 k)] at h5
        have e1 : (flat (xs.take i)).getD k .any = (flat xs).getD k .any := by
          have e2 : flat xs = flat (xs.take i) ++ flat (xs.drop i) := by rw [← flat_append, List.take_append_drop]
          rw [e2, List.getD_eq_getElem?_getD, List.getD_eq_getElem?_getD, List.getElem?_append_left]
          rw [flat_length (sz := sz) (fun y hy => (q13 y (List.mem_of_mem_take hy)).1), htl]; exact hk
        rw [e1]; exact h5
    have htl : (xs.take i).length = i := by rw [List.length_take]; omega
    rw [htl] at hvr
    obtain ⟨σ2, h3, h4⟩ := hr.cont hvr hc
    unfold Oper.wp
    rw [hrun, Oper.upon_value]
    exact hK _ _ _ _ h3 h4
  · exact hv.elim

theorem cutLoE_ok (h : Rel w0 F0 Fp X G w a σ) {t : TypeId} {x lo : Operand} {ty : TypeId} {pos : String} {aft : Array Edge} {gd : Option (Nat × Bool)} {next : Act → World → Prop} {Q : Exit → Act → World → Prop}
    (hK : ∀ G' w' a' σ', Rel w0 F0 Fp X G' w' a' σ' → K σ' → next a' w') (hv : cutLoE P t (ev σ x) (ev σ lo) d K σ) : Oper.wp P ⟨d, .slice t x (some lo) none none, ty, pos, aft, gd⟩ a w next Q := by
  unfold cutLoE at hv
  split at hv
  · rename_i l sz xs kk i hx hhi
    obtain ⟨e, hi0, hin, hpos, hs, h2, hlv, hmu, hc⟩ := hv
    have hxv := ev_ok h x
    rw [hx] at hxv
    obtain ⟨g, oF, cap, cur, us, q1, q2, q3, q4, q5, q6, q7, q8, q9, q10, q11, q12, q13, q14, q15, q16⟩ := live_at h hxv h2 hlv hpos
    obtain ⟨i, rfl⟩ := Int.eq_ofNat_of_zero_le hi0
    simp only [Int.toNat_natCast] at hc
    have hile : i ≤ xs.length := by omega
    have hmul : i * sz + (xs.length - i) * sz = xs.length * sz := by rw [← Nat.add_mul]; congr 1; omega
    have hmulc : i * sz + (cap - i) * sz = cap * sz := by rw [← Nat.add_mul]; congr 1; omega
    have htl : (xs.drop i).length = xs.length - i := List.length_drop
    generalize hA' : (if cap = i then some ⟨g, oF, none⟩ else (some (⟨g, oF, none⟩ : Addr)).map (·.add (i * sz))) = A'
    have hlo : (xs.length - i = 0 ∧ cap - i = 0) ∨ ∃ o, A' = some ⟨g, o, none⟩ ∧ xs.length - i ≤ cap - i ∧ cap - i ≤ maxLen ∧ cur.size = o + (cap - i) * G.ls l ∧ oF + xs.length * sz = o + (xs.length - i) * G.ls l := by
      by_cases hci : cap = i
      · exact .inl ⟨by omega, by omega⟩
      · refine .inr ⟨oF + i * sz, ?_, by omega, by omega, by rw [q10, q9]; omega, by rw [q10]; omega⟩
        rw [← hA', if_neg hci]; simp [Addr.add]
    have hr := h.cut (i := xs.length - i) (m := oF + xs.length * sz) (A := A') (c := cap - i) q2 q4 q5 hmu q8 hlo
    have hfl := h.mm.fm2 l h2 q16
    have hrun : (execOp a.eval ⟨d, .slice t x (some lo) none none, ty, pos, aft, gd⟩).run P w = .ok (.value (.slice A' (xs.length - i) (cap - i))) w := by
      have hb := bounds_lo (A := some ⟨g, oF, none⟩) (kk := kk) hs q6 hile w
      rw [hA'] at hb
      simp only [execOp, q1, Option.map_none, Option.map_some, ev_v h hhi, Sem.run_bind, hb, Result.andThen_ok, Sem.run_pure]
    have hvr : VR (G.cut l g (xs.length - i) e (oF + xs.length * sz) A' (cap - i)) w (.slice A' (xs.drop i).length (cap - i)) (.sl l sz (xs.drop i)) := by
      refine .sl _ (cap - i) l sz (xs.drop i) g (oF + i * sz) (fun k => us (i * sz + k)) q16 (by omega) (by omega) ?_ ?_ (fun y hy => q13 y (List.mem_of_mem_drop hy)) (fun _ => q12) ?_ ?_
      · intro n' e' hn
        simp only [Gh.cut] at hn ⊢
        rw [upd_same] at hn
        obtain ⟨rfl, rfl⟩ := Prod.mk.injEq .. ▸ Option.some.inj hn
        exact ⟨by omega, fun _ => ⟨by rw [upd_same], q10.symm⟩⟩
      · intro hne
        have hp2 := List.length_pos_iff.2 hne
        refine ⟨?_, .inl q4, ?_⟩
        · rw [← hA', if_neg (by omega)]; simp [Addr.add]
        · simp only [Gh.cut]
          rw [upd_same, htl]; omega
      · intro k hk
        rw [htl] at hk
        have := q14 (i * sz + k) (by omega)
        rwa [← Nat.add_assoc] at this
      · intro k hk
        rw [htl] at hk
        have h0 : G.fm 0 ≠ G.fm l := by rw [h.mm.fm0]; omega
        have hl0 : G.fm l ≠ 0 := by omega
        have h5 := (q15 (i * sz + k) (by omega)).cut (i := xs.length - i) (e := e) (n := oF + xs.length * sz) (A := A') (c := cap - i) h0 hl0 q4
        rw [cut_closed h0 _ (flat_closed q13 _)] at h5
        have e1 : (flat (xs.drop i)).getD k .any = (flat xs).getD (i * sz + k) .any := by
          have e2 : flat xs = flat (xs.take i) ++ flat (xs.drop i) := by rw [← flat_append, List.take_append_drop]
          have e3 : (flat (xs.take i)).length = i * sz := by
            rw [flat_length (sz := sz) (fun y hy => (q13 y (List.mem_of_mem_take hy)).1), List.length_take]; congr 1; omega
          rw [e2, List.getD_eq_getElem?_getD, List.getD_eq_getElem?_getD, List.getElem?_append_right (by omega), e3, Nat.add_sub_cancel_left]
        rw [e1]; exact h5
    rw [htl] at hvr
    obtain ⟨σ2, h3, h4⟩ := hr.cont hvr hc
    unfold Oper.wp
    rw [hrun, Oper.upon_value]
    exact hK _ _ _ _ h3 h4
  · exact hv.elim

theorem zeroCells_getD (z : Array Value) (n k : Nat) (hz : 0 < z.size) (hk : k < n * z.size) : (zeroCells z n).toList[k]? = some (z.getD (k % z.size) default) := by
  have hm := Nat.mod_lt k hz
  simp only [zeroCells, Array.toList_map, Array.toList_range, List.getElem?_map, List.getElem?_range hk, Option.map_some]
  rw [getElem!_pos z _ hm, Array.getD_eq_getD_getElem?, Array.getElem?_eq_getElem hm]; rfl
theorem zeroCells_len (z : Array Value) (n : Nat) : (zeroCells z n).toList.length = n * z.size := by simp [zeroCells]

theorem clearE_ok (hΓ : GoodEnv P Γ) (h : Rel w0 F0 Fp X G w a σ) {ops : Array Oper} {o : Oper} {r : List Oper} {t : TypeId} {x lo : Operand} {d : Nat} (hcl : clrOf o r = some (t, x, lo, d)) {Q : Exit → Act → World → Prop}
    (hK : ∀ G' w' a' σ', Rel w0 F0 Fp X G' w' a' σ' → K σ' → Q .normal a' w') (hv : clearE P t (ev σ x) (ev σ lo) d K σ) : wpList P ops Q (o :: r) a w := by
  unfold clrOf at hcl
  split at hcl
  · rename_i d' t' x' lo' ty pos aft args argTypes ty2 pos2 aft2 
    split at hcl
    · rename_i d2 t2
      rw [Bool.cond_eq_ite] at hcl
      split at hcl
      case isFalse => cases hcl
      rename_i hargs
      simp only [Bool.and_eq_true, beq_iff_eq] at hargs
      obtain ⟨hd2, ht2⟩ := hargs
      subst hd2 ht2
      simp only [Option.some.injEq, Prod.mk.injEq] at hcl
      obtain ⟨rfl, rfl, rfl, rfl⟩ := hcl
      unfold clearE at hv
      split at hv
      · rename_i l sz xs kk i hx hlo
        obtain ⟨e, ti, zv, zs, hi0, hin, hs, hti, hzv, hzs, hzl, hsz0, h2, hlv, hmu, hd, hk⟩ := hv
        have hxv := ev_ok h x'
        rw [hx] at hxv
        obtain ⟨g, oF, cap, cur, us, q1, q2, q3, q4, q5, q6, q7, q8, q9, q10, q11, q12, q13, q14, q15, q16⟩ := live_at h hxv h2 hlv (by omega)
        obtain ⟨i, rfl⟩ := Int.eq_ofNat_of_zero_le hi0
        simp only [Int.toNat_natCast] at hk
        have hile : i < xs.length := by omega
        have hs1 : (execOp a.eval ⟨some d2, .slice t2 x' (some lo') none none, ty, pos, aft, none⟩).run P w = .ok (.value (.slice (some ⟨g, oF + i * sz, none⟩) (xs.length - i) (cap - i))) w := by
          have hb := bounds_lo (A := some ⟨g, oF, none⟩) (kk := kk) hs q6 (Nat.le_of_lt hile) w
          simp only [execOp, q1, Option.map_none, Option.map_some, ev_v h hlo, Sem.run_bind, hb, Result.andThen_ok, Sem.run_pure]
          congr 2
          have hci : cap ≠ i := by omega
          simp only [if_neg hci, Option.map_some, Addr.add]
          split <;> simp_all
        have hput := h.put (x := .slice (some ⟨g, oF + i * sz, none⟩) (xs.length - i) (cap - i)) (VR.any _) hd
        unfold wpList
        have hw1 := guarded_ok (ops := ops) (o := ⟨some d2, .slice t2 x' (some lo') none none, ty, pos, aft, none⟩) (yes := True) (no := False) h trivial
        rcases hw1 with ⟨hw1, _⟩ | ⟨_, hw1⟩
        case inr => exact hw1.elim
        rw [if_pos hw1]
        refine .inl ?_
        unfold Oper.wp
        rw [hs1, Oper.upon_value]
        unfold wpList
        have hw2 := guarded_ok (ops := ops) (o := ⟨none, .call { callee := .builtin .clear, args := #[.tmp d2], argTypes := #[t2] }, ty2, pos2, aft2, none⟩) (yes := True) (no := False) hput trivial
        rcases hw2 with ⟨hw2, _⟩ | ⟨_, hw2⟩
        case inr => exact hw2.elim
        rw [if_pos hw2]
        refine .inl ?_
        -- the cells, cleared
        obtain ⟨hu, ie, hie, hisz⟩ := slcOf_some hs
        have hze : VR G w zv (ofVh ti.hints zv) := ofVh_ok _ _ _ _
        have hzt : ∀ t ∈ (ofVh ti.hints zv).tags, 2 ≤ t → t ∈ ([] : List Nat) := fun t ht h3 => by have := ofVh_tags _ _ t ht; omega
        have hzer : VR G w zv (ofVh ti.hints zv).er := by
          have := VR.er h.mm hze hzt
          rwa [gkilled_nil] at this
        obtain ⟨z1, z2, z3⟩ := cellsOf_ok hzer hzs
        have hzsz : zv.cells.size = sz := by rw [z1, hzl]
        have hmul : i * sz + (xs.length - i) * sz = xs.length * sz := by rw [← Nat.add_mul]; congr 1; omega
        have hcapm : xs.length * sz ≤ cap * sz := Nat.mul_le_mul_right _ q6
        have hzlen : (zeroCells zv.cells (xs.length - i)).toList.length = (xs.length - i) * sz := by rw [zeroCells_len, hzsz]
        have hone : ∀ u ∈ (zeroCells zv.cells (xs.length - i)).toList, u.oneCell' = true := by
          intro u hu2
          obtain ⟨q, hq, rfl⟩ := List.getElem_of_mem hu2
          rw [hzlen] at hq
          have hzg := zeroCells_getD zv.cells (xs.length - i) q (by rw [hzsz]; exact hsz0) (by rw [hzsz]; exact hq)
          rw [List.getElem?_eq_getElem (by rw [hzlen]; exact hq)] at hzg
          obtain hzg := Option.some.inj hzg
          rw [hzg]
          exact (z2 _ (by rw [← z1, hzsz]; exact Nat.mod_lt _ hsz0)).2
        have hst := run_storeCells_at P g (oF + i * sz) e (zeroCells zv.cells (xs.length - i)).toList 0 cur w q8 (by rw [hzlen]; omega) hone
        simp only [Nat.add_zero] at hst
        generalize harr : (cur.toList.take (oF + i * sz) ++ (zeroCells zv.cells (xs.length - i)).toList ++ cur.toList.drop (oF + i * sz + (zeroCells zv.cells (xs.length - i)).toList.length)).toArray = arr' at hst
        have hsize : arr'.size = cur.size := by rw [← harr]; simp only [List.size_toArray, List.length_append, List.length_take, List.length_drop, Array.length_toList, hzlen]; omega
        have hev : (a.put (some d2) (.slice (some ⟨g, oF + i * sz, none⟩) (xs.length - i) (cap - i))).eval (.tmp d2) = .slice (some ⟨g, oF + i * sz, none⟩) (xs.length - i) (cap - i) := by
          have := put_getD a d2 (.slice (some ⟨g, oF + i * sz, none⟩) (xs.length - i) (cap - i)) (by rw [h.sz]; exact hd) d2
          rw [if_pos rfl] at this
          exact this
        have hzr := zero_run hti hzv w
        have hs2 : (execOp (a.put (some d2) (.slice (some ⟨g, oF + i * sz, none⟩) (xs.length - i) (cap - i))).eval ⟨none, .call { callee := .builtin .clear, args := #[.tmp d2], argTypes := #[t2] }, ty2, pos2, aft2, none⟩).run P w = .ok (.value (.tuple #[])) (w.setRow g arr') := by
          have hpos3 : xs.length - i ≠ 0 := by omega
          obtain ⟨m, hm⟩ : ∃ m, xs.length - i = m + 1 := ⟨xs.length - i - 1, by omega⟩
          simp only [execOp, resolve, Sem.run_bind, Sem.run_pure, Result.andThen_ok, invoke, builtin, List.map_toArray, List.map_cons, List.map_nil, hev, Builtin.clear_, List.getElem?_toArray, List.getElem?_cons_zero, run_underlying hu]
          rw [hm] at hst ⊢
          simp only [Sem.run_bind, hzr, Result.andThen_ok, hst, Sem.run_pure]
        unfold Oper.wp
        rw [hs2, Oper.upon_value]
        have hls : G.ls l = sz := q10
        have hrep : ∀ z ∈ (xs.take i ++ List.replicate (xs.length - i) (ofVh ti.hints zv).er), z.cells.length = sz ∧ z.er = z := by
          intro z hz
          rcases List.mem_append.1 hz with hz | hz
          · exact q13 z (List.mem_of_mem_take hz)
          · have := List.eq_of_mem_replicate hz
            subst this
            refine ⟨?_, er_er _⟩
            rw [(er_cells hzs).2]; exact hzl
        have htlen : (xs.take i ++ List.replicate (xs.length - i) (ofVh ti.hints zv).er).length = xs.length := by simp; omega
        have ht : Turn G w (w.setRow g arr') l xs.length e g oF cap arr' (xs.take i ++ List.replicate (xs.length - i) (ofVh ti.hints zv).er) := by
          refine ⟨q2, q3, q4, h.mm.fm2 l h2 q16, by rw [hls]; exact q11, by rw [hls]; exact hsz0, setRow_only w g arr', setRow_heap w _ cur _ e _ q8, by rw [hsize, q9, hls], htlen, q6, by rw [hls]; exact hrep, ?_⟩
          intro k hk2
          rw [hls] at hk2
          have hkl : (cur.toList.take (oF + i * sz)).length = oF + i * sz := by simp only [List.length_take, Array.length_toList]; omega
          by_cases c1 : k < i * sz
          · have e1 : arr'.getD (oF + k) default = cur.getD (oF + k) default := by
              rw [← harr]
              simp only [Array.getD_eq_getD_getElem?, List.getElem?_toArray]
              rw [List.getElem?_append_left (by rw [List.length_append, hkl]; omega), List.getElem?_append_left (by omega), List.getElem?_take, if_pos (by omega), Array.getElem?_toList]
            have hqc : cur.getD (oF + k) default = us k := by
              have h15 := (q14 k hk2).1
              simp only [World.cell?, q8, Option.isSome_none, Bool.false_eq_true, if_false] at h15
              rw [Array.getD_eq_getD_getElem?, h15]; rfl
            rw [e1, hqc]
            refine ⟨?_, (q14 k hk2).2⟩
            have e2 : (flat (xs.take i ++ List.replicate (xs.length - i) (ofVh ti.hints zv).er)).getD k .any = (flat xs).getD k .any := by
              have hfl : (flat (xs.take i)).length = i * sz := by
                rw [flat_length (sz := sz) (fun y hy => (q13 y (List.mem_of_mem_take hy)).1), List.length_take]; congr 1; omega
              have e3 : flat xs = flat (xs.take i) ++ flat (xs.drop i) := by rw [← flat_append, List.take_append_drop]
              rw [flat_append, e3, List.getD_eq_getElem?_getD, List.getD_eq_getElem?_getD, List.getElem?_append_left (by omega), List.getElem?_append_left (by omega)]
            rw [e2]; exact q15 k hk2
          · obtain ⟨k', rfl⟩ : ∃ k', k = i * sz + k' := ⟨k - i * sz, by omega⟩
            have hk3 : k' < (xs.length - i) * sz := by omega
            have hmod := Nat.mod_lt k' hsz0
            have e1 : arr'.getD (oF + (i * sz + k')) default = zv.cells.getD (k' % sz) default := by
              rw [← harr]
              simp only [Array.getD_eq_getD_getElem?, List.getElem?_toArray]
              rw [← Nat.add_assoc, List.getElem?_append_left (by rw [List.length_append, hkl, hzlen]; omega), List.getElem?_append_right (by omega), hkl, Nat.add_sub_cancel_left, zeroCells_getD zv.cells _ k' (by rw [hzsz]; exact hsz0) (by rw [hzsz]; exact hk3), hzsz, Array.getD_eq_getD_getElem?]; rfl
            rw [e1]
            have hz4 := z2 (k' % sz) (by rw [← z1, hzsz]; exact hmod)
            refine ⟨?_, hz4.2⟩
            have e2 : (flat (xs.take i ++ List.replicate (xs.length - i) (ofVh ti.hints zv).er)).getD (i * sz + k') .any = zs.getD (k' % sz) .any := by
              have hq : k' / sz < xs.length - i := by rw [Nat.div_lt_iff_lt_mul hsz0]; exact hk3
              have e3 : i * sz + k' = (i + k' / sz) * sz + k' % sz := by
                rw [Nat.add_mul, Nat.add_assoc]
                congr 1
                rw [Nat.mul_comm]; exact (Nat.div_add_mod k' sz).symm
              rw [e3, flat_getD (fun z hz => (hrep z hz).1) hmod]
              have htk : (xs.take i).length = i := by rw [List.length_take]; omega
              rw [List.getElem?_append_right (by rw [htk]; exact Nat.le_add_right _ _), htk, Nat.add_sub_cancel_left, List.getElem?_replicate, if_pos hq]
              simp only [(er_cells hzs).2]
            rw [e2]; exact hz4.1
        have hr2 := Rel.turned ht hput hmu q7
        exact hK _ _ _ _ hr2 hk
      · exact hv.elim
    · cases hcl
  · cases hcl
theorem vcOpsC_ok (hΓ : GoodEnv P Γ) {ops : Array Oper} {Q : Exit → Act → World → Prop} (hK : ∀ G' w' a' σ', Rel w0 F0 Fp X G' w' a' σ' → K σ' → Q .normal a' w') :
    ∀ (l : List Oper) {m : List Nat} {G : Gh} {w : World} {a : Act} {σ : AS}, Rel w0 F0 Fp X G w a σ → vcOpsC P Γ ops m l K σ → wpList P ops Q l a w
  | [], _, _, _, _, _, h, hv => by cases ‹List Nat› <;> exact hK _ _ _ _ h hv
  | o :: r, [], _, _, _, _, h, hv => by
    unfold vcOpsC at hv
    split at hv
    · rename_i t x lo d hcl
      exact clearE_ok hΓ h hcl hK hv
    · exact hv.elim
  | o :: r, k :: m, _, _, _, _, h, hv => by
    unfold vcOpsC at hv
    unfold wpList
    rcases guarded_ok h hv with ⟨h1, h2⟩ | ⟨h1, h2⟩
    · rw [if_pos h1]
      refine .inl ?_
      unfold vcC at h2
      split at h2
      · rename_i t x hi ho
        obtain ⟨dst, op, type, pos, aft, guard⟩ := o
        simp only at ho
        subst ho
        exact cutE_ok h (fun G' w' a' σ' hr hk => vcOpsC_ok hΓ hK r hr hk) h2
      · rename_i t x lo ho
        obtain ⟨dst, op, type, pos, aft, guard⟩ := o
        simp only at ho
        subst ho
        exact cutLoE_ok h (fun G' w' a' σ' hr hk => vcOpsC_ok hΓ hK r hr hk) h2
      · exact vcE_ok hΓ h (fun G' w' a' σ' hr hk => vcOpsC_ok hΓ hK r hr hk) h2
    · rw [if_neg (by rw [h1]; simp)]
      obtain ⟨σ', h3, h4⟩ := h.cont (VR.v undef) h2
      exact vcOpsC_ok hΓ hK r h3 h4
end

-- rules
section
variable {P : Program} [Tabs] {Γ : Env} {σ : AS} {K : AS → Prop} {n : Nat} {t : Nat → AV} {hd : Nat → Nat → AV} {d : Option Nat} {ty : TypeId} {pos : String} {after : Array Edge} {g : Option (Nat × Bool)} {c k : Nat} {ops : Array Oper} {r : List Oper}
variable {nh nl : Nat} {h : Nat → Option AO} {fm : Nat → Nat} {lv : Nat → Option (Nat × Nat)} {mu : Bool}
end
set_option linter.defProp false
end Go.Rw
end

-- RwMapV
section
namespace Go.Rw
open Go Go.RowKit
set_option linter.unusedSimpArgs false
set_option linter.unusedVariables false
set_option linter.unusedSectionVars false
set_option maxRecDepth 100000
section
variable {P : Program} [Tabs] {Γ : Env} {ops : Array Oper} {K : AS → Prop} {W : List Nat} {σ : AS}
/-- A listed region; one that is listed with 2000000 is left as it is. -/
def drawnX [Tabs] (P : Program) (Γ : Env) (id : Nat) (W Sc : List Nat) (ops : Array Oper) (Q : Exit → AS → Prop) (σ : AS) : Prop := match Sc with
  | [] => drawnE P Γ W [] ops (Q .normal) σ
  | i :: r => if i = 2000000 then AWP P (.region id ops true) Q σ else drawnE P Γ W (i :: r) ops (Q .normal) σ
/-- The code, reckoned; a region that is listed is taken as 'vcD' takes it. -/
def vcM [Tabs] (P : Program) (Γ : Env) (Ws : List (Nat × List Nat × List Nat)) : Code → (Exit → AS → Prop) → AS → Prop
  | .skip, Q, σ => Q .normal σ
  | .region id ops false, Q, σ => match Ws.lookup id with
    | some q => vcOpsC P Γ ops q.1 ops.toList (Q .normal) σ
    | none => vcOpsE P Γ ops ops.toList (Q .normal) σ
  | .region id ops true, Q, σ => match Ws.lookup id with
    | some q => drawnX P Γ id q.1 q.2 ops Q σ
    | none => P.follows .mixedOrders = true ∧ lexMM ops = true ∧ vcOpsQ P Γ ops ops.toList (Q .normal) σ
  | .seq x y, Q, σ => vcM P Γ Ws x (thenQ (vcM P Γ Ws y Q) Q) σ
  | .cond c x y, Q, σ => match ev σ c with
    | .v (.bool b) => if b = true then vcM P Γ Ws x Q σ else vcM P Γ Ws y Q σ
    | _ => False
  | .block id c, Q, σ => vcM P Γ Ws c (blockQ id Q) σ
  | .exit id, Q, σ => Q (.exit id) σ
  | .label _, Q, σ => Q .normal σ
  | .goto l, Q, σ => Q (.goto l) σ
  | .ret, Q, σ => Q .ret σ
  | c, Q, σ => AWP P c Q σ
theorem vcM_ok (hΓ : GoodEnv P Γ) {Ws : List (Nat × List Nat × List Nat)} : ∀ (c : Code) {Q : Exit → AS → Prop} {σ : AS}, vcM P Γ Ws c Q σ → AWP P c Q σ
  | .skip, Q, σ, h => vc_ok hΓ .skip h
  | .region i ops false, Q, σ, h => by
    simp only [vcM] at h
    split at h
    · exact fun w0 F0 Fp X G w a hr => wp_region_list (vcOpsC_ok hΓ (fun G' w' a' σ' hr' hk => ⟨G', σ', hr', hk⟩) ops.toList hr h)
    · exact fun w0 F0 Fp X G w a hr => wp_region_list (vcOpsE_ok hΓ (fun G' w' a' σ' hr' hk => ⟨G', σ', hr', hk⟩) ops.toList hr h)
  | .region i ops true, Q, σ, h => by
    simp only [vcM] at h
    split at h
    · rename_i q _
      have hE : ∀ {W Sc : List Nat}, drawnE P Γ W Sc ops (Q .normal) σ → AWP P (.region i ops true) Q σ := by
        intro W Sc h
        obtain ⟨l, rfl⟩ : ∃ l, ops = List.toArray l := ⟨ops.toList, by simp⟩
        unfold drawnE at h
        split at h
        · exact awp_wideV hΓ _ [] h.1 h.2.1 h.2.2
        · split at h
          · exact awp_wideV hΓ _ _ h.1 h.2.1 h.2.2
          · exact awp_twoT hΓ _ h.1 h.2.1 h.2.2.1 h.2.2.2
      unfold drawnX at h
      split at h
      · exact hE h
      · split at h
        · exact h
        · exact hE h
    · exact fun w0 F0 Fp X G w a hr => drawnM_ok hΓ hr h.1 h.2.1 h.2.2 fun G' w' a' σ' hr' hk => ⟨G', σ', hr', hk⟩
  | .seq x y, Q, σ, h => AWP.seq ((vcM_ok hΓ x h).mono fun e σ' h2 => by
      cases e with
      | normal => exact vcM_ok hΓ y h2
      | _ => exact h2)
  | .cond c x y, Q, σ, h => by
    simp only [vcM] at h
    split at h
    · rename_i b hb
      split at h
      · rename_i hbt
        subst hbt
        have := vcM_ok hΓ x h
        intro w0 F0 Fp X G w a hr
        exact wp_cond (ev_v hr hb) (this w0 F0 Fp X G w a hr)
      · rename_i hbt
        have hbf : b = false := by simpa using hbt
        subst hbf
        have := vcM_ok hΓ y h
        intro w0 F0 Fp X G w a hr
        exact wp_cond (ev_v hr hb) (this w0 F0 Fp X G w a hr)
    · exact h.elim
  | .block id c, Q, σ, h => AWP.block (vcM_ok hΓ c h)
  | .exit id, Q, σ, h => vc_ok hΓ (.exit id) h
  | .label l, Q, σ, h => vc_ok hΓ (.label l) h
  | .goto l, Q, σ, h => vc_ok hΓ (.goto l) h
  | .ret, Q, σ, h => vc_ok hΓ .ret h
  | .loop c, _, _, h => h
  | .scope c, _, _, h => h
  | .rangeFunc _ _ _ _, _, _, h => h
  | .refuse _, _, _, h => h
variable {Ws : List (Nat × List Nat × List Nat)} {Q : Exit → AS → Prop}
theorem vm_skip : vcM P Γ Ws .skip Q σ = Q .normal σ := rfl
def plainM [Tabs] (P : Program) (Γ : Env) (l : List Oper) (K : AS → Prop) (σ : AS) : Option (List Nat × List Nat) → Prop
  | some q => vcOpsC P Γ (List.toArray l) q.1 l K σ
  | none => vcOpsE P Γ (List.toArray l) l K σ
theorem vm_region {id : Nat} {l : List Oper} : vcM P Γ Ws (.region id (List.toArray l) false) Q σ = plainM P Γ l (Q .normal) σ (Ws.lookup id) := by
  simp only [vcM, plainM]
theorem plainM_none {l : List Oper} : plainM P Γ l K σ none = vcOpsE P Γ (List.toArray l) l K σ := rfl
def drawnM [Tabs] (P : Program) (Γ : Env) (id : Nat) (l : List Oper) (Q : Exit → AS → Prop) (K : AS → Prop) (σ : AS) : Option (List Nat × List Nat) → Prop
  | some q => drawnX P Γ id q.1 q.2 (List.toArray l) Q σ
  | none => P.follows .mixedOrders = true ∧ lexMM (List.toArray l) = true ∧ vcOpsQ P Γ (List.toArray l) l K σ
theorem vm_drawn {id : Nat} {l : List Oper} : vcM P Γ Ws (.region id (List.toArray l) true) Q σ = drawnM P Γ id l Q (Q .normal) σ (Ws.lookup id) := by
  simp only [vcM, drawnM]
theorem drawnM_some {id : Nat} {l : List Oper} {W : List Nat} : drawnM P Γ id l Q K σ (some (W, [])) = (P.follows .mixedOrders = true ∧ lexW W (List.toArray l) [] = true ∧ vcOpsV P Γ W [] (List.toArray l) 0 l (Q .normal) σ) := rfl
theorem drawnM_none {id : Nat} {l : List Oper} : drawnM P Γ id l Q K σ none = (P.follows .mixedOrders = true ∧ lexMM (List.toArray l) = true ∧ vcOpsQ P Γ (List.toArray l) l K σ) := rfl
theorem vm_seq {x y : Code} : vcM P Γ Ws (.seq x y) Q σ = vcM P Γ Ws x (thenQ (vcM P Γ Ws y Q) Q) σ := rfl
theorem vm_cond {c : Operand} {x y : Code} : vcM P Γ Ws (.cond c x y) Q σ = branchP (ev σ c) (vcM P Γ Ws x Q) (vcM P Γ Ws y Q) σ := by
  simp only [vcM, branchP]
  rfl
theorem vm_block {id : Nat} {c : Code} : vcM P Γ Ws (.block id c) Q σ = vcM P Γ Ws c (blockQ id Q) σ := rfl
theorem vm_exit {id : Nat} : vcM P Γ Ws (.exit id) Q σ = Q (.exit id) σ := rfl
theorem vm_goto {l : Nat} : vcM P Γ Ws (.goto l) Q σ = Q (.goto l) σ := rfl
theorem vm_ret : vcM P Γ Ws .ret Q σ = Q .ret σ := rfl
/-- A loop. -/
theorem vc_loopM (Ws : List (Nat × List Nat × List Nat)) (hΓ : GoodEnv P Γ) {α : Type} {c : Code} (St : α → AS) (μ : α → Nat) (x0 : α) (h0 : Weak σ (St x0)) (hr : ∀ x, vcM P Γ Ws c (thenQ (Again St μ x) Q) (St x)) : AWP P (.loop c) Q σ := by
  refine AWP.loop St μ x0 h0 fun x => (vcM_ok hΓ c (hr x)).mono fun e σ' hq => ?_
  cases e <;> exact hq
theorem vcM_lp {c : Code} (h : AWP P (.loop c) Q σ) : vcM P Γ Ws (.loop c) Q σ := h
theorem vcM_sc {c : Code} (h : AWP P (.scope c) Q σ) : vcM P Γ Ws (.scope c) Q σ := h
/-- A scope whose jumps all go ahead. -/
def fwdM [Tabs] (P : Program) (Γ : Env) (Ws : List (Nat × List Nat × List Nat)) (c : Code) (Q : Exit → AS → Prop) : Nat → Exit → AS → Prop
  | 0, .goto _, _ => False
  | n + 1, .goto l, σ => ∃ rest, findLabel c l = some rest ∧ vcM P Γ Ws rest (fwdM P Γ Ws c Q n) σ
  | _, e, σ => Q e σ
theorem fwdM_hop (c : Code) : ∀ (n : Nat) (e : Exit) (σ : AS), fwdM P Γ Ws c Q n e σ → hopQ (fun l k σ => ∃ rest, findLabel c l = some rest ∧ vcM P Γ Ws rest (fwdM P Γ Ws c Q k) σ) (some n) Q e σ
  | 0, e, σ, h => by cases e <;> first | exact h | exact h.elim
  | n + 1, e, σ, h => by
    cases e with
    | goto l =>
      obtain ⟨rest, h1, h2⟩ := h
      exact ⟨n, fun k hk => by simp at hk; omega, σ, Weak.refl σ, rest, h1, h2⟩
    | _ => exact h
theorem vc_scopeM (Ws : List (Nat × List Nat × List Nat)) (hΓ : GoodEnv P Γ) {c : Code} (n : Nat) (h : vcM P Γ Ws c (fwdM P Γ Ws c Q n) σ) : AWP P (.scope c) Q σ := by
  refine AWP.scope (fun l k σ => ∃ rest, findLabel c l = some rest ∧ vcM P Γ Ws rest (fwdM P Γ Ws c Q k) σ) ?_ ?_
  · rintro l k σ ⟨rest, h1, h2⟩
    exact ⟨rest, h1, (vcM_ok hΓ _ h2).mono (fwdM_hop c k)⟩
  · refine (vcM_ok hΓ _ h).mono fun e σ' hq => ?_
    have := fwdM_hop c n e σ' hq
    cases e with
    | goto l =>
      obtain ⟨k, _, h2⟩ := this
      exact ⟨k, (fun j hj => by cases hj), h2⟩
    | _ => exact this
theorem fwdM_ret {c : Code} {n : Nat} : fwdM P Γ Ws c Q n .ret σ = Q .ret σ := by cases n <;> rfl
/-- A call whose body is reckoned in place. -/
theorem vcCall_inlM (hΓ : GoodEnv P Γ) {n : Nat} {t : Nat → AV} {hd : Nat → Nat → AV} {m : AM} {d : Option Nat} {f : FuncId} {fn : Func} {c : Code} {as : List AV} {rs : List ResultVar} {nn : Nat} (Ws : List (Nat × List Nat × List Nat)) (hC : Γ.get f = none) (hf : P.funcs[f]? = some fn) (hn : (fn.name == "runtime.NumGoroutine") = false) (hb : fn.body = some c)
    (hr : fn.results.toList = rs) (hnn : as.length + (fn.ntmps - as.length) = nn)
    (hk : vcM P Γ Ws c (inlR P rs n d K) ⟨nn, look (zips 0 as), pushH t hd, m⟩) : vcCall P Γ false ⟨n, t, hd, m⟩ f as d K := by
  unfold vcCall
  rw [hC]
  refine ⟨rfl, .inr (.inl ⟨fn, c, hf, hn, hb, ?_⟩)⟩
  have e : (AS.enter ⟨n, t, hd, m⟩ fn.ntmps as) = ⟨nn, fun k => as.getD k (.v undef), pushH t hd, m⟩ := by
    subst hnn
    simp only [AS.enter, AS.mk.injEq, true_and, and_true]
    funext j
    cases j <;> rfl
  rw [e]
  refine AWP.weak (weak_same (zips_eq _ _ _ fun j hj => ?_)) ((vcM_ok hΓ c hk).mono fun e σ hq => ?_)
  · simp only [Nat.zero_add, List.getD_eq_getElem?_getD, List.getElem?_eq_getElem hj, Option.getD_some]
  · have key : ∀ σ : AS, inlP n d K (topH σ.hd) (popH σ.hd) σ.m (resL P σ rs) → (match resL P σ fn.results.toList with | some bs => cont (σ.leave n) d (oneOf bs) K | none => False) := by
      intro σ hq
      rw [hr]
      cases hx : resL P σ rs with
      | none => rw [hx] at hq; exact hq
      | some bs => rw [hx] at hq; exact hq
    cases e with
    | normal => exact key σ hq
    | ret => exact key σ hq
    | _ => exact hq

end
section
variable {nh nl : Nat} {h : Nat → Option AO} {fm : Nat → Nat} {lv : Nat → Option (Nat × Nat)} {mu : Bool}
variable {P : Program} [Tabs] {Γ : Env} {Q : Exit → AS → Prop} {σ : AS} {K : AS → Prop} {ops : Array Oper} {r : List Oper} {n : Nat} {t : Nat → AV} {hd : Nat → Nat → AV} {m : AM} {d : Option Nat} {ty : TypeId} {pos : String} {after : Array Edge} {g : Option (Nat × Bool)}
theorem oe_nil : vcOpsE P Γ ops [] K σ = K σ := rfl
theorem oe_cons {op : Op} : vcOpsE P Γ ops (⟨d, op, ty, pos, after, none⟩ :: r) K σ = vcE P Γ σ ⟨d, op, ty, pos, after, none⟩ (vcOpsE P Γ ops r K) := rfl
def thenE [Tabs] (P : Program) (Γ : Env) (ops : Array Oper) (o : Oper) (r : List Oper) (K : AS → Prop) (σ : AS) : Prop := vcE P Γ σ o (vcOpsE P Γ ops r K)
def skipE [Tabs] (P : Program) (Γ : Env) (ops : Array Oper) (d : Option Nat) (r : List Oper) (K : AS → Prop) (σ : AS) : Prop := cont σ d (.v undef) (vcOpsE P Γ ops r K)
theorem thenE_eq {o : Oper} : thenE P Γ ops o r K σ = vcE P Γ σ o (vcOpsE P Γ ops r K) := rfl
theorem skipE_eq : skipE P Γ ops d r K σ = cont σ d (.v undef) (vcOpsE P Γ ops r K) := rfl
theorem oe_guard {op : Op} {j : Nat} {w : Bool} : vcOpsE P Γ ops (⟨d, op, ty, pos, after, some (j, w)⟩ :: r) K σ =
    guardO (gdst ops j) w (thenE P Γ ops ⟨d, op, ty, pos, after, some (j, w)⟩ r K) (skipE P Γ ops d r K) σ := by
  simp only [vcOpsE, guarded, guardO, gdst, guardB, thenE, skipE]
  rfl
theorem oq_nil : vcOpsQ P Γ ops [] K σ = K σ := rfl
theorem oq_cons {op : Op} : vcOpsQ P Γ ops (⟨d, op, ty, pos, after, none⟩ :: r) K σ = vcQ P Γ σ ⟨d, op, ty, pos, after, none⟩ (vcOpsQ P Γ ops r K) := rfl
def thenQq [Tabs] (P : Program) (Γ : Env) (ops : Array Oper) (o : Oper) (r : List Oper) (K : AS → Prop) (σ : AS) : Prop := vcQ P Γ σ o (vcOpsQ P Γ ops r K)
def skipQq [Tabs] (P : Program) (Γ : Env) (ops : Array Oper) (d : Option Nat) (r : List Oper) (K : AS → Prop) (σ : AS) : Prop := cont σ d (.v undef) (vcOpsQ P Γ ops r K)
theorem thenQq_eq {o : Oper} : thenQq P Γ ops o r K σ = vcQ P Γ σ o (vcOpsQ P Γ ops r K) := rfl
theorem skipQq_eq : skipQq P Γ ops d r K σ = cont σ d (.v undef) (vcOpsQ P Γ ops r K) := rfl
theorem oq_guard {op : Op} {j : Nat} {w : Bool} : vcOpsQ P Γ ops (⟨d, op, ty, pos, after, some (j, w)⟩ :: r) K σ =
    guardO (gdst ops j) w (thenQq P Γ ops ⟨d, op, ty, pos, after, some (j, w)⟩ r K) (skipQq P Γ ops d r K) σ := by
  simp only [vcOpsQ, guarded, guardO, gdst, guardB, thenQq, skipQq]
  rfl

theorem ve_move {x : Operand} : vcE P Γ σ ⟨d, .move x, ty, pos, after, g⟩ K = vcOp P Γ false σ ⟨d, .move x, ty, pos, after, g⟩ K := rfl
theorem vq_move {x : Operand} : vcQ P Γ σ ⟨d, .move x, ty, pos, after, g⟩ K = vcOp P Γ true σ ⟨d, .move x, ty, pos, after, g⟩ K := rfl
theorem ve_assign {x : Operand} : vcE P Γ σ ⟨d, .assign x, ty, pos, after, g⟩ K = vcOp P Γ false σ ⟨d, .assign x, ty, pos, after, g⟩ K := rfl
theorem vq_assign {x : Operand} : vcQ P Γ σ ⟨d, .assign x, ty, pos, after, g⟩ K = vcOp P Γ true σ ⟨d, .assign x, ty, pos, after, g⟩ K := rfl
theorem ve_pick {c x y : Operand} : vcE P Γ σ ⟨d, .pick c x y, ty, pos, after, g⟩ K = vcOp P Γ false σ ⟨d, .pick c x y, ty, pos, after, g⟩ K := rfl
theorem vq_pick {c x y : Operand} : vcQ P Γ σ ⟨d, .pick c x y, ty, pos, after, g⟩ K = vcOp P Γ true σ ⟨d, .pick c x y, ty, pos, after, g⟩ K := rfl
theorem ve_un {o : UnOp} {c : TypeId} {x : Operand} : vcE P Γ σ ⟨d, .unOp o c x, ty, pos, after, g⟩ K = vcOp P Γ false σ ⟨d, .unOp o c x, ty, pos, after, g⟩ K := rfl
theorem vq_un {o : UnOp} {c : TypeId} {x : Operand} : vcQ P Γ σ ⟨d, .unOp o c x, ty, pos, after, g⟩ K = vcOp P Γ true σ ⟨d, .unOp o c x, ty, pos, after, g⟩ K := rfl
theorem ve_extract {x : Operand} {i : Nat} : vcE P Γ σ ⟨d, .extract x i, ty, pos, after, g⟩ K = vcOp P Γ false σ ⟨d, .extract x i, ty, pos, after, g⟩ K := rfl
theorem ve_fieldAddr {c : TypeId} {x : Operand} {i : Nat} : vcE P Γ σ ⟨d, .fieldAddr c x i, ty, pos, after, g⟩ K = vcOp P Γ false σ ⟨d, .fieldAddr c x i, ty, pos, after, g⟩ K := rfl
theorem vq_fieldAddr {c : TypeId} {x : Operand} {i : Nat} : vcQ P Γ σ ⟨d, .fieldAddr c x i, ty, pos, after, g⟩ K = vcOp P Γ true σ ⟨d, .fieldAddr c x i, ty, pos, after, g⟩ K := rfl
theorem ve_indexAddr {c : TypeId} {x i : Operand} : vcE P Γ σ ⟨d, .indexAddr c x i, ty, pos, after, g⟩ K = vcOp P Γ false σ ⟨d, .indexAddr c x i, ty, pos, after, g⟩ K := rfl
theorem ve_index {c : TypeId} {x i : Operand} : vcE P Γ σ ⟨d, .index c x i, ty, pos, after, g⟩ K = vcOp P Γ false σ ⟨d, .index c x i, ty, pos, after, g⟩ K := rfl
theorem vq_index {c : TypeId} {x i : Operand} : vcQ P Γ σ ⟨d, .index c x i, ty, pos, after, g⟩ K = vcOp P Γ true σ ⟨d, .index c x i, ty, pos, after, g⟩ K := rfl
theorem ve_load {c : TypeId} {x : Operand} : vcE P Γ σ ⟨d, .load c x, ty, pos, after, g⟩ K = vcOp P Γ false σ ⟨d, .load c x, ty, pos, after, g⟩ K := rfl
theorem vq_load {c : TypeId} {x : Operand} : vcQ P Γ σ ⟨d, .load c x, ty, pos, after, g⟩ K = vcOp P Γ true σ ⟨d, .load c x, ty, pos, after, g⟩ K := rfl
theorem ve_nilCheck {x : Operand} : vcE P Γ σ ⟨d, .nilCheck x, ty, pos, after, g⟩ K = vcOp P Γ false σ ⟨d, .nilCheck x, ty, pos, after, g⟩ K := rfl
theorem vq_nilCheck {x : Operand} : vcQ P Γ σ ⟨d, .nilCheck x, ty, pos, after, g⟩ K = vcOp P Γ true σ ⟨d, .nilCheck x, ty, pos, after, g⟩ K := rfl
theorem ve_build {c : TypeId} {ps : Array (Nat × Operand)} : vcE P Γ σ ⟨d, .build c ps, ty, pos, after, g⟩ K = vcOp P Γ false σ ⟨d, .build c ps, ty, pos, after, g⟩ K := rfl
theorem ve_alloc {c : TypeId} : vcE P Γ σ ⟨d, .alloc c, ty, pos, after, g⟩ K = vcOp P Γ false σ ⟨d, .alloc c, ty, pos, after, g⟩ K := rfl
theorem ve_box {c : TypeId} {x : Operand} : vcE P Γ σ ⟨d, .box c x, ty, pos, after, g⟩ K = vcOp P Γ false σ ⟨d, .box c x, ty, pos, after, g⟩ K := rfl
theorem ve_store {c : TypeId} {x y : Operand} : vcE P Γ σ ⟨d, .store c x y, ty, pos, after, g⟩ K = vcOp P Γ false σ ⟨d, .store c x y, ty, pos, after, g⟩ K := rfl
theorem vq_store {c : TypeId} {x y : Operand} : vcQ P Γ σ ⟨d, .store c x y, ty, pos, after, g⟩ K = vcOp P Γ true σ ⟨d, .store c x y, ty, pos, after, g⟩ K := rfl
theorem ve_buildSlice {c : TypeId} {k : Nat} {ps : Array (Nat × Operand)} : vcE P Γ σ ⟨d, .buildSlice c k ps, ty, pos, after, g⟩ K = vcOp P Γ false σ ⟨d, .buildSlice c k ps, ty, pos, after, g⟩ K := rfl
theorem vq_buildSlice {c : TypeId} {k : Nat} {ps : Array (Nat × Operand)} : vcQ P Γ σ ⟨d, .buildSlice c k ps, ty, pos, after, g⟩ K = vcOp P Γ true σ ⟨d, .buildSlice c k ps, ty, pos, after, g⟩ K := rfl
theorem ve_nextS {x : Operand} : vcE P Γ σ ⟨d, .next x true, ty, pos, after, g⟩ K = vcOp P Γ false σ ⟨d, .next x true, ty, pos, after, g⟩ K := rfl
theorem ve_callV {f : Operand} {as : Array Operand} {ts : Array TypeId} : vcE P Γ σ ⟨d, .call { callee := .value f, args := as, argTypes := ts }, ty, pos, after, g⟩ K = vcOp P Γ false σ ⟨d, .call { callee := .value f, args := as, argTypes := ts }, ty, pos, after, g⟩ K := rfl
theorem ve_append {as : Array Operand} {ts : Array TypeId} : vcE P Γ σ ⟨d, .call { callee := .builtin .append, args := as, argTypes := ts }, ty, pos, after, g⟩ K = vcOp P Γ false σ ⟨d, .call { callee := .builtin .append, args := as, argTypes := ts }, ty, pos, after, g⟩ K := rfl
theorem vq_bin {op : BinOp} {c c2 : TypeId} {x y : Operand} : vcQ P Γ σ ⟨d, .binOp op c x y c2, ty, pos, after, g⟩ K = vcOp P Γ true σ ⟨d, .binOp op c x y c2, ty, pos, after, g⟩ K := rfl
theorem ve_bin {op : BinOp} {c c2 : TypeId} {x y : Operand} : vcE P Γ σ ⟨d, .binOp op c x y c2, ty, pos, after, g⟩ K = binE P Γ false ⟨d, .binOp op c x y c2, ty, pos, after, g⟩ c op (ev σ x) (ev σ y) d K σ := rfl
theorem binE_v {o : Oper} {c : TypeId} {op : BinOp} {p : Value} {b : AV} : binE P Γ false o c op (.v p) b d K σ = vcOp P Γ false σ o K := rfl
theorem binE_ptr {o : Oper} {c : TypeId} {op : BinOp} {p k : Nat} {b : AV} : binE P Γ false o c op (.ptr p k) b d K σ = vcOp P Γ false σ o K := rfl
omit [Tabs] in
theorem qLen_sl {c : TypeId} {l s : Nat} {xs : List AV} {ts : Array TypeId} : qLen P m c (.sl l s xs) ts ty = lenA P c (.sl l s xs) ts ty := rfl
omit [Tabs] in
theorem qLen_v {c : TypeId} {x : Value} {ts : Array TypeId} : qLen P m c (.v x) ts ty = lenA P c (.v x) ts ty := rfl
theorem vq_len {x : Operand} {c : TypeId} : vcQ P Γ σ ⟨d, .call { callee := .builtin .len, args := List.toArray [x], argTypes := List.toArray [c] }, ty, pos, after, g⟩ K = popC (qLen P σ.m c (ev σ x) (List.toArray [c]) ty) d K σ := by
  rw [← popC_ex]; rfl
theorem ve_len {x : Operand} {c : TypeId} : vcE P Γ σ ⟨d, .call { callee := .builtin .len, args := List.toArray [x], argTypes := List.toArray [c] }, ty, pos, after, g⟩ K = popC (qLen P σ.m c (ev σ x) (List.toArray [c]) ty) d K σ := by
  rw [← popC_ex]
  show lenE P c (ev σ x) (List.toArray [c]) ty d K σ = _
  cases ev σ x with
  | mp ob =>
    unfold lenE qLen
    simp only
    split
    · rename_i k e es cl hu ho
      refine propext ⟨fun ⟨k', e', es', cl', h1, h2, h3⟩ => ?_, fun ⟨a, h1, h2⟩ => ?_⟩
      · rw [ho] at h2
        cases h2
        exact ⟨_, rfl, h3⟩
      · cases h1; exact ⟨k, e, es, cl, hu, ho, h2⟩
    · rename_i hno
      refine propext ⟨fun ⟨k', e', es', cl', h1, h2, h3⟩ => absurd h2 (hno k' e' es' cl' h1), fun ⟨a, h1, h2⟩ => by cases h1⟩
  | _ => rfl
-- ranges
theorem ve_range {c : TypeId} {x : Operand} : vcE P Γ σ ⟨d, .range c x, ty, pos, after, g⟩ K = rangeE P c (ev σ x) d K σ (vcOp P Γ false σ ⟨d, .range c x, ty, pos, after, g⟩ K) := rfl
theorem rangeE_v {c : TypeId} {x : Value} {no : Prop} : rangeE P c (.v x) d K σ no = no := rfl
-- a call in a region that draws its order
def callQ [Tabs] (P : Program) (Γ : Env) (f : AV) (as : List AV) (d : Option Nat) (K : AS → Prop) (σ : AS) : Prop := match f with
  | .fn g caps => callQ2 (Γ.get g) g (as ++ caps)
  | _ => False
where callQ2 (o : Option Con) (g : FuncId) (as : List AV) : Prop := match o with
  | none => ∃ r, Still P σ.m g as r ∧ cont σ d r K
  | some _ => vcCall P Γ true σ g as d K
theorem vq_call {f : Operand} {as : List Operand} {ts : List TypeId} : vcQ P Γ σ ⟨d, .call { callee := .value f, args := List.toArray as, argTypes := List.toArray ts }, ty, pos, after, g⟩ K = (as.length = ts.length ∧ callQ P Γ (ev σ f) (evTs P σ as ts) d K σ) := by
  have e : ∀ (as : List Operand) (ts : List TypeId), List.zipWith (fun x t => evT P t σ x) as ts = evTs P σ as ts := by
    intro as
    induction as with
    | nil => intro ts; simp [evTs]
    | cons x r ih => intro ts; cases ts <;> simp [evTs, ih]
  unfold callQ callQ.callQ2
  show (as.toArray.size = ts.toArray.size ∧ _) = _
  simp only [List.size_toArray, e]
  rfl
theorem callQ_fn {f : FuncId} {caps as : List AV} : callQ P Γ (.fn f caps) as d K σ = callQ.callQ2 P Γ d K σ (Γ.get f) f (as ++ caps) := rfl
theorem callQ_some {o : Con} {f : FuncId} {as : List AV} : callQ.callQ2 P Γ d K σ (some o) f as = vcCall P Γ true σ f as d K := rfl
end
set_option linter.defProp false
/-- The rules for code where maps may be. -/
def mapRules :=
  (And.intro @vm_skip (And.intro @vm_region (And.intro @plainM_none (And.intro @vm_drawn (And.intro @drawnM_some (And.intro @drawnM_none (And.intro @vm_seq (And.intro @vm_cond (And.intro @vm_block (And.intro @vm_exit (And.intro @vm_goto (And.intro @vm_ret (And.intro @fwdM_ret (And.intro @oe_nil (And.intro @oe_cons (And.intro @thenE_eq (And.intro @skipE_eq (And.intro @oe_guard (And.intro @oq_nil (And.intro @oq_cons (And.intro @thenQq_eq (And.intro @skipQq_eq (And.intro @oq_guard (And.intro @ve_move (And.intro @vq_move (And.intro @ve_assign (And.intro @vq_assign (And.intro @ve_pick (And.intro @vq_pick (And.intro @ve_un (And.intro @vq_un (And.intro @ve_extract (And.intro @ve_fieldAddr (And.intro @vq_fieldAddr (And.intro @ve_indexAddr (And.intro @ve_index (And.intro @vq_index (And.intro @ve_load (And.intro @vq_load (And.intro @ve_nilCheck (And.intro @vq_nilCheck (And.intro @ve_build (And.intro @ve_alloc (And.intro @ve_box (And.intro @ve_store (And.intro @vq_store (And.intro @ve_buildSlice (And.intro @vq_buildSlice (And.intro @ve_nextS (And.intro @ve_callV (And.intro @ve_append (And.intro @vq_bin (And.intro @ve_bin (And.intro @binE_v (And.intro @binE_ptr (And.intro @qLen_sl (And.intro @qLen_v (And.intro @vq_len (And.intro @ve_len (And.intro @ve_range (And.intro @rangeE_v (And.intro @vq_call (And.intro @callQ_fn (And.intro @callQ_some (And.intro @lookup_nil @lookup_cons)))))))))))))))))))))))))))))))))))))))))))))))))))))))))))))))))
end Go.Rw
end
