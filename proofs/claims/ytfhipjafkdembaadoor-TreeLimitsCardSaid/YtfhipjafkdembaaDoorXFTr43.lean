/-
  law13: what the document fixes; a tree's Do (as in Tr33, for a seat without paths). A text of a length. A hundred files, and what may be put into them: what TreeLimits asks. Plain. TreeLimits answers true. From the laws' functions to their rows: the tables as they are laid; a world for the witness.
-/
import Derived.Test.YtfhipjafkdembaaDoorXFTr10
import Derived.Test.YtfhipjafkdembaaDoorXFSh
import Derived.Test.YtfhipjafkdembaaDoorRwG
import Derived.Test.YtfhipjafkdembaaDoorCards
import Derived.Test.YtfhipjafkdembaaDoorTie
import Derived.Lib.LaidIn
import Derived.Lib.LaidU8T
import Derived.Deep.DeepHandedRow
import Derived.Deep.DeepWitnessRowRef
import Derived.ProofKit
import Derived.OpenShut
import Derived.SizedLaws
import Derived.SevenTiedAt
set_option linter.unusedSimpArgs false
set_option linter.unusedVariables false
set_option linter.defProp false
set_option linter.unusedSectionVars false

-- FTr43
section
namespace Go.Proofs
open Go Go.Rw
set_option maxRecDepth 100000
set_option linter.unusedSimpArgs false
set_option linter.unusedVariables false

section
variable {Γ : Env} {n : Nat} {t : Nat → AV} {hd : Nat → Nat → AV} {d : Option Nat} {K : AS → Prop} {nh nl : Nat} {h : Nat → Option AO} {fm : Nat → Nat} {lv : Nat → Option (Nat × Nat)} {mu : Bool}
theorem call_tload0 (hC : Γ.get 9 = none) {l : List Nd} (hl : l.length ≤ 1000000) (ht : ∀ x ∈ l, x.nm.length ≤ 1099511627776 ∧ x.text.length ≤ 1099511627776) {lt : Nat} (hS : ¬ sndN l)
    (hk2 : cont ⟨n, t, hd, ⟨nh, h, nl, fm, kill fm (AV.tagsL [.sl lt 5 (nodes l)]) lv, mu⟩⟩ d (.tup [.v (.pointer none), .v (.int .i64 1)]) K) : vcCall Tryd.prog Γ false ⟨n, t, hd, ⟨nh, h, nl, fm, lv, mu⟩⟩ 9 [.sl lt 5 (nodes l)] d K := by
  refine vcCall_objK tload_good hC ⟨l, hl, ht⟩ [] ⟨by simp, by simp [dnL, dn], by simp [dnOs]⟩ ?_
  rintro objs lvs r ⟨rfl, hp⟩ hll
  rcases hp with ⟨h1, _⟩ | ⟨_, rfl, rfl⟩
  · exact absurd h1 hS
  · show cont ⟨n, t, hd, AM.call ⟨nh, h, nl, fm, kill fm (AV.tagsL [.sl lt 5 (nodes l)] ++ tagsOs h []) lv, mu⟩ [] [] []⟩ d _ K
    rw [AMcall_eq]
    simp only [tagsOs_nil, List.append_nil, embsO_nil, callH_nil, callF_nil, callV_nil, emb_tup, embL_cons, embL_nil, emb_v, List.length_nil, Nat.add_zero, Nat.sub_zero]
    exact hk2
theorem call_tdo (hC : Γ.get 6 = none) {s : TS} {a : Ac} (S : sndN s.l) (ho : okA a) {o ob : Nat} (hT : TreeAt h o ob s) {x : AV} (hx : dn [o, ob] x (aA a)) (ht : AV.tagsL [.ptr o 0, x] = [])
    (hk : ∀ s' : TS, s'.l = (doN s.l a).1 → sndN s'.l → cont ⟨n, t, hd, ⟨nh, upd h ob (some (.map s'.es s'.cl)), nl, fm, lv, mu⟩⟩ d (.v (.int .i64 (doN s.l a).2)) K) : vcCall Tryd.prog Γ false ⟨n, t, hd, ⟨nh, h, nl, fm, lv, mu⟩⟩ 6 [.ptr o 0, x] d K := by
  refine call_mut (s := s) (q := dotN s.l a) tdo_good hC ⟨(s, a), snd_doOk S ho⟩ rfl hT (by simp only [dnL_cons, dnL_nil]; exact ⟨by simp [dn], hx, trivial⟩) ht (fun _ _ _ hp => hp) ?_
  rw [dot_eq S]
  exact fun s' hs => hk s' hs (by rw [hs]; exact snd_do S a)
end
def ax1 : Ac := ⟨1, 1, 0, [97], false, []⟩
def ax2 : Ac := ⟨1, 2, 1, [98], false, []⟩
def ax3 : Ac := ⟨1, 1, 0, [99], false, []⟩
def nx1 : List Nd := [⟨1, 0, [97], false, []⟩]
theorem ax_do : doN [] ax1 = (nx1, 0) ∧ doN nx1 ax2 = (nx1, 8) ∧ doN nx1 ax3 = (nx1, 6) := by decide +kernel
theorem ax_no : ¬ sndN [⟨1, 1, [97], true, []⟩] := fun S => by
  obtain ⟨k, hk⟩ := S.rt _ (List.mem_singleton.2 rfl)
  have : ∀ k, upN [⟨1, 1, [97], true, []⟩] k 1 = 1 := fun k => by
    induction k with
    | zero => rfl
    | succ k ih => rw [up_succ, ih]; decide
  have := this k
  simp only at hk
  omega
theorem ax_ok (k id par : Int) (nm : List UInt8) (dir : Bool) (h : nm.length ≤ 10) : okA ⟨k, id, par, nm, dir, []⟩ := ⟨okL_nil, by simp only; omega⟩
set_option maxHeartbeats 2000000 in
theorem awake13_good : Rw.Good Tryd.prog 4 trueCon' := by
  have hΓ : GoodEnv Tryd.prog [(10, nameCon)] := (goodEnv_cons name_good goodEnv_nil)
  refine good_fna (nn := 52) Tryd.func4 (by kernel_rfl) rfl (show Tryd.f4.results.toList = [.tmp 0] from rfl) (fun _ => rfl) (fun x => by simp [AV.erL, AV.er]) ?_
  rintro ⟨⟩
  refine vcM_ok hΓ (Ws := []) _ ?_
  obtain ⟨d1, d2, d3⟩ := ax_do
  simp only [goRules, coreRules, tiRules, unRules, AS_of_eq, ← decide_not, seval, mapRules, objRules,]
  refine call_tnew (by simp [get_cons, get_nil]) ?_
  simp only [goRules, coreRules, tiRules, unRules, AS_of_eq, ← decide_not, seval, mapRules, objRules,]
  (repeat (with_reducible refine And.intro ?_ ?_; focus (first | omega | exact mixed1 | kernel_rfl)))
  refine call_tdo (s := ts0) (a := ax1) (o := 0) (ob := 1) (by simp [get_cons, get_nil]) snd_nil (ax_ok _ _ _ _ _ (by decide)) (by simp [TreeAt, upd, ts0]) (by simp [dn, dnL, aA, ax1, comps_nil]) (by simp [AV.tagsL, AV.tags]) ?_
  rw [show ts0.l = [] from rfl, d1]
  intro s1 hs1 S1
  simp only [goRules, coreRules, tiRules, unRules, AS_of_eq, ← decide_not, seval, mapRules, objRules,]
  (repeat (with_reducible refine And.intro ?_ ?_; focus (first | omega | exact mixed1 | kernel_rfl)))
  refine call_tdo (s := s1) (a := ax2) (o := 0) (ob := 1) (by simp [get_cons, get_nil]) S1 (ax_ok _ _ _ _ _ (by decide)) (by simp [TreeAt, upd]) (by simp [dn, dnL, aA, ax2, comps_nil]) (by simp [AV.tagsL, AV.tags]) ?_
  rw [hs1, d2]
  intro s2 hs2 S2
  simp only [goRules, coreRules, tiRules, unRules, AS_of_eq, ← decide_not, seval, mapRules, objRules,]
  (repeat (with_reducible refine And.intro ?_ ?_; focus (first | omega | exact mixed1 | kernel_rfl)))
  refine call_tdo (s := s2) (a := ax3) (o := 0) (ob := 1) (by simp [get_cons, get_nil]) S2 (ax_ok _ _ _ _ _ (by decide)) (by simp [TreeAt, upd]) (by simp [dn, dnL, aA, ax3, comps_nil]) (by simp [AV.tagsL, AV.tags]) ?_
  rw [hs2, d3]
  intro s3 hs3 S3
  simp only [goRules, coreRules, tiRules, unRules, AS_of_eq, ← decide_not, seval, mapRules, objRules,]
  refine call_tload0 (l := [⟨1, 1, [97], true, []⟩]) (lt := 2) (by simp [get_cons, get_nil]) (by decide) (by simp) ax_no ?_
  simp only [goRules, coreRules, tiRules, unRules, AS_of_eq, ← decide_not, seval, mapRules, objRules,]
  refine call_name (by simp [get_cons]) (by decide) ?_
  rw [show nameOk [97, 46, 98] = true from by decide]
  simp only [goRules, coreRules, tiRules, unRules, AS_of_eq, ← decide_not, seval, mapRules, objRules,]
  (repeat (with_reducible refine And.intro ?_ ?_; focus (first | omega | exact mixed1 | kernel_rfl)))
  refine call_name (by simp [get_cons]) (by decide) ?_
  rw [show nameOk [46, 46] = false from by decide]
  simp only [goRules, coreRules, tiRules, unRules, AS_of_eq, ← decide_not, seval, mapRules, objRules,]
  (repeat (with_reducible refine And.intro ?_ ?_; focus (first | omega | exact mixed1 | kernel_rfl)))
  refine call_tnodes (s := s3) (o := 0) (ob := 1) (by simp [get_cons, get_nil]) (snd_ok S3).1 (by simp [TreeAt, upd]) ?_
  simp only [goRules, coreRules, tiRules, unRules, AS_of_eq, ← decide_not, seval, mapRules, objRules, nodes_len, hs3, nx1]
theorem call_awake13 {Γ : Env} (hf : Γ.get 4 = some trueCon') {n : Nat} {t : Nat → AV} {hd : Nat → Nat → AV} {nh nl : Nat} {h : Nat → Option AO} {fm : Nat → Nat} {lv : Nat → Option (Nat × Nat)} {mu : Bool} {dr : Bool} {d : Option Nat} {K : AS → Prop}
    (hk : cont ⟨n, t, hd, ⟨nh, h, nl, fm, lv, mu⟩⟩ d (.v (.bool true)) K) : vcCall Tryd.prog Γ dr ⟨n, t, hd, ⟨nh, h, nl, fm, lv, mu⟩⟩ 4 [] d K :=
  vcCall_fn (C := trueCon') (i := ()) (r := .v (.bool true)) hf rfl rfl (by simp [AV.erL]) rfl (fun _ h => h) (by simp only [AV.er]; exact hk)
end Go.Proofs
end

-- FUo12
section
namespace Go.Proofs
open Go Go.Rw
set_option maxRecDepth 100000
set_option linter.unusedSimpArgs false
set_option linter.unusedVariables false

def blkF (k : Int) (i : Nat) : Int := 97 + (k * 7 + i) % 26
def blkI (k : Int) (n i : Nat) : List Int := (List.range i).map (blkF k) ++ List.replicate (n - i) 0
def blk (k : Int) (n : Nat) : List UInt8 := (List.range n).map fun i => UInt8.ofNat (blkF k i).toNat
theorem blkI_len {k : Int} {n i : Nat} (h : i ≤ n) : (blkI k n i).length = n := by simp [blkI]; omega
theorem blkI_set {k : Int} {n i : Nat} (h : i < n) : (blkI k n i).set i (blkF k i) = blkI k n (i + 1) := by
  unfold blkI
  rw [List.set_append_right _ _ (by simp), List.length_map, List.length_range, Nat.sub_self, show n - i = (n - (i + 1)) + 1 by omega, List.replicate_succ, List.set_cons_zero, List.range_succ, List.map_append]
  simp
theorem ints_set {k : IntKind} {l : List Int} {i : Nat} {x : Int} : (ints k l).set i (.v (.int k x)) = ints k (l.set i x) := by simp [ints, List.map_set]
theorem ints_rep {k : IntKind} {n : Nat} {x : Int} : List.replicate n (AV.v (.int k x)) = ints k (List.replicate n x) := by simp [ints]
theorem blkF_range {k : Int} {i : Nat} : 97 ≤ blkF k i ∧ blkF k i ≤ 122 := by unfold blkF; omega
theorem blkI_all {k : Int} {n : Nat} : (blkI k n n).map (fun x => UInt8.ofNat x.toNat) = blk k n := by simp [blkI, blk]
abbrev blockCon : Con where
  ι := { n : Nat // n ≤ 1099511627776 } × { k : Int // 0 ≤ k ∧ k ≤ 1000 }
  args := fun p => [.v (.int .i64 p.1.1), .v (.int .i64 p.2.1)]
  post := fun p r => r = .v (sv (blk p.2.1 p.1.1))
  plain := true
theorem block_good : Rw.Good Tryd.prog 7 blockCon := by
  have hΓ : GoodEnv Tryd.prog [(15, roundCon)] := (goodEnv_cons round_good goodEnv_nil)
  refine good_fn (nn := 26) hΓ Tryd.func7 (by kernel_rfl) rfl (show Tryd.f7.results.toList = [.tmp 4] from rfl) (fun _ => rfl) (fun _ => rfl) ?_
  rintro ⟨⟨n, hn⟩, ⟨k, hk1, hk2⟩⟩
  simp only [goRules, coreRules, tiRules, unRules, AS_of_eq, ← decide_not, seval, ints_rep]
  (repeat (with_reducible refine And.intro ?_ ?_; focus (first | omega | exact mixed1 | kernel_rfl)))
  obtain ⟨St, hSt⟩ : ∃ St : { i : Nat // i ≤ n } → AS, ∀ i, St i = AS.of 26 [(0, .v (.int .i64 n)), (1, .v (.int .i64 k)), (5, .sl 2 1 (ints .u8 (blkI k n i.1))), (6, .v (.int .i64 i.1))] [] [(n, 5)] := ⟨_, fun _ => rfl⟩
  refine vc_loop hΓ St (fun i => n - i.1) ⟨0, by omega⟩ (by rw [hSt]; refine weak_go [] [.live 2] ?_; simp only [goRules, coreRules, tiRules, unRules, AS_of_eq, ← decide_not, seval, blkI, List.range_zero, List.map_nil, List.nil_append, Nat.sub_zero] <;> ((repeat' apply And.intro) <;> first | rfl | omega | trivial)) ?_
  rintro ⟨i, hi⟩
  rw [hSt]
  simp only
  have hbl := blkI_len (k := k) hi
  simp only [goRules, coreRules, tiRules, unRules, AS_of_eq, ← decide_not, seval]
  (with_reducible first | refine branchP_dec (fun h => ?_) (fun h => ?_) | refine guardB_dec (fun h => ?_) (fun h => ?_))
  · have hw1 : IntKind.i64.wrap (k * 7) = k * 7 := wrap_i64 (by omega) (by omega)
    have hw2 : IntKind.i64.wrap (k * 7 + i) = k * 7 + i := wrap_i64 (by omega) (by omega)
    have hw3 : IntKind.i64.wrap (97 + (k * 7 + i) % 26) = 97 + (k * 7 + i) % 26 := wrap_i64 (by omega) (by omega)
    have hw4 : IntKind.u8.wrap (97 + (k * 7 + i) % 26) = 97 + (k * 7 + i) % 26 := by simp only [IntKind.wrap, IntKind.signed, IntKind.bits]; simp; omega
    have hw5 : IntKind.i64.wrap ((i : Int) + 1) = (i : Int) + 1 := wrap_i64 (by omega) (by omega)
    simp only [goRules, coreRules, tiRules, unRules, AS_of_eq, ← decide_not, seval, h, hw1, hw2]
    refine call_round (by simp [get_cons]) (by omega) (by omega) ?_
    have he : (ints .u8 (blkI k n i)).set i (setEl ((ints .u8 (blkI k n i)).getD i .any) 0 [.v (.int .u8 (97 + (k * 7 + i) % 26))]) = ints .u8 (blkI k n (i + 1)) := by
      rw [ints_getD (by omega), setEl_v, ints_set, ← blkI_set (by omega)]; rfl
    simp only [goRules, coreRules, tiRules, unRules, AS_of_eq, ← decide_not, seval, hw3, hw4, hw5, ints_len, hbl, he]
    refine ⟨by omega, by omega, ?_⟩
    refine weak_again ⟨i + 1, by omega⟩ (by simp only; omega) ?_
    rw [hSt]; refine weak_go [] [.live 2] ?_
    simp only [goRules, coreRules, tiRules, unRules, AS_of_eq, ← decide_not, seval, ints_len, hbl] <;> ((repeat' apply And.intro) <;> first | rfl | omega | trivial)
  · have hin : i = n := by omega
    simp only [goRules, coreRules, tiRules, unRules, AS_of_eq, ← decide_not, seval, h, bytesOf_ints, hin, blkI_all]
theorem call_block {Γ : Env} (hf : Γ.get 7 = some blockCon) {σ : AS} {dr : Bool} {n k : Int} {d : Option Nat} {K : AS → Prop} (h1 : 0 ≤ n ∧ n ≤ 1099511627776) (h2 : 0 ≤ k ∧ k ≤ 1000)
    (hk : cont σ d (.v (sv (blk k n.toNat))) K) : vcCall Tryd.prog Γ dr σ 7 [.v (.int .i64 n), .v (.int .i64 k)] d K :=
  vcCall_plain (C := blockCon) (i := (⟨n.toNat, by omega⟩, ⟨k, h2⟩)) hf rfl rfl rfl (by
    show [AV.v (.int .i64 n), AV.v (.int .i64 k)] = [AV.v (.int .i64 (n.toNat : Int)), AV.v (.int .i64 k)]
    rw [show (n.toNat : Int) = n by omega]) (fun _ h => h) rfl hk
theorem blk_okc : ∀ (k : Int) (n : Nat), ∀ c ∈ (List.range n).map (fun i => (blkF k i).toNat), okc c := by
  intro k n c hc
  simp only [List.mem_map, List.mem_range] at hc
  obtain ⟨i, _, rfl⟩ := hc
  have := blkF_range (k := k) (i := i)
  have h2 : 97 ≤ (blkF k i).toNat ∧ (blkF k i).toNat ≤ 122 := by omega
  exact ⟨by omega, by omega, by omega⟩
theorem encs_ascii : ∀ l : List Nat, (∀ c ∈ l, c < 128) → encs l = l.map bt
  | [], _ => rfl
  | c :: l, h => by
    have e : enc c = [bt c] := by unfold enc; rw [if_pos (h c (by simp))]
    rw [encs_cons, encs_ascii l fun x hx => h x (by simp [hx]), e]; rfl
theorem blk_encs (k : Int) (n : Nat) : blk k n = encs ((List.range n).map fun i => (blkF k i).toNat) := by
  rw [encs_ascii _ fun c hc => by
    simp only [List.mem_map, List.mem_range] at hc
    obtain ⟨i, _, rfl⟩ := hc
    have := blkF_range (k := k) (i := i)
    omega]
  simp [blk, bt]
theorem blk_len (k : Int) (n : Nat) : (blk k n).length = n := by simp [blk]
theorem blk_lc (k : Int) (n : Nat) : lc (blk k n) = n := by rw [blk_encs, lc_encs _ (blk_okc k n)]; simp
theorem blk_pts (k : Int) (n : Nat) : (pts (blk k n)).isSome = true := by rw [blk_encs, pts_enc (blk_okc k n)]; rfl
end Go.Proofs
end

-- FTr41
section
namespace Go.Proofs
open Go Go.Rw
set_option maxRecDepth 100000
set_option linter.unusedSimpArgs false
set_option linter.unusedVariables false

def insT (i : Int) (k : Nat) : List Cp := [⟨2, 0, blk i k⟩]
theorem insT_ok (i : Int) {k : Nat} (h : 1 ≤ k ∧ k ≤ 2000) : okL (insT i k) ∧ errI [] (insT i k) = 0 ∧ doneB [] (insT i k) = blk i k := by
  have hlc := blk_lc i k
  have hl := blk_len i k
  have hp := blk_pts i k
  have hne : blk i k ≠ [] := by intro h; rw [h] at hl; simp at hl; omega
  have e2 : normalL (insT i k) = true := by simp [insT, normalL, normalF, sound, follows, hne, hp]
  have e3 : baseL (insT i k) = 0 := by simp only [insT, baseL, baseF, addI]; simp
  have e4 : outL (insT i k) = k := by simp only [insT, outL, outF, addI, hlc]; simp; omega
  have hc : checkI (insT i k) = 0 := by rw [checkI, if_neg (by simp [insT]), if_neg (by rw [e2]; decide), e3, e4, if_neg (by omega)]
  have he : errI [] (insT i k) = 0 := by
    unfold errI
    rw [if_pos hc, e3]
    rfl
  refine ⟨⟨by simp [insT], by simp only [insT, tot, hl]; omega, by simp [insT]⟩, he, ?_⟩
  unfold doneB
  rw [if_pos he]
  have hs : someC (⟨2, 0, blk i k⟩ : Cp) = true := by simp [someC, hlc]; omega
  rw [insT, do_ins hs rfl, doL, List.append_nil]
  exact (encs_cpts hp).1
def nmL (i : Nat) : List UInt8 := [110] ++ blk (i : Int) 1 ++ blk ((i : Int) / 26) 2
def ndL (j i : Nat) : Nd := ⟨(i : Int) + 1, 0, nmL i, false, if i < j then blk (i : Int) 2000 else []⟩
def treeL (n j : Nat) : List Nd := (List.range n).map (ndL j)
def actC (i : Nat) : Ac := ⟨1, (i : Int) + 1, 0, nmL i, false, []⟩
def actE (i : Nat) : Ac := ⟨4, (i : Int) + 1, 0, [], false, insT i 2000⟩
theorem treeL_len (n j : Nat) : (treeL n j).length = n := by simp [treeL]
theorem treeL_get {n j i : Nat} (h : i < n) : (treeL n j)[i]? = some (ndL j i) := by simp [treeL, h]
set_option maxHeartbeats 4000000 in
theorem cre_all : ∀ i, i < 102 → doN (treeL (min i 100) 0) (actC i) = (treeL (min (i + 1) 100) 0, if i < 100 then 0 else 4) := by decide +kernel
theorem treeL_snd : ∀ n, n ≤ 100 → sndN (treeL n 0)
  | 0, _ => by rw [show treeL 0 0 = [] from rfl]; exact snd_nil
  | n + 1, h => by
    have h1 := snd_do (treeL_snd n (by omega)) (actC n)
    have h2 := cre_all n (by omega)
    rw [show min n 100 = n by omega, show min (n + 1) 100 = n + 1 by omega] at h2
    rwa [h2] at h1
theorem treeL_ids (n j : Nat) : ((treeL n j).map Nd.id).Nodup := by
  unfold treeL
  rw [List.map_map, List.nodup_iff_pairwise_ne, List.pairwise_map]
  exact List.pairwise_lt_range.imp fun h => by simp only [Function.comp, ndL]; omega
theorem treeL_ndx {n j i : Nat} (h : i < n) : ndx ((i : Int) + 1) (treeL n j) = i := ndx_self (x := ndL j i) (treeL_ids n j) i (treeL_get h)
theorem treeL_gN {n j i : Nat} (h : i < n) : gN (treeL n j) ((i : Int) + 1) = ndL j i := by
  unfold gN
  rw [treeL_ndx h, List.getD_eq_getElem?_getD, treeL_get h]; rfl
theorem cnt_blk (i : Int) (k : Nat) : cnt (blk i k) = k := by rw [cnt_cpts, ← lc_cpts (blk_pts i k)]; exact blk_lc i k
theorem treeL_tot (j : Nat) : ∀ n, totN (treeL n j) = 2000 * min n j
  | 0 => by simp [treeL, totN]
  | n + 1 => by
    have ih := treeL_tot j n
    unfold treeL at ih ⊢
    rw [List.range_succ, List.map_append, tot_app, ih]
    simp only [List.map_cons, List.map_nil, totN, ndL, Nat.add_zero]
    by_cases h : n < j
    · rw [if_pos h, cnt_blk]; omega
    · rw [if_neg h, show cnt [] = 0 from rfl]; omega
theorem treeL_set {n j : Nat} (h : j < n) : (treeL n j).set j ⟨(j : Int) + 1, 0, nmL j, false, blk (j : Int) 2000⟩ = treeL n (j + 1) := by
  apply List.ext_getElem?
  intro i
  rw [List.getElem?_set]
  by_cases hi : j = i
  · subst hi
    rw [if_pos rfl, if_pos (by rw [treeL_len]; exact h), treeL_get h]
    simp [ndL]
  · rw [if_neg hi]
    by_cases h2 : i < n
    · rw [treeL_get h2, treeL_get h2]
      unfold ndL
      by_cases h3 : i < j
      · rw [if_pos h3, if_pos (by omega)]
      · rw [if_neg h3, if_neg (by omega)]
    · rw [List.getElem?_eq_none (by rw [treeL_len]; omega), List.getElem?_eq_none (by rw [treeL_len]; omega)]
theorem edi_all {n j : Nat} (h : j < n) : doN (treeL n (min j 5)) (actE j) = (treeL n (min (j + 1) 5), if j < 5 then 0 else 4) := by
  have hd := doN_k4 (l := treeL n (min j 5)) (a := actE j) rfl
  have hn : ndx (actE j).id (treeL n (min j 5)) = j := treeL_ndx h
  have hg : gN (treeL n (min j 5)) (actE j).id = ndL (min j 5) j := treeL_gN h
  have ht : (ndL (min j 5) j).text = [] := by simp only [ndL]; rw [if_neg (by omega)]
  obtain ⟨_, h2, h3⟩ := insT_ok (j : Int) (k := 2000) (by omega)
  rw [if_neg (by rw [hn, treeL_len]; omega), if_neg (by rw [hg]; simp [ndL]), if_neg (by rw [hg, ht]; exact fun hc => hc h2)] at hd
  have hset : totN ((treeL n (min j 5)).set j ⟨(j : Int) + 1, 0, nmL j, false, blk (j : Int) 2000⟩) = 2000 * min j 5 + 2000 := by
    have h4 : j < (treeL n (min j 5)).length := by rw [treeL_len]; exact h
    have h5 := tot_set (treeL n (min j 5)) j h4 ⟨(j : Int) + 1, 0, nmL j, false, blk (j : Int) 2000⟩
    have h6 : (treeL n (min j 5))[j] = ndL (min j 5) j := by
      have := treeL_get (j := min j 5) h
      rw [List.getElem?_eq_getElem h4] at this
      exact Option.some.inj this
    rw [h6, ht, cnt_blk, show cnt [] = 0 from rfl, treeL_tot, show min n (min j 5) = min j 5 by omega] at h5
    exact h5
  have e : (treeL n (min j 5)).set (ndx (actE j).id (treeL n (min j 5))) ⟨(gN (treeL n (min j 5)) (actE j).id).id, (gN (treeL n (min j 5)) (actE j).id).par, (gN (treeL n (min j 5)) (actE j).id).nm, (gN (treeL n (min j 5)) (actE j).id).dir, doneB (gN (treeL n (min j 5)) (actE j).id).text (actE j).ops⟩ = (treeL n (min j 5)).set j ⟨(j : Int) + 1, 0, nmL j, false, blk (j : Int) 2000⟩ := by
    rw [hn, hg, ht, show doneB [] (actE j).ops = blk (j : Int) 2000 from h3]
    rfl
  rw [hd]
  by_cases hj : j < 5
  · rw [if_neg (by rw [e, hset]; omega), e, if_pos hj]
    have e5 : min j 5 = j := by omega
    have e6 : min (j + 1) 5 = j + 1 := by omega
    rw [e5, e6, treeL_set h]
  · rw [if_pos (by rw [e, hset]; omega), if_neg hj, show min (j + 1) 5 = min j 5 by omega]
theorem treeL_snd5 {n : Nat} (hn : n ≤ 100) : ∀ j, j ≤ 5 → j ≤ n → sndN (treeL n j)
  | 0, _, _ => treeL_snd n hn
  | j + 1, h, h2 => by
    have h1 := snd_do (treeL_snd5 hn j (by omega) (by omega)) (actE j)
    have h3 := edi_all (n := n) (j := j) (by omega)
    rw [show min j 5 = j by omega, show min (j + 1) 5 = j + 1 by omega] at h3
    rwa [h3] at h1

def aR1 : Ac := ⟨2, 1, 0, [], false, []⟩
def aC5 : Ac := ⟨1, 500, 0, [122], false, []⟩
def aE5 : Ac := ⟨4, 500, 0, [], false, [⟨2, 0, [97]⟩]⟩
theorem a5_txt : errI [] aE5.ops = 0 ∧ doneB [] aE5.ops = [97] ∧ cnt [97] = 1 := by decide +kernel
theorem tot_mem {l : List Nd} {x : Nd} (h : l[0]? = some x) : totN (l.drop 1) + cnt x.text = totN l := by
  cases l with
  | nil => simp at h
  | cons y l =>
    simp only [List.getElem?_cons_zero, Option.some.injEq] at h
    subst h
    rw [List.drop_one, List.tail_cons, totN]; omega
theorem end_law {N J : Nat} (h1 : 1 ≤ N) (hN : N ≤ 100) (hJ : J ≤ 5) (hJN : J ≤ N) : (doN (treeL N J) aR1).2 = 0 ∧ (doN (doN (treeL N J) aR1).1 aC5).2 = 0 ∧ (doN (doN (doN (treeL N J) aR1).1 aC5).1 aE5).2 = 0 ∧ (doN (doN (doN (treeL N J) aR1).1 aC5).1 aE5).1.length = N := by
  have S0 := treeL_snd5 hN J hJ hJN
  have hn1 : ndx aR1.id (treeL N J) = 0 := treeL_ndx (i := 0) (by omega)
  have hpar : ∀ x ∈ treeL N J, x.par = 0 ∧ x.nm.length = 4 ∧ 1 ≤ x.id ∧ x.id ≤ 100 := fun x hx => by
    unfold treeL at hx
    obtain ⟨i, hi, rfl⟩ := List.mem_map.1 hx
    rw [List.mem_range] at hi
    refine ⟨rfl, by simp [ndL, nmL, blk_len], by simp only [ndL]; omega, by simp only [ndL]; omega⟩
  have d1 : doN (treeL N J) aR1 = ((treeL N J).drop 1, 0) := by
    rw [doN_k2 rfl, if_neg (by rw [hn1, treeL_len]; omega), if_neg, hn1]
    · simp
    · rw [List.any_eq_true]
      rintro ⟨x, hx, hc⟩
      have := (hpar x hx).1
      have hc2 : x.par = 1 := of_decide_eq_true hc
      omega
  have S1 := snd_do S0 aR1
  rw [d1] at S1 ⊢
  simp only at S1 ⊢
  have ht := tot_mem (treeL_get (j := J) (show 0 < N by omega))
  rw [treeL_tot] at ht
  have htx : cnt (ndL J 0).text = if 0 < J then 2000 else 0 := by
    simp only [ndL]
    by_cases h : 0 < J
    · rw [if_pos h, if_pos h]; exact cnt_blk _ _
    · rw [if_neg h, if_neg h]; rfl
  rw [htx] at ht
  have ht2 : totN ((treeL N J).drop 1) ≤ 8000 := by
    by_cases h : 0 < J
    · rw [if_pos h] at ht; omega
    · rw [if_neg h] at ht; omega
  have hlen : ((treeL N J).drop 1).length = N - 1 := by rw [List.length_drop, treeL_len]
  have hp2 : ∀ x ∈ (treeL N J).drop 1, x.par = 0 ∧ x.nm.length = 4 ∧ 1 ≤ x.id ∧ x.id ≤ 100 := fun x hx => hpar x (List.mem_of_mem_drop hx)
  clear htx ht d1 hn1 hpar S0
  generalize (treeL N J).drop 1 = T at *
  have hn5 : ¬ ndx aC5.id T < T.length := fun hc => by
    obtain ⟨x, hx, he⟩ := (ndx_mem _ _).1 hc
    have := (hp2 x hx).2.2.2
    simp only [aC5] at he
    omega
  have hkid : placeI T aC5.par aC5.nm 0 = 0 := by
    have hk : ¬ 1 ≤ kid 0 [122] T := fun hc => by
      obtain ⟨x, hx, _, h4, _⟩ := kid_iff (fun x hx => (hp2 x hx).2.2.1) hc rfl
      have := (hp2 x hx).2.1
      rw [h4] at this
      simp at this
    have hk2 := kid_some S1 (par := 0) (nm := [122]) (m := T) fun x hx => (hp2 x hx).2.2.1
    show placeI T 0 [122] 0 = 0
    unfold placeI
    rw [if_pos rfl, childI, if_neg]
    rintro ⟨h5, _⟩
    rcases hk2 with h6 | h6
    · omega
    · exact hk h6
  have d2 : doN T aC5 = (T.take (atN aC5.id T) ++ ⟨500, 0, [122], false, []⟩ :: T.drop (atN aC5.id T), 0) := by
    rw [doN_k1 rfl, if_neg (by simp only [aC5]; decide), if_neg hn5, if_neg (by rw [hkid]; decide), if_neg (by omega)]
    rfl
  have S2 := snd_do S1 aC5
  rw [d2] at S2 ⊢
  simp only at S2 ⊢
  have hl2 : (T.take (atN aC5.id T) ++ (⟨500, 0, [122], false, []⟩ : Nd) :: T.drop (atN aC5.id T)).length = N := by
    have e := congrArg List.length (List.take_append_drop (atN aC5.id T) T)
    rw [List.length_append, hlen] at e
    rw [List.length_append, List.length_cons]; omega
  have ht3 : totN (T.take (atN aC5.id T) ++ (⟨500, 0, [122], false, []⟩ : Nd) :: T.drop (atN aC5.id T)) = totN T := by
    have e := congrArg totN (List.take_append_drop (atN aC5.id T) T)
    rw [tot_app] at e
    rw [tot_app, totN, show cnt ([] : List UInt8) = 0 from rfl]; omega
  have hm : (⟨500, 0, [122], false, []⟩ : Nd) ∈ T.take (atN aC5.id T) ++ (⟨500, 0, [122], false, []⟩ : Nd) :: T.drop (atN aC5.id T) := List.mem_append_right _ (List.mem_cons_self ..)
  generalize T.take (atN aC5.id T) ++ (⟨500, 0, [122], false, []⟩ : Nd) :: T.drop (atN aC5.id T) = L at *
  have hg : gN L aE5.id = ⟨500, 0, [122], false, []⟩ := gN_self S2.srt hm
  have hx : ndx aE5.id L < L.length := (ndx_mem _ _).2 ⟨_, hm, rfl⟩
  have hL : L[ndx aE5.id L] = ⟨500, 0, [122], false, []⟩ := by
    have := (gN_get ((hasN_iff L aE5.id).2 hx)).2.1
    rw [← this, hg]
  obtain ⟨q1, q2, q3⟩ := a5_txt
  have h7 := tot_set L (ndx aE5.id L) hx ⟨500, 0, [122], false, [97]⟩
  rw [hL, q3, show cnt ([] : List UInt8) = 0 from rfl] at h7
  have e : L.set (ndx aE5.id L) ⟨(gN L aE5.id).id, (gN L aE5.id).par, (gN L aE5.id).nm, (gN L aE5.id).dir, doneB (gN L aE5.id).text aE5.ops⟩ = L.set (ndx aE5.id L) ⟨500, 0, [122], false, [97]⟩ := by rw [hg, q2]
  have d3 : doN L aE5 = (L.set (ndx aE5.id L) ⟨500, 0, [122], false, [97]⟩, 0) := by
    rw [doN_k4 rfl, if_neg (fun hc => hc hx), if_neg (by rw [hg]; decide), if_neg (by rw [hg]; exact fun hc => hc q1), if_neg (by rw [e]; omega), e]
  rw [d3]
  first
    | exact ⟨rfl, by rw [List.length_set]; exact hl2⟩
    | exact ⟨trivial, trivial, rfl, by rw [List.length_set]; exact hl2⟩
end Go.Proofs
end

-- FTr42
section
namespace Go.Proofs
open Go Go.Rw
set_option maxRecDepth 100000
set_option linter.unusedSimpArgs false
set_option linter.unusedVariables false

section
variable {Γ : Env} {n : Nat} {t : Nat → AV} {hd : Nat → Nat → AV} {d : Option Nat} {K : AS → Prop} {nh nl : Nat} {h : Nat → Option AO} {fm : Nat → Nat} {lv : Nat → Option (Nat × Nat)} {mu : Bool}
/-- As call_tdo, with parts that are ours and live. -/
theorem call_tdoK (hC : Γ.get 6 = none) {s : TS} {a : Ac} (S : sndN s.l) (ho : okA a) {o ob : Nat} (hT : TreeAt h o ob s) {x : AV} (hx : dn [o, ob] x (aA a))
    (hk : ∀ s' : TS, s'.l = (doN s.l a).1 → sndN s'.l → cont ⟨n, t, hd, ⟨nh, upd h ob (some (.map s'.es s'.cl)), nl, fm, kill fm (AV.tagsL [.ptr o 0, x]) lv, mu⟩⟩ d (.v (.int .i64 (doN s.l a).2)) K) : vcCall Tryd.prog Γ false ⟨n, t, hd, ⟨nh, h, nl, fm, lv, mu⟩⟩ 6 [.ptr o 0, x] d K := by
  obtain ⟨h1, h2, h3⟩ := hT
  have e1 : upd h o (some (.cells [.mp ob])) = h := upd_it h1
  have et : tagsOs h [o, ob] = [] := by simp [tagsOs_cons, tagsOs_nil, h1, h2, tagsO1, AO.tags, AV.tagsL, AV.tags]
  refine vcCall_objK tdo_good hC ⟨(s, a), snd_doOk S ho⟩ [o, ob] ⟨by simp [h3], by simp only [dnL_cons, dnL_nil]; exact ⟨by simp [dn], hx, trivial⟩, ?_⟩ ?_
  · simp only [tsO, dnOs_cons, dnOs_nil, h1, h2, dnOo_cells, dnOo_map, dnL_cons, dnL_nil, dn_mp]
    simp
  · intro objs lvs r hp hl
    obtain ⟨s', h4, rfl, rfl, rfl⟩ := hp
    simp only at h4
    rw [dot_eq S] at h4 ⊢
    have := hk s' h4 (by rw [h4]; exact snd_do S a)
    show cont ⟨n, t, hd, AM.call ⟨nh, h, nl, fm, kill fm (AV.tagsL [.ptr o 0, x] ++ tagsOs h [o, ob]) lv, mu⟩ [o, ob] (tsO (some s')) []⟩ d _ K
    rw [et, List.append_nil, AMcall_eq]
    have e3 : (tsO (some s')).length - [o, ob].length = 0 := rfl
    rw [e3]
    simp only [tsO, List.cons_append, List.nil_append, embsO_cons, embsO_nil, embO_cells, embO_map, embL_cons, embL_nil, emb_mp, obC_succ, obC_zero, obC_nil, callH_cons, callH_new, callH_nil, callF_nil, callV_nil, emb_v, List.length_nil, Nat.add_zero, e1]
    exact this
end
abbrev limits13Con : Con where
  ι := I64 × I64
  args := fun p => [.v (.int .i64 p.1.1), .v (.int .i64 p.2.1)]
  post := fun _ r => r = .v (.bool true)
  plain := true
theorem nmL_len (i : Nat) : (nmL i).length = 4 := by simp [nmL, blk_len]
set_option maxHeartbeats 4000000 in
theorem limits13_good : Rw.Good Tryd.prog 3 limits13Con := by
  have hΓ : GoodEnv Tryd.prog [(4, trueCon'), (7, blockCon)] := (goodEnv_cons awake13_good (goodEnv_cons block_good goodEnv_nil))
  refine good_fna (nn := 100) Tryd.func3 (by kernel_rfl) rfl (show Tryd.f3.results.toList = [.tmp 4] from rfl) (fun _ => rfl) (fun x => by simp [AV.erL, AV.er]) ?_
  rintro ⟨⟨n, hn⟩, ⟨files, hf⟩⟩
  refine vcM_ok hΓ (Ws := []) _ ?_
  simp only [goRules, coreRules, tiRules, unRules, AS_of_eq, ← decide_not, seval, mapRules, objRules,]
  by_cases g1 : n < 0
  · simp only [goRules, coreRules, tiRules, unRules, AS_of_eq, ← decide_not, seval, mapRules, objRules, g1]
    refine call_awake13 (by simp [get_cons]) ?_
    simp only [goRules, coreRules, tiRules, unRules, AS_of_eq, ← decide_not, seval, mapRules, objRules,]
  by_cases g2 : n > 102
  · simp only [goRules, coreRules, tiRules, unRules, AS_of_eq, ← decide_not, seval, mapRules, objRules, g1, g2]
    refine call_awake13 (by simp [get_cons]) ?_
    simp only [goRules, coreRules, tiRules, unRules, AS_of_eq, ← decide_not, seval, mapRules, objRules,]
  by_cases g3 : files < 0
  · simp only [goRules, coreRules, tiRules, unRules, AS_of_eq, ← decide_not, seval, mapRules, objRules, g1, g2, g3]
    refine call_awake13 (by simp [get_cons]) ?_
    simp only [goRules, coreRules, tiRules, unRules, AS_of_eq, ← decide_not, seval, mapRules, objRules,]
  by_cases g4 : files > 8
  · simp only [goRules, coreRules, tiRules, unRules, AS_of_eq, ← decide_not, seval, mapRules, objRules, g1, g2, g3, g4]
    refine call_awake13 (by simp [get_cons]) ?_
    simp only [goRules, coreRules, tiRules, unRules, AS_of_eq, ← decide_not, seval, mapRules, objRules,]
  simp only [goRules, coreRules, tiRules, unRules, AS_of_eq, ← decide_not, seval, mapRules, objRules, g1, g2, g3, g4]
  obtain ⟨m, rfl⟩ : ∃ m : Nat, n = m := ⟨n.toNat, by omega⟩
  obtain ⟨e, rfl⟩ : ∃ e : Nat, files = e := ⟨files.toNat, by omega⟩
  have hm : m ≤ 102 := by omega
  have he : e ≤ 8 := by omega
  clear g1 g2 g3 g4
  refine call_tnew (by simp [get_cons, get_nil]) ?_
  simp only [goRules, coreRules, tiRules, unRules, AS_of_eq, ← decide_not, seval, mapRules, objRules,]
  (repeat (with_reducible refine And.intro ?_ ?_; focus (first | omega | exact mixed1 | kernel_rfl)))
  obtain ⟨St, hSt⟩ : ∃ St : { p : Nat × TS // p.1 ≤ m ∧ p.2.l = treeL (min p.1 100) 0 } → AS, ∀ p, St p = AS.ofH 100 [(0, .v (.int .i64 m)), (1, .v (.int .i64 e)), (5, .ptr 0 0), (6, .v (.int .i64 p.1.1))] [] (tsO (some p.1.2)) [] := ⟨_, fun _ => rfl⟩
  refine vcM_lp ?_
  refine vc_loopM [] hΓ St (fun p => m - p.1.1) ⟨(0, ts0), by simp, rfl⟩ (by rw [hSt]; refine weakH_go [0, 1] [] ?_; simp only [goRules, coreRules, tiRules, unRules, AS_of_eq, ← decide_not, seval, mapRules, objRules, tsRules, ts0] <;> ((repeat' apply And.intro) <;> first | rfl | omega | trivial)) ?_
  rintro ⟨⟨i, s⟩, hi, hs⟩
  simp only at hi hs
  rw [hSt]
  simp only
  simp only [goRules, coreRules, tiRules, unRules, AS_of_eq, ← decide_not, seval, mapRules, objRules, tsRules]
  (with_reducible first | refine branchP_dec (fun h => ?_) (fun h => ?_) | refine guardB_dec (fun h => ?_) (fun h => ?_))
  · have hlt : i < m := by omega
    have S0 := treeL_snd (min i 100) (by omega)
    rw [← hs] at S0
    have dm := cre_all i (by omega)
    rw [← hs] at dm
    by_cases hi1 : i ≥ 100
    · simp only [goRules, coreRules, tiRules, unRules, AS_of_eq, ← decide_not, seval, mapRules, objRules, tsRules, h, show ((i : Int) ≥ 100) = True from eq_true (by omega)]
      (repeat (with_reducible refine And.intro ?_ ?_; focus (first | omega | exact mixed1 | kernel_rfl)))
      refine call_block (by simp [get_cons]) (by omega) (by omega) ?_
      rw [show (1 : Int).toNat = 1 from rfl]
      have hb1 := blk_len (i : Int) 1
      have hb2 := blk_len ((i : Int) / 26) 2
      have hq : IntKind.wrap .i64 ((i : Int).tdiv 26) = (i : Int) / 26 := by rw [Int.tdiv_eq_ediv_of_nonneg (by omega), wrap_i64 (by omega) (by omega)]
      simp only [goRules, coreRules, tiRules, unRules, AS_of_eq, ← decide_not, seval, mapRules, objRules, tsRules, bin_sadd (l := [110]) (r := blk (i : Int) 1) (by rw [hb1]; decide), hq]
      (repeat (with_reducible refine And.intro ?_ ?_; focus (first | omega | exact mixed1 | kernel_rfl)))
      refine call_block (by simp [get_cons]) (by omega) (by omega) ?_
      rw [show (2 : Int).toNat = 2 from rfl]
      have hnm : 110 :: (blk (i : Int) 1 ++ blk ((i : Int) / 26) 2) = nmL i := by simp [nmL]
      simp only [goRules, coreRules, tiRules, unRules, AS_of_eq, ← decide_not, seval, mapRules, objRules, tsRules, bin_sadd (l := 110 :: blk (i : Int) 1) (r := blk ((i : Int) / 26) 2) (by rw [List.length_cons, hb1, hb2]; decide), hnm, wrap_i64 (n := (i : Int) + 1) (by omega) (by omega)]
      (repeat (with_reducible refine And.intro ?_ ?_; focus (first | omega | exact mixed1 | kernel_rfl)))
      refine call_tdo (s := s) (a := actC i) (o := 0) (ob := 1) (by simp [get_cons, get_nil]) S0 (ax_ok _ _ _ _ _ (by rw [nmL_len]; decide)) (by simp [TreeAt, upd]) (by simp [dn, dnL, aA, actC, comps_nil]) (by simp [AV.tagsL, AV.tags]) ?_
      rw [dm]
      intro s1 hs1 S1
      simp only [goRules, coreRules, tiRules, unRules, AS_of_eq, ← decide_not, seval, mapRules, objRules, tsRules, show (if i < 100 then 0 else 4 : Int) = 4 from if_neg (by omega)]
      (repeat (with_reducible refine And.intro ?_ ?_; focus (first | omega | exact mixed1 | kernel_rfl)))
      refine weak_again ⟨(i + 1, s1), by simp only; omega, hs1⟩ (by simp only; omega) ?_
      rw [hSt]; refine weakH_go [0, 1] [] ?_
      simp only [goRules, coreRules, tiRules, unRules, AS_of_eq, ← decide_not, seval, mapRules, objRules, tsRules, wrap_i64 (n := (i : Int) + 1) (by omega) (by omega)] <;> ((repeat' apply And.intro) <;> first | rfl | omega | trivial)
    · simp only [goRules, coreRules, tiRules, unRules, AS_of_eq, ← decide_not, seval, mapRules, objRules, tsRules, h, show ((i : Int) ≥ 100) = False from eq_false (by omega)]
      (repeat (with_reducible refine And.intro ?_ ?_; focus (first | omega | exact mixed1 | kernel_rfl)))
      refine call_block (by simp [get_cons]) (by omega) (by omega) ?_
      rw [show (1 : Int).toNat = 1 from rfl]
      have hb1 := blk_len (i : Int) 1
      have hb2 := blk_len ((i : Int) / 26) 2
      have hq : IntKind.wrap .i64 ((i : Int).tdiv 26) = (i : Int) / 26 := by rw [Int.tdiv_eq_ediv_of_nonneg (by omega), wrap_i64 (by omega) (by omega)]
      simp only [goRules, coreRules, tiRules, unRules, AS_of_eq, ← decide_not, seval, mapRules, objRules, tsRules, bin_sadd (l := [110]) (r := blk (i : Int) 1) (by rw [hb1]; decide), hq]
      (repeat (with_reducible refine And.intro ?_ ?_; focus (first | omega | exact mixed1 | kernel_rfl)))
      refine call_block (by simp [get_cons]) (by omega) (by omega) ?_
      rw [show (2 : Int).toNat = 2 from rfl]
      have hnm : 110 :: (blk (i : Int) 1 ++ blk ((i : Int) / 26) 2) = nmL i := by simp [nmL]
      simp only [goRules, coreRules, tiRules, unRules, AS_of_eq, ← decide_not, seval, mapRules, objRules, tsRules, bin_sadd (l := 110 :: blk (i : Int) 1) (r := blk ((i : Int) / 26) 2) (by rw [List.length_cons, hb1, hb2]; decide), hnm, wrap_i64 (n := (i : Int) + 1) (by omega) (by omega)]
      (repeat (with_reducible refine And.intro ?_ ?_; focus (first | omega | exact mixed1 | kernel_rfl)))
      refine call_tdo (s := s) (a := actC i) (o := 0) (ob := 1) (by simp [get_cons, get_nil]) S0 (ax_ok _ _ _ _ _ (by rw [nmL_len]; decide)) (by simp [TreeAt, upd]) (by simp [dn, dnL, aA, actC, comps_nil]) (by simp [AV.tagsL, AV.tags]) ?_
      rw [dm]
      intro s1 hs1 S1
      simp only [goRules, coreRules, tiRules, unRules, AS_of_eq, ← decide_not, seval, mapRules, objRules, tsRules, show (if i < 100 then 0 else 4 : Int) = 0 from if_pos (by omega)]
      (repeat (with_reducible refine And.intro ?_ ?_; focus (first | omega | exact mixed1 | kernel_rfl)))
      refine weak_again ⟨(i + 1, s1), by simp only; omega, hs1⟩ (by simp only; omega) ?_
      rw [hSt]; refine weakH_go [0, 1] [] ?_
      simp only [goRules, coreRules, tiRules, unRules, AS_of_eq, ← decide_not, seval, mapRules, objRules, tsRules, wrap_i64 (n := (i : Int) + 1) (by omega) (by omega)] <;> ((repeat' apply And.intro) <;> first | rfl | omega | trivial)
  · have hi2 : i = m := by omega
    subst hi2
    simp only [goRules, coreRules, tiRules, unRules, AS_of_eq, ← decide_not, seval, mapRules, objRules, tsRules, h]
    obtain ⟨N, hN⟩ : ∃ N, min i 100 = N := ⟨_, rfl⟩
    rw [hN] at hs
    have hmin : min (e : Int) (i : Int) = ((min e i : Nat) : Int) := by omega
    have S0 := treeL_snd N (by omega)
    obtain ⟨S2, hS2⟩ : ∃ St : { p : Nat × TS // p.1 ≤ min e i ∧ p.2.l = treeL N (min p.1 5) ∧ sndN p.2.l } → AS, ∀ p, St p = AS.ofH 100 [(0, .v (.int .i64 i)), (1, .v (.int .i64 e)), (5, .ptr 0 0), (8, .v (.int .i64 p.1.1))] [] (tsO (some p.1.2)) [] := ⟨_, fun _ => rfl⟩
    refine vcM_lp ?_
    refine vc_loopM [] hΓ S2 (fun p => min e i - p.1.1) ⟨(0, s), by simp, hs, by rw [hs]; exact S0⟩ (by rw [hS2]; refine weakH_go [0, 1] [] ?_; simp only [goRules, coreRules, tiRules, unRules, AS_of_eq, ← decide_not, seval, mapRules, objRules, tsRules] <;> ((repeat' apply And.intro) <;> first | rfl | omega | trivial)) ?_
    clear h S0 hs
    clear s
    rintro ⟨⟨j, s⟩, hj, hs, S⟩
    simp only at hj hs S
    rw [hS2]
    simp only
    simp only [goRules, coreRules, tiRules, unRules, AS_of_eq, ← decide_not, seval, mapRules, objRules, tsRules, min2_int, hmin]
    (with_reducible first | refine branchP_dec (fun h => ?_) (fun h => ?_) | refine guardB_dec (fun h => ?_) (fun h => ?_))
    · have hlt : j < min e i := by omega
      have dm := edi_all (n := N) (j := j) (by omega)
      rw [← hs] at dm
      obtain ⟨ok1, _, _⟩ := insT_ok (j : Int) (k := 2000) (by omega)
      by_cases hj5 : j ≥ 5
      · simp only [goRules, coreRules, tiRules, unRules, AS_of_eq, ← decide_not, seval, mapRules, objRules, tsRules, h, min2_int, hmin, show ((j : Int) ≥ 5) = True from eq_true (by omega)]
        (repeat (with_reducible refine And.intro ?_ ?_; focus (first | omega | exact mixed1 | kernel_rfl)))
        refine call_block (by simp [get_cons]) (by omega) (by omega) ?_
        rw [show (2000 : Int).toNat = 2000 from rfl]
        simp only [goRules, coreRules, tiRules, unRules, AS_of_eq, ← decide_not, seval, mapRules, objRules, tsRules, wrap_i64 (n := (j : Int) + 1) (by omega) (by omega)]
        (repeat (with_reducible refine And.intro ?_ ?_; focus (first | omega | exact mixed1 | kernel_rfl)))
        refine call_tdoK (s := s) (a := actE j) (o := 0) (ob := 1) (by simp [get_cons, get_nil]) S ⟨ok1, by simp [actE]⟩ (by simp [TreeAt, upd]) (by simp [dn, dnL, aA, actE, insT, comps, cA]) ?_
        rw [dm]
        intro s1 hs1 S1
        simp only [goRules, coreRules, tiRules, unRules, AS_of_eq, ← decide_not, seval, mapRules, objRules, tsRules, show (if j < 5 then 0 else 4 : Int) = 4 from if_neg (by omega)]
        (repeat (with_reducible refine And.intro ?_ ?_; focus (first | omega | exact mixed1 | kernel_rfl)))
        refine weak_again ⟨(j + 1, s1), by simp only; omega, hs1, S1⟩ (by simp only; omega) ?_
        rw [hS2]; refine weakH_go [0, 1] [] ?_
        simp only [goRules, coreRules, tiRules, unRules, AS_of_eq, ← decide_not, seval, mapRules, objRules, tsRules, wrap_i64 (n := (j : Int) + 1) (by omega) (by omega)] <;> ((repeat' apply And.intro) <;> first | rfl | omega | trivial)
      · simp only [goRules, coreRules, tiRules, unRules, AS_of_eq, ← decide_not, seval, mapRules, objRules, tsRules, h, min2_int, hmin, show ((j : Int) ≥ 5) = False from eq_false (by omega)]
        (repeat (with_reducible refine And.intro ?_ ?_; focus (first | omega | exact mixed1 | kernel_rfl)))
        refine call_block (by simp [get_cons]) (by omega) (by omega) ?_
        rw [show (2000 : Int).toNat = 2000 from rfl]
        simp only [goRules, coreRules, tiRules, unRules, AS_of_eq, ← decide_not, seval, mapRules, objRules, tsRules, wrap_i64 (n := (j : Int) + 1) (by omega) (by omega)]
        (repeat (with_reducible refine And.intro ?_ ?_; focus (first | omega | exact mixed1 | kernel_rfl)))
        refine call_tdoK (s := s) (a := actE j) (o := 0) (ob := 1) (by simp [get_cons, get_nil]) S ⟨ok1, by simp [actE]⟩ (by simp [TreeAt, upd]) (by simp [dn, dnL, aA, actE, insT, comps, cA]) ?_
        rw [dm]
        intro s1 hs1 S1
        simp only [goRules, coreRules, tiRules, unRules, AS_of_eq, ← decide_not, seval, mapRules, objRules, tsRules, show (if j < 5 then 0 else 4 : Int) = 0 from if_pos (by omega)]
        (repeat (with_reducible refine And.intro ?_ ?_; focus (first | omega | exact mixed1 | kernel_rfl)))
        refine weak_again ⟨(j + 1, s1), by simp only; omega, hs1, S1⟩ (by simp only; omega) ?_
        rw [hS2]; refine weakH_go [0, 1] [] ?_
        simp only [goRules, coreRules, tiRules, unRules, AS_of_eq, ← decide_not, seval, mapRules, objRules, tsRules, wrap_i64 (n := (j : Int) + 1) (by omega) (by omega)] <;> ((repeat' apply And.intro) <;> first | rfl | omega | trivial)
    · have hjm : j = min e i := by omega
      have hmin2 : min (i : Int) 100 = (N : Int) := by omega
      have hln := S.len
      simp only [goRules, coreRules, tiRules, unRules, AS_of_eq, ← decide_not, seval, mapRules, objRules, tsRules, h, min2_int, hmin]
      by_cases hi0 : i = 0
      · have hl0 : s.l.length = N := by rw [hs, treeL_len]
        simp only [goRules, coreRules, tiRules, unRules, AS_of_eq, ← decide_not, seval, mapRules, objRules, tsRules, show ((i : Int) > 0) = False from eq_false (by omega)]
        (repeat (with_reducible refine And.intro ?_ ?_; focus (first | omega | exact mixed1 | kernel_rfl)))
        refine call_tnodes (s := s) (o := 0) (ob := 1) (by simp [get_cons, get_nil]) (snd_ok S).1 (by simp [TreeAt, upd]) ?_
        simp only [goRules, coreRules, tiRules, unRules, AS_of_eq, ← decide_not, seval, mapRules, objRules, tsRules, nodes_len, min2_int, hmin2, hl0]
        (repeat (with_reducible refine And.intro ?_ ?_; focus (first | omega | exact mixed1 | kernel_rfl)))
        refine call_awake13 (by simp [get_cons]) ?_
        simp only [goRules, coreRules, tiRules, unRules, AS_of_eq, ← decide_not, seval, mapRules, objRules,]
      · obtain ⟨r1, r2, r3, r4⟩ := end_law (N := N) (J := min j 5) (by omega) (by omega) (by omega) (by omega)
        rw [← hs] at r1 r2 r3 r4
        simp only [goRules, coreRules, tiRules, unRules, AS_of_eq, ← decide_not, seval, mapRules, objRules, tsRules, show ((i : Int) > 0) = True from eq_true (by omega)]
        (repeat (with_reducible refine And.intro ?_ ?_; focus (first | omega | exact mixed1 | kernel_rfl)))
        refine call_tdo (s := s) (a := aR1) (o := 0) (ob := 1) (by simp [get_cons, get_nil]) S (ax_ok _ _ _ _ _ (by simp)) (by simp [TreeAt, upd]) (by simp [dn, dnL, aA, aR1, comps_nil, sv]) (by simp [AV.tagsL, AV.tags]) ?_
        rw [r1]
        intro s1 hs1 S1
        rw [← hs1] at r2 r3 r4
        simp only [goRules, coreRules, tiRules, unRules, AS_of_eq, ← decide_not, seval, mapRules, objRules, tsRules]
        (repeat (with_reducible refine And.intro ?_ ?_; focus (first | omega | exact mixed1 | kernel_rfl)))
        refine call_tdo (s := s1) (a := aC5) (o := 0) (ob := 1) (by simp [get_cons, get_nil]) S1 (ax_ok _ _ _ _ _ (by simp)) (by simp [TreeAt, upd]) (by simp [dn, dnL, aA, aC5, comps_nil, sv]) (by simp [AV.tagsL, AV.tags]) ?_
        rw [r2]
        intro s2 hs2 S2'
        rw [← hs2] at r3 r4
        simp only [goRules, coreRules, tiRules, unRules, AS_of_eq, ← decide_not, seval, mapRules, objRules, tsRules]
        (repeat (with_reducible refine And.intro ?_ ?_; focus (first | omega | exact mixed1 | kernel_rfl)))
        refine call_tdoK (s := s2) (a := aE5) (o := 0) (ob := 1) (by simp [get_cons, get_nil]) S2' ⟨by unfold okL; decide, by simp [aE5]⟩ (by simp [TreeAt, upd]) (by simp [dn, dnL, aA, aE5, comps, cA, sv]) ?_
        rw [r3]
        intro s3 hs3 S3
        rw [← hs3] at r4
        simp only [goRules, coreRules, tiRules, unRules, AS_of_eq, ← decide_not, seval, mapRules, objRules, tsRules]
        (repeat (with_reducible refine And.intro ?_ ?_; focus (first | omega | exact mixed1 | kernel_rfl)))
        refine call_tnodes (s := s3) (o := 0) (ob := 1) (by simp [get_cons, get_nil]) (snd_ok S3).1 (by simp [TreeAt, upd]) ?_
        simp only [goRules, coreRules, tiRules, unRules, AS_of_eq, ← decide_not, seval, mapRules, objRules, tsRules, nodes_len, min2_int, hmin2, r4]
        (repeat (with_reducible refine And.intro ?_ ?_; focus (first | omega | exact mixed1 | kernel_rfl)))
        refine call_awake13 (by simp [get_cons]) ?_
        simp only [goRules, coreRules, tiRules, unRules, AS_of_eq, ← decide_not, seval, mapRules, objRules,]
end Go.Proofs
end

-- FUr1
section
namespace Go.Proofs.YtfhipjafkdembaaDoor
open Go Go.ChangeShapes Go.WideShapes Go.ChangeAt Go.RowKit Go.Rw Go.Lib
open Go.ChangeMaps (open_string shut_string)
set_option linter.unusedVariables false
set_option maxRecDepth 100000

theorem own : ownKnob Tryd.prog.godebug = none := by kernel_rfl
theorem laidOut : laidOutB Tryd.prog = true := by kernel_rfl
/-- The settled world, the two tables holding what their initialisers lay. -/
noncomputable def laidWorld (os : Os) : World :=
  let w0 := World.holding Tryd.prog os ⟨#[], #[], []⟩
  let put (h : Array Obj) (g : Nat) (cs : Array Value) : Array Obj := h.modify g fun
    | .cells _ t frozen => .cells cs t frozen
    | o => o
  let h1 := put w0.heap 0 (Lib.firstTab.map fun z => Value.int .u8 z).toArray
  let h2 := put h1 1 ((List.range 16).flatMap fun i => [Value.int .u8 (Lib.accLo i), Value.int .u8 (Lib.accHi i)]).toArray
  { w0 with heap := h2 }
abbrev laidL : List (String × DataW Unit) := [("unicode/utf8.acceptRanges", Lib.acceptData), ("unicode/utf8.first", Lib.firstData)]
theorem laid_met (os : Os) (args : Array Value) : laidMet Tryd.prog laidL ((laidWorld os).forCall (fun _ _ => 0) ⟨#[], args, []⟩).memory :=
  (LaidIn.of_run (l := laidL) [1, 0] 8 (by kernel_rfl) (by kernel_rfl) (by kernel_rfl) (by kernel_rfl)).met
theorem tabs_of {W : World} (hL : laidMet Tryd.prog laidL W) : TabOk W (tkBlock none) := by
  have htab : Lib.Utf8Tabs 0 1 W :=
    utf8Tabs_of_readsT (U8Types.of196 Tryd.lays196) ⟨by kernel_rfl, by kernel_rfl, by kernel_rfl, by kernel_rfl, by kernel_rfl, by kernel_rfl, by kernel_rfl⟩ (Lib.laidMet.reads hL (.tail _ (.head _))) (Lib.laidMet.reads hL (.head _))
  refine ⟨htab, fun g hg => ⟨?_, by rintro ⟨k, hk, _⟩; cases hk⟩⟩
  have key : ∀ g i v, W.cell? ⟨g, i, none⟩ = some v → g < W.heap.size := fun g i v h => Fw_lt (Nat.lt_of_le_of_lt (Nat.zero_le i) (Fw_cell h))
  rcases hg with rfl | rfl
  · exact key 0 _ _ (htab.1 0 (by omega))
  · exact key 1 _ _ (htab.2 0 (by omega)).1
theorem i64_wf {n : Int} (h : (Lit.int .i64 n).wf = true) : -9223372036854775808 ≤ n ∧ n ≤ 9223372036854775807 := by
  simp [Lit.wf, IntKind.min, IntKind.max, IntKind.signed, IntKind.bits] at h; omega
end Go.Proofs.YtfhipjafkdembaaDoor
end
