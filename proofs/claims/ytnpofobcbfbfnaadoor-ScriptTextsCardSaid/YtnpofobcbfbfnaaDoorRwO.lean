/-
  Maps of numbers: their content as a row of pairs, in whatever order. Proved over any program. Functions that are handed objects: the rules for rewriting. Proved over any program. A state given by lists, the frames that wait, too. Proved over any program. Loops within calls that are reckoned in place, where maps may be and a live slice may be turned: the frames that wait are let go of what is told of that slice. Proved over any program.
-/
import Derived.Test.YtnpofobcbfbfnaaDoorRwN
set_option linter.unusedSimpArgs false
set_option linter.unusedVariables false
set_option linter.defProp false
set_option linter.unusedSectionVars false

-- RwMapG
section
namespace Go.Rw
open Go Go.RowKit
set_option linter.unusedSimpArgs false
set_option linter.unusedVariables false

end Go.Rw
end

-- RwObjR
section
namespace Go.Rw
open Go Go.RowKit
set_option linter.unusedSimpArgs false
set_option linter.unusedVariables false
set_option linter.unusedSectionVars false
set_option maxRecDepth 100000

def hdOf (f : Nat → AV) : Nat → Nat → AV := fun j => match j with | 0 => f | _ + 1 => fun _ => .any
/-- What is asked at a function's end. -/
def RetG (C : ConO) (i : C.ι) (σ : AS) (bs : List AV) : Prop := ∃ obs ads objs lvs r, RenIn σ obs ads objs lvs ∧ ren obs ads σ.m.fm (oneOf bs) r ∧ hdsOk obs ads σ.m.fm (σ.hd 0) (rootsAt 0 (C.objs i)) ∧ (C.objs i).length ≤ objs.length ∧ C.post i objs lvs r ∧ σ.m.mu = true
def retOr (C : ConO) (i : C.ι) (σ : AS) : Option (List AV) → Prop
  | some bs => RetG C i σ bs
  | none => False
section
variable {P : Program} [Tabs] {Γ : Env} {Q : Exit → AS → Prop} {σ : AS} {K : AS → Prop} {n : Nat} {t : Nat → AV} {hd : Nat → Nat → AV} {m : AM} {d : Option Nat}
variable {nh nl : Nat} {h : Nat → Option AO} {fm : Nat → Nat} {lv : Nat → Option (Nat × Nat)} {mu : Bool}
variable {obs : List Nat} {ads : List Ad} {fo fl : Nat → Nat}
theorem retG_go {C : ConO} {i : C.ι} {bs : List AV} (obs : List Nat) (ads : List Ad) (objs : List AO) (lvs : List (Nat × Nat)) (r : AV)
    (hp : C.post i objs lvs r) (h : (Ad.lives ads).Nodup ∧ obs.Nodup ∧ obOk obs ads σ obs objs ∧ adOk σ ads lvs ∧ ren obs ads σ.m.fm (oneOf bs) r ∧ hdsOk obs ads σ.m.fm (σ.hd 0) (rootsAt 0 (C.objs i)) ∧ (C.objs i).length ≤ objs.length ∧ σ.m.mu = true) : RetG C i σ bs :=
  ⟨obs, ads, objs, lvs, r, ⟨h.1, h.2.1, h.2.2.1, h.2.2.2.1⟩, h.2.2.2.2.1, h.2.2.2.2.2.1, h.2.2.2.2.2.2.1, hp, h.2.2.2.2.2.2.2⟩
theorem retO_ret {rs : List ResultVar} {C : ConO} {i : C.ι} : retO P rs C i .ret ⟨n, t, hd, m⟩ = retOr C i ⟨n, t, hd, m⟩ (resL P ⟨n, t, hd, m⟩ rs) := by
  simp only [retO, retOr, RetG]
  cases resL P ⟨n, t, hd, m⟩ rs <;> rfl
theorem retOr_some {C : ConO} {i : C.ι} {bs : List AV} : retOr C i σ (some bs) = RetG C i σ bs := rfl
theorem AS_ofH_eq {slots hds : List (Nat × AV)} {objs : List AO} {lvs : List (Nat × Nat)} {mu : Bool} : AS.ofH n slots hds objs lvs mu = ⟨n, look slots, hdOf (look hds), ⟨objs.length, fun o => objs[o]?, 2 + lvs.length, fun l => l, fun l => if l < 2 then none else lvs[l - 2]?, mu⟩⟩ := by
  show AS.mk _ _ _ _ = AS.mk _ _ _ _
  congr 1
theorem hdOf_zero {f : Nat → AV} : hdOf f 0 = f := rfl
theorem hdsOk_nil {hd : Nat → AV} : hdsOk obs ads fm hd [] = True := rfl
theorem hdsOk_cons {hd : Nat → AV} {i : Nat} {a : AV} {r : List (Nat × AV)} : hdsOk obs ads fm hd ((i, a) :: r) = (ren obs ads fm (hd i) a ∧ hdsOk obs ads fm hd r) := rfl
theorem rootsAt_nil {j : Nat} : rootsAt j [] = [] := rfl
theorem rootsAt_cons {j : Nat} {x : AO} {r : List AO} : rootsAt j (x :: r) = (j, rootOf j x) :: rootsAt (j + 1) r := rfl
theorem rootOf_cells {j : Nat} {cs : List AV} : rootOf j (.cells cs) = .ptr j 0 := rfl
theorem dn_v {x y : Value} : dn obs (.v x) (.v y) = (x = y) := by simp [dn]
theorem dn_sl {l sz l' sz' : Nat} {xs ys : List AV} : dn obs (.sl l sz xs) (.sl l' sz' ys) = ((l = 1 ∨ sz = sz') ∧ xs = ys ∧ (l' = 0 ∨ (l' = 1 ∧ l = 1))) := by simp [dn]
theorem dnL_nil : dnL obs [] [] = True := by simp [dnL]
theorem dnL_cons {a b : AV} {r s : List AV} : dnL obs (a :: r) (b :: s) = (dn obs a b ∧ dnL obs r s) := by simp [dnL]
theorem dnOs_nil : dnOs obs h [] [] = True := rfl
theorem dnOs_cons {o : Nat} {r : List Nat} {x : AO} {s : List AO} : dnOs obs h (o :: r) (x :: s) = (dnOo obs (h o) x ∧ dnOs obs h r s) := rfl
theorem dnOo_cells {cs ds : List AV} : dnOo obs (some (.cells cs)) (.cells ds) = dnL obs cs ds := rfl
def tagsO1 : Option AO → List Nat
  | some x => x.tags
  | none => []
theorem tagsOs_nil : tagsOs h [] = [] := rfl
theorem tagsOs_cons {o : Nat} {r : List Nat} : tagsOs h (o :: r) = tagsO1 (h o) ++ tagsOs h r := rfl
theorem emb_v {x : Value} : AV.emb fo fl (.v x) = .v x := rfl
theorem emb_sl {l sz : Nat} {xs : List AV} : AV.emb fo fl (.sl l sz xs) = .sl (fl l) sz xs := rfl
theorem emb_tup {cs : List AV} : AV.emb fo fl (.tup cs) = .tup (AV.embL fo fl cs) := rfl
theorem embL_nil : AV.embL fo fl [] = [] := rfl
theorem embL_cons {a : AV} {r : List AV} : AV.embL fo fl (a :: r) = a.emb fo fl :: AV.embL fo fl r := rfl
theorem embsO_nil : embsO fo fl [] = [] := rfl
theorem embsO_cons {x : AO} {r : List AO} : embsO fo fl (x :: r) = x.emb fo fl :: embsO fo fl r := rfl
theorem embO_cells {cs : List AV} : AO.emb fo fl (.cells cs) = .cells (AV.embL fo fl cs) := rfl
theorem obC_nil {o : Nat} : obC [] nh o = nh + o := by simp [obC]
theorem obC_zero {x : Nat} {r : List Nat} : obC (x :: r) nh 0 = x := rfl
theorem obC_succ {x j : Nat} {r : List Nat} : obC (x :: r) nh (j + 1) = obC r nh j := by
  simp only [obC, List.getElem?_cons_succ, List.length_cons]
  split <;> first | rfl | omega
theorem lnC_zero : lnC nl 0 = 0 := rfl
theorem callH_nil : callH nh obs [] h = h := by cases obs <;> rfl
theorem callH_cons {o : Nat} {r : List Nat} {x : AO} {s : List AO} : callH nh (o :: r) (x :: s) h = callH nh r s (upd h o (some x)) := rfl
theorem callH_new {x : AO} {s : List AO} : callH nh [] (x :: s) h = callH (nh + 1) [] s (upd h nh (some x)) := rfl
theorem callF_nil : callF nl [] fm = fm := rfl
theorem callV_nil : callV nl [] lv = lv := rfl
/-- Pointers held against nil. -/
def ptrT (u : Option TypeDesc) (a b : Option AV) : Option AV := match u with
  | some (.pointer _) => a
  | _ => b
omit [Tabs] in
theorem ptrT_yes {e : TypeId} {a b : Option AV} : ptrT (some (.pointer e)) a b = a := rfl
def binZ (P : Program) (op : BinOp) (c : TypeId) (x y : Operand) (a b : AV) : Option AV := binA P op c x y a b
omit [Tabs] in
theorem binA_nePN {c : TypeId} {x y : Operand} {o k : Nat} : binA P .neq c x y (.ptr o k) (.v (.pointer none)) = ptrT (P.underlying c) (some (.v (.bool true))) (binZ P .neq c x y (.ptr o k) (.v (.pointer none))) := by
  unfold binZ ptrT
  split
  · rename_i e hu; simp [binA, binV, aggBin, ptrBin, hu]
  · rfl
omit [Tabs] in
theorem calm_ptr {op : BinOp} {c e : TypeId} {x y : Operand} (hu : P.underlying c = some (.pointer e)) (hop : op = .eql ∨ op = .neq) : calm P (do eqGuard op c x y (.pointer none) (.pointer none); binOp op c (.pointer none) (.pointer none) : Sem Value) = some (.bool (op == .eql)) := by
  have e1 : Op.maxDepth = 9999 + 1 := rfl
  have heq : calm P (Op.equal c (.pointer none) (.pointer none)) = some true := by
    rw [Op.equal, e1]
    generalize 9999 = dd
    simp [Op.equalIn, calm_bind, underlying, hu]
  rcases hop with rfl | rfl
  · simp [calm_bind, calm_map, eqGuard, binOp, heq]
  · simp [calm_bind, calm_map, eqGuard, binOp, heq]
omit [Tabs] in
theorem binA_neNN {c : TypeId} {x y : Operand} : binA P .neq c x y (.v (.pointer none)) (.v (.pointer none)) = ptrT (P.underlying c) (some (.v (.bool false))) (binZ P .neq c x y (.v (.pointer none)) (.v (.pointer none))) := by
  unfold binZ ptrT
  split
  · rename_i e hu
    simp only [binA, binV, res]
    rw [calm_ptr hu (.inr rfl)]; rfl
  · rfl
/-- A call of a function that is handed objects. -/
theorem vc_obj {f : FuncId} {C : ConO} (hG : GoodO P f C) (hC : Γ.get f = none) {as : List AV} (i : C.ι) (obs : List Nat) (hh : obs.Nodup ∧ dnL obs as (C.args i) ∧ dnOs obs h obs (C.objs i) ∧ AV.tagsL as = [] ∧ tagsOs h obs = [])
    (hk : ∀ objs lvs r, C.post i objs lvs r → obs.length ≤ objs.length → cont ⟨n, t, hd, ⟨nh + (objs.length - obs.length), callH nh obs (embsO (obC obs nh) (lnC nl) objs) h, nl + lvs.length, callF nl lvs fm, callV nl lvs lv, mu⟩⟩ d (r.emb (obC obs nh) (lnC nl)) K) : vcCall P Γ false ⟨n, t, hd, ⟨nh, h, nl, fm, lv, mu⟩⟩ f as d K :=
  vcCall_obj hG hC i obs hh hk
end
set_option linter.defProp false
/-- The rules for functions that are handed objects. -/
def objRules :=
  (And.intro @retO_ret (And.intro @retOr_some (And.intro @AS_ofH_eq (And.intro @hdOf_zero (And.intro @hdsOk_nil (And.intro @hdsOk_cons (And.intro @rootsAt_nil (And.intro @rootsAt_cons (And.intro @rootOf_cells (And.intro @ptrT_yes (And.intro @binA_nePN @binA_neNN)))))))))))
end Go.Rw
end

-- RwFrm
section
namespace Go.Rw
open Go Go.RowKit
set_option linter.unusedSimpArgs false
set_option linter.unusedVariables false
set_option linter.unusedSectionVars false
section
variable [Tabs] {σ : AS} {obs : List Nat} {ads : List Ad} {lvs : List (Nat × Nat)} {objs : List AO} {fm : Nat → Nat} {n : Nat} {slots : List (Nat × AV)} {s : List (Nat × AV)} {frs r : List (List (Nat × AV))} {hd : Nat → Nat → AV} {mu : Bool}
end
set_option linter.defProp false
end Go.Rw
end

-- RwKeepM
section
namespace Go.Rw
open Go Go.RowKit
set_option linter.unusedSimpArgs false
set_option linter.unusedVariables false
set_option linter.unusedSectionVars false
section
variable {P : Program} [Tabs] {Γ : Env} {Ws : List (Nat × List Nat × List Nat)} {Q : Exit → AS → Prop} {K : AS → Prop} {c : Code} {n : Nat} {t t1 : Nat → AV} {hd : Nat → Nat → AV} {nh nl : Nat} {h h0 h1 : Nat → Option AO} {fm : Nat → Nat} {lv : Nat → Option (Nat × Nat)} {mu : Bool} {l : Nat} {G : Gh} {w : World}
mutual
theorem turn_cut {k : Nat} {zs : List AV} : ∀ a : AV, (a.cut fm l).turn fm l k zs = a.cut fm l
  | .any => rfl
  | .v x => rfl
  | .agg cs => by simp only [AV.cut, AV.turn, turnL_cut cs]
  | .tup cs => by simp only [AV.cut, AV.turn, turnL_cut cs]
  | .fn f cs => by simp only [AV.cut, AV.turn, turnL_cut cs]
  | .ptr .. => rfl
  | .mp .. => rfl
  | .sl l' sz ys => by
    simp only [AV.cut]
    split
    · rfl
    · rename_i h; simp only [AV.turn, if_neg h]
  | .ep l' sz ys i j => by
    simp only [AV.cut]
    split
    · rfl
    · rename_i h; simp only [AV.turn, if_neg h]
theorem turnL_cut {k : Nat} {zs : List AV} : ∀ cs : List AV, AV.turnL fm l k zs (AV.cutL fm l cs) = AV.cutL fm l cs
  | [] => rfl
  | a :: r => by simp only [AV.cutL, AV.turnL, turn_cut a, turnL_cut r]
end
mutual
theorem cut_cut : ∀ a : AV, (a.cut fm l).cut fm l = a.cut fm l
  | .any => rfl
  | .v x => rfl
  | .agg cs => by simp only [AV.cut, cutL_cut cs]
  | .tup cs => by simp only [AV.cut, cutL_cut cs]
  | .fn f cs => by simp only [AV.cut, cutL_cut cs]
  | .ptr .. => rfl
  | .mp .. => rfl
  | .sl l' sz ys => by
    simp only [AV.cut]
    split
    · rfl
    · rename_i h; simp only [AV.cut, if_neg h]
  | .ep l' sz ys i j => by
    simp only [AV.cut]
    split
    · rfl
    · rename_i h; simp only [AV.cut, if_neg h]
theorem cutL_cut : ∀ cs : List AV, AV.cutL fm l (AV.cutL fm l cs) = AV.cutL fm l cs
  | [] => rfl
  | a :: r => by simp only [AV.cutL, cut_cut a, cutL_cut r]
end
end
end Go.Rw
end
