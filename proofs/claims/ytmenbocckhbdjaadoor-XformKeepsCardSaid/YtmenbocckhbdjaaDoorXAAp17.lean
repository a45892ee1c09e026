/-
  ApplyKeeps answers true.
-/
import Derived.Test.YtmenbocckhbdjaaDoorXAAp16
set_option linter.unusedSimpArgs false
set_option linter.unusedVariables false
set_option linter.defProp false

-- AAp17
section
namespace Go.Proofs
open Go Go.Rw
open _root_.Nat renaming reduceAdd → N0, reduceSub → N1, reduceMul → N2, reduceLT → N3, reduceLeDiff → N4, reduceEqDiff → N5
open _root_.Int renaming reduceNeg → Z0, reduceAdd → Z1, reduceSub → Z2, reduceMul → Z3, reduceGT → Z4, reduceGE → Z5, reduceLT → Z6, reduceLE → Z7, reduceEq → Z8, reduceNe → Z9, reduceToNat → Z10, cast_ofNat_Int → Zc
set_option maxRecDepth 100000
set_option linter.unusedSimpArgs false
set_option linter.unusedVariables false

theorem rtext_nats {cs : List Nat} (h : ∀ c ∈ cs, okc c) : rtextR (cs.map fun (c : Nat) => (c : Int)) = .tup [.v (sv (encs cs)), .v (.bool true)] := by
  unfold rtextR; rw [textN_nats h]
theorem call_rtext {Γ : Env} (hf : Γ.get 20 = some rtextCon) {σ : AS} {dr : Bool} {l : List Nat} {t : Nat} {ys : List AV} {d : Option Nat} {K : AS → Prop} (hy : ys = nats l) (h : l.length ≤ 1099511627776) (h2 : ∀ x ∈ l, okc x)
    (hk : cont σ d (.tup [.v (sv (encs l)), .v (.bool true)]) K) : vcCall Tryd.prog Γ dr σ 20 [.sl t 1 ys] d K := by
  subst hy
  refine vcCall_plain (C := rtextCon) (i := ⟨l.map fun (c : Nat) => (c : Int), by simpa using h, ?_⟩) hf rfl rfl rfl rfl (fun _ h => h) (rtextR_plain _) (by rw [rtext_nats h2]; exact hk)
  intro x hx
  obtain ⟨c, hc, rfl⟩ := List.mem_map.1 hx
  have := h2 c hc
  unfold okc at this
  omega
theorem range_snoc (a n : Nat) : List.range' a n ++ [a + n] = List.range' a (n + 1) := by rw [List.range'_concat]; simp
end Go.Proofs
end
