/-
 Acts given,their numbers within bounds: opened. From the laws' functions to their rows: the tables as they are laid;a world for the witness.
-/
import Derived.Test.YtfhipjafkdembaaGreatDoorXETr22
import Derived.Test.YtfhipjafkdembaaGreatDoorXETr11
import Derived.Test.YtfhipjafkdembaaGreatDoorXESh
import Derived.Test.YtfhipjafkdembaaGreatDoorRwG
import Derived.Test.YtfhipjafkdembaaGreatDoorCards
import Derived.Test.YtfhipjafkdembaaGreatDoorTie
import Derived.Lib.LaidIn
import Derived.Lib.LaidU8T
import Derived.Deep.DeepHandedRow
import Derived.Deep.DeepWitnessRowRef
import Derived.ProofKit
import Derived.OpenShut
import Derived.SizedLaws
import Derived.SevenTiedAt
set_option linter.unusedSimpArgs false
set_option linter.unusedVariables false
set_option linter.defProp false
set_option linter.unusedSectionVars false

-- ETrR
section
namespace Go.Proofs
open Go Go.Rw Go.RowKit Go.ChangeShapes Go.WideShapes Go.ChangeAt Go.Deep
set_option maxRecDepth 100000
theorem fit_actB {ds:List AV} (h:Fits tyA ds):∃ a:Ac,kDJ tyA ds=aA a∧(a.nm.length≤9223372036854775807∧kFF a.ops)∧bndA a:=by
 simp only[tyA,Fits.eq_5,FitsL]at h
 obtain ⟨a,b,rfl,h1,a2,b2,rfl,h2,a3,b3,rfl,h3,a4,b4,rfl,h4,a5,b5,rfl,h5,a6,b6,rfl,h6,rfl⟩:=h
 obtain ⟨l,rfl,hl⟩:=fit_comps h6
 simp only[Fits]at h1 h2 h3 h4 h5
 obtain ⟨k,rfl,_⟩:=h1
 obtain ⟨id,rfl,hi⟩:=h2
 obtain ⟨par,rfl,hp⟩:=h3
 obtain ⟨nm,rfl,hn⟩:=h4
 obtain ⟨dir,rfl⟩:=h5
 exact ⟨⟨k,id,par,nm,dir,l⟩,rfl,⟨hn,hl⟩,i64_rng hi,i64_rng hp⟩
theorem open_actsB {P:Program} {W:World} {H:Type} {enc:TypeId×Value→H} {t:TypeId} {v:Value} {d:DataW H} {p:List MemPlace} (ht:isTy P t (.slc tyA)=true) (hv:∃ A n c,v = .slice A n c) (h:DataW.Trod enc P W 0 (fun _=>true) true t v d p) :
    ∃ l:List Ac,l.length≤9223372036854775807∧(∀ a∈l,(a.nm.length≤9223372036854775807∧kFF a.ops)∧bndA a)∧VR (Gin (Fw W) none) W v (.sl 0 6 (acts l)) :=
 arg_slc aA _ (fun ds hd=>fit_actB hd) ht hv h
end Go.Proofs
end
-- EUr1
section
namespace Go.Proofs.YtfhipjafkdembaaGreatDoor
open Go Go.ChangeShapes Go.WideShapes Go.ChangeAt Go.RowKit Go.Rw Go.Lib
open Go.ChangeMaps (open_string shut_string)
set_option maxRecDepth 100000
theorem own:ownKnob Tryz.prog.godebug=none:=by kernel_rfl
theorem laidOut:laidOutB Tryz.prog=true:=by kernel_rfl
noncomputable def kCv (os:Os):World :=
 let w0:=World.holding Tryz.prog os ⟨#[],#[],[]⟩
 let put (h:Array Obj) (g:Nat) (cs:Array Value):Array Obj:=h.modify g fun
  | .cells _ t frozen=>.cells cs t frozen
  | o=>o
 let h1:=put w0.heap 0 (Lib.firstTab.map fun z=>Value.int .u8 z).toArray
 let h2:=put h1 1 ((List.range 16).flatMap fun i=>[Value.int .u8 (Lib.accLo i),Value.int .u8 (Lib.accHi i)]).toArray
 { w0 with heap:=h2 }
abbrev laidL : List (String × DataW Unit) := [("unicode/utf8.acceptRanges", Lib.acceptData), ("unicode/utf8.first", Lib.firstData)]
theorem laid_met (os:Os) (args:Array Value):laidMet Tryz.prog laidL ((kCv os).forCall (fun _ _=>0) ⟨#[],args,[]⟩).memory :=
 (LaidIn.of_run (l:=laidL) [1,0] 8 (by kernel_rfl) (by kernel_rfl) (by kernel_rfl) (by kernel_rfl)).met
theorem tabs_of {W:World} (hL:laidMet Tryz.prog laidL W):TabOk W (kW none):=by
 have htab:Lib.Utf8Tabs 0 1 W :=
  utf8Tabs_of_readsT (U8Types.of196 Tryz.lays196) ⟨by kernel_rfl,by kernel_rfl,by kernel_rfl,by kernel_rfl,by kernel_rfl,by kernel_rfl,by kernel_rfl⟩ (Lib.laidMet.reads hL (.tail _ (.head _))) (Lib.laidMet.reads hL (.head _))
 refine ⟨htab,fun g hg=>⟨?_,by rintro ⟨k,hk,_⟩;cases hk⟩⟩
 have key:∀ g i v,W.cell? ⟨g,i,none⟩=some v→g < W.heap.size:=fun g i v h=>Fw_lt (Nat.lt_of_le_of_lt (Nat.zero_le i) (Fw_cell h))
 rcases hg with rfl|rfl
 ·exact key 0 _ _ (htab.1 0 (by omega))
 ·exact key 1 _ _ (htab.2 0 (by omega)).1
end Go.Proofs.YtfhipjafkdembaaGreatDoor
end
