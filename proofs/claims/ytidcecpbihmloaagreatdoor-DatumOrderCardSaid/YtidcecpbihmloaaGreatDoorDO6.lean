/- The row and the card of DatumOrder: whatever the input, the law returns true. -/
import Derived.Test.YtidcecpbihmloaaGreatDoorDO5
import Derived.Test.YtidcecpbihmloaaGreatDoorRows
import Derived.Test.YtidcecpbihmloaaGreatDoorCards
import Derived.Test.YtidcecpbihmloaaGreatDoorTie
import Derived.WalkKit
import Derived.ProofKit
import Derived.OpenShut
import Derived.ShutString
import Derived.ChangeOld
import Derived.Below
import Derived.SizedLaws
import Derived.LaidMore
import Derived.Stop.Joined
import Derived.SevenTiedAt
import Derived.MakeChecks
import Derived.Handed
import Derived.Lib.SmallJoins
import Derived.Carry

namespace Go.Proofs.YtidcecpbihmloaaGreatDoor.datumOrder
open Go.ChangeShapes Go.WideShapes Go.ChangeAt Go.RowKit
open Go.ChangeMaps (open_string shut_string)
set_option linter.unusedVariables false
theorem own : ownKnob Tryz.prog.godebug = none := by kernel_rfl
theorem door_met (os : Os) (args : Array Value) : laidMetH Tryz.prog Rows.datumOrderRow.laid ((World.doorLaid Tryz.prog 63 os).forCall (fun _ _ => 0) ⟨#[], args, []⟩).memory :=
 laidMetH_of_parts3 (fuel := 8) (laidMet_of_run' 8 (by kernel_rfl) (by kernel_rfl)) (by kernel_rfl) (by kernel_rfl)
theorem gl {W : World} (h : laidMetH Tryz.prog Rows.datumOrderRow.laid W) : Go.Proofs.YtidcecpbihmloaaGreatDoorX.GL W := by
 rw [MakeChecks.laidMetH_plain _ _ _ (by kernel_rfl)] at h
 exact Go.Proofs.YtidcecpbihmloaaGreatDoorX.gl_of h
theorem laidOut : laidOutB Tryz.prog = true := by kernel_rfl
set_option maxRecDepth 100000 in
theorem lifted (os : Os) (started : os.Started) (H : Type) (enc : TypeId × Value → H) :
  ReturnsInHanded {} Tryz.checked os 4 .any (fun w args => (Rows.datumOrderSpec.pre enc Tryz.prog Tryz.f4 [] false w args ∧ laidMetH Tryz.prog Rows.datumOrderRow.laid w) ∧ sizedMet enc Tryz.prog Tryz.f4 (OpenSpec.ofChange Rows.datumOrderSpec) false w args) (Rows.datumOrderSpec.post enc Tryz.prog Tryz.f4 false true false false) := by
 refine returnsInHanded_of_change_and (C := Tryz.checked) (X := fun w _ => laidMetH Tryz.prog Rows.datumOrderRow.laid w) (fun _ _ _ hh h => h.of_heap hh) own started (by kernel_rfl) Tryz.func4
  (ChangeSpec.witness_shaped (enc := enc) (C := Tryz.checked) (os := os) (X := fun w _ => laidMetH Tryz.prog Rows.datumOrderRow.laid w) false (World.doorLaid Tryz.prog 63 os) #[.agg #[.int .i64 0, .int .i64 0, .string ByteArray.empty, .slice none 0 0, .slice none 0 0], .agg #[.int .i64 0, .int .i64 0, .string ByteArray.empty, .slice none 0 0, .slice none 0 0], .agg #[.int .i64 0, .int .i64 0, .string ByteArray.empty, .slice none 0 0, .slice none 0 0]] 8 rfl (World.shaped_of_RefB (by kernel_rfl) (by kernel_rfl)) (by kernel_rfl) (by kernel_rfl) (by kernel_rfl) (door_met os _)) ?_
 intro W base args ds gs before hval0 hW _ hsz0 hL _
 have hgl := gl hL
 have hsz : (DataW.weightsEach Tryz.prog (Tryz.f4.params.toList ++ Rows.datumOrderSpec.plain.varTypes Tryz.prog) (ds ++ gs)).all (· ≤ reachBytes) = true := hsz0
 have hval : ∀ (j : Nat) t v, Tryz.f4.params[j]? = some t → args[j]? = some v → Value.okWide Tryz.prog W .any base t v := hval0
 have hW' := hW
 obtain ⟨p, q, hA0, hV, rfl, hfz, hnd⟩ := hW
 have hA : DataW.TrodAll enc Tryz.prog W 0 (fun _ => true) true Tryz.f4.params.toList args.toList ds p := hA0
 rw [Tryz.params4] at hA hval hsz
 obtain ⟨v0, vs0, d0, ds0, p0, q0, hargs, rfl, rfl, h0, r0⟩ := trodAll_cons hA
 obtain ⟨v1, vs1, d1, ds1, p1, q1, rfl, rfl, rfl, h1, r1⟩ := trodAll_cons r0
 obtain ⟨v2, vs2, d2, ds2, p2, q2, rfl, rfl, rfl, h2, r2⟩ := trodAll_cons r1
 obtain ⟨rfl, rfl, rfl⟩ := trodAll_nil r2
 obtain rfl : args = #[v0, v1, v2] := by cases args; simp_all
 obtain ⟨rfl, rfl⟩ := trodVars_none hV
 have k0 := h0
 have lt0 : ∀ x ∈ p0, x.block < W.heap.size := by obtain ⟨m, hm⟩ := k0; exact DataW.trod_lt m _ _ _ hm
 have w0 : Go.Proofs.YtidcecpbihmloaaGreatDoorE.openDatT W v0 := (by
  obtain ⟨fuel, hf⟩ := h0
  exact Go.Proofs.YtidcecpbihmloaaGreatDoorE.openDat (hval 0 25 v0 rfl rfl) hf (fun n hn => of_decide_eq_true (List.all_eq_true.1 hsz n (DataW.weights_mem_each (j := 0) (t := 25) rfl rfl n hn))))
 have k1 := h1
 have lt1 : ∀ x ∈ p1, x.block < W.heap.size := by obtain ⟨m, hm⟩ := k1; exact DataW.trod_lt m _ _ _ hm
 have w1 : Go.Proofs.YtidcecpbihmloaaGreatDoorE.openDatT W v1 := (by
  obtain ⟨fuel, hf⟩ := h1
  exact Go.Proofs.YtidcecpbihmloaaGreatDoorE.openDat (hval 1 25 v1 rfl rfl) hf (fun n hn => of_decide_eq_true (List.all_eq_true.1 hsz n (DataW.weights_mem_each (j := 1) (t := 25) rfl rfl n hn))))
 have k2 := h2
 have lt2 : ∀ x ∈ p2, x.block < W.heap.size := by obtain ⟨m, hm⟩ := k2; exact DataW.trod_lt m _ _ _ hm
 have w2 : Go.Proofs.YtidcecpbihmloaaGreatDoorE.openDatT W v2 := (by
  obtain ⟨fuel, hf⟩ := h2
  exact Go.Proofs.YtidcecpbihmloaaGreatDoorE.openDat (hval 2 25 v2 rfl rfl) hf (fun n hn => of_decide_eq_true (List.all_eq_true.1 hsz n (DataW.weights_mem_each (j := 2) (t := 25) rfl rfl n hn))))
 clear hA0 hval0 hsz0 hsz hL
 refine (Go.Proofs.YtidcecpbihmloaaGreatDoorE.datumOrder_h v0 v1 v2 W hgl w0 w1 w2).mono fun e W' ⟨he, bel⟩ => ?_
 subst he
 exact ⟨_, rfl, _, _, _, [], _, [], hW', trodAll_mk1 (shut_bool Tryz.underlying4 _), (trodAll_cons_mk (Below.trod laidOut (by kernel_rfl) (of_decide_eq_true (by kernel_rfl)) k0 bel lt0) (trodAll_cons_mk (Below.trod laidOut (by kernel_rfl) (of_decide_eq_true (by kernel_rfl)) k1 bel lt1) (trodAll_cons_mk (Below.trod laidOut (by kernel_rfl) (of_decide_eq_true (by kernel_rfl)) k2 bel lt2) trodAll_mk0))), rfl, bel.frame _, fun h => by cases h⟩
theorem over : Rows.datumOrderRow.holds Tryz.pinned (OpenSpec.ofChange Rows.datumOrderSpec) :=
 OpenClaim.holds_of_wide 4 Tryz.f4 rfl rfl rfl rfl rfl rfl rfl ⟨rfl, rfl, rfl, rfl, rfl⟩ rfl rfl rfl rfl rfl (by kernel_rfl) Tryz.func4 (by kernel_rfl)
  (of_decide_eq_true (by kernel_rfl)) (by unfold Func.isWrapper; first | (rw [if_pos (by decide +kernel)]; kernel_rfl) | (rw [if_neg (by decide +kernel)]; exact ⟨rfl, rfl⟩))
  (fun os started H enc _ => lifted os started H enc)
theorem wants : ∀ (j : Nat) (t : TypeId), Tryz.f4.params[j]? = some t → Tryz.prog.wantsStandIn t = false := by
 intro j t ht
 rw [Tryz.params4] at ht
 rcases j with _ | j
 ·have h3 : t = 25 := by simpa using ht.symm
  subst h3
  exact (show Tryz.prog.wantsStandIn 25 = false by kernel_rfl)
 rcases j with _ | j
 ·have h3 : t = 25 := by simpa using ht.symm
  subst h3
  exact (show Tryz.prog.wantsStandIn 25 = false by kernel_rfl)
 rcases j with _ | j
 ·have h3 : t = 25 := by simpa using ht.symm
  subst h3
  exact (show Tryz.prog.wantsStandIn 25 = false by kernel_rfl)
 simp at ht
theorem proved : Rows.DatumOrderCardSaid :=
 Claim7.holds_tied_plain_at .later [] [.data, .data, .data, .sentinel, .sentinel] true (true, "34bec7812849d10c57c46621dab0c97b719c285dbe913136db37cec4159ff9e8") true
  over (fun _ h => by cases h) (by kernel_rfl) (fun _ h => by cases h) datumOrder_row_tie rfl ⟨rfl, rfl⟩ (by kernel_rfl) rfl
  (fun f fn hf hfn => by
   obtain rfl : f = 4 := Option.some.inj ((show Tryz.prog.funcNamed "tendril/tendrillaw16.DatumOrder" = some 4 by kernel_rfl).symm.trans hf) |>.symm
   obtain rfl : fn = Tryz.f4 := (Option.some.inj (Tryz.func4.symm.trans hfn)).symm
   exact ⟨by kernel_rfl, wants⟩)
  (by kernel_rfl)
end Go.Proofs.YtidcecpbihmloaaGreatDoor.datumOrder
namespace Go.Proofs.YtidcecpbihmloaaGreatDoor
/-- The card, under a short name, for the claim. -/
theorem datumOrder_holds : Rows.DatumOrderCardSaid := datumOrder.proved
end Go.Proofs.YtidcecpbihmloaaGreatDoor
