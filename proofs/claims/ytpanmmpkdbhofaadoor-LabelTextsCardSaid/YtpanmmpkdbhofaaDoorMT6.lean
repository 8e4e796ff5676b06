/- The row and the card of LabelTexts: whatever the input, the law returns true. -/
import Derived.Test.YtpanmmpkdbhofaaDoorMT5
import Derived.Test.YtpanmmpkdbhofaaDoorRows
import Derived.Test.YtpanmmpkdbhofaaDoorCards
import Derived.Test.YtpanmmpkdbhofaaDoorTie
import Derived.WalkKit
import Derived.ProofKit
import Derived.OpenShut
import Derived.ShutString
import Derived.ChangeOld
import Derived.Below
import Derived.SizedLaws
import Derived.LaidMore
import Derived.Stop.Joined
import Derived.SevenTiedAt
import Derived.MakeChecks
import Derived.Handed
import Derived.Lib.SmallJoins
import Derived.Carry

namespace Go.Proofs.YtpanmmpkdbhofaaDoor.labelTexts
open Go.ChangeShapes Go.WideShapes Go.ChangeAt Go.RowKit
open Go.ChangeMaps (open_string shut_string)
set_option linter.unusedVariables false
theorem own : ownKnob Tryd.prog.godebug = none := by kernel_rfl
theorem door_met (os : Os) (args : Array Value) : laidMetH Tryd.prog Rows.labelTextsRow.laid ((World.doorLaid Tryd.prog 62 os).forCall (fun _ _ => 0) ⟨#[], args, []⟩).memory :=
  laidMetH_of_parts3 (fuel := 8) (laidMet_of_run' 8 (by kernel_rfl) (by kernel_rfl)) (by kernel_rfl) (by kernel_rfl)
theorem gl {W : World} (h : laidMetH Tryd.prog Rows.labelTextsRow.laid W) : Go.Proofs.YtpanmmpkdbhofaaDoorX.GL W := by
  rw [MakeChecks.laidMetH_plain _ _ _ (by kernel_rfl)] at h
  exact Go.Proofs.YtpanmmpkdbhofaaDoorX.gl_of h
theorem laidOut : laidOutB Tryd.prog = true := by kernel_rfl
set_option maxRecDepth 100000 in
theorem lifted (os : Os) (started : os.Started) (H : Type) (enc : TypeId × Value → H) :
    ReturnsInHanded {} Tryd.checked os 11 .any (fun w args => (Rows.labelTextsSpec.pre enc Tryd.prog Tryd.f11 [] false w args ∧ laidMetH Tryd.prog Rows.labelTextsRow.laid w) ∧ sizedMet enc Tryd.prog Tryd.f11 (OpenSpec.ofChange Rows.labelTextsSpec) false w args) (Rows.labelTextsSpec.post enc Tryd.prog Tryd.f11 false true false false) := by
  refine returnsInHanded_of_change_and (C := Tryd.checked) (X := fun w _ => laidMetH Tryd.prog Rows.labelTextsRow.laid w) (fun _ _ _ hh h => h.of_heap hh) own started (by kernel_rfl) Tryd.func11
    (ChangeSpec.witness_shaped (enc := enc) (C := Tryd.checked) (os := os) (X := fun w _ => laidMetH Tryd.prog Rows.labelTextsRow.laid w) false (World.doorLaid Tryd.prog 62 os) #[.agg #[.string ByteArray.empty, .string ByteArray.empty, .int .i64 0], .string ByteArray.empty] 8 rfl (World.shaped_of_RefB (by kernel_rfl) (by kernel_rfl)) (by kernel_rfl) (by kernel_rfl) (by kernel_rfl) (door_met os _)) ?_
  intro W base args ds gs before hval0 hW _ hsz0 hL _
  have hgl := gl hL
  have hsz : (DataW.weightsEach Tryd.prog (Tryd.f11.params.toList ++ Rows.labelTextsSpec.plain.varTypes Tryd.prog) (ds ++ gs)).all (· ≤ reachBytes) = true := hsz0
  have hval : ∀ (j : Nat) t v, Tryd.f11.params[j]? = some t → args[j]? = some v → Value.okWide Tryd.prog W .any base t v := hval0
  have hW' := hW
  obtain ⟨p, q, hA0, hV, rfl, hfz, hnd⟩ := hW
  have hA : DataW.TrodAll enc Tryd.prog W 0 (fun _ => true) true Tryd.f11.params.toList args.toList ds p := hA0
  rw [Tryd.params11] at hA hval hsz
  obtain ⟨v0, vs0, d0, ds0, p0, q0, hargs, rfl, rfl, h0, r0⟩ := trodAll_cons hA
  obtain ⟨v1, vs1, d1, ds1, p1, q1, rfl, rfl, rfl, h1, r1⟩ := trodAll_cons r0
  obtain ⟨rfl, rfl, rfl⟩ := trodAll_nil r1
  obtain rfl : args = #[v0, v1] := by cases args; simp_all
  obtain ⟨rfl, rfl⟩ := trodVars_none hV
  have k0 := h0
  have lt0 : ∀ x ∈ p0, x.block < W.heap.size := by obtain ⟨m, hm⟩ := k0; exact DataW.trod_lt m _ _ _ hm
  obtain ⟨x00, x01, x02, y00, y01, y02, m0, rfl, rfl, rfl, t00, t01, t02⟩ := Go.Joins.open_agg3 Tryd.underlying56 (by kernel_rfl) (by kernel_rfl) (hval 0 56 v0 rfl rfl) h0
  obtain ⟨a0, e00, rfl, -⟩ := DataW.trod_string Tryd.underlying9 t00
  obtain ⟨b0, e01, rfl, -⟩ := DataW.trod_string Tryd.underlying9 t01
  obtain ⟨c0, e02, rfl, w02⟩ := DataW.trod_int Tryd.underlying3 t02
  injection e00 with e00
  injection e01 with e01
  injection e02 with e02
  subst e00 e01 e02
  have w00 : a0.size ≤ 140737488351232 := by
    have z := List.all_eq_true.1 hsz _ (DataW.weights_mem_each (j := 0) (t := 56) rfl rfl a0.data.toList.length (by simp [DataW.weights, Tryd.underlying56, DataW.weightsEach]))
    rw [Array.length_toList] at z
    exact of_decide_eq_true z
  have w01 : b0.size ≤ 140737488351232 := by
    have z := List.all_eq_true.1 hsz _ (DataW.weights_mem_each (j := 0) (t := 56) rfl rfl b0.data.toList.length (by simp [DataW.weights, Tryd.underlying56, DataW.weightsEach]))
    rw [Array.length_toList] at z
    exact of_decide_eq_true z
  obtain ⟨a1, rfl, rfl, rfl, y1⟩ := open_string Tryd.underlying9 (hval 1 9 v1 rfl rfl) h1
  have w1 : a1.size ≤ 140737488351232 := by
    have z := sized_string hsz (j := 1) (t := 9) rfl rfl
    rw [Array.length_toList] at z
    exact z
  clear hA0 hval0 hsz0 hsz hL
  refine (Go.Proofs.YtpanmmpkdbhofaaDoor.Pure.labelTexts_w a0 b0 c0 a1 W hgl w00 w01 w02 w1).mono fun e W' ⟨he, bel⟩ => ?_
  subst he
  exact ⟨_, rfl, _, _, _, [], _, [], hW', trodAll_mk1 (shut_bool Tryd.underlying4 _), (trodAll_cons_mk (Below.trod laidOut (by kernel_rfl) (of_decide_eq_true (by kernel_rfl)) k0 bel lt0) (trodAll_cons_mk (shut_string Tryd.underlying9 y1) trodAll_mk0)), rfl, bel.frame _, fun h => by cases h⟩
theorem over : Rows.labelTextsRow.holds Tryd.pinned (OpenSpec.ofChange Rows.labelTextsSpec) :=
  OpenClaim.holds_of_wide 11 Tryd.f11 rfl rfl rfl rfl rfl rfl rfl ⟨rfl, rfl, rfl, rfl, rfl⟩ rfl rfl rfl rfl rfl (by kernel_rfl) Tryd.func11 (by kernel_rfl)
    (of_decide_eq_true (by kernel_rfl)) (by unfold Func.isWrapper; first | (rw [if_pos (by decide +kernel)]; kernel_rfl) | (rw [if_neg (by decide +kernel)]; exact ⟨rfl, rfl⟩))
    (fun os started H enc _ => lifted os started H enc)
theorem wants : ∀ (j : Nat) (t : TypeId), Tryd.f11.params[j]? = some t → Tryd.prog.wantsStandIn t = false := by
  intro j t ht
  rw [Tryd.params11] at ht
  rcases j with _ | j
  · have h3 : t = 56 := by simpa using ht.symm
    subst h3
    exact (show Tryd.prog.wantsStandIn 56 = false by kernel_rfl)
  rcases j with _ | j
  · have h3 : t = 9 := by simpa using ht.symm
    subst h3
    exact (show Tryd.prog.wantsStandIn 9 = false by kernel_rfl)
  simp at ht
theorem proved : Rows.LabelTextsCardSaid :=
  Claim7.holds_tied_plain_at .later [] [.data, .data, .data, .sentinel, .sentinel] true (true, "f34a13f7a2e572fe92dfbbe1cc8ea8881f651b4747b1b2d7c1466721f57ac486") true
    over (fun _ h => by cases h) (by kernel_rfl) (fun _ h => by cases h) labelTexts_row_tie rfl ⟨rfl, rfl⟩ (by kernel_rfl) rfl
    (fun f fn hf hfn => by
      obtain rfl : f = 11 := Option.some.inj ((show Tryd.prog.funcNamed "tendril/tendrillaw12.LabelTexts" = some 11 by kernel_rfl).symm.trans hf) |>.symm
      obtain rfl : fn = Tryd.f11 := (Option.some.inj (Tryd.func11.symm.trans hfn)).symm
      exact ⟨by kernel_rfl, wants⟩)
    (by kernel_rfl)
end Go.Proofs.YtpanmmpkdbhofaaDoor.labelTexts
namespace Go.Proofs.YtpanmmpkdbhofaaDoor
/-- The card, under a short name, for the claim. -/
theorem labelTexts_holds : Rows.LabelTextsCardSaid := labelTexts.proved
end Go.Proofs.YtpanmmpkdbhofaaDoor
