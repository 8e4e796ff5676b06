/- The row and the card of OpsReads: whatever the input, the law returns true. -/
import Derived.Test.YtgdemingopcgaaaDoorOR6
import Derived.OwnWalk
import Derived.Test.YtgdemingopcgaaaDoorRows
import Derived.Test.YtgdemingopcgaaaDoorCards
import Derived.Test.YtgdemingopcgaaaDoorTie
import Derived.WalkKit
import Derived.ProofKit
import Derived.OpenShut
import Derived.ShutString
import Derived.ChangeOld
import Derived.Below
import Derived.SizedLaws
import Derived.LaidMore
import Derived.Stop.Joined
import Derived.SevenTiedAt
import Derived.MakeChecks
import Derived.Handed
import Derived.Lib.SmallJoins
import Derived.Carry

namespace Go.Proofs.YtgdemingopcgaaaDoorE
open Go Go.RowKit Go.Proofs.YtgdemingopcgaaaDoorW.PrintWords Go.Proofs.YtgdemingopcgaaaDoorX Go.Proofs.YtgdemingopcgaaaDoor.P26
set_option linter.unusedVariables false
set_option linter.unusedSimpArgs false
/-- How many there are of a kind. -/
def cntK (l : List S24) (k : Int) : Nat := l.countP (fun x => decide (x.f0 = k))
theorem cntK_le (l : List S24) (k : Int) : cntK l k ≤ l.length := List.countP_le_length
theorem cntK_snoc (l : List S24) (x : S24) (k : Int) : cntK (l ++ [x]) k = cntK l k + (if x.f0 = k then 1 else 0) := by
  unfold cntK
  rw [List.countP_append, List.countP_cons, List.countP_nil]
  simp
theorem take_snoc24 (l : List S24) (k : Nat) (hk : k < l.length) : l.take (k + 1) = l.take k ++ [rd_T24 l (k : Int)] := by
  rw [List.take_add_one, List.getElem?_eq_getElem hk]
  unfold rd_T24
  rw [Int.toNat_natCast, List.getD_eq_getElem?_getD, List.getElem?_eq_getElem hk]
  rfl
set_option maxHeartbeats 4000000 in
set_option maxRecDepth 100000 in
theorem Total_C (a b c d e f g : Nat) (w : World) (h : a + b + c + d + e + f + g ≤ 9223372036854775807) :
    Calls Tryd.prog 19 #[.agg #[.int .i64 a, .int .i64 b, .int .i64 c, .int .i64 d, .int .i64 e, .int .i64 f, .int .i64 g]] w fun r w' => r = .returned (.int .i64 ((a + b + c + d + e + f + g : Nat) : Int)) ∧ Below w.heap.size w w' := by
  go_enter Tryd.func19, Tryd.ntmps19
  go_wp2_with fail
  refine bodyPost_ret (results_tmp rfl _ _ _) rfl ⟨?_, below_alloc (Below.refl _ _) _⟩
  show Ending.returned (.int .i64 _) = _
  congr 2
/-- The counts so far, in the array's cells. -/
def cntA (l : List S24) : Array Value := #[.int .i64 0, .int .i64 (cntK l 1), .int .i64 (cntK l 2), .int .i64 (cntK l 3), .int .i64 (cntK l 4), .int .i64 (cntK l 5), .int .i64 (cntK l 6), .int .i64 (cntK l 7)]
theorem w64_succ' (i : Nat) (h : i < 9223372036854775807) : wrap64 ((i : Int) + 1) = (i : Int) + 1 := by unfold wrap64; omega
def costV (l : List S24) : Value := .agg #[.int .i64 (cntK l 1), .int .i64 (cntK l 2), .int .i64 (cntK l 3), .int .i64 (cntK l 4), .int .i64 (cntK l 5), .int .i64 (cntK l 6), .int .i64 (cntK l 7)]
def InvK (w : World) (l : List S24) (k : Nat) (wr : World) : Prop :=
  wr.heap[w.heap.size]? = some (.cells #[.int .i64 0, .int .i64 0, .int .i64 0, .int .i64 0, .int .i64 0, .int .i64 0, .int .i64 0] 44 (0, 0)) ∧ wr.heap[w.heap.size + 1]? = some (.cells (cntA (l.take k)) 70 (0, 0)) ∧ Below w.heap.size w wr ∧ w.heap.size + 2 ≤ wr.heap.size
set_option maxHeartbeats 4000000 in
set_option maxRecDepth 100000 in
theorem Count_c (A : Option Addr) (c : Nat) (l : List S24) (w : World) (hl : Kd.C k24 w A l.length l) (hc : l.length ≤ c) :
    Calls Tryd.prog 16 #[.slice A l.length c] w fun e w' => e = .returned (costV l) ∧ Below w.heap.size w w' := by
  have HL := Aside0.mk hl
  have hmax := hl.2.1
  have H0 : Aside0 (InvK w l 0 ((w.alloc (.cells #[.int .i64 0, .int .i64 0, .int .i64 0, .int .i64 0, .int .i64 0, .int .i64 0, .int .i64 0] 44)).alloc (.cells #[.int .i64 0, .int .i64 0, .int .i64 0, .int .i64 0, .int .i64 0, .int .i64 0, .int .i64 0, .int .i64 0] 70))) := ⟨two_old_ w _ _, two_new_ w _ _, below_alloc (below_alloc (Below.refl _ _) _) _, by simp⟩
  clear hl
  go_enter Tryd.func16, Tryd.ntmps16
  go_wp2_with fail
  go_loopw [8] (fun i wr => ∃ k : Nat, k ≤ l.length ∧ i = .int .i64 k ∧ Aside0 (InvK w l k wr)) (fun i _ => l.length - (intOf i).toNat)
  case atStart => exact ⟨0, Nat.zero_le _, rfl, H0⟩
  case round =>
    obtain ⟨k, hk, rfl, HI⟩ := hrel
    by_cases hlt : k < l.length
    · obtain ⟨ad, A8, c8, rfl, e0, e1, e2, e3, e4, e5, e6, e7, e8, hl8, hi8⟩ := at_T24 HL.out (k : Int) (by omega) (by omega)
      rw [Int.toNat_natCast] at e0 e1 e2 e3 e4 e5 e6 e7 e8
      have hts := take_snoc24 l k hlt
      obtain ⟨X, hX⟩ : ∃ X, X = rd_T24 l (k : Int) := ⟨_, rfl⟩
      rw [← hX] at e0 e1 e2 e3 e4 e5 e6 e7 e8 hts
      have HTS := Aside0.mk hts
      have hb := HI.out.2.2.1
      have d0 := pw_cell_below hb e0
      have d1 := pw_cell_below hb e1
      have d2 := pw_cell_below hb e2
      have d3 := pw_cell_below hb e3
      have d4 := pw_cell_below hb e4
      have d5 := pw_cell_below hb e5
      have d6 := pw_cell_below hb e6
      have d7 := pw_cell_below hb e7
      have d8 := pw_cell_below hb e8
      clear e0 e1 e2 e3 e4 e5 e6 e7 e8 hl8 hi8 hX hts hb
      obtain ⟨f0, f1, f2, f3, f4, f5, f6, f7, f8⟩ := X
      simp only at d0 d1 d2 d3 d4 d5 d6 d7 d8
      have HBX : Aside0 (∀ o : Obj, InvK w l k (wr.alloc o)) := ⟨fun o => by
        obtain ⟨i1, i2, i3, i4⟩ := HI.out
        exact ⟨((below_alloc (Below.refl _ wr) o).block _ (by omega)).trans i1, ((below_alloc (Below.refl _ wr) o).block _ (by omega)).trans i2, below_alloc i3 o, by simp; omega⟩⟩
      have c1 := cntK_le (l.take k) 1
      have c2 := cntK_le (l.take k) 2
      have c3 := cntK_le (l.take k) 3
      have c4 := cntK_le (l.take k) 4
      have c5 := cntK_le (l.take k) 5
      have c6 := cntK_le (l.take k) 6
      have c7 := cntK_le (l.take k) 7
      rw [List.length_take] at c1 c2 c3 c4 c5 c6 c7
      by_cases hk0 : 0 < f0
      · by_cases hk8 : f0 < 8
        · have h7 : f0 = 1 ∨ f0 = 2 ∨ f0 = 3 ∨ f0 = 4 ∨ f0 = 5 ∨ f0 = 6 ∨ f0 = 7 := by omega
          have HSET : Aside0 (∀ (o : Obj) (j : Nat) (u : Value), (cntA (l.take k)).setIfInBounds j u = cntA (l.take (k + 1)) → InvK w l (k + 1) ((wr.alloc o).setCell ⟨w.heap.size + 1, j, none⟩ u)) := ⟨fun o j u h => by
            obtain ⟨i1, i2, i3, i4⟩ := HBX.out o
            have hB : But (· = w.heap.size + 1) (wr.alloc o) ((wr.alloc o).setCell ⟨w.heap.size + 1, j, none⟩ u) := (But.refl _ _).put_self j u
            exact ⟨(hB.block _ (blk_lt' i1) (by omega)).trans i1, h ▸ set_blk i2 u, i3.setCell (by show w.heap.size ≤ w.heap.size + 1; omega) u, Nat.le_trans i4 hB.size⟩⟩
          rcases h7 with rfl | rfl | rfl | rfl | rfl | rfl | rfl
          · have hA : (cntA (l.take k)).setIfInBounds 1 (.int .i64 ((cntK (l.take k) 1 : Int) + 1)) = cntA (l.take (k + 1)) := by
              rw [HTS.out]
              unfold cntA
              simp [cntK_snoc]
            have HA := Aside0.mk hA
            have hw := w64_succ' (cntK (l.take k) 1) (by omega)
            have hx := cell_blk (j := 1) (v := .int .i64 (cntK (l.take k) 1)) (HBX.out (.cells #[.int .i64 1, .int .i64 f1, .int .i64 f2, .int .i64 f3, .string f4, .string f5, .string f6, .string f7, .slice A8 f8.length c8] 24)).2.1 rfl
            have hz := Lib.frozen_of_heap (HBX.out (.cells #[.int .i64 1, .int .i64 f1, .int .i64 f2, .int .i64 f3, .string f4, .string f5, .string f6, .string f7, .slice A8 f8.length c8] 24)).2.1 1
            clear hA c1 c2 c3 c4 c5 c6 c7
            generalize cntK (l.take k) 1 = n at hw hx HA
            go_wp2_with fail
            exact ⟨⟨k + 1, by omega, by simp, ⟨HSET.out _ 1 _ HA.out⟩⟩, by simp [intOf]; omega⟩
          · have hA : (cntA (l.take k)).setIfInBounds 2 (.int .i64 ((cntK (l.take k) 2 : Int) + 1)) = cntA (l.take (k + 1)) := by
              rw [HTS.out]
              unfold cntA
              simp [cntK_snoc]
            have HA := Aside0.mk hA
            have hw := w64_succ' (cntK (l.take k) 2) (by omega)
            have hx := cell_blk (j := 2) (v := .int .i64 (cntK (l.take k) 2)) (HBX.out (.cells #[.int .i64 2, .int .i64 f1, .int .i64 f2, .int .i64 f3, .string f4, .string f5, .string f6, .string f7, .slice A8 f8.length c8] 24)).2.1 rfl
            have hz := Lib.frozen_of_heap (HBX.out (.cells #[.int .i64 2, .int .i64 f1, .int .i64 f2, .int .i64 f3, .string f4, .string f5, .string f6, .string f7, .slice A8 f8.length c8] 24)).2.1 2
            clear hA c1 c2 c3 c4 c5 c6 c7
            generalize cntK (l.take k) 2 = n at hw hx HA
            go_wp2_with fail
            exact ⟨⟨k + 1, by omega, by simp, ⟨HSET.out _ 2 _ HA.out⟩⟩, by simp [intOf]; omega⟩
          · have hA : (cntA (l.take k)).setIfInBounds 3 (.int .i64 ((cntK (l.take k) 3 : Int) + 1)) = cntA (l.take (k + 1)) := by
              rw [HTS.out]
              unfold cntA
              simp [cntK_snoc]
            have HA := Aside0.mk hA
            have hw := w64_succ' (cntK (l.take k) 3) (by omega)
            have hx := cell_blk (j := 3) (v := .int .i64 (cntK (l.take k) 3)) (HBX.out (.cells #[.int .i64 3, .int .i64 f1, .int .i64 f2, .int .i64 f3, .string f4, .string f5, .string f6, .string f7, .slice A8 f8.length c8] 24)).2.1 rfl
            have hz := Lib.frozen_of_heap (HBX.out (.cells #[.int .i64 3, .int .i64 f1, .int .i64 f2, .int .i64 f3, .string f4, .string f5, .string f6, .string f7, .slice A8 f8.length c8] 24)).2.1 3
            clear hA c1 c2 c3 c4 c5 c6 c7
            generalize cntK (l.take k) 3 = n at hw hx HA
            go_wp2_with fail
            exact ⟨⟨k + 1, by omega, by simp, ⟨HSET.out _ 3 _ HA.out⟩⟩, by simp [intOf]; omega⟩
          · have hA : (cntA (l.take k)).setIfInBounds 4 (.int .i64 ((cntK (l.take k) 4 : Int) + 1)) = cntA (l.take (k + 1)) := by
              rw [HTS.out]
              unfold cntA
              simp [cntK_snoc]
            have HA := Aside0.mk hA
            have hw := w64_succ' (cntK (l.take k) 4) (by omega)
            have hx := cell_blk (j := 4) (v := .int .i64 (cntK (l.take k) 4)) (HBX.out (.cells #[.int .i64 4, .int .i64 f1, .int .i64 f2, .int .i64 f3, .string f4, .string f5, .string f6, .string f7, .slice A8 f8.length c8] 24)).2.1 rfl
            have hz := Lib.frozen_of_heap (HBX.out (.cells #[.int .i64 4, .int .i64 f1, .int .i64 f2, .int .i64 f3, .string f4, .string f5, .string f6, .string f7, .slice A8 f8.length c8] 24)).2.1 4
            clear hA c1 c2 c3 c4 c5 c6 c7
            generalize cntK (l.take k) 4 = n at hw hx HA
            go_wp2_with fail
            exact ⟨⟨k + 1, by omega, by simp, ⟨HSET.out _ 4 _ HA.out⟩⟩, by simp [intOf]; omega⟩
          · have hA : (cntA (l.take k)).setIfInBounds 5 (.int .i64 ((cntK (l.take k) 5 : Int) + 1)) = cntA (l.take (k + 1)) := by
              rw [HTS.out]
              unfold cntA
              simp [cntK_snoc]
            have HA := Aside0.mk hA
            have hw := w64_succ' (cntK (l.take k) 5) (by omega)
            have hx := cell_blk (j := 5) (v := .int .i64 (cntK (l.take k) 5)) (HBX.out (.cells #[.int .i64 5, .int .i64 f1, .int .i64 f2, .int .i64 f3, .string f4, .string f5, .string f6, .string f7, .slice A8 f8.length c8] 24)).2.1 rfl
            have hz := Lib.frozen_of_heap (HBX.out (.cells #[.int .i64 5, .int .i64 f1, .int .i64 f2, .int .i64 f3, .string f4, .string f5, .string f6, .string f7, .slice A8 f8.length c8] 24)).2.1 5
            clear hA c1 c2 c3 c4 c5 c6 c7
            generalize cntK (l.take k) 5 = n at hw hx HA
            go_wp2_with fail
            exact ⟨⟨k + 1, by omega, by simp, ⟨HSET.out _ 5 _ HA.out⟩⟩, by simp [intOf]; omega⟩
          · have hA : (cntA (l.take k)).setIfInBounds 6 (.int .i64 ((cntK (l.take k) 6 : Int) + 1)) = cntA (l.take (k + 1)) := by
              rw [HTS.out]
              unfold cntA
              simp [cntK_snoc]
            have HA := Aside0.mk hA
            have hw := w64_succ' (cntK (l.take k) 6) (by omega)
            have hx := cell_blk (j := 6) (v := .int .i64 (cntK (l.take k) 6)) (HBX.out (.cells #[.int .i64 6, .int .i64 f1, .int .i64 f2, .int .i64 f3, .string f4, .string f5, .string f6, .string f7, .slice A8 f8.length c8] 24)).2.1 rfl
            have hz := Lib.frozen_of_heap (HBX.out (.cells #[.int .i64 6, .int .i64 f1, .int .i64 f2, .int .i64 f3, .string f4, .string f5, .string f6, .string f7, .slice A8 f8.length c8] 24)).2.1 6
            clear hA c1 c2 c3 c4 c5 c6 c7
            generalize cntK (l.take k) 6 = n at hw hx HA
            go_wp2_with fail
            exact ⟨⟨k + 1, by omega, by simp, ⟨HSET.out _ 6 _ HA.out⟩⟩, by simp [intOf]; omega⟩
          · have hA : (cntA (l.take k)).setIfInBounds 7 (.int .i64 ((cntK (l.take k) 7 : Int) + 1)) = cntA (l.take (k + 1)) := by
              rw [HTS.out]
              unfold cntA
              simp [cntK_snoc]
            have HA := Aside0.mk hA
            have hw := w64_succ' (cntK (l.take k) 7) (by omega)
            have hx := cell_blk (j := 7) (v := .int .i64 (cntK (l.take k) 7)) (HBX.out (.cells #[.int .i64 7, .int .i64 f1, .int .i64 f2, .int .i64 f3, .string f4, .string f5, .string f6, .string f7, .slice A8 f8.length c8] 24)).2.1 rfl
            have hz := Lib.frozen_of_heap (HBX.out (.cells #[.int .i64 7, .int .i64 f1, .int .i64 f2, .int .i64 f3, .string f4, .string f5, .string f6, .string f7, .slice A8 f8.length c8] 24)).2.1 7
            clear hA c1 c2 c3 c4 c5 c6 c7
            generalize cntK (l.take k) 7 = n at hw hx HA
            go_wp2_with fail
            exact ⟨⟨k + 1, by omega, by simp, ⟨HSET.out _ 7 _ HA.out⟩⟩, by simp [intOf]; omega⟩
        · have hA : cntA (l.take (k + 1)) = cntA (l.take k) := by
            rw [HTS.out]
            unfold cntA
            simp [cntK_snoc, show ¬ f0 = 1 by omega, show ¬ f0 = 2 by omega, show ¬ f0 = 3 by omega, show ¬ f0 = 4 by omega, show ¬ f0 = 5 by omega, show ¬ f0 = 6 by omega, show ¬ f0 = 7 by omega]
          have HA := Aside0.mk hA
          clear hA
          go_wp2_with fail
          refine ⟨⟨k + 1, by omega, by simp, ⟨?_⟩⟩, by simp [intOf]; omega⟩
          unfold InvK
          rw [HA.out]
          exact HBX.out _
      · have hA : cntA (l.take (k + 1)) = cntA (l.take k) := by
          rw [HTS.out]
          unfold cntA
          simp [cntK_snoc, show ¬ f0 = 1 by omega, show ¬ f0 = 2 by omega, show ¬ f0 = 3 by omega, show ¬ f0 = 4 by omega, show ¬ f0 = 5 by omega, show ¬ f0 = 6 by omega, show ¬ f0 = 7 by omega]
        have HA := Aside0.mk hA
        clear hA
        go_wp2_with fail
        refine ⟨⟨k + 1, by omega, by simp, ⟨?_⟩⟩, by simp [intOf]; omega⟩
        unfold InvK
        rw [HA.out]
        exact HBX.out _
    · obtain rfl : k = l.length := by omega
      have hx := Lib.cell_of_heap HI.out.2.1
      have hy := Lib.cell_of_heap HI.out.1
      have hz := Lib.frozen_of_heap HI.out.1
      have hts : l.take l.length = l := List.take_of_length_le (Nat.le_refl _)
      rw [hts] at hx
      unfold cntA at hx
      go_wp2_with fail
      have hg := Nat.le_refl w.heap.size
      refine bodyPost_ret (results_cell_row rfl _ _ w.heap.size 44 _ (0, 0) _ rfl (set_blk (j := 6) (set_blk (j := 5) (set_blk (j := 4) (set_blk (j := 3) (set_blk (j := 2) (set_blk (j := 1) (set_blk (j := 0) HI.out.1 _) _) _) _) _) _) _) Tryd.underlying44 rfl (by kernel_rfl)) rfl ⟨rfl, ?_⟩
      exact (((((((HI.out.2.2.1.setCell hg _).setCell hg _).setCell hg _).setCell hg _).setCell hg _).setCell hg _).setCell hg _)
end Go.Proofs.YtgdemingopcgaaaDoorE

namespace Go.Proofs.YtgdemingopcgaaaDoorE
open Go Go.RowKit Go.Proofs.YtgdemingopcgaaaDoorW.PrintWords Go.Proofs.YtgdemingopcgaaaDoorW.PrintMore Go.Proofs.YtgdemingopcgaaaDoorX Go.Proofs.YtgdemingopcgaaaDoor.P26
set_option linter.unusedVariables false
set_option linter.unusedSimpArgs false
set_option maxRecDepth 100000
theorem w64_succ (i : Nat) (h : i < 9223372036854775807) : wrap64 ((i : Int) + 1) = ((i + 1 : Nat) : Int) := by unfold wrap64; omega
theorem attrs_self (l : List S51) (hn : l.length ≤ 9223372036854775807) : ∀ d i : Nat, i + d = l.length → Ev (fun k => tendrilplain_Attrs.l0 k l l (l.length : Int) (i : Int)) true := by
  intro d
  induction d with
  | zero =>
    intro i hi
    refine Ev.step (f := fun _ => some true) (fun k => ?_) (Ev.now _)
    simp only [tendrilplain_Attrs.l0]
    rw [if_neg (by omega)]
  | succ d ih =>
    intro i hi
    refine Ev.step (fun k => ?_) (ih (i + 1) (by omega))
    simp only [tendrilplain_Attrs.l0]
    rw [if_pos (by omega), if_pos (by omega), if_pos (by omega), if_pos (by omega), if_neg (by simp), w64_succ i (by omega)]
theorem op_self (x : S24) (hn : x.f8.length ≤ 9223372036854775807) : Ev (fun k => tendrilplain_Op.f k x.f0 x.f1 x.f2 x.f3 x.f4 x.f5 x.f6 x.f7 x.f8 x.f0 x.f1 x.f2 x.f3 x.f4 x.f5 x.f6 x.f7 x.f8) true := by
  obtain ⟨k0, h0⟩ := attrs_self x.f8 hn x.f8.length 0 (by omega)
  refine ⟨k0, fun k hk => ?_⟩
  unfold tendrilplain_Op.f
  simp only [if_true]
  unfold tendrilplain_Attrs.f
  rw [if_pos rfl]
  have := h0 k hk
  simp only at this
  rw [show ((0 : Nat) : Int) = 0 from rfl] at this
  rw [this]
  rfl
theorem op_c (x : S24) (A A' : Option Addr) (c c' : Nat) (w : World) (hgl : GL w) (hl : Kd.C k51 w A x.f8.length x.f8) (hc : x.f8.length ≤ c) (hl' : Kd.C k51 w A' x.f8.length x.f8) (hc' : x.f8.length ≤ c') :
    Calls Tryd.prog 12 #[opOf x A c, opOf x A' c'] w fun e w' => e = .returned (.bool true) ∧ Below w.heap.size w w' := by
  obtain ⟨k, hk⟩ := op_self x hl.2.1
  exact tendrilplain_Op.calls k _ _ _ _ _ _ _ _ A c _ _ _ _ _ _ _ _ _ A' c' _ true w hgl hl hc hl' hc' (hk k (Nat.le_refl _))
end Go.Proofs.YtgdemingopcgaaaDoorE

namespace Go.Proofs.YtgdemingopcgaaaDoorE
open Go Go.RowKit Go.Proofs.YtgdemingopcgaaaDoorW.PrintWords Go.Proofs.YtgdemingopcgaaaDoorW.PrintMore Go.Proofs.YtgdemingopcgaaaDoorX Go.Proofs.YtgdemingopcgaaaDoor.P26
set_option linter.unusedVariables false
set_option linter.unusedSimpArgs false
set_option maxRecDepth 100000
theorem rcheck_c (x : S24) (A : Option Addr) (c : Nat) (w : World) (hgl : GL w) (hl : Kd.C k51 w A x.f8.length x.f8) (hc : x.f8.length ≤ c) (hx : okX x) :
    Calls Tryd.prog 9 #[opOf x A c] w fun e w' => e = .returned (.int .i64 (chk x)) ∧ Below w.heap.size w w' := by
  obtain ⟨k, hk⟩ := rcheck_ev x hx
  exact tendrilref25_Check.calls k _ _ _ _ _ _ _ _ A c _ _ w hgl hl hc (hk k (Nat.le_refl _))
theorem name_le32 (more : Bool) (s : ByteArray) (h : Go.Proofs.YtgdemingopcgaaaDoor.M02.namedS more s.data.toList = true) : s.size ≤ 1000000 := by
  have := name_le more s h
  omega
theorem rline_c (x : S24) (A : Option Addr) (c : Nat) (w : World) (hgl : GL w) (hl : Kd.C k51 w A x.f8.length x.f8) (hc : x.f8.length ≤ c) (hx : okX x) (hk : chk x = 0) :
    Calls Tryd.prog 11 #[opOf x A c] w fun e w' => e = .returned (.string (lineB x)) ∧ Below w.heap.size w w' := by
  obtain ⟨h17, hno, ht, hnm, h5, h7, h8, ha⟩ := chk_more x hk
  have h4 : x.f4.size ≤ 1000000 := by
    by_cases h1 : x.f0 = 1
    · exact name_le32 false _ (ht h1)
    · unfold noneO at hno
      simp [h1] at hno
      rw [hno.1.1.1.1]
      exact Nat.zero_le _
  have h6 : x.f6.size ≤ 1000000 := by
    by_cases h1 : x.f0 = 5 ∨ x.f0 = 6
    · exact name_le32 true _ (hnm h1)
    · have h51 : ¬ x.f0 = 5 := fun e => h1 (.inl e)
      have h61 : ¬ x.f0 = 6 := fun e => h1 (.inr e)
      unfold noneO at hno
      simp [h51, h61] at hno
      rw [hno.2.1]
      exact Nat.zero_le _
  obtain ⟨k, hk⟩ := rline_ev x hx h17 h4 (by omega) h6 (by omega) (fun _ => ⟨h8, fun i hi => by
    have hm := ha _ (rd_mem51 _ i hi)
    exact ⟨name_le32 true _ hm.1, by omega⟩⟩)
  exact tendrilref25_Line.calls k _ _ _ _ _ _ _ _ A c _ _ w hgl hl hc (hk k (Nat.le_refl _))
def lineO (x : S24) : ByteArray := if chk x = 0 then lineB x else em
theorem Line_any (x : S24) (A : Option Addr) (c : Nat) (w : World) (hgl : GL w) (hwd : WD w) (hx : okX x) (hc : x.f8.length ≤ c) (hca : Kd.C k51 w A x.f8.length x.f8) :
    Calls Tryd.prog 8 #[opOf x A c] w fun e w' => e = .returned (.tuple #[.string (lineO x), .int .i64 (chk x)]) ∧ Below w.heap.size w w' := by
  unfold lineO
  by_cases hk : chk x = 0
  · rw [if_pos hk]
    obtain ⟨h17, hz⟩ := chk_ok x hk
    refine (Line_ok x A c w hgl hx hc hca hwd hk h17 hz).mono ?_
    rintro e w' ⟨rfl, hb⟩
    exact ⟨by rw [hk], hb⟩
  · rw [if_neg hk]
    exact Line_bad x A c w hgl hx hc hca hk

theorem cells7 : Tryd.prog.cellsOf 44 = 7 := by kernel_rfl
theorem cellsI : Tryd.prog.cellsOf 3 = 1 := by kernel_rfl
theorem keyT7 : Tryd.prog.keyTypeAt 3 44 = true := by kernel_rfl
def lits7 (a b c d e f g : Nat) : List Lit := [.int .i64 a, .int .i64 b, .int .i64 c, .int .i64 d, .int .i64 e, .int .i64 f, .int .i64 g]
def val7 (a b c d e f g : Nat) : Value := .agg #[.int .i64 a, .int .i64 b, .int .i64 c, .int .i64 d, .int .i64 e, .int .i64 f, .int .i64 g]
theorem keyLits7 (a b c d e f g : Nat) (h : a + b + c + d + e + f + g ≤ 9223372036854775807) :
    Tryd.prog.keyLits 3 44 (val7 a b c d e f g).cells.toList = some (lits7 a b c d e f g) := by
  unfold Program.keyLits val7 lits7
  simp only [Tryd.underlying44, Value.cells]
  have wf : ∀ n : Nat, n ≤ 9223372036854775807 → (Lit.int .i64 (n : Int)).wf = true := fun n hn => by
    unfold Lit.wf
    rw [Bool.and_eq_true, decide_eq_true_iff, decide_eq_true_iff]
    exact ⟨by show (-9223372036854775808 : Int) ≤ n; omega, by show (n : Int) ≤ 9223372036854775807; omega⟩
  rw [if_pos ⟨by rw [cells7]; rfl, by decide +kernel⟩]
  simp [Program.keyLits, Tryd.underlying3, cellsI, wf a (by omega), wf b (by omega), wf c (by omega), wf d (by omega), wf e (by omega), wf f (by omega), wf g (by omega)]
theorem formed7 (a b c d e f g : Nat) : (val7 a b c d e f g).formed Tryd.prog 44 = true := by
  simp [val7, Value.formed, Tryd.underlying44, cells7]
theorem eq7 (k : Nat) (w : World) (a b c d e f g : Nat) (h : a + b + c + d + e + f + g ≤ 9223372036854775807) :
    (Op.equalIn (k + 3) 44 (val7 a b c d e f g) (val7 a b c d e f g)).run Tryd.prog w = .ok true w := by
  obtain ⟨r, hr, hi⟩ := run_equalIn_deep k 3 44 keyT7 w 3 3 _ _ _ _ (formed7 a b c d e f g) (formed7 a b c d e f g) (keyLits7 a b c d e f g h) (keyLits7 a b c d e f g h)
  rw [hr]
  congr 1
  exact hi.2 rfl
theorem cost7 (l : List S24) : costV l = val7 (cntK l 1) (cntK l 2) (cntK l 3) (cntK l 4) (cntK l 5) (cntK l 6) (cntK l 7) := rfl
end Go.Proofs.YtgdemingopcgaaaDoorE

namespace Go.Proofs.YtgdemingopcgaaaDoorE
open Go Go.RowKit Go.Proofs.YtgdemingopcgaaaDoorW.PrintWords Go.Proofs.YtgdemingopcgaaaDoorW.PrintMore Go.Proofs.YtgdemingopcgaaaDoorX Go.Proofs.YtgdemingopcgaaaDoor.P26 Go.Proofs.YtgdemingopcgaaaDoor.M02
set_option linter.unusedVariables false
set_option linter.unusedSimpArgs false
set_option maxRecDepth 100000
def X1 : S24 := ⟨1, 0, 0, 0, ⟨#[108, 105]⟩, ⟨#[107]⟩, ⟨#[]⟩, ⟨#[]⟩, [⟨⟨#[97]⟩, ⟨#[49]⟩⟩]⟩
def Y1 : S24 := ⟨2, 3, 1, 0, ⟨#[]⟩, ⟨#[]⟩, ⟨#[]⟩, ⟨#[]⟩, []⟩
def Z1 : S24 := ⟨4, 0, 1, 0, ⟨#[]⟩, ⟨#[]⟩, ⟨#[]⟩, ⟨#[]⟩, []⟩
theorem chkX1 : chk X1 = 0 := by decide +kernel
theorem chkY1 : chk Y1 = 0 := by decide +kernel
theorem chkZ1 : chk Z1 = 2 := by decide +kernel
theorem okX1 : okX X1 := ⟨i64_sm (by simp [X1]), i64_sm (by simp [X1]), i64_sm (by simp [X1]), i64_sm (by simp [X1]), by decide, by decide, by decide, by decide, by decide, fun i hi => by
  have : i = 0 := by simp [X1] at hi; omega
  subst this
  exact ⟨by decide, by decide⟩⟩
theorem okY1 : okX Y1 := ⟨i64_sm (by simp [Y1]), i64_sm (by simp [Y1]), i64_sm (by simp [Y1]), i64_sm (by simp [Y1]), by decide, by decide, by decide, by decide, by decide, fun i hi => absurd hi (Nat.not_lt_zero i)⟩
theorem okZ1 : okX Z1 := ⟨i64_sm (by simp [Z1]), i64_sm (by simp [Z1]), i64_sm (by simp [Z1]), i64_sm (by simp [Z1]), by decide, by decide, by decide, by decide, by decide, fun i hi => absurd hi (Nat.not_lt_zero i)⟩
def sX1 : ByteArray := ⟨#[99, 114, 101, 97, 116, 101, 32, 108, 105, 32, 34, 107, 34, 32, 34, 34, 32, 97, 61, 34, 49, 34]⟩
def sY1 : ByteArray := ⟨#[105, 110, 115, 101, 114, 116, 32, 51, 32, 49, 32, 48]⟩
theorem lineX1 : lineB X1 = sX1 := ba_inj (by decide +kernel)
theorem itoa_dig (n : Nat) (h : n < 10) : itoaS (n : Int) = ⟨#[UInt8.ofNat (48 + n)]⟩ := by
  apply ba_inj
  show Lib.itoa (n : Int) = _
  unfold Lib.itoa
  rw [if_neg (by omega), Int.toNat_natCast, dd_lt h]
theorem lineY1 : lineB Y1 = sY1 := by
  have h : lineB Y1 = putS (⟨#[105, 110, 115, 101, 114, 116]⟩ : ByteArray) [itoaS ((3 : Nat) : Int), itoaS ((1 : Nat) : Int), itoaS ((0 : Nat) : Int)] := rfl
  rw [h, itoa_dig 3 (by omega), itoa_dig 1 (by omega), itoa_dig 0 (by omega)]
  exact ba_inj (by decide +kernel)
theorem readY1 : readS sY1 = (Y1, 0) := by rw [← lineY1]; exact read_line Y1 okY1 chkY1
theorem C51_1 {W : World} {b T : Nat} (h : W.heap[b]? = some (.cells #[.string ⟨#[97]⟩, .string ⟨#[49]⟩] T (0, 0))) : Kd.C k51 W (some ⟨b, 0, none⟩) 1 X1.f8 := by
  refine ⟨rfl, by omega, fun _ => ⟨_, rfl, ?_⟩⟩
  intro j p hp
  match j, hp with
  | 0, hp =>
    simp [X1] at hp
    subst hp
    refine ⟨[.string ⟨#[97]⟩, .string ⟨#[49]⟩], rfl, k51_mk W ⟨⟨#[97]⟩, ⟨#[49]⟩⟩, ?_⟩
    intro i u hu
    show W.cell? ((⟨b, 0, none⟩ : Addr).add (0 * 2 + i)) = _
    rw [add_plain, Lib.cell_of_heap h]
    rw [Nat.zero_mul, Nat.zero_add]
    simpa using hu
theorem C51_0 (W : World) (A : Option Addr) : Kd.C k51 W A 0 [] := ⟨rfl, by omega, fun h => absurd h (Nat.lt_irrefl 0)⟩
theorem C24_3 {W : World} {A AY : Option Addr} {cY : Nat} (hA : Kd.C k51 W A 1 X1.f8) : Kd.C k24 (W.alloc (.cells #[.int .i64 1, .int .i64 0, .int .i64 0, .int .i64 0, .string ⟨#[108, 105]⟩, .string ⟨#[107]⟩, .string ⟨#[]⟩, .string ⟨#[]⟩, .slice A 1 1, .int .i64 2, .int .i64 3, .int .i64 1, .int .i64 0, .string ⟨#[]⟩, .string ⟨#[]⟩, .string ⟨#[]⟩, .string ⟨#[]⟩, .slice AY 0 cY, .int .i64 2, .int .i64 3, .int .i64 1, .int .i64 0, .string ⟨#[]⟩, .string ⟨#[]⟩, .string ⟨#[]⟩, .string ⟨#[]⟩, .slice AY 0 cY] 24 (0, 0))) (some ⟨W.heap.size, 0, none⟩) 3 [X1, Y1, Y1] := by
  have h := heap_alloc_new W (.cells #[.int .i64 1, .int .i64 0, .int .i64 0, .int .i64 0, .string ⟨#[108, 105]⟩, .string ⟨#[107]⟩, .string ⟨#[]⟩, .string ⟨#[]⟩, .slice A 1 1, .int .i64 2, .int .i64 3, .int .i64 1, .int .i64 0, .string ⟨#[]⟩, .string ⟨#[]⟩, .string ⟨#[]⟩, .string ⟨#[]⟩, .slice AY 0 cY, .int .i64 2, .int .i64 3, .int .i64 1, .int .i64 0, .string ⟨#[]⟩, .string ⟨#[]⟩, .string ⟨#[]⟩, .string ⟨#[]⟩, .slice AY 0 cY] 24 (0, 0))
  have hA' := Kd.C_below hA (below_alloc (Below.refl _ _) (.cells #[.int .i64 1, .int .i64 0, .int .i64 0, .int .i64 0, .string ⟨#[108, 105]⟩, .string ⟨#[107]⟩, .string ⟨#[]⟩, .string ⟨#[]⟩, .slice A 1 1, .int .i64 2, .int .i64 3, .int .i64 1, .int .i64 0, .string ⟨#[]⟩, .string ⟨#[]⟩, .string ⟨#[]⟩, .string ⟨#[]⟩, .slice AY 0 cY, .int .i64 2, .int .i64 3, .int .i64 1, .int .i64 0, .string ⟨#[]⟩, .string ⟨#[]⟩, .string ⟨#[]⟩, .string ⟨#[]⟩, .slice AY 0 cY] 24 (0, 0)))
  generalize W.alloc _ = W2 at h hA' ⊢
  refine ⟨rfl, by omega, fun _ => ⟨_, rfl, ?_⟩⟩
  intro j p hp
  match j, hp with
  | 0, hp =>
    simp at hp
    subst hp
    refine ⟨[.int .i64 1, .int .i64 0, .int .i64 0, .int .i64 0, .string ⟨#[108, 105]⟩, .string ⟨#[107]⟩, .string ⟨#[]⟩, .string ⟨#[]⟩, .slice A 1 1], rfl, k24_mk W2 X1 (A8 := A) (c8 := 1) (Nat.le_refl 1) hA', ?_⟩
    intro i u hu
    show W2.cell? ((⟨W.heap.size, 0, none⟩ : Addr).add (0 * 9 + i)) = _
    rw [add_plain, Lib.cell_of_heap h]
    match i, hu with
    | 0, hu | 1, hu | 2, hu | 3, hu | 4, hu | 5, hu | 6, hu | 7, hu | 8, hu => exact hu
  | 1, hp =>
    simp at hp
    subst hp
    refine ⟨[.int .i64 2, .int .i64 3, .int .i64 1, .int .i64 0, .string ⟨#[]⟩, .string ⟨#[]⟩, .string ⟨#[]⟩, .string ⟨#[]⟩, .slice AY 0 cY], rfl, k24_mk W2 Y1 (A8 := AY) (c8 := cY) (Nat.zero_le _) (C51_0 W2 AY), ?_⟩
    intro i u hu
    show W2.cell? ((⟨W.heap.size, 0, none⟩ : Addr).add (1 * 9 + i)) = _
    rw [add_plain, Lib.cell_of_heap h]
    match i, hu with
    | 0, hu | 1, hu | 2, hu | 3, hu | 4, hu | 5, hu | 6, hu | 7, hu | 8, hu => exact hu
  | 2, hp =>
    simp at hp
    subst hp
    refine ⟨[.int .i64 2, .int .i64 3, .int .i64 1, .int .i64 0, .string ⟨#[]⟩, .string ⟨#[]⟩, .string ⟨#[]⟩, .string ⟨#[]⟩, .slice AY 0 cY], rfl, k24_mk W2 Y1 (A8 := AY) (c8 := cY) (Nat.zero_le _) (C51_0 W2 AY), ?_⟩
    intro i u hu
    show W2.cell? ((⟨W.heap.size, 0, none⟩ : Addr).add (2 * 9 + i)) = _
    rw [add_plain, Lib.cell_of_heap h]
    match i, hu with
    | 0, hu | 1, hu | 2, hu | 3, hu | 4, hu | 5, hu | 6, hu | 7, hu | 8, hu => exact hu
theorem costXYY : costV [X1, Y1, Y1] = val7 1 2 0 0 0 0 0 := by
  have h : (cntK [X1, Y1, Y1] 1 = 1 ∧ cntK [X1, Y1, Y1] 2 = 2 ∧ cntK [X1, Y1, Y1] 3 = 0 ∧ cntK [X1, Y1, Y1] 4 = 0) ∧ cntK [X1, Y1, Y1] 5 = 0 ∧ cntK [X1, Y1, Y1] 6 = 0 ∧ cntK [X1, Y1, Y1] 7 = 0 := by decide +kernel
  rw [cost7, h.1.1, h.1.2.1, h.1.2.2.1, h.1.2.2.2, h.2.1, h.2.2.1, h.2.2.2]
/-- The contracts that same asks, at its literals. -/
theorem s_line (w : World) (A : Option Addr) (hgl : GL w) (hwd : WD w) (hA : Kd.C k51 w A 1 X1.f8) :
    Calls Tryd.prog 8 #[.agg #[.int .i64 1, .int .i64 0, .int .i64 0, .int .i64 0, .string ⟨#[108, 105]⟩, .string ⟨#[107]⟩, .string ⟨#[]⟩, .string ⟨#[]⟩, .slice A 1 1]] w fun e w' => e = .returned (.tuple #[.string ⟨#[99, 114, 101, 97, 116, 101, 32, 108, 105, 32, 34, 107, 34, 32, 34, 34, 32, 97, 61, 34, 49, 34]⟩, .int .i64 0]) ∧ Below w.heap.size w w' := by
  have h := Line_any X1 A 1 w hgl hwd okX1 (Nat.le_refl 1) hA
  unfold lineO at h
  rw [chkX1, if_pos rfl, lineX1] at h
  exact h
theorem s_read (w : World) (hgl : GL w) (hwd : WD w) :
    Calls Tryd.prog 10 #[.string ⟨#[105, 110, 115, 101, 114, 116, 32, 51, 32, 49, 32, 48]⟩] w fun e w' => (∃ A c, e = .returned (.tuple #[.agg #[.int .i64 2, .int .i64 3, .int .i64 1, .int .i64 0, .string ⟨#[]⟩, .string ⟨#[]⟩, .string ⟨#[]⟩, .string ⟨#[]⟩, .slice A 0 c], .int .i64 0])) ∧ Below w.heap.size w w' := by
  refine (Read_c sY1 (by decide) w hgl hwd).mono ?_
  rintro e w' ⟨⟨A, c, rfl, -, -⟩, hb⟩
  rw [readY1]
  exact ⟨⟨A, c, rfl⟩, hb⟩
theorem s_count (w : World) (g : Nat) (h : Kd.C k24 w (some ⟨g, 0, none⟩) 3 [X1, Y1, Y1]) :
    Calls Tryd.prog 16 #[.slice (some ⟨g, 0, none⟩) 3 3] w fun e w' => e = .returned (.agg #[.int .i64 1, .int .i64 2, .int .i64 0, .int .i64 0, .int .i64 0, .int .i64 0, .int .i64 0]) ∧ Below w.heap.size w w' := by
  have := Count_c (some ⟨g, 0, none⟩) 3 [X1, Y1, Y1] w h (Nat.le_refl 3)
  rw [costXYY] at this
  exact this
theorem s_op (w : World) (A : Option Addr) (c : Nat) (hgl : GL w) :
    Calls Tryd.prog 12 #[.agg #[.int .i64 2, .int .i64 3, .int .i64 1, .int .i64 0, .string ⟨#[]⟩, .string ⟨#[]⟩, .string ⟨#[]⟩, .string ⟨#[]⟩, .slice A 0 c], .agg #[.int .i64 2, .int .i64 3, .int .i64 1, .int .i64 0, .string ⟨#[]⟩, .string ⟨#[]⟩, .string ⟨#[]⟩, .string ⟨#[]⟩, .slice none 0 0]] w fun e w' => e = .returned (.bool true) ∧ Below w.heap.size w w' :=
  op_c Y1 A none c 0 w hgl (C51_0 w A) (Nat.zero_le _) (C51_0 w none) (Nat.zero_le _)
theorem s_total (w : World) : Calls Tryd.prog 19 #[.agg #[.int .i64 1, .int .i64 2, .int .i64 0, .int .i64 0, .int .i64 0, .int .i64 0, .int .i64 0]] w fun e w' => e = .returned (.int .i64 3) ∧ Below w.heap.size w w' := Total_C 1 2 0 0 0 0 0 w (by omega)
theorem s_check (w : World) (hgl : GL w) : Calls Tryd.prog 13 #[.agg #[.int .i64 4, .int .i64 0, .int .i64 1, .int .i64 0, .string ⟨#[]⟩, .string ⟨#[]⟩, .string ⟨#[]⟩, .string ⟨#[]⟩, .slice none 0 0]] w fun e w' => e = .returned (.int .i64 2) ∧ Below w.heap.size w w' := by
  have h := Check_x Z1 none 0 w hgl (C51_0 w none) (Nat.zero_le _) okZ1
  rw [chkZ1] at h
  exact h
set_option maxHeartbeats 4000000 in
theorem lsame_c (w : World) (hgl : GL w) (hwd : WD w) : Calls Tryd.prog 7 #[] w fun e w' => e = .returned (.bool true) ∧ Below w.heap.size w w' := by
  have heq : ∀ d W, (Op.equalIn (d + 3) 44 (.agg #[.int .i64 1, .int .i64 2, .int .i64 0, .int .i64 0, .int .i64 0, .int .i64 0, .int .i64 0]) (.agg #[.int .i64 1, .int .i64 2, .int .i64 0, .int .i64 0, .int .i64 0, .int .i64 0, .int .i64 0])).run Tryd.prog W = .ok true W := fun d W => eq7 d W 1 2 0 0 0 0 0 (by omega)
  have HG := Aside0.mk (fun W (h : Below w.heap.size w W) => hgl.below h)
  have HW := Aside0.mk (fun W (h : Below w.heap.size w W) => hwd.below h)
  have HEQ := Aside0.mk heq
  have hb0 : Below w.heap.size w ((w.alloc (.cells #[.string ⟨#[97]⟩, .string ⟨#[49]⟩] 51)).alloc (.cells #[.int .i64 1, .int .i64 0, .int .i64 0, .int .i64 0, .string ⟨#[108, 105]⟩, .string ⟨#[107]⟩, .string ⟨#[]⟩, .string ⟨#[]⟩, .slice (some ⟨w.heap.size, 0, none⟩) 1 1] 24)) := below_alloc (below_alloc (Below.refl _ _) _) _
  have HB0 := Aside0.mk hb0
  have HA0 := Aside0.mk (two_old_ w (.cells #[.string ⟨#[97]⟩, .string ⟨#[49]⟩] 51) (.cells #[.int .i64 1, .int .i64 0, .int .i64 0, .int .i64 0, .string ⟨#[108, 105]⟩, .string ⟨#[107]⟩, .string ⟨#[]⟩, .string ⟨#[]⟩, .slice (some ⟨w.heap.size, 0, none⟩) 1 1] 24))
  have HX0 := Aside0.mk (two_new_ w (.cells #[.string ⟨#[97]⟩, .string ⟨#[49]⟩] 51) (.cells #[.int .i64 1, .int .i64 0, .int .i64 0, .int .i64 0, .string ⟨#[108, 105]⟩, .string ⟨#[107]⟩, .string ⟨#[]⟩, .string ⟨#[]⟩, .slice (some ⟨w.heap.size, 0, none⟩) 1 1] 24))
  clear hgl hwd heq hb0
  go_enter Tryd.func7, Tryd.ntmps7
  go_wp2_with fail
  refine (s_line _ _ (HG.out _ HB0.out) (HW.out _ HB0.out) (C51_1 HA0.out)).mono ?_
  rintro e w3 ⟨rfl, hb⟩
  have HB3 := Aside0.mk (below_step HB0.out hb)
  have HA3 := Aside0.mk ((hb.block _ (blk_lt' HA0.out)).trans HA0.out)
  have HX3 := Aside0.mk ((hb.block _ (blk_lt' HX0.out)).trans HX0.out)
  clear hb
  go_wp2_with fail
  refine (s_read _ (HG.out _ HB3.out) (HW.out _ HB3.out)).mono ?_
  rintro e w4 ⟨⟨A, c, rfl⟩, hb⟩
  have HB4 := Aside0.mk (below_step HB3.out hb)
  have HA4 := Aside0.mk ((hb.block _ (blk_lt' HA3.out)).trans HA3.out)
  have HX4 := Aside0.mk ((hb.block _ (blk_lt' HX3.out)).trans HX3.out)
  have HB5 := Aside0.mk (below_alloc HB4.out (.cells #[.int .i64 2, .int .i64 3, .int .i64 1, .int .i64 0, .string ⟨#[]⟩, .string ⟨#[]⟩, .string ⟨#[]⟩, .string ⟨#[]⟩, .slice A 0 c] 24))
  have HA5 := Aside0.mk (((below_alloc (Below.refl _ _) (.cells #[.int .i64 2, .int .i64 3, .int .i64 1, .int .i64 0, .string ⟨#[]⟩, .string ⟨#[]⟩, .string ⟨#[]⟩, .string ⟨#[]⟩, .slice A 0 c] 24)).block _ (blk_lt' HA4.out)).trans HA4.out)
  have HX5 := Aside0.mk (((below_alloc (Below.refl _ _) (.cells #[.int .i64 2, .int .i64 3, .int .i64 1, .int .i64 0, .string ⟨#[]⟩, .string ⟨#[]⟩, .string ⟨#[]⟩, .string ⟨#[]⟩, .slice A 0 c] 24)).block _ (blk_lt' HX4.out)).trans HX4.out)
  have HY5 := Aside0.mk (heap_alloc_new w4 (.cells #[.int .i64 2, .int .i64 3, .int .i64 1, .int .i64 0, .string ⟨#[]⟩, .string ⟨#[]⟩, .string ⟨#[]⟩, .string ⟨#[]⟩, .slice A 0 c] 24))
  have hx5 := Lib.cell_of_heap HX5.out
  clear hb
  go_wp2_with fail
  clear hx5
  have hC3 := C24_3 (AY := A) (cY := c) (C51_1 HA5.out)
  rw [show (w4.alloc (.cells #[.int .i64 2, .int .i64 3, .int .i64 1, .int .i64 0, .string ⟨#[]⟩, .string ⟨#[]⟩, .string ⟨#[]⟩, .string ⟨#[]⟩, .slice A 0 c] 24)).heap.size = w4.heap.size + 1 by simp] at hC3
  have HC3 := Aside0.mk hC3
  clear hC3
  with_reducible refine (s_count _ _ HC3.out).mono ?_
  rintro e w7 ⟨rfl, hb⟩
  have HB6 := Aside0.mk (below_step (below_alloc HB5.out _) hb)
  have HY6 := Aside0.mk ((hb.block _ (by simp; omega)).trans (((below_alloc (Below.refl _ _) _).block _ (blk_lt' HY5.out)).trans HY5.out))
  have HB7 := Aside0.mk (below_alloc HB6.out (.cells #[.int .i64 1, .int .i64 2, .int .i64 0, .int .i64 0, .int .i64 0, .int .i64 0, .int .i64 0] 44))
  have HY7 := Aside0.mk (((below_alloc (Below.refl _ _) (.cells #[.int .i64 1, .int .i64 2, .int .i64 0, .int .i64 0, .int .i64 0, .int .i64 0, .int .i64 0] 44)).block _ (blk_lt' HY6.out)).trans HY6.out)
  have HC7 := Aside0.mk (heap_alloc_new w7 (.cells #[.int .i64 1, .int .i64 2, .int .i64 0, .int .i64 0, .int .i64 0, .int .i64 0, .int .i64 0] 44))
  have hy7 := Lib.cell_of_heap HY7.out
  clear hb
  go_wp2_with fail
  clear hy7
  refine (s_op _ A c (HG.out _ HB7.out)).mono ?_
  rintro e w8 ⟨rfl, hb⟩
  have HB8 := Aside0.mk (below_step HB7.out hb)
  have HC8 := Aside0.mk ((hb.block _ (blk_lt' HC7.out)).trans HC7.out)
  have hc8 := Lib.cell_of_heap HC8.out
  have heq := HEQ.out
  clear hb
  go_wp2_with fail
  clear hc8 heq
  refine (s_total _).mono ?_
  rintro e w9 ⟨rfl, hb⟩
  have HB9 := Aside0.mk (below_step HB8.out hb)
  clear hb
  go_wp2_with fail
  refine (s_check _ (HG.out _ HB9.out)).mono ?_
  rintro e w10 ⟨rfl, hb⟩
  have HB10 := Aside0.mk (below_step HB9.out hb)
  clear hb
  go_wp2_with fail
  go_ret
  exact ⟨rfl, HB10.out⟩
end Go.Proofs.YtgdemingopcgaaaDoorE

namespace Go.Proofs.YtgdemingopcgaaaDoorE
open Go Go.RowKit Go.Proofs.YtgdemingopcgaaaDoorW.PrintWords Go.Proofs.YtgdemingopcgaaaDoorW.PrintMore Go.Proofs.YtgdemingopcgaaaDoorX Go.Proofs.YtgdemingopcgaaaDoor.P26
set_option linter.unusedVariables false
set_option linter.unusedSimpArgs false
set_option maxRecDepth 100000
set_option maxHeartbeats 4000000 in
theorem opsReads_w (s : ByteArray) (w : World) (hgl : GL w) (hwd : WD w) (hs : s.size ≤ 140737488351232) :
    Calls Tryd.prog 4 #[.string s] w fun e w' => e = .returned (.bool true) ∧ Below w.heap.size w w' := by
  have HG := Aside0.mk (fun W (h : Below w.heap.size w W) => hgl.below h)
  have HW := Aside0.mk (fun W (h : Below w.heap.size w W) => hwd.below h)
  by_cases hbig : 3000 < s.size
  · clear hgl hwd
    go_enter Tryd.func4, Tryd.ntmps4
    go_wp2_with (first
      | (go_at_call 7; (with_reducible refine (lsame_c _ (HG.out _ (Below.refl _ _)) (HW.out _ (Below.refl _ _))).mono ?_); rintro e w1 ⟨rfl, hb⟩; have HB1 := Aside0.mk hb; clear hb))
    go_ret
    exact ⟨rfl, HB1.out⟩
  have HRD := Aside0.mk (Read_c s (by omega) w hgl hwd)
  have hxo := readX_ok s (by omega)
  by_cases he : (readS s).2 = 0
  · obtain ⟨hk, hl⟩ := readS_ok s he
    have hx1 : okX (readS s).1 := by
      unfold readS at hk ⊢
      split
      · next h => rw [if_pos h] at hk; exact absurd hk (by decide +kernel)
      · exact hxo
    obtain ⟨x, hx⟩ : ∃ x, x = (readS s).1 := ⟨_, rfl⟩
    rw [← hx, he] at HRD
    rw [← hx] at hk hl hx1
    have HRC : Aside0 (∀ W A c, Below w.heap.size w W → x.f8.length ≤ c → Kd.C k51 W A x.f8.length x.f8 → Calls Tryd.prog 9 #[opOf x A c] W fun e w' => e = .returned (.int .i64 0) ∧ Below W.heap.size W w') := ⟨fun W A c hW hc hC => by
      have := rcheck_c x A c W (hgl.below hW) hC hc hx1
      rw [hk] at this
      exact this⟩
    have HRL : Aside0 (∀ W A c, Below w.heap.size w W → x.f8.length ≤ c → Kd.C k51 W A x.f8.length x.f8 → Calls Tryd.prog 11 #[opOf x A c] W fun e w' => e = .returned (.string s) ∧ Below W.heap.size W w') := ⟨fun W A c hW hc hC => by
      have := rline_c x A c W (hgl.below hW) hC hc hx1 hk
      rw [hl] at this
      exact this⟩
    clear hx hk hl hx1 hxo he hgl hwd
    obtain ⟨f0, f1, f2, f3, f4, f5, f6, f7, f8⟩ := x
    unfold opOf opV at HRD HRC HRL
    simp only at HRD HRC HRL
    go_enter Tryd.func4, Tryd.ntmps4
    go_wp2_with fail
    refine HRD.out.mono ?_
    rintro e w1 ⟨⟨A, c, rfl, hc, hC⟩, hb⟩
    have HB1 := Aside0.mk hb
    have HB2 := Aside0.mk (below_alloc hb (.cells #[.int .i64 f0, .int .i64 f1, .int .i64 f2, .int .i64 f3, .string f4, .string f5, .string f6, .string f7, .slice A f8.length c] 24))
    have HC2 := Aside0.mk (Kd.C_below hC (below_alloc (Below.refl _ _) (.cells #[.int .i64 f0, .int .i64 f1, .int .i64 f2, .int .i64 f3, .string f4, .string f5, .string f6, .string f7, .slice A f8.length c] 24)))
    have HX2 := Aside0.mk (heap_alloc_new w1 (.cells #[.int .i64 f0, .int .i64 f1, .int .i64 f2, .int .i64 f3, .string f4, .string f5, .string f6, .string f7, .slice A f8.length c] 24))
    have HCC := Aside0.mk hc
    clear hb hC hc
    go_wp2_with fail
    refine (HRC.out _ _ _ HB2.out HCC.out HC2.out).mono ?_
    rintro e w3 ⟨rfl, hb⟩
    have HB3 := Aside0.mk (below_step HB2.out hb)
    have HC3 := Aside0.mk (Kd.C_below HC2.out hb)
    have hx3 := Lib.cell_of_heap ((hb.block _ (blk_lt' HX2.out)).trans HX2.out)
    clear hb
    go_wp2_with fail
    clear hx3
    refine (HRL.out _ _ _ HB3.out HCC.out HC3.out).mono ?_
    rintro e w4 ⟨rfl, hb⟩
    have HB4 := Aside0.mk (below_step HB3.out hb)
    clear hb
    go_wp2_with fail
    refine (lsame_c _ (HG.out _ HB4.out) (HW.out _ HB4.out)).mono ?_
    rintro e w5 ⟨rfl, hb⟩
    have HB5 := Aside0.mk (below_step HB4.out hb)
    clear hb
    go_wp2_with fail
    go_ret
    exact ⟨rfl, HB5.out⟩
  · rw [readS_bad s he] at HRD
    have HZ : Aside0 (∀ W A c, Below w.heap.size w W → Calls Tryd.prog 12 #[opOf zOp A c, opOf zOp none 0] W fun e w' => e = .returned (.bool true) ∧ Below W.heap.size W w') := ⟨fun W A c hW => op_c zOp A none c 0 W (hgl.below hW) (C51_0 W A) (Nat.zero_le _) (C51_0 W none) (Nat.zero_le _)⟩
    have hz0 : zOp.f8.length = 0 := rfl
    unfold opOf opV at HRD HZ
    simp only [hz0] at HRD HZ
    unfold zOp em at HRD HZ
    simp only at HRD HZ
    clear hz0 hxo he hgl hwd
    go_enter Tryd.func4, Tryd.ntmps4
    go_wp2_with fail
    refine HRD.out.mono ?_
    rintro e w1 ⟨⟨A, c, rfl, hc, hC⟩, hb⟩
    have HB1 := Aside0.mk hb
    clear hb hC hc
    go_wp2_with fail
    refine (HZ.out _ _ _ (below_alloc HB1.out _)).mono ?_
    rintro e w3 ⟨rfl, hb⟩
    have HB3 := Aside0.mk (below_step (below_alloc HB1.out _) hb)
    clear hb
    go_wp2_with fail
    refine (lsame_c _ (HG.out _ HB3.out) (HW.out _ HB3.out)).mono ?_
    rintro e w5 ⟨rfl, hb⟩
    have HB5 := Aside0.mk (below_step HB3.out hb)
    clear hb
    go_wp2_with fail
    go_ret
    exact ⟨rfl, HB5.out⟩
end Go.Proofs.YtgdemingopcgaaaDoorE

namespace Go.Proofs.YtgdemingopcgaaaDoorE
open Go Go.RowKit Go.ChangeShapes Go.WideShapes Go.Proofs.YtgdemingopcgaaaDoorW.PrintWords Go.Proofs.YtgdemingopcgaaaDoor.P26 Go.Proofs.YtgdemingopcgaaaDoor.M02
set_option linter.unusedVariables false
set_option linter.unusedSimpArgs false
set_option maxRecDepth 100000
theorem cells_of_strs {H : Type} {enc : TypeId × Value → H} {P : Program} {w : World} {base : Nat} {sp : Nat → Bool} {held : Bool} {fuel : Nat} {t e : TypeId} {n : Nat} {cs : List Value} {zs : List ByteArray} {p : List MemPlace}
    (ht : P.underlying t = some (.array n e)) (he : P.underlying e = some .string) (hce : P.cellsOf e = 1) (hct : P.cellsOf t = n)
    (h : DataW.trod enc P w base sp held fuel t cs = some (.agg (zs.map fun z => .lit (.string z.data.toList)), p)) : cs = zs.map Value.string := by
  cases fuel with
  | zero => simp [DataW.trod] at h
  | succ fuel =>
    simp only [DataW.trod, ht, hce, hct, Nat.mul_one] at h
    split at h
    · rename_i hl
      obtain ⟨xs, hm, hx⟩ := Option.map_eq_some_iff.1 h
      have hxs : xs.map (·.1) = zs.map fun z => (DataW.lit (.string z.data.toList) : DataW H) := by
        have := congrArg Prod.fst hx
        simpa using this
      have hxl : xs.length = n := by simpa using Lib.mapM_length hm
      have hzl : zs.length = n := by
        have := congrArg List.length hxs
        simp at this
        omega
      apply List.ext_getElem?
      intro i
      by_cases hi : i < n
      · obtain ⟨b, hb, hf⟩ := Lib.mapM_at hm i i (by simp [hi])
        obtain ⟨z, hc, rfl, _⟩ := DataW.trod_string he hf
        have h1 : cs[i]? = some (.string z) := by
          have := congrArg (·[0]?) hc
          simpa [List.getElem?_take, List.getElem?_drop] using this
        have h2 : (xs.map (·.1))[i]? = some (DataW.lit (.string z.data.toList) : DataW H) := by simp [hb]
        rw [hxs] at h2
        simp only [List.getElem?_map, Option.map_eq_some_iff, DataW.lit.injEq, Lit.string.injEq] at h2
        obtain ⟨z', hz', he'⟩ := h2
        rw [h1, List.getElem?_map, hz', ba_inj he']
        rfl
      · rw [List.getElem?_eq_none (by omega), List.getElem?_eq_none (by simp; omega)]
    · cases h
theorem gW : (Tryd.prog.globals[0]?).map (·.type) = some 61 := by kernel_rfl
theorem cW : Tryd.prog.cellsOf 61 = 8 := by kernel_rfl
theorem wd_of {W : World} {r : List (String × DataW Unit)} (h : laidMet Tryd.prog (("math/bits.deBruijn32tab", Go.Proofs.YtgdemingopcgaaaDoor.Rows.laid_math_bits_deBruijn32tab) :: ("math/bits.deBruijn64tab", Go.Proofs.YtgdemingopcgaaaDoor.Rows.laid_math_bits_deBruijn64tab) :: ("internal/strconv.uint64pow10", Go.Proofs.YtgdemingopcgaaaDoor.Rows.laid_internal_strconv_uint64pow10) :: ("strconv.ErrRange", Go.Proofs.YtgdemingopcgaaaDoor.Rows.laid_strconv_ErrRange) :: ("strconv.ErrSyntax", Go.Proofs.YtgdemingopcgaaaDoor.Rows.laid_strconv_ErrSyntax) :: ("tendril/ops.words", Go.Proofs.YtgdemingopcgaaaDoor.Rows.laid_tendril_ops_words) :: r) W) : WD W := by
  have h5 := h.tail.tail.tail.tail.tail
  obtain ⟨ps, ⟨g', t', cs, fuel, p, q, hg', ht', hvar, hd, _, _⟩, _⟩ := h5
  obtain rfl := Option.some.inj (gWd.symm.trans hg')
  obtain rfl := Option.some.inj (gW.symm.trans ht')
  unfold WD
  rw [hvar]
  congr 1
  apply Array.toList_inj.1
  rw [cells_of_strs (zs := wordL) Tryd.underlying61 Tryd.underlying9 (by kernel_rfl) cW hd]
theorem opsReads_h (s : ByteArray) (W : World) (hg : Go.Proofs.YtgdemingopcgaaaDoorX.GL W ∧ WD W) (hs : s.size ≤ 140737488351232) : Calls Tryd.prog 4 #[.string s] W fun e w' => e = .returned (.bool true) ∧ Below W.heap.size W w' := opsReads_w s W hg.1 hg.2 hs
end Go.Proofs.YtgdemingopcgaaaDoorE

namespace Go.Proofs.YtgdemingopcgaaaDoor.opsReads
open Go.ChangeShapes Go.WideShapes Go.ChangeAt Go.RowKit
open Go.ChangeMaps (open_string shut_string)
set_option linter.unusedVariables false
theorem own : ownKnob Tryd.prog.godebug = none := by kernel_rfl
theorem door_met (os : Os) (args : Array Value) : laidMetH Tryd.prog Rows.opsReadsRow.laid ((World.doorLaid Tryd.prog 65 os).forCall (fun _ _ => 0) ⟨#[], args, []⟩).memory :=
  laidMetH_of_parts3 (fuel := 8) (laidMet_of_run' 8 (by kernel_rfl) (by kernel_rfl)) (by kernel_rfl) (by kernel_rfl)
theorem gl {W : World} (h : laidMetH Tryd.prog Rows.opsReadsRow.laid W) : Go.Proofs.YtgdemingopcgaaaDoorX.GL W ∧ Go.Proofs.YtgdemingopcgaaaDoorE.WD W := by
  rw [MakeChecks.laidMetH_plain _ _ _ (by kernel_rfl)] at h
  exact ⟨Go.Proofs.YtgdemingopcgaaaDoorX.gl_of h, Go.Proofs.YtgdemingopcgaaaDoorE.wd_of h⟩
theorem laidOut : laidOutB Tryd.prog = true := by kernel_rfl
set_option maxRecDepth 100000 in
theorem lifted (os : Os) (started : os.Started) (H : Type) (enc : TypeId × Value → H) :
    ReturnsInHanded {} Tryd.checked os 4 .any (fun w args => (Rows.opsReadsSpec.pre enc Tryd.prog Tryd.f4 [] false w args ∧ laidMetH Tryd.prog Rows.opsReadsRow.laid w) ∧ sizedMet enc Tryd.prog Tryd.f4 (OpenSpec.ofChange Rows.opsReadsSpec) false w args) (Rows.opsReadsSpec.post enc Tryd.prog Tryd.f4 false true false false) := by
  refine returnsInHanded_of_change_and (C := Tryd.checked) (X := fun w _ => laidMetH Tryd.prog Rows.opsReadsRow.laid w) (fun _ _ _ hh h => h.of_heap hh) own started (by kernel_rfl) Tryd.func4
    (ChangeSpec.witness_shaped (enc := enc) (C := Tryd.checked) (os := os) (X := fun w _ => laidMetH Tryd.prog Rows.opsReadsRow.laid w) false (World.doorLaid Tryd.prog 65 os) #[.string ByteArray.empty] 8 rfl (World.shaped_of_RefB (by kernel_rfl) (by kernel_rfl)) (by kernel_rfl) (by kernel_rfl) (by kernel_rfl) (door_met os _)) ?_
  intro W base args ds gs before hval0 hW _ hsz0 hL _
  have hgl := gl hL
  have hsz : (DataW.weightsEach Tryd.prog (Tryd.f4.params.toList ++ Rows.opsReadsSpec.plain.varTypes Tryd.prog) (ds ++ gs)).all (· ≤ reachBytes) = true := hsz0
  have hval : ∀ (j : Nat) t v, Tryd.f4.params[j]? = some t → args[j]? = some v → Value.okWide Tryd.prog W .any base t v := hval0
  have hW' := hW
  obtain ⟨p, q, hA0, hV, rfl, hfz, hnd⟩ := hW
  have hA : DataW.TrodAll enc Tryd.prog W 0 (fun _ => true) true Tryd.f4.params.toList args.toList ds p := hA0
  rw [Tryd.params4] at hA hval hsz
  obtain ⟨v0, vs0, d0, ds0, p0, q0, hargs, rfl, rfl, h0, r0⟩ := trodAll_cons hA
  obtain ⟨rfl, rfl, rfl⟩ := trodAll_nil r0
  obtain rfl : args = #[v0] := by cases args; simp_all
  obtain ⟨rfl, rfl⟩ := trodVars_none hV
  obtain ⟨a0, rfl, rfl, rfl, y0⟩ := open_string Tryd.underlying9 (hval 0 9 v0 rfl rfl) h0
  have w0 : a0.size ≤ 140737488351232 := by
    have z := sized_string hsz (j := 0) (t := 9) rfl rfl
    rw [Array.length_toList] at z
    exact z
  clear hA0 hval0 hsz0 hsz hL
  refine (Go.Proofs.YtgdemingopcgaaaDoorE.opsReads_h a0 W hgl w0).mono fun e W' ⟨he, bel⟩ => ?_
  subst he
  exact ⟨_, rfl, _, _, _, [], _, [], hW', trodAll_mk1 (shut_bool Tryd.underlying4 _), (trodAll_cons_mk (shut_string Tryd.underlying9 y0) trodAll_mk0), rfl, bel.frame _, fun h => by cases h⟩
theorem over : Rows.opsReadsRow.holds Tryd.pinned (OpenSpec.ofChange Rows.opsReadsSpec) :=
  OpenClaim.holds_of_wide 4 Tryd.f4 rfl rfl rfl rfl rfl rfl rfl ⟨rfl, rfl, rfl, rfl, rfl⟩ rfl rfl rfl rfl rfl (by kernel_rfl) Tryd.func4 (by kernel_rfl)
    (of_decide_eq_true (by kernel_rfl)) (by unfold Func.isWrapper; first | (rw [if_pos (by decide +kernel)]; kernel_rfl) | (rw [if_neg (by decide +kernel)]; exact ⟨rfl, rfl⟩))
    (fun os started H enc _ => lifted os started H enc)
theorem wants : ∀ (j : Nat) (t : TypeId), Tryd.f4.params[j]? = some t → Tryd.prog.wantsStandIn t = false := by
  intro j t ht
  rw [Tryd.params4] at ht
  rcases j with _ | j
  · have h3 : t = 9 := by simpa using ht.symm
    subst h3
    exact (show Tryd.prog.wantsStandIn 9 = false by kernel_rfl)
  simp at ht
theorem proved : Rows.OpsReadsCardSaid :=
  Claim7.holds_tied_plain_at .later [] [.data, .data, .data, .sentinel, .sentinel, .widerDeep] true (true, "42f0e876574351ba2eaad250de890cb96006ddaed74d1005af392a94fdb30365") true
    over (fun _ h => by cases h) (by kernel_rfl) (fun _ h => by cases h) opsReads_row_tie rfl ⟨rfl, rfl⟩ (by kernel_rfl) rfl
    (fun f fn hf hfn => by
      obtain rfl : f = 4 := Option.some.inj ((show Tryd.prog.funcNamed "tendril/tendrillaw25.OpsReads" = some 4 by kernel_rfl).symm.trans hf) |>.symm
      obtain rfl : fn = Tryd.f4 := (Option.some.inj (Tryd.func4.symm.trans hfn)).symm
      exact ⟨by kernel_rfl, wants⟩)
    (by kernel_rfl)
end Go.Proofs.YtgdemingopcgaaaDoor.opsReads
namespace Go.Proofs.YtgdemingopcgaaaDoor
/-- The card, under a short name, for the claim. -/
theorem opsReads_holds : Rows.OpsReadsCardSaid := opsReads.proved
end Go.Proofs.YtgdemingopcgaaaDoor
