/- Merged by this claim's own program (merge.py) out of the texts X26x7, E27, E2, EB, E3, E60, X26x10, E61, E62, E64, E65, E66, E67, E68, E69, E4, X03rx0, X03rx1; the W texts among them began as the kit's print. -/
import Derived.Test.YtgdemingopcgaaaDoorOC3
import Derived.Shelf.Strings.BuilderK
import Derived.Laws.Externs
import Derived.KernelRfl
import Derived.LoopTactic
import Derived.Test.YtgdemingopcgaaaDoorProg
import Derived.Below
import Derived.Deep.Draws
import Derived.Deep.AppendLies
import Derived.Maps.AppendAt
import Derived.OwnWalk
import Derived.Laws.BytesArg
import Derived.Laws.MakeOwn
import Derived.Laws.OwnMore
import Derived.Deep.OwnRows
import Derived.Tactics
import Derived.Lib.ConvBytes
import Derived.Laws.Slices
import Derived.WalkKit
import Derived.RowKit3
import Derived.Deep.LoopGhost
import Derived.Deep.QuietTactic
import Derived.BigQuiet
import Derived.WideLaws
import Derived.Deep.DeepCutAuto
import Derived.Deep.CutBlock
import Derived.Deep.RegionHeld3
import Derived.Laws.Rows
import Derived.Lib.AppendStr
import Derived.ArgAppend
import Derived.Laws.IdiomCopy
import Derived.OrdersHeld
import Derived.Laws.BitsLemmas
import Derived.RowKit

namespace Go.Proofs.YtgdemingopcgaaaDoor.P26
open Go.RowKit Go.Proofs.YtgdemingopcgaaaDoorE Go.Proofs.YtgdemingopcgaaaDoorW.PrintWords Go.Proofs.YtgdemingopcgaaaDoorW.PrintLast Go.Proofs.YtgdemingopcgaaaDoorW.PrintMore
attribute [local go_sem] max2_int min2_int max_two min_two max_three min_three max_four min_four   -- for this text's walks alone
set_option linter.unusedVariables false
set_option linter.unusedSimpArgs false

attribute [local go_sem high] eqA51

def tendrilref25_First.l0 : Nat → List (S24) → Int → Int → Option (Int × Int)
  | 0, _, _, _ => none
  | k + 1, x0, x7, x8 => if x8 < x7 then (if x8 = 1048576 then (some (x8, 12)) else (if 0 ≤ x8 then (if x8 < (x0.length : Int) then ((tendrilref25_Check.f k ((rd_T24 x0 x8).f0) ((rd_T24 x0 x8).f1) ((rd_T24 x0 x8).f2) ((rd_T24 x0 x8).f3) ((rd_T24 x0 x8).f4) ((rd_T24 x0 x8).f5) ((rd_T24 x0 x8).f6) ((rd_T24 x0 x8).f7) ((rd_T24 x0 x8).f8)).bind fun t130 => (if t130 = 0 then (tendrilref25_First.l0 k x0 x7 (wrap64 (x8 + 1))) else (some (x8, t130)))) else (none)) else (none))) else (some (0, 0))
def tendrilref25_First.f (k : Nat) (l0 : List (S24)) : Option (Int × Int) := tendrilref25_First.l0 k l0 (l0.length : Int) 0
theorem tendrilref25_First.mono_l : ∀ k, (∀ y0 y1 y2, LeO (tendrilref25_First.l0 k y0 y1 y2) (tendrilref25_First.l0 (k + 1) y0 y1 y2))
  | 0 => fun _ _ _ r h => by simp [tendrilref25_First.l0] at h
  | k + 1 => by
    have ih0 := tendrilref25_First.mono_l k
    · intro y0 y1 y2
      unfold tendrilref25_First.l0
      repeat' first
      | (with_reducible exact ih0 _ _ _)
      | (with_reducible exact tendrilref25_Check.mono _ _ _ _ _ _ _ _ _ _)
      | (with_reducible exact LeO.refl _)
      | (with_reducible exact LeO.none _)
      | (with_reducible refine LeO.ite ?_ ?_)
      | (with_reducible refine LeO.bind ?_ (fun _ => ?_))
      | exact ih0 _ _ _
      | exact tendrilref25_Check.mono _ _ _ _ _ _ _ _ _ _
      | exact LeO.none _
      | refine LeO.ite ?_ ?_
      | refine LeO.bind ?_ (fun _ => ?_)
theorem tendrilref25_First.mono : ∀ a0 k, LeO (tendrilref25_First.f k a0) (tendrilref25_First.f (k + 1) a0) := by
  intro a0 k
  have ih0 := tendrilref25_First.mono_l k
  unfold tendrilref25_First.f
  repeat' first
      | (with_reducible exact ih0 _ _ _)
      | (with_reducible exact tendrilref25_Check.mono _ _ _ _ _ _ _ _ _ _)
      | (with_reducible exact LeO.refl _)
      | (with_reducible exact LeO.none _)
      | (with_reducible refine LeO.ite ?_ ?_)
      | (with_reducible refine LeO.bind ?_ (fun _ => ?_))
      | exact ih0 _ _ _
      | exact tendrilref25_Check.mono _ _ _ _ _ _ _ _ _ _
      | exact LeO.none _
      | refine LeO.ite ?_ ?_
      | refine LeO.bind ?_ (fun _ => ?_)
set_option maxHeartbeats 8000000 in
set_option maxRecDepth 100000 in
theorem tendrilref25_First.calls (k : Nat) (A0 : Option Addr) (c0 : Nat) (l0 : List (S24)) (r1 : Int) (r2 : Int) (w : World) (hgl : Go.Proofs.YtgdemingopcgaaaDoorX.GL w) (hr0 : Kd.C k24 w A0 l0.length l0) (hc0 : l0.length ≤ c0) (h : tendrilref25_First.f k l0 = some (r1, r2)) :
    Calls Tryd.prog 15 #[.slice A0 l0.length c0] w fun e w' => e = .returned (.tuple #[.int .i64 r1, .int .i64 r2]) ∧ Below w.heap.size w w' := by
  have hu24 := Tryd.underlying24
  have HR0 := Aside0.mk hr0
  have HC0 := Aside0.mk hc0
  clear hr0 hc0
  have HGL := Aside0.mk hgl
  clear hgl
  have HB := Aside0.mk (Below.refl w.heap.size w)
  have H : (tendrilref25_First.l0 k l0 (l0.length : Int) 0) = some (r1, r2) := h
  clear h
  have H' := Aside0.mk H
  clear H
  go_enter Tryd.func15, Tryd.ntmps15
  go_wp2
  go_loopg [8] k (fun kq v8 w' => ∃ (x8_1 : Int), v8 = .int .i64 x8_1 ∧ Aside0 (tendrilref25_First.l0 kq l0 (l0.length : Int) x8_1 = some (r1, r2)) ∧ Aside0 (kq ≤ k) ∧ Aside0 (Below w.heap.size w w'))
  case atStart => exact ⟨(0), (by first | rfl | (simp; done) | (simp [*]; done)), H', ⟨Nat.le_refl _⟩, ⟨by repeat (first | (with_reducible first | exact HB.out | apply below_alloc | apply pw_below_drewN | apply below_drew1) | exact HB.out)⟩⟩
  case round =>
    clear H'
    try clear c1
    obtain ⟨x8_1, rfl, HA, HK1, HB⟩ := hrel
    cases gk with
    | zero => exact absurd HA.out (by simp [tendrilref25_First.l0])
    | succ k1 =>
      have H := HA.out
      clear HA
      simp only [tendrilref25_First.l0] at H
      by_cases c2 : x8_1 < (l0.length : Int)
      · rw [if_pos c2] at H
        have c2b0 : decide (x8_1 < (l0.length : Int)) = true := decide_eq_true c2
        clear c2
        by_cases c3 : x8_1 = 1048576
        · rw [if_pos c3] at H
          have c3b0 : (x8_1 == 1048576) = true := beq_iff_eq.mpr c3
          have c3b1 : (x8_1 != 1048576) = false := bne_eq_false_iff_eq.mpr c3
          clear c3
          simp only [Option.some.injEq, Prod.mk.injEq] at H
          obtain ⟨rfl, rfl⟩ := H
          go_wp2
          go_ret2
          exact ⟨by first | rfl | (simp [errW_none, errW_some] <;> first | rfl | exact emp_bne _ | exact (emp_bne _).symm | exact emp_bne' _ | exact (emp_bne' _).symm) | (simp [*, errW_none, errW_some] <;> rfl), by repeat (first | (with_reducible first | exact HB.out | apply below_alloc | apply pw_below_drewN | apply below_drew1) | exact HB.out)⟩
        · rw [if_neg c3] at H
          have c3b0 : (x8_1 == 1048576) = false := beq_eq_false_iff_ne.mpr c3
          have c3b1 : (x8_1 != 1048576) = true := bne_iff_ne.mpr c3
          by_cases c4 : 0 ≤ x8_1
          · rw [if_pos c4] at H
            have c4b0 : decide (0 ≤ x8_1) = true := decide_eq_true c4
            clear c4
            by_cases c5 : x8_1 < (l0.length : Int)
            · rw [if_pos c5] at H
              have c5b0 : decide (x8_1 < (l0.length : Int)) = true := decide_eq_true c5
              clear c5
              replace H := Option.bind_eq_some_iff.mp H
              obtain ⟨t130, A60, H⟩ := H
              replace H : (if t130 = 0 then (tendrilref25_First.l0 k1 l0 (l0.length : Int) (wrap64 (x8_1 + 1))) else (some (x8_1, t130))) = some (r1, r2) := H
              have A6 := Aside0.mk A60
              clear A60
              by_cases c7 : t130 = 0
              · rw [if_pos c7] at H
                have c7b0 : (t130 == 0) = true := beq_iff_eq.mpr c7
                have c7b1 : (t130 != 0) = false := bne_eq_false_iff_eq.mpr c7
                clear c7
                have H' := Aside0.mk H
                clear H
                have p129 : 0 ≤ (x8_1 : Int) := of_decide_eq_true (by first | (with_reducible assumption) | assumption)
                have q129 : x8_1 < (l0.length : Int) := of_decide_eq_true (by first | (with_reducible assumption) | assumption)
                obtain ⟨ad129, A129_8, c129_8, e129, hx129_0, hx129_1, hx129_2, hx129_3, hx129_4, hx129_5, hx129_6, hx129_7, hx129_8, hl129_8, hi129_8⟩ := at_T24 HR0.out x8_1 p129 q129
                cases e129
                replace hx129_0 := (HB.out.cell (World.block_lt_of_cell? w _ hx129_0)).trans hx129_0
                replace hx129_1 := (HB.out.cell (World.block_lt_of_cell? w _ hx129_1)).trans hx129_1
                replace hx129_2 := (HB.out.cell (World.block_lt_of_cell? w _ hx129_2)).trans hx129_2
                replace hx129_3 := (HB.out.cell (World.block_lt_of_cell? w _ hx129_3)).trans hx129_3
                replace hx129_4 := (HB.out.cell (World.block_lt_of_cell? w _ hx129_4)).trans hx129_4
                replace hx129_5 := (HB.out.cell (World.block_lt_of_cell? w _ hx129_5)).trans hx129_5
                replace hx129_6 := (HB.out.cell (World.block_lt_of_cell? w _ hx129_6)).trans hx129_6
                replace hx129_7 := (HB.out.cell (World.block_lt_of_cell? w _ hx129_7)).trans hx129_7
                replace hx129_8 := (HB.out.cell (World.block_lt_of_cell? w _ hx129_8)).trans hx129_8
                have HR129_8 := Aside0.mk hi129_8
                have HC129_8 := Aside0.mk hl129_8
                clear hi129_8 hl129_8
                replace p129 := eq_true p129
                replace q129 := eq_true q129
                go_wp2_with (first | ((with_reducible refine gate_callee (f := 9) rfl ?_); refine goesL_ (some 18) rfl rfl Tryd.func9 (by kernel_rfl) rfl #[.agg #[.int .i64 ((rd_T24 l0 x8_1).f0), .int .i64 ((rd_T24 l0 x8_1).f1), .int .i64 ((rd_T24 l0 x8_1).f2), .int .i64 ((rd_T24 l0 x8_1).f3), .string ((rd_T24 l0 x8_1).f4), .string ((rd_T24 l0 x8_1).f5), .string ((rd_T24 l0 x8_1).f6), .string ((rd_T24 l0 x8_1).f7), .slice A129_8 ((rd_T24 l0 x8_1).f8).length c129_8]] rfl (by (try simp only [List.map_toArray, List.map_cons, List.map_nil]); first | done | rfl | (simp only [List.length_drop, List.length_take]; rfl)) ?_; (with_reducible refine (tendrilref25_Check.calls k1 ((rd_T24 l0 x8_1).f0) ((rd_T24 l0 x8_1).f1) ((rd_T24 l0 x8_1).f2) ((rd_T24 l0 x8_1).f3) ((rd_T24 l0 x8_1).f4) ((rd_T24 l0 x8_1).f5) ((rd_T24 l0 x8_1).f6) ((rd_T24 l0 x8_1).f7) _ _ ((rd_T24 l0 x8_1).f8) t130 _ ?side1 ?side2 ?side3 A6.out).mono ?_); (case side1 => first | exact HGL.out | exact (Go.Proofs.YtgdemingopcgaaaDoorX.GL.below HGL.out (by repeat (first | (with_reducible first | exact HB.out | apply below_alloc | apply pw_below_drewN | apply below_drew1) | exact HB.out))) | (repeat (first | exact HGL.out | (with_reducible refine Go.Proofs.YtgdemingopcgaaaDoorX.GL.drewN ?_ _) | (with_reducible refine Go.Proofs.YtgdemingopcgaaaDoorX.GL.drew ?_)))); (case side2 => repeat (first | exact (Kd.C_below HR129_8.out HB.out) | (with_reducible refine Kd.C_alloc ?_ _) | (with_reducible refine Kd.C_drewN ?_ _) | (with_reducible refine Kd.C_drew ?_))); (case side3 => exact HC129_8.out); rintro e w8 ⟨rfl, hb⟩; refine ⟨_, rfl, ?_⟩; have n0_ := Aside0.mk (below_step (by repeat (first | (with_reducible first | exact HB.out | apply below_alloc | apply pw_below_drewN | apply below_drew1) | exact HB.out)) hb); clear HB; have HB := n0_; clear n0_; (try clear hb); (try clear hb2); (try clear hk); (try clear hi)))
                go_roundg k1
                case measure => have := HK1.out; omega
                case rel => exact ⟨(wrap64 (x8_1 + 1)), (by first | rfl | (simp; done) | (simp [*]; done)), H', ⟨by have := HK1.out; omega⟩, ⟨by repeat (first | (with_reducible first | exact HB.out | apply below_alloc | apply pw_below_drewN | apply below_drew1) | exact HB.out)⟩⟩
              · rw [if_neg c7] at H
                have c7b0 : (t130 == 0) = false := beq_eq_false_iff_ne.mpr c7
                have c7b1 : (t130 != 0) = true := bne_iff_ne.mpr c7
                simp only [Option.some.injEq, Prod.mk.injEq] at H
                obtain ⟨rfl, rfl⟩ := H
                have p129 : 0 ≤ (x8_1 : Int) := of_decide_eq_true (by first | (with_reducible assumption) | assumption)
                have q129 : x8_1 < (l0.length : Int) := of_decide_eq_true (by first | (with_reducible assumption) | assumption)
                obtain ⟨ad129, A129_8, c129_8, e129, hx129_0, hx129_1, hx129_2, hx129_3, hx129_4, hx129_5, hx129_6, hx129_7, hx129_8, hl129_8, hi129_8⟩ := at_T24 HR0.out x8_1 p129 q129
                cases e129
                replace hx129_0 := (HB.out.cell (World.block_lt_of_cell? w _ hx129_0)).trans hx129_0
                replace hx129_1 := (HB.out.cell (World.block_lt_of_cell? w _ hx129_1)).trans hx129_1
                replace hx129_2 := (HB.out.cell (World.block_lt_of_cell? w _ hx129_2)).trans hx129_2
                replace hx129_3 := (HB.out.cell (World.block_lt_of_cell? w _ hx129_3)).trans hx129_3
                replace hx129_4 := (HB.out.cell (World.block_lt_of_cell? w _ hx129_4)).trans hx129_4
                replace hx129_5 := (HB.out.cell (World.block_lt_of_cell? w _ hx129_5)).trans hx129_5
                replace hx129_6 := (HB.out.cell (World.block_lt_of_cell? w _ hx129_6)).trans hx129_6
                replace hx129_7 := (HB.out.cell (World.block_lt_of_cell? w _ hx129_7)).trans hx129_7
                replace hx129_8 := (HB.out.cell (World.block_lt_of_cell? w _ hx129_8)).trans hx129_8
                have HR129_8 := Aside0.mk hi129_8
                have HC129_8 := Aside0.mk hl129_8
                clear hi129_8 hl129_8
                replace p129 := eq_true p129
                replace q129 := eq_true q129
                go_wp2_with (first | ((with_reducible refine gate_callee (f := 9) rfl ?_); refine goesL_ (some 18) rfl rfl Tryd.func9 (by kernel_rfl) rfl #[.agg #[.int .i64 ((rd_T24 l0 x8_1).f0), .int .i64 ((rd_T24 l0 x8_1).f1), .int .i64 ((rd_T24 l0 x8_1).f2), .int .i64 ((rd_T24 l0 x8_1).f3), .string ((rd_T24 l0 x8_1).f4), .string ((rd_T24 l0 x8_1).f5), .string ((rd_T24 l0 x8_1).f6), .string ((rd_T24 l0 x8_1).f7), .slice A129_8 ((rd_T24 l0 x8_1).f8).length c129_8]] rfl (by (try simp only [List.map_toArray, List.map_cons, List.map_nil]); first | done | rfl | (simp only [List.length_drop, List.length_take]; rfl)) ?_; (with_reducible refine (tendrilref25_Check.calls k1 ((rd_T24 l0 x8_1).f0) ((rd_T24 l0 x8_1).f1) ((rd_T24 l0 x8_1).f2) ((rd_T24 l0 x8_1).f3) ((rd_T24 l0 x8_1).f4) ((rd_T24 l0 x8_1).f5) ((rd_T24 l0 x8_1).f6) ((rd_T24 l0 x8_1).f7) _ _ ((rd_T24 l0 x8_1).f8) t130 _ ?side1 ?side2 ?side3 A6.out).mono ?_); (case side1 => first | exact HGL.out | exact (Go.Proofs.YtgdemingopcgaaaDoorX.GL.below HGL.out (by repeat (first | (with_reducible first | exact HB.out | apply below_alloc | apply pw_below_drewN | apply below_drew1) | exact HB.out))) | (repeat (first | exact HGL.out | (with_reducible refine Go.Proofs.YtgdemingopcgaaaDoorX.GL.drewN ?_ _) | (with_reducible refine Go.Proofs.YtgdemingopcgaaaDoorX.GL.drew ?_)))); (case side2 => repeat (first | exact (Kd.C_below HR129_8.out HB.out) | (with_reducible refine Kd.C_alloc ?_ _) | (with_reducible refine Kd.C_drewN ?_ _) | (with_reducible refine Kd.C_drew ?_))); (case side3 => exact HC129_8.out); rintro e w9 ⟨rfl, hb⟩; refine ⟨_, rfl, ?_⟩; have n0_ := Aside0.mk (below_step (by repeat (first | (with_reducible first | exact HB.out | apply below_alloc | apply pw_below_drewN | apply below_drew1) | exact HB.out)) hb); clear HB; have HB := n0_; clear n0_; (try clear hb); (try clear hb2); (try clear hk); (try clear hi)))
                go_ret2
                exact ⟨by first | rfl | (simp [errW_none, errW_some] <;> first | rfl | exact emp_bne _ | exact (emp_bne _).symm | exact emp_bne' _ | exact (emp_bne' _).symm) | (simp [*, errW_none, errW_some] <;> rfl), by repeat (first | (with_reducible first | exact HB.out | apply below_alloc | apply pw_below_drewN | apply below_drew1) | exact HB.out)⟩
            · rw [if_neg c5] at H
              exact absurd H (by simp)
          · rw [if_neg c4] at H
            exact absurd H (by simp)
      · rw [if_neg c2] at H
        have c2b0 : decide (x8_1 < (l0.length : Int)) = false := decide_eq_false c2
        clear c2
        simp only [Option.some.injEq, Prod.mk.injEq] at H
        obtain ⟨rfl, rfl⟩ := H
        go_wp2
        go_ret2
        exact ⟨by first | rfl | (simp [errW_none, errW_some] <;> first | rfl | exact emp_bne _ | exact (emp_bne _).symm | exact emp_bne' _ | exact (emp_bne' _).symm) | (simp [*, errW_none, errW_some] <;> rfl), by repeat (first | (with_reducible first | exact HB.out | apply below_alloc | apply pw_below_drewN | apply below_drew1) | exact HB.out)⟩

mutual
def tendrilplain_FewOps.l0 : Nat → List (S24) → Int → Int → Int → Option (Bool)
  | 0, _, _, _, _ => none
  | k + 1, x0, x5, x11, x12 => if x12 < x11 then (if 0 ≤ x12 then (if x12 < (x0.length : Int) then (if (wrap64 ((wrap64 ((wrap64 (x5 - 1)) - (((rd_T24 x0 x12).f8).length : Int))) - (wrap64 (Int.tdiv (wrap64 ((wrap64 ((wrap64 ((((rd_T24 x0 x12).f7).size : Int) + (((rd_T24 x0 x12).f5).size : Int))) + (((rd_T24 x0 x12).f4).size : Int))) + (((rd_T24 x0 x12).f6).size : Int))) 4096)))) < 0 then (some false) else (tendrilplain_FewOps.l1 k x0 (wrap64 ((wrap64 ((wrap64 (x5 - 1)) - (((rd_T24 x0 x12).f8).length : Int))) - (wrap64 (Int.tdiv (wrap64 ((wrap64 ((wrap64 ((((rd_T24 x0 x12).f7).size : Int) + (((rd_T24 x0 x12).f5).size : Int))) + (((rd_T24 x0 x12).f4).size : Int))) + (((rd_T24 x0 x12).f6).size : Int))) 4096)))) x11 x12 (((rd_T24 x0 x12).f8).length : Int) 0 ((rd_T24 x0 x12).f0) ((rd_T24 x0 x12).f1) ((rd_T24 x0 x12).f2) ((rd_T24 x0 x12).f3) ((rd_T24 x0 x12).f4) ((rd_T24 x0 x12).f5) ((rd_T24 x0 x12).f6) ((rd_T24 x0 x12).f7) ((rd_T24 x0 x12).f8))) else (none)) else (none)) else (some (decide (x5 ≥ 0)))
def tendrilplain_FewOps.l1 : Nat → List (S24) → Int → Int → Int → Int → Int → Int → Int → Int → Int → ByteArray → ByteArray → ByteArray → ByteArray → List (S51) → Option (Bool)
  | 0, _, _, _, _, _, _, _, _, _, _, _, _, _, _, _ => none
  | k + 1, x0, x5, x11, x12, x46, x47, x133000, x133001, x133002, x133003, x133004, x133005, x133006, x133007, x133008 => if x47 < x46 then (if 0 ≤ x47 then (if x47 < (x133008.length : Int) then (tendrilplain_FewOps.l1 k x0 (wrap64 (x5 - (wrap64 (Int.tdiv (wrap64 ((((rd_T51 x133008 x47).f1).size : Int) + (((rd_T51 x133008 x47).f0).size : Int))) 4096)))) x11 x12 x46 (wrap64 (x47 + 1)) x133000 x133001 x133002 x133003 x133004 x133005 x133006 x133007 x133008) else (none)) else (none)) else (tendrilplain_FewOps.l0 k x0 x5 x11 (wrap64 (x12 + 1)))
end
def tendrilplain_FewOps.f (k : Nat) (l0 : List (S24)) (a1 : Int) : Option (Bool) := tendrilplain_FewOps.l0 k l0 a1 (l0.length : Int) 0
theorem tendrilplain_FewOps.mono_l : ∀ k, (∀ y0 y1 y2 y3, LeO (tendrilplain_FewOps.l0 k y0 y1 y2 y3) (tendrilplain_FewOps.l0 (k + 1) y0 y1 y2 y3)) ∧ (∀ y0 y1 y2 y3 y4 y5 y6 y7 y8 y9 y10 y11 y12 y13 y14, LeO (tendrilplain_FewOps.l1 k y0 y1 y2 y3 y4 y5 y6 y7 y8 y9 y10 y11 y12 y13 y14) (tendrilplain_FewOps.l1 (k + 1) y0 y1 y2 y3 y4 y5 y6 y7 y8 y9 y10 y11 y12 y13 y14))
  | 0 => ⟨fun _ _ _ _ r h => by simp [tendrilplain_FewOps.l0] at h, fun _ _ _ _ _ _ _ _ _ _ _ _ _ _ _ r h => by simp [tendrilplain_FewOps.l1] at h⟩
  | k + 1 => by
    obtain ⟨ih0, ih1⟩ := tendrilplain_FewOps.mono_l k
    refine ⟨?_, ?_⟩
    · intro y0 y1 y2 y3
      unfold tendrilplain_FewOps.l0
      repeat' first
      | (with_reducible exact ih0 _ _ _ _)
      | (with_reducible exact ih1 _ _ _ _ _ _ _ _ _ _ _ _ _ _ _)
      | (with_reducible exact LeO.refl _)
      | (with_reducible exact LeO.none _)
      | (with_reducible refine LeO.ite ?_ ?_)
      | (with_reducible refine LeO.bind ?_ (fun _ => ?_))
      | exact ih0 _ _ _ _
      | exact ih1 _ _ _ _ _ _ _ _ _ _ _ _ _ _ _
      | exact LeO.none _
      | refine LeO.ite ?_ ?_
      | refine LeO.bind ?_ (fun _ => ?_)
    · intro y0 y1 y2 y3 y4 y5 y6 y7 y8 y9 y10 y11 y12 y13 y14
      unfold tendrilplain_FewOps.l1
      repeat' first
      | (with_reducible exact ih0 _ _ _ _)
      | (with_reducible exact ih1 _ _ _ _ _ _ _ _ _ _ _ _ _ _ _)
      | (with_reducible exact LeO.refl _)
      | (with_reducible exact LeO.none _)
      | (with_reducible refine LeO.ite ?_ ?_)
      | (with_reducible refine LeO.bind ?_ (fun _ => ?_))
      | exact ih0 _ _ _ _
      | exact ih1 _ _ _ _ _ _ _ _ _ _ _ _ _ _ _
      | exact LeO.none _
      | refine LeO.ite ?_ ?_
      | refine LeO.bind ?_ (fun _ => ?_)
theorem tendrilplain_FewOps.mono : ∀ a0 a1 k, LeO (tendrilplain_FewOps.f k a0 a1) (tendrilplain_FewOps.f (k + 1) a0 a1) := by
  intro a0 a1 k
  obtain ⟨ih0, ih1⟩ := tendrilplain_FewOps.mono_l k
  unfold tendrilplain_FewOps.f
  repeat' first
      | (with_reducible exact ih0 _ _ _ _)
      | (with_reducible exact ih1 _ _ _ _ _ _ _ _ _ _ _ _ _ _ _)
      | (with_reducible exact LeO.refl _)
      | (with_reducible exact LeO.none _)
      | (with_reducible refine LeO.ite ?_ ?_)
      | (with_reducible refine LeO.bind ?_ (fun _ => ?_))
      | exact ih0 _ _ _ _
      | exact ih1 _ _ _ _ _ _ _ _ _ _ _ _ _ _ _
      | exact LeO.none _
      | refine LeO.ite ?_ ?_
      | refine LeO.bind ?_ (fun _ => ?_)
set_option maxHeartbeats 8000000 in
set_option maxRecDepth 100000 in
theorem tendrilplain_FewOps.calls (k : Nat) (A0 : Option Addr) (c0 : Nat) (l0 : List (S24)) (a1 : Int) (r : Bool) (w : World) (hgl : Go.Proofs.YtgdemingopcgaaaDoorX.GL w) (hr0 : Kd.C k24 w A0 l0.length l0) (hc0 : l0.length ≤ c0) (h : tendrilplain_FewOps.f k l0 a1 = some r) :
    Calls Tryd.prog 6 #[.slice A0 l0.length c0, .int .i64 a1] w fun e w' => e = .returned (.bool r) ∧ Below w.heap.size w w' := by
  have hu24 := Tryd.underlying24
  have HR0 := Aside0.mk hr0
  have HC0 := Aside0.mk hc0
  clear hr0 hc0
  have HGL := Aside0.mk hgl
  clear hgl
  have HB := Aside0.mk (Below.refl w.heap.size w)
  have H : (tendrilplain_FewOps.l0 k l0 a1 (l0.length : Int) 0) = some r := h
  clear h
  have H' := Aside0.mk H
  clear H
  go_enter Tryd.func6, Tryd.ntmps6
  go_wp2
  repeat (go_quiet (fail); try go_wp2)
  go_loopg [5, 12] k (fun kq v5 v12 w' => ∃ (x5_1 : Int) (x12_1 : Int), v5 = .int .i64 x5_1 ∧ v12 = .int .i64 x12_1 ∧ Aside0 (tendrilplain_FewOps.l0 kq l0 x5_1 (l0.length : Int) x12_1 = some r) ∧ Aside0 (kq ≤ k) ∧ Aside0 (Below w.heap.size w w'))
  case atStart => exact ⟨(a1), (0), (by first | rfl | (simp; done) | (simp [*]; done)), (by first | rfl | (simp; done) | (simp [*]; done)), H', ⟨Nat.le_refl _⟩, ⟨by repeat (first | (with_reducible first | exact HB.out | apply below_alloc | apply pw_below_drewN | apply below_drew1) | exact HB.out)⟩⟩
  case round =>
    clear H'
    try clear p2
    obtain ⟨x5_1, x12_1, rfl, rfl, HA, HK1, HB⟩ := hrel
    cases gk with
    | zero => exact absurd HA.out (by simp [tendrilplain_FewOps.l0])
    | succ k1 =>
      have H := HA.out
      clear HA
      simp only [tendrilplain_FewOps.l0] at H
      by_cases c3 : x12_1 < (l0.length : Int)
      · rw [if_pos c3] at H
        have c3b0 : decide (x12_1 < (l0.length : Int)) = true := decide_eq_true c3
        clear c3
        by_cases c4 : 0 ≤ x12_1
        · rw [if_pos c4] at H
          have c4b0 : decide (0 ≤ x12_1) = true := decide_eq_true c4
          clear c4
          by_cases c5 : x12_1 < (l0.length : Int)
          · rw [if_pos c5] at H
            have c5b0 : decide (x12_1 < (l0.length : Int)) = true := decide_eq_true c5
            clear c5
            by_cases c6 : (wrap64 ((wrap64 ((wrap64 (x5_1 - 1)) - (((rd_T24 l0 x12_1).f8).length : Int))) - (wrap64 (Int.tdiv (wrap64 ((wrap64 ((wrap64 ((((rd_T24 l0 x12_1).f7).size : Int) + (((rd_T24 l0 x12_1).f5).size : Int))) + (((rd_T24 l0 x12_1).f4).size : Int))) + (((rd_T24 l0 x12_1).f6).size : Int))) 4096)))) < 0
            · rw [if_pos c6] at H
              have c6b0 : decide ((wrap64 ((wrap64 ((wrap64 (x5_1 - 1)) - (((rd_T24 l0 x12_1).f8).length : Int))) - (wrap64 (Int.tdiv (wrap64 ((wrap64 ((wrap64 ((((rd_T24 l0 x12_1).f7).size : Int) + (((rd_T24 l0 x12_1).f5).size : Int))) + (((rd_T24 l0 x12_1).f4).size : Int))) + (((rd_T24 l0 x12_1).f6).size : Int))) 4096)))) < 0) = true := decide_eq_true c6
              clear c6
              obtain rfl := Option.some.inj H
              have p131 : 0 ≤ (x12_1 : Int) := of_decide_eq_true (by first | (with_reducible assumption) | assumption)
              have q131 : x12_1 < (l0.length : Int) := of_decide_eq_true (by first | (with_reducible assumption) | assumption)
              obtain ⟨ad131, A131_8, c131_8, e131, hx131_0, hx131_1, hx131_2, hx131_3, hx131_4, hx131_5, hx131_6, hx131_7, hx131_8, hl131_8, hi131_8⟩ := at_T24 HR0.out x12_1 p131 q131
              cases e131
              replace hx131_0 := (HB.out.cell (World.block_lt_of_cell? w _ hx131_0)).trans hx131_0
              replace hx131_1 := (HB.out.cell (World.block_lt_of_cell? w _ hx131_1)).trans hx131_1
              replace hx131_2 := (HB.out.cell (World.block_lt_of_cell? w _ hx131_2)).trans hx131_2
              replace hx131_3 := (HB.out.cell (World.block_lt_of_cell? w _ hx131_3)).trans hx131_3
              replace hx131_4 := (HB.out.cell (World.block_lt_of_cell? w _ hx131_4)).trans hx131_4
              replace hx131_5 := (HB.out.cell (World.block_lt_of_cell? w _ hx131_5)).trans hx131_5
              replace hx131_6 := (HB.out.cell (World.block_lt_of_cell? w _ hx131_6)).trans hx131_6
              replace hx131_7 := (HB.out.cell (World.block_lt_of_cell? w _ hx131_7)).trans hx131_7
              replace hx131_8 := (HB.out.cell (World.block_lt_of_cell? w _ hx131_8)).trans hx131_8
              have HR131_8 := Aside0.mk hi131_8
              have HC131_8 := Aside0.mk hl131_8
              clear hi131_8 hl131_8
              replace p131 := eq_true p131
              replace q131 := eq_true q131
              go_wp2_with (first | ((with_reducible refine gate_dst (N := 7) rfl ?_); refine box_event ?hg (N := 7) ?hd (cs := #[.int .i64 0, .int .i64 0, .int .i64 0, .int .i64 0, .string (⟨#[]⟩ : ByteArray), .string (⟨#[]⟩ : ByteArray), .string (⟨#[]⟩ : ByteArray), .string (⟨#[]⟩ : ByteArray), .slice none 0 0]) (t := 24) ?hr ?_; (case hd => rfl); (case hg => rfl); (case hr => first | (go_simp; done) | (go_simp; rfl)); intro gb132 hg w7 hbox hb; have n0_ := Aside0.mk (below_step (by repeat (first | (with_reducible first | exact HB.out | apply below_alloc | apply pw_below_drewN | apply below_drew1) | exact HB.out)) hb); have n1_ := Aside0.mk (hbox); have n2_ := Aside0.mk ((by rw [hg]; exact (below_size (by repeat (first | (with_reducible first | exact HB.out | apply below_alloc | apply pw_below_drewN | apply below_drew1) | exact HB.out))) : w.heap.size ≤ gb132)); have n3_ := Aside0.mk ((by rw [hg]; exact (below_size (by repeat (first | (with_reducible first | exact HB.out | apply below_alloc | apply pw_below_drewN | apply below_drew1) | exact HB.out))) : w.heap.size ≤ gb132)); clear HB; have HB := n0_; have BK132 := n1_; have GW132 := n2_; have GE132 := n3_; clear n0_ n1_ n2_ n3_; clear hb hbox hg; have hcz8_0 : w7.cell? ⟨gb132, 0, none⟩ = some (.int .i64 0) := (blk_cell BK132.out 0).trans rfl; have hcz8_1 : w7.cell? ⟨gb132, 1, none⟩ = some (.int .i64 0) := (blk_cell BK132.out 1).trans rfl; have hcz8_2 : w7.cell? ⟨gb132, 2, none⟩ = some (.int .i64 0) := (blk_cell BK132.out 2).trans rfl; have hcz8_3 : w7.cell? ⟨gb132, 3, none⟩ = some (.int .i64 0) := (blk_cell BK132.out 3).trans rfl; have hcz8_4 : w7.cell? ⟨gb132, 4, none⟩ = some (.string (⟨#[]⟩ : ByteArray)) := (blk_cell BK132.out 4).trans rfl; have hcz8_5 : w7.cell? ⟨gb132, 5, none⟩ = some (.string (⟨#[]⟩ : ByteArray)) := (blk_cell BK132.out 5).trans rfl; have hcz8_6 : w7.cell? ⟨gb132, 6, none⟩ = some (.string (⟨#[]⟩ : ByteArray)) := (blk_cell BK132.out 6).trans rfl; have hcz8_7 : w7.cell? ⟨gb132, 7, none⟩ = some (.string (⟨#[]⟩ : ByteArray)) := (blk_cell BK132.out 7).trans rfl; have hcz8_8 : w7.cell? ⟨gb132, 8, none⟩ = some (.slice none 0 0) := (blk_cell BK132.out 8).trans rfl; have hfz8_0 := blk_frozen BK132.out 0; have hfz8_1 := blk_frozen BK132.out 1; have hfz8_2 := blk_frozen BK132.out 2; have hfz8_3 := blk_frozen BK132.out 3; have hfz8_4 := blk_frozen BK132.out 4; have hfz8_5 := blk_frozen BK132.out 5; have hfz8_6 := blk_frozen BK132.out 6; have hfz8_7 := blk_frozen BK132.out 7; have hfz8_8 := blk_frozen BK132.out 8))
              repeat (go_quiet (first | ((with_reducible refine gate_dst (N := 7) rfl ?_); refine box_event ?hg (N := 7) ?hd (cs := #[.int .i64 0, .int .i64 0, .int .i64 0, .int .i64 0, .string (⟨#[]⟩ : ByteArray), .string (⟨#[]⟩ : ByteArray), .string (⟨#[]⟩ : ByteArray), .string (⟨#[]⟩ : ByteArray), .slice none 0 0]) (t := 24) ?hr ?_; (case hd => rfl); (case hg => rfl); (case hr => first | (go_simp; done) | (go_simp; rfl)); intro gb132 hg w7 hbox hb; have n0_ := Aside0.mk (below_step (by repeat (first | (with_reducible first | exact HB.out | apply below_alloc | apply pw_below_drewN | apply below_drew1) | exact HB.out)) hb); have n1_ := Aside0.mk (hbox); have n2_ := Aside0.mk ((by rw [hg]; exact (below_size (by repeat (first | (with_reducible first | exact HB.out | apply below_alloc | apply pw_below_drewN | apply below_drew1) | exact HB.out))) : w.heap.size ≤ gb132)); have n3_ := Aside0.mk ((by rw [hg]; exact (below_size (by repeat (first | (with_reducible first | exact HB.out | apply below_alloc | apply pw_below_drewN | apply below_drew1) | exact HB.out))) : w.heap.size ≤ gb132)); clear HB; have HB := n0_; have BK132 := n1_; have GW132 := n2_; have GE132 := n3_; clear n0_ n1_ n2_ n3_; clear hb hbox hg; have hcz8_0 : w7.cell? ⟨gb132, 0, none⟩ = some (.int .i64 0) := (blk_cell BK132.out 0).trans rfl; have hcz8_1 : w7.cell? ⟨gb132, 1, none⟩ = some (.int .i64 0) := (blk_cell BK132.out 1).trans rfl; have hcz8_2 : w7.cell? ⟨gb132, 2, none⟩ = some (.int .i64 0) := (blk_cell BK132.out 2).trans rfl; have hcz8_3 : w7.cell? ⟨gb132, 3, none⟩ = some (.int .i64 0) := (blk_cell BK132.out 3).trans rfl; have hcz8_4 : w7.cell? ⟨gb132, 4, none⟩ = some (.string (⟨#[]⟩ : ByteArray)) := (blk_cell BK132.out 4).trans rfl; have hcz8_5 : w7.cell? ⟨gb132, 5, none⟩ = some (.string (⟨#[]⟩ : ByteArray)) := (blk_cell BK132.out 5).trans rfl; have hcz8_6 : w7.cell? ⟨gb132, 6, none⟩ = some (.string (⟨#[]⟩ : ByteArray)) := (blk_cell BK132.out 6).trans rfl; have hcz8_7 : w7.cell? ⟨gb132, 7, none⟩ = some (.string (⟨#[]⟩ : ByteArray)) := (blk_cell BK132.out 7).trans rfl; have hcz8_8 : w7.cell? ⟨gb132, 8, none⟩ = some (.slice none 0 0) := (blk_cell BK132.out 8).trans rfl; have hfz8_0 := blk_frozen BK132.out 0; have hfz8_1 := blk_frozen BK132.out 1; have hfz8_2 := blk_frozen BK132.out 2; have hfz8_3 := blk_frozen BK132.out 3; have hfz8_4 := blk_frozen BK132.out 4; have hfz8_5 := blk_frozen BK132.out 5; have hfz8_6 := blk_frozen BK132.out 6; have hfz8_7 := blk_frozen BK132.out 7; have hfz8_8 := blk_frozen BK132.out 8)); try go_wp2_with (first | ((with_reducible refine gate_dst (N := 7) rfl ?_); refine box_event ?hg (N := 7) ?hd (cs := #[.int .i64 0, .int .i64 0, .int .i64 0, .int .i64 0, .string (⟨#[]⟩ : ByteArray), .string (⟨#[]⟩ : ByteArray), .string (⟨#[]⟩ : ByteArray), .string (⟨#[]⟩ : ByteArray), .slice none 0 0]) (t := 24) ?hr ?_; (case hd => rfl); (case hg => rfl); (case hr => first | (go_simp; done) | (go_simp; rfl)); intro gb132 hg w7 hbox hb; have n0_ := Aside0.mk (below_step (by repeat (first | (with_reducible first | exact HB.out | apply below_alloc | apply pw_below_drewN | apply below_drew1) | exact HB.out)) hb); have n1_ := Aside0.mk (hbox); have n2_ := Aside0.mk ((by rw [hg]; exact (below_size (by repeat (first | (with_reducible first | exact HB.out | apply below_alloc | apply pw_below_drewN | apply below_drew1) | exact HB.out))) : w.heap.size ≤ gb132)); have n3_ := Aside0.mk ((by rw [hg]; exact (below_size (by repeat (first | (with_reducible first | exact HB.out | apply below_alloc | apply pw_below_drewN | apply below_drew1) | exact HB.out))) : w.heap.size ≤ gb132)); clear HB; have HB := n0_; have BK132 := n1_; have GW132 := n2_; have GE132 := n3_; clear n0_ n1_ n2_ n3_; clear hb hbox hg; have hcz8_0 : w7.cell? ⟨gb132, 0, none⟩ = some (.int .i64 0) := (blk_cell BK132.out 0).trans rfl; have hcz8_1 : w7.cell? ⟨gb132, 1, none⟩ = some (.int .i64 0) := (blk_cell BK132.out 1).trans rfl; have hcz8_2 : w7.cell? ⟨gb132, 2, none⟩ = some (.int .i64 0) := (blk_cell BK132.out 2).trans rfl; have hcz8_3 : w7.cell? ⟨gb132, 3, none⟩ = some (.int .i64 0) := (blk_cell BK132.out 3).trans rfl; have hcz8_4 : w7.cell? ⟨gb132, 4, none⟩ = some (.string (⟨#[]⟩ : ByteArray)) := (blk_cell BK132.out 4).trans rfl; have hcz8_5 : w7.cell? ⟨gb132, 5, none⟩ = some (.string (⟨#[]⟩ : ByteArray)) := (blk_cell BK132.out 5).trans rfl; have hcz8_6 : w7.cell? ⟨gb132, 6, none⟩ = some (.string (⟨#[]⟩ : ByteArray)) := (blk_cell BK132.out 6).trans rfl; have hcz8_7 : w7.cell? ⟨gb132, 7, none⟩ = some (.string (⟨#[]⟩ : ByteArray)) := (blk_cell BK132.out 7).trans rfl; have hcz8_8 : w7.cell? ⟨gb132, 8, none⟩ = some (.slice none 0 0) := (blk_cell BK132.out 8).trans rfl; have hfz8_0 := blk_frozen BK132.out 0; have hfz8_1 := blk_frozen BK132.out 1; have hfz8_2 := blk_frozen BK132.out 2; have hfz8_3 := blk_frozen BK132.out 3; have hfz8_4 := blk_frozen BK132.out 4; have hfz8_5 := blk_frozen BK132.out 5; have hfz8_6 := blk_frozen BK132.out 6; have hfz8_7 := blk_frozen BK132.out 7; have hfz8_8 := blk_frozen BK132.out 8)))
              go_ret
              exact ⟨by first | rfl | (simp [errW_none, errW_some] <;> first | rfl | exact emp_bne _ | exact (emp_bne _).symm | exact emp_bne' _ | exact (emp_bne' _).symm) | (simp [*, errW_none, errW_some] <;> rfl), by repeat (first | (with_reducible first | exact HB.out | apply below_alloc | apply pw_below_drewN | apply below_drew1 | refine below_set ?_ GE132.out) | exact HB.out)⟩
            · rw [if_neg c6] at H
              have c6b0 : decide ((wrap64 ((wrap64 ((wrap64 (x5_1 - 1)) - (((rd_T24 l0 x12_1).f8).length : Int))) - (wrap64 (Int.tdiv (wrap64 ((wrap64 ((wrap64 ((((rd_T24 l0 x12_1).f7).size : Int) + (((rd_T24 l0 x12_1).f5).size : Int))) + (((rd_T24 l0 x12_1).f4).size : Int))) + (((rd_T24 l0 x12_1).f6).size : Int))) 4096)))) < 0) = false := decide_eq_false c6
              clear c6
              have H' := Aside0.mk H
              clear H
              have p131 : 0 ≤ (x12_1 : Int) := of_decide_eq_true (by first | (with_reducible assumption) | assumption)
              have q131 : x12_1 < (l0.length : Int) := of_decide_eq_true (by first | (with_reducible assumption) | assumption)
              obtain ⟨ad131, A131_8, c131_8, e131, hx131_0, hx131_1, hx131_2, hx131_3, hx131_4, hx131_5, hx131_6, hx131_7, hx131_8, hl131_8, hi131_8⟩ := at_T24 HR0.out x12_1 p131 q131
              cases e131
              replace hx131_0 := (HB.out.cell (World.block_lt_of_cell? w _ hx131_0)).trans hx131_0
              replace hx131_1 := (HB.out.cell (World.block_lt_of_cell? w _ hx131_1)).trans hx131_1
              replace hx131_2 := (HB.out.cell (World.block_lt_of_cell? w _ hx131_2)).trans hx131_2
              replace hx131_3 := (HB.out.cell (World.block_lt_of_cell? w _ hx131_3)).trans hx131_3
              replace hx131_4 := (HB.out.cell (World.block_lt_of_cell? w _ hx131_4)).trans hx131_4
              replace hx131_5 := (HB.out.cell (World.block_lt_of_cell? w _ hx131_5)).trans hx131_5
              replace hx131_6 := (HB.out.cell (World.block_lt_of_cell? w _ hx131_6)).trans hx131_6
              replace hx131_7 := (HB.out.cell (World.block_lt_of_cell? w _ hx131_7)).trans hx131_7
              replace hx131_8 := (HB.out.cell (World.block_lt_of_cell? w _ hx131_8)).trans hx131_8
              have HR131_8 := Aside0.mk hi131_8
              have HC131_8 := Aside0.mk hl131_8
              clear hi131_8 hl131_8
              replace p131 := eq_true p131
              replace q131 := eq_true q131
              go_wp2_with (first | ((with_reducible refine gate_dst (N := 7) rfl ?_); refine box_event ?hg (N := 7) ?hd (cs := #[.int .i64 0, .int .i64 0, .int .i64 0, .int .i64 0, .string (⟨#[]⟩ : ByteArray), .string (⟨#[]⟩ : ByteArray), .string (⟨#[]⟩ : ByteArray), .string (⟨#[]⟩ : ByteArray), .slice none 0 0]) (t := 24) ?hr ?_; (case hd => rfl); (case hg => rfl); (case hr => first | (go_simp; done) | (go_simp; rfl)); intro gb132 hg w9 hbox hb; have n0_ := Aside0.mk (below_step (by repeat (first | (with_reducible first | exact HB.out | apply below_alloc | apply pw_below_drewN | apply below_drew1) | exact HB.out)) hb); have n1_ := Aside0.mk (hbox); have n2_ := Aside0.mk ((by rw [hg]; exact (below_size (by repeat (first | (with_reducible first | exact HB.out | apply below_alloc | apply pw_below_drewN | apply below_drew1) | exact HB.out))) : w.heap.size ≤ gb132)); have n3_ := Aside0.mk ((by rw [hg]; exact (below_size (by repeat (first | (with_reducible first | exact HB.out | apply below_alloc | apply pw_below_drewN | apply below_drew1) | exact HB.out))) : w.heap.size ≤ gb132)); clear HB; have HB := n0_; have BK132 := n1_; have GW132 := n2_; have GE132 := n3_; clear n0_ n1_ n2_ n3_; clear hb hbox hg; have hcz10_0 : w9.cell? ⟨gb132, 0, none⟩ = some (.int .i64 0) := (blk_cell BK132.out 0).trans rfl; have hcz10_1 : w9.cell? ⟨gb132, 1, none⟩ = some (.int .i64 0) := (blk_cell BK132.out 1).trans rfl; have hcz10_2 : w9.cell? ⟨gb132, 2, none⟩ = some (.int .i64 0) := (blk_cell BK132.out 2).trans rfl; have hcz10_3 : w9.cell? ⟨gb132, 3, none⟩ = some (.int .i64 0) := (blk_cell BK132.out 3).trans rfl; have hcz10_4 : w9.cell? ⟨gb132, 4, none⟩ = some (.string (⟨#[]⟩ : ByteArray)) := (blk_cell BK132.out 4).trans rfl; have hcz10_5 : w9.cell? ⟨gb132, 5, none⟩ = some (.string (⟨#[]⟩ : ByteArray)) := (blk_cell BK132.out 5).trans rfl; have hcz10_6 : w9.cell? ⟨gb132, 6, none⟩ = some (.string (⟨#[]⟩ : ByteArray)) := (blk_cell BK132.out 6).trans rfl; have hcz10_7 : w9.cell? ⟨gb132, 7, none⟩ = some (.string (⟨#[]⟩ : ByteArray)) := (blk_cell BK132.out 7).trans rfl; have hcz10_8 : w9.cell? ⟨gb132, 8, none⟩ = some (.slice none 0 0) := (blk_cell BK132.out 8).trans rfl; have hfz10_0 := blk_frozen BK132.out 0; have hfz10_1 := blk_frozen BK132.out 1; have hfz10_2 := blk_frozen BK132.out 2; have hfz10_3 := blk_frozen BK132.out 3; have hfz10_4 := blk_frozen BK132.out 4; have hfz10_5 := blk_frozen BK132.out 5; have hfz10_6 := blk_frozen BK132.out 6; have hfz10_7 := blk_frozen BK132.out 7; have hfz10_8 := blk_frozen BK132.out 8))
              repeat (go_quiet (first | ((with_reducible refine gate_dst (N := 7) rfl ?_); refine box_event ?hg (N := 7) ?hd (cs := #[.int .i64 0, .int .i64 0, .int .i64 0, .int .i64 0, .string (⟨#[]⟩ : ByteArray), .string (⟨#[]⟩ : ByteArray), .string (⟨#[]⟩ : ByteArray), .string (⟨#[]⟩ : ByteArray), .slice none 0 0]) (t := 24) ?hr ?_; (case hd => rfl); (case hg => rfl); (case hr => first | (go_simp; done) | (go_simp; rfl)); intro gb132 hg w9 hbox hb; have n0_ := Aside0.mk (below_step (by repeat (first | (with_reducible first | exact HB.out | apply below_alloc | apply pw_below_drewN | apply below_drew1) | exact HB.out)) hb); have n1_ := Aside0.mk (hbox); have n2_ := Aside0.mk ((by rw [hg]; exact (below_size (by repeat (first | (with_reducible first | exact HB.out | apply below_alloc | apply pw_below_drewN | apply below_drew1) | exact HB.out))) : w.heap.size ≤ gb132)); have n3_ := Aside0.mk ((by rw [hg]; exact (below_size (by repeat (first | (with_reducible first | exact HB.out | apply below_alloc | apply pw_below_drewN | apply below_drew1) | exact HB.out))) : w.heap.size ≤ gb132)); clear HB; have HB := n0_; have BK132 := n1_; have GW132 := n2_; have GE132 := n3_; clear n0_ n1_ n2_ n3_; clear hb hbox hg; have hcz10_0 : w9.cell? ⟨gb132, 0, none⟩ = some (.int .i64 0) := (blk_cell BK132.out 0).trans rfl; have hcz10_1 : w9.cell? ⟨gb132, 1, none⟩ = some (.int .i64 0) := (blk_cell BK132.out 1).trans rfl; have hcz10_2 : w9.cell? ⟨gb132, 2, none⟩ = some (.int .i64 0) := (blk_cell BK132.out 2).trans rfl; have hcz10_3 : w9.cell? ⟨gb132, 3, none⟩ = some (.int .i64 0) := (blk_cell BK132.out 3).trans rfl; have hcz10_4 : w9.cell? ⟨gb132, 4, none⟩ = some (.string (⟨#[]⟩ : ByteArray)) := (blk_cell BK132.out 4).trans rfl; have hcz10_5 : w9.cell? ⟨gb132, 5, none⟩ = some (.string (⟨#[]⟩ : ByteArray)) := (blk_cell BK132.out 5).trans rfl; have hcz10_6 : w9.cell? ⟨gb132, 6, none⟩ = some (.string (⟨#[]⟩ : ByteArray)) := (blk_cell BK132.out 6).trans rfl; have hcz10_7 : w9.cell? ⟨gb132, 7, none⟩ = some (.string (⟨#[]⟩ : ByteArray)) := (blk_cell BK132.out 7).trans rfl; have hcz10_8 : w9.cell? ⟨gb132, 8, none⟩ = some (.slice none 0 0) := (blk_cell BK132.out 8).trans rfl; have hfz10_0 := blk_frozen BK132.out 0; have hfz10_1 := blk_frozen BK132.out 1; have hfz10_2 := blk_frozen BK132.out 2; have hfz10_3 := blk_frozen BK132.out 3; have hfz10_4 := blk_frozen BK132.out 4; have hfz10_5 := blk_frozen BK132.out 5; have hfz10_6 := blk_frozen BK132.out 6; have hfz10_7 := blk_frozen BK132.out 7; have hfz10_8 := blk_frozen BK132.out 8)); try go_wp2_with (first | ((with_reducible refine gate_dst (N := 7) rfl ?_); refine box_event ?hg (N := 7) ?hd (cs := #[.int .i64 0, .int .i64 0, .int .i64 0, .int .i64 0, .string (⟨#[]⟩ : ByteArray), .string (⟨#[]⟩ : ByteArray), .string (⟨#[]⟩ : ByteArray), .string (⟨#[]⟩ : ByteArray), .slice none 0 0]) (t := 24) ?hr ?_; (case hd => rfl); (case hg => rfl); (case hr => first | (go_simp; done) | (go_simp; rfl)); intro gb132 hg w9 hbox hb; have n0_ := Aside0.mk (below_step (by repeat (first | (with_reducible first | exact HB.out | apply below_alloc | apply pw_below_drewN | apply below_drew1) | exact HB.out)) hb); have n1_ := Aside0.mk (hbox); have n2_ := Aside0.mk ((by rw [hg]; exact (below_size (by repeat (first | (with_reducible first | exact HB.out | apply below_alloc | apply pw_below_drewN | apply below_drew1) | exact HB.out))) : w.heap.size ≤ gb132)); have n3_ := Aside0.mk ((by rw [hg]; exact (below_size (by repeat (first | (with_reducible first | exact HB.out | apply below_alloc | apply pw_below_drewN | apply below_drew1) | exact HB.out))) : w.heap.size ≤ gb132)); clear HB; have HB := n0_; have BK132 := n1_; have GW132 := n2_; have GE132 := n3_; clear n0_ n1_ n2_ n3_; clear hb hbox hg; have hcz10_0 : w9.cell? ⟨gb132, 0, none⟩ = some (.int .i64 0) := (blk_cell BK132.out 0).trans rfl; have hcz10_1 : w9.cell? ⟨gb132, 1, none⟩ = some (.int .i64 0) := (blk_cell BK132.out 1).trans rfl; have hcz10_2 : w9.cell? ⟨gb132, 2, none⟩ = some (.int .i64 0) := (blk_cell BK132.out 2).trans rfl; have hcz10_3 : w9.cell? ⟨gb132, 3, none⟩ = some (.int .i64 0) := (blk_cell BK132.out 3).trans rfl; have hcz10_4 : w9.cell? ⟨gb132, 4, none⟩ = some (.string (⟨#[]⟩ : ByteArray)) := (blk_cell BK132.out 4).trans rfl; have hcz10_5 : w9.cell? ⟨gb132, 5, none⟩ = some (.string (⟨#[]⟩ : ByteArray)) := (blk_cell BK132.out 5).trans rfl; have hcz10_6 : w9.cell? ⟨gb132, 6, none⟩ = some (.string (⟨#[]⟩ : ByteArray)) := (blk_cell BK132.out 6).trans rfl; have hcz10_7 : w9.cell? ⟨gb132, 7, none⟩ = some (.string (⟨#[]⟩ : ByteArray)) := (blk_cell BK132.out 7).trans rfl; have hcz10_8 : w9.cell? ⟨gb132, 8, none⟩ = some (.slice none 0 0) := (blk_cell BK132.out 8).trans rfl; have hfz10_0 := blk_frozen BK132.out 0; have hfz10_1 := blk_frozen BK132.out 1; have hfz10_2 := blk_frozen BK132.out 2; have hfz10_3 := blk_frozen BK132.out 3; have hfz10_4 := blk_frozen BK132.out 4; have hfz10_5 := blk_frozen BK132.out 5; have hfz10_6 := blk_frozen BK132.out 6; have hfz10_7 := blk_frozen BK132.out 7; have hfz10_8 := blk_frozen BK132.out 8)))
              go_loopg [5, 47] k1 (fun kq v5 v47 w' => ∃ (x5_2 : Int) (x47_2 : Int), v5 = .int .i64 x5_2 ∧ v47 = .int .i64 x47_2 ∧ Aside0 (tendrilplain_FewOps.l1 kq l0 x5_2 (l0.length : Int) x12_1 (((rd_T24 l0 x12_1).f8).length : Int) x47_2 ((rd_T24 l0 x12_1).f0) ((rd_T24 l0 x12_1).f1) ((rd_T24 l0 x12_1).f2) ((rd_T24 l0 x12_1).f3) ((rd_T24 l0 x12_1).f4) ((rd_T24 l0 x12_1).f5) ((rd_T24 l0 x12_1).f6) ((rd_T24 l0 x12_1).f7) ((rd_T24 l0 x12_1).f8) = some r) ∧ Aside0 (kq ≤ k1) ∧ Aside0 (w'.heap[gb132]? = some (.cells #[.int .i64 ((rd_T24 l0 x12_1).f0), .int .i64 ((rd_T24 l0 x12_1).f1), .int .i64 ((rd_T24 l0 x12_1).f2), .int .i64 ((rd_T24 l0 x12_1).f3), .string ((rd_T24 l0 x12_1).f4), .string ((rd_T24 l0 x12_1).f5), .string ((rd_T24 l0 x12_1).f6), .string ((rd_T24 l0 x12_1).f7), (.slice A131_8 ((rd_T24 l0 x12_1).f8).length c131_8)] 24 (0, 0))) ∧ Aside0 (Below w.heap.size w w'))
              case atStart => exact ⟨(wrap64 ((wrap64 ((wrap64 (x5_1 - 1)) - (((rd_T24 l0 x12_1).f8).length : Int))) - (wrap64 (Int.tdiv (wrap64 ((wrap64 ((wrap64 ((((rd_T24 l0 x12_1).f7).size : Int) + (((rd_T24 l0 x12_1).f5).size : Int))) + (((rd_T24 l0 x12_1).f4).size : Int))) + (((rd_T24 l0 x12_1).f6).size : Int))) 4096)))), (0), (by first | rfl | (simp; done) | (simp [*]; done)), (by first | rfl | (simp; done) | (simp [*]; done)), H', ⟨Nat.le_refl _⟩, ⟨by (with_reducible repeat (first | refine blk_drewN ?_ _ | refine blk_drew ?_ | refine blk_alloc ?_ _)); refine blk_put (cs := #[.int .i64 ((rd_T24 l0 x12_1).f0), .int .i64 ((rd_T24 l0 x12_1).f1), .int .i64 ((rd_T24 l0 x12_1).f2), .int .i64 ((rd_T24 l0 x12_1).f3), .string ((rd_T24 l0 x12_1).f4), .string ((rd_T24 l0 x12_1).f5), .string ((rd_T24 l0 x12_1).f6), .string ((rd_T24 l0 x12_1).f7), .slice none 0 0]) ?_ 8 _ rfl; (with_reducible repeat (first | refine blk_drewN ?_ _ | refine blk_drew ?_ | refine blk_alloc ?_ _)); refine blk_put (cs := #[.int .i64 ((rd_T24 l0 x12_1).f0), .int .i64 ((rd_T24 l0 x12_1).f1), .int .i64 ((rd_T24 l0 x12_1).f2), .int .i64 ((rd_T24 l0 x12_1).f3), .string ((rd_T24 l0 x12_1).f4), .string ((rd_T24 l0 x12_1).f5), .string ((rd_T24 l0 x12_1).f6), .string (⟨#[]⟩ : ByteArray), .slice none 0 0]) ?_ 7 _ rfl; (with_reducible repeat (first | refine blk_drewN ?_ _ | refine blk_drew ?_ | refine blk_alloc ?_ _)); refine blk_put (cs := #[.int .i64 ((rd_T24 l0 x12_1).f0), .int .i64 ((rd_T24 l0 x12_1).f1), .int .i64 ((rd_T24 l0 x12_1).f2), .int .i64 ((rd_T24 l0 x12_1).f3), .string ((rd_T24 l0 x12_1).f4), .string ((rd_T24 l0 x12_1).f5), .string (⟨#[]⟩ : ByteArray), .string (⟨#[]⟩ : ByteArray), .slice none 0 0]) ?_ 6 _ rfl; (with_reducible repeat (first | refine blk_drewN ?_ _ | refine blk_drew ?_ | refine blk_alloc ?_ _)); refine blk_put (cs := #[.int .i64 ((rd_T24 l0 x12_1).f0), .int .i64 ((rd_T24 l0 x12_1).f1), .int .i64 ((rd_T24 l0 x12_1).f2), .int .i64 ((rd_T24 l0 x12_1).f3), .string ((rd_T24 l0 x12_1).f4), .string (⟨#[]⟩ : ByteArray), .string (⟨#[]⟩ : ByteArray), .string (⟨#[]⟩ : ByteArray), .slice none 0 0]) ?_ 5 _ rfl; (with_reducible repeat (first | refine blk_drewN ?_ _ | refine blk_drew ?_ | refine blk_alloc ?_ _)); refine blk_put (cs := #[.int .i64 ((rd_T24 l0 x12_1).f0), .int .i64 ((rd_T24 l0 x12_1).f1), .int .i64 ((rd_T24 l0 x12_1).f2), .int .i64 ((rd_T24 l0 x12_1).f3), .string (⟨#[]⟩ : ByteArray), .string (⟨#[]⟩ : ByteArray), .string (⟨#[]⟩ : ByteArray), .string (⟨#[]⟩ : ByteArray), .slice none 0 0]) ?_ 4 _ rfl; (with_reducible repeat (first | refine blk_drewN ?_ _ | refine blk_drew ?_ | refine blk_alloc ?_ _)); refine blk_put (cs := #[.int .i64 ((rd_T24 l0 x12_1).f0), .int .i64 ((rd_T24 l0 x12_1).f1), .int .i64 ((rd_T24 l0 x12_1).f2), .int .i64 0, .string (⟨#[]⟩ : ByteArray), .string (⟨#[]⟩ : ByteArray), .string (⟨#[]⟩ : ByteArray), .string (⟨#[]⟩ : ByteArray), .slice none 0 0]) ?_ 3 _ rfl; (with_reducible repeat (first | refine blk_drewN ?_ _ | refine blk_drew ?_ | refine blk_alloc ?_ _)); refine blk_put (cs := #[.int .i64 ((rd_T24 l0 x12_1).f0), .int .i64 ((rd_T24 l0 x12_1).f1), .int .i64 0, .int .i64 0, .string (⟨#[]⟩ : ByteArray), .string (⟨#[]⟩ : ByteArray), .string (⟨#[]⟩ : ByteArray), .string (⟨#[]⟩ : ByteArray), .slice none 0 0]) ?_ 2 _ rfl; (with_reducible repeat (first | refine blk_drewN ?_ _ | refine blk_drew ?_ | refine blk_alloc ?_ _)); refine blk_put (cs := #[.int .i64 ((rd_T24 l0 x12_1).f0), .int .i64 0, .int .i64 0, .int .i64 0, .string (⟨#[]⟩ : ByteArray), .string (⟨#[]⟩ : ByteArray), .string (⟨#[]⟩ : ByteArray), .string (⟨#[]⟩ : ByteArray), .slice none 0 0]) ?_ 1 _ rfl; (with_reducible repeat (first | refine blk_drewN ?_ _ | refine blk_drew ?_ | refine blk_alloc ?_ _)); refine blk_put (cs := #[.int .i64 0, .int .i64 0, .int .i64 0, .int .i64 0, .string (⟨#[]⟩ : ByteArray), .string (⟨#[]⟩ : ByteArray), .string (⟨#[]⟩ : ByteArray), .string (⟨#[]⟩ : ByteArray), .slice none 0 0]) ?_ 0 _ rfl; (with_reducible repeat (first | refine blk_drewN ?_ _ | refine blk_drew ?_ | refine blk_alloc ?_ _)); exact BK132.out⟩, ⟨by repeat (first | (with_reducible first | exact HB.out | apply below_alloc | apply pw_below_drewN | apply below_drew1 | refine below_set ?_ GE132.out) | exact HB.out)⟩⟩
              case round =>
                clear H'
                try clear c1
                try clear p1
                try clear q1
                try clear hx1
                try clear p2
                try clear c3
                try clear c3b0
                try clear c4
                try clear c4b0
                try clear c5
                try clear c5b0
                try clear c6
                try clear c6b0
                try clear p6
                try clear hcz10_0
                try clear hcz10_1
                try clear hcz10_2
                try clear hcz10_3
                try clear hcz10_4
                try clear hcz10_5
                try clear hcz10_6
                try clear hcz10_7
                try clear hcz10_8
                try clear hcz8_0
                try clear hcz8_1
                try clear hcz8_2
                try clear hcz8_3
                try clear hcz8_4
                try clear hcz8_5
                try clear hcz8_6
                try clear hcz8_7
                try clear hcz8_8
                try clear hfz10_0
                try clear hfz10_1
                try clear hfz10_2
                try clear hfz10_3
                try clear hfz10_4
                try clear hfz10_5
                try clear hfz10_6
                try clear hfz10_7
                try clear hfz10_8
                try clear hfz8_0
                try clear hfz8_1
                try clear hfz8_2
                try clear hfz8_3
                try clear hfz8_4
                try clear hfz8_5
                try clear hfz8_6
                try clear hfz8_7
                try clear hfz8_8
                try clear hx131_0
                try clear hx131_1
                try clear hx131_2
                try clear hx131_3
                try clear hx131_4
                try clear hx131_5
                try clear hx131_6
                try clear hx131_7
                try clear hx131_8
                try clear p131
                try clear p2
                try clear q131
                obtain ⟨x5_2, x47_2, rfl, rfl, HA, HK2, BK132, HB⟩ := hrel
                cases gk with
                | zero => exact absurd HA.out (by simp [tendrilplain_FewOps.l1])
                | succ k2 =>
                  have H := HA.out
                  clear HA
                  simp only [tendrilplain_FewOps.l1] at H
                  by_cases c11 : x47_2 < (((rd_T24 l0 x12_1).f8).length : Int)
                  · rw [if_pos c11] at H
                    have c11b0 : decide (x47_2 < (((rd_T24 l0 x12_1).f8).length : Int)) = true := decide_eq_true c11
                    clear c11
                    by_cases c12 : 0 ≤ x47_2
                    · rw [if_pos c12] at H
                      have c12b0 : decide (0 ≤ x47_2) = true := decide_eq_true c12
                      clear c12
                      by_cases c13 : x47_2 < (((rd_T24 l0 x12_1).f8).length : Int)
                      · rw [if_pos c13] at H
                        have c13b0 : decide (x47_2 < (((rd_T24 l0 x12_1).f8).length : Int)) = true := decide_eq_true c13
                        clear c13
                        have H' := Aside0.mk H
                        clear H
                        have hcz14_0 : wr.cell? ⟨gb132, 0, none⟩ = some (.int .i64 ((rd_T24 l0 x12_1).f0)) := (blk_cell BK132.out 0).trans rfl
                        have hcz14_1 : wr.cell? ⟨gb132, 1, none⟩ = some (.int .i64 ((rd_T24 l0 x12_1).f1)) := (blk_cell BK132.out 1).trans rfl
                        have hcz14_2 : wr.cell? ⟨gb132, 2, none⟩ = some (.int .i64 ((rd_T24 l0 x12_1).f2)) := (blk_cell BK132.out 2).trans rfl
                        have hcz14_3 : wr.cell? ⟨gb132, 3, none⟩ = some (.int .i64 ((rd_T24 l0 x12_1).f3)) := (blk_cell BK132.out 3).trans rfl
                        have hcz14_4 : wr.cell? ⟨gb132, 4, none⟩ = some (.string ((rd_T24 l0 x12_1).f4)) := (blk_cell BK132.out 4).trans rfl
                        have hcz14_5 : wr.cell? ⟨gb132, 5, none⟩ = some (.string ((rd_T24 l0 x12_1).f5)) := (blk_cell BK132.out 5).trans rfl
                        have hcz14_6 : wr.cell? ⟨gb132, 6, none⟩ = some (.string ((rd_T24 l0 x12_1).f6)) := (blk_cell BK132.out 6).trans rfl
                        have hcz14_7 : wr.cell? ⟨gb132, 7, none⟩ = some (.string ((rd_T24 l0 x12_1).f7)) := (blk_cell BK132.out 7).trans rfl
                        have hcz14_8 : wr.cell? ⟨gb132, 8, none⟩ = some (.slice A131_8 ((rd_T24 l0 x12_1).f8).length c131_8) := (blk_cell BK132.out 8).trans rfl
                        have hfz14_0 := blk_frozen BK132.out 0
                        have hfz14_1 := blk_frozen BK132.out 1
                        have hfz14_2 := blk_frozen BK132.out 2
                        have hfz14_3 := blk_frozen BK132.out 3
                        have hfz14_4 := blk_frozen BK132.out 4
                        have hfz14_5 := blk_frozen BK132.out 5
                        have hfz14_6 := blk_frozen BK132.out 6
                        have hfz14_7 := blk_frozen BK132.out 7
                        have hfz14_8 := blk_frozen BK132.out 8
                        have p133 : 0 ≤ (x47_2 : Int) := of_decide_eq_true (by first | (with_reducible assumption) | assumption)
                        have q133 : x47_2 < (((rd_T24 l0 x12_1).f8).length : Int) := of_decide_eq_true (by first | (with_reducible assumption) | assumption)
                        obtain ⟨ad133, e133, hx133_0, hx133_1⟩ := at_T51 HR131_8.out x47_2 p133 q133
                        cases e133
                        replace hx133_0 := (HB.out.cell (World.block_lt_of_cell? w _ hx133_0)).trans hx133_0
                        replace hx133_1 := (HB.out.cell (World.block_lt_of_cell? w _ hx133_1)).trans hx133_1
                        replace p133 := eq_true p133
                        replace q133 := eq_true q133
                        have p134 : 0 ≤ (x47_2 : Int) := of_decide_eq_true (by first | (with_reducible assumption) | assumption)
                        have q134 : x47_2 < (((rd_T24 l0 x12_1).f8).length : Int) := of_decide_eq_true (by first | (with_reducible assumption) | assumption)
                        obtain ⟨ad134, e134, hx134_0, hx134_1⟩ := at_T51 HR131_8.out x47_2 p134 q134
                        obtain rfl : ad133 = ad134 := (by injection e134)
                        replace hx134_0 := (HB.out.cell (World.block_lt_of_cell? w _ hx134_0)).trans hx134_0
                        replace hx134_1 := (HB.out.cell (World.block_lt_of_cell? w _ hx134_1)).trans hx134_1
                        replace p134 := eq_true p134
                        replace q134 := eq_true q134
                        go_wp2
                        repeat (go_quiet (fail); try go_wp2)
                        go_roundg k2
                        case measure => have := HK1.out; have := HK2.out; omega
                        case rel => exact ⟨(wrap64 (x5_2 - (wrap64 (Int.tdiv (wrap64 ((((rd_T51 ((rd_T24 l0 x12_1).f8) x47_2).f1).size : Int) + (((rd_T51 ((rd_T24 l0 x12_1).f8) x47_2).f0).size : Int))) 4096)))), (wrap64 (x47_2 + 1)), (by first | rfl | (simp; done) | (simp [*]; done)), (by first | rfl | (simp; done) | (simp [*]; done)), H', ⟨by have := HK1.out; have := HK2.out; omega⟩, ⟨by (with_reducible repeat (first | refine blk_drewN ?_ _ | refine blk_drew ?_ | refine blk_alloc ?_ _)); exact BK132.out⟩, ⟨by repeat (first | (with_reducible first | exact HB.out | apply below_alloc | apply pw_below_drewN | apply below_drew1 | refine below_set ?_ GE132.out) | exact HB.out)⟩⟩
                      · rw [if_neg c13] at H
                        exact absurd H (by simp)
                    · rw [if_neg c12] at H
                      exact absurd H (by simp)
                  · rw [if_neg c11] at H
                    have c11b0 : decide (x47_2 < (((rd_T24 l0 x12_1).f8).length : Int)) = false := decide_eq_false c11
                    clear c11
                    have H' := Aside0.mk H
                    clear H
                    go_wp2
                    repeat (go_quiet (fail); try go_wp2)
                    go_roundg k2
                    case measure => have := HK1.out; have := HK2.out; omega
                    case rel => exact ⟨(x5_2), (wrap64 (x12_1 + 1)), (by first | rfl | (simp; done) | (simp [*]; done)), (by first | rfl | (simp; done) | (simp [*]; done)), H', ⟨by have := HK1.out; have := HK2.out; omega⟩, ⟨by repeat (first | (with_reducible first | exact HB.out | apply below_alloc | apply pw_below_drewN | apply below_drew1 | refine below_set ?_ GE132.out) | exact HB.out)⟩⟩
          · rw [if_neg c5] at H
            exact absurd H (by simp)
        · rw [if_neg c4] at H
          exact absurd H (by simp)
      · rw [if_neg c3] at H
        have c3b0 : decide (x12_1 < (l0.length : Int)) = false := decide_eq_false c3
        clear c3
        obtain rfl := Option.some.inj H
        go_wp2
        repeat (go_quiet (fail); try go_wp2)
        go_ret
        exact ⟨by first | rfl | (simp [errW_none, errW_some] <;> first | rfl | exact emp_bne _ | exact (emp_bne _).symm | exact emp_bne' _ | exact (emp_bne' _).symm) | (simp [*, errW_none, errW_some] <;> rfl), by repeat (first | (with_reducible first | exact HB.out | apply below_alloc | apply pw_below_drewN | apply below_drew1) | exact HB.out)⟩

def tendrilplain_Attrs.l0 : Nat → List (S51) → List (S51) → Int → Int → Option (Bool)
  | 0, _, _, _, _ => none
  | k + 1, x0, x1, x12, x13 => if x13 < x12 then (if 0 ≤ x13 then (if x13 < (x0.length : Int) then (if x13 < (x1.length : Int) then (if (!((((rd_T51 x0 x13).f0).toList) == (((rd_T51 x1 x13).f0).toList)) || (!((((rd_T51 x0 x13).f1).toList) == (((rd_T51 x1 x13).f1).toList)))) = true then (some false) else (tendrilplain_Attrs.l0 k x0 x1 x12 (wrap64 (x13 + 1)))) else (none)) else (none)) else (none)) else (some true)
def tendrilplain_Attrs.f (k : Nat) (l0 : List (S51)) (l1 : List (S51)) : Option (Bool) := if (l0.length : Int) = (l1.length : Int) then (tendrilplain_Attrs.l0 k l0 l1 (l0.length : Int) 0) else (some false)
theorem tendrilplain_Attrs.mono_l : ∀ k, (∀ y0 y1 y2 y3, LeO (tendrilplain_Attrs.l0 k y0 y1 y2 y3) (tendrilplain_Attrs.l0 (k + 1) y0 y1 y2 y3))
  | 0 => fun _ _ _ _ r h => by simp [tendrilplain_Attrs.l0] at h
  | k + 1 => by
    have ih0 := tendrilplain_Attrs.mono_l k
    · intro y0 y1 y2 y3
      unfold tendrilplain_Attrs.l0
      repeat' first
      | (with_reducible exact ih0 _ _ _ _)
      | (with_reducible exact LeO.refl _)
      | (with_reducible exact LeO.none _)
      | (with_reducible refine LeO.ite ?_ ?_)
      | (with_reducible refine LeO.bind ?_ (fun _ => ?_))
      | exact ih0 _ _ _ _
      | exact LeO.none _
      | refine LeO.ite ?_ ?_
      | refine LeO.bind ?_ (fun _ => ?_)
theorem tendrilplain_Attrs.mono : ∀ a0 a1 k, LeO (tendrilplain_Attrs.f k a0 a1) (tendrilplain_Attrs.f (k + 1) a0 a1) := by
  intro a0 a1 k
  have ih0 := tendrilplain_Attrs.mono_l k
  unfold tendrilplain_Attrs.f
  repeat' first
      | (with_reducible exact ih0 _ _ _ _)
      | (with_reducible exact LeO.refl _)
      | (with_reducible exact LeO.none _)
      | (with_reducible refine LeO.ite ?_ ?_)
      | (with_reducible refine LeO.bind ?_ (fun _ => ?_))
      | exact ih0 _ _ _ _
      | exact LeO.none _
      | refine LeO.ite ?_ ?_
      | refine LeO.bind ?_ (fun _ => ?_)
set_option maxHeartbeats 8000000 in
set_option maxRecDepth 100000 in
theorem tendrilplain_Attrs.calls (k : Nat) (A0 : Option Addr) (c0 : Nat) (l0 : List (S51)) (A1 : Option Addr) (c1 : Nat) (l1 : List (S51)) (r : Bool) (w : World) (hgl : Go.Proofs.YtgdemingopcgaaaDoorX.GL w) (hr0 : Kd.C k51 w A0 l0.length l0) (hc0 : l0.length ≤ c0) (hr1 : Kd.C k51 w A1 l1.length l1) (hc1 : l1.length ≤ c1) (h : tendrilplain_Attrs.f k l0 l1 = some r) :
    Calls Tryd.prog 33 #[.slice A0 l0.length c0, .slice A1 l1.length c1] w fun e w' => e = .returned (.bool r) ∧ Drawn0 w w' := by
  have hu51 := Tryd.underlying51
  have HR0 := Aside0.mk hr0
  have HC0 := Aside0.mk hc0
  clear hr0 hc0
  have HR1 := Aside0.mk hr1
  have HC1 := Aside0.mk hc1
  clear hr1 hc1
  have HGL := Aside0.mk hgl
  clear hgl
  have H : (if (l0.length : Int) = (l1.length : Int) then (tendrilplain_Attrs.l0 k l0 l1 (l0.length : Int) 0) else (some false)) = some r := h
  clear h
  by_cases c3 : (l0.length : Int) = (l1.length : Int)
  · rw [if_pos c3] at H
    have c3b0 : ((l0.length : Int) == (l1.length : Int)) = true := beq_iff_eq.mpr c3
    have c3b1 : ((l0.length : Int) != (l1.length : Int)) = false := bne_eq_false_iff_eq.mpr c3
    have c3b2 : (l0.length == l1.length) = true := by first | simpa using c3 | (simp at c3 ⊢; omega)
    clear c3
    have H' := Aside0.mk H
    clear H
    go_enter Tryd.func33, Tryd.ntmps33
    go_wp2
    repeat (go_quiet (fail); try go_wp2)
    go_loopg [13] k (fun kq v13 w' => ∃ (x13_1 : Int), v13 = .int .i64 x13_1 ∧ Aside0 (tendrilplain_Attrs.l0 kq l0 l1 (l0.length : Int) x13_1 = some r) ∧ Aside0 (kq ≤ k) ∧ Drawn0 w w')
    case atStart => exact ⟨(0), (by first | rfl | (simp; done) | (simp [*]; done)), H', ⟨Nat.le_refl _⟩, by repeat (first | exact Drawn0.refl _ | apply Drawn0.step)⟩
    case round =>
      clear H'
      try clear c1
      try clear p2
      try clear c3
      try clear c3b0
      try clear c3b1
      try clear c3b2
      obtain ⟨x13_1, rfl, HA, HK1, ⟨m1, rfl⟩⟩ := hrel
      cases gk with
      | zero => exact absurd HA.out (by simp [tendrilplain_Attrs.l0])
      | succ k1 =>
        have H := HA.out
        clear HA
        simp only [tendrilplain_Attrs.l0] at H
        by_cases c4 : x13_1 < (l0.length : Int)
        · rw [if_pos c4] at H
          have c4b0 : decide (x13_1 < (l0.length : Int)) = true := decide_eq_true c4
          clear c4
          by_cases c5 : 0 ≤ x13_1
          · rw [if_pos c5] at H
            have c5b0 : decide (0 ≤ x13_1) = true := decide_eq_true c5
            clear c5
            by_cases c6 : x13_1 < (l0.length : Int)
            · rw [if_pos c6] at H
              have c6b0 : decide (x13_1 < (l0.length : Int)) = true := decide_eq_true c6
              clear c6
              by_cases c7 : x13_1 < (l1.length : Int)
              · rw [if_pos c7] at H
                have c7b0 : decide (x13_1 < (l1.length : Int)) = true := decide_eq_true c7
                clear c7
                by_cases c8 : (!((((rd_T51 l0 x13_1).f0).toList) == (((rd_T51 l1 x13_1).f0).toList)) || (!((((rd_T51 l0 x13_1).f1).toList) == (((rd_T51 l1 x13_1).f1).toList)))) = true
                · rw [if_pos c8] at H
                  have c8b0 : (!((((rd_T51 l0 x13_1).f0).toList) == (((rd_T51 l1 x13_1).f0).toList)) || (!((((rd_T51 l0 x13_1).f1).toList) == (((rd_T51 l1 x13_1).f1).toList)))) = true := c8
                  clear c8
                  obtain rfl := Option.some.inj H
                  have p135 : 0 ≤ (x13_1 : Int) := of_decide_eq_true (by first | (with_reducible assumption) | assumption)
                  have q135 : x13_1 < (l0.length : Int) := of_decide_eq_true (by first | (with_reducible assumption) | assumption)
                  obtain ⟨ad135, e135, hx135_0, hx135_1⟩ := at_T51 HR0.out x13_1 p135 q135
                  cases e135
                  replace p135 := eq_true p135
                  replace q135 := eq_true q135
                  have p136 : 0 ≤ (x13_1 : Int) := of_decide_eq_true (by first | (with_reducible assumption) | assumption)
                  have q136 : x13_1 < (l1.length : Int) := of_decide_eq_true (by first | (with_reducible assumption) | assumption)
                  obtain ⟨ad136, e136, hx136_0, hx136_1⟩ := at_T51 HR1.out x13_1 p136 q136
                  cases e136
                  replace p136 := eq_true p136
                  replace q136 := eq_true q136
                  go_wp2
                  repeat (go_quiet (fail); try go_wp2)
                  go_ret
                  exact ⟨by first | rfl | (simp; done) | (simp [*]; done), by repeat (first | exact Drawn0.refl _ | apply Drawn0.step)⟩
                · rw [if_neg c8] at H
                  have c8b0 : (!((((rd_T51 l0 x13_1).f0).toList) == (((rd_T51 l1 x13_1).f0).toList)) || (!((((rd_T51 l0 x13_1).f1).toList) == (((rd_T51 l1 x13_1).f1).toList)))) = false := by simpa using c8
                  clear c8
                  have H' := Aside0.mk H
                  clear H
                  have p135 : 0 ≤ (x13_1 : Int) := of_decide_eq_true (by first | (with_reducible assumption) | assumption)
                  have q135 : x13_1 < (l0.length : Int) := of_decide_eq_true (by first | (with_reducible assumption) | assumption)
                  obtain ⟨ad135, e135, hx135_0, hx135_1⟩ := at_T51 HR0.out x13_1 p135 q135
                  cases e135
                  replace p135 := eq_true p135
                  replace q135 := eq_true q135
                  have p136 : 0 ≤ (x13_1 : Int) := of_decide_eq_true (by first | (with_reducible assumption) | assumption)
                  have q136 : x13_1 < (l1.length : Int) := of_decide_eq_true (by first | (with_reducible assumption) | assumption)
                  obtain ⟨ad136, e136, hx136_0, hx136_1⟩ := at_T51 HR1.out x13_1 p136 q136
                  cases e136
                  replace p136 := eq_true p136
                  replace q136 := eq_true q136
                  go_wp2
                  repeat (go_quiet (fail); try go_wp2)
                  go_roundg k1
                  case measure => have := HK1.out; omega
                  case rel => exact ⟨(wrap64 (x13_1 + 1)), (by first | rfl | (simp; done) | (simp [*]; done)), H', ⟨by have := HK1.out; omega⟩, by repeat (first | exact Drawn0.refl _ | apply Drawn0.step)⟩
              · rw [if_neg c7] at H
                exact absurd H (by simp)
            · rw [if_neg c6] at H
              exact absurd H (by simp)
          · rw [if_neg c5] at H
            exact absurd H (by simp)
        · rw [if_neg c4] at H
          have c4b0 : decide (x13_1 < (l0.length : Int)) = false := decide_eq_false c4
          clear c4
          obtain rfl := Option.some.inj H
          go_wp2
          repeat (go_quiet (fail); try go_wp2)
          go_ret
          exact ⟨by first | rfl | (simp; done) | (simp [*]; done), by repeat (first | exact Drawn0.refl _ | apply Drawn0.step)⟩
  · rw [if_neg c3] at H
    have c3b0 : ((l0.length : Int) == (l1.length : Int)) = false := beq_eq_false_iff_ne.mpr c3
    have c3b1 : ((l0.length : Int) != (l1.length : Int)) = true := bne_iff_ne.mpr c3
    have c3b2 : (l0.length == l1.length) = false := by first | simpa using c3 | (simp at c3 ⊢; omega)
    obtain rfl := Option.some.inj H
    go_enter Tryd.func33, Tryd.ntmps33
    go_wp2
    repeat (go_quiet (fail); try go_wp2)
    go_ret
    exact ⟨by first | rfl | (simp; done) | (simp [*]; done), by repeat (first | exact Drawn0.refl _ | apply Drawn0.step)⟩

def tendrilplain_Op.f (k : Nat) (a0_0 : Int) (a0_1 : Int) (a0_2 : Int) (a0_3 : Int) (a0_4 : ByteArray) (a0_5 : ByteArray) (a0_6 : ByteArray) (a0_7 : ByteArray) (l0_8 : List (S51)) (a1_0 : Int) (a1_1 : Int) (a1_2 : Int) (a1_3 : Int) (a1_4 : ByteArray) (a1_5 : ByteArray) (a1_6 : ByteArray) (a1_7 : ByteArray) (l1_8 : List (S51)) : Option (Bool) := if a0_0 = a1_0 then (if a0_1 = a1_1 then (if a0_2 = a1_2 then (if a0_3 = a1_3 then (if a0_4.toList = a1_4.toList then (if a0_5.toList = a1_5.toList then (if a0_6.toList = a1_6.toList then (if a0_7.toList = a1_7.toList then ((tendrilplain_Attrs.f k l0_8 l1_8).bind fun t139 => (some t139)) else (some false)) else (some false)) else (some false)) else (some false)) else (some false)) else (some false)) else (some false)) else (some false)
theorem tendrilplain_Op.mono : ∀ a0 a1 a2 a3 a4 a5 a6 a7 a8 a9 a10 a11 a12 a13 a14 a15 a16 a17 k, LeO (tendrilplain_Op.f k a0 a1 a2 a3 a4 a5 a6 a7 a8 a9 a10 a11 a12 a13 a14 a15 a16 a17) (tendrilplain_Op.f (k + 1) a0 a1 a2 a3 a4 a5 a6 a7 a8 a9 a10 a11 a12 a13 a14 a15 a16 a17) := by
  intro a0 a1 a2 a3 a4 a5 a6 a7 a8 a9 a10 a11 a12 a13 a14 a15 a16 a17 k
  unfold tendrilplain_Op.f
  repeat' first
      | (with_reducible exact tendrilplain_Attrs.mono _ _ _)
      | (with_reducible exact LeO.refl _)
      | (with_reducible exact LeO.none _)
      | (with_reducible refine LeO.ite ?_ ?_)
      | (with_reducible refine LeO.bind ?_ (fun _ => ?_))
      | exact tendrilplain_Attrs.mono _ _ _
      | exact LeO.none _
      | refine LeO.ite ?_ ?_
      | refine LeO.bind ?_ (fun _ => ?_)
set_option maxHeartbeats 8000000 in
set_option maxRecDepth 100000 in
theorem tendrilplain_Op.calls (k : Nat) (a0_0 : Int) (a0_1 : Int) (a0_2 : Int) (a0_3 : Int) (a0_4 : ByteArray) (a0_5 : ByteArray) (a0_6 : ByteArray) (a0_7 : ByteArray) (A0_8 : Option Addr) (c0_8 : Nat) (l0_8 : List (S51)) (a1_0 : Int) (a1_1 : Int) (a1_2 : Int) (a1_3 : Int) (a1_4 : ByteArray) (a1_5 : ByteArray) (a1_6 : ByteArray) (a1_7 : ByteArray) (A1_8 : Option Addr) (c1_8 : Nat) (l1_8 : List (S51)) (r : Bool) (w : World) (hgl : Go.Proofs.YtgdemingopcgaaaDoorX.GL w) (hr0_8 : Kd.C k51 w A0_8 l0_8.length l0_8) (hc0_8 : l0_8.length ≤ c0_8) (hr1_8 : Kd.C k51 w A1_8 l1_8.length l1_8) (hc1_8 : l1_8.length ≤ c1_8) (h : tendrilplain_Op.f k a0_0 a0_1 a0_2 a0_3 a0_4 a0_5 a0_6 a0_7 l0_8 a1_0 a1_1 a1_2 a1_3 a1_4 a1_5 a1_6 a1_7 l1_8 = some r) :
    Calls Tryd.prog 12 #[.agg #[.int .i64 a0_0, .int .i64 a0_1, .int .i64 a0_2, .int .i64 a0_3, .string a0_4, .string a0_5, .string a0_6, .string a0_7, .slice A0_8 l0_8.length c0_8], .agg #[.int .i64 a1_0, .int .i64 a1_1, .int .i64 a1_2, .int .i64 a1_3, .string a1_4, .string a1_5, .string a1_6, .string a1_7, .slice A1_8 l1_8.length c1_8]] w fun e w' => e = .returned (.bool r) ∧ Below w.heap.size w w' := by
  have hu24 := Tryd.underlying24
  have HR0_8 := Aside0.mk hr0_8
  have HC0_8 := Aside0.mk hc0_8
  clear hr0_8 hc0_8
  have HR1_8 := Aside0.mk hr1_8
  have HC1_8 := Aside0.mk hc1_8
  clear hr1_8 hc1_8
  have HGL := Aside0.mk hgl
  clear hgl
  have HB := Aside0.mk (Below.refl w.heap.size w)
  have H : (if a0_0 = a1_0 then (if a0_1 = a1_1 then (if a0_2 = a1_2 then (if a0_3 = a1_3 then (if a0_4.toList = a1_4.toList then (if a0_5.toList = a1_5.toList then (if a0_6.toList = a1_6.toList then (if a0_7.toList = a1_7.toList then ((tendrilplain_Attrs.f k l0_8 l1_8).bind fun t139 => (some t139)) else (some false)) else (some false)) else (some false)) else (some false)) else (some false)) else (some false)) else (some false)) else (some false)) = some r := h
  clear h
  by_cases c3 : a0_0 = a1_0
  · rw [if_pos c3] at H
    have c3b0 : (a0_0 == a1_0) = true := beq_iff_eq.mpr c3
    have c3b1 : (a0_0 != a1_0) = false := bne_eq_false_iff_eq.mpr c3
    clear c3
    by_cases c4 : a0_1 = a1_1
    · rw [if_pos c4] at H
      have c4b0 : (a0_1 == a1_1) = true := beq_iff_eq.mpr c4
      have c4b1 : (a0_1 != a1_1) = false := bne_eq_false_iff_eq.mpr c4
      clear c4
      by_cases c5 : a0_2 = a1_2
      · rw [if_pos c5] at H
        have c5b0 : (a0_2 == a1_2) = true := beq_iff_eq.mpr c5
        have c5b1 : (a0_2 != a1_2) = false := bne_eq_false_iff_eq.mpr c5
        clear c5
        by_cases c6 : a0_3 = a1_3
        · rw [if_pos c6] at H
          have c6b0 : (a0_3 == a1_3) = true := beq_iff_eq.mpr c6
          have c6b1 : (a0_3 != a1_3) = false := bne_eq_false_iff_eq.mpr c6
          clear c6
          by_cases c7 : a0_4.toList = a1_4.toList
          · rw [if_pos c7] at H
            have c7b0 : (a0_4.toList == a1_4.toList) = true := beq_iff_eq.mpr c7
            have c7b1 : (a0_4.toList != a1_4.toList) = false := bne_eq_false_iff_eq.mpr c7
            clear c7
            by_cases c8 : a0_5.toList = a1_5.toList
            · rw [if_pos c8] at H
              have c8b0 : (a0_5.toList == a1_5.toList) = true := beq_iff_eq.mpr c8
              have c8b1 : (a0_5.toList != a1_5.toList) = false := bne_eq_false_iff_eq.mpr c8
              clear c8
              by_cases c9 : a0_6.toList = a1_6.toList
              · rw [if_pos c9] at H
                have c9b0 : (a0_6.toList == a1_6.toList) = true := beq_iff_eq.mpr c9
                have c9b1 : (a0_6.toList != a1_6.toList) = false := bne_eq_false_iff_eq.mpr c9
                clear c9
                by_cases c10 : a0_7.toList = a1_7.toList
                · rw [if_pos c10] at H
                  have c10b0 : (a0_7.toList == a1_7.toList) = true := beq_iff_eq.mpr c10
                  have c10b1 : (a0_7.toList != a1_7.toList) = false := bne_eq_false_iff_eq.mpr c10
                  clear c10
                  replace H := Option.bind_eq_some_iff.mp H
                  obtain ⟨t139, A110, H⟩ := H
                  replace H : (some t139) = some r := H
                  have A11 := Aside0.mk A110
                  clear A110
                  obtain rfl := Option.some.inj H
                  go_enter Tryd.func12, Tryd.ntmps12
                  go_wp2_with (first | ((with_reducible refine gate_dst (N := 2) rfl ?_); refine box_event ?hg (N := 2) ?hd (cs := #[.int .i64 a0_0, .int .i64 a0_1, .int .i64 a0_2, .int .i64 a0_3, .string a0_4, .string a0_5, .string a0_6, .string a0_7, .slice A0_8 l0_8.length c0_8]) (t := 24) ?hr ?_; (case hd => rfl); (case hg => rfl); (case hr => first | (go_simp; done) | (go_simp; rfl)); intro gb137 hg w12 hbox hb; have n0_ := Aside0.mk (below_step (by repeat (first | (with_reducible first | exact HB.out | apply below_alloc | apply pw_below_drewN | apply below_drew1) | exact HB.out)) hb); have n1_ := Aside0.mk (hbox); have n2_ := Aside0.mk ((by rw [hg]; exact (below_size (by repeat (first | (with_reducible first | exact HB.out | apply below_alloc | apply pw_below_drewN | apply below_drew1) | exact HB.out))) : w.heap.size ≤ gb137)); have n3_ := Aside0.mk ((by rw [hg]; exact (below_size (by repeat (first | (with_reducible first | exact HB.out | apply below_alloc | apply pw_below_drewN | apply below_drew1) | exact HB.out))) : w.heap.size ≤ gb137)); clear HB; have HB := n0_; have BK137 := n1_; have GW137 := n2_; have GE137 := n3_; clear n0_ n1_ n2_ n3_; clear hb hbox hg) | ((with_reducible refine gate_dst (N := 3) rfl ?_); refine box_event ?hg (N := 3) ?hd (cs := #[.int .i64 a1_0, .int .i64 a1_1, .int .i64 a1_2, .int .i64 a1_3, .string a1_4, .string a1_5, .string a1_6, .string a1_7, .slice A1_8 l1_8.length c1_8]) (t := 24) ?hr ?_; (case hd => rfl); (case hg => rfl); (case hr => first | (go_simp; done) | (go_simp; rfl)); intro gb138 hg w13 hbox hb; have n0_ := Aside0.mk (blk_below (g := gb137) (o := .cells #[.int .i64 a0_0, .int .i64 a0_1, .int .i64 a0_2, .int .i64 a0_3, .string a0_4, .string a0_5, .string a0_6, .string a0_7, .slice A0_8 l0_8.length c0_8] 24 (0, 0)) (by (with_reducible repeat (first | refine blk_drewN ?_ _ | refine blk_drew ?_ | refine blk_alloc ?_ _)); exact BK137.out) hb); have n1_ := Aside0.mk (below_step (by repeat (first | (with_reducible first | exact HB.out | apply below_alloc | apply pw_below_drewN | apply below_drew1 | refine below_set ?_ GE137.out) | exact HB.out)) hb); have n2_ := Aside0.mk (hbox); have n3_ := Aside0.mk ((by rw [hg]; exact (below_size (by repeat (first | (with_reducible first | exact HB.out | apply below_alloc | apply pw_below_drewN | apply below_drew1 | refine below_set ?_ GE137.out) | exact HB.out))) : w.heap.size ≤ gb138)); have n4_ := Aside0.mk ((by rw [hg]; exact (below_size (by repeat (first | (with_reducible first | exact HB.out | apply below_alloc | apply pw_below_drewN | apply below_drew1 | refine below_set ?_ GE137.out) | exact HB.out))) : w.heap.size ≤ gb138)); have n5_ := Aside0.mk ((by rw [hg]; exact Nat.ne_of_lt (blk_lt (g := gb137) (o := .cells #[.int .i64 a0_0, .int .i64 a0_1, .int .i64 a0_2, .int .i64 a0_3, .string a0_4, .string a0_5, .string a0_6, .string a0_7, .slice A0_8 l0_8.length c0_8] 24 (0, 0)) (by (with_reducible repeat (first | refine blk_drewN ?_ _ | refine blk_drew ?_ | refine blk_alloc ?_ _)); exact BK137.out)) : gb137 ≠ gb138)); have n6_ := Aside0.mk ((by rw [hg]; exact Nat.ne_of_gt (blk_lt (g := gb137) (o := .cells #[.int .i64 a0_0, .int .i64 a0_1, .int .i64 a0_2, .int .i64 a0_3, .string a0_4, .string a0_5, .string a0_6, .string a0_7, .slice A0_8 l0_8.length c0_8] 24 (0, 0)) (by (with_reducible repeat (first | refine blk_drewN ?_ _ | refine blk_drew ?_ | refine blk_alloc ?_ _)); exact BK137.out)) : gb138 ≠ gb137)); clear BK137; clear HB; have BK137 := n0_; have HB := n1_; have BK138 := n2_; have GW138 := n3_; have GE138 := n4_; have NB137_138 := n5_; have NB138_137 := n6_; clear n0_ n1_ n2_ n3_ n4_ n5_ n6_; clear hb hbox hg; have hnb14 := NB137_138.out; have hnc14 := NB138_137.out; have hcz15_0 : w13.cell? ⟨gb137, 0, none⟩ = some (.int .i64 a0_0) := (blk_cell BK137.out 0).trans rfl; have hcz15_1 : w13.cell? ⟨gb137, 1, none⟩ = some (.int .i64 a0_1) := (blk_cell BK137.out 1).trans rfl; have hcz15_2 : w13.cell? ⟨gb137, 2, none⟩ = some (.int .i64 a0_2) := (blk_cell BK137.out 2).trans rfl; have hcz15_3 : w13.cell? ⟨gb137, 3, none⟩ = some (.int .i64 a0_3) := (blk_cell BK137.out 3).trans rfl; have hcz15_4 : w13.cell? ⟨gb137, 4, none⟩ = some (.string a0_4) := (blk_cell BK137.out 4).trans rfl; have hcz15_5 : w13.cell? ⟨gb137, 5, none⟩ = some (.string a0_5) := (blk_cell BK137.out 5).trans rfl; have hcz15_6 : w13.cell? ⟨gb137, 6, none⟩ = some (.string a0_6) := (blk_cell BK137.out 6).trans rfl; have hcz15_7 : w13.cell? ⟨gb137, 7, none⟩ = some (.string a0_7) := (blk_cell BK137.out 7).trans rfl; have hcz15_8 : w13.cell? ⟨gb137, 8, none⟩ = some (.slice A0_8 l0_8.length c0_8) := (blk_cell BK137.out 8).trans rfl; have hfz15_0 := blk_frozen BK137.out 0; have hfz15_1 := blk_frozen BK137.out 1; have hfz15_2 := blk_frozen BK137.out 2; have hfz15_3 := blk_frozen BK137.out 3; have hfz15_4 := blk_frozen BK137.out 4; have hfz15_5 := blk_frozen BK137.out 5; have hfz15_6 := blk_frozen BK137.out 6; have hfz15_7 := blk_frozen BK137.out 7; have hfz15_8 := blk_frozen BK137.out 8; have hcz16_0 : w13.cell? ⟨gb138, 0, none⟩ = some (.int .i64 a1_0) := (blk_cell BK138.out 0).trans rfl; have hcz16_1 : w13.cell? ⟨gb138, 1, none⟩ = some (.int .i64 a1_1) := (blk_cell BK138.out 1).trans rfl; have hcz16_2 : w13.cell? ⟨gb138, 2, none⟩ = some (.int .i64 a1_2) := (blk_cell BK138.out 2).trans rfl; have hcz16_3 : w13.cell? ⟨gb138, 3, none⟩ = some (.int .i64 a1_3) := (blk_cell BK138.out 3).trans rfl; have hcz16_4 : w13.cell? ⟨gb138, 4, none⟩ = some (.string a1_4) := (blk_cell BK138.out 4).trans rfl; have hcz16_5 : w13.cell? ⟨gb138, 5, none⟩ = some (.string a1_5) := (blk_cell BK138.out 5).trans rfl; have hcz16_6 : w13.cell? ⟨gb138, 6, none⟩ = some (.string a1_6) := (blk_cell BK138.out 6).trans rfl; have hcz16_7 : w13.cell? ⟨gb138, 7, none⟩ = some (.string a1_7) := (blk_cell BK138.out 7).trans rfl; have hcz16_8 : w13.cell? ⟨gb138, 8, none⟩ = some (.slice A1_8 l1_8.length c1_8) := (blk_cell BK138.out 8).trans rfl; have hfz16_0 := blk_frozen BK138.out 0; have hfz16_1 := blk_frozen BK138.out 1; have hfz16_2 := blk_frozen BK138.out 2; have hfz16_3 := blk_frozen BK138.out 3; have hfz16_4 := blk_frozen BK138.out 4; have hfz16_5 := blk_frozen BK138.out 5; have hfz16_6 := blk_frozen BK138.out 6; have hfz16_7 := blk_frozen BK138.out 7; have hfz16_8 := blk_frozen BK138.out 8) | (go_at_call 33; (with_reducible refine (tendrilplain_Attrs.calls k _ _ l0_8 _ _ l1_8 t139 _ ?side1 ?side2 ?side3 ?side4 ?side5 A11.out).mono ?_); (case side1 => first | exact HGL.out | exact (Go.Proofs.YtgdemingopcgaaaDoorX.GL.below HGL.out (by repeat (first | (with_reducible first | exact HB.out | apply below_alloc | apply pw_below_drewN | apply below_drew1 | refine below_set ?_ GE137.out | refine below_set ?_ GE138.out) | exact HB.out))) | (repeat (first | exact HGL.out | (with_reducible refine Go.Proofs.YtgdemingopcgaaaDoorX.GL.drewN ?_ _) | (with_reducible refine Go.Proofs.YtgdemingopcgaaaDoorX.GL.drew ?_)))); (case side2 => repeat (first | exact (Kd.C_below HR0_8.out HB.out) | (with_reducible refine Kd.C_alloc ?_ _) | (with_reducible refine Kd.C_drewN ?_ _) | (with_reducible refine Kd.C_drew ?_))); (case side3 => exact HC0_8.out); (case side4 => repeat (first | exact (Kd.C_below HR1_8.out HB.out) | (with_reducible refine Kd.C_alloc ?_ _) | (with_reducible refine Kd.C_drewN ?_ _) | (with_reducible refine Kd.C_drew ?_))); (case side5 => exact HC1_8.out); rintro e w' ⟨rfl, ⟨nd, rfl⟩⟩))
                  go_ret
                  exact ⟨by first | rfl | (simp [errW_none, errW_some] <;> first | rfl | exact emp_bne _ | exact (emp_bne _).symm | exact emp_bne' _ | exact (emp_bne' _).symm) | (simp [*, errW_none, errW_some] <;> rfl), by repeat (first | (with_reducible first | exact HB.out | apply below_alloc | apply pw_below_drewN | apply below_drew1 | refine below_set ?_ GE137.out | refine below_set ?_ GE138.out) | exact HB.out)⟩
                · rw [if_neg c10] at H
                  have c10b0 : (a0_7.toList == a1_7.toList) = false := beq_eq_false_iff_ne.mpr c10
                  have c10b1 : (a0_7.toList != a1_7.toList) = true := bne_iff_ne.mpr c10
                  obtain rfl := Option.some.inj H
                  go_enter Tryd.func12, Tryd.ntmps12
                  go_wp2_with (first | ((with_reducible refine gate_dst (N := 2) rfl ?_); refine box_event ?hg (N := 2) ?hd (cs := #[.int .i64 a0_0, .int .i64 a0_1, .int .i64 a0_2, .int .i64 a0_3, .string a0_4, .string a0_5, .string a0_6, .string a0_7, .slice A0_8 l0_8.length c0_8]) (t := 24) ?hr ?_; (case hd => rfl); (case hg => rfl); (case hr => first | (go_simp; done) | (go_simp; rfl)); intro gb137 hg w17 hbox hb; have n0_ := Aside0.mk (below_step (by repeat (first | (with_reducible first | exact HB.out | apply below_alloc | apply pw_below_drewN | apply below_drew1) | exact HB.out)) hb); have n1_ := Aside0.mk (hbox); have n2_ := Aside0.mk ((by rw [hg]; exact (below_size (by repeat (first | (with_reducible first | exact HB.out | apply below_alloc | apply pw_below_drewN | apply below_drew1) | exact HB.out))) : w.heap.size ≤ gb137)); have n3_ := Aside0.mk ((by rw [hg]; exact (below_size (by repeat (first | (with_reducible first | exact HB.out | apply below_alloc | apply pw_below_drewN | apply below_drew1) | exact HB.out))) : w.heap.size ≤ gb137)); clear HB; have HB := n0_; have BK137 := n1_; have GW137 := n2_; have GE137 := n3_; clear n0_ n1_ n2_ n3_; clear hb hbox hg) | ((with_reducible refine gate_dst (N := 3) rfl ?_); refine box_event ?hg (N := 3) ?hd (cs := #[.int .i64 a1_0, .int .i64 a1_1, .int .i64 a1_2, .int .i64 a1_3, .string a1_4, .string a1_5, .string a1_6, .string a1_7, .slice A1_8 l1_8.length c1_8]) (t := 24) ?hr ?_; (case hd => rfl); (case hg => rfl); (case hr => first | (go_simp; done) | (go_simp; rfl)); intro gb138 hg w18 hbox hb; have n0_ := Aside0.mk (blk_below (g := gb137) (o := .cells #[.int .i64 a0_0, .int .i64 a0_1, .int .i64 a0_2, .int .i64 a0_3, .string a0_4, .string a0_5, .string a0_6, .string a0_7, .slice A0_8 l0_8.length c0_8] 24 (0, 0)) (by (with_reducible repeat (first | refine blk_drewN ?_ _ | refine blk_drew ?_ | refine blk_alloc ?_ _)); exact BK137.out) hb); have n1_ := Aside0.mk (below_step (by repeat (first | (with_reducible first | exact HB.out | apply below_alloc | apply pw_below_drewN | apply below_drew1 | refine below_set ?_ GE137.out) | exact HB.out)) hb); have n2_ := Aside0.mk (hbox); have n3_ := Aside0.mk ((by rw [hg]; exact (below_size (by repeat (first | (with_reducible first | exact HB.out | apply below_alloc | apply pw_below_drewN | apply below_drew1 | refine below_set ?_ GE137.out) | exact HB.out))) : w.heap.size ≤ gb138)); have n4_ := Aside0.mk ((by rw [hg]; exact (below_size (by repeat (first | (with_reducible first | exact HB.out | apply below_alloc | apply pw_below_drewN | apply below_drew1 | refine below_set ?_ GE137.out) | exact HB.out))) : w.heap.size ≤ gb138)); have n5_ := Aside0.mk ((by rw [hg]; exact Nat.ne_of_lt (blk_lt (g := gb137) (o := .cells #[.int .i64 a0_0, .int .i64 a0_1, .int .i64 a0_2, .int .i64 a0_3, .string a0_4, .string a0_5, .string a0_6, .string a0_7, .slice A0_8 l0_8.length c0_8] 24 (0, 0)) (by (with_reducible repeat (first | refine blk_drewN ?_ _ | refine blk_drew ?_ | refine blk_alloc ?_ _)); exact BK137.out)) : gb137 ≠ gb138)); have n6_ := Aside0.mk ((by rw [hg]; exact Nat.ne_of_gt (blk_lt (g := gb137) (o := .cells #[.int .i64 a0_0, .int .i64 a0_1, .int .i64 a0_2, .int .i64 a0_3, .string a0_4, .string a0_5, .string a0_6, .string a0_7, .slice A0_8 l0_8.length c0_8] 24 (0, 0)) (by (with_reducible repeat (first | refine blk_drewN ?_ _ | refine blk_drew ?_ | refine blk_alloc ?_ _)); exact BK137.out)) : gb138 ≠ gb137)); clear BK137; clear HB; have BK137 := n0_; have HB := n1_; have BK138 := n2_; have GW138 := n3_; have GE138 := n4_; have NB137_138 := n5_; have NB138_137 := n6_; clear n0_ n1_ n2_ n3_ n4_ n5_ n6_; clear hb hbox hg; have hnb19 := NB137_138.out; have hnc19 := NB138_137.out; have hcz20_0 : w18.cell? ⟨gb137, 0, none⟩ = some (.int .i64 a0_0) := (blk_cell BK137.out 0).trans rfl; have hcz20_1 : w18.cell? ⟨gb137, 1, none⟩ = some (.int .i64 a0_1) := (blk_cell BK137.out 1).trans rfl; have hcz20_2 : w18.cell? ⟨gb137, 2, none⟩ = some (.int .i64 a0_2) := (blk_cell BK137.out 2).trans rfl; have hcz20_3 : w18.cell? ⟨gb137, 3, none⟩ = some (.int .i64 a0_3) := (blk_cell BK137.out 3).trans rfl; have hcz20_4 : w18.cell? ⟨gb137, 4, none⟩ = some (.string a0_4) := (blk_cell BK137.out 4).trans rfl; have hcz20_5 : w18.cell? ⟨gb137, 5, none⟩ = some (.string a0_5) := (blk_cell BK137.out 5).trans rfl; have hcz20_6 : w18.cell? ⟨gb137, 6, none⟩ = some (.string a0_6) := (blk_cell BK137.out 6).trans rfl; have hcz20_7 : w18.cell? ⟨gb137, 7, none⟩ = some (.string a0_7) := (blk_cell BK137.out 7).trans rfl; have hcz20_8 : w18.cell? ⟨gb137, 8, none⟩ = some (.slice A0_8 l0_8.length c0_8) := (blk_cell BK137.out 8).trans rfl; have hfz20_0 := blk_frozen BK137.out 0; have hfz20_1 := blk_frozen BK137.out 1; have hfz20_2 := blk_frozen BK137.out 2; have hfz20_3 := blk_frozen BK137.out 3; have hfz20_4 := blk_frozen BK137.out 4; have hfz20_5 := blk_frozen BK137.out 5; have hfz20_6 := blk_frozen BK137.out 6; have hfz20_7 := blk_frozen BK137.out 7; have hfz20_8 := blk_frozen BK137.out 8; have hcz21_0 : w18.cell? ⟨gb138, 0, none⟩ = some (.int .i64 a1_0) := (blk_cell BK138.out 0).trans rfl; have hcz21_1 : w18.cell? ⟨gb138, 1, none⟩ = some (.int .i64 a1_1) := (blk_cell BK138.out 1).trans rfl; have hcz21_2 : w18.cell? ⟨gb138, 2, none⟩ = some (.int .i64 a1_2) := (blk_cell BK138.out 2).trans rfl; have hcz21_3 : w18.cell? ⟨gb138, 3, none⟩ = some (.int .i64 a1_3) := (blk_cell BK138.out 3).trans rfl; have hcz21_4 : w18.cell? ⟨gb138, 4, none⟩ = some (.string a1_4) := (blk_cell BK138.out 4).trans rfl; have hcz21_5 : w18.cell? ⟨gb138, 5, none⟩ = some (.string a1_5) := (blk_cell BK138.out 5).trans rfl; have hcz21_6 : w18.cell? ⟨gb138, 6, none⟩ = some (.string a1_6) := (blk_cell BK138.out 6).trans rfl; have hcz21_7 : w18.cell? ⟨gb138, 7, none⟩ = some (.string a1_7) := (blk_cell BK138.out 7).trans rfl; have hcz21_8 : w18.cell? ⟨gb138, 8, none⟩ = some (.slice A1_8 l1_8.length c1_8) := (blk_cell BK138.out 8).trans rfl; have hfz21_0 := blk_frozen BK138.out 0; have hfz21_1 := blk_frozen BK138.out 1; have hfz21_2 := blk_frozen BK138.out 2; have hfz21_3 := blk_frozen BK138.out 3; have hfz21_4 := blk_frozen BK138.out 4; have hfz21_5 := blk_frozen BK138.out 5; have hfz21_6 := blk_frozen BK138.out 6; have hfz21_7 := blk_frozen BK138.out 7; have hfz21_8 := blk_frozen BK138.out 8))
                  go_ret
                  exact ⟨by first | rfl | (simp [errW_none, errW_some] <;> first | rfl | exact emp_bne _ | exact (emp_bne _).symm | exact emp_bne' _ | exact (emp_bne' _).symm) | (simp [*, errW_none, errW_some] <;> rfl), by repeat (first | (with_reducible first | exact HB.out | apply below_alloc | apply pw_below_drewN | apply below_drew1 | refine below_set ?_ GE137.out | refine below_set ?_ GE138.out) | exact HB.out)⟩
              · rw [if_neg c9] at H
                have c9b0 : (a0_6.toList == a1_6.toList) = false := beq_eq_false_iff_ne.mpr c9
                have c9b1 : (a0_6.toList != a1_6.toList) = true := bne_iff_ne.mpr c9
                obtain rfl := Option.some.inj H
                go_enter Tryd.func12, Tryd.ntmps12
                go_wp2_with (first | ((with_reducible refine gate_dst (N := 2) rfl ?_); refine box_event ?hg (N := 2) ?hd (cs := #[.int .i64 a0_0, .int .i64 a0_1, .int .i64 a0_2, .int .i64 a0_3, .string a0_4, .string a0_5, .string a0_6, .string a0_7, .slice A0_8 l0_8.length c0_8]) (t := 24) ?hr ?_; (case hd => rfl); (case hg => rfl); (case hr => first | (go_simp; done) | (go_simp; rfl)); intro gb137 hg w22 hbox hb; have n0_ := Aside0.mk (below_step (by repeat (first | (with_reducible first | exact HB.out | apply below_alloc | apply pw_below_drewN | apply below_drew1) | exact HB.out)) hb); have n1_ := Aside0.mk (hbox); have n2_ := Aside0.mk ((by rw [hg]; exact (below_size (by repeat (first | (with_reducible first | exact HB.out | apply below_alloc | apply pw_below_drewN | apply below_drew1) | exact HB.out))) : w.heap.size ≤ gb137)); have n3_ := Aside0.mk ((by rw [hg]; exact (below_size (by repeat (first | (with_reducible first | exact HB.out | apply below_alloc | apply pw_below_drewN | apply below_drew1) | exact HB.out))) : w.heap.size ≤ gb137)); clear HB; have HB := n0_; have BK137 := n1_; have GW137 := n2_; have GE137 := n3_; clear n0_ n1_ n2_ n3_; clear hb hbox hg) | ((with_reducible refine gate_dst (N := 3) rfl ?_); refine box_event ?hg (N := 3) ?hd (cs := #[.int .i64 a1_0, .int .i64 a1_1, .int .i64 a1_2, .int .i64 a1_3, .string a1_4, .string a1_5, .string a1_6, .string a1_7, .slice A1_8 l1_8.length c1_8]) (t := 24) ?hr ?_; (case hd => rfl); (case hg => rfl); (case hr => first | (go_simp; done) | (go_simp; rfl)); intro gb138 hg w23 hbox hb; have n0_ := Aside0.mk (blk_below (g := gb137) (o := .cells #[.int .i64 a0_0, .int .i64 a0_1, .int .i64 a0_2, .int .i64 a0_3, .string a0_4, .string a0_5, .string a0_6, .string a0_7, .slice A0_8 l0_8.length c0_8] 24 (0, 0)) (by (with_reducible repeat (first | refine blk_drewN ?_ _ | refine blk_drew ?_ | refine blk_alloc ?_ _)); exact BK137.out) hb); have n1_ := Aside0.mk (below_step (by repeat (first | (with_reducible first | exact HB.out | apply below_alloc | apply pw_below_drewN | apply below_drew1 | refine below_set ?_ GE137.out) | exact HB.out)) hb); have n2_ := Aside0.mk (hbox); have n3_ := Aside0.mk ((by rw [hg]; exact (below_size (by repeat (first | (with_reducible first | exact HB.out | apply below_alloc | apply pw_below_drewN | apply below_drew1 | refine below_set ?_ GE137.out) | exact HB.out))) : w.heap.size ≤ gb138)); have n4_ := Aside0.mk ((by rw [hg]; exact (below_size (by repeat (first | (with_reducible first | exact HB.out | apply below_alloc | apply pw_below_drewN | apply below_drew1 | refine below_set ?_ GE137.out) | exact HB.out))) : w.heap.size ≤ gb138)); have n5_ := Aside0.mk ((by rw [hg]; exact Nat.ne_of_lt (blk_lt (g := gb137) (o := .cells #[.int .i64 a0_0, .int .i64 a0_1, .int .i64 a0_2, .int .i64 a0_3, .string a0_4, .string a0_5, .string a0_6, .string a0_7, .slice A0_8 l0_8.length c0_8] 24 (0, 0)) (by (with_reducible repeat (first | refine blk_drewN ?_ _ | refine blk_drew ?_ | refine blk_alloc ?_ _)); exact BK137.out)) : gb137 ≠ gb138)); have n6_ := Aside0.mk ((by rw [hg]; exact Nat.ne_of_gt (blk_lt (g := gb137) (o := .cells #[.int .i64 a0_0, .int .i64 a0_1, .int .i64 a0_2, .int .i64 a0_3, .string a0_4, .string a0_5, .string a0_6, .string a0_7, .slice A0_8 l0_8.length c0_8] 24 (0, 0)) (by (with_reducible repeat (first | refine blk_drewN ?_ _ | refine blk_drew ?_ | refine blk_alloc ?_ _)); exact BK137.out)) : gb138 ≠ gb137)); clear BK137; clear HB; have BK137 := n0_; have HB := n1_; have BK138 := n2_; have GW138 := n3_; have GE138 := n4_; have NB137_138 := n5_; have NB138_137 := n6_; clear n0_ n1_ n2_ n3_ n4_ n5_ n6_; clear hb hbox hg; have hnb24 := NB137_138.out; have hnc24 := NB138_137.out; have hcz25_0 : w23.cell? ⟨gb137, 0, none⟩ = some (.int .i64 a0_0) := (blk_cell BK137.out 0).trans rfl; have hcz25_1 : w23.cell? ⟨gb137, 1, none⟩ = some (.int .i64 a0_1) := (blk_cell BK137.out 1).trans rfl; have hcz25_2 : w23.cell? ⟨gb137, 2, none⟩ = some (.int .i64 a0_2) := (blk_cell BK137.out 2).trans rfl; have hcz25_3 : w23.cell? ⟨gb137, 3, none⟩ = some (.int .i64 a0_3) := (blk_cell BK137.out 3).trans rfl; have hcz25_4 : w23.cell? ⟨gb137, 4, none⟩ = some (.string a0_4) := (blk_cell BK137.out 4).trans rfl; have hcz25_5 : w23.cell? ⟨gb137, 5, none⟩ = some (.string a0_5) := (blk_cell BK137.out 5).trans rfl; have hcz25_6 : w23.cell? ⟨gb137, 6, none⟩ = some (.string a0_6) := (blk_cell BK137.out 6).trans rfl; have hcz25_7 : w23.cell? ⟨gb137, 7, none⟩ = some (.string a0_7) := (blk_cell BK137.out 7).trans rfl; have hcz25_8 : w23.cell? ⟨gb137, 8, none⟩ = some (.slice A0_8 l0_8.length c0_8) := (blk_cell BK137.out 8).trans rfl; have hfz25_0 := blk_frozen BK137.out 0; have hfz25_1 := blk_frozen BK137.out 1; have hfz25_2 := blk_frozen BK137.out 2; have hfz25_3 := blk_frozen BK137.out 3; have hfz25_4 := blk_frozen BK137.out 4; have hfz25_5 := blk_frozen BK137.out 5; have hfz25_6 := blk_frozen BK137.out 6; have hfz25_7 := blk_frozen BK137.out 7; have hfz25_8 := blk_frozen BK137.out 8; have hcz26_0 : w23.cell? ⟨gb138, 0, none⟩ = some (.int .i64 a1_0) := (blk_cell BK138.out 0).trans rfl; have hcz26_1 : w23.cell? ⟨gb138, 1, none⟩ = some (.int .i64 a1_1) := (blk_cell BK138.out 1).trans rfl; have hcz26_2 : w23.cell? ⟨gb138, 2, none⟩ = some (.int .i64 a1_2) := (blk_cell BK138.out 2).trans rfl; have hcz26_3 : w23.cell? ⟨gb138, 3, none⟩ = some (.int .i64 a1_3) := (blk_cell BK138.out 3).trans rfl; have hcz26_4 : w23.cell? ⟨gb138, 4, none⟩ = some (.string a1_4) := (blk_cell BK138.out 4).trans rfl; have hcz26_5 : w23.cell? ⟨gb138, 5, none⟩ = some (.string a1_5) := (blk_cell BK138.out 5).trans rfl; have hcz26_6 : w23.cell? ⟨gb138, 6, none⟩ = some (.string a1_6) := (blk_cell BK138.out 6).trans rfl; have hcz26_7 : w23.cell? ⟨gb138, 7, none⟩ = some (.string a1_7) := (blk_cell BK138.out 7).trans rfl; have hcz26_8 : w23.cell? ⟨gb138, 8, none⟩ = some (.slice A1_8 l1_8.length c1_8) := (blk_cell BK138.out 8).trans rfl; have hfz26_0 := blk_frozen BK138.out 0; have hfz26_1 := blk_frozen BK138.out 1; have hfz26_2 := blk_frozen BK138.out 2; have hfz26_3 := blk_frozen BK138.out 3; have hfz26_4 := blk_frozen BK138.out 4; have hfz26_5 := blk_frozen BK138.out 5; have hfz26_6 := blk_frozen BK138.out 6; have hfz26_7 := blk_frozen BK138.out 7; have hfz26_8 := blk_frozen BK138.out 8))
                go_ret
                exact ⟨by first | rfl | (simp [errW_none, errW_some] <;> first | rfl | exact emp_bne _ | exact (emp_bne _).symm | exact emp_bne' _ | exact (emp_bne' _).symm) | (simp [*, errW_none, errW_some] <;> rfl), by repeat (first | (with_reducible first | exact HB.out | apply below_alloc | apply pw_below_drewN | apply below_drew1 | refine below_set ?_ GE137.out | refine below_set ?_ GE138.out) | exact HB.out)⟩
            · rw [if_neg c8] at H
              have c8b0 : (a0_5.toList == a1_5.toList) = false := beq_eq_false_iff_ne.mpr c8
              have c8b1 : (a0_5.toList != a1_5.toList) = true := bne_iff_ne.mpr c8
              obtain rfl := Option.some.inj H
              go_enter Tryd.func12, Tryd.ntmps12
              go_wp2_with (first | ((with_reducible refine gate_dst (N := 2) rfl ?_); refine box_event ?hg (N := 2) ?hd (cs := #[.int .i64 a0_0, .int .i64 a0_1, .int .i64 a0_2, .int .i64 a0_3, .string a0_4, .string a0_5, .string a0_6, .string a0_7, .slice A0_8 l0_8.length c0_8]) (t := 24) ?hr ?_; (case hd => rfl); (case hg => rfl); (case hr => first | (go_simp; done) | (go_simp; rfl)); intro gb137 hg w27 hbox hb; have n0_ := Aside0.mk (below_step (by repeat (first | (with_reducible first | exact HB.out | apply below_alloc | apply pw_below_drewN | apply below_drew1) | exact HB.out)) hb); have n1_ := Aside0.mk (hbox); have n2_ := Aside0.mk ((by rw [hg]; exact (below_size (by repeat (first | (with_reducible first | exact HB.out | apply below_alloc | apply pw_below_drewN | apply below_drew1) | exact HB.out))) : w.heap.size ≤ gb137)); have n3_ := Aside0.mk ((by rw [hg]; exact (below_size (by repeat (first | (with_reducible first | exact HB.out | apply below_alloc | apply pw_below_drewN | apply below_drew1) | exact HB.out))) : w.heap.size ≤ gb137)); clear HB; have HB := n0_; have BK137 := n1_; have GW137 := n2_; have GE137 := n3_; clear n0_ n1_ n2_ n3_; clear hb hbox hg) | ((with_reducible refine gate_dst (N := 3) rfl ?_); refine box_event ?hg (N := 3) ?hd (cs := #[.int .i64 a1_0, .int .i64 a1_1, .int .i64 a1_2, .int .i64 a1_3, .string a1_4, .string a1_5, .string a1_6, .string a1_7, .slice A1_8 l1_8.length c1_8]) (t := 24) ?hr ?_; (case hd => rfl); (case hg => rfl); (case hr => first | (go_simp; done) | (go_simp; rfl)); intro gb138 hg w28 hbox hb; have n0_ := Aside0.mk (blk_below (g := gb137) (o := .cells #[.int .i64 a0_0, .int .i64 a0_1, .int .i64 a0_2, .int .i64 a0_3, .string a0_4, .string a0_5, .string a0_6, .string a0_7, .slice A0_8 l0_8.length c0_8] 24 (0, 0)) (by (with_reducible repeat (first | refine blk_drewN ?_ _ | refine blk_drew ?_ | refine blk_alloc ?_ _)); exact BK137.out) hb); have n1_ := Aside0.mk (below_step (by repeat (first | (with_reducible first | exact HB.out | apply below_alloc | apply pw_below_drewN | apply below_drew1 | refine below_set ?_ GE137.out) | exact HB.out)) hb); have n2_ := Aside0.mk (hbox); have n3_ := Aside0.mk ((by rw [hg]; exact (below_size (by repeat (first | (with_reducible first | exact HB.out | apply below_alloc | apply pw_below_drewN | apply below_drew1 | refine below_set ?_ GE137.out) | exact HB.out))) : w.heap.size ≤ gb138)); have n4_ := Aside0.mk ((by rw [hg]; exact (below_size (by repeat (first | (with_reducible first | exact HB.out | apply below_alloc | apply pw_below_drewN | apply below_drew1 | refine below_set ?_ GE137.out) | exact HB.out))) : w.heap.size ≤ gb138)); have n5_ := Aside0.mk ((by rw [hg]; exact Nat.ne_of_lt (blk_lt (g := gb137) (o := .cells #[.int .i64 a0_0, .int .i64 a0_1, .int .i64 a0_2, .int .i64 a0_3, .string a0_4, .string a0_5, .string a0_6, .string a0_7, .slice A0_8 l0_8.length c0_8] 24 (0, 0)) (by (with_reducible repeat (first | refine blk_drewN ?_ _ | refine blk_drew ?_ | refine blk_alloc ?_ _)); exact BK137.out)) : gb137 ≠ gb138)); have n6_ := Aside0.mk ((by rw [hg]; exact Nat.ne_of_gt (blk_lt (g := gb137) (o := .cells #[.int .i64 a0_0, .int .i64 a0_1, .int .i64 a0_2, .int .i64 a0_3, .string a0_4, .string a0_5, .string a0_6, .string a0_7, .slice A0_8 l0_8.length c0_8] 24 (0, 0)) (by (with_reducible repeat (first | refine blk_drewN ?_ _ | refine blk_drew ?_ | refine blk_alloc ?_ _)); exact BK137.out)) : gb138 ≠ gb137)); clear BK137; clear HB; have BK137 := n0_; have HB := n1_; have BK138 := n2_; have GW138 := n3_; have GE138 := n4_; have NB137_138 := n5_; have NB138_137 := n6_; clear n0_ n1_ n2_ n3_ n4_ n5_ n6_; clear hb hbox hg; have hnb29 := NB137_138.out; have hnc29 := NB138_137.out; have hcz30_0 : w28.cell? ⟨gb137, 0, none⟩ = some (.int .i64 a0_0) := (blk_cell BK137.out 0).trans rfl; have hcz30_1 : w28.cell? ⟨gb137, 1, none⟩ = some (.int .i64 a0_1) := (blk_cell BK137.out 1).trans rfl; have hcz30_2 : w28.cell? ⟨gb137, 2, none⟩ = some (.int .i64 a0_2) := (blk_cell BK137.out 2).trans rfl; have hcz30_3 : w28.cell? ⟨gb137, 3, none⟩ = some (.int .i64 a0_3) := (blk_cell BK137.out 3).trans rfl; have hcz30_4 : w28.cell? ⟨gb137, 4, none⟩ = some (.string a0_4) := (blk_cell BK137.out 4).trans rfl; have hcz30_5 : w28.cell? ⟨gb137, 5, none⟩ = some (.string a0_5) := (blk_cell BK137.out 5).trans rfl; have hcz30_6 : w28.cell? ⟨gb137, 6, none⟩ = some (.string a0_6) := (blk_cell BK137.out 6).trans rfl; have hcz30_7 : w28.cell? ⟨gb137, 7, none⟩ = some (.string a0_7) := (blk_cell BK137.out 7).trans rfl; have hcz30_8 : w28.cell? ⟨gb137, 8, none⟩ = some (.slice A0_8 l0_8.length c0_8) := (blk_cell BK137.out 8).trans rfl; have hfz30_0 := blk_frozen BK137.out 0; have hfz30_1 := blk_frozen BK137.out 1; have hfz30_2 := blk_frozen BK137.out 2; have hfz30_3 := blk_frozen BK137.out 3; have hfz30_4 := blk_frozen BK137.out 4; have hfz30_5 := blk_frozen BK137.out 5; have hfz30_6 := blk_frozen BK137.out 6; have hfz30_7 := blk_frozen BK137.out 7; have hfz30_8 := blk_frozen BK137.out 8; have hcz31_0 : w28.cell? ⟨gb138, 0, none⟩ = some (.int .i64 a1_0) := (blk_cell BK138.out 0).trans rfl; have hcz31_1 : w28.cell? ⟨gb138, 1, none⟩ = some (.int .i64 a1_1) := (blk_cell BK138.out 1).trans rfl; have hcz31_2 : w28.cell? ⟨gb138, 2, none⟩ = some (.int .i64 a1_2) := (blk_cell BK138.out 2).trans rfl; have hcz31_3 : w28.cell? ⟨gb138, 3, none⟩ = some (.int .i64 a1_3) := (blk_cell BK138.out 3).trans rfl; have hcz31_4 : w28.cell? ⟨gb138, 4, none⟩ = some (.string a1_4) := (blk_cell BK138.out 4).trans rfl; have hcz31_5 : w28.cell? ⟨gb138, 5, none⟩ = some (.string a1_5) := (blk_cell BK138.out 5).trans rfl; have hcz31_6 : w28.cell? ⟨gb138, 6, none⟩ = some (.string a1_6) := (blk_cell BK138.out 6).trans rfl; have hcz31_7 : w28.cell? ⟨gb138, 7, none⟩ = some (.string a1_7) := (blk_cell BK138.out 7).trans rfl; have hcz31_8 : w28.cell? ⟨gb138, 8, none⟩ = some (.slice A1_8 l1_8.length c1_8) := (blk_cell BK138.out 8).trans rfl; have hfz31_0 := blk_frozen BK138.out 0; have hfz31_1 := blk_frozen BK138.out 1; have hfz31_2 := blk_frozen BK138.out 2; have hfz31_3 := blk_frozen BK138.out 3; have hfz31_4 := blk_frozen BK138.out 4; have hfz31_5 := blk_frozen BK138.out 5; have hfz31_6 := blk_frozen BK138.out 6; have hfz31_7 := blk_frozen BK138.out 7; have hfz31_8 := blk_frozen BK138.out 8))
              go_ret
              exact ⟨by first | rfl | (simp [errW_none, errW_some] <;> first | rfl | exact emp_bne _ | exact (emp_bne _).symm | exact emp_bne' _ | exact (emp_bne' _).symm) | (simp [*, errW_none, errW_some] <;> rfl), by repeat (first | (with_reducible first | exact HB.out | apply below_alloc | apply pw_below_drewN | apply below_drew1 | refine below_set ?_ GE137.out | refine below_set ?_ GE138.out) | exact HB.out)⟩
          · rw [if_neg c7] at H
            have c7b0 : (a0_4.toList == a1_4.toList) = false := beq_eq_false_iff_ne.mpr c7
            have c7b1 : (a0_4.toList != a1_4.toList) = true := bne_iff_ne.mpr c7
            obtain rfl := Option.some.inj H
            go_enter Tryd.func12, Tryd.ntmps12
            go_wp2_with (first | ((with_reducible refine gate_dst (N := 2) rfl ?_); refine box_event ?hg (N := 2) ?hd (cs := #[.int .i64 a0_0, .int .i64 a0_1, .int .i64 a0_2, .int .i64 a0_3, .string a0_4, .string a0_5, .string a0_6, .string a0_7, .slice A0_8 l0_8.length c0_8]) (t := 24) ?hr ?_; (case hd => rfl); (case hg => rfl); (case hr => first | (go_simp; done) | (go_simp; rfl)); intro gb137 hg w32 hbox hb; have n0_ := Aside0.mk (below_step (by repeat (first | (with_reducible first | exact HB.out | apply below_alloc | apply pw_below_drewN | apply below_drew1) | exact HB.out)) hb); have n1_ := Aside0.mk (hbox); have n2_ := Aside0.mk ((by rw [hg]; exact (below_size (by repeat (first | (with_reducible first | exact HB.out | apply below_alloc | apply pw_below_drewN | apply below_drew1) | exact HB.out))) : w.heap.size ≤ gb137)); have n3_ := Aside0.mk ((by rw [hg]; exact (below_size (by repeat (first | (with_reducible first | exact HB.out | apply below_alloc | apply pw_below_drewN | apply below_drew1) | exact HB.out))) : w.heap.size ≤ gb137)); clear HB; have HB := n0_; have BK137 := n1_; have GW137 := n2_; have GE137 := n3_; clear n0_ n1_ n2_ n3_; clear hb hbox hg) | ((with_reducible refine gate_dst (N := 3) rfl ?_); refine box_event ?hg (N := 3) ?hd (cs := #[.int .i64 a1_0, .int .i64 a1_1, .int .i64 a1_2, .int .i64 a1_3, .string a1_4, .string a1_5, .string a1_6, .string a1_7, .slice A1_8 l1_8.length c1_8]) (t := 24) ?hr ?_; (case hd => rfl); (case hg => rfl); (case hr => first | (go_simp; done) | (go_simp; rfl)); intro gb138 hg w33 hbox hb; have n0_ := Aside0.mk (blk_below (g := gb137) (o := .cells #[.int .i64 a0_0, .int .i64 a0_1, .int .i64 a0_2, .int .i64 a0_3, .string a0_4, .string a0_5, .string a0_6, .string a0_7, .slice A0_8 l0_8.length c0_8] 24 (0, 0)) (by (with_reducible repeat (first | refine blk_drewN ?_ _ | refine blk_drew ?_ | refine blk_alloc ?_ _)); exact BK137.out) hb); have n1_ := Aside0.mk (below_step (by repeat (first | (with_reducible first | exact HB.out | apply below_alloc | apply pw_below_drewN | apply below_drew1 | refine below_set ?_ GE137.out) | exact HB.out)) hb); have n2_ := Aside0.mk (hbox); have n3_ := Aside0.mk ((by rw [hg]; exact (below_size (by repeat (first | (with_reducible first | exact HB.out | apply below_alloc | apply pw_below_drewN | apply below_drew1 | refine below_set ?_ GE137.out) | exact HB.out))) : w.heap.size ≤ gb138)); have n4_ := Aside0.mk ((by rw [hg]; exact (below_size (by repeat (first | (with_reducible first | exact HB.out | apply below_alloc | apply pw_below_drewN | apply below_drew1 | refine below_set ?_ GE137.out) | exact HB.out))) : w.heap.size ≤ gb138)); have n5_ := Aside0.mk ((by rw [hg]; exact Nat.ne_of_lt (blk_lt (g := gb137) (o := .cells #[.int .i64 a0_0, .int .i64 a0_1, .int .i64 a0_2, .int .i64 a0_3, .string a0_4, .string a0_5, .string a0_6, .string a0_7, .slice A0_8 l0_8.length c0_8] 24 (0, 0)) (by (with_reducible repeat (first | refine blk_drewN ?_ _ | refine blk_drew ?_ | refine blk_alloc ?_ _)); exact BK137.out)) : gb137 ≠ gb138)); have n6_ := Aside0.mk ((by rw [hg]; exact Nat.ne_of_gt (blk_lt (g := gb137) (o := .cells #[.int .i64 a0_0, .int .i64 a0_1, .int .i64 a0_2, .int .i64 a0_3, .string a0_4, .string a0_5, .string a0_6, .string a0_7, .slice A0_8 l0_8.length c0_8] 24 (0, 0)) (by (with_reducible repeat (first | refine blk_drewN ?_ _ | refine blk_drew ?_ | refine blk_alloc ?_ _)); exact BK137.out)) : gb138 ≠ gb137)); clear BK137; clear HB; have BK137 := n0_; have HB := n1_; have BK138 := n2_; have GW138 := n3_; have GE138 := n4_; have NB137_138 := n5_; have NB138_137 := n6_; clear n0_ n1_ n2_ n3_ n4_ n5_ n6_; clear hb hbox hg; have hnb34 := NB137_138.out; have hnc34 := NB138_137.out; have hcz35_0 : w33.cell? ⟨gb137, 0, none⟩ = some (.int .i64 a0_0) := (blk_cell BK137.out 0).trans rfl; have hcz35_1 : w33.cell? ⟨gb137, 1, none⟩ = some (.int .i64 a0_1) := (blk_cell BK137.out 1).trans rfl; have hcz35_2 : w33.cell? ⟨gb137, 2, none⟩ = some (.int .i64 a0_2) := (blk_cell BK137.out 2).trans rfl; have hcz35_3 : w33.cell? ⟨gb137, 3, none⟩ = some (.int .i64 a0_3) := (blk_cell BK137.out 3).trans rfl; have hcz35_4 : w33.cell? ⟨gb137, 4, none⟩ = some (.string a0_4) := (blk_cell BK137.out 4).trans rfl; have hcz35_5 : w33.cell? ⟨gb137, 5, none⟩ = some (.string a0_5) := (blk_cell BK137.out 5).trans rfl; have hcz35_6 : w33.cell? ⟨gb137, 6, none⟩ = some (.string a0_6) := (blk_cell BK137.out 6).trans rfl; have hcz35_7 : w33.cell? ⟨gb137, 7, none⟩ = some (.string a0_7) := (blk_cell BK137.out 7).trans rfl; have hcz35_8 : w33.cell? ⟨gb137, 8, none⟩ = some (.slice A0_8 l0_8.length c0_8) := (blk_cell BK137.out 8).trans rfl; have hfz35_0 := blk_frozen BK137.out 0; have hfz35_1 := blk_frozen BK137.out 1; have hfz35_2 := blk_frozen BK137.out 2; have hfz35_3 := blk_frozen BK137.out 3; have hfz35_4 := blk_frozen BK137.out 4; have hfz35_5 := blk_frozen BK137.out 5; have hfz35_6 := blk_frozen BK137.out 6; have hfz35_7 := blk_frozen BK137.out 7; have hfz35_8 := blk_frozen BK137.out 8; have hcz36_0 : w33.cell? ⟨gb138, 0, none⟩ = some (.int .i64 a1_0) := (blk_cell BK138.out 0).trans rfl; have hcz36_1 : w33.cell? ⟨gb138, 1, none⟩ = some (.int .i64 a1_1) := (blk_cell BK138.out 1).trans rfl; have hcz36_2 : w33.cell? ⟨gb138, 2, none⟩ = some (.int .i64 a1_2) := (blk_cell BK138.out 2).trans rfl; have hcz36_3 : w33.cell? ⟨gb138, 3, none⟩ = some (.int .i64 a1_3) := (blk_cell BK138.out 3).trans rfl; have hcz36_4 : w33.cell? ⟨gb138, 4, none⟩ = some (.string a1_4) := (blk_cell BK138.out 4).trans rfl; have hcz36_5 : w33.cell? ⟨gb138, 5, none⟩ = some (.string a1_5) := (blk_cell BK138.out 5).trans rfl; have hcz36_6 : w33.cell? ⟨gb138, 6, none⟩ = some (.string a1_6) := (blk_cell BK138.out 6).trans rfl; have hcz36_7 : w33.cell? ⟨gb138, 7, none⟩ = some (.string a1_7) := (blk_cell BK138.out 7).trans rfl; have hcz36_8 : w33.cell? ⟨gb138, 8, none⟩ = some (.slice A1_8 l1_8.length c1_8) := (blk_cell BK138.out 8).trans rfl; have hfz36_0 := blk_frozen BK138.out 0; have hfz36_1 := blk_frozen BK138.out 1; have hfz36_2 := blk_frozen BK138.out 2; have hfz36_3 := blk_frozen BK138.out 3; have hfz36_4 := blk_frozen BK138.out 4; have hfz36_5 := blk_frozen BK138.out 5; have hfz36_6 := blk_frozen BK138.out 6; have hfz36_7 := blk_frozen BK138.out 7; have hfz36_8 := blk_frozen BK138.out 8))
            go_ret
            exact ⟨by first | rfl | (simp [errW_none, errW_some] <;> first | rfl | exact emp_bne _ | exact (emp_bne _).symm | exact emp_bne' _ | exact (emp_bne' _).symm) | (simp [*, errW_none, errW_some] <;> rfl), by repeat (first | (with_reducible first | exact HB.out | apply below_alloc | apply pw_below_drewN | apply below_drew1 | refine below_set ?_ GE137.out | refine below_set ?_ GE138.out) | exact HB.out)⟩
        · rw [if_neg c6] at H
          have c6b0 : (a0_3 == a1_3) = false := beq_eq_false_iff_ne.mpr c6
          have c6b1 : (a0_3 != a1_3) = true := bne_iff_ne.mpr c6
          obtain rfl := Option.some.inj H
          go_enter Tryd.func12, Tryd.ntmps12
          go_wp2_with (first | ((with_reducible refine gate_dst (N := 2) rfl ?_); refine box_event ?hg (N := 2) ?hd (cs := #[.int .i64 a0_0, .int .i64 a0_1, .int .i64 a0_2, .int .i64 a0_3, .string a0_4, .string a0_5, .string a0_6, .string a0_7, .slice A0_8 l0_8.length c0_8]) (t := 24) ?hr ?_; (case hd => rfl); (case hg => rfl); (case hr => first | (go_simp; done) | (go_simp; rfl)); intro gb137 hg w37 hbox hb; have n0_ := Aside0.mk (below_step (by repeat (first | (with_reducible first | exact HB.out | apply below_alloc | apply pw_below_drewN | apply below_drew1) | exact HB.out)) hb); have n1_ := Aside0.mk (hbox); have n2_ := Aside0.mk ((by rw [hg]; exact (below_size (by repeat (first | (with_reducible first | exact HB.out | apply below_alloc | apply pw_below_drewN | apply below_drew1) | exact HB.out))) : w.heap.size ≤ gb137)); have n3_ := Aside0.mk ((by rw [hg]; exact (below_size (by repeat (first | (with_reducible first | exact HB.out | apply below_alloc | apply pw_below_drewN | apply below_drew1) | exact HB.out))) : w.heap.size ≤ gb137)); clear HB; have HB := n0_; have BK137 := n1_; have GW137 := n2_; have GE137 := n3_; clear n0_ n1_ n2_ n3_; clear hb hbox hg) | ((with_reducible refine gate_dst (N := 3) rfl ?_); refine box_event ?hg (N := 3) ?hd (cs := #[.int .i64 a1_0, .int .i64 a1_1, .int .i64 a1_2, .int .i64 a1_3, .string a1_4, .string a1_5, .string a1_6, .string a1_7, .slice A1_8 l1_8.length c1_8]) (t := 24) ?hr ?_; (case hd => rfl); (case hg => rfl); (case hr => first | (go_simp; done) | (go_simp; rfl)); intro gb138 hg w38 hbox hb; have n0_ := Aside0.mk (blk_below (g := gb137) (o := .cells #[.int .i64 a0_0, .int .i64 a0_1, .int .i64 a0_2, .int .i64 a0_3, .string a0_4, .string a0_5, .string a0_6, .string a0_7, .slice A0_8 l0_8.length c0_8] 24 (0, 0)) (by (with_reducible repeat (first | refine blk_drewN ?_ _ | refine blk_drew ?_ | refine blk_alloc ?_ _)); exact BK137.out) hb); have n1_ := Aside0.mk (below_step (by repeat (first | (with_reducible first | exact HB.out | apply below_alloc | apply pw_below_drewN | apply below_drew1 | refine below_set ?_ GE137.out) | exact HB.out)) hb); have n2_ := Aside0.mk (hbox); have n3_ := Aside0.mk ((by rw [hg]; exact (below_size (by repeat (first | (with_reducible first | exact HB.out | apply below_alloc | apply pw_below_drewN | apply below_drew1 | refine below_set ?_ GE137.out) | exact HB.out))) : w.heap.size ≤ gb138)); have n4_ := Aside0.mk ((by rw [hg]; exact (below_size (by repeat (first | (with_reducible first | exact HB.out | apply below_alloc | apply pw_below_drewN | apply below_drew1 | refine below_set ?_ GE137.out) | exact HB.out))) : w.heap.size ≤ gb138)); have n5_ := Aside0.mk ((by rw [hg]; exact Nat.ne_of_lt (blk_lt (g := gb137) (o := .cells #[.int .i64 a0_0, .int .i64 a0_1, .int .i64 a0_2, .int .i64 a0_3, .string a0_4, .string a0_5, .string a0_6, .string a0_7, .slice A0_8 l0_8.length c0_8] 24 (0, 0)) (by (with_reducible repeat (first | refine blk_drewN ?_ _ | refine blk_drew ?_ | refine blk_alloc ?_ _)); exact BK137.out)) : gb137 ≠ gb138)); have n6_ := Aside0.mk ((by rw [hg]; exact Nat.ne_of_gt (blk_lt (g := gb137) (o := .cells #[.int .i64 a0_0, .int .i64 a0_1, .int .i64 a0_2, .int .i64 a0_3, .string a0_4, .string a0_5, .string a0_6, .string a0_7, .slice A0_8 l0_8.length c0_8] 24 (0, 0)) (by (with_reducible repeat (first | refine blk_drewN ?_ _ | refine blk_drew ?_ | refine blk_alloc ?_ _)); exact BK137.out)) : gb138 ≠ gb137)); clear BK137; clear HB; have BK137 := n0_; have HB := n1_; have BK138 := n2_; have GW138 := n3_; have GE138 := n4_; have NB137_138 := n5_; have NB138_137 := n6_; clear n0_ n1_ n2_ n3_ n4_ n5_ n6_; clear hb hbox hg; have hnb39 := NB137_138.out; have hnc39 := NB138_137.out; have hcz40_0 : w38.cell? ⟨gb137, 0, none⟩ = some (.int .i64 a0_0) := (blk_cell BK137.out 0).trans rfl; have hcz40_1 : w38.cell? ⟨gb137, 1, none⟩ = some (.int .i64 a0_1) := (blk_cell BK137.out 1).trans rfl; have hcz40_2 : w38.cell? ⟨gb137, 2, none⟩ = some (.int .i64 a0_2) := (blk_cell BK137.out 2).trans rfl; have hcz40_3 : w38.cell? ⟨gb137, 3, none⟩ = some (.int .i64 a0_3) := (blk_cell BK137.out 3).trans rfl; have hcz40_4 : w38.cell? ⟨gb137, 4, none⟩ = some (.string a0_4) := (blk_cell BK137.out 4).trans rfl; have hcz40_5 : w38.cell? ⟨gb137, 5, none⟩ = some (.string a0_5) := (blk_cell BK137.out 5).trans rfl; have hcz40_6 : w38.cell? ⟨gb137, 6, none⟩ = some (.string a0_6) := (blk_cell BK137.out 6).trans rfl; have hcz40_7 : w38.cell? ⟨gb137, 7, none⟩ = some (.string a0_7) := (blk_cell BK137.out 7).trans rfl; have hcz40_8 : w38.cell? ⟨gb137, 8, none⟩ = some (.slice A0_8 l0_8.length c0_8) := (blk_cell BK137.out 8).trans rfl; have hfz40_0 := blk_frozen BK137.out 0; have hfz40_1 := blk_frozen BK137.out 1; have hfz40_2 := blk_frozen BK137.out 2; have hfz40_3 := blk_frozen BK137.out 3; have hfz40_4 := blk_frozen BK137.out 4; have hfz40_5 := blk_frozen BK137.out 5; have hfz40_6 := blk_frozen BK137.out 6; have hfz40_7 := blk_frozen BK137.out 7; have hfz40_8 := blk_frozen BK137.out 8; have hcz41_0 : w38.cell? ⟨gb138, 0, none⟩ = some (.int .i64 a1_0) := (blk_cell BK138.out 0).trans rfl; have hcz41_1 : w38.cell? ⟨gb138, 1, none⟩ = some (.int .i64 a1_1) := (blk_cell BK138.out 1).trans rfl; have hcz41_2 : w38.cell? ⟨gb138, 2, none⟩ = some (.int .i64 a1_2) := (blk_cell BK138.out 2).trans rfl; have hcz41_3 : w38.cell? ⟨gb138, 3, none⟩ = some (.int .i64 a1_3) := (blk_cell BK138.out 3).trans rfl; have hcz41_4 : w38.cell? ⟨gb138, 4, none⟩ = some (.string a1_4) := (blk_cell BK138.out 4).trans rfl; have hcz41_5 : w38.cell? ⟨gb138, 5, none⟩ = some (.string a1_5) := (blk_cell BK138.out 5).trans rfl; have hcz41_6 : w38.cell? ⟨gb138, 6, none⟩ = some (.string a1_6) := (blk_cell BK138.out 6).trans rfl; have hcz41_7 : w38.cell? ⟨gb138, 7, none⟩ = some (.string a1_7) := (blk_cell BK138.out 7).trans rfl; have hcz41_8 : w38.cell? ⟨gb138, 8, none⟩ = some (.slice A1_8 l1_8.length c1_8) := (blk_cell BK138.out 8).trans rfl; have hfz41_0 := blk_frozen BK138.out 0; have hfz41_1 := blk_frozen BK138.out 1; have hfz41_2 := blk_frozen BK138.out 2; have hfz41_3 := blk_frozen BK138.out 3; have hfz41_4 := blk_frozen BK138.out 4; have hfz41_5 := blk_frozen BK138.out 5; have hfz41_6 := blk_frozen BK138.out 6; have hfz41_7 := blk_frozen BK138.out 7; have hfz41_8 := blk_frozen BK138.out 8))
          go_ret
          exact ⟨by first | rfl | (simp [errW_none, errW_some] <;> first | rfl | exact emp_bne _ | exact (emp_bne _).symm | exact emp_bne' _ | exact (emp_bne' _).symm) | (simp [*, errW_none, errW_some] <;> rfl), by repeat (first | (with_reducible first | exact HB.out | apply below_alloc | apply pw_below_drewN | apply below_drew1 | refine below_set ?_ GE137.out | refine below_set ?_ GE138.out) | exact HB.out)⟩
      · rw [if_neg c5] at H
        have c5b0 : (a0_2 == a1_2) = false := beq_eq_false_iff_ne.mpr c5
        have c5b1 : (a0_2 != a1_2) = true := bne_iff_ne.mpr c5
        obtain rfl := Option.some.inj H
        go_enter Tryd.func12, Tryd.ntmps12
        go_wp2_with (first | ((with_reducible refine gate_dst (N := 2) rfl ?_); refine box_event ?hg (N := 2) ?hd (cs := #[.int .i64 a0_0, .int .i64 a0_1, .int .i64 a0_2, .int .i64 a0_3, .string a0_4, .string a0_5, .string a0_6, .string a0_7, .slice A0_8 l0_8.length c0_8]) (t := 24) ?hr ?_; (case hd => rfl); (case hg => rfl); (case hr => first | (go_simp; done) | (go_simp; rfl)); intro gb137 hg w42 hbox hb; have n0_ := Aside0.mk (below_step (by repeat (first | (with_reducible first | exact HB.out | apply below_alloc | apply pw_below_drewN | apply below_drew1) | exact HB.out)) hb); have n1_ := Aside0.mk (hbox); have n2_ := Aside0.mk ((by rw [hg]; exact (below_size (by repeat (first | (with_reducible first | exact HB.out | apply below_alloc | apply pw_below_drewN | apply below_drew1) | exact HB.out))) : w.heap.size ≤ gb137)); have n3_ := Aside0.mk ((by rw [hg]; exact (below_size (by repeat (first | (with_reducible first | exact HB.out | apply below_alloc | apply pw_below_drewN | apply below_drew1) | exact HB.out))) : w.heap.size ≤ gb137)); clear HB; have HB := n0_; have BK137 := n1_; have GW137 := n2_; have GE137 := n3_; clear n0_ n1_ n2_ n3_; clear hb hbox hg) | ((with_reducible refine gate_dst (N := 3) rfl ?_); refine box_event ?hg (N := 3) ?hd (cs := #[.int .i64 a1_0, .int .i64 a1_1, .int .i64 a1_2, .int .i64 a1_3, .string a1_4, .string a1_5, .string a1_6, .string a1_7, .slice A1_8 l1_8.length c1_8]) (t := 24) ?hr ?_; (case hd => rfl); (case hg => rfl); (case hr => first | (go_simp; done) | (go_simp; rfl)); intro gb138 hg w43 hbox hb; have n0_ := Aside0.mk (blk_below (g := gb137) (o := .cells #[.int .i64 a0_0, .int .i64 a0_1, .int .i64 a0_2, .int .i64 a0_3, .string a0_4, .string a0_5, .string a0_6, .string a0_7, .slice A0_8 l0_8.length c0_8] 24 (0, 0)) (by (with_reducible repeat (first | refine blk_drewN ?_ _ | refine blk_drew ?_ | refine blk_alloc ?_ _)); exact BK137.out) hb); have n1_ := Aside0.mk (below_step (by repeat (first | (with_reducible first | exact HB.out | apply below_alloc | apply pw_below_drewN | apply below_drew1 | refine below_set ?_ GE137.out) | exact HB.out)) hb); have n2_ := Aside0.mk (hbox); have n3_ := Aside0.mk ((by rw [hg]; exact (below_size (by repeat (first | (with_reducible first | exact HB.out | apply below_alloc | apply pw_below_drewN | apply below_drew1 | refine below_set ?_ GE137.out) | exact HB.out))) : w.heap.size ≤ gb138)); have n4_ := Aside0.mk ((by rw [hg]; exact (below_size (by repeat (first | (with_reducible first | exact HB.out | apply below_alloc | apply pw_below_drewN | apply below_drew1 | refine below_set ?_ GE137.out) | exact HB.out))) : w.heap.size ≤ gb138)); have n5_ := Aside0.mk ((by rw [hg]; exact Nat.ne_of_lt (blk_lt (g := gb137) (o := .cells #[.int .i64 a0_0, .int .i64 a0_1, .int .i64 a0_2, .int .i64 a0_3, .string a0_4, .string a0_5, .string a0_6, .string a0_7, .slice A0_8 l0_8.length c0_8] 24 (0, 0)) (by (with_reducible repeat (first | refine blk_drewN ?_ _ | refine blk_drew ?_ | refine blk_alloc ?_ _)); exact BK137.out)) : gb137 ≠ gb138)); have n6_ := Aside0.mk ((by rw [hg]; exact Nat.ne_of_gt (blk_lt (g := gb137) (o := .cells #[.int .i64 a0_0, .int .i64 a0_1, .int .i64 a0_2, .int .i64 a0_3, .string a0_4, .string a0_5, .string a0_6, .string a0_7, .slice A0_8 l0_8.length c0_8] 24 (0, 0)) (by (with_reducible repeat (first | refine blk_drewN ?_ _ | refine blk_drew ?_ | refine blk_alloc ?_ _)); exact BK137.out)) : gb138 ≠ gb137)); clear BK137; clear HB; have BK137 := n0_; have HB := n1_; have BK138 := n2_; have GW138 := n3_; have GE138 := n4_; have NB137_138 := n5_; have NB138_137 := n6_; clear n0_ n1_ n2_ n3_ n4_ n5_ n6_; clear hb hbox hg; have hnb44 := NB137_138.out; have hnc44 := NB138_137.out; have hcz45_0 : w43.cell? ⟨gb137, 0, none⟩ = some (.int .i64 a0_0) := (blk_cell BK137.out 0).trans rfl; have hcz45_1 : w43.cell? ⟨gb137, 1, none⟩ = some (.int .i64 a0_1) := (blk_cell BK137.out 1).trans rfl; have hcz45_2 : w43.cell? ⟨gb137, 2, none⟩ = some (.int .i64 a0_2) := (blk_cell BK137.out 2).trans rfl; have hcz45_3 : w43.cell? ⟨gb137, 3, none⟩ = some (.int .i64 a0_3) := (blk_cell BK137.out 3).trans rfl; have hcz45_4 : w43.cell? ⟨gb137, 4, none⟩ = some (.string a0_4) := (blk_cell BK137.out 4).trans rfl; have hcz45_5 : w43.cell? ⟨gb137, 5, none⟩ = some (.string a0_5) := (blk_cell BK137.out 5).trans rfl; have hcz45_6 : w43.cell? ⟨gb137, 6, none⟩ = some (.string a0_6) := (blk_cell BK137.out 6).trans rfl; have hcz45_7 : w43.cell? ⟨gb137, 7, none⟩ = some (.string a0_7) := (blk_cell BK137.out 7).trans rfl; have hcz45_8 : w43.cell? ⟨gb137, 8, none⟩ = some (.slice A0_8 l0_8.length c0_8) := (blk_cell BK137.out 8).trans rfl; have hfz45_0 := blk_frozen BK137.out 0; have hfz45_1 := blk_frozen BK137.out 1; have hfz45_2 := blk_frozen BK137.out 2; have hfz45_3 := blk_frozen BK137.out 3; have hfz45_4 := blk_frozen BK137.out 4; have hfz45_5 := blk_frozen BK137.out 5; have hfz45_6 := blk_frozen BK137.out 6; have hfz45_7 := blk_frozen BK137.out 7; have hfz45_8 := blk_frozen BK137.out 8; have hcz46_0 : w43.cell? ⟨gb138, 0, none⟩ = some (.int .i64 a1_0) := (blk_cell BK138.out 0).trans rfl; have hcz46_1 : w43.cell? ⟨gb138, 1, none⟩ = some (.int .i64 a1_1) := (blk_cell BK138.out 1).trans rfl; have hcz46_2 : w43.cell? ⟨gb138, 2, none⟩ = some (.int .i64 a1_2) := (blk_cell BK138.out 2).trans rfl; have hcz46_3 : w43.cell? ⟨gb138, 3, none⟩ = some (.int .i64 a1_3) := (blk_cell BK138.out 3).trans rfl; have hcz46_4 : w43.cell? ⟨gb138, 4, none⟩ = some (.string a1_4) := (blk_cell BK138.out 4).trans rfl; have hcz46_5 : w43.cell? ⟨gb138, 5, none⟩ = some (.string a1_5) := (blk_cell BK138.out 5).trans rfl; have hcz46_6 : w43.cell? ⟨gb138, 6, none⟩ = some (.string a1_6) := (blk_cell BK138.out 6).trans rfl; have hcz46_7 : w43.cell? ⟨gb138, 7, none⟩ = some (.string a1_7) := (blk_cell BK138.out 7).trans rfl; have hcz46_8 : w43.cell? ⟨gb138, 8, none⟩ = some (.slice A1_8 l1_8.length c1_8) := (blk_cell BK138.out 8).trans rfl; have hfz46_0 := blk_frozen BK138.out 0; have hfz46_1 := blk_frozen BK138.out 1; have hfz46_2 := blk_frozen BK138.out 2; have hfz46_3 := blk_frozen BK138.out 3; have hfz46_4 := blk_frozen BK138.out 4; have hfz46_5 := blk_frozen BK138.out 5; have hfz46_6 := blk_frozen BK138.out 6; have hfz46_7 := blk_frozen BK138.out 7; have hfz46_8 := blk_frozen BK138.out 8))
        go_ret
        exact ⟨by first | rfl | (simp [errW_none, errW_some] <;> first | rfl | exact emp_bne _ | exact (emp_bne _).symm | exact emp_bne' _ | exact (emp_bne' _).symm) | (simp [*, errW_none, errW_some] <;> rfl), by repeat (first | (with_reducible first | exact HB.out | apply below_alloc | apply pw_below_drewN | apply below_drew1 | refine below_set ?_ GE137.out | refine below_set ?_ GE138.out) | exact HB.out)⟩
    · rw [if_neg c4] at H
      have c4b0 : (a0_1 == a1_1) = false := beq_eq_false_iff_ne.mpr c4
      have c4b1 : (a0_1 != a1_1) = true := bne_iff_ne.mpr c4
      obtain rfl := Option.some.inj H
      go_enter Tryd.func12, Tryd.ntmps12
      go_wp2_with (first | ((with_reducible refine gate_dst (N := 2) rfl ?_); refine box_event ?hg (N := 2) ?hd (cs := #[.int .i64 a0_0, .int .i64 a0_1, .int .i64 a0_2, .int .i64 a0_3, .string a0_4, .string a0_5, .string a0_6, .string a0_7, .slice A0_8 l0_8.length c0_8]) (t := 24) ?hr ?_; (case hd => rfl); (case hg => rfl); (case hr => first | (go_simp; done) | (go_simp; rfl)); intro gb137 hg w47 hbox hb; have n0_ := Aside0.mk (below_step (by repeat (first | (with_reducible first | exact HB.out | apply below_alloc | apply pw_below_drewN | apply below_drew1) | exact HB.out)) hb); have n1_ := Aside0.mk (hbox); have n2_ := Aside0.mk ((by rw [hg]; exact (below_size (by repeat (first | (with_reducible first | exact HB.out | apply below_alloc | apply pw_below_drewN | apply below_drew1) | exact HB.out))) : w.heap.size ≤ gb137)); have n3_ := Aside0.mk ((by rw [hg]; exact (below_size (by repeat (first | (with_reducible first | exact HB.out | apply below_alloc | apply pw_below_drewN | apply below_drew1) | exact HB.out))) : w.heap.size ≤ gb137)); clear HB; have HB := n0_; have BK137 := n1_; have GW137 := n2_; have GE137 := n3_; clear n0_ n1_ n2_ n3_; clear hb hbox hg) | ((with_reducible refine gate_dst (N := 3) rfl ?_); refine box_event ?hg (N := 3) ?hd (cs := #[.int .i64 a1_0, .int .i64 a1_1, .int .i64 a1_2, .int .i64 a1_3, .string a1_4, .string a1_5, .string a1_6, .string a1_7, .slice A1_8 l1_8.length c1_8]) (t := 24) ?hr ?_; (case hd => rfl); (case hg => rfl); (case hr => first | (go_simp; done) | (go_simp; rfl)); intro gb138 hg w48 hbox hb; have n0_ := Aside0.mk (blk_below (g := gb137) (o := .cells #[.int .i64 a0_0, .int .i64 a0_1, .int .i64 a0_2, .int .i64 a0_3, .string a0_4, .string a0_5, .string a0_6, .string a0_7, .slice A0_8 l0_8.length c0_8] 24 (0, 0)) (by (with_reducible repeat (first | refine blk_drewN ?_ _ | refine blk_drew ?_ | refine blk_alloc ?_ _)); exact BK137.out) hb); have n1_ := Aside0.mk (below_step (by repeat (first | (with_reducible first | exact HB.out | apply below_alloc | apply pw_below_drewN | apply below_drew1 | refine below_set ?_ GE137.out) | exact HB.out)) hb); have n2_ := Aside0.mk (hbox); have n3_ := Aside0.mk ((by rw [hg]; exact (below_size (by repeat (first | (with_reducible first | exact HB.out | apply below_alloc | apply pw_below_drewN | apply below_drew1 | refine below_set ?_ GE137.out) | exact HB.out))) : w.heap.size ≤ gb138)); have n4_ := Aside0.mk ((by rw [hg]; exact (below_size (by repeat (first | (with_reducible first | exact HB.out | apply below_alloc | apply pw_below_drewN | apply below_drew1 | refine below_set ?_ GE137.out) | exact HB.out))) : w.heap.size ≤ gb138)); have n5_ := Aside0.mk ((by rw [hg]; exact Nat.ne_of_lt (blk_lt (g := gb137) (o := .cells #[.int .i64 a0_0, .int .i64 a0_1, .int .i64 a0_2, .int .i64 a0_3, .string a0_4, .string a0_5, .string a0_6, .string a0_7, .slice A0_8 l0_8.length c0_8] 24 (0, 0)) (by (with_reducible repeat (first | refine blk_drewN ?_ _ | refine blk_drew ?_ | refine blk_alloc ?_ _)); exact BK137.out)) : gb137 ≠ gb138)); have n6_ := Aside0.mk ((by rw [hg]; exact Nat.ne_of_gt (blk_lt (g := gb137) (o := .cells #[.int .i64 a0_0, .int .i64 a0_1, .int .i64 a0_2, .int .i64 a0_3, .string a0_4, .string a0_5, .string a0_6, .string a0_7, .slice A0_8 l0_8.length c0_8] 24 (0, 0)) (by (with_reducible repeat (first | refine blk_drewN ?_ _ | refine blk_drew ?_ | refine blk_alloc ?_ _)); exact BK137.out)) : gb138 ≠ gb137)); clear BK137; clear HB; have BK137 := n0_; have HB := n1_; have BK138 := n2_; have GW138 := n3_; have GE138 := n4_; have NB137_138 := n5_; have NB138_137 := n6_; clear n0_ n1_ n2_ n3_ n4_ n5_ n6_; clear hb hbox hg; have hnb49 := NB137_138.out; have hnc49 := NB138_137.out; have hcz50_0 : w48.cell? ⟨gb137, 0, none⟩ = some (.int .i64 a0_0) := (blk_cell BK137.out 0).trans rfl; have hcz50_1 : w48.cell? ⟨gb137, 1, none⟩ = some (.int .i64 a0_1) := (blk_cell BK137.out 1).trans rfl; have hcz50_2 : w48.cell? ⟨gb137, 2, none⟩ = some (.int .i64 a0_2) := (blk_cell BK137.out 2).trans rfl; have hcz50_3 : w48.cell? ⟨gb137, 3, none⟩ = some (.int .i64 a0_3) := (blk_cell BK137.out 3).trans rfl; have hcz50_4 : w48.cell? ⟨gb137, 4, none⟩ = some (.string a0_4) := (blk_cell BK137.out 4).trans rfl; have hcz50_5 : w48.cell? ⟨gb137, 5, none⟩ = some (.string a0_5) := (blk_cell BK137.out 5).trans rfl; have hcz50_6 : w48.cell? ⟨gb137, 6, none⟩ = some (.string a0_6) := (blk_cell BK137.out 6).trans rfl; have hcz50_7 : w48.cell? ⟨gb137, 7, none⟩ = some (.string a0_7) := (blk_cell BK137.out 7).trans rfl; have hcz50_8 : w48.cell? ⟨gb137, 8, none⟩ = some (.slice A0_8 l0_8.length c0_8) := (blk_cell BK137.out 8).trans rfl; have hfz50_0 := blk_frozen BK137.out 0; have hfz50_1 := blk_frozen BK137.out 1; have hfz50_2 := blk_frozen BK137.out 2; have hfz50_3 := blk_frozen BK137.out 3; have hfz50_4 := blk_frozen BK137.out 4; have hfz50_5 := blk_frozen BK137.out 5; have hfz50_6 := blk_frozen BK137.out 6; have hfz50_7 := blk_frozen BK137.out 7; have hfz50_8 := blk_frozen BK137.out 8; have hcz51_0 : w48.cell? ⟨gb138, 0, none⟩ = some (.int .i64 a1_0) := (blk_cell BK138.out 0).trans rfl; have hcz51_1 : w48.cell? ⟨gb138, 1, none⟩ = some (.int .i64 a1_1) := (blk_cell BK138.out 1).trans rfl; have hcz51_2 : w48.cell? ⟨gb138, 2, none⟩ = some (.int .i64 a1_2) := (blk_cell BK138.out 2).trans rfl; have hcz51_3 : w48.cell? ⟨gb138, 3, none⟩ = some (.int .i64 a1_3) := (blk_cell BK138.out 3).trans rfl; have hcz51_4 : w48.cell? ⟨gb138, 4, none⟩ = some (.string a1_4) := (blk_cell BK138.out 4).trans rfl; have hcz51_5 : w48.cell? ⟨gb138, 5, none⟩ = some (.string a1_5) := (blk_cell BK138.out 5).trans rfl; have hcz51_6 : w48.cell? ⟨gb138, 6, none⟩ = some (.string a1_6) := (blk_cell BK138.out 6).trans rfl; have hcz51_7 : w48.cell? ⟨gb138, 7, none⟩ = some (.string a1_7) := (blk_cell BK138.out 7).trans rfl; have hcz51_8 : w48.cell? ⟨gb138, 8, none⟩ = some (.slice A1_8 l1_8.length c1_8) := (blk_cell BK138.out 8).trans rfl; have hfz51_0 := blk_frozen BK138.out 0; have hfz51_1 := blk_frozen BK138.out 1; have hfz51_2 := blk_frozen BK138.out 2; have hfz51_3 := blk_frozen BK138.out 3; have hfz51_4 := blk_frozen BK138.out 4; have hfz51_5 := blk_frozen BK138.out 5; have hfz51_6 := blk_frozen BK138.out 6; have hfz51_7 := blk_frozen BK138.out 7; have hfz51_8 := blk_frozen BK138.out 8))
      go_ret
      exact ⟨by first | rfl | (simp [errW_none, errW_some] <;> first | rfl | exact emp_bne _ | exact (emp_bne _).symm | exact emp_bne' _ | exact (emp_bne' _).symm) | (simp [*, errW_none, errW_some] <;> rfl), by repeat (first | (with_reducible first | exact HB.out | apply below_alloc | apply pw_below_drewN | apply below_drew1 | refine below_set ?_ GE137.out | refine below_set ?_ GE138.out) | exact HB.out)⟩
  · rw [if_neg c3] at H
    have c3b0 : (a0_0 == a1_0) = false := beq_eq_false_iff_ne.mpr c3
    have c3b1 : (a0_0 != a1_0) = true := bne_iff_ne.mpr c3
    obtain rfl := Option.some.inj H
    go_enter Tryd.func12, Tryd.ntmps12
    go_wp2_with (first | ((with_reducible refine gate_dst (N := 2) rfl ?_); refine box_event ?hg (N := 2) ?hd (cs := #[.int .i64 a0_0, .int .i64 a0_1, .int .i64 a0_2, .int .i64 a0_3, .string a0_4, .string a0_5, .string a0_6, .string a0_7, .slice A0_8 l0_8.length c0_8]) (t := 24) ?hr ?_; (case hd => rfl); (case hg => rfl); (case hr => first | (go_simp; done) | (go_simp; rfl)); intro gb137 hg w52 hbox hb; have n0_ := Aside0.mk (below_step (by repeat (first | (with_reducible first | exact HB.out | apply below_alloc | apply pw_below_drewN | apply below_drew1) | exact HB.out)) hb); have n1_ := Aside0.mk (hbox); have n2_ := Aside0.mk ((by rw [hg]; exact (below_size (by repeat (first | (with_reducible first | exact HB.out | apply below_alloc | apply pw_below_drewN | apply below_drew1) | exact HB.out))) : w.heap.size ≤ gb137)); have n3_ := Aside0.mk ((by rw [hg]; exact (below_size (by repeat (first | (with_reducible first | exact HB.out | apply below_alloc | apply pw_below_drewN | apply below_drew1) | exact HB.out))) : w.heap.size ≤ gb137)); clear HB; have HB := n0_; have BK137 := n1_; have GW137 := n2_; have GE137 := n3_; clear n0_ n1_ n2_ n3_; clear hb hbox hg) | ((with_reducible refine gate_dst (N := 3) rfl ?_); refine box_event ?hg (N := 3) ?hd (cs := #[.int .i64 a1_0, .int .i64 a1_1, .int .i64 a1_2, .int .i64 a1_3, .string a1_4, .string a1_5, .string a1_6, .string a1_7, .slice A1_8 l1_8.length c1_8]) (t := 24) ?hr ?_; (case hd => rfl); (case hg => rfl); (case hr => first | (go_simp; done) | (go_simp; rfl)); intro gb138 hg w53 hbox hb; have n0_ := Aside0.mk (blk_below (g := gb137) (o := .cells #[.int .i64 a0_0, .int .i64 a0_1, .int .i64 a0_2, .int .i64 a0_3, .string a0_4, .string a0_5, .string a0_6, .string a0_7, .slice A0_8 l0_8.length c0_8] 24 (0, 0)) (by (with_reducible repeat (first | refine blk_drewN ?_ _ | refine blk_drew ?_ | refine blk_alloc ?_ _)); exact BK137.out) hb); have n1_ := Aside0.mk (below_step (by repeat (first | (with_reducible first | exact HB.out | apply below_alloc | apply pw_below_drewN | apply below_drew1 | refine below_set ?_ GE137.out) | exact HB.out)) hb); have n2_ := Aside0.mk (hbox); have n3_ := Aside0.mk ((by rw [hg]; exact (below_size (by repeat (first | (with_reducible first | exact HB.out | apply below_alloc | apply pw_below_drewN | apply below_drew1 | refine below_set ?_ GE137.out) | exact HB.out))) : w.heap.size ≤ gb138)); have n4_ := Aside0.mk ((by rw [hg]; exact (below_size (by repeat (first | (with_reducible first | exact HB.out | apply below_alloc | apply pw_below_drewN | apply below_drew1 | refine below_set ?_ GE137.out) | exact HB.out))) : w.heap.size ≤ gb138)); have n5_ := Aside0.mk ((by rw [hg]; exact Nat.ne_of_lt (blk_lt (g := gb137) (o := .cells #[.int .i64 a0_0, .int .i64 a0_1, .int .i64 a0_2, .int .i64 a0_3, .string a0_4, .string a0_5, .string a0_6, .string a0_7, .slice A0_8 l0_8.length c0_8] 24 (0, 0)) (by (with_reducible repeat (first | refine blk_drewN ?_ _ | refine blk_drew ?_ | refine blk_alloc ?_ _)); exact BK137.out)) : gb137 ≠ gb138)); have n6_ := Aside0.mk ((by rw [hg]; exact Nat.ne_of_gt (blk_lt (g := gb137) (o := .cells #[.int .i64 a0_0, .int .i64 a0_1, .int .i64 a0_2, .int .i64 a0_3, .string a0_4, .string a0_5, .string a0_6, .string a0_7, .slice A0_8 l0_8.length c0_8] 24 (0, 0)) (by (with_reducible repeat (first | refine blk_drewN ?_ _ | refine blk_drew ?_ | refine blk_alloc ?_ _)); exact BK137.out)) : gb138 ≠ gb137)); clear BK137; clear HB; have BK137 := n0_; have HB := n1_; have BK138 := n2_; have GW138 := n3_; have GE138 := n4_; have NB137_138 := n5_; have NB138_137 := n6_; clear n0_ n1_ n2_ n3_ n4_ n5_ n6_; clear hb hbox hg; have hnb54 := NB137_138.out; have hnc54 := NB138_137.out; have hcz55_0 : w53.cell? ⟨gb137, 0, none⟩ = some (.int .i64 a0_0) := (blk_cell BK137.out 0).trans rfl; have hcz55_1 : w53.cell? ⟨gb137, 1, none⟩ = some (.int .i64 a0_1) := (blk_cell BK137.out 1).trans rfl; have hcz55_2 : w53.cell? ⟨gb137, 2, none⟩ = some (.int .i64 a0_2) := (blk_cell BK137.out 2).trans rfl; have hcz55_3 : w53.cell? ⟨gb137, 3, none⟩ = some (.int .i64 a0_3) := (blk_cell BK137.out 3).trans rfl; have hcz55_4 : w53.cell? ⟨gb137, 4, none⟩ = some (.string a0_4) := (blk_cell BK137.out 4).trans rfl; have hcz55_5 : w53.cell? ⟨gb137, 5, none⟩ = some (.string a0_5) := (blk_cell BK137.out 5).trans rfl; have hcz55_6 : w53.cell? ⟨gb137, 6, none⟩ = some (.string a0_6) := (blk_cell BK137.out 6).trans rfl; have hcz55_7 : w53.cell? ⟨gb137, 7, none⟩ = some (.string a0_7) := (blk_cell BK137.out 7).trans rfl; have hcz55_8 : w53.cell? ⟨gb137, 8, none⟩ = some (.slice A0_8 l0_8.length c0_8) := (blk_cell BK137.out 8).trans rfl; have hfz55_0 := blk_frozen BK137.out 0; have hfz55_1 := blk_frozen BK137.out 1; have hfz55_2 := blk_frozen BK137.out 2; have hfz55_3 := blk_frozen BK137.out 3; have hfz55_4 := blk_frozen BK137.out 4; have hfz55_5 := blk_frozen BK137.out 5; have hfz55_6 := blk_frozen BK137.out 6; have hfz55_7 := blk_frozen BK137.out 7; have hfz55_8 := blk_frozen BK137.out 8; have hcz56_0 : w53.cell? ⟨gb138, 0, none⟩ = some (.int .i64 a1_0) := (blk_cell BK138.out 0).trans rfl; have hcz56_1 : w53.cell? ⟨gb138, 1, none⟩ = some (.int .i64 a1_1) := (blk_cell BK138.out 1).trans rfl; have hcz56_2 : w53.cell? ⟨gb138, 2, none⟩ = some (.int .i64 a1_2) := (blk_cell BK138.out 2).trans rfl; have hcz56_3 : w53.cell? ⟨gb138, 3, none⟩ = some (.int .i64 a1_3) := (blk_cell BK138.out 3).trans rfl; have hcz56_4 : w53.cell? ⟨gb138, 4, none⟩ = some (.string a1_4) := (blk_cell BK138.out 4).trans rfl; have hcz56_5 : w53.cell? ⟨gb138, 5, none⟩ = some (.string a1_5) := (blk_cell BK138.out 5).trans rfl; have hcz56_6 : w53.cell? ⟨gb138, 6, none⟩ = some (.string a1_6) := (blk_cell BK138.out 6).trans rfl; have hcz56_7 : w53.cell? ⟨gb138, 7, none⟩ = some (.string a1_7) := (blk_cell BK138.out 7).trans rfl; have hcz56_8 : w53.cell? ⟨gb138, 8, none⟩ = some (.slice A1_8 l1_8.length c1_8) := (blk_cell BK138.out 8).trans rfl; have hfz56_0 := blk_frozen BK138.out 0; have hfz56_1 := blk_frozen BK138.out 1; have hfz56_2 := blk_frozen BK138.out 2; have hfz56_3 := blk_frozen BK138.out 3; have hfz56_4 := blk_frozen BK138.out 4; have hfz56_5 := blk_frozen BK138.out 5; have hfz56_6 := blk_frozen BK138.out 6; have hfz56_7 := blk_frozen BK138.out 7; have hfz56_8 := blk_frozen BK138.out 8))
    go_ret
    exact ⟨by first | rfl | (simp [errW_none, errW_some] <;> first | rfl | exact emp_bne _ | exact (emp_bne _).symm | exact emp_bne' _ | exact (emp_bne' _).symm) | (simp [*, errW_none, errW_some] <;> rfl), by repeat (first | (with_reducible first | exact HB.out | apply below_alloc | apply pw_below_drewN | apply below_drew1 | refine below_set ?_ GE137.out | refine below_set ?_ GE138.out) | exact HB.out)⟩

end Go.Proofs.YtgdemingopcgaaaDoor.P26

namespace Go.Proofs.YtgdemingopcgaaaDoorE
open Go Go.RowKit Go.Proofs.YtgdemingopcgaaaDoorW.PrintWords Go.Proofs.YtgdemingopcgaaaDoorX Go.Proofs.YtgdemingopcgaaaDoor.P26 Go.Proofs.YtgdemingopcgaaaDoor.M02
set_option linter.unusedVariables false
set_option linter.unusedSimpArgs false
/-- An operation's parts are of the language. -/
def okX (x : S24) : Prop := i64 x.f0 ∧ i64 x.f1 ∧ i64 x.f2 ∧ i64 x.f3 ∧ x.f4.size ≤ 140737488351232 ∧ x.f5.size ≤ 140737488351232 ∧ x.f6.size ≤ 140737488351232 ∧ x.f7.size ≤ 140737488351232 ∧ x.f8.length ≤ 140737488351232 ∧ ∀ i : Nat, i < x.f8.length → okA (rd_T51 x.f8 i)
def tgO (x : S24) : Bool := namedS false (B x.f4)
def nmO (x : S24) : Bool := namedS true (B x.f6)
def naO (x : S24) : Nat → Bool := fun i => namedS true (B (rd_T51 x.f8 i).f0)
/-- What is wrong with an operation. -/
def chk (x : S24) : Int := checkO x (tgO x) (nmO x) (naO x)
theorem cko (x : S24) (h : okX x) : CkO x (chk x) := by
  obtain ⟨h0, h1, h2, h3, h4, h5, h6, h7, h8, h9⟩ := h
  have hm : 140737488351232 ≤ maxLen := by unfold maxLen; omega
  exact ⟨⟨h0, h1, h2, h3, Nat.le_trans h4 hm, Nat.le_trans h5 hm, Nat.le_trans h6 hm, Nat.le_trans h7 hm⟩, _, _, _, (tag_ev x.f4 h4).rounds, (name_ev x.f6 h6).rounds, fun i hi => (name_ev _ (h9 i hi).1).rounds, rfl⟩
theorem less_iff (s t : List UInt8) (h : s ≠ t) : Op.bytesLess s t = false ↔ cmpL s t > 0 := by
  rw [← less_cmpL s t]
  cases Op.bytesLess s t <;> simp [h]
theorem attrsN_G (l : List S51) : ∀ d i : Nat, attrsN l (fun i => namedS true (B (rd_T51 l i).f0)) d i = attrsG l d i := by
  intro d
  induction d with
  | zero => intro i; rfl
  | succ d ih =>
    intro i
    unfold attrsN attrsG
    rw [ih (i + 1)]
    by_cases h1 : i = 64
    · rw [if_pos h1, if_pos h1]
    · rw [if_neg h1, if_neg h1]
      by_cases h2 : namedS true (B (rd_T51 l i).f0) = true
      · rw [if_pos h2, if_pos h2]
        by_cases h3 : (rd_T51 l i).f1.size > 65536
        · rw [if_pos h3, if_pos h3]
        · rw [if_neg h3, if_neg h3]
          by_cases h4 : i > 0 ∧ (rd_T51 l (i - 1 : Nat)).f0 = (rd_T51 l i).f0
          · rw [if_pos h4, if_pos ⟨h4.1, by rw [h4.2]⟩]
          · have h4' : ¬ (i > 0 ∧ B (rd_T51 l (i - 1 : Nat)).f0 = B (rd_T51 l i).f0) := fun h => h4 ⟨h.1, B_inj h.2⟩
            rw [if_neg h4, if_neg h4']
            by_cases hi : i > 0
            · have hne : B (rd_T51 l (i - 1 : Nat)).f0 ≠ B (rd_T51 l i).f0 := fun h => h4' ⟨hi, h⟩
              have := less_iff _ _ hne
              rw [toList_B, toList_B]
              by_cases h5 : Op.bytesLess (B (rd_T51 l (i - 1 : Nat)).f0) (B (rd_T51 l i).f0) = false
              · rw [if_pos ⟨hi, h5⟩, if_pos ⟨hi, this.1 h5⟩]
              · rw [if_neg (fun h => h5 h.2), if_neg (fun h => h5 (this.2 h.2))]
            · rw [if_neg (fun h => hi h.1), if_neg (fun h => hi h.1)]
      · rw [if_neg h2, if_neg h2]
theorem toList_nil (s : ByteArray) : s.toList = ([] : List UInt8) ↔ s.size = 0 := by
  rw [toList_B, ← B_len]
  exact List.length_eq_zero_iff.symm
theorem ne7 (s : ByteArray) : (s.toList != ([] : List UInt8)) = decide (s.size ≠ 0) := by
  rw [Bool.eq_iff_iff, bne_iff_ne, decide_eq_true_iff, ne_eq, toList_nil]
set_option maxHeartbeats 2000000 in
theorem none_f (x : S24) (hk : 1 ≤ x.f0 ∧ x.f0 ≤ 7) (k : Nat) : tendrilref25_none.f (k + 1) x.f0 x.f1 x.f2 x.f3 x.f4 x.f5 x.f6 x.f7 x.f8 = some (noneO x) := by
  obtain ⟨f0, f1, f2, f3, f4, f5, f6, f7, f8⟩ := x
  have e8 : ((f8.length : Int) > 0) ↔ f8 ≠ [] := by
    cases f8 with
    | nil => simp
    | cons a b => simp
  have h7 : f0 = 1 ∨ f0 = 2 ∨ f0 = 3 ∨ f0 = 4 ∨ f0 = 5 ∨ f0 = 6 ∨ f0 = 7 := by simp only at hk; omega
  unfold tendrilref25_none.f noneO
  simp only [tendrilref25_none.j0, e8]
  rcases h7 with rfl | rfl | rfl | rfl | rfl | rfl | rfl <;> simp [toList_nil, ne7] <;> (repeat' split) <;> simp_all
theorem over_f (a : Int) : tendrilref25_over.f a = some (overO a) := by
  unfold tendrilref25_over.f overO
  by_cases h : a < 0
  · rw [if_pos h]; simp [h]
  · rw [if_neg h]; simp [h]
theorem rcheck_ev (x : S24) (hx : okX x) : Ev (fun k => tendrilref25_Check.f k x.f0 x.f1 x.f2 x.f3 x.f4 x.f5 x.f6 x.f7 x.f8) (chk x) := by
  obtain ⟨h0, h1, h2, h3, h4, h5, h6, h7, h8, h9⟩ := hx
  have r3 : ∀ b : Bool, Ev (fun k => tendrilref25_Check.j3 k b x.f0 x.f1 x.f2 x.f3 x.f4 x.f5 x.f6 x.f7 x.f8) (if b = true then 8 else if x.f5.size > 65536 ∨ x.f7.size > 65536 then 3 else (attrsN x.f8 (naO x) x.f8.length 0).2) := by
    intro b
    refine Ev.step (f := fun k => if b = true then some 8 else if x.f5.size > 65536 ∨ x.f7.size > 65536 then some 3 else (tendrilref09_Check.f k x.f8).bind fun t => some t.2) (fun k => ?_) ?_
    · simp only [tendrilref25_Check.j3]
      by_cases hb : b = true
      · rw [if_pos hb, if_pos hb]
      · rw [if_neg hb, if_neg hb]
        by_cases a1 : x.f5.size > 65536
        · rw [if_pos (by omega), if_pos (Or.inl a1)]
        · rw [if_neg (by omega)]
          by_cases a2 : x.f7.size > 65536
          · rw [if_pos (by omega), if_pos (Or.inr a2)]
          · rw [if_neg (by omega), if_neg (by omega)]
    · by_cases hb : b = true
      · simp only [if_pos hb]; exact Ev.now _
      · simp only [if_neg hb]
        by_cases a1 : x.f5.size > 65536 ∨ x.f7.size > 65536
        · simp only [if_pos a1]; exact Ev.now _
        · simp only [if_neg a1]
          have ha := attrs_ev x.f8 h9
          unfold attrsS at ha
          rw [← attrsN_G] at ha
          exact Ev.bind ha (Ev.now _)
  have r2 : ∀ b : Bool, Ev (fun k => tendrilref25_Check.j2 k b x.f0 x.f1 x.f2 x.f3 x.f4 x.f5 x.f6 x.f7 x.f8) (if b = true then 7 else if (x.f0 = 5 ∨ x.f0 = 6) ∧ nmO x = false then 8 else if x.f5.size > 65536 ∨ x.f7.size > 65536 then 3 else (attrsN x.f8 (naO x) x.f8.length 0).2) := by
    intro b
    have hn := rnamed_ev x.f6 true h6
    refine Ev.step (f := fun k => if b = true then some 7 else if x.f0 = 5 ∨ x.f0 = 6 then (tendrilref02_Named.f k x.f6 true).bind fun t => tendrilref25_Check.j3 k (!t) x.f0 x.f1 x.f2 x.f3 x.f4 x.f5 x.f6 x.f7 x.f8 else tendrilref25_Check.j3 k false x.f0 x.f1 x.f2 x.f3 x.f4 x.f5 x.f6 x.f7 x.f8) (fun k => ?_) ?_
    · simp only [tendrilref25_Check.j2]
      by_cases hb : b = true
      · rw [if_pos hb, if_pos hb]
      · rw [if_neg hb, if_neg hb]
        by_cases a1 : x.f0 = 5
        · rw [if_pos a1, if_pos (Or.inl a1)]
        · rw [if_neg a1]
          by_cases a2 : x.f0 = 6
          · rw [if_pos a2, if_pos (Or.inr a2)]
          · rw [if_neg a2, if_neg (by omega)]
    · by_cases hb : b = true
      · simp only [if_pos hb]; exact Ev.now _
      · simp only [if_neg hb]
        by_cases a1 : x.f0 = 5 ∨ x.f0 = 6
        · simp only [if_pos a1]
          refine Ev.bind hn ?_
          have hr := r3 (!(nmO x))
          unfold nmO at hr ⊢
          cases hnn : namedS true (B x.f6) with
          | true => rw [hnn] at hr; simpa [a1] using hr
          | false => rw [hnn] at hr; simpa [a1] using hr
        · simp only [if_neg a1]
          have hr := r3 false
          rw [if_neg (by decide)] at hr
          rw [if_neg (fun h => a1 h.1)]
          exact hr
  have r1 : ∀ b : Bool, 1 ≤ x.f0 ∧ x.f0 ≤ 7 → Ev (fun k => tendrilref25_Check.j1 k b x.f0 x.f1 x.f2 x.f3 x.f4 x.f5 x.f6 x.f7 x.f8) (if b = true then 5 else if noneO x = true then 2 else if x.f0 = 1 ∧ tgO x = false then 7 else if (x.f0 = 5 ∨ x.f0 = 6) ∧ nmO x = false then 8 else if x.f5.size > 65536 ∨ x.f7.size > 65536 then 3 else (attrsN x.f8 (naO x) x.f8.length 0).2) := by
    intro b hk
    have hn := rnamed_ev x.f4 false h4
    have ho : Ev (fun k => tendrilref25_none.f k x.f0 x.f1 x.f2 x.f3 x.f4 x.f5 x.f6 x.f7 x.f8) (noneO x) := Ev.step (fun k => none_f x hk k) (Ev.now _)
    refine Ev.step (f := fun k => if b = true then some 5 else (tendrilref25_none.f k x.f0 x.f1 x.f2 x.f3 x.f4 x.f5 x.f6 x.f7 x.f8).bind fun t => if t = true then some 2 else if x.f0 = 1 then (tendrilref02_Named.f k x.f4 false).bind fun t => tendrilref25_Check.j2 k (!t) x.f0 x.f1 x.f2 x.f3 x.f4 x.f5 x.f6 x.f7 x.f8 else tendrilref25_Check.j2 k false x.f0 x.f1 x.f2 x.f3 x.f4 x.f5 x.f6 x.f7 x.f8) (fun k => by simp only [tendrilref25_Check.j1]) ?_
    by_cases hb : b = true
    · simp only [if_pos hb]; exact Ev.now _
    · simp only [if_neg hb]
      refine Ev.bind ho ?_
      by_cases hz : noneO x = true
      · simp only [if_pos hz]; exact Ev.now _
      · simp only [if_neg hz]
        by_cases a1 : x.f0 = 1
        · simp only [if_pos a1]
          refine Ev.bind hn ?_
          have hr := r2 (!(tgO x))
          unfold tgO at hr ⊢
          cases hnn : namedS false (B x.f4) with
          | true => rw [hnn] at hr; simpa [a1] using hr
          | false => rw [hnn] at hr; simpa [a1] using hr
        · simp only [if_neg a1]
          have hr := r2 false
          rw [if_neg (by decide)] at hr
          rw [if_neg (fun h => a1 h.1)]
          exact hr
  have r0 : ∀ b : Bool, (b = false → 1 ≤ x.f0 ∧ x.f0 ≤ 7) → (b = true → x.f0 < 1 ∨ x.f0 > 7) → Ev (fun k => tendrilref25_Check.j0 k b x.f0 x.f1 x.f2 x.f3 x.f4 x.f5 x.f6 x.f7 x.f8) (chk x) := by
    intro b hb0 hb1
    unfold chk checkO
    cases b with
    | true =>
      rw [if_pos (hb1 rfl)]
      exact Ev.step (f := fun _ => some 6) (fun k => by simp only [tendrilref25_Check.j0]; rw [if_pos trivial]) (Ev.now _)
    | false =>
      have hk := hb0 rfl
      rw [if_neg (by omega)]
      have t1 := r1 true hk
      rw [if_pos rfl] at t1
      refine Ev.step (f := fun k => tendrilref25_Check.j1 k (overO x.f1 || overO x.f2 || overO x.f3) x.f0 x.f1 x.f2 x.f3 x.f4 x.f5 x.f6 x.f7 x.f8) (fun k => ?_) ?_
      · simp only [tendrilref25_Check.j0, over_f, Option.bind_some]
        rw [if_neg (by decide)]
        cases overO x.f1 <;> cases overO x.f2 <;> simp
      · have hr := r1 (overO x.f1 || overO x.f2 || overO x.f3) hk
        have : ((overO x.f1 || overO x.f2 || overO x.f3) = true) = (overO x.f1 = true ∨ overO x.f2 = true ∨ overO x.f3 = true) := by rw [Bool.or_eq_true, Bool.or_eq_true, or_assoc]
        simp only [this] at hr
        exact hr
  unfold tendrilref25_Check.f
  by_cases a1 : x.f0 < 1
  · exact Ev.congr (fun k => by rw [if_pos a1]) (r0 true (by intro h; cases h) (fun _ => Or.inl a1))
  · exact Ev.congr (fun k => by rw [if_neg a1]) (r0 (decide (x.f0 > 7)) (fun h => by simp at h; omega) (fun h => by simp at h; omega))
theorem rfirst_l0 (l : List S24) (hn : l.length ≤ 9223372036854775807) (hx : ∀ i : Nat, i < l.length → okX (rd_T24 l i)) : ∀ d i : Nat, i + d = l.length → Ev (fun k => tendrilref25_First.l0 k l (l.length : Int) (i : Int)) (firstN (fun i => chk (rd_T24 l i)) d i) := by
  intro d
  induction d with
  | zero =>
    intro i hi
    refine Ev.step (f := fun _ => some ((0 : Int), (0 : Int))) (fun k => ?_) (Ev.now _)
    simp only [tendrilref25_First.l0]; rw [if_neg (by omega)]
  | succ d ih =>
    intro i hi
    unfold firstN
    by_cases h1 : i = 1048576
    · rw [if_pos h1]
      refine Ev.step (f := fun _ => some ((i : Int), (12 : Int))) (fun k => ?_) (Ev.now _)
      simp only [tendrilref25_First.l0]; rw [if_pos (by omega), if_pos (by omega)]
    · rw [if_neg h1]
      have e1 : wrap64 ((i : Int) + 1) = ((i + 1 : Nat) : Int) := by unfold wrap64; omega
      refine Ev.step (f := fun k => (tendrilref25_Check.f k (rd_T24 l i).f0 (rd_T24 l i).f1 (rd_T24 l i).f2 (rd_T24 l i).f3 (rd_T24 l i).f4 (rd_T24 l i).f5 (rd_T24 l i).f6 (rd_T24 l i).f7 (rd_T24 l i).f8).bind fun t => if t = 0 then tendrilref25_First.l0 k l (l.length : Int) ((i + 1 : Nat) : Int) else some ((i : Int), t)) (fun k => ?_) (Ev.bind (rcheck_ev _ (hx i (by omega))) ?_)
      · simp only [tendrilref25_First.l0]
        rw [if_pos (by omega), if_neg (by omega), if_pos (by omega), if_pos (by omega), e1]
      · by_cases hz : chk (rd_T24 l i) = 0
        · simp only [if_pos hz]; exact ih (i + 1) (by omega)
        · simp only [if_neg hz]; exact Ev.now _
/-- What ops.First and its reference answer. -/
def firstS (l : List S24) : Int × Int := firstN (fun i => chk (rd_T24 l i)) l.length 0
theorem rfirst_ev (l : List S24) (hn : l.length ≤ 9223372036854775807) (hx : ∀ i : Nat, i < l.length → okX (rd_T24 l i)) : Ev (fun k => tendrilref25_First.f k l) (firstS l) := rfirst_l0 l hn hx l.length 0 (by omega)
theorem First_o (A : Option Addr) (c : Nat) (l : List S24) (w : World) (hgl : GL w) (hl : Kd.C k24 w A l.length l) (hc : l.length ≤ c) (hx : ∀ i : Nat, i < l.length → okX (rd_T24 l i)) :
    Calls Tryd.prog 14 #[.slice A l.length c] w fun e w' => e = .returned (.tuple #[.int .i64 (firstS l).1, .int .i64 (firstS l).2]) ∧ Below w.heap.size w w' :=
  First_c A c l _ w hgl hl hc fun i hi => cko _ (hx i hi)
theorem Check_x (x : S24) (A : Option Addr) (c : Nat) (w : World) (hgl : GL w) (hl : Kd.C k51 w A x.f8.length x.f8) (hc : x.f8.length ≤ c) (hx : okX x) :
    Calls Tryd.prog 13 #[opOf x A c] w fun e w' => e = .returned (.int .i64 (chk x)) ∧ Below w.heap.size w w' := Check_o x _ A c w hgl hl hc (cko x hx)
end Go.Proofs.YtgdemingopcgaaaDoorE

namespace Go.Proofs.YtgdemingopcgaaaDoorE
open Go Go.RowKit Go.Proofs.YtgdemingopcgaaaDoorW.PrintWords Go.Proofs.YtgdemingopcgaaaDoorX
set_option linter.unusedVariables false
/-- What a byte is written as; empty: as it is. -/
def formL (n : Nat) : List UInt8 := if n = 38 then [38, 97, 109, 112, 59] else if n = 60 then [38, 108, 116, 59] else if n = 62 then [38, 103, 116, 59] else if n = 34 then [38, 113, 117, 111, 116, 59] else if n = 127 ∨ n < 32 then [38, 35] ++ Lib.itoa n ++ [59] else []
theorem e_dd_len : ∀ (k m : Nat), m < 10 ^ (k + 1) → (Lib.decDigits m).length ≤ k + 1
  | 0, m, h => by rw [Lib.decDigits, dif_pos (by simpa using h)]; simp
  | k + 1, m, h => by
    by_cases h1 : m < 10
    · rw [Lib.decDigits, dif_pos h1]; simp
    · have h2 : 10 ^ (k + 1 + 1) = 10 * 10 ^ (k + 1) := by rw [Nat.pow_succ, Nat.mul_comm]
      have := e_dd_len k (m / 10) (by omega)
      rw [Lib.decDigits, dif_neg h1, List.length_append, List.length_singleton]; omega
theorem e_itoa_len {n : Nat} (h : n ≤ 255) : (Lib.itoa n).length ≤ 3 := by
  have := e_dd_len 2 n (by omega)
  unfold Lib.itoa
  rw [if_neg (by omega), Int.toNat_natCast]; omega
theorem formL_len (n : Nat) : (formL n).length ≤ 6 := by
  unfold formL
  repeat' split
  all_goals first | simp | skip
  have := e_itoa_len (n := n) (by omega)
  omega
def escape_form.f (a0 : Int) : Option ByteArray := if 0 ≤ a0 ∧ a0 ≤ 255 then some ⟨(formL a0.toNat).toArray⟩ else none
theorem form_number (n : Nat) (hn : n ≤ 255) (p : Addr) (w : World) (hgl : GL w) (hp : w.cell? p = some (.int .u8 n)) :
    Calls Tryd.prog 68 #[.pointer (some p)] w fun e w' => e = .returned (.string ⟨([38, 35] ++ Lib.itoa n ++ [59]).toArray⟩) ∧ Below w.heap.size w w' := by
  have HGL := Aside0.mk hgl
  have hlen := e_itoa_len hn
  have itoa : ∀ W, GL W → Calls Tryd.prog 53 #[.int .i64 n] W fun e w' => e = .returned (.string ⟨(Lib.itoa n).toArray⟩) ∧ Below W.heap.size W w' := fun W hW =>
    strconv_Itoa.calls n _ W hW (by unfold strconv_Itoa.f; rw [if_pos (by omega)])
  clear hgl
  go_enter Tryd.func68, Tryd.ntmps68
  go_wp2_with fail
  refine (itoa _ HGL.out).mono ?_
  rintro e w1 ⟨rfl, hb⟩
  have HB := Aside0.mk hb; clear hb
  go_wp2_with fail
  go_ret
  exact ⟨by congr 2, HB.out⟩
theorem escape_form.calls (a0 : Int) (r : ByteArray) (w : World) (hgl : GL w) (h : escape_form.f a0 = some r) :
    Calls Tryd.prog 57 #[.int .u8 a0] w fun e w' => e = .returned (.string r) ∧ Below w.heap.size w w' := by
  unfold escape_form.f at h
  by_cases hr : 0 ≤ a0 ∧ a0 ≤ 255
  rotate_left
  · rw [if_neg hr] at h; cases h
  rw [if_pos hr] at h
  obtain ⟨n, rfl⟩ := Int.eq_ofNat_of_zero_le hr.1
  have hn : n ≤ 255 := by omega
  rw [Int.toNat_natCast] at h
  injection h with h
  have HGL := Aside0.mk hgl
  clear hr hgl
  have hmf : ∀ (fn : Fn) (first cap : Array Value) (w : World), (Instr.makeFunc fn first cap).run Tryd.prog w = .ok (.func fn first cap) w := fun _ _ _ _ => rfl
  have key : ∀ k : Nat, k < 256 → n ≠ k → ((n : Int) == (k : Int)) = false := by
    intro k hk hne
    rw [beq_eq_false_iff_ne]; omega
  unfold formL at h
  have BA : ∀ x : Value, Below w.heap.size w (w.alloc (.cells #[x] 5)) := fun x => (Below.refl _ _).alloc (Nat.le_refl _) _
  by_cases h38 : n = 38
  · subst h38
    rw [if_pos rfl] at h
    subst h
    go_enter Tryd.func57, Tryd.ntmps57
    go_wp2_with fail
    go_ret
    exact ⟨rfl, BA _⟩
  rw [if_neg h38] at h
  by_cases h60 : n = 60
  · subst h60
    rw [if_pos rfl] at h
    subst h
    go_enter Tryd.func57, Tryd.ntmps57
    go_wp2_with fail
    go_ret
    exact ⟨rfl, BA _⟩
  rw [if_neg h60] at h
  by_cases h62 : n = 62
  · subst h62
    rw [if_pos rfl] at h
    subst h
    go_enter Tryd.func57, Tryd.ntmps57
    go_wp2_with fail
    go_ret
    exact ⟨rfl, BA _⟩
  rw [if_neg h62] at h
  by_cases h34 : n = 34
  · subst h34
    rw [if_pos rfl] at h
    subst h
    go_enter Tryd.func57, Tryd.ntmps57
    go_wp2_with fail
    go_ret
    exact ⟨rfl, BA _⟩
  rw [if_neg h34] at h
  have k38 := key 38 (by omega) h38
  have k60 := key 60 (by omega) h60
  have k62 := key 62 (by omega) h62
  have k34 := key 34 (by omega) h34
  by_cases h127 : n = 127
  · subst h127
    rw [if_pos (.inl rfl)] at h
    subst h
    clear k38 k60 k62 k34 key
    go_enter Tryd.func57, Tryd.ntmps57
    go_wp2_with fail
    refine (form_number 127 (by omega) _ _ (HGL.out.below (BA _)) (by rw [World.cell?_alloc_new]; rfl)).mono ?_
    rintro e w1 ⟨rfl, hb⟩
    have HB := Aside0.mk (below_step (BA _) hb); clear hb
    go_wp2_with fail
    go_ret
    exact ⟨rfl, HB.out⟩
  have k127 := key 127 (by omega) h127
  by_cases h32 : n < 32
  · rw [if_pos (.inr h32)] at h
    subst h
    have k32 : (n : Int) < 32 := by omega
    have hnA := Aside0.mk hn
    clear h38 h60 h62 h34 h127 h32 key hn
    go_enter Tryd.func57, Tryd.ntmps57
    go_wp2_with fail
    refine (form_number n hnA.out _ _ (HGL.out.below (BA _)) (by rw [World.cell?_alloc_new]; rfl)).mono ?_
    rintro e w1 ⟨rfl, hb⟩
    have HB := Aside0.mk (below_step (BA _) hb); clear hb
    go_wp2_with fail
    go_ret
    exact ⟨rfl, HB.out⟩
  · rw [if_neg (by omega)] at h
    subst h
    have k32 : ¬ (n : Int) < 32 := by omega
    clear h38 h60 h62 h34 h127 h32 key hn
    go_enter Tryd.func57, Tryd.ntmps57
    go_wp2_with fail
    go_ret
    exact ⟨rfl, BA _⟩
end Go.Proofs.YtgdemingopcgaaaDoorE

namespace Go.Proofs.YtgdemingopcgaaaDoorE
open Go Go.RowKit Go.Proofs.YtgdemingopcgaaaDoorW.PrintWords Go.Proofs.YtgdemingopcgaaaDoorX
set_option linter.unusedVariables false
theorem info_builder : (Tryd.prog.info? 86).map (·.size) = some 2 := by kernel_rfl
theorem info_byte : (Tryd.prog.info? 5).map (fun i => (i.zero, i.size, i.bytes)) = some (some (.int .u8 0), 1, 1) := by kernel_rfl
theorem lies_builder : liesAt Tryd.prog Tryd.prog.depth 86 (2 / Tryd.prog.cellsOf 86) 0 86 1 = true := by kernel_rfl
set_option maxRecDepth 100000 in
theorem b_check_used (b : Nat) (w : World) (h0 : w.cell? ⟨b, 0, none⟩ = some (.pointer (some ⟨b, 0, none⟩))) :
    Calls Tryd.prog 69 #[.pointer (some ⟨b, 0, none⟩)] w fun e w' => e = .returned (.tuple #[]) ∧ w' = w := by
  obtain ⟨j, hj, _⟩ := Option.map_eq_some_iff.1 info_builder
  go_enter Tryd.func69, Tryd.ntmps69
  go_wp2
  rw [Lib.run_neq_ptr_same w _ Tryd.underlying83 hj]
  go_wp2
  go_end0
  exact ⟨rfl, rfl⟩
set_option maxRecDepth 100000 in
theorem b_check_fresh (b : Nat) (w : World) (h0 : w.cell? ⟨b, 0, none⟩ = some (.pointer none)) (hsh : w.shape? b = some (86, 2)) (hfz : w.frozen? ⟨b, 0, none⟩ = false) :
    Calls Tryd.prog 69 #[.pointer (some ⟨b, 0, none⟩)] w fun e w' => e = .returned (.tuple #[]) ∧ w' = w.setCell ⟨b, 0, none⟩ (.pointer (some ⟨b, 0, none⟩)) := by
  obtain ⟨j, hj, hjs⟩ := Option.map_eq_some_iff.1 info_builder
  go_enter Tryd.func69, Tryd.ntmps69
  go_wp2
  rw [Lib.run_to_unsafe w ⟨b, 0, none⟩ Tryd.underlying83 Tryd.underlying100 hj (by rw [hjs]; decide) hsh (Nat.zero_lt_succ 1)]
  simp only [Result.andThen]
  rw [Oper.upon_value]
  go_wp2
  rw [run_callFunc_extern Tryd.func76 (by kernel_rfl) (by kernel_rfl) (by kernel_rfl) (e := Extern.AbiNoEscape.same) (by kernel_rfl)]
  rw [Lib.run_noEscape]
  simp only [Result.andThen]
  rw [Oper.upon_value]
  go_wp2
  rw [Lib.run_from_unsafe w ⟨b, 0, none⟩ Tryd.underlying100 Tryd.underlying83 hj hsh lies_builder]
  simp only [Result.andThen]
  rw [Oper.upon_value]
  go_wp2
  go_end0
  exact ⟨rfl, rfl⟩
theorem b_check (B b : Nat) (bs : List Value) (w : World) (h : Lib.IsBuilderF 86 5 B b bs w) :
    Calls Tryd.prog 69 #[.pointer (some ⟨b, 0, none⟩)] w fun e w' => e = .returned (.tuple #[]) ∧ (Lib.BuilderAtF 86 5 B b (.pointer (some ⟨b, 0, none⟩)) bs w' ∧ Below B w w' ∧ Lib.OthersKept 5 (some b) w w') := by
  rcases h with h | h
  · refine (b_check_fresh b w h.cell0 h.shape h.frozen0).mono ?_
    rintro e w' ⟨rfl, rfl⟩
    exact ⟨rfl, h.used _, (Below.refl B w).setCell (p := ⟨b, 0, none⟩) h.1 _, (Lib.OthersKept.refl _ _ w).setCell ⟨b, 0, none⟩ rfl _⟩
  · refine (b_check_used b w h.cell0).mono ?_
    rintro e w' ⟨rfl, rfl⟩
    exact ⟨rfl, h, Below.refl B _, Lib.OthersKept.refl _ _ _⟩
set_option maxHeartbeats 1000000 in
set_option maxRecDepth 100000 in
theorem b_byte (B b : Nat) (l : List UInt8) (c : UInt8) (w : World) (h : Lib.IsBuilderF 86 5 B b (Lib.byteCells l) w) (hlen : l.length + 1 ≤ 140737488355328) (hBw : B ≤ w.heap.size) :
    Calls Tryd.prog 58 #[.pointer (some ⟨b, 0, none⟩), .int .u8 c.toNat] w fun e w' => e = .returned .nilIface ∧ (Lib.IsBuilderF 86 5 B b (Lib.byteCells (l ++ [c])) w' ∧ Below B w w' ∧ Lib.OthersKept 5 (some b) w w') := by
  obtain ⟨i0, hi, hz0, hz1, hz2⟩ := info_parts info_byte
  have hbl := Lib.byteCells_length l
  go_enter Tryd.func58, Tryd.ntmps58
  go_wp2_with fail
  refine (b_check B b _ _ h).mono ?_
  rintro e w1 ⟨rfl, h1, hb1, hk1⟩
  obtain ⟨hB, v, hbk, hown, hne⟩ := h1
  have c0 : w1.cell? ⟨b, 0, none⟩ = some (.pointer (some ⟨b, 0, none⟩)) := by rw [Lib.cell_of_heap hbk]; rfl
  have c1 : w1.cell? ⟨b, 1, none⟩ = some v := by rw [Lib.cell_of_heap hbk]; rfl
  go_wp2_with (at_builtin; refine wpList_append_ownF _ rfl _ _ 84 rfl B 5 i0 (.int .u8 0) 1 1 Tryd.underlying84 hi hz0 hz1 hz2 rfl (by decide) _ _ _ rfl (hown.alloc _) ⟨w1.heap.size, 0, none⟩ 1 1 [.int .u8 c.toNat] rfl rfl ?c1 ?c2 ?c3 ?c4 ?c5 ?_)
  case c1 =>
    intro j u hj
    match j, hj with
    | 0, hj => simp at hj; subst hj; simp [Addr.add]
  case c2 => intro u hu; simp at hu; subst hu; rfl
  case c3 => unfold maxLen; omega
  case c4 => omega
  case c5 => have := hb1.size; simp; omega
  intro v' w2 hown' hgrow _
  have hlt : b < w1.heap.size := by
    rcases Nat.lt_or_ge b w1.heap.size with h' | h'
    · exact h'
    · simp [Array.getElem?_eq_none h'] at hbk
  have hb2 : w2.heap[b]? = some (.cells #[.pointer (some ⟨b, 0, none⟩), v] 86 (0, 0)) := by
    rw [hgrow.block b (by simp; omega) (fun e => hne e.symm), Lib.alloc_old w1 _ b hlt]
    exact hbk
  have d0 : w2.cell? ⟨b, 0, none⟩ = some (.pointer (some ⟨b, 0, none⟩)) := by rw [Lib.cell_of_heap hb2]; rfl
  have d1 : w2.cell? ⟨b, 1, none⟩ = some v := by rw [Lib.cell_of_heap hb2]; rfl
  have f1 : w2.frozen? ⟨b, 1, none⟩ = false := Lib.frozen_of_heap hb2 1
  obtain ⟨g, cap, rfl⟩ : ∃ g cap, v' = .slice (some ⟨g, 0, none⟩) (l.length + 1) cap := by
    rcases hown'.2 with ⟨_, h0⟩ | ⟨g, cap, cur, fz, hv, _⟩
    · omega
    · exact ⟨g, cap, hv⟩
  go_wp2
  go_ret
  refine ⟨rfl, ?_, ?_, ((hk1.alloc _).grown hgrow (Lib.ownsRowF_kind (hown.alloc _))).setCell ⟨b, 1, none⟩ rfl _⟩
  · have e : Lib.byteCells (l ++ [c]) = Lib.byteCells l ++ [.int .u8 c.toNat] := by simp [Lib.byteCells]
    rw [e]
    exact .inr (Lib.BuilderAtF.put (T := 86) (e := 5) hB hb2 (bs' := Lib.byteCells l ++ [.int .u8 c.toNat]) (by rw [List.length_append, Lib.byteCells_length]; exact hown') (by decide))
  · exact ((hb1.alloc (by have := hb1.size; omega) _).grown hgrow (by have := hb1.size; simp; omega) (fun k hk => (hown.lt k hk).1)).setCell (p := ⟨b, 1, none⟩) hB _
set_option maxHeartbeats 1000000 in
set_option maxRecDepth 100000 in
theorem b_string (B b : Nat) (l : List UInt8) (s : ByteArray) (w : World) (h : Lib.IsBuilderF 86 5 B b (Lib.byteCells l) w) (hlen : l.length + s.size ≤ 140737488355328) (hBw : B ≤ w.heap.size) :
    Calls Tryd.prog 66 #[.pointer (some ⟨b, 0, none⟩), .string s] w fun e w' => e = .returned (.tuple #[.int .i64 s.size, .nilIface]) ∧ (Lib.IsBuilderF 86 5 B b (Lib.byteCells (l ++ s.data.toList)) w' ∧ Below B w w' ∧ Lib.OthersKept 5 (some b) w w') := by
  obtain ⟨i0, hi, hz0, hz1, hz2⟩ := info_parts info_byte
  have hbl := Lib.byteCells_length l
  go_enter Tryd.func66, Tryd.ntmps66
  go_wp2_with fail
  refine (b_check B b _ _ h).mono ?_
  rintro e w1 ⟨rfl, h1, hb1, hk1⟩
  obtain ⟨hB, v, hbk, hown, hne⟩ := h1
  have c0 : w1.cell? ⟨b, 0, none⟩ = some (.pointer (some ⟨b, 0, none⟩)) := by rw [Lib.cell_of_heap hbk]; rfl
  have c1 : w1.cell? ⟨b, 1, none⟩ = some v := by rw [Lib.cell_of_heap hbk]; rfl
  go_wp2_with (at_builtin; refine Lib.wpList_append_own_stringF _ rfl _ _ 84 9 rfl B 5 i0 Tryd.underlying84 Tryd.underlying9 hi hz0 hz1 hz2 _ _ _ rfl hown s rfl ?c3 ?c4 ?c5 ?_)
  case c3 => unfold maxLen; omega
  case c4 => omega
  case c5 => have := hb1.size; omega
  intro v' w2 hown' hgrow _
  have hlt : b < w1.heap.size := by
    rcases Nat.lt_or_ge b w1.heap.size with h' | h'
    · exact h'
    · simp [Array.getElem?_eq_none h'] at hbk
  have hb2 : w2.heap[b]? = some (.cells #[.pointer (some ⟨b, 0, none⟩), v] 86 (0, 0)) := by
    rw [hgrow.block b hlt (fun e => hne e.symm)]
    exact hbk
  have d0 : w2.cell? ⟨b, 0, none⟩ = some (.pointer (some ⟨b, 0, none⟩)) := by rw [Lib.cell_of_heap hb2]; rfl
  have d1 : w2.cell? ⟨b, 1, none⟩ = some v := by rw [Lib.cell_of_heap hb2]; rfl
  have f1 : w2.frozen? ⟨b, 1, none⟩ = false := Lib.frozen_of_heap hb2 1
  obtain ⟨ao, n', cap, rfl⟩ : ∃ ao n' cap, v' = .slice ao n' cap := by
    rcases hown'.2 with ⟨hv, _⟩ | ⟨g, cap, cur, fz, hv, _⟩
    · exact ⟨_, _, _, hv⟩
    · exact ⟨_, _, _, hv⟩
  go_wp2
  go_ret2
  refine ⟨rfl, ?_, ?_, (hk1.grown hgrow (Lib.ownsRowF_kind hown)).setCell ⟨b, 1, none⟩ rfl _⟩
  · have e : Lib.byteCells (l ++ s.data.toList) = Lib.byteCells l ++ Lib.strCells s := by simp [Lib.byteCells, Lib.strCells]
    rw [e]
    exact .inr (Lib.BuilderAtF.put (T := 86) (e := 5) hB hb2 (bs' := Lib.byteCells l ++ Lib.strCells s) (by rw [List.length_append, Lib.byteCells_length, Lib.strCells_length]; exact hown') (by decide))
  · exact (hb1.grown hgrow (by have := hb1.size; omega) (fun k hk => (hown.lt k hk).1)).setCell (p := ⟨b, 1, none⟩) hB _
theorem b_below {T e : TypeId} {B b : Nat} {bs : List Value} {W W' : World} (h : Lib.IsBuilderF T e B b bs W) (hb : Below W.heap.size W W') : Lib.IsBuilderF T e B b bs W' := by
  have one : ∀ p, Lib.BuilderAtF T e B b p bs W → Lib.BuilderAtF T e B b p bs W' := by
    intro p hp
    have hlt := hp.lt
    obtain ⟨hB, v, hv, hown, hne⟩ := hp
    exact ⟨hB, v, (hb.block b hlt).trans hv, hown.kept (row := none) ⟨hb.os, hb.tape, hb.output, hb.size, fun k hk _ => hb.block k hk⟩ (Classical.em _), hne⟩
  exact h.elim (fun x => .inl (one _ x)) (fun x => .inr (one _ x))
end Go.Proofs.YtgdemingopcgaaaDoorE

namespace Go.Proofs.YtgdemingopcgaaaDoorE
open Go Go.RowKit Go.Proofs.YtgdemingopcgaaaDoorW.PrintWords Go.Proofs.YtgdemingopcgaaaDoorX
set_option linter.unusedVariables false
/-- What a byte is written as, itself if it has no form. -/
def escB (c : UInt8) : List UInt8 := if formL c.toNat = [] then [c] else formL c.toNat
def escS (l : List UInt8) : List UInt8 := l.flatMap escB
theorem escB_len (c : UInt8) : (escB c).length ≤ 6 := by
  unfold escB
  split
  · simp
  · exact formL_len _
theorem escS_len : ∀ l : List UInt8, (escS l).length ≤ 6 * l.length
  | [] => by simp [escS]
  | c :: t => by
    have h := escS_len t
    have h2 := escB_len c
    unfold escS at h ⊢
    rw [List.flatMap_cons, List.length_append, List.length_cons]; omega
theorem escS_snoc (l : List UInt8) (c : UInt8) : escS (l ++ [c]) = escS l ++ escB c := by simp [escS]
theorem escS_take (s : ByteArray) (k : Nat) (h : k < s.data.toList.length) : escS (s.data.toList.take (k + 1)) = escS (s.data.toList.take k) ++ escB s.data.toList[k] := by
  rw [List.take_succ_eq_append_getElem h, escS_snoc]
theorem escS_take_len (s : ByteArray) (k : Nat) : (escS (s.data.toList.take k)).length ≤ 6 * k := by
  have h := escS_len (s.data.toList.take k)
  have h2 : (s.data.toList.take k).length ≤ k := by rw [List.length_take]; omega
  omega
def escape_Escape.f (a0 : ByteArray) : Option ByteArray := if a0.size ≤ 1000000000000 then some ⟨(escS a0.data.toList).toArray⟩ else none
set_option maxHeartbeats 1000000 in
theorem escape_Escape.calls (a0 : ByteArray) (r : ByteArray) (w : World) (hgl : GL w) (h : escape_Escape.f a0 = some r) :
    Calls Tryd.prog 55 #[.string a0] w fun e w' => e = .returned (.string r) ∧ Below w.heap.size w w' := by
  unfold escape_Escape.f at h
  by_cases hr : a0.size ≤ 1000000000000
  rotate_left
  · rw [if_neg hr] at h; cases h
  rw [if_pos hr] at h
  injection h with h
  subst h
  have HGL := Aside0.mk hgl
  have HR := Aside0.mk hr
  clear hr hgl
  have H0 := Aside0.mk (Lib.IsBuilderF.of (Lib.fresh_isBuilder 86 5 w))
  have HB0 := Aside0.mk ((Below.refl w.heap.size w).alloc (Nat.le_refl _) (.cells #[.pointer none, .slice none 0 0] 86))
  go_enter Tryd.func55, Tryd.ntmps55
  go_wp2_with fail
  go_loopw [8] (fun i wr => ∃ k : Nat, k ≤ a0.size ∧ i = .int .i64 k ∧ Lib.IsBuilderF 86 5 w.heap.size w.heap.size (Lib.byteCells (escS (a0.data.toList.take k))) wr ∧ Below w.heap.size w wr) (fun i _ => a0.size - (intOf i).toNat)
  case atStart => exact ⟨0, Nat.zero_le _, rfl, H0.out, HB0.out⟩
  case round =>
    obtain ⟨k, hk, rfl, hib, hbl⟩ := hrel
    have HI := Aside0.mk hib
    have HBL := Aside0.mk hbl
    have hr := HR.out
    clear hib hbl
    go_wp2_with fail
    · have hlt : k < a0.size := by assumption
      have hcx : a0[k] = a0.data.toList[k]'(by simpa using hlt) := by simp [ByteArray.getElem_eq_getElem_data]
      have HT := Aside0.mk (escS_take a0 k (by simpa using hlt))
      rw [← hcx] at HT
      generalize hck : a0[k] = c at HT ⊢
      have hc := UInt8.toNat_lt c
      have hf : escape_form.f (c.toNat : Int) = some ⟨(formL c.toNat).toArray⟩ := by
        unfold escape_form.f
        rw [if_pos (by omega), Int.toNat_natCast]
      refine (escape_form.calls _ _ wr (HGL.out.below HBL.out) hf).mono ?_
      rintro e w1 ⟨rfl, hb⟩
      have HB1 := Aside0.mk hb
      clear hb hf hcx
      have HK := Aside0.mk hck
      clear hck
      have LN := Aside0.mk (escS_take_len a0 k)
      have LF := Aside0.mk (formL_len c.toNat)
      have hsz : w.heap.size ≤ w1.heap.size := Nat.le_trans HBL.out.size HB1.out.size
      have IB1 := Aside0.mk (b_below HI.out HB1.out)
      have BB1 := Aside0.mk (below_step HBL.out HB1.out)
      go_wp2_with fail
      · refine (b_string w.heap.size w.heap.size _ ⟨(formL c.toNat).toArray⟩ w1 IB1.out (by have := LN.out; have := LF.out; have := HR.out; simp [ByteArray.size]; omega) hsz).mono ?_
        rintro e w2 ⟨rfl, hib2, hb2, -⟩
        have H2 := Aside0.mk hib2
        have B2 := Aside0.mk (BB1.out.trans hb2)
        clear hib2 hb2
        go_wp2_with fail
        go_roundw
        case rel =>
          refine ⟨k + 1, by omega, by go_num, ?_, B2.out⟩
          have hh : (!(formL c.toNat).isEmpty) = true := by assumption
          have hne : ¬ formL c.toNat = [] := by simpa using hh
          have e1 : escB c = formL c.toNat := by unfold escB; rw [if_neg hne]
          have := H2.out
          rw [HT.out, e1]
          exact this
        case measure => simp [intOf]; omega
      · rw [HK.out]
        refine (b_byte w.heap.size w.heap.size _ c w1 IB1.out (by have := LN.out; have := HR.out; omega) hsz).mono ?_
        rintro e w2 ⟨rfl, hib2, hb2, -⟩
        have H2 := Aside0.mk hib2
        have B2 := Aside0.mk (BB1.out.trans hb2)
        clear hib2 hb2
        go_wp2_with fail
        go_roundw
        case rel =>
          refine ⟨k + 1, by omega, by go_num, ?_, B2.out⟩
          have hh : (!(formL c.toNat).isEmpty) = false := by assumption
          have hne : formL c.toNat = [] := by simpa using hh
          have e1 : escB c = [c] := by unfold escB; rw [if_pos hne]
          have := H2.out
          rw [HT.out, e1]
          exact this
        case measure => simp [intOf]; omega
    · have hge : ¬ k < a0.size := by assumption
      have hta : a0.data.toList.take k = a0.data.toList := List.take_of_length_le (by simpa using hge)
      have HI2 := Aside0.mk (hta ▸ HI.out)
      refine (Tryd.Builder_String_any_f w.heap.size w.heap.size _ wr HI2.out HBL.out.size).mono ?_
      rintro e w1 ⟨rfl, -, hb⟩
      have HB1 := Aside0.mk (HBL.out.trans hb)
      clear hb
      go_wp2_with fail
      go_ret
      exact ⟨rfl, HB1.out⟩
end Go.Proofs.YtgdemingopcgaaaDoorE

namespace Go.Proofs.YtgdemingopcgaaaDoorE
open Go Go.RowKit Go.Proofs.YtgdemingopcgaaaDoorW.PrintWords Go.Proofs.YtgdemingopcgaaaDoorX Go.Proofs.YtgdemingopcgaaaDoor.P26
set_option linter.unusedVariables false
set_option linter.unusedSimpArgs false
def escT (s : ByteArray) : ByteArray := ⟨(escS s.data.toList).toArray⟩
def quoB (s : ByteArray) : ByteArray := ((⟨#[34]⟩ : ByteArray) ++ escT s) ++ (⟨#[34]⟩ : ByteArray)
theorem escT_size (s : ByteArray) : (escT s).size ≤ 6 * s.size := by
  have h := escS_len s.data.toList
  have e : (escT s).size = (escS s.data.toList).length := by unfold escT; simp [ByteArray.size]
  have e2 : s.data.toList.length = s.size := by rw [Array.length_toList]; rfl
  rw [e]; omega
theorem quoB_size (s : ByteArray) : (quoB s).size = (escT s).size + 2 := by
  unfold quoB; rw [ByteArray.size_append, ByteArray.size_append]; show 1 + _ + 1 = _; omega
theorem quoted_c (s : ByteArray) (hs : s.size ≤ 1000000000000) (w : World) (hgl : GL w) :
    Calls Tryd.prog 43 #[.string s] w fun e w' => e = .returned (.string (quoB s)) ∧ Below w.heap.size w w' := by
  have HGL := Aside0.mk hgl
  have hl : (escT s).size ≤ 10000000000000 := by have := escT_size s; omega
  have es : ∀ W, GL W → Calls Tryd.prog 55 #[.string s] W fun e w' => e = .returned (.string (escT s)) ∧ Below W.heap.size W w' := fun W hW =>
    escape_Escape.calls s _ W hW (by unfold escape_Escape.f; rw [if_pos hs]; rfl)
  clear hgl
  have h1 : 1 + (escT s).size ≤ 9223372036854775807 := by omega
  have h2 : ((⟨#[34]⟩ : ByteArray) ++ escT s).size + 1 ≤ 9223372036854775807 := by rw [ByteArray.size_append]; show 1 + _ + 1 ≤ _; omega
  have h1' : (9223372036854775807 < 1 + (escT s).size) = False := eq_false (Nat.not_lt.2 h1)
  have h2' : (9223372036854775807 < ((⟨#[34]⟩ : ByteArray) ++ escT s).size + 1) = False := eq_false (Nat.not_lt.2 h2)
  have h2x : (9223372036854775807 < 1 + (escT s).size + 1) = False := eq_false (Nat.not_lt.2 (by omega))
  go_enter Tryd.func43, Tryd.ntmps43
  go_wp2_with fail
  refine (es _ HGL.out).mono ?_
  rintro e w1 ⟨rfl, hb⟩
  have HB := Aside0.mk hb; clear hb
  go_wp2_with fail
  go_ret
  exact ⟨rfl, HB.out⟩
/-- What put makes of out: every one after a space. -/
def putS : ByteArray → List ByteArray → ByteArray
  | o, [] => o
  | o, s :: l => putS (o ++ ((⟨#[32]⟩ : ByteArray) ++ s)) l
def lenS (l : List ByteArray) : Nat := (l.map fun s => s.size + 1).sum
theorem putS_size : ∀ (l : List ByteArray) (o : ByteArray), (putS o l).size = o.size + lenS l
  | [], o => by simp [putS, lenS]
  | s :: l, o => by
    rw [putS, putS_size l, ByteArray.size_append, ByteArray.size_append]
    unfold lenS
    rw [List.map_cons, List.sum_cons]
    show o.size + (1 + s.size) + _ = _
    omega
theorem putS_snoc : ∀ (l : List ByteArray) (o s : ByteArray), putS o (l ++ [s]) = putS o l ++ ((⟨#[32]⟩ : ByteArray) ++ s)
  | [], o, s => rfl
  | t :: l, o, s => by
    rw [List.cons_append, putS, putS, putS_snoc l]
theorem put_c (l : List ByteArray) (o : ByteArray) (p g c : Nat) (w : World)
    (ho : o.size + lenS l ≤ 1000000000000000) (hn : l.length ≤ 100)
    (hp : w.heap[p]? = some (.cells #[.string o] 9 (0, 0)))
    (hg : ∀ i : Nat, (h : i < l.length) → w.cell? ⟨g, i, none⟩ = some (.string l[i])) (hpg : p ≠ g) :
    Calls Tryd.prog 41 #[.slice (some ⟨g, 0, none⟩) l.length c, .pointer (some ⟨p, 0, none⟩)] w fun e w' => e = .returned (.tuple #[]) ∧ w'.heap[p]? = some (.cells #[.string (putS o l)] 9 (0, 0)) ∧ Below p w w' := by
  have HP := Aside0.mk hp
  have HO := Aside0.mk ho
  have HGc := Aside0.mk hg
  have HPG := Aside0.mk hpg
  clear hp ho hg hpg
  go_enter Tryd.func41, Tryd.ntmps41
  go_wp2_with fail
  go_loopw [7] (fun i wr => ∃ k : Nat, k ≤ l.length ∧ i = .int .i64 k ∧ wr.heap[p]? = some (.cells #[.string (putS o (l.take k))] 9 (0, 0)) ∧ (∀ q : Nat, q ≠ p → wr.heap[q]? = w.heap[q]?) ∧ Below p w wr) (fun i _ => l.length - (intOf i).toNat)
  case atStart => exact ⟨0, Nat.zero_le _, rfl, HP.out, fun q _ => rfl, Below.refl _ _⟩
  case round =>
    obtain ⟨k, hk, rfl, hc, hq, hb⟩ := hrel
    have HB := Aside0.mk hb
    have HC := Aside0.mk hc
    have HQ := Aside0.mk hq
    clear hc hq hb
    by_cases hlt : k < l.length
    rotate_left
    · have he : k = l.length := by omega
      subst he
      go_wp2_with fail
      refine bodyPost_end (results_none rfl _ _ _) rfl ?_
      refine ⟨rfl, ?_, HB.out⟩
      rw [HC.out, List.take_length]
    have hl1 : wr.cell? ⟨g, k, none⟩ = some (.string l[k]) := by
      have h1 := HGc.out k hlt
      unfold World.cell? at h1 ⊢
      rw [HQ.out g (Ne.symm HPG.out)]
      exact h1
    have hl2 : wr.cell? ⟨p, 0, none⟩ = some (.string (putS o (l.take k))) := Lib.cell_of_heap HC.out 0
    have hl3 := Lib.frozen_of_heap HC.out 0
    have hs1 : (putS o (l.take k)).size + lenS (l.drop k) ≤ 1000000000000000 := by
      rw [putS_size]
      have h := HO.out
      have e : lenS l = lenS (l.take k) + lenS (l.drop k) := by
        unfold lenS
        conv => lhs; rw [← List.take_append_drop k l, List.map_append, List.sum_append]
      omega
    have hs2 : l[k].size + 1 ≤ lenS (l.drop k) := by
      rw [List.drop_eq_getElem_cons hlt]
      unfold lenS
      rw [List.map_cons, List.sum_cons]
      omega
    have HT := Aside0.mk (show putS o (l.take (k + 1)) = putS o (l.take k) ++ ((⟨#[32]⟩ : ByteArray) ++ l[k]) by rw [List.take_succ_eq_append_getElem hlt, putS_snoc])
    generalize l[k] = s at *
    generalize putS o (l.take k) = u at *
    have z1 : (9223372036854775807 < 1 + s.size) = False := eq_false (by omega)
    have z2 : (9223372036854775807 < u.size + ((⟨#[32]⟩ : ByteArray) ++ s).size) = False := eq_false (by rw [ByteArray.size_append]; show ¬ _ < u.size + (1 + s.size); omega)
    have z2x : (9223372036854775807 < u.size + (1 + s.size)) = False := eq_false (by omega)
    go_wp2_with fail
    refine ⟨⟨k + 1, by omega, by go_num, ?_, ?_, HB.out.setCell (Nat.le_refl _) _⟩, by simp [intOf]; omega⟩
    · rw [HT.out]
      exact set_at_ HC.out 0 _
    · intro q hq
      rw [← HQ.out q hq]
      simp [World.setCell, Array.getElem?_modify, Ne.symm hq]
end Go.Proofs.YtgdemingopcgaaaDoorE

namespace Go.Proofs.YtgdemingopcgaaaDoor.P26
open Go.RowKit Go.Proofs.YtgdemingopcgaaaDoorE Go.Proofs.YtgdemingopcgaaaDoorW.PrintWords Go.Proofs.YtgdemingopcgaaaDoorW.PrintLast Go.Proofs.YtgdemingopcgaaaDoorW.PrintMore
attribute [local go_sem] max2_int min2_int max_two min_two max_three min_three max_four min_four   -- for this text's walks alone
set_option linter.unusedVariables false
set_option linter.unusedSimpArgs false

def tendrilref25_Times.l0 : Nat → List (S24) → Int → Int → Int → Int → Option (Int)
  | 0, _, _, _, _, _ => none
  | k + 1, x0, x1, x5, x8, x9 => if x9 < x8 then (if 0 ≤ x9 then (if x9 < (x0.length : Int) then (if ((rd_T24 x0 x9).f0) = x1 then (tendrilref25_Times.l0 k x0 x1 (wrap64 (x5 + 1)) x8 (wrap64 (x9 + 1))) else (tendrilref25_Times.l0 k x0 x1 x5 x8 (wrap64 (x9 + 1)))) else (none)) else (none)) else (some x5)
def tendrilref25_Times.f (k : Nat) (l0 : List (S24)) (a1 : Int) : Option (Int) := tendrilref25_Times.l0 k l0 a1 0 (l0.length : Int) 0
theorem tendrilref25_Times.mono_l : ∀ k, (∀ y0 y1 y2 y3 y4, LeO (tendrilref25_Times.l0 k y0 y1 y2 y3 y4) (tendrilref25_Times.l0 (k + 1) y0 y1 y2 y3 y4))
  | 0 => fun _ _ _ _ _ r h => by simp [tendrilref25_Times.l0] at h
  | k + 1 => by
    have ih0 := tendrilref25_Times.mono_l k
    · intro y0 y1 y2 y3 y4
      unfold tendrilref25_Times.l0
      repeat' first
      | (with_reducible exact ih0 _ _ _ _ _)
      | (with_reducible exact LeO.refl _)
      | (with_reducible exact LeO.none _)
      | (with_reducible refine LeO.ite ?_ ?_)
      | (with_reducible refine LeO.bind ?_ (fun _ => ?_))
      | exact ih0 _ _ _ _ _
      | exact LeO.none _
      | refine LeO.ite ?_ ?_
      | refine LeO.bind ?_ (fun _ => ?_)
theorem tendrilref25_Times.mono : ∀ a0 a1 k, LeO (tendrilref25_Times.f k a0 a1) (tendrilref25_Times.f (k + 1) a0 a1) := by
  intro a0 a1 k
  have ih0 := tendrilref25_Times.mono_l k
  unfold tendrilref25_Times.f
  repeat' first
      | (with_reducible exact ih0 _ _ _ _ _)
      | (with_reducible exact LeO.refl _)
      | (with_reducible exact LeO.none _)
      | (with_reducible refine LeO.ite ?_ ?_)
      | (with_reducible refine LeO.bind ?_ (fun _ => ?_))
      | exact ih0 _ _ _ _ _
      | exact LeO.none _
      | refine LeO.ite ?_ ?_
      | refine LeO.bind ?_ (fun _ => ?_)
set_option maxHeartbeats 8000000 in
set_option maxRecDepth 100000 in
theorem tendrilref25_Times.calls (k : Nat) (A0 : Option Addr) (c0 : Nat) (l0 : List (S24)) (a1 : Int) (r : Int) (w : World) (hgl : Go.Proofs.YtgdemingopcgaaaDoorX.GL w) (hr0 : Kd.C k24 w A0 l0.length l0) (hc0 : l0.length ≤ c0) (h : tendrilref25_Times.f k l0 a1 = some r) :
    Calls Tryd.prog 17 #[.slice A0 l0.length c0, .int .i64 a1] w fun e w' => e = .returned (.int .i64 r) ∧ Drawn0 w w' := by
  have HR0 := Aside0.mk hr0
  have HC0 := Aside0.mk hc0
  clear hr0 hc0
  have HGL := Aside0.mk hgl
  clear hgl
  have H : (tendrilref25_Times.l0 k l0 a1 0 (l0.length : Int) 0) = some r := h
  clear h
  have H' := Aside0.mk H
  clear H
  go_enter Tryd.func17, Tryd.ntmps17
  go_wp2
  go_loopg [5, 9] k (fun kq v5 v9 w' => ∃ (x5_1 : Int) (x9_1 : Int), v5 = .int .i64 x5_1 ∧ v9 = .int .i64 x9_1 ∧ Aside0 (tendrilref25_Times.l0 kq l0 a1 x5_1 (l0.length : Int) x9_1 = some r) ∧ Aside0 (kq ≤ k) ∧ Drawn0 w w')
  case atStart => exact ⟨(0), (0), (by first | rfl | (simp; done) | (simp [*]; done)), (by first | rfl | (simp; done) | (simp [*]; done)), H', ⟨Nat.le_refl _⟩, by repeat (first | exact Drawn0.refl _ | apply Drawn0.step)⟩
  case round =>
    clear H'
    try clear c1
    try clear p2
    obtain ⟨x5_1, x9_1, rfl, rfl, HA, HK1, ⟨m1, rfl⟩⟩ := hrel
    cases gk with
    | zero => exact absurd HA.out (by simp [tendrilref25_Times.l0])
    | succ k1 =>
      have H := HA.out
      clear HA
      simp only [tendrilref25_Times.l0] at H
      by_cases c3 : x9_1 < (l0.length : Int)
      · rw [if_pos c3] at H
        have c3b0 : decide (x9_1 < (l0.length : Int)) = true := decide_eq_true c3
        clear c3
        by_cases c4 : 0 ≤ x9_1
        · rw [if_pos c4] at H
          have c4b0 : decide (0 ≤ x9_1) = true := decide_eq_true c4
          clear c4
          by_cases c5 : x9_1 < (l0.length : Int)
          · rw [if_pos c5] at H
            have c5b0 : decide (x9_1 < (l0.length : Int)) = true := decide_eq_true c5
            clear c5
            by_cases c6 : ((rd_T24 l0 x9_1).f0) = a1
            · rw [if_pos c6] at H
              have c6b0 : (((rd_T24 l0 x9_1).f0) == a1) = true := beq_iff_eq.mpr c6
              have c6b1 : (((rd_T24 l0 x9_1).f0) != a1) = false := bne_eq_false_iff_eq.mpr c6
              clear c6
              have H' := Aside0.mk H
              clear H
              have p171 : 0 ≤ (x9_1 : Int) := of_decide_eq_true (by first | (with_reducible assumption) | assumption)
              have q171 : x9_1 < (l0.length : Int) := of_decide_eq_true (by first | (with_reducible assumption) | assumption)
              obtain ⟨ad171, A171_8, c171_8, e171, hx171_0, hx171_1, hx171_2, hx171_3, hx171_4, hx171_5, hx171_6, hx171_7, hx171_8, hl171_8, hi171_8⟩ := at_T24 HR0.out x9_1 p171 q171
              cases e171
              have HR171_8 := Aside0.mk hi171_8
              have HC171_8 := Aside0.mk hl171_8
              clear hi171_8 hl171_8
              replace p171 := eq_true p171
              replace q171 := eq_true q171
              go_wp2
              go_roundg k1
              case measure => have := HK1.out; omega
              case rel => exact ⟨(wrap64 (x5_1 + 1)), (wrap64 (x9_1 + 1)), (by first | rfl | (simp; done) | (simp [*]; done)), (by first | rfl | (simp; done) | (simp [*]; done)), H', ⟨by have := HK1.out; omega⟩, by repeat (first | exact Drawn0.refl _ | apply Drawn0.step)⟩
            · rw [if_neg c6] at H
              have c6b0 : (((rd_T24 l0 x9_1).f0) == a1) = false := beq_eq_false_iff_ne.mpr c6
              have c6b1 : (((rd_T24 l0 x9_1).f0) != a1) = true := bne_iff_ne.mpr c6
              have H' := Aside0.mk H
              clear H
              have p171 : 0 ≤ (x9_1 : Int) := of_decide_eq_true (by first | (with_reducible assumption) | assumption)
              have q171 : x9_1 < (l0.length : Int) := of_decide_eq_true (by first | (with_reducible assumption) | assumption)
              obtain ⟨ad171, A171_8, c171_8, e171, hx171_0, hx171_1, hx171_2, hx171_3, hx171_4, hx171_5, hx171_6, hx171_7, hx171_8, hl171_8, hi171_8⟩ := at_T24 HR0.out x9_1 p171 q171
              cases e171
              have HR171_8 := Aside0.mk hi171_8
              have HC171_8 := Aside0.mk hl171_8
              clear hi171_8 hl171_8
              replace p171 := eq_true p171
              replace q171 := eq_true q171
              go_wp2
              go_roundg k1
              case measure => have := HK1.out; omega
              case rel => exact ⟨(x5_1), (wrap64 (x9_1 + 1)), (by first | rfl | (simp; done) | (simp [*]; done)), (by first | rfl | (simp; done) | (simp [*]; done)), H', ⟨by have := HK1.out; omega⟩, by repeat (first | exact Drawn0.refl _ | apply Drawn0.step)⟩
          · rw [if_neg c5] at H
            exact absurd H (by simp)
        · rw [if_neg c4] at H
          exact absurd H (by simp)
      · rw [if_neg c3] at H
        have c3b0 : decide (x9_1 < (l0.length : Int)) = false := decide_eq_false c3
        clear c3
        obtain rfl := Option.some.inj H
        go_wp2
        go_ret
        exact ⟨by first | rfl | (simp; done) | (simp [*]; done), by repeat (first | exact Drawn0.refl _ | apply Drawn0.step)⟩

def chars_Decimal.f (a0 : Int) : Option (ByteArray) := (strconv_Itoa.f a0).bind fun t172 => (some t172)
set_option maxHeartbeats 8000000 in
set_option maxRecDepth 100000 in
theorem chars_Decimal.calls (a0 : Int) (r : ByteArray) (w : World) (hgl : Go.Proofs.YtgdemingopcgaaaDoorX.GL w) (h : chars_Decimal.f a0 = some r) :
    Calls Tryd.prog 42 #[.int .i64 a0] w fun e w' => e = .returned (.string r) ∧ Below w.heap.size w w' := by
  have HGL := Aside0.mk hgl
  clear hgl
  have HB := Aside0.mk (Below.refl w.heap.size w)
  have H : ((strconv_Itoa.f a0).bind fun t172 => (some t172)) = some r := h
  clear h
  replace H := Option.bind_eq_some_iff.mp H
  obtain ⟨t172, A20, H⟩ := H
  replace H : (some t172) = some r := H
  have A2 := Aside0.mk A20
  clear A20
  obtain rfl := Option.some.inj H
  go_enter Tryd.func42, Tryd.ntmps42
  go_wp2_with (first | ((with_reducible refine gate_callee (f := 53) rfl ?_); refine goesL_ (some 4) rfl rfl Tryd.func53 (by kernel_rfl) rfl #[.int .i64 a0] rfl (by (try simp only [List.map_toArray, List.map_cons, List.map_nil]); first | done | rfl | (simp only [List.length_drop, List.length_take]; rfl)) ?_; (with_reducible refine (strconv_Itoa.calls a0 t172 _ ?side1 A2.out).mono ?_); (case side1 => first | exact HGL.out | exact (Go.Proofs.YtgdemingopcgaaaDoorX.GL.below HGL.out (by repeat (first | (with_reducible first | exact HB.out | apply below_alloc | apply pw_below_drewN | apply below_drew1) | exact HB.out))) | (repeat (first | exact HGL.out | (with_reducible refine Go.Proofs.YtgdemingopcgaaaDoorX.GL.drewN ?_ _) | (with_reducible refine Go.Proofs.YtgdemingopcgaaaDoorX.GL.drew ?_)))); rintro e w3 ⟨rfl, hb⟩; refine ⟨_, rfl, ?_⟩; have n0_ := Aside0.mk (below_step (by repeat (first | (with_reducible first | exact HB.out | apply below_alloc | apply pw_below_drewN | apply below_drew1) | exact HB.out)) hb); clear HB; have HB := n0_; clear n0_; (try clear hb); (try clear hb2); (try clear hk); (try clear hi)))
  go_ret
  exact ⟨by first | rfl | (simp [errW_none, errW_some] <;> first | rfl | exact emp_bne _ | exact (emp_bne _).symm | exact emp_bne' _ | exact (emp_bne' _).symm) | (simp [*, errW_none, errW_some] <;> rfl), by repeat (first | (with_reducible first | exact HB.out | apply below_alloc | apply pw_below_drewN | apply below_drew1) | exact HB.out)⟩

end Go.Proofs.YtgdemingopcgaaaDoor.P26

namespace Go.Proofs.YtgdemingopcgaaaDoorE
open Go Go.RowKit Go.Proofs.YtgdemingopcgaaaDoorW.PrintWords Go.Proofs.YtgdemingopcgaaaDoorX Go.Proofs.YtgdemingopcgaaaDoor.P26
set_option linter.unusedVariables false
set_option linter.unusedSimpArgs false
/-- The eight words. -/
def wordL : List ByteArray := [⟨#[]⟩, ⟨#[99, 114, 101, 97, 116, 101]⟩, ⟨#[105, 110, 115, 101, 114, 116]⟩, ⟨#[109, 111, 118, 101]⟩, ⟨#[114, 101, 109, 111, 118, 101]⟩, ⟨#[115, 101, 116]⟩, ⟨#[100, 101, 108]⟩, ⟨#[116, 101, 120, 116]⟩]
def WD (w : World) : Prop := w.var? Tryd.prog "tendril/ops.words" = some (wordL.map Value.string).toArray
theorem WD.below {w W : World} (h : WD w) (hb : Below w.heap.size w W) : WD W := var_below hb h
theorem gWd : Tryd.prog.globalNamed "tendril/ops.words" = some 0 := by kernel_rfl
theorem WD.cell {w : World} (h : WD w) (i : Nat) : w.cell? ⟨0, i, none⟩ = (wordL.map Value.string)[i]? := by
  unfold WD World.var? at h
  rw [gWd] at h
  simp only [Option.bind_some] at h
  unfold World.cell?
  cases hc : w.heap[0]? with
  | none => rw [hc] at h; cases h
  | some o =>
    rw [hc] at h
    cases o <;> simp_all
def putP (x : S24) : List ByteArray :=
  if x.f0 = 1 then [x.f4, quoB x.f5, quoB x.f7] ++ x.f8.map (fun a => (a.f0 ++ (⟨#[61]⟩ : ByteArray)) ++ quoB a.f1)
  else if x.f0 = 2 then [itoaS x.f1, itoaS x.f2, itoaS x.f3]
  else if x.f0 = 3 then [itoaS x.f1, itoaS x.f3]
  else if x.f0 = 4 then [itoaS x.f1]
  else if x.f0 = 5 then [itoaS x.f1, (x.f6 ++ (⟨#[61]⟩ : ByteArray)) ++ quoB x.f7]
  else if x.f0 = 6 then [itoaS x.f1, x.f6]
  else [itoaS x.f1, quoB x.f7]
def lineB (x : S24) : ByteArray := putS (wordL.getD x.f0.toNat em) (putP x)
theorem dec_c (a : Int) (h : i64 a) (w : World) (hgl : GL w) : Calls Tryd.prog 42 #[.int .i64 a] w fun e w' => e = .returned (.string (itoaS a)) ∧ Below w.heap.size w w' :=
  chars_Decimal.calls a (itoaS a) w hgl (by unfold chars_Decimal.f strconv_Itoa.f; rw [if_pos (show -9223372036854775808 ≤ a ∧ a ≤ 9223372036854775807 from h)]; rfl)
theorem itoaS_21 (a : Int) (h : i64 a) : (itoaS a).size ≤ 21 := by
  have := Lib.itoa_length_le a h.1 h.2
  show (Lib.itoa a).toArray.size ≤ _
  rw [List.size_toArray]
  exact this
/-- In the midst of line: the operation in its box, out in its cell, nothing else of before touched. -/
def LS (w0 : World) (box : Obj) (out : ByteArray) (W : World) : Prop := W.heap[w0.heap.size]? = some box ∧ W.heap[w0.heap.size + 1]? = some (.cells #[.string out] 9 (0, 0)) ∧ Below w0.heap.size w0 W ∧ w0.heap.size + 2 ≤ W.heap.size
theorem LS.start (w : World) (box : Obj) (out : ByteArray) : LS w box out ((w.alloc box).alloc (.cells #[.string out] 9 (0, 0))) :=
  ⟨two_old_ w _ _, two_new_ w _ _, below_alloc (below_alloc (Below.refl w.heap.size w) _) _, by simp⟩
theorem LS.next {w0 : World} {box : Obj} {out : ByteArray} {W W' : World} (h : LS w0 box out W) (hb : Below W.heap.size W W') : LS w0 box out W' := by
  obtain ⟨h1, h2, h3, h4⟩ := h
  exact ⟨(hb.block _ (by omega)).trans h1, (hb.block _ (by omega)).trans h2, below_then h3 (by omega) hb, Nat.le_trans h4 hb.size⟩
theorem LS.box {w0 : World} {cs : Array Value} {T : TypeId} {fz : Nat × Nat} {out : ByteArray} {W : World} (h : LS w0 (.cells cs T fz) out W) (j : Nat) : W.cell? ⟨w0.heap.size, j, none⟩ = cs[j]? := Lib.cell_of_heap h.1 j
theorem LS.out {w0 : World} {box : Obj} {out : ByteArray} {W : World} (h : LS w0 box out W) : W.cell? ⟨w0.heap.size + 1, 0, none⟩ = some (.string out) := Lib.cell_of_heap h.2.1 0
theorem LS.put {w0 : World} {box : Obj} {out : ByteArray} {W : World} (h : LS w0 box out W) (l : List ByteArray) (c : Nat) (ho : out.size + lenS l ≤ 1000000000000000) (hn : l.length ≤ 100) :
    Calls Tryd.prog 41 #[.slice (some ⟨W.heap.size, 0, none⟩) l.length c, .pointer (some ⟨w0.heap.size + 1, 0, none⟩)] (W.alloc (.cells (l.map Value.string).toArray 9 (0, 0))) fun e w' => e = .returned (.tuple #[]) ∧ LS w0 box (putS out l) w' := by
  have h' := h.next (below_alloc (Below.refl _ W) (.cells (l.map Value.string).toArray 9 (0, 0)))
  obtain ⟨h1, h2, h3, h4⟩ := h'
  have h5 := h.2.2.2
  refine (put_c l out (w0.heap.size + 1) W.heap.size c _ ho hn h2 (fun i hi => cell_blk (heap_alloc_new W _) (by simp [hi])) (by omega)).mono ?_
  rintro e w' ⟨rfl, hp, hb⟩
  exact ⟨rfl, (hb.block _ (by omega)).trans h1, hp, h3.trans ⟨hb.os, hb.tape, hb.output, hb.size, fun i hi => hb.block i (by omega)⟩, Nat.le_trans h4 hb.size⟩
set_option maxHeartbeats 4000000 in
set_option maxRecDepth 100000 in
theorem line_4 (x : S24) (A : Option Addr) (c : Nat) (w : World) (hgl : GL w) (hwd : WD w) (hx : okX x) (hk : x.f0 = 4) :
    Calls Tryd.prog 20 #[opOf x A c] w fun e w' => e = .returned (.string (lineB x)) ∧ Below w.heap.size w w' := by
  obtain ⟨f0, f1, f2, f3, f4, f5, f6, f7, f8⟩ := x
  simp only at hk
  subst hk
  have HGL := Aside0.mk hgl
  have HWD := Aside0.mk hwd
  have h1 := hx.2.1
  have hc : ∀ o : Obj, (w.alloc o).cell? ⟨0, 4, none⟩ = some (.string ⟨#[114, 101, 109, 111, 118, 101]⟩) := fun o => by
    rw [(hwd.below (below_alloc (Below.refl _ _) o)).cell 4]; rfl
  unfold opOf opV
  simp only
  go_enter Tryd.func20, Tryd.ntmps20
  go_wp2_with fail
  refine (dec_c f1 h1 _ (HGL.out.below (by repeat (first | exact Below.refl _ _ | apply below_alloc)))).mono ?_
  rintro e w1 ⟨rfl, hb⟩
  have HL := Aside0.mk ((LS.start w _ _).next hb)
  have hcx := HL.out.box
  clear hb hc
  go_wp2_with fail
  refine (HL.out.put [itoaS f1] 1 (by have := itoaS_21 f1 h1; simp [lenS]; show 6 + _ ≤ _; omega) (by simp)).mono ?_
  rintro e w2 ⟨rfl, hl2⟩
  have HL2 := Aside0.mk hl2
  have hcp2 := hl2.out
  clear hl2 hcx
  go_wp2_with fail
  refine bodyPost_ret (results_tmp rfl _ _ _) rfl ⟨?_, HL2.out.2.2.1⟩
  rfl
end Go.Proofs.YtgdemingopcgaaaDoorE

namespace Go.Proofs.YtgdemingopcgaaaDoorE
open Go Go.RowKit Go.Proofs.YtgdemingopcgaaaDoorW.PrintWords Go.Proofs.YtgdemingopcgaaaDoorX Go.Proofs.YtgdemingopcgaaaDoor.P26
set_option linter.unusedVariables false
set_option linter.unusedSimpArgs false
set_option maxHeartbeats 4000000 in
set_option maxRecDepth 100000 in
theorem line_6 (x : S24) (A : Option Addr) (c : Nat) (w : World) (hgl : GL w) (hwd : WD w) (hx : okX x) (hk : x.f0 = 6) :
    Calls Tryd.prog 20 #[opOf x A c] w fun e w' => e = .returned (.string (lineB x)) ∧ Below w.heap.size w w' := by
  obtain ⟨f0, f1, f2, f3, f4, f5, f6, f7, f8⟩ := x
  simp only at hk
  subst hk
  have HGL := Aside0.mk hgl
  have HWD := Aside0.mk hwd
  have h1 := hx.2.1
  have hc : ∀ o : Obj, (w.alloc o).cell? ⟨0, 6, none⟩ = some (.string ⟨#[100, 101, 108]⟩) := fun o => by
    rw [(hwd.below (below_alloc (Below.refl _ _) o)).cell 6]; rfl
  unfold opOf opV
  simp only
  go_enter Tryd.func20, Tryd.ntmps20
  go_wp2_with fail
  refine (dec_c f1 h1 _ (HGL.out.below (by repeat (first | exact Below.refl _ _ | apply below_alloc)))).mono ?_
  rintro e w1 ⟨rfl, hb⟩
  have HL := Aside0.mk ((LS.start w _ _).next hb)
  have hcx := HL.out.box
  clear hb hc
  go_wp2_with fail
  refine (HL.out.put [itoaS f1, f6] 2 (by have := itoaS_21 f1 h1; have := hx.2.2.2.2.2.2.1; simp [lenS] at *; show 3 + _ ≤ _; omega) (by simp)).mono ?_
  rintro e w2 ⟨rfl, hl2⟩
  have HL2 := Aside0.mk hl2
  have hcp2 := hl2.out
  clear hl2 hcx
  go_wp2_with fail
  refine bodyPost_ret (results_tmp rfl _ _ _) rfl ⟨?_, HL2.out.2.2.1⟩
  rfl
set_option maxHeartbeats 4000000 in
set_option maxRecDepth 100000 in
theorem line_3 (x : S24) (A : Option Addr) (c : Nat) (w : World) (hgl : GL w) (hwd : WD w) (hx : okX x) (hk : x.f0 = 3) :
    Calls Tryd.prog 20 #[opOf x A c] w fun e w' => e = .returned (.string (lineB x)) ∧ Below w.heap.size w w' := by
  obtain ⟨f0, f1, f2, f3, f4, f5, f6, f7, f8⟩ := x
  simp only at hk
  subst hk
  have HGL := Aside0.mk hgl
  have HWD := Aside0.mk hwd
  have h1 := hx.2.1
  have hc : ∀ o : Obj, (w.alloc o).cell? ⟨0, 3, none⟩ = some (.string ⟨#[109, 111, 118, 101]⟩) := fun o => by
    rw [(hwd.below (below_alloc (Below.refl _ _) o)).cell 3]; rfl
  unfold opOf opV
  simp only
  go_enter Tryd.func20, Tryd.ntmps20
  go_wp2_with fail
  refine (dec_c f1 h1 _ (HGL.out.below (by repeat (first | exact Below.refl _ _ | apply below_alloc)))).mono ?_
  rintro e w1 ⟨rfl, hb⟩
  have HL := Aside0.mk ((LS.start w _ _).next hb)
  have h3 := hx.2.2.2.1
  have hcx := HL.out.box
  clear hb hc
  go_wp2_with fail
  refine (dec_c f3 h3 _ (HGL.out.below HL.out.2.2.1)).mono ?_
  rintro e w1b ⟨rfl, hb⟩
  have HLb := Aside0.mk (HL.out.next hb)
  clear HL hcx
  have HL := HLb
  clear HLb
  have hcx := HL.out.box
  clear hb
  go_wp2_with fail
  refine (HL.out.put [itoaS f1, itoaS f3] 2 (by have := itoaS_21 f1 h1; have := itoaS_21 f3 h3; simp [lenS]; show 4 + _ ≤ _; omega) (by simp)).mono ?_
  rintro e w2 ⟨rfl, hl2⟩
  have HL2 := Aside0.mk hl2
  have hcp2 := hl2.out
  clear hl2 hcx
  go_wp2_with fail
  refine bodyPost_ret (results_tmp rfl _ _ _) rfl ⟨?_, HL2.out.2.2.1⟩
  rfl
set_option maxHeartbeats 4000000 in
set_option maxRecDepth 100000 in
theorem line_7 (x : S24) (A : Option Addr) (c : Nat) (w : World) (hgl : GL w) (hwd : WD w) (hx : okX x) (hk : x.f0 = 7) (hz : x.f7.size ≤ 1000000000000) :
    Calls Tryd.prog 20 #[opOf x A c] w fun e w' => e = .returned (.string (lineB x)) ∧ Below w.heap.size w w' := by
  obtain ⟨f0, f1, f2, f3, f4, f5, f6, f7, f8⟩ := x
  simp only at hk
  subst hk
  have HGL := Aside0.mk hgl
  have HWD := Aside0.mk hwd
  have h1 := hx.2.1
  have hc : ∀ o : Obj, (w.alloc o).cell? ⟨0, 7, none⟩ = some (.string ⟨#[116, 101, 120, 116]⟩) := fun o => by
    rw [(hwd.below (below_alloc (Below.refl _ _) o)).cell 7]; rfl
  unfold opOf opV
  simp only
  go_enter Tryd.func20, Tryd.ntmps20
  go_wp2_with fail
  refine (dec_c f1 h1 _ (HGL.out.below (by repeat (first | exact Below.refl _ _ | apply below_alloc)))).mono ?_
  rintro e w1 ⟨rfl, hb⟩
  have HL := Aside0.mk ((LS.start w _ _).next hb)
  have h7 : f7.size ≤ 1000000000000 := hz
  have hcx := HL.out.box
  clear hb hc
  go_wp2_with fail
  refine (quoted_c f7 h7 _ (HGL.out.below HL.out.2.2.1)).mono ?_
  rintro e w1b ⟨rfl, hb⟩
  have HLb := Aside0.mk (HL.out.next hb)
  clear HL hcx
  have HL := HLb
  clear HLb
  have hcx := HL.out.box
  clear hb
  go_wp2_with fail
  refine (HL.out.put [itoaS f1, quoB f7] 2 (by have := itoaS_21 f1 h1; have := escT_size f7; have := quoB_size f7; simp [lenS]; show 4 + _ ≤ _; omega) (by simp)).mono ?_
  rintro e w2 ⟨rfl, hl2⟩
  have HL2 := Aside0.mk hl2
  have hcp2 := hl2.out
  clear hl2 hcx
  go_wp2_with fail
  refine bodyPost_ret (results_tmp rfl _ _ _) rfl ⟨?_, HL2.out.2.2.1⟩
  rfl
end Go.Proofs.YtgdemingopcgaaaDoorE

namespace Go.Proofs.YtgdemingopcgaaaDoorE
open Go Go.RowKit Go.Proofs.YtgdemingopcgaaaDoorW.PrintWords Go.Proofs.YtgdemingopcgaaaDoorW.PrintMore Go.Proofs.YtgdemingopcgaaaDoorW.PrintLast Go.Proofs.YtgdemingopcgaaaDoorX Go.Proofs.YtgdemingopcgaaaDoor.P26
set_option linter.unusedVariables false
set_option linter.unusedSimpArgs false
set_option maxHeartbeats 4000000 in
set_option maxRecDepth 100000 in
theorem line_2 (x : S24) (A : Option Addr) (c : Nat) (w : World) (hgl : GL w) (hwd : WD w) (hx : okX x) (hk : x.f0 = 2) :
    Calls Tryd.prog 20 #[opOf x A c] w fun e w' => e = .returned (.string (lineB x)) ∧ Below w.heap.size w w' := by
  obtain ⟨f0, f1, f2, f3, f4, f5, f6, f7, f8⟩ := x
  simp only at hk
  subst hk
  have HGL := Aside0.mk hgl
  have HWD := Aside0.mk hwd
  have h1 := hx.2.1
  have hc : ∀ o : Obj, (w.alloc o).cell? ⟨0, 2, none⟩ = some (.string ⟨#[105, 110, 115, 101, 114, 116]⟩) := fun o => by
    rw [(hwd.below (below_alloc (Below.refl _ _) o)).cell 2]; rfl
  unfold opOf opV
  simp only
  go_enter Tryd.func20, Tryd.ntmps20
  go_wp2_with fail
  refine (dec_c f1 h1 _ (HGL.out.below (by repeat (first | exact Below.refl _ _ | apply below_alloc)))).mono ?_
  rintro e w1 ⟨rfl, hb⟩
  have HL := Aside0.mk ((LS.start w _ _).next hb)
  have hcx := HL.out.box
  clear hb hc
  go_wp2_with fail
  have h2 := hx.2.2.1
  have h3 := hx.2.2.2.1
  have HD := Aside0.mk (HL.out.next (below_drew1 (Below.refl _ _)))
  refine start_ (n := 10) (S := fun w' => w'.cell? ⟨w.heap.size, 2, none⟩ = some (.int .i64 f2) ∧ w'.cell? ⟨w.heap.size, 3, none⟩ = some (.int .i64 f3)) (ds := []) #[false, false, false, false, false, false, false, false, false, false] (by kernel_rfl) rfl rfl ⟨HD.out.box 2, HD.out.box 3⟩ (fun hHeld => ?_)
  refine pure_ (i := 0) (N := some 51) (v := ?_) (a' := ?_) #[true, false, false, false, false, false, false, false, false, false] rfl rfl (by kernel_rfl) (fun _ _ _ h => h) (Or.inl ⟨by rfl, ?_⟩) ?_ ?_
  rotate_left
  · intro w'
    go_simp
    with_reducible rfl
  rotate_left
  · simp only [Act.put, List.setIfInBounds_toArray, List.set_cons_zero, List.set_cons_succ, i64_w, i32_w]
    rfl
  refine pure_ (i := 1) (N := some 52) (v := ?_) (a' := ?_) #[true, true, false, false, false, false, false, false, false, false] rfl rfl (by kernel_rfl) (fun _ _ _ h => h) (Or.inl ⟨by rfl, ?_⟩) ?_ ?_
  rotate_left
  · intro w'
    go_simp
    with_reducible rfl
  rotate_left
  · simp only [Act.put, List.setIfInBounds_toArray, List.set_cons_zero, List.set_cons_succ, i64_w, i32_w]
    rfl
  refine pure_ (i := 2) (N := some 53) (v := ?_) (a' := ?_) #[true, true, true, false, false, false, false, false, false, false] rfl rfl (by kernel_rfl) (fun _ _ _ h => h) (Or.inl ⟨by rfl, ?_⟩) ?_ ?_
  rotate_left
  · intro w'
    go_simp
    with_reducible rfl
  rotate_left
  · simp only [Act.put, List.setIfInBounds_toArray, List.set_cons_zero, List.set_cons_succ, i64_w, i32_w]
    rfl
  refine pure_ (i := 5) (N := some 56) (v := ?_) (a' := ?_) #[true, true, true, false, false, true, false, false, false, false] rfl rfl (by kernel_rfl) (fun _ _ _ h => h) (Or.inl ⟨by rfl, ?_⟩) ?_ ?_
  rotate_left
  · intro w'
    go_simp
    with_reducible rfl
  rotate_left
  · simp only [Act.put, List.setIfInBounds_toArray, List.set_cons_zero, List.set_cons_succ, i64_w, i32_w]
    rfl
  refine take_ (i := 3) (N := some 54) (v := ?_) (a' := ?_) #[true, true, true, true, false, true, false, false, false, false] rfl rfl (by kernel_rfl) (fun _ _ _ h => h) (Or.inl ⟨by rfl, ?_⟩) hHeld ?_ ?_
  rotate_left
  · intro w' s0
    go_split_ands
    go_simp
    with_reducible rfl
  rotate_left
  · simp only [Act.put, List.setIfInBounds_toArray, List.set_cons_zero, List.set_cons_succ, i64_w, i32_w]
    rfl
  refine take_ (i := 6) (N := some 57) (v := ?_) (a' := ?_) #[true, true, true, true, false, true, true, false, false, false] rfl rfl (by kernel_rfl) (fun _ _ _ h => h) (Or.inl ⟨by rfl, ?_⟩) hHeld ?_ ?_
  rotate_left
  · intro w' s0
    go_split_ands
    go_simp
    with_reducible rfl
  rotate_left
  · simp only [Act.put, List.setIfInBounds_toArray, List.set_cons_zero, List.set_cons_succ, i64_w, i32_w]
    rfl
  refine one_ (i := 4) (N := some 55) #[true, true, true, true, true, true, true, false, false, false] rfl rfl (by kernel_rfl) (by decide) (fun K hK => ?_)
  refine goes_ Tryd.func42 (by kernel_rfl) rfl #[.int .i64 f2] (by rfl) rfl rfl (by (try simp only [List.map_toArray, List.map_cons, List.map_nil]); first | done | rfl) ?_
  refine (dec_c f2 h2 _ (HGL.out.below HD.out.2.2.1)).mono ?_
  rintro e w' ⟨rfl, hb⟩
  have HE := Aside0.mk (HD.out.next hb)
  refine ⟨_, rfl, ?_⟩
  refine hK.out _ _ ⟨HE.out.box 2, HE.out.box 3⟩ (fun hHeld => ?_)
  clear hK K hb
  refine norm_ (a' := ?_) ?_ ?_
  rotate_left
  · show Act.put _ (some 55) _ = _
    simp only [Act.put, List.setIfInBounds_toArray, List.set_cons_zero, List.set_cons_succ, i64_w, i32_w]
    rfl
  refine one_ (i := 7) (N := some 58) #[true, true, true, true, true, true, true, true, false, false] rfl rfl (by kernel_rfl) (by decide) (fun K hK => ?_)
  refine goes_ Tryd.func42 (by kernel_rfl) rfl #[.int .i64 f3] (by rfl) rfl rfl (by (try simp only [List.map_toArray, List.map_cons, List.map_nil]); first | done | rfl) ?_
  refine (dec_c f3 h3 _ (HGL.out.below HE.out.2.2.1)).mono ?_
  rintro e w' ⟨rfl, hb⟩
  have HF := Aside0.mk (HE.out.next hb)
  refine ⟨_, rfl, ?_⟩
  refine hK.out _ _ ⟨HF.out.box 2, HF.out.box 3⟩ (fun hHeld => ?_)
  clear hK K hb
  refine norm_ (a' := ?_) ?_ ?_
  rotate_left
  · show Act.put _ (some 58) _ = _
    simp only [Act.put, List.setIfInBounds_toArray, List.set_cons_zero, List.set_cons_succ, i64_w, i32_w]
    rfl
  refine one_ (i := 8) (N := some 59) #[true, true, true, true, true, true, true, true, true, false] rfl rfl (by kernel_rfl) (by decide) (fun K hK => ?_)
  refine value_ (w1 := w'.alloc (.cells #[.string (itoaS f1), .string (itoaS f2), .string (itoaS f3)] 9 (0, 0))) (v := .slice (some ⟨w'.heap.size, 0, none⟩) 3 3) (by rfl) rfl (by go_simp) ?_
  refine hK.out _ _ ⟨(HF.out.next (below_alloc (Below.refl _ _) (.cells #[.string (itoaS f1), .string (itoaS f2), .string (itoaS f3)] 9 (0, 0)))).box 2, (HF.out.next (below_alloc (Below.refl _ _) (.cells #[.string (itoaS f1), .string (itoaS f2), .string (itoaS f3)] 9 (0, 0)))).box 3⟩ (fun hHeld => ?_)
  clear hK K
  refine norm_ (a' := ?_) ?_ ?_
  rotate_left
  · show Act.put _ (some 59) _ = _
    simp only [Act.put, List.setIfInBounds_toArray, List.set_cons_zero, List.set_cons_succ, i64_w, i32_w]
    rfl
  refine one_ (i := 9) (N := some 60) #[true, true, true, true, true, true, true, true, true, true] rfl rfl (by kernel_rfl) (by decide) (fun K hK => ?_)
  refine call_ 41 #[.slice (some ⟨w'.heap.size, 0, none⟩) 3 3, .pointer (some ⟨w.heap.size + 1, 0, none⟩)] (by rfl) rfl (by go_simp) ?_
  refine (HF.out.put [itoaS f1, itoaS f2, itoaS f3] 3 (by have := itoaS_21 f1 h1; have := itoaS_21 f2 h2; have := itoaS_21 f3 h3; simp [lenS]; show 6 + _ ≤ _; omega) (by simp)).mono ?_
  rintro e w2 ⟨rfl, hl2⟩
  have HL2 := Aside0.mk hl2
  have hcp2 := hl2.out
  clear hl2
  refine ⟨_, rfl, ?_⟩
  refine hK.out _ _ ⟨HL2.out.box 2, HL2.out.box 3⟩ (fun hHeld => ?_)
  clear hK K
  refine norm_ (a' := ?_) ?_ ?_
  rotate_left
  · show Act.put _ (some 60) _ = _
    simp only [Act.put, List.setIfInBounds_toArray, List.set_cons_zero, List.set_cons_succ, i64_w, i32_w]
    rfl
  refine done_ (by kernel_rfl) ?_
  clear hHeld hcx
  go_wp2_with fail
  refine bodyPost_ret (results_tmp rfl _ _ _) rfl ⟨?_, HL2.out.2.2.1⟩
  rfl
end Go.Proofs.YtgdemingopcgaaaDoorE

namespace Go.Proofs.YtgdemingopcgaaaDoorE
open Go Go.RowKit Go.Proofs.YtgdemingopcgaaaDoorW.PrintWords Go.Proofs.YtgdemingopcgaaaDoorW.PrintMore Go.Proofs.YtgdemingopcgaaaDoorW.PrintLast Go.Proofs.YtgdemingopcgaaaDoorX Go.Proofs.YtgdemingopcgaaaDoor.P26
set_option linter.unusedVariables false
set_option linter.unusedSimpArgs false
set_option maxHeartbeats 4000000 in
set_option maxRecDepth 100000 in
theorem line_5 (x : S24) (A : Option Addr) (c : Nat) (w : World) (hgl : GL w) (hwd : WD w) (hx : okX x) (hk : x.f0 = 5) (hz : x.f7.size ≤ 1000000000000) :
    Calls Tryd.prog 20 #[opOf x A c] w fun e w' => e = .returned (.string (lineB x)) ∧ Below w.heap.size w w' := by
  obtain ⟨f0, f1, f2, f3, f4, f5, f6, f7, f8⟩ := x
  simp only at hk
  subst hk
  have HGL := Aside0.mk hgl
  have HWD := Aside0.mk hwd
  have h1 := hx.2.1
  have hc : ∀ o : Obj, (w.alloc o).cell? ⟨0, 5, none⟩ = some (.string ⟨#[115, 101, 116]⟩) := fun o => by
    rw [(hwd.below (below_alloc (Below.refl _ _) o)).cell 5]; rfl
  unfold opOf opV
  simp only
  go_enter Tryd.func20, Tryd.ntmps20
  go_wp2_with fail
  refine (dec_c f1 h1 _ (HGL.out.below (by repeat (first | exact Below.refl _ _ | apply below_alloc)))).mono ?_
  rintro e w1 ⟨rfl, hb⟩
  have HL := Aside0.mk ((LS.start w _ _).next hb)
  have hcx := HL.out.box
  clear hb hc
  go_wp2_with fail
  have h6 : f6.size ≤ 140737488351232 := hx.2.2.2.2.2.2.1
  have h7 : f7.size ≤ 1000000000000 := hz
  have hq : (quoB f7).size ≤ 10000000000000 := by have := escT_size f7; have := quoB_size f7; omega
  have z1 : (9223372036854775807 < f6.size + 1) = False := eq_false (by omega)
  have z2 : (9223372036854775807 < (f6 ++ (⟨#[61]⟩ : ByteArray)).size + (quoB f7).size) = False := eq_false (by rw [ByteArray.size_append]; show ¬ _ < f6.size + 1 + _; omega)
  have z3 : (9223372036854775807 < f6.size + 1 + (quoB f7).size) = False := eq_false (by omega)
  have HD := Aside0.mk (HL.out.next (below_drew1 (Below.refl _ _)))
  refine start_ (n := 11) (S := fun w' => w'.cell? ⟨w.heap.size, 6, none⟩ = some (.string f6) ∧ w'.cell? ⟨w.heap.size, 7, none⟩ = some (.string f7)) (ds := []) #[false, false, false, false, false, false, false, false, false, false, false] (by kernel_rfl) rfl rfl ⟨HD.out.box 6, HD.out.box 7⟩ (fun hHeld => ?_)
  refine pure_ (i := 0) (N := some 78) (v := ?_) (a' := ?_) #[true, false, false, false, false, false, false, false, false, false, false] rfl rfl (by kernel_rfl) (fun _ _ _ h => h) (Or.inl ⟨by rfl, ?_⟩) ?_ ?_
  rotate_left
  · intro w'
    go_simp
    with_reducible rfl
  rotate_left
  · simp only [Act.put, List.setIfInBounds_toArray, List.set_cons_zero, List.set_cons_succ, i64_w, i32_w]
    rfl
  refine pure_ (i := 1) (N := some 79) (v := ?_) (a' := ?_) #[true, true, false, false, false, false, false, false, false, false, false] rfl rfl (by kernel_rfl) (fun _ _ _ h => h) (Or.inl ⟨by rfl, ?_⟩) ?_ ?_
  rotate_left
  · intro w'
    go_simp
    with_reducible rfl
  rotate_left
  · simp only [Act.put, List.setIfInBounds_toArray, List.set_cons_zero, List.set_cons_succ, i64_w, i32_w]
    rfl
  refine pure_ (i := 2) (N := some 80) (v := ?_) (a' := ?_) #[true, true, true, false, false, false, false, false, false, false, false] rfl rfl (by kernel_rfl) (fun _ _ _ h => h) (Or.inl ⟨by rfl, ?_⟩) ?_ ?_
  rotate_left
  · intro w'
    go_simp
    with_reducible rfl
  rotate_left
  · simp only [Act.put, List.setIfInBounds_toArray, List.set_cons_zero, List.set_cons_succ, i64_w, i32_w]
    rfl
  refine pure_ (i := 5) (N := some 83) (v := ?_) (a' := ?_) #[true, true, true, false, false, true, false, false, false, false, false] rfl rfl (by kernel_rfl) (fun _ _ _ h => h) (Or.inl ⟨by rfl, ?_⟩) ?_ ?_
  rotate_left
  · intro w'
    go_simp
    with_reducible rfl
  rotate_left
  · simp only [Act.put, List.setIfInBounds_toArray, List.set_cons_zero, List.set_cons_succ, i64_w, i32_w]
    rfl
  refine take_ (i := 3) (N := some 81) (v := ?_) (a' := ?_) #[true, true, true, true, false, true, false, false, false, false, false] rfl rfl (by kernel_rfl) (fun _ _ _ h => h) (Or.inl ⟨by rfl, ?_⟩) hHeld ?_ ?_
  rotate_left
  · intro w' s0
    go_split_ands
    go_simp
    with_reducible rfl
  rotate_left
  · simp only [Act.put, List.setIfInBounds_toArray, List.set_cons_zero, List.set_cons_succ, i64_w, i32_w]
    rfl
  refine take_ (i := 6) (N := some 84) (v := ?_) (a' := ?_) #[true, true, true, true, false, true, true, false, false, false, false] rfl rfl (by kernel_rfl) (fun _ _ _ h => h) (Or.inl ⟨by rfl, ?_⟩) hHeld ?_ ?_
  rotate_left
  · intro w' s0
    go_split_ands
    go_simp
    with_reducible rfl
  rotate_left
  · simp only [Act.put, List.setIfInBounds_toArray, List.set_cons_zero, List.set_cons_succ, i64_w, i32_w]
    rfl
  refine pure_ (i := 4) (N := some 82) (v := ?_) (a' := ?_) #[true, true, true, true, true, true, true, false, false, false, false] rfl rfl (by kernel_rfl) (fun _ _ _ h => h) (Or.inl ⟨by rfl, ?_⟩) ?_ ?_
  rotate_left
  · intro w'
    go_simp
    with_reducible rfl
  rotate_left
  · simp only [Act.put, List.setIfInBounds_toArray, List.set_cons_zero, List.set_cons_succ, i64_w, i32_w]
    rfl
  refine one_ (i := 7) (N := some 85) #[true, true, true, true, true, true, true, true, false, false, false] rfl rfl (by kernel_rfl) (by decide) (fun K hK => ?_)
  refine goes_ Tryd.func43 (by kernel_rfl) rfl #[.string f7] (by rfl) rfl rfl (by (try simp only [List.map_toArray, List.map_cons, List.map_nil]); first | done | rfl) ?_
  refine (quoted_c f7 h7 _ (HGL.out.below HD.out.2.2.1)).mono ?_
  rintro e w' ⟨rfl, hb⟩
  have HF := Aside0.mk (HD.out.next hb)
  refine ⟨_, rfl, ?_⟩
  refine hK.out _ _ ⟨HF.out.box 6, HF.out.box 7⟩ (fun hHeld => ?_)
  clear hK K hb
  refine norm_ (a' := ?_) ?_ ?_
  rotate_left
  · show Act.put _ (some 85) _ = _
    simp only [Act.put, List.setIfInBounds_toArray, List.set_cons_zero, List.set_cons_succ, i64_w, i32_w]
    rfl
  refine pure_ (i := 8) (N := some 86) (v := ?_) (a' := ?_) #[true, true, true, true, true, true, true, true, true, false, false] rfl rfl (by kernel_rfl) (fun _ _ _ h => h) (Or.inl ⟨by rfl, ?_⟩) ?_ ?_
  rotate_left
  · intro w'
    go_simp
    with_reducible rfl
  rotate_left
  · simp only [Act.put, List.setIfInBounds_toArray, List.set_cons_zero, List.set_cons_succ, i64_w, i32_w]
    rfl
  refine one_ (i := 9) (N := some 87) #[true, true, true, true, true, true, true, true, true, true, false] rfl rfl (by kernel_rfl) (by decide) (fun K hK => ?_)
  refine value_ (w1 := w'.alloc (.cells #[.string (itoaS f1), .string ((f6 ++ (⟨#[61]⟩ : ByteArray)) ++ quoB f7)] 9 (0, 0))) (v := .slice (some ⟨w'.heap.size, 0, none⟩) 2 2) (by rfl) rfl (by go_simp) ?_
  refine hK.out _ _ ⟨(HF.out.next (below_alloc (Below.refl _ _) (.cells #[.string (itoaS f1), .string ((f6 ++ (⟨#[61]⟩ : ByteArray)) ++ quoB f7)] 9 (0, 0)))).box 6, (HF.out.next (below_alloc (Below.refl _ _) (.cells #[.string (itoaS f1), .string ((f6 ++ (⟨#[61]⟩ : ByteArray)) ++ quoB f7)] 9 (0, 0)))).box 7⟩ (fun hHeld => ?_)
  clear hK K
  refine norm_ (a' := ?_) ?_ ?_
  rotate_left
  · show Act.put _ (some 87) _ = _
    simp only [Act.put, List.setIfInBounds_toArray, List.set_cons_zero, List.set_cons_succ, i64_w, i32_w]
    rfl
  refine one_ (i := 10) (N := some 88) #[true, true, true, true, true, true, true, true, true, true, true] rfl rfl (by kernel_rfl) (by decide) (fun K hK => ?_)
  refine call_ 41 #[.slice (some ⟨w'.heap.size, 0, none⟩) 2 2, .pointer (some ⟨w.heap.size + 1, 0, none⟩)] (by rfl) rfl (by go_simp) ?_
  refine (HF.out.put [itoaS f1, (f6 ++ (⟨#[61]⟩ : ByteArray)) ++ quoB f7] 2 (by have := itoaS_21 f1 h1; have e : ((f6 ++ (⟨#[61]⟩ : ByteArray)) ++ quoB f7).size = f6.size + 1 + (quoB f7).size := (by rw [ByteArray.size_append, ByteArray.size_append]; rfl); simp only [lenS, List.map_cons, List.map_nil, List.sum_cons, List.sum_nil, e]; show 3 + _ ≤ _; omega) (by simp)).mono ?_
  rintro e w2 ⟨rfl, hl2⟩
  have HL2 := Aside0.mk hl2
  have hcp2 := hl2.out
  clear hl2
  refine ⟨_, rfl, ?_⟩
  refine hK.out _ _ ⟨HL2.out.box 6, HL2.out.box 7⟩ (fun hHeld => ?_)
  clear hK K
  refine norm_ (a' := ?_) ?_ ?_
  rotate_left
  · show Act.put _ (some 88) _ = _
    simp only [Act.put, List.setIfInBounds_toArray, List.set_cons_zero, List.set_cons_succ, i64_w, i32_w]
    rfl
  refine done_ (by kernel_rfl) ?_
  clear hHeld hcx
  go_wp2_with fail
  refine bodyPost_ret (results_tmp rfl _ _ _) rfl ⟨?_, HL2.out.2.2.1⟩
  rfl
end Go.Proofs.YtgdemingopcgaaaDoorE

namespace Go.Proofs.YtgdemingopcgaaaDoorE
open Go Go.RowKit Go.Proofs.YtgdemingopcgaaaDoorW.PrintWords Go.Proofs.YtgdemingopcgaaaDoorW.PrintMore Go.Proofs.YtgdemingopcgaaaDoorW.PrintLast Go.Proofs.YtgdemingopcgaaaDoorX Go.Proofs.YtgdemingopcgaaaDoor.P26
set_option linter.unusedVariables false
set_option linter.unusedSimpArgs false
def attrP (a : S51) : ByteArray := (a.f0 ++ (⟨#[61]⟩ : ByteArray)) ++ quoB a.f1
theorem attrP_snoc (l : List S51) (k : Nat) (hk : k < l.length) : (l.take (k + 1)).map attrP = (l.take k).map attrP ++ [attrP (rd_T51 l (k : Int))] := by
  have e : l.take (k + 1) = l.take k ++ [rd_T51 l (k : Int)] := by
    rw [List.take_add_one, List.getElem?_eq_getElem hk]
    unfold rd_T51
    rw [Int.toNat_natCast, List.getD_eq_getElem?_getD, List.getElem?_eq_getElem hk]
    rfl
  rw [e, List.map_append]
  rfl
theorem putS_app : ∀ (a b : List ByteArray) (o : ByteArray), putS o (a ++ b) = putS (putS o a) b
  | [], b, o => rfl
  | s :: a, b, o => by rw [List.cons_append, putS, putS, putS_app a b]
theorem lenS_app (a b : List ByteArray) : lenS (a ++ b) = lenS a + lenS b := by unfold lenS; rw [List.map_append, List.sum_append]
theorem attrP_size (a : S51) (h : a.f0.size ≤ 1000000000 ∧ a.f1.size ≤ 1000000000) : (attrP a).size + 1 ≤ 8000000000 := by
  unfold attrP
  have h1 := escT_size a.f1
  have h2 := quoB_size a.f1
  rw [ByteArray.size_append, ByteArray.size_append]
  show a.f0.size + 1 + _ + 1 ≤ _
  omega
theorem attrsP_len (l : List S51) (h : ∀ i : Nat, i < l.length → (rd_T51 l i).f0.size ≤ 1000000000 ∧ (rd_T51 l i).f1.size ≤ 1000000000) : ∀ k : Nat, k ≤ l.length → lenS ((l.take k).map attrP) ≤ 8000000000 * k := by
  intro k
  induction k with
  | zero => intro _; simp [lenS]
  | succ k ih =>
    intro hk
    have h1 := ih (by omega)
    have h2 := attrP_size _ (h k (by omega))
    rw [attrP_snoc l k (by omega), lenS_app]
    have e : lenS [attrP (rd_T51 l (k : Int))] = (attrP (rd_T51 l (k : Int))).size + 1 := by simp [lenS]
    omega
set_option maxHeartbeats 4000000 in
set_option maxRecDepth 100000 in
theorem line_1 (x : S24) (A : Option Addr) (c : Nat) (w : World) (hgl : GL w) (hwd : WD w) (hx : okX x) (hk : x.f0 = 1) (hz : x.f5.size ≤ 1000000000 ∧ x.f7.size ≤ 1000000000) (hca : Kd.C k51 w A x.f8.length x.f8) (haz : ∀ i : Nat, i < x.f8.length → (rd_T51 x.f8 i).f0.size ≤ 1000000000 ∧ (rd_T51 x.f8 i).f1.size ≤ 1000000000) (hn8 : x.f8.length ≤ 64) :
    Calls Tryd.prog 20 #[opOf x A c] w fun e w' => e = .returned (.string (lineB x)) ∧ Below w.heap.size w w' := by
  obtain ⟨f0, f1, f2, f3, f4, f5, f6, f7, f8⟩ := x
  simp only at hk
  subst hk
  have HGL := Aside0.mk hgl
  have HWD := Aside0.mk hwd
  have h1 := hx.2.1
  have hc : ∀ o : Obj, (w.alloc o).cell? ⟨0, 1, none⟩ = some (.string ⟨#[99, 114, 101, 97, 116, 101]⟩) := fun o => by
    rw [(hwd.below (below_alloc (Below.refl _ _) o)).cell 1]; rfl
  unfold opOf opV
  simp only
  go_enter Tryd.func20, Tryd.ntmps20
  go_wp2_with fail
  refine (dec_c f1 h1 _ (HGL.out.below (by repeat (first | exact Below.refl _ _ | apply below_alloc)))).mono ?_
  rintro e w1 ⟨rfl, hb⟩
  have HL := Aside0.mk ((LS.start w _ _).next hb)
  have hcx := HL.out.box
  clear hb hc
  go_wp2_with fail
  have h4 : f4.size ≤ 140737488351232 := hx.2.2.2.2.1
  have h5 : f5.size ≤ 1000000000000 := by have := hz.1; omega
  have h7 : f7.size ≤ 1000000000000 := by have := hz.2; omega
  have hq5 : (quoB f5).size ≤ 10000000000000 := by have := escT_size f5; have := quoB_size f5; omega
  have hq7 : (quoB f7).size ≤ 10000000000000 := by have := escT_size f7; have := quoB_size f7; omega
  have HD := Aside0.mk (HL.out.next (below_drew1 (Below.refl _ _)))
  refine start_ (n := 11) (S := fun w' => w'.cell? ⟨w.heap.size, 4, none⟩ = some (.string f4) ∧ w'.cell? ⟨w.heap.size, 5, none⟩ = some (.string f5) ∧ w'.cell? ⟨w.heap.size, 7, none⟩ = some (.string f7)) (ds := []) #[false, false, false, false, false, false, false, false, false, false, false] (by kernel_rfl) rfl rfl ⟨HD.out.box 4, HD.out.box 5, HD.out.box 7⟩ (fun hHeld => ?_)
  refine pure_ (i := 0) (N := some 20) (v := ?_) (a' := ?_) #[true, false, false, false, false, false, false, false, false, false, false] rfl rfl (by kernel_rfl) (fun _ _ _ h => h) (Or.inl ⟨by rfl, ?_⟩) ?_ ?_
  rotate_left
  · intro w'
    go_simp
    with_reducible rfl
  rotate_left
  · simp only [Act.put, List.setIfInBounds_toArray, List.set_cons_zero, List.set_cons_succ, i64_w, i32_w]
    rfl
  refine pure_ (i := 1) (N := some 21) (v := ?_) (a' := ?_) #[true, true, false, false, false, false, false, false, false, false, false] rfl rfl (by kernel_rfl) (fun _ _ _ h => h) (Or.inl ⟨by rfl, ?_⟩) ?_ ?_
  rotate_left
  · intro w'
    go_simp
    with_reducible rfl
  rotate_left
  · simp only [Act.put, List.setIfInBounds_toArray, List.set_cons_zero, List.set_cons_succ, i64_w, i32_w]
    rfl
  refine pure_ (i := 3) (N := some 23) (v := ?_) (a' := ?_) #[true, true, false, true, false, false, false, false, false, false, false] rfl rfl (by kernel_rfl) (fun _ _ _ h => h) (Or.inl ⟨by rfl, ?_⟩) ?_ ?_
  rotate_left
  · intro w'
    go_simp
    with_reducible rfl
  rotate_left
  · simp only [Act.put, List.setIfInBounds_toArray, List.set_cons_zero, List.set_cons_succ, i64_w, i32_w]
    rfl
  refine pure_ (i := 6) (N := some 26) (v := ?_) (a' := ?_) #[true, true, false, true, false, false, true, false, false, false, false] rfl rfl (by kernel_rfl) (fun _ _ _ h => h) (Or.inl ⟨by rfl, ?_⟩) ?_ ?_
  rotate_left
  · intro w'
    go_simp
    with_reducible rfl
  rotate_left
  · simp only [Act.put, List.setIfInBounds_toArray, List.set_cons_zero, List.set_cons_succ, i64_w, i32_w]
    rfl
  refine take_ (i := 2) (N := some 22) (v := ?_) (a' := ?_) #[true, true, true, true, false, false, true, false, false, false, false] rfl rfl (by kernel_rfl) (fun _ _ _ h => h) (Or.inl ⟨by rfl, ?_⟩) hHeld ?_ ?_
  rotate_left
  · intro w' s0
    go_split_ands
    go_simp
    with_reducible rfl
  rotate_left
  · simp only [Act.put, List.setIfInBounds_toArray, List.set_cons_zero, List.set_cons_succ, i64_w, i32_w]
    rfl
  refine take_ (i := 4) (N := some 24) (v := ?_) (a' := ?_) #[true, true, true, true, true, false, true, false, false, false, false] rfl rfl (by kernel_rfl) (fun _ _ _ h => h) (Or.inl ⟨by rfl, ?_⟩) hHeld ?_ ?_
  rotate_left
  · intro w' s0
    go_split_ands
    go_simp
    with_reducible rfl
  rotate_left
  · simp only [Act.put, List.setIfInBounds_toArray, List.set_cons_zero, List.set_cons_succ, i64_w, i32_w]
    rfl
  refine take_ (i := 7) (N := some 27) (v := ?_) (a' := ?_) #[true, true, true, true, true, false, true, true, false, false, false] rfl rfl (by kernel_rfl) (fun _ _ _ h => h) (Or.inl ⟨by rfl, ?_⟩) hHeld ?_ ?_
  rotate_left
  · intro w' s0
    go_split_ands
    go_simp
    with_reducible rfl
  rotate_left
  · simp only [Act.put, List.setIfInBounds_toArray, List.set_cons_zero, List.set_cons_succ, i64_w, i32_w]
    rfl
  refine one_ (i := 5) (N := some 25) #[true, true, true, true, true, true, true, true, false, false, false] rfl rfl (by kernel_rfl) (by decide) (fun K hK => ?_)
  refine goes_ Tryd.func43 (by kernel_rfl) rfl #[.string f5] (by rfl) rfl rfl (by (try simp only [List.map_toArray, List.map_cons, List.map_nil]); first | done | rfl) ?_
  refine (quoted_c f5 h5 _ (HGL.out.below HD.out.2.2.1)).mono ?_
  rintro e w' ⟨rfl, hb⟩
  have HE := Aside0.mk (HD.out.next hb)
  refine ⟨_, rfl, ?_⟩
  refine hK.out _ _ ⟨HE.out.box 4, HE.out.box 5, HE.out.box 7⟩ (fun hHeld => ?_)
  clear hK K hb
  refine norm_ (a' := ?_) ?_ ?_
  rotate_left
  · show Act.put _ (some 25) _ = _
    simp only [Act.put, List.setIfInBounds_toArray, List.set_cons_zero, List.set_cons_succ, i64_w, i32_w]
    rfl
  refine one_ (i := 8) (N := some 28) #[true, true, true, true, true, true, true, true, true, false, false] rfl rfl (by kernel_rfl) (by decide) (fun K hK => ?_)
  refine goes_ Tryd.func43 (by kernel_rfl) rfl #[.string f7] (by rfl) rfl rfl (by (try simp only [List.map_toArray, List.map_cons, List.map_nil]); first | done | rfl) ?_
  refine (quoted_c f7 h7 _ (HGL.out.below HE.out.2.2.1)).mono ?_
  rintro e w' ⟨rfl, hb⟩
  have HF := Aside0.mk (HE.out.next hb)
  refine ⟨_, rfl, ?_⟩
  refine hK.out _ _ ⟨HF.out.box 4, HF.out.box 5, HF.out.box 7⟩ (fun hHeld => ?_)
  clear hK K hb
  refine norm_ (a' := ?_) ?_ ?_
  rotate_left
  · show Act.put _ (some 28) _ = _
    simp only [Act.put, List.setIfInBounds_toArray, List.set_cons_zero, List.set_cons_succ, i64_w, i32_w]
    rfl
  refine one_ (i := 9) (N := some 29) #[true, true, true, true, true, true, true, true, true, true, false] rfl rfl (by kernel_rfl) (by decide) (fun K hK => ?_)
  refine value_ (w1 := w'.alloc (.cells #[.string f4, .string (quoB f5), .string (quoB f7)] 9 (0, 0))) (v := .slice (some ⟨w'.heap.size, 0, none⟩) 3 3) (by rfl) rfl (by go_simp) ?_
  refine hK.out _ _ ⟨(HF.out.next (below_alloc (Below.refl _ _) (.cells #[.string f4, .string (quoB f5), .string (quoB f7)] 9 (0, 0)))).box 4, (HF.out.next (below_alloc (Below.refl _ _) (.cells #[.string f4, .string (quoB f5), .string (quoB f7)] 9 (0, 0)))).box 5, (HF.out.next (below_alloc (Below.refl _ _) (.cells #[.string f4, .string (quoB f5), .string (quoB f7)] 9 (0, 0)))).box 7⟩ (fun hHeld => ?_)
  clear hK K
  refine norm_ (a' := ?_) ?_ ?_
  rotate_left
  · show Act.put _ (some 29) _ = _
    simp only [Act.put, List.setIfInBounds_toArray, List.set_cons_zero, List.set_cons_succ, i64_w, i32_w]
    rfl
  refine one_ (i := 10) (N := some 30) #[true, true, true, true, true, true, true, true, true, true, true] rfl rfl (by kernel_rfl) (by decide) (fun K hK => ?_)
  refine call_ 41 #[.slice (some ⟨w'.heap.size, 0, none⟩) 3 3, .pointer (some ⟨w.heap.size + 1, 0, none⟩)] (by rfl) rfl (by go_simp) ?_
  refine (HF.out.put [f4, quoB f5, quoB f7] 3 (by simp only [lenS, List.map_cons, List.map_nil, List.sum_cons, List.sum_nil]; show 6 + _ ≤ _; omega) (by simp)).mono ?_
  rintro e w2 ⟨rfl, hl2⟩
  have HL2 := Aside0.mk hl2
  have hcp2 := hl2.out
  clear hl2
  refine ⟨_, rfl, ?_⟩
  refine hK.out _ _ ⟨HL2.out.box 4, HL2.out.box 5, HL2.out.box 7⟩ (fun hHeld => ?_)
  clear hK K
  refine norm_ (a' := ?_) ?_ ?_
  rotate_left
  · show Act.put _ (some 30) _ = _
    simp only [Act.put, List.setIfInBounds_toArray, List.set_cons_zero, List.set_cons_succ, i64_w, i32_w]
    rfl
  refine done_ (by kernel_rfl) ?_
  have hcx2 := HL2.out.box
  clear hHeld hcx
  go_wp2_with fail
  have HCx := Aside0.mk hca
  obtain ⟨W0, hW0⟩ : ∃ W0, W0 = putS (⟨#[99, 114, 101, 97, 116, 101]⟩ : ByteArray) [f4, quoB f5, quoB f7] := ⟨_, rfl⟩
  rw [← hW0] at HL2
  have hW0s : W0.size ≤ 200000000000000 := by
    rw [hW0, putS_size]
    simp only [lenS, List.map_cons, List.map_nil, List.sum_cons, List.sum_nil]
    show 6 + _ ≤ _
    omega
  go_loopw [34] (fun i wr => ∃ k : Nat, k ≤ f8.length ∧ i = .int .i64 k ∧ Aside0 (LS w (.cells #[.int .i64 1, .int .i64 f1, .int .i64 f2, .int .i64 f3, .string f4, .string f5, .string f6, .string f7, .slice A f8.length c] 24 (0, 0)) (putS W0 ((f8.take k).map attrP)) wr)) (fun i _ => f8.length - (intOf i).toNat)
  case atStart => exact ⟨0, Nat.zero_le _, rfl, HL2⟩
  case round =>
    obtain ⟨k, hk, rfl, HI⟩ := hrel
    by_cases hlt : k < f8.length
    · obtain ⟨ad, rfl, e0, e1⟩ := at_T51 HCx.out (k : Int) (by omega) (by omega)
      rw [Int.toNat_natCast] at e0 e1
      have d0 := pw_cell_below HI.out.2.2.1 e0
      have d1 := pw_cell_below HI.out.2.2.1 e1
      clear e0 e1
      have hx1 := haz k hlt
      have hsn := attrP_snoc f8 k hlt
      have hle := attrsP_len f8 haz k (by omega)
      obtain ⟨X, hX⟩ : ∃ X, X = rd_T51 f8 (k : Int) := ⟨_, rfl⟩
      rw [← hX] at d0 d1 hx1 hsn
      have HS := Aside0.mk hsn
      clear hX hsn
      have hqx : (quoB X.f1).size ≤ 10000000000 := by have := escT_size X.f1; have := quoB_size X.f1; omega
      have hex : ((X.f0 ++ (⟨#[61]⟩ : ByteArray)) ++ quoB X.f1).size = X.f0.size + 1 + (quoB X.f1).size := by rw [ByteArray.size_append, ByteArray.size_append]; rfl
      have hlen : (putS W0 ((f8.take k).map attrP)).size + lenS [(X.f0 ++ (⟨#[61]⟩ : ByteArray)) ++ quoB X.f1] ≤ 1000000000000000 := by
        rw [putS_size]
        have e1 : lenS [(X.f0 ++ (⟨#[61]⟩ : ByteArray)) ++ quoB X.f1] = X.f0.size + 1 + (quoB X.f1).size + 1 := by simp only [lenS, List.map_cons, List.map_nil, List.sum_cons, List.sum_nil, hex, Nat.add_zero]
        omega
      have z1 : (9223372036854775807 < X.f0.size + 1) = False := eq_false (by omega)
      have z2 : (9223372036854775807 < (X.f0 ++ (⟨#[61]⟩ : ByteArray)).size + (quoB X.f1).size) = False := eq_false (by rw [ByteArray.size_append]; show ¬ _ < X.f0.size + 1 + _; omega)
      have z3 : (9223372036854775807 < X.f0.size + 1 + (quoB X.f1).size) = False := eq_false (by omega)
      go_wp2_with fail
      have HGx := Aside0.mk (Lib.cell_of_heap (show ((wr.alloc (.cells #[.string X.f0, .string X.f1] 51 (0, 0))).drew).heap[wr.heap.size]? = some (.cells #[.string X.f0, .string X.f1] 51 (0, 0)) from heap_alloc_new wr (.cells #[.string X.f0, .string X.f1] 51 (0, 0))))
      have HD := Aside0.mk (HI.out.next (below_drew1 (below_alloc (Below.refl _ wr) (.cells #[.string X.f0, .string X.f1] 51 (0, 0)))))
      refine start_ (n := 10) (S := fun w' => w'.cell? ⟨wr.heap.size, 0, none⟩ = some (.string X.f0) ∧ w'.cell? ⟨wr.heap.size, 1, none⟩ = some (.string X.f1)) (ds := [9]) #[false, false, false, false, false, false, false, false, false, false] (by kernel_rfl) rfl rfl ⟨HGx.out 0, HGx.out 1⟩ (fun hHeld => ?_)
      refine pure_ (i := 0) (N := some 38) (v := ?_) (a' := ?_) #[true, false, false, false, false, false, false, false, false, false] rfl rfl (by kernel_rfl) (fun _ _ _ h => h) (Or.inl ⟨by rfl, ?_⟩) ?_ ?_
      rotate_left
      · intro w'
        go_simp
        with_reducible rfl
      rotate_left
      · simp only [Act.put, List.setIfInBounds_toArray, List.set_cons_zero, List.set_cons_succ, i64_w, i32_w]
        rfl
      refine pure_ (i := 1) (N := some 39) (v := ?_) (a' := ?_) #[true, true, false, false, false, false, false, false, false, false] rfl rfl (by kernel_rfl) (fun _ _ _ h => h) (Or.inl ⟨by rfl, ?_⟩) ?_ ?_
      rotate_left
      · intro w'
        go_simp
        with_reducible rfl
      rotate_left
      · simp only [Act.put, List.setIfInBounds_toArray, List.set_cons_zero, List.set_cons_succ, i64_w, i32_w]
        rfl
      refine pure_ (i := 4) (N := some 42) (v := ?_) (a' := ?_) #[true, true, false, false, true, false, false, false, false, false] rfl rfl (by kernel_rfl) (fun _ _ _ h => h) (Or.inl ⟨by rfl, ?_⟩) ?_ ?_
      rotate_left
      · intro w'
        go_simp
        with_reducible rfl
      rotate_left
      · simp only [Act.put, List.setIfInBounds_toArray, List.set_cons_zero, List.set_cons_succ, i64_w, i32_w]
        rfl
      refine take_ (i := 2) (N := some 40) (v := ?_) (a' := ?_) #[true, true, true, false, true, false, false, false, false, false] rfl rfl (by kernel_rfl) (fun _ _ _ h => h) (Or.inl ⟨by rfl, ?_⟩) hHeld ?_ ?_
      rotate_left
      · intro w' s0
        go_split_ands
        go_simp
        with_reducible rfl
      rotate_left
      · simp only [Act.put, List.setIfInBounds_toArray, List.set_cons_zero, List.set_cons_succ, i64_w, i32_w]
        rfl
      refine take_ (i := 5) (N := some 43) (v := ?_) (a' := ?_) #[true, true, true, false, true, true, false, false, false, false] rfl rfl (by kernel_rfl) (fun _ _ _ h => h) (Or.inl ⟨by rfl, ?_⟩) hHeld ?_ ?_
      rotate_left
      · intro w' s0
        go_split_ands
        go_simp
        with_reducible rfl
      rotate_left
      · simp only [Act.put, List.setIfInBounds_toArray, List.set_cons_zero, List.set_cons_succ, i64_w, i32_w]
        rfl
      refine pure_ (i := 3) (N := some 41) (v := ?_) (a' := ?_) #[true, true, true, true, true, true, false, false, false, false] rfl rfl (by kernel_rfl) (fun _ _ _ h => h) (Or.inl ⟨by rfl, ?_⟩) ?_ ?_
      rotate_left
      · intro w'
        go_simp
        with_reducible rfl
      rotate_left
      · simp only [Act.put, List.setIfInBounds_toArray, List.set_cons_zero, List.set_cons_succ, i64_w, i32_w]
        rfl
      refine one_ (i := 6) (N := some 44) #[true, true, true, true, true, true, true, false, false, false] rfl rfl (by kernel_rfl) (by decide) (fun K hK => ?_)
      refine goes_ Tryd.func43 (by kernel_rfl) rfl #[.string X.f1] (by rfl) rfl rfl (by (try simp only [List.map_toArray, List.map_cons, List.map_nil]); first | done | rfl) ?_
      refine (quoted_c X.f1 (by omega) _ (HGL.out.below HD.out.2.2.1)).mono ?_
      rintro e w' ⟨rfl, hb⟩
      have HE := Aside0.mk (HD.out.next hb)
      have HG0 := Aside0.mk (pw_cell_below hb (HGx.out 0))
      have HG1 := Aside0.mk (pw_cell_below hb (HGx.out 1))
      refine ⟨_, rfl, ?_⟩
      refine hK.out _ _ ⟨HG0.out, HG1.out⟩ (fun hHeld => ?_)
      clear hK K hb
      refine norm_ (a' := ?_) ?_ ?_
      rotate_left
      · show Act.put _ (some 44) _ = _
        simp only [Act.put, List.setIfInBounds_toArray, List.set_cons_zero, List.set_cons_succ, i64_w, i32_w]
        rfl
      refine pure_ (i := 7) (N := some 45) (v := ?_) (a' := ?_) #[true, true, true, true, true, true, true, true, false, false] rfl rfl (by kernel_rfl) (fun _ _ _ h => h) (Or.inl ⟨by rfl, ?_⟩) ?_ ?_
      rotate_left
      · intro w'
        go_simp
        with_reducible rfl
      rotate_left
      · simp only [Act.put, List.setIfInBounds_toArray, List.set_cons_zero, List.set_cons_succ, i64_w, i32_w]
        rfl
      refine one_ (i := 8) (N := some 46) #[true, true, true, true, true, true, true, true, true, false] rfl rfl (by kernel_rfl) (by decide) (fun K hK => ?_)
      refine value_ (w1 := w'.alloc (.cells #[.string ((X.f0 ++ (⟨#[61]⟩ : ByteArray)) ++ quoB X.f1)] 9 (0, 0))) (v := .slice (some ⟨w'.heap.size, 0, none⟩) 1 1) (by rfl) rfl (by go_simp) ?_
      refine hK.out _ _ ⟨pw_cell_below (below_alloc (Below.refl _ w') (.cells #[.string ((X.f0 ++ (⟨#[61]⟩ : ByteArray)) ++ quoB X.f1)] 9 (0, 0))) HG0.out, pw_cell_below (below_alloc (Below.refl _ w') (.cells #[.string ((X.f0 ++ (⟨#[61]⟩ : ByteArray)) ++ quoB X.f1)] 9 (0, 0))) HG1.out⟩ (fun hHeld => ?_)
      clear hK K
      refine norm_ (a' := ?_) ?_ ?_
      rotate_left
      · show Act.put _ (some 46) _ = _
        simp only [Act.put, List.setIfInBounds_toArray, List.set_cons_zero, List.set_cons_succ, i64_w, i32_w]
        rfl
      refine last_ (i := 9) (N := some 47) #[true, true, true, true, true, true, true, true, true, true] rfl rfl (by kernel_rfl) (by decide) (fun K hK => ?_)
      refine call_ 41 #[.slice (some ⟨w'.heap.size, 0, none⟩) 1 1, .pointer (some ⟨w.heap.size + 1, 0, none⟩)] (by rfl) rfl (by go_simp) ?_
      refine (HE.out.put [(X.f0 ++ (⟨#[61]⟩ : ByteArray)) ++ quoB X.f1] 1 hlen (by simp)).mono ?_
      rintro e w2 ⟨rfl, hl3⟩
      have HL3 := Aside0.mk hl3
      clear hl3
      refine ⟨_, rfl, ?_⟩
      refine hK.out _ _ ?_
      clear hK K
      refine norm_ (a' := ?_) ?_ ?_
      rotate_left
      · show Act.put _ (some 47) _ = _
        simp only [Act.put, List.setIfInBounds_toArray, List.set_cons_zero, List.set_cons_succ, i64_w, i32_w]
        rfl
      refine done_ (by kernel_rfl) ?_
      go_wp2_with fail
      go_roundw
      case rel => exact ⟨k + 1, by omega, by go_num, ⟨by rw [HS.out, putS_app]; exact HL3.out⟩⟩
      case measure => simp [intOf]; omega
    · have hke : k = f8.length := by omega
      subst hke
      have hcp2 := HI.out.out
      go_wp2_with fail
      refine bodyPost_ret (results_tmp rfl _ _ _) rfl ⟨?_, HI.out.2.2.1⟩
      show Ending.returned (.string (putS (putS (⟨#[99, 114, 101, 97, 116, 101]⟩ : ByteArray) [f4, quoB f5, quoB f7]) (f8.map attrP))) = _
      rw [← putS_app]
      rfl
end Go.Proofs.YtgdemingopcgaaaDoorE

namespace Go.Proofs.YtgdemingopcgaaaDoorE
open Go Go.RowKit Go.Proofs.YtgdemingopcgaaaDoorW.PrintWords Go.Proofs.YtgdemingopcgaaaDoorX Go.Proofs.YtgdemingopcgaaaDoor.P26
set_option linter.unusedVariables false
set_option linter.unusedSimpArgs false
/-- The sizes that a checked operation keeps. -/
def okZ (x : S24) : Prop := x.f5.size ≤ 1000000000 ∧ x.f7.size ≤ 1000000000 ∧ (x.f0 = 1 → x.f8.length ≤ 64 ∧ ∀ i : Nat, i < x.f8.length → (rd_T51 x.f8 i).f0.size ≤ 1000000000 ∧ (rd_T51 x.f8 i).f1.size ≤ 1000000000)
theorem line_c (x : S24) (A : Option Addr) (c : Nat) (w : World) (hgl : GL w) (hwd : WD w) (hx : okX x) (hk : 1 ≤ x.f0 ∧ x.f0 ≤ 7) (hz : okZ x) (hca : Kd.C k51 w A x.f8.length x.f8) :
    Calls Tryd.prog 20 #[opOf x A c] w fun e w' => e = .returned (.string (lineB x)) ∧ Below w.heap.size w w' := by
  obtain ⟨h5, h7, h1⟩ := hz
  have hk7 : x.f0 = 1 ∨ x.f0 = 2 ∨ x.f0 = 3 ∨ x.f0 = 4 ∨ x.f0 = 5 ∨ x.f0 = 6 ∨ x.f0 = 7 := by omega
  rcases hk7 with h | h | h | h | h | h | h
  · exact line_1 x A c w hgl hwd hx h ⟨h5, h7⟩ hca (h1 h).2 (h1 h).1
  · exact line_2 x A c w hgl hwd hx h
  · exact line_3 x A c w hgl hwd hx h
  · exact line_4 x A c w hgl hwd hx h
  · exact line_5 x A c w hgl hwd hx h (by omega)
  · exact line_6 x A c w hgl hwd hx h
  · exact line_7 x A c w hgl hwd hx h (by omega)
end Go.Proofs.YtgdemingopcgaaaDoorE

namespace Go.Proofs.YtgdemingopcgaaaDoorE
open Go Go.RowKit Go.Proofs.YtgdemingopcgaaaDoorW.PrintWords Go.Proofs.YtgdemingopcgaaaDoorX Go.Proofs.YtgdemingopcgaaaDoor.P26
set_option linter.unusedVariables false
set_option linter.unusedSimpArgs false
set_option maxHeartbeats 4000000 in
set_option maxRecDepth 100000 in
theorem Line_bad (x : S24) (A : Option Addr) (c : Nat) (w : World) (hgl : GL w) (hx : okX x) (hc : x.f8.length ≤ c) (hca : Kd.C k51 w A x.f8.length x.f8) (hk : chk x ≠ 0) :
    Calls Tryd.prog 8 #[opOf x A c] w fun e w' => e = .returned (.tuple #[.string em, .int .i64 (chk x)]) ∧ Below w.heap.size w w' := by
  have CH := fun W hW hC => Check_x x A c W hW hC hc hx
  have HGL := Aside0.mk hgl
  have HCA := Aside0.mk hca
  obtain ⟨R, hR⟩ : ∃ R, R = chk x := ⟨_, rfl⟩
  rw [← hR] at CH hk ⊢
  have hb0 : (R == 0) = false := by simpa using hk
  obtain ⟨f0, f1, f2, f3, f4, f5, f6, f7, f8⟩ := x
  clear hR hx hca hgl
  simp only at HCA
  unfold opOf opV at CH ⊢
  simp only at CH ⊢
  go_enter Tryd.func8, Tryd.ntmps8
  go_wp2_with fail
  refine (CH _ (HGL.out.below (below_alloc (Below.refl _ _) _)) ?_).mono ?_
  · exact Kd.C_below HCA.out (below_alloc (Below.refl _ _) _)
  rintro e w1 ⟨rfl, hb⟩
  have HB := Aside0.mk (below_then (below_alloc (Below.refl w.heap.size w) _) (by simp) hb)
  clear hb
  go_wp2_with fail
  exact bodyPost_ret (results_tmp2 rfl _ _ _) rfl ⟨rfl, HB.out⟩
set_option maxHeartbeats 4000000 in
set_option maxRecDepth 100000 in
theorem Line_ok (x : S24) (A : Option Addr) (c : Nat) (w : World) (hgl : GL w) (hx : okX x) (hc : x.f8.length ≤ c) (hca : Kd.C k51 w A x.f8.length x.f8) (hwd : WD w) (hk : chk x = 0) (h17 : 1 ≤ x.f0 ∧ x.f0 ≤ 7) (hz : okZ x) :
    Calls Tryd.prog 8 #[opOf x A c] w fun e w' => e = .returned (.tuple #[.string (lineB x), .int .i64 0]) ∧ Below w.heap.size w w' := by
  have CH := fun W hW hC => Check_x x A c W hW hC hc hx
  have HGL := Aside0.mk hgl
  have HCA := Aside0.mk hca
  have LN := fun W hW hD hC => line_c x A c W hW hD hx h17 hz hC
  have HWD := Aside0.mk hwd
  rw [hk] at CH
  obtain ⟨L, hL⟩ : ∃ L, L = lineB x := ⟨_, rfl⟩
  rw [← hL] at LN ⊢
  obtain ⟨f0, f1, f2, f3, f4, f5, f6, f7, f8⟩ := x
  clear hL hx hca hgl hwd hk h17 hz
  simp only at HCA
  unfold opOf opV at CH LN ⊢
  simp only at CH LN ⊢
  go_enter Tryd.func8, Tryd.ntmps8
  go_wp2_with fail
  refine (CH _ (HGL.out.below (below_alloc (Below.refl _ _) _)) ?_).mono ?_
  · exact Kd.C_below HCA.out (below_alloc (Below.refl _ _) _)
  rintro e w1 ⟨rfl, hb⟩
  have HB := Aside0.mk (below_then (below_alloc (Below.refl w.heap.size w) _) (by simp) hb)
  have hcx := Lib.cell_of_heap ((hb.block w.heap.size (by simp)).trans (heap_alloc_new w _))
  clear hb
  go_wp2_with fail
  refine (LN _ (HGL.out.below HB.out) (HWD.out.below HB.out) (Kd.C_below HCA.out HB.out)).mono ?_
  rintro e w2 ⟨rfl, hb⟩
  have HB2 := Aside0.mk (below_step HB.out hb)
  clear hb hcx
  go_wp2_with fail
  exact bodyPost_ret (results_tmp2 rfl _ _ _) rfl ⟨rfl, HB2.out⟩
end Go.Proofs.YtgdemingopcgaaaDoorE

namespace Go.Proofs.YtgdemingopcgaaaDoorE
open Go Go.RowKit Go.Proofs.YtgdemingopcgaaaDoorW.PrintWords Go.Proofs.YtgdemingopcgaaaDoorX Go.Proofs.YtgdemingopcgaaaDoor.P26 Go.Proofs.YtgdemingopcgaaaDoor.M02
set_option linter.unusedVariables false
set_option linter.unusedSimpArgs false
theorem name_le (more : Bool) (s : ByteArray) (h : namedS more (B s) = true) : s.size ≤ 32 := by
  have e : (B s).length = s.size := B_len s
  unfold namedS at h
  split at h
  · cases h
  · next c t he =>
    rw [he] at e
    simp only [Bool.and_eq_true, decide_eq_true_eq] at h
    rw [List.length_cons] at e
    omega
theorem attrsN_ok (l : List S51) (nm : Nat → Bool) : ∀ d i : Nat, (attrsN l nm d i).2 = 0 → ∀ j : Nat, i ≤ j → j < i + d → nm j = true ∧ (rd_T51 l j).f1.size ≤ 65536 ∧ j ≠ 64 := by
  intro d
  induction d with
  | zero => intro i _ j h1 h2; omega
  | succ d ih =>
    intro i h j h1 h2
    unfold attrsN at h
    by_cases h64 : i = 64
    · rw [if_pos h64] at h; cases h
    rw [if_neg h64] at h
    by_cases hn : nm i = true
    rotate_left
    · rw [if_neg hn] at h
      simp at h
    rw [if_pos hn] at h
    by_cases hs : (rd_T51 l i).f1.size > 65536
    · rw [if_pos hs] at h; cases h
    rw [if_neg hs] at h
    split at h
    · cases h
    split at h
    · cases h
    rcases Nat.lt_or_ge i j with h3 | h3
    · exact ih (i + 1) h j (by omega) (by omega)
    · obtain rfl : i = j := by omega
      exact ⟨hn, by omega, h64⟩
theorem chk_ok (x : S24) (h : chk x = 0) : (1 ≤ x.f0 ∧ x.f0 ≤ 7) ∧ okZ x := by
  unfold chk checkO at h
  split at h
  · cases h
  next h0 =>
  split at h
  · cases h
  split at h
  · cases h
  split at h
  · cases h
  split at h
  · cases h
  split at h
  · cases h
  next h5 =>
  have ha := attrsN_ok x.f8 _ x.f8.length 0 h
  refine ⟨by omega, by omega, by omega, fun _ => ⟨?_, fun i hi => ?_⟩⟩
  · rcases Nat.lt_or_ge 64 x.f8.length with h6 | h6
    · exact absurd rfl (ha 64 (by omega) (by omega)).2.2
    · exact h6
  · obtain ⟨h1, h2, -⟩ := ha i (by omega) (by omega)
    have h3 := name_le true _ h1
    omega
end Go.Proofs.YtgdemingopcgaaaDoorE

namespace Go.Proofs.YtgdemingopcgaaaDoorE
open Go Go.RowKit Go.Proofs.YtgdemingopcgaaaDoorW.PrintWords Go.Proofs.YtgdemingopcgaaaDoorX
set_option linter.unusedVariables false
def atoiS (l : List UInt8) : Int × Option Int := match Lib.atoiAll l with
  | .ok n => (n, none)
  | .range => (Lib.atoiSat l, some 0)
  | _ => (0, some 0)
def strconv_Atoi.f (a0 : ByteArray) : Option (Int × Option Int) := if a0.size ≤ 281474976710656 then some (atoiS a0.data.toList) else none
/-- What is handed back: a number, and no error or one that is not nil. -/
def AtoiTells (r1 : Int) (e : Ending) : Option Int → Prop
  | none => e = .returned (.tuple #[.int .i64 r1, .nilIface])
  | some _ => ∃ N, e = .returned (.tuple #[.int .i64 r1, .iface 107 (.pointer (some ⟨N, 0, none⟩))])
theorem strconv_Atoi.calls (a0 : ByteArray) (r1 : Int) (r2 : Option Int) (w : World) (hgl : GL w) (h : strconv_Atoi.f a0 = some (r1, r2)) :
    Calls Tryd.prog 61 #[.string a0] w fun e w' => AtoiTells r1 e r2 ∧ Below w.heap.size w w' := by
  unfold strconv_Atoi.f at h
  by_cases hs : a0.size ≤ 281474976710656
  rotate_left
  · rw [if_neg hs] at h; cases h
  rw [if_pos hs] at h
  injection h with h
  unfold atoiS at h
  cases ha : Lib.atoiAll a0.data.toList with
  | ok n =>
    rw [ha] at h
    injection h with h1 h2
    subst h1; subst h2
    refine (Tryd.strconv_Atoi_ok a0 (by omega) n ha w).mono ?_
    rintro e w' ⟨he, hw⟩
    refine ⟨he, ?_⟩
    rcases hw with rfl | ⟨t, rfl⟩
    · exact Below.refl _ _
    · exact bytes_below (Below.refl _ _) (Nat.le_refl _) _ _
  | range =>
    rw [ha] at h
    injection h with h1 h2
    subst h1; subst h2
    obtain ⟨_, _, ⟨tp, p, hv⟩⟩ := hgl
    refine (Tryd.strconv_Atoi_range_var a0 hs ha tp p w hv).mono ?_
    rintro e w' ⟨N, he, _, _, hb⟩
    exact ⟨⟨N, he⟩, hb⟩
  | _ =>
    rw [ha] at h
    injection h with h1 h2
    subst h1; subst h2
    obtain ⟨_, ⟨tp, p, hv⟩, _⟩ := hgl
    refine (Tryd.strconv_Atoi_syntax_var a0 hs ha tp p w hv).mono ?_
    rintro e w' ⟨N, he, _, _, hb⟩
    exact ⟨⟨N, he⟩, hb⟩
end Go.Proofs.YtgdemingopcgaaaDoorE

namespace Go.Proofs.YtgdemingopcgaaaDoor.P03r
open Go.RowKit Go.Proofs.YtgdemingopcgaaaDoorE Go.Proofs.YtgdemingopcgaaaDoorW.PrintWords Go.Proofs.YtgdemingopcgaaaDoorW.PrintLast Go.Proofs.YtgdemingopcgaaaDoorW.PrintMore
attribute [local go_sem] max2_int min2_int max_two min_two max_three min_three max_four min_four   -- for this text's walks alone
set_option linter.unusedVariables false
set_option linter.unusedSimpArgs false

def errW : Option Int → Value
  | none => .nilIface
  | some c => .iface 0 (.int .i64 c)
theorem errW_none : errW none = .nilIface := rfl
theorem errW_some (c : Int) : errW (some c) = .iface 0 (.int .i64 c) := rfl

end Go.Proofs.YtgdemingopcgaaaDoor.P03r

namespace Go.Proofs.YtgdemingopcgaaaDoor.P03r
open Go.RowKit Go.Proofs.YtgdemingopcgaaaDoorE Go.Proofs.YtgdemingopcgaaaDoorW.PrintWords Go.Proofs.YtgdemingopcgaaaDoorW.PrintLast Go.Proofs.YtgdemingopcgaaaDoorW.PrintMore
attribute [local go_sem] max2_int min2_int max_two min_two max_three min_three max_four min_four   -- for this text's walks alone
set_option linter.unusedVariables false
set_option linter.unusedSimpArgs false

def stringslite_HasPrefix.f (a0 : ByteArray) (a1 : ByteArray) : Option (Bool) := if (a0.size : Int) ≥ (a1.size : Int) then (if 0 ≤ (a1.size : Int) then (if (a1.size : Int) ≤ (a0.size : Int) then (some ((a0.extract 0 ((a1.size : Int) : Int).toNat).toList == a1.toList)) else (none)) else (none)) else (some false)
set_option maxHeartbeats 8000000 in
set_option maxRecDepth 100000 in
theorem stringslite_HasPrefix.calls (a0 : ByteArray) (a1 : ByteArray) (r : Bool) (w : World) (hgl : Go.Proofs.YtgdemingopcgaaaDoorX.GL w) (h : stringslite_HasPrefix.f a0 a1 = some r) :
    Calls Tryd.prog 75 #[.string a0, .string a1] w fun e w' => e = .returned (.bool r) ∧ Drawn0 w w' := by
  have HGL := Aside0.mk hgl
  clear hgl
  have H : (if (a0.size : Int) ≥ (a1.size : Int) then (if 0 ≤ (a1.size : Int) then (if (a1.size : Int) ≤ (a0.size : Int) then (some ((a0.extract 0 ((a1.size : Int) : Int).toNat).toList == a1.toList)) else (none)) else (none)) else (some false)) = some r := h
  clear h
  by_cases c3 : (a0.size : Int) ≥ (a1.size : Int)
  · rw [if_pos c3] at H
    have c3b0 : decide ((a1.size : Int) ≤ (a0.size : Int)) = true := decide_eq_true c3
    have c3b1 : decide (a1.size ≤ a0.size) = true := decide_eq_true (Int.ofNat_le.mp c3)
    clear c3
    by_cases c4 : 0 ≤ (a1.size : Int)
    · rw [if_pos c4] at H
      have c4b0 := eq_true c4
      have c4b1 : decide (0 ≤ (a1.size : Int)) = true := decide_eq_true c4
      clear c4
      by_cases c5 : (a1.size : Int) ≤ (a0.size : Int)
      · rw [if_pos c5] at H
        have c5b0 := eq_true c5
        have c5b1 : decide ((a1.size : Int) ≤ (a0.size : Int)) = true := decide_eq_true c5
        clear c5
        obtain rfl := Option.some.inj H
        go_enter Tryd.func75, Tryd.ntmps75
        go_wp2
        go_ret
        exact ⟨by first | rfl | (simp; done) | (simp [*]; done), by repeat (first | exact Drawn0.refl _ | apply Drawn0.step)⟩
      · rw [if_neg c5] at H
        exact absurd H (by simp)
    · rw [if_neg c4] at H
      exact absurd H (by simp)
  · rw [if_neg c3] at H
    have c3b0 : decide ((a1.size : Int) ≤ (a0.size : Int)) = false := decide_eq_false c3
    have c3b1 : decide (a1.size ≤ a0.size) = false := decide_eq_false (fun h => c3 (Int.ofNat_le.mpr h))
    clear c3
    obtain rfl := Option.some.inj H
    go_enter Tryd.func75, Tryd.ntmps75
    go_wp2
    go_ret
    exact ⟨by first | rfl | (simp; done) | (simp [*]; done), by repeat (first | exact Drawn0.refl _ | apply Drawn0.step)⟩

def strings_HasPrefix.f (a0 : ByteArray) (a1 : ByteArray) : Option (Bool) := (stringslite_HasPrefix.f a0 a1).bind fun t101 => (some t101)
set_option maxHeartbeats 8000000 in
set_option maxRecDepth 100000 in
theorem strings_HasPrefix.calls (a0 : ByteArray) (a1 : ByteArray) (r : Bool) (w : World) (hgl : Go.Proofs.YtgdemingopcgaaaDoorX.GL w) (h : strings_HasPrefix.f a0 a1 = some r) :
    Calls Tryd.prog 67 #[.string a0, .string a1] w fun e w' => e = .returned (.bool r) ∧ Drawn0 w w' := by
  have HGL := Aside0.mk hgl
  clear hgl
  have H : ((stringslite_HasPrefix.f a0 a1).bind fun t101 => (some t101)) = some r := h
  clear h
  replace H := Option.bind_eq_some_iff.mp H
  obtain ⟨t101, A30, H⟩ := H
  replace H : (some t101) = some r := H
  have A3 := Aside0.mk A30
  clear A30
  obtain rfl := Option.some.inj H
  go_enter Tryd.func67, Tryd.ntmps67
  go_wp2_with (first | ((with_reducible refine gate_callee (f := 75) rfl ?_); refine goesL_ (some 7) rfl rfl Tryd.func75 (by kernel_rfl) rfl #[.string a0, .string a1] rfl (by (try simp only [List.map_toArray, List.map_cons, List.map_nil]); first | done | rfl | (simp only [List.length_drop, List.length_take]; rfl)) ?_; (with_reducible refine (stringslite_HasPrefix.calls a0 a1 t101 _ ?side1 A3.out).mono ?_); (case side1 => first | exact HGL.out | (repeat (first | exact HGL.out | (with_reducible refine Go.Proofs.YtgdemingopcgaaaDoorX.GL.drewN ?_ _) | (with_reducible refine Go.Proofs.YtgdemingopcgaaaDoorX.GL.drew ?_)))); rintro e w' ⟨rfl, ⟨nd, rfl⟩⟩; refine ⟨_, rfl, ?_⟩))
  go_ret
  exact ⟨by first | rfl | (simp; done) | (simp [*]; done), by repeat (first | exact Drawn0.refl _ | apply Drawn0.step)⟩

end Go.Proofs.YtgdemingopcgaaaDoor.P03r
