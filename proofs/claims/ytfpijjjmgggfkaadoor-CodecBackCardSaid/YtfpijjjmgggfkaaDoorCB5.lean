/- Merged by this claim's own program (merge.py) out of the texts X26x7, E27, L01, L01b, EW1, EW2, EW3, EW4, EW5, EW10, E30, E32, E28; the W texts among them began as the kit's print. -/
import Derived.Test.YtfpijjjmgggfkaaDoorCB4
import Derived.Lib.FrozenHead
import Derived.Laws.Externs
import Derived.KernelRfl
import Derived.Deep.RegionWith
import Derived.OwnWalk

namespace Go.Proofs.YtfpijjjmgggfkaaDoor.P26
open Go.RowKit Go.Proofs.YtfpijjjmgggfkaaDoorE Go.Proofs.YtfpijjjmgggfkaaDoorW.PrintWords Go.Proofs.YtfpijjjmgggfkaaDoorW.PrintLast Go.Proofs.YtfpijjjmgggfkaaDoorW.PrintMore
attribute [local go_sem] max2_int min2_int max_two min_two max_three min_three max_four min_four   -- for this text's walks alone
set_option linter.unusedVariables false
set_option linter.unusedSimpArgs false

attribute [local go_sem high] eqA44

def tendrilref25_First.l0 : Nat → List (S42) → Int → Int → Option (Int × Int)
  | 0, _, _, _ => none
  | k + 1, x0, x7, x8 => if x8 < x7 then (if x8 = 1048576 then (some (x8, 12)) else (if 0 ≤ x8 then (if x8 < (x0.length : Int) then ((tendrilref25_Check.f k ((rd_T42 x0 x8).f0) ((rd_T42 x0 x8).f1) ((rd_T42 x0 x8).f2) ((rd_T42 x0 x8).f3) ((rd_T42 x0 x8).f4) ((rd_T42 x0 x8).f5) ((rd_T42 x0 x8).f6) ((rd_T42 x0 x8).f7) ((rd_T42 x0 x8).f8)).bind fun t130 => (if t130 = 0 then (tendrilref25_First.l0 k x0 x7 (wrap64 (x8 + 1))) else (some (x8, t130)))) else (none)) else (none))) else (some (0, 0))
def tendrilref25_First.f (k : Nat) (l0 : List (S42)) : Option (Int × Int) := tendrilref25_First.l0 k l0 (l0.length : Int) 0
theorem tendrilref25_First.mono_l : ∀ k, (∀ y0 y1 y2, LeO (tendrilref25_First.l0 k y0 y1 y2) (tendrilref25_First.l0 (k + 1) y0 y1 y2))
  | 0 => fun _ _ _ r h => by simp [tendrilref25_First.l0] at h
  | k + 1 => by
    have ih0 := tendrilref25_First.mono_l k
    · intro y0 y1 y2
      unfold tendrilref25_First.l0
      repeat' first
      | (with_reducible exact ih0 _ _ _)
      | (with_reducible exact tendrilref25_Check.mono _ _ _ _ _ _ _ _ _ _)
      | (with_reducible exact LeO.refl _)
      | (with_reducible exact LeO.none _)
      | (with_reducible refine LeO.ite ?_ ?_)
      | (with_reducible refine LeO.bind ?_ (fun _ => ?_))
      | exact ih0 _ _ _
      | exact tendrilref25_Check.mono _ _ _ _ _ _ _ _ _ _
      | exact LeO.none _
      | refine LeO.ite ?_ ?_
      | refine LeO.bind ?_ (fun _ => ?_)
theorem tendrilref25_First.mono : ∀ a0 k, LeO (tendrilref25_First.f k a0) (tendrilref25_First.f (k + 1) a0) := by
  intro a0 k
  have ih0 := tendrilref25_First.mono_l k
  unfold tendrilref25_First.f
  repeat' first
      | (with_reducible exact ih0 _ _ _)
      | (with_reducible exact tendrilref25_Check.mono _ _ _ _ _ _ _ _ _ _)
      | (with_reducible exact LeO.refl _)
      | (with_reducible exact LeO.none _)
      | (with_reducible refine LeO.ite ?_ ?_)
      | (with_reducible refine LeO.bind ?_ (fun _ => ?_))
      | exact ih0 _ _ _
      | exact tendrilref25_Check.mono _ _ _ _ _ _ _ _ _ _
      | exact LeO.none _
      | refine LeO.ite ?_ ?_
      | refine LeO.bind ?_ (fun _ => ?_)
set_option maxHeartbeats 8000000 in
set_option maxRecDepth 100000 in
theorem tendrilref25_First.calls (k : Nat) (A0 : Option Addr) (c0 : Nat) (l0 : List (S42)) (r1 : Int) (r2 : Int) (w : World) (hgl : Go.Proofs.YtfpijjjmgggfkaaDoorX.GL w) (hr0 : Kd.C k42 w A0 l0.length l0) (hc0 : l0.length ≤ c0) (h : tendrilref25_First.f k l0 = some (r1, r2)) :
    Calls Tryd.prog 10 #[.slice A0 l0.length c0] w fun e w' => e = .returned (.tuple #[.int .i64 r1, .int .i64 r2]) ∧ Below w.heap.size w w' := by
  have hu42 := Tryd.underlying42
  have HR0 := Aside0.mk hr0
  have HC0 := Aside0.mk hc0
  clear hr0 hc0
  have HGL := Aside0.mk hgl
  clear hgl
  have HB := Aside0.mk (Below.refl w.heap.size w)
  have H : (tendrilref25_First.l0 k l0 (l0.length : Int) 0) = some (r1, r2) := h
  clear h
  have H' := Aside0.mk H
  clear H
  go_enter Tryd.func10, Tryd.ntmps10
  go_wp2
  go_loopg [8] k (fun kq v8 w' => ∃ (x8_1 : Int), v8 = .int .i64 x8_1 ∧ Aside0 (tendrilref25_First.l0 kq l0 (l0.length : Int) x8_1 = some (r1, r2)) ∧ Aside0 (kq ≤ k) ∧ Aside0 (Below w.heap.size w w'))
  case atStart => exact ⟨(0), (by first | rfl | (simp; done) | (simp [*]; done)), H', ⟨Nat.le_refl _⟩, ⟨by repeat (first | (with_reducible first | exact HB.out | apply below_alloc | apply pw_below_drewN | apply below_drew1) | exact HB.out)⟩⟩
  case round =>
    clear H'
    try clear c1
    obtain ⟨x8_1, rfl, HA, HK1, HB⟩ := hrel
    cases gk with
    | zero => exact absurd HA.out (by simp [tendrilref25_First.l0])
    | succ k1 =>
      have H := HA.out
      clear HA
      simp only [tendrilref25_First.l0] at H
      by_cases c2 : x8_1 < (l0.length : Int)
      · rw [if_pos c2] at H
        have c2b0 : decide (x8_1 < (l0.length : Int)) = true := decide_eq_true c2
        clear c2
        by_cases c3 : x8_1 = 1048576
        · rw [if_pos c3] at H
          have c3b0 : (x8_1 == 1048576) = true := beq_iff_eq.mpr c3
          have c3b1 : (x8_1 != 1048576) = false := bne_eq_false_iff_eq.mpr c3
          clear c3
          simp only [Option.some.injEq, Prod.mk.injEq] at H
          obtain ⟨rfl, rfl⟩ := H
          go_wp2
          go_ret2
          exact ⟨by first | rfl | (simp [errW_none, errW_some] <;> first | rfl | exact emp_bne _ | exact (emp_bne _).symm | exact emp_bne' _ | exact (emp_bne' _).symm) | (simp [*, errW_none, errW_some] <;> rfl), by repeat (first | (with_reducible first | exact HB.out | apply below_alloc | apply pw_below_drewN | apply below_drew1) | exact HB.out)⟩
        · rw [if_neg c3] at H
          have c3b0 : (x8_1 == 1048576) = false := beq_eq_false_iff_ne.mpr c3
          have c3b1 : (x8_1 != 1048576) = true := bne_iff_ne.mpr c3
          by_cases c4 : 0 ≤ x8_1
          · rw [if_pos c4] at H
            have c4b0 : decide (0 ≤ x8_1) = true := decide_eq_true c4
            clear c4
            by_cases c5 : x8_1 < (l0.length : Int)
            · rw [if_pos c5] at H
              have c5b0 : decide (x8_1 < (l0.length : Int)) = true := decide_eq_true c5
              clear c5
              replace H := Option.bind_eq_some_iff.mp H
              obtain ⟨t130, A60, H⟩ := H
              replace H : (if t130 = 0 then (tendrilref25_First.l0 k1 l0 (l0.length : Int) (wrap64 (x8_1 + 1))) else (some (x8_1, t130))) = some (r1, r2) := H
              have A6 := Aside0.mk A60
              clear A60
              by_cases c7 : t130 = 0
              · rw [if_pos c7] at H
                have c7b0 : (t130 == 0) = true := beq_iff_eq.mpr c7
                have c7b1 : (t130 != 0) = false := bne_eq_false_iff_eq.mpr c7
                clear c7
                have H' := Aside0.mk H
                clear H
                have p129 : 0 ≤ (x8_1 : Int) := of_decide_eq_true (by first | (with_reducible assumption) | assumption)
                have q129 : x8_1 < (l0.length : Int) := of_decide_eq_true (by first | (with_reducible assumption) | assumption)
                obtain ⟨ad129, A129_8, c129_8, e129, hx129_0, hx129_1, hx129_2, hx129_3, hx129_4, hx129_5, hx129_6, hx129_7, hx129_8, hl129_8, hi129_8⟩ := at_T42 HR0.out x8_1 p129 q129
                cases e129
                replace hx129_0 := (HB.out.cell (World.block_lt_of_cell? w _ hx129_0)).trans hx129_0
                replace hx129_1 := (HB.out.cell (World.block_lt_of_cell? w _ hx129_1)).trans hx129_1
                replace hx129_2 := (HB.out.cell (World.block_lt_of_cell? w _ hx129_2)).trans hx129_2
                replace hx129_3 := (HB.out.cell (World.block_lt_of_cell? w _ hx129_3)).trans hx129_3
                replace hx129_4 := (HB.out.cell (World.block_lt_of_cell? w _ hx129_4)).trans hx129_4
                replace hx129_5 := (HB.out.cell (World.block_lt_of_cell? w _ hx129_5)).trans hx129_5
                replace hx129_6 := (HB.out.cell (World.block_lt_of_cell? w _ hx129_6)).trans hx129_6
                replace hx129_7 := (HB.out.cell (World.block_lt_of_cell? w _ hx129_7)).trans hx129_7
                replace hx129_8 := (HB.out.cell (World.block_lt_of_cell? w _ hx129_8)).trans hx129_8
                have HR129_8 := Aside0.mk hi129_8
                have HC129_8 := Aside0.mk hl129_8
                clear hi129_8 hl129_8
                replace p129 := eq_true p129
                replace q129 := eq_true q129
                go_wp2_with (first | ((with_reducible refine gate_callee (f := 20) rfl ?_); refine goesL_ (some 18) rfl rfl Tryd.func20 (by kernel_rfl) rfl #[.agg #[.int .i64 ((rd_T42 l0 x8_1).f0), .int .i64 ((rd_T42 l0 x8_1).f1), .int .i64 ((rd_T42 l0 x8_1).f2), .int .i64 ((rd_T42 l0 x8_1).f3), .string ((rd_T42 l0 x8_1).f4), .string ((rd_T42 l0 x8_1).f5), .string ((rd_T42 l0 x8_1).f6), .string ((rd_T42 l0 x8_1).f7), .slice A129_8 ((rd_T42 l0 x8_1).f8).length c129_8]] rfl (by (try simp only [List.map_toArray, List.map_cons, List.map_nil]); first | done | rfl | (simp only [List.length_drop, List.length_take]; rfl)) ?_; (with_reducible refine (tendrilref25_Check.calls k1 ((rd_T42 l0 x8_1).f0) ((rd_T42 l0 x8_1).f1) ((rd_T42 l0 x8_1).f2) ((rd_T42 l0 x8_1).f3) ((rd_T42 l0 x8_1).f4) ((rd_T42 l0 x8_1).f5) ((rd_T42 l0 x8_1).f6) ((rd_T42 l0 x8_1).f7) _ _ ((rd_T42 l0 x8_1).f8) t130 _ ?side1 ?side2 ?side3 A6.out).mono ?_); (case side1 => first | exact HGL.out | exact (Go.Proofs.YtfpijjjmgggfkaaDoorX.GL.below HGL.out (by repeat (first | (with_reducible first | exact HB.out | apply below_alloc | apply pw_below_drewN | apply below_drew1) | exact HB.out))) | (repeat (first | exact HGL.out | (with_reducible refine Go.Proofs.YtfpijjjmgggfkaaDoorX.GL.drewN ?_ _) | (with_reducible refine Go.Proofs.YtfpijjjmgggfkaaDoorX.GL.drew ?_)))); (case side2 => repeat (first | exact (Kd.C_below HR129_8.out HB.out) | (with_reducible refine Kd.C_alloc ?_ _) | (with_reducible refine Kd.C_drewN ?_ _) | (with_reducible refine Kd.C_drew ?_))); (case side3 => exact HC129_8.out); rintro e w8 ⟨rfl, hb⟩; refine ⟨_, rfl, ?_⟩; have n0_ := Aside0.mk (below_step (by repeat (first | (with_reducible first | exact HB.out | apply below_alloc | apply pw_below_drewN | apply below_drew1) | exact HB.out)) hb); clear HB; have HB := n0_; clear n0_; (try clear hb); (try clear hb2); (try clear hk); (try clear hi)))
                go_roundg k1
                case measure => have := HK1.out; omega
                case rel => exact ⟨(wrap64 (x8_1 + 1)), (by first | rfl | (simp; done) | (simp [*]; done)), H', ⟨by have := HK1.out; omega⟩, ⟨by repeat (first | (with_reducible first | exact HB.out | apply below_alloc | apply pw_below_drewN | apply below_drew1) | exact HB.out)⟩⟩
              · rw [if_neg c7] at H
                have c7b0 : (t130 == 0) = false := beq_eq_false_iff_ne.mpr c7
                have c7b1 : (t130 != 0) = true := bne_iff_ne.mpr c7
                simp only [Option.some.injEq, Prod.mk.injEq] at H
                obtain ⟨rfl, rfl⟩ := H
                have p129 : 0 ≤ (x8_1 : Int) := of_decide_eq_true (by first | (with_reducible assumption) | assumption)
                have q129 : x8_1 < (l0.length : Int) := of_decide_eq_true (by first | (with_reducible assumption) | assumption)
                obtain ⟨ad129, A129_8, c129_8, e129, hx129_0, hx129_1, hx129_2, hx129_3, hx129_4, hx129_5, hx129_6, hx129_7, hx129_8, hl129_8, hi129_8⟩ := at_T42 HR0.out x8_1 p129 q129
                cases e129
                replace hx129_0 := (HB.out.cell (World.block_lt_of_cell? w _ hx129_0)).trans hx129_0
                replace hx129_1 := (HB.out.cell (World.block_lt_of_cell? w _ hx129_1)).trans hx129_1
                replace hx129_2 := (HB.out.cell (World.block_lt_of_cell? w _ hx129_2)).trans hx129_2
                replace hx129_3 := (HB.out.cell (World.block_lt_of_cell? w _ hx129_3)).trans hx129_3
                replace hx129_4 := (HB.out.cell (World.block_lt_of_cell? w _ hx129_4)).trans hx129_4
                replace hx129_5 := (HB.out.cell (World.block_lt_of_cell? w _ hx129_5)).trans hx129_5
                replace hx129_6 := (HB.out.cell (World.block_lt_of_cell? w _ hx129_6)).trans hx129_6
                replace hx129_7 := (HB.out.cell (World.block_lt_of_cell? w _ hx129_7)).trans hx129_7
                replace hx129_8 := (HB.out.cell (World.block_lt_of_cell? w _ hx129_8)).trans hx129_8
                have HR129_8 := Aside0.mk hi129_8
                have HC129_8 := Aside0.mk hl129_8
                clear hi129_8 hl129_8
                replace p129 := eq_true p129
                replace q129 := eq_true q129
                go_wp2_with (first | ((with_reducible refine gate_callee (f := 20) rfl ?_); refine goesL_ (some 18) rfl rfl Tryd.func20 (by kernel_rfl) rfl #[.agg #[.int .i64 ((rd_T42 l0 x8_1).f0), .int .i64 ((rd_T42 l0 x8_1).f1), .int .i64 ((rd_T42 l0 x8_1).f2), .int .i64 ((rd_T42 l0 x8_1).f3), .string ((rd_T42 l0 x8_1).f4), .string ((rd_T42 l0 x8_1).f5), .string ((rd_T42 l0 x8_1).f6), .string ((rd_T42 l0 x8_1).f7), .slice A129_8 ((rd_T42 l0 x8_1).f8).length c129_8]] rfl (by (try simp only [List.map_toArray, List.map_cons, List.map_nil]); first | done | rfl | (simp only [List.length_drop, List.length_take]; rfl)) ?_; (with_reducible refine (tendrilref25_Check.calls k1 ((rd_T42 l0 x8_1).f0) ((rd_T42 l0 x8_1).f1) ((rd_T42 l0 x8_1).f2) ((rd_T42 l0 x8_1).f3) ((rd_T42 l0 x8_1).f4) ((rd_T42 l0 x8_1).f5) ((rd_T42 l0 x8_1).f6) ((rd_T42 l0 x8_1).f7) _ _ ((rd_T42 l0 x8_1).f8) t130 _ ?side1 ?side2 ?side3 A6.out).mono ?_); (case side1 => first | exact HGL.out | exact (Go.Proofs.YtfpijjjmgggfkaaDoorX.GL.below HGL.out (by repeat (first | (with_reducible first | exact HB.out | apply below_alloc | apply pw_below_drewN | apply below_drew1) | exact HB.out))) | (repeat (first | exact HGL.out | (with_reducible refine Go.Proofs.YtfpijjjmgggfkaaDoorX.GL.drewN ?_ _) | (with_reducible refine Go.Proofs.YtfpijjjmgggfkaaDoorX.GL.drew ?_)))); (case side2 => repeat (first | exact (Kd.C_below HR129_8.out HB.out) | (with_reducible refine Kd.C_alloc ?_ _) | (with_reducible refine Kd.C_drewN ?_ _) | (with_reducible refine Kd.C_drew ?_))); (case side3 => exact HC129_8.out); rintro e w9 ⟨rfl, hb⟩; refine ⟨_, rfl, ?_⟩; have n0_ := Aside0.mk (below_step (by repeat (first | (with_reducible first | exact HB.out | apply below_alloc | apply pw_below_drewN | apply below_drew1) | exact HB.out)) hb); clear HB; have HB := n0_; clear n0_; (try clear hb); (try clear hb2); (try clear hk); (try clear hi)))
                go_ret2
                exact ⟨by first | rfl | (simp [errW_none, errW_some] <;> first | rfl | exact emp_bne _ | exact (emp_bne _).symm | exact emp_bne' _ | exact (emp_bne' _).symm) | (simp [*, errW_none, errW_some] <;> rfl), by repeat (first | (with_reducible first | exact HB.out | apply below_alloc | apply pw_below_drewN | apply below_drew1) | exact HB.out)⟩
            · rw [if_neg c5] at H
              exact absurd H (by simp)
          · rw [if_neg c4] at H
            exact absurd H (by simp)
      · rw [if_neg c2] at H
        have c2b0 : decide (x8_1 < (l0.length : Int)) = false := decide_eq_false c2
        clear c2
        simp only [Option.some.injEq, Prod.mk.injEq] at H
        obtain ⟨rfl, rfl⟩ := H
        go_wp2
        go_ret2
        exact ⟨by first | rfl | (simp [errW_none, errW_some] <;> first | rfl | exact emp_bne _ | exact (emp_bne _).symm | exact emp_bne' _ | exact (emp_bne' _).symm) | (simp [*, errW_none, errW_some] <;> rfl), by repeat (first | (with_reducible first | exact HB.out | apply below_alloc | apply pw_below_drewN | apply below_drew1) | exact HB.out)⟩

mutual
def tendrilplain_FewOps.l0 : Nat → List (S42) → Int → Int → Int → Option (Bool)
  | 0, _, _, _, _ => none
  | k + 1, x0, x5, x11, x12 => if x12 < x11 then (if 0 ≤ x12 then (if x12 < (x0.length : Int) then (if (wrap64 ((wrap64 ((wrap64 (x5 - 1)) - (((rd_T42 x0 x12).f8).length : Int))) - (wrap64 (Int.tdiv (wrap64 ((wrap64 ((wrap64 ((((rd_T42 x0 x12).f7).size : Int) + (((rd_T42 x0 x12).f5).size : Int))) + (((rd_T42 x0 x12).f4).size : Int))) + (((rd_T42 x0 x12).f6).size : Int))) 4096)))) < 0 then (some false) else (tendrilplain_FewOps.l1 k x0 (wrap64 ((wrap64 ((wrap64 (x5 - 1)) - (((rd_T42 x0 x12).f8).length : Int))) - (wrap64 (Int.tdiv (wrap64 ((wrap64 ((wrap64 ((((rd_T42 x0 x12).f7).size : Int) + (((rd_T42 x0 x12).f5).size : Int))) + (((rd_T42 x0 x12).f4).size : Int))) + (((rd_T42 x0 x12).f6).size : Int))) 4096)))) x11 x12 (((rd_T42 x0 x12).f8).length : Int) 0 ((rd_T42 x0 x12).f0) ((rd_T42 x0 x12).f1) ((rd_T42 x0 x12).f2) ((rd_T42 x0 x12).f3) ((rd_T42 x0 x12).f4) ((rd_T42 x0 x12).f5) ((rd_T42 x0 x12).f6) ((rd_T42 x0 x12).f7) ((rd_T42 x0 x12).f8))) else (none)) else (none)) else (some (decide (x5 ≥ 0)))
def tendrilplain_FewOps.l1 : Nat → List (S42) → Int → Int → Int → Int → Int → Int → Int → Int → Int → ByteArray → ByteArray → ByteArray → ByteArray → List (S44) → Option (Bool)
  | 0, _, _, _, _, _, _, _, _, _, _, _, _, _, _, _ => none
  | k + 1, x0, x5, x11, x12, x46, x47, x133000, x133001, x133002, x133003, x133004, x133005, x133006, x133007, x133008 => if x47 < x46 then (if 0 ≤ x47 then (if x47 < (x133008.length : Int) then (tendrilplain_FewOps.l1 k x0 (wrap64 (x5 - (wrap64 (Int.tdiv (wrap64 ((((rd_T44 x133008 x47).f1).size : Int) + (((rd_T44 x133008 x47).f0).size : Int))) 4096)))) x11 x12 x46 (wrap64 (x47 + 1)) x133000 x133001 x133002 x133003 x133004 x133005 x133006 x133007 x133008) else (none)) else (none)) else (tendrilplain_FewOps.l0 k x0 x5 x11 (wrap64 (x12 + 1)))
end
def tendrilplain_FewOps.f (k : Nat) (l0 : List (S42)) (a1 : Int) : Option (Bool) := tendrilplain_FewOps.l0 k l0 a1 (l0.length : Int) 0
theorem tendrilplain_FewOps.mono_l : ∀ k, (∀ y0 y1 y2 y3, LeO (tendrilplain_FewOps.l0 k y0 y1 y2 y3) (tendrilplain_FewOps.l0 (k + 1) y0 y1 y2 y3)) ∧ (∀ y0 y1 y2 y3 y4 y5 y6 y7 y8 y9 y10 y11 y12 y13 y14, LeO (tendrilplain_FewOps.l1 k y0 y1 y2 y3 y4 y5 y6 y7 y8 y9 y10 y11 y12 y13 y14) (tendrilplain_FewOps.l1 (k + 1) y0 y1 y2 y3 y4 y5 y6 y7 y8 y9 y10 y11 y12 y13 y14))
  | 0 => ⟨fun _ _ _ _ r h => by simp [tendrilplain_FewOps.l0] at h, fun _ _ _ _ _ _ _ _ _ _ _ _ _ _ _ r h => by simp [tendrilplain_FewOps.l1] at h⟩
  | k + 1 => by
    obtain ⟨ih0, ih1⟩ := tendrilplain_FewOps.mono_l k
    refine ⟨?_, ?_⟩
    · intro y0 y1 y2 y3
      unfold tendrilplain_FewOps.l0
      repeat' first
      | (with_reducible exact ih0 _ _ _ _)
      | (with_reducible exact ih1 _ _ _ _ _ _ _ _ _ _ _ _ _ _ _)
      | (with_reducible exact LeO.refl _)
      | (with_reducible exact LeO.none _)
      | (with_reducible refine LeO.ite ?_ ?_)
      | (with_reducible refine LeO.bind ?_ (fun _ => ?_))
      | exact ih0 _ _ _ _
      | exact ih1 _ _ _ _ _ _ _ _ _ _ _ _ _ _ _
      | exact LeO.none _
      | refine LeO.ite ?_ ?_
      | refine LeO.bind ?_ (fun _ => ?_)
    · intro y0 y1 y2 y3 y4 y5 y6 y7 y8 y9 y10 y11 y12 y13 y14
      unfold tendrilplain_FewOps.l1
      repeat' first
      | (with_reducible exact ih0 _ _ _ _)
      | (with_reducible exact ih1 _ _ _ _ _ _ _ _ _ _ _ _ _ _ _)
      | (with_reducible exact LeO.refl _)
      | (with_reducible exact LeO.none _)
      | (with_reducible refine LeO.ite ?_ ?_)
      | (with_reducible refine LeO.bind ?_ (fun _ => ?_))
      | exact ih0 _ _ _ _
      | exact ih1 _ _ _ _ _ _ _ _ _ _ _ _ _ _ _
      | exact LeO.none _
      | refine LeO.ite ?_ ?_
      | refine LeO.bind ?_ (fun _ => ?_)
theorem tendrilplain_FewOps.mono : ∀ a0 a1 k, LeO (tendrilplain_FewOps.f k a0 a1) (tendrilplain_FewOps.f (k + 1) a0 a1) := by
  intro a0 a1 k
  obtain ⟨ih0, ih1⟩ := tendrilplain_FewOps.mono_l k
  unfold tendrilplain_FewOps.f
  repeat' first
      | (with_reducible exact ih0 _ _ _ _)
      | (with_reducible exact ih1 _ _ _ _ _ _ _ _ _ _ _ _ _ _ _)
      | (with_reducible exact LeO.refl _)
      | (with_reducible exact LeO.none _)
      | (with_reducible refine LeO.ite ?_ ?_)
      | (with_reducible refine LeO.bind ?_ (fun _ => ?_))
      | exact ih0 _ _ _ _
      | exact ih1 _ _ _ _ _ _ _ _ _ _ _ _ _ _ _
      | exact LeO.none _
      | refine LeO.ite ?_ ?_
      | refine LeO.bind ?_ (fun _ => ?_)
set_option maxHeartbeats 8000000 in
set_option maxRecDepth 100000 in
theorem tendrilplain_FewOps.calls (k : Nat) (A0 : Option Addr) (c0 : Nat) (l0 : List (S42)) (a1 : Int) (r : Bool) (w : World) (hgl : Go.Proofs.YtfpijjjmgggfkaaDoorX.GL w) (hr0 : Kd.C k42 w A0 l0.length l0) (hc0 : l0.length ≤ c0) (h : tendrilplain_FewOps.f k l0 a1 = some r) :
    Calls Tryd.prog 7 #[.slice A0 l0.length c0, .int .i64 a1] w fun e w' => e = .returned (.bool r) ∧ Below w.heap.size w w' := by
  have hu42 := Tryd.underlying42
  have HR0 := Aside0.mk hr0
  have HC0 := Aside0.mk hc0
  clear hr0 hc0
  have HGL := Aside0.mk hgl
  clear hgl
  have HB := Aside0.mk (Below.refl w.heap.size w)
  have H : (tendrilplain_FewOps.l0 k l0 a1 (l0.length : Int) 0) = some r := h
  clear h
  have H' := Aside0.mk H
  clear H
  go_enter Tryd.func7, Tryd.ntmps7
  go_wp2
  repeat (go_quiet (fail); try go_wp2)
  go_loopg [5, 12] k (fun kq v5 v12 w' => ∃ (x5_1 : Int) (x12_1 : Int), v5 = .int .i64 x5_1 ∧ v12 = .int .i64 x12_1 ∧ Aside0 (tendrilplain_FewOps.l0 kq l0 x5_1 (l0.length : Int) x12_1 = some r) ∧ Aside0 (kq ≤ k) ∧ Aside0 (Below w.heap.size w w'))
  case atStart => exact ⟨(a1), (0), (by first | rfl | (simp; done) | (simp [*]; done)), (by first | rfl | (simp; done) | (simp [*]; done)), H', ⟨Nat.le_refl _⟩, ⟨by repeat (first | (with_reducible first | exact HB.out | apply below_alloc | apply pw_below_drewN | apply below_drew1) | exact HB.out)⟩⟩
  case round =>
    clear H'
    try clear p2
    obtain ⟨x5_1, x12_1, rfl, rfl, HA, HK1, HB⟩ := hrel
    cases gk with
    | zero => exact absurd HA.out (by simp [tendrilplain_FewOps.l0])
    | succ k1 =>
      have H := HA.out
      clear HA
      simp only [tendrilplain_FewOps.l0] at H
      by_cases c3 : x12_1 < (l0.length : Int)
      · rw [if_pos c3] at H
        have c3b0 : decide (x12_1 < (l0.length : Int)) = true := decide_eq_true c3
        clear c3
        by_cases c4 : 0 ≤ x12_1
        · rw [if_pos c4] at H
          have c4b0 : decide (0 ≤ x12_1) = true := decide_eq_true c4
          clear c4
          by_cases c5 : x12_1 < (l0.length : Int)
          · rw [if_pos c5] at H
            have c5b0 : decide (x12_1 < (l0.length : Int)) = true := decide_eq_true c5
            clear c5
            by_cases c6 : (wrap64 ((wrap64 ((wrap64 (x5_1 - 1)) - (((rd_T42 l0 x12_1).f8).length : Int))) - (wrap64 (Int.tdiv (wrap64 ((wrap64 ((wrap64 ((((rd_T42 l0 x12_1).f7).size : Int) + (((rd_T42 l0 x12_1).f5).size : Int))) + (((rd_T42 l0 x12_1).f4).size : Int))) + (((rd_T42 l0 x12_1).f6).size : Int))) 4096)))) < 0
            · rw [if_pos c6] at H
              have c6b0 : decide ((wrap64 ((wrap64 ((wrap64 (x5_1 - 1)) - (((rd_T42 l0 x12_1).f8).length : Int))) - (wrap64 (Int.tdiv (wrap64 ((wrap64 ((wrap64 ((((rd_T42 l0 x12_1).f7).size : Int) + (((rd_T42 l0 x12_1).f5).size : Int))) + (((rd_T42 l0 x12_1).f4).size : Int))) + (((rd_T42 l0 x12_1).f6).size : Int))) 4096)))) < 0) = true := decide_eq_true c6
              clear c6
              obtain rfl := Option.some.inj H
              have p131 : 0 ≤ (x12_1 : Int) := of_decide_eq_true (by first | (with_reducible assumption) | assumption)
              have q131 : x12_1 < (l0.length : Int) := of_decide_eq_true (by first | (with_reducible assumption) | assumption)
              obtain ⟨ad131, A131_8, c131_8, e131, hx131_0, hx131_1, hx131_2, hx131_3, hx131_4, hx131_5, hx131_6, hx131_7, hx131_8, hl131_8, hi131_8⟩ := at_T42 HR0.out x12_1 p131 q131
              cases e131
              replace hx131_0 := (HB.out.cell (World.block_lt_of_cell? w _ hx131_0)).trans hx131_0
              replace hx131_1 := (HB.out.cell (World.block_lt_of_cell? w _ hx131_1)).trans hx131_1
              replace hx131_2 := (HB.out.cell (World.block_lt_of_cell? w _ hx131_2)).trans hx131_2
              replace hx131_3 := (HB.out.cell (World.block_lt_of_cell? w _ hx131_3)).trans hx131_3
              replace hx131_4 := (HB.out.cell (World.block_lt_of_cell? w _ hx131_4)).trans hx131_4
              replace hx131_5 := (HB.out.cell (World.block_lt_of_cell? w _ hx131_5)).trans hx131_5
              replace hx131_6 := (HB.out.cell (World.block_lt_of_cell? w _ hx131_6)).trans hx131_6
              replace hx131_7 := (HB.out.cell (World.block_lt_of_cell? w _ hx131_7)).trans hx131_7
              replace hx131_8 := (HB.out.cell (World.block_lt_of_cell? w _ hx131_8)).trans hx131_8
              have HR131_8 := Aside0.mk hi131_8
              have HC131_8 := Aside0.mk hl131_8
              clear hi131_8 hl131_8
              replace p131 := eq_true p131
              replace q131 := eq_true q131
              go_wp2_with (first | ((with_reducible refine gate_dst (N := 7) rfl ?_); refine box_event ?hg (N := 7) ?hd (cs := #[.int .i64 0, .int .i64 0, .int .i64 0, .int .i64 0, .string (⟨#[]⟩ : ByteArray), .string (⟨#[]⟩ : ByteArray), .string (⟨#[]⟩ : ByteArray), .string (⟨#[]⟩ : ByteArray), .slice none 0 0]) (t := 42) ?hr ?_; (case hd => rfl); (case hg => rfl); (case hr => first | (go_simp; done) | (go_simp; rfl)); intro gb132 hg w7 hbox hb; have n0_ := Aside0.mk (below_step (by repeat (first | (with_reducible first | exact HB.out | apply below_alloc | apply pw_below_drewN | apply below_drew1) | exact HB.out)) hb); have n1_ := Aside0.mk (hbox); have n2_ := Aside0.mk ((by rw [hg]; exact (below_size (by repeat (first | (with_reducible first | exact HB.out | apply below_alloc | apply pw_below_drewN | apply below_drew1) | exact HB.out))) : w.heap.size ≤ gb132)); have n3_ := Aside0.mk ((by rw [hg]; exact (below_size (by repeat (first | (with_reducible first | exact HB.out | apply below_alloc | apply pw_below_drewN | apply below_drew1) | exact HB.out))) : w.heap.size ≤ gb132)); clear HB; have HB := n0_; have BK132 := n1_; have GW132 := n2_; have GE132 := n3_; clear n0_ n1_ n2_ n3_; clear hb hbox hg; have hcz8_0 : w7.cell? ⟨gb132, 0, none⟩ = some (.int .i64 0) := (blk_cell BK132.out 0).trans rfl; have hcz8_1 : w7.cell? ⟨gb132, 1, none⟩ = some (.int .i64 0) := (blk_cell BK132.out 1).trans rfl; have hcz8_2 : w7.cell? ⟨gb132, 2, none⟩ = some (.int .i64 0) := (blk_cell BK132.out 2).trans rfl; have hcz8_3 : w7.cell? ⟨gb132, 3, none⟩ = some (.int .i64 0) := (blk_cell BK132.out 3).trans rfl; have hcz8_4 : w7.cell? ⟨gb132, 4, none⟩ = some (.string (⟨#[]⟩ : ByteArray)) := (blk_cell BK132.out 4).trans rfl; have hcz8_5 : w7.cell? ⟨gb132, 5, none⟩ = some (.string (⟨#[]⟩ : ByteArray)) := (blk_cell BK132.out 5).trans rfl; have hcz8_6 : w7.cell? ⟨gb132, 6, none⟩ = some (.string (⟨#[]⟩ : ByteArray)) := (blk_cell BK132.out 6).trans rfl; have hcz8_7 : w7.cell? ⟨gb132, 7, none⟩ = some (.string (⟨#[]⟩ : ByteArray)) := (blk_cell BK132.out 7).trans rfl; have hcz8_8 : w7.cell? ⟨gb132, 8, none⟩ = some (.slice none 0 0) := (blk_cell BK132.out 8).trans rfl; have hfz8_0 := blk_frozen BK132.out 0; have hfz8_1 := blk_frozen BK132.out 1; have hfz8_2 := blk_frozen BK132.out 2; have hfz8_3 := blk_frozen BK132.out 3; have hfz8_4 := blk_frozen BK132.out 4; have hfz8_5 := blk_frozen BK132.out 5; have hfz8_6 := blk_frozen BK132.out 6; have hfz8_7 := blk_frozen BK132.out 7; have hfz8_8 := blk_frozen BK132.out 8))
              repeat (go_quiet (first | ((with_reducible refine gate_dst (N := 7) rfl ?_); refine box_event ?hg (N := 7) ?hd (cs := #[.int .i64 0, .int .i64 0, .int .i64 0, .int .i64 0, .string (⟨#[]⟩ : ByteArray), .string (⟨#[]⟩ : ByteArray), .string (⟨#[]⟩ : ByteArray), .string (⟨#[]⟩ : ByteArray), .slice none 0 0]) (t := 42) ?hr ?_; (case hd => rfl); (case hg => rfl); (case hr => first | (go_simp; done) | (go_simp; rfl)); intro gb132 hg w7 hbox hb; have n0_ := Aside0.mk (below_step (by repeat (first | (with_reducible first | exact HB.out | apply below_alloc | apply pw_below_drewN | apply below_drew1) | exact HB.out)) hb); have n1_ := Aside0.mk (hbox); have n2_ := Aside0.mk ((by rw [hg]; exact (below_size (by repeat (first | (with_reducible first | exact HB.out | apply below_alloc | apply pw_below_drewN | apply below_drew1) | exact HB.out))) : w.heap.size ≤ gb132)); have n3_ := Aside0.mk ((by rw [hg]; exact (below_size (by repeat (first | (with_reducible first | exact HB.out | apply below_alloc | apply pw_below_drewN | apply below_drew1) | exact HB.out))) : w.heap.size ≤ gb132)); clear HB; have HB := n0_; have BK132 := n1_; have GW132 := n2_; have GE132 := n3_; clear n0_ n1_ n2_ n3_; clear hb hbox hg; have hcz8_0 : w7.cell? ⟨gb132, 0, none⟩ = some (.int .i64 0) := (blk_cell BK132.out 0).trans rfl; have hcz8_1 : w7.cell? ⟨gb132, 1, none⟩ = some (.int .i64 0) := (blk_cell BK132.out 1).trans rfl; have hcz8_2 : w7.cell? ⟨gb132, 2, none⟩ = some (.int .i64 0) := (blk_cell BK132.out 2).trans rfl; have hcz8_3 : w7.cell? ⟨gb132, 3, none⟩ = some (.int .i64 0) := (blk_cell BK132.out 3).trans rfl; have hcz8_4 : w7.cell? ⟨gb132, 4, none⟩ = some (.string (⟨#[]⟩ : ByteArray)) := (blk_cell BK132.out 4).trans rfl; have hcz8_5 : w7.cell? ⟨gb132, 5, none⟩ = some (.string (⟨#[]⟩ : ByteArray)) := (blk_cell BK132.out 5).trans rfl; have hcz8_6 : w7.cell? ⟨gb132, 6, none⟩ = some (.string (⟨#[]⟩ : ByteArray)) := (blk_cell BK132.out 6).trans rfl; have hcz8_7 : w7.cell? ⟨gb132, 7, none⟩ = some (.string (⟨#[]⟩ : ByteArray)) := (blk_cell BK132.out 7).trans rfl; have hcz8_8 : w7.cell? ⟨gb132, 8, none⟩ = some (.slice none 0 0) := (blk_cell BK132.out 8).trans rfl; have hfz8_0 := blk_frozen BK132.out 0; have hfz8_1 := blk_frozen BK132.out 1; have hfz8_2 := blk_frozen BK132.out 2; have hfz8_3 := blk_frozen BK132.out 3; have hfz8_4 := blk_frozen BK132.out 4; have hfz8_5 := blk_frozen BK132.out 5; have hfz8_6 := blk_frozen BK132.out 6; have hfz8_7 := blk_frozen BK132.out 7; have hfz8_8 := blk_frozen BK132.out 8)); try go_wp2_with (first | ((with_reducible refine gate_dst (N := 7) rfl ?_); refine box_event ?hg (N := 7) ?hd (cs := #[.int .i64 0, .int .i64 0, .int .i64 0, .int .i64 0, .string (⟨#[]⟩ : ByteArray), .string (⟨#[]⟩ : ByteArray), .string (⟨#[]⟩ : ByteArray), .string (⟨#[]⟩ : ByteArray), .slice none 0 0]) (t := 42) ?hr ?_; (case hd => rfl); (case hg => rfl); (case hr => first | (go_simp; done) | (go_simp; rfl)); intro gb132 hg w7 hbox hb; have n0_ := Aside0.mk (below_step (by repeat (first | (with_reducible first | exact HB.out | apply below_alloc | apply pw_below_drewN | apply below_drew1) | exact HB.out)) hb); have n1_ := Aside0.mk (hbox); have n2_ := Aside0.mk ((by rw [hg]; exact (below_size (by repeat (first | (with_reducible first | exact HB.out | apply below_alloc | apply pw_below_drewN | apply below_drew1) | exact HB.out))) : w.heap.size ≤ gb132)); have n3_ := Aside0.mk ((by rw [hg]; exact (below_size (by repeat (first | (with_reducible first | exact HB.out | apply below_alloc | apply pw_below_drewN | apply below_drew1) | exact HB.out))) : w.heap.size ≤ gb132)); clear HB; have HB := n0_; have BK132 := n1_; have GW132 := n2_; have GE132 := n3_; clear n0_ n1_ n2_ n3_; clear hb hbox hg; have hcz8_0 : w7.cell? ⟨gb132, 0, none⟩ = some (.int .i64 0) := (blk_cell BK132.out 0).trans rfl; have hcz8_1 : w7.cell? ⟨gb132, 1, none⟩ = some (.int .i64 0) := (blk_cell BK132.out 1).trans rfl; have hcz8_2 : w7.cell? ⟨gb132, 2, none⟩ = some (.int .i64 0) := (blk_cell BK132.out 2).trans rfl; have hcz8_3 : w7.cell? ⟨gb132, 3, none⟩ = some (.int .i64 0) := (blk_cell BK132.out 3).trans rfl; have hcz8_4 : w7.cell? ⟨gb132, 4, none⟩ = some (.string (⟨#[]⟩ : ByteArray)) := (blk_cell BK132.out 4).trans rfl; have hcz8_5 : w7.cell? ⟨gb132, 5, none⟩ = some (.string (⟨#[]⟩ : ByteArray)) := (blk_cell BK132.out 5).trans rfl; have hcz8_6 : w7.cell? ⟨gb132, 6, none⟩ = some (.string (⟨#[]⟩ : ByteArray)) := (blk_cell BK132.out 6).trans rfl; have hcz8_7 : w7.cell? ⟨gb132, 7, none⟩ = some (.string (⟨#[]⟩ : ByteArray)) := (blk_cell BK132.out 7).trans rfl; have hcz8_8 : w7.cell? ⟨gb132, 8, none⟩ = some (.slice none 0 0) := (blk_cell BK132.out 8).trans rfl; have hfz8_0 := blk_frozen BK132.out 0; have hfz8_1 := blk_frozen BK132.out 1; have hfz8_2 := blk_frozen BK132.out 2; have hfz8_3 := blk_frozen BK132.out 3; have hfz8_4 := blk_frozen BK132.out 4; have hfz8_5 := blk_frozen BK132.out 5; have hfz8_6 := blk_frozen BK132.out 6; have hfz8_7 := blk_frozen BK132.out 7; have hfz8_8 := blk_frozen BK132.out 8)))
              go_ret
              exact ⟨by first | rfl | (simp [errW_none, errW_some] <;> first | rfl | exact emp_bne _ | exact (emp_bne _).symm | exact emp_bne' _ | exact (emp_bne' _).symm) | (simp [*, errW_none, errW_some] <;> rfl), by repeat (first | (with_reducible first | exact HB.out | apply below_alloc | apply pw_below_drewN | apply below_drew1 | refine below_set ?_ GE132.out) | exact HB.out)⟩
            · rw [if_neg c6] at H
              have c6b0 : decide ((wrap64 ((wrap64 ((wrap64 (x5_1 - 1)) - (((rd_T42 l0 x12_1).f8).length : Int))) - (wrap64 (Int.tdiv (wrap64 ((wrap64 ((wrap64 ((((rd_T42 l0 x12_1).f7).size : Int) + (((rd_T42 l0 x12_1).f5).size : Int))) + (((rd_T42 l0 x12_1).f4).size : Int))) + (((rd_T42 l0 x12_1).f6).size : Int))) 4096)))) < 0) = false := decide_eq_false c6
              clear c6
              have H' := Aside0.mk H
              clear H
              have p131 : 0 ≤ (x12_1 : Int) := of_decide_eq_true (by first | (with_reducible assumption) | assumption)
              have q131 : x12_1 < (l0.length : Int) := of_decide_eq_true (by first | (with_reducible assumption) | assumption)
              obtain ⟨ad131, A131_8, c131_8, e131, hx131_0, hx131_1, hx131_2, hx131_3, hx131_4, hx131_5, hx131_6, hx131_7, hx131_8, hl131_8, hi131_8⟩ := at_T42 HR0.out x12_1 p131 q131
              cases e131
              replace hx131_0 := (HB.out.cell (World.block_lt_of_cell? w _ hx131_0)).trans hx131_0
              replace hx131_1 := (HB.out.cell (World.block_lt_of_cell? w _ hx131_1)).trans hx131_1
              replace hx131_2 := (HB.out.cell (World.block_lt_of_cell? w _ hx131_2)).trans hx131_2
              replace hx131_3 := (HB.out.cell (World.block_lt_of_cell? w _ hx131_3)).trans hx131_3
              replace hx131_4 := (HB.out.cell (World.block_lt_of_cell? w _ hx131_4)).trans hx131_4
              replace hx131_5 := (HB.out.cell (World.block_lt_of_cell? w _ hx131_5)).trans hx131_5
              replace hx131_6 := (HB.out.cell (World.block_lt_of_cell? w _ hx131_6)).trans hx131_6
              replace hx131_7 := (HB.out.cell (World.block_lt_of_cell? w _ hx131_7)).trans hx131_7
              replace hx131_8 := (HB.out.cell (World.block_lt_of_cell? w _ hx131_8)).trans hx131_8
              have HR131_8 := Aside0.mk hi131_8
              have HC131_8 := Aside0.mk hl131_8
              clear hi131_8 hl131_8
              replace p131 := eq_true p131
              replace q131 := eq_true q131
              go_wp2_with (first | ((with_reducible refine gate_dst (N := 7) rfl ?_); refine box_event ?hg (N := 7) ?hd (cs := #[.int .i64 0, .int .i64 0, .int .i64 0, .int .i64 0, .string (⟨#[]⟩ : ByteArray), .string (⟨#[]⟩ : ByteArray), .string (⟨#[]⟩ : ByteArray), .string (⟨#[]⟩ : ByteArray), .slice none 0 0]) (t := 42) ?hr ?_; (case hd => rfl); (case hg => rfl); (case hr => first | (go_simp; done) | (go_simp; rfl)); intro gb132 hg w9 hbox hb; have n0_ := Aside0.mk (below_step (by repeat (first | (with_reducible first | exact HB.out | apply below_alloc | apply pw_below_drewN | apply below_drew1) | exact HB.out)) hb); have n1_ := Aside0.mk (hbox); have n2_ := Aside0.mk ((by rw [hg]; exact (below_size (by repeat (first | (with_reducible first | exact HB.out | apply below_alloc | apply pw_below_drewN | apply below_drew1) | exact HB.out))) : w.heap.size ≤ gb132)); have n3_ := Aside0.mk ((by rw [hg]; exact (below_size (by repeat (first | (with_reducible first | exact HB.out | apply below_alloc | apply pw_below_drewN | apply below_drew1) | exact HB.out))) : w.heap.size ≤ gb132)); clear HB; have HB := n0_; have BK132 := n1_; have GW132 := n2_; have GE132 := n3_; clear n0_ n1_ n2_ n3_; clear hb hbox hg; have hcz10_0 : w9.cell? ⟨gb132, 0, none⟩ = some (.int .i64 0) := (blk_cell BK132.out 0).trans rfl; have hcz10_1 : w9.cell? ⟨gb132, 1, none⟩ = some (.int .i64 0) := (blk_cell BK132.out 1).trans rfl; have hcz10_2 : w9.cell? ⟨gb132, 2, none⟩ = some (.int .i64 0) := (blk_cell BK132.out 2).trans rfl; have hcz10_3 : w9.cell? ⟨gb132, 3, none⟩ = some (.int .i64 0) := (blk_cell BK132.out 3).trans rfl; have hcz10_4 : w9.cell? ⟨gb132, 4, none⟩ = some (.string (⟨#[]⟩ : ByteArray)) := (blk_cell BK132.out 4).trans rfl; have hcz10_5 : w9.cell? ⟨gb132, 5, none⟩ = some (.string (⟨#[]⟩ : ByteArray)) := (blk_cell BK132.out 5).trans rfl; have hcz10_6 : w9.cell? ⟨gb132, 6, none⟩ = some (.string (⟨#[]⟩ : ByteArray)) := (blk_cell BK132.out 6).trans rfl; have hcz10_7 : w9.cell? ⟨gb132, 7, none⟩ = some (.string (⟨#[]⟩ : ByteArray)) := (blk_cell BK132.out 7).trans rfl; have hcz10_8 : w9.cell? ⟨gb132, 8, none⟩ = some (.slice none 0 0) := (blk_cell BK132.out 8).trans rfl; have hfz10_0 := blk_frozen BK132.out 0; have hfz10_1 := blk_frozen BK132.out 1; have hfz10_2 := blk_frozen BK132.out 2; have hfz10_3 := blk_frozen BK132.out 3; have hfz10_4 := blk_frozen BK132.out 4; have hfz10_5 := blk_frozen BK132.out 5; have hfz10_6 := blk_frozen BK132.out 6; have hfz10_7 := blk_frozen BK132.out 7; have hfz10_8 := blk_frozen BK132.out 8))
              repeat (go_quiet (first | ((with_reducible refine gate_dst (N := 7) rfl ?_); refine box_event ?hg (N := 7) ?hd (cs := #[.int .i64 0, .int .i64 0, .int .i64 0, .int .i64 0, .string (⟨#[]⟩ : ByteArray), .string (⟨#[]⟩ : ByteArray), .string (⟨#[]⟩ : ByteArray), .string (⟨#[]⟩ : ByteArray), .slice none 0 0]) (t := 42) ?hr ?_; (case hd => rfl); (case hg => rfl); (case hr => first | (go_simp; done) | (go_simp; rfl)); intro gb132 hg w9 hbox hb; have n0_ := Aside0.mk (below_step (by repeat (first | (with_reducible first | exact HB.out | apply below_alloc | apply pw_below_drewN | apply below_drew1) | exact HB.out)) hb); have n1_ := Aside0.mk (hbox); have n2_ := Aside0.mk ((by rw [hg]; exact (below_size (by repeat (first | (with_reducible first | exact HB.out | apply below_alloc | apply pw_below_drewN | apply below_drew1) | exact HB.out))) : w.heap.size ≤ gb132)); have n3_ := Aside0.mk ((by rw [hg]; exact (below_size (by repeat (first | (with_reducible first | exact HB.out | apply below_alloc | apply pw_below_drewN | apply below_drew1) | exact HB.out))) : w.heap.size ≤ gb132)); clear HB; have HB := n0_; have BK132 := n1_; have GW132 := n2_; have GE132 := n3_; clear n0_ n1_ n2_ n3_; clear hb hbox hg; have hcz10_0 : w9.cell? ⟨gb132, 0, none⟩ = some (.int .i64 0) := (blk_cell BK132.out 0).trans rfl; have hcz10_1 : w9.cell? ⟨gb132, 1, none⟩ = some (.int .i64 0) := (blk_cell BK132.out 1).trans rfl; have hcz10_2 : w9.cell? ⟨gb132, 2, none⟩ = some (.int .i64 0) := (blk_cell BK132.out 2).trans rfl; have hcz10_3 : w9.cell? ⟨gb132, 3, none⟩ = some (.int .i64 0) := (blk_cell BK132.out 3).trans rfl; have hcz10_4 : w9.cell? ⟨gb132, 4, none⟩ = some (.string (⟨#[]⟩ : ByteArray)) := (blk_cell BK132.out 4).trans rfl; have hcz10_5 : w9.cell? ⟨gb132, 5, none⟩ = some (.string (⟨#[]⟩ : ByteArray)) := (blk_cell BK132.out 5).trans rfl; have hcz10_6 : w9.cell? ⟨gb132, 6, none⟩ = some (.string (⟨#[]⟩ : ByteArray)) := (blk_cell BK132.out 6).trans rfl; have hcz10_7 : w9.cell? ⟨gb132, 7, none⟩ = some (.string (⟨#[]⟩ : ByteArray)) := (blk_cell BK132.out 7).trans rfl; have hcz10_8 : w9.cell? ⟨gb132, 8, none⟩ = some (.slice none 0 0) := (blk_cell BK132.out 8).trans rfl; have hfz10_0 := blk_frozen BK132.out 0; have hfz10_1 := blk_frozen BK132.out 1; have hfz10_2 := blk_frozen BK132.out 2; have hfz10_3 := blk_frozen BK132.out 3; have hfz10_4 := blk_frozen BK132.out 4; have hfz10_5 := blk_frozen BK132.out 5; have hfz10_6 := blk_frozen BK132.out 6; have hfz10_7 := blk_frozen BK132.out 7; have hfz10_8 := blk_frozen BK132.out 8)); try go_wp2_with (first | ((with_reducible refine gate_dst (N := 7) rfl ?_); refine box_event ?hg (N := 7) ?hd (cs := #[.int .i64 0, .int .i64 0, .int .i64 0, .int .i64 0, .string (⟨#[]⟩ : ByteArray), .string (⟨#[]⟩ : ByteArray), .string (⟨#[]⟩ : ByteArray), .string (⟨#[]⟩ : ByteArray), .slice none 0 0]) (t := 42) ?hr ?_; (case hd => rfl); (case hg => rfl); (case hr => first | (go_simp; done) | (go_simp; rfl)); intro gb132 hg w9 hbox hb; have n0_ := Aside0.mk (below_step (by repeat (first | (with_reducible first | exact HB.out | apply below_alloc | apply pw_below_drewN | apply below_drew1) | exact HB.out)) hb); have n1_ := Aside0.mk (hbox); have n2_ := Aside0.mk ((by rw [hg]; exact (below_size (by repeat (first | (with_reducible first | exact HB.out | apply below_alloc | apply pw_below_drewN | apply below_drew1) | exact HB.out))) : w.heap.size ≤ gb132)); have n3_ := Aside0.mk ((by rw [hg]; exact (below_size (by repeat (first | (with_reducible first | exact HB.out | apply below_alloc | apply pw_below_drewN | apply below_drew1) | exact HB.out))) : w.heap.size ≤ gb132)); clear HB; have HB := n0_; have BK132 := n1_; have GW132 := n2_; have GE132 := n3_; clear n0_ n1_ n2_ n3_; clear hb hbox hg; have hcz10_0 : w9.cell? ⟨gb132, 0, none⟩ = some (.int .i64 0) := (blk_cell BK132.out 0).trans rfl; have hcz10_1 : w9.cell? ⟨gb132, 1, none⟩ = some (.int .i64 0) := (blk_cell BK132.out 1).trans rfl; have hcz10_2 : w9.cell? ⟨gb132, 2, none⟩ = some (.int .i64 0) := (blk_cell BK132.out 2).trans rfl; have hcz10_3 : w9.cell? ⟨gb132, 3, none⟩ = some (.int .i64 0) := (blk_cell BK132.out 3).trans rfl; have hcz10_4 : w9.cell? ⟨gb132, 4, none⟩ = some (.string (⟨#[]⟩ : ByteArray)) := (blk_cell BK132.out 4).trans rfl; have hcz10_5 : w9.cell? ⟨gb132, 5, none⟩ = some (.string (⟨#[]⟩ : ByteArray)) := (blk_cell BK132.out 5).trans rfl; have hcz10_6 : w9.cell? ⟨gb132, 6, none⟩ = some (.string (⟨#[]⟩ : ByteArray)) := (blk_cell BK132.out 6).trans rfl; have hcz10_7 : w9.cell? ⟨gb132, 7, none⟩ = some (.string (⟨#[]⟩ : ByteArray)) := (blk_cell BK132.out 7).trans rfl; have hcz10_8 : w9.cell? ⟨gb132, 8, none⟩ = some (.slice none 0 0) := (blk_cell BK132.out 8).trans rfl; have hfz10_0 := blk_frozen BK132.out 0; have hfz10_1 := blk_frozen BK132.out 1; have hfz10_2 := blk_frozen BK132.out 2; have hfz10_3 := blk_frozen BK132.out 3; have hfz10_4 := blk_frozen BK132.out 4; have hfz10_5 := blk_frozen BK132.out 5; have hfz10_6 := blk_frozen BK132.out 6; have hfz10_7 := blk_frozen BK132.out 7; have hfz10_8 := blk_frozen BK132.out 8)))
              go_loopg [5, 47] k1 (fun kq v5 v47 w' => ∃ (x5_2 : Int) (x47_2 : Int), v5 = .int .i64 x5_2 ∧ v47 = .int .i64 x47_2 ∧ Aside0 (tendrilplain_FewOps.l1 kq l0 x5_2 (l0.length : Int) x12_1 (((rd_T42 l0 x12_1).f8).length : Int) x47_2 ((rd_T42 l0 x12_1).f0) ((rd_T42 l0 x12_1).f1) ((rd_T42 l0 x12_1).f2) ((rd_T42 l0 x12_1).f3) ((rd_T42 l0 x12_1).f4) ((rd_T42 l0 x12_1).f5) ((rd_T42 l0 x12_1).f6) ((rd_T42 l0 x12_1).f7) ((rd_T42 l0 x12_1).f8) = some r) ∧ Aside0 (kq ≤ k1) ∧ Aside0 (w'.heap[gb132]? = some (.cells #[.int .i64 ((rd_T42 l0 x12_1).f0), .int .i64 ((rd_T42 l0 x12_1).f1), .int .i64 ((rd_T42 l0 x12_1).f2), .int .i64 ((rd_T42 l0 x12_1).f3), .string ((rd_T42 l0 x12_1).f4), .string ((rd_T42 l0 x12_1).f5), .string ((rd_T42 l0 x12_1).f6), .string ((rd_T42 l0 x12_1).f7), (.slice A131_8 ((rd_T42 l0 x12_1).f8).length c131_8)] 42 (0, 0))) ∧ Aside0 (Below w.heap.size w w'))
              case atStart => exact ⟨(wrap64 ((wrap64 ((wrap64 (x5_1 - 1)) - (((rd_T42 l0 x12_1).f8).length : Int))) - (wrap64 (Int.tdiv (wrap64 ((wrap64 ((wrap64 ((((rd_T42 l0 x12_1).f7).size : Int) + (((rd_T42 l0 x12_1).f5).size : Int))) + (((rd_T42 l0 x12_1).f4).size : Int))) + (((rd_T42 l0 x12_1).f6).size : Int))) 4096)))), (0), (by first | rfl | (simp; done) | (simp [*]; done)), (by first | rfl | (simp; done) | (simp [*]; done)), H', ⟨Nat.le_refl _⟩, ⟨by (with_reducible repeat (first | refine blk_drewN ?_ _ | refine blk_drew ?_ | refine blk_alloc ?_ _)); refine blk_put (cs := #[.int .i64 ((rd_T42 l0 x12_1).f0), .int .i64 ((rd_T42 l0 x12_1).f1), .int .i64 ((rd_T42 l0 x12_1).f2), .int .i64 ((rd_T42 l0 x12_1).f3), .string ((rd_T42 l0 x12_1).f4), .string ((rd_T42 l0 x12_1).f5), .string ((rd_T42 l0 x12_1).f6), .string ((rd_T42 l0 x12_1).f7), .slice none 0 0]) ?_ 8 _ rfl; (with_reducible repeat (first | refine blk_drewN ?_ _ | refine blk_drew ?_ | refine blk_alloc ?_ _)); refine blk_put (cs := #[.int .i64 ((rd_T42 l0 x12_1).f0), .int .i64 ((rd_T42 l0 x12_1).f1), .int .i64 ((rd_T42 l0 x12_1).f2), .int .i64 ((rd_T42 l0 x12_1).f3), .string ((rd_T42 l0 x12_1).f4), .string ((rd_T42 l0 x12_1).f5), .string ((rd_T42 l0 x12_1).f6), .string (⟨#[]⟩ : ByteArray), .slice none 0 0]) ?_ 7 _ rfl; (with_reducible repeat (first | refine blk_drewN ?_ _ | refine blk_drew ?_ | refine blk_alloc ?_ _)); refine blk_put (cs := #[.int .i64 ((rd_T42 l0 x12_1).f0), .int .i64 ((rd_T42 l0 x12_1).f1), .int .i64 ((rd_T42 l0 x12_1).f2), .int .i64 ((rd_T42 l0 x12_1).f3), .string ((rd_T42 l0 x12_1).f4), .string ((rd_T42 l0 x12_1).f5), .string (⟨#[]⟩ : ByteArray), .string (⟨#[]⟩ : ByteArray), .slice none 0 0]) ?_ 6 _ rfl; (with_reducible repeat (first | refine blk_drewN ?_ _ | refine blk_drew ?_ | refine blk_alloc ?_ _)); refine blk_put (cs := #[.int .i64 ((rd_T42 l0 x12_1).f0), .int .i64 ((rd_T42 l0 x12_1).f1), .int .i64 ((rd_T42 l0 x12_1).f2), .int .i64 ((rd_T42 l0 x12_1).f3), .string ((rd_T42 l0 x12_1).f4), .string (⟨#[]⟩ : ByteArray), .string (⟨#[]⟩ : ByteArray), .string (⟨#[]⟩ : ByteArray), .slice none 0 0]) ?_ 5 _ rfl; (with_reducible repeat (first | refine blk_drewN ?_ _ | refine blk_drew ?_ | refine blk_alloc ?_ _)); refine blk_put (cs := #[.int .i64 ((rd_T42 l0 x12_1).f0), .int .i64 ((rd_T42 l0 x12_1).f1), .int .i64 ((rd_T42 l0 x12_1).f2), .int .i64 ((rd_T42 l0 x12_1).f3), .string (⟨#[]⟩ : ByteArray), .string (⟨#[]⟩ : ByteArray), .string (⟨#[]⟩ : ByteArray), .string (⟨#[]⟩ : ByteArray), .slice none 0 0]) ?_ 4 _ rfl; (with_reducible repeat (first | refine blk_drewN ?_ _ | refine blk_drew ?_ | refine blk_alloc ?_ _)); refine blk_put (cs := #[.int .i64 ((rd_T42 l0 x12_1).f0), .int .i64 ((rd_T42 l0 x12_1).f1), .int .i64 ((rd_T42 l0 x12_1).f2), .int .i64 0, .string (⟨#[]⟩ : ByteArray), .string (⟨#[]⟩ : ByteArray), .string (⟨#[]⟩ : ByteArray), .string (⟨#[]⟩ : ByteArray), .slice none 0 0]) ?_ 3 _ rfl; (with_reducible repeat (first | refine blk_drewN ?_ _ | refine blk_drew ?_ | refine blk_alloc ?_ _)); refine blk_put (cs := #[.int .i64 ((rd_T42 l0 x12_1).f0), .int .i64 ((rd_T42 l0 x12_1).f1), .int .i64 0, .int .i64 0, .string (⟨#[]⟩ : ByteArray), .string (⟨#[]⟩ : ByteArray), .string (⟨#[]⟩ : ByteArray), .string (⟨#[]⟩ : ByteArray), .slice none 0 0]) ?_ 2 _ rfl; (with_reducible repeat (first | refine blk_drewN ?_ _ | refine blk_drew ?_ | refine blk_alloc ?_ _)); refine blk_put (cs := #[.int .i64 ((rd_T42 l0 x12_1).f0), .int .i64 0, .int .i64 0, .int .i64 0, .string (⟨#[]⟩ : ByteArray), .string (⟨#[]⟩ : ByteArray), .string (⟨#[]⟩ : ByteArray), .string (⟨#[]⟩ : ByteArray), .slice none 0 0]) ?_ 1 _ rfl; (with_reducible repeat (first | refine blk_drewN ?_ _ | refine blk_drew ?_ | refine blk_alloc ?_ _)); refine blk_put (cs := #[.int .i64 0, .int .i64 0, .int .i64 0, .int .i64 0, .string (⟨#[]⟩ : ByteArray), .string (⟨#[]⟩ : ByteArray), .string (⟨#[]⟩ : ByteArray), .string (⟨#[]⟩ : ByteArray), .slice none 0 0]) ?_ 0 _ rfl; (with_reducible repeat (first | refine blk_drewN ?_ _ | refine blk_drew ?_ | refine blk_alloc ?_ _)); exact BK132.out⟩, ⟨by repeat (first | (with_reducible first | exact HB.out | apply below_alloc | apply pw_below_drewN | apply below_drew1 | refine below_set ?_ GE132.out) | exact HB.out)⟩⟩
              case round =>
                clear H'
                try clear c1
                try clear p1
                try clear q1
                try clear hx1
                try clear p2
                try clear c3
                try clear c3b0
                try clear c4
                try clear c4b0
                try clear c5
                try clear c5b0
                try clear c6
                try clear c6b0
                try clear p6
                try clear c7
                try clear hcz10_0
                try clear hcz10_1
                try clear hcz10_2
                try clear hcz10_3
                try clear hcz10_4
                try clear hcz10_5
                try clear hcz10_6
                try clear hcz10_7
                try clear hcz10_8
                try clear hcz8_0
                try clear hcz8_1
                try clear hcz8_2
                try clear hcz8_3
                try clear hcz8_4
                try clear hcz8_5
                try clear hcz8_6
                try clear hcz8_7
                try clear hcz8_8
                try clear hfz10_0
                try clear hfz10_1
                try clear hfz10_2
                try clear hfz10_3
                try clear hfz10_4
                try clear hfz10_5
                try clear hfz10_6
                try clear hfz10_7
                try clear hfz10_8
                try clear hfz8_0
                try clear hfz8_1
                try clear hfz8_2
                try clear hfz8_3
                try clear hfz8_4
                try clear hfz8_5
                try clear hfz8_6
                try clear hfz8_7
                try clear hfz8_8
                try clear hx131_0
                try clear hx131_1
                try clear hx131_2
                try clear hx131_3
                try clear hx131_4
                try clear hx131_5
                try clear hx131_6
                try clear hx131_7
                try clear hx131_8
                try clear p131
                try clear p2
                try clear q131
                obtain ⟨x5_2, x47_2, rfl, rfl, HA, HK2, BK132, HB⟩ := hrel
                cases gk with
                | zero => exact absurd HA.out (by simp [tendrilplain_FewOps.l1])
                | succ k2 =>
                  have H := HA.out
                  clear HA
                  simp only [tendrilplain_FewOps.l1] at H
                  by_cases c11 : x47_2 < (((rd_T42 l0 x12_1).f8).length : Int)
                  · rw [if_pos c11] at H
                    have c11b0 : decide (x47_2 < (((rd_T42 l0 x12_1).f8).length : Int)) = true := decide_eq_true c11
                    clear c11
                    by_cases c12 : 0 ≤ x47_2
                    · rw [if_pos c12] at H
                      have c12b0 : decide (0 ≤ x47_2) = true := decide_eq_true c12
                      clear c12
                      by_cases c13 : x47_2 < (((rd_T42 l0 x12_1).f8).length : Int)
                      · rw [if_pos c13] at H
                        have c13b0 : decide (x47_2 < (((rd_T42 l0 x12_1).f8).length : Int)) = true := decide_eq_true c13
                        clear c13
                        have H' := Aside0.mk H
                        clear H
                        have hcz14_0 : wr.cell? ⟨gb132, 0, none⟩ = some (.int .i64 ((rd_T42 l0 x12_1).f0)) := (blk_cell BK132.out 0).trans rfl
                        have hcz14_1 : wr.cell? ⟨gb132, 1, none⟩ = some (.int .i64 ((rd_T42 l0 x12_1).f1)) := (blk_cell BK132.out 1).trans rfl
                        have hcz14_2 : wr.cell? ⟨gb132, 2, none⟩ = some (.int .i64 ((rd_T42 l0 x12_1).f2)) := (blk_cell BK132.out 2).trans rfl
                        have hcz14_3 : wr.cell? ⟨gb132, 3, none⟩ = some (.int .i64 ((rd_T42 l0 x12_1).f3)) := (blk_cell BK132.out 3).trans rfl
                        have hcz14_4 : wr.cell? ⟨gb132, 4, none⟩ = some (.string ((rd_T42 l0 x12_1).f4)) := (blk_cell BK132.out 4).trans rfl
                        have hcz14_5 : wr.cell? ⟨gb132, 5, none⟩ = some (.string ((rd_T42 l0 x12_1).f5)) := (blk_cell BK132.out 5).trans rfl
                        have hcz14_6 : wr.cell? ⟨gb132, 6, none⟩ = some (.string ((rd_T42 l0 x12_1).f6)) := (blk_cell BK132.out 6).trans rfl
                        have hcz14_7 : wr.cell? ⟨gb132, 7, none⟩ = some (.string ((rd_T42 l0 x12_1).f7)) := (blk_cell BK132.out 7).trans rfl
                        have hcz14_8 : wr.cell? ⟨gb132, 8, none⟩ = some (.slice A131_8 ((rd_T42 l0 x12_1).f8).length c131_8) := (blk_cell BK132.out 8).trans rfl
                        have hfz14_0 := blk_frozen BK132.out 0
                        have hfz14_1 := blk_frozen BK132.out 1
                        have hfz14_2 := blk_frozen BK132.out 2
                        have hfz14_3 := blk_frozen BK132.out 3
                        have hfz14_4 := blk_frozen BK132.out 4
                        have hfz14_5 := blk_frozen BK132.out 5
                        have hfz14_6 := blk_frozen BK132.out 6
                        have hfz14_7 := blk_frozen BK132.out 7
                        have hfz14_8 := blk_frozen BK132.out 8
                        have p133 : 0 ≤ (x47_2 : Int) := of_decide_eq_true (by first | (with_reducible assumption) | assumption)
                        have q133 : x47_2 < (((rd_T42 l0 x12_1).f8).length : Int) := of_decide_eq_true (by first | (with_reducible assumption) | assumption)
                        obtain ⟨ad133, e133, hx133_0, hx133_1⟩ := at_T44 HR131_8.out x47_2 p133 q133
                        cases e133
                        replace hx133_0 := (HB.out.cell (World.block_lt_of_cell? w _ hx133_0)).trans hx133_0
                        replace hx133_1 := (HB.out.cell (World.block_lt_of_cell? w _ hx133_1)).trans hx133_1
                        replace p133 := eq_true p133
                        replace q133 := eq_true q133
                        have p134 : 0 ≤ (x47_2 : Int) := of_decide_eq_true (by first | (with_reducible assumption) | assumption)
                        have q134 : x47_2 < (((rd_T42 l0 x12_1).f8).length : Int) := of_decide_eq_true (by first | (with_reducible assumption) | assumption)
                        obtain ⟨ad134, e134, hx134_0, hx134_1⟩ := at_T44 HR131_8.out x47_2 p134 q134
                        obtain rfl : ad133 = ad134 := (by injection e134)
                        replace hx134_0 := (HB.out.cell (World.block_lt_of_cell? w _ hx134_0)).trans hx134_0
                        replace hx134_1 := (HB.out.cell (World.block_lt_of_cell? w _ hx134_1)).trans hx134_1
                        replace p134 := eq_true p134
                        replace q134 := eq_true q134
                        go_wp2
                        repeat (go_quiet (fail); try go_wp2)
                        go_roundg k2
                        case measure => have := HK1.out; have := HK2.out; omega
                        case rel => exact ⟨(wrap64 (x5_2 - (wrap64 (Int.tdiv (wrap64 ((((rd_T44 ((rd_T42 l0 x12_1).f8) x47_2).f1).size : Int) + (((rd_T44 ((rd_T42 l0 x12_1).f8) x47_2).f0).size : Int))) 4096)))), (wrap64 (x47_2 + 1)), (by first | rfl | (simp; done) | (simp [*]; done)), (by first | rfl | (simp; done) | (simp [*]; done)), H', ⟨by have := HK1.out; have := HK2.out; omega⟩, ⟨by (with_reducible repeat (first | refine blk_drewN ?_ _ | refine blk_drew ?_ | refine blk_alloc ?_ _)); exact BK132.out⟩, ⟨by repeat (first | (with_reducible first | exact HB.out | apply below_alloc | apply pw_below_drewN | apply below_drew1 | refine below_set ?_ GE132.out) | exact HB.out)⟩⟩
                      · rw [if_neg c13] at H
                        exact absurd H (by simp)
                    · rw [if_neg c12] at H
                      exact absurd H (by simp)
                  · rw [if_neg c11] at H
                    have c11b0 : decide (x47_2 < (((rd_T42 l0 x12_1).f8).length : Int)) = false := decide_eq_false c11
                    clear c11
                    have H' := Aside0.mk H
                    clear H
                    go_wp2
                    repeat (go_quiet (fail); try go_wp2)
                    go_roundg k2
                    case measure => have := HK1.out; have := HK2.out; omega
                    case rel => exact ⟨(x5_2), (wrap64 (x12_1 + 1)), (by first | rfl | (simp; done) | (simp [*]; done)), (by first | rfl | (simp; done) | (simp [*]; done)), H', ⟨by have := HK1.out; have := HK2.out; omega⟩, ⟨by repeat (first | (with_reducible first | exact HB.out | apply below_alloc | apply pw_below_drewN | apply below_drew1 | refine below_set ?_ GE132.out) | exact HB.out)⟩⟩
          · rw [if_neg c5] at H
            exact absurd H (by simp)
        · rw [if_neg c4] at H
          exact absurd H (by simp)
      · rw [if_neg c3] at H
        have c3b0 : decide (x12_1 < (l0.length : Int)) = false := decide_eq_false c3
        clear c3
        obtain rfl := Option.some.inj H
        go_wp2
        repeat (go_quiet (fail); try go_wp2)
        go_ret
        exact ⟨by first | rfl | (simp [errW_none, errW_some] <;> first | rfl | exact emp_bne _ | exact (emp_bne _).symm | exact emp_bne' _ | exact (emp_bne' _).symm) | (simp [*, errW_none, errW_some] <;> rfl), by repeat (first | (with_reducible first | exact HB.out | apply below_alloc | apply pw_below_drewN | apply below_drew1) | exact HB.out)⟩

def tendrilplain_Attrs.l0 : Nat → List (S44) → List (S44) → Int → Int → Option (Bool)
  | 0, _, _, _, _ => none
  | k + 1, x0, x1, x12, x13 => if x13 < x12 then (if 0 ≤ x13 then (if x13 < (x0.length : Int) then (if x13 < (x1.length : Int) then (if (!((((rd_T44 x0 x13).f0).toList) == (((rd_T44 x1 x13).f0).toList)) || (!((((rd_T44 x0 x13).f1).toList) == (((rd_T44 x1 x13).f1).toList)))) = true then (some false) else (tendrilplain_Attrs.l0 k x0 x1 x12 (wrap64 (x13 + 1)))) else (none)) else (none)) else (none)) else (some true)
def tendrilplain_Attrs.f (k : Nat) (l0 : List (S44)) (l1 : List (S44)) : Option (Bool) := if (l0.length : Int) = (l1.length : Int) then (tendrilplain_Attrs.l0 k l0 l1 (l0.length : Int) 0) else (some false)
theorem tendrilplain_Attrs.mono_l : ∀ k, (∀ y0 y1 y2 y3, LeO (tendrilplain_Attrs.l0 k y0 y1 y2 y3) (tendrilplain_Attrs.l0 (k + 1) y0 y1 y2 y3))
  | 0 => fun _ _ _ _ r h => by simp [tendrilplain_Attrs.l0] at h
  | k + 1 => by
    have ih0 := tendrilplain_Attrs.mono_l k
    · intro y0 y1 y2 y3
      unfold tendrilplain_Attrs.l0
      repeat' first
      | (with_reducible exact ih0 _ _ _ _)
      | (with_reducible exact LeO.refl _)
      | (with_reducible exact LeO.none _)
      | (with_reducible refine LeO.ite ?_ ?_)
      | (with_reducible refine LeO.bind ?_ (fun _ => ?_))
      | exact ih0 _ _ _ _
      | exact LeO.none _
      | refine LeO.ite ?_ ?_
      | refine LeO.bind ?_ (fun _ => ?_)
theorem tendrilplain_Attrs.mono : ∀ a0 a1 k, LeO (tendrilplain_Attrs.f k a0 a1) (tendrilplain_Attrs.f (k + 1) a0 a1) := by
  intro a0 a1 k
  have ih0 := tendrilplain_Attrs.mono_l k
  unfold tendrilplain_Attrs.f
  repeat' first
      | (with_reducible exact ih0 _ _ _ _)
      | (with_reducible exact LeO.refl _)
      | (with_reducible exact LeO.none _)
      | (with_reducible refine LeO.ite ?_ ?_)
      | (with_reducible refine LeO.bind ?_ (fun _ => ?_))
      | exact ih0 _ _ _ _
      | exact LeO.none _
      | refine LeO.ite ?_ ?_
      | refine LeO.bind ?_ (fun _ => ?_)
set_option maxHeartbeats 8000000 in
set_option maxRecDepth 100000 in
theorem tendrilplain_Attrs.calls (k : Nat) (A0 : Option Addr) (c0 : Nat) (l0 : List (S44)) (A1 : Option Addr) (c1 : Nat) (l1 : List (S44)) (r : Bool) (w : World) (hgl : Go.Proofs.YtfpijjjmgggfkaaDoorX.GL w) (hr0 : Kd.C k44 w A0 l0.length l0) (hc0 : l0.length ≤ c0) (hr1 : Kd.C k44 w A1 l1.length l1) (hc1 : l1.length ≤ c1) (h : tendrilplain_Attrs.f k l0 l1 = some r) :
    Calls Tryd.prog 46 #[.slice A0 l0.length c0, .slice A1 l1.length c1] w fun e w' => e = .returned (.bool r) ∧ Drawn0 w w' := by
  have hu44 := Tryd.underlying44
  have HR0 := Aside0.mk hr0
  have HC0 := Aside0.mk hc0
  clear hr0 hc0
  have HR1 := Aside0.mk hr1
  have HC1 := Aside0.mk hc1
  clear hr1 hc1
  have HGL := Aside0.mk hgl
  clear hgl
  have H : (if (l0.length : Int) = (l1.length : Int) then (tendrilplain_Attrs.l0 k l0 l1 (l0.length : Int) 0) else (some false)) = some r := h
  clear h
  by_cases c3 : (l0.length : Int) = (l1.length : Int)
  · rw [if_pos c3] at H
    have c3b0 : ((l0.length : Int) == (l1.length : Int)) = true := beq_iff_eq.mpr c3
    have c3b1 : ((l0.length : Int) != (l1.length : Int)) = false := bne_eq_false_iff_eq.mpr c3
    have c3b2 : (l0.length == l1.length) = true := by first | simpa using c3 | (simp at c3 ⊢; omega)
    clear c3
    have H' := Aside0.mk H
    clear H
    go_enter Tryd.func46, Tryd.ntmps46
    go_wp2
    repeat (go_quiet (fail); try go_wp2)
    go_loopg [13] k (fun kq v13 w' => ∃ (x13_1 : Int), v13 = .int .i64 x13_1 ∧ Aside0 (tendrilplain_Attrs.l0 kq l0 l1 (l0.length : Int) x13_1 = some r) ∧ Aside0 (kq ≤ k) ∧ Drawn0 w w')
    case atStart => exact ⟨(0), (by first | rfl | (simp; done) | (simp [*]; done)), H', ⟨Nat.le_refl _⟩, by repeat (first | exact Drawn0.refl _ | apply Drawn0.step)⟩
    case round =>
      clear H'
      try clear c1
      try clear p2
      try clear c3
      try clear c3b0
      try clear c3b1
      try clear c3b2
      obtain ⟨x13_1, rfl, HA, HK1, ⟨m1, rfl⟩⟩ := hrel
      cases gk with
      | zero => exact absurd HA.out (by simp [tendrilplain_Attrs.l0])
      | succ k1 =>
        have H := HA.out
        clear HA
        simp only [tendrilplain_Attrs.l0] at H
        by_cases c4 : x13_1 < (l0.length : Int)
        · rw [if_pos c4] at H
          have c4b0 : decide (x13_1 < (l0.length : Int)) = true := decide_eq_true c4
          clear c4
          by_cases c5 : 0 ≤ x13_1
          · rw [if_pos c5] at H
            have c5b0 : decide (0 ≤ x13_1) = true := decide_eq_true c5
            clear c5
            by_cases c6 : x13_1 < (l0.length : Int)
            · rw [if_pos c6] at H
              have c6b0 : decide (x13_1 < (l0.length : Int)) = true := decide_eq_true c6
              clear c6
              by_cases c7 : x13_1 < (l1.length : Int)
              · rw [if_pos c7] at H
                have c7b0 : decide (x13_1 < (l1.length : Int)) = true := decide_eq_true c7
                clear c7
                by_cases c8 : (!((((rd_T44 l0 x13_1).f0).toList) == (((rd_T44 l1 x13_1).f0).toList)) || (!((((rd_T44 l0 x13_1).f1).toList) == (((rd_T44 l1 x13_1).f1).toList)))) = true
                · rw [if_pos c8] at H
                  have c8b0 : (!((((rd_T44 l0 x13_1).f0).toList) == (((rd_T44 l1 x13_1).f0).toList)) || (!((((rd_T44 l0 x13_1).f1).toList) == (((rd_T44 l1 x13_1).f1).toList)))) = true := c8
                  clear c8
                  obtain rfl := Option.some.inj H
                  have p135 : 0 ≤ (x13_1 : Int) := of_decide_eq_true (by first | (with_reducible assumption) | assumption)
                  have q135 : x13_1 < (l0.length : Int) := of_decide_eq_true (by first | (with_reducible assumption) | assumption)
                  obtain ⟨ad135, e135, hx135_0, hx135_1⟩ := at_T44 HR0.out x13_1 p135 q135
                  cases e135
                  replace p135 := eq_true p135
                  replace q135 := eq_true q135
                  have p136 : 0 ≤ (x13_1 : Int) := of_decide_eq_true (by first | (with_reducible assumption) | assumption)
                  have q136 : x13_1 < (l1.length : Int) := of_decide_eq_true (by first | (with_reducible assumption) | assumption)
                  obtain ⟨ad136, e136, hx136_0, hx136_1⟩ := at_T44 HR1.out x13_1 p136 q136
                  cases e136
                  replace p136 := eq_true p136
                  replace q136 := eq_true q136
                  go_wp2
                  repeat (go_quiet (fail); try go_wp2)
                  go_ret
                  exact ⟨by first | rfl | (simp; done) | (simp [*]; done), by repeat (first | exact Drawn0.refl _ | apply Drawn0.step)⟩
                · rw [if_neg c8] at H
                  have c8b0 : (!((((rd_T44 l0 x13_1).f0).toList) == (((rd_T44 l1 x13_1).f0).toList)) || (!((((rd_T44 l0 x13_1).f1).toList) == (((rd_T44 l1 x13_1).f1).toList)))) = false := by simpa using c8
                  clear c8
                  have H' := Aside0.mk H
                  clear H
                  have p135 : 0 ≤ (x13_1 : Int) := of_decide_eq_true (by first | (with_reducible assumption) | assumption)
                  have q135 : x13_1 < (l0.length : Int) := of_decide_eq_true (by first | (with_reducible assumption) | assumption)
                  obtain ⟨ad135, e135, hx135_0, hx135_1⟩ := at_T44 HR0.out x13_1 p135 q135
                  cases e135
                  replace p135 := eq_true p135
                  replace q135 := eq_true q135
                  have p136 : 0 ≤ (x13_1 : Int) := of_decide_eq_true (by first | (with_reducible assumption) | assumption)
                  have q136 : x13_1 < (l1.length : Int) := of_decide_eq_true (by first | (with_reducible assumption) | assumption)
                  obtain ⟨ad136, e136, hx136_0, hx136_1⟩ := at_T44 HR1.out x13_1 p136 q136
                  cases e136
                  replace p136 := eq_true p136
                  replace q136 := eq_true q136
                  go_wp2
                  repeat (go_quiet (fail); try go_wp2)
                  go_roundg k1
                  case measure => have := HK1.out; omega
                  case rel => exact ⟨(wrap64 (x13_1 + 1)), (by first | rfl | (simp; done) | (simp [*]; done)), H', ⟨by have := HK1.out; omega⟩, by repeat (first | exact Drawn0.refl _ | apply Drawn0.step)⟩
              · rw [if_neg c7] at H
                exact absurd H (by simp)
            · rw [if_neg c6] at H
              exact absurd H (by simp)
          · rw [if_neg c5] at H
            exact absurd H (by simp)
        · rw [if_neg c4] at H
          have c4b0 : decide (x13_1 < (l0.length : Int)) = false := decide_eq_false c4
          clear c4
          obtain rfl := Option.some.inj H
          go_wp2
          repeat (go_quiet (fail); try go_wp2)
          go_ret
          exact ⟨by first | rfl | (simp; done) | (simp [*]; done), by repeat (first | exact Drawn0.refl _ | apply Drawn0.step)⟩
  · rw [if_neg c3] at H
    have c3b0 : ((l0.length : Int) == (l1.length : Int)) = false := beq_eq_false_iff_ne.mpr c3
    have c3b1 : ((l0.length : Int) != (l1.length : Int)) = true := bne_iff_ne.mpr c3
    have c3b2 : (l0.length == l1.length) = false := by first | simpa using c3 | (simp at c3 ⊢; omega)
    obtain rfl := Option.some.inj H
    go_enter Tryd.func46, Tryd.ntmps46
    go_wp2
    repeat (go_quiet (fail); try go_wp2)
    go_ret
    exact ⟨by first | rfl | (simp; done) | (simp [*]; done), by repeat (first | exact Drawn0.refl _ | apply Drawn0.step)⟩

def tendrilplain_Op.f (k : Nat) (a0_0 : Int) (a0_1 : Int) (a0_2 : Int) (a0_3 : Int) (a0_4 : ByteArray) (a0_5 : ByteArray) (a0_6 : ByteArray) (a0_7 : ByteArray) (l0_8 : List (S44)) (a1_0 : Int) (a1_1 : Int) (a1_2 : Int) (a1_3 : Int) (a1_4 : ByteArray) (a1_5 : ByteArray) (a1_6 : ByteArray) (a1_7 : ByteArray) (l1_8 : List (S44)) : Option (Bool) := if a0_0 = a1_0 then (if a0_1 = a1_1 then (if a0_2 = a1_2 then (if a0_3 = a1_3 then (if a0_4.toList = a1_4.toList then (if a0_5.toList = a1_5.toList then (if a0_6.toList = a1_6.toList then (if a0_7.toList = a1_7.toList then ((tendrilplain_Attrs.f k l0_8 l1_8).bind fun t139 => (some t139)) else (some false)) else (some false)) else (some false)) else (some false)) else (some false)) else (some false)) else (some false)) else (some false)
theorem tendrilplain_Op.mono : ∀ a0 a1 a2 a3 a4 a5 a6 a7 a8 a9 a10 a11 a12 a13 a14 a15 a16 a17 k, LeO (tendrilplain_Op.f k a0 a1 a2 a3 a4 a5 a6 a7 a8 a9 a10 a11 a12 a13 a14 a15 a16 a17) (tendrilplain_Op.f (k + 1) a0 a1 a2 a3 a4 a5 a6 a7 a8 a9 a10 a11 a12 a13 a14 a15 a16 a17) := by
  intro a0 a1 a2 a3 a4 a5 a6 a7 a8 a9 a10 a11 a12 a13 a14 a15 a16 a17 k
  unfold tendrilplain_Op.f
  repeat' first
      | (with_reducible exact tendrilplain_Attrs.mono _ _ _)
      | (with_reducible exact LeO.refl _)
      | (with_reducible exact LeO.none _)
      | (with_reducible refine LeO.ite ?_ ?_)
      | (with_reducible refine LeO.bind ?_ (fun _ => ?_))
      | exact tendrilplain_Attrs.mono _ _ _
      | exact LeO.none _
      | refine LeO.ite ?_ ?_
      | refine LeO.bind ?_ (fun _ => ?_)
set_option maxHeartbeats 8000000 in
set_option maxRecDepth 100000 in
theorem tendrilplain_Op.calls (k : Nat) (a0_0 : Int) (a0_1 : Int) (a0_2 : Int) (a0_3 : Int) (a0_4 : ByteArray) (a0_5 : ByteArray) (a0_6 : ByteArray) (a0_7 : ByteArray) (A0_8 : Option Addr) (c0_8 : Nat) (l0_8 : List (S44)) (a1_0 : Int) (a1_1 : Int) (a1_2 : Int) (a1_3 : Int) (a1_4 : ByteArray) (a1_5 : ByteArray) (a1_6 : ByteArray) (a1_7 : ByteArray) (A1_8 : Option Addr) (c1_8 : Nat) (l1_8 : List (S44)) (r : Bool) (w : World) (hgl : Go.Proofs.YtfpijjjmgggfkaaDoorX.GL w) (hr0_8 : Kd.C k44 w A0_8 l0_8.length l0_8) (hc0_8 : l0_8.length ≤ c0_8) (hr1_8 : Kd.C k44 w A1_8 l1_8.length l1_8) (hc1_8 : l1_8.length ≤ c1_8) (h : tendrilplain_Op.f k a0_0 a0_1 a0_2 a0_3 a0_4 a0_5 a0_6 a0_7 l0_8 a1_0 a1_1 a1_2 a1_3 a1_4 a1_5 a1_6 a1_7 l1_8 = some r) :
    Calls Tryd.prog 24 #[.agg #[.int .i64 a0_0, .int .i64 a0_1, .int .i64 a0_2, .int .i64 a0_3, .string a0_4, .string a0_5, .string a0_6, .string a0_7, .slice A0_8 l0_8.length c0_8], .agg #[.int .i64 a1_0, .int .i64 a1_1, .int .i64 a1_2, .int .i64 a1_3, .string a1_4, .string a1_5, .string a1_6, .string a1_7, .slice A1_8 l1_8.length c1_8]] w fun e w' => e = .returned (.bool r) ∧ Below w.heap.size w w' := by
  have hu42 := Tryd.underlying42
  have HR0_8 := Aside0.mk hr0_8
  have HC0_8 := Aside0.mk hc0_8
  clear hr0_8 hc0_8
  have HR1_8 := Aside0.mk hr1_8
  have HC1_8 := Aside0.mk hc1_8
  clear hr1_8 hc1_8
  have HGL := Aside0.mk hgl
  clear hgl
  have HB := Aside0.mk (Below.refl w.heap.size w)
  have H : (if a0_0 = a1_0 then (if a0_1 = a1_1 then (if a0_2 = a1_2 then (if a0_3 = a1_3 then (if a0_4.toList = a1_4.toList then (if a0_5.toList = a1_5.toList then (if a0_6.toList = a1_6.toList then (if a0_7.toList = a1_7.toList then ((tendrilplain_Attrs.f k l0_8 l1_8).bind fun t139 => (some t139)) else (some false)) else (some false)) else (some false)) else (some false)) else (some false)) else (some false)) else (some false)) else (some false)) = some r := h
  clear h
  by_cases c3 : a0_0 = a1_0
  · rw [if_pos c3] at H
    have c3b0 : (a0_0 == a1_0) = true := beq_iff_eq.mpr c3
    have c3b1 : (a0_0 != a1_0) = false := bne_eq_false_iff_eq.mpr c3
    clear c3
    by_cases c4 : a0_1 = a1_1
    · rw [if_pos c4] at H
      have c4b0 : (a0_1 == a1_1) = true := beq_iff_eq.mpr c4
      have c4b1 : (a0_1 != a1_1) = false := bne_eq_false_iff_eq.mpr c4
      clear c4
      by_cases c5 : a0_2 = a1_2
      · rw [if_pos c5] at H
        have c5b0 : (a0_2 == a1_2) = true := beq_iff_eq.mpr c5
        have c5b1 : (a0_2 != a1_2) = false := bne_eq_false_iff_eq.mpr c5
        clear c5
        by_cases c6 : a0_3 = a1_3
        · rw [if_pos c6] at H
          have c6b0 : (a0_3 == a1_3) = true := beq_iff_eq.mpr c6
          have c6b1 : (a0_3 != a1_3) = false := bne_eq_false_iff_eq.mpr c6
          clear c6
          by_cases c7 : a0_4.toList = a1_4.toList
          · rw [if_pos c7] at H
            have c7b0 : (a0_4.toList == a1_4.toList) = true := beq_iff_eq.mpr c7
            have c7b1 : (a0_4.toList != a1_4.toList) = false := bne_eq_false_iff_eq.mpr c7
            clear c7
            by_cases c8 : a0_5.toList = a1_5.toList
            · rw [if_pos c8] at H
              have c8b0 : (a0_5.toList == a1_5.toList) = true := beq_iff_eq.mpr c8
              have c8b1 : (a0_5.toList != a1_5.toList) = false := bne_eq_false_iff_eq.mpr c8
              clear c8
              by_cases c9 : a0_6.toList = a1_6.toList
              · rw [if_pos c9] at H
                have c9b0 : (a0_6.toList == a1_6.toList) = true := beq_iff_eq.mpr c9
                have c9b1 : (a0_6.toList != a1_6.toList) = false := bne_eq_false_iff_eq.mpr c9
                clear c9
                by_cases c10 : a0_7.toList = a1_7.toList
                · rw [if_pos c10] at H
                  have c10b0 : (a0_7.toList == a1_7.toList) = true := beq_iff_eq.mpr c10
                  have c10b1 : (a0_7.toList != a1_7.toList) = false := bne_eq_false_iff_eq.mpr c10
                  clear c10
                  replace H := Option.bind_eq_some_iff.mp H
                  obtain ⟨t139, A110, H⟩ := H
                  replace H : (some t139) = some r := H
                  have A11 := Aside0.mk A110
                  clear A110
                  obtain rfl := Option.some.inj H
                  go_enter Tryd.func24, Tryd.ntmps24
                  go_wp2_with (first | ((with_reducible refine gate_dst (N := 2) rfl ?_); refine box_event ?hg (N := 2) ?hd (cs := #[.int .i64 a0_0, .int .i64 a0_1, .int .i64 a0_2, .int .i64 a0_3, .string a0_4, .string a0_5, .string a0_6, .string a0_7, .slice A0_8 l0_8.length c0_8]) (t := 42) ?hr ?_; (case hd => rfl); (case hg => rfl); (case hr => first | (go_simp; done) | (go_simp; rfl)); intro gb137 hg w12 hbox hb; have n0_ := Aside0.mk (below_step (by repeat (first | (with_reducible first | exact HB.out | apply below_alloc | apply pw_below_drewN | apply below_drew1) | exact HB.out)) hb); have n1_ := Aside0.mk (hbox); have n2_ := Aside0.mk ((by rw [hg]; exact (below_size (by repeat (first | (with_reducible first | exact HB.out | apply below_alloc | apply pw_below_drewN | apply below_drew1) | exact HB.out))) : w.heap.size ≤ gb137)); have n3_ := Aside0.mk ((by rw [hg]; exact (below_size (by repeat (first | (with_reducible first | exact HB.out | apply below_alloc | apply pw_below_drewN | apply below_drew1) | exact HB.out))) : w.heap.size ≤ gb137)); clear HB; have HB := n0_; have BK137 := n1_; have GW137 := n2_; have GE137 := n3_; clear n0_ n1_ n2_ n3_; clear hb hbox hg) | ((with_reducible refine gate_dst (N := 3) rfl ?_); refine box_event ?hg (N := 3) ?hd (cs := #[.int .i64 a1_0, .int .i64 a1_1, .int .i64 a1_2, .int .i64 a1_3, .string a1_4, .string a1_5, .string a1_6, .string a1_7, .slice A1_8 l1_8.length c1_8]) (t := 42) ?hr ?_; (case hd => rfl); (case hg => rfl); (case hr => first | (go_simp; done) | (go_simp; rfl)); intro gb138 hg w13 hbox hb; have n0_ := Aside0.mk (blk_below (g := gb137) (o := .cells #[.int .i64 a0_0, .int .i64 a0_1, .int .i64 a0_2, .int .i64 a0_3, .string a0_4, .string a0_5, .string a0_6, .string a0_7, .slice A0_8 l0_8.length c0_8] 42 (0, 0)) (by (with_reducible repeat (first | refine blk_drewN ?_ _ | refine blk_drew ?_ | refine blk_alloc ?_ _)); exact BK137.out) hb); have n1_ := Aside0.mk (below_step (by repeat (first | (with_reducible first | exact HB.out | apply below_alloc | apply pw_below_drewN | apply below_drew1 | refine below_set ?_ GE137.out) | exact HB.out)) hb); have n2_ := Aside0.mk (hbox); have n3_ := Aside0.mk ((by rw [hg]; exact (below_size (by repeat (first | (with_reducible first | exact HB.out | apply below_alloc | apply pw_below_drewN | apply below_drew1 | refine below_set ?_ GE137.out) | exact HB.out))) : w.heap.size ≤ gb138)); have n4_ := Aside0.mk ((by rw [hg]; exact (below_size (by repeat (first | (with_reducible first | exact HB.out | apply below_alloc | apply pw_below_drewN | apply below_drew1 | refine below_set ?_ GE137.out) | exact HB.out))) : w.heap.size ≤ gb138)); have n5_ := Aside0.mk ((by rw [hg]; exact Nat.ne_of_lt (blk_lt (g := gb137) (o := .cells #[.int .i64 a0_0, .int .i64 a0_1, .int .i64 a0_2, .int .i64 a0_3, .string a0_4, .string a0_5, .string a0_6, .string a0_7, .slice A0_8 l0_8.length c0_8] 42 (0, 0)) (by (with_reducible repeat (first | refine blk_drewN ?_ _ | refine blk_drew ?_ | refine blk_alloc ?_ _)); exact BK137.out)) : gb137 ≠ gb138)); have n6_ := Aside0.mk ((by rw [hg]; exact Nat.ne_of_gt (blk_lt (g := gb137) (o := .cells #[.int .i64 a0_0, .int .i64 a0_1, .int .i64 a0_2, .int .i64 a0_3, .string a0_4, .string a0_5, .string a0_6, .string a0_7, .slice A0_8 l0_8.length c0_8] 42 (0, 0)) (by (with_reducible repeat (first | refine blk_drewN ?_ _ | refine blk_drew ?_ | refine blk_alloc ?_ _)); exact BK137.out)) : gb138 ≠ gb137)); clear BK137; clear HB; have BK137 := n0_; have HB := n1_; have BK138 := n2_; have GW138 := n3_; have GE138 := n4_; have NB137_138 := n5_; have NB138_137 := n6_; clear n0_ n1_ n2_ n3_ n4_ n5_ n6_; clear hb hbox hg; have hnb14 := NB137_138.out; have hnc14 := NB138_137.out; have hcz15_0 : w13.cell? ⟨gb137, 0, none⟩ = some (.int .i64 a0_0) := (blk_cell BK137.out 0).trans rfl; have hcz15_1 : w13.cell? ⟨gb137, 1, none⟩ = some (.int .i64 a0_1) := (blk_cell BK137.out 1).trans rfl; have hcz15_2 : w13.cell? ⟨gb137, 2, none⟩ = some (.int .i64 a0_2) := (blk_cell BK137.out 2).trans rfl; have hcz15_3 : w13.cell? ⟨gb137, 3, none⟩ = some (.int .i64 a0_3) := (blk_cell BK137.out 3).trans rfl; have hcz15_4 : w13.cell? ⟨gb137, 4, none⟩ = some (.string a0_4) := (blk_cell BK137.out 4).trans rfl; have hcz15_5 : w13.cell? ⟨gb137, 5, none⟩ = some (.string a0_5) := (blk_cell BK137.out 5).trans rfl; have hcz15_6 : w13.cell? ⟨gb137, 6, none⟩ = some (.string a0_6) := (blk_cell BK137.out 6).trans rfl; have hcz15_7 : w13.cell? ⟨gb137, 7, none⟩ = some (.string a0_7) := (blk_cell BK137.out 7).trans rfl; have hcz15_8 : w13.cell? ⟨gb137, 8, none⟩ = some (.slice A0_8 l0_8.length c0_8) := (blk_cell BK137.out 8).trans rfl; have hfz15_0 := blk_frozen BK137.out 0; have hfz15_1 := blk_frozen BK137.out 1; have hfz15_2 := blk_frozen BK137.out 2; have hfz15_3 := blk_frozen BK137.out 3; have hfz15_4 := blk_frozen BK137.out 4; have hfz15_5 := blk_frozen BK137.out 5; have hfz15_6 := blk_frozen BK137.out 6; have hfz15_7 := blk_frozen BK137.out 7; have hfz15_8 := blk_frozen BK137.out 8; have hcz16_0 : w13.cell? ⟨gb138, 0, none⟩ = some (.int .i64 a1_0) := (blk_cell BK138.out 0).trans rfl; have hcz16_1 : w13.cell? ⟨gb138, 1, none⟩ = some (.int .i64 a1_1) := (blk_cell BK138.out 1).trans rfl; have hcz16_2 : w13.cell? ⟨gb138, 2, none⟩ = some (.int .i64 a1_2) := (blk_cell BK138.out 2).trans rfl; have hcz16_3 : w13.cell? ⟨gb138, 3, none⟩ = some (.int .i64 a1_3) := (blk_cell BK138.out 3).trans rfl; have hcz16_4 : w13.cell? ⟨gb138, 4, none⟩ = some (.string a1_4) := (blk_cell BK138.out 4).trans rfl; have hcz16_5 : w13.cell? ⟨gb138, 5, none⟩ = some (.string a1_5) := (blk_cell BK138.out 5).trans rfl; have hcz16_6 : w13.cell? ⟨gb138, 6, none⟩ = some (.string a1_6) := (blk_cell BK138.out 6).trans rfl; have hcz16_7 : w13.cell? ⟨gb138, 7, none⟩ = some (.string a1_7) := (blk_cell BK138.out 7).trans rfl; have hcz16_8 : w13.cell? ⟨gb138, 8, none⟩ = some (.slice A1_8 l1_8.length c1_8) := (blk_cell BK138.out 8).trans rfl; have hfz16_0 := blk_frozen BK138.out 0; have hfz16_1 := blk_frozen BK138.out 1; have hfz16_2 := blk_frozen BK138.out 2; have hfz16_3 := blk_frozen BK138.out 3; have hfz16_4 := blk_frozen BK138.out 4; have hfz16_5 := blk_frozen BK138.out 5; have hfz16_6 := blk_frozen BK138.out 6; have hfz16_7 := blk_frozen BK138.out 7; have hfz16_8 := blk_frozen BK138.out 8) | (go_at_call 46; (with_reducible refine (tendrilplain_Attrs.calls k _ _ l0_8 _ _ l1_8 t139 _ ?side1 ?side2 ?side3 ?side4 ?side5 A11.out).mono ?_); (case side1 => first | exact HGL.out | exact (Go.Proofs.YtfpijjjmgggfkaaDoorX.GL.below HGL.out (by repeat (first | (with_reducible first | exact HB.out | apply below_alloc | apply pw_below_drewN | apply below_drew1 | refine below_set ?_ GE137.out | refine below_set ?_ GE138.out) | exact HB.out))) | (repeat (first | exact HGL.out | (with_reducible refine Go.Proofs.YtfpijjjmgggfkaaDoorX.GL.drewN ?_ _) | (with_reducible refine Go.Proofs.YtfpijjjmgggfkaaDoorX.GL.drew ?_)))); (case side2 => repeat (first | exact (Kd.C_below HR0_8.out HB.out) | (with_reducible refine Kd.C_alloc ?_ _) | (with_reducible refine Kd.C_drewN ?_ _) | (with_reducible refine Kd.C_drew ?_))); (case side3 => exact HC0_8.out); (case side4 => repeat (first | exact (Kd.C_below HR1_8.out HB.out) | (with_reducible refine Kd.C_alloc ?_ _) | (with_reducible refine Kd.C_drewN ?_ _) | (with_reducible refine Kd.C_drew ?_))); (case side5 => exact HC1_8.out); rintro e w' ⟨rfl, ⟨nd, rfl⟩⟩))
                  go_ret
                  exact ⟨by first | rfl | (simp [errW_none, errW_some] <;> first | rfl | exact emp_bne _ | exact (emp_bne _).symm | exact emp_bne' _ | exact (emp_bne' _).symm) | (simp [*, errW_none, errW_some] <;> rfl), by repeat (first | (with_reducible first | exact HB.out | apply below_alloc | apply pw_below_drewN | apply below_drew1 | refine below_set ?_ GE137.out | refine below_set ?_ GE138.out) | exact HB.out)⟩
                · rw [if_neg c10] at H
                  have c10b0 : (a0_7.toList == a1_7.toList) = false := beq_eq_false_iff_ne.mpr c10
                  have c10b1 : (a0_7.toList != a1_7.toList) = true := bne_iff_ne.mpr c10
                  obtain rfl := Option.some.inj H
                  go_enter Tryd.func24, Tryd.ntmps24
                  go_wp2_with (first | ((with_reducible refine gate_dst (N := 2) rfl ?_); refine box_event ?hg (N := 2) ?hd (cs := #[.int .i64 a0_0, .int .i64 a0_1, .int .i64 a0_2, .int .i64 a0_3, .string a0_4, .string a0_5, .string a0_6, .string a0_7, .slice A0_8 l0_8.length c0_8]) (t := 42) ?hr ?_; (case hd => rfl); (case hg => rfl); (case hr => first | (go_simp; done) | (go_simp; rfl)); intro gb137 hg w17 hbox hb; have n0_ := Aside0.mk (below_step (by repeat (first | (with_reducible first | exact HB.out | apply below_alloc | apply pw_below_drewN | apply below_drew1) | exact HB.out)) hb); have n1_ := Aside0.mk (hbox); have n2_ := Aside0.mk ((by rw [hg]; exact (below_size (by repeat (first | (with_reducible first | exact HB.out | apply below_alloc | apply pw_below_drewN | apply below_drew1) | exact HB.out))) : w.heap.size ≤ gb137)); have n3_ := Aside0.mk ((by rw [hg]; exact (below_size (by repeat (first | (with_reducible first | exact HB.out | apply below_alloc | apply pw_below_drewN | apply below_drew1) | exact HB.out))) : w.heap.size ≤ gb137)); clear HB; have HB := n0_; have BK137 := n1_; have GW137 := n2_; have GE137 := n3_; clear n0_ n1_ n2_ n3_; clear hb hbox hg) | ((with_reducible refine gate_dst (N := 3) rfl ?_); refine box_event ?hg (N := 3) ?hd (cs := #[.int .i64 a1_0, .int .i64 a1_1, .int .i64 a1_2, .int .i64 a1_3, .string a1_4, .string a1_5, .string a1_6, .string a1_7, .slice A1_8 l1_8.length c1_8]) (t := 42) ?hr ?_; (case hd => rfl); (case hg => rfl); (case hr => first | (go_simp; done) | (go_simp; rfl)); intro gb138 hg w18 hbox hb; have n0_ := Aside0.mk (blk_below (g := gb137) (o := .cells #[.int .i64 a0_0, .int .i64 a0_1, .int .i64 a0_2, .int .i64 a0_3, .string a0_4, .string a0_5, .string a0_6, .string a0_7, .slice A0_8 l0_8.length c0_8] 42 (0, 0)) (by (with_reducible repeat (first | refine blk_drewN ?_ _ | refine blk_drew ?_ | refine blk_alloc ?_ _)); exact BK137.out) hb); have n1_ := Aside0.mk (below_step (by repeat (first | (with_reducible first | exact HB.out | apply below_alloc | apply pw_below_drewN | apply below_drew1 | refine below_set ?_ GE137.out) | exact HB.out)) hb); have n2_ := Aside0.mk (hbox); have n3_ := Aside0.mk ((by rw [hg]; exact (below_size (by repeat (first | (with_reducible first | exact HB.out | apply below_alloc | apply pw_below_drewN | apply below_drew1 | refine below_set ?_ GE137.out) | exact HB.out))) : w.heap.size ≤ gb138)); have n4_ := Aside0.mk ((by rw [hg]; exact (below_size (by repeat (first | (with_reducible first | exact HB.out | apply below_alloc | apply pw_below_drewN | apply below_drew1 | refine below_set ?_ GE137.out) | exact HB.out))) : w.heap.size ≤ gb138)); have n5_ := Aside0.mk ((by rw [hg]; exact Nat.ne_of_lt (blk_lt (g := gb137) (o := .cells #[.int .i64 a0_0, .int .i64 a0_1, .int .i64 a0_2, .int .i64 a0_3, .string a0_4, .string a0_5, .string a0_6, .string a0_7, .slice A0_8 l0_8.length c0_8] 42 (0, 0)) (by (with_reducible repeat (first | refine blk_drewN ?_ _ | refine blk_drew ?_ | refine blk_alloc ?_ _)); exact BK137.out)) : gb137 ≠ gb138)); have n6_ := Aside0.mk ((by rw [hg]; exact Nat.ne_of_gt (blk_lt (g := gb137) (o := .cells #[.int .i64 a0_0, .int .i64 a0_1, .int .i64 a0_2, .int .i64 a0_3, .string a0_4, .string a0_5, .string a0_6, .string a0_7, .slice A0_8 l0_8.length c0_8] 42 (0, 0)) (by (with_reducible repeat (first | refine blk_drewN ?_ _ | refine blk_drew ?_ | refine blk_alloc ?_ _)); exact BK137.out)) : gb138 ≠ gb137)); clear BK137; clear HB; have BK137 := n0_; have HB := n1_; have BK138 := n2_; have GW138 := n3_; have GE138 := n4_; have NB137_138 := n5_; have NB138_137 := n6_; clear n0_ n1_ n2_ n3_ n4_ n5_ n6_; clear hb hbox hg; have hnb19 := NB137_138.out; have hnc19 := NB138_137.out; have hcz20_0 : w18.cell? ⟨gb137, 0, none⟩ = some (.int .i64 a0_0) := (blk_cell BK137.out 0).trans rfl; have hcz20_1 : w18.cell? ⟨gb137, 1, none⟩ = some (.int .i64 a0_1) := (blk_cell BK137.out 1).trans rfl; have hcz20_2 : w18.cell? ⟨gb137, 2, none⟩ = some (.int .i64 a0_2) := (blk_cell BK137.out 2).trans rfl; have hcz20_3 : w18.cell? ⟨gb137, 3, none⟩ = some (.int .i64 a0_3) := (blk_cell BK137.out 3).trans rfl; have hcz20_4 : w18.cell? ⟨gb137, 4, none⟩ = some (.string a0_4) := (blk_cell BK137.out 4).trans rfl; have hcz20_5 : w18.cell? ⟨gb137, 5, none⟩ = some (.string a0_5) := (blk_cell BK137.out 5).trans rfl; have hcz20_6 : w18.cell? ⟨gb137, 6, none⟩ = some (.string a0_6) := (blk_cell BK137.out 6).trans rfl; have hcz20_7 : w18.cell? ⟨gb137, 7, none⟩ = some (.string a0_7) := (blk_cell BK137.out 7).trans rfl; have hcz20_8 : w18.cell? ⟨gb137, 8, none⟩ = some (.slice A0_8 l0_8.length c0_8) := (blk_cell BK137.out 8).trans rfl; have hfz20_0 := blk_frozen BK137.out 0; have hfz20_1 := blk_frozen BK137.out 1; have hfz20_2 := blk_frozen BK137.out 2; have hfz20_3 := blk_frozen BK137.out 3; have hfz20_4 := blk_frozen BK137.out 4; have hfz20_5 := blk_frozen BK137.out 5; have hfz20_6 := blk_frozen BK137.out 6; have hfz20_7 := blk_frozen BK137.out 7; have hfz20_8 := blk_frozen BK137.out 8; have hcz21_0 : w18.cell? ⟨gb138, 0, none⟩ = some (.int .i64 a1_0) := (blk_cell BK138.out 0).trans rfl; have hcz21_1 : w18.cell? ⟨gb138, 1, none⟩ = some (.int .i64 a1_1) := (blk_cell BK138.out 1).trans rfl; have hcz21_2 : w18.cell? ⟨gb138, 2, none⟩ = some (.int .i64 a1_2) := (blk_cell BK138.out 2).trans rfl; have hcz21_3 : w18.cell? ⟨gb138, 3, none⟩ = some (.int .i64 a1_3) := (blk_cell BK138.out 3).trans rfl; have hcz21_4 : w18.cell? ⟨gb138, 4, none⟩ = some (.string a1_4) := (blk_cell BK138.out 4).trans rfl; have hcz21_5 : w18.cell? ⟨gb138, 5, none⟩ = some (.string a1_5) := (blk_cell BK138.out 5).trans rfl; have hcz21_6 : w18.cell? ⟨gb138, 6, none⟩ = some (.string a1_6) := (blk_cell BK138.out 6).trans rfl; have hcz21_7 : w18.cell? ⟨gb138, 7, none⟩ = some (.string a1_7) := (blk_cell BK138.out 7).trans rfl; have hcz21_8 : w18.cell? ⟨gb138, 8, none⟩ = some (.slice A1_8 l1_8.length c1_8) := (blk_cell BK138.out 8).trans rfl; have hfz21_0 := blk_frozen BK138.out 0; have hfz21_1 := blk_frozen BK138.out 1; have hfz21_2 := blk_frozen BK138.out 2; have hfz21_3 := blk_frozen BK138.out 3; have hfz21_4 := blk_frozen BK138.out 4; have hfz21_5 := blk_frozen BK138.out 5; have hfz21_6 := blk_frozen BK138.out 6; have hfz21_7 := blk_frozen BK138.out 7; have hfz21_8 := blk_frozen BK138.out 8))
                  go_ret
                  exact ⟨by first | rfl | (simp [errW_none, errW_some] <;> first | rfl | exact emp_bne _ | exact (emp_bne _).symm | exact emp_bne' _ | exact (emp_bne' _).symm) | (simp [*, errW_none, errW_some] <;> rfl), by repeat (first | (with_reducible first | exact HB.out | apply below_alloc | apply pw_below_drewN | apply below_drew1 | refine below_set ?_ GE137.out | refine below_set ?_ GE138.out) | exact HB.out)⟩
              · rw [if_neg c9] at H
                have c9b0 : (a0_6.toList == a1_6.toList) = false := beq_eq_false_iff_ne.mpr c9
                have c9b1 : (a0_6.toList != a1_6.toList) = true := bne_iff_ne.mpr c9
                obtain rfl := Option.some.inj H
                go_enter Tryd.func24, Tryd.ntmps24
                go_wp2_with (first | ((with_reducible refine gate_dst (N := 2) rfl ?_); refine box_event ?hg (N := 2) ?hd (cs := #[.int .i64 a0_0, .int .i64 a0_1, .int .i64 a0_2, .int .i64 a0_3, .string a0_4, .string a0_5, .string a0_6, .string a0_7, .slice A0_8 l0_8.length c0_8]) (t := 42) ?hr ?_; (case hd => rfl); (case hg => rfl); (case hr => first | (go_simp; done) | (go_simp; rfl)); intro gb137 hg w22 hbox hb; have n0_ := Aside0.mk (below_step (by repeat (first | (with_reducible first | exact HB.out | apply below_alloc | apply pw_below_drewN | apply below_drew1) | exact HB.out)) hb); have n1_ := Aside0.mk (hbox); have n2_ := Aside0.mk ((by rw [hg]; exact (below_size (by repeat (first | (with_reducible first | exact HB.out | apply below_alloc | apply pw_below_drewN | apply below_drew1) | exact HB.out))) : w.heap.size ≤ gb137)); have n3_ := Aside0.mk ((by rw [hg]; exact (below_size (by repeat (first | (with_reducible first | exact HB.out | apply below_alloc | apply pw_below_drewN | apply below_drew1) | exact HB.out))) : w.heap.size ≤ gb137)); clear HB; have HB := n0_; have BK137 := n1_; have GW137 := n2_; have GE137 := n3_; clear n0_ n1_ n2_ n3_; clear hb hbox hg) | ((with_reducible refine gate_dst (N := 3) rfl ?_); refine box_event ?hg (N := 3) ?hd (cs := #[.int .i64 a1_0, .int .i64 a1_1, .int .i64 a1_2, .int .i64 a1_3, .string a1_4, .string a1_5, .string a1_6, .string a1_7, .slice A1_8 l1_8.length c1_8]) (t := 42) ?hr ?_; (case hd => rfl); (case hg => rfl); (case hr => first | (go_simp; done) | (go_simp; rfl)); intro gb138 hg w23 hbox hb; have n0_ := Aside0.mk (blk_below (g := gb137) (o := .cells #[.int .i64 a0_0, .int .i64 a0_1, .int .i64 a0_2, .int .i64 a0_3, .string a0_4, .string a0_5, .string a0_6, .string a0_7, .slice A0_8 l0_8.length c0_8] 42 (0, 0)) (by (with_reducible repeat (first | refine blk_drewN ?_ _ | refine blk_drew ?_ | refine blk_alloc ?_ _)); exact BK137.out) hb); have n1_ := Aside0.mk (below_step (by repeat (first | (with_reducible first | exact HB.out | apply below_alloc | apply pw_below_drewN | apply below_drew1 | refine below_set ?_ GE137.out) | exact HB.out)) hb); have n2_ := Aside0.mk (hbox); have n3_ := Aside0.mk ((by rw [hg]; exact (below_size (by repeat (first | (with_reducible first | exact HB.out | apply below_alloc | apply pw_below_drewN | apply below_drew1 | refine below_set ?_ GE137.out) | exact HB.out))) : w.heap.size ≤ gb138)); have n4_ := Aside0.mk ((by rw [hg]; exact (below_size (by repeat (first | (with_reducible first | exact HB.out | apply below_alloc | apply pw_below_drewN | apply below_drew1 | refine below_set ?_ GE137.out) | exact HB.out))) : w.heap.size ≤ gb138)); have n5_ := Aside0.mk ((by rw [hg]; exact Nat.ne_of_lt (blk_lt (g := gb137) (o := .cells #[.int .i64 a0_0, .int .i64 a0_1, .int .i64 a0_2, .int .i64 a0_3, .string a0_4, .string a0_5, .string a0_6, .string a0_7, .slice A0_8 l0_8.length c0_8] 42 (0, 0)) (by (with_reducible repeat (first | refine blk_drewN ?_ _ | refine blk_drew ?_ | refine blk_alloc ?_ _)); exact BK137.out)) : gb137 ≠ gb138)); have n6_ := Aside0.mk ((by rw [hg]; exact Nat.ne_of_gt (blk_lt (g := gb137) (o := .cells #[.int .i64 a0_0, .int .i64 a0_1, .int .i64 a0_2, .int .i64 a0_3, .string a0_4, .string a0_5, .string a0_6, .string a0_7, .slice A0_8 l0_8.length c0_8] 42 (0, 0)) (by (with_reducible repeat (first | refine blk_drewN ?_ _ | refine blk_drew ?_ | refine blk_alloc ?_ _)); exact BK137.out)) : gb138 ≠ gb137)); clear BK137; clear HB; have BK137 := n0_; have HB := n1_; have BK138 := n2_; have GW138 := n3_; have GE138 := n4_; have NB137_138 := n5_; have NB138_137 := n6_; clear n0_ n1_ n2_ n3_ n4_ n5_ n6_; clear hb hbox hg; have hnb24 := NB137_138.out; have hnc24 := NB138_137.out; have hcz25_0 : w23.cell? ⟨gb137, 0, none⟩ = some (.int .i64 a0_0) := (blk_cell BK137.out 0).trans rfl; have hcz25_1 : w23.cell? ⟨gb137, 1, none⟩ = some (.int .i64 a0_1) := (blk_cell BK137.out 1).trans rfl; have hcz25_2 : w23.cell? ⟨gb137, 2, none⟩ = some (.int .i64 a0_2) := (blk_cell BK137.out 2).trans rfl; have hcz25_3 : w23.cell? ⟨gb137, 3, none⟩ = some (.int .i64 a0_3) := (blk_cell BK137.out 3).trans rfl; have hcz25_4 : w23.cell? ⟨gb137, 4, none⟩ = some (.string a0_4) := (blk_cell BK137.out 4).trans rfl; have hcz25_5 : w23.cell? ⟨gb137, 5, none⟩ = some (.string a0_5) := (blk_cell BK137.out 5).trans rfl; have hcz25_6 : w23.cell? ⟨gb137, 6, none⟩ = some (.string a0_6) := (blk_cell BK137.out 6).trans rfl; have hcz25_7 : w23.cell? ⟨gb137, 7, none⟩ = some (.string a0_7) := (blk_cell BK137.out 7).trans rfl; have hcz25_8 : w23.cell? ⟨gb137, 8, none⟩ = some (.slice A0_8 l0_8.length c0_8) := (blk_cell BK137.out 8).trans rfl; have hfz25_0 := blk_frozen BK137.out 0; have hfz25_1 := blk_frozen BK137.out 1; have hfz25_2 := blk_frozen BK137.out 2; have hfz25_3 := blk_frozen BK137.out 3; have hfz25_4 := blk_frozen BK137.out 4; have hfz25_5 := blk_frozen BK137.out 5; have hfz25_6 := blk_frozen BK137.out 6; have hfz25_7 := blk_frozen BK137.out 7; have hfz25_8 := blk_frozen BK137.out 8; have hcz26_0 : w23.cell? ⟨gb138, 0, none⟩ = some (.int .i64 a1_0) := (blk_cell BK138.out 0).trans rfl; have hcz26_1 : w23.cell? ⟨gb138, 1, none⟩ = some (.int .i64 a1_1) := (blk_cell BK138.out 1).trans rfl; have hcz26_2 : w23.cell? ⟨gb138, 2, none⟩ = some (.int .i64 a1_2) := (blk_cell BK138.out 2).trans rfl; have hcz26_3 : w23.cell? ⟨gb138, 3, none⟩ = some (.int .i64 a1_3) := (blk_cell BK138.out 3).trans rfl; have hcz26_4 : w23.cell? ⟨gb138, 4, none⟩ = some (.string a1_4) := (blk_cell BK138.out 4).trans rfl; have hcz26_5 : w23.cell? ⟨gb138, 5, none⟩ = some (.string a1_5) := (blk_cell BK138.out 5).trans rfl; have hcz26_6 : w23.cell? ⟨gb138, 6, none⟩ = some (.string a1_6) := (blk_cell BK138.out 6).trans rfl; have hcz26_7 : w23.cell? ⟨gb138, 7, none⟩ = some (.string a1_7) := (blk_cell BK138.out 7).trans rfl; have hcz26_8 : w23.cell? ⟨gb138, 8, none⟩ = some (.slice A1_8 l1_8.length c1_8) := (blk_cell BK138.out 8).trans rfl; have hfz26_0 := blk_frozen BK138.out 0; have hfz26_1 := blk_frozen BK138.out 1; have hfz26_2 := blk_frozen BK138.out 2; have hfz26_3 := blk_frozen BK138.out 3; have hfz26_4 := blk_frozen BK138.out 4; have hfz26_5 := blk_frozen BK138.out 5; have hfz26_6 := blk_frozen BK138.out 6; have hfz26_7 := blk_frozen BK138.out 7; have hfz26_8 := blk_frozen BK138.out 8))
                go_ret
                exact ⟨by first | rfl | (simp [errW_none, errW_some] <;> first | rfl | exact emp_bne _ | exact (emp_bne _).symm | exact emp_bne' _ | exact (emp_bne' _).symm) | (simp [*, errW_none, errW_some] <;> rfl), by repeat (first | (with_reducible first | exact HB.out | apply below_alloc | apply pw_below_drewN | apply below_drew1 | refine below_set ?_ GE137.out | refine below_set ?_ GE138.out) | exact HB.out)⟩
            · rw [if_neg c8] at H
              have c8b0 : (a0_5.toList == a1_5.toList) = false := beq_eq_false_iff_ne.mpr c8
              have c8b1 : (a0_5.toList != a1_5.toList) = true := bne_iff_ne.mpr c8
              obtain rfl := Option.some.inj H
              go_enter Tryd.func24, Tryd.ntmps24
              go_wp2_with (first | ((with_reducible refine gate_dst (N := 2) rfl ?_); refine box_event ?hg (N := 2) ?hd (cs := #[.int .i64 a0_0, .int .i64 a0_1, .int .i64 a0_2, .int .i64 a0_3, .string a0_4, .string a0_5, .string a0_6, .string a0_7, .slice A0_8 l0_8.length c0_8]) (t := 42) ?hr ?_; (case hd => rfl); (case hg => rfl); (case hr => first | (go_simp; done) | (go_simp; rfl)); intro gb137 hg w27 hbox hb; have n0_ := Aside0.mk (below_step (by repeat (first | (with_reducible first | exact HB.out | apply below_alloc | apply pw_below_drewN | apply below_drew1) | exact HB.out)) hb); have n1_ := Aside0.mk (hbox); have n2_ := Aside0.mk ((by rw [hg]; exact (below_size (by repeat (first | (with_reducible first | exact HB.out | apply below_alloc | apply pw_below_drewN | apply below_drew1) | exact HB.out))) : w.heap.size ≤ gb137)); have n3_ := Aside0.mk ((by rw [hg]; exact (below_size (by repeat (first | (with_reducible first | exact HB.out | apply below_alloc | apply pw_below_drewN | apply below_drew1) | exact HB.out))) : w.heap.size ≤ gb137)); clear HB; have HB := n0_; have BK137 := n1_; have GW137 := n2_; have GE137 := n3_; clear n0_ n1_ n2_ n3_; clear hb hbox hg) | ((with_reducible refine gate_dst (N := 3) rfl ?_); refine box_event ?hg (N := 3) ?hd (cs := #[.int .i64 a1_0, .int .i64 a1_1, .int .i64 a1_2, .int .i64 a1_3, .string a1_4, .string a1_5, .string a1_6, .string a1_7, .slice A1_8 l1_8.length c1_8]) (t := 42) ?hr ?_; (case hd => rfl); (case hg => rfl); (case hr => first | (go_simp; done) | (go_simp; rfl)); intro gb138 hg w28 hbox hb; have n0_ := Aside0.mk (blk_below (g := gb137) (o := .cells #[.int .i64 a0_0, .int .i64 a0_1, .int .i64 a0_2, .int .i64 a0_3, .string a0_4, .string a0_5, .string a0_6, .string a0_7, .slice A0_8 l0_8.length c0_8] 42 (0, 0)) (by (with_reducible repeat (first | refine blk_drewN ?_ _ | refine blk_drew ?_ | refine blk_alloc ?_ _)); exact BK137.out) hb); have n1_ := Aside0.mk (below_step (by repeat (first | (with_reducible first | exact HB.out | apply below_alloc | apply pw_below_drewN | apply below_drew1 | refine below_set ?_ GE137.out) | exact HB.out)) hb); have n2_ := Aside0.mk (hbox); have n3_ := Aside0.mk ((by rw [hg]; exact (below_size (by repeat (first | (with_reducible first | exact HB.out | apply below_alloc | apply pw_below_drewN | apply below_drew1 | refine below_set ?_ GE137.out) | exact HB.out))) : w.heap.size ≤ gb138)); have n4_ := Aside0.mk ((by rw [hg]; exact (below_size (by repeat (first | (with_reducible first | exact HB.out | apply below_alloc | apply pw_below_drewN | apply below_drew1 | refine below_set ?_ GE137.out) | exact HB.out))) : w.heap.size ≤ gb138)); have n5_ := Aside0.mk ((by rw [hg]; exact Nat.ne_of_lt (blk_lt (g := gb137) (o := .cells #[.int .i64 a0_0, .int .i64 a0_1, .int .i64 a0_2, .int .i64 a0_3, .string a0_4, .string a0_5, .string a0_6, .string a0_7, .slice A0_8 l0_8.length c0_8] 42 (0, 0)) (by (with_reducible repeat (first | refine blk_drewN ?_ _ | refine blk_drew ?_ | refine blk_alloc ?_ _)); exact BK137.out)) : gb137 ≠ gb138)); have n6_ := Aside0.mk ((by rw [hg]; exact Nat.ne_of_gt (blk_lt (g := gb137) (o := .cells #[.int .i64 a0_0, .int .i64 a0_1, .int .i64 a0_2, .int .i64 a0_3, .string a0_4, .string a0_5, .string a0_6, .string a0_7, .slice A0_8 l0_8.length c0_8] 42 (0, 0)) (by (with_reducible repeat (first | refine blk_drewN ?_ _ | refine blk_drew ?_ | refine blk_alloc ?_ _)); exact BK137.out)) : gb138 ≠ gb137)); clear BK137; clear HB; have BK137 := n0_; have HB := n1_; have BK138 := n2_; have GW138 := n3_; have GE138 := n4_; have NB137_138 := n5_; have NB138_137 := n6_; clear n0_ n1_ n2_ n3_ n4_ n5_ n6_; clear hb hbox hg; have hnb29 := NB137_138.out; have hnc29 := NB138_137.out; have hcz30_0 : w28.cell? ⟨gb137, 0, none⟩ = some (.int .i64 a0_0) := (blk_cell BK137.out 0).trans rfl; have hcz30_1 : w28.cell? ⟨gb137, 1, none⟩ = some (.int .i64 a0_1) := (blk_cell BK137.out 1).trans rfl; have hcz30_2 : w28.cell? ⟨gb137, 2, none⟩ = some (.int .i64 a0_2) := (blk_cell BK137.out 2).trans rfl; have hcz30_3 : w28.cell? ⟨gb137, 3, none⟩ = some (.int .i64 a0_3) := (blk_cell BK137.out 3).trans rfl; have hcz30_4 : w28.cell? ⟨gb137, 4, none⟩ = some (.string a0_4) := (blk_cell BK137.out 4).trans rfl; have hcz30_5 : w28.cell? ⟨gb137, 5, none⟩ = some (.string a0_5) := (blk_cell BK137.out 5).trans rfl; have hcz30_6 : w28.cell? ⟨gb137, 6, none⟩ = some (.string a0_6) := (blk_cell BK137.out 6).trans rfl; have hcz30_7 : w28.cell? ⟨gb137, 7, none⟩ = some (.string a0_7) := (blk_cell BK137.out 7).trans rfl; have hcz30_8 : w28.cell? ⟨gb137, 8, none⟩ = some (.slice A0_8 l0_8.length c0_8) := (blk_cell BK137.out 8).trans rfl; have hfz30_0 := blk_frozen BK137.out 0; have hfz30_1 := blk_frozen BK137.out 1; have hfz30_2 := blk_frozen BK137.out 2; have hfz30_3 := blk_frozen BK137.out 3; have hfz30_4 := blk_frozen BK137.out 4; have hfz30_5 := blk_frozen BK137.out 5; have hfz30_6 := blk_frozen BK137.out 6; have hfz30_7 := blk_frozen BK137.out 7; have hfz30_8 := blk_frozen BK137.out 8; have hcz31_0 : w28.cell? ⟨gb138, 0, none⟩ = some (.int .i64 a1_0) := (blk_cell BK138.out 0).trans rfl; have hcz31_1 : w28.cell? ⟨gb138, 1, none⟩ = some (.int .i64 a1_1) := (blk_cell BK138.out 1).trans rfl; have hcz31_2 : w28.cell? ⟨gb138, 2, none⟩ = some (.int .i64 a1_2) := (blk_cell BK138.out 2).trans rfl; have hcz31_3 : w28.cell? ⟨gb138, 3, none⟩ = some (.int .i64 a1_3) := (blk_cell BK138.out 3).trans rfl; have hcz31_4 : w28.cell? ⟨gb138, 4, none⟩ = some (.string a1_4) := (blk_cell BK138.out 4).trans rfl; have hcz31_5 : w28.cell? ⟨gb138, 5, none⟩ = some (.string a1_5) := (blk_cell BK138.out 5).trans rfl; have hcz31_6 : w28.cell? ⟨gb138, 6, none⟩ = some (.string a1_6) := (blk_cell BK138.out 6).trans rfl; have hcz31_7 : w28.cell? ⟨gb138, 7, none⟩ = some (.string a1_7) := (blk_cell BK138.out 7).trans rfl; have hcz31_8 : w28.cell? ⟨gb138, 8, none⟩ = some (.slice A1_8 l1_8.length c1_8) := (blk_cell BK138.out 8).trans rfl; have hfz31_0 := blk_frozen BK138.out 0; have hfz31_1 := blk_frozen BK138.out 1; have hfz31_2 := blk_frozen BK138.out 2; have hfz31_3 := blk_frozen BK138.out 3; have hfz31_4 := blk_frozen BK138.out 4; have hfz31_5 := blk_frozen BK138.out 5; have hfz31_6 := blk_frozen BK138.out 6; have hfz31_7 := blk_frozen BK138.out 7; have hfz31_8 := blk_frozen BK138.out 8))
              go_ret
              exact ⟨by first | rfl | (simp [errW_none, errW_some] <;> first | rfl | exact emp_bne _ | exact (emp_bne _).symm | exact emp_bne' _ | exact (emp_bne' _).symm) | (simp [*, errW_none, errW_some] <;> rfl), by repeat (first | (with_reducible first | exact HB.out | apply below_alloc | apply pw_below_drewN | apply below_drew1 | refine below_set ?_ GE137.out | refine below_set ?_ GE138.out) | exact HB.out)⟩
          · rw [if_neg c7] at H
            have c7b0 : (a0_4.toList == a1_4.toList) = false := beq_eq_false_iff_ne.mpr c7
            have c7b1 : (a0_4.toList != a1_4.toList) = true := bne_iff_ne.mpr c7
            obtain rfl := Option.some.inj H
            go_enter Tryd.func24, Tryd.ntmps24
            go_wp2_with (first | ((with_reducible refine gate_dst (N := 2) rfl ?_); refine box_event ?hg (N := 2) ?hd (cs := #[.int .i64 a0_0, .int .i64 a0_1, .int .i64 a0_2, .int .i64 a0_3, .string a0_4, .string a0_5, .string a0_6, .string a0_7, .slice A0_8 l0_8.length c0_8]) (t := 42) ?hr ?_; (case hd => rfl); (case hg => rfl); (case hr => first | (go_simp; done) | (go_simp; rfl)); intro gb137 hg w32 hbox hb; have n0_ := Aside0.mk (below_step (by repeat (first | (with_reducible first | exact HB.out | apply below_alloc | apply pw_below_drewN | apply below_drew1) | exact HB.out)) hb); have n1_ := Aside0.mk (hbox); have n2_ := Aside0.mk ((by rw [hg]; exact (below_size (by repeat (first | (with_reducible first | exact HB.out | apply below_alloc | apply pw_below_drewN | apply below_drew1) | exact HB.out))) : w.heap.size ≤ gb137)); have n3_ := Aside0.mk ((by rw [hg]; exact (below_size (by repeat (first | (with_reducible first | exact HB.out | apply below_alloc | apply pw_below_drewN | apply below_drew1) | exact HB.out))) : w.heap.size ≤ gb137)); clear HB; have HB := n0_; have BK137 := n1_; have GW137 := n2_; have GE137 := n3_; clear n0_ n1_ n2_ n3_; clear hb hbox hg) | ((with_reducible refine gate_dst (N := 3) rfl ?_); refine box_event ?hg (N := 3) ?hd (cs := #[.int .i64 a1_0, .int .i64 a1_1, .int .i64 a1_2, .int .i64 a1_3, .string a1_4, .string a1_5, .string a1_6, .string a1_7, .slice A1_8 l1_8.length c1_8]) (t := 42) ?hr ?_; (case hd => rfl); (case hg => rfl); (case hr => first | (go_simp; done) | (go_simp; rfl)); intro gb138 hg w33 hbox hb; have n0_ := Aside0.mk (blk_below (g := gb137) (o := .cells #[.int .i64 a0_0, .int .i64 a0_1, .int .i64 a0_2, .int .i64 a0_3, .string a0_4, .string a0_5, .string a0_6, .string a0_7, .slice A0_8 l0_8.length c0_8] 42 (0, 0)) (by (with_reducible repeat (first | refine blk_drewN ?_ _ | refine blk_drew ?_ | refine blk_alloc ?_ _)); exact BK137.out) hb); have n1_ := Aside0.mk (below_step (by repeat (first | (with_reducible first | exact HB.out | apply below_alloc | apply pw_below_drewN | apply below_drew1 | refine below_set ?_ GE137.out) | exact HB.out)) hb); have n2_ := Aside0.mk (hbox); have n3_ := Aside0.mk ((by rw [hg]; exact (below_size (by repeat (first | (with_reducible first | exact HB.out | apply below_alloc | apply pw_below_drewN | apply below_drew1 | refine below_set ?_ GE137.out) | exact HB.out))) : w.heap.size ≤ gb138)); have n4_ := Aside0.mk ((by rw [hg]; exact (below_size (by repeat (first | (with_reducible first | exact HB.out | apply below_alloc | apply pw_below_drewN | apply below_drew1 | refine below_set ?_ GE137.out) | exact HB.out))) : w.heap.size ≤ gb138)); have n5_ := Aside0.mk ((by rw [hg]; exact Nat.ne_of_lt (blk_lt (g := gb137) (o := .cells #[.int .i64 a0_0, .int .i64 a0_1, .int .i64 a0_2, .int .i64 a0_3, .string a0_4, .string a0_5, .string a0_6, .string a0_7, .slice A0_8 l0_8.length c0_8] 42 (0, 0)) (by (with_reducible repeat (first | refine blk_drewN ?_ _ | refine blk_drew ?_ | refine blk_alloc ?_ _)); exact BK137.out)) : gb137 ≠ gb138)); have n6_ := Aside0.mk ((by rw [hg]; exact Nat.ne_of_gt (blk_lt (g := gb137) (o := .cells #[.int .i64 a0_0, .int .i64 a0_1, .int .i64 a0_2, .int .i64 a0_3, .string a0_4, .string a0_5, .string a0_6, .string a0_7, .slice A0_8 l0_8.length c0_8] 42 (0, 0)) (by (with_reducible repeat (first | refine blk_drewN ?_ _ | refine blk_drew ?_ | refine blk_alloc ?_ _)); exact BK137.out)) : gb138 ≠ gb137)); clear BK137; clear HB; have BK137 := n0_; have HB := n1_; have BK138 := n2_; have GW138 := n3_; have GE138 := n4_; have NB137_138 := n5_; have NB138_137 := n6_; clear n0_ n1_ n2_ n3_ n4_ n5_ n6_; clear hb hbox hg; have hnb34 := NB137_138.out; have hnc34 := NB138_137.out; have hcz35_0 : w33.cell? ⟨gb137, 0, none⟩ = some (.int .i64 a0_0) := (blk_cell BK137.out 0).trans rfl; have hcz35_1 : w33.cell? ⟨gb137, 1, none⟩ = some (.int .i64 a0_1) := (blk_cell BK137.out 1).trans rfl; have hcz35_2 : w33.cell? ⟨gb137, 2, none⟩ = some (.int .i64 a0_2) := (blk_cell BK137.out 2).trans rfl; have hcz35_3 : w33.cell? ⟨gb137, 3, none⟩ = some (.int .i64 a0_3) := (blk_cell BK137.out 3).trans rfl; have hcz35_4 : w33.cell? ⟨gb137, 4, none⟩ = some (.string a0_4) := (blk_cell BK137.out 4).trans rfl; have hcz35_5 : w33.cell? ⟨gb137, 5, none⟩ = some (.string a0_5) := (blk_cell BK137.out 5).trans rfl; have hcz35_6 : w33.cell? ⟨gb137, 6, none⟩ = some (.string a0_6) := (blk_cell BK137.out 6).trans rfl; have hcz35_7 : w33.cell? ⟨gb137, 7, none⟩ = some (.string a0_7) := (blk_cell BK137.out 7).trans rfl; have hcz35_8 : w33.cell? ⟨gb137, 8, none⟩ = some (.slice A0_8 l0_8.length c0_8) := (blk_cell BK137.out 8).trans rfl; have hfz35_0 := blk_frozen BK137.out 0; have hfz35_1 := blk_frozen BK137.out 1; have hfz35_2 := blk_frozen BK137.out 2; have hfz35_3 := blk_frozen BK137.out 3; have hfz35_4 := blk_frozen BK137.out 4; have hfz35_5 := blk_frozen BK137.out 5; have hfz35_6 := blk_frozen BK137.out 6; have hfz35_7 := blk_frozen BK137.out 7; have hfz35_8 := blk_frozen BK137.out 8; have hcz36_0 : w33.cell? ⟨gb138, 0, none⟩ = some (.int .i64 a1_0) := (blk_cell BK138.out 0).trans rfl; have hcz36_1 : w33.cell? ⟨gb138, 1, none⟩ = some (.int .i64 a1_1) := (blk_cell BK138.out 1).trans rfl; have hcz36_2 : w33.cell? ⟨gb138, 2, none⟩ = some (.int .i64 a1_2) := (blk_cell BK138.out 2).trans rfl; have hcz36_3 : w33.cell? ⟨gb138, 3, none⟩ = some (.int .i64 a1_3) := (blk_cell BK138.out 3).trans rfl; have hcz36_4 : w33.cell? ⟨gb138, 4, none⟩ = some (.string a1_4) := (blk_cell BK138.out 4).trans rfl; have hcz36_5 : w33.cell? ⟨gb138, 5, none⟩ = some (.string a1_5) := (blk_cell BK138.out 5).trans rfl; have hcz36_6 : w33.cell? ⟨gb138, 6, none⟩ = some (.string a1_6) := (blk_cell BK138.out 6).trans rfl; have hcz36_7 : w33.cell? ⟨gb138, 7, none⟩ = some (.string a1_7) := (blk_cell BK138.out 7).trans rfl; have hcz36_8 : w33.cell? ⟨gb138, 8, none⟩ = some (.slice A1_8 l1_8.length c1_8) := (blk_cell BK138.out 8).trans rfl; have hfz36_0 := blk_frozen BK138.out 0; have hfz36_1 := blk_frozen BK138.out 1; have hfz36_2 := blk_frozen BK138.out 2; have hfz36_3 := blk_frozen BK138.out 3; have hfz36_4 := blk_frozen BK138.out 4; have hfz36_5 := blk_frozen BK138.out 5; have hfz36_6 := blk_frozen BK138.out 6; have hfz36_7 := blk_frozen BK138.out 7; have hfz36_8 := blk_frozen BK138.out 8))
            go_ret
            exact ⟨by first | rfl | (simp [errW_none, errW_some] <;> first | rfl | exact emp_bne _ | exact (emp_bne _).symm | exact emp_bne' _ | exact (emp_bne' _).symm) | (simp [*, errW_none, errW_some] <;> rfl), by repeat (first | (with_reducible first | exact HB.out | apply below_alloc | apply pw_below_drewN | apply below_drew1 | refine below_set ?_ GE137.out | refine below_set ?_ GE138.out) | exact HB.out)⟩
        · rw [if_neg c6] at H
          have c6b0 : (a0_3 == a1_3) = false := beq_eq_false_iff_ne.mpr c6
          have c6b1 : (a0_3 != a1_3) = true := bne_iff_ne.mpr c6
          obtain rfl := Option.some.inj H
          go_enter Tryd.func24, Tryd.ntmps24
          go_wp2_with (first | ((with_reducible refine gate_dst (N := 2) rfl ?_); refine box_event ?hg (N := 2) ?hd (cs := #[.int .i64 a0_0, .int .i64 a0_1, .int .i64 a0_2, .int .i64 a0_3, .string a0_4, .string a0_5, .string a0_6, .string a0_7, .slice A0_8 l0_8.length c0_8]) (t := 42) ?hr ?_; (case hd => rfl); (case hg => rfl); (case hr => first | (go_simp; done) | (go_simp; rfl)); intro gb137 hg w37 hbox hb; have n0_ := Aside0.mk (below_step (by repeat (first | (with_reducible first | exact HB.out | apply below_alloc | apply pw_below_drewN | apply below_drew1) | exact HB.out)) hb); have n1_ := Aside0.mk (hbox); have n2_ := Aside0.mk ((by rw [hg]; exact (below_size (by repeat (first | (with_reducible first | exact HB.out | apply below_alloc | apply pw_below_drewN | apply below_drew1) | exact HB.out))) : w.heap.size ≤ gb137)); have n3_ := Aside0.mk ((by rw [hg]; exact (below_size (by repeat (first | (with_reducible first | exact HB.out | apply below_alloc | apply pw_below_drewN | apply below_drew1) | exact HB.out))) : w.heap.size ≤ gb137)); clear HB; have HB := n0_; have BK137 := n1_; have GW137 := n2_; have GE137 := n3_; clear n0_ n1_ n2_ n3_; clear hb hbox hg) | ((with_reducible refine gate_dst (N := 3) rfl ?_); refine box_event ?hg (N := 3) ?hd (cs := #[.int .i64 a1_0, .int .i64 a1_1, .int .i64 a1_2, .int .i64 a1_3, .string a1_4, .string a1_5, .string a1_6, .string a1_7, .slice A1_8 l1_8.length c1_8]) (t := 42) ?hr ?_; (case hd => rfl); (case hg => rfl); (case hr => first | (go_simp; done) | (go_simp; rfl)); intro gb138 hg w38 hbox hb; have n0_ := Aside0.mk (blk_below (g := gb137) (o := .cells #[.int .i64 a0_0, .int .i64 a0_1, .int .i64 a0_2, .int .i64 a0_3, .string a0_4, .string a0_5, .string a0_6, .string a0_7, .slice A0_8 l0_8.length c0_8] 42 (0, 0)) (by (with_reducible repeat (first | refine blk_drewN ?_ _ | refine blk_drew ?_ | refine blk_alloc ?_ _)); exact BK137.out) hb); have n1_ := Aside0.mk (below_step (by repeat (first | (with_reducible first | exact HB.out | apply below_alloc | apply pw_below_drewN | apply below_drew1 | refine below_set ?_ GE137.out) | exact HB.out)) hb); have n2_ := Aside0.mk (hbox); have n3_ := Aside0.mk ((by rw [hg]; exact (below_size (by repeat (first | (with_reducible first | exact HB.out | apply below_alloc | apply pw_below_drewN | apply below_drew1 | refine below_set ?_ GE137.out) | exact HB.out))) : w.heap.size ≤ gb138)); have n4_ := Aside0.mk ((by rw [hg]; exact (below_size (by repeat (first | (with_reducible first | exact HB.out | apply below_alloc | apply pw_below_drewN | apply below_drew1 | refine below_set ?_ GE137.out) | exact HB.out))) : w.heap.size ≤ gb138)); have n5_ := Aside0.mk ((by rw [hg]; exact Nat.ne_of_lt (blk_lt (g := gb137) (o := .cells #[.int .i64 a0_0, .int .i64 a0_1, .int .i64 a0_2, .int .i64 a0_3, .string a0_4, .string a0_5, .string a0_6, .string a0_7, .slice A0_8 l0_8.length c0_8] 42 (0, 0)) (by (with_reducible repeat (first | refine blk_drewN ?_ _ | refine blk_drew ?_ | refine blk_alloc ?_ _)); exact BK137.out)) : gb137 ≠ gb138)); have n6_ := Aside0.mk ((by rw [hg]; exact Nat.ne_of_gt (blk_lt (g := gb137) (o := .cells #[.int .i64 a0_0, .int .i64 a0_1, .int .i64 a0_2, .int .i64 a0_3, .string a0_4, .string a0_5, .string a0_6, .string a0_7, .slice A0_8 l0_8.length c0_8] 42 (0, 0)) (by (with_reducible repeat (first | refine blk_drewN ?_ _ | refine blk_drew ?_ | refine blk_alloc ?_ _)); exact BK137.out)) : gb138 ≠ gb137)); clear BK137; clear HB; have BK137 := n0_; have HB := n1_; have BK138 := n2_; have GW138 := n3_; have GE138 := n4_; have NB137_138 := n5_; have NB138_137 := n6_; clear n0_ n1_ n2_ n3_ n4_ n5_ n6_; clear hb hbox hg; have hnb39 := NB137_138.out; have hnc39 := NB138_137.out; have hcz40_0 : w38.cell? ⟨gb137, 0, none⟩ = some (.int .i64 a0_0) := (blk_cell BK137.out 0).trans rfl; have hcz40_1 : w38.cell? ⟨gb137, 1, none⟩ = some (.int .i64 a0_1) := (blk_cell BK137.out 1).trans rfl; have hcz40_2 : w38.cell? ⟨gb137, 2, none⟩ = some (.int .i64 a0_2) := (blk_cell BK137.out 2).trans rfl; have hcz40_3 : w38.cell? ⟨gb137, 3, none⟩ = some (.int .i64 a0_3) := (blk_cell BK137.out 3).trans rfl; have hcz40_4 : w38.cell? ⟨gb137, 4, none⟩ = some (.string a0_4) := (blk_cell BK137.out 4).trans rfl; have hcz40_5 : w38.cell? ⟨gb137, 5, none⟩ = some (.string a0_5) := (blk_cell BK137.out 5).trans rfl; have hcz40_6 : w38.cell? ⟨gb137, 6, none⟩ = some (.string a0_6) := (blk_cell BK137.out 6).trans rfl; have hcz40_7 : w38.cell? ⟨gb137, 7, none⟩ = some (.string a0_7) := (blk_cell BK137.out 7).trans rfl; have hcz40_8 : w38.cell? ⟨gb137, 8, none⟩ = some (.slice A0_8 l0_8.length c0_8) := (blk_cell BK137.out 8).trans rfl; have hfz40_0 := blk_frozen BK137.out 0; have hfz40_1 := blk_frozen BK137.out 1; have hfz40_2 := blk_frozen BK137.out 2; have hfz40_3 := blk_frozen BK137.out 3; have hfz40_4 := blk_frozen BK137.out 4; have hfz40_5 := blk_frozen BK137.out 5; have hfz40_6 := blk_frozen BK137.out 6; have hfz40_7 := blk_frozen BK137.out 7; have hfz40_8 := blk_frozen BK137.out 8; have hcz41_0 : w38.cell? ⟨gb138, 0, none⟩ = some (.int .i64 a1_0) := (blk_cell BK138.out 0).trans rfl; have hcz41_1 : w38.cell? ⟨gb138, 1, none⟩ = some (.int .i64 a1_1) := (blk_cell BK138.out 1).trans rfl; have hcz41_2 : w38.cell? ⟨gb138, 2, none⟩ = some (.int .i64 a1_2) := (blk_cell BK138.out 2).trans rfl; have hcz41_3 : w38.cell? ⟨gb138, 3, none⟩ = some (.int .i64 a1_3) := (blk_cell BK138.out 3).trans rfl; have hcz41_4 : w38.cell? ⟨gb138, 4, none⟩ = some (.string a1_4) := (blk_cell BK138.out 4).trans rfl; have hcz41_5 : w38.cell? ⟨gb138, 5, none⟩ = some (.string a1_5) := (blk_cell BK138.out 5).trans rfl; have hcz41_6 : w38.cell? ⟨gb138, 6, none⟩ = some (.string a1_6) := (blk_cell BK138.out 6).trans rfl; have hcz41_7 : w38.cell? ⟨gb138, 7, none⟩ = some (.string a1_7) := (blk_cell BK138.out 7).trans rfl; have hcz41_8 : w38.cell? ⟨gb138, 8, none⟩ = some (.slice A1_8 l1_8.length c1_8) := (blk_cell BK138.out 8).trans rfl; have hfz41_0 := blk_frozen BK138.out 0; have hfz41_1 := blk_frozen BK138.out 1; have hfz41_2 := blk_frozen BK138.out 2; have hfz41_3 := blk_frozen BK138.out 3; have hfz41_4 := blk_frozen BK138.out 4; have hfz41_5 := blk_frozen BK138.out 5; have hfz41_6 := blk_frozen BK138.out 6; have hfz41_7 := blk_frozen BK138.out 7; have hfz41_8 := blk_frozen BK138.out 8))
          go_ret
          exact ⟨by first | rfl | (simp [errW_none, errW_some] <;> first | rfl | exact emp_bne _ | exact (emp_bne _).symm | exact emp_bne' _ | exact (emp_bne' _).symm) | (simp [*, errW_none, errW_some] <;> rfl), by repeat (first | (with_reducible first | exact HB.out | apply below_alloc | apply pw_below_drewN | apply below_drew1 | refine below_set ?_ GE137.out | refine below_set ?_ GE138.out) | exact HB.out)⟩
      · rw [if_neg c5] at H
        have c5b0 : (a0_2 == a1_2) = false := beq_eq_false_iff_ne.mpr c5
        have c5b1 : (a0_2 != a1_2) = true := bne_iff_ne.mpr c5
        obtain rfl := Option.some.inj H
        go_enter Tryd.func24, Tryd.ntmps24
        go_wp2_with (first | ((with_reducible refine gate_dst (N := 2) rfl ?_); refine box_event ?hg (N := 2) ?hd (cs := #[.int .i64 a0_0, .int .i64 a0_1, .int .i64 a0_2, .int .i64 a0_3, .string a0_4, .string a0_5, .string a0_6, .string a0_7, .slice A0_8 l0_8.length c0_8]) (t := 42) ?hr ?_; (case hd => rfl); (case hg => rfl); (case hr => first | (go_simp; done) | (go_simp; rfl)); intro gb137 hg w42 hbox hb; have n0_ := Aside0.mk (below_step (by repeat (first | (with_reducible first | exact HB.out | apply below_alloc | apply pw_below_drewN | apply below_drew1) | exact HB.out)) hb); have n1_ := Aside0.mk (hbox); have n2_ := Aside0.mk ((by rw [hg]; exact (below_size (by repeat (first | (with_reducible first | exact HB.out | apply below_alloc | apply pw_below_drewN | apply below_drew1) | exact HB.out))) : w.heap.size ≤ gb137)); have n3_ := Aside0.mk ((by rw [hg]; exact (below_size (by repeat (first | (with_reducible first | exact HB.out | apply below_alloc | apply pw_below_drewN | apply below_drew1) | exact HB.out))) : w.heap.size ≤ gb137)); clear HB; have HB := n0_; have BK137 := n1_; have GW137 := n2_; have GE137 := n3_; clear n0_ n1_ n2_ n3_; clear hb hbox hg) | ((with_reducible refine gate_dst (N := 3) rfl ?_); refine box_event ?hg (N := 3) ?hd (cs := #[.int .i64 a1_0, .int .i64 a1_1, .int .i64 a1_2, .int .i64 a1_3, .string a1_4, .string a1_5, .string a1_6, .string a1_7, .slice A1_8 l1_8.length c1_8]) (t := 42) ?hr ?_; (case hd => rfl); (case hg => rfl); (case hr => first | (go_simp; done) | (go_simp; rfl)); intro gb138 hg w43 hbox hb; have n0_ := Aside0.mk (blk_below (g := gb137) (o := .cells #[.int .i64 a0_0, .int .i64 a0_1, .int .i64 a0_2, .int .i64 a0_3, .string a0_4, .string a0_5, .string a0_6, .string a0_7, .slice A0_8 l0_8.length c0_8] 42 (0, 0)) (by (with_reducible repeat (first | refine blk_drewN ?_ _ | refine blk_drew ?_ | refine blk_alloc ?_ _)); exact BK137.out) hb); have n1_ := Aside0.mk (below_step (by repeat (first | (with_reducible first | exact HB.out | apply below_alloc | apply pw_below_drewN | apply below_drew1 | refine below_set ?_ GE137.out) | exact HB.out)) hb); have n2_ := Aside0.mk (hbox); have n3_ := Aside0.mk ((by rw [hg]; exact (below_size (by repeat (first | (with_reducible first | exact HB.out | apply below_alloc | apply pw_below_drewN | apply below_drew1 | refine below_set ?_ GE137.out) | exact HB.out))) : w.heap.size ≤ gb138)); have n4_ := Aside0.mk ((by rw [hg]; exact (below_size (by repeat (first | (with_reducible first | exact HB.out | apply below_alloc | apply pw_below_drewN | apply below_drew1 | refine below_set ?_ GE137.out) | exact HB.out))) : w.heap.size ≤ gb138)); have n5_ := Aside0.mk ((by rw [hg]; exact Nat.ne_of_lt (blk_lt (g := gb137) (o := .cells #[.int .i64 a0_0, .int .i64 a0_1, .int .i64 a0_2, .int .i64 a0_3, .string a0_4, .string a0_5, .string a0_6, .string a0_7, .slice A0_8 l0_8.length c0_8] 42 (0, 0)) (by (with_reducible repeat (first | refine blk_drewN ?_ _ | refine blk_drew ?_ | refine blk_alloc ?_ _)); exact BK137.out)) : gb137 ≠ gb138)); have n6_ := Aside0.mk ((by rw [hg]; exact Nat.ne_of_gt (blk_lt (g := gb137) (o := .cells #[.int .i64 a0_0, .int .i64 a0_1, .int .i64 a0_2, .int .i64 a0_3, .string a0_4, .string a0_5, .string a0_6, .string a0_7, .slice A0_8 l0_8.length c0_8] 42 (0, 0)) (by (with_reducible repeat (first | refine blk_drewN ?_ _ | refine blk_drew ?_ | refine blk_alloc ?_ _)); exact BK137.out)) : gb138 ≠ gb137)); clear BK137; clear HB; have BK137 := n0_; have HB := n1_; have BK138 := n2_; have GW138 := n3_; have GE138 := n4_; have NB137_138 := n5_; have NB138_137 := n6_; clear n0_ n1_ n2_ n3_ n4_ n5_ n6_; clear hb hbox hg; have hnb44 := NB137_138.out; have hnc44 := NB138_137.out; have hcz45_0 : w43.cell? ⟨gb137, 0, none⟩ = some (.int .i64 a0_0) := (blk_cell BK137.out 0).trans rfl; have hcz45_1 : w43.cell? ⟨gb137, 1, none⟩ = some (.int .i64 a0_1) := (blk_cell BK137.out 1).trans rfl; have hcz45_2 : w43.cell? ⟨gb137, 2, none⟩ = some (.int .i64 a0_2) := (blk_cell BK137.out 2).trans rfl; have hcz45_3 : w43.cell? ⟨gb137, 3, none⟩ = some (.int .i64 a0_3) := (blk_cell BK137.out 3).trans rfl; have hcz45_4 : w43.cell? ⟨gb137, 4, none⟩ = some (.string a0_4) := (blk_cell BK137.out 4).trans rfl; have hcz45_5 : w43.cell? ⟨gb137, 5, none⟩ = some (.string a0_5) := (blk_cell BK137.out 5).trans rfl; have hcz45_6 : w43.cell? ⟨gb137, 6, none⟩ = some (.string a0_6) := (blk_cell BK137.out 6).trans rfl; have hcz45_7 : w43.cell? ⟨gb137, 7, none⟩ = some (.string a0_7) := (blk_cell BK137.out 7).trans rfl; have hcz45_8 : w43.cell? ⟨gb137, 8, none⟩ = some (.slice A0_8 l0_8.length c0_8) := (blk_cell BK137.out 8).trans rfl; have hfz45_0 := blk_frozen BK137.out 0; have hfz45_1 := blk_frozen BK137.out 1; have hfz45_2 := blk_frozen BK137.out 2; have hfz45_3 := blk_frozen BK137.out 3; have hfz45_4 := blk_frozen BK137.out 4; have hfz45_5 := blk_frozen BK137.out 5; have hfz45_6 := blk_frozen BK137.out 6; have hfz45_7 := blk_frozen BK137.out 7; have hfz45_8 := blk_frozen BK137.out 8; have hcz46_0 : w43.cell? ⟨gb138, 0, none⟩ = some (.int .i64 a1_0) := (blk_cell BK138.out 0).trans rfl; have hcz46_1 : w43.cell? ⟨gb138, 1, none⟩ = some (.int .i64 a1_1) := (blk_cell BK138.out 1).trans rfl; have hcz46_2 : w43.cell? ⟨gb138, 2, none⟩ = some (.int .i64 a1_2) := (blk_cell BK138.out 2).trans rfl; have hcz46_3 : w43.cell? ⟨gb138, 3, none⟩ = some (.int .i64 a1_3) := (blk_cell BK138.out 3).trans rfl; have hcz46_4 : w43.cell? ⟨gb138, 4, none⟩ = some (.string a1_4) := (blk_cell BK138.out 4).trans rfl; have hcz46_5 : w43.cell? ⟨gb138, 5, none⟩ = some (.string a1_5) := (blk_cell BK138.out 5).trans rfl; have hcz46_6 : w43.cell? ⟨gb138, 6, none⟩ = some (.string a1_6) := (blk_cell BK138.out 6).trans rfl; have hcz46_7 : w43.cell? ⟨gb138, 7, none⟩ = some (.string a1_7) := (blk_cell BK138.out 7).trans rfl; have hcz46_8 : w43.cell? ⟨gb138, 8, none⟩ = some (.slice A1_8 l1_8.length c1_8) := (blk_cell BK138.out 8).trans rfl; have hfz46_0 := blk_frozen BK138.out 0; have hfz46_1 := blk_frozen BK138.out 1; have hfz46_2 := blk_frozen BK138.out 2; have hfz46_3 := blk_frozen BK138.out 3; have hfz46_4 := blk_frozen BK138.out 4; have hfz46_5 := blk_frozen BK138.out 5; have hfz46_6 := blk_frozen BK138.out 6; have hfz46_7 := blk_frozen BK138.out 7; have hfz46_8 := blk_frozen BK138.out 8))
        go_ret
        exact ⟨by first | rfl | (simp [errW_none, errW_some] <;> first | rfl | exact emp_bne _ | exact (emp_bne _).symm | exact emp_bne' _ | exact (emp_bne' _).symm) | (simp [*, errW_none, errW_some] <;> rfl), by repeat (first | (with_reducible first | exact HB.out | apply below_alloc | apply pw_below_drewN | apply below_drew1 | refine below_set ?_ GE137.out | refine below_set ?_ GE138.out) | exact HB.out)⟩
    · rw [if_neg c4] at H
      have c4b0 : (a0_1 == a1_1) = false := beq_eq_false_iff_ne.mpr c4
      have c4b1 : (a0_1 != a1_1) = true := bne_iff_ne.mpr c4
      obtain rfl := Option.some.inj H
      go_enter Tryd.func24, Tryd.ntmps24
      go_wp2_with (first | ((with_reducible refine gate_dst (N := 2) rfl ?_); refine box_event ?hg (N := 2) ?hd (cs := #[.int .i64 a0_0, .int .i64 a0_1, .int .i64 a0_2, .int .i64 a0_3, .string a0_4, .string a0_5, .string a0_6, .string a0_7, .slice A0_8 l0_8.length c0_8]) (t := 42) ?hr ?_; (case hd => rfl); (case hg => rfl); (case hr => first | (go_simp; done) | (go_simp; rfl)); intro gb137 hg w47 hbox hb; have n0_ := Aside0.mk (below_step (by repeat (first | (with_reducible first | exact HB.out | apply below_alloc | apply pw_below_drewN | apply below_drew1) | exact HB.out)) hb); have n1_ := Aside0.mk (hbox); have n2_ := Aside0.mk ((by rw [hg]; exact (below_size (by repeat (first | (with_reducible first | exact HB.out | apply below_alloc | apply pw_below_drewN | apply below_drew1) | exact HB.out))) : w.heap.size ≤ gb137)); have n3_ := Aside0.mk ((by rw [hg]; exact (below_size (by repeat (first | (with_reducible first | exact HB.out | apply below_alloc | apply pw_below_drewN | apply below_drew1) | exact HB.out))) : w.heap.size ≤ gb137)); clear HB; have HB := n0_; have BK137 := n1_; have GW137 := n2_; have GE137 := n3_; clear n0_ n1_ n2_ n3_; clear hb hbox hg) | ((with_reducible refine gate_dst (N := 3) rfl ?_); refine box_event ?hg (N := 3) ?hd (cs := #[.int .i64 a1_0, .int .i64 a1_1, .int .i64 a1_2, .int .i64 a1_3, .string a1_4, .string a1_5, .string a1_6, .string a1_7, .slice A1_8 l1_8.length c1_8]) (t := 42) ?hr ?_; (case hd => rfl); (case hg => rfl); (case hr => first | (go_simp; done) | (go_simp; rfl)); intro gb138 hg w48 hbox hb; have n0_ := Aside0.mk (blk_below (g := gb137) (o := .cells #[.int .i64 a0_0, .int .i64 a0_1, .int .i64 a0_2, .int .i64 a0_3, .string a0_4, .string a0_5, .string a0_6, .string a0_7, .slice A0_8 l0_8.length c0_8] 42 (0, 0)) (by (with_reducible repeat (first | refine blk_drewN ?_ _ | refine blk_drew ?_ | refine blk_alloc ?_ _)); exact BK137.out) hb); have n1_ := Aside0.mk (below_step (by repeat (first | (with_reducible first | exact HB.out | apply below_alloc | apply pw_below_drewN | apply below_drew1 | refine below_set ?_ GE137.out) | exact HB.out)) hb); have n2_ := Aside0.mk (hbox); have n3_ := Aside0.mk ((by rw [hg]; exact (below_size (by repeat (first | (with_reducible first | exact HB.out | apply below_alloc | apply pw_below_drewN | apply below_drew1 | refine below_set ?_ GE137.out) | exact HB.out))) : w.heap.size ≤ gb138)); have n4_ := Aside0.mk ((by rw [hg]; exact (below_size (by repeat (first | (with_reducible first | exact HB.out | apply below_alloc | apply pw_below_drewN | apply below_drew1 | refine below_set ?_ GE137.out) | exact HB.out))) : w.heap.size ≤ gb138)); have n5_ := Aside0.mk ((by rw [hg]; exact Nat.ne_of_lt (blk_lt (g := gb137) (o := .cells #[.int .i64 a0_0, .int .i64 a0_1, .int .i64 a0_2, .int .i64 a0_3, .string a0_4, .string a0_5, .string a0_6, .string a0_7, .slice A0_8 l0_8.length c0_8] 42 (0, 0)) (by (with_reducible repeat (first | refine blk_drewN ?_ _ | refine blk_drew ?_ | refine blk_alloc ?_ _)); exact BK137.out)) : gb137 ≠ gb138)); have n6_ := Aside0.mk ((by rw [hg]; exact Nat.ne_of_gt (blk_lt (g := gb137) (o := .cells #[.int .i64 a0_0, .int .i64 a0_1, .int .i64 a0_2, .int .i64 a0_3, .string a0_4, .string a0_5, .string a0_6, .string a0_7, .slice A0_8 l0_8.length c0_8] 42 (0, 0)) (by (with_reducible repeat (first | refine blk_drewN ?_ _ | refine blk_drew ?_ | refine blk_alloc ?_ _)); exact BK137.out)) : gb138 ≠ gb137)); clear BK137; clear HB; have BK137 := n0_; have HB := n1_; have BK138 := n2_; have GW138 := n3_; have GE138 := n4_; have NB137_138 := n5_; have NB138_137 := n6_; clear n0_ n1_ n2_ n3_ n4_ n5_ n6_; clear hb hbox hg; have hnb49 := NB137_138.out; have hnc49 := NB138_137.out; have hcz50_0 : w48.cell? ⟨gb137, 0, none⟩ = some (.int .i64 a0_0) := (blk_cell BK137.out 0).trans rfl; have hcz50_1 : w48.cell? ⟨gb137, 1, none⟩ = some (.int .i64 a0_1) := (blk_cell BK137.out 1).trans rfl; have hcz50_2 : w48.cell? ⟨gb137, 2, none⟩ = some (.int .i64 a0_2) := (blk_cell BK137.out 2).trans rfl; have hcz50_3 : w48.cell? ⟨gb137, 3, none⟩ = some (.int .i64 a0_3) := (blk_cell BK137.out 3).trans rfl; have hcz50_4 : w48.cell? ⟨gb137, 4, none⟩ = some (.string a0_4) := (blk_cell BK137.out 4).trans rfl; have hcz50_5 : w48.cell? ⟨gb137, 5, none⟩ = some (.string a0_5) := (blk_cell BK137.out 5).trans rfl; have hcz50_6 : w48.cell? ⟨gb137, 6, none⟩ = some (.string a0_6) := (blk_cell BK137.out 6).trans rfl; have hcz50_7 : w48.cell? ⟨gb137, 7, none⟩ = some (.string a0_7) := (blk_cell BK137.out 7).trans rfl; have hcz50_8 : w48.cell? ⟨gb137, 8, none⟩ = some (.slice A0_8 l0_8.length c0_8) := (blk_cell BK137.out 8).trans rfl; have hfz50_0 := blk_frozen BK137.out 0; have hfz50_1 := blk_frozen BK137.out 1; have hfz50_2 := blk_frozen BK137.out 2; have hfz50_3 := blk_frozen BK137.out 3; have hfz50_4 := blk_frozen BK137.out 4; have hfz50_5 := blk_frozen BK137.out 5; have hfz50_6 := blk_frozen BK137.out 6; have hfz50_7 := blk_frozen BK137.out 7; have hfz50_8 := blk_frozen BK137.out 8; have hcz51_0 : w48.cell? ⟨gb138, 0, none⟩ = some (.int .i64 a1_0) := (blk_cell BK138.out 0).trans rfl; have hcz51_1 : w48.cell? ⟨gb138, 1, none⟩ = some (.int .i64 a1_1) := (blk_cell BK138.out 1).trans rfl; have hcz51_2 : w48.cell? ⟨gb138, 2, none⟩ = some (.int .i64 a1_2) := (blk_cell BK138.out 2).trans rfl; have hcz51_3 : w48.cell? ⟨gb138, 3, none⟩ = some (.int .i64 a1_3) := (blk_cell BK138.out 3).trans rfl; have hcz51_4 : w48.cell? ⟨gb138, 4, none⟩ = some (.string a1_4) := (blk_cell BK138.out 4).trans rfl; have hcz51_5 : w48.cell? ⟨gb138, 5, none⟩ = some (.string a1_5) := (blk_cell BK138.out 5).trans rfl; have hcz51_6 : w48.cell? ⟨gb138, 6, none⟩ = some (.string a1_6) := (blk_cell BK138.out 6).trans rfl; have hcz51_7 : w48.cell? ⟨gb138, 7, none⟩ = some (.string a1_7) := (blk_cell BK138.out 7).trans rfl; have hcz51_8 : w48.cell? ⟨gb138, 8, none⟩ = some (.slice A1_8 l1_8.length c1_8) := (blk_cell BK138.out 8).trans rfl; have hfz51_0 := blk_frozen BK138.out 0; have hfz51_1 := blk_frozen BK138.out 1; have hfz51_2 := blk_frozen BK138.out 2; have hfz51_3 := blk_frozen BK138.out 3; have hfz51_4 := blk_frozen BK138.out 4; have hfz51_5 := blk_frozen BK138.out 5; have hfz51_6 := blk_frozen BK138.out 6; have hfz51_7 := blk_frozen BK138.out 7; have hfz51_8 := blk_frozen BK138.out 8))
      go_ret
      exact ⟨by first | rfl | (simp [errW_none, errW_some] <;> first | rfl | exact emp_bne _ | exact (emp_bne _).symm | exact emp_bne' _ | exact (emp_bne' _).symm) | (simp [*, errW_none, errW_some] <;> rfl), by repeat (first | (with_reducible first | exact HB.out | apply below_alloc | apply pw_below_drewN | apply below_drew1 | refine below_set ?_ GE137.out | refine below_set ?_ GE138.out) | exact HB.out)⟩
  · rw [if_neg c3] at H
    have c3b0 : (a0_0 == a1_0) = false := beq_eq_false_iff_ne.mpr c3
    have c3b1 : (a0_0 != a1_0) = true := bne_iff_ne.mpr c3
    obtain rfl := Option.some.inj H
    go_enter Tryd.func24, Tryd.ntmps24
    go_wp2_with (first | ((with_reducible refine gate_dst (N := 2) rfl ?_); refine box_event ?hg (N := 2) ?hd (cs := #[.int .i64 a0_0, .int .i64 a0_1, .int .i64 a0_2, .int .i64 a0_3, .string a0_4, .string a0_5, .string a0_6, .string a0_7, .slice A0_8 l0_8.length c0_8]) (t := 42) ?hr ?_; (case hd => rfl); (case hg => rfl); (case hr => first | (go_simp; done) | (go_simp; rfl)); intro gb137 hg w52 hbox hb; have n0_ := Aside0.mk (below_step (by repeat (first | (with_reducible first | exact HB.out | apply below_alloc | apply pw_below_drewN | apply below_drew1) | exact HB.out)) hb); have n1_ := Aside0.mk (hbox); have n2_ := Aside0.mk ((by rw [hg]; exact (below_size (by repeat (first | (with_reducible first | exact HB.out | apply below_alloc | apply pw_below_drewN | apply below_drew1) | exact HB.out))) : w.heap.size ≤ gb137)); have n3_ := Aside0.mk ((by rw [hg]; exact (below_size (by repeat (first | (with_reducible first | exact HB.out | apply below_alloc | apply pw_below_drewN | apply below_drew1) | exact HB.out))) : w.heap.size ≤ gb137)); clear HB; have HB := n0_; have BK137 := n1_; have GW137 := n2_; have GE137 := n3_; clear n0_ n1_ n2_ n3_; clear hb hbox hg) | ((with_reducible refine gate_dst (N := 3) rfl ?_); refine box_event ?hg (N := 3) ?hd (cs := #[.int .i64 a1_0, .int .i64 a1_1, .int .i64 a1_2, .int .i64 a1_3, .string a1_4, .string a1_5, .string a1_6, .string a1_7, .slice A1_8 l1_8.length c1_8]) (t := 42) ?hr ?_; (case hd => rfl); (case hg => rfl); (case hr => first | (go_simp; done) | (go_simp; rfl)); intro gb138 hg w53 hbox hb; have n0_ := Aside0.mk (blk_below (g := gb137) (o := .cells #[.int .i64 a0_0, .int .i64 a0_1, .int .i64 a0_2, .int .i64 a0_3, .string a0_4, .string a0_5, .string a0_6, .string a0_7, .slice A0_8 l0_8.length c0_8] 42 (0, 0)) (by (with_reducible repeat (first | refine blk_drewN ?_ _ | refine blk_drew ?_ | refine blk_alloc ?_ _)); exact BK137.out) hb); have n1_ := Aside0.mk (below_step (by repeat (first | (with_reducible first | exact HB.out | apply below_alloc | apply pw_below_drewN | apply below_drew1 | refine below_set ?_ GE137.out) | exact HB.out)) hb); have n2_ := Aside0.mk (hbox); have n3_ := Aside0.mk ((by rw [hg]; exact (below_size (by repeat (first | (with_reducible first | exact HB.out | apply below_alloc | apply pw_below_drewN | apply below_drew1 | refine below_set ?_ GE137.out) | exact HB.out))) : w.heap.size ≤ gb138)); have n4_ := Aside0.mk ((by rw [hg]; exact (below_size (by repeat (first | (with_reducible first | exact HB.out | apply below_alloc | apply pw_below_drewN | apply below_drew1 | refine below_set ?_ GE137.out) | exact HB.out))) : w.heap.size ≤ gb138)); have n5_ := Aside0.mk ((by rw [hg]; exact Nat.ne_of_lt (blk_lt (g := gb137) (o := .cells #[.int .i64 a0_0, .int .i64 a0_1, .int .i64 a0_2, .int .i64 a0_3, .string a0_4, .string a0_5, .string a0_6, .string a0_7, .slice A0_8 l0_8.length c0_8] 42 (0, 0)) (by (with_reducible repeat (first | refine blk_drewN ?_ _ | refine blk_drew ?_ | refine blk_alloc ?_ _)); exact BK137.out)) : gb137 ≠ gb138)); have n6_ := Aside0.mk ((by rw [hg]; exact Nat.ne_of_gt (blk_lt (g := gb137) (o := .cells #[.int .i64 a0_0, .int .i64 a0_1, .int .i64 a0_2, .int .i64 a0_3, .string a0_4, .string a0_5, .string a0_6, .string a0_7, .slice A0_8 l0_8.length c0_8] 42 (0, 0)) (by (with_reducible repeat (first | refine blk_drewN ?_ _ | refine blk_drew ?_ | refine blk_alloc ?_ _)); exact BK137.out)) : gb138 ≠ gb137)); clear BK137; clear HB; have BK137 := n0_; have HB := n1_; have BK138 := n2_; have GW138 := n3_; have GE138 := n4_; have NB137_138 := n5_; have NB138_137 := n6_; clear n0_ n1_ n2_ n3_ n4_ n5_ n6_; clear hb hbox hg; have hnb54 := NB137_138.out; have hnc54 := NB138_137.out; have hcz55_0 : w53.cell? ⟨gb137, 0, none⟩ = some (.int .i64 a0_0) := (blk_cell BK137.out 0).trans rfl; have hcz55_1 : w53.cell? ⟨gb137, 1, none⟩ = some (.int .i64 a0_1) := (blk_cell BK137.out 1).trans rfl; have hcz55_2 : w53.cell? ⟨gb137, 2, none⟩ = some (.int .i64 a0_2) := (blk_cell BK137.out 2).trans rfl; have hcz55_3 : w53.cell? ⟨gb137, 3, none⟩ = some (.int .i64 a0_3) := (blk_cell BK137.out 3).trans rfl; have hcz55_4 : w53.cell? ⟨gb137, 4, none⟩ = some (.string a0_4) := (blk_cell BK137.out 4).trans rfl; have hcz55_5 : w53.cell? ⟨gb137, 5, none⟩ = some (.string a0_5) := (blk_cell BK137.out 5).trans rfl; have hcz55_6 : w53.cell? ⟨gb137, 6, none⟩ = some (.string a0_6) := (blk_cell BK137.out 6).trans rfl; have hcz55_7 : w53.cell? ⟨gb137, 7, none⟩ = some (.string a0_7) := (blk_cell BK137.out 7).trans rfl; have hcz55_8 : w53.cell? ⟨gb137, 8, none⟩ = some (.slice A0_8 l0_8.length c0_8) := (blk_cell BK137.out 8).trans rfl; have hfz55_0 := blk_frozen BK137.out 0; have hfz55_1 := blk_frozen BK137.out 1; have hfz55_2 := blk_frozen BK137.out 2; have hfz55_3 := blk_frozen BK137.out 3; have hfz55_4 := blk_frozen BK137.out 4; have hfz55_5 := blk_frozen BK137.out 5; have hfz55_6 := blk_frozen BK137.out 6; have hfz55_7 := blk_frozen BK137.out 7; have hfz55_8 := blk_frozen BK137.out 8; have hcz56_0 : w53.cell? ⟨gb138, 0, none⟩ = some (.int .i64 a1_0) := (blk_cell BK138.out 0).trans rfl; have hcz56_1 : w53.cell? ⟨gb138, 1, none⟩ = some (.int .i64 a1_1) := (blk_cell BK138.out 1).trans rfl; have hcz56_2 : w53.cell? ⟨gb138, 2, none⟩ = some (.int .i64 a1_2) := (blk_cell BK138.out 2).trans rfl; have hcz56_3 : w53.cell? ⟨gb138, 3, none⟩ = some (.int .i64 a1_3) := (blk_cell BK138.out 3).trans rfl; have hcz56_4 : w53.cell? ⟨gb138, 4, none⟩ = some (.string a1_4) := (blk_cell BK138.out 4).trans rfl; have hcz56_5 : w53.cell? ⟨gb138, 5, none⟩ = some (.string a1_5) := (blk_cell BK138.out 5).trans rfl; have hcz56_6 : w53.cell? ⟨gb138, 6, none⟩ = some (.string a1_6) := (blk_cell BK138.out 6).trans rfl; have hcz56_7 : w53.cell? ⟨gb138, 7, none⟩ = some (.string a1_7) := (blk_cell BK138.out 7).trans rfl; have hcz56_8 : w53.cell? ⟨gb138, 8, none⟩ = some (.slice A1_8 l1_8.length c1_8) := (blk_cell BK138.out 8).trans rfl; have hfz56_0 := blk_frozen BK138.out 0; have hfz56_1 := blk_frozen BK138.out 1; have hfz56_2 := blk_frozen BK138.out 2; have hfz56_3 := blk_frozen BK138.out 3; have hfz56_4 := blk_frozen BK138.out 4; have hfz56_5 := blk_frozen BK138.out 5; have hfz56_6 := blk_frozen BK138.out 6; have hfz56_7 := blk_frozen BK138.out 7; have hfz56_8 := blk_frozen BK138.out 8))
    go_ret
    exact ⟨by first | rfl | (simp [errW_none, errW_some] <;> first | rfl | exact emp_bne _ | exact (emp_bne _).symm | exact emp_bne' _ | exact (emp_bne' _).symm) | (simp [*, errW_none, errW_some] <;> rfl), by repeat (first | (with_reducible first | exact HB.out | apply below_alloc | apply pw_below_drewN | apply below_drew1 | refine below_set ?_ GE137.out | refine below_set ?_ GE138.out) | exact HB.out)⟩

end Go.Proofs.YtfpijjjmgggfkaaDoor.P26

namespace Go.Proofs.YtfpijjjmgggfkaaDoorE
open Go Go.RowKit Go.Proofs.YtfpijjjmgggfkaaDoorW.PrintWords Go.Proofs.YtfpijjjmgggfkaaDoorX Go.Proofs.YtfpijjjmgggfkaaDoor.P26 Go.Proofs.YtfpijjjmgggfkaaDoor.M02
set_option linter.unusedVariables false
set_option linter.unusedSimpArgs false
/-- An operation's parts are of the language. -/
def okX (x : S42) : Prop := i64 x.f0 ∧ i64 x.f1 ∧ i64 x.f2 ∧ i64 x.f3 ∧ x.f4.size ≤ 140737488351232 ∧ x.f5.size ≤ 140737488351232 ∧ x.f6.size ≤ 140737488351232 ∧ x.f7.size ≤ 140737488351232 ∧ x.f8.length ≤ 140737488351232 ∧ ∀ i : Nat, i < x.f8.length → okA (rd_T44 x.f8 i)
def tgO (x : S42) : Bool := namedS false (B x.f4)
def nmO (x : S42) : Bool := namedS true (B x.f6)
def naO (x : S42) : Nat → Bool := fun i => namedS true (B (rd_T44 x.f8 i).f0)
/-- What is wrong with an operation. -/
def chk (x : S42) : Int := checkO x (tgO x) (nmO x) (naO x)
theorem cko (x : S42) (h : okX x) : CkO x (chk x) := by
  obtain ⟨h0, h1, h2, h3, h4, h5, h6, h7, h8, h9⟩ := h
  have hm : 140737488351232 ≤ maxLen := by unfold maxLen; omega
  exact ⟨⟨h0, h1, h2, h3, Nat.le_trans h4 hm, Nat.le_trans h5 hm, Nat.le_trans h6 hm, Nat.le_trans h7 hm⟩, _, _, _, (tag_ev x.f4 h4).rounds, (name_ev x.f6 h6).rounds, fun i hi => (name_ev _ (h9 i hi).1).rounds, rfl⟩
theorem less_iff (s t : List UInt8) (h : s ≠ t) : Op.bytesLess s t = false ↔ cmpL s t > 0 := by
  rw [← less_cmpL s t]
  cases Op.bytesLess s t <;> simp [h]
theorem attrsN_G (l : List S44) : ∀ d i : Nat, attrsN l (fun i => namedS true (B (rd_T44 l i).f0)) d i = attrsG l d i := by
  intro d
  induction d with
  | zero => intro i; rfl
  | succ d ih =>
    intro i
    unfold attrsN attrsG
    rw [ih (i + 1)]
    by_cases h1 : i = 64
    · rw [if_pos h1, if_pos h1]
    · rw [if_neg h1, if_neg h1]
      by_cases h2 : namedS true (B (rd_T44 l i).f0) = true
      · rw [if_pos h2, if_pos h2]
        by_cases h3 : (rd_T44 l i).f1.size > 65536
        · rw [if_pos h3, if_pos h3]
        · rw [if_neg h3, if_neg h3]
          by_cases h4 : i > 0 ∧ (rd_T44 l (i - 1 : Nat)).f0 = (rd_T44 l i).f0
          · rw [if_pos h4, if_pos ⟨h4.1, by rw [h4.2]⟩]
          · have h4' : ¬ (i > 0 ∧ B (rd_T44 l (i - 1 : Nat)).f0 = B (rd_T44 l i).f0) := fun h => h4 ⟨h.1, B_inj h.2⟩
            rw [if_neg h4, if_neg h4']
            by_cases hi : i > 0
            · have hne : B (rd_T44 l (i - 1 : Nat)).f0 ≠ B (rd_T44 l i).f0 := fun h => h4' ⟨hi, h⟩
              have := less_iff _ _ hne
              rw [toList_B, toList_B]
              by_cases h5 : Op.bytesLess (B (rd_T44 l (i - 1 : Nat)).f0) (B (rd_T44 l i).f0) = false
              · rw [if_pos ⟨hi, h5⟩, if_pos ⟨hi, this.1 h5⟩]
              · rw [if_neg (fun h => h5 h.2), if_neg (fun h => h5 (this.2 h.2))]
            · rw [if_neg (fun h => hi h.1), if_neg (fun h => hi h.1)]
      · rw [if_neg h2, if_neg h2]
theorem toList_nil (s : ByteArray) : s.toList = ([] : List UInt8) ↔ s.size = 0 := by
  rw [toList_B, ← B_len]
  exact List.length_eq_zero_iff.symm
theorem ne7 (s : ByteArray) : (s.toList != ([] : List UInt8)) = decide (s.size ≠ 0) := by
  rw [Bool.eq_iff_iff, bne_iff_ne, decide_eq_true_iff, ne_eq, toList_nil]
set_option maxHeartbeats 2000000 in
theorem none_f (x : S42) (hk : 1 ≤ x.f0 ∧ x.f0 ≤ 7) (k : Nat) : tendrilref25_none.f (k + 1) x.f0 x.f1 x.f2 x.f3 x.f4 x.f5 x.f6 x.f7 x.f8 = some (noneO x) := by
  obtain ⟨f0, f1, f2, f3, f4, f5, f6, f7, f8⟩ := x
  have e8 : ((f8.length : Int) > 0) ↔ f8 ≠ [] := by
    cases f8 with
    | nil => simp
    | cons a b => simp
  have h7 : f0 = 1 ∨ f0 = 2 ∨ f0 = 3 ∨ f0 = 4 ∨ f0 = 5 ∨ f0 = 6 ∨ f0 = 7 := by simp only at hk; omega
  unfold tendrilref25_none.f noneO
  simp only [tendrilref25_none.j0, e8]
  rcases h7 with rfl | rfl | rfl | rfl | rfl | rfl | rfl <;> simp [toList_nil, ne7] <;> (repeat' split) <;> simp_all
theorem over_f (a : Int) : tendrilref25_over.f a = some (overO a) := by
  unfold tendrilref25_over.f overO
  by_cases h : a < 0
  · rw [if_pos h]; simp [h]
  · rw [if_neg h]; simp [h]
theorem rcheck_ev (x : S42) (hx : okX x) : Ev (fun k => tendrilref25_Check.f k x.f0 x.f1 x.f2 x.f3 x.f4 x.f5 x.f6 x.f7 x.f8) (chk x) := by
  obtain ⟨h0, h1, h2, h3, h4, h5, h6, h7, h8, h9⟩ := hx
  have r3 : ∀ b : Bool, Ev (fun k => tendrilref25_Check.j3 k b x.f0 x.f1 x.f2 x.f3 x.f4 x.f5 x.f6 x.f7 x.f8) (if b = true then 8 else if x.f5.size > 65536 ∨ x.f7.size > 65536 then 3 else (attrsN x.f8 (naO x) x.f8.length 0).2) := by
    intro b
    refine Ev.step (f := fun k => if b = true then some 8 else if x.f5.size > 65536 ∨ x.f7.size > 65536 then some 3 else (tendrilref09_Check.f k x.f8).bind fun t => some t.2) (fun k => ?_) ?_
    · simp only [tendrilref25_Check.j3]
      by_cases hb : b = true
      · rw [if_pos hb, if_pos hb]
      · rw [if_neg hb, if_neg hb]
        by_cases a1 : x.f5.size > 65536
        · rw [if_pos (by omega), if_pos (Or.inl a1)]
        · rw [if_neg (by omega)]
          by_cases a2 : x.f7.size > 65536
          · rw [if_pos (by omega), if_pos (Or.inr a2)]
          · rw [if_neg (by omega), if_neg (by omega)]
    · by_cases hb : b = true
      · simp only [if_pos hb]; exact Ev.now _
      · simp only [if_neg hb]
        by_cases a1 : x.f5.size > 65536 ∨ x.f7.size > 65536
        · simp only [if_pos a1]; exact Ev.now _
        · simp only [if_neg a1]
          have ha := attrs_ev x.f8 h9
          unfold attrsS at ha
          rw [← attrsN_G] at ha
          exact Ev.bind ha (Ev.now _)
  have r2 : ∀ b : Bool, Ev (fun k => tendrilref25_Check.j2 k b x.f0 x.f1 x.f2 x.f3 x.f4 x.f5 x.f6 x.f7 x.f8) (if b = true then 7 else if (x.f0 = 5 ∨ x.f0 = 6) ∧ nmO x = false then 8 else if x.f5.size > 65536 ∨ x.f7.size > 65536 then 3 else (attrsN x.f8 (naO x) x.f8.length 0).2) := by
    intro b
    have hn := rnamed_ev x.f6 true h6
    refine Ev.step (f := fun k => if b = true then some 7 else if x.f0 = 5 ∨ x.f0 = 6 then (tendrilref02_Named.f k x.f6 true).bind fun t => tendrilref25_Check.j3 k (!t) x.f0 x.f1 x.f2 x.f3 x.f4 x.f5 x.f6 x.f7 x.f8 else tendrilref25_Check.j3 k false x.f0 x.f1 x.f2 x.f3 x.f4 x.f5 x.f6 x.f7 x.f8) (fun k => ?_) ?_
    · simp only [tendrilref25_Check.j2]
      by_cases hb : b = true
      · rw [if_pos hb, if_pos hb]
      · rw [if_neg hb, if_neg hb]
        by_cases a1 : x.f0 = 5
        · rw [if_pos a1, if_pos (Or.inl a1)]
        · rw [if_neg a1]
          by_cases a2 : x.f0 = 6
          · rw [if_pos a2, if_pos (Or.inr a2)]
          · rw [if_neg a2, if_neg (by omega)]
    · by_cases hb : b = true
      · simp only [if_pos hb]; exact Ev.now _
      · simp only [if_neg hb]
        by_cases a1 : x.f0 = 5 ∨ x.f0 = 6
        · simp only [if_pos a1]
          refine Ev.bind hn ?_
          have hr := r3 (!(nmO x))
          unfold nmO at hr ⊢
          cases hnn : namedS true (B x.f6) with
          | true => rw [hnn] at hr; simpa [a1] using hr
          | false => rw [hnn] at hr; simpa [a1] using hr
        · simp only [if_neg a1]
          have hr := r3 false
          rw [if_neg (by decide)] at hr
          rw [if_neg (fun h => a1 h.1)]
          exact hr
  have r1 : ∀ b : Bool, 1 ≤ x.f0 ∧ x.f0 ≤ 7 → Ev (fun k => tendrilref25_Check.j1 k b x.f0 x.f1 x.f2 x.f3 x.f4 x.f5 x.f6 x.f7 x.f8) (if b = true then 5 else if noneO x = true then 2 else if x.f0 = 1 ∧ tgO x = false then 7 else if (x.f0 = 5 ∨ x.f0 = 6) ∧ nmO x = false then 8 else if x.f5.size > 65536 ∨ x.f7.size > 65536 then 3 else (attrsN x.f8 (naO x) x.f8.length 0).2) := by
    intro b hk
    have hn := rnamed_ev x.f4 false h4
    have ho : Ev (fun k => tendrilref25_none.f k x.f0 x.f1 x.f2 x.f3 x.f4 x.f5 x.f6 x.f7 x.f8) (noneO x) := Ev.step (fun k => none_f x hk k) (Ev.now _)
    refine Ev.step (f := fun k => if b = true then some 5 else (tendrilref25_none.f k x.f0 x.f1 x.f2 x.f3 x.f4 x.f5 x.f6 x.f7 x.f8).bind fun t => if t = true then some 2 else if x.f0 = 1 then (tendrilref02_Named.f k x.f4 false).bind fun t => tendrilref25_Check.j2 k (!t) x.f0 x.f1 x.f2 x.f3 x.f4 x.f5 x.f6 x.f7 x.f8 else tendrilref25_Check.j2 k false x.f0 x.f1 x.f2 x.f3 x.f4 x.f5 x.f6 x.f7 x.f8) (fun k => by simp only [tendrilref25_Check.j1]) ?_
    by_cases hb : b = true
    · simp only [if_pos hb]; exact Ev.now _
    · simp only [if_neg hb]
      refine Ev.bind ho ?_
      by_cases hz : noneO x = true
      · simp only [if_pos hz]; exact Ev.now _
      · simp only [if_neg hz]
        by_cases a1 : x.f0 = 1
        · simp only [if_pos a1]
          refine Ev.bind hn ?_
          have hr := r2 (!(tgO x))
          unfold tgO at hr ⊢
          cases hnn : namedS false (B x.f4) with
          | true => rw [hnn] at hr; simpa [a1] using hr
          | false => rw [hnn] at hr; simpa [a1] using hr
        · simp only [if_neg a1]
          have hr := r2 false
          rw [if_neg (by decide)] at hr
          rw [if_neg (fun h => a1 h.1)]
          exact hr
  have r0 : ∀ b : Bool, (b = false → 1 ≤ x.f0 ∧ x.f0 ≤ 7) → (b = true → x.f0 < 1 ∨ x.f0 > 7) → Ev (fun k => tendrilref25_Check.j0 k b x.f0 x.f1 x.f2 x.f3 x.f4 x.f5 x.f6 x.f7 x.f8) (chk x) := by
    intro b hb0 hb1
    unfold chk checkO
    cases b with
    | true =>
      rw [if_pos (hb1 rfl)]
      exact Ev.step (f := fun _ => some 6) (fun k => by simp only [tendrilref25_Check.j0]; rw [if_pos trivial]) (Ev.now _)
    | false =>
      have hk := hb0 rfl
      rw [if_neg (by omega)]
      have t1 := r1 true hk
      rw [if_pos rfl] at t1
      refine Ev.step (f := fun k => tendrilref25_Check.j1 k (overO x.f1 || overO x.f2 || overO x.f3) x.f0 x.f1 x.f2 x.f3 x.f4 x.f5 x.f6 x.f7 x.f8) (fun k => ?_) ?_
      · simp only [tendrilref25_Check.j0, over_f, Option.bind_some]
        rw [if_neg (by decide)]
        cases overO x.f1 <;> cases overO x.f2 <;> simp
      · have hr := r1 (overO x.f1 || overO x.f2 || overO x.f3) hk
        have : ((overO x.f1 || overO x.f2 || overO x.f3) = true) = (overO x.f1 = true ∨ overO x.f2 = true ∨ overO x.f3 = true) := by rw [Bool.or_eq_true, Bool.or_eq_true, or_assoc]
        simp only [this] at hr
        exact hr
  unfold tendrilref25_Check.f
  by_cases a1 : x.f0 < 1
  · exact Ev.congr (fun k => by rw [if_pos a1]) (r0 true (by intro h; cases h) (fun _ => Or.inl a1))
  · exact Ev.congr (fun k => by rw [if_neg a1]) (r0 (decide (x.f0 > 7)) (fun h => by simp at h; omega) (fun h => by simp at h; omega))
theorem rfirst_l0 (l : List S42) (hn : l.length ≤ 9223372036854775807) (hx : ∀ i : Nat, i < l.length → okX (rd_T42 l i)) : ∀ d i : Nat, i + d = l.length → Ev (fun k => tendrilref25_First.l0 k l (l.length : Int) (i : Int)) (firstN (fun i => chk (rd_T42 l i)) d i) := by
  intro d
  induction d with
  | zero =>
    intro i hi
    refine Ev.step (f := fun _ => some ((0 : Int), (0 : Int))) (fun k => ?_) (Ev.now _)
    simp only [tendrilref25_First.l0]; rw [if_neg (by omega)]
  | succ d ih =>
    intro i hi
    unfold firstN
    by_cases h1 : i = 1048576
    · rw [if_pos h1]
      refine Ev.step (f := fun _ => some ((i : Int), (12 : Int))) (fun k => ?_) (Ev.now _)
      simp only [tendrilref25_First.l0]; rw [if_pos (by omega), if_pos (by omega)]
    · rw [if_neg h1]
      have e1 : wrap64 ((i : Int) + 1) = ((i + 1 : Nat) : Int) := by unfold wrap64; omega
      refine Ev.step (f := fun k => (tendrilref25_Check.f k (rd_T42 l i).f0 (rd_T42 l i).f1 (rd_T42 l i).f2 (rd_T42 l i).f3 (rd_T42 l i).f4 (rd_T42 l i).f5 (rd_T42 l i).f6 (rd_T42 l i).f7 (rd_T42 l i).f8).bind fun t => if t = 0 then tendrilref25_First.l0 k l (l.length : Int) ((i + 1 : Nat) : Int) else some ((i : Int), t)) (fun k => ?_) (Ev.bind (rcheck_ev _ (hx i (by omega))) ?_)
      · simp only [tendrilref25_First.l0]
        rw [if_pos (by omega), if_neg (by omega), if_pos (by omega), if_pos (by omega), e1]
      · by_cases hz : chk (rd_T42 l i) = 0
        · simp only [if_pos hz]; exact ih (i + 1) (by omega)
        · simp only [if_neg hz]; exact Ev.now _
/-- What ops.First and its reference answer. -/
def firstS (l : List S42) : Int × Int := firstN (fun i => chk (rd_T42 l i)) l.length 0
theorem rfirst_ev (l : List S42) (hn : l.length ≤ 9223372036854775807) (hx : ∀ i : Nat, i < l.length → okX (rd_T42 l i)) : Ev (fun k => tendrilref25_First.f k l) (firstS l) := rfirst_l0 l hn hx l.length 0 (by omega)
theorem First_o (A : Option Addr) (c : Nat) (l : List S42) (w : World) (hgl : GL w) (hl : Kd.C k42 w A l.length l) (hc : l.length ≤ c) (hx : ∀ i : Nat, i < l.length → okX (rd_T42 l i)) :
    Calls Tryd.prog 15 #[.slice A l.length c] w fun e w' => e = .returned (.tuple #[.int .i64 (firstS l).1, .int .i64 (firstS l).2]) ∧ Below w.heap.size w w' :=
  First_c A c l _ w hgl hl hc fun i hi => cko _ (hx i hi)
theorem Check_x (x : S42) (A : Option Addr) (c : Nat) (w : World) (hgl : GL w) (hl : Kd.C k44 w A x.f8.length x.f8) (hc : x.f8.length ≤ c) (hx : okX x) :
    Calls Tryd.prog 28 #[opOf x A c] w fun e w' => e = .returned (.int .i64 (chk x)) ∧ Below w.heap.size w w' := Check_o x _ A c w hgl hl hc (cko x hx)
end Go.Proofs.YtfpijjjmgggfkaaDoorE

namespace Go.Proofs.YtfpijjjmgggfkaaDoor.L01
open Go Go.RowKit Go.Proofs.YtfpijjjmgggfkaaDoor.P01 Go.Proofs.YtfpijjjmgggfkaaDoorW.PrintWords Go.Proofs.YtfpijjjmgggfkaaDoorW.PrintLast Go.Proofs.YtfpijjjmgggfkaaDoorW.PrintMore

theorem w64 {n : Int} (h0 : -9223372036854775808 ≤ n) (h1 : n ≤ 9223372036854775807) : wrap64 n = n := by unfold wrap64; omega
theorem wrap_u64 (n : Int) : IntKind.u64.wrap n = n % 18446744073709551616 := by simp [IntKind.wrap, IntKind.bits, IntKind.signed]
theorem wu64 {n : Int} (h0 : 0 ≤ n) (h1 : n < 18446744073709551616) : IntKind.u64.wrap n = n := by rw [wrap_u64]; omega
theorem or128 : ∀ a : Nat, a < 256 → (a ||| 128) = a % 128 + 128 := by decide +kernel
theorem or_u8 {x : Int} (h : 0 ≤ x) : Go.bits .or .u8 (x % 256) 128 = x % 128 + 128 := by
  obtain ⟨a, rfl⟩ := Int.eq_ofNat_of_zero_le h
  have h1 : ((a : Int) % 256) = ((a % 256 : Nat) : Int) := by omega
  rw [h1, show (128 : Int) = ((128 : Nat) : Int) from rfl, (bits_nat .u8 8 (by decide) wraps_u8 (a % 256) 128 (by omega) (by omega)).2, or128 _ (by omega)]
  omega
theorem wraps_u64 (n : Int) (h0 : 0 ≤ n) (h1 : n < 2 ^ 64) : IntKind.u64.wrap n = n := wu64 h0 (by simpa using h1)
theorem or_shl {i : Nat} (hi : i ≤ 9) {acc c : Int} (h0 : 0 ≤ acc) (h1 : acc < 2 ^ (7 * i)) (hc0 : 0 ≤ c) (hc1 : c * 2 ^ (7 * i) < 18446744073709551616) :
    Go.bits .or .u64 acc (shl .u64 c ((7 * i : Nat) : Int)) = acc + c * 2 ^ (7 * i) := by
  obtain ⟨a, rfl⟩ := Int.eq_ofNat_of_zero_le h0
  obtain ⟨b, rfl⟩ := Int.eq_ofNat_of_zero_le hc0
  have ha : a < 2 ^ (7 * i) := by exact_mod_cast h1
  have hb : b * 2 ^ (7 * i) < 2 ^ 64 := by
    have : ((b * 2 ^ (7 * i) : Nat) : Int) < 18446744073709551616 := by simpa using hc1
    have h2 : (2 ^ 64 : Nat) = 18446744073709551616 := by decide
    omega
  have hp : (2 : Nat) ^ (7 * i) ≤ 2 ^ 64 := Nat.pow_le_pow_right (by decide) (by omega)
  have hs : shl .u64 ((b : Nat) : Int) ((7 * i : Nat) : Int) = ((b * 2 ^ (7 * i) : Nat) : Int) := by
    unfold shl
    rw [show min (((7 * i : Nat) : Int).toNat) (IntKind.u64.bits) = 7 * i from by rw [Int.toNat_natCast]; exact Nat.min_eq_left (by show 7 * i ≤ 64; omega)]
    rw [wu64 (by exact Int.mul_nonneg (by omega) (Int.pow_nonneg (by decide))) hc1]
    simp
  rw [hs, (bits_nat .u64 64 (by decide) wraps_u64 a (b * 2 ^ (7 * i)) (by omega) hb).2, Nat.or_comm, Nat.mul_comm b, ← Nat.two_pow_add_eq_or_of_lt ha]
  simp
  rw [Int.mul_comm, Int.add_comm]

/-- The number with which bytes begin, from index i on: the number, its bytes, the error. -/
def takeS (i : Nat) : List Int → Int × Int × Int
  | [] => if i = 10 then (0, 0, 3) else (0, 0, 4)
  | c :: t => if i = 10 then (0, 0, 3) else if c ≥ 128 then (if (takeS (i + 1) t).2.2 = 0 then (c - 128 + 128 * (takeS (i + 1) t).1, (takeS (i + 1) t).2.1 + 1, 0) else (0, 0, (takeS (i + 1) t).2.2))
    else if i = 9 ∧ c > 1 then (0, 0, 5) else if i > 0 ∧ c = 0 then (0, 0, 2) else (c, 1, 0)
/-- A number's bytes. -/
def enc (n : Nat) : List Int := if n < 128 then [(n : Int)] else ((n % 128 + 128 : Nat) : Int) :: enc (n / 128)
termination_by n
decreasing_by omega

def Bytes (l : List Int) : Prop := ∀ x ∈ l, 0 ≤ x ∧ x ≤ 255
theorem Bytes.drop {l : List Int} (h : Bytes l) (n : Nat) : Bytes (l.drop n) := fun x hx => h x (List.mem_of_mem_drop hx)
theorem Bytes.at {l : List Int} (h : Bytes l) {i : Nat} (hi : i < l.length) : 0 ≤ l[i] ∧ l[i] ≤ 255 := h _ (List.getElem_mem hi)
theorem rd_nat {l : List Int} {i : Nat} (hi : i < l.length) : rd l (i : Int) = l[i] := by
  unfold rd; rw [Int.toNat_natCast]; simp [List.getD_eq_getElem?_getD, List.getElem?_eq_getElem hi]
theorem takeS10 (l : List Int) : takeS 10 l = (0, 0, 3) := by cases l <;> simp [takeS]
theorem pow7 (i : Nat) : (2 : Int) ^ (7 * (i + 1)) = 128 * 2 ^ (7 * i) := by
  rw [Nat.mul_add, Int.pow_add]; simp [Int.mul_comm]
theorem pow_pos7 (i : Nat) : (0 : Int) < 2 ^ (7 * i) := Int.pow_pos (by decide)
theorem p7le {i : Nat} (hi : i ≤ 8) : (2 : Int) ^ (7 * i) ≤ 72057594037927936 := by
  have : (2 : Nat) ^ (7 * i) ≤ 2 ^ 56 := Nat.pow_le_pow_right (by decide) (by omega)
  have h2 : (((2 : Nat) ^ (7 * i) : Nat) : Int) ≤ ((2 ^ 56 : Nat) : Int) := by exact_mod_cast this
  simpa using h2

/-- What a reading that began ahead comes to. -/
def fin (i : Nat) (acc : Int) (r : Int × Int × Int) : Int × Int × Int := if r.2.2 = 0 then (acc + r.1 * 2 ^ (7 * i), r.2.1 + i, 0) else (0, 0, r.2.2)

theorem take_l0 (l : List Int) (hl : Bytes l) (d : Nat) : ∀ (i : Nat) (acc : Int), i + d = 10 → i ≤ l.length → 0 ≤ acc → (i ≤ 9 → acc < 2 ^ (7 * i)) →
    Ev (fun k => octet_Take.l0 k l acc (i : Int)) (fin i acc (takeS i (l.drop i))) := by
  induction d with
  | zero =>
    intro i acc hi _ _ _
    obtain rfl : i = 10 := by omega
    rw [takeS10]
    refine Ev.step (f := fun _ => some (0, 0, 3)) (fun k => ?_) (Ev.now _)
    simp only [octet_Take.l0]; rw [if_neg (by omega)]
  | succ d ih =>
    intro i acc hi hil h0 h1
    have h1 := h1 (by omega)
    by_cases he : i = l.length
    · subst he
      rw [List.drop_length]
      refine Ev.step (f := fun _ => some (0, 0, 4)) (fun k => ?_) ?_
      · simp only [octet_Take.l0]; rw [if_pos (by omega), if_pos trivial]
      · simp only [takeS]; rw [if_neg (by omega)]; exact Ev.now _
    · have hlt : i < l.length := by omega
      have hb := hl.at hlt
      rw [List.drop_eq_getElem_cons hlt]
      have e1 : wrap64 (7 * (i : Int)) = ((7 * i : Nat) : Int) := by rw [w64 (by omega) (by omega)]; omega
      have e2 : wrap64 ((i : Int) + 1) = ((i + 1 : Nat) : Int) := by rw [w64 (by omega) (by omega)]; omega
      by_cases hc : l[i] ≥ 128
      · have e3 : (l[i] - 128) % 256 = l[i] - 128 := by omega
        refine Ev.step (f := fun k => octet_Take.l0 k l (Go.bits .or .u64 acc (shl .u64 (l[i] - 128) ((7 * i : Nat) : Int))) ((i + 1 : Nat) : Int)) (fun k => ?_) ?_
        · simp only [octet_Take.l0]
          rw [if_pos (by omega), if_neg (by omega), if_pos (by omega), if_pos (by omega), rd_nat hlt, if_pos hc, e1, if_pos (by omega), e2, e3]
        · have key : ∀ acc', 0 ≤ acc' → (i + 1 ≤ 9 → acc' = acc + (l[i] - 128) * 2 ^ (7 * i)) → Ev (fun k => octet_Take.l0 k l acc' ((i + 1 : Nat) : Int)) (fin i acc (takeS i (l[i] :: l.drop (i + 1)))) := by
            intro acc' ha0 ha
            have := ih (i + 1) acc' (by omega) (by omega) ha0 (fun h9 => by
              rw [ha h9, pow7]
              have : (l[i] - 128) * 2 ^ (7 * i) ≤ 127 * 2 ^ (7 * i) := Int.mul_le_mul_of_nonneg_right (by omega) (Int.le_of_lt (pow_pos7 i))
              omega)
            have hr : fin (i + 1) acc' (takeS (i + 1) (l.drop (i + 1))) = fin i acc (takeS i (l[i] :: l.drop (i + 1))) := by
              simp only [takeS]
              rw [if_neg (show ¬ i = 10 by omega), if_pos hc]
              by_cases h9 : i + 1 ≤ 9
              · rw [ha h9]
                unfold fin
                by_cases hz : (takeS (i + 1) (l.drop (i + 1))).2.2 = 0
                · rw [if_pos hz, if_pos hz, if_pos rfl, pow7]
                  refine Prod.ext ?_ (Prod.ext ?_ rfl)
                  · simp only; grind
                  · simp only; omega
                · rw [if_neg hz, if_neg hz, if_neg hz]
              · obtain rfl : i = 9 := by omega
                rw [takeS10]; simp [fin]
            rw [← hr]; exact this
          by_cases h9 : i + 1 ≤ 9
          · rw [or_shl (by omega) h0 h1 (by omega) (by
              have h2 := p7le (show i ≤ 8 by omega)
              have h3 : (l[i] - 128) * 2 ^ (7 * i) ≤ 127 * 2 ^ (7 * i) := Int.mul_le_mul_of_nonneg_right (by omega) (Int.le_of_lt (pow_pos7 i))
              omega)]
            refine key _ ?_ (fun _ => rfl)
            have := Int.mul_nonneg (show 0 ≤ l[i] - 128 by omega) (Int.le_of_lt (pow_pos7 i))
            omega
          · refine key _ ?_ (fun h => absurd h h9)
            unfold Go.bits
            simp only [wrap_u64]
            omega
      · have hlow : l[i] < 128 := by omega
        have e4 : IntKind.u64.wrap l[i] = l[i] := wu64 (by omega) (by omega)
        have htk : takeS i (l[i] :: l.drop (i + 1)) = if i = 9 ∧ l[i] > 1 then (0, 0, 5) else if i > 0 ∧ l[i] = 0 then (0, 0, 2) else (l[i], 1, 0) := by
          simp only [takeS]; rw [if_neg (show ¬ i = 10 by omega), if_neg hc]
        rw [htk]
        have hj : ∀ b : Bool, (b = true ↔ i = 9 ∧ l[i] > 1) → Ev (fun k => octet_Take.j1 k acc (i : Int) l[i] b) (fin i acc (if i = 9 ∧ l[i] > 1 then (0, 0, 5) else if i > 0 ∧ l[i] = 0 then (0, 0, 2) else (l[i], 1, 0))) := by
          intro b hb'
          by_cases h5 : i = 9 ∧ l[i] > 1
          · rw [if_pos h5]
            refine Ev.step (f := fun _ => some (0, 0, 5)) (fun k => ?_) (Ev.now _)
            simp only [octet_Take.j1]; rw [if_pos (hb'.2 h5)]
          · rw [if_neg h5]
            have hbf : ¬ b = true := fun h => h5 (hb'.1 h)
            by_cases h2 : i > 0 ∧ l[i] = 0
            · rw [if_pos h2]
              refine Ev.step (f := fun _ => some (0, 0, 2)) (fun k => ?_) (Ev.now _)
              simp only [octet_Take.j1]; rw [if_neg hbf, if_pos (by omega), if_pos h2.2]
            · rw [if_neg h2]
              have hv : Go.bits .or .u64 acc (shl .u64 l[i] ((7 * i : Nat) : Int)) = acc + l[i] * 2 ^ (7 * i) := by
                refine or_shl (by omega) h0 h1 (by omega) ?_
                by_cases h9 : i = 9
                · subst h9
                  have : l[9] ≤ 1 := by omega
                  have : l[9] = 0 ∨ l[9] = 1 := by omega
                  rcases this with h | h <;> rw [h] <;> decide
                · have h2 := p7le (show i ≤ 8 by omega)
                  have h3 : l[i] * 2 ^ (7 * i) ≤ 127 * 2 ^ (7 * i) := Int.mul_le_mul_of_nonneg_right (by omega) (Int.le_of_lt (pow_pos7 i))
                  omega
              refine Ev.step (f := fun _ => some (acc + l[i] * 2 ^ (7 * i), 1 + (i : Int), 0)) (fun k => ?_) (by simpa [fin] using Ev.now _)
              simp only [octet_Take.j1]; rw [if_neg hbf, e1, e2, e4, hv]
              have e5 : ((i + 1 : Nat) : Int) = 1 + (i : Int) := by omega
              rw [e5]
              by_cases hi0 : (i : Int) > 0
              · rw [if_pos hi0, if_neg (by omega), if_pos (by omega)]
              · rw [if_neg hi0, if_pos (by omega)]
        by_cases h9 : i = 9
        · refine Ev.step (f := fun k => octet_Take.j1 k acc (i : Int) l[i] (decide (l[i] > 1))) (fun k => ?_) (hj (decide (l[i] > 1)) (by simp only [decide_eq_true_eq]; omega))
          simp only [octet_Take.l0]
          rw [if_pos (by omega), if_neg (by omega), if_pos (by omega), if_pos (by omega), rd_nat hlt, if_neg hc, if_pos (by omega)]
        · refine Ev.step (f := fun k => octet_Take.j1 k acc (i : Int) l[i] false) (fun k => ?_) (hj false (by simp [h9]))
          simp only [octet_Take.l0]
          rw [if_pos (by omega), if_neg (by omega), if_pos (by omega), if_pos (by omega), rd_nat hlt, if_neg hc, if_neg (by omega)]

theorem fin0 (r : Int × Int × Int) (h : r.2.2 ≠ 0 → r = (0, 0, r.2.2)) : fin 0 0 r = r := by
  unfold fin
  by_cases hz : r.2.2 = 0
  · rw [if_pos hz]; refine Prod.ext ?_ (Prod.ext ?_ ?_) <;> simp [hz]
  · rw [if_neg hz, ← h hz]
theorem takeS_err (i : Nat) (l : List Int) (h : (takeS i l).2.2 ≠ 0) : takeS i l = (0, 0, (takeS i l).2.2) := by
  cases l with
  | nil => simp only [takeS] at *; split <;> rfl
  | cons c t =>
    simp only [takeS] at *
    repeat' split
    all_goals first | rfl | (exfalso; simp_all; done)
/-- What Take comes to. -/
theorem take_ev (l : List Int) (hl : Bytes l) : Ev (fun k => octet_Take.f k l) (takeS 0 l) := by
  have := take_l0 l hl 10 0 0 (by omega) (by omega) (by omega) (by simp)
  rw [List.drop_zero, fin0 _ (takeS_err 0 l)] at this
  exact this

theorem enc_lt {n : Nat} (h : n < 128) : enc n = [(n : Int)] := by rw [enc, if_pos h]
theorem enc_ge {n : Nat} (h : 128 ≤ n) : enc n = ((n % 128 + 128 : Nat) : Int) :: enc (n / 128) := by rw [enc, if_neg (by omega)]
theorem enc_pos (n : Nat) : 0 < (enc n).length := by
  by_cases h : n < 128
  · rw [enc_lt h]; simp
  · rw [enc_ge (by omega)]; simp
theorem enc_len : ∀ (m n : Nat), n < 128 ^ m → (m = 1 ∨ 128 ^ (m - 1) ≤ n) → 0 < m → (enc n).length = m
  | 0, _, _, _, h => by omega
  | 1, n, h, _, _ => by rw [enc_lt (by simpa using h)]; rfl
  | m + 2, n, h, h1, _ => by
    have hp : 0 < 128 ^ m := Nat.pow_pos (by decide)
    have h1 : 128 ^ (m + 1) ≤ n := by rcases h1 with h1 | h1 <;> simp at h1 ⊢; exact h1
    have h2 : 128 ^ (m + 1) = 128 * 128 ^ m := by rw [Nat.pow_succ, Nat.mul_comm]
    have h3 : 128 ^ (m + 2) = 128 * 128 ^ (m + 1) := by rw [Nat.pow_succ, Nat.mul_comm]
    rw [enc_ge (by omega), List.length_cons, enc_len (m + 1) (n / 128) (by omega) (.inr (by simp; omega)) (by omega)]
theorem enc_bytes (n : Nat) : Bytes (enc n) := by
  induction n using Nat.strongRecOn with
  | _ n ih =>
    by_cases h : n < 128
    · rw [enc_lt h]; intro x hx; simp at hx; omega
    · rw [enc_ge (by omega)]
      intro x hx
      rcases List.mem_cons.1 hx with rfl | hx
      · omega
      · exact ih _ (by omega) x hx
theorem enc_le10 {n : Nat} (h : n < 18446744073709551616) : (enc n).length ≤ 10 := by
  have key : ∀ (m n : Nat), n < 128 ^ (m + 1) → (enc n).length ≤ m + 1 := by
    intro m
    induction m with
    | zero => intro n h; rw [enc_lt (by simpa using h)]; simp
    | succ m ih =>
      intro n h
      by_cases h1 : n < 128
      · rw [enc_lt h1]; simp
      · rw [enc_ge (by omega), List.length_cons]
        have h3 : 128 ^ (m + 1 + 1) = 128 * 128 ^ (m + 1) := by rw [Nat.pow_succ, Nat.mul_comm]
        have := ih (n / 128) (by omega)
        omega
  exact key 9 n (Nat.lt_of_lt_of_le h (by decide))
/-- What was put is taken, whatever stands behind. -/
theorem takeS_enc (rest : List Int) : ∀ (m i n : Nat), i + m = 10 → n < 2 ^ (64 - 7 * i) → (0 < i → 0 < n) → 0 < m → takeS i (enc n ++ rest) = ((n : Int), ((enc n).length : Int), 0)
  | 0, _, _, _, _, _, h => by omega
  | m + 1, i, n, him, h, h0, _ => by
    by_cases h1 : n < 128
    · rw [enc_lt h1]
      simp only [List.singleton_append, takeS, List.length_singleton]
      rw [if_neg (by omega), if_neg (by omega), if_neg, if_neg (by omega)]
      · rfl
      · rintro ⟨rfl, h2⟩
        have : n < 2 := by simpa using h
        omega
    · rw [enc_ge (by omega)]
      have hi : i ≤ 8 := by
        rcases Nat.lt_or_ge i 9 with h9 | h9
        · omega
        · have h10 : (2 : Nat) ^ (64 - 7 * i) ≤ 2 ^ 1 := Nat.pow_le_pow_right (by decide) (by omega)
          omega
      have hp : (2 : Nat) ^ (64 - 7 * i) = 128 * 2 ^ (64 - 7 * (i + 1)) := by
        rw [show 64 - 7 * i = 7 + (64 - 7 * (i + 1)) by omega, Nat.pow_add]
      have ih := takeS_enc rest m (i + 1) (n / 128) (by omega) (by omega) (fun _ => by omega) (by omega)
      simp only [List.cons_append, takeS]
      rw [if_neg (by omega), if_pos (by omega), ih, if_pos rfl]
      refine Prod.ext ?_ (Prod.ext ?_ rfl)
      · simp only; omega
      · simp only [List.length_cons]; omega
theorem takeS_put {n : Nat} (h : n < 18446744073709551616) (rest : List Int) : takeS 0 (enc n ++ rest) = ((n : Int), ((enc n).length : Int), 0) :=
  takeS_enc rest 10 0 n rfl (by simpa using h) (by omega) (by omega)
/-- No other bytes are taken. -/
theorem takeS_only : ∀ (l : List Int) (i : Nat), Bytes l → i ≤ 10 → (takeS i l).2.2 = 0 → ∃ n j : Nat, takeS i l = ((n : Int), (j : Int), 0) ∧ n < 2 ^ (64 - 7 * i) ∧ (0 < i → 0 < n) ∧ enc n = l.take j ∧ 0 < j ∧ j ≤ l.length
  | [], i, _, _, h => by simp only [takeS] at h; split at h <;> simp at h
  | c :: t, i, hb, hi, h => by
    have hc := hb c (List.mem_cons_self ..)
    have ht : Bytes t := fun x hx => hb x (List.mem_cons_of_mem _ hx)
    simp only [takeS] at h ⊢
    by_cases h10 : i = 10
    · rw [if_pos h10] at h; simp at h
    rw [if_neg h10] at h ⊢
    by_cases h1 : c ≥ 128
    · rw [if_pos h1] at h ⊢
      by_cases hz : (takeS (i + 1) t).2.2 = 0
      · rw [if_pos hz]
        obtain ⟨n, j, e, hn, hp, he, hj0, hj1⟩ := takeS_only t (i + 1) ht (by omega) hz
        have hi9 : i ≤ 8 := by
          rcases Nat.lt_or_ge i 9 with h9 | h9
          · omega
          · obtain rfl : i = 9 := by omega
            rw [takeS10] at hz; simp at hz
        have hpw : (2 : Nat) ^ (64 - 7 * i) = 128 * 2 ^ (64 - 7 * (i + 1)) := by
          rw [show 64 - 7 * i = 7 + (64 - 7 * (i + 1)) by omega, Nat.pow_add]
        obtain ⟨q, rfl⟩ := Int.eq_ofNat_of_zero_le hc.1
        rw [e]
        refine ⟨q - 128 + 128 * n, j + 1, ?_, by omega, fun _ => by have := hp (by omega); omega, ?_, by omega, by simp; omega⟩
        · refine Prod.ext ?_ (Prod.ext ?_ rfl)
          · simp only; omega
          · simp only; omega
        · have := hp (by omega)
          rw [enc_ge (by omega), List.take_succ_cons, ← he, show (q - 128 + 128 * n) / 128 = n by omega, show (q - 128 + 128 * n) % 128 + 128 = q by omega]
      · rw [if_neg hz] at h; exact absurd h hz
    · rw [if_neg h1] at h ⊢
      by_cases h5 : i = 9 ∧ c > 1
      · rw [if_pos h5] at h; simp at h
      rw [if_neg h5] at h ⊢
      by_cases h2 : i > 0 ∧ c = 0
      · rw [if_pos h2] at h; simp at h
      rw [if_neg h2]
      obtain ⟨q, rfl⟩ := Int.eq_ofNat_of_zero_le hc.1
      refine ⟨q, 1, rfl, ?_, by omega, ?_, by omega, by simp⟩
      · rcases Nat.lt_or_ge i 9 with h9 | h9
        · have h10 : (2 : Nat) ^ 8 ≤ 2 ^ (64 - 7 * i) := Nat.pow_le_pow_right (by decide) (by omega)
          omega
        · obtain rfl : i = 9 := by omega
          simp; omega
      · rw [enc_lt (by omega)]; simp

theorem put_l1 (x9 : List Int) (x10 x11 : Int) (r : List Int) (n : Nat) : ∀ (acc : List Int), acc.length + (enc n).length ≤ 140737488355328 → n < 18446744073709551616 →
    Ev (fun k => octet_Put.l0 k (acc ++ enc n) x9 x10 (wrap64 (x11 + 1))) r → Ev (fun k => octet_Put.l1 k acc (n : Int) x9 x10 x11) r := by
  induction n using Nat.strongRecOn with
  | _ n ih =>
    intro acc hlen hn h
    by_cases h1 : n < 128
    · rw [enc_lt h1] at h hlen
      simp only [List.length_singleton] at hlen
      refine Ev.step (fun k => ?_) h
      simp only [octet_Put.l1]
      rw [if_neg (by omega), if_pos (by omega), show (n : Int) % 256 = n by omega]
    · rw [enc_ge (by omega)] at h hlen
      simp only [List.length_cons] at hlen
      refine Ev.step (f := fun k => octet_Put.l1 k (acc ++ [((n % 128 + 128 : Nat) : Int)]) ((n / 128 : Nat) : Int) x9 x10 x11) (fun k => ?_) (ih (n / 128) (by omega) _ (by simp; omega) (by omega) (by simpa using h))
      simp only [octet_Put.l1]
      rw [if_pos (by omega), if_pos (by have := enc_pos (n / 128); omega), or_u8 (by omega), show (n : Int) / 128 = ((n / 128 : Nat) : Int) by omega, show (n : Int) % 128 + 128 = ((n % 128 + 128 : Nat) : Int) by omega]
def Nums (l : List Int) : Prop := ∀ x ∈ l, 0 ≤ x ∧ x < 18446744073709551616
def encs (l : List Int) : List Int := l.flatMap (fun x => enc x.toNat)
theorem Nums.at {l : List Int} (h : Nums l) {i : Nat} (hi : i < l.length) : 0 ≤ l[i] ∧ l[i] < 18446744073709551616 := h _ (List.getElem_mem hi)
theorem encs_cons (x : Int) (t : List Int) : encs (x :: t) = enc x.toNat ++ encs t := by simp [encs]
theorem encs_bytes (l : List Int) : Bytes (encs l) := by
  intro x hx
  obtain ⟨y, _, hy⟩ := List.mem_flatMap.1 hx
  exact enc_bytes _ x hy
theorem encs_len {l : List Int} (h : Nums l) : (encs l).length ≤ 10 * l.length := by
  induction l with
  | nil => simp [encs]
  | cons x t ih =>
    have h1 := enc_le10 (n := x.toNat) (by have := h x (List.mem_cons_self ..); omega)
    have h2 := ih (fun y hy => h y (List.mem_cons_of_mem _ hy))
    simp only [encs, List.flatMap_cons, List.length_append, List.length_cons] at *
    omega
theorem put_l0 (l : List Int) (hl : Nums l) (hn : l.length ≤ 1000000000000) (d : Nat) : ∀ (i : Nat) (acc : List Int), i + d = l.length → acc.length + 10 * d ≤ 140737488355328 →
    Ev (fun k => octet_Put.l0 k acc l (l.length : Int) (i : Int)) (acc ++ encs (l.drop i)) := by
  induction d with
  | zero =>
    intro i acc hi _
    obtain rfl : i = l.length := by omega
    rw [List.drop_length]
    refine Ev.step (f := fun _ => some acc) (fun k => ?_) (by simpa [encs] using Ev.now acc)
    simp only [octet_Put.l0]; rw [if_neg (by omega)]
  | succ d ih =>
    intro i acc hi hb
    have hlt : i < l.length := by omega
    have hx := hl.at hlt
    have h10 := enc_le10 (n := l[i].toNat) (by omega)
    have e2 : wrap64 ((i : Int) + 1) = ((i + 1 : Nat) : Int) := by rw [w64 (by omega) (by omega)]; omega
    have := ih (i + 1) (acc ++ enc l[i].toNat) (by omega) (by simp; omega)
    refine Ev.step (f := fun k => octet_Put.l1 k acc ((l[i].toNat : Nat) : Int) l (l.length : Int) (i : Int)) (fun k => ?_) (put_l1 l _ _ _ l[i].toNat acc (by omega) (by omega) ?_)
    · simp only [octet_Put.l0]
      rw [if_pos (by omega), if_pos (by omega), if_pos (by omega), rd_nat hlt, Int.toNat_of_nonneg hx.1]
    · rw [e2, List.drop_eq_getElem_cons hlt, encs_cons, ← List.append_assoc]
      exact this

def T8 : ByteArray := ⟨#[0,1,2,2,3,3,3,3,4,4,4,4,4,4,4,4,5,5,5,5,5,5,5,5,5,5,5,5,5,5,5,5,6,6,6,6,6,6,6,6,6,6,6,6,6,6,6,6,6,6,6,6,6,6,6,6,6,6,6,6,6,6,6,6,7,7,7,7,7,7,7,7,7,7,7,7,7,7,7,7,7,7,7,7,7,7,7,7,7,7,7,7,7,7,7,7,7,7,7,7,7,7,7,7,7,7,7,7,7,7,7,7,7,7,7,7,7,7,7,7,7,7,7,7,7,7,7,7,8,8,8,8,8,8,8,8,8,8,8,8,8,8,8,8,8,8,8,8,8,8,8,8,8,8,8,8,8,8,8,8,8,8,8,8,8,8,8,8,8,8,8,8,8,8,8,8,8,8,8,8,8,8,8,8,8,8,8,8,8,8,8,8,8,8,8,8,8,8,8,8,8,8,8,8,8,8,8,8,8,8,8,8,8,8,8,8,8,8,8,8,8,8,8,8,8,8,8,8,8,8,8,8,8,8,8,8,8,8,8,8,8,8,8,8,8,8,8,8,8,8,8,8,8,8,8,8]⟩
theorem t8 : ∀ i : Nat, i < 256 → (i = 0 ∧ bt T8 i = 0) ∨ ∃ L : Nat, bt T8 i = L ∧ 1 ≤ L ∧ L ≤ 8 ∧ 2 ^ (L - 1) ≤ i ∧ i < 2 ^ L := by
  intro i hi
  have key : ∀ i : Fin 256, (i.val = 0 ∧ bt T8 i.val = 0) ∨ ∃ L : Fin 9, bt T8 i.val = L.val ∧ 1 ≤ L.val ∧ L.val ≤ 8 ∧ 2 ^ (L.val - 1) ≤ i.val ∧ i.val < 2 ^ L.val := by decide +kernel
  rcases key ⟨i, hi⟩ with h | ⟨L, h⟩
  · exact .inl h
  · exact .inr ⟨L.val, h⟩
/-- L is how many binary digits n has. -/
def IsLen (n L : Nat) : Prop := (n = 0 ∧ L = 0) ∨ (1 ≤ L ∧ 2 ^ (L - 1) ≤ n ∧ n < 2 ^ L)
theorem isLen_up {n s L : Nat} (h : 1 ≤ L) (h1 : 2 ^ (L - 1) ≤ n / 2 ^ s) (h2 : n / 2 ^ s < 2 ^ L) : IsLen n (s + L) := by
  refine .inr ⟨by omega, ?_, ?_⟩
  · have := (Nat.le_div_iff_mul_le (Nat.pow_pos (by decide))).1 h1
    rw [← Nat.pow_add] at this
    rwa [show s + L - 1 = L - 1 + s by omega]
  · have := (Nat.div_lt_iff_lt_mul (Nat.pow_pos (by decide))).1 h2
    rw [← Nat.pow_add] at this
    rwa [Nat.add_comm]
set_option maxRecDepth 100000 in
theorem len_j0 (n : Nat) (hn : n < 4294967296) (b : Nat) (hb : b ≤ 32) : ∃ L : Nat, L ≤ 32 ∧ IsLen n L ∧ Ev (fun k => bits_Len64.j0 k (n : Int) (b : Int)) ((b + L : Nat) : Int) := by
  by_cases h1 : n ≥ 65536
  · by_cases h2 : n / 65536 ≥ 256
    · have e : ((((n : Int) / 65536) / 256) % 256) = ((n / 2 ^ 24 : Nat) : Int) := by omega
      rcases t8 (n / 2 ^ 24) (by omega) with h | ⟨L, hb8, hL, hL8, h3, h4⟩
      · omega
      · refine ⟨24 + L, by omega, isLen_up hL h3 h4, Ev.step (f := fun _ => some ((b + (24 + L) : Nat) : Int)) (fun k => ?_) (Ev.now _)⟩
        rw [bits_Len64.j0.eq_2]
        rw [if_pos (by omega), if_pos (by omega), if_pos (by omega), if_pos (by omega), e]
        show some (wrap64 (wrap64 (wrap64 ((b : Int) + 16) + 8) + wrap64 (bt T8 ((n / 2 ^ 24 : Nat) : Int)))) = _
        rw [hb8, w64 (n := (b : Int) + 16) (by omega) (by omega), w64 (n := (b : Int) + 16 + 8) (by omega) (by omega), w64 (n := (L : Int)) (by omega) (by omega), w64 (by omega) (by omega)]
        congr 1; omega
    · have e : (((n : Int) / 65536) % 256) = ((n / 2 ^ 16 : Nat) : Int) := by omega
      rcases t8 (n / 2 ^ 16) (by omega) with h | ⟨L, hb8, hL, hL8, h3, h4⟩
      · omega
      · refine ⟨16 + L, by omega, isLen_up hL h3 h4, Ev.step (f := fun _ => some ((b + (16 + L) : Nat) : Int)) (fun k => ?_) (Ev.now _)⟩
        rw [bits_Len64.j0.eq_2]
        rw [if_pos (by omega), if_neg (by omega), if_pos (by omega), if_pos (by omega), e]
        show some (wrap64 (wrap64 ((b : Int) + 16) + wrap64 (bt T8 ((n / 2 ^ 16 : Nat) : Int)))) = _
        rw [hb8, w64 (n := (b : Int) + 16) (by omega) (by omega), w64 (n := (L : Int)) (by omega) (by omega), w64 (by omega) (by omega)]
        congr 1; omega
  · by_cases h2 : n ≥ 256
    · have e : (((n : Int) / 256) % 256) = ((n / 2 ^ 8 : Nat) : Int) := by omega
      rcases t8 (n / 2 ^ 8) (by omega) with h | ⟨L, hb8, hL, hL8, h3, h4⟩
      · omega
      · refine ⟨8 + L, by omega, isLen_up hL h3 h4, Ev.step (f := fun _ => some ((b + (8 + L) : Nat) : Int)) (fun k => ?_) (Ev.now _)⟩
        rw [bits_Len64.j0.eq_2]
        rw [if_neg (by omega), if_pos (by omega), if_pos (by omega), if_pos (by omega), e]
        show some (wrap64 (wrap64 ((b : Int) + 8) + wrap64 (bt T8 ((n / 2 ^ 8 : Nat) : Int)))) = _
        rw [hb8, w64 (n := (b : Int) + 8) (by omega) (by omega), w64 (n := (L : Int)) (by omega) (by omega), w64 (by omega) (by omega)]
        congr 1; omega
    · have e : ((n : Int) % 256) = ((n : Nat) : Int) := by omega
      have step : ∀ L : Nat, bt T8 ((n : Nat) : Int) = L → L ≤ 8 → Ev (fun k => bits_Len64.j0 k (n : Int) (b : Int)) ((b + L : Nat) : Int) := by
        intro L hL hL8
        refine Ev.step (f := fun _ => some ((b + L : Nat) : Int)) (fun k => ?_) (Ev.now _)
        rw [bits_Len64.j0.eq_2]
        rw [if_neg (by omega), if_neg (by omega), if_pos (by omega), if_pos (by omega), e]
        show some (wrap64 ((b : Int) + wrap64 (bt T8 ((n : Nat) : Int)))) = _
        rw [hL, w64 (n := (L : Int)) (by omega) (by omega), w64 (by omega) (by omega)]
        congr 1
      rcases t8 n (by omega) with ⟨h, h0⟩ | ⟨L, hb8, hL, hL8, h3, h4⟩
      · exact ⟨0, by omega, .inl ⟨h, rfl⟩, step 0 h0 (by omega)⟩
      · exact ⟨L, by omega, .inr ⟨hL, h3, h4⟩, step L hb8 hL8⟩
theorem len_ev (n : Nat) (hn : n < 18446744073709551616) : ∃ L : Nat, L ≤ 64 ∧ IsLen n L ∧ Ev (fun k => bits_Len64.f k (n : Int)) (L : Int) := by
  by_cases h : n ≥ 4294967296
  · obtain ⟨L, hL, h1, h2⟩ := len_j0 (n / 2 ^ 32) (by omega) 32 (by omega)
    refine ⟨32 + L, by omega, ?_, ?_⟩
    · rcases h1 with h1 | ⟨h1, h3, h4⟩
      · omega
      · exact isLen_up h1 h3 h4
    · refine Ev.congr (f := fun k => bits_Len64.j0 k ((n / 2 ^ 32 : Nat) : Int) ((32 : Nat) : Int)) (fun k => ?_) h2
      unfold bits_Len64.f
      rw [if_pos (by omega), show (n : Int) / 4294967296 = ((n / 2 ^ 32 : Nat) : Int) by omega]; rfl
  · obtain ⟨L, hL, h1, h2⟩ := len_j0 n (by omega) 0 (by omega)
    refine ⟨L, by omega, h1, ?_⟩
    rw [Nat.zero_add] at h2
    refine Ev.congr (f := fun k => bits_Len64.j0 k (n : Int) ((0 : Nat) : Int)) (fun k => ?_) h2
    unfold bits_Len64.f
    rw [if_neg (by omega)]; rfl
theorem len_enc {n L : Nat} (h : IsLen n L) (hL : L ≤ 64) : (Int.tdiv (wrap64 (mx (L : Int) 1 + 6)) 7) = ((enc n).length : Int) := by
  rcases h with ⟨rfl, rfl⟩ | ⟨h0, h1, h2⟩
  · rw [enc_lt (by decide)]; simp [mx, wrap64]
  · have e1 : mx (L : Int) 1 = L := by unfold mx; split <;> omega
    rw [e1, w64 (by omega) (by omega), show (L : Int) + 6 = ((L + 6 : Nat) : Int) from rfl, show (7 : Int) = ((7 : Nat) : Int) from rfl, ← Int.ofNat_tdiv]
    congr 1
    refine (enc_len ((L + 6) / 7) n ?_ ?_ (by omega)).symm
    · rw [show 128 = 2 ^ 7 from rfl, ← Nat.pow_mul]
      exact Nat.lt_of_lt_of_le h2 (Nat.pow_le_pow_right (by decide) (by omega))
    · rcases Nat.lt_or_ge L 8 with h8 | h8
      · left; omega
      · right
        rw [show 128 = 2 ^ 7 from rfl, ← Nat.pow_mul]
        exact Nat.le_trans (Nat.pow_le_pow_right (by decide) (by omega)) h1
theorem size_l0 (l : List Int) (hl : Nums l) (hn : l.length ≤ 1000000000000) (d : Nat) : ∀ (i s : Nat), i + d = l.length → s + 10 * d ≤ 140737488355328 →
    Ev (fun k => octet_Size.l0 k (s : Int) l (l.length : Int) (i : Int)) ((s + (encs (l.drop i)).length : Nat) : Int) := by
  induction d with
  | zero =>
    intro i s hi _
    obtain rfl : i = l.length := by omega
    rw [List.drop_length]
    refine Ev.step (f := fun _ => some (s : Int)) (fun k => ?_) (by simpa [encs] using Ev.now (s : Int))
    simp only [octet_Size.l0]; rw [if_neg (by omega)]
  | succ d ih =>
    intro i s hi hb
    have hlt : i < l.length := by omega
    have hx := hl.at hlt
    have h10 := enc_le10 (n := l[i].toNat) (by omega)
    have e2 : wrap64 ((i : Int) + 1) = ((i + 1 : Nat) : Int) := by rw [w64 (by omega) (by omega)]; omega
    obtain ⟨L, hL, h1, h2⟩ := len_ev l[i].toNat (by omega)
    refine Ev.step (f := fun k => (bits_Len64.f k ((l[i].toNat : Nat) : Int)).bind fun t => octet_Size.l0 k (wrap64 ((s : Int) + wrap64 (Int.tdiv (wrap64 (mx t 1 + 6)) 7))) l (l.length : Int) ((i + 1 : Nat) : Int)) (fun k => ?_) (Ev.bind h2 ?_)
    · simp only [octet_Size.l0]
      rw [if_pos (by omega), if_pos (by omega), if_pos (by omega), rd_nat hlt, e2, Int.toNat_of_nonneg hx.1]
    · rw [len_enc h1 hL, w64 (n := ((enc l[i].toNat).length : Int)) (by omega) (by omega), w64 (by omega) (by omega)]
      have := ih (i + 1) (s + (enc l[i].toNat).length) (by omega) (by omega)
      rw [List.drop_eq_getElem_cons hlt]
      have e3 : s + (encs (l[i] :: l.drop (i + 1))).length = s + (enc l[i].toNat).length + (encs (l.drop (i + 1))).length := by rw [encs_cons, List.length_append]; omega
      rw [e3]
      exact this
theorem size_ev (l : List Int) (hl : Nums l) (hn : l.length ≤ 1000000000000) : Ev (fun k => octet_Size.f k l) ((encs l).length : Int) := by
  have := size_l0 l hl hn l.length 0 0 (by omega) (by omega)
  simpa [octet_Size.f] using this
theorem put_ev (l : List Int) (hl : Nums l) (hn : l.length ≤ 1000000000000) : Ev (fun k => octet_Put.f k l) (encs l) := by
  have h1 := encs_len hl
  refine Ev.bind (size_ev l hl hn) ?_
  refine Ev.congr (f := fun k => octet_Put.l0 k [] l (l.length : Int) ((0 : Nat) : Int)) (fun k => ?_) (by simpa using put_l0 l hl hn l.length 0 [] (by omega) (by simp; omega))
  rw [if_pos (by omega), if_pos (by omega)]; rfl
theorem encs_one (n : Int) : encs [n] = enc n.toNat := by simp [encs]
end Go.Proofs.YtfpijjjmgggfkaaDoor.L01

namespace Go.Proofs.YtfpijjjmgggfkaaDoor.L01
open Go Go.RowKit Go.Proofs.YtfpijjjmgggfkaaDoor.P01 Go.Proofs.YtfpijjjmgggfkaaDoorW.PrintWords Go.Proofs.YtfpijjjmgggfkaaDoorW.PrintLast Go.Proofs.YtfpijjjmgggfkaaDoorW.PrintMore

theorem rput_l1 (x0 : List Int) (x7 x8 : Int) (r : List Int) (n : Nat) : ∀ (acc : List Int), acc.length + (enc n).length ≤ 140737488355328 → n < 18446744073709551616 →
    Ev (fun k => tendrilref01_Put.l0 k x0 (acc ++ enc n) x7 (wrap64 (x8 + 1))) r → Ev (fun k => tendrilref01_Put.l1 k x0 acc (n : Int) x7 x8) r := by
  induction n using Nat.strongRecOn with
  | _ n ih =>
    intro acc hlen hn h
    by_cases h1 : n < 128
    · rw [enc_lt h1] at h hlen
      simp only [List.length_singleton] at hlen
      refine Ev.step (fun k => ?_) h
      simp only [tendrilref01_Put.l1]
      rw [if_neg (by omega), if_pos (by omega), show (n : Int) % 256 = n by omega]
    · rw [enc_ge (by omega)] at h hlen
      simp only [List.length_cons] at hlen
      refine Ev.step (f := fun k => tendrilref01_Put.l1 k x0 (acc ++ [((n % 128 + 128 : Nat) : Int)]) ((n / 128 : Nat) : Int) x7 x8) (fun k => ?_) (ih (n / 128) (by omega) _ (by simp; omega) (by omega) (by simpa using h))
      simp only [tendrilref01_Put.l1]
      have e1 : Int.tmod (n : Int) 128 = ((n % 128 : Nat) : Int) := by rw [show (128 : Int) = ((128 : Nat) : Int) from rfl, ← Int.ofNat_tmod]
      have e2 : Int.tdiv (n : Int) 128 = ((n / 128 : Nat) : Int) := by rw [show (128 : Int) = ((128 : Nat) : Int) from rfl, ← Int.ofNat_tdiv]
      rw [if_pos (by omega), if_pos (by have := enc_pos (n / 128); omega), e1, e2, wu64 (by omega) (by omega), wu64 (by omega) (by omega), show (((n % 128 : Nat) : Int) + 128) % 256 = ((n % 128 + 128 : Nat) : Int) by omega]
theorem rput_l0 (l : List Int) (hl : Nums l) (hn : l.length ≤ 1000000000000) (d : Nat) : ∀ (i : Nat) (acc : List Int), i + d = l.length → acc.length + 10 * d ≤ 140737488355328 →
    Ev (fun k => tendrilref01_Put.l0 k l acc (l.length : Int) (i : Int)) (acc ++ encs (l.drop i)) := by
  induction d with
  | zero =>
    intro i acc hi _
    obtain rfl : i = l.length := by omega
    rw [List.drop_length]
    refine Ev.step (f := fun _ => some acc) (fun k => ?_) (by simpa [encs] using Ev.now acc)
    simp only [tendrilref01_Put.l0]; rw [if_neg (by omega)]
  | succ d ih =>
    intro i acc hi hb
    have hlt : i < l.length := by omega
    have hx := hl.at hlt
    have h10 := enc_le10 (n := l[i].toNat) (by omega)
    have e2 : wrap64 ((i : Int) + 1) = ((i + 1 : Nat) : Int) := by rw [w64 (by omega) (by omega)]; omega
    have := ih (i + 1) (acc ++ enc l[i].toNat) (by omega) (by simp; omega)
    refine Ev.step (f := fun k => tendrilref01_Put.l1 k l acc ((l[i].toNat : Nat) : Int) (l.length : Int) (i : Int)) (fun k => ?_) (rput_l1 l _ _ _ l[i].toNat acc (by omega) (by omega) ?_)
    · simp only [tendrilref01_Put.l0]
      rw [if_pos (by omega), if_pos (by omega), if_pos (by omega), rd_nat hlt, Int.toNat_of_nonneg hx.1]
    · rw [e2, List.drop_eq_getElem_cons hlt, encs_cons, ← List.append_assoc]
      exact this
theorem rput_ev (l : List Int) (hl : Nums l) (hn : l.length ≤ 1000000000000) : Ev (fun k => tendrilref01_Put.f k l) (encs l) := by
  have h1 := encs_len hl
  exact Ev.congr (f := fun k => tendrilref01_Put.l0 k l [] (l.length : Int) ((0 : Nat) : Int)) (fun k => rfl) (by simpa using rput_l0 l hl hn l.length 0 [] (by omega) (by simp; omega))

end Go.Proofs.YtfpijjjmgggfkaaDoor.L01

namespace Go.Proofs.YtfpijjjmgggfkaaDoorE
open Go Go.RowKit Go.Proofs.YtfpijjjmgggfkaaDoorW.PrintWords Go.Proofs.YtfpijjjmgggfkaaDoor.P01 Go.Proofs.YtfpijjjmgggfkaaDoor.L01
set_option maxRecDepth 100000
set_option linter.unusedVariables false
/-- All but the blocks of S stay as they are. -/
structure But (S : Nat → Prop) (w w' : World) : Prop where
  os : w'.os = w.os
  tape : w'.tape = w.tape
  output : w'.output = w.output
  size : w.heap.size ≤ w'.heap.size
  block : ∀ k, k < w.heap.size → ¬ S k → w'.heap[k]? = w.heap[k]?
namespace But
variable {S S2 : Nat → Prop} {w w1 w2 : World}
theorem refl (S : Nat → Prop) (w : World) : But S w w := ⟨rfl, rfl, rfl, Nat.le_refl _, fun _ _ _ => rfl⟩
theorem mono (h : But S w w1) (hs : ∀ k, S k → S2 k) : But S2 w w1 := ⟨h.os, h.tape, h.output, h.size, fun k hk hn => h.block k hk (fun x => hn (hs k x))⟩
theorem trans (h : But S w w1) (k : But S2 w1 w2) (hs : ∀ k, S2 k → S k ∨ w.heap.size ≤ k) : But S w w2 :=
  ⟨k.os.trans h.os, k.tape.trans h.tape, k.output.trans h.output, Nat.le_trans h.size k.size, fun i hi hn => (k.block i (Nat.lt_of_lt_of_le hi h.size) (fun x => (hs i x).elim hn (fun y => absurd hi (by omega)))).trans (h.block i hi hn)⟩
theorem then_ (h : But S w w1) (k : But S w1 w2) : But S w w2 := h.trans k (fun _ => .inl)
theorem below (h : But S w w1) (k : Below w1.heap.size w1 w2) : But S w w2 :=
  ⟨k.os.trans h.os, k.tape.trans h.tape, k.output.trans h.output, Nat.le_trans h.size k.size, fun i hi hn => (k.block i (Nat.lt_of_lt_of_le hi h.size)).trans (h.block i hi hn)⟩
theorem of_below (k : Below w.heap.size w w1) : But S w w1 := (refl S w).below k
theorem drawn (h : But S w w1) (k : Drawn0 w1 w2) : But S w w2 := by
  obtain ⟨n, rfl⟩ := k.out
  exact h.below (pw_below_drewN (Below.refl _ _) n)
theorem setCell (h : But S w w1) {p : Addr} (hp : S p.block ∨ w.heap.size ≤ p.block) (u : Value) : But S w (w1.setCell p u) :=
  ⟨h.os, h.tape, h.output, by simpa [World.setCell] using h.size, fun k hk hn => (Below.heap_setCell w1 p u k (fun e => hp.elim (fun x => hn (e ▸ x)) (fun x => absurd hk (by omega)))).trans (h.block k hk hn)⟩
theorem alloc (h : But S w w1) (o : Obj) : But S w (w1.alloc o) := h.below (below_alloc (Below.refl _ _) o)
theorem drew (h : But S w w1) : But S w w1.drew := h.below (below_drew (Below.refl _ _))
theorem drewN (h : But S w w1) (n : Nat) : But S w (w1.drewN n) := h.below (pw_below_drewN (Below.refl _ _) n)
theorem grown (h : But S w w1) {row : Option Nat} (g : w1.grownBy w2 row) (hr : ∀ k, row = some k → S k ∨ w.heap.size ≤ k) : But S w w2 :=
  ⟨g.os.trans h.os, g.tape.trans h.tape, g.output.trans h.output, Nat.le_trans h.size g.size, fun i hi hn => (g.block i (Nat.lt_of_lt_of_le hi h.size) (fun e => (hr i e.symm).elim hn (fun y => absurd hi (by omega)))).trans (h.block i hi hn)⟩
end But

/-- A reader (or the reference's) at p: what is left, and its error; the bytes lie in blocks of ok, and p is none of them. -/
def AtR (T p : Nat) (ok : Nat → Prop) (bs : List Int) (er : Int) (w : World) : Prop :=
  ¬ ok p ∧ Bytes bs ∧ ∃ A c, w.heap[p]? = some (.cells #[.slice A bs.length c, .int .i64 er] T (0, 0)) ∧ bs.length ≤ c ∧ Kd.F (Kd.int .u8) w ok A bs.length bs
theorem blk_lt' {w : World} {g : Nat} {o : Obj} (h : w.heap[g]? = some o) : g < w.heap.size := by
  rcases Nat.lt_or_ge g w.heap.size with h' | h'
  · exact h'
  · simp [Array.getElem?_eq_none h'] at h
theorem AtR.but {T p : Nat} {ok S : Nat → Prop} {bs : List Int} {er : Int} {w w' : World} (h : AtR T p ok bs er w) (hb : But S w w') (hs : ∀ k, S k → k ≠ p ∧ ¬ ok k) : AtR T p ok bs er w' := by
  obtain ⟨h1, h2, A, c, hp, hc, hf⟩ := h
  exact ⟨h1, h2, A, c, (hb.block p (blk_lt' hp) (fun x => (hs p x).1 rfl)).trans hp, hc, Kd.F_step hf (fun k hk hlt => hb.block k hlt (fun x => (hs k x).2 hk))⟩
/-- What a reader tells of a number, and how it stands then. -/
def numR (bs : List Int) (er most : Int) : (Int × Int) × List Int × Int :=
  if er ≠ 0 then ((0, er), bs, er) else
  if (takeS 0 bs).2.2 ≠ 0 then ((0, (takeS 0 bs).2.2), bs, (takeS 0 bs).2.2) else
  if most < (takeS 0 bs).1 then ((0, 5), bs, 5) else (((takeS 0 bs).1, 0), bs.drop (takeS 0 bs).2.1.toNat, 0)
theorem take_c (A : Option Addr) (c : Nat) (l : List Int) (w : World) (hC : Kd.C (Kd.int .u8) w A l.length l) (hc : l.length ≤ c) (hB : Bytes l) :
    Calls Tryd.prog 70 #[.slice A l.length c] w fun e w' => e = .returned (.tuple #[.int .u64 (takeS 0 l).1, .int .i64 (takeS 0 l).2.1, .int .i64 (takeS 0 l).2.2]) ∧ Drawn0 w w' := by
  obtain ⟨k, hk⟩ := take_ev l hB
  exact octet_Take.calls k A c l _ _ _ w hC hc (hk k (Nat.le_refl _))
theorem fail_c (p : Nat) (v : Value) (er e1 : Int) (w : World) (h : w.heap[p]? = some (.cells #[v, .int .i64 er] 107 (0, 0))) :
    Calls Tryd.prog 71 #[.pointer (some ⟨p, 0, none⟩), .int .i64 e1] w fun e w' => e = .returned (.int .i64 e1) ∧ w' = w.setCell ⟨p, 1, none⟩ (.int .i64 e1) := by
  have c1 : w.cell? ⟨p, 1, none⟩ = some (.int .i64 er) := by rw [Lib.cell_of_heap h]; rfl
  have f1 : w.frozen? ⟨p, 1, none⟩ = false := Lib.frozen_of_heap h 1
  go_enter Tryd.func71, Tryd.ntmps71
  go_wp2_with fail
  go_ret
  exact ⟨rfl, rfl⟩
theorem set_blk {w : World} {p j : Nat} {cs : Array Value} {T : TypeId} {fz : Nat × Nat} (h : w.heap[p]? = some (.cells cs T fz)) (v : Value) : (w.setCell ⟨p, j, none⟩ v).heap[p]? = some (.cells (cs.setIfInBounds j v) T fz) := by
  simp [World.setCell, Array.getElem?_modify, h]
theorem info_byte : (Tryd.prog.info? 5).map (fun i => (i.zero, i.size, i.bytes)) = some (some (.int .u8 0), 1, 1) := by kernel_rfl
theorem takeS_ok (bs : List Int) (hB : Bytes bs) (h : (takeS 0 bs).2.2 = 0) : ∃ n j : Nat, takeS 0 bs = ((n : Int), (j : Int), 0) ∧ n < 18446744073709551616 ∧ enc n = bs.take j ∧ 0 < j ∧ j ≤ bs.length := by
  obtain ⟨n, j, h1, h2, _, h4, h5, h6⟩ := takeS_only bs 0 hB (by omega) h
  exact ⟨n, j, h1, by simpa using h2, h4, h5, h6⟩
theorem far {ok : Nat → Prop} {p : Nat} (h : ¬ ok p) : ∀ k, ok k → k ≠ p := fun k hk e => h (by rw [← e]; exact hk)
theorem cut_at {T p : Nat} {ok : Nat → Prop} {bs : List Int} {er : Int} {w : World} {A : Option Addr} {c j : Nat} (h1 : ¬ ok p) (h2 : Bytes bs) (hp : w.heap[p]? = some (.cells #[.slice A bs.length c, .int .i64 er] T (0, 0))) (hc : bs.length ≤ c) (hf : Kd.F (Kd.int .u8) w ok A bs.length bs) (hj : j ≤ bs.length) :
    AtR T p ok (bs.drop j) er (w.setCell ⟨p, 0, none⟩ (.slice (if c = j then A else A.map (fun x => x.add j)) (bs.length - j) (c - j))) := by
  have hF := Kd.F_cut (m := j) (c := c) hf hj hc
  rw [show j * (Kd.int .u8).sz = j from Nat.mul_one j] at hF
  refine ⟨h1, h2.drop j, if c = j then A else A.map (fun x => x.add j), c - j, ?_, by rw [List.length_drop]; omega, Kd.F_far hF (far h1) _⟩
  rw [List.length_drop]
  exact set_blk hp _
theorem But.put {S : Nat → Prop} {w w1 : World} (h : But S w w1) {p j : Nat} (hp : S p) (u : Value) : But S w (w1.setCell ⟨p, j, none⟩ u) := h.setCell (.inl hp) u
theorem But.put_self {w w1 : World} {p : Nat} (h : But (· = p) w w1) (j : Nat) (u : Value) : But (· = p) w (w1.setCell ⟨p, j, none⟩ u) := h.setCell (.inl rfl) u
set_option maxHeartbeats 1000000 in
theorem r_num (p : Nat) (ok : Nat → Prop) (bs : List Int) (er most : Int) (w : World) (h : AtR 107 p ok bs er w) :
    Calls Tryd.prog 59 #[.pointer (some ⟨p, 0, none⟩), .int .u64 most] w fun e w' => e = .returned (.tuple #[.int .u64 (numR bs er most).1.1, .int .i64 (numR bs er most).1.2]) ∧ AtR 107 p ok (numR bs er most).2.1 (numR bs er most).2.2 w' ∧ But (· = p) w w' := by
  obtain ⟨h1, h2, A, c, hp, hc, hf⟩ := h
  have c0 : w.cell? ⟨p, 0, none⟩ = some (.slice A bs.length c) := by rw [Lib.cell_of_heap hp]; rfl
  have c1 : w.cell? ⟨p, 1, none⟩ = some (.int .i64 er) := by rw [Lib.cell_of_heap hp]; rfl
  have f0 : w.frozen? ⟨p, 0, none⟩ = false := Lib.frozen_of_heap hp 0
  have f1 : w.frozen? ⟨p, 1, none⟩ = false := Lib.frozen_of_heap hp 1
  have HF := Aside0.mk hf
  have H1 := Aside0.mk h1
  have H2 := Aside0.mk h2
  clear hf h1 h2
  by_cases he : er = 0
  · subst he
    have HT := take_c A c bs w (Kd.F_now HF.out) hc H2.out
    by_cases ht : (takeS 0 bs).2.2 = 0
    · obtain ⟨n, j, hT, hn, -, hj, hjl⟩ := takeS_ok bs H2.out ht
      clear ht
      rw [hT] at HT
      by_cases hm : most < (n : Int)
      · have hR : numR bs 0 most = ((0, 5), bs, 5) := by simp [numR, hT, hm]
        rw [hR]
        clear hT hR
        go_enter Tryd.func59, Tryd.ntmps59
        go_wp2_with fail
        refine HT.mono ?_
        rintro e w1 ⟨rfl, ⟨m, rfl⟩⟩
        go_wp2_with fail
        refine (fail_c p _ _ 5 _ (show (w.drewN m).heap[p]? = _ from hp)).mono ?_
        rintro e w2 ⟨rfl, rfl⟩
        go_wp2_with fail
        go_ret2
        exact ⟨rfl, ⟨H1.out, H2.out, A, c, set_blk (show (w.drewN m).heap[p]? = _ from hp) _, hc, Kd.F_far (Kd.F_drewN HF.out m) (far H1.out) _⟩, ((But.refl _ w).drewN m).put_self _ _⟩
      · have hR : numR bs 0 most = (((n : Int), 0), bs.drop j, 0) := by simp [numR, hT, hm]
        rw [hR]
        clear hT hR
        go_enter Tryd.func59, Tryd.ntmps59
        go_wp2_with fail
        refine HT.mono ?_
        rintro e w1 ⟨rfl, ⟨m, rfl⟩⟩
        go_wp2_with fail
        · rename_i h
          subst h
          go_ret2
          have := cut_at (w := w.drewN m) H1.out H2.out hp hc (Kd.F_drewN HF.out m) hjl
          rw [if_pos rfl, Nat.sub_self] at this
          exact ⟨rfl, this, ((But.refl _ w).drewN m).put_self _ _⟩
        · rename_i h
          go_ret2
          have := cut_at (w := w.drewN m) H1.out H2.out hp hc (Kd.F_drewN HF.out m) hjl
          rw [if_neg h] at this
          exact ⟨rfl, this, ((But.refl _ w).drewN m).put_self _ _⟩
    · have hR : numR bs 0 most = ((0, (takeS 0 bs).2.2), bs, (takeS 0 bs).2.2) := by simp [numR, ht]
      rw [hR]
      have hb : ((takeS 0 bs).2.2 == 0) = false := by simpa using ht
      go_enter Tryd.func59, Tryd.ntmps59
      go_wp2_with fail
      refine HT.mono ?_
      rintro e w1 ⟨rfl, ⟨m, rfl⟩⟩
      go_wp2_with fail
      refine (fail_c p _ _ _ _ (show (w.drewN m).heap[p]? = _ from hp)).mono ?_
      rintro e w2 ⟨rfl, rfl⟩
      go_wp2_with fail
      go_ret2
      exact ⟨rfl, ⟨H1.out, H2.out, A, c, set_blk (show (w.drewN m).heap[p]? = _ from hp) _, hc, Kd.F_far (Kd.F_drewN HF.out m) (far H1.out) _⟩, ((But.refl _ w).drewN m).put_self _ _⟩
  · have hR : numR bs er most = ((0, er), bs, er) := by simp [numR, he]
    rw [hR]
    have hb : (er == 0) = false := by simpa using he
    go_enter Tryd.func59, Tryd.ntmps59
    go_wp2_with fail
    go_region
    go_wp2_with fail
    go_ret2
    exact ⟨rfl, ⟨H1.out, H2.out, A, c, hp, hc, Kd.F_drew HF.out⟩, (But.refl _ w).drew⟩
/-- Behind all: what a reader tells of its end. -/
def endR (bs : List Int) (er : Int) : Int := if er ≠ 0 then er else if bs = [] then 0 else 2
theorem r_end (p : Nat) (ok : Nat → Prop) (bs : List Int) (er : Int) (w : World) (h : AtR 107 p ok bs er w) :
    Calls Tryd.prog 43 #[.pointer (some ⟨p, 0, none⟩)] w fun e w' => e = .returned (.int .i64 (endR bs er)) ∧ w' = w := by
  obtain ⟨h1, h2, A, c, hp, hc, hf⟩ := h
  have c0 : w.cell? ⟨p, 0, none⟩ = some (.slice A bs.length c) := by rw [Lib.cell_of_heap hp]; rfl
  have c1 : w.cell? ⟨p, 1, none⟩ = some (.int .i64 er) := by rw [Lib.cell_of_heap hp]; rfl
  clear hf h1 h2
  by_cases he : er = 0
  · subst he
    cases bs with
    | nil =>
      go_enter Tryd.func43, Tryd.ntmps43
      go_wp2_with fail
      go_ret
      exact ⟨rfl, rfl⟩
    | cons b t =>
      have hb : decide (0 < (b :: t).length) = true := by simp
      go_enter Tryd.func43, Tryd.ntmps43
      go_wp2_with fail
      go_ret
      exact ⟨rfl, rfl⟩
  · have hR : endR bs er = er := by simp [endR, he]
    rw [hR]
    have hb : (er == 0) = false := by simpa using he
    go_enter Tryd.func43, Tryd.ntmps43
    go_wp2_with fail
    go_ret
    exact ⟨rfl, rfl⟩
end Go.Proofs.YtfpijjjmgggfkaaDoorE

namespace Go.Proofs.YtfpijjjmgggfkaaDoorE
open Go Go.RowKit Go.Proofs.YtfpijjjmgggfkaaDoorW.PrintWords Go.Proofs.YtfpijjjmgggfkaaDoor.P01 Go.Proofs.YtfpijjjmgggfkaaDoor.L01
set_option maxRecDepth 100000
set_option linter.unusedVariables false
/-- What a reader tells of a text, and how it stands then. -/
def textR (bs : List Int) (er most : Int) : (ByteArray × Int) × List Int × Int :=
  if er ≠ 0 then ((⟨#[]⟩, er), bs, er) else
  if (takeS 0 bs).2.2 ≠ 0 then ((⟨#[]⟩, (takeS 0 bs).2.2), bs, (takeS 0 bs).2.2) else
  if most < 0 ∨ most < (takeS 0 bs).1 then ((⟨#[]⟩, 3), bs, 3) else
  if (bs.length : Int) - (takeS 0 bs).2.1 < (takeS 0 bs).1 then ((⟨#[]⟩, 4), bs, 4) else
  ((strOfNums ((bs.take ((takeS 0 bs).2.1.toNat + (takeS 0 bs).1.toNat)).drop (takeS 0 bs).2.1.toNat), 0), bs.drop ((takeS 0 bs).2.1.toNat + (takeS 0 bs).1.toNat), 0)
theorem mid_C {ok : Nat → Prop} {bs : List Int} {w : World} {A : Option Addr} {c j n : Nat} (hc : bs.length ≤ c) (hf : Kd.F (Kd.int .u8) w ok A bs.length bs) (hj : j + n ≤ bs.length) :
    Kd.C (Kd.int .u8) w (if c = j then A else A.map (fun x => x.add j)) n ((bs.take (j + n)).drop j) := by
  have hF := Kd.F_now (Kd.F_mid (lo := j) (hi := j + n) (c := c) hf (by omega) hj hc)
  rw [show j * (Kd.int .u8).sz = j from Nat.mul_one j] at hF
  rw [show ((bs.take (j + n)).drop j).length = n by rw [List.length_drop, List.length_take]; omega] at hF
  exact hF
set_option maxHeartbeats 2000000 in
theorem r_text (p : Nat) (ok : Nat → Prop) (bs : List Int) (er most : Int) (hm0 : -9223372036854775808 ≤ most) (hm1 : most ≤ 9223372036854775807) (hlen : bs.length ≤ 9223372036854775807) (w : World) (h : AtR 107 p ok bs er w) :
    Calls Tryd.prog 72 #[.pointer (some ⟨p, 0, none⟩), .int .i64 most] w fun e w' => e = .returned (.tuple #[.string (textR bs er most).1.1, .int .i64 (textR bs er most).1.2]) ∧ AtR 107 p ok (textR bs er most).2.1 (textR bs er most).2.2 w' ∧ But (· = p) w w' := by
  obtain ⟨h1, h2, A, c, hp, hc, hf⟩ := h
  have c0 : w.cell? ⟨p, 0, none⟩ = some (.slice A bs.length c) := by rw [Lib.cell_of_heap hp]; rfl
  have c1 : w.cell? ⟨p, 1, none⟩ = some (.int .i64 er) := by rw [Lib.cell_of_heap hp]; rfl
  have f0 : w.frozen? ⟨p, 0, none⟩ = false := Lib.frozen_of_heap hp 0
  have f1 : w.frozen? ⟨p, 1, none⟩ = false := Lib.frozen_of_heap hp 1
  have HF := Aside0.mk hf
  have H1 := Aside0.mk h1
  have H2 := Aside0.mk h2
  clear hf h1 h2
  by_cases he : er = 0
  · subst he
    have HT := take_c A c bs w (Kd.F_now HF.out) hc H2.out
    by_cases ht : (takeS 0 bs).2.2 = 0
    · obtain ⟨n, j, hT, hn, -, hj, hjl⟩ := takeS_ok bs H2.out ht
      clear ht
      rw [hT] at HT
      have hfail : ∀ (m : Nat) (x : Int), AtR 107 p ok bs x ((w.drewN m).setCell ⟨p, 1, none⟩ (.int .i64 x)) := fun m x => ⟨H1.out, H2.out, A, c, set_blk (show (w.drewN m).heap[p]? = _ from hp) _, hc, Kd.F_far (Kd.F_drewN HF.out m) (far H1.out) _⟩
      by_cases hm : most < 0 ∨ most < (n : Int)
      · have hR : textR bs 0 most = ((⟨#[]⟩, 3), bs, 3) := by simp [textR, hT, hm]
        rw [hR]
        clear hT hR
        by_cases hm2 : most < 0
        · clear hm
          go_enter Tryd.func72, Tryd.ntmps72
          go_wp2_with fail
          refine HT.mono ?_
          rintro e w1 ⟨rfl, ⟨m, rfl⟩⟩
          go_wp2_with fail
          refine (fail_c p _ _ 3 _ (show (w.drewN m).heap[p]? = _ from hp)).mono ?_
          rintro e w2 ⟨rfl, rfl⟩
          go_wp2_with fail
          go_ret2
          exact ⟨rfl, hfail m 3, ((But.refl _ w).drewN m).put_self _ _⟩
        · have hm3 : most < (n : Int) := hm.resolve_left hm2
          clear hm
          obtain ⟨M, rfl⟩ := Int.eq_ofNat_of_zero_le (show 0 ≤ most by omega)
          go_enter Tryd.func72, Tryd.ntmps72
          go_wp2_with fail
          refine HT.mono ?_
          rintro e w1 ⟨rfl, ⟨m, rfl⟩⟩
          go_wp2_with fail
          refine (fail_c p _ _ 3 _ (show (w.drewN m).heap[p]? = _ from hp)).mono ?_
          rintro e w2 ⟨rfl, rfl⟩
          go_wp2_with fail
          go_ret2
          exact ⟨rfl, hfail m 3, ((But.refl _ w).drewN m).put_self _ _⟩
      · have hm2 : (n : Int) ≤ most := by omega
        obtain ⟨M, rfl⟩ := Int.eq_ofNat_of_zero_le (show 0 ≤ most by omega)
        by_cases hs : (bs.length : Int) - j < n
        · have hR : textR bs 0 M = ((⟨#[]⟩, 4), bs, 4) := by simp only [textR, hT]; rw [if_neg (by simp), if_neg (by simp), if_neg hm, if_pos hs]
          rw [hR]
          clear hT hR hm
          go_enter Tryd.func72, Tryd.ntmps72
          go_wp2_with fail
          refine HT.mono ?_
          rintro e w1 ⟨rfl, ⟨m, rfl⟩⟩
          go_wp2_with fail
          refine (fail_c p _ _ 4 _ (show (w.drewN m).heap[p]? = _ from hp)).mono ?_
          rintro e w2 ⟨rfl, rfl⟩
          go_wp2_with fail
          go_ret2
          exact ⟨rfl, hfail m 4, ((But.refl _ w).drewN m).put_self _ _⟩
        · have hR : textR bs 0 M = ((strOfNums ((bs.take (j + n)).drop j), 0), bs.drop (j + n), 0) := by simp only [textR, hT]; rw [if_neg (by simp), if_neg (by simp), if_neg hm, if_neg hs]; simp
          rw [hR]
          clear hT hR hm
          go_enter Tryd.func72, Tryd.ntmps72
          go_wp2_with fail
          refine HT.mono ?_
          rintro e w1 ⟨rfl, ⟨m, rfl⟩⟩
          go_wp2_with fail
          all_goals
            have hC := mid_C (w := w.drewN m) (j := j) (n := n) hc (Kd.F_drewN HF.out m) (by omega)
            first | rw [if_pos (show c = j by assumption)] at hC | rw [if_neg (show ¬ c = j by assumption)] at hC
            rw [Kd.C_string Tryd.underlying25 Tryd.underlying5 Tryd.underlying9 hC]
            simp only [Result.andThen]
            rw [Oper.upon_value]
            clear hC
            go_wp2_with fail
          all_goals
            go_ret2
            have := cut_at (w := w.drewN m) (j := j + n) H1.out H2.out hp hc (Kd.F_drewN HF.out m) (by omega)
            first
              | (rw [if_pos (show c = j + n by omega), show c - (j + n) = 0 by omega] at this; exact ⟨rfl, this, ((But.refl _ w).drewN m).put_self _ _⟩)
              | (rw [if_neg (show ¬ c = j + n by assumption)] at this; exact ⟨rfl, this, ((But.refl _ w).drewN m).put_self _ _⟩)
    · have hR : textR bs 0 most = ((⟨#[]⟩, (takeS 0 bs).2.2), bs, (takeS 0 bs).2.2) := by simp [textR, ht]
      rw [hR]
      have hb : ((takeS 0 bs).2.2 == 0) = false := by simpa using ht
      go_enter Tryd.func72, Tryd.ntmps72
      go_wp2_with fail
      refine HT.mono ?_
      rintro e w1 ⟨rfl, ⟨m, rfl⟩⟩
      go_wp2_with fail
      refine (fail_c p _ _ _ _ (show (w.drewN m).heap[p]? = _ from hp)).mono ?_
      rintro e w2 ⟨rfl, rfl⟩
      go_wp2_with fail
      go_ret2
      exact ⟨rfl, ⟨H1.out, H2.out, A, c, set_blk (show (w.drewN m).heap[p]? = _ from hp) _, hc, Kd.F_far (Kd.F_drewN HF.out m) (far H1.out) _⟩, ((But.refl _ w).drewN m).put_self _ _⟩
  · have hR : textR bs er most = ((⟨#[]⟩, er), bs, er) := by simp [textR, he]
    rw [hR]
    have hb : (er == 0) = false := by simpa using he
    go_enter Tryd.func72, Tryd.ntmps72
    go_wp2_with fail
    go_region
    go_wp2_with fail
    go_ret2
    exact ⟨rfl, ⟨H1.out, H2.out, A, c, hp, hc, Kd.F_drew HF.out⟩, (But.refl _ w).drew⟩
end Go.Proofs.YtfpijjjmgggfkaaDoorE

namespace Go.Proofs.YtfpijjjmgggfkaaDoorE
open Go Go.RowKit Go.Proofs.YtfpijjjmgggfkaaDoorW.PrintWords Go.Proofs.YtfpijjjmgggfkaaDoorW.PrintMore Go.Proofs.YtfpijjjmgggfkaaDoor.P01 Go.Proofs.YtfpijjjmgggfkaaDoor.L01
set_option maxRecDepth 100000
set_option linter.unusedVariables false
abbrev own8 (B : Nat) (v : Value) (bs : List Int) (w : World) : Prop := Kd.R (Kd.int .u8) 5 w B (fun _ => True) v bs
/-- What was v's block is still it, or a new one. -/
def hat (w : World) (v v' : Value) : Prop := v'.ownBlock = v.ownBlock ∨ ∃ b, v'.ownBlock = some b ∧ w.heap.size ≤ b
/-- A writer at p, its gathered bytes in the slice v that lies at g. -/
def AtW (B p g : Nat) (v : Value) (bs : List Int) (w : World) : Prop :=
  B ≤ p ∧ B ≤ g ∧ w.heap[p]? = some (.cells #[.pointer (some ⟨g, 0, none⟩)] 72 (0, 0)) ∧ w.heap[g]? = some (.cells #[v] 70 (0, 0)) ∧ own8 B v bs w
theorem own8_set {B g : Nat} {v u : Value} {bs : List Int} {w : World} {cs : Array Value} {T : TypeId} (h : own8 B v bs w) (hg : w.heap[g]? = some (.cells cs T (0, 0))) (hT : 5 ≠ T) (j : Nat) : own8 B v bs (w.setCell ⟨g, j, none⟩ u) := by
  have hne : some g ≠ v.ownBlock := Kd.R_ne h hg hT
  exact Kd.R_mono (Kd.R_far (Kd.R_far1 h rfl hne) (fun k hk => hk.2) u) (fun _ _ => trivial)
theorem put_c (B g : Nat) (v : Value) (bs xs : List Int) (A : Option Addr) (c : Nat) (w : World) (hB : B ≤ g) (hBw : B ≤ w.heap.size) (hg : w.heap[g]? = some (.cells #[v] 70 (0, 0))) (HR : own8 B v bs w) (hC : Kd.C (Kd.int .u8) w A xs.length xs) (hlen : bs.length + xs.length ≤ 140737488355328) :
    Calls Tryd.prog 30 #[.pointer (some ⟨g, 0, none⟩), .slice A xs.length c] w fun e w' => e = .returned (.tuple #[]) ∧ ∃ v', w'.heap[g]? = some (.cells #[v'] 70 (0, 0)) ∧ own8 B v' (bs ++ xs) w' ∧ But (fun k => k = g ∨ some k = v.ownBlock) w w' ∧ hat w v v' := by
  have c0 : w.cell? ⟨g, 0, none⟩ = some v := by rw [Lib.cell_of_heap hg]; rfl
  have hlt := blk_lt' hg
  have hne : some g ≠ v.ownBlock := Kd.R_ne HR hg (by decide)
  have H := Aside0.mk HR
  have HC := Aside0.mk hC
  clear HR hC
  go_enter Tryd.func30, Tryd.ntmps30
  go_wp2_with (at_builtin; refine Kd.R_append_row (w0 := w) (Value.int .u8) (0 : Int) (h1 := fun _ => rfl) B rfl _ _ 25 5 (.int .u8 0) 1 rfl Tryd.underlying25 info_byte rfl (by decide) v bs xs A xs.length c (fun _ => True) rfl rfl (fun _ _ => trivial) H.out HC.out (Below.refl _ _) hBw (by omega) ?_)
  intro v' w' hown hbel hgr hhat
  obtain ⟨A', c', rfl⟩ := Kd.R_slice hown
  have hl : (bs ++ xs).length = bs.length + xs.length := List.length_append
  rw [hl] at hown hhat
  have hg' : w'.heap[g]? = some (.cells #[v] 70 (0, 0)) := by rw [hgr.block g hlt hne]; exact hg
  have d0 : w'.cell? ⟨g, 0, none⟩ = some v := by rw [Lib.cell_of_heap hg']; rfl
  have f0 : w'.frozen? ⟨g, 0, none⟩ = false := Lib.frozen_of_heap hg' 0
  have H2 := Aside0.mk hown
  have H3 := Aside0.mk hgr
  have H4 := Aside0.mk hhat
  clear hown hbel hgr hhat
  go_wp2_with fail
  go_end0
  exact ⟨rfl, _, set_blk hg' _, own8_set H2.out hg' (by decide) _, ((But.refl _ w).grown H3.out (fun k hk => .inl (.inr hk.symm))).put (.inl rfl) _, H4.out⟩
theorem ready_c (p g : Nat) (w : World) (hp : w.heap[p]? = some (.cells #[.pointer (some ⟨g, 0, none⟩)] 72 (0, 0))) :
    Calls Tryd.prog 29 #[.pointer (some ⟨p, 0, none⟩)] w fun e w' => e = .returned (.bool true) ∧ w' = w := by
  have c0 : w.cell? ⟨p, 0, none⟩ = some (.pointer (some ⟨g, 0, none⟩)) := by rw [Lib.cell_of_heap hp]; rfl
  go_enter Tryd.func29, Tryd.ntmps29
  go_wp2_with fail
  go_ret
  exact ⟨rfl, rfl⟩
theorem oput_c (xs : List Int) (A : Option Addr) (c : Nat) (w : World) (hC : Kd.C (Kd.int .u64) w A xs.length xs) (hc : xs.length ≤ c) (hN : Nums xs) (hl : xs.length ≤ 1000000000000) :
    Calls Tryd.prog 31 #[.slice A xs.length c] w fun e w' => ∃ A' c', e = .returned (.slice A' (encs xs).length c') ∧ Kd.C (Kd.int .u8) w' A' (encs xs).length (encs xs) ∧ Below w.heap.size w w' := by
  obtain ⟨k, hk⟩ := put_ev xs hN hl
  refine (octet_Put.calls k A c xs _ w hC hc (hk k (Nat.le_refl _))).mono ?_
  rintro e w' ⟨v, rfl, hR, hb⟩
  obtain ⟨A', c', rfl, _, hC'⟩ := Kd.R_reads hR
  exact ⟨A', c', rfl, hC', hb⟩
theorem AtW.put {B p g : Nat} {v v' : Value} {bs bs' : List Int} {w w' : World} (h : AtW B p g v bs w) (hg : w'.heap[g]? = some (.cells #[v'] 70 (0, 0))) (HR : own8 B v' bs' w') (hb : But (fun k => k = g ∨ some k = v.ownBlock) w w') : AtW B p g v' bs' w' := by
  obtain ⟨h1, h2, hp, hg0, HR0⟩ := h
  refine ⟨h1, h2, (hb.block p (blk_lt' hp) ?_).trans hp, hg, HR⟩
  rintro (rfl | e)
  · rw [hp] at hg0; injection hg0 with hg0; injection hg0 with _ ht; exact absurd ht (by decide)
  · exact Kd.R_ne HR0 hp (by decide) e
theorem AtW.below {B p g : Nat} {v : Value} {bs : List Int} {w w' : World} (h : AtW B p g v bs w) (hb : Below w.heap.size w w') : AtW B p g v bs w' := by
  obtain ⟨h1, h2, hp, hg0, HR0⟩ := h
  exact ⟨h1, h2, (hb.block p (blk_lt' hp)).trans hp, (hb.block g (blk_lt' hg0)).trans hg0, Kd.R_below HR0 hb⟩
/-- What a call at a writer does to the world. -/
def StepW (B p g : Nat) (v : Value) (bs' : List Int) (w w' : World) : Prop := ∃ v', AtW B p g v' bs' w' ∧ But (fun k => k = g ∨ some k = v.ownBlock) w w' ∧ hat w v v'
theorem hat_up {w w1 : World} {v v' : Value} (h : hat w1 v v') (hs : w.heap.size ≤ w1.heap.size) : hat w v v' := h.imp id (fun ⟨b, h1, h2⟩ => ⟨b, h1, Nat.le_trans hs h2⟩)
theorem hat_trans {w w1 : World} {v v1 v2 : Value} (h : hat w v v1) (k : hat w1 v1 v2) (hs : w.heap.size ≤ w1.heap.size) : hat w v v2 := by
  rcases k with k | ⟨b, k1, k2⟩
  · rcases h with h | ⟨b, h1, h2⟩
    · exact .inl (k.trans h)
    · exact .inr ⟨b, k.trans h1, h2⟩
  · exact .inr ⟨b, k1, Nat.le_trans hs k2⟩
theorem w_num (B p g : Nat) (v : Value) (bs xs : List Int) (A : Option Addr) (c : Nat) (w : World) (hBw : B ≤ w.heap.size) (h : AtW B p g v bs w) (hC : Kd.C (Kd.int .u64) w A xs.length xs) (hc : xs.length ≤ c) (hN : Nums xs) (hl : xs.length ≤ 1000000000000) (hlen : bs.length + (encs xs).length ≤ 140737488355328) :
    Calls Tryd.prog 17 #[.pointer (some ⟨p, 0, none⟩), .slice A xs.length c] w fun e w' => e = .returned (.tuple #[]) ∧ StepW B p g v (bs ++ encs xs) w w' := by
  have hW := h
  obtain ⟨h1, h2, hp, hg, HR⟩ := h
  have c0 : w.cell? ⟨p, 0, none⟩ = some (.pointer (some ⟨g, 0, none⟩)) := by rw [Lib.cell_of_heap hp]; rfl
  have H := Aside0.mk hW
  have HC := Aside0.mk hC
  have HN := Aside0.mk hN
  clear HR hC hN hW
  go_enter Tryd.func17, Tryd.ntmps17
  go_wp2_with fail
  refine (ready_c p g w hp).mono ?_
  rintro e w1 ⟨rfl, rfl⟩
  go_wp2_with fail
  go_region_with (first
    | (go_at_call 31
       refine (oput_c xs A c _ ?_ hc HN.out hl).mono ?_
       · exact Kd.C_drew HC.out
       rintro e w2 ⟨A', c', rfl, hC', hb⟩
       have HW := Aside0.mk (AtW.below (AtW.below H.out (below_drew (Below.refl _ _))) hb)
       have HC' := Aside0.mk hC'
       have HB := Aside0.mk (below_then (below_drew (Below.refl _ _)) (Nat.le_refl _) hb)
       have d0 : w2.cell? ⟨p, 0, none⟩ = some (.pointer (some ⟨g, 0, none⟩)) := by rw [Lib.cell_of_heap HW.out.2.2.1]; rfl
       clear hC' hb)
    | (go_at_call 30
       refine (put_c B g v bs (encs xs) _ _ _ h2 ?_ HW.out.2.2.2.1 HW.out.2.2.2.2 HC'.out hlen).mono ?_
       · exact Nat.le_trans hBw HB.out.size
       rintro e w3 ⟨rfl, v', hg3, hR3, hb3, hh3⟩
       have HX := Aside0.mk (And.intro (AtW.put HW.out hg3 hR3 hb3) (And.intro hb3 hh3))
       clear hg3 hR3 hb3 hh3))
  all_goals
    go_end0
    exact ⟨rfl, _, HX.out.1, ((But.refl _ w1).below HB.out).then_ HX.out.2.1, hat_up HX.out.2.2 HB.out.size⟩
end Go.Proofs.YtfpijjjmgggfkaaDoorE

namespace Go.Proofs.YtfpijjjmgggfkaaDoorE
open Go Go.RowKit Go.Proofs.YtfpijjjmgggfkaaDoorW.PrintWords Go.Proofs.YtfpijjjmgggfkaaDoorW.PrintMore Go.Proofs.YtfpijjjmgggfkaaDoor.P01 Go.Proofs.YtfpijjjmgggfkaaDoor.L01
set_option maxRecDepth 100000
set_option linter.unusedVariables false
def bytesI (s : ByteArray) : List Int := s.data.toList.map (fun b => (b.toNat : Int))
theorem bytesI_len (s : ByteArray) : (bytesI s).length = s.size := by unfold bytesI; rw [List.length_map, Array.length_toList]; rfl
theorem bytesI_bytes (s : ByteArray) : Bytes (bytesI s) := by
  intro x hx
  obtain ⟨b, -, rfl⟩ := List.mem_map.1 hx
  have := b.toNat_lt
  omega
def encT (s : ByteArray) : List Int := enc s.size ++ bytesI s
def encTs (l : List ByteArray) : List Int := l.flatMap encT
theorem encTs_take {l : List ByteArray} {k : Nat} (hk : k < l.length) : encTs (l.take (k + 1)) = encTs (l.take k) ++ encT l[k] := by
  unfold encTs
  rw [List.take_succ_eq_append_getElem hk, List.flatMap_append]
  simp only [List.flatMap_cons, List.flatMap_nil, List.append_nil]
theorem encTs_le {l : List ByteArray} (k : Nat) : (encTs (l.take k)).length ≤ (encTs l).length := by
  conv => rhs; rw [← List.take_append_drop k l]
  unfold encTs
  rw [List.flatMap_append, List.length_append]
  omega
/-- []byte(s): what the new row shows. -/
theorem conv_C (w : World) (s : ByteArray) (hs : s.size ≤ 9223372036854775807) : Kd.C (Kd.int .u8) (Lib.bytesWorld w 5 s) (some ⟨w.heap.size, 0, none⟩) (bytesI s).length (bytesI s) := by
  refine ⟨rfl, by rw [bytesI_len]; exact hs, fun _ => ⟨_, rfl, ?_⟩⟩
  intro j x hx
  have hj : j < s.size := by
    have := (List.getElem?_eq_some_iff.1 hx).1
    rw [bytesI_len] at this
    exact this
  refine ⟨[.int .u8 x], rfl, rfl, ?_⟩
  intro i u hu
  match i, hu with
  | 0, hu =>
    simp at hu
    subst hu
    show (Lib.bytesWorld w 5 s).cell? ((⟨w.heap.size, 0, none⟩ : Addr).add (j * 1 + 0)) = _
    rw [add_plain, Nat.mul_one, Nat.add_zero, Lib.bytesWorld_cell w _ s j hj]
    congr 2
    unfold bytesI at hx
    rw [List.getElem?_map] at hx
    obtain ⟨b, hb, rfl⟩ := Option.map_eq_some_iff.1 hx
    rw [List.getD_eq_getElem?_getD, hb]
    rfl
theorem one_nums (n : Nat) (hn : n < 18446744073709551616) : Nums [(n : Int)] := by
  intro x hx
  simp at hx
  subst hx
  omega
theorem encs_nat (n : Nat) : encs [(n : Int)] = enc n := by rw [encs_one]; rfl
theorem But.hat {w w1 w2 : World} {g : Nat} {v v' : Value} (h : But (fun k => k = g ∨ some k = v.ownBlock) w w1) (k : But (fun k => k = g ∨ some k = v'.ownBlock) w1 w2) (hh : Go.Proofs.YtfpijjjmgggfkaaDoorE.hat w v v') : But (fun k => k = g ∨ some k = v.ownBlock) w w2 := by
  refine h.trans k ?_
  rintro j (rfl | e)
  · exact .inl (.inl rfl)
  · rcases hh with hh | ⟨b, hb, hle⟩
    · exact .inl (.inr (e.trans hh))
    · rw [hb] at e
      injection e with e
      exact .inr (by omega)
theorem put_m (B g : Nat) (v : Value) (bs xs : List Int) (m : Nat) (hm : xs.length = m) (A : Option Addr) (c : Nat) (w : World) (hB : B ≤ g) (hBw : B ≤ w.heap.size) (hg : w.heap[g]? = some (.cells #[v] 70 (0, 0))) (HR : own8 B v bs w) (hC : Kd.C (Kd.int .u8) w A xs.length xs) (hlen : bs.length + xs.length ≤ 140737488355328) :
    Calls Tryd.prog 30 #[.pointer (some ⟨g, 0, none⟩), .slice A m c] w fun e w' => e = .returned (.tuple #[]) ∧ ∃ v', w'.heap[g]? = some (.cells #[v'] 70 (0, 0)) ∧ own8 B v' (bs ++ xs) w' ∧ But (fun k => k = g ∨ some k = v.ownBlock) w w' ∧ hat w v v' := by
  subst hm
  exact put_c B g v bs xs A c w hB hBw hg HR hC hlen
theorem box_C {W : World} {b : Nat} {n : Int} (h : W.cell? ⟨b, 0, none⟩ = some (.int .u64 n)) : Kd.C (Kd.int .u64) W (some ⟨b, 0, none⟩) [n].length [n] := by
  refine ⟨rfl, by show 1 ≤ _; omega, fun _ => ⟨_, rfl, ?_⟩⟩
  intro j x hx
  match j, hx with
  | 0, hx =>
    simp at hx
    subst hx
    refine ⟨[.int .u64 n], rfl, rfl, ?_⟩
    intro i u hu
    match i, hu with
    | 0, hu =>
      simp at hu
      subst hu
      show W.cell? ((⟨b, 0, none⟩ : Addr).add (0 * 1 + 0)) = _
      rw [add_plain]
      exact h
set_option maxHeartbeats 1000000 in
theorem w_text (B p g : Nat) (v : Value) (bs : List Int) (l : List ByteArray) (ad : Addr) (c : Nat) (w : World) (hBw : B ≤ w.heap.size) (h : AtW B p g v bs w) (hF : Kd.F Kd.string w (fun k => k ≠ g ∧ some k ≠ v.ownBlock) (some ad) l.length l) (hc : l.length ≤ c) (hmax : l.length ≤ 9223372036854775807) (hlen : bs.length + (encTs l).length ≤ 140737488355328) :
    Calls Tryd.prog 32 #[.pointer (some ⟨p, 0, none⟩), .slice (some ad) l.length c] w fun e w' => e = .returned (.tuple #[]) ∧ StepW B p g v (bs ++ encTs l) w w' := by
  have H := Aside0.mk h
  have HF := Aside0.mk hF
  have hp := h.2.2.1
  clear h hF
  go_enter Tryd.func32, Tryd.ntmps32
  go_wp2_with fail
  refine (ready_c p g w hp).mono ?_
  rintro e w1 ⟨rfl, rfl⟩
  go_wp2_with fail
  go_loopw [5, 11] (fun _ i wr => ∃ (k : Nat) (v' : Value), k ≤ l.length ∧ i = .int .i64 k ∧ AtW B p g v' (bs ++ encTs (l.take k)) wr ∧ But (fun b => b = g ∨ some b = v.ownBlock) w1 wr ∧ hat w1 v v') (fun _ i _ => l.length - (intOf i).toNat)
  case atStart => exact ⟨0, v, Nat.zero_le _, rfl, by simpa [encTs] using H.out, But.refl _ _, .inl rfl⟩
  case round =>
    obtain ⟨k, v', hk, rfl, hW, hb, hh⟩ := hrel
    have c0 : wr.cell? ⟨p, 0, none⟩ = some (.pointer (some ⟨g, 0, none⟩)) := by rw [Lib.cell_of_heap hW.2.2.1]; rfl
    have HW := Aside0.mk hW
    have HB := Aside0.mk hb
    have HH := Aside0.mk hh
    clear hW hb hh
    have hcell : (k : Int) < l.length → wr.cell? (ad.add k) = some (.string (l.getD k ⟨#[]⟩)) := by
      intro hlt
      have hC := Kd.F_now (Kd.F_step HF.out (fun b hb hbl => HB.out.block b hbl (fun h => h.elim hb.1 hb.2)))
      obtain ⟨ad', hA, hcs⟩ := hC.2.2 (by omega)
      injection hA with hA
      subst hA
      obtain ⟨cs, -, rfl, hcc⟩ := hcs k _ (List.getElem?_eq_getElem (by omega))
      have := hcc 0 _ rfl
      rw [show k * Kd.string.sz + 0 = k by show k * 1 + 0 = k; omega] at this
      rw [this, List.getD_eq_getElem?_getD, List.getElem?_eq_getElem (by omega)]
      rfl
    obtain ⟨s, hsd⟩ : ∃ s, s = l.getD k ⟨#[]⟩ := ⟨_, rfl⟩
    rw [← hsd] at hcell
    have hsz : (k : Int) < l.length → bs.length + (encTs (l.take k)).length + (enc s.size ++ bytesI s).length ≤ 140737488355328 := by
      intro hlt
      have h1 := encTs_le (l := l) (k + 1)
      rw [encTs_take (show k < l.length by omega), List.length_append] at h1
      rw [List.getD_eq_getElem?_getD, List.getElem?_eq_getElem (show k < l.length by omega)] at hsd
      simp only [Option.getD_some] at hsd
      rw [← hsd] at h1
      unfold encT at h1
      omega
    have hs63 : s.size ≤ 140737488355328 := by
      by_cases hlt : k < l.length
      · have := hsz (by omega)
        rw [List.length_append, bytesI_len] at this
        omega
      · rw [hsd, List.getD_eq_getElem?_getD, List.getElem?_eq_none (by omega)]
        show 0 ≤ _
        omega
    have HSZ := Aside0.mk hsz
    have HSD := Aside0.mk hsd
    have HMAX := Aside0.mk hlen
    clear hsz hsd hlen
    go_wp2_with fail
    · have hlt : k < l.length := by assumption
      have hz := HSZ.out (by omega)
      rw [List.length_append] at hz
      have HZ := Aside0.mk hz
      clear hz
      have hpl : p < wr.heap.size := blk_lt' HW.out.2.2.1
      have e0 : ∀ o, (wr.alloc o).cell? ⟨p, 0, none⟩ = some (.pointer (some ⟨g, 0, none⟩)) := fun o => pw_cell_below (below_alloc (Below.refl _ _) o) c0
      have hw : IntKind.u64.wrap (s.size : Int) = (s.size : Int) := wu64 (by omega) (by omega)
      go_region_with (first
        | (go_at_call 31
           go_loud (
           refine (oput_c [(s.size : Int)] (some _) 1 _ ?_ (Nat.le_refl _) (one_nums _ (by omega)) (by show 1 ≤ _; omega)).mono ?_
           · exact box_C (by go_simp)
           rintro e w2 ⟨A', c', rfl, hC', hb⟩
           have HW2 := Aside0.mk (AtW.below (AtW.below HW.out (by repeat (first | exact Below.refl _ _ | apply below_alloc | apply below_drew1))) hb)
           have HC' := Aside0.mk hC'
           have HB2 := Aside0.mk (below_then (show Below wr.heap.size wr _ by repeat (first | exact Below.refl _ _ | apply below_alloc | apply below_drew1)) (below_size (show Below wr.heap.size wr _ by repeat (first | exact Below.refl _ _ | apply below_alloc | apply below_drew1))) hb)
           have d0 : w2.cell? ⟨p, 0, none⟩ = some (.pointer (some ⟨g, 0, none⟩)) := by rw [Lib.cell_of_heap HW2.out.2.2.1]; rfl
           clear hC' hb))
        | (go_at_call 30
           go_loud (
           refine (put_c B g v' (bs ++ encTs (l.take k)) (encs [(s.size : Int)]) _ _ _ HW2.out.2.1 ?_ HW2.out.2.2.2.1 HW2.out.2.2.2.2 HC'.out ?_).mono ?_
           · exact Nat.le_trans hBw (Nat.le_trans HB.out.size HB2.out.size)
           · rw [encs_nat, List.length_append]; have := HZ.out; omega
           rintro e w3 ⟨rfl, v2, hg3, hR3, hb3, hh3⟩
           have HX := Aside0.mk (And.intro (AtW.put HW2.out hg3 hR3 hb3) (And.intro hb3 hh3))
           clear hg3 hR3 hb3 hh3)))
      all_goals
        have d3 : w3.cell? ⟨p, 0, none⟩ = some (.pointer (some ⟨g, 0, none⟩)) := by rw [Lib.cell_of_heap HX.out.1.2.2.1]; rfl
        go_wp2_with fail
        rw [Lib.run_convert_string_bytes w3 _ _ 5 s Tryd.underlying9 Tryd.underlying25 Tryd.underlying5]
        simp only [Result.andThen]
        rw [Oper.upon_value]
        have B3 := Aside0.mk (bytes_below (Below.refl _ w3) (Nat.le_refl _) 5 s)
        have HW4 := Aside0.mk (AtW.below HX.out.1 B3.out)
        go_wp2_with fail
        refine (put_m B g v2 _ (bytesI s) s.size (bytesI_len s) _ _ _ HW4.out.2.1 ?_ HW4.out.2.2.2.1 HW4.out.2.2.2.2 (conv_C w3 s (by omega)) ?_).mono ?_
        · exact Nat.le_trans hBw (Nat.le_trans HB.out.size (Nat.le_trans HB2.out.size (Nat.le_trans HX.out.2.1.size B3.out.size)))
        · rw [encs_nat, List.length_append, List.length_append]; have := HZ.out; omega
        rintro e w5 ⟨rfl, v5, hg5, hR5, hb5, hh5⟩
        have HY := Aside0.mk (And.intro (AtW.put HW4.out hg5 hR5 hb5) (And.intro hb5 hh5))
        clear hg5 hR5 hb5 hh5
        go_wp2_with fail
        have h2 := hat_trans HH.out (hat_up HX.out.2.2 HB2.out.size) HB.out.size
        have b1 := (HB.out.below HB2.out).hat HX.out.2.1 HH.out
        have b2 := (b1.below B3.out).hat HY.out.2.1 h2
        have h3 := hat_trans h2 (hat_up HY.out.2.2 B3.out.size) b1.size
        have HE := Aside0.mk (And.intro b2 h3)
        clear h2 b1 b2 h3
        go_roundw
        case rel =>
          refine ⟨k + 1, v5, by omega, by go_num, ?_, HE.out.1, HE.out.2⟩
          have := HY.out.1
          rw [encs_nat] at this
          rw [encTs_take hlt]
          have hs := HSD.out
          rw [List.getD_eq_getElem?_getD, List.getElem?_eq_getElem hlt] at hs
          simp only [Option.getD_some] at hs
          rw [← hs]
          unfold encT
          simp only [List.append_assoc] at this ⊢
          exact this
        case measure => simp [intOf]; omega
    · have hge : ¬ k < l.length := by assumption
      obtain rfl : k = l.length := by omega
      have := HW.out
      rw [List.take_length] at this
      have HT := Aside0.mk this
      clear this
      go_end0
      exact ⟨rfl, v', HT.out, HB.out, HH.out⟩
end Go.Proofs.YtfpijjjmgggfkaaDoorE

namespace Go.Proofs.YtfpijjjmgggfkaaDoorE
open Go Go.RowKit Go.Proofs.YtfpijjjmgggfkaaDoorW.PrintWords Go.Proofs.YtfpijjjmgggfkaaDoorW.PrintMore Go.Proofs.YtfpijjjmgggfkaaDoor.P01 Go.Proofs.YtfpijjjmgggfkaaDoor.L01
set_option maxRecDepth 100000
set_option linter.unusedVariables false
theorem clone_c (A : Option Addr) (c : Nat) (xs : List Int) (w : World) (hC : Kd.C (Kd.int .u8) w A xs.length xs) (hlen : xs.length ≤ 140737488355328) :
    Calls Tryd.prog 33 #[.slice A xs.length c] w fun e w' => (∃ v, e = .returned v ∧ own8 w.heap.size v xs w') ∧ Below w.heap.size w w' := by
  have HC := Aside0.mk hC
  clear hC
  rcases A with _ | ad
  · have h0 : xs = [] := by
      by_cases h : 0 < xs.length
      · obtain ⟨ad, h, _⟩ := HC.out.2.2 h; cases h
      · exact List.eq_nil_of_length_eq_zero (by omega)
    subst h0
    have he : ∀ w : World, (binOp .eql 25 (.slice none 0 c) (.slice none 0 0)).run Tryd.prog w = .ok (.bool true) w := fun _ => rfl
    go_enter Tryd.func33, Tryd.ntmps33
    go_wp2_with fail
    go_ret
    exact ⟨⟨_, rfl, Kd.R_nil _ _ _ _ _⟩, Below.refl _ _⟩
  · have he : ∀ w : World, (binOp .eql 25 (.slice (some ad) xs.length c) (.slice none 0 0)).run Tryd.prog w = .ok (.bool false) w := fun _ => rfl
    go_enter Tryd.func33, Tryd.ntmps33
    have hO : own8 w.heap.size (.slice (some ⟨w.heap.size, 0, none⟩) 0 0) [] (w.alloc (.cells #[] 5)) := Kd.R_of_own (enc := Value.int .u8) (h1 := fun _ => rfl) (World.ownsRow_made w #[] 0 (Nat.le_refl _) (by decide) (by decide)) (fun _ _ => trivial)
    have HO := Aside0.mk hO
    clear hO
    go_wp2_with (at_builtin; refine Kd.R_append_row (w0 := w) (Value.int .u8) (0 : Int) (h1 := fun _ => rfl) w.heap.size rfl _ _ 25 5 (.int .u8 0) 1 rfl Tryd.underlying25 info_byte rfl (by decide) _ [] xs (some ad) xs.length c (fun _ => True) rfl rfl (fun _ _ => trivial) HO.out (Kd.C_alloc HC.out _) (below_alloc (Below.refl _ _) _) ?_ ?_ ?_)
    · simp
    · simpa using hlen
    intro v' w' hown hbel hgr hhat
    have H1 := Aside0.mk hown
    have H2 := Aside0.mk hbel
    clear hown hbel hgr hhat
    go_wp2_with fail
    go_ret
    exact ⟨⟨_, rfl, H1.out⟩, H2.out⟩
theorem own8_reads {B : Nat} {v : Value} {xs : List Int} {w : World} (h : own8 B v xs w) : ∃ A c, v = .slice A xs.length c ∧ xs.length ≤ c ∧ Kd.C (Kd.int .u8) w A xs.length xs := Kd.R_reads h
theorem w_bytes (B p g : Nat) (v : Value) (bs : List Int) (w : World) (h : AtW B p g v bs w) (hlen : bs.length ≤ 140737488355328) :
    Calls Tryd.prog 19 #[.pointer (some ⟨p, 0, none⟩)] w fun e w' => (∃ v', e = .returned v' ∧ own8 w.heap.size v' bs w') ∧ Below w.heap.size w w' := by
  obtain ⟨h1, h2, hp, hg, HR⟩ := h
  obtain ⟨A, c, rfl, hc, hC⟩ := own8_reads HR
  have c0 : w.cell? ⟨p, 0, none⟩ = some (.pointer (some ⟨g, 0, none⟩)) := by rw [Lib.cell_of_heap hp]; rfl
  have d0 : w.cell? ⟨g, 0, none⟩ = some (.slice A bs.length c) := by rw [Lib.cell_of_heap hg]; rfl
  have HC := Aside0.mk hC
  clear HR hC
  go_enter Tryd.func19, Tryd.ntmps19
  go_wp2_with fail
  refine (ready_c p g w hp).mono ?_
  rintro e w1 ⟨rfl, rfl⟩
  go_wp2_with fail
  refine (clone_c A c bs _ HC.out hlen).mono ?_
  rintro e w2 ⟨⟨v', rfl, hO⟩, hb⟩
  have H1 := Aside0.mk hO
  have H2 := Aside0.mk hb
  clear hO hb
  go_wp2_with fail
  go_ret
  exact ⟨⟨_, rfl, H1.out⟩, H2.out⟩
theorem own8_F {B : Nat} {A : Option Addr} {c : Nat} {xs : List Int} {W : World} (h : own8 B (.slice A xs.length c) xs W) : Kd.F (Kd.int .u8) W (fun k => B ≤ k ∧ k < W.heap.size) A xs.length xs :=
  fun W' hm => (Kd.R_reads' (Kd.R_step (Kd.R_bound (Kd.R_tight rfl h)) (fun k hk hlt => hm k ⟨hk.2.1, hk.2.2.1⟩ hlt))).2.2
/-- A reader of bytes: its row is its own. -/
theorem read_c (A : Option Addr) (c : Nat) (xs : List Int) (hB : Bytes xs) (w : World) (hC : Kd.C (Kd.int .u8) w A xs.length xs) (hlen : xs.length ≤ 140737488355328) :
    Calls Tryd.prog 39 #[.slice A xs.length c] w fun e w' => (∃ p, e = .returned (.pointer (some ⟨p, 0, none⟩)) ∧ w.heap.size ≤ p ∧ AtR 107 p (fun k => w.heap.size ≤ k ∧ k < p) xs 0 w') ∧ Below w.heap.size w w' := by
  have HC := Aside0.mk hC
  clear hC
  go_enter Tryd.func39, Tryd.ntmps39
  go_wp2_with fail
  refine (clone_c A c xs _ HC.out hlen).mono ?_
  rintro e w2 ⟨⟨v', rfl, hO⟩, hb⟩
  obtain ⟨A', c', rfl, hc', hC'⟩ := own8_reads hO
  have H1 := Aside0.mk hO
  have H2 := Aside0.mk hb
  have H3 := Aside0.mk hC'
  clear hO hb hC'
  go_wp2_with fail
  go_ret
  refine ⟨⟨_, rfl, H2.out.size, fun h => Nat.lt_irrefl _ h.2, hB, A', c', heap_alloc_new _ _, hc', Kd.F_alloc ?_ _⟩, below_alloc H2.out _⟩
  exact own8_F H1.out
theorem new_c (w : World) : Calls Tryd.prog 16 #[] w fun e w' => (∃ p g, e = .returned (.pointer (some ⟨p, 0, none⟩)) ∧ AtW w.heap.size p g (.slice none 0 0) [] w') ∧ Below w.heap.size w w' := by
  go_enter Tryd.func16, Tryd.ntmps16
  go_wp2_with fail
  go_ret
  refine ⟨⟨_, _, rfl, Nat.le_succ _, Nat.le_refl _, ?_, ?_, Kd.R_nil _ _ _ _ _⟩, below_alloc (below_alloc (Below.refl _ _) _) _⟩
  · have := heap_alloc_new (w.alloc (.cells #[.slice none 0 0] 70)) (.cells #[.pointer (some ⟨w.heap.size, 0, none⟩)] 72)
    simpa using this
  · have := heap_alloc_new w (.cells #[.slice none 0 0] 70)
    rw [(below_alloc (Below.refl (w.alloc (.cells #[.slice none 0 0] 70)).heap.size (w.alloc (.cells #[.slice none 0 0] 70))) _).block _ (by simp)]
    exact this
end Go.Proofs.YtfpijjjmgggfkaaDoorE

namespace Go.Proofs.YtfpijjjmgggfkaaDoorE
open Go Go.RowKit Go.Proofs.YtfpijjjmgggfkaaDoorW.PrintWords Go.Proofs.YtfpijjjmgggfkaaDoorW.PrintMore Go.Proofs.YtfpijjjmgggfkaaDoor.P01 Go.Proofs.YtfpijjjmgggfkaaDoor.L01
set_option maxRecDepth 100000
set_option linter.unusedVariables false
theorem rput_c (xs : List Int) (A : Option Addr) (c : Nat) (w : World) (hC : Kd.C (Kd.int .u64) w A xs.length xs) (hc : xs.length ≤ c) (hN : Nums xs) (hl : xs.length ≤ 1000000000000) :
    Calls Tryd.prog 62 #[.slice A xs.length c] w fun e w' => (∃ v, e = .returned v ∧ own8 w.heap.size v (encs xs) w') ∧ Below w.heap.size w w' := by
  obtain ⟨k, hk⟩ := rput_ev xs hN hl
  refine (tendrilref01_Put.calls k A c xs _ w hC hc (hk k (Nat.le_refl _))).mono ?_
  rintro e w' ⟨v, rfl, hR, hb⟩
  exact ⟨⟨v, rfl, hR⟩, hb⟩
theorem xnum_c (n : Int) (h0 : 0 ≤ n) (h1 : n < 18446744073709551616) (w : World) :
    Calls Tryd.prog 44 #[.int .u64 n] w fun e w' => (∃ v, e = .returned v ∧ own8 w.heap.size v (enc n.toNat) w') ∧ Below w.heap.size w w' := by
  have hN : Nums [n] := by
    intro x hx
    simp at hx
    subst hx
    exact ⟨h0, h1⟩
  have hb0 : Below w.heap.size w (w.alloc (.cells #[.int .u64 n] 50)) := below_alloc (Below.refl _ _) _
  have HC := rput_c [n] (some ⟨w.heap.size, 0, none⟩) 1 (w.alloc (.cells #[.int .u64 n] 50)) (box_C (by rw [Lib.cell_of_heap (heap_alloc_new w _)]; rfl)) (Nat.le_refl _) hN (by show 1 ≤ _; omega)
  rw [encs_one] at HC
  go_enter Tryd.func44, Tryd.ntmps44
  go_wp2_with fail
  refine HC.mono ?_
  rintro e w2 ⟨⟨v, rfl, hO⟩, hb⟩
  obtain ⟨A, c, rfl, -, -⟩ := own8_reads hO
  have H1 := Aside0.mk (Kd.R_lower hO hb0.size)
  have H2 := Aside0.mk (below_then hb0 hb0.size hb)
  clear hO hb
  go_wp2_with fail
  go_ret
  exact ⟨⟨_, rfl, H1.out⟩, H2.out⟩
theorem xtext_c (s : ByteArray) (hs : s.size ≤ 70000) (w : World) :
    Calls Tryd.prog 63 #[.string s] w fun e w' => (∃ v, e = .returned v ∧ own8 w.heap.size v (encT s) w') ∧ Below w.heap.size w w' := by
  have hE : (enc s.size).length ≤ 10 := enc_le10 (by omega)
  have HN := xnum_c (s.size : Int) (by omega) (by omega) w
  rw [Int.toNat_natCast] at HN
  go_enter Tryd.func63, Tryd.ntmps63
  go_wp2_with fail
  refine HN.mono ?_
  rintro e w2 ⟨⟨v, rfl, hO⟩, hb⟩
  have H1 := Aside0.mk hO
  have H2 := Aside0.mk hb
  clear hO hb
  go_wp2_with fail
  rw [Lib.run_convert_string_bytes w2 _ _ 5 s Tryd.underlying9 Tryd.underlying25 Tryd.underlying5]
  simp only [Result.andThen]
  rw [Oper.upon_value]
  have B3 := Aside0.mk (bytes_below (Below.refl _ w2) (Nat.le_refl _) 5 s)
  have HR := Aside0.mk (Kd.R_below H1.out B3.out)
  have HC := Aside0.mk (conv_C w2 s (by omega))
  go_wp2_with (at_builtin; refine Kd.R_append_row (w0 := w) (Value.int .u8) (0 : Int) (h1 := fun _ => rfl) w.heap.size rfl _ _ 25 5 (.int .u8 0) 1 rfl Tryd.underlying25 info_byte rfl (by decide) v (enc s.size) (bytesI s) _ _ _ (fun _ => True) rfl (by rw [bytesI_len]; rfl) (fun _ _ => trivial) HR.out HC.out (H2.out.trans (B3.out.mono H2.out.size)) (Nat.le_trans H2.out.size B3.out.size) ?_ ?_)
  · rw [bytesI_len]; omega
  intro v' w' hown hbel hgr hhat
  obtain ⟨A', c', rfl⟩ := Kd.R_slice hown
  have H5 := Aside0.mk hown
  have H6 := Aside0.mk hbel
  clear hown hbel hgr hhat
  go_wp2_with fail
  go_ret
  exact ⟨⟨_, rfl, H5.out⟩, H6.out⟩
theorem str_bytesI (s : ByteArray) : strOfNums (bytesI s) = s := by
  unfold strOfNums bytesI
  rw [List.map_map]
  have : (s.data.toList.map ((fun n : Int => UInt8.ofNat n.toNat) ∘ fun b : UInt8 => (b.toNat : Int))) = s.data.toList := by
    conv => rhs; rw [← List.map_id s.data.toList]
    refine List.map_congr_left fun b _ => ?_
    simp
  rw [this]
end Go.Proofs.YtfpijjjmgggfkaaDoorE

namespace Go.Proofs.YtfpijjjmgggfkaaDoorE
open Go Go.RowKit Go.Proofs.YtfpijjjmgggfkaaDoorW.PrintWords Go.Proofs.YtfpijjjmgggfkaaDoorW.PrintMore Go.Proofs.YtfpijjjmgggfkaaDoorX Go.Proofs.YtfpijjjmgggfkaaDoor.P26 Go.Proofs.YtfpijjjmgggfkaaDoor.L01
set_option linter.unusedVariables false
set_option linter.unusedSimpArgs false
/-- The ending of a reading that is stopped by an error. -/
def stopE (n : Int) : Ending := .panicked [{ v := .iface 82 (.int .i64 n), recovered := false }]
theorem must_ok (w : World) : Calls Tryd.prog 42 #[.int .i64 0] w fun e w' => e = .returned (.tuple #[]) ∧ w' = w := by
  go_enter Tryd.func42, Tryd.ntmps42
  go_wp2_with fail
  go_end0
  exact ⟨rfl, rfl⟩
theorem must_bad (n : Int) (h : n ≠ 0) (w : World) : Calls Tryd.prog 42 #[.int .i64 n] w fun e w' => e = stopE n ∧ w' = w := by
  have h1 : (n == 0) = false := by simpa using h
  have h2 : (n != 0) = true := by simpa using h
  unfold stopE
  go_enter Tryd.func42, Tryd.ntmps42
  go_wp2_with fail
  exact ⟨rfl, rfl, rfl⟩
theorem AtR.al {T p : Nat} {ok : Nat → Prop} {bs : List Int} {er : Int} {w : World} (h : AtR T p ok bs er w) (o : Obj) : AtR T p ok bs er (w.alloc o) := h.but ((But.refl (fun _ => False) w).alloc o) (fun _ h => h.elim)
/-- What is left of a reading that goes on. -/
def Rd (p : Nat) (ok : Nat → Prop) (bs : List Int) (er : Int) (w w' : World) : Prop := AtR 107 p ok bs er w' ∧ But (· = p) w w'
theorem num_ok (p : Nat) (ok : Nat → Prop) (bs : List Int) (er most : Int) (w : World) (h : AtR 107 p ok bs er w) (he : (numR bs er most).1.2 = 0) (h0 : 0 ≤ (numR bs er most).1.1) (h1 : (numR bs er most).1.1 ≤ 4294967295) :
    Calls Tryd.prog 40 #[.agg #[.pointer (some ⟨p, 0, none⟩)], .int .u64 most] w fun e w' => e = .returned (.int .i64 (numR bs er most).1.1) ∧ Rd p ok (numR bs er most).2.1 (numR bs er most).2.2 w w' := by
  have HR := Aside0.mk (r_num p ok bs er most _ (h.al (.cells #[.pointer (some ⟨p, 0, none⟩)] 87)))
  obtain ⟨R, hR⟩ : ∃ R, R = numR bs er most := ⟨_, rfl⟩
  rw [← hR] at HR he h0 h1 ⊢
  rw [he] at HR
  clear hR h he
  go_enter Tryd.func40, Tryd.ntmps40
  go_wp2_with (first
    | (go_at_call 59; (with_reducible refine (HR.out).mono ?_); rintro e w1 ⟨rfl, h2, h3⟩; have H2 := Aside0.mk h2; have H3 := Aside0.mk h3; clear h2 h3)
    | (go_at_call 42; (with_reducible refine (must_ok _).mono ?_); rintro e w2 ⟨rfl, rfl⟩))
  go_ret
  exact ⟨rfl, H2.out, ((But.refl _ w).alloc _).then_ H3.out⟩
theorem num_bad (p : Nat) (ok : Nat → Prop) (bs : List Int) (er most : Int) (w : World) (h : AtR 107 p ok bs er w) (he : (numR bs er most).1.2 ≠ 0) :
    Calls Tryd.prog 40 #[.agg #[.pointer (some ⟨p, 0, none⟩)], .int .u64 most] w fun e w' => e = stopE (numR bs er most).1.2 ∧ But (· = p) w w' := by
  have HR := Aside0.mk (r_num p ok bs er most _ (h.al (.cells #[.pointer (some ⟨p, 0, none⟩)] 87)))
  obtain ⟨R, hR⟩ : ∃ R, R = numR bs er most := ⟨_, rfl⟩
  rw [← hR] at HR he ⊢
  have HM := Aside0.mk (must_bad R.1.2 he)
  unfold stopE at HM ⊢
  clear hR h he
  go_enter Tryd.func40, Tryd.ntmps40
  go_wp2_with (first
    | (go_at_call 59; (with_reducible refine (HR.out).mono ?_); rintro e w1 ⟨rfl, h2, h3⟩; have H3 := Aside0.mk h3; clear h2 h3)
    | (go_at_call 42; (with_reducible refine (HM.out _).mono ?_); rintro e w2 ⟨rfl, rfl⟩))
  exact ⟨rfl, rfl, ((But.refl _ w).alloc _).then_ H3.out⟩
theorem text_ok (p : Nat) (ok : Nat → Prop) (bs : List Int) (er : Int) (w : World) (hlen : bs.length ≤ 9223372036854775807) (h : AtR 107 p ok bs er w) (he : (textR bs er 65536).1.2 = 0) :
    Calls Tryd.prog 60 #[.agg #[.pointer (some ⟨p, 0, none⟩)]] w fun e w' => e = .returned (.string (textR bs er 65536).1.1) ∧ Rd p ok (textR bs er 65536).2.1 (textR bs er 65536).2.2 w w' := by
  have HR := Aside0.mk (r_text p ok bs er 65536 (by omega) (by omega) hlen _ (h.al (.cells #[.pointer (some ⟨p, 0, none⟩)] 87)))
  obtain ⟨R, hR⟩ : ∃ R, R = textR bs er 65536 := ⟨_, rfl⟩
  rw [← hR] at HR he ⊢
  rw [he] at HR
  clear hR h he
  go_enter Tryd.func60, Tryd.ntmps60
  go_wp2_with (first
    | (go_at_call 72; (with_reducible refine (HR.out).mono ?_); rintro e w1 ⟨rfl, h2, h3⟩; have H2 := Aside0.mk h2; have H3 := Aside0.mk h3; clear h2 h3)
    | (go_at_call 42; (with_reducible refine (must_ok _).mono ?_); rintro e w2 ⟨rfl, rfl⟩))
  go_ret
  exact ⟨rfl, H2.out, ((But.refl _ w).alloc _).then_ H3.out⟩
theorem text_bad (p : Nat) (ok : Nat → Prop) (bs : List Int) (er : Int) (w : World) (hlen : bs.length ≤ 9223372036854775807) (h : AtR 107 p ok bs er w) (he : (textR bs er 65536).1.2 ≠ 0) :
    Calls Tryd.prog 60 #[.agg #[.pointer (some ⟨p, 0, none⟩)]] w fun e w' => e = stopE (textR bs er 65536).1.2 ∧ But (· = p) w w' := by
  have HR := Aside0.mk (r_text p ok bs er 65536 (by omega) (by omega) hlen _ (h.al (.cells #[.pointer (some ⟨p, 0, none⟩)] 87)))
  obtain ⟨R, hR⟩ : ∃ R, R = textR bs er 65536 := ⟨_, rfl⟩
  rw [← hR] at HR he ⊢
  have HM := Aside0.mk (must_bad R.1.2 he)
  unfold stopE at HM ⊢
  clear hR h he
  go_enter Tryd.func60, Tryd.ntmps60
  go_wp2_with (first
    | (go_at_call 72; (with_reducible refine (HR.out).mono ?_); rintro e w1 ⟨rfl, h2, h3⟩; have H3 := Aside0.mk h3; clear h2 h3)
    | (go_at_call 42; (with_reducible refine (HM.out _).mono ?_); rintro e w2 ⟨rfl, rfl⟩))
  exact ⟨rfl, rfl, ((But.refl _ w).alloc _).then_ H3.out⟩
theorem handle_ok (p : Nat) (ok : Nat → Prop) (bs : List Int) (er : Int) (w : World) (h : AtR 107 p ok bs er w) (he : (numR bs er 4294967295).1.2 = 0) (h0 : 0 ≤ (numR bs er 4294967295).1.1) (h1 : (numR bs er 4294967295).1.1 ≤ 4294967295) :
    Calls Tryd.prog 61 #[.agg #[.pointer (some ⟨p, 0, none⟩)]] w fun e w' => e = .returned (.int .i64 (numR bs er 4294967295).1.1) ∧ Rd p ok (numR bs er 4294967295).2.1 (numR bs er 4294967295).2.2 w w' := by
  have HR := Aside0.mk (num_ok p ok bs er 4294967295 _ (h.al (.cells #[.pointer (some ⟨p, 0, none⟩)] 87)) he h0 h1)
  clear h he h0 h1
  go_enter Tryd.func61, Tryd.ntmps61
  go_wp2_with (go_at_call 40; (with_reducible refine (HR.out).mono ?_); rintro e w1 ⟨rfl, h2, h3⟩; have H2 := Aside0.mk h2; have H3 := Aside0.mk h3; clear h2 h3)
  go_ret
  exact ⟨rfl, H2.out, ((But.refl _ w).alloc _).then_ H3.out⟩
theorem handle_bad (p : Nat) (ok : Nat → Prop) (bs : List Int) (er : Int) (w : World) (h : AtR 107 p ok bs er w) (he : (numR bs er 4294967295).1.2 ≠ 0) :
    Calls Tryd.prog 61 #[.agg #[.pointer (some ⟨p, 0, none⟩)]] w fun e w' => e = stopE (numR bs er 4294967295).1.2 ∧ But (· = p) w w' := by
  have HR := Aside0.mk (num_bad p ok bs er 4294967295 _ (h.al (.cells #[.pointer (some ⟨p, 0, none⟩)] 87)) he)
  unfold stopE at HR ⊢
  clear h he
  go_enter Tryd.func61, Tryd.ntmps61
  go_wp2_with (go_at_call 40; (with_reducible refine (HR.out).mono ?_); rintro e w1 ⟨rfl, h3⟩; have H3 := Aside0.mk h3; clear h3)
  exact ⟨rfl, rfl, ((But.refl _ w).alloc _).then_ H3.out⟩
end Go.Proofs.YtfpijjjmgggfkaaDoorE

namespace Go.Proofs.YtfpijjjmgggfkaaDoorE
open Go Go.RowKit Go.Proofs.YtfpijjjmgggfkaaDoorW.PrintWords Go.Proofs.YtfpijjjmgggfkaaDoorW.PrintMore Go.Proofs.YtfpijjjmgggfkaaDoorX Go.Proofs.YtfpijjjmgggfkaaDoor.P26 Go.Proofs.YtfpijjjmgggfkaaDoor.L01
set_option linter.unusedVariables false
set_option linter.unusedSimpArgs false
/-- What is left, and the first error. -/
abbrev St := List Int × Int
def nS (s : St) (m : Int) : (Int × Int) × St := numR s.1 s.2 m
def tS (s : St) : (ByteArray × Int) × St := textR s.1 s.2 65536
def attrsR : Nat → St → List S44 × St
  | 0, s => ([], s)
  | d + 1, s => (⟨(tS s).1.1, (tS (tS s).2).1.1⟩ :: (attrsR d (tS (tS s).2).2).1, (attrsR d (tS (tS s).2).2).2)
def hS (s : St) : (Int × Int) × St := nS s 4294967295
def bodyR (k : Int) (s : St) : S42 × St :=
  if k = 1 then (⟨1, 0, 0, 0, (tS s).1.1, (tS (tS s).2).1.1, em, (tS (tS (tS s).2).2).1.1, (attrsR (nS (tS (tS (tS s).2).2).2 64).1.1.toNat (nS (tS (tS (tS s).2).2).2 64).2).1⟩, (attrsR (nS (tS (tS (tS s).2).2).2 64).1.1.toNat (nS (tS (tS (tS s).2).2).2 64).2).2)
  else if k = 2 then (⟨2, (hS s).1.1, (hS (hS s).2).1.1, (hS (hS (hS s).2).2).1.1, em, em, em, em, []⟩, (hS (hS (hS s).2).2).2)
  else if k = 3 then (⟨3, (hS s).1.1, 0, (hS (hS s).2).1.1, em, em, em, em, []⟩, (hS (hS s).2).2)
  else if k = 4 then (⟨4, (hS s).1.1, 0, 0, em, em, em, em, []⟩, (hS s).2)
  else if k = 5 then (⟨5, (hS s).1.1, 0, 0, em, em, (tS (hS s).2).1.1, (tS (tS (hS s).2).2).1.1, []⟩, (tS (tS (hS s).2).2).2)
  else if k = 6 then (⟨6, (hS s).1.1, 0, 0, em, em, (tS (hS s).2).1.1, em, []⟩, (tS (hS s).2).2)
  else (⟨7, (hS s).1.1, 0, 0, em, em, em, (tS (hS s).2).1.1, []⟩, (tS (hS s).2).2)
def opR (s : St) : (S42 × Int) × St :=
  if (nS s 7).1.2 ≠ 0 then ((⟨(nS s 7).1.1, 0, 0, 0, em, em, em, em, []⟩, (nS s 7).1.2), (nS s 7).2)
  else if (nS s 7).1.1 = 0 then ((⟨0, 0, 0, 0, em, em, em, em, []⟩, 6), (nS s 7).2)
  else if (bodyR (nS s 7).1.1 (nS s 7).2).2.2 ≠ 0 then (((bodyR (nS s 7).1.1 (nS s 7).2).1, (bodyR (nS s 7).1.1 (nS s 7).2).2.2), (bodyR (nS s 7).1.1 (nS s 7).2).2)
  else (((bodyR (nS s 7).1.1 (nS s 7).2).1, chk (bodyR (nS s 7).1.1 (nS s 7).2).1), (bodyR (nS s 7).1.1 (nS s 7).2).2)
/-- Read operations from the i-th on, d to go: what was read, and the error that ended it. -/
def opsR : Nat → St → List S42 × Int × St
  | 0, s => ([], 0, s)
  | d + 1, s => if (opR s).1.2 ≠ 0 then ([], (opR s).1.2, (opR s).2) else ((opR s).1.1 :: (opsR d (opR s).2).1, (opsR d (opR s).2).2)
theorem nS_err (s : St) (m : Int) : (nS s m).1.2 = (nS s m).2.2 := by
  unfold nS numR
  repeat' split
  all_goals rfl
theorem tS_err (s : St) : (tS s).1.2 = (tS s).2.2 := by
  unfold tS textR
  repeat' split
  all_goals rfl
theorem nS_stick (s : St) (m : Int) (h : s.2 ≠ 0) : nS s m = ((0, s.2), s) := by
  unfold nS numR
  rw [if_pos h]
theorem tS_stick (s : St) (h : s.2 ≠ 0) : tS s = ((em, s.2), s) := by
  unfold tS textR
  rw [if_pos h]
theorem attrsR_stick : ∀ (d : Nat) (s : St), s.2 ≠ 0 → (attrsR d s).2 = s := by
  intro d
  induction d with
  | zero => intro s _; rfl
  | succ d ih =>
    intro s h
    have e1 := tS_stick s h
    unfold attrsR
    simp only [e1]
    exact ih s h
theorem nS_val (s : St) (m : Int) (hB : Bytes s.1) (hm : 0 ≤ m) : 0 ≤ (nS s m).1.1 ∧ (nS s m).1.1 ≤ m := by
  unfold nS numR
  split
  · exact ⟨Int.le_refl _, hm⟩
  · split
    · exact ⟨Int.le_refl _, hm⟩
    · split
      · exact ⟨Int.le_refl _, hm⟩
      · rename_i h1 h2 h3
        obtain ⟨n, j, e, -⟩ := takeS_ok s.1 hB (by simpa using h2)
        rw [e] at h3 ⊢
        simp only at h3 ⊢
        omega
theorem nS_bytes (s : St) (m : Int) (hB : Bytes s.1) : Bytes (nS s m).2.1 ∧ (nS s m).2.1.length ≤ s.1.length := by
  unfold nS numR
  split
  · exact ⟨hB, Nat.le_refl _⟩
  · split
    · exact ⟨hB, Nat.le_refl _⟩
    · split
      · exact ⟨hB, Nat.le_refl _⟩
      · exact ⟨hB.drop _, by rw [List.length_drop]; omega⟩
theorem tS_bytes (s : St) (hB : Bytes s.1) : Bytes (tS s).2.1 ∧ (tS s).2.1.length ≤ s.1.length := by
  unfold tS textR
  split
  · exact ⟨hB, Nat.le_refl _⟩
  · split
    · exact ⟨hB, Nat.le_refl _⟩
    · split
      · exact ⟨hB, Nat.le_refl _⟩
      · split
        · exact ⟨hB, Nat.le_refl _⟩
        · exact ⟨hB.drop _, by rw [List.length_drop]; omega⟩
theorem tS_size (s : St) (hB : Bytes s.1) : (tS s).1.1.size ≤ 65536 := by
  unfold tS textR
  have h0 : em.size ≤ 65536 := by show 0 ≤ _; omega
  split
  · exact h0
  · split
    · exact h0
    · split
      · exact h0
      · split
        · exact h0
        · rename_i h1 h2 h3 h4
          obtain ⟨n, j, e, -⟩ := takeS_ok s.1 hB (by simpa using h2)
          rw [e] at h3 h4 ⊢
          simp only at h3 h4 ⊢
          unfold strOfNums
          show (List.map _ _).toArray.size ≤ _
          rw [List.size_toArray, List.length_map, List.length_drop, List.length_take]
          omega
end Go.Proofs.YtfpijjjmgggfkaaDoorE

namespace Go.Proofs.YtfpijjjmgggfkaaDoorE
open Go Go.RowKit Go.Proofs.YtfpijjjmgggfkaaDoorW.PrintWords Go.Proofs.YtfpijjjmgggfkaaDoorW.PrintMore Go.Proofs.YtfpijjjmgggfkaaDoorX Go.Proofs.YtfpijjjmgggfkaaDoor.P26 Go.Proofs.YtfpijjjmgggfkaaDoor.L01
set_option linter.unusedVariables false
set_option linter.unusedSimpArgs false
def boxN (xs : List Int) (T : TypeId) : Obj := .cells (xs.map (Value.int .u64)).toArray T (0, 0)
def boxS (l : List ByteArray) (T : TypeId) : Obj := .cells (l.map Value.string).toArray T (0, 0)
theorem boxN_C {W : World} {b T : Nat} {xs : List Int} (h : W.heap[b]? = some (boxN xs T)) (hx : xs.length ≤ 9223372036854775807) : Kd.C (Kd.int .u64) W (some ⟨b, 0, none⟩) xs.length xs := by
  refine ⟨rfl, hx, fun _ => ⟨_, rfl, ?_⟩⟩
  intro j p hp
  refine ⟨[.int .u64 p], rfl, rfl, ?_⟩
  intro i u hu
  match i, hu with
  | 0, hu =>
    simp at hu
    subst hu
    show W.cell? ((⟨b, 0, none⟩ : Addr).add (j * 1 + 0)) = _
    rw [add_plain, Lib.cell_of_heap h]
    simp [hp]
theorem boxS_F {W : World} {b T : Nat} {l : List ByteArray} {ok : Nat → Prop} (h : W.heap[b]? = some (boxS l T)) (hb : ok b) (hx : l.length ≤ 9223372036854775807) : Kd.F Kd.string W ok (some ⟨b, 0, none⟩) l.length l := by
  intro W' hW'
  have h' : W'.heap[b]? = some (boxS l T) := (hW' b hb (blk_lt' h)).trans h
  refine ⟨rfl, hx, fun _ => ⟨_, rfl, ?_⟩⟩
  intro j p hp
  refine ⟨[.string p], rfl, rfl, ?_⟩
  intro i u hu
  match i, hu with
  | 0, hu =>
    simp at hu
    subst hu
    show W'.cell? ((⟨b, 0, none⟩ : Addr).add (j * 1 + 0)) = _
    rw [add_plain, Lib.cell_of_heap h']
    simp [hp]
theorem w_numL (B p g : Nat) (v : Value) (bs xs : List Int) (n : Nat) (hn : xs.length = n) (w : World) (hBw : B ≤ w.heap.size) (h : AtW B p g v bs w) (hN : Nums xs) (hl : xs.length ≤ 1000000000000) (hlen : bs.length + (encs xs).length ≤ 140737488355328) :
    Calls Tryd.prog 17 #[.pointer (some ⟨p, 0, none⟩), .slice (some ⟨w.heap.size, 0, none⟩) n n] (w.alloc (boxN xs 50)) fun e w' => e = .returned (.tuple #[]) ∧ StepW B p g v (bs ++ encs xs) w w' := by
  subst hn
  have hb : Below w.heap.size w (w.alloc (boxN xs 50)) := below_alloc (Below.refl _ _) _
  refine (w_num B p g v bs xs (some ⟨w.heap.size, 0, none⟩) xs.length _ (Nat.le_trans hBw hb.size) (h.below hb) (boxN_C (one_new_ w _) (by omega)) (Nat.le_refl _) hN hl hlen).mono ?_
  rintro e w' ⟨rfl, v', hW, hB, hh⟩
  exact ⟨rfl, v', hW, ((But.refl _ w).below hb).then_ hB, hat_up hh hb.size⟩
theorem w_textL (B p g : Nat) (v : Value) (bs : List Int) (l : List ByteArray) (n : Nat) (hn : l.length = n) (w : World) (hBw : B ≤ w.heap.size) (h : AtW B p g v bs w) (hl : l.length ≤ 9223372036854775807) (hlen : bs.length + (encTs l).length ≤ 140737488355328) :
    Calls Tryd.prog 32 #[.pointer (some ⟨p, 0, none⟩), .slice (some ⟨w.heap.size, 0, none⟩) n n] (w.alloc (boxS l 9)) fun e w' => e = .returned (.tuple #[]) ∧ StepW B p g v (bs ++ encTs l) w w' := by
  subst hn
  have hb : Below w.heap.size w (w.alloc (boxS l 9)) := below_alloc (Below.refl _ _) _
  refine (w_text B p g v bs l ⟨w.heap.size, 0, none⟩ l.length _ (Nat.le_trans hBw hb.size) (h.below hb) (boxS_F (one_new_ w _) ⟨?_, ?_⟩ hl) (Nat.le_refl _) hl hlen).mono ?_
  · have := blk_lt' h.2.2.2.1; omega
  · intro e
    have := Kd.R_lt h.2.2.2.2 _ e.symm
    omega
  · rintro e w' ⟨rfl, v', hW, hB, hh⟩
    exact ⟨rfl, v', hW, ((But.refl _ w).below hb).then_ hB, hat_up hh hb.size⟩
/-- A writer that has gathered bs, and a box o beside it; all since w0. -/
def InvB (w0 : World) (p g o : Nat) (cs : Obj) (bs : List Int) (w : World) : Prop := Below w0.heap.size w0 w ∧ w.heap[o]? = some cs ∧ ∃ v, AtW w0.heap.size p g v bs w ∧ o ≠ g ∧ some o ≠ v.ownBlock
theorem AtW_below {w0 w w' : World} {p g : Nat} {v : Value} {bs : List Int} (h : AtW w0.heap.size p g v bs w) (hb : Below w0.heap.size w0 w) (hB : But (fun k => k = g ∨ some k = v.ownBlock) w w') : Below w0.heap.size w0 w' :=
  ⟨hB.os.trans hb.os, hB.tape.trans hb.tape, hB.output.trans hb.output, Nat.le_trans hb.size hB.size, fun k hk => (hB.block k (Nat.lt_of_lt_of_le hk hb.size) (by
    rintro (rfl | e)
    · exact absurd h.2.1 (by omega)
    · exact absurd (Kd.R_base h.2.2.2.2 k e.symm) (by omega))).trans (hb.block k hk)⟩
theorem InvB.step {w0 : World} {p g o : Nat} {cs : Obj} {bs bs' : List Int} {w w' : World} (hb : Below w0.heap.size w0 w) (ho : w.heap[o]? = some cs) {v : Value} (hv : AtW w0.heap.size p g v bs w) (h1 : o ≠ g) (h2 : some o ≠ v.ownBlock) (hs : StepW w0.heap.size p g v bs' w w') : InvB w0 p g o cs bs' w' := by
  obtain ⟨v', hW, hB, hh⟩ := hs
  refine ⟨AtW_below hv hb hB, (hB.block o (blk_lt' ho) (by
    rintro (e | e)
    · exact h1 e
    · exact h2 e)).trans ho, v', hW, h1, ?_⟩
  intro e
  rcases hh with hh | ⟨b, hb1, hb2⟩
  · exact h2 (e.trans hh)
  · rw [hb1] at e
    injection e with e
    have := blk_lt' ho
    omega
theorem InvB.alloc {w0 : World} {p g o : Nat} {cs : Obj} {bs : List Int} {w : World} (h : InvB w0 p g o cs bs w) (x : Obj) : InvB w0 p g o cs bs (w.alloc x) := by
  obtain ⟨hb, ho, v, hv, h1, h2⟩ := h
  exact ⟨below_alloc hb x, ((below_alloc (Below.refl _ w) x).block o (blk_lt' ho)).trans ho, v, hv.below (below_alloc (Below.refl _ _) x), h1, h2⟩
theorem InvB.num {w0 : World} {p g o : Nat} {cs : Obj} {bs : List Int} {w : World} (h : InvB w0 p g o cs bs w) (xs : List Int) (n : Nat) (hn : xs.length = n) (hN : Nums xs) (hl : xs.length ≤ 1000000000000) (hlen : bs.length + (encs xs).length ≤ 140737488355328) :
    Calls Tryd.prog 17 #[.pointer (some ⟨p, 0, none⟩), .slice (some ⟨w.heap.size, 0, none⟩) n n] (w.alloc (boxN xs 50)) fun e w' => e = .returned (.tuple #[]) ∧ InvB w0 p g o cs (bs ++ encs xs) w' := by
  obtain ⟨hb, ho, v, hv, h1, h2⟩ := h
  exact (w_numL _ p g v bs xs n hn w hb.size hv hN hl hlen).mono fun e w' ⟨he, hs⟩ => ⟨he, InvB.step hb ho hv h1 h2 hs⟩
theorem InvB.text {w0 : World} {p g o : Nat} {cs : Obj} {bs : List Int} {w : World} (h : InvB w0 p g o cs bs w) (l : List ByteArray) (n : Nat) (hn : l.length = n) (hl : l.length ≤ 9223372036854775807) (hlen : bs.length + (encTs l).length ≤ 140737488355328) :
    Calls Tryd.prog 32 #[.pointer (some ⟨p, 0, none⟩), .slice (some ⟨w.heap.size, 0, none⟩) n n] (w.alloc (boxS l 9)) fun e w' => e = .returned (.tuple #[]) ∧ InvB w0 p g o cs (bs ++ encTs l) w' := by
  obtain ⟨hb, ho, v, hv, h1, h2⟩ := h
  exact (w_textL _ p g v bs l n hn w hb.size hv hl hlen).mono fun e w' ⟨he, hs⟩ => ⟨he, InvB.step hb ho hv h1 h2 hs⟩
theorem nums1 {n : Int} (h0 : 0 ≤ n) (h1 : n < 18446744073709551616) : Nums [n] := by
  intro x hx
  simp at hx
  subst hx
  exact ⟨h0, h1⟩
theorem encs_le (n : Int) (h1 : n < 18446744073709551616) : (encs [n]).length ≤ 10 := by
  rw [encs_one]; exact enc_le10 (by omega)
def num32 (n : Int) : Prop := 0 ≤ n ∧ n ≤ 4294967295
theorem InvB.num1 {w0 : World} {p g o : Nat} {cs : Obj} {bs : List Int} {w : World} (h : InvB w0 p g o cs bs w) (n0 : Int) (b : Nat) (hb : b = w.heap.size) (hN : Nums [n0]) (hlen : bs.length + 10 ≤ 140737488355328) :
    Calls Tryd.prog 17 #[.pointer (some ⟨p, 0, none⟩), .slice (some ⟨b, 0, none⟩) 1 1] (w.alloc (.cells #[.int .u64 n0] 50)) fun e w' => e = .returned (.tuple #[]) ∧ InvB w0 p g o cs (bs ++ encs [n0]) w' := by
  subst hb
  exact h.num [n0] 1 rfl hN (by show 1 ≤ _; omega) (by have := encs_len hN; simp only [List.length_cons, List.length_nil] at this; omega)
theorem InvB.text1 {w0 : World} {p g o : Nat} {cs : Obj} {bs : List Int} {w : World} (h : InvB w0 p g o cs bs w) (s0 : ByteArray) (b : Nat) (hb : b = w.heap.size) (hlen : bs.length + (encTs [s0]).length ≤ 140737488355328) :
    Calls Tryd.prog 32 #[.pointer (some ⟨p, 0, none⟩), .slice (some ⟨b, 0, none⟩) 1 1] (w.alloc (.cells #[.string s0] 9)) fun e w' => e = .returned (.tuple #[]) ∧ InvB w0 p g o cs (bs ++ encTs [s0]) w' := by
  subst hb
  exact h.text [s0] 1 rfl (by show 1 ≤ _; omega) hlen
theorem InvB.num2 {w0 : World} {p g o : Nat} {cs : Obj} {bs : List Int} {w : World} (h : InvB w0 p g o cs bs w) (n0 n1 : Int) (b : Nat) (hb : b = w.heap.size) (hN : Nums [n0, n1]) (hlen : bs.length + 20 ≤ 140737488355328) :
    Calls Tryd.prog 17 #[.pointer (some ⟨p, 0, none⟩), .slice (some ⟨b, 0, none⟩) 2 2] (w.alloc (.cells #[.int .u64 n0, .int .u64 n1] 50)) fun e w' => e = .returned (.tuple #[]) ∧ InvB w0 p g o cs (bs ++ encs [n0, n1]) w' := by
  subst hb
  exact h.num [n0, n1] 2 rfl hN (by show 2 ≤ _; omega) (by have := encs_len hN; simp only [List.length_cons, List.length_nil] at this; omega)
theorem InvB.text2 {w0 : World} {p g o : Nat} {cs : Obj} {bs : List Int} {w : World} (h : InvB w0 p g o cs bs w) (s0 s1 : ByteArray) (b : Nat) (hb : b = w.heap.size) (hlen : bs.length + (encTs [s0, s1]).length ≤ 140737488355328) :
    Calls Tryd.prog 32 #[.pointer (some ⟨p, 0, none⟩), .slice (some ⟨b, 0, none⟩) 2 2] (w.alloc (.cells #[.string s0, .string s1] 9)) fun e w' => e = .returned (.tuple #[]) ∧ InvB w0 p g o cs (bs ++ encTs [s0, s1]) w' := by
  subst hb
  exact h.text [s0, s1] 2 rfl (by show 2 ≤ _; omega) hlen
theorem InvB.num3 {w0 : World} {p g o : Nat} {cs : Obj} {bs : List Int} {w : World} (h : InvB w0 p g o cs bs w) (n0 n1 n2 : Int) (b : Nat) (hb : b = w.heap.size) (hN : Nums [n0, n1, n2]) (hlen : bs.length + 30 ≤ 140737488355328) :
    Calls Tryd.prog 17 #[.pointer (some ⟨p, 0, none⟩), .slice (some ⟨b, 0, none⟩) 3 3] (w.alloc (.cells #[.int .u64 n0, .int .u64 n1, .int .u64 n2] 50)) fun e w' => e = .returned (.tuple #[]) ∧ InvB w0 p g o cs (bs ++ encs [n0, n1, n2]) w' := by
  subst hb
  exact h.num [n0, n1, n2] 3 rfl hN (by show 3 ≤ _; omega) (by have := encs_len hN; simp only [List.length_cons, List.length_nil] at this; omega)
theorem InvB.text3 {w0 : World} {p g o : Nat} {cs : Obj} {bs : List Int} {w : World} (h : InvB w0 p g o cs bs w) (s0 s1 s2 : ByteArray) (b : Nat) (hb : b = w.heap.size) (hlen : bs.length + (encTs [s0, s1, s2]).length ≤ 140737488355328) :
    Calls Tryd.prog 32 #[.pointer (some ⟨p, 0, none⟩), .slice (some ⟨b, 0, none⟩) 3 3] (w.alloc (.cells #[.string s0, .string s1, .string s2] 9)) fun e w' => e = .returned (.tuple #[]) ∧ InvB w0 p g o cs (bs ++ encTs [s0, s1, s2]) w' := by
  subst hb
  exact h.text [s0, s1, s2] 3 rfl (by show 3 ≤ _; omega) hlen
theorem num32s {n : Int} (h : num32 n) : 0 ≤ n ∧ n < 18446744073709551616 := ⟨h.1, by have := h.2; omega⟩
def opC (a0 a1 a2 a3 : Int) (b0 b1 b2 b3 : ByteArray) (v8 : Value) : Obj := .cells #[.int .i64 a0, .int .i64 a1, .int .i64 a2, .int .i64 a3, .string b0, .string b1, .string b2, .string b3, v8] 42
theorem box_new {w0 w : World} {p g : Nat} {v : Value} {bs : List Int} (hb : Below w0.heap.size w0 w) (h : AtW w0.heap.size p g v bs w) (cs : Obj) : InvB w0 p g w.heap.size cs bs (w.alloc cs) := by
  refine ⟨below_alloc hb _, one_new_ w cs, v, h.below (below_alloc (Below.refl _ _) _), ?_, ?_⟩
  · have := blk_lt' h.2.2.2.1; omega
  · intro e
    have := Kd.R_lt h.2.2.2.2 _ e.symm
    omega
theorem wrap_num {n : Int} (h : num32 n) : IntKind.u64.wrap n = n := by
  obtain ⟨h0, h1⟩ := h
  have : IntKind.u64.wrap n = n % 18446744073709551616 := rfl
  rw [this]; omega
theorem nums1w {a : Int} (h : num32 a) : Nums [IntKind.u64.wrap a] := by
  rw [wrap_num h]; exact nums1 h.1 (num32s h).2
theorem nums2w {a b : Int} (h : num32 a) (h' : num32 b) : Nums [IntKind.u64.wrap a, IntKind.u64.wrap b] := by
  rw [wrap_num h, wrap_num h']
  intro x hx
  simp at hx
  rcases hx with rfl | rfl
  · exact num32s h
  · exact num32s h'
theorem nums3w {a b c : Int} (h : num32 a) (h' : num32 b) (h'' : num32 c) : Nums [IntKind.u64.wrap a, IntKind.u64.wrap b, IntKind.u64.wrap c] := by
  rw [wrap_num h, wrap_num h', wrap_num h'']
  intro x hx
  simp at hx
  rcases hx with rfl | rfl | rfl
  · exact num32s h
  · exact num32s h'
  · exact num32s h''
theorem encT_le (s : ByteArray) (h : s.size ≤ 65536) : (encT s).length ≤ 70000 := by
  have h1 : (enc s.size).length ≤ 10 := enc_le10 (by omega)
  unfold encT
  rw [List.length_append, bytesI_len]; omega
theorem encTs1_le (s : ByteArray) (h : s.size ≤ 65536) : (encTs [s]).length ≤ 70000 := by
  have := encT_le s h
  simp only [encTs, List.flatMap_cons, List.flatMap_nil, List.append_nil]; exact this
theorem encTs2_le (s t : ByteArray) (h : s.size ≤ 65536) (h' : t.size ≤ 65536) : (encTs [s, t]).length ≤ 140000 := by
  have := encT_le s h
  have := encT_le t h'
  simp only [encTs, List.flatMap_cons, List.flatMap_nil, List.append_nil, List.length_append]; omega
theorem encTs3_le (s t u : ByteArray) (h : s.size ≤ 65536) (h' : t.size ≤ 65536) (h'' : u.size ≤ 65536) : (encTs [s, t, u]).length ≤ 210000 := by
  have := encT_le s h
  have := encT_le t h'
  have := encT_le u h''
  simp only [encTs, List.flatMap_cons, List.flatMap_nil, List.append_nil, List.length_append]; omega

set_option maxHeartbeats 1000000 in
set_option maxRecDepth 100000 in
theorem write_2 (f1 f2 f3 : Int) (f4 f5 f6 f7 : ByteArray) (v8 : Value) (w0 : World) (p g : Nat) (v : Value) (bs : List Int) (w : World) (hb : Below w0.heap.size w0 w) (h : AtW w0.heap.size p g v bs w) (hn1 : num32 f1) (hn2 : num32 f2) (hn3 : num32 f3) (hs6 : f6.size ≤ 65536) (hs7 : f7.size ≤ 65536) (hlen : bs.length + 10000000 ≤ 140737488355328) :
    Calls Tryd.prog 18 #[.pointer (some ⟨p, 0, none⟩), opV 2 f1 f2 f3 f4 f5 f6 f7 v8] w fun e w' => e = .returned (.tuple #[]) ∧ ∃ o cs, InvB w0 p g o cs (bs ++ encs [2] ++ encs [f1, f2, f3]) w' := by
  have H0 := Aside0.mk (box_new hb h (opC 2 f1 f2 f3 f4 f5 f6 f7 v8))
  unfold opV
  unfold opC at H0
  clear hb h
  go_enter Tryd.func18, Tryd.ntmps18
  go_wp2_with (first
    | (go_at_call 17; (with_reducible refine (InvB.num1 H0.out 2 _ ?hb (nums1 (by omega) (by omega)) ?hl).mono ?_); (case hb => simp); (case hl => omega); rintro e w1 ⟨rfl, hI⟩; have HI1 := Aside0.mk hI; have HL1 : Aside0 ((bs ++ encs [2]).length + 9000000 ≤ 140737488355328) := ⟨by have e1 := encs_len (nums1 (n := 2) (by omega) (by omega)); rw [List.length_append]; simp only [List.length_cons, List.length_nil] at e1; omega⟩; have hc := hI.2.1; clear hI; have q0 := cell_blk (j := 0) hc rfl; have q1 := cell_blk (j := 1) hc rfl; have q2 := cell_blk (j := 2) hc rfl; have q3 := cell_blk (j := 3) hc rfl; have q4 := cell_blk (j := 4) hc rfl; have q5 := cell_blk (j := 5) hc rfl; have q6 := cell_blk (j := 6) hc rfl; have q7 := cell_blk (j := 7) hc rfl; have q8 := cell_blk (j := 8) hc rfl; clear hc)
    | (go_at_call 17; (with_reducible refine (InvB.num3 HI1.out _ _ _ _ ?hb (nums3w hn1 hn2 hn3) ?hl).mono ?_); (case hb => simp); (case hl => have := HL1.out; omega); rintro e w2 ⟨rfl, hI⟩; have HI2 := Aside0.mk hI;  have hc := hI.2.1; clear hI;  clear hc))
  go_end0
  have hfin := HI2.out
  simp only [wrap_num hn1, wrap_num hn2, wrap_num hn3] at hfin
  exact ⟨rfl, _, _, hfin⟩
set_option maxHeartbeats 1000000 in
set_option maxRecDepth 100000 in
theorem write_3 (f1 f2 f3 : Int) (f4 f5 f6 f7 : ByteArray) (v8 : Value) (w0 : World) (p g : Nat) (v : Value) (bs : List Int) (w : World) (hb : Below w0.heap.size w0 w) (h : AtW w0.heap.size p g v bs w) (hn1 : num32 f1) (hn2 : num32 f2) (hn3 : num32 f3) (hs6 : f6.size ≤ 65536) (hs7 : f7.size ≤ 65536) (hlen : bs.length + 10000000 ≤ 140737488355328) :
    Calls Tryd.prog 18 #[.pointer (some ⟨p, 0, none⟩), opV 3 f1 f2 f3 f4 f5 f6 f7 v8] w fun e w' => e = .returned (.tuple #[]) ∧ ∃ o cs, InvB w0 p g o cs (bs ++ encs [3] ++ encs [f1, f3]) w' := by
  have H0 := Aside0.mk (box_new hb h (opC 3 f1 f2 f3 f4 f5 f6 f7 v8))
  unfold opV
  unfold opC at H0
  clear hb h
  go_enter Tryd.func18, Tryd.ntmps18
  go_wp2_with (first
    | (go_at_call 17; (with_reducible refine (InvB.num1 H0.out 3 _ ?hb (nums1 (by omega) (by omega)) ?hl).mono ?_); (case hb => simp); (case hl => omega); rintro e w1 ⟨rfl, hI⟩; have HI1 := Aside0.mk hI; have HL1 : Aside0 ((bs ++ encs [3]).length + 9000000 ≤ 140737488355328) := ⟨by have e1 := encs_len (nums1 (n := 3) (by omega) (by omega)); rw [List.length_append]; simp only [List.length_cons, List.length_nil] at e1; omega⟩; have hc := hI.2.1; clear hI; have q0 := cell_blk (j := 0) hc rfl; have q1 := cell_blk (j := 1) hc rfl; have q2 := cell_blk (j := 2) hc rfl; have q3 := cell_blk (j := 3) hc rfl; have q4 := cell_blk (j := 4) hc rfl; have q5 := cell_blk (j := 5) hc rfl; have q6 := cell_blk (j := 6) hc rfl; have q7 := cell_blk (j := 7) hc rfl; have q8 := cell_blk (j := 8) hc rfl; clear hc)
    | (go_at_call 17; (with_reducible refine (InvB.num2 HI1.out _ _ _ ?hb (nums2w hn1 hn3) ?hl).mono ?_); (case hb => simp); (case hl => have := HL1.out; omega); rintro e w2 ⟨rfl, hI⟩; have HI2 := Aside0.mk hI;  have hc := hI.2.1; clear hI;  clear hc))
  go_end0
  have hfin := HI2.out
  simp only [wrap_num hn1, wrap_num hn2, wrap_num hn3] at hfin
  exact ⟨rfl, _, _, hfin⟩
set_option maxHeartbeats 1000000 in
set_option maxRecDepth 100000 in
theorem write_4 (f1 f2 f3 : Int) (f4 f5 f6 f7 : ByteArray) (v8 : Value) (w0 : World) (p g : Nat) (v : Value) (bs : List Int) (w : World) (hb : Below w0.heap.size w0 w) (h : AtW w0.heap.size p g v bs w) (hn1 : num32 f1) (hn2 : num32 f2) (hn3 : num32 f3) (hs6 : f6.size ≤ 65536) (hs7 : f7.size ≤ 65536) (hlen : bs.length + 10000000 ≤ 140737488355328) :
    Calls Tryd.prog 18 #[.pointer (some ⟨p, 0, none⟩), opV 4 f1 f2 f3 f4 f5 f6 f7 v8] w fun e w' => e = .returned (.tuple #[]) ∧ ∃ o cs, InvB w0 p g o cs (bs ++ encs [4] ++ encs [f1]) w' := by
  have H0 := Aside0.mk (box_new hb h (opC 4 f1 f2 f3 f4 f5 f6 f7 v8))
  unfold opV
  unfold opC at H0
  clear hb h
  go_enter Tryd.func18, Tryd.ntmps18
  go_wp2_with (first
    | (go_at_call 17; (with_reducible refine (InvB.num1 H0.out 4 _ ?hb (nums1 (by omega) (by omega)) ?hl).mono ?_); (case hb => simp); (case hl => omega); rintro e w1 ⟨rfl, hI⟩; have HI1 := Aside0.mk hI; have HL1 : Aside0 ((bs ++ encs [4]).length + 9000000 ≤ 140737488355328) := ⟨by have e1 := encs_len (nums1 (n := 4) (by omega) (by omega)); rw [List.length_append]; simp only [List.length_cons, List.length_nil] at e1; omega⟩; have hc := hI.2.1; clear hI; have q0 := cell_blk (j := 0) hc rfl; have q1 := cell_blk (j := 1) hc rfl; have q2 := cell_blk (j := 2) hc rfl; have q3 := cell_blk (j := 3) hc rfl; have q4 := cell_blk (j := 4) hc rfl; have q5 := cell_blk (j := 5) hc rfl; have q6 := cell_blk (j := 6) hc rfl; have q7 := cell_blk (j := 7) hc rfl; have q8 := cell_blk (j := 8) hc rfl; clear hc)
    | (go_at_call 17; (with_reducible refine (InvB.num1 HI1.out _ _ ?hb (nums1w hn1) ?hl).mono ?_); (case hb => simp); (case hl => have := HL1.out; omega); rintro e w2 ⟨rfl, hI⟩; have HI2 := Aside0.mk hI;  have hc := hI.2.1; clear hI;  clear hc))
  go_end0
  have hfin := HI2.out
  simp only [wrap_num hn1, wrap_num hn2, wrap_num hn3] at hfin
  exact ⟨rfl, _, _, hfin⟩
set_option maxHeartbeats 1000000 in
set_option maxRecDepth 100000 in
theorem write_5 (f1 f2 f3 : Int) (f4 f5 f6 f7 : ByteArray) (v8 : Value) (w0 : World) (p g : Nat) (v : Value) (bs : List Int) (w : World) (hb : Below w0.heap.size w0 w) (h : AtW w0.heap.size p g v bs w) (hn1 : num32 f1) (hn2 : num32 f2) (hn3 : num32 f3) (hs6 : f6.size ≤ 65536) (hs7 : f7.size ≤ 65536) (hlen : bs.length + 10000000 ≤ 140737488355328) :
    Calls Tryd.prog 18 #[.pointer (some ⟨p, 0, none⟩), opV 5 f1 f2 f3 f4 f5 f6 f7 v8] w fun e w' => e = .returned (.tuple #[]) ∧ ∃ o cs, InvB w0 p g o cs (bs ++ encs [5] ++ encs [f1] ++ encTs [f6, f7]) w' := by
  have H0 := Aside0.mk (box_new hb h (opC 5 f1 f2 f3 f4 f5 f6 f7 v8))
  have HTf6f7 := Aside0.mk (encTs2_le f6 f7 hs6 hs7)
  unfold opV
  unfold opC at H0
  clear hb h
  go_enter Tryd.func18, Tryd.ntmps18
  go_wp2_with (first
    | (go_at_call 17; (with_reducible refine (InvB.num1 H0.out 5 _ ?hb (nums1 (by omega) (by omega)) ?hl).mono ?_); (case hb => simp); (case hl => omega); rintro e w1 ⟨rfl, hI⟩; have HI1 := Aside0.mk hI; have HL1 : Aside0 ((bs ++ encs [5]).length + 9000000 ≤ 140737488355328) := ⟨by have e1 := encs_len (nums1 (n := 5) (by omega) (by omega)); rw [List.length_append]; simp only [List.length_cons, List.length_nil] at e1; omega⟩; have hc := hI.2.1; clear hI; have q0 := cell_blk (j := 0) hc rfl; have q1 := cell_blk (j := 1) hc rfl; have q2 := cell_blk (j := 2) hc rfl; have q3 := cell_blk (j := 3) hc rfl; have q4 := cell_blk (j := 4) hc rfl; have q5 := cell_blk (j := 5) hc rfl; have q6 := cell_blk (j := 6) hc rfl; have q7 := cell_blk (j := 7) hc rfl; have q8 := cell_blk (j := 8) hc rfl; clear hc)
    | (go_at_call 17; (with_reducible refine (InvB.num1 HI1.out _ _ ?hb (nums1w hn1) ?hl).mono ?_); (case hb => simp); (case hl => have := HL1.out; omega); rintro e w2 ⟨rfl, hI⟩; have HI2 := Aside0.mk hI; have HL2 : Aside0 ((bs ++ encs [5] ++ encs [IntKind.u64.wrap f1]).length + 8000000 ≤ 140737488355328) := ⟨by have e1 := encs_len (nums1w hn1); have e2 := HL1.out; rw [List.length_append]; simp only [List.length_cons, List.length_nil] at e1; omega⟩; have hc := hI.2.1; clear hI; have q0 := cell_blk (j := 0) hc rfl; have q1 := cell_blk (j := 1) hc rfl; have q2 := cell_blk (j := 2) hc rfl; have q3 := cell_blk (j := 3) hc rfl; have q4 := cell_blk (j := 4) hc rfl; have q5 := cell_blk (j := 5) hc rfl; have q6 := cell_blk (j := 6) hc rfl; have q7 := cell_blk (j := 7) hc rfl; have q8 := cell_blk (j := 8) hc rfl; clear hc)
    | (go_at_call 32; (with_reducible refine (InvB.text2 HI2.out f6 f7 _ ?hb ?hl).mono ?_); (case hb => simp); (case hl => have := HL2.out; have := HTf6f7.out; omega); rintro e w3 ⟨rfl, hI⟩; have HI3 := Aside0.mk hI;  have hc := hI.2.1; clear hI;  clear hc))
  go_end0
  have hfin := HI3.out
  simp only [wrap_num hn1, wrap_num hn2, wrap_num hn3] at hfin
  exact ⟨rfl, _, _, hfin⟩
set_option maxHeartbeats 1000000 in
set_option maxRecDepth 100000 in
theorem write_6 (f1 f2 f3 : Int) (f4 f5 f6 f7 : ByteArray) (v8 : Value) (w0 : World) (p g : Nat) (v : Value) (bs : List Int) (w : World) (hb : Below w0.heap.size w0 w) (h : AtW w0.heap.size p g v bs w) (hn1 : num32 f1) (hn2 : num32 f2) (hn3 : num32 f3) (hs6 : f6.size ≤ 65536) (hs7 : f7.size ≤ 65536) (hlen : bs.length + 10000000 ≤ 140737488355328) :
    Calls Tryd.prog 18 #[.pointer (some ⟨p, 0, none⟩), opV 6 f1 f2 f3 f4 f5 f6 f7 v8] w fun e w' => e = .returned (.tuple #[]) ∧ ∃ o cs, InvB w0 p g o cs (bs ++ encs [6] ++ encs [f1] ++ encTs [f6]) w' := by
  have H0 := Aside0.mk (box_new hb h (opC 6 f1 f2 f3 f4 f5 f6 f7 v8))
  have HTf6 := Aside0.mk (encTs1_le f6 hs6)
  unfold opV
  unfold opC at H0
  clear hb h
  go_enter Tryd.func18, Tryd.ntmps18
  go_wp2_with (first
    | (go_at_call 17; (with_reducible refine (InvB.num1 H0.out 6 _ ?hb (nums1 (by omega) (by omega)) ?hl).mono ?_); (case hb => simp); (case hl => omega); rintro e w1 ⟨rfl, hI⟩; have HI1 := Aside0.mk hI; have HL1 : Aside0 ((bs ++ encs [6]).length + 9000000 ≤ 140737488355328) := ⟨by have e1 := encs_len (nums1 (n := 6) (by omega) (by omega)); rw [List.length_append]; simp only [List.length_cons, List.length_nil] at e1; omega⟩; have hc := hI.2.1; clear hI; have q0 := cell_blk (j := 0) hc rfl; have q1 := cell_blk (j := 1) hc rfl; have q2 := cell_blk (j := 2) hc rfl; have q3 := cell_blk (j := 3) hc rfl; have q4 := cell_blk (j := 4) hc rfl; have q5 := cell_blk (j := 5) hc rfl; have q6 := cell_blk (j := 6) hc rfl; have q7 := cell_blk (j := 7) hc rfl; have q8 := cell_blk (j := 8) hc rfl; clear hc)
    | (go_at_call 17; (with_reducible refine (InvB.num1 HI1.out _ _ ?hb (nums1w hn1) ?hl).mono ?_); (case hb => simp); (case hl => have := HL1.out; omega); rintro e w2 ⟨rfl, hI⟩; have HI2 := Aside0.mk hI; have HL2 : Aside0 ((bs ++ encs [6] ++ encs [IntKind.u64.wrap f1]).length + 8000000 ≤ 140737488355328) := ⟨by have e1 := encs_len (nums1w hn1); have e2 := HL1.out; rw [List.length_append]; simp only [List.length_cons, List.length_nil] at e1; omega⟩; have hc := hI.2.1; clear hI; have q0 := cell_blk (j := 0) hc rfl; have q1 := cell_blk (j := 1) hc rfl; have q2 := cell_blk (j := 2) hc rfl; have q3 := cell_blk (j := 3) hc rfl; have q4 := cell_blk (j := 4) hc rfl; have q5 := cell_blk (j := 5) hc rfl; have q6 := cell_blk (j := 6) hc rfl; have q7 := cell_blk (j := 7) hc rfl; have q8 := cell_blk (j := 8) hc rfl; clear hc)
    | (go_at_call 32; (with_reducible refine (InvB.text1 HI2.out f6 _ ?hb ?hl).mono ?_); (case hb => simp); (case hl => have := HL2.out; have := HTf6.out; omega); rintro e w3 ⟨rfl, hI⟩; have HI3 := Aside0.mk hI;  have hc := hI.2.1; clear hI;  clear hc))
  go_end0
  have hfin := HI3.out
  simp only [wrap_num hn1, wrap_num hn2, wrap_num hn3] at hfin
  exact ⟨rfl, _, _, hfin⟩
set_option maxHeartbeats 1000000 in
set_option maxRecDepth 100000 in
theorem write_7 (f1 f2 f3 : Int) (f4 f5 f6 f7 : ByteArray) (v8 : Value) (w0 : World) (p g : Nat) (v : Value) (bs : List Int) (w : World) (hb : Below w0.heap.size w0 w) (h : AtW w0.heap.size p g v bs w) (hn1 : num32 f1) (hn2 : num32 f2) (hn3 : num32 f3) (hs6 : f6.size ≤ 65536) (hs7 : f7.size ≤ 65536) (hlen : bs.length + 10000000 ≤ 140737488355328) :
    Calls Tryd.prog 18 #[.pointer (some ⟨p, 0, none⟩), opV 7 f1 f2 f3 f4 f5 f6 f7 v8] w fun e w' => e = .returned (.tuple #[]) ∧ ∃ o cs, InvB w0 p g o cs (bs ++ encs [7] ++ encs [f1] ++ encTs [f7]) w' := by
  have H0 := Aside0.mk (box_new hb h (opC 7 f1 f2 f3 f4 f5 f6 f7 v8))
  have HTf7 := Aside0.mk (encTs1_le f7 hs7)
  unfold opV
  unfold opC at H0
  clear hb h
  go_enter Tryd.func18, Tryd.ntmps18
  go_wp2_with (first
    | (go_at_call 17; (with_reducible refine (InvB.num1 H0.out 7 _ ?hb (nums1 (by omega) (by omega)) ?hl).mono ?_); (case hb => simp); (case hl => omega); rintro e w1 ⟨rfl, hI⟩; have HI1 := Aside0.mk hI; have HL1 : Aside0 ((bs ++ encs [7]).length + 9000000 ≤ 140737488355328) := ⟨by have e1 := encs_len (nums1 (n := 7) (by omega) (by omega)); rw [List.length_append]; simp only [List.length_cons, List.length_nil] at e1; omega⟩; have hc := hI.2.1; clear hI; have q0 := cell_blk (j := 0) hc rfl; have q1 := cell_blk (j := 1) hc rfl; have q2 := cell_blk (j := 2) hc rfl; have q3 := cell_blk (j := 3) hc rfl; have q4 := cell_blk (j := 4) hc rfl; have q5 := cell_blk (j := 5) hc rfl; have q6 := cell_blk (j := 6) hc rfl; have q7 := cell_blk (j := 7) hc rfl; have q8 := cell_blk (j := 8) hc rfl; clear hc)
    | (go_at_call 17; (with_reducible refine (InvB.num1 HI1.out _ _ ?hb (nums1w hn1) ?hl).mono ?_); (case hb => simp); (case hl => have := HL1.out; omega); rintro e w2 ⟨rfl, hI⟩; have HI2 := Aside0.mk hI; have HL2 : Aside0 ((bs ++ encs [7] ++ encs [IntKind.u64.wrap f1]).length + 8000000 ≤ 140737488355328) := ⟨by have e1 := encs_len (nums1w hn1); have e2 := HL1.out; rw [List.length_append]; simp only [List.length_cons, List.length_nil] at e1; omega⟩; have hc := hI.2.1; clear hI; have q0 := cell_blk (j := 0) hc rfl; have q1 := cell_blk (j := 1) hc rfl; have q2 := cell_blk (j := 2) hc rfl; have q3 := cell_blk (j := 3) hc rfl; have q4 := cell_blk (j := 4) hc rfl; have q5 := cell_blk (j := 5) hc rfl; have q6 := cell_blk (j := 6) hc rfl; have q7 := cell_blk (j := 7) hc rfl; have q8 := cell_blk (j := 8) hc rfl; clear hc)
    | (go_at_call 32; (with_reducible refine (InvB.text1 HI2.out f7 _ ?hb ?hl).mono ?_); (case hb => simp); (case hl => have := HL2.out; have := HTf7.out; omega); rintro e w3 ⟨rfl, hI⟩; have HI3 := Aside0.mk hI;  have hc := hI.2.1; clear hI;  clear hc))
  go_end0
  have hfin := HI3.out
  simp only [wrap_num hn1, wrap_num hn2, wrap_num hn3] at hfin
  exact ⟨rfl, _, _, hfin⟩

/-- The bytes of attributes. -/
def attrB (l : List S44) : List Int := l.flatMap fun a => encTs [a.f0, a.f1]
theorem attrB_snoc (l : List S44) (k : Nat) (hk : k < l.length) : attrB (l.take (k + 1)) = attrB (l.take k) ++ encTs [(rd_T44 l (k : Int)).f0, (rd_T44 l (k : Int)).f1] := by
  have e : l.take (k + 1) = l.take k ++ [rd_T44 l (k : Int)] := by
    rw [List.take_add_one, List.getElem?_eq_getElem hk]
    unfold rd_T44
    rw [Int.toNat_natCast, List.getD_eq_getElem?_getD, List.getElem?_eq_getElem hk]
    rfl
  rw [e]
  unfold attrB
  rw [List.flatMap_append]
  simp
theorem attrB_le (l : List S44) (h : ∀ i : Nat, i < l.length → (rd_T44 l i).f0.size ≤ 65536 ∧ (rd_T44 l i).f1.size ≤ 65536) : ∀ k : Nat, k ≤ l.length → (attrB (l.take k)).length ≤ 140000 * k := by
  intro k
  induction k with
  | zero => intro _; simp [attrB]
  | succ k ih =>
    intro hk
    have h1 := ih (by omega)
    have h2 := h k (by omega)
    have h3 := encTs2_le _ _ h2.1 h2.2
    rw [attrB_snoc l k (by omega), List.length_append]
    omega
set_option maxHeartbeats 1000000 in
set_option maxRecDepth 100000 in
theorem write_1 (f1 f2 f3 : Int) (f4 f5 f6 f7 : ByteArray) (A : Option Addr) (c : Nat) (l : List S44) (w0 : World) (p g : Nat) (v : Value) (bs : List Int) (w : World) (hb : Below w0.heap.size w0 w) (h : AtW w0.heap.size p g v bs w) (hs4 : f4.size ≤ 65536) (hs5 : f5.size ≤ 65536) (hs7 : f7.size ≤ 65536) (hl : Kd.C k44 w0 A l.length l) (hll : l.length ≤ 64) (ha : ∀ i : Nat, i < l.length → (rd_T44 l i).f0.size ≤ 65536 ∧ (rd_T44 l i).f1.size ≤ 65536) (hlen : bs.length + 10000000 ≤ 140737488355328) :
    Calls Tryd.prog 18 #[.pointer (some ⟨p, 0, none⟩), opV 1 f1 f2 f3 f4 f5 f6 f7 (.slice A l.length c)] w fun e w' => e = .returned (.tuple #[]) ∧ ∃ o cs, InvB w0 p g o cs (bs ++ encs [1] ++ encTs [f4, f5, f7] ++ encs [(l.length : Int)] ++ attrB l) w' := by
  have H0 := Aside0.mk (box_new hb h (opC 1 f1 f2 f3 f4 f5 f6 f7 (.slice A l.length c)))
  have HT := Aside0.mk (encTs3_le f4 f5 f7 hs4 hs5 hs7)
  have HL := Aside0.mk hl
  have HA := Aside0.mk ha
  have HAL := Aside0.mk (attrB_le l ha)
  obtain ⟨b3, hb3⟩ : ∃ b3, b3 = bs ++ encs [1] ++ encTs [f4, f5, f7] ++ encs [(l.length : Int)] := ⟨_, rfl⟩
  rw [← hb3]
  have HB3 := Aside0.mk hb3
  clear hb3
  have HNN : Aside0 (Nums [(l.length : Int)]) := ⟨nums1 (by omega) (by omega)⟩
  unfold opV
  unfold opC at H0
  clear hb h hl ha
  go_enter Tryd.func18, Tryd.ntmps18
  go_wp2_with (first
    | (go_at_call 17; (with_reducible refine (InvB.num1 H0.out 1 _ ?hb (nums1 (by omega) (by omega)) ?hl).mono ?_); (case hb => simp); (case hl => omega); rintro e w1 ⟨rfl, hI⟩; have HI1 := Aside0.mk hI; have HL1 : Aside0 ((bs ++ encs [1]).length + 9900000 ≤ 140737488355328) := ⟨by have e1 := encs_len (nums1 (n := 1) (by omega) (by omega)); rw [List.length_append]; simp only [List.length_cons, List.length_nil] at e1; omega⟩; have hc := hI.2.1; clear hI; have q0 := cell_blk (j := 0) hc rfl; have q1 := cell_blk (j := 1) hc rfl; have q2 := cell_blk (j := 2) hc rfl; have q3 := cell_blk (j := 3) hc rfl; have q4 := cell_blk (j := 4) hc rfl; have q5 := cell_blk (j := 5) hc rfl; have q6 := cell_blk (j := 6) hc rfl; have q7 := cell_blk (j := 7) hc rfl; have q8 := cell_blk (j := 8) hc rfl; clear hc)
    | (go_at_call 32; (with_reducible refine (InvB.text3 HI1.out f4 f5 f7 _ ?hb ?hl).mono ?_); (case hb => simp); (case hl => have e1 := HL1.out; have e2 := HT.out; omega); rintro e w2 ⟨rfl, hI⟩; have HI2 := Aside0.mk hI; have HL2 : Aside0 ((bs ++ encs [1] ++ encTs [f4, f5, f7]).length + 9600000 ≤ 140737488355328) := ⟨by have e1 := HT.out; have e2 := HL1.out; rw [List.length_append]; omega⟩; have hc := hI.2.1; clear hI; have q0 := cell_blk (j := 0) hc rfl; have q1 := cell_blk (j := 1) hc rfl; have q2 := cell_blk (j := 2) hc rfl; have q3 := cell_blk (j := 3) hc rfl; have q4 := cell_blk (j := 4) hc rfl; have q5 := cell_blk (j := 5) hc rfl; have q6 := cell_blk (j := 6) hc rfl; have q7 := cell_blk (j := 7) hc rfl; have q8 := cell_blk (j := 8) hc rfl; clear hc)
    | (go_at_call 17; (with_reducible refine (InvB.num1 HI2.out _ _ ?hb HNN.out ?hl).mono ?_); (case hb => simp); (case hl => have e1 := HL2.out; omega); rintro e w3 ⟨rfl, hI⟩; have HI3 := Aside0.mk hI; have HL3 : Aside0 ((bs ++ encs [1] ++ encTs [f4, f5, f7] ++ encs [(l.length : Int)]).length + 9500000 ≤ 140737488355328) := ⟨by have e1 := encs_len HNN.out; have e2 := HL2.out; rw [List.length_append]; simp only [List.length_cons, List.length_nil] at e1; omega⟩; have hc := hI.2.1; clear hI; have q0 := cell_blk (j := 0) hc rfl; have q1 := cell_blk (j := 1) hc rfl; have q2 := cell_blk (j := 2) hc rfl; have q3 := cell_blk (j := 3) hc rfl; have q4 := cell_blk (j := 4) hc rfl; have q5 := cell_blk (j := 5) hc rfl; have q6 := cell_blk (j := 6) hc rfl; have q7 := cell_blk (j := 7) hc rfl; have q8 := cell_blk (j := 8) hc rfl; clear hc))
  rw [← HB3.out] at HI3 HL3
  go_loopw [39] (fun i wr => ∃ k : Nat, k ≤ l.length ∧ i = .int .i64 k ∧ Aside0 (∃ o cs, InvB w0 p g o cs (b3 ++ attrB (l.take k)) wr)) (fun i _ => l.length - (intOf i).toNat)
  case atStart => exact ⟨0, Nat.zero_le _, rfl, ⟨_, _, by have := HI3.out; rw [List.take_zero]; simpa [attrB] using this⟩⟩
  case round =>
    obtain ⟨k, hk, rfl, HR⟩ := hrel
    by_cases hlt : k < l.length
    · obtain ⟨ad, rfl, e0, e1⟩ := at_T44 HL.out (k : Int) (by omega) (by omega)
      rw [Int.toNat_natCast] at e0 e1
      obtain ⟨o, cs, hI⟩ := HR.out
      have d0 := pw_cell_below hI.1 e0
      have d1 := pw_cell_below hI.1 e1
      clear e0 e1 HR
      have hsn := attrB_snoc l k hlt
      have hax := HA.out k hlt
      have HLK : Aside0 ((b3 ++ attrB (l.take k)).length + 140000 ≤ 140737488355328) := ⟨by have e1 := HL3.out; have e2 := HAL.out k (by omega); rw [List.length_append]; omega⟩
      obtain ⟨X, hX⟩ : ∃ X, X = rd_T44 l (k : Int) := ⟨_, rfl⟩
      rw [← hX] at d0 d1 hsn hax
      have HS := Aside0.mk hsn
      have HX2 := Aside0.mk (encTs2_le _ _ hax.1 hax.2)
      have HI := Aside0.mk hI
      clear hX hsn hax hI
      go_wp2_with (go_at_call 32; (with_reducible refine (InvB.text2 (InvB.alloc HI.out _) X.f0 X.f1 _ ?hb ?hl).mono ?_); (case hb => simp); (case hl => have e1 := HLK.out; have e2 := HX2.out; omega); rintro e w4 ⟨rfl, hI⟩; have HI4 := Aside0.mk hI; clear hI)
      go_roundw
      case rel => exact ⟨k + 1, by omega, by go_num, ⟨o, cs, by rw [HS.out, ← List.append_assoc]; exact HI4.out⟩⟩
      case measure => simp [intOf]; omega
    · obtain rfl : k = l.length := by omega
      go_wp2_with fail
      go_end0
      obtain ⟨o, cs, hI⟩ := HR.out
      rw [List.take_length] at hI
      exact ⟨rfl, o, cs, hI⟩
end Go.Proofs.YtfpijjjmgggfkaaDoorE
