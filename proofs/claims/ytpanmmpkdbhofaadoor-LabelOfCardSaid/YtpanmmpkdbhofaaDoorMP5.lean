/- The row and the card of LabelOf: whatever the input, the law returns true. -/
import Derived.Test.YtpanmmpkdbhofaaDoorMP4
import Derived.ChangeArms
import Derived.DataReads
import Derived.SizedLaws
import Derived.Deep.Slices
import Derived.Deep.RegionWith
import Derived.Deep.RegionHeld3
import Derived.Test.YtpanmmpkdbhofaaDoorRows
import Derived.Test.YtpanmmpkdbhofaaDoorCards
import Derived.Test.YtpanmmpkdbhofaaDoorTie
import Derived.WalkKit
import Derived.ProofKit
import Derived.OpenShut
import Derived.ShutString
import Derived.ChangeOld
import Derived.Below
import Derived.LaidMore
import Derived.Stop.Joined
import Derived.SevenTiedAt
import Derived.MakeChecks
import Derived.Handed
import Derived.Lib.SmallJoins
import Derived.Carry

namespace Go.Proofs.YtpanmmpkdbhofaaDoor.P12o
open Go.RowKit Go.Proofs.YtpanmmpkdbhofaaDoor.P12r Go.Proofs.YtpanmmpkdbhofaaDoorE Go.Proofs.YtpanmmpkdbhofaaDoorW.PrintWords Go.Proofs.YtpanmmpkdbhofaaDoorW.PrintLast Go.Proofs.YtpanmmpkdbhofaaDoorW.PrintMore
attribute [local go_sem] max2_int min2_int max_two min_two max_three min_three max_four min_four   -- for this text's walks alone
set_option linter.unusedVariables false
set_option linter.unusedSimpArgs false

mutual
def tendrilref12_Of.l0 : Nat → List (S49) → List (S56) → Int → Int → Option ((List (S56)))
  | 0, _, _, _, _ => none
  | k + 1, x0, x3, x8, x9 => if x9 < x8 then (if 0 ≤ x9 then (if x9 < (x0.length : Int) then (tendrilref12_Of.l1 k x0 x3 x9 0 x8 x9 ((rd_T49 x0 x9).f0) ((rd_T49 x0 x9).f1) 0) else (none)) else (none)) else (some x3)
def tendrilref12_Of.l1 : Nat → List (S49) → List (S56) → Int → Int → Int → Int → ByteArray → ByteArray → Int → Option ((List (S56)))
  | 0, _, _, _, _, _, _, _, _, _ => none
  | k + 1, x0, x3, x4, x6, x8, x9, x113000, x113001, x113002 => if x6 ≤ x4 then (if x113001.toList = ([] : List UInt8) then (if 0 ≤ x6 then (if x6 < (x0.length : Int) then (if ((rd_T49 x0 x6).f1).toList = ([] : List UInt8) then (if ((rd_T49 x0 x6).f0).toList = x113000.toList then (tendrilref12_Of.l1 k x0 x3 x4 (wrap64 (x6 + 1)) x8 x9 x113000 x113001 (wrap64 (x113002 + 1))) else (tendrilref12_Of.l1 k x0 x3 x4 (wrap64 (x6 + 1)) x8 x9 x113000 x113001 x113002)) else (tendrilref12_Of.l1 k x0 x3 x4 (wrap64 (x6 + 1)) x8 x9 x113000 x113001 x113002)) else (none)) else (none)) else (tendrilref12_Of.l1 k x0 x3 x4 (wrap64 (x6 + 1)) x8 x9 x113000 x113001 x113002)) else (if x3.length < 3518437208883 then (tendrilref12_Of.l0 k x0 (x3 ++ [(⟨x113000, x113001, x113002⟩ : S56)]) x8 (wrap64 (x9 + 1))) else (none))
end
def tendrilref12_Of.f (k : Nat) (l0 : List (S49)) : Option ((List (S56))) := tendrilref12_Of.l0 k l0 ([] : List (S56)) (l0.length : Int) 0
theorem tendrilref12_Of.mono_l : ∀ k, (∀ y0 y1 y2 y3, LeO (tendrilref12_Of.l0 k y0 y1 y2 y3) (tendrilref12_Of.l0 (k + 1) y0 y1 y2 y3)) ∧ (∀ y0 y1 y2 y3 y4 y5 y6 y7 y8, LeO (tendrilref12_Of.l1 k y0 y1 y2 y3 y4 y5 y6 y7 y8) (tendrilref12_Of.l1 (k + 1) y0 y1 y2 y3 y4 y5 y6 y7 y8))
  | 0 => ⟨fun _ _ _ _ r h => by simp [tendrilref12_Of.l0] at h, fun _ _ _ _ _ _ _ _ _ r h => by simp [tendrilref12_Of.l1] at h⟩
  | k + 1 => by
    obtain ⟨ih0, ih1⟩ := tendrilref12_Of.mono_l k
    refine ⟨?_, ?_⟩
    · intro y0 y1 y2 y3
      unfold tendrilref12_Of.l0
      repeat' first
      | (with_reducible exact ih0 _ _ _ _)
      | (with_reducible exact ih1 _ _ _ _ _ _ _ _ _)
      | (with_reducible exact LeO.refl _)
      | (with_reducible exact LeO.none _)
      | (with_reducible refine LeO.ite ?_ ?_)
      | (with_reducible refine LeO.bind ?_ (fun _ => ?_))
      | exact ih0 _ _ _ _
      | exact ih1 _ _ _ _ _ _ _ _ _
      | exact LeO.none _
      | refine LeO.ite ?_ ?_
      | refine LeO.bind ?_ (fun _ => ?_)
    · intro y0 y1 y2 y3 y4 y5 y6 y7 y8
      unfold tendrilref12_Of.l1
      repeat' first
      | (with_reducible exact ih0 _ _ _ _)
      | (with_reducible exact ih1 _ _ _ _ _ _ _ _ _)
      | (with_reducible exact LeO.refl _)
      | (with_reducible exact LeO.none _)
      | (with_reducible refine LeO.ite ?_ ?_)
      | (with_reducible refine LeO.bind ?_ (fun _ => ?_))
      | exact ih0 _ _ _ _
      | exact ih1 _ _ _ _ _ _ _ _ _
      | exact LeO.none _
      | refine LeO.ite ?_ ?_
      | refine LeO.bind ?_ (fun _ => ?_)
theorem tendrilref12_Of.mono : ∀ a0 k, LeO (tendrilref12_Of.f k a0) (tendrilref12_Of.f (k + 1) a0) := by
  intro a0 k
  obtain ⟨ih0, ih1⟩ := tendrilref12_Of.mono_l k
  unfold tendrilref12_Of.f
  repeat' first
      | (with_reducible exact ih0 _ _ _ _)
      | (with_reducible exact ih1 _ _ _ _ _ _ _ _ _)
      | (with_reducible exact LeO.refl _)
      | (with_reducible exact LeO.none _)
      | (with_reducible refine LeO.ite ?_ ?_)
      | (with_reducible refine LeO.bind ?_ (fun _ => ?_))
      | exact ih0 _ _ _ _
      | exact ih1 _ _ _ _ _ _ _ _ _
      | exact LeO.none _
      | refine LeO.ite ?_ ?_
      | refine LeO.bind ?_ (fun _ => ?_)
def tendrilref12_Of.T5 : Bool × List (List Nat × List Nat) := (true, [([], []), ([], []), ([0, 1], [0, 1]), ([2], [2]), ([3], [3]), ([], []), ([], []), ([5, 6], [5, 6]), ([7], [7]), ([8], [8]), ([4, 9], [4, 9]), ([], []), ([11, 10, 0, 1, 2, 3, 4, 5, 6, 7, 8, 9, 10, 11], [10, 11])])
def tendrilref12_Of.B5 : List Nat := [0, 0, 3, 7, 15, 0, 0, 96, 224, 480, 1023, 0, 4095]
theorem tendrilref12_Of.tab5 : rtab .any (opsOf Tryd.f41 5) = tendrilref12_Of.T5 := by kernel_rfl
theorem tendrilref12_Of.bits5 : waitsOk tendrilref12_Of.T5.2 tendrilref12_Of.B5 = true := by kernel_rfl
def tendrilref12_Of.T9 : Bool × List (List Nat × List Nat) := (true, [([], []), ([0], [0]), ([1], [1]), ([2], [2]), ([3], [3]), ([3], [3]), ([4, 5, 3], [3, 4, 5]), ([6, 3], [3, 6]), ([7, 3], [3, 7]), ([8, 3], [3, 8]), ([3, 9], [3, 9]), ([10, 3], [10]), ([11], [11]), ([11], [11]), ([12, 13, 11], [11, 12, 13]), ([14, 11], [11, 14]), ([15, 11], [11, 15]), ([11], [11]), ([17, 11], [11, 17]), ([16, 18, 11], [11, 16, 18]), ([11, 19], [11, 19])])
def tendrilref12_Of.B9 : List Nat := [0, 1, 3, 7, 15, 15, 63, 127, 255, 511, 1023, 2047, 4095, 4095, 16383, 32767, 65535, 4095, 135167, 524287, 1048575]
theorem tendrilref12_Of.tab9 : rtab .any (opsOf Tryd.f41 9) = tendrilref12_Of.T9 := by kernel_rfl
theorem tendrilref12_Of.bits9 : waitsOk tendrilref12_Of.T9.2 tendrilref12_Of.B9 = true := by kernel_rfl
set_option maxHeartbeats 8000000 in
set_option maxRecDepth 100000 in
theorem tendrilref12_Of.calls (k : Nat) (A0 : Option Addr) (c0 : Nat) (l0 : List (S49)) (r : List (S56)) (w : World) (hgl : Go.Proofs.YtpanmmpkdbhofaaDoorX.GL w) (hr0 : Kd.C k49 w A0 l0.length l0) (hc0 : l0.length ≤ c0) (h : tendrilref12_Of.f k l0 = some r) :
    Calls Tryd.prog 41 #[.slice A0 l0.length c0] w fun e w' => ∃ v0_ : Value, e = .returned (v0_) ∧ Kd.R k56 56 w' w.heap.size (fun _ => True) v0_ r ∧ Below w.heap.size w w' := by
  have hu56 := Tryd.underlying56
  have HR0 := Aside0.mk hr0
  have HC0 := Aside0.mk hc0
  clear hr0 hc0
  have HGL := Aside0.mk hgl
  clear hgl
  have HB := Aside0.mk (Below.refl w.heap.size w)
  have H : (tendrilref12_Of.l0 k l0 ([] : List (S56)) (l0.length : Int) 0) = some r := h
  clear h
  have H' := Aside0.mk H
  clear H
  go_enter Tryd.func41, Tryd.ntmps41
  go_wp2
  go_loopg [3, 9] k (fun kq v3 v9 w' => ∃ (x3_1 : List (S56)) (x9_1 : Int), v9 = .int .i64 x9_1 ∧ Aside0 (tendrilref12_Of.l0 kq l0 x3_1 (l0.length : Int) x9_1 = some r) ∧ Aside0 (kq ≤ k) ∧ Aside0 (Kd.R k56 56 w' w.heap.size (fun _ => True) v3 x3_1) ∧ Aside0 (Below w.heap.size w w'))
  case atStart => exact ⟨(([] : List (S56))), (0), (by first | rfl | (simp; done) | (simp [*]; done)), H', ⟨Nat.le_refl _⟩, ⟨by first | exact Kd.R_nil _ _ _ _ _ | exact Kd.N_nil _ _ _ _ _ | exact Kd.V_nil _ _ _ _ _ | exact Kd.Q_nil _ _ _ _ _ | exact Kd.S_nil _ _ _ _ _⟩, ⟨by repeat (first | (with_reducible first | exact HB.out | apply below_alloc | apply pw_below_drewN | apply below_drew1) | exact HB.out)⟩⟩
  case round =>
    clear H'
    obtain ⟨x3_1, x9_1, rfl, HA, HK1, HO_3, HB⟩ := hrel
    cases gk with
    | zero => exact absurd HA.out (by simp [tendrilref12_Of.l0])
    | succ k1 =>
      have H := HA.out
      clear HA
      simp only [tendrilref12_Of.l0] at H
      by_cases c2 : x9_1 < (l0.length : Int)
      · rw [if_pos c2] at H
        have c2b0 : decide (x9_1 < (l0.length : Int)) = true := decide_eq_true c2
        clear c2
        by_cases c3 : 0 ≤ x9_1
        · rw [if_pos c3] at H
          have c3b0 : decide (0 ≤ x9_1) = true := decide_eq_true c3
          clear c3
          by_cases c4 : x9_1 < (l0.length : Int)
          · rw [if_pos c4] at H
            have c4b0 : decide (x9_1 < (l0.length : Int)) = true := decide_eq_true c4
            clear c4
            have H' := Aside0.mk H
            clear H
            obtain ⟨Ao5, co5, eo5⟩ := Kd.R_slice HO_3.out
            subst eo5
            try go_wp2
            have n0_ := Aside0.mk (Kd.R_drew HO_3.out)
            have n1_ := Aside0.mk (below_drew1 HB.out)
            clear HO_3
            clear HB
            have HO_3 := n0_
            have HB := n1_
            clear n0_ n1_
            have p110 : 0 ≤ (x9_1 : Int) := of_decide_eq_true (by first | (with_reducible assumption) | assumption)
            have q110 : x9_1 < (l0.length : Int) := of_decide_eq_true (by first | (with_reducible assumption) | assumption)
            obtain ⟨ad110, A110_3, c110_3, A110_4, c110_4, e110, hx110_0, hx110_1, hx110_2, hx110_3, hx110_4, hl110_3, hi110_3, hl110_4, hi110_4⟩ := at_T49 HR0.out x9_1 p110 q110
            have hw110_4 := hx110_4
            have hw110_3 := hx110_3
            have hw110_2 := hx110_2
            have hw110_1 := hx110_1
            have hw110_0 := hx110_0
            cases e110
            replace hx110_0 := (HB.out.cell (World.block_lt_of_cell? w _ hx110_0)).trans hx110_0
            replace hx110_1 := (HB.out.cell (World.block_lt_of_cell? w _ hx110_1)).trans hx110_1
            replace hx110_2 := (HB.out.cell (World.block_lt_of_cell? w _ hx110_2)).trans hx110_2
            replace hx110_3 := (HB.out.cell (World.block_lt_of_cell? w _ hx110_3)).trans hx110_3
            replace hx110_4 := (HB.out.cell (World.block_lt_of_cell? w _ hx110_4)).trans hx110_4
            have HR110_3 := Aside0.mk hi110_3
            have HC110_3 := Aside0.mk hl110_3
            clear hi110_3 hl110_3
            have HR110_4 := Aside0.mk hi110_4
            have HC110_4 := Aside0.mk hl110_4
            clear hi110_4 hl110_4
            replace p110 := eq_true p110
            replace q110 := eq_true q110
            have p111 : 0 ≤ (x9_1 : Int) := of_decide_eq_true (by first | (with_reducible assumption) | assumption)
            have q111 : x9_1 < (l0.length : Int) := of_decide_eq_true (by first | (with_reducible assumption) | assumption)
            obtain ⟨ad111, A111_3, c111_3, A111_4, c111_4, e111, hx111_0, hx111_1, hx111_2, hx111_3, hx111_4, hl111_3, hi111_3, hl111_4, hi111_4⟩ := at_T49 HR0.out x9_1 p111 q111
            have hw111_4 := hx111_4
            have hw111_3 := hx111_3
            have hw111_2 := hx111_2
            have hw111_1 := hx111_1
            have hw111_0 := hx111_0
            obtain rfl : ad110 = ad111 := (by injection e111)
            replace hx111_0 := (HB.out.cell (World.block_lt_of_cell? w _ hx111_0)).trans hx111_0
            replace hx111_1 := (HB.out.cell (World.block_lt_of_cell? w _ hx111_1)).trans hx111_1
            replace hx111_2 := (HB.out.cell (World.block_lt_of_cell? w _ hx111_2)).trans hx111_2
            replace hx111_3 := (HB.out.cell (World.block_lt_of_cell? w _ hx111_3)).trans hx111_3
            replace hx111_4 := (HB.out.cell (World.block_lt_of_cell? w _ hx111_4)).trans hx111_4
            have HR111_3 := Aside0.mk hi111_3
            have HC111_3 := Aside0.mk hl111_3
            clear hi111_3 hl111_3
            have HR111_4 := Aside0.mk hi111_4
            have HC111_4 := Aside0.mk hl111_4
            clear hi111_4 hl111_4
            replace p111 := eq_true p111
            replace q111 := eq_true q111
            have ea_ := Option.some.inj (hx110_3.symm.trans hx111_3)
            injection ea_ with ea_ en_ ec_
            subst ea_
            subst ec_
            clear en_
            have ea_ := Option.some.inj (hx110_4.symm.trans hx111_4)
            injection ea_ with ea_ en_ ec_
            subst ea_
            subst ec_
            clear en_
            refine start_ (n := 13) (S := fun w' => w'.cell? (ad110.add ((x9_1).toNat * 5)) = some (.string ((rd_T49 l0 x9_1).f0)) ∧ w'.cell? ⟨(ad110.add ((x9_1).toNat * 5)).block, (ad110.add ((x9_1).toNat * 5)).off + 1, none⟩ = some (.string ((rd_T49 l0 x9_1).f1)) ∧ w'.cell? ⟨(ad110.add ((x9_1).toNat * 5)).block, (ad110.add ((x9_1).toNat * 5)).off + 2, none⟩ = some (.string ((rd_T49 l0 x9_1).f2)) ∧ w'.cell? ⟨(ad110.add ((x9_1).toNat * 5)).block, (ad110.add ((x9_1).toNat * 5)).off + 3, none⟩ = some (.slice A110_3 ((rd_T49 l0 x9_1).f3).length c110_3) ∧ w'.cell? ⟨(ad110.add ((x9_1).toNat * 5)).block, (ad110.add ((x9_1).toNat * 5)).off + 4, none⟩ = some (.slice A110_4 ((rd_T49 l0 x9_1).f4).length c110_4) ∧ w'.cell? (ad110.add ((x9_1).toNat * 5)) = some (.string ((rd_T49 l0 x9_1).f0)) ∧ w'.cell? ⟨(ad110.add ((x9_1).toNat * 5)).block, (ad110.add ((x9_1).toNat * 5)).off + 1, none⟩ = some (.string ((rd_T49 l0 x9_1).f1)) ∧ w'.cell? ⟨(ad110.add ((x9_1).toNat * 5)).block, (ad110.add ((x9_1).toNat * 5)).off + 2, none⟩ = some (.string ((rd_T49 l0 x9_1).f2)) ∧ w'.cell? ⟨(ad110.add ((x9_1).toNat * 5)).block, (ad110.add ((x9_1).toNat * 5)).off + 3, none⟩ = some (.slice A110_3 ((rd_T49 l0 x9_1).f3).length c110_3) ∧ w'.cell? ⟨(ad110.add ((x9_1).toNat * 5)).block, (ad110.add ((x9_1).toNat * 5)).off + 4, none⟩ = some (.slice A110_4 ((rd_T49 l0 x9_1).f4).length c110_4)) (ds := []) #[false, false, false, false, false, false, false, false, false, false, false, false, false] (by kernel_rfl) rfl rfl ⟨((HB.out.cell (World.block_lt_of_cell? w _ hw110_0)).trans hw110_0), ((HB.out.cell (World.block_lt_of_cell? w _ hw110_1)).trans hw110_1), ((HB.out.cell (World.block_lt_of_cell? w _ hw110_2)).trans hw110_2), ((HB.out.cell (World.block_lt_of_cell? w _ hw110_3)).trans hw110_3), ((HB.out.cell (World.block_lt_of_cell? w _ hw110_4)).trans hw110_4), ((HB.out.cell (World.block_lt_of_cell? w _ hw111_0)).trans hw111_0), ((HB.out.cell (World.block_lt_of_cell? w _ hw111_1)).trans hw111_1), ((HB.out.cell (World.block_lt_of_cell? w _ hw111_2)).trans hw111_2), ((HB.out.cell (World.block_lt_of_cell? w _ hw111_3)).trans hw111_3), ((HB.out.cell (World.block_lt_of_cell? w _ hw111_4)).trans hw111_4)⟩ (fun hHeld => ?_); refine with_tabW tendrilref12_Of.tab5 tendrilref12_Of.bits5 (fun HT_ HW_ => ?_)
            generalize wr.drew = w6 at HO_3 HB HR110_3 HR110_4 HR111_3 HR111_4 hx110_0 hx110_1 hx110_2 hx110_3 hx110_4 hx111_0 hx111_1 hx111_2 hx111_3 hx111_4 hHeld ⊢
            refine pure_ (i := 0) (N := some 12) (v := ?_) (a' := ?_) #[true, false, false, false, false, false, false, false, false, false, false, false, false] rfl rfl (any_of HT_.out (by kernel_rfl)) (fun _ _ _ h => h) (Or.inl ⟨by rfl, ?_⟩) ?_ ?_
            rotate_left
            · intro w'
              go_simp
              with_reducible rfl
            rotate_left
            · simp only [Act.put, List.setIfInBounds_toArray, List.set_cons_zero, List.set_cons_succ, i64_w, i32_w]
              rfl
            refine pure_ (i := 1) (N := some 13) (v := ?_) (a' := ?_) #[true, true, false, false, false, false, false, false, false, false, false, false, false] rfl rfl (any_of HT_.out (by kernel_rfl)) (fun _ _ _ h => h) (Or.inl ⟨by rfl, ?_⟩) ?_ ?_
            rotate_left
            · intro w'
              go_simp
              with_reducible rfl
            rotate_left
            · simp only [Act.put, List.setIfInBounds_toArray, List.set_cons_zero, List.set_cons_succ, i64_w, i32_w]
              rfl
            refine pure_ (i := 2) (N := some 14) (v := ?_) (a' := ?_) #[true, true, true, false, false, false, false, false, false, false, false, false, false] rfl rfl (any_of HT_.out (by kernel_rfl)) (fun _ _ _ h => h) (Or.inl ⟨by rfl, ?_⟩) ?_ ?_
            rotate_left
            · intro w'
              go_simp
              with_reducible rfl
            rotate_left
            · simp only [Act.put, List.setIfInBounds_toArray, List.set_cons_zero, List.set_cons_succ, i64_w, i32_w]
              rfl
            refine pure_ (i := 3) (N := some 15) (v := ?_) (a' := ?_) #[true, true, true, true, false, false, false, false, false, false, false, false, false] rfl rfl (any_of HT_.out (by kernel_rfl)) (fun _ _ _ h => h) (Or.inl ⟨by rfl, ?_⟩) ?_ ?_
            rotate_left
            · intro w'
              go_simp
              with_reducible rfl
            rotate_left
            · simp only [Act.put, List.setIfInBounds_toArray, List.set_cons_zero, List.set_cons_succ, i64_w, i32_w]
              rfl
            refine pure_ (i := 5) (N := some 17) (v := ?_) (a' := ?_) #[true, true, true, true, false, true, false, false, false, false, false, false, false] rfl rfl (any_of HT_.out (by kernel_rfl)) (fun _ _ _ h => h) (Or.inl ⟨by rfl, ?_⟩) ?_ ?_
            rotate_left
            · intro w'
              go_simp
              with_reducible rfl
            rotate_left
            · simp only [Act.put, List.setIfInBounds_toArray, List.set_cons_zero, List.set_cons_succ, i64_w, i32_w]
              rfl
            refine pure_ (i := 6) (N := some 18) (v := ?_) (a' := ?_) #[true, true, true, true, false, true, true, false, false, false, false, false, false] rfl rfl (any_of HT_.out (by kernel_rfl)) (fun _ _ _ h => h) (Or.inl ⟨by rfl, ?_⟩) ?_ ?_
            rotate_left
            · intro w'
              go_simp
              with_reducible rfl
            rotate_left
            · simp only [Act.put, List.setIfInBounds_toArray, List.set_cons_zero, List.set_cons_succ, i64_w, i32_w]
              rfl
            refine pure_ (i := 7) (N := some 19) (v := ?_) (a' := ?_) #[true, true, true, true, false, true, true, true, false, false, false, false, false] rfl rfl (any_of HT_.out (by kernel_rfl)) (fun _ _ _ h => h) (Or.inl ⟨by rfl, ?_⟩) ?_ ?_
            rotate_left
            · intro w'
              go_simp
              with_reducible rfl
            rotate_left
            · simp only [Act.put, List.setIfInBounds_toArray, List.set_cons_zero, List.set_cons_succ, i64_w, i32_w]
              rfl
            refine pure_ (i := 8) (N := some 20) (v := ?_) (a' := ?_) #[true, true, true, true, false, true, true, true, true, false, false, false, false] rfl rfl (any_of HT_.out (by kernel_rfl)) (fun _ _ _ h => h) (Or.inl ⟨by rfl, ?_⟩) ?_ ?_
            rotate_left
            · intro w'
              go_simp
              with_reducible rfl
            rotate_left
            · simp only [Act.put, List.setIfInBounds_toArray, List.set_cons_zero, List.set_cons_succ, i64_w, i32_w]
              rfl
            refine take_ (i := 4) (N := some 16) (v := ?_) (a' := ?_) #[true, true, true, true, true, true, true, true, true, false, false, false, false] rfl rfl (take_ofW HT_.out HW_.out (by kernel_rfl)) (fun _ _ _ h => h) (Or.inl ⟨by rfl, ?_⟩) hHeld ?_ ?_
            rotate_left
            · rintro w' ⟨s0, s1, s2, s3, s4, s5, s6, s7, s8, s9⟩
              go_simp
              with_reducible rfl
            rotate_left
            · simp only [Act.put, List.setIfInBounds_toArray, List.set_cons_zero, List.set_cons_succ, i64_w, i32_w]
              rfl
            refine take_ (i := 9) (N := some 21) (v := ?_) (a' := ?_) #[true, true, true, true, true, true, true, true, true, true, false, false, false] rfl rfl (take_ofW HT_.out HW_.out (by kernel_rfl)) (fun _ _ _ h => h) (Or.inl ⟨by rfl, ?_⟩) hHeld ?_ ?_
            rotate_left
            · rintro w' ⟨s0, s1, s2, s3, s4, s5, s6, s7, s8, s9⟩
              go_simp
              with_reducible rfl
            rotate_left
            · simp only [Act.put, List.setIfInBounds_toArray, List.set_cons_zero, List.set_cons_succ, i64_w, i32_w]
              rfl
            refine pure_ (i := 10) (N := some 22) (v := ?_) (a' := ?_) #[true, true, true, true, true, true, true, true, true, true, true, false, false] rfl rfl (any_of HT_.out (by kernel_rfl)) (fun _ _ _ h => h) (Or.inl ⟨by rfl, ?_⟩) ?_ ?_
            rotate_left
            · intro w'
              go_simp
              with_reducible rfl
            rotate_left
            · simp only [Act.put, List.setIfInBounds_toArray, List.set_cons_zero, List.set_cons_succ, i64_w, i32_w]
              rfl
            refine one_ (i := 11) (N := some 5) #[true, true, true, true, true, true, true, true, true, true, true, true, false] rfl rfl (one_of HT_.out (by kernel_rfl)) (by decide) (fun K hK => ?_)
            refine box_step ?hg (N := 5) ?hd (cs := #[.string (⟨#[]⟩ : ByteArray), .string (⟨#[]⟩ : ByteArray), .int .i64 0]) (t := 56) ?hr ?_; (case hd => rfl); (case hg => rfl); (case hr => first | (go_simp; done) | (go_simp; rfl))
            intro gb112 hg w7 hbox hb
            have n0_ := Aside0.mk (Kd.R_below (Kd.R_elderB (by (with_reducible repeat (first | apply Kd.R_alloc | apply Kd.R_drewN | apply Kd.R_drew)); exact HO_3.out) gb112 (Nat.le_of_eq hg.symm)) hb)
            have n1_ := Aside0.mk (below_step (by repeat (first | (with_reducible first | exact HB.out | apply below_alloc | apply pw_below_drewN | apply below_drew1) | exact HB.out)) hb)
            have n2_ := Aside0.mk (hbox)
            have n3_ := Aside0.mk ((by rw [hg]; exact (below_size (by repeat (first | (with_reducible first | exact HB.out | apply below_alloc | apply pw_below_drewN | apply below_drew1) | exact HB.out))) : w.heap.size ≤ gb112))
            have n4_ := Aside0.mk ((by rw [hg]; exact (below_size (by repeat (first | (with_reducible first | exact HB.out | apply below_alloc | apply pw_below_drewN | apply below_drew1) | exact HB.out))) : w.heap.size ≤ gb112))
            clear HO_3
            clear HB
            have HO_3 := n0_
            have HB := n1_
            have BK112 := n2_
            have GW112 := n3_
            have GE112 := n4_
            clear n0_ n1_ n2_ n3_ n4_
            clear hb hbox hg
            refine hK.out _ _ ⟨((HB.out.cell (World.block_lt_of_cell? w _ hw110_0)).trans hw110_0), ((HB.out.cell (World.block_lt_of_cell? w _ hw110_1)).trans hw110_1), ((HB.out.cell (World.block_lt_of_cell? w _ hw110_2)).trans hw110_2), ((HB.out.cell (World.block_lt_of_cell? w _ hw110_3)).trans hw110_3), ((HB.out.cell (World.block_lt_of_cell? w _ hw110_4)).trans hw110_4), ((HB.out.cell (World.block_lt_of_cell? w _ hw111_0)).trans hw111_0), ((HB.out.cell (World.block_lt_of_cell? w _ hw111_1)).trans hw111_1), ((HB.out.cell (World.block_lt_of_cell? w _ hw111_2)).trans hw111_2), ((HB.out.cell (World.block_lt_of_cell? w _ hw111_3)).trans hw111_3), ((HB.out.cell (World.block_lt_of_cell? w _ hw111_4)).trans hw111_4)⟩ (fun hHeld => ?_)
            clear hK K
            refine norm_ (a' := ?_) ?_ ?_
            rotate_left
            · show Act.put _ (some 5) _ = _
              simp only [Act.put, List.setIfInBounds_toArray, List.set_cons_zero, List.set_cons_succ, i64_w, i32_w]
              rfl
            refine one_ (i := 12) (N := none) #[true, true, true, true, true, true, true, true, true, true, true, true, true] rfl rfl (one_of HT_.out (by kernel_rfl)) (by decide) (fun K hK => ?_)
            have hs8 : w7.cell? ⟨gb112, 0, none⟩ = some (.string (⟨#[]⟩ : ByteArray)) := (blk_cell BK112.out 0).trans rfl
            have hfs8 := blk_frozen BK112.out 0
            have hs9 : w7.cell? ⟨gb112, 1, none⟩ = some (.string (⟨#[]⟩ : ByteArray)) := (blk_cell BK112.out 1).trans rfl
            have hfs9 := blk_frozen BK112.out 1
            have hs10 : w7.cell? ⟨gb112, 2, none⟩ = some (.int .i64 0) := (blk_cell BK112.out 2).trans rfl
            have hfs10 := blk_frozen BK112.out 2
            refine skip_ (w1 := ?_) (by rfl) rfl ?_ ?_
            rotate_left
            · go_simp
              rfl
            refine hK.out _ _ ⟨((cell_far (p := ⟨gb112, _, none⟩) (by first | exact Nat.ne_of_lt (Nat.lt_of_lt_of_le (by have := World.block_lt_of_cell? _ _ hw110_0; first | rwa [add_block] at this | exact this) GW112.out) | (rw [add_block]; exact Nat.ne_of_lt (Nat.lt_of_lt_of_le (by have := World.block_lt_of_cell? _ _ hw110_0; first | rwa [add_block] at this | exact this) GW112.out)) | (show (Addr.add _ _).block ≠ _; rw [add_block]; exact Nat.ne_of_lt (Nat.lt_of_lt_of_le (by have := World.block_lt_of_cell? _ _ hw110_0; first | rwa [add_block] at this | exact this) GW112.out)) | (dsimp only; exact Nat.ne_of_lt (Nat.lt_of_lt_of_le (by have := World.block_lt_of_cell? _ _ hw110_0; first | rwa [add_block] at this | exact this) GW112.out))) _).trans (((cell_far (p := ⟨gb112, _, none⟩) (by first | exact Nat.ne_of_lt (Nat.lt_of_lt_of_le (by have := World.block_lt_of_cell? _ _ hw110_0; first | rwa [add_block] at this | exact this) GW112.out) | (rw [add_block]; exact Nat.ne_of_lt (Nat.lt_of_lt_of_le (by have := World.block_lt_of_cell? _ _ hw110_0; first | rwa [add_block] at this | exact this) GW112.out)) | (show (Addr.add _ _).block ≠ _; rw [add_block]; exact Nat.ne_of_lt (Nat.lt_of_lt_of_le (by have := World.block_lt_of_cell? _ _ hw110_0; first | rwa [add_block] at this | exact this) GW112.out)) | (dsimp only; exact Nat.ne_of_lt (Nat.lt_of_lt_of_le (by have := World.block_lt_of_cell? _ _ hw110_0; first | rwa [add_block] at this | exact this) GW112.out))) _).trans (((cell_far (p := ⟨gb112, _, none⟩) (by first | exact Nat.ne_of_lt (Nat.lt_of_lt_of_le (by have := World.block_lt_of_cell? _ _ hw110_0; first | rwa [add_block] at this | exact this) GW112.out) | (rw [add_block]; exact Nat.ne_of_lt (Nat.lt_of_lt_of_le (by have := World.block_lt_of_cell? _ _ hw110_0; first | rwa [add_block] at this | exact this) GW112.out)) | (show (Addr.add _ _).block ≠ _; rw [add_block]; exact Nat.ne_of_lt (Nat.lt_of_lt_of_le (by have := World.block_lt_of_cell? _ _ hw110_0; first | rwa [add_block] at this | exact this) GW112.out)) | (dsimp only; exact Nat.ne_of_lt (Nat.lt_of_lt_of_le (by have := World.block_lt_of_cell? _ _ hw110_0; first | rwa [add_block] at this | exact this) GW112.out))) _).trans (hHeld.1)))))), ((cell_far (p := ⟨gb112, _, none⟩) (by first | exact Nat.ne_of_lt (Nat.lt_of_lt_of_le (by have := World.block_lt_of_cell? _ _ hw110_1; first | rwa [add_block] at this | exact this) GW112.out) | (rw [add_block]; exact Nat.ne_of_lt (Nat.lt_of_lt_of_le (by have := World.block_lt_of_cell? _ _ hw110_1; first | rwa [add_block] at this | exact this) GW112.out)) | (show (Addr.add _ _).block ≠ _; rw [add_block]; exact Nat.ne_of_lt (Nat.lt_of_lt_of_le (by have := World.block_lt_of_cell? _ _ hw110_1; first | rwa [add_block] at this | exact this) GW112.out)) | (dsimp only; exact Nat.ne_of_lt (Nat.lt_of_lt_of_le (by have := World.block_lt_of_cell? _ _ hw110_1; first | rwa [add_block] at this | exact this) GW112.out))) _).trans (((cell_far (p := ⟨gb112, _, none⟩) (by first | exact Nat.ne_of_lt (Nat.lt_of_lt_of_le (by have := World.block_lt_of_cell? _ _ hw110_1; first | rwa [add_block] at this | exact this) GW112.out) | (rw [add_block]; exact Nat.ne_of_lt (Nat.lt_of_lt_of_le (by have := World.block_lt_of_cell? _ _ hw110_1; first | rwa [add_block] at this | exact this) GW112.out)) | (show (Addr.add _ _).block ≠ _; rw [add_block]; exact Nat.ne_of_lt (Nat.lt_of_lt_of_le (by have := World.block_lt_of_cell? _ _ hw110_1; first | rwa [add_block] at this | exact this) GW112.out)) | (dsimp only; exact Nat.ne_of_lt (Nat.lt_of_lt_of_le (by have := World.block_lt_of_cell? _ _ hw110_1; first | rwa [add_block] at this | exact this) GW112.out))) _).trans (((cell_far (p := ⟨gb112, _, none⟩) (by first | exact Nat.ne_of_lt (Nat.lt_of_lt_of_le (by have := World.block_lt_of_cell? _ _ hw110_1; first | rwa [add_block] at this | exact this) GW112.out) | (rw [add_block]; exact Nat.ne_of_lt (Nat.lt_of_lt_of_le (by have := World.block_lt_of_cell? _ _ hw110_1; first | rwa [add_block] at this | exact this) GW112.out)) | (show (Addr.add _ _).block ≠ _; rw [add_block]; exact Nat.ne_of_lt (Nat.lt_of_lt_of_le (by have := World.block_lt_of_cell? _ _ hw110_1; first | rwa [add_block] at this | exact this) GW112.out)) | (dsimp only; exact Nat.ne_of_lt (Nat.lt_of_lt_of_le (by have := World.block_lt_of_cell? _ _ hw110_1; first | rwa [add_block] at this | exact this) GW112.out))) _).trans (hHeld.2.1)))))), ((cell_far (p := ⟨gb112, _, none⟩) (by first | exact Nat.ne_of_lt (Nat.lt_of_lt_of_le (by have := World.block_lt_of_cell? _ _ hw110_2; first | rwa [add_block] at this | exact this) GW112.out) | (rw [add_block]; exact Nat.ne_of_lt (Nat.lt_of_lt_of_le (by have := World.block_lt_of_cell? _ _ hw110_2; first | rwa [add_block] at this | exact this) GW112.out)) | (show (Addr.add _ _).block ≠ _; rw [add_block]; exact Nat.ne_of_lt (Nat.lt_of_lt_of_le (by have := World.block_lt_of_cell? _ _ hw110_2; first | rwa [add_block] at this | exact this) GW112.out)) | (dsimp only; exact Nat.ne_of_lt (Nat.lt_of_lt_of_le (by have := World.block_lt_of_cell? _ _ hw110_2; first | rwa [add_block] at this | exact this) GW112.out))) _).trans (((cell_far (p := ⟨gb112, _, none⟩) (by first | exact Nat.ne_of_lt (Nat.lt_of_lt_of_le (by have := World.block_lt_of_cell? _ _ hw110_2; first | rwa [add_block] at this | exact this) GW112.out) | (rw [add_block]; exact Nat.ne_of_lt (Nat.lt_of_lt_of_le (by have := World.block_lt_of_cell? _ _ hw110_2; first | rwa [add_block] at this | exact this) GW112.out)) | (show (Addr.add _ _).block ≠ _; rw [add_block]; exact Nat.ne_of_lt (Nat.lt_of_lt_of_le (by have := World.block_lt_of_cell? _ _ hw110_2; first | rwa [add_block] at this | exact this) GW112.out)) | (dsimp only; exact Nat.ne_of_lt (Nat.lt_of_lt_of_le (by have := World.block_lt_of_cell? _ _ hw110_2; first | rwa [add_block] at this | exact this) GW112.out))) _).trans (((cell_far (p := ⟨gb112, _, none⟩) (by first | exact Nat.ne_of_lt (Nat.lt_of_lt_of_le (by have := World.block_lt_of_cell? _ _ hw110_2; first | rwa [add_block] at this | exact this) GW112.out) | (rw [add_block]; exact Nat.ne_of_lt (Nat.lt_of_lt_of_le (by have := World.block_lt_of_cell? _ _ hw110_2; first | rwa [add_block] at this | exact this) GW112.out)) | (show (Addr.add _ _).block ≠ _; rw [add_block]; exact Nat.ne_of_lt (Nat.lt_of_lt_of_le (by have := World.block_lt_of_cell? _ _ hw110_2; first | rwa [add_block] at this | exact this) GW112.out)) | (dsimp only; exact Nat.ne_of_lt (Nat.lt_of_lt_of_le (by have := World.block_lt_of_cell? _ _ hw110_2; first | rwa [add_block] at this | exact this) GW112.out))) _).trans (hHeld.2.2.1)))))), ((cell_far (p := ⟨gb112, _, none⟩) (by first | exact Nat.ne_of_lt (Nat.lt_of_lt_of_le (by have := World.block_lt_of_cell? _ _ hw110_3; first | rwa [add_block] at this | exact this) GW112.out) | (rw [add_block]; exact Nat.ne_of_lt (Nat.lt_of_lt_of_le (by have := World.block_lt_of_cell? _ _ hw110_3; first | rwa [add_block] at this | exact this) GW112.out)) | (show (Addr.add _ _).block ≠ _; rw [add_block]; exact Nat.ne_of_lt (Nat.lt_of_lt_of_le (by have := World.block_lt_of_cell? _ _ hw110_3; first | rwa [add_block] at this | exact this) GW112.out)) | (dsimp only; exact Nat.ne_of_lt (Nat.lt_of_lt_of_le (by have := World.block_lt_of_cell? _ _ hw110_3; first | rwa [add_block] at this | exact this) GW112.out))) _).trans (((cell_far (p := ⟨gb112, _, none⟩) (by first | exact Nat.ne_of_lt (Nat.lt_of_lt_of_le (by have := World.block_lt_of_cell? _ _ hw110_3; first | rwa [add_block] at this | exact this) GW112.out) | (rw [add_block]; exact Nat.ne_of_lt (Nat.lt_of_lt_of_le (by have := World.block_lt_of_cell? _ _ hw110_3; first | rwa [add_block] at this | exact this) GW112.out)) | (show (Addr.add _ _).block ≠ _; rw [add_block]; exact Nat.ne_of_lt (Nat.lt_of_lt_of_le (by have := World.block_lt_of_cell? _ _ hw110_3; first | rwa [add_block] at this | exact this) GW112.out)) | (dsimp only; exact Nat.ne_of_lt (Nat.lt_of_lt_of_le (by have := World.block_lt_of_cell? _ _ hw110_3; first | rwa [add_block] at this | exact this) GW112.out))) _).trans (((cell_far (p := ⟨gb112, _, none⟩) (by first | exact Nat.ne_of_lt (Nat.lt_of_lt_of_le (by have := World.block_lt_of_cell? _ _ hw110_3; first | rwa [add_block] at this | exact this) GW112.out) | (rw [add_block]; exact Nat.ne_of_lt (Nat.lt_of_lt_of_le (by have := World.block_lt_of_cell? _ _ hw110_3; first | rwa [add_block] at this | exact this) GW112.out)) | (show (Addr.add _ _).block ≠ _; rw [add_block]; exact Nat.ne_of_lt (Nat.lt_of_lt_of_le (by have := World.block_lt_of_cell? _ _ hw110_3; first | rwa [add_block] at this | exact this) GW112.out)) | (dsimp only; exact Nat.ne_of_lt (Nat.lt_of_lt_of_le (by have := World.block_lt_of_cell? _ _ hw110_3; first | rwa [add_block] at this | exact this) GW112.out))) _).trans (hHeld.2.2.2.1)))))), ((cell_far (p := ⟨gb112, _, none⟩) (by first | exact Nat.ne_of_lt (Nat.lt_of_lt_of_le (by have := World.block_lt_of_cell? _ _ hw110_4; first | rwa [add_block] at this | exact this) GW112.out) | (rw [add_block]; exact Nat.ne_of_lt (Nat.lt_of_lt_of_le (by have := World.block_lt_of_cell? _ _ hw110_4; first | rwa [add_block] at this | exact this) GW112.out)) | (show (Addr.add _ _).block ≠ _; rw [add_block]; exact Nat.ne_of_lt (Nat.lt_of_lt_of_le (by have := World.block_lt_of_cell? _ _ hw110_4; first | rwa [add_block] at this | exact this) GW112.out)) | (dsimp only; exact Nat.ne_of_lt (Nat.lt_of_lt_of_le (by have := World.block_lt_of_cell? _ _ hw110_4; first | rwa [add_block] at this | exact this) GW112.out))) _).trans (((cell_far (p := ⟨gb112, _, none⟩) (by first | exact Nat.ne_of_lt (Nat.lt_of_lt_of_le (by have := World.block_lt_of_cell? _ _ hw110_4; first | rwa [add_block] at this | exact this) GW112.out) | (rw [add_block]; exact Nat.ne_of_lt (Nat.lt_of_lt_of_le (by have := World.block_lt_of_cell? _ _ hw110_4; first | rwa [add_block] at this | exact this) GW112.out)) | (show (Addr.add _ _).block ≠ _; rw [add_block]; exact Nat.ne_of_lt (Nat.lt_of_lt_of_le (by have := World.block_lt_of_cell? _ _ hw110_4; first | rwa [add_block] at this | exact this) GW112.out)) | (dsimp only; exact Nat.ne_of_lt (Nat.lt_of_lt_of_le (by have := World.block_lt_of_cell? _ _ hw110_4; first | rwa [add_block] at this | exact this) GW112.out))) _).trans (((cell_far (p := ⟨gb112, _, none⟩) (by first | exact Nat.ne_of_lt (Nat.lt_of_lt_of_le (by have := World.block_lt_of_cell? _ _ hw110_4; first | rwa [add_block] at this | exact this) GW112.out) | (rw [add_block]; exact Nat.ne_of_lt (Nat.lt_of_lt_of_le (by have := World.block_lt_of_cell? _ _ hw110_4; first | rwa [add_block] at this | exact this) GW112.out)) | (show (Addr.add _ _).block ≠ _; rw [add_block]; exact Nat.ne_of_lt (Nat.lt_of_lt_of_le (by have := World.block_lt_of_cell? _ _ hw110_4; first | rwa [add_block] at this | exact this) GW112.out)) | (dsimp only; exact Nat.ne_of_lt (Nat.lt_of_lt_of_le (by have := World.block_lt_of_cell? _ _ hw110_4; first | rwa [add_block] at this | exact this) GW112.out))) _).trans (hHeld.2.2.2.2.1)))))), ((cell_far (p := ⟨gb112, _, none⟩) (by first | exact Nat.ne_of_lt (Nat.lt_of_lt_of_le (by have := World.block_lt_of_cell? _ _ hw111_0; first | rwa [add_block] at this | exact this) GW112.out) | (rw [add_block]; exact Nat.ne_of_lt (Nat.lt_of_lt_of_le (by have := World.block_lt_of_cell? _ _ hw111_0; first | rwa [add_block] at this | exact this) GW112.out)) | (show (Addr.add _ _).block ≠ _; rw [add_block]; exact Nat.ne_of_lt (Nat.lt_of_lt_of_le (by have := World.block_lt_of_cell? _ _ hw111_0; first | rwa [add_block] at this | exact this) GW112.out)) | (dsimp only; exact Nat.ne_of_lt (Nat.lt_of_lt_of_le (by have := World.block_lt_of_cell? _ _ hw111_0; first | rwa [add_block] at this | exact this) GW112.out))) _).trans (((cell_far (p := ⟨gb112, _, none⟩) (by first | exact Nat.ne_of_lt (Nat.lt_of_lt_of_le (by have := World.block_lt_of_cell? _ _ hw111_0; first | rwa [add_block] at this | exact this) GW112.out) | (rw [add_block]; exact Nat.ne_of_lt (Nat.lt_of_lt_of_le (by have := World.block_lt_of_cell? _ _ hw111_0; first | rwa [add_block] at this | exact this) GW112.out)) | (show (Addr.add _ _).block ≠ _; rw [add_block]; exact Nat.ne_of_lt (Nat.lt_of_lt_of_le (by have := World.block_lt_of_cell? _ _ hw111_0; first | rwa [add_block] at this | exact this) GW112.out)) | (dsimp only; exact Nat.ne_of_lt (Nat.lt_of_lt_of_le (by have := World.block_lt_of_cell? _ _ hw111_0; first | rwa [add_block] at this | exact this) GW112.out))) _).trans (((cell_far (p := ⟨gb112, _, none⟩) (by first | exact Nat.ne_of_lt (Nat.lt_of_lt_of_le (by have := World.block_lt_of_cell? _ _ hw111_0; first | rwa [add_block] at this | exact this) GW112.out) | (rw [add_block]; exact Nat.ne_of_lt (Nat.lt_of_lt_of_le (by have := World.block_lt_of_cell? _ _ hw111_0; first | rwa [add_block] at this | exact this) GW112.out)) | (show (Addr.add _ _).block ≠ _; rw [add_block]; exact Nat.ne_of_lt (Nat.lt_of_lt_of_le (by have := World.block_lt_of_cell? _ _ hw111_0; first | rwa [add_block] at this | exact this) GW112.out)) | (dsimp only; exact Nat.ne_of_lt (Nat.lt_of_lt_of_le (by have := World.block_lt_of_cell? _ _ hw111_0; first | rwa [add_block] at this | exact this) GW112.out))) _).trans (hHeld.2.2.2.2.2.1)))))), ((cell_far (p := ⟨gb112, _, none⟩) (by first | exact Nat.ne_of_lt (Nat.lt_of_lt_of_le (by have := World.block_lt_of_cell? _ _ hw111_1; first | rwa [add_block] at this | exact this) GW112.out) | (rw [add_block]; exact Nat.ne_of_lt (Nat.lt_of_lt_of_le (by have := World.block_lt_of_cell? _ _ hw111_1; first | rwa [add_block] at this | exact this) GW112.out)) | (show (Addr.add _ _).block ≠ _; rw [add_block]; exact Nat.ne_of_lt (Nat.lt_of_lt_of_le (by have := World.block_lt_of_cell? _ _ hw111_1; first | rwa [add_block] at this | exact this) GW112.out)) | (dsimp only; exact Nat.ne_of_lt (Nat.lt_of_lt_of_le (by have := World.block_lt_of_cell? _ _ hw111_1; first | rwa [add_block] at this | exact this) GW112.out))) _).trans (((cell_far (p := ⟨gb112, _, none⟩) (by first | exact Nat.ne_of_lt (Nat.lt_of_lt_of_le (by have := World.block_lt_of_cell? _ _ hw111_1; first | rwa [add_block] at this | exact this) GW112.out) | (rw [add_block]; exact Nat.ne_of_lt (Nat.lt_of_lt_of_le (by have := World.block_lt_of_cell? _ _ hw111_1; first | rwa [add_block] at this | exact this) GW112.out)) | (show (Addr.add _ _).block ≠ _; rw [add_block]; exact Nat.ne_of_lt (Nat.lt_of_lt_of_le (by have := World.block_lt_of_cell? _ _ hw111_1; first | rwa [add_block] at this | exact this) GW112.out)) | (dsimp only; exact Nat.ne_of_lt (Nat.lt_of_lt_of_le (by have := World.block_lt_of_cell? _ _ hw111_1; first | rwa [add_block] at this | exact this) GW112.out))) _).trans (((cell_far (p := ⟨gb112, _, none⟩) (by first | exact Nat.ne_of_lt (Nat.lt_of_lt_of_le (by have := World.block_lt_of_cell? _ _ hw111_1; first | rwa [add_block] at this | exact this) GW112.out) | (rw [add_block]; exact Nat.ne_of_lt (Nat.lt_of_lt_of_le (by have := World.block_lt_of_cell? _ _ hw111_1; first | rwa [add_block] at this | exact this) GW112.out)) | (show (Addr.add _ _).block ≠ _; rw [add_block]; exact Nat.ne_of_lt (Nat.lt_of_lt_of_le (by have := World.block_lt_of_cell? _ _ hw111_1; first | rwa [add_block] at this | exact this) GW112.out)) | (dsimp only; exact Nat.ne_of_lt (Nat.lt_of_lt_of_le (by have := World.block_lt_of_cell? _ _ hw111_1; first | rwa [add_block] at this | exact this) GW112.out))) _).trans (hHeld.2.2.2.2.2.2.1)))))), ((cell_far (p := ⟨gb112, _, none⟩) (by first | exact Nat.ne_of_lt (Nat.lt_of_lt_of_le (by have := World.block_lt_of_cell? _ _ hw111_2; first | rwa [add_block] at this | exact this) GW112.out) | (rw [add_block]; exact Nat.ne_of_lt (Nat.lt_of_lt_of_le (by have := World.block_lt_of_cell? _ _ hw111_2; first | rwa [add_block] at this | exact this) GW112.out)) | (show (Addr.add _ _).block ≠ _; rw [add_block]; exact Nat.ne_of_lt (Nat.lt_of_lt_of_le (by have := World.block_lt_of_cell? _ _ hw111_2; first | rwa [add_block] at this | exact this) GW112.out)) | (dsimp only; exact Nat.ne_of_lt (Nat.lt_of_lt_of_le (by have := World.block_lt_of_cell? _ _ hw111_2; first | rwa [add_block] at this | exact this) GW112.out))) _).trans (((cell_far (p := ⟨gb112, _, none⟩) (by first | exact Nat.ne_of_lt (Nat.lt_of_lt_of_le (by have := World.block_lt_of_cell? _ _ hw111_2; first | rwa [add_block] at this | exact this) GW112.out) | (rw [add_block]; exact Nat.ne_of_lt (Nat.lt_of_lt_of_le (by have := World.block_lt_of_cell? _ _ hw111_2; first | rwa [add_block] at this | exact this) GW112.out)) | (show (Addr.add _ _).block ≠ _; rw [add_block]; exact Nat.ne_of_lt (Nat.lt_of_lt_of_le (by have := World.block_lt_of_cell? _ _ hw111_2; first | rwa [add_block] at this | exact this) GW112.out)) | (dsimp only; exact Nat.ne_of_lt (Nat.lt_of_lt_of_le (by have := World.block_lt_of_cell? _ _ hw111_2; first | rwa [add_block] at this | exact this) GW112.out))) _).trans (((cell_far (p := ⟨gb112, _, none⟩) (by first | exact Nat.ne_of_lt (Nat.lt_of_lt_of_le (by have := World.block_lt_of_cell? _ _ hw111_2; first | rwa [add_block] at this | exact this) GW112.out) | (rw [add_block]; exact Nat.ne_of_lt (Nat.lt_of_lt_of_le (by have := World.block_lt_of_cell? _ _ hw111_2; first | rwa [add_block] at this | exact this) GW112.out)) | (show (Addr.add _ _).block ≠ _; rw [add_block]; exact Nat.ne_of_lt (Nat.lt_of_lt_of_le (by have := World.block_lt_of_cell? _ _ hw111_2; first | rwa [add_block] at this | exact this) GW112.out)) | (dsimp only; exact Nat.ne_of_lt (Nat.lt_of_lt_of_le (by have := World.block_lt_of_cell? _ _ hw111_2; first | rwa [add_block] at this | exact this) GW112.out))) _).trans (hHeld.2.2.2.2.2.2.2.1)))))), ((cell_far (p := ⟨gb112, _, none⟩) (by first | exact Nat.ne_of_lt (Nat.lt_of_lt_of_le (by have := World.block_lt_of_cell? _ _ hw111_3; first | rwa [add_block] at this | exact this) GW112.out) | (rw [add_block]; exact Nat.ne_of_lt (Nat.lt_of_lt_of_le (by have := World.block_lt_of_cell? _ _ hw111_3; first | rwa [add_block] at this | exact this) GW112.out)) | (show (Addr.add _ _).block ≠ _; rw [add_block]; exact Nat.ne_of_lt (Nat.lt_of_lt_of_le (by have := World.block_lt_of_cell? _ _ hw111_3; first | rwa [add_block] at this | exact this) GW112.out)) | (dsimp only; exact Nat.ne_of_lt (Nat.lt_of_lt_of_le (by have := World.block_lt_of_cell? _ _ hw111_3; first | rwa [add_block] at this | exact this) GW112.out))) _).trans (((cell_far (p := ⟨gb112, _, none⟩) (by first | exact Nat.ne_of_lt (Nat.lt_of_lt_of_le (by have := World.block_lt_of_cell? _ _ hw111_3; first | rwa [add_block] at this | exact this) GW112.out) | (rw [add_block]; exact Nat.ne_of_lt (Nat.lt_of_lt_of_le (by have := World.block_lt_of_cell? _ _ hw111_3; first | rwa [add_block] at this | exact this) GW112.out)) | (show (Addr.add _ _).block ≠ _; rw [add_block]; exact Nat.ne_of_lt (Nat.lt_of_lt_of_le (by have := World.block_lt_of_cell? _ _ hw111_3; first | rwa [add_block] at this | exact this) GW112.out)) | (dsimp only; exact Nat.ne_of_lt (Nat.lt_of_lt_of_le (by have := World.block_lt_of_cell? _ _ hw111_3; first | rwa [add_block] at this | exact this) GW112.out))) _).trans (((cell_far (p := ⟨gb112, _, none⟩) (by first | exact Nat.ne_of_lt (Nat.lt_of_lt_of_le (by have := World.block_lt_of_cell? _ _ hw111_3; first | rwa [add_block] at this | exact this) GW112.out) | (rw [add_block]; exact Nat.ne_of_lt (Nat.lt_of_lt_of_le (by have := World.block_lt_of_cell? _ _ hw111_3; first | rwa [add_block] at this | exact this) GW112.out)) | (show (Addr.add _ _).block ≠ _; rw [add_block]; exact Nat.ne_of_lt (Nat.lt_of_lt_of_le (by have := World.block_lt_of_cell? _ _ hw111_3; first | rwa [add_block] at this | exact this) GW112.out)) | (dsimp only; exact Nat.ne_of_lt (Nat.lt_of_lt_of_le (by have := World.block_lt_of_cell? _ _ hw111_3; first | rwa [add_block] at this | exact this) GW112.out))) _).trans (hHeld.2.2.2.2.2.2.2.2.1)))))), ((cell_far (p := ⟨gb112, _, none⟩) (by first | exact Nat.ne_of_lt (Nat.lt_of_lt_of_le (by have := World.block_lt_of_cell? _ _ hw111_4; first | rwa [add_block] at this | exact this) GW112.out) | (rw [add_block]; exact Nat.ne_of_lt (Nat.lt_of_lt_of_le (by have := World.block_lt_of_cell? _ _ hw111_4; first | rwa [add_block] at this | exact this) GW112.out)) | (show (Addr.add _ _).block ≠ _; rw [add_block]; exact Nat.ne_of_lt (Nat.lt_of_lt_of_le (by have := World.block_lt_of_cell? _ _ hw111_4; first | rwa [add_block] at this | exact this) GW112.out)) | (dsimp only; exact Nat.ne_of_lt (Nat.lt_of_lt_of_le (by have := World.block_lt_of_cell? _ _ hw111_4; first | rwa [add_block] at this | exact this) GW112.out))) _).trans (((cell_far (p := ⟨gb112, _, none⟩) (by first | exact Nat.ne_of_lt (Nat.lt_of_lt_of_le (by have := World.block_lt_of_cell? _ _ hw111_4; first | rwa [add_block] at this | exact this) GW112.out) | (rw [add_block]; exact Nat.ne_of_lt (Nat.lt_of_lt_of_le (by have := World.block_lt_of_cell? _ _ hw111_4; first | rwa [add_block] at this | exact this) GW112.out)) | (show (Addr.add _ _).block ≠ _; rw [add_block]; exact Nat.ne_of_lt (Nat.lt_of_lt_of_le (by have := World.block_lt_of_cell? _ _ hw111_4; first | rwa [add_block] at this | exact this) GW112.out)) | (dsimp only; exact Nat.ne_of_lt (Nat.lt_of_lt_of_le (by have := World.block_lt_of_cell? _ _ hw111_4; first | rwa [add_block] at this | exact this) GW112.out))) _).trans (((cell_far (p := ⟨gb112, _, none⟩) (by first | exact Nat.ne_of_lt (Nat.lt_of_lt_of_le (by have := World.block_lt_of_cell? _ _ hw111_4; first | rwa [add_block] at this | exact this) GW112.out) | (rw [add_block]; exact Nat.ne_of_lt (Nat.lt_of_lt_of_le (by have := World.block_lt_of_cell? _ _ hw111_4; first | rwa [add_block] at this | exact this) GW112.out)) | (show (Addr.add _ _).block ≠ _; rw [add_block]; exact Nat.ne_of_lt (Nat.lt_of_lt_of_le (by have := World.block_lt_of_cell? _ _ hw111_4; first | rwa [add_block] at this | exact this) GW112.out)) | (dsimp only; exact Nat.ne_of_lt (Nat.lt_of_lt_of_le (by have := World.block_lt_of_cell? _ _ hw111_4; first | rwa [add_block] at this | exact this) GW112.out))) _).trans (hHeld.2.2.2.2.2.2.2.2.2))))))⟩ (fun hHeld => ?_)
            clear hK K
            refine done_ (done_of HT_.out (by kernel_rfl)) ?_
            try go_wp2
            go_loopg [6] k1 (fun kq v6 w' => ∃ (x6_2 : Int) (x113002_2 : Int), v6 = .int .i64 x6_2 ∧ Aside0 (tendrilref12_Of.l1 kq l0 x3_1 x9_1 x6_2 (l0.length : Int) x9_1 ((rd_T49 l0 x9_1).f0) ((rd_T49 l0 x9_1).f1) x113002_2 = some r) ∧ Aside0 (kq ≤ k1) ∧ Aside0 (Kd.R k56 56 w' w.heap.size (fun k_ => k_ ≠ gb112) (.slice Ao5 x3_1.length co5) x3_1) ∧ Aside0 (w'.heap[gb112]? = some (.cells #[.string ((rd_T49 l0 x9_1).f0), .string ((rd_T49 l0 x9_1).f1), .int .i64 x113002_2] 56 (0, 0))) ∧ Aside0 (Below w.heap.size w w'))
            case atStart => exact ⟨(0), (0), (by first | rfl | (simp; done) | (simp [*]; done)), H', ⟨Nat.le_refl _⟩, ⟨by (with_reducible repeat (first | apply Kd.R_alloc | apply Kd.R_drewN | apply Kd.R_drew)); exact Kd.R_mono (Kd.R_far (p := ⟨gb112, 2, none⟩) (Kd.R_far (p := ⟨gb112, 1, none⟩) (Kd.R_far (p := ⟨gb112, 0, none⟩) (Kd.R_mono HO_3.out (fun k_ hk => (⟨hk, hk.2⟩ : _ ∧ k_ ≠ gb112))) (fun _ hk => hk.2) (.string ((rd_T49 l0 x9_1).f0))) (fun _ hk => hk.2) (.string ((rd_T49 l0 x9_1).f1))) (fun _ hk => hk.2) (.int .i64 0)) (fun _ hk => hk.1.2)⟩, ⟨by (with_reducible repeat (first | refine blk_drewN ?_ _ | refine blk_drew ?_ | refine blk_alloc ?_ _)); refine blk_put (cs := #[.string ((rd_T49 l0 x9_1).f0), .string ((rd_T49 l0 x9_1).f1), .int .i64 0]) ?_ 2 _ rfl; (with_reducible repeat (first | refine blk_drewN ?_ _ | refine blk_drew ?_ | refine blk_alloc ?_ _)); refine blk_put (cs := #[.string ((rd_T49 l0 x9_1).f0), .string (⟨#[]⟩ : ByteArray), .int .i64 0]) ?_ 1 _ rfl; (with_reducible repeat (first | refine blk_drewN ?_ _ | refine blk_drew ?_ | refine blk_alloc ?_ _)); refine blk_put (cs := #[.string (⟨#[]⟩ : ByteArray), .string (⟨#[]⟩ : ByteArray), .int .i64 0]) ?_ 0 _ rfl; (with_reducible repeat (first | refine blk_drewN ?_ _ | refine blk_drew ?_ | refine blk_alloc ?_ _)); exact BK112.out⟩, ⟨by repeat (first | (with_reducible first | exact HB.out | apply below_alloc | apply pw_below_drewN | apply below_drew1 | refine below_set ?_ GE112.out) | exact HB.out)⟩⟩
            case round =>
              clear H'
              try clear c1
              try clear p1
              try clear q1
              try clear hx1
              try clear c2
              try clear c2b0
              try clear p2
              try clear c3
              try clear c3b0
              try clear c4
              try clear c4b0
              try clear hx110_0
              try clear hx110_1
              try clear hx110_2
              try clear hx110_3
              try clear hx110_4
              try clear hx111_0
              try clear hx111_1
              try clear hx111_2
              try clear hx111_3
              try clear hx111_4
              try clear p110
              try clear p111
              try clear q110
              try clear q111
              obtain ⟨x6_2, x113002_2, rfl, HA, HK2, HO_3, BK112, HB⟩ := hrel
              cases gk with
              | zero => exact absurd HA.out (by simp [tendrilref12_Of.l1])
              | succ k2 =>
                have H := HA.out
                clear HA
                simp only [tendrilref12_Of.l1] at H
                by_cases c11 : x6_2 ≤ x9_1
                · rw [if_pos c11] at H
                  have c11b0 : decide (x6_2 ≤ x9_1) = true := decide_eq_true c11
                  clear c11
                  by_cases c12 : ((rd_T49 l0 x9_1).f1).toList = ([] : List UInt8)
                  · rw [if_pos c12] at H
                    have c12b0 : (((rd_T49 l0 x9_1).f1).toList == ([] : List UInt8)) = true := beq_iff_eq.mpr c12
                    have c12b1 : (((rd_T49 l0 x9_1).f1).toList != ([] : List UInt8)) = false := bne_eq_false_iff_eq.mpr c12
                    clear c12
                    by_cases c13 : 0 ≤ x6_2
                    · rw [if_pos c13] at H
                      have c13b0 : decide (0 ≤ x6_2) = true := decide_eq_true c13
                      clear c13
                      by_cases c14 : x6_2 < (l0.length : Int)
                      · rw [if_pos c14] at H
                        have c14b0 : decide (x6_2 < (l0.length : Int)) = true := decide_eq_true c14
                        clear c14
                        by_cases c15 : ((rd_T49 l0 x6_2).f1).toList = ([] : List UInt8)
                        · rw [if_pos c15] at H
                          have c15b0 : (((rd_T49 l0 x6_2).f1).toList == ([] : List UInt8)) = true := beq_iff_eq.mpr c15
                          have c15b1 : (((rd_T49 l0 x6_2).f1).toList != ([] : List UInt8)) = false := bne_eq_false_iff_eq.mpr c15
                          clear c15
                          by_cases c16 : ((rd_T49 l0 x6_2).f0).toList = ((rd_T49 l0 x9_1).f0).toList
                          · rw [if_pos c16] at H
                            have c16b0 : (((rd_T49 l0 x6_2).f0).toList == ((rd_T49 l0 x9_1).f0).toList) = true := beq_iff_eq.mpr c16
                            have c16b1 : (((rd_T49 l0 x6_2).f0).toList != ((rd_T49 l0 x9_1).f0).toList) = false := bne_eq_false_iff_eq.mpr c16
                            clear c16
                            have H' := Aside0.mk H
                            clear H
                            try go_wp2
                            have n0_ := Aside0.mk (Kd.R_drew HO_3.out)
                            have n1_ := Aside0.mk (blk_drew BK112.out)
                            have n2_ := Aside0.mk (below_drew1 HB.out)
                            clear HO_3
                            clear BK112
                            clear HB
                            have HO_3 := n0_
                            have BK112 := n1_
                            have HB := n2_
                            clear n0_ n1_ n2_
                            have p113 : 0 ≤ (x6_2 : Int) := of_decide_eq_true (by first | (with_reducible assumption) | assumption)
                            have q113 : x6_2 < (l0.length : Int) := of_decide_eq_true (by first | (with_reducible assumption) | assumption)
                            obtain ⟨ad113, A113_3, c113_3, A113_4, c113_4, e113, hx113_0, hx113_1, hx113_2, hx113_3, hx113_4, hl113_3, hi113_3, hl113_4, hi113_4⟩ := at_T49 HR0.out x6_2 p113 q113
                            have hw113_4 := hx113_4
                            have hw113_3 := hx113_3
                            have hw113_2 := hx113_2
                            have hw113_1 := hx113_1
                            have hw113_0 := hx113_0
                            obtain rfl : ad110 = ad113 := (by injection e113)
                            replace hx113_0 := (HB.out.cell (World.block_lt_of_cell? w _ hx113_0)).trans hx113_0
                            replace hx113_1 := (HB.out.cell (World.block_lt_of_cell? w _ hx113_1)).trans hx113_1
                            replace hx113_2 := (HB.out.cell (World.block_lt_of_cell? w _ hx113_2)).trans hx113_2
                            replace hx113_3 := (HB.out.cell (World.block_lt_of_cell? w _ hx113_3)).trans hx113_3
                            replace hx113_4 := (HB.out.cell (World.block_lt_of_cell? w _ hx113_4)).trans hx113_4
                            have HR113_3 := Aside0.mk hi113_3
                            have HC113_3 := Aside0.mk hl113_3
                            clear hi113_3 hl113_3
                            have HR113_4 := Aside0.mk hi113_4
                            have HC113_4 := Aside0.mk hl113_4
                            clear hi113_4 hl113_4
                            replace p113 := eq_true p113
                            replace q113 := eq_true q113
                            have p114 : 0 ≤ (x6_2 : Int) := of_decide_eq_true (by first | (with_reducible assumption) | assumption)
                            have q114 : x6_2 < (l0.length : Int) := of_decide_eq_true (by first | (with_reducible assumption) | assumption)
                            obtain ⟨ad114, A114_3, c114_3, A114_4, c114_4, e114, hx114_0, hx114_1, hx114_2, hx114_3, hx114_4, hl114_3, hi114_3, hl114_4, hi114_4⟩ := at_T49 HR0.out x6_2 p114 q114
                            have hw114_4 := hx114_4
                            have hw114_3 := hx114_3
                            have hw114_2 := hx114_2
                            have hw114_1 := hx114_1
                            have hw114_0 := hx114_0
                            obtain rfl : ad110 = ad114 := (by injection e114)
                            replace hx114_0 := (HB.out.cell (World.block_lt_of_cell? w _ hx114_0)).trans hx114_0
                            replace hx114_1 := (HB.out.cell (World.block_lt_of_cell? w _ hx114_1)).trans hx114_1
                            replace hx114_2 := (HB.out.cell (World.block_lt_of_cell? w _ hx114_2)).trans hx114_2
                            replace hx114_3 := (HB.out.cell (World.block_lt_of_cell? w _ hx114_3)).trans hx114_3
                            replace hx114_4 := (HB.out.cell (World.block_lt_of_cell? w _ hx114_4)).trans hx114_4
                            have HR114_3 := Aside0.mk hi114_3
                            have HC114_3 := Aside0.mk hl114_3
                            clear hi114_3 hl114_3
                            have HR114_4 := Aside0.mk hi114_4
                            have HC114_4 := Aside0.mk hl114_4
                            clear hi114_4 hl114_4
                            replace p114 := eq_true p114
                            replace q114 := eq_true q114
                            have ea_ := Option.some.inj (hx113_3.symm.trans hx114_3)
                            injection ea_ with ea_ en_ ec_
                            subst ea_
                            subst ec_
                            clear en_
                            have ea_ := Option.some.inj (hx113_4.symm.trans hx114_4)
                            injection ea_ with ea_ en_ ec_
                            subst ea_
                            subst ec_
                            clear en_
                            refine start_ (n := 21) (S := fun w' => w'.cell? ⟨gb112, 0, none⟩ = some (.string ((rd_T49 l0 x9_1).f0)) ∧ w'.cell? ⟨gb112, 1, none⟩ = some (.string ((rd_T49 l0 x9_1).f1)) ∧ w'.cell? ⟨gb112, 2, none⟩ = some (.int .i64 x113002_2) ∧ w'.cell? (ad110.add ((x6_2).toNat * 5)) = some (.string ((rd_T49 l0 x6_2).f0)) ∧ w'.cell? ⟨(ad110.add ((x6_2).toNat * 5)).block, (ad110.add ((x6_2).toNat * 5)).off + 1, none⟩ = some (.string ((rd_T49 l0 x6_2).f1)) ∧ w'.cell? ⟨(ad110.add ((x6_2).toNat * 5)).block, (ad110.add ((x6_2).toNat * 5)).off + 2, none⟩ = some (.string ((rd_T49 l0 x6_2).f2)) ∧ w'.cell? ⟨(ad110.add ((x6_2).toNat * 5)).block, (ad110.add ((x6_2).toNat * 5)).off + 3, none⟩ = some (.slice A113_3 ((rd_T49 l0 x6_2).f3).length c113_3) ∧ w'.cell? ⟨(ad110.add ((x6_2).toNat * 5)).block, (ad110.add ((x6_2).toNat * 5)).off + 4, none⟩ = some (.slice A113_4 ((rd_T49 l0 x6_2).f4).length c113_4) ∧ w'.cell? (ad110.add ((x6_2).toNat * 5)) = some (.string ((rd_T49 l0 x6_2).f0)) ∧ w'.cell? ⟨(ad110.add ((x6_2).toNat * 5)).block, (ad110.add ((x6_2).toNat * 5)).off + 1, none⟩ = some (.string ((rd_T49 l0 x6_2).f1)) ∧ w'.cell? ⟨(ad110.add ((x6_2).toNat * 5)).block, (ad110.add ((x6_2).toNat * 5)).off + 2, none⟩ = some (.string ((rd_T49 l0 x6_2).f2)) ∧ w'.cell? ⟨(ad110.add ((x6_2).toNat * 5)).block, (ad110.add ((x6_2).toNat * 5)).off + 3, none⟩ = some (.slice A113_3 ((rd_T49 l0 x6_2).f3).length c113_3) ∧ w'.cell? ⟨(ad110.add ((x6_2).toNat * 5)).block, (ad110.add ((x6_2).toNat * 5)).off + 4, none⟩ = some (.slice A113_4 ((rd_T49 l0 x6_2).f4).length c113_4)) (ds := []) #[false, false, false, false, false, false, false, false, false, false, false, false, false, false, false, false, false, false, false, false, false] (by kernel_rfl) rfl rfl ⟨(blk_cell BK112.out 0).trans rfl, (blk_cell BK112.out 1).trans rfl, (blk_cell BK112.out 2).trans rfl, ((HB.out.cell (World.block_lt_of_cell? w _ hw113_0)).trans hw113_0), ((HB.out.cell (World.block_lt_of_cell? w _ hw113_1)).trans hw113_1), ((HB.out.cell (World.block_lt_of_cell? w _ hw113_2)).trans hw113_2), ((HB.out.cell (World.block_lt_of_cell? w _ hw113_3)).trans hw113_3), ((HB.out.cell (World.block_lt_of_cell? w _ hw113_4)).trans hw113_4), ((HB.out.cell (World.block_lt_of_cell? w _ hw114_0)).trans hw114_0), ((HB.out.cell (World.block_lt_of_cell? w _ hw114_1)).trans hw114_1), ((HB.out.cell (World.block_lt_of_cell? w _ hw114_2)).trans hw114_2), ((HB.out.cell (World.block_lt_of_cell? w _ hw114_3)).trans hw114_3), ((HB.out.cell (World.block_lt_of_cell? w _ hw114_4)).trans hw114_4)⟩ (fun hHeld => ?_); refine with_tabW tendrilref12_Of.tab9 tendrilref12_Of.bits9 (fun HT_ HW_ => ?_)
                            generalize wr.drew = w17 at HO_3 BK112 HB HR113_3 HR113_4 HR114_3 HR114_4 hx113_0 hx113_1 hx113_2 hx113_3 hx113_4 hx114_0 hx114_1 hx114_2 hx114_3 hx114_4 hHeld ⊢
                            refine pure_ (i := 0) (N := some 28) (v := ?_) (a' := ?_) #[true, false, false, false, false, false, false, false, false, false, false, false, false, false, false, false, false, false, false, false, false] rfl rfl (any_of HT_.out (by kernel_rfl)) (fun _ _ _ h => h) (Or.inl ⟨by rfl, ?_⟩) ?_ ?_
                            rotate_left
                            · intro w'
                              go_simp
                              with_reducible rfl
                            rotate_left
                            · simp only [Act.put, List.setIfInBounds_toArray, List.set_cons_zero, List.set_cons_succ, i64_w, i32_w]
                              rfl
                            refine take_ (i := 1) (N := some 29) (v := ?_) (a' := ?_) #[true, true, false, false, false, false, false, false, false, false, false, false, false, false, false, false, false, false, false, false, false] rfl rfl (take_ofW HT_.out HW_.out (by kernel_rfl)) (fun _ _ _ h => h) (Or.inl ⟨by rfl, ?_⟩) hHeld ?_ ?_
                            rotate_left
                            · rintro w' ⟨s0, s1, s2, s3, s4, s5, s6, s7, s8, s9, s10, s11, s12⟩
                              go_simp
                              with_reducible rfl
                            rotate_left
                            · simp only [Act.put, List.setIfInBounds_toArray, List.set_cons_zero, List.set_cons_succ, i64_w, i32_w]
                              rfl
                            refine pure_ (i := 2) (N := some 30) (v := ?_) (a' := ?_) #[true, true, true, false, false, false, false, false, false, false, false, false, false, false, false, false, false, false, false, false, false] rfl rfl (any_of HT_.out (by kernel_rfl)) (fun _ _ _ h => h) (Or.inl ⟨by rfl, ?_⟩) ?_ ?_
                            rotate_left
                            · intro w'
                              go_simp
                              with_reducible rfl
                            rotate_left
                            · simp only [Act.put, List.setIfInBounds_toArray, List.set_cons_zero, List.set_cons_succ, i64_w, i32_w]
                              rfl
                            refine pure_ (i := 3) (N := some 31) (v := ?_) (a' := ?_) #[true, true, true, true, false, false, false, false, false, false, false, false, false, false, false, false, false, false, false, false, false] rfl rfl (any_of HT_.out (by kernel_rfl)) (fun _ _ _ h => h) (Or.inl ⟨by rfl, ?_⟩) ?_ ?_
                            rotate_left
                            · intro w'
                              go_simp
                              with_reducible rfl
                            rotate_left
                            · simp only [Act.put, List.setIfInBounds_toArray, List.set_cons_zero, List.set_cons_succ, i64_w, i32_w]
                              rfl
                            refine pure_ (i := 4) (N := some 32) (v := ?_) (a' := ?_) #[true, true, true, true, true, false, false, false, false, false, false, false, false, false, false, false, false, false, false, false, false] rfl rfl (any_of HT_.out (by kernel_rfl)) (fun _ _ _ h => h) (Or.inl ⟨by rfl, ?_⟩) ?_ ?_
                            rotate_left
                            · intro w'
                              go_simp
                              with_reducible rfl
                            rotate_left
                            · simp only [Act.put, List.setIfInBounds_toArray, List.set_cons_zero, List.set_cons_succ, i64_w, i32_w]
                              rfl
                            refine pure_ (i := 5) (N := some 33) (v := ?_) (a' := ?_) #[true, true, true, true, true, true, false, false, false, false, false, false, false, false, false, false, false, false, false, false, false] rfl rfl (any_of HT_.out (by kernel_rfl)) (fun _ _ _ h => h) (Or.inl ⟨by rfl, ?_⟩) ?_ ?_
                            rotate_left
                            · intro w'
                              go_simp
                              with_reducible rfl
                            rotate_left
                            · simp only [Act.put, List.setIfInBounds_toArray, List.set_cons_zero, List.set_cons_succ, i64_w, i32_w]
                              rfl
                            refine pure_ (i := 6) (N := some 34) (v := ?_) (a' := ?_) #[true, true, true, true, true, true, true, false, false, false, false, false, false, false, false, false, false, false, false, false, false] rfl rfl (any_of HT_.out (by kernel_rfl)) (fun _ _ _ h => h) (Or.inl ⟨by rfl, ?_⟩) ?_ ?_
                            rotate_left
                            · intro w'
                              go_simp
                              with_reducible rfl
                            rotate_left
                            · simp only [Act.put, List.setIfInBounds_toArray, List.set_cons_zero, List.set_cons_succ, i64_w, i32_w]
                              rfl
                            refine pure_ (i := 7) (N := some 35) (v := ?_) (a' := ?_) #[true, true, true, true, true, true, true, true, false, false, false, false, false, false, false, false, false, false, false, false, false] rfl rfl (any_of HT_.out (by kernel_rfl)) (fun _ _ _ h => h) (Or.inl ⟨by rfl, ?_⟩) ?_ ?_
                            rotate_left
                            · intro w'
                              go_simp
                              with_reducible rfl
                            rotate_left
                            · simp only [Act.put, List.setIfInBounds_toArray, List.set_cons_zero, List.set_cons_succ, i64_w, i32_w]
                              rfl
                            refine take_ (i := 8) (N := some 36) (v := ?_) (a' := ?_) #[true, true, true, true, true, true, true, true, true, false, false, false, false, false, false, false, false, false, false, false, false] rfl rfl (take_ofW HT_.out HW_.out (by kernel_rfl)) (fun _ _ _ h => h) (Or.inl ⟨by rfl, ?_⟩) hHeld ?_ ?_
                            rotate_left
                            · rintro w' ⟨s0, s1, s2, s3, s4, s5, s6, s7, s8, s9, s10, s11, s12⟩
                              go_simp
                              with_reducible rfl
                            rotate_left
                            · simp only [Act.put, List.setIfInBounds_toArray, List.set_cons_zero, List.set_cons_succ, i64_w, i32_w]
                              rfl
                            refine pure_ (i := 9) (N := some 37) (v := ?_) (a' := ?_) #[true, true, true, true, true, true, true, true, true, true, false, false, false, false, false, false, false, false, false, false, false] rfl rfl (any_of HT_.out (by kernel_rfl)) (fun _ _ _ h => h) (Or.inl ⟨by rfl, ?_⟩) ?_ ?_
                            rotate_left
                            · intro w'
                              go_simp
                              with_reducible rfl
                            rotate_left
                            · simp only [Act.put, List.setIfInBounds_toArray, List.set_cons_zero, List.set_cons_succ, i64_w, i32_w]
                              rfl
                            refine pure_ (i := 10) (N := some 38) (v := ?_) (a' := ?_) #[true, true, true, true, true, true, true, true, true, true, true, false, false, false, false, false, false, false, false, false, false] rfl rfl (any_of HT_.out (by kernel_rfl)) (fun _ _ _ h => h) (Or.inl ⟨by rfl, ?_⟩) ?_ ?_
                            rotate_left
                            · intro w'
                              go_simp
                              with_reducible rfl
                            rotate_left
                            · simp only [Act.put, List.setIfInBounds_toArray, List.set_cons_zero, List.set_cons_succ, i64_w, i32_w]
                              rfl
                            refine pure_ (i := 11) (N := some 39) (v := ?_) (a' := ?_) #[true, true, true, true, true, true, true, true, true, true, true, true, false, false, false, false, false, false, false, false, false] rfl rfl (any_of HT_.out (by kernel_rfl)) (fun _ _ _ h => h) (Or.inl ⟨by rfl, ?_⟩) ?_ ?_
                            rotate_left
                            · intro w'
                              go_simp
                              with_reducible rfl
                            rotate_left
                            · simp only [Act.put, List.setIfInBounds_toArray, List.set_cons_zero, List.set_cons_succ, i64_w, i32_w]
                              rfl
                            refine pure_ (i := 12) (N := some 40) (v := ?_) (a' := ?_) #[true, true, true, true, true, true, true, true, true, true, true, true, true, false, false, false, false, false, false, false, false] rfl rfl (any_of HT_.out (by kernel_rfl)) (fun _ _ _ h => h) (Or.inl ⟨by rfl, ?_⟩) ?_ ?_
                            rotate_left
                            · intro w'
                              go_simp
                              with_reducible rfl
                            rotate_left
                            · simp only [Act.put, List.setIfInBounds_toArray, List.set_cons_zero, List.set_cons_succ, i64_w, i32_w]
                              rfl
                            refine pure_ (i := 13) (N := some 41) (v := ?_) (a' := ?_) #[true, true, true, true, true, true, true, true, true, true, true, true, true, true, false, false, false, false, false, false, false] rfl rfl (any_of HT_.out (by kernel_rfl)) (fun _ _ _ h => h) (Or.inl ⟨by rfl, ?_⟩) ?_ ?_
                            rotate_left
                            · intro w'
                              go_simp
                              with_reducible rfl
                            rotate_left
                            · simp only [Act.put, List.setIfInBounds_toArray, List.set_cons_zero, List.set_cons_succ, i64_w, i32_w]
                              rfl
                            refine pure_ (i := 14) (N := some 42) (v := ?_) (a' := ?_) #[true, true, true, true, true, true, true, true, true, true, true, true, true, true, true, false, false, false, false, false, false] rfl rfl (any_of HT_.out (by kernel_rfl)) (fun _ _ _ h => h) (Or.inl ⟨by rfl, ?_⟩) ?_ ?_
                            rotate_left
                            · intro w'
                              go_simp
                              with_reducible rfl
                            rotate_left
                            · simp only [Act.put, List.setIfInBounds_toArray, List.set_cons_zero, List.set_cons_succ, i64_w, i32_w]
                              rfl
                            refine pure_ (i := 15) (N := some 43) (v := ?_) (a' := ?_) #[true, true, true, true, true, true, true, true, true, true, true, true, true, true, true, true, false, false, false, false, false] rfl rfl (any_of HT_.out (by kernel_rfl)) (fun _ _ _ h => h) (Or.inl ⟨by rfl, ?_⟩) ?_ ?_
                            rotate_left
                            · intro w'
                              go_simp
                              with_reducible rfl
                            rotate_left
                            · simp only [Act.put, List.setIfInBounds_toArray, List.set_cons_zero, List.set_cons_succ, i64_w, i32_w]
                              rfl
                            refine pure_ (i := 17) (N := some 45) (v := ?_) (a' := ?_) #[true, true, true, true, true, true, true, true, true, true, true, true, true, true, true, true, false, true, false, false, false] rfl rfl (any_of HT_.out (by kernel_rfl)) (fun _ _ _ h => h) (Or.inl ⟨by rfl, ?_⟩) ?_ ?_
                            rotate_left
                            · intro w'
                              go_simp
                              with_reducible rfl
                            rotate_left
                            · simp only [Act.put, List.setIfInBounds_toArray, List.set_cons_zero, List.set_cons_succ, i64_w, i32_w]
                              rfl
                            refine take_ (i := 16) (N := some 44) (v := ?_) (a' := ?_) #[true, true, true, true, true, true, true, true, true, true, true, true, true, true, true, true, true, true, false, false, false] rfl rfl (take_ofW HT_.out HW_.out (by kernel_rfl)) (fun _ _ _ h => h) (Or.inl ⟨by rfl, ?_⟩) hHeld ?_ ?_
                            rotate_left
                            · rintro w' ⟨s0, s1, s2, s3, s4, s5, s6, s7, s8, s9, s10, s11, s12⟩
                              go_simp
                              with_reducible rfl
                            rotate_left
                            · simp only [Act.put, List.setIfInBounds_toArray, List.set_cons_zero, List.set_cons_succ, i64_w, i32_w]
                              rfl
                            refine take_ (i := 18) (N := some 46) (v := ?_) (a' := ?_) #[true, true, true, true, true, true, true, true, true, true, true, true, true, true, true, true, true, true, true, false, false] rfl rfl (take_ofW HT_.out HW_.out (by kernel_rfl)) (fun _ _ _ h => h) (Or.inl ⟨by rfl, ?_⟩) hHeld ?_ ?_
                            rotate_left
                            · rintro w' ⟨s0, s1, s2, s3, s4, s5, s6, s7, s8, s9, s10, s11, s12⟩
                              go_simp
                              with_reducible rfl
                            rotate_left
                            · simp only [Act.put, List.setIfInBounds_toArray, List.set_cons_zero, List.set_cons_succ, i64_w, i32_w]
                              rfl
                            refine pure_ (i := 19) (N := some 47) (v := ?_) (a' := ?_) #[true, true, true, true, true, true, true, true, true, true, true, true, true, true, true, true, true, true, true, true, false] rfl rfl (any_of HT_.out (by kernel_rfl)) (fun _ _ _ h => h) (Or.inl ⟨by rfl, ?_⟩) ?_ ?_
                            rotate_left
                            · intro w'
                              go_simp
                              with_reducible rfl
                            rotate_left
                            · simp only [Act.put, List.setIfInBounds_toArray, List.set_cons_zero, List.set_cons_succ, i64_w, i32_w]
                              rfl
                            refine pure_ (i := 20) (N := some 48) (v := ?_) (a' := ?_) #[true, true, true, true, true, true, true, true, true, true, true, true, true, true, true, true, true, true, true, true, true] rfl rfl (any_of HT_.out (by kernel_rfl)) (fun _ _ _ h => h) (Or.inl ⟨by rfl, ?_⟩) ?_ ?_
                            rotate_left
                            · intro w'
                              go_simp
                              with_reducible rfl
                            rotate_left
                            · simp only [Act.put, List.setIfInBounds_toArray, List.set_cons_zero, List.set_cons_succ, i64_w, i32_w]
                              rfl
                            refine done_ (done_of HT_.out (by kernel_rfl)) ?_
                            have hcz18_0 : w17.cell? ⟨gb112, 0, none⟩ = some (.string ((rd_T49 l0 x9_1).f0)) := (blk_cell BK112.out 0).trans rfl
                            have hcz18_1 : w17.cell? ⟨gb112, 1, none⟩ = some (.string ((rd_T49 l0 x9_1).f1)) := (blk_cell BK112.out 1).trans rfl
                            have hcz18_2 : w17.cell? ⟨gb112, 2, none⟩ = some (.int .i64 x113002_2) := (blk_cell BK112.out 2).trans rfl
                            have hfz18_0 := blk_frozen BK112.out 0
                            have hfz18_1 := blk_frozen BK112.out 1
                            have hfz18_2 := blk_frozen BK112.out 2
                            try go_wp2
                            go_roundg k2
                            case measure => have := HK1.out; have := HK2.out; omega
                            case rel => exact ⟨(wrap64 (x6_2 + 1)), (wrap64 (x113002_2 + 1)), (by first | rfl | (simp; done) | (simp [*]; done)), H', ⟨by have := HK1.out; have := HK2.out; omega⟩, ⟨by (with_reducible repeat (first | apply Kd.R_alloc | apply Kd.R_drewN | apply Kd.R_drew)); exact Kd.R_mono (Kd.R_far (p := ⟨gb112, 2, none⟩) (Kd.R_mono HO_3.out (fun k_ hk => (⟨hk, hk⟩ : _ ∧ k_ ≠ gb112))) (fun _ hk => hk.2) (.int .i64 (wrap64 (x113002_2 + 1)))) (fun _ hk => hk.1)⟩, ⟨by (with_reducible repeat (first | refine blk_drewN ?_ _ | refine blk_drew ?_ | refine blk_alloc ?_ _)); refine blk_put (cs := #[.string ((rd_T49 l0 x9_1).f0), .string ((rd_T49 l0 x9_1).f1), .int .i64 x113002_2]) ?_ 2 _ rfl; (with_reducible repeat (first | refine blk_drewN ?_ _ | refine blk_drew ?_ | refine blk_alloc ?_ _)); exact BK112.out⟩, ⟨by repeat (first | (with_reducible first | exact HB.out | apply below_alloc | apply pw_below_drewN | apply below_drew1 | refine below_set ?_ GE112.out) | exact HB.out)⟩⟩
                          · rw [if_neg c16] at H
                            have c16b0 : (((rd_T49 l0 x6_2).f0).toList == ((rd_T49 l0 x9_1).f0).toList) = false := beq_eq_false_iff_ne.mpr c16
                            have c16b1 : (((rd_T49 l0 x6_2).f0).toList != ((rd_T49 l0 x9_1).f0).toList) = true := bne_iff_ne.mpr c16
                            have H' := Aside0.mk H
                            clear H
                            try go_wp2
                            have n0_ := Aside0.mk (Kd.R_drew HO_3.out)
                            have n1_ := Aside0.mk (blk_drew BK112.out)
                            have n2_ := Aside0.mk (below_drew1 HB.out)
                            clear HO_3
                            clear BK112
                            clear HB
                            have HO_3 := n0_
                            have BK112 := n1_
                            have HB := n2_
                            clear n0_ n1_ n2_
                            have p113 : 0 ≤ (x6_2 : Int) := of_decide_eq_true (by first | (with_reducible assumption) | assumption)
                            have q113 : x6_2 < (l0.length : Int) := of_decide_eq_true (by first | (with_reducible assumption) | assumption)
                            obtain ⟨ad113, A113_3, c113_3, A113_4, c113_4, e113, hx113_0, hx113_1, hx113_2, hx113_3, hx113_4, hl113_3, hi113_3, hl113_4, hi113_4⟩ := at_T49 HR0.out x6_2 p113 q113
                            have hw113_4 := hx113_4
                            have hw113_3 := hx113_3
                            have hw113_2 := hx113_2
                            have hw113_1 := hx113_1
                            have hw113_0 := hx113_0
                            obtain rfl : ad110 = ad113 := (by injection e113)
                            replace hx113_0 := (HB.out.cell (World.block_lt_of_cell? w _ hx113_0)).trans hx113_0
                            replace hx113_1 := (HB.out.cell (World.block_lt_of_cell? w _ hx113_1)).trans hx113_1
                            replace hx113_2 := (HB.out.cell (World.block_lt_of_cell? w _ hx113_2)).trans hx113_2
                            replace hx113_3 := (HB.out.cell (World.block_lt_of_cell? w _ hx113_3)).trans hx113_3
                            replace hx113_4 := (HB.out.cell (World.block_lt_of_cell? w _ hx113_4)).trans hx113_4
                            have HR113_3 := Aside0.mk hi113_3
                            have HC113_3 := Aside0.mk hl113_3
                            clear hi113_3 hl113_3
                            have HR113_4 := Aside0.mk hi113_4
                            have HC113_4 := Aside0.mk hl113_4
                            clear hi113_4 hl113_4
                            replace p113 := eq_true p113
                            replace q113 := eq_true q113
                            have p114 : 0 ≤ (x6_2 : Int) := of_decide_eq_true (by first | (with_reducible assumption) | assumption)
                            have q114 : x6_2 < (l0.length : Int) := of_decide_eq_true (by first | (with_reducible assumption) | assumption)
                            obtain ⟨ad114, A114_3, c114_3, A114_4, c114_4, e114, hx114_0, hx114_1, hx114_2, hx114_3, hx114_4, hl114_3, hi114_3, hl114_4, hi114_4⟩ := at_T49 HR0.out x6_2 p114 q114
                            have hw114_4 := hx114_4
                            have hw114_3 := hx114_3
                            have hw114_2 := hx114_2
                            have hw114_1 := hx114_1
                            have hw114_0 := hx114_0
                            obtain rfl : ad110 = ad114 := (by injection e114)
                            replace hx114_0 := (HB.out.cell (World.block_lt_of_cell? w _ hx114_0)).trans hx114_0
                            replace hx114_1 := (HB.out.cell (World.block_lt_of_cell? w _ hx114_1)).trans hx114_1
                            replace hx114_2 := (HB.out.cell (World.block_lt_of_cell? w _ hx114_2)).trans hx114_2
                            replace hx114_3 := (HB.out.cell (World.block_lt_of_cell? w _ hx114_3)).trans hx114_3
                            replace hx114_4 := (HB.out.cell (World.block_lt_of_cell? w _ hx114_4)).trans hx114_4
                            have HR114_3 := Aside0.mk hi114_3
                            have HC114_3 := Aside0.mk hl114_3
                            clear hi114_3 hl114_3
                            have HR114_4 := Aside0.mk hi114_4
                            have HC114_4 := Aside0.mk hl114_4
                            clear hi114_4 hl114_4
                            replace p114 := eq_true p114
                            replace q114 := eq_true q114
                            have ea_ := Option.some.inj (hx113_3.symm.trans hx114_3)
                            injection ea_ with ea_ en_ ec_
                            subst ea_
                            subst ec_
                            clear en_
                            have ea_ := Option.some.inj (hx113_4.symm.trans hx114_4)
                            injection ea_ with ea_ en_ ec_
                            subst ea_
                            subst ec_
                            clear en_
                            refine start_ (n := 21) (S := fun w' => w'.cell? ⟨gb112, 0, none⟩ = some (.string ((rd_T49 l0 x9_1).f0)) ∧ w'.cell? ⟨gb112, 1, none⟩ = some (.string ((rd_T49 l0 x9_1).f1)) ∧ w'.cell? ⟨gb112, 2, none⟩ = some (.int .i64 x113002_2) ∧ w'.cell? (ad110.add ((x6_2).toNat * 5)) = some (.string ((rd_T49 l0 x6_2).f0)) ∧ w'.cell? ⟨(ad110.add ((x6_2).toNat * 5)).block, (ad110.add ((x6_2).toNat * 5)).off + 1, none⟩ = some (.string ((rd_T49 l0 x6_2).f1)) ∧ w'.cell? ⟨(ad110.add ((x6_2).toNat * 5)).block, (ad110.add ((x6_2).toNat * 5)).off + 2, none⟩ = some (.string ((rd_T49 l0 x6_2).f2)) ∧ w'.cell? ⟨(ad110.add ((x6_2).toNat * 5)).block, (ad110.add ((x6_2).toNat * 5)).off + 3, none⟩ = some (.slice A113_3 ((rd_T49 l0 x6_2).f3).length c113_3) ∧ w'.cell? ⟨(ad110.add ((x6_2).toNat * 5)).block, (ad110.add ((x6_2).toNat * 5)).off + 4, none⟩ = some (.slice A113_4 ((rd_T49 l0 x6_2).f4).length c113_4) ∧ w'.cell? (ad110.add ((x6_2).toNat * 5)) = some (.string ((rd_T49 l0 x6_2).f0)) ∧ w'.cell? ⟨(ad110.add ((x6_2).toNat * 5)).block, (ad110.add ((x6_2).toNat * 5)).off + 1, none⟩ = some (.string ((rd_T49 l0 x6_2).f1)) ∧ w'.cell? ⟨(ad110.add ((x6_2).toNat * 5)).block, (ad110.add ((x6_2).toNat * 5)).off + 2, none⟩ = some (.string ((rd_T49 l0 x6_2).f2)) ∧ w'.cell? ⟨(ad110.add ((x6_2).toNat * 5)).block, (ad110.add ((x6_2).toNat * 5)).off + 3, none⟩ = some (.slice A113_3 ((rd_T49 l0 x6_2).f3).length c113_3) ∧ w'.cell? ⟨(ad110.add ((x6_2).toNat * 5)).block, (ad110.add ((x6_2).toNat * 5)).off + 4, none⟩ = some (.slice A113_4 ((rd_T49 l0 x6_2).f4).length c113_4)) (ds := []) #[false, false, false, false, false, false, false, false, false, false, false, false, false, false, false, false, false, false, false, false, false] (by kernel_rfl) rfl rfl ⟨(blk_cell BK112.out 0).trans rfl, (blk_cell BK112.out 1).trans rfl, (blk_cell BK112.out 2).trans rfl, ((HB.out.cell (World.block_lt_of_cell? w _ hw113_0)).trans hw113_0), ((HB.out.cell (World.block_lt_of_cell? w _ hw113_1)).trans hw113_1), ((HB.out.cell (World.block_lt_of_cell? w _ hw113_2)).trans hw113_2), ((HB.out.cell (World.block_lt_of_cell? w _ hw113_3)).trans hw113_3), ((HB.out.cell (World.block_lt_of_cell? w _ hw113_4)).trans hw113_4), ((HB.out.cell (World.block_lt_of_cell? w _ hw114_0)).trans hw114_0), ((HB.out.cell (World.block_lt_of_cell? w _ hw114_1)).trans hw114_1), ((HB.out.cell (World.block_lt_of_cell? w _ hw114_2)).trans hw114_2), ((HB.out.cell (World.block_lt_of_cell? w _ hw114_3)).trans hw114_3), ((HB.out.cell (World.block_lt_of_cell? w _ hw114_4)).trans hw114_4)⟩ (fun hHeld => ?_); refine with_tabW tendrilref12_Of.tab9 tendrilref12_Of.bits9 (fun HT_ HW_ => ?_)
                            generalize wr.drew = w19 at HO_3 BK112 HB HR113_3 HR113_4 HR114_3 HR114_4 hx113_0 hx113_1 hx113_2 hx113_3 hx113_4 hx114_0 hx114_1 hx114_2 hx114_3 hx114_4 hHeld ⊢
                            refine pure_ (i := 0) (N := some 28) (v := ?_) (a' := ?_) #[true, false, false, false, false, false, false, false, false, false, false, false, false, false, false, false, false, false, false, false, false] rfl rfl (any_of HT_.out (by kernel_rfl)) (fun _ _ _ h => h) (Or.inl ⟨by rfl, ?_⟩) ?_ ?_
                            rotate_left
                            · intro w'
                              go_simp
                              with_reducible rfl
                            rotate_left
                            · simp only [Act.put, List.setIfInBounds_toArray, List.set_cons_zero, List.set_cons_succ, i64_w, i32_w]
                              rfl
                            refine take_ (i := 1) (N := some 29) (v := ?_) (a' := ?_) #[true, true, false, false, false, false, false, false, false, false, false, false, false, false, false, false, false, false, false, false, false] rfl rfl (take_ofW HT_.out HW_.out (by kernel_rfl)) (fun _ _ _ h => h) (Or.inl ⟨by rfl, ?_⟩) hHeld ?_ ?_
                            rotate_left
                            · rintro w' ⟨s0, s1, s2, s3, s4, s5, s6, s7, s8, s9, s10, s11, s12⟩
                              go_simp
                              with_reducible rfl
                            rotate_left
                            · simp only [Act.put, List.setIfInBounds_toArray, List.set_cons_zero, List.set_cons_succ, i64_w, i32_w]
                              rfl
                            refine pure_ (i := 2) (N := some 30) (v := ?_) (a' := ?_) #[true, true, true, false, false, false, false, false, false, false, false, false, false, false, false, false, false, false, false, false, false] rfl rfl (any_of HT_.out (by kernel_rfl)) (fun _ _ _ h => h) (Or.inl ⟨by rfl, ?_⟩) ?_ ?_
                            rotate_left
                            · intro w'
                              go_simp
                              with_reducible rfl
                            rotate_left
                            · simp only [Act.put, List.setIfInBounds_toArray, List.set_cons_zero, List.set_cons_succ, i64_w, i32_w]
                              rfl
                            refine pure_ (i := 3) (N := some 31) (v := ?_) (a' := ?_) #[true, true, true, true, false, false, false, false, false, false, false, false, false, false, false, false, false, false, false, false, false] rfl rfl (any_of HT_.out (by kernel_rfl)) (fun _ _ _ h => h) (Or.inl ⟨by rfl, ?_⟩) ?_ ?_
                            rotate_left
                            · intro w'
                              go_simp
                              with_reducible rfl
                            rotate_left
                            · simp only [Act.put, List.setIfInBounds_toArray, List.set_cons_zero, List.set_cons_succ, i64_w, i32_w]
                              rfl
                            refine pure_ (i := 4) (N := some 32) (v := ?_) (a' := ?_) #[true, true, true, true, true, false, false, false, false, false, false, false, false, false, false, false, false, false, false, false, false] rfl rfl (any_of HT_.out (by kernel_rfl)) (fun _ _ _ h => h) (Or.inl ⟨by rfl, ?_⟩) ?_ ?_
                            rotate_left
                            · intro w'
                              go_simp
                              with_reducible rfl
                            rotate_left
                            · simp only [Act.put, List.setIfInBounds_toArray, List.set_cons_zero, List.set_cons_succ, i64_w, i32_w]
                              rfl
                            refine pure_ (i := 5) (N := some 33) (v := ?_) (a' := ?_) #[true, true, true, true, true, true, false, false, false, false, false, false, false, false, false, false, false, false, false, false, false] rfl rfl (any_of HT_.out (by kernel_rfl)) (fun _ _ _ h => h) (Or.inl ⟨by rfl, ?_⟩) ?_ ?_
                            rotate_left
                            · intro w'
                              go_simp
                              with_reducible rfl
                            rotate_left
                            · simp only [Act.put, List.setIfInBounds_toArray, List.set_cons_zero, List.set_cons_succ, i64_w, i32_w]
                              rfl
                            refine pure_ (i := 6) (N := some 34) (v := ?_) (a' := ?_) #[true, true, true, true, true, true, true, false, false, false, false, false, false, false, false, false, false, false, false, false, false] rfl rfl (any_of HT_.out (by kernel_rfl)) (fun _ _ _ h => h) (Or.inl ⟨by rfl, ?_⟩) ?_ ?_
                            rotate_left
                            · intro w'
                              go_simp
                              with_reducible rfl
                            rotate_left
                            · simp only [Act.put, List.setIfInBounds_toArray, List.set_cons_zero, List.set_cons_succ, i64_w, i32_w]
                              rfl
                            refine pure_ (i := 7) (N := some 35) (v := ?_) (a' := ?_) #[true, true, true, true, true, true, true, true, false, false, false, false, false, false, false, false, false, false, false, false, false] rfl rfl (any_of HT_.out (by kernel_rfl)) (fun _ _ _ h => h) (Or.inl ⟨by rfl, ?_⟩) ?_ ?_
                            rotate_left
                            · intro w'
                              go_simp
                              with_reducible rfl
                            rotate_left
                            · simp only [Act.put, List.setIfInBounds_toArray, List.set_cons_zero, List.set_cons_succ, i64_w, i32_w]
                              rfl
                            refine take_ (i := 8) (N := some 36) (v := ?_) (a' := ?_) #[true, true, true, true, true, true, true, true, true, false, false, false, false, false, false, false, false, false, false, false, false] rfl rfl (take_ofW HT_.out HW_.out (by kernel_rfl)) (fun _ _ _ h => h) (Or.inl ⟨by rfl, ?_⟩) hHeld ?_ ?_
                            rotate_left
                            · rintro w' ⟨s0, s1, s2, s3, s4, s5, s6, s7, s8, s9, s10, s11, s12⟩
                              go_simp
                              with_reducible rfl
                            rotate_left
                            · simp only [Act.put, List.setIfInBounds_toArray, List.set_cons_zero, List.set_cons_succ, i64_w, i32_w]
                              rfl
                            refine pure_ (i := 9) (N := some 37) (v := ?_) (a' := ?_) #[true, true, true, true, true, true, true, true, true, true, false, false, false, false, false, false, false, false, false, false, false] rfl rfl (any_of HT_.out (by kernel_rfl)) (fun _ _ _ h => h) (Or.inl ⟨by rfl, ?_⟩) ?_ ?_
                            rotate_left
                            · intro w'
                              go_simp
                              with_reducible rfl
                            rotate_left
                            · simp only [Act.put, List.setIfInBounds_toArray, List.set_cons_zero, List.set_cons_succ, i64_w, i32_w]
                              rfl
                            refine pure_ (i := 10) (N := some 38) (v := ?_) (a' := ?_) #[true, true, true, true, true, true, true, true, true, true, true, false, false, false, false, false, false, false, false, false, false] rfl rfl (any_of HT_.out (by kernel_rfl)) (fun _ _ _ h => h) (Or.inl ⟨by rfl, ?_⟩) ?_ ?_
                            rotate_left
                            · intro w'
                              go_simp
                              with_reducible rfl
                            rotate_left
                            · simp only [Act.put, List.setIfInBounds_toArray, List.set_cons_zero, List.set_cons_succ, i64_w, i32_w]
                              rfl
                            refine pure_ (i := 11) (N := some 39) (v := ?_) (a' := ?_) #[true, true, true, true, true, true, true, true, true, true, true, true, false, false, false, false, false, false, false, false, false] rfl rfl (any_of HT_.out (by kernel_rfl)) (fun _ _ _ h => h) (Or.inl ⟨by rfl, ?_⟩) ?_ ?_
                            rotate_left
                            · intro w'
                              go_simp
                              with_reducible rfl
                            rotate_left
                            · simp only [Act.put, List.setIfInBounds_toArray, List.set_cons_zero, List.set_cons_succ, i64_w, i32_w]
                              rfl
                            refine pure_ (i := 12) (N := some 40) (v := ?_) (a' := ?_) #[true, true, true, true, true, true, true, true, true, true, true, true, true, false, false, false, false, false, false, false, false] rfl rfl (any_of HT_.out (by kernel_rfl)) (fun _ _ _ h => h) (Or.inl ⟨by rfl, ?_⟩) ?_ ?_
                            rotate_left
                            · intro w'
                              go_simp
                              with_reducible rfl
                            rotate_left
                            · simp only [Act.put, List.setIfInBounds_toArray, List.set_cons_zero, List.set_cons_succ, i64_w, i32_w]
                              rfl
                            refine pure_ (i := 13) (N := some 41) (v := ?_) (a' := ?_) #[true, true, true, true, true, true, true, true, true, true, true, true, true, true, false, false, false, false, false, false, false] rfl rfl (any_of HT_.out (by kernel_rfl)) (fun _ _ _ h => h) (Or.inl ⟨by rfl, ?_⟩) ?_ ?_
                            rotate_left
                            · intro w'
                              go_simp
                              with_reducible rfl
                            rotate_left
                            · simp only [Act.put, List.setIfInBounds_toArray, List.set_cons_zero, List.set_cons_succ, i64_w, i32_w]
                              rfl
                            refine pure_ (i := 14) (N := some 42) (v := ?_) (a' := ?_) #[true, true, true, true, true, true, true, true, true, true, true, true, true, true, true, false, false, false, false, false, false] rfl rfl (any_of HT_.out (by kernel_rfl)) (fun _ _ _ h => h) (Or.inl ⟨by rfl, ?_⟩) ?_ ?_
                            rotate_left
                            · intro w'
                              go_simp
                              with_reducible rfl
                            rotate_left
                            · simp only [Act.put, List.setIfInBounds_toArray, List.set_cons_zero, List.set_cons_succ, i64_w, i32_w]
                              rfl
                            refine pure_ (i := 15) (N := some 43) (v := ?_) (a' := ?_) #[true, true, true, true, true, true, true, true, true, true, true, true, true, true, true, true, false, false, false, false, false] rfl rfl (any_of HT_.out (by kernel_rfl)) (fun _ _ _ h => h) (Or.inl ⟨by rfl, ?_⟩) ?_ ?_
                            rotate_left
                            · intro w'
                              go_simp
                              with_reducible rfl
                            rotate_left
                            · simp only [Act.put, List.setIfInBounds_toArray, List.set_cons_zero, List.set_cons_succ, i64_w, i32_w]
                              rfl
                            refine pure_ (i := 17) (N := some 45) (v := ?_) (a' := ?_) #[true, true, true, true, true, true, true, true, true, true, true, true, true, true, true, true, false, true, false, false, false] rfl rfl (any_of HT_.out (by kernel_rfl)) (fun _ _ _ h => h) (Or.inl ⟨by rfl, ?_⟩) ?_ ?_
                            rotate_left
                            · intro w'
                              go_simp
                              with_reducible rfl
                            rotate_left
                            · simp only [Act.put, List.setIfInBounds_toArray, List.set_cons_zero, List.set_cons_succ, i64_w, i32_w]
                              rfl
                            refine take_ (i := 16) (N := some 44) (v := ?_) (a' := ?_) #[true, true, true, true, true, true, true, true, true, true, true, true, true, true, true, true, true, true, false, false, false] rfl rfl (take_ofW HT_.out HW_.out (by kernel_rfl)) (fun _ _ _ h => h) (Or.inl ⟨by rfl, ?_⟩) hHeld ?_ ?_
                            rotate_left
                            · rintro w' ⟨s0, s1, s2, s3, s4, s5, s6, s7, s8, s9, s10, s11, s12⟩
                              go_simp
                              with_reducible rfl
                            rotate_left
                            · simp only [Act.put, List.setIfInBounds_toArray, List.set_cons_zero, List.set_cons_succ, i64_w, i32_w]
                              rfl
                            refine take_ (i := 18) (N := some 46) (v := ?_) (a' := ?_) #[true, true, true, true, true, true, true, true, true, true, true, true, true, true, true, true, true, true, true, false, false] rfl rfl (take_ofW HT_.out HW_.out (by kernel_rfl)) (fun _ _ _ h => h) (Or.inl ⟨by rfl, ?_⟩) hHeld ?_ ?_
                            rotate_left
                            · rintro w' ⟨s0, s1, s2, s3, s4, s5, s6, s7, s8, s9, s10, s11, s12⟩
                              go_simp
                              with_reducible rfl
                            rotate_left
                            · simp only [Act.put, List.setIfInBounds_toArray, List.set_cons_zero, List.set_cons_succ, i64_w, i32_w]
                              rfl
                            refine pure_ (i := 19) (N := some 47) (v := ?_) (a' := ?_) #[true, true, true, true, true, true, true, true, true, true, true, true, true, true, true, true, true, true, true, true, false] rfl rfl (any_of HT_.out (by kernel_rfl)) (fun _ _ _ h => h) (Or.inl ⟨by rfl, ?_⟩) ?_ ?_
                            rotate_left
                            · intro w'
                              go_simp
                              with_reducible rfl
                            rotate_left
                            · simp only [Act.put, List.setIfInBounds_toArray, List.set_cons_zero, List.set_cons_succ, i64_w, i32_w]
                              rfl
                            refine pure_ (i := 20) (N := some 48) (v := ?_) (a' := ?_) #[true, true, true, true, true, true, true, true, true, true, true, true, true, true, true, true, true, true, true, true, true] rfl rfl (any_of HT_.out (by kernel_rfl)) (fun _ _ _ h => h) (Or.inl ⟨by rfl, ?_⟩) ?_ ?_
                            rotate_left
                            · intro w'
                              go_simp
                              with_reducible rfl
                            rotate_left
                            · simp only [Act.put, List.setIfInBounds_toArray, List.set_cons_zero, List.set_cons_succ, i64_w, i32_w]
                              rfl
                            refine done_ (done_of HT_.out (by kernel_rfl)) ?_
                            try go_wp2
                            go_roundg k2
                            case measure => have := HK1.out; have := HK2.out; omega
                            case rel => exact ⟨(wrap64 (x6_2 + 1)), (x113002_2), (by first | rfl | (simp; done) | (simp [*]; done)), H', ⟨by have := HK1.out; have := HK2.out; omega⟩, ⟨by (with_reducible repeat (first | apply Kd.R_alloc | apply Kd.R_drewN | apply Kd.R_drew)); exact HO_3.out⟩, ⟨by (with_reducible repeat (first | refine blk_drewN ?_ _ | refine blk_drew ?_ | refine blk_alloc ?_ _)); exact BK112.out⟩, ⟨by repeat (first | (with_reducible first | exact HB.out | apply below_alloc | apply pw_below_drewN | apply below_drew1 | refine below_set ?_ GE112.out) | exact HB.out)⟩⟩
                        · rw [if_neg c15] at H
                          have c15b0 : (((rd_T49 l0 x6_2).f1).toList == ([] : List UInt8)) = false := beq_eq_false_iff_ne.mpr c15
                          have c15b1 : (((rd_T49 l0 x6_2).f1).toList != ([] : List UInt8)) = true := bne_iff_ne.mpr c15
                          have H' := Aside0.mk H
                          clear H
                          try go_wp2
                          have n0_ := Aside0.mk (Kd.R_drew HO_3.out)
                          have n1_ := Aside0.mk (blk_drew BK112.out)
                          have n2_ := Aside0.mk (below_drew1 HB.out)
                          clear HO_3
                          clear BK112
                          clear HB
                          have HO_3 := n0_
                          have BK112 := n1_
                          have HB := n2_
                          clear n0_ n1_ n2_
                          have p113 : 0 ≤ (x6_2 : Int) := of_decide_eq_true (by first | (with_reducible assumption) | assumption)
                          have q113 : x6_2 < (l0.length : Int) := of_decide_eq_true (by first | (with_reducible assumption) | assumption)
                          obtain ⟨ad113, A113_3, c113_3, A113_4, c113_4, e113, hx113_0, hx113_1, hx113_2, hx113_3, hx113_4, hl113_3, hi113_3, hl113_4, hi113_4⟩ := at_T49 HR0.out x6_2 p113 q113
                          have hw113_4 := hx113_4
                          have hw113_3 := hx113_3
                          have hw113_2 := hx113_2
                          have hw113_1 := hx113_1
                          have hw113_0 := hx113_0
                          obtain rfl : ad110 = ad113 := (by injection e113)
                          replace hx113_0 := (HB.out.cell (World.block_lt_of_cell? w _ hx113_0)).trans hx113_0
                          replace hx113_1 := (HB.out.cell (World.block_lt_of_cell? w _ hx113_1)).trans hx113_1
                          replace hx113_2 := (HB.out.cell (World.block_lt_of_cell? w _ hx113_2)).trans hx113_2
                          replace hx113_3 := (HB.out.cell (World.block_lt_of_cell? w _ hx113_3)).trans hx113_3
                          replace hx113_4 := (HB.out.cell (World.block_lt_of_cell? w _ hx113_4)).trans hx113_4
                          have HR113_3 := Aside0.mk hi113_3
                          have HC113_3 := Aside0.mk hl113_3
                          clear hi113_3 hl113_3
                          have HR113_4 := Aside0.mk hi113_4
                          have HC113_4 := Aside0.mk hl113_4
                          clear hi113_4 hl113_4
                          replace p113 := eq_true p113
                          replace q113 := eq_true q113
                          refine start_ (n := 21) (S := fun w' => w'.cell? ⟨gb112, 0, none⟩ = some (.string ((rd_T49 l0 x9_1).f0)) ∧ w'.cell? ⟨gb112, 1, none⟩ = some (.string ((rd_T49 l0 x9_1).f1)) ∧ w'.cell? ⟨gb112, 2, none⟩ = some (.int .i64 x113002_2) ∧ w'.cell? (ad110.add ((x6_2).toNat * 5)) = some (.string ((rd_T49 l0 x6_2).f0)) ∧ w'.cell? ⟨(ad110.add ((x6_2).toNat * 5)).block, (ad110.add ((x6_2).toNat * 5)).off + 1, none⟩ = some (.string ((rd_T49 l0 x6_2).f1)) ∧ w'.cell? ⟨(ad110.add ((x6_2).toNat * 5)).block, (ad110.add ((x6_2).toNat * 5)).off + 2, none⟩ = some (.string ((rd_T49 l0 x6_2).f2)) ∧ w'.cell? ⟨(ad110.add ((x6_2).toNat * 5)).block, (ad110.add ((x6_2).toNat * 5)).off + 3, none⟩ = some (.slice A113_3 ((rd_T49 l0 x6_2).f3).length c113_3) ∧ w'.cell? ⟨(ad110.add ((x6_2).toNat * 5)).block, (ad110.add ((x6_2).toNat * 5)).off + 4, none⟩ = some (.slice A113_4 ((rd_T49 l0 x6_2).f4).length c113_4)) (ds := []) #[false, false, false, false, false, false, false, false, false, false, false, false, false, false, false, false, false, false, false, false, false] (by kernel_rfl) rfl rfl ⟨(blk_cell BK112.out 0).trans rfl, (blk_cell BK112.out 1).trans rfl, (blk_cell BK112.out 2).trans rfl, ((HB.out.cell (World.block_lt_of_cell? w _ hw113_0)).trans hw113_0), ((HB.out.cell (World.block_lt_of_cell? w _ hw113_1)).trans hw113_1), ((HB.out.cell (World.block_lt_of_cell? w _ hw113_2)).trans hw113_2), ((HB.out.cell (World.block_lt_of_cell? w _ hw113_3)).trans hw113_3), ((HB.out.cell (World.block_lt_of_cell? w _ hw113_4)).trans hw113_4)⟩ (fun hHeld => ?_); refine with_tabW tendrilref12_Of.tab9 tendrilref12_Of.bits9 (fun HT_ HW_ => ?_)
                          generalize wr.drew = w20 at HO_3 BK112 HB HR113_3 HR113_4 hx113_0 hx113_1 hx113_2 hx113_3 hx113_4 hHeld ⊢
                          refine pure_ (i := 0) (N := some 28) (v := ?_) (a' := ?_) #[true, false, false, false, false, false, false, false, false, false, false, false, false, false, false, false, false, false, false, false, false] rfl rfl (any_of HT_.out (by kernel_rfl)) (fun _ _ _ h => h) (Or.inl ⟨by rfl, ?_⟩) ?_ ?_
                          rotate_left
                          · intro w'
                            go_simp
                            with_reducible rfl
                          rotate_left
                          · simp only [Act.put, List.setIfInBounds_toArray, List.set_cons_zero, List.set_cons_succ, i64_w, i32_w]
                            rfl
                          refine take_ (i := 1) (N := some 29) (v := ?_) (a' := ?_) #[true, true, false, false, false, false, false, false, false, false, false, false, false, false, false, false, false, false, false, false, false] rfl rfl (take_ofW HT_.out HW_.out (by kernel_rfl)) (fun _ _ _ h => h) (Or.inl ⟨by rfl, ?_⟩) hHeld ?_ ?_
                          rotate_left
                          · rintro w' ⟨s0, s1, s2, s3, s4, s5, s6, s7⟩
                            go_simp
                            with_reducible rfl
                          rotate_left
                          · simp only [Act.put, List.setIfInBounds_toArray, List.set_cons_zero, List.set_cons_succ, i64_w, i32_w]
                            rfl
                          refine pure_ (i := 2) (N := some 30) (v := ?_) (a' := ?_) #[true, true, true, false, false, false, false, false, false, false, false, false, false, false, false, false, false, false, false, false, false] rfl rfl (any_of HT_.out (by kernel_rfl)) (fun _ _ _ h => h) (Or.inl ⟨by rfl, ?_⟩) ?_ ?_
                          rotate_left
                          · intro w'
                            go_simp
                            with_reducible rfl
                          rotate_left
                          · simp only [Act.put, List.setIfInBounds_toArray, List.set_cons_zero, List.set_cons_succ, i64_w, i32_w]
                            rfl
                          refine pure_ (i := 3) (N := some 31) (v := ?_) (a' := ?_) #[true, true, true, true, false, false, false, false, false, false, false, false, false, false, false, false, false, false, false, false, false] rfl rfl (any_of HT_.out (by kernel_rfl)) (fun _ _ _ h => h) (Or.inl ⟨by rfl, ?_⟩) ?_ ?_
                          rotate_left
                          · intro w'
                            go_simp
                            with_reducible rfl
                          rotate_left
                          · simp only [Act.put, List.setIfInBounds_toArray, List.set_cons_zero, List.set_cons_succ, i64_w, i32_w]
                            rfl
                          refine pure_ (i := 4) (N := some 32) (v := ?_) (a' := ?_) #[true, true, true, true, true, false, false, false, false, false, false, false, false, false, false, false, false, false, false, false, false] rfl rfl (any_of HT_.out (by kernel_rfl)) (fun _ _ _ h => h) (Or.inl ⟨by rfl, ?_⟩) ?_ ?_
                          rotate_left
                          · intro w'
                            go_simp
                            with_reducible rfl
                          rotate_left
                          · simp only [Act.put, List.setIfInBounds_toArray, List.set_cons_zero, List.set_cons_succ, i64_w, i32_w]
                            rfl
                          refine pure_ (i := 5) (N := some 33) (v := ?_) (a' := ?_) #[true, true, true, true, true, true, false, false, false, false, false, false, false, false, false, false, false, false, false, false, false] rfl rfl (any_of HT_.out (by kernel_rfl)) (fun _ _ _ h => h) (Or.inl ⟨by rfl, ?_⟩) ?_ ?_
                          rotate_left
                          · intro w'
                            go_simp
                            with_reducible rfl
                          rotate_left
                          · simp only [Act.put, List.setIfInBounds_toArray, List.set_cons_zero, List.set_cons_succ, i64_w, i32_w]
                            rfl
                          refine pure_ (i := 6) (N := some 34) (v := ?_) (a' := ?_) #[true, true, true, true, true, true, true, false, false, false, false, false, false, false, false, false, false, false, false, false, false] rfl rfl (any_of HT_.out (by kernel_rfl)) (fun _ _ _ h => h) (Or.inl ⟨by rfl, ?_⟩) ?_ ?_
                          rotate_left
                          · intro w'
                            go_simp
                            with_reducible rfl
                          rotate_left
                          · simp only [Act.put, List.setIfInBounds_toArray, List.set_cons_zero, List.set_cons_succ, i64_w, i32_w]
                            rfl
                          refine pure_ (i := 7) (N := some 35) (v := ?_) (a' := ?_) #[true, true, true, true, true, true, true, true, false, false, false, false, false, false, false, false, false, false, false, false, false] rfl rfl (any_of HT_.out (by kernel_rfl)) (fun _ _ _ h => h) (Or.inl ⟨by rfl, ?_⟩) ?_ ?_
                          rotate_left
                          · intro w'
                            go_simp
                            with_reducible rfl
                          rotate_left
                          · simp only [Act.put, List.setIfInBounds_toArray, List.set_cons_zero, List.set_cons_succ, i64_w, i32_w]
                            rfl
                          refine take_ (i := 8) (N := some 36) (v := ?_) (a' := ?_) #[true, true, true, true, true, true, true, true, true, false, false, false, false, false, false, false, false, false, false, false, false] rfl rfl (take_ofW HT_.out HW_.out (by kernel_rfl)) (fun _ _ _ h => h) (Or.inl ⟨by rfl, ?_⟩) hHeld ?_ ?_
                          rotate_left
                          · rintro w' ⟨s0, s1, s2, s3, s4, s5, s6, s7⟩
                            go_simp
                            with_reducible rfl
                          rotate_left
                          · simp only [Act.put, List.setIfInBounds_toArray, List.set_cons_zero, List.set_cons_succ, i64_w, i32_w]
                            rfl
                          refine pure_ (i := 9) (N := some 37) (v := ?_) (a' := ?_) #[true, true, true, true, true, true, true, true, true, true, false, false, false, false, false, false, false, false, false, false, false] rfl rfl (any_of HT_.out (by kernel_rfl)) (fun _ _ _ h => h) (Or.inl ⟨by rfl, ?_⟩) ?_ ?_
                          rotate_left
                          · intro w'
                            go_simp
                            with_reducible rfl
                          rotate_left
                          · simp only [Act.put, List.setIfInBounds_toArray, List.set_cons_zero, List.set_cons_succ, i64_w, i32_w]
                            rfl
                          refine pure_ (i := 10) (N := some 38) (v := ?_) (a' := ?_) #[true, true, true, true, true, true, true, true, true, true, true, false, false, false, false, false, false, false, false, false, false] rfl rfl (any_of HT_.out (by kernel_rfl)) (fun _ _ _ h => h) (Or.inl ⟨by rfl, ?_⟩) ?_ ?_
                          rotate_left
                          · intro w'
                            go_simp
                            with_reducible rfl
                          rotate_left
                          · simp only [Act.put, List.setIfInBounds_toArray, List.set_cons_zero, List.set_cons_succ, i64_w, i32_w]
                            rfl
                          refine pure_ (i := 11) (N := some 39) (v := ?_) (a' := ?_) #[true, true, true, true, true, true, true, true, true, true, true, true, false, false, false, false, false, false, false, false, false] rfl rfl (any_of HT_.out (by kernel_rfl)) (fun _ _ _ h => h) (Or.inl ⟨by rfl, ?_⟩) ?_ ?_
                          rotate_left
                          · intro w'
                            go_simp
                            with_reducible rfl
                          rotate_left
                          · simp only [Act.put, List.setIfInBounds_toArray, List.set_cons_zero, List.set_cons_succ, i64_w, i32_w]
                            rfl
                          refine pure_ (i := 12) (N := some 40) (v := undef) (a' := ?_) #[true, true, true, true, true, true, true, true, true, true, true, true, true, false, false, false, false, false, false, false, false] rfl rfl (any_of HT_.out (by kernel_rfl)) (fun _ _ _ h => h) (Or.inr ⟨by rfl, rfl⟩) ?_ ?_
                          rotate_left
                          · simp only [Act.put, List.setIfInBounds_toArray, List.set_cons_zero, List.set_cons_succ, i64_w, i32_w]
                            rfl
                          refine pure_ (i := 13) (N := some 41) (v := undef) (a' := ?_) #[true, true, true, true, true, true, true, true, true, true, true, true, true, true, false, false, false, false, false, false, false] rfl rfl (any_of HT_.out (by kernel_rfl)) (fun _ _ _ h => h) (Or.inr ⟨by rfl, rfl⟩) ?_ ?_
                          rotate_left
                          · simp only [Act.put, List.setIfInBounds_toArray, List.set_cons_zero, List.set_cons_succ, i64_w, i32_w]
                            rfl
                          refine pure_ (i := 14) (N := some 42) (v := undef) (a' := ?_) #[true, true, true, true, true, true, true, true, true, true, true, true, true, true, true, false, false, false, false, false, false] rfl rfl (any_of HT_.out (by kernel_rfl)) (fun _ _ _ h => h) (Or.inr ⟨by rfl, rfl⟩) ?_ ?_
                          rotate_left
                          · simp only [Act.put, List.setIfInBounds_toArray, List.set_cons_zero, List.set_cons_succ, i64_w, i32_w]
                            rfl
                          refine pure_ (i := 15) (N := some 43) (v := undef) (a' := ?_) #[true, true, true, true, true, true, true, true, true, true, true, true, true, true, true, true, false, false, false, false, false] rfl rfl (any_of HT_.out (by kernel_rfl)) (fun _ _ _ h => h) (Or.inr ⟨by rfl, rfl⟩) ?_ ?_
                          rotate_left
                          · simp only [Act.put, List.setIfInBounds_toArray, List.set_cons_zero, List.set_cons_succ, i64_w, i32_w]
                            rfl
                          refine pure_ (i := 16) (N := some 44) (v := undef) (a' := ?_) #[true, true, true, true, true, true, true, true, true, true, true, true, true, true, true, true, true, false, false, false, false] rfl rfl (any_of HT_.out (by kernel_rfl)) (fun _ _ _ h => h) (Or.inr ⟨by rfl, rfl⟩) ?_ ?_
                          rotate_left
                          · simp only [Act.put, List.setIfInBounds_toArray, List.set_cons_zero, List.set_cons_succ, i64_w, i32_w]
                            rfl
                          refine pure_ (i := 17) (N := some 45) (v := undef) (a' := ?_) #[true, true, true, true, true, true, true, true, true, true, true, true, true, true, true, true, true, true, false, false, false] rfl rfl (any_of HT_.out (by kernel_rfl)) (fun _ _ _ h => h) (Or.inr ⟨by rfl, rfl⟩) ?_ ?_
                          rotate_left
                          · simp only [Act.put, List.setIfInBounds_toArray, List.set_cons_zero, List.set_cons_succ, i64_w, i32_w]
                            rfl
                          refine pure_ (i := 18) (N := some 46) (v := undef) (a' := ?_) #[true, true, true, true, true, true, true, true, true, true, true, true, true, true, true, true, true, true, true, false, false] rfl rfl (any_of HT_.out (by kernel_rfl)) (fun _ _ _ h => h) (Or.inr ⟨by rfl, rfl⟩) ?_ ?_
                          rotate_left
                          · simp only [Act.put, List.setIfInBounds_toArray, List.set_cons_zero, List.set_cons_succ, i64_w, i32_w]
                            rfl
                          refine pure_ (i := 19) (N := some 47) (v := undef) (a' := ?_) #[true, true, true, true, true, true, true, true, true, true, true, true, true, true, true, true, true, true, true, true, false] rfl rfl (any_of HT_.out (by kernel_rfl)) (fun _ _ _ h => h) (Or.inr ⟨by rfl, rfl⟩) ?_ ?_
                          rotate_left
                          · simp only [Act.put, List.setIfInBounds_toArray, List.set_cons_zero, List.set_cons_succ, i64_w, i32_w]
                            rfl
                          refine pure_ (i := 20) (N := some 48) (v := ?_) (a' := ?_) #[true, true, true, true, true, true, true, true, true, true, true, true, true, true, true, true, true, true, true, true, true] rfl rfl (any_of HT_.out (by kernel_rfl)) (fun _ _ _ h => h) (Or.inl ⟨by rfl, ?_⟩) ?_ ?_
                          rotate_left
                          · intro w'
                            go_simp
                            with_reducible rfl
                          rotate_left
                          · simp only [Act.put, List.setIfInBounds_toArray, List.set_cons_zero, List.set_cons_succ, i64_w, i32_w]
                            rfl
                          refine done_ (done_of HT_.out (by kernel_rfl)) ?_
                          try go_wp2
                          go_roundg k2
                          case measure => have := HK1.out; have := HK2.out; omega
                          case rel => exact ⟨(wrap64 (x6_2 + 1)), (x113002_2), (by first | rfl | (simp; done) | (simp [*]; done)), H', ⟨by have := HK1.out; have := HK2.out; omega⟩, ⟨by (with_reducible repeat (first | apply Kd.R_alloc | apply Kd.R_drewN | apply Kd.R_drew)); exact HO_3.out⟩, ⟨by (with_reducible repeat (first | refine blk_drewN ?_ _ | refine blk_drew ?_ | refine blk_alloc ?_ _)); exact BK112.out⟩, ⟨by repeat (first | (with_reducible first | exact HB.out | apply below_alloc | apply pw_below_drewN | apply below_drew1 | refine below_set ?_ GE112.out) | exact HB.out)⟩⟩
                      · rw [if_neg c14] at H
                        exact absurd H (by simp)
                    · rw [if_neg c13] at H
                      exact absurd H (by simp)
                  · rw [if_neg c12] at H
                    have c12b0 : (((rd_T49 l0 x9_1).f1).toList == ([] : List UInt8)) = false := beq_eq_false_iff_ne.mpr c12
                    have c12b1 : (((rd_T49 l0 x9_1).f1).toList != ([] : List UInt8)) = true := bne_iff_ne.mpr c12
                    have H' := Aside0.mk H
                    clear H
                    try go_wp2
                    have n0_ := Aside0.mk (Kd.R_drew HO_3.out)
                    have n1_ := Aside0.mk (blk_drew BK112.out)
                    have n2_ := Aside0.mk (below_drew1 HB.out)
                    clear HO_3
                    clear BK112
                    clear HB
                    have HO_3 := n0_
                    have BK112 := n1_
                    have HB := n2_
                    clear n0_ n1_ n2_
                    refine start_ (n := 21) (S := fun w' => w'.cell? ⟨gb112, 0, none⟩ = some (.string ((rd_T49 l0 x9_1).f0)) ∧ w'.cell? ⟨gb112, 1, none⟩ = some (.string ((rd_T49 l0 x9_1).f1)) ∧ w'.cell? ⟨gb112, 2, none⟩ = some (.int .i64 x113002_2)) (ds := []) #[false, false, false, false, false, false, false, false, false, false, false, false, false, false, false, false, false, false, false, false, false] (by kernel_rfl) rfl rfl ⟨(blk_cell BK112.out 0).trans rfl, (blk_cell BK112.out 1).trans rfl, (blk_cell BK112.out 2).trans rfl⟩ (fun hHeld => ?_); refine with_tabW tendrilref12_Of.tab9 tendrilref12_Of.bits9 (fun HT_ HW_ => ?_)
                    generalize wr.drew = w21 at HO_3 BK112 HB hHeld ⊢
                    refine pure_ (i := 0) (N := some 28) (v := ?_) (a' := ?_) #[true, false, false, false, false, false, false, false, false, false, false, false, false, false, false, false, false, false, false, false, false] rfl rfl (any_of HT_.out (by kernel_rfl)) (fun _ _ _ h => h) (Or.inl ⟨by rfl, ?_⟩) ?_ ?_
                    rotate_left
                    · intro w'
                      go_simp
                      with_reducible rfl
                    rotate_left
                    · simp only [Act.put, List.setIfInBounds_toArray, List.set_cons_zero, List.set_cons_succ, i64_w, i32_w]
                      rfl
                    refine take_ (i := 1) (N := some 29) (v := ?_) (a' := ?_) #[true, true, false, false, false, false, false, false, false, false, false, false, false, false, false, false, false, false, false, false, false] rfl rfl (take_ofW HT_.out HW_.out (by kernel_rfl)) (fun _ _ _ h => h) (Or.inl ⟨by rfl, ?_⟩) hHeld ?_ ?_
                    rotate_left
                    · rintro w' ⟨s0, s1, s2⟩
                      go_simp
                      with_reducible rfl
                    rotate_left
                    · simp only [Act.put, List.setIfInBounds_toArray, List.set_cons_zero, List.set_cons_succ, i64_w, i32_w]
                      rfl
                    refine pure_ (i := 2) (N := some 30) (v := ?_) (a' := ?_) #[true, true, true, false, false, false, false, false, false, false, false, false, false, false, false, false, false, false, false, false, false] rfl rfl (any_of HT_.out (by kernel_rfl)) (fun _ _ _ h => h) (Or.inl ⟨by rfl, ?_⟩) ?_ ?_
                    rotate_left
                    · intro w'
                      go_simp
                      with_reducible rfl
                    rotate_left
                    · simp only [Act.put, List.setIfInBounds_toArray, List.set_cons_zero, List.set_cons_succ, i64_w, i32_w]
                      rfl
                    refine pure_ (i := 3) (N := some 31) (v := ?_) (a' := ?_) #[true, true, true, true, false, false, false, false, false, false, false, false, false, false, false, false, false, false, false, false, false] rfl rfl (any_of HT_.out (by kernel_rfl)) (fun _ _ _ h => h) (Or.inl ⟨by rfl, ?_⟩) ?_ ?_
                    rotate_left
                    · intro w'
                      go_simp
                      with_reducible rfl
                    rotate_left
                    · simp only [Act.put, List.setIfInBounds_toArray, List.set_cons_zero, List.set_cons_succ, i64_w, i32_w]
                      rfl
                    refine pure_ (i := 4) (N := some 32) (v := undef) (a' := ?_) #[true, true, true, true, true, false, false, false, false, false, false, false, false, false, false, false, false, false, false, false, false] rfl rfl (any_of HT_.out (by kernel_rfl)) (fun _ _ _ h => h) (Or.inr ⟨by rfl, rfl⟩) ?_ ?_
                    rotate_left
                    · simp only [Act.put, List.setIfInBounds_toArray, List.set_cons_zero, List.set_cons_succ, i64_w, i32_w]
                      rfl
                    refine pure_ (i := 5) (N := some 33) (v := undef) (a' := ?_) #[true, true, true, true, true, true, false, false, false, false, false, false, false, false, false, false, false, false, false, false, false] rfl rfl (any_of HT_.out (by kernel_rfl)) (fun _ _ _ h => h) (Or.inr ⟨by rfl, rfl⟩) ?_ ?_
                    rotate_left
                    · simp only [Act.put, List.setIfInBounds_toArray, List.set_cons_zero, List.set_cons_succ, i64_w, i32_w]
                      rfl
                    refine pure_ (i := 6) (N := some 34) (v := undef) (a' := ?_) #[true, true, true, true, true, true, true, false, false, false, false, false, false, false, false, false, false, false, false, false, false] rfl rfl (any_of HT_.out (by kernel_rfl)) (fun _ _ _ h => h) (Or.inr ⟨by rfl, rfl⟩) ?_ ?_
                    rotate_left
                    · simp only [Act.put, List.setIfInBounds_toArray, List.set_cons_zero, List.set_cons_succ, i64_w, i32_w]
                      rfl
                    refine pure_ (i := 7) (N := some 35) (v := undef) (a' := ?_) #[true, true, true, true, true, true, true, true, false, false, false, false, false, false, false, false, false, false, false, false, false] rfl rfl (any_of HT_.out (by kernel_rfl)) (fun _ _ _ h => h) (Or.inr ⟨by rfl, rfl⟩) ?_ ?_
                    rotate_left
                    · simp only [Act.put, List.setIfInBounds_toArray, List.set_cons_zero, List.set_cons_succ, i64_w, i32_w]
                      rfl
                    refine pure_ (i := 8) (N := some 36) (v := undef) (a' := ?_) #[true, true, true, true, true, true, true, true, true, false, false, false, false, false, false, false, false, false, false, false, false] rfl rfl (any_of HT_.out (by kernel_rfl)) (fun _ _ _ h => h) (Or.inr ⟨by rfl, rfl⟩) ?_ ?_
                    rotate_left
                    · simp only [Act.put, List.setIfInBounds_toArray, List.set_cons_zero, List.set_cons_succ, i64_w, i32_w]
                      rfl
                    refine pure_ (i := 9) (N := some 37) (v := undef) (a' := ?_) #[true, true, true, true, true, true, true, true, true, true, false, false, false, false, false, false, false, false, false, false, false] rfl rfl (any_of HT_.out (by kernel_rfl)) (fun _ _ _ h => h) (Or.inr ⟨by rfl, rfl⟩) ?_ ?_
                    rotate_left
                    · simp only [Act.put, List.setIfInBounds_toArray, List.set_cons_zero, List.set_cons_succ, i64_w, i32_w]
                      rfl
                    refine pure_ (i := 10) (N := some 38) (v := ?_) (a' := ?_) #[true, true, true, true, true, true, true, true, true, true, true, false, false, false, false, false, false, false, false, false, false] rfl rfl (any_of HT_.out (by kernel_rfl)) (fun _ _ _ h => h) (Or.inl ⟨by rfl, ?_⟩) ?_ ?_
                    rotate_left
                    · intro w'
                      go_simp
                      with_reducible rfl
                    rotate_left
                    · simp only [Act.put, List.setIfInBounds_toArray, List.set_cons_zero, List.set_cons_succ, i64_w, i32_w]
                      rfl
                    refine pure_ (i := 11) (N := some 39) (v := ?_) (a' := ?_) #[true, true, true, true, true, true, true, true, true, true, true, true, false, false, false, false, false, false, false, false, false] rfl rfl (any_of HT_.out (by kernel_rfl)) (fun _ _ _ h => h) (Or.inl ⟨by rfl, ?_⟩) ?_ ?_
                    rotate_left
                    · intro w'
                      go_simp
                      with_reducible rfl
                    rotate_left
                    · simp only [Act.put, List.setIfInBounds_toArray, List.set_cons_zero, List.set_cons_succ, i64_w, i32_w]
                      rfl
                    refine pure_ (i := 12) (N := some 40) (v := undef) (a' := ?_) #[true, true, true, true, true, true, true, true, true, true, true, true, true, false, false, false, false, false, false, false, false] rfl rfl (any_of HT_.out (by kernel_rfl)) (fun _ _ _ h => h) (Or.inr ⟨by rfl, rfl⟩) ?_ ?_
                    rotate_left
                    · simp only [Act.put, List.setIfInBounds_toArray, List.set_cons_zero, List.set_cons_succ, i64_w, i32_w]
                      rfl
                    refine pure_ (i := 13) (N := some 41) (v := undef) (a' := ?_) #[true, true, true, true, true, true, true, true, true, true, true, true, true, true, false, false, false, false, false, false, false] rfl rfl (any_of HT_.out (by kernel_rfl)) (fun _ _ _ h => h) (Or.inr ⟨by rfl, rfl⟩) ?_ ?_
                    rotate_left
                    · simp only [Act.put, List.setIfInBounds_toArray, List.set_cons_zero, List.set_cons_succ, i64_w, i32_w]
                      rfl
                    refine pure_ (i := 14) (N := some 42) (v := undef) (a' := ?_) #[true, true, true, true, true, true, true, true, true, true, true, true, true, true, true, false, false, false, false, false, false] rfl rfl (any_of HT_.out (by kernel_rfl)) (fun _ _ _ h => h) (Or.inr ⟨by rfl, rfl⟩) ?_ ?_
                    rotate_left
                    · simp only [Act.put, List.setIfInBounds_toArray, List.set_cons_zero, List.set_cons_succ, i64_w, i32_w]
                      rfl
                    refine pure_ (i := 15) (N := some 43) (v := undef) (a' := ?_) #[true, true, true, true, true, true, true, true, true, true, true, true, true, true, true, true, false, false, false, false, false] rfl rfl (any_of HT_.out (by kernel_rfl)) (fun _ _ _ h => h) (Or.inr ⟨by rfl, rfl⟩) ?_ ?_
                    rotate_left
                    · simp only [Act.put, List.setIfInBounds_toArray, List.set_cons_zero, List.set_cons_succ, i64_w, i32_w]
                      rfl
                    refine pure_ (i := 16) (N := some 44) (v := undef) (a' := ?_) #[true, true, true, true, true, true, true, true, true, true, true, true, true, true, true, true, true, false, false, false, false] rfl rfl (any_of HT_.out (by kernel_rfl)) (fun _ _ _ h => h) (Or.inr ⟨by rfl, rfl⟩) ?_ ?_
                    rotate_left
                    · simp only [Act.put, List.setIfInBounds_toArray, List.set_cons_zero, List.set_cons_succ, i64_w, i32_w]
                      rfl
                    refine pure_ (i := 17) (N := some 45) (v := undef) (a' := ?_) #[true, true, true, true, true, true, true, true, true, true, true, true, true, true, true, true, true, true, false, false, false] rfl rfl (any_of HT_.out (by kernel_rfl)) (fun _ _ _ h => h) (Or.inr ⟨by rfl, rfl⟩) ?_ ?_
                    rotate_left
                    · simp only [Act.put, List.setIfInBounds_toArray, List.set_cons_zero, List.set_cons_succ, i64_w, i32_w]
                      rfl
                    refine pure_ (i := 18) (N := some 46) (v := undef) (a' := ?_) #[true, true, true, true, true, true, true, true, true, true, true, true, true, true, true, true, true, true, true, false, false] rfl rfl (any_of HT_.out (by kernel_rfl)) (fun _ _ _ h => h) (Or.inr ⟨by rfl, rfl⟩) ?_ ?_
                    rotate_left
                    · simp only [Act.put, List.setIfInBounds_toArray, List.set_cons_zero, List.set_cons_succ, i64_w, i32_w]
                      rfl
                    refine pure_ (i := 19) (N := some 47) (v := undef) (a' := ?_) #[true, true, true, true, true, true, true, true, true, true, true, true, true, true, true, true, true, true, true, true, false] rfl rfl (any_of HT_.out (by kernel_rfl)) (fun _ _ _ h => h) (Or.inr ⟨by rfl, rfl⟩) ?_ ?_
                    rotate_left
                    · simp only [Act.put, List.setIfInBounds_toArray, List.set_cons_zero, List.set_cons_succ, i64_w, i32_w]
                      rfl
                    refine pure_ (i := 20) (N := some 48) (v := ?_) (a' := ?_) #[true, true, true, true, true, true, true, true, true, true, true, true, true, true, true, true, true, true, true, true, true] rfl rfl (any_of HT_.out (by kernel_rfl)) (fun _ _ _ h => h) (Or.inl ⟨by rfl, ?_⟩) ?_ ?_
                    rotate_left
                    · intro w'
                      go_simp
                      with_reducible rfl
                    rotate_left
                    · simp only [Act.put, List.setIfInBounds_toArray, List.set_cons_zero, List.set_cons_succ, i64_w, i32_w]
                      rfl
                    refine done_ (done_of HT_.out (by kernel_rfl)) ?_
                    try go_wp2
                    go_roundg k2
                    case measure => have := HK1.out; have := HK2.out; omega
                    case rel => exact ⟨(wrap64 (x6_2 + 1)), (x113002_2), (by first | rfl | (simp; done) | (simp [*]; done)), H', ⟨by have := HK1.out; have := HK2.out; omega⟩, ⟨by (with_reducible repeat (first | apply Kd.R_alloc | apply Kd.R_drewN | apply Kd.R_drew)); exact HO_3.out⟩, ⟨by (with_reducible repeat (first | refine blk_drewN ?_ _ | refine blk_drew ?_ | refine blk_alloc ?_ _)); exact BK112.out⟩, ⟨by repeat (first | (with_reducible first | exact HB.out | apply below_alloc | apply pw_below_drewN | apply below_drew1 | refine below_set ?_ GE112.out) | exact HB.out)⟩⟩
                · rw [if_neg c11] at H
                  have c11b0 : decide (x6_2 ≤ x9_1) = false := decide_eq_false c11
                  clear c11
                  by_cases c22 : x3_1.length < 3518437208883
                  · rw [if_pos c22] at H
                    have LMc22 := Aside0.mk c22
                    clear c22
                    obtain ⟨y115, hy115⟩ : ∃ y_ : List (S56), y_ = (x3_1 ++ [(⟨((rd_T49 l0 x9_1).f0), ((rd_T49 l0 x9_1).f1), x113002_2⟩ : S56)]) := ⟨_, rfl⟩
                    replace H : (tendrilref12_Of.l0 k2 l0 y115 (l0.length : Int) (wrap64 (x9_1 + 1))) = some r := by first | (rw [hy115]; with_reducible exact H) | (have H2_ := (Option.bind_some _ _).symm.trans H; rw [hy115]; with_reducible exact H2_) | (have H2_ := (Option.bind_some _ _).symm.trans H; with_reducible exact H2_) | with_reducible exact H | (rw [hy115]; exact H) | exact H
                    have Ny115 := Aside0.mk hy115
                    clear hy115
                    have H' := Aside0.mk H
                    clear H
                    have hcz23_0 : wr.cell? ⟨gb112, 0, none⟩ = some (.string ((rd_T49 l0 x9_1).f0)) := (blk_cell BK112.out 0).trans rfl
                    have hcz23_1 : wr.cell? ⟨gb112, 1, none⟩ = some (.string ((rd_T49 l0 x9_1).f1)) := (blk_cell BK112.out 1).trans rfl
                    have hcz23_2 : wr.cell? ⟨gb112, 2, none⟩ = some (.int .i64 x113002_2) := (blk_cell BK112.out 2).trans rfl
                    have hfz23_0 := blk_frozen BK112.out 0
                    have hfz23_1 := blk_frozen BK112.out 1
                    have hfz23_2 := blk_frozen BK112.out 2
                    go_wp2_with (first | ((with_reducible refine gate_builtin (b := .append) (xs := #[.tmp 53, .tmp 55]) rfl ?_); at_builtin; refine Kd.R_append k56 (w0 := w) w.heap.size rfl (.tmp 53) (.tmp 55) 51 56 (.agg #[(.string ⟨#[]⟩), (.string ⟨#[]⟩), (.int .i64 0)]) 40 rfl Tryd.underlying51 info56 rfl (by decide) (by omega) (.slice Ao5 x3_1.length co5) x3_1 (⟨((rd_T49 l0 x9_1).f0), ((rd_T49 l0 x9_1).f1), x113002_2⟩ : S56) [.string ((rd_T49 l0 x9_1).f0), .string ((rd_T49 l0 x9_1).f1), .int .i64 x113002_2] (fun k_ => k_ ≠ gb112) (fun _ => False) rfl rfl ?aP (fun _ hk => hk.elim) ?aF ?aO ?aB ?aS ?aL ?_; (case aP => exact k56_mkM _ _ _ (⟨((rd_T49 l0 x9_1).f0), ((rd_T49 l0 x9_1).f1), x113002_2⟩ : S56)); (case aB => exact (by repeat (first | (with_reducible first | exact HB.out | apply below_alloc | apply pw_below_drewN | apply below_drew1 | refine below_set ?_ GE112.out) | exact HB.out))); (case aF => exact (fun k_ hk => Kd.freshB (g := gb112) (o := .cells #[.string ((rd_T49 l0 x9_1).f0), .string ((rd_T49 l0 x9_1).f1), .int .i64 x113002_2] 56 (0, 0)) (by (with_reducible repeat (first | refine blk_drewN ?_ _ | refine blk_drew ?_ | refine blk_alloc ?_ _)); exact BK112.out) k_ hk)); (case aO => exact (by (with_reducible repeat (first | apply Kd.R_alloc | apply Kd.R_drewN | apply Kd.R_drew)); exact HO_3.out)); (case aS => exact (below_size (by repeat (first | (with_reducible first | exact HB.out | apply below_alloc | apply pw_below_drewN | apply below_drew1 | refine below_set ?_ GE112.out) | exact HB.out)))); (case aL => have := LMc22.out; omega); intro v116 w24 ho hb hg hat; rw [← Ny115.out] at ho; have n0_ := Aside0.mk (blk_grown (g := gb112) (o := .cells #[.string ((rd_T49 l0 x9_1).f0), .string ((rd_T49 l0 x9_1).f1), .int .i64 x113002_2] 56 (0, 0)) (by (with_reducible repeat (first | refine blk_drewN ?_ _ | refine blk_drew ?_ | refine blk_alloc ?_ _)); exact BK112.out) hg (Kd.R_away HO_3.out (fun _ hk => hk))); have n1_ := Aside0.mk (hb); have n2_ := Aside0.mk (ho); clear BK112; clear HB; clear HO_3; have BK112 := n0_; have HB := n1_; have HO117 := n2_; clear n0_ n1_ n2_; clear ho hb hg hat))
                    go_roundg k2
                    case measure => have := HK1.out; have := HK2.out; omega
                    case rel => exact ⟨(y115), (wrap64 (x9_1 + 1)), (by first | rfl | (simp; done) | (simp [*]; done)), H', ⟨by have := HK1.out; have := HK2.out; omega⟩, ⟨by (with_reducible repeat (first | apply Kd.R_alloc | apply Kd.R_drewN | apply Kd.R_drew)); exact Kd.R_mono HO117.out (fun _ hk => trivial)⟩, ⟨by repeat (first | (with_reducible first | exact HB.out | apply below_alloc | apply pw_below_drewN | apply below_drew1 | refine below_set ?_ GE112.out) | exact HB.out)⟩⟩
                  · rw [if_neg c22] at H
                    exact absurd H (by simp)
          · rw [if_neg c4] at H
            exact absurd H (by simp)
        · rw [if_neg c3] at H
          exact absurd H (by simp)
      · rw [if_neg c2] at H
        have c2b0 : decide (x9_1 < (l0.length : Int)) = false := decide_eq_false c2
        clear c2
        obtain rfl := Option.some.inj H
        go_wp2
        go_ret
        exact ⟨_, by first | rfl | (simp [errW_none, errW_some] <;> rfl) | (simp [*, errW_none, errW_some] <;> rfl), by (with_reducible repeat (first | apply Kd.R_alloc | apply Kd.R_drewN | apply Kd.R_drew)); exact HO_3.out, by repeat (first | (with_reducible first | exact HB.out | apply below_alloc | apply pw_below_drewN | apply below_drew1) | exact HB.out)⟩

end Go.Proofs.YtpanmmpkdbhofaaDoor.P12o

namespace Go.Proofs.YtpanmmpkdbhofaaDoor.P12o
open Go.RowKit Go.Proofs.YtpanmmpkdbhofaaDoor.P12r Go.Proofs.YtpanmmpkdbhofaaDoorE Go.Proofs.YtpanmmpkdbhofaaDoorW.PrintWords Go.Proofs.YtpanmmpkdbhofaaDoorW.PrintLast Go.Proofs.YtpanmmpkdbhofaaDoorW.PrintMore
attribute [local go_sem] max2_int min2_int max_two min_two max_three min_three max_four min_four   -- for this text's walks alone
set_option linter.unusedVariables false
set_option linter.unusedSimpArgs false

attribute [local go_sem high] eqA56

def tendrilref12_Find.l0 : Nat → List (S56) → Int → Int → ByteArray → ByteArray → Int → Option (Int)
  | 0, _, _, _, _, _, _ => none
  | k + 1, x0, x7, x8, x119000, x119001, x119002 => if x8 < x7 then (if 0 ≤ x8 then (if x8 < (x0.length : Int) then (if ((((rd_T56 x0 x8).f0).toList) == x119000.toList && ((((rd_T56 x0 x8).f1).toList) == x119001.toList && (((rd_T56 x0 x8).f2) == x119002))) = true then (some x8) else (tendrilref12_Find.l0 k x0 x7 (wrap64 (x8 + 1)) x119000 x119001 x119002)) else (none)) else (none)) else (some (-1))
def tendrilref12_Find.f (k : Nat) (l0 : List (S56)) (a1_0 : ByteArray) (a1_1 : ByteArray) (a1_2 : Int) : Option (Int) := tendrilref12_Find.l0 k l0 (l0.length : Int) 0 a1_0 a1_1 a1_2
theorem tendrilref12_Find.mono_l : ∀ k, (∀ y0 y1 y2 y3 y4 y5, LeO (tendrilref12_Find.l0 k y0 y1 y2 y3 y4 y5) (tendrilref12_Find.l0 (k + 1) y0 y1 y2 y3 y4 y5))
  | 0 => fun _ _ _ _ _ _ r h => by simp [tendrilref12_Find.l0] at h
  | k + 1 => by
    have ih0 := tendrilref12_Find.mono_l k
    · intro y0 y1 y2 y3 y4 y5
      unfold tendrilref12_Find.l0
      repeat' first
      | (with_reducible exact ih0 _ _ _ _ _ _)
      | (with_reducible exact LeO.refl _)
      | (with_reducible exact LeO.none _)
      | (with_reducible refine LeO.ite ?_ ?_)
      | (with_reducible refine LeO.bind ?_ (fun _ => ?_))
      | exact ih0 _ _ _ _ _ _
      | exact LeO.none _
      | refine LeO.ite ?_ ?_
      | refine LeO.bind ?_ (fun _ => ?_)
theorem tendrilref12_Find.mono : ∀ a0 a1 a2 a3 k, LeO (tendrilref12_Find.f k a0 a1 a2 a3) (tendrilref12_Find.f (k + 1) a0 a1 a2 a3) := by
  intro a0 a1 a2 a3 k
  have ih0 := tendrilref12_Find.mono_l k
  unfold tendrilref12_Find.f
  repeat' first
      | (with_reducible exact ih0 _ _ _ _ _ _)
      | (with_reducible exact LeO.refl _)
      | (with_reducible exact LeO.none _)
      | (with_reducible refine LeO.ite ?_ ?_)
      | (with_reducible refine LeO.bind ?_ (fun _ => ?_))
      | exact ih0 _ _ _ _ _ _
      | exact LeO.none _
      | refine LeO.ite ?_ ?_
      | refine LeO.bind ?_ (fun _ => ?_)
set_option maxHeartbeats 8000000 in
set_option maxRecDepth 100000 in
theorem tendrilref12_Find.calls (k : Nat) (A0 : Option Addr) (c0 : Nat) (l0 : List (S56)) (a1_0 : ByteArray) (a1_1 : ByteArray) (a1_2 : Int) (r : Int) (w : World) (hgl : Go.Proofs.YtpanmmpkdbhofaaDoorX.GL w) (hr0 : Kd.C k56 w A0 l0.length l0) (hc0 : l0.length ≤ c0) (h : tendrilref12_Find.f k l0 a1_0 a1_1 a1_2 = some r) :
    Calls Tryd.prog 45 #[.slice A0 l0.length c0, .agg #[.string a1_0, .string a1_1, .int .i64 a1_2]] w fun e w' => e = .returned (.int .i64 r) ∧ Below w.heap.size w w' := by
  have hu56 := Tryd.underlying56
  have HR0 := Aside0.mk hr0
  have HC0 := Aside0.mk hc0
  clear hr0 hc0
  have HGL := Aside0.mk hgl
  clear hgl
  have HB := Aside0.mk (Below.refl w.heap.size w)
  have H : (tendrilref12_Find.l0 k l0 (l0.length : Int) 0 a1_0 a1_1 a1_2) = some r := h
  clear h
  have H' := Aside0.mk H
  clear H
  go_enter Tryd.func45, Tryd.ntmps45
  go_wp2_with (first | ((with_reducible refine gate_dst (N := 3) rfl ?_); refine box_event ?hg (N := 3) ?hd (cs := #[.string a1_0, .string a1_1, .int .i64 a1_2]) (t := 56) ?hr ?_; (case hd => rfl); (case hg => rfl); (case hr => first | (go_simp; done) | (go_simp; rfl)); intro gb118 hg w3 hbox hb; have n0_ := Aside0.mk (below_step (by repeat (first | (with_reducible first | exact HB.out | apply below_alloc | apply pw_below_drewN | apply below_drew1) | exact HB.out)) hb); have n1_ := Aside0.mk (hbox); have n2_ := Aside0.mk ((by rw [hg]; exact (below_size (by repeat (first | (with_reducible first | exact HB.out | apply below_alloc | apply pw_below_drewN | apply below_drew1) | exact HB.out))) : w.heap.size ≤ gb118)); have n3_ := Aside0.mk ((by rw [hg]; exact (below_size (by repeat (first | (with_reducible first | exact HB.out | apply below_alloc | apply pw_below_drewN | apply below_drew1) | exact HB.out))) : w.heap.size ≤ gb118)); clear HB; have HB := n0_; have BK118 := n1_; have GW118 := n2_; have GE118 := n3_; clear n0_ n1_ n2_ n3_; clear hb hbox hg))
  repeat (go_quiet (first | ((with_reducible refine gate_dst (N := 3) rfl ?_); refine box_event ?hg (N := 3) ?hd (cs := #[.string a1_0, .string a1_1, .int .i64 a1_2]) (t := 56) ?hr ?_; (case hd => rfl); (case hg => rfl); (case hr => first | (go_simp; done) | (go_simp; rfl)); intro gb118 hg w3 hbox hb; have n0_ := Aside0.mk (below_step (by repeat (first | (with_reducible first | exact HB.out | apply below_alloc | apply pw_below_drewN | apply below_drew1) | exact HB.out)) hb); have n1_ := Aside0.mk (hbox); have n2_ := Aside0.mk ((by rw [hg]; exact (below_size (by repeat (first | (with_reducible first | exact HB.out | apply below_alloc | apply pw_below_drewN | apply below_drew1) | exact HB.out))) : w.heap.size ≤ gb118)); have n3_ := Aside0.mk ((by rw [hg]; exact (below_size (by repeat (first | (with_reducible first | exact HB.out | apply below_alloc | apply pw_below_drewN | apply below_drew1) | exact HB.out))) : w.heap.size ≤ gb118)); clear HB; have HB := n0_; have BK118 := n1_; have GW118 := n2_; have GE118 := n3_; clear n0_ n1_ n2_ n3_; clear hb hbox hg)); try go_wp2_with (first | ((with_reducible refine gate_dst (N := 3) rfl ?_); refine box_event ?hg (N := 3) ?hd (cs := #[.string a1_0, .string a1_1, .int .i64 a1_2]) (t := 56) ?hr ?_; (case hd => rfl); (case hg => rfl); (case hr => first | (go_simp; done) | (go_simp; rfl)); intro gb118 hg w3 hbox hb; have n0_ := Aside0.mk (below_step (by repeat (first | (with_reducible first | exact HB.out | apply below_alloc | apply pw_below_drewN | apply below_drew1) | exact HB.out)) hb); have n1_ := Aside0.mk (hbox); have n2_ := Aside0.mk ((by rw [hg]; exact (below_size (by repeat (first | (with_reducible first | exact HB.out | apply below_alloc | apply pw_below_drewN | apply below_drew1) | exact HB.out))) : w.heap.size ≤ gb118)); have n3_ := Aside0.mk ((by rw [hg]; exact (below_size (by repeat (first | (with_reducible first | exact HB.out | apply below_alloc | apply pw_below_drewN | apply below_drew1) | exact HB.out))) : w.heap.size ≤ gb118)); clear HB; have HB := n0_; have BK118 := n1_; have GW118 := n2_; have GE118 := n3_; clear n0_ n1_ n2_ n3_; clear hb hbox hg)))
  go_loopg [8] k (fun kq v8 w' => ∃ (x8_1 : Int), v8 = .int .i64 x8_1 ∧ Aside0 (tendrilref12_Find.l0 kq l0 (l0.length : Int) x8_1 a1_0 a1_1 a1_2 = some r) ∧ Aside0 (kq ≤ k) ∧ Aside0 (w'.heap[gb118]? = some (.cells #[.string a1_0, .string a1_1, .int .i64 a1_2] 56 (0, 0))) ∧ Aside0 (Below w.heap.size w w'))
  case atStart => exact ⟨(0), (by first | rfl | (simp; done) | (simp [*]; done)), H', ⟨Nat.le_refl _⟩, ⟨by (with_reducible repeat (first | refine blk_drewN ?_ _ | refine blk_drew ?_ | refine blk_alloc ?_ _)); exact BK118.out⟩, ⟨by repeat (first | (with_reducible first | exact HB.out | apply below_alloc | apply pw_below_drewN | apply below_drew1 | refine below_set ?_ GE118.out) | exact HB.out)⟩⟩
  case round =>
    clear H'
    try clear p2
    obtain ⟨x8_1, rfl, HA, HK1, BK118, HB⟩ := hrel
    cases gk with
    | zero => exact absurd HA.out (by simp [tendrilref12_Find.l0])
    | succ k1 =>
      have H := HA.out
      clear HA
      simp only [tendrilref12_Find.l0] at H
      by_cases c4 : x8_1 < (l0.length : Int)
      · rw [if_pos c4] at H
        have c4b0 : decide (x8_1 < (l0.length : Int)) = true := decide_eq_true c4
        clear c4
        by_cases c5 : 0 ≤ x8_1
        · rw [if_pos c5] at H
          have c5b0 : decide (0 ≤ x8_1) = true := decide_eq_true c5
          clear c5
          by_cases c6 : x8_1 < (l0.length : Int)
          · rw [if_pos c6] at H
            have c6b0 : decide (x8_1 < (l0.length : Int)) = true := decide_eq_true c6
            clear c6
            by_cases c7 : ((((rd_T56 l0 x8_1).f0).toList) == a1_0.toList && ((((rd_T56 l0 x8_1).f1).toList) == a1_1.toList && (((rd_T56 l0 x8_1).f2) == a1_2))) = true
            · rw [if_pos c7] at H
              have c7b0 : ((((rd_T56 l0 x8_1).f0).toList) == a1_0.toList && ((((rd_T56 l0 x8_1).f1).toList) == a1_1.toList && (((rd_T56 l0 x8_1).f2) == a1_2))) = true := c7
              (try (have c7b1 : decide ((((rd_T56 l0 x8_1).f0).toList) = a1_0.toList && ((((rd_T56 l0 x8_1).f1).toList) == a1_1.toList && (((rd_T56 l0 x8_1).f2) == a1_2))) = true := by simpa using c7))
              (try (have c7b2 : ((((rd_T56 l0 x8_1).f0).toList) == a1_0.toList && ((((rd_T56 l0 x8_1).f1).toList) == a1_1.toList && (((rd_T56 l0 x8_1).f2) == a1_2))) = true := by simpa using c7))
              clear c7
              obtain rfl := Option.some.inj H
              have p119 : 0 ≤ (x8_1 : Int) := of_decide_eq_true (by first | (with_reducible assumption) | assumption)
              have q119 : x8_1 < (l0.length : Int) := of_decide_eq_true (by first | (with_reducible assumption) | assumption)
              obtain ⟨ad119, e119, hx119_0, hx119_1, hx119_2⟩ := at_T56 HR0.out x8_1 p119 q119
              cases e119
              replace hx119_0 := (HB.out.cell (World.block_lt_of_cell? w _ hx119_0)).trans hx119_0
              replace hx119_1 := (HB.out.cell (World.block_lt_of_cell? w _ hx119_1)).trans hx119_1
              replace hx119_2 := (HB.out.cell (World.block_lt_of_cell? w _ hx119_2)).trans hx119_2
              replace p119 := eq_true p119
              replace q119 := eq_true q119
              have hcz8_0 : wr.cell? ⟨gb118, 0, none⟩ = some (.string a1_0) := (blk_cell BK118.out 0).trans rfl
              have hcz8_1 : wr.cell? ⟨gb118, 1, none⟩ = some (.string a1_1) := (blk_cell BK118.out 1).trans rfl
              have hcz8_2 : wr.cell? ⟨gb118, 2, none⟩ = some (.int .i64 a1_2) := (blk_cell BK118.out 2).trans rfl
              have hfz8_0 := blk_frozen BK118.out 0
              have hfz8_1 := blk_frozen BK118.out 1
              have hfz8_2 := blk_frozen BK118.out 2
              go_wp2
              repeat (go_quiet (fail); try go_wp2)
              go_ret
              exact ⟨by first | rfl | (simp [errW_none, errW_some] <;> rfl) | (simp [*, errW_none, errW_some] <;> rfl), by repeat (first | (with_reducible first | exact HB.out | apply below_alloc | apply pw_below_drewN | apply below_drew1 | refine below_set ?_ GE118.out) | exact HB.out)⟩
            · rw [if_neg c7] at H
              have c7b0 : ((((rd_T56 l0 x8_1).f0).toList) == a1_0.toList && ((((rd_T56 l0 x8_1).f1).toList) == a1_1.toList && (((rd_T56 l0 x8_1).f2) == a1_2))) = false := by simpa using c7
              (try (have c7b1 : decide ((((rd_T56 l0 x8_1).f0).toList) = a1_0.toList && ((((rd_T56 l0 x8_1).f1).toList) == a1_1.toList && (((rd_T56 l0 x8_1).f2) == a1_2))) = false := by simpa using c7))
              (try (have c7b2 : ((((rd_T56 l0 x8_1).f0).toList) == a1_0.toList && ((((rd_T56 l0 x8_1).f1).toList) == a1_1.toList && (((rd_T56 l0 x8_1).f2) == a1_2))) = false := by simpa using c7))
              (try (have c7b3 : ¬ ((((rd_T56 l0 x8_1).f0).toList) = a1_0.toList && ((((rd_T56 l0 x8_1).f1).toList) == a1_1.toList && (((rd_T56 l0 x8_1).f2) == a1_2))) := by simpa using c7))
              clear c7
              have H' := Aside0.mk H
              clear H
              have p119 : 0 ≤ (x8_1 : Int) := of_decide_eq_true (by first | (with_reducible assumption) | assumption)
              have q119 : x8_1 < (l0.length : Int) := of_decide_eq_true (by first | (with_reducible assumption) | assumption)
              obtain ⟨ad119, e119, hx119_0, hx119_1, hx119_2⟩ := at_T56 HR0.out x8_1 p119 q119
              cases e119
              replace hx119_0 := (HB.out.cell (World.block_lt_of_cell? w _ hx119_0)).trans hx119_0
              replace hx119_1 := (HB.out.cell (World.block_lt_of_cell? w _ hx119_1)).trans hx119_1
              replace hx119_2 := (HB.out.cell (World.block_lt_of_cell? w _ hx119_2)).trans hx119_2
              replace p119 := eq_true p119
              replace q119 := eq_true q119
              have hcz9_0 : wr.cell? ⟨gb118, 0, none⟩ = some (.string a1_0) := (blk_cell BK118.out 0).trans rfl
              have hcz9_1 : wr.cell? ⟨gb118, 1, none⟩ = some (.string a1_1) := (blk_cell BK118.out 1).trans rfl
              have hcz9_2 : wr.cell? ⟨gb118, 2, none⟩ = some (.int .i64 a1_2) := (blk_cell BK118.out 2).trans rfl
              have hfz9_0 := blk_frozen BK118.out 0
              have hfz9_1 := blk_frozen BK118.out 1
              have hfz9_2 := blk_frozen BK118.out 2
              go_wp2
              repeat (go_quiet (fail); try go_wp2)
              go_roundg k1
              case measure => have := HK1.out; omega
              case rel => exact ⟨(wrap64 (x8_1 + 1)), (by first | rfl | (simp; done) | (simp [*]; done)), H', ⟨by have := HK1.out; omega⟩, ⟨by (with_reducible repeat (first | refine blk_drewN ?_ _ | refine blk_drew ?_ | refine blk_alloc ?_ _)); exact BK118.out⟩, ⟨by repeat (first | (with_reducible first | exact HB.out | apply below_alloc | apply pw_below_drewN | apply below_drew1 | refine below_set ?_ GE118.out) | exact HB.out)⟩⟩
          · rw [if_neg c6] at H
            exact absurd H (by simp)
        · rw [if_neg c5] at H
          exact absurd H (by simp)
      · rw [if_neg c4] at H
        have c4b0 : decide (x8_1 < (l0.length : Int)) = false := decide_eq_false c4
        clear c4
        obtain rfl := Option.some.inj H
        go_wp2
        repeat (go_quiet (fail); try go_wp2)
        go_ret
        exact ⟨by first | rfl | (simp [errW_none, errW_some] <;> rfl) | (simp [*, errW_none, errW_some] <;> rfl), by repeat (first | (with_reducible first | exact HB.out | apply below_alloc | apply pw_below_drewN | apply below_drew1 | refine below_set ?_ GE118.out) | exact HB.out)⟩

end Go.Proofs.YtpanmmpkdbhofaaDoor.P12o

namespace Go.Proofs.YtpanmmpkdbhofaaDoor.M02
open Go Go.RowKit Go.Proofs.YtpanmmpkdbhofaaDoor.P12r Go.Proofs.YtpanmmpkdbhofaaDoorE Go.Proofs.YtpanmmpkdbhofaaDoorW.PrintWords Go.Proofs.YtpanmmpkdbhofaaDoorW.PrintLast Go.Proofs.YtpanmmpkdbhofaaDoorW.PrintMore

def cmpL : List UInt8 → List UInt8 → Int
  | [], [] => 0
  | [], _ :: _ => -1
  | _ :: _, [] => 1
  | a :: s, b :: t => if a.toNat < b.toNat then -1 else if b.toNat < a.toNat then 1 else cmpL s t
theorem rcompare_l0 (a b : ByteArray) (_ha : a.size ≤ 140737488351232) (_hb : b.size ≤ 140737488351232) (d : Nat) : ∀ i : Nat, i + d = a.size → i ≤ b.size →
    Ev (fun k => tendrilref02_Compare.l0 k a b (i : Int)) (cmpL ((B a).drop i) ((B b).drop i)) := by
  have stop : ∀ i : Nat, i ≥ a.size ∨ i ≥ b.size → (i ≤ a.size ∧ i ≤ b.size) → Ev (fun k => tendrilref02_Compare.j1 k a b (i : Int) false) (cmpL ((B a).drop i) ((B b).drop i)) := by
    intro i h hle
    have l1 := B_len a
    have l2 := B_len b
    refine Ev.step (f := fun _ => some (cmpL ((B a).drop i) ((B b).drop i))) (fun k => ?_) (Ev.now _)
    simp only [tendrilref02_Compare.j1]
    rw [if_neg (by decide)]
    by_cases h1 : a.size ≤ i
    · rw [show (B a).drop i = [] from List.drop_eq_nil_of_le (by omega)]
      by_cases h2 : b.size ≤ i
      · rw [show (B b).drop i = [] from List.drop_eq_nil_of_le (by omega)]
        by_cases h3 : a.size < b.size
        · exfalso; omega
        · by_cases h4 : b.size < a.size
          · exfalso; omega
          · rw [if_neg (by omega), if_neg (by omega)]; rfl
      · obtain ⟨x, t, e⟩ := List.exists_cons_of_ne_nil (l := (B b).drop i) (by intro hh; have := congrArg List.length hh; simp at this; omega)
        rw [e, if_pos (by omega)]; rfl
    · have h2 : b.size ≤ i := by omega
      rw [show (B b).drop i = [] from List.drop_eq_nil_of_le (by omega)]
      obtain ⟨x, t, e⟩ := List.exists_cons_of_ne_nil (l := (B a).drop i) (by intro hh; have := congrArg List.length hh; simp at this; omega)
      rw [e, if_neg (by omega), if_pos (by omega)]; rfl
  induction d with
  | zero =>
    intro i hi hib
    refine Ev.step (f := fun k => tendrilref02_Compare.j1 k a b (i : Int) false) (fun k => ?_) (stop i (.inl (by omega)) ⟨by omega, hib⟩)
    simp only [tendrilref02_Compare.l0]; rw [if_neg (by omega)]
  | succ d ih =>
    intro i hi hib
    refine Ev.step (f := fun k => tendrilref02_Compare.j1 k a b (i : Int) (decide ((i : Int) < (b.size : Int)))) (fun k => ?_) ?_
    · simp only [tendrilref02_Compare.l0]; rw [if_pos (by omega)]
    · by_cases h2 : (i : Int) < (b.size : Int)
      · rw [decide_eq_true h2]
        have hla : i < (B a).length := by rw [B_len]; omega
        have hlb : i < (B b).length := by rw [B_len]; omega
        have hn := ih (i + 1) (by omega) (by omega)
        rw [List.drop_eq_getElem_cons hla, List.drop_eq_getElem_cons hlb]
        simp only [cmpL]
        have e2 : wrap64 ((i : Int) + 1) = ((i + 1 : Nat) : Int) := by rw [w64 (by omega) (by omega)]; omega
        refine Ev.step (f := fun k => if (B a)[i].toNat < (B b)[i].toNat then some (-1) else if (B b)[i].toNat < (B a)[i].toNat then some 1 else tendrilref02_Compare.l0 k a b ((i + 1 : Nat) : Int)) (fun k => ?_) ?_
        · simp only [tendrilref02_Compare.j1]
          rw [if_pos trivial, if_pos (by omega), if_pos (by omega), if_pos h2, bt_nat hla, bt_nat hlb, e2]
          by_cases h3 : (B a)[i].toNat < (B b)[i].toNat
          · rw [if_pos h3, if_pos (by omega)]
          · by_cases h4 : (B b)[i].toNat < (B a)[i].toNat
            · rw [if_neg h3, if_pos h4, if_neg (by omega), if_pos (by omega)]
            · rw [if_neg h3, if_neg h4, if_neg (by omega), if_neg (by omega)]
        · by_cases h3 : (B a)[i].toNat < (B b)[i].toNat
          · rw [if_pos h3]; exact Ev.congr (fun k => by rw [if_pos h3]) (Ev.now _)
          · by_cases h4 : (B b)[i].toNat < (B a)[i].toNat
            · rw [if_neg h3, if_pos h4]; exact Ev.congr (fun k => by rw [if_neg h3, if_pos h4]) (Ev.now _)
            · rw [if_neg h3, if_neg h4]; exact Ev.congr (fun k => by rw [if_neg h3, if_neg h4]) hn
      · rw [decide_eq_false h2]; exact stop i (.inr (by omega)) ⟨by omega, hib⟩
theorem rcompare_ev (a b : ByteArray) (ha : a.size ≤ 140737488351232) (hb : b.size ≤ 140737488351232) : Ev (fun k => tendrilref02_Compare.f k a b) (cmpL (B a) (B b)) := by
  have := rcompare_l0 a b ha hb a.size 0 (by omega) (by omega)
  rw [List.drop_zero, List.drop_zero] at this
  exact this
end Go.Proofs.YtpanmmpkdbhofaaDoor.M02

namespace Go.Proofs.YtpanmmpkdbhofaaDoorE
open Go Go.RowKit Go.ChangeShapes Go.WideShapes Go.Proofs.YtpanmmpkdbhofaaDoorW.PrintWords
set_option linter.unusedVariables false
set_option linter.unusedSimpArgs false
namespace Op
/-- The weights of a piece of data are in reach. -/
def Sz {H : Type} (P : Program) (t : TypeId) (d : DataW H) : Prop := ∀ n ∈ d.weights P t, n ≤ 140737488351232
def SzEach {H : Type} (P : Program) (ts : List TypeId) (ds : List (DataW H)) : Prop := ∀ n ∈ DataW.weightsEach P ts ds, n ≤ 140737488351232
/-- What reads at type t with so much fuel is a value of kind d, of which ok holds. -/
def At {α : Type} (P : Program) (fuel : Nat) (t : TypeId) (d : Kd α) (ok : α → Prop) : Prop :=
  ∀ (H : Type) (enc : TypeId × Value → H) (w : World) (base : Nat) (spare : Nat → Bool) (held : Bool) (cs : List Value) (x : DataW H × List MemPlace), DataW.trod enc P w base spare held fuel t cs = some x → Sz P t x.1 → ∃ a, d.K w a cs ∧ ok a
/-- Fields one behind the other. -/
def Fields {β : Type} (P : Program) (fuel : Nat) (ts : List TypeId) (d : Kd β) (ok : β → Prop) : Prop :=
  ∀ (H : Type) (enc : TypeId × Value → H) (w : World) (base : Nat) (spare : Nat → Bool) (held : Bool) (cs : List Value) (xs : List (DataW H × List MemPlace)), cs.length = (ts.map P.cellsOf).sum → xs.length = ts.length →
    (∀ (i : Nat) (t : TypeId), ts[i]? = some t → DataW.trod enc P w base spare held fuel t ((cs.drop ((ts.take i).map P.cellsOf).sum).take (P.cellsOf t)) = xs[i]?) → SzEach P ts (xs.map (·.1)) → ∃ a, d.K w a cs ∧ ok a
theorem string {P : Program} {fuel : Nat} {t : TypeId} (hu : P.underlying t = some .string) : At P fuel t Kd.string (fun s => s.size ≤ 140737488351232) := by
  intro H enc w base spare held cs x h hs
  obtain ⟨s, h1, rfl, -⟩ : ∃ s : ByteArray, x = (.lit (.string s.data.toList), []) ∧ cs = [.string s] ∧ True := by
    cases fuel with
    | zero => simp [DataW.trod] at h
    | succ n =>
      unfold DataW.trod at h
      rw [hu] at h
      split at h <;> simp_all
  subst h1
  refine ⟨s, rfl, ?_⟩
  have := hs s.data.toList.length (by simp [DataW.weights])
  rw [Array.length_toList] at this
  exact this
theorem int {P : Program} {fuel : Nat} {t : TypeId} {k : IntKind} (hu : P.underlying t = some (.int k)) : At P fuel t (Kd.int k) (fun a => (Lit.int k a).wf = true) := by
  intro H enc w base spare held cs x h hs
  obtain ⟨a, rfl, h1⟩ : ∃ a : Int, cs = [.int k a] ∧ (Lit.int k a).wf = true := by
    cases fuel with
    | zero => simp [DataW.trod] at h
    | succ n =>
      unfold DataW.trod at h
      rw [hu] at h
      split at h <;> simp_all
  exact ⟨a, rfl, h1⟩
theorem zero {α : Type} {P : Program} {t : TypeId} {d : Kd α} {ok : α → Prop} : At P 0 t d ok := by
  intro H enc w base spare held cs x h hs
  simp [DataW.trod] at h
theorem one {α : Type} {P : Program} {fuel : Nat} {t : TypeId} {d : Kd α} {ok : α → Prop} (h : At P fuel t d ok) : Fields P fuel [t] d ok := by
  intro H enc w base spare held cs xs hl hx hr hs
  have h0 := hr 0 t rfl
  simp only [List.map_cons, List.map_nil, List.sum_cons, List.sum_nil, Nat.add_zero] at hl
  simp only [List.take_zero, List.map_nil, List.sum_nil, List.drop_zero] at h0
  rw [← hl, List.take_length] at h0
  cases xs with
  | nil => simp at hx
  | cons x xs =>
    refine h H enc w base spare held cs x (by rw [h0]; rfl) (fun n hn => hs n ?_)
    simp [DataW.weightsEach]
    exact hn
theorem cons {α β : Type} {P : Program} {fuel : Nat} {t : TypeId} {ts : List TypeId} {d : Kd α} {ok : α → Prop} {d' : Kd β} {ok' : β → Prop} (h : At P fuel t d ok) (h' : Fields P fuel ts d' ok') :
    Fields P fuel (t :: ts) (Kd.pair d d') (fun x => ok x.1 ∧ ok' x.2) := by
  intro H enc w base spare held cs xs hl hx hr hs
  have h0 := hr 0 t rfl
  simp only [List.map_cons, List.sum_cons] at hl
  simp only [List.take_zero, List.map_nil, List.sum_nil, List.drop_zero] at h0
  cases xs with
  | nil => simp at hx
  | cons x xs =>
    obtain ⟨a, ha, oa⟩ := h H enc w base spare held (cs.take (P.cellsOf t)) x (by rw [h0]; rfl) (fun n hn => hs n (by simp [DataW.weightsEach]; exact Or.inl hn))
    obtain ⟨b, hb, ob⟩ := h' H enc w base spare held (cs.drop (P.cellsOf t)) xs (by rw [List.length_drop]; omega) (by simpa using hx) (fun i t' ht => by
      have := hr (i + 1) t' (by simpa using ht)
      rw [List.take_succ_cons, List.map_cons, List.sum_cons, ← List.drop_drop] at this
      rw [this]
      rfl) (fun n hn => hs n (by simp [DataW.weightsEach]; exact Or.inr hn))
    exact ⟨(a, b), ⟨_, _, (List.take_append_drop _ _).symm, ha, hb⟩, oa, ob⟩
theorem iso {α β : Type} {P : Program} {fuel : Nat} {ts : List TypeId} {d : Kd α} {ok : α → Prop} (f : β → α) (g : α → β) (hg : ∀ a, f (g a) = a) (h : Fields P fuel ts d ok) : Fields P fuel ts (Kd.iso d f) (fun b => ok (f b)) := by
  intro H enc w base spare held cs xs hl hx hr hs
  obtain ⟨a, ha, oa⟩ := h H enc w base spare held cs xs hl hx hr hs
  exact ⟨g a, show d.K w (f (g a)) cs by rw [hg]; exact ha, show ok (f (g a)) by rw [hg]; exact oa⟩
theorem struct {β : Type} {P : Program} {fuel : Nat} {t : TypeId} {fs : Array Field} {d : Kd β} {ok : β → Prop} (hu : P.underlying t = some (.struct fs)) (hc : P.cellsOf t = ((fs.toList.map (·.type)).map P.cellsOf).sum)
    (ho : ∀ i : Nat, ∀ f, fs[i]? = some f → f.offset = (((fs.toList.map (·.type)).take i).map P.cellsOf).sum) (h : Fields P fuel (fs.toList.map (·.type)) d ok) : At P (fuel + 1) t d ok := by
  intro H enc w base spare held cs x hr hs
  obtain ⟨xs, n, hn, rfl, hl, hx, hf⟩ := DataW.trod_struct hu hr
  obtain rfl : fuel = n := by omega
  refine h H enc w base spare held cs xs (by rw [hl, hc]) (by rw [hx, List.length_map, Array.length_toList]) (fun i t' ht => ?_) (fun n hn => hs n ?_)
  · rw [List.getElem?_map] at ht
    obtain ⟨f, hf1, rfl⟩ := Option.map_eq_some_iff.1 ht
    rw [Array.getElem?_toList] at hf1
    rw [← hf i f hf1, ho i f hf1]
  · show n ∈ DataW.weights P t (.agg (xs.map (·.1)))
    unfold DataW.weights
    simp only [hu]
    exact hn
theorem weightsAll_mem {H : Type} {P : Program} {e : TypeId} : ∀ {l : List (DataW H)} {d : DataW H}, d ∈ l → ∀ n ∈ d.weights P e, n ∈ DataW.weightsAll P e l
  | _ :: _, _, hd, n, hn => by
    rcases List.mem_cons.1 hd with rfl | hd
    · simp [DataW.weightsAll]; exact Or.inl hn
    · simp [DataW.weightsAll]; exact Or.inr (weightsAll_mem hd n hn)
theorem slice {α : Type} {P : Program} {fuel : Nat} {t e : TypeId} {d : Kd α} {ok : α → Prop} (hu : P.underlying t = some (.slice e)) (hz : d.sz = P.cellsOf e) (h : At P fuel e d ok) :
    At P (fuel + 1) t (Kd.slice e d) (fun xs => xs.length * P.bytesOf e ≤ 140737488351232 ∧ xs.length ≤ maxLen ∧ ∀ x ∈ xs, ok x) := by
  intro H enc w base spare held cs x hr hs
  rcases DataW.trod_slice hu hr with ⟨rfl, rfl⟩ | ⟨a, len, cap, elems, rest, n, hn, rfl, rfl, hb, hl, hm, hlen, hel, -, -⟩
  · exact ⟨[], ⟨none, 0, rfl, Nat.le_refl _, Kd.C_nil d w⟩, by simp, by simp, fun x hx => by cases hx⟩
  · obtain rfl : fuel = n := by omega
    have key : ∀ i, i < len → ∃ c y, w.cells? base (a.add (i * P.cellsOf e)) (P.cellsOf e) = some c ∧ d.K w y c ∧ ok y := by
      intro i hi
      have h1 := hel i hi
      rw [List.getElem?_eq_getElem (by omega)] at h1
      obtain ⟨c, hc1, hc2⟩ := Option.bind_eq_some_iff.1 h1
      obtain ⟨y, hy1, hy2⟩ := h H enc w base spare held c _ hc2 (fun n hn => hs n (by
        show n ∈ DataW.weights P t (.slice (elems.map (·.1)) (rest.map (·.1)))
        unfold DataW.weights
        simp only [hu]
        exact List.mem_cons_of_mem _ (List.mem_append.2 (Or.inl (weightsAll_mem (List.mem_map_of_mem (List.getElem_mem (by omega))) n hn)))))
      exact ⟨c, y, hc1, hy1, hy2⟩
    have build : ∀ m, m ≤ len → ∃ xs : List α, xs.length = m ∧ ∀ i y, xs[i]? = some y → ok y ∧ ∃ c, w.cells? base (a.add (i * P.cellsOf e)) (P.cellsOf e) = some c ∧ d.K w y c := by
      intro m
      induction m with
      | zero => exact fun _ => ⟨[], rfl, fun i y hy => by simp at hy⟩
      | succ m ih =>
        intro hm
        obtain ⟨xs, hx1, hx2⟩ := ih (by omega)
        obtain ⟨c, y, h1, h2, h3⟩ := key m (by omega)
        refine ⟨xs ++ [y], by simp [hx1], fun i z hz => ?_⟩
        rcases Nat.lt_or_ge i xs.length with hlt | hge
        · rw [List.getElem?_append_left hlt] at hz
          exact hx2 i z hz
        · have hi : i = m := by
            have := (List.getElem?_eq_some_iff.1 hz).1
            simp at this; omega
          subst hi
          rw [List.getElem?_append_right hge, hx1, Nat.sub_self] at hz
          obtain rfl : y = z := by simpa using hz
          exact ⟨h3, c, h1, h2⟩
    obtain ⟨xs, hx1, hx2⟩ := build len (Nat.le_refl _)
    have hw := hs ((elems.length + rest.length) * P.bytesOf e) (by
      show _ ∈ DataW.weights P t (.slice (elems.map (·.1)) (rest.map (·.1)))
      unfold DataW.weights
      simp only [hu]
      rw [List.length_map, List.length_map]
      exact List.mem_cons_self)
    refine ⟨xs, ⟨some a, cap, by rw [hx1], by omega, hx1.symm ▸ rfl, by unfold maxLen at hm; omega, fun _ => ⟨a, rfl, fun j p hp => ?_⟩⟩, ?_, by omega, fun x hx => ?_⟩
    · obtain ⟨-, c, hc1, hc2⟩ := hx2 j p hp
      obtain ⟨-, hcl, hcc⟩ := World.cells?_some hc1
      refine ⟨c, by rw [hcl, hz], hc2, fun i u hu2 => ?_⟩
      have hi := (List.getElem?_eq_some_iff.1 hu2).1
      have := hcc i (by omega)
      rw [hu2, add_add] at this
      rw [hz]
      exact this
    · exact Nat.le_trans (Nat.mul_le_mul_right _ (by omega)) hw
    · obtain ⟨i, hi, rfl⟩ := List.getElem_of_mem hx
      exact (hx2 i _ (List.getElem?_eq_getElem hi)).1
theorem mono {α : Type} {P : Program} {fuel : Nat} {t : TypeId} {d d' : Kd α} {ok ok' : α → Prop} (h : At P fuel t d ok) (hk : ∀ w a cs, d.K w a cs → d'.K w a cs) (ho : ∀ a, ok a → ok' a) : At P fuel t d' ok' := by
  intro H enc w base spare held cs x hr hs
  obtain ⟨a, ha, oa⟩ := h H enc w base spare held cs x hr hs
  exact ⟨a, hk _ _ _ ha, ho a oa⟩
/-- A slice that came in, opened. -/
theorem arg {α : Type} {P : Program} {fuel : Nat} {t e : TypeId} {d : Kd α} {ok : List α → Prop} (h : At P fuel t (Kd.slice e d) ok) {H : Type} {enc : TypeId × Value → H} {w : World} {base : Nat} {spare : Nat → Bool} {held : Bool} {A : Option Addr} {n c : Nat} {x : DataW H × List MemPlace}
    (hr : DataW.trod enc P w base spare held fuel t (Value.slice A n c).cells.toList = some x) (hs : Sz P t x.1) : ∃ l : List α, n = l.length ∧ n ≤ c ∧ d.C w A l.length l ∧ ok l := by
  obtain ⟨l, ⟨A', c', he, hl, hC⟩, ho⟩ := h H enc w base spare held _ x hr hs
  have he' : [Value.slice A n c] = [Value.slice A' l.length c'] := he
  injection he' with he' _
  injection he' with h1 h2 h3
  subst h1 h3
  exact ⟨l, h2, by omega, hC, ho⟩
end Op
end Go.Proofs.YtpanmmpkdbhofaaDoorE

namespace Go.Proofs.YtpanmmpkdbhofaaDoorE
open Go Go.RowKit Go.ChangeShapes Go.WideShapes Go.Proofs.YtpanmmpkdbhofaaDoorW.PrintWords Go.Proofs.YtpanmmpkdbhofaaDoor.P12r
set_option linter.unusedVariables false
set_option linter.unusedSimpArgs false
def okA (x : S98) : Prop := x.f0.size ≤ 140737488351232 ∧ x.f1.size ≤ 140737488351232
/-- A tree of a size that fits a machine. -/
inductive Ok49 : S49 → Prop
  | mk (x : S49) (h0 : x.f0.size ≤ 140737488351232) (h1 : x.f1.size ≤ 140737488351232) (h2 : x.f2.size ≤ 140737488351232) (n3 : x.f3.length ≤ 140737488351232) (h3 : ∀ i : Nat, i < x.f3.length → okA (rd_T98 x.f3 i)) (n4 : x.f4.length ≤ 140737488351232) (h4 : ∀ i : Nat, i < x.f4.length → Ok49 (rd_T49 x.f4 i)) : Ok49 x
theorem Op.slice_ {α : Type} {P : Program} {fuel : Nat} {t e : TypeId} {d : Kd α} {ok : α → Prop} (hu : P.underlying t = some (.slice e)) (hz : d.sz = P.cellsOf e) (hb : 0 < P.bytesOf e) (h : ∀ m, m + 1 = fuel → Op.At P m e d ok) :
    Op.At P fuel t (Kd.slice e d) (fun xs => xs.length ≤ 140737488351232 ∧ ∀ x ∈ xs, ok x) := by
  cases fuel with
  | zero => exact Op.zero
  | succ f => exact Op.mono (Op.slice hu hz (h f rfl)) (fun _ _ _ h => h) (fun a h => ⟨Nat.le_trans (Nat.le_mul_of_pos_right _ hb) h.1, h.2.2⟩)
theorem all_at {α : Type} {l : List α} {ok : α → Prop} {z : α} (h : ∀ x ∈ l, ok x) : ∀ i : Nat, i < l.length → ok (l.getD (i : Int).toNat z) := by
  intro i hi
  rw [Int.toNat_natCast, List.getD_eq_getElem?_getD, List.getElem?_eq_getElem hi]
  exact h _ (List.getElem_mem hi)
theorem cellsT0 : Tryd.prog.cellsOf 9 = 1 := by kernel_rfl
theorem cellsT1 : Tryd.prog.cellsOf 47 = 1 := by kernel_rfl
theorem cellsT2 : Tryd.prog.cellsOf 46 = 1 := by kernel_rfl
theorem open_attr (fuel : Nat) : Op.At Tryd.prog fuel 98 k98 okA := by
  cases fuel with
  | zero => exact Op.zero
  | succ n =>
    refine Op.mono (Op.struct Tryd.underlying98 (by kernel_rfl) (fun i f hf => ?_) (Op.iso (fun x : S98 => (x.f0, x.f1)) (fun a => ⟨a.1, a.2⟩) (fun a => rfl) (Op.cons (Op.string Tryd.underlying9) (Op.one (Op.string Tryd.underlying9))))) (fun w a cs h => h) (fun a h => ⟨h.1, h.2⟩)
    rcases i with _ | _ | i <;> simp at hf <;> (subst hf; simp [cellsT0])
theorem open_upto : ∀ n m : Nat, m ≤ n → Op.At Tryd.prog m 49 (Kd.upto F49 5 [49, 98] n) Ok49
  | 0, m, h => by obtain rfl : m = 0 := by omega
                  exact Op.zero
  | n + 1, 0, h => Op.zero
  | n + 1, m + 1, h => by
    have sA := Op.slice_ (fuel := m) Tryd.underlying47 (d := k98) (by kernel_rfl) (of_decide_eq_true (by kernel_rfl)) (fun f _ => open_attr f)
    have sN := Op.slice_ (fuel := m) Tryd.underlying46 (d := Kd.upto F49 5 [49, 98] n) (ok := Ok49) (by rw [sz49 n]; kernel_rfl) (of_decide_eq_true (by kernel_rfl)) (fun f hf => open_upto n f (by omega))
    refine Op.mono (d' := F49 (Kd.upto F49 5 [49, 98] n)) (Op.struct Tryd.underlying49 (by kernel_rfl) (fun i f hf => ?_) (Op.iso (fun x : S49 => (x.f0, x.f1, x.f2, x.f3, x.f4)) (fun a => ⟨a.1, a.2.1, a.2.2.1, a.2.2.2.1, a.2.2.2.2⟩) (fun a => rfl) (Op.cons (Op.string Tryd.underlying9) (Op.cons (Op.string Tryd.underlying9) (Op.cons (Op.string Tryd.underlying9) (Op.cons sA (Op.one sN))))))) (fun w a cs h => h) (fun a h => Ok49.mk a h.1 h.2.1 h.2.2.1 h.2.2.2.1.1 (all_at h.2.2.2.1.2) h.2.2.2.2.1 (all_at h.2.2.2.2.2))
    rcases i with _ | _ | _ | _ | _ | i <;> simp at hf <;> (subst hf; simp [cellsT0, cellsT1, cellsT2])
theorem open_node (fuel : Nat) : Op.At Tryd.prog fuel 49 k49 Ok49 :=
  Op.mono (open_upto fuel fuel (Nat.le_refl _)) (fun w a cs h => (⟨fuel, h⟩ : ∃ n, (Kd.upto F49 5 [49, 98] n).K w a cs)) (fun _ h => h)
def openNodT (W : World) (A : Option Addr) (n c : Nat) : Prop := ∃ l : List S49, n = l.length ∧ n ≤ c ∧ Kd.C k49 W A l.length l ∧ l.length ≤ 140737488351232 ∧ ∀ i : Nat, i < l.length → Ok49 (rd_T49 l i)
theorem openNod {H : Type} {enc : TypeId × Value → H} {W : World} {base : Nat} {spare : Nat → Bool} {held : Bool} {A : Option Addr} {n c fuel : Nat} {d : DataW H} {ps : List MemPlace}
    (hf : DataW.trod enc Tryd.prog W base spare held fuel 46 (Value.slice A n c).cells.toList = some (d, ps)) (hs : ∀ m ∈ d.weights Tryd.prog 46, m ≤ 140737488351232) : openNodT W A n c := by
  obtain ⟨l, h1, h2, h3, h4, h5⟩ := Op.arg (Op.slice_ (fuel := fuel) Tryd.underlying46 (d := k49) (by kernel_rfl) (of_decide_eq_true (by kernel_rfl)) (fun f _ => open_node f)) hf hs
  exact ⟨l, h1, h2, h3, h4, all_at h5⟩
end Go.Proofs.YtpanmmpkdbhofaaDoorE

namespace Go.Proofs.YtpanmmpkdbhofaaDoor.M02
open Go Go.RowKit Go.Proofs.YtpanmmpkdbhofaaDoor.P12r Go.Proofs.YtpanmmpkdbhofaaDoorE Go.Proofs.YtpanmmpkdbhofaaDoorW.PrintWords Go.Proofs.YtpanmmpkdbhofaaDoorW.PrintLast Go.Proofs.YtpanmmpkdbhofaaDoorW.PrintMore
/-- tendrilref09.Check from the i-th on, d to go. -/
def attrsG (l : List S98) : Nat → Nat → Int × Int
  | 0, _ => (0, 0)
  | d + 1, i =>
    if i = 64 then ((i : Int), 12)
    else if namedS true (B (rd_T98 l i).f0) = true then
      (if (rd_T98 l i).f1.size > 65536 then ((i : Int), 3)
       else if i > 0 ∧ B (rd_T98 l (i - 1 : Nat)).f0 = B (rd_T98 l i).f0 then ((i : Int), 10)
       else if i > 0 ∧ cmpL (B (rd_T98 l (i - 1 : Nat)).f0) (B (rd_T98 l i).f0) > 0 then ((i : Int), 9)
       else attrsG l d (i + 1))
    else ((i : Int), 8)
theorem attrs_l0 (l : List S98) (ho : ∀ i : Nat, i < l.length → okA (rd_T98 l i)) : ∀ d i : Nat, i + d = l.length → i ≤ 64 → Ev (fun k => tendrilref09_Check.l0 k l (l.length : Int) (i : Int)) (attrsG l d i) := by
  intro d
  induction d with
  | zero =>
    intro i hi _
    refine Ev.step (f := fun _ => some ((0 : Int), (0 : Int))) (fun k => ?_) (Ev.now _)
    simp only [tendrilref09_Check.l0]; rw [if_neg (by omega)]
  | succ d ih =>
    intro i hi h64
    unfold attrsG
    by_cases h1 : i = 64
    · rw [if_pos h1]
      refine Ev.step (f := fun _ => some ((i : Int), (12 : Int))) (fun k => ?_) (Ev.now _)
      simp only [tendrilref09_Check.l0]; rw [if_pos (by omega), if_pos (by omega)]
    · rw [if_neg h1]
      have hn := rnamed_ev (rd_T98 l i).f0 true (ho i (by omega)).1
      have e1 : wrap64 ((i : Int) + 1) = ((i + 1 : Nat) : Int) := by rw [w64 (by omega) (by omega)]; omega
      have on : Ev (fun k => tendrilref09_Check.l0 k l (l.length : Int) (wrap64 ((i : Int) + 1))) (attrsG l d (i + 1)) := by rw [e1]; exact ih (i + 1) (by omega) (by omega)
      refine Ev.step (f := fun k => (tendrilref02_Named.f k (rd_T98 l (i : Int)).f0 true).bind fun t => if t = true then (if (((rd_T98 l (i : Int)).f1).size : Int) > 65536 then some ((i : Int), 3) else if (i : Int) > 0 then tendrilref09_Check.j1 k l (i : Int) (l.length : Int) (i : Int) ((rd_T98 l (wrap64 ((i : Int) - 1))).f0.toList == (rd_T98 l (i : Int)).f0.toList) else tendrilref09_Check.j1 k l (i : Int) (l.length : Int) (i : Int) false) else some ((i : Int), 8)) (fun k => ?_) (Ev.bind hn ?_)
      · simp only [tendrilref09_Check.l0]
        rw [if_pos (by omega), if_neg (by omega), if_pos (by omega), if_pos (by omega)]
        congr 1; funext t
        by_cases hp : (i : Int) > 0
        · have e2 : wrap64 ((i : Int) - 1) = (i : Int) - 1 := w64 (by omega) (by omega)
          simp only [e2, if_pos hp, if_pos (show (0 : Int) ≤ (i : Int) - 1 by omega), if_pos (show (i : Int) - 1 < (l.length : Int) by omega)]
        · simp only [if_neg hp]
      · by_cases hnm : namedS true (B (rd_T98 l (i : Int)).f0) = true
        · rw [hnm, if_pos rfl]
          simp only [if_pos]
          by_cases h3 : (rd_T98 l (i : Int)).f1.size > 65536
          · rw [if_pos h3]; exact Ev.congr (fun k => by rw [if_pos (by omega)]) (Ev.now _)
          · rw [if_neg h3]
            by_cases hp : i > 0
            · have e2 : wrap64 ((i : Int) - 1) = ((i - 1 : Nat) : Int) := by rw [w64 (by omega) (by omega)]; omega
              refine Ev.congr (f := fun k => tendrilref09_Check.j1 k l (i : Int) (l.length : Int) (i : Int) ((rd_T98 l (wrap64 ((i : Int) - 1))).f0.toList == (rd_T98 l (i : Int)).f0.toList)) (fun k => by rw [if_neg (by omega), if_pos (by omega)]) ?_
              rw [e2, toList_B, toList_B]
              by_cases he : B (rd_T98 l ((i - 1 : Nat) : Int)).f0 = B (rd_T98 l (i : Int)).f0
              · rw [if_pos ⟨hp, he⟩]
                refine Ev.step (f := fun _ => some ((i : Int), (10 : Int))) (fun k => ?_) (Ev.now _)
                simp only [tendrilref09_Check.j1]; rw [if_pos (by rw [he]; simp)]
              · rw [if_neg (fun h => he h.2)]
                have hc := rcompare_ev (rd_T98 l ((i - 1 : Nat) : Int)).f0 (rd_T98 l (i : Int)).f0 (ho (i - 1) (by omega)).1 (ho i (by omega)).1
                refine Ev.step (f := fun k => (tendrilref02_Compare.f k (rd_T98 l ((i - 1 : Nat) : Int)).f0 (rd_T98 l (i : Int)).f0).bind fun t => if t > 0 then some ((i : Int), 9) else tendrilref09_Check.l0 k l (l.length : Int) (wrap64 ((i : Int) + 1))) (fun k => ?_) (Ev.bind hc ?_)
                · simp only [tendrilref09_Check.j1]
                  rw [if_neg (by simpa using he), if_pos (by omega), e2, if_pos (by omega), if_pos (by omega), if_pos (by omega), if_pos (by omega)]
                · by_cases h9 : cmpL (B (rd_T98 l ((i - 1 : Nat) : Int)).f0) (B (rd_T98 l (i : Int)).f0) > 0
                  · rw [if_pos ⟨hp, h9⟩]; exact Ev.congr (fun k => by rw [if_pos h9]) (Ev.now _)
                  · rw [if_neg (fun h => h9 h.2)]; exact Ev.congr (fun k => by rw [if_neg h9]) on
            · rw [if_neg (fun h => hp h.1), if_neg (fun h => hp h.1)]
              refine Ev.congr (f := fun k => tendrilref09_Check.j1 k l (i : Int) (l.length : Int) (i : Int) false) (fun k => by rw [if_neg (by omega), if_neg (by omega)]) (Ev.step (fun k => ?_) on)
              simp only [tendrilref09_Check.j1]; rw [if_neg (by decide), if_neg (by omega)]
        · have hnf : namedS true (B (rd_T98 l (i : Int)).f0) = false := by simpa using hnm
          rw [hnf, if_neg (by decide)]
          exact Ev.congr (fun k => by rw [if_neg (by decide)]) (Ev.now _)
def attrsS (l : List S98) : Int × Int := attrsG l l.length 0
theorem attrs_ev (l : List S98) (ho : ∀ i : Nat, i < l.length → okA (rd_T98 l i)) : Ev (fun k => tendrilref09_Check.f k l) (attrsS l) := attrs_l0 l ho l.length 0 (by omega) (by omega)
def aloneS (x : S49) : Int := if namedS false (B x.f0) = true then (if x.f1.size > 65536 then 3 else if x.f2.size > 65536 then 3 else (attrsS x.f3).2) else 7
theorem alone_ev (x : S49) (h0 : x.f0.size ≤ 140737488351232) (ho : ∀ i : Nat, i < x.f3.length → okA (rd_T98 x.f3 i)) : Ev (fun k => tendrilref11_Alone.f k x.f0 x.f1 x.f2 x.f3 x.f4) (aloneS x) := by
  unfold tendrilref11_Alone.f aloneS
  refine Ev.bind (rnamed_ev x.f0 false h0) ?_
  by_cases h : namedS false (B x.f0) = true
  · rw [h, if_pos rfl]
    by_cases h1 : x.f1.size > 65536
    · rw [if_pos h1]; exact Ev.congr (fun k => by rw [if_pos rfl, if_pos (by omega)]) (Ev.now _)
    · rw [if_neg h1]
      by_cases h2 : x.f2.size > 65536
      · rw [if_pos h2]; exact Ev.congr (fun k => by rw [if_pos rfl, if_neg (by omega), if_pos (by omega)]) (Ev.now _)
      · rw [if_neg h2]
        refine Ev.congr (f := fun k => (tendrilref09_Check.f k x.f3).bind fun bt => some bt.2) (fun k => by rw [if_pos rfl, if_neg (by omega), if_neg (by omega)]) (Ev.bind (attrs_ev x.f3 ho) (Ev.now _))
  · have hf : namedS false (B x.f0) = false := by simpa using h
    rw [hf, if_neg (by decide)]
    exact Ev.congr (fun k => by rw [if_neg (by decide)]) (Ev.now _)
end Go.Proofs.YtpanmmpkdbhofaaDoor.M02

namespace Go.Proofs.YtpanmmpkdbhofaaDoor.L12
open Go Go.RowKit Go.Proofs.YtpanmmpkdbhofaaDoor.P12r Go.Proofs.YtpanmmpkdbhofaaDoor.P12o Go.Proofs.YtpanmmpkdbhofaaDoorE Go.Proofs.YtpanmmpkdbhofaaDoor.M02 Go.Proofs.YtpanmmpkdbhofaaDoorW.PrintWords Go.Proofs.YtpanmmpkdbhofaaDoorW.PrintMore Go.Proofs.YtpanmmpkdbhofaaDoorW.PrintLast
theorem w64e {n m : Int} (h : n = m) (h0 : -9223372036854775808 ≤ m) (h1 : m ≤ 9223372036854775807) : wrap64 n = m := by rw [h]; exact w64 h0 h1
section
variable (x : S49) (deep : Int)
theorem weigh_l1 (hk : ∀ i : Nat, i < x.f4.length → ∀ left : Int, 0 ≤ left → left ≤ 400 → ∃ r, Ev (fun k => Go.Proofs.YtpanmmpkdbhofaaDoor.P12o.tendrilplain_weigh.f k (rd_T49 x.f4 i).f0 (rd_T49 x.f4 i).f1 (rd_T49 x.f4 i).f2 (rd_T49 x.f4 i).f3 (rd_T49 x.f4 i).f4 left (wrap64 (deep + 1))) r ∧ -1125899906842624 ≤ r ∧ r ≤ left ∧ (0 ≤ r → r + 1 ≤ left))
    (hn : x.f4.length ≤ 140737488351232) : ∀ d i : Nat, ∀ left : Int, i + d = x.f4.length → -1125899906842624 ≤ left → left ≤ 400 →
    ∃ r, Ev (fun k => Go.Proofs.YtpanmmpkdbhofaaDoor.P12o.tendrilplain_weigh.l1 k left deep (x.f4.length : Int) (i : Int) x.f0 x.f1 x.f2 x.f3 x.f4) r ∧ -1125899906842624 ≤ r ∧ r ≤ max left (-1) ∧ (0 ≤ r → r + d ≤ left) := by
  intro d
  induction d with
  | zero =>
    intro i left hi h0 h1
    refine ⟨left, Ev.step (f := fun _ => some left) (fun k => ?_) (Ev.now _), h0, by omega, fun h => by omega⟩
    simp only [Go.Proofs.YtpanmmpkdbhofaaDoor.P12o.tendrilplain_weigh.l1]; rw [if_neg (by omega)]
  | succ d ih =>
    intro i left hi h0 h1
    have ei : wrap64 ((i : Int) + 1) = ((i + 1 : Nat) : Int) := w64e (by omega) (by omega) (by omega)
    by_cases hl : left < 0
    · refine ⟨-1, Ev.step (f := fun _ => some (-1)) (fun k => ?_) (Ev.now _), by omega, by omega, fun h => by omega⟩
      simp only [Go.Proofs.YtpanmmpkdbhofaaDoor.P12o.tendrilplain_weigh.l1]; rw [if_pos (by omega), if_pos hl]
    · obtain ⟨t, ht, t0, t1, t2⟩ := hk i (by omega) left (by omega) h1
      obtain ⟨r, hr, r0, r1, r2⟩ := ih (i + 1) t (by omega) t0 (by omega)
      refine ⟨r, Ev.step (f := fun k => (Go.Proofs.YtpanmmpkdbhofaaDoor.P12o.tendrilplain_weigh.f k (rd_T49 x.f4 i).f0 (rd_T49 x.f4 i).f1 (rd_T49 x.f4 i).f2 (rd_T49 x.f4 i).f3 (rd_T49 x.f4 i).f4 left (wrap64 (deep + 1))).bind fun t => Go.Proofs.YtpanmmpkdbhofaaDoor.P12o.tendrilplain_weigh.l1 k t deep (x.f4.length : Int) ((i + 1 : Nat) : Int) x.f0 x.f1 x.f2 x.f3 x.f4) (fun k => ?_) (Ev.bind ht hr), r0, by omega, fun h => ?_⟩
      · simp only [Go.Proofs.YtpanmmpkdbhofaaDoor.P12o.tendrilplain_weigh.l1]; rw [if_pos (by omega), if_neg hl, if_pos (by omega), if_pos (by omega), ei]
      · have := r2 h
        by_cases ht0 : 0 ≤ t
        · have := t2 ht0; omega
        · omega
theorem weigh_l0 (ho : ∀ i : Nat, i < x.f3.length → okA (rd_T98 x.f3 i)) (hn3 : x.f3.length ≤ 400) (hn : x.f4.length ≤ 140737488351232)
    (h1 : ∀ left : Int, -1125899906842624 ≤ left → left ≤ 400 → ∃ r, Ev (fun k => Go.Proofs.YtpanmmpkdbhofaaDoor.P12o.tendrilplain_weigh.l1 k left deep (x.f4.length : Int) 0 x.f0 x.f1 x.f2 x.f3 x.f4) r ∧ -1125899906842624 ≤ r ∧ r ≤ max left (-1) ∧ (0 ≤ r → r + x.f4.length ≤ left)) :
    ∀ d i : Nat, ∀ left : Int, i + d = x.f3.length → -(68719476736 * (i : Int)) ≤ left → left ≤ 400 → ∃ r, Ev (fun k => Go.Proofs.YtpanmmpkdbhofaaDoor.P12o.tendrilplain_weigh.l0 k left deep (x.f3.length : Int) (i : Int) x.f0 x.f1 x.f2 x.f3 x.f4) r ∧ -1125899906842624 ≤ r ∧ r ≤ max left (-1) ∧ (0 ≤ r → r + x.f4.length ≤ left) := by
  intro d
  induction d with
  | zero =>
    intro i left hi h0 hl
    obtain ⟨r, hr, r0, r1, r2⟩ := h1 left (by omega) hl
    refine ⟨r, Ev.step (fun k => ?_) hr, r0, r1, r2⟩
    simp only [Go.Proofs.YtpanmmpkdbhofaaDoor.P12o.tendrilplain_weigh.l0]; rw [if_neg (by omega)]
  | succ d ih =>
    intro i left hi h0 hl
    obtain ⟨a0, a1⟩ := ho i (by omega)
    have EI := Aside0.mk (show wrap64 ((i : Int) + 1) = ((i + 1 : Nat) : Int) from w64e (by omega) (by omega) (by omega))
    obtain ⟨u, hu⟩ : ∃ u, u = (((rd_T98 x.f3 (i : Int)).f1).size : Int) / 4096 := ⟨_, rfl⟩
    obtain ⟨v, hv⟩ : ∃ v, v = (((rd_T98 x.f3 (i : Int)).f0).size : Int) / 4096 := ⟨_, rfl⟩
    have u0 : 0 ≤ u ∧ u ≤ 34359738368 := by omega
    have v0 : 0 ≤ v ∧ v ≤ 34359738368 := by omega
    have E : Aside0 (wrap64 u = u ∧ wrap64 v = v ∧ wrap64 (left - u) = left - u ∧ wrap64 (left - u - v) = left - u - v) := ⟨w64 (by omega) (by omega), w64 (by omega) (by omega), w64 (by omega) (by omega), w64 (by omega) (by omega)⟩
    have HU := Aside0.mk hu
    have HV := Aside0.mk hv
    clear hu hv
    obtain ⟨r, hr, r0, r1, r2⟩ := ih (i + 1) (left - u - v) (by omega) (by omega) (by omega)
    refine ⟨r, Ev.step (fun k => ?_) hr, r0, by omega, fun h => by have := r2 h; omega⟩
    simp only [Go.Proofs.YtpanmmpkdbhofaaDoor.P12o.tendrilplain_weigh.l0]; rw [if_pos (by omega), if_pos (by omega), if_pos (by omega), ← HU.out, ← HV.out, E.out.1, E.out.2.1, E.out.2.2.1, E.out.2.2.2, EI.out]
end
theorem weigh_ev (x : S49) (h : Ok49 x) : ∀ left deep : Int, 0 ≤ left → left ≤ 400 → 0 ≤ deep → deep ≤ 81 →
    ∃ r, Ev (fun k => Go.Proofs.YtpanmmpkdbhofaaDoor.P12o.tendrilplain_weigh.f k x.f0 x.f1 x.f2 x.f3 x.f4 left deep) r ∧ -1125899906842624 ≤ r ∧ r ≤ left ∧ (0 ≤ r → r + 1 + x.f4.length ≤ left) := by
  induction h with
  | mk x h0 h1 h2 n3 h3 n4 h4 ih =>
    intro left deep l0 l1 d0 d1
    obtain ⟨q, hq⟩ : ∃ q, q = left - 1 - (x.f3.length : Int) - ((x.f2.size : Int) + (x.f1.size : Int)) / 4096 := ⟨_, rfl⟩
    have hqb : q ≤ left - 1 - (x.f3.length : Int) := by omega
    have hql : -1125899906842624 ≤ q := by omega
    have E : Aside0 (wrap64 (left - 1) = left - 1 ∧ wrap64 (left - 1 - (x.f3.length : Int)) = left - 1 - (x.f3.length : Int) ∧ wrap64 ((x.f2.size : Int) + (x.f1.size : Int)) = (x.f2.size : Int) + (x.f1.size : Int) ∧ Int.tdiv ((x.f2.size : Int) + (x.f1.size : Int)) 4096 = ((x.f2.size : Int) + (x.f1.size : Int)) / 4096 ∧ wrap64 (((x.f2.size : Int) + (x.f1.size : Int)) / 4096) = ((x.f2.size : Int) + (x.f1.size : Int)) / 4096 ∧ wrap64 (left - 1 - (x.f3.length : Int) - ((x.f2.size : Int) + (x.f1.size : Int)) / 4096) = q) :=
      ⟨w64 (by omega) (by omega), w64 (by omega) (by omega), w64 (by omega) (by omega), Int.tdiv_eq_ediv_of_nonneg (by omega), w64 (by omega) (by omega), by rw [hq]; exact w64 (by omega) (by omega)⟩
    clear hq
    have stop : Ev (fun k => Go.Proofs.YtpanmmpkdbhofaaDoor.P12o.tendrilplain_weigh.j0 k q deep true x.f0 x.f1 x.f2 x.f3 x.f4) (-1) := Ev.step (f := fun _ => some (-1)) (fun k => by simp only [Go.Proofs.YtpanmmpkdbhofaaDoor.P12o.tendrilplain_weigh.j0]; rw [if_pos trivial]) (Ev.now _)
    by_cases hneg : q < 0
    · refine ⟨-1, Ev.step (fun k => ?_) stop, by omega, by omega, fun h => by omega⟩
      simp only [Go.Proofs.YtpanmmpkdbhofaaDoor.P12o.tendrilplain_weigh.f]; rw [E.out.1, E.out.2.1, E.out.2.2.1, E.out.2.2.2.1, E.out.2.2.2.2.1, E.out.2.2.2.2.2, if_pos hneg]
    · by_cases hd : deep > 80
      · refine ⟨-1, Ev.step (fun k => ?_) stop, by omega, by omega, fun h => by omega⟩
        simp only [Go.Proofs.YtpanmmpkdbhofaaDoor.P12o.tendrilplain_weigh.f]; rw [E.out.1, E.out.2.1, E.out.2.2.1, E.out.2.2.2.1, E.out.2.2.2.2.1, E.out.2.2.2.2.2, if_neg hneg, decide_eq_true hd]
      · have ED := Aside0.mk (show wrap64 (deep + 1) = deep + 1 from w64 (by omega) (by omega))
        have hkid : ∀ i : Nat, i < x.f4.length → ∀ left : Int, 0 ≤ left → left ≤ 400 → ∃ r, Ev (fun k => Go.Proofs.YtpanmmpkdbhofaaDoor.P12o.tendrilplain_weigh.f k (rd_T49 x.f4 i).f0 (rd_T49 x.f4 i).f1 (rd_T49 x.f4 i).f2 (rd_T49 x.f4 i).f3 (rd_T49 x.f4 i).f4 left (wrap64 (deep + 1))) r ∧ -1125899906842624 ≤ r ∧ r ≤ left ∧ (0 ≤ r → r + 1 ≤ left) := by
          intro i hi left a b
          rw [ED.out]
          obtain ⟨r, p1, p2, p3, p4⟩ := ih i hi left (deep + 1) a b (by omega) (by omega)
          exact ⟨r, p1, p2, p3, fun h => by have := p4 h; omega⟩
        have l1 := weigh_l1 x deep hkid n4 x.f4.length 0
        obtain ⟨r, hr, r0, r1, r2⟩ := weigh_l0 x deep h3 (by omega) n4 (fun left a b => l1 left (by omega) a b) x.f3.length 0 q (by omega) (by omega) (by omega)
        refine ⟨r, Ev.step (f := fun k => Go.Proofs.YtpanmmpkdbhofaaDoor.P12o.tendrilplain_weigh.j0 k q deep false x.f0 x.f1 x.f2 x.f3 x.f4) (fun k => ?_) (Ev.step (fun k => ?_) hr), r0, by omega, fun h => by have := r2 h; omega⟩
        · simp only [Go.Proofs.YtpanmmpkdbhofaaDoor.P12o.tendrilplain_weigh.f]; rw [E.out.1, E.out.2.1, E.out.2.2.1, E.out.2.2.2.1, E.out.2.2.2.2.1, E.out.2.2.2.2.2, if_neg hneg, decide_eq_false hd]
        · simp only [Go.Proofs.YtpanmmpkdbhofaaDoor.P12o.tendrilplain_weigh.j0]; rw [if_neg (by decide)]; rfl
theorem few_ev (x : S49) (h : Ok49 x) : ∃ b, Ev (fun k => Go.Proofs.YtpanmmpkdbhofaaDoor.P12o.tendrilplain_Few.f k x.f0 x.f1 x.f2 x.f3 x.f4 400) b ∧ (b = true → x.f4.length ≤ 400) := by
  obtain ⟨r, hr, r0, r1, r2⟩ := weigh_ev x h 400 0 (by omega) (by omega) (by omega) (by omega)
  refine ⟨decide (r ≥ 0), Ev.bind hr (Ev.now _), fun hb => ?_⟩
  have h0 : 0 ≤ r := by simpa using hb
  have := r2 h0
  omega

theorem toList_nil (s : ByteArray) : s.toList = ([] : List UInt8) ↔ s.size = 0 := by
  rw [toList_B, ← B_len, List.length_eq_zero_iff]
theorem of_l1 (l : List S49) (hn : l.length ≤ 1000000) (x3 : List S56) (i : Nat) (hi : i < l.length) (hx : x3.length ≤ 1000000) (r : List S56)
    (hr : Ev (fun k => Go.Proofs.YtpanmmpkdbhofaaDoor.P12o.tendrilref12_Of.l0 k l (x3 ++ [labL l i (rd_T49 l i)]) (l.length : Int) ((i + 1 : Nat) : Int)) r) : ∀ d j : Nat, j + d = i + 1 →
    Ev (fun k => Go.Proofs.YtpanmmpkdbhofaaDoor.P12o.tendrilref12_Of.l1 k l x3 (i : Int) (j : Int) (l.length : Int) (i : Int) (rd_T49 l i).f0 (rd_T49 l i).f1 (if (rd_T49 l i).f1.size = 0 then (cntL l j (rd_T49 l i).f0 : Int) else 0)) r := by
  intro d
  induction d with
  | zero =>
    intro j hj
    obtain rfl : j = i + 1 := by omega
    have ei : wrap64 ((i : Int) + 1) = ((i + 1 : Nat) : Int) := w64e (by omega) (by omega) (by omega)
    refine Ev.step (fun k => ?_) hr
    simp only [Go.Proofs.YtpanmmpkdbhofaaDoor.P12o.tendrilref12_Of.l1]
    rw [if_neg (by omega), if_pos (by omega), ei]
    rfl
  | succ d ih =>
    intro j hj
    have ej : wrap64 ((j : Int) + 1) = ((j + 1 : Nat) : Int) := w64e (by omega) (by omega) (by omega)
    have hc := cntL_succ l j (by omega) (rd_T49 l i).f0
    have hcl := cntL_le l j (rd_T49 l i).f0
    refine Ev.step (fun k => ?_) (ih (j + 1) (by omega))
    simp only [Go.Proofs.YtpanmmpkdbhofaaDoor.P12o.tendrilref12_Of.l1]
    rw [if_pos (by omega), ej]
    by_cases hk : (rd_T49 l (i : Int)).f1.size = 0
    · rw [if_pos ((toList_nil _).2 hk), if_pos (by omega), if_pos (by omega), if_pos hk, if_pos hk, hc]
      by_cases h1 : (rd_T49 l (j : Int)).f1.size = 0
      · rw [if_pos ((toList_nil _).2 h1)]
        by_cases h2 : (rd_T49 l (j : Int)).f0 = (rd_T49 l (i : Int)).f0
        · rw [if_pos (by rw [h2]), if_pos (c := (rd_T49 l (j : Int)).f1.size = 0 ∧ _) ⟨h1, h2⟩, w64e (m := ((cntL l j (rd_T49 l (i : Int)).f0 + 1 : Nat) : Int)) (by omega) (by omega) (by omega)]
        · rw [if_neg (fun e => h2 (B_inj (by rw [← toList_B, ← toList_B, e]))), if_neg (c := (rd_T49 l (j : Int)).f1.size = 0 ∧ _) (fun e => h2 e.2)]
          rfl
      · rw [if_neg (fun e => h1 ((toList_nil _).1 e)), if_neg (c := (rd_T49 l (j : Int)).f1.size = 0 ∧ _) (fun e => h1 e.1)]
        rfl
    · rw [if_neg (fun e => hk ((toList_nil _).1 e)), if_neg hk, if_neg hk]
theorem of_l0 (l : List S49) (hn : l.length ≤ 1000000) : ∀ d i : Nat, i + d = l.length → Ev (fun k => Go.Proofs.YtpanmmpkdbhofaaDoor.P12o.tendrilref12_Of.l0 k l (labsL l i) (l.length : Int) (i : Int)) (labsL l l.length) := by
  intro d
  induction d with
  | zero =>
    intro i hi
    obtain rfl : i = l.length := by omega
    refine Ev.step (f := fun _ => some (labsL l l.length)) (fun k => ?_) (Ev.now _)
    simp only [Go.Proofs.YtpanmmpkdbhofaaDoor.P12o.tendrilref12_Of.l0]; rw [if_neg (by omega)]
  | succ d ih =>
    intro i hi
    have h1 := of_l1 l hn (labsL l i) i (by omega) (by rw [labsL_len]; omega) (labsL l l.length) (by rw [← labsL_succ]; exact ih (i + 1) (by omega)) (i + 1) 0 (by omega)
    refine Ev.step (fun k => ?_) h1
    simp only [Go.Proofs.YtpanmmpkdbhofaaDoor.P12o.tendrilref12_Of.l0]
    rw [if_pos (by omega), if_pos (by omega), if_pos (by omega)]
    congr 1
    split
    · unfold cntL; simp
    · rfl
theorem of_ev (l : List S49) (hn : l.length ≤ 1000000) : Ev (fun k => Go.Proofs.YtpanmmpkdbhofaaDoor.P12o.tendrilref12_Of.f k l) (labsL l l.length) := of_l0 l hn l.length 0 (by omega)
theorem labels_l0 (l : List S56) (hn : l.length ≤ 1000000) : ∀ d i : Nat, i + d = l.length → Ev (fun k => Go.Proofs.YtpanmmpkdbhofaaDoor.P12o.tendrilplain_Labels.l0 k l l (l.length : Int) (i : Int)) true := by
  intro d
  induction d with
  | zero =>
    intro i hi
    refine Ev.step (f := fun _ => some true) (fun k => ?_) (Ev.now _)
    simp only [Go.Proofs.YtpanmmpkdbhofaaDoor.P12o.tendrilplain_Labels.l0]; rw [if_neg (by omega)]
  | succ d ih =>
    intro i hi
    have ei : wrap64 ((i : Int) + 1) = ((i + 1 : Nat) : Int) := w64e (by omega) (by omega) (by omega)
    refine Ev.step (fun k => ?_) (ih (i + 1) (by omega))
    simp only [Go.Proofs.YtpanmmpkdbhofaaDoor.P12o.tendrilplain_Labels.l0]
    rw [if_pos (by omega), if_pos (by omega), if_pos (by omega), if_pos (by omega), if_neg (by simp), ei]
theorem labels_ev (l : List S56) (hn : l.length ≤ 1000000) : Ev (fun k => Go.Proofs.YtpanmmpkdbhofaaDoor.P12o.tendrilplain_Labels.f k l l) true := by
  unfold Go.Proofs.YtpanmmpkdbhofaaDoor.P12o.tendrilplain_Labels.f
  exact Ev.congr (f := fun k => Go.Proofs.YtpanmmpkdbhofaaDoor.P12o.tendrilplain_Labels.l0 k l l (l.length : Int) 0) (fun k => by rw [if_pos rfl]) (labels_l0 l hn l.length 0 (by omega))
end Go.Proofs.YtpanmmpkdbhofaaDoor.L12

namespace Go.Proofs.YtpanmmpkdbhofaaDoor.L12
open Go Go.RowKit Go.Proofs.YtpanmmpkdbhofaaDoor.P12r Go.Proofs.YtpanmmpkdbhofaaDoor.P12o Go.Proofs.YtpanmmpkdbhofaaDoorE Go.Proofs.YtpanmmpkdbhofaaDoor.L03 Go.Proofs.YtpanmmpkdbhofaaDoor.M03 Go.Proofs.YtpanmmpkdbhofaaDoor.M02 Go.Proofs.YtpanmmpkdbhofaaDoorW.PrintWords Go.Proofs.YtpanmmpkdbhofaaDoorW.PrintMore Go.Proofs.YtpanmmpkdbhofaaDoorW.PrintLast

theorem below_pre (m : Nat) : ∀ (l : List It) (x : S49) (dep up : Int), ∃ r, belowS m l x dep up = l ++ r := by
  induction m with
  | zero => exact fun l x dep up => ⟨[], by simp [belowS]⟩
  | succ m ih =>
    intro l x dep up
    rw [belowS_eq]
    split
    · exact ⟨[], by simp⟩
    · split
      · exact ⟨_, rfl⟩
      · have go : ∀ (ks : List S49) (a : List It), ∃ r, ks.foldl (fun a y => belowS m a y (dep + 1) (l.length : Int)) a = a ++ r := by
          intro ks
          induction ks with
          | nil => exact fun a => ⟨[], by simp⟩
          | cons y ks ih2 =>
            intro a
            obtain ⟨r1, h1⟩ := ih a y (dep + 1) (l.length : Int)
            obtain ⟨r2, h2⟩ := ih2 (belowS m a y (dep + 1) (l.length : Int))
            exact ⟨r1 ++ r2, by rw [List.foldl_cons, h2, h1, List.append_assoc]⟩
        obtain ⟨r, h⟩ := go x.f4 (l ++ [⟨x, dep, up⟩])
        exact ⟨[⟨x, dep, up⟩] ++ r, by rw [h, List.append_assoc]⟩
theorem below_head (m : Nat) (l : List It) (x : S49) (dep up : Int) (h : l.length ≤ 4096) : ∃ r, belowS (m + 1) l x dep up = l ++ ⟨x, dep, up⟩ :: r := by
  rw [belowS_eq, if_neg (by omega)]
  split
  · exact ⟨[], rfl⟩
  · have go : ∀ (ks : List S49) (a : List It), ∃ r, ks.foldl (fun a y => belowS m a y (dep + 1) (l.length : Int)) a = a ++ r := by
      intro ks
      induction ks with
      | nil => exact fun a => ⟨[], by simp⟩
      | cons y ks ih2 =>
        intro a
        obtain ⟨r1, h1⟩ := below_pre m a y (dep + 1) (l.length : Int)
        obtain ⟨r2, h2⟩ := ih2 (belowS m a y (dep + 1) (l.length : Int))
        exact ⟨r1 ++ r2, by rw [List.foldl_cons, h2, h1, List.append_assoc]⟩
    obtain ⟨r, h2⟩ := go x.f4 (l ++ [⟨x, dep, up⟩])
    exact ⟨r, by rw [h2, List.append_assoc]; rfl⟩
theorem step_pre (m : Nat) (l1 : List It) (ks : List S49) (dep at_ : Int) (i : Nat) : ∀ j, i ≤ j → j ≤ ks.length → ∃ r, stepS m l1 ks dep at_ j = stepS m l1 ks dep at_ i ++ r := by
  intro j
  induction j with
  | zero => intro h _; obtain rfl : i = 0 := by omega
            exact ⟨[], by simp⟩
  | succ j ih =>
    intro h hj
    by_cases e : i = j + 1
    · exact ⟨[], by rw [e]; simp⟩
    · obtain ⟨r, hr⟩ := ih (by omega) (by omega)
      obtain ⟨r2, hr2⟩ := below_pre m (stepS m l1 ks dep at_ j) (rd_T49 ks j) dep at_
      exact ⟨r ++ r2, by rw [stepS_succ m l1 ks dep at_ j (by omega), hr2, hr, List.append_assoc]⟩
def posS (m : Nat) (l1 : List It) (ks : List S49) (dep at_ : Int) (j : Nat) : Nat := (stepS m l1 ks dep at_ j).length
theorem step_at (m : Nat) (l1 : List It) (ks : List S49) (dep at_ : Int) (hl : (stepS (m + 1) l1 ks dep at_ ks.length).length ≤ 4096) (j : Nat) (hj : j < ks.length) :
    rdIt (stepS (m + 1) l1 ks dep at_ ks.length) (posS (m + 1) l1 ks dep at_ j : Nat) = ⟨rd_T49 ks j, dep, at_⟩ ∧ posS (m + 1) l1 ks dep at_ j < posS (m + 1) l1 ks dep at_ (j + 1) ∧ posS (m + 1) l1 ks dep at_ (j + 1) ≤ (stepS (m + 1) l1 ks dep at_ ks.length).length := by
  obtain ⟨r1, h1⟩ := step_pre (m + 1) l1 ks dep at_ j ks.length (by omega) (Nat.le_refl _)
  obtain ⟨r2, h2⟩ := step_pre (m + 1) l1 ks dep at_ (j + 1) ks.length (by omega) (Nat.le_refl _)
  have hlj : (stepS (m + 1) l1 ks dep at_ j).length ≤ 4096 := by rw [h1, List.length_append] at hl; omega
  obtain ⟨r3, h3⟩ := below_head m (stepS (m + 1) l1 ks dep at_ j) (rd_T49 ks j) dep at_ hlj
  rw [← stepS_succ (m + 1) l1 ks dep at_ j hj] at h3
  have e : stepS (m + 1) l1 ks dep at_ ks.length = stepS (m + 1) l1 ks dep at_ j ++ (⟨rd_T49 ks j, dep, at_⟩ :: (r3 ++ r2)) := by rw [h2, h3, List.append_assoc]; rfl
  refine ⟨?_, ?_, ?_⟩
  · unfold rdIt posS
    rw [Int.toNat_natCast, e, List.getD_eq_getElem?_getD, List.getElem?_append_right (Nat.le_refl _), Nat.sub_self]
    rfl
  · unfold posS; rw [h3, List.length_append]; simp
  · unfold posS; rw [h2, List.length_append]; omega
theorem pos_mono (m : Nat) (l1 : List It) (ks : List S49) (dep at_ : Int) (hl : (stepS (m + 1) l1 ks dep at_ ks.length).length ≤ 4096) (i : Nat) : ∀ j, i < j → j ≤ ks.length → posS (m + 1) l1 ks dep at_ i < posS (m + 1) l1 ks dep at_ j := by
  intro j
  induction j with
  | zero => intro h; omega
  | succ j ih =>
    intro h hj
    have := (step_at m l1 ks dep at_ hl j (by omega)).2.1
    by_cases e : i = j
    · rw [e]; exact this
    · have := ih (by omega) (by omega); omega
theorem items_step (x : S49) : itemsS x = stepS 65 [⟨x, 1, -1⟩] x.f4 2 0 x.f4.length := by
  unfold itemsS stepS
  rw [belowS_eq, if_neg (by simp), if_neg (by omega), List.take_length]
  rfl
/-- Of a right tree's kids. -/
theorem good_kids (x : S49) (hg : good (itemsS x)) : (∀ i : Nat, i < x.f4.length → aloneOk (rd_T49 x.f4 i)) ∧ ∀ i j : Nat, i < j → j < x.f4.length → (rd_T49 x.f4 j).f1.size ≠ 0 → (rd_T49 x.f4 i).f1 ≠ (rd_T49 x.f4 j).f1 := by
  have h7 : (itemsS x).length ≤ 4097 := belowS_len 66 [] x 1 (-1) (by simp)
  have hlen : (itemsS x).length ≤ 4096 := by
    rcases Nat.lt_or_ge 4096 (itemsS x).length with h | h
    · exact absurd rfl (hg 4096 h).1
    · exact h
  rw [items_step] at hg hlen
  rw [show (65 : Nat) = 64 + 1 from rfl] at hg hlen
  have at_ := step_at 64 [⟨x, 1, -1⟩] x.f4 2 0 hlen
  refine ⟨fun i hi => ?_, fun i j hij hj hne he => ?_⟩
  · obtain ⟨a1, a2, a3⟩ := at_ i hi
    have := (hg (posS (64 + 1) [⟨x, 1, -1⟩] x.f4 2 0 i) (by omega)).2.2.1
    rw [a1] at this
    exact this
  · obtain ⟨a1, a2, a3⟩ := at_ i (by omega)
    obtain ⟨b1, b2, b3⟩ := at_ j hj
    have hp := pos_mono 64 [⟨x, 1, -1⟩] x.f4 2 0 hlen i j hij (by omega)
    refine (hg (posS (64 + 1) [⟨x, 1, -1⟩] x.f4 2 0 j) (by omega)).2.2.2 _ hp ?_
    unfold clash
    rw [a1, b1]
    exact ⟨Int.le_refl _, rfl, hne, he⟩
theorem alone_facts (x : S49) (hx : Ok49 x) (h : aloneOk x) : namedS false (B x.f0) = true ∧ x.f1.size ≤ 65536 := by
  cases hx with
  | mk _ h0 h1 h2 n3 h3 n4 h4 =>
    obtain ⟨K, hK⟩ := alone_ev x h0 h3
    obtain ⟨k, hk⟩ := h
    have e := alone_one x k K 0 (aloneS x) hk (hK K (Nat.le_refl _))
    unfold aloneS at e
    split at e
    · rename_i hn
      split at e
      · exact absurd e (by decide)
      · exact ⟨hn, by omega⟩
    · exact absurd e (by decide)

theorem named_plain (l : List UInt8) (h : namedS false l = true) : ∀ b ∈ l, sg2.contains b = false := by
  intro b hb
  cases l with
  | nil => cases hb
  | cons c t =>
    rw [namedS_cons] at h
    simp only [Bool.and_eq_true, List.all_eq_true] at h
    have := h.2 b hb
    unfold okb at this
    simp only [Bool.false_and, Bool.or_false, Bool.or_eq_true, decide_eq_true_eq] at this
    simp only [sg2]
    rw [Bool.eq_false_iff]
    intro hc
    simp at hc
    rcases hc with hc | hc <;> (subst hc; revert this; decide)
theorem named_len (l : List UInt8) (h : namedS false l = true) : l.length ≤ 32 := by
  cases l with
  | nil => simp
  | cons c t =>
    rw [namedS_cons] at h
    simp only [Bool.and_eq_true, decide_eq_true_eq] at h
    have := h.1.1
    simp; omega
theorem stop_named (a r : List UInt8) (c : UInt8) (h : namedS false a = true) (hc : sg2.contains c = true) : stop2 (a ++ c :: r) = a.length := by
  unfold stop2
  rw [List.findIdx_append]
  have h1 : a.findIdx (fun b => sg2.contains b) = a.length := by
    rw [List.findIdx_eq_length]
    exact fun b hb => named_plain a h b hb
  rw [h1, if_neg (by omega), List.findIdx_cons, hc]
  simp
theorem B_mk (l : List UInt8) : B (⟨l.toArray⟩ : ByteArray) = l := rfl
theorem read_back (a b : ByteArray) (n : Int) (ha : namedS false (B a) = true) (hb : b.size ≤ 65536) (hn : (b.size = 0 ∧ 1 ≤ n ∧ n ≤ 9223372036854775807) ∨ (b.size ≠ 0 ∧ n = 0)) : readFrom (textS a b n) 0 = (a, b, n, 0) := by
  have hal := named_len (B a) ha
  rw [readFrom_eq]
  rcases hn with ⟨h0, h1, h2⟩ | ⟨h0, rfl⟩
  · have hbe : B b = [] := by rw [← List.length_eq_zero_iff, B_len]; exact h0
    have hb2 : b = ⟨#[]⟩ := B_inj (by rw [hbe])
    have hs : B (textS a b n) = B a ++ (58 : UInt8) :: Lib.itoa n := by
      unfold textS
      rw [if_pos hbe, B_append, B_append, B_mkS, List.append_assoc]
      rfl
    have hst : stop2 (B (textS a b n)) = (B a).length := by rw [hs]; exact stop_named _ _ _ ha (by decide)
    rw [dif_pos (by rw [hst, hs, List.length_append]; simp), hst]
    have hd : (B (textS a b n)).drop ((B a).length + 1) = Lib.itoa n := by rw [hs, ← List.drop_drop, List.drop_left]; rfl
    have ht : (B (textS a b n)).take (B a).length = B a := by rw [hs, List.take_left]
    have hg : (B (textS a b n))[(B a).length]? = some 58 := by rw [hs, List.getElem?_append_right (Nat.le_refl _), Nat.sub_self]; rfl
    have he : (textS a b n).extract 0 (B a).length = a := B_inj (by rw [B_upto, ht])
    unfold tryR
    rw [if_pos (by rw [ht]; exact ha), hd, whole_itoa (by omega) h2, if_pos ⟨hg, rfl, h1⟩, he, hb2]
    rfl
  · have hbne : B b ≠ [] := fun e => h0 (by rw [← B_len, e]; rfl)
    have hs : B (textS a b 0) = B a ++ (35 : UInt8) :: escS (B b) := by
      unfold textS
      rw [if_neg hbne, B_append, B_append, B_mk, List.append_assoc]
      rfl
    have hst : stop2 (B (textS a b 0)) = (B a).length := by rw [hs]; exact stop_named _ _ _ ha (by decide)
    rw [dif_pos (by rw [hst, hs, List.length_append]; simp), hst]
    have hd : (B (textS a b 0)).drop ((B a).length + 1) = escS (B b) := by rw [hs, ← List.drop_drop, List.drop_left]; rfl
    have ht : (B (textS a b 0)).take (B a).length = B a := by rw [hs, List.take_left]
    have hg : (B (textS a b 0))[(B a).length]? = some 35 := by rw [hs, List.getElem?_append_right (Nat.le_refl _), Nat.sub_self]; rfl
    have he : (textS a b 0).extract 0 (B a).length = a := B_inj (by rw [B_upto, ht])
    unfold tryR
    rw [if_pos (by rw [ht]; exact ha), hd, un_escS, List.nil_append, if_neg (fun h => by have := h.1; rw [hg] at this; exact absurd this (by decide)), if_pos ⟨hg, rfl, hbne, by show (B b).length ≤ _; rw [B_len]; exact hb⟩, he]
    rfl
theorem text_size (a b : ByteArray) (n : Int) (ha : a.size ≤ 1000) (hb : b.size ≤ 65536) (h0 : -9223372036854775808 ≤ n) (h1 : n ≤ 9223372036854775807) : (textS a b n).size ≤ 1000000 := by
  unfold textS
  have hi := itoa_len n h0 h1
  have he : (⟨(escS (B b)).toArray⟩ : ByteArray).size ≤ 6 * 65536 + 1000 := by
    rw [← B_len]
    have := escS_len (B b)
    have h2 := B_len b
    show (escS (B b)).length ≤ _
    omega
  split
  · rw [ByteArray.size_append, ByteArray.size_append]; show a.size + 1 + _ ≤ _; omega
  · rw [ByteArray.size_append, ByteArray.size_append]; show a.size + 1 + _ ≤ _; omega
end Go.Proofs.YtpanmmpkdbhofaaDoor.L12

namespace Go.Proofs.YtpanmmpkdbhofaaDoor.L12
open Go Go.RowKit Go.Proofs.YtpanmmpkdbhofaaDoor.P12r Go.Proofs.YtpanmmpkdbhofaaDoor.P12o Go.Proofs.YtpanmmpkdbhofaaDoorE Go.Proofs.YtpanmmpkdbhofaaDoorX Go.Proofs.YtpanmmpkdbhofaaDoor.M02 Go.Proofs.YtpanmmpkdbhofaaDoorW.PrintWords Go.Proofs.YtpanmmpkdbhofaaDoorW.PrintMore Go.Proofs.YtpanmmpkdbhofaaDoorW.PrintLast
set_option linter.unusedVariables false
set_option linter.unusedSimpArgs false
attribute [local go_sem high] Go.Proofs.YtpanmmpkdbhofaaDoor.P12o.eqA56
theorem rd_labs (l : List S49) (n i : Nat) (h : i < n) : rd_T56 (labsL l n) (i : Int) = labL l i (rd_T49 l i) := by
  unfold rd_T56 labsL
  rw [Int.toNat_natCast, List.getD_eq_getElem?_getD, List.getElem?_map, List.getElem?_range h]
  rfl
theorem cnt_mono (l : List S49) (t : ByteArray) (i : Nat) : ∀ j, i ≤ j → j ≤ l.length → cntL l i t ≤ cntL l j t := by
  intro j
  induction j with
  | zero => intro h _; obtain rfl : i = 0 := by omega
            exact Nat.le_refl _
  | succ j ih =>
    intro h hj
    by_cases e : i = j + 1
    · rw [e]; exact Nat.le_refl _
    · have := ih (by omega) (by omega)
      rw [cntL_succ l j (by omega)]
      omega
theorem cnt_here (l : List S49) (i : Nat) (hi : i < l.length) (hk : (rd_T49 l i).f1.size = 0) : cntL l (i + 1) (rd_T49 l i).f0 = cntL l i (rd_T49 l i).f0 + 1 := by
  rw [cntL_succ l i hi, if_pos ⟨hk, rfl⟩]
theorem labs_ne (l : List S49) (hd : ∀ i j : Nat, i < j → j < l.length → (rd_T49 l j).f1.size ≠ 0 → (rd_T49 l i).f1 ≠ (rd_T49 l j).f1) (i j : Nat) (hij : i < j) (hj : j < l.length) : labL l i (rd_T49 l i) ≠ labL l j (rd_T49 l j) := by
  intro e
  unfold labL at e
  injection e with e0 e1 e2
  by_cases hk : (rd_T49 l j).f1.size = 0
  · rw [e1, if_pos hk, if_pos hk, e0, cnt_here l j hj hk] at e2
    have := cnt_mono l (rd_T49 l j).f0 (i + 1) j (by omega) (by omega)
    omega
  · exact hd i j hij hj hk e1
theorem find_at (l : List S56) (hn : l.length ≤ 1000000) (i : Nat) (hi : i < l.length) (hne : ∀ j : Nat, j < i → rd_T56 l j ≠ rd_T56 l i) : ∀ d j : Nat, j + d = i →
    Ev (fun k => Go.Proofs.YtpanmmpkdbhofaaDoor.P12o.tendrilref12_Find.l0 k l (l.length : Int) (j : Int) (rd_T56 l i).f0 (rd_T56 l i).f1 (rd_T56 l i).f2) (i : Int) := by
  intro d
  induction d with
  | zero =>
    intro j hj
    obtain rfl : j = i := by omega
    refine Ev.step (f := fun _ => some (j : Int)) (fun k => ?_) (Ev.now _)
    simp only [Go.Proofs.YtpanmmpkdbhofaaDoor.P12o.tendrilref12_Find.l0]
    rw [if_pos (by omega), if_pos (by omega), if_pos (by omega), if_pos (by simp)]
  | succ d ih =>
    intro j hj
    have EJ := Aside0.mk (show wrap64 ((j : Int) + 1) = ((j + 1 : Nat) : Int) from w64e (by omega) (by omega) (by omega))
    have hx := hne j (by omega)
    refine Ev.step (fun k => ?_) (ih (j + 1) (by omega))
    simp only [Go.Proofs.YtpanmmpkdbhofaaDoor.P12o.tendrilref12_Find.l0]
    rw [if_pos (by omega), if_pos (by omega), if_pos (by omega), if_neg ?_, EJ.out]
    intro e
    simp only [Bool.and_eq_true, beq_iff_eq, toList_B] at e
    apply hx
    obtain ⟨e1, e2, e3⟩ := e
    have e1 := B_inj e1
    have e2 := B_inj e2
    cases h1 : rd_T56 l (j : Int); cases h2 : rd_T56 l (i : Int)
    rw [h1, h2] at e1 e2 e3
    simp only at e1 e2 e3
    rw [e1, e2, e3]
theorem tags_mk (l : List S49) (h : ∀ i : Nat, i < l.length → Ok49 (rd_T49 l i)) : tagsB l = true := by
  unfold tagsB
  rw [List.all_eq_true]
  intro i hi
  cases h i (List.mem_range.1 hi) with
  | mk _ h0 h1 h2 n3 h3 n4 h4 => exact decide_eq_true (by unfold maxLen; omega)
theorem known_ev (x : S49) (hx : ∀ i : Nat, i < (itemsS x).length → Ok49 (rdIt (itemsS x) i).n) : ∃ K, ∀ k, K ≤ k → knownK k (itemsS x) = true := by
  have : ∀ n, n ≤ (itemsS x).length → ∃ K, ∀ k, K ≤ k → ∀ i : Nat, i < n → (aloneF k (rdIt (itemsS x) i).n).isSome = true := by
    intro n
    induction n with
    | zero => exact fun _ => ⟨0, fun k _ i hi => by omega⟩
    | succ n ih =>
      intro hn
      obtain ⟨K, hK⟩ := ih (by omega)
      cases hx n (by omega) with
      | mk _ h0 h1 h2 n3 h3 n4 h4 =>
        obtain ⟨K2, hK2⟩ := alone_ev (rdIt (itemsS x) n).n h0 h3
        refine ⟨max K K2, fun k hk i hi => ?_⟩
        by_cases e : i = n
        · subst e
          have := hK2 k (by omega)
          unfold aloneF
          rw [show tendrilref11_Alone.f k _ _ _ _ _ = _ from this]
          rfl
        · exact hK k (by omega) i (by omega)
  obtain ⟨K, hK⟩ := this _ (Nat.le_refl _)
  refine ⟨K, fun k hk => ?_⟩
  unfold knownK
  rw [List.all_eq_true]
  exact fun i hi => hK k hk i (List.mem_range.1 hi)
theorem items_ok (m : Nat) : ∀ (l : List It) (x : S49) (dep up : Int), Ok49 x → (∀ y ∈ l, Ok49 y.n) → ∀ y ∈ belowS m l x dep up, Ok49 y.n := by
  induction m with
  | zero => exact fun l x dep up _ hl => hl
  | succ m ih =>
    intro l x dep up hx hl
    have h1 : ∀ y ∈ l ++ [(⟨x, dep, up⟩ : It)], Ok49 y.n := by
      intro y hy
      rcases List.mem_append.1 hy with h | h
      · exact hl y h
      · rw [List.mem_singleton.1 h]; exact hx
    rw [belowS_eq]
    split
    · exact hl
    · split
      · exact h1
      · have hkids : ∀ y ∈ x.f4, Ok49 y := by
          cases hx with
          | mk _ h0 h1 h2 n3 h3 n4 h4 =>
            intro y hy
            obtain ⟨i, hi, rfl⟩ := List.getElem_of_mem hy
            have := h4 i hi
            unfold rd_T49 at this
            rw [Int.toNat_natCast, List.getD_eq_getElem?_getD, List.getElem?_eq_getElem hi] at this
            exact this
        generalize l ++ [(⟨x, dep, up⟩ : It)] = a at h1
        generalize (l.length : Int) = q
        revert a hkids
        generalize x.f4 = ks
        intro hkids
        induction ks with
        | nil => exact fun a ha => ha
        | cons y ks ih2 => exact fun a ha => ih2 (fun z hz => hkids z (List.mem_cons_of_mem _ hz)) _ (ih a y (dep + 1) q (hkids y List.mem_cons_self) ha)
theorem round_facts (l : List S49) (hn : l.length ≤ 400) (hk : ∀ i : Nat, i < l.length → namedS false (B (rd_T49 l i).f0) = true ∧ (rd_T49 l i).f1.size ≤ 65536)
    (hd : ∀ i j : Nat, i < j → j < l.length → (rd_T49 l j).f1.size ≠ 0 → (rd_T49 l i).f1 ≠ (rd_T49 l j).f1) (i : Nat) (hil : i < l.length) :
    ∃ (s : ByteArray) (k : Nat), label_Text6.f (rd_T56 (labsL l l.length) i).f0 (rd_T56 (labsL l l.length) i).f1 (rd_T56 (labsL l l.length) i).f2 = some s ∧ label_Read6.f s = some ((rd_T56 (labsL l l.length) i).f0, (rd_T56 (labsL l l.length) i).f1, (rd_T56 (labsL l l.length) i).f2, 0) ∧ Go.Proofs.YtpanmmpkdbhofaaDoor.P12o.tendrilref12_Find.f k (labsL l l.length) (rd_T56 (labsL l l.length) i).f0 (rd_T56 (labsL l l.length) i).f1 (rd_T56 (labsL l l.length) i).f2 = some (i : Int) := by
  have hll := labsL_len l l.length
  have hrd := rd_labs l l.length i hil
  obtain ⟨k1, k2⟩ := hk i hil
  obtain ⟨k, hf⟩ := (find_at (labsL l l.length) (by omega) i (by omega) (fun j hj => by rw [rd_labs l l.length j (by omega), hrd]; exact labs_ne l hd j i hj hil) i 0 (by omega)).rounds
  have hcl := cntL_le l (i + 1) (rd_T49 l i).f0
  have hnl := named_len _ k1
  have hBl := B_len (rd_T49 l (i : Int)).f0
  have hN : ((rd_T49 l i).f1.size = 0 ∧ 1 ≤ (labL l i (rd_T49 l i)).f2 ∧ (labL l i (rd_T49 l i)).f2 ≤ 9223372036854775807) ∨ ((rd_T49 l i).f1.size ≠ 0 ∧ (labL l i (rd_T49 l i)).f2 = 0) := by
    by_cases h : (rd_T49 l (i : Int)).f1.size = 0
    · refine .inl ⟨h, ?_⟩
      have := cnt_here l i hil h
      unfold labL
      simp only [if_pos h]
      omega
    · refine .inr ⟨h, ?_⟩
      unfold labL
      simp only [if_neg h]
  have hrb := read_back (rd_T49 l i).f0 (rd_T49 l i).f1 (labL l i (rd_T49 l i)).f2 k1 k2 hN
  have hb0 : -9223372036854775808 ≤ (labL l i (rd_T49 l i)).f2 ∧ (labL l i (rd_T49 l i)).f2 ≤ 9223372036854775807 := by
    rcases hN with h | h
    · exact ⟨by omega, h.2.2⟩
    · omega
  have hts := text_size (rd_T49 l i).f0 (rd_T49 l i).f1 (labL l i (rd_T49 l i)).f2 (by omega) k2 hb0.1 hb0.2
  refine ⟨textS (rd_T49 l i).f0 (rd_T49 l i).f1 (labL l i (rd_T49 l i)).f2, k, ?_, ?_, hf⟩
  · rw [hrd]
    show label_Text6.f (rd_T49 l i).f0 (rd_T49 l i).f1 _ = _
    unfold label_Text6.f
    rw [if_pos ⟨by omega, by omega, hb0.1, hb0.2⟩]
  · rw [hrd]
    unfold label_Read6.f
    rw [if_pos hts, hrb]
    rfl
theorem then_w {w w1 w2 : World} (h : Below w.heap.size w w1) (k : Below w1.heap.size w1 w2) : Below w.heap.size w w2 := below_then h h.size k
set_option maxHeartbeats 1000000 in
set_option maxRecDepth 100000 in
theorem labelOf_hand (A0 : Option Addr) (c0 : Nat) (l0 : List S49) (W : World) (hgl : GL W) (hr0 : Kd.C k49 W A0 l0.length l0) (hc0 : l0.length ≤ c0) (hl : l0.length ≤ 140737488351232) (ho : ∀ i : Nat, i < l0.length → Ok49 (rd_T49 l0 i)) :
    Calls Tryd.prog 10 #[.slice A0 l0.length c0] W fun e w' => e = .returned (.bool true) ∧ Below W.heap.size W w' := by
  have HR0 := Aside0.mk hr0
  have HGL := Aside0.mk hgl
  have hroot : Ok49 ⟨⟨#[112]⟩, ⟨#[]⟩, ⟨#[]⟩, [], l0⟩ := Ok49.mk _ (show (1 : Nat) ≤ 140737488351232 by decide) (show (0 : Nat) ≤ 140737488351232 by decide) (show (0 : Nat) ≤ 140737488351232 by decide) (by simp) (fun i hi => by simp at hi) hl ho
  obtain ⟨b, hb, hb2⟩ := few_ev _ hroot
  obtain ⟨kf, hkf⟩ := hb.rounds
  have HKF := Aside0.mk hkf
  clear hr0 hgl hb hkf
  cases b with
  | false =>
    clear hb2 ho hroot
    go_enter Tryd.func10, Tryd.ntmps10
    go_wp2_with (first
      | (go_at_call 37; go_loud (refine (Go.Proofs.YtpanmmpkdbhofaaDoor.P12o.tendrilplain_Few.calls kf ⟨#[112]⟩ ⟨#[]⟩ ⟨#[]⟩ none 0 [] A0 c0 l0 400 false (W.alloc _) (HGL.out.below (below_alloc (Below.refl _ _) _)) (Kd.C_nil _ _) (Nat.le_refl _) (Kd.C_alloc HR0.out _) hc0 HKF.out).mono ?_); rintro e w1 ⟨rfl, hb1⟩; have HB1 := Aside0.mk (below_then (below_alloc (Below.refl W.heap.size W) _) (by simp) hb1); clear hb1)
      | (go_at_call 38; refine (tendrillaw12_same.calls true _ (HGL.out.below HB1.out) rfl).mono ?_; rintro e w2 ⟨rfl, hb2⟩; have HB2 := Aside0.mk (below_then HB1.out HB1.out.size hb2); clear hb2))
    go_ret
    exact ⟨rfl, HB2.out⟩
  | true =>
    have hn : l0.length ≤ 400 := hb2 rfl
    have HOF := Aside0.mk (show label_Of.f l0 = some (labsL l0 l0.length) by unfold label_Of.f; rw [if_pos ⟨by omega, tags_mk l0 ho⟩])
    obtain ⟨ko, hko⟩ := (of_ev l0 (by omega)).rounds
    obtain ⟨kl, hkl⟩ := (labels_ev (labsL l0 l0.length) (by rw [labsL_len]; omega)).rounds
    have HKO := Aside0.mk hko
    have HKL := Aside0.mk hkl
    have hll := labsL_len l0 l0.length
    have hit := items_ok 66 [] _ 1 (-1) hroot (fun y hy => by cases hy)
    obtain ⟨K, hK⟩ := known_ev ⟨⟨#[112]⟩, ⟨#[]⟩, ⟨#[]⟩, [], l0⟩ (fun i hi => by
      unfold rdIt
      rw [Int.toNat_natCast, List.getD_eq_getElem?_getD, List.getElem?_eq_getElem hi]
      exact hit _ (List.getElem_mem hi))
    have hri := right_iff (hK K (Nat.le_refl _))
    obtain ⟨c, hc⟩ : ∃ c, c = rightK K (itemsS ⟨⟨#[112]⟩, ⟨#[]⟩, ⟨#[]⟩, [], l0⟩) := ⟨_, rfl⟩
    have HKR := Aside0.mk (show tendrilref11_Right.f K ⟨#[112]⟩ ⟨#[]⟩ ⟨#[]⟩ [] l0 = some c by
      show rightS K _ = _
      unfold rightS
      rw [if_pos (hK K (Nat.le_refl _)), hc])
    rw [← hc] at hri
    have HRI := Aside0.mk hri
    have HOK := Aside0.mk ho
    have HN := Aside0.mk hll
    clear hb2 ho hroot hko hkl hit hK hri hc hll
    cases c with
    | false =>
      go_enter Tryd.func10, Tryd.ntmps10
      go_wp2_with (first
      | (go_at_call 37; go_loud (refine (Go.Proofs.YtpanmmpkdbhofaaDoor.P12o.tendrilplain_Few.calls kf ⟨#[112]⟩ ⟨#[]⟩ ⟨#[]⟩ none 0 [] A0 c0 l0 400 true (W.alloc _) (HGL.out.below (below_alloc (Below.refl _ _) _)) (Kd.C_nil _ _) (Nat.le_refl _) (Kd.C_alloc HR0.out _) hc0 HKF.out).mono ?_); rintro e w1 ⟨rfl, hb1⟩; have HB1 := Aside0.mk (below_then (below_alloc (Below.refl W.heap.size W) _) (by simp) hb1); have HX1 := Aside0.mk ((hb1.block W.heap.size (by simp)).trans (heap_alloc_new W _)); clear hb1)
      | (go_at_call 39; go_loud (refine (label_Of.calls A0 c0 l0 (labsL l0 l0.length) _ (HGL.out.below HB1.out) (Kd.C_below HR0.out HB1.out) hc0 HOF.out).mono ?_); rintro e w2 ⟨v, rfl, hR, hb⟩; have HL := Aside0.mk hR; have HB2 := Aside0.mk (below_then HB1.out HB1.out.size hb); have HX2 := Aside0.mk ((hb.block W.heap.size (blk_lt HX1.out)).trans HX1.out); obtain ⟨Av, cv, hv, hcv, hC⟩ := Kd.R_reads hR; rw [hv]; have HC2 := Aside0.mk hC; have HV := Aside0.mk hv; clear hR hb hv hC HB1 HX1)
      | (go_at_call 41; go_loud (refine (Go.Proofs.YtpanmmpkdbhofaaDoor.P12o.tendrilref12_Of.calls ko A0 c0 l0 (labsL l0 l0.length) _ (HGL.out.below HB2.out) (Kd.C_below HR0.out HB2.out) hc0 HKO.out).mono ?_); rintro e w3 ⟨v3, rfl, hR, hb⟩; have HB3 := Aside0.mk (below_then HB2.out HB2.out.size hb); have HX3 := Aside0.mk ((hb.block W.heap.size (blk_lt HX2.out)).trans HX2.out); have HC3 := Aside0.mk (Kd.C_below HC2.out hb); obtain ⟨A3, c3, hv3, hc3, hC3⟩ := Kd.R_reads hR; rw [hv3]; have HD3 := Aside0.mk hC3; clear hR hb hv3 hC3)
      | (go_at_call 40; go_loud (refine (Go.Proofs.YtpanmmpkdbhofaaDoor.P12o.tendrilplain_Labels.calls kl Av cv (labsL l0 l0.length) A3 c3 (labsL l0 l0.length) true _ (HGL.out.below HB3.out) HC3.out hcv HD3.out hc3 HKL.out).mono ?_); rintro e w4 ⟨rfl, hd⟩; have hb := hd.below; have HB4 := Aside0.mk (below_then HB3.out HB3.out.size hb); have HX4 := Aside0.mk ((hb.block W.heap.size (blk_lt HX3.out)).trans HX3.out); have HC4 := Aside0.mk (Kd.C_below HC3.out hb); have x0 := cell_blk (j := 0) HX4.out rfl; have x1 := cell_blk (j := 1) HX4.out rfl; have x2 := cell_blk (j := 2) HX4.out rfl; have x3 := cell_blk (j := 3) HX4.out rfl; have x4 := cell_blk (j := 4) HX4.out rfl; clear hb hd)
      | (go_at_call 42; go_loud (refine (tendrilref11_Right.calls K ⟨#[112]⟩ ⟨#[]⟩ ⟨#[]⟩ none 0 [] A0 c0 l0 false _ (HGL.out.below HB4.out) (Kd.C_nil _ _) (Nat.le_refl _) (Kd.C_below HR0.out HB4.out) hc0 HKR.out).mono ?_); rintro e w5 ⟨rfl, hb⟩; have HB5 := Aside0.mk (below_then HB4.out HB4.out.size hb); have HC5 := Aside0.mk (Kd.C_below HC4.out hb); clear hb x0 x1 x2 x3 x4)
      | (go_at_call 38; refine (tendrillaw12_same.calls true _ (HGL.out.below HB5.out) rfl).mono ?_; rintro e w9 ⟨rfl, hb⟩; have HB9 := Aside0.mk (below_then HB5.out HB5.out.size hb); clear hb))
      go_ret
      exact ⟨rfl, HB9.out⟩
    | true =>
      obtain ⟨g1, g2⟩ := good_kids _ (HRI.out.1 rfl)
      have HRF := Aside0.mk (round_facts l0 hn (fun i hi => alone_facts _ (HOK.out i hi) (g1 i hi)) g2)
      clear g1 g2
      go_enter Tryd.func10, Tryd.ntmps10
      go_wp2_with (first
      | (go_at_call 37; go_loud (refine (Go.Proofs.YtpanmmpkdbhofaaDoor.P12o.tendrilplain_Few.calls kf ⟨#[112]⟩ ⟨#[]⟩ ⟨#[]⟩ none 0 [] A0 c0 l0 400 true (W.alloc _) (HGL.out.below (below_alloc (Below.refl _ _) _)) (Kd.C_nil _ _) (Nat.le_refl _) (Kd.C_alloc HR0.out _) hc0 HKF.out).mono ?_); rintro e w1 ⟨rfl, hb1⟩; have HB1 := Aside0.mk (below_then (below_alloc (Below.refl W.heap.size W) _) (by simp) hb1); have HX1 := Aside0.mk ((hb1.block W.heap.size (by simp)).trans (heap_alloc_new W _)); clear hb1)
      | (go_at_call 39; go_loud (refine (label_Of.calls A0 c0 l0 (labsL l0 l0.length) _ (HGL.out.below HB1.out) (Kd.C_below HR0.out HB1.out) hc0 HOF.out).mono ?_); rintro e w2 ⟨v, rfl, hR, hb⟩; have HL := Aside0.mk hR; have HB2 := Aside0.mk (below_then HB1.out HB1.out.size hb); have HX2 := Aside0.mk ((hb.block W.heap.size (blk_lt HX1.out)).trans HX1.out); obtain ⟨Av, cv, hv, hcv, hC⟩ := Kd.R_reads hR; rw [hv]; have HC2 := Aside0.mk hC; have HV := Aside0.mk hv; clear hR hb hv hC HB1 HX1)
      | (go_at_call 41; go_loud (refine (Go.Proofs.YtpanmmpkdbhofaaDoor.P12o.tendrilref12_Of.calls ko A0 c0 l0 (labsL l0 l0.length) _ (HGL.out.below HB2.out) (Kd.C_below HR0.out HB2.out) hc0 HKO.out).mono ?_); rintro e w3 ⟨v3, rfl, hR, hb⟩; have HB3 := Aside0.mk (below_then HB2.out HB2.out.size hb); have HX3 := Aside0.mk ((hb.block W.heap.size (blk_lt HX2.out)).trans HX2.out); have HC3 := Aside0.mk (Kd.C_below HC2.out hb); obtain ⟨A3, c3, hv3, hc3, hC3⟩ := Kd.R_reads hR; rw [hv3]; have HD3 := Aside0.mk hC3; clear hR hb hv3 hC3)
      | (go_at_call 40; go_loud (refine (Go.Proofs.YtpanmmpkdbhofaaDoor.P12o.tendrilplain_Labels.calls kl Av cv (labsL l0 l0.length) A3 c3 (labsL l0 l0.length) true _ (HGL.out.below HB3.out) HC3.out hcv HD3.out hc3 HKL.out).mono ?_); rintro e w4 ⟨rfl, hd⟩; have hb := hd.below; have HB4 := Aside0.mk (below_then HB3.out HB3.out.size hb); have HX4 := Aside0.mk ((hb.block W.heap.size (blk_lt HX3.out)).trans HX3.out); have HC4 := Aside0.mk (Kd.C_below HC3.out hb); have x0 := cell_blk (j := 0) HX4.out rfl; have x1 := cell_blk (j := 1) HX4.out rfl; have x2 := cell_blk (j := 2) HX4.out rfl; have x3 := cell_blk (j := 3) HX4.out rfl; have x4 := cell_blk (j := 4) HX4.out rfl; clear hb hd)
      | (go_at_call 42; go_loud (refine (tendrilref11_Right.calls K ⟨#[112]⟩ ⟨#[]⟩ ⟨#[]⟩ none 0 [] A0 c0 l0 true _ (HGL.out.below HB4.out) (Kd.C_nil _ _) (Nat.le_refl _) (Kd.C_below HR0.out HB4.out) hc0 HKR.out).mono ?_); rintro e w5 ⟨rfl, hb⟩; have HB5 := Aside0.mk (below_then HB4.out HB4.out.size hb); have HC5 := Aside0.mk (Kd.C_below HC4.out hb); clear hb x0 x1 x2 x3 x4))
      go_loopw [27] (fun i wr => ∃ k : Nat, k ≤ l0.length ∧ i = .int .i64 k ∧ Below w5.heap.size w5 wr) (fun i _ => l0.length - (intOf i).toNat)
      case atStart => exact ⟨0, Nat.zero_le _, rfl, Below.refl _ _⟩
      case round =>
        obtain ⟨k, hk, rfl, hb⟩ := hrel
        have HBR := Aside0.mk (show Below W.heap.size W wr from below_then HB5.out HB5.out.size hb)
        have HCR := Aside0.mk (Kd.C_below HC5.out hb)
        have HB := Aside0.mk hb
        clear hb
        by_cases hlt : k < l0.length
        · obtain ⟨s, kq, r1, r2, r3⟩ := HRF.out k hlt
          have H1 := Aside0.mk r1
          have H2 := Aside0.mk r2
          have H3 := Aside0.mk r3
          obtain ⟨ad, hAv, e0, e1, e2⟩ := at_T56 HCR.out (k : Int) (by omega) (by rw [HN.out]; omega)
          subst hAv
          rw [Int.toNat_natCast] at e0 e1 e2
          have hb1 : (k : Int) < ((labsL l0 l0.length).length : Int) := by rw [HN.out]; omega
          have hb2 : (k : Int) < (l0.length : Int) := by omega
          obtain ⟨X, hX⟩ : ∃ X, X = rd_T56 (labsL l0 l0.length) (k : Int) := ⟨_, rfl⟩
          rw [← hX] at e0 e1 e2
          have H1 := Aside0.mk (show label_Text6.f X.f0 X.f1 X.f2 = some s by rw [hX]; exact H1.out)
          have H2 := Aside0.mk (show label_Read6.f s = some (X.f0, X.f1, X.f2, 0) by rw [hX]; exact H2.out)
          have H3 := Aside0.mk (show Go.Proofs.YtpanmmpkdbhofaaDoor.P12o.tendrilref12_Find.f kq (labsL l0 l0.length) X.f0 X.f1 X.f2 = some (k : Int) by rw [hX]; exact H3.out)
          clear hX r1 r2 r3
          go_wp2_with (first
            | (go_at_call 44; go_loud (refine (label_Text6.calls _ _ _ s _ (HGL.out.below HBR.out) H1.out).mono ?_); rintro e wt ⟨rfl, hbt⟩; have HBT := Aside0.mk (below_then HBR.out HBR.out.size hbt); have HBU := Aside0.mk (below_then HB.out HB.out.size hbt); have f0 := pw_cell_below hbt e0; have f1 := pw_cell_below hbt e1; have f2 := pw_cell_below hbt e2; clear hbt e0 e1 e2)
            | (go_at_call 43; go_loud (refine (label_Read6.calls s _ _ _ 0 _ (HGL.out.below HBT.out) H2.out).mono ?_); rintro e wz ⟨rfl, hbz⟩; have HBZ := Aside0.mk (below_then HBT.out HBT.out.size hbz); have HBV := Aside0.mk (below_then HBU.out HBU.out.size hbz); have q0 := pw_cell_below hbz f0; have q1 := pw_cell_below hbz f1; have q2 := pw_cell_below hbz f2; clear hbz f0 f1 f2))
          have hb0 : Below wz.heap.size wz (wz.alloc (.cells #[.string X.f0, .string X.f1, .int .i64 X.f2] 56)) := below_alloc (Below.refl _ _) _
          have g0 := pw_cell_below hb0 q0
          have g1 := pw_cell_below hb0 q1
          have g2 := pw_cell_below hb0 q2
          have hbb := heap_alloc_new wz (.cells #[.string X.f0, .string X.f1, .int .i64 X.f2] 56)
          have b0 := cell_blk (j := 0) hbb rfl
          have b1 := cell_blk (j := 1) hbb rfl
          have b2 := cell_blk (j := 2) hbb rfl
          clear hb0 q0 q1 q2 hbb
          go_region_held3 (fun w' => (w'.cell? (ad.add (k * 3)) = some (.string X.f0) ∧ w'.cell? ⟨(ad.add (k * 3)).block, (ad.add (k * 3)).off + 1, none⟩ = some (.string X.f1) ∧ w'.cell? ⟨(ad.add (k * 3)).block, (ad.add (k * 3)).off + 2, none⟩ = some (.int .i64 X.f2)) ∧ (w'.cell? ⟨wz.heap.size, 0, none⟩ = some (.string X.f0) ∧ w'.cell? ⟨wz.heap.size, 1, none⟩ = some (.string X.f1) ∧ w'.cell? ⟨wz.heap.size, 2, none⟩ = some (.int .i64 X.f2)) ∧ Below wz.heap.size wz w')
            (first
              | exact ⟨⟨g0, g1, g2⟩, ⟨b0, b1, b2⟩, below_drew (below_alloc (Below.refl _ _) _)⟩
              | (go_split_ands
                 exact ⟨⟨pw_cell_below hbf (by assumption), pw_cell_below hbf (by assumption), pw_cell_below hbf (by assumption)⟩, ⟨pw_cell_below hbf (by assumption), pw_cell_below hbf (by assumption), pw_cell_below hbf (by assumption)⟩, then_w (by assumption) hbf⟩)
              | go_keep)
            (first
              | (go_at_call 45
                 refine (Go.Proofs.YtpanmmpkdbhofaaDoor.P12o.tendrilref12_Find.calls kq (some ad) cv (labsL l0 l0.length) _ _ _ (k : Int) _ ?hg ?hc hcv H3.out).mono ?_
                 case hg => exact HGL.out.below (then_w HBZ.out (by first | assumption | (go_split_ands; assumption)))
                 case hc => exact Kd.C_below HC5.out (then_w HBV.out (by first | assumption | (go_split_ands; assumption)))
                 rintro e wf ⟨rfl, hbf⟩))
          go_split_ands
          have HBF := Aside0.mk (then_w HBV.out (show Below wz.heap.size wz wf by assumption))
          clear g0 g1 g2 b0 b1 b2
          go_wp2_with fail
          go_roundw
          case rel => exact ⟨k + 1, by omega, by go_num, HBF.out⟩
          case measure => simp [intOf]; omega
        · obtain rfl : k = l0.length := by omega
          have hz : (l0.length : Int) = ((labsL l0 l0.length).length : Int) := by rw [HN.out]
          rw [hz]
          clear hz
          go_wp2_with (go_at_call 38; refine (tendrillaw12_same.calls true _ (HGL.out.below HBR.out) rfl).mono ?_; rintro e w9 ⟨rfl, hb⟩; have HB9 := Aside0.mk (below_then HBR.out HBR.out.size hb); clear hb)
          go_ret
          exact ⟨rfl, HB9.out⟩
theorem labelOf_h (A0 : Option Addr) (n0 c0 : Nat) (l0 : List S49) (W : World) (hgl : GL W)
    (h0 : n0 = l0.length ∧ n0 ≤ c0 ∧ Kd.C k49 W A0 l0.length l0 ∧ l0.length ≤ 140737488351232 ∧ ∀ i : Nat, i < l0.length → Ok49 (rd_T49 l0 i)) :
    Calls Tryd.prog 10 #[.slice A0 n0 c0] W fun e w' => e = .returned (.bool true) ∧ Below W.heap.size W w' := by
  obtain ⟨rfl, a2, a3, a4, a5⟩ := h0
  exact labelOf_hand A0 c0 l0 W hgl a3 a2 a4 a5
end Go.Proofs.YtpanmmpkdbhofaaDoor.L12

namespace Go.Proofs.YtpanmmpkdbhofaaDoor.labelOf
open Go.ChangeShapes Go.WideShapes Go.ChangeAt Go.RowKit
open Go.ChangeMaps (open_string shut_string)
set_option linter.unusedVariables false
theorem own : ownKnob Tryd.prog.godebug = none := by kernel_rfl
theorem door_met (os : Os) (args : Array Value) : laidMetH Tryd.prog Rows.labelOfRow.laid ((World.doorLaid Tryd.prog 62 os).forCall (fun _ _ => 0) ⟨#[], args, []⟩).memory :=
  laidMetH_of_parts3 (fuel := 8) (laidMet_of_run' 8 (by kernel_rfl) (by kernel_rfl)) (by kernel_rfl) (by kernel_rfl)
theorem gl {W : World} (h : laidMetH Tryd.prog Rows.labelOfRow.laid W) : Go.Proofs.YtpanmmpkdbhofaaDoorX.GL W := by
  rw [MakeChecks.laidMetH_plain _ _ _ (by kernel_rfl)] at h
  exact Go.Proofs.YtpanmmpkdbhofaaDoorX.gl_of h
theorem laidOut : laidOutB Tryd.prog = true := by kernel_rfl
set_option maxRecDepth 100000 in
theorem lifted (os : Os) (started : os.Started) (H : Type) (enc : TypeId × Value → H) :
    ReturnsInHanded {} Tryd.checked os 10 .any (fun w args => (Rows.labelOfSpec.pre enc Tryd.prog Tryd.f10 [] false w args ∧ laidMetH Tryd.prog Rows.labelOfRow.laid w) ∧ sizedMet enc Tryd.prog Tryd.f10 (OpenSpec.ofChange Rows.labelOfSpec) false w args) (Rows.labelOfSpec.post enc Tryd.prog Tryd.f10 false true false false) := by
  refine returnsInHanded_of_change_and (C := Tryd.checked) (X := fun w _ => laidMetH Tryd.prog Rows.labelOfRow.laid w) (fun _ _ _ hh h => h.of_heap hh) own started (by kernel_rfl) Tryd.func10
    (ChangeSpec.witness_shaped (enc := enc) (C := Tryd.checked) (os := os) (X := fun w _ => laidMetH Tryd.prog Rows.labelOfRow.laid w) false (World.doorLaid Tryd.prog 62 os) #[.slice none 0 0] 8 rfl (World.shaped_of_RefB (by kernel_rfl) (by kernel_rfl)) (by kernel_rfl) (by kernel_rfl) (by kernel_rfl) (door_met os _)) ?_
  intro W base args ds gs before hval0 hW _ hsz0 hL _
  have hgl := gl hL
  have hsz : (DataW.weightsEach Tryd.prog (Tryd.f10.params.toList ++ Rows.labelOfSpec.plain.varTypes Tryd.prog) (ds ++ gs)).all (· ≤ reachBytes) = true := hsz0
  have hval : ∀ (j : Nat) t v, Tryd.f10.params[j]? = some t → args[j]? = some v → Value.okWide Tryd.prog W .any base t v := hval0
  have hW' := hW
  obtain ⟨p, q, hA0, hV, rfl, hfz, hnd⟩ := hW
  have hA : DataW.TrodAll enc Tryd.prog W 0 (fun _ => true) true Tryd.f10.params.toList args.toList ds p := hA0
  rw [Tryd.params10] at hA hval hsz
  obtain ⟨v0, vs0, d0, ds0, p0, q0, hargs, rfl, rfl, h0, r0⟩ := trodAll_cons hA
  obtain ⟨rfl, rfl, rfl⟩ := trodAll_nil r0
  obtain rfl : args = #[v0] := by cases args; simp_all
  obtain ⟨rfl, rfl⟩ := trodVars_none hV
  have k0 := h0
  have lt0 : ∀ x ∈ p0, x.block < W.heap.size := by obtain ⟨m, hm⟩ := k0; exact DataW.trod_lt m _ _ _ hm
  obtain ⟨a0, len0, cap0, rfl⟩ := okWide_slice Tryd.underlying46 (hval 0 46 v0 rfl rfl)
  obtain ⟨b0, w0⟩ := (by
    obtain ⟨fuel, hf⟩ := h0
    exact Go.Proofs.YtpanmmpkdbhofaaDoorE.openNod hf (fun n hn => of_decide_eq_true (List.all_eq_true.1 hsz n (DataW.weights_mem_each (j := 0) (t := 46) rfl rfl n hn))) : Go.Proofs.YtpanmmpkdbhofaaDoorE.openNodT W a0 len0 cap0)
  clear hA0 hval0 hsz0 hsz hL
  refine (Go.Proofs.YtpanmmpkdbhofaaDoor.L12.labelOf_h a0 len0 cap0 b0 W hgl w0).mono fun e W' ⟨he, bel⟩ => ?_
  subst he
  exact ⟨_, rfl, _, _, _, [], _, [], hW', trodAll_mk1 (shut_bool Tryd.underlying4 _), (trodAll_cons_mk (Below.trod laidOut (by kernel_rfl) (of_decide_eq_true (by kernel_rfl)) k0 bel lt0) trodAll_mk0), rfl, bel.frame _, fun h => by cases h⟩
theorem over : Rows.labelOfRow.holds Tryd.pinned (OpenSpec.ofChange Rows.labelOfSpec) :=
  OpenClaim.holds_of_wide 10 Tryd.f10 rfl rfl rfl rfl rfl rfl rfl ⟨rfl, rfl, rfl, rfl, rfl⟩ rfl rfl rfl rfl rfl (by kernel_rfl) Tryd.func10 (by kernel_rfl)
    (of_decide_eq_true (by kernel_rfl)) (by unfold Func.isWrapper; first | (rw [if_pos (by decide +kernel)]; kernel_rfl) | (rw [if_neg (by decide +kernel)]; exact ⟨rfl, rfl⟩))
    (fun os started H enc _ => lifted os started H enc)
theorem wants : ∀ (j : Nat) (t : TypeId), Tryd.f10.params[j]? = some t → Tryd.prog.wantsStandIn t = false := by
  intro j t ht
  rw [Tryd.params10] at ht
  rcases j with _ | j
  · have h3 : t = 46 := by simpa using ht.symm
    subst h3
    exact (show Tryd.prog.wantsStandIn 46 = false by kernel_rfl)
  simp at ht
theorem proved : Rows.LabelOfCardSaid :=
  Claim7.holds_tied_plain_at .later [] [.data, .data, .data, .sentinel, .sentinel] true (true, "f34a13f7a2e572fe92dfbbe1cc8ea8881f651b4747b1b2d7c1466721f57ac486") true
    over (fun _ h => by cases h) (by kernel_rfl) (fun _ h => by cases h) labelOf_row_tie rfl ⟨rfl, rfl⟩ (by kernel_rfl) rfl
    (fun f fn hf hfn => by
      obtain rfl : f = 10 := Option.some.inj ((show Tryd.prog.funcNamed "tendril/tendrillaw12.LabelOf" = some 10 by kernel_rfl).symm.trans hf) |>.symm
      obtain rfl : fn = Tryd.f10 := (Option.some.inj (Tryd.func10.symm.trans hfn)).symm
      exact ⟨by kernel_rfl, wants⟩)
    (by kernel_rfl)
end Go.Proofs.YtpanmmpkdbhofaaDoor.labelOf
namespace Go.Proofs.YtpanmmpkdbhofaaDoor
/-- The card, under a short name, for the claim. -/
theorem labelOf_holds : Rows.LabelOfCardSaid := labelOf.proved
end Go.Proofs.YtpanmmpkdbhofaaDoor
