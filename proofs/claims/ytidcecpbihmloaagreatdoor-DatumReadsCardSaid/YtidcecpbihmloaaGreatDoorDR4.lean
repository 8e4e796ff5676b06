/- Merged by this claim's own program (merge.py) out of the texts X16x14, K02, K02b, K02e, K03, K04, D00, D01, D02, D03, D04, D05, ED1, ED2, D06, D07, EDH3, ED3, ED4, ED5, EDR1, ED6, ED7, ED8, K06, EDS1, EDS0, K05, EDS2, EDS3, EDR2, EDW1; the W texts among them began as the kit's print. -/
import Derived.Test.YtidcecpbihmloaaGreatDoorDR3
import Derived.Lib.ItoaLen
import Derived.Deep.QuietTactic
import Derived.BigQuiet
import Derived.Deep.RegionHeld3

namespace Go.Proofs.YtidcecpbihmloaaGreatDoor.P16
open Go.RowKit Go.Proofs.YtidcecpbihmloaaGreatDoorE Go.Proofs.YtidcecpbihmloaaGreatDoorW.PrintWords Go.Proofs.YtidcecpbihmloaaGreatDoorW.PrintLast Go.Proofs.YtidcecpbihmloaaGreatDoorW.PrintMore
attribute [local go_sem] max2_int min2_int max_two min_two max_three min_three max_four min_four   -- for this text's walks alone
set_option linter.unusedVariables false
set_option linter.unusedSimpArgs false

mutual
def tendrilref02_Whole.j0 : Nat → ByteArray → ByteArray → Bool → Option (Int × Bool)
 | 0, _, _, _ => none
 | k + 1, x0, x4, x5 => if x5 = true then (if 1 ≤ (x0.size : Int) then (tendrilref02_Whole.j1 k x0 (x0.extract 1 x0.size) x5) else (none)) else (tendrilref02_Whole.j1 k x0 x4 x5)
def tendrilref02_Whole.j1 : Nat → ByteArray → ByteArray → Bool → Option (Int × Bool)
 | 0, _, _, _ => none
 | k + 1, x0, x4, x5 => if (x4.size : Int) < 1 then (tendrilref02_Whole.j2 k x0 x4 x5 true) else (tendrilref02_Whole.j2 k x0 x4 x5 (decide ((x4.size : Int) > 19)))
def tendrilref02_Whole.j2 : Nat → ByteArray → ByteArray → Bool → Bool → Option (Int × Bool)
 | 0, _, _, _, _ => none
 | k + 1, x0, x4, x5, x28 => if x28 = true then (some (0, false)) else (tendrilref02_Whole.l0 k x0 x4 x5 0 (x4.size : Int) 0)
def tendrilref02_Whole.l0 : Nat → ByteArray → ByteArray → Bool → Int → Int → Int → Option (Int × Bool)
 | 0, _, _, _, _, _, _ => none
 | k + 1, x0, x4, x5, x6, x30, x31 => if x31 < x30 then (if 0 ≤ x31 then (if x31 < (x4.size : Int) then (if (bt x4 x31) < 48 then (tendrilref02_Whole.j4 k x0 x4 x5 x6 x31 x30 x31 true) else (tendrilref02_Whole.j4 k x0 x4 x5 x6 x31 x30 x31 (decide ((bt x4 x31) > 57)))) else (none)) else (none)) else (if x5 = true then (tendrilref02_Whole.j5 k x0 x5 x6 false) else (tendrilref02_Whole.j5 k x0 x5 x6 (x6 == (-9223372036854775808))))
def tendrilref02_Whole.j4 : Nat → ByteArray → ByteArray → Bool → Int → Int → Int → Int → Bool → Option (Int × Bool)
 | 0, _, _, _, _, _, _, _, _ => none
 | k + 1, x0, x4, x5, x6, x7, x30, x31, x43 => if x43 = true then (some (0, false)) else (if 0 ≤ x7 then (if x7 < (x4.size : Int) then (if x6 < (-922337203685477580) then (some (0, false)) else (if x6 = (-922337203685477580) then (if (wrap64 ((wrap64 (bt x4 x7)) - 48)) > 8 then (some (0, false)) else (tendrilref02_Whole.l0 k x0 x4 x5 (wrap64 ((wrap64 (10 * x6)) - (wrap64 ((wrap64 (bt x4 x7)) - 48)))) x30 (wrap64 (x31 + 1)))) else (tendrilref02_Whole.l0 k x0 x4 x5 (wrap64 ((wrap64 (10 * x6)) - (wrap64 ((wrap64 (bt x4 x7)) - 48)))) x30 (wrap64 (x31 + 1))))) else (none)) else (none))
def tendrilref02_Whole.j5 : Nat → ByteArray → Bool → Int → Bool → Option (Int × Bool)
 | 0, _, _, _, _ => none
 | k + 1, x0, x5, x6, x69 => if x69 = true then (some (0, false)) else (if x5 = true then ((tendrilref02_Decimal.f k x6).bind fun t221 => (if t221.toList = x0.toList then (some (x6, true)) else (some (0, false)))) else ((tendrilref02_Decimal.f k (wrap64 (-x6))).bind fun t222 => (if t222.toList = x0.toList then (some (wrap64 (-x6), true)) else (some (0, false)))))
end
def tendrilref02_Whole.f (k : Nat) (a0 : ByteArray) : Option (Int × Bool) := if (a0.size : Int) > 1 then (if 0 < (a0.size : Int) then (tendrilref02_Whole.j0 k a0 a0 ((bt a0 0) == 45)) else (none)) else (tendrilref02_Whole.j0 k a0 a0 false)
theorem tendrilref02_Whole.mono_l : ∀ k, (∀ y0 y1 y2, LeO (tendrilref02_Whole.j0 k y0 y1 y2) (tendrilref02_Whole.j0 (k + 1) y0 y1 y2)) ∧ (∀ y0 y1 y2, LeO (tendrilref02_Whole.j1 k y0 y1 y2) (tendrilref02_Whole.j1 (k + 1) y0 y1 y2)) ∧ (∀ y0 y1 y2 y3, LeO (tendrilref02_Whole.j2 k y0 y1 y2 y3) (tendrilref02_Whole.j2 (k + 1) y0 y1 y2 y3)) ∧ (∀ y0 y1 y2 y3 y4 y5, LeO (tendrilref02_Whole.l0 k y0 y1 y2 y3 y4 y5) (tendrilref02_Whole.l0 (k + 1) y0 y1 y2 y3 y4 y5)) ∧ (∀ y0 y1 y2 y3 y4 y5 y6 y7, LeO (tendrilref02_Whole.j4 k y0 y1 y2 y3 y4 y5 y6 y7) (tendrilref02_Whole.j4 (k + 1) y0 y1 y2 y3 y4 y5 y6 y7)) ∧ (∀ y0 y1 y2 y3, LeO (tendrilref02_Whole.j5 k y0 y1 y2 y3) (tendrilref02_Whole.j5 (k + 1) y0 y1 y2 y3))
 | 0 => ⟨fun _ _ _ r h => by simp [tendrilref02_Whole.j0] at h, fun _ _ _ r h => by simp [tendrilref02_Whole.j1] at h, fun _ _ _ _ r h => by simp [tendrilref02_Whole.j2] at h, fun _ _ _ _ _ _ r h => by simp [tendrilref02_Whole.l0] at h, fun _ _ _ _ _ _ _ _ r h => by simp [tendrilref02_Whole.j4] at h, fun _ _ _ _ r h => by simp [tendrilref02_Whole.j5] at h⟩
 | k + 1 => by
  obtain ⟨ih0, ih1, ih2, ih3, ih4, ih5⟩ := tendrilref02_Whole.mono_l k
  refine ⟨?_, ?_, ?_, ?_, ?_, ?_⟩
  ·intro y0 y1 y2
   unfold tendrilref02_Whole.j0
   repeat' first
   |(with_reducible exact ih0 _ _ _)
   |(with_reducible exact ih1 _ _ _)
   |(with_reducible exact ih2 _ _ _ _)
   |(with_reducible exact ih3 _ _ _ _ _ _)
   |(with_reducible exact ih4 _ _ _ _ _ _ _ _)
   |(with_reducible exact ih5 _ _ _ _)
   |(with_reducible exact tendrilref02_Decimal.mono _ _)
   |(with_reducible exact LeO.refl _)
   |(with_reducible exact LeO.none _)
   |(with_reducible refine LeO.ite ?_ ?_)
   | (with_reducible refine LeO.bind ?_ (fun _ => ?_))
   | exact ih0 _ _ _
   | exact ih1 _ _ _
   | exact ih2 _ _ _ _
   | exact ih3 _ _ _ _ _ _
   | exact ih4 _ _ _ _ _ _ _ _
   | exact ih5 _ _ _ _
   | exact tendrilref02_Decimal.mono _ _
   | exact LeO.none _
   | refine LeO.ite ?_ ?_
   | refine LeO.bind ?_ (fun _ => ?_)
  ·intro y0 y1 y2
   unfold tendrilref02_Whole.j1
   repeat' first
   |(with_reducible exact ih0 _ _ _)
   |(with_reducible exact ih1 _ _ _)
   |(with_reducible exact ih2 _ _ _ _)
   |(with_reducible exact ih3 _ _ _ _ _ _)
   |(with_reducible exact ih4 _ _ _ _ _ _ _ _)
   |(with_reducible exact ih5 _ _ _ _)
   |(with_reducible exact tendrilref02_Decimal.mono _ _)
   |(with_reducible exact LeO.refl _)
   |(with_reducible exact LeO.none _)
   |(with_reducible refine LeO.ite ?_ ?_)
   | (with_reducible refine LeO.bind ?_ (fun _ => ?_))
   | exact ih0 _ _ _
   | exact ih1 _ _ _
   | exact ih2 _ _ _ _
   | exact ih3 _ _ _ _ _ _
   | exact ih4 _ _ _ _ _ _ _ _
   | exact ih5 _ _ _ _
   | exact tendrilref02_Decimal.mono _ _
   | exact LeO.none _
   | refine LeO.ite ?_ ?_
   | refine LeO.bind ?_ (fun _ => ?_)
  ·intro y0 y1 y2 y3
   unfold tendrilref02_Whole.j2
   repeat' first
   |(with_reducible exact ih0 _ _ _)
   |(with_reducible exact ih1 _ _ _)
   |(with_reducible exact ih2 _ _ _ _)
   |(with_reducible exact ih3 _ _ _ _ _ _)
   |(with_reducible exact ih4 _ _ _ _ _ _ _ _)
   |(with_reducible exact ih5 _ _ _ _)
   |(with_reducible exact tendrilref02_Decimal.mono _ _)
   |(with_reducible exact LeO.refl _)
   |(with_reducible exact LeO.none _)
   |(with_reducible refine LeO.ite ?_ ?_)
   | (with_reducible refine LeO.bind ?_ (fun _ => ?_))
   | exact ih0 _ _ _
   | exact ih1 _ _ _
   | exact ih2 _ _ _ _
   | exact ih3 _ _ _ _ _ _
   | exact ih4 _ _ _ _ _ _ _ _
   | exact ih5 _ _ _ _
   | exact tendrilref02_Decimal.mono _ _
   | exact LeO.none _
   | refine LeO.ite ?_ ?_
   | refine LeO.bind ?_ (fun _ => ?_)
  ·intro y0 y1 y2 y3 y4 y5
   unfold tendrilref02_Whole.l0
   repeat' first
   |(with_reducible exact ih0 _ _ _)
   |(with_reducible exact ih1 _ _ _)
   |(with_reducible exact ih2 _ _ _ _)
   |(with_reducible exact ih3 _ _ _ _ _ _)
   |(with_reducible exact ih4 _ _ _ _ _ _ _ _)
   |(with_reducible exact ih5 _ _ _ _)
   |(with_reducible exact tendrilref02_Decimal.mono _ _)
   |(with_reducible exact LeO.refl _)
   |(with_reducible exact LeO.none _)
   |(with_reducible refine LeO.ite ?_ ?_)
   | (with_reducible refine LeO.bind ?_ (fun _ => ?_))
   | exact ih0 _ _ _
   | exact ih1 _ _ _
   | exact ih2 _ _ _ _
   | exact ih3 _ _ _ _ _ _
   | exact ih4 _ _ _ _ _ _ _ _
   | exact ih5 _ _ _ _
   | exact tendrilref02_Decimal.mono _ _
   | exact LeO.none _
   | refine LeO.ite ?_ ?_
   | refine LeO.bind ?_ (fun _ => ?_)
  ·intro y0 y1 y2 y3 y4 y5 y6 y7
   unfold tendrilref02_Whole.j4
   repeat' first
   |(with_reducible exact ih0 _ _ _)
   |(with_reducible exact ih1 _ _ _)
   |(with_reducible exact ih2 _ _ _ _)
   |(with_reducible exact ih3 _ _ _ _ _ _)
   |(with_reducible exact ih4 _ _ _ _ _ _ _ _)
   |(with_reducible exact ih5 _ _ _ _)
   |(with_reducible exact tendrilref02_Decimal.mono _ _)
   |(with_reducible exact LeO.refl _)
   |(with_reducible exact LeO.none _)
   |(with_reducible refine LeO.ite ?_ ?_)
   | (with_reducible refine LeO.bind ?_ (fun _ => ?_))
   | exact ih0 _ _ _
   | exact ih1 _ _ _
   | exact ih2 _ _ _ _
   | exact ih3 _ _ _ _ _ _
   | exact ih4 _ _ _ _ _ _ _ _
   | exact ih5 _ _ _ _
   | exact tendrilref02_Decimal.mono _ _
   | exact LeO.none _
   | refine LeO.ite ?_ ?_
   | refine LeO.bind ?_ (fun _ => ?_)
  ·intro y0 y1 y2 y3
   unfold tendrilref02_Whole.j5
   repeat' first
   |(with_reducible exact ih0 _ _ _)
   |(with_reducible exact ih1 _ _ _)
   |(with_reducible exact ih2 _ _ _ _)
   |(with_reducible exact ih3 _ _ _ _ _ _)
   |(with_reducible exact ih4 _ _ _ _ _ _ _ _)
   |(with_reducible exact ih5 _ _ _ _)
   |(with_reducible exact tendrilref02_Decimal.mono _ _)
   |(with_reducible exact LeO.refl _)
   |(with_reducible exact LeO.none _)
   |(with_reducible refine LeO.ite ?_ ?_)
   | (with_reducible refine LeO.bind ?_ (fun _ => ?_))
   | exact ih0 _ _ _
   | exact ih1 _ _ _
   | exact ih2 _ _ _ _
   | exact ih3 _ _ _ _ _ _
   | exact ih4 _ _ _ _ _ _ _ _
   | exact ih5 _ _ _ _
   | exact tendrilref02_Decimal.mono _ _
   | exact LeO.none _
   | refine LeO.ite ?_ ?_
   | refine LeO.bind ?_ (fun _ => ?_)
theorem tendrilref02_Whole.mono : ∀ a0 k, LeO (tendrilref02_Whole.f k a0) (tendrilref02_Whole.f (k + 1) a0) := by
 intro a0 k
 obtain ⟨ih0, ih1, ih2, ih3, ih4, ih5⟩ := tendrilref02_Whole.mono_l k
 unfold tendrilref02_Whole.f
 repeat' first
   |(with_reducible exact ih0 _ _ _)
   |(with_reducible exact ih1 _ _ _)
   |(with_reducible exact ih2 _ _ _ _)
   |(with_reducible exact ih3 _ _ _ _ _ _)
   |(with_reducible exact ih4 _ _ _ _ _ _ _ _)
   |(with_reducible exact ih5 _ _ _ _)
   |(with_reducible exact tendrilref02_Decimal.mono _ _)
   |(with_reducible exact LeO.refl _)
   |(with_reducible exact LeO.none _)
   |(with_reducible refine LeO.ite ?_ ?_)
   | (with_reducible refine LeO.bind ?_ (fun _ => ?_))
   | exact ih0 _ _ _
   | exact ih1 _ _ _
   | exact ih2 _ _ _ _
   | exact ih3 _ _ _ _ _ _
   | exact ih4 _ _ _ _ _ _ _ _
   | exact ih5 _ _ _ _
   | exact tendrilref02_Decimal.mono _ _
   | exact LeO.none _
   | refine LeO.ite ?_ ?_
   | refine LeO.bind ?_ (fun _ => ?_)
set_option maxHeartbeats 8000000 in
set_option maxRecDepth 100000 in
theorem tendrilref02_Whole.calls (k : Nat) (a0 : ByteArray) (r1 : Int) (r2 : Bool) (w : World) (hgl : Go.Proofs.YtidcecpbihmloaaGreatDoorX.GL w) (h : tendrilref02_Whole.f k a0 = some (r1, r2)) :
  Calls Tryz.prog 60 #[.string a0] w fun e w' => e = .returned (.tuple #[.int .i64 r1, .bool r2]) ∧ Below w.heap.size w w' := by
 have HGL := Aside0.mk hgl
 clear hgl
 have HB := Aside0.mk (Below.refl w.heap.size w)
 have H : (if (a0.size : Int) > 1 then (if 0 < (a0.size : Int) then (tendrilref02_Whole.j0 k a0 a0 ((bt a0 0) == 45)) else (none)) else (tendrilref02_Whole.j0 k a0 a0 false)) = some (r1, r2) := h
 clear h
 have HC2 := Aside0.mk H
 clear H
 go_enter Tryz.func60, Tryz.ntmps60
 go_upto_region 2 with (fail)
 go_cut [5] (fun v5 wc => ∃ (kq : Nat) (x5_1 : Bool), v5 = .bool x5_1 ∧ Aside0 (tendrilref02_Whole.j0 kq a0 a0 x5_1 = some (r1, r2)) ∧ Aside0 (kq ≤ k) ∧ Aside0 (Below w.heap.size w wc))
 case first =>
  have H := HC2.out
  clear HC2
  by_cases c3 : (a0.size : Int) > 1
  ·rw [if_pos c3] at H
   have c3b0 : decide (1 < (a0.size : Int)) = true := decide_eq_true c3
   have c3b1 : decide (1 < a0.size) = true := decide_eq_true (by omega)
   clear c3
   (first | rw [c3b0] | (simp only [i64_w, i32_w]; rw [c3b0]) | skip)
   by_cases c4 : 0 < (a0.size : Int)
   ·rw [if_pos c4] at H
    have c4b0 : decide (0 < (a0.size : Int)) = true := decide_eq_true c4
    have c4b1 : decide (0 < a0.size) = true := decide_eq_true (by omega)
    clear c4
    have H' := Aside0.mk H
    clear H
    have p5 : 0 ≤ (0 : Int) := (by omega)
    have q5 : 0 < a0.size := (by have : (0 : Int) < (a0.size : Int) := of_decide_eq_true (by first | (with_reducible assumption) | assumption); omega)
    have hx5 : ∀ h : 0 < a0.size, ((a0[0]'h).toNat : Int) = bt a0 0 := bt_at a0 0
    clear p5
    have qi5 : (0 < (a0.size : Int)) = True := eq_true (of_decide_eq_true (by first | (with_reducible assumption) | assumption))
    replace q5 := eq_true q5
    go_wp2
    go_meet
    case rel => exact ⟨_, (((bt a0 0) == 45)), (by first | rfl | (simp; done) | (simp [*]; done)), H', ⟨by first | omega | exact Nat.le_refl _⟩, ⟨by repeat (first | (with_reducible first | exact HB.out | apply below_alloc | apply pw_below_drewN | apply below_drew1) | exact HB.out)⟩⟩
   ·rw [if_neg c4] at H
    exact absurd H (by simp)
  ·rw [if_neg c3] at H
   have c3b0 : decide (1 < (a0.size : Int)) = false := decide_eq_false c3
   have c3b1 : decide (1 < a0.size) = false := decide_eq_false (by omega)
   clear c3
   (first | rw [c3b0] | (simp only [i64_w, i32_w]; rw [c3b0]) | skip)
   have H' := Aside0.mk H
   clear H
   go_wp2
   go_meet
   case rel => exact ⟨_, (false), (by first | rfl | (simp; done) | (simp [*]; done)), H', ⟨by first | omega | exact Nat.le_refl _⟩, ⟨by repeat (first | (with_reducible first | exact HB.out | apply below_alloc | apply pw_below_drewN | apply below_drew1) | exact HB.out)⟩⟩
 case rest =>
  clear HC2
  try clear p2
  try clear c3
  try clear c3b0
  try clear c3b1
  try clear c4
  try clear c4b0
  try clear c4b1
  try clear p5
  try clear q5
  try clear hx5
  try clear qi5
  try clear p5
  try clear q5
  obtain ⟨kq, x5_1, rfl, HA, HJ1, HB⟩ := hcut
  cases kq with
  | zero => exact absurd HA.out (by simp [tendrilref02_Whole.j0])
  | succ kj1 =>
   have H := HA.out
   clear HA
   simp only [tendrilref02_Whole.j0] at H
   have HC6 := Aside0.mk H
   clear H
   go_upto_if 18 with (fail)
   go_cut [4] (fun v4 wc => ∃ (kq : Nat) (x4_5 : ByteArray), v4 = .string x4_5 ∧ Aside0 (tendrilref02_Whole.j1 kq a0 x4_5 x5_1 = some (r1, r2)) ∧ Aside0 (kq ≤ kj1) ∧ Aside0 (Below w.heap.size w wc))
   case first =>
    have H := HC6.out
    clear HC6
    by_cases c7 : x5_1 = true
    ·subst c7
     have H1 : (if 1 ≤ (a0.size : Int) then (tendrilref02_Whole.j1 kj1 a0 (a0.extract 1 a0.size) true) else (none)) = some (r1, r2) := by rw [if_pos rfl] at H; exact H
     clear H
     have H := H1
     clear H1
     by_cases c8 : 1 ≤ (a0.size : Int)
     ·rw [if_pos c8] at H
      have c8b0 := eq_true c8
      have c8b1 : decide (1 ≤ (a0.size : Int)) = true := decide_eq_true c8
      clear c8
      have H' := Aside0.mk H
      clear H
      go_wp2
      go_meet
      case rel => exact ⟨_, (a0.extract 1 a0.size), (by first | rfl | (simp; done) | (simp [*]; done)), H', ⟨by have := HJ1.out; first | omega | exact Nat.le_refl _⟩, ⟨by repeat (first | (with_reducible first | exact HB.out | apply below_alloc | apply pw_below_drewN | apply below_drew1) | exact HB.out)⟩⟩
     ·rw [if_neg c8] at H
      exact absurd H (by simp)
    ·replace c7 := Bool.eq_false_iff.mpr c7
     subst c7
     have H1 : (tendrilref02_Whole.j1 kj1 a0 a0 false) = some (r1, r2) := by rw [if_neg (show ¬ (false = true) by decide)] at H; exact H
     clear H
     have H := H1
     clear H1
     have H' := Aside0.mk H
     clear H
     go_wp2
     go_meet
     case rel => exact ⟨_, (a0), (by first | rfl | (simp; done) | (simp [*]; done)), H', ⟨by have := HJ1.out; first | omega | exact Nat.le_refl _⟩, ⟨by repeat (first | (with_reducible first | exact HB.out | apply below_alloc | apply pw_below_drewN | apply below_drew1) | exact HB.out)⟩⟩
   case rest =>
    clear HC6
    try clear p2
    try clear c3
    try clear c3b0
    try clear c3b1
    try clear c4
    try clear c4b0
    try clear c4b1
    try clear p5
    try clear q5
    try clear hx5
    try clear qi5
    try clear c6
    try clear c7
    try clear c8
    try clear c8b0
    try clear c8b1
    try clear p2
    try clear p5
    try clear q5
    obtain ⟨kq, x4_5, rfl, HA, HJ5, HB⟩ := hcut
    cases kq with
    | zero => exact absurd HA.out (by simp [tendrilref02_Whole.j1])
    | succ kj5 =>
     have H := HA.out
     clear HA
     simp only [tendrilref02_Whole.j1] at H
     have HC9 := Aside0.mk H
     clear H
     go_upto_region 5 with (fail)
     go_cut [28] (fun v28 wc => ∃ (kq : Nat) (x28_8 : Bool), v28 = .bool x28_8 ∧ Aside0 (tendrilref02_Whole.j2 kq a0 x4_5 x5_1 x28_8 = some (r1, r2)) ∧ Aside0 (kq ≤ kj5) ∧ Aside0 (Below w.heap.size w wc))
     case first =>
      have H := HC9.out
      clear HC9
      by_cases c10 : (x4_5.size : Int) < 1
      ·rw [if_pos c10] at H
       have c10b0 : decide ((x4_5.size : Int) < 1) = true := decide_eq_true c10
       have c10b1 : decide (x4_5.size < 1) = true := decide_eq_true (by omega)
       clear c10
       (first | rw [c10b0] | (simp only [i64_w, i32_w]; rw [c10b0]) | skip)
       have H' := Aside0.mk H
       clear H
       go_wp2
       go_meet
       case rel => exact ⟨_, (true), (by first | rfl | (simp; done) | (simp [*]; done)), H', ⟨by have := HJ1.out; have := HJ5.out; first | omega | exact Nat.le_refl _⟩, ⟨by repeat (first | (with_reducible first | exact HB.out | apply below_alloc | apply pw_below_drewN | apply below_drew1) | exact HB.out)⟩⟩
      ·rw [if_neg c10] at H
       have c10b0 : decide ((x4_5.size : Int) < 1) = false := decide_eq_false c10
       have c10b1 : decide (x4_5.size < 1) = false := decide_eq_false (by omega)
       clear c10
       (first | rw [c10b0] | (simp only [i64_w, i32_w]; rw [c10b0]) | skip)
       have H' := Aside0.mk H
       clear H
       go_wp2
       go_meet
       case rel => exact ⟨_, (decide ((x4_5.size : Int) > 19)), (by first | rfl | (simp; done) | (simp [*]; done)), H', ⟨by have := HJ1.out; have := HJ5.out; first | omega | exact Nat.le_refl _⟩, ⟨by repeat (first | (with_reducible first | exact HB.out | apply below_alloc | apply pw_below_drewN | apply below_drew1) | exact HB.out)⟩⟩
     case rest =>
      clear HC9
      try clear c1
      try clear p2
      try clear c3
      try clear c3b0
      try clear c3b1
      try clear c4
      try clear c4b0
      try clear c4b1
      try clear p5
      try clear q5
      try clear hx5
      try clear qi5
      try clear c6
      try clear c7
      try clear c8
      try clear c8b0
      try clear c8b1
      try clear c10
      try clear c10b0
      try clear c10b1
      try clear p2
      try clear p5
      try clear q5
      obtain ⟨kq, x28_8, rfl, HA, HJ8, HB⟩ := hcut
      cases kq with
      | zero => exact absurd HA.out (by simp [tendrilref02_Whole.j2])
      | succ kj8 =>
       have H := HA.out
       clear HA
       simp only [tendrilref02_Whole.j2] at H
       by_cases c11 : x28_8 = true
       ·subst c11
        have H1 : (some (0, false)) = some (r1, r2) := by rw [if_pos rfl] at H; exact H
        clear H
        have H := H1
        clear H1
        simp only [Option.some.injEq, Prod.mk.injEq] at H
        obtain ⟨rfl, rfl⟩ := H
        go_wp2
        go_ret2
        exact ⟨by first | rfl | (simp [errW_none, errW_some] <;> first | rfl | exact emp_bne _ | exact (emp_bne _).symm | exact emp_bne' _ | exact (emp_bne' _).symm) | (simp [*, errW_none, errW_some] <;> rfl), by repeat (first | (with_reducible first | exact HB.out | apply below_alloc | apply pw_below_drewN | apply below_drew1) | exact HB.out)⟩
       ·replace c11 := Bool.eq_false_iff.mpr c11
        subst c11
        have H1 : (tendrilref02_Whole.l0 kj8 a0 x4_5 x5_1 0 (x4_5.size : Int) 0) = some (r1, r2) := by rw [if_neg (show ¬ (false = true) by decide)] at H; exact H
        clear H
        have H := H1
        clear H1
        have H' := Aside0.mk H
        clear H
        go_wp2
        go_loopg [6, 31] kj8 (fun kq v6 v31 w' => ∃ (x6_4 : Int) (x31_4 : Int), v6 = .int .i64 x6_4 ∧ v31 = .int .i64 x31_4 ∧ Aside0 (tendrilref02_Whole.l0 kq a0 x4_5 x5_1 x6_4 (x4_5.size : Int) x31_4 = some (r1, r2)) ∧ Aside0 (kq ≤ kj8) ∧ Aside0 (Below w.heap.size w w'))
        case atStart => exact ⟨(0), (0), (by first | rfl | (simp; done) | (simp [*]; done)), (by first | rfl | (simp; done) | (simp [*]; done)), H', ⟨Nat.le_refl _⟩, ⟨by repeat (first | (with_reducible first | exact HB.out | apply below_alloc | apply pw_below_drewN | apply below_drew1) | exact HB.out)⟩⟩
        case round =>
         clear H'
         try clear c1
         try clear p2
         try clear c3
         try clear c3b0
         try clear c3b1
         try clear c4
         try clear c4b0
         try clear c4b1
         try clear p5
         try clear q5
         try clear hx5
         try clear qi5
         try clear c6
         try clear c7
         try clear c8
         try clear c8b0
         try clear c8b1
         try clear c10
         try clear c10b0
         try clear c10b1
         try clear c11
         try clear p2
         try clear p5
         try clear q5
         obtain ⟨x6_4, x31_4, rfl, rfl, HA, HK4, HB⟩ := hrel
         cases gk with
         | zero => exact absurd HA.out (by simp [tendrilref02_Whole.l0])
         | succ k4 =>
          have H := HA.out
          clear HA
          simp only [tendrilref02_Whole.l0] at H
          by_cases c12 : x31_4 < (x4_5.size : Int)
          ·rw [if_pos c12] at H
           have c12b0 : decide (x31_4 < (x4_5.size : Int)) = true := decide_eq_true c12
           clear c12
           have HC13 := Aside0.mk H
           clear H
           go_upto_region 11 with (fail)
           go_cut [43] (fun v43 wc => ∃ (kq : Nat) (x43_12 : Bool), v43 = .bool x43_12 ∧ Aside0 (tendrilref02_Whole.j4 kq a0 x4_5 x5_1 x6_4 x31_4 (x4_5.size : Int) x31_4 x43_12 = some (r1, r2)) ∧ Aside0 (kq ≤ k4) ∧ Aside0 (Below w.heap.size w wc))
           case first =>
            have H := HC13.out
            clear HC13
            by_cases c14 : 0 ≤ x31_4
            ·rw [if_pos c14] at H
             have c14b0 : decide (0 ≤ x31_4) = true := decide_eq_true c14
             clear c14
             (first | rw [c14b0] | (simp only [i64_w, i32_w]; rw [c14b0]) | skip)
             by_cases c15 : x31_4 < (x4_5.size : Int)
             ·rw [if_pos c15] at H
              have c15b0 : decide (x31_4 < (x4_5.size : Int)) = true := decide_eq_true c15
              clear c15
              by_cases c17 : (bt x4_5 x31_4) < 48
              ·rw [if_pos c17] at H
               have c17b0 : decide ((bt x4_5 x31_4) < 48) = true := decide_eq_true c17
               clear c17
               have H' := Aside0.mk H
               clear H
               have p16 : 0 ≤ (x31_4 : Int) := of_decide_eq_true (by first | (with_reducible assumption) | assumption)
               have q16 : x31_4 < (x4_5.size : Int) := of_decide_eq_true (by first | (with_reducible assumption) | assumption)
               have hx16 := bt_at x4_5 x31_4
               replace p16 := eq_true p16
               replace q16 := eq_true q16
               go_wp2
               go_meet
               case rel => exact ⟨_, (true), (by first | rfl | (simp; done) | (simp [*]; done)), H', ⟨by have := HJ1.out; have := HJ5.out; have := HJ8.out; have := HK4.out; first | omega | exact Nat.le_refl _⟩, ⟨by repeat (first | (with_reducible first | exact HB.out | apply below_alloc | apply pw_below_drewN | apply below_drew1) | exact HB.out)⟩⟩
              ·rw [if_neg c17] at H
               have c17b0 : decide ((bt x4_5 x31_4) < 48) = false := decide_eq_false c17
               clear c17
               have H' := Aside0.mk H
               clear H
               have p16 : 0 ≤ (x31_4 : Int) := of_decide_eq_true (by first | (with_reducible assumption) | assumption)
               have q16 : x31_4 < (x4_5.size : Int) := of_decide_eq_true (by first | (with_reducible assumption) | assumption)
               have hx16 := bt_at x4_5 x31_4
               replace p16 := eq_true p16
               replace q16 := eq_true q16
               have p18 : 0 ≤ (x31_4 : Int) := of_decide_eq_true (by first | (with_reducible assumption) | assumption)
               have q18 : x31_4 < (x4_5.size : Int) := of_decide_eq_true (by first | (with_reducible assumption) | assumption)
               have hx18 := bt_at x4_5 x31_4
               replace p18 := eq_true p18
               replace q18 := eq_true q18
               go_wp2
               go_meet
               case rel => exact ⟨_, (decide ((bt x4_5 x31_4) > 57)), (by first | rfl | (simp; done) | (simp [*]; done)), H', ⟨by have := HJ1.out; have := HJ5.out; have := HJ8.out; have := HK4.out; first | omega | exact Nat.le_refl _⟩, ⟨by repeat (first | (with_reducible first | exact HB.out | apply below_alloc | apply pw_below_drewN | apply below_drew1) | exact HB.out)⟩⟩
             ·rw [if_neg c15] at H
              exact absurd H (by simp)
            ·rw [if_neg c14] at H
             exact absurd H (by simp)
           case rest =>
            clear HC13
            try clear c1
            try clear p1
            try clear q1
            try clear hx1
            try clear p2
            try clear c3
            try clear c3b0
            try clear c3b1
            try clear c4
            try clear c4b0
            try clear c4b1
            try clear p5
            try clear q5
            try clear hx5
            try clear qi5
            try clear c6
            try clear c7
            try clear c8
            try clear c8b0
            try clear c8b1
            try clear c10
            try clear c10b0
            try clear c10b1
            try clear c11
            try clear c12
            try clear c12b0
            try clear c14
            try clear c14b0
            try clear c15
            try clear c15b0
            try clear p16
            try clear q16
            try clear hx16
            try clear c17
            try clear c17b0
            try clear p18
            try clear q18
            try clear hx18
            try clear p16
            try clear p18
            try clear p2
            try clear p5
            try clear q16
            try clear q18
            try clear q5
            obtain ⟨kq, x43_12, rfl, HA, HJ12, HB⟩ := hcut
            cases kq with
            | zero => exact absurd HA.out (by simp [tendrilref02_Whole.j4])
            | succ kj12 =>
             have H := HA.out
             clear HA
             simp only [tendrilref02_Whole.j4] at H
             by_cases c19 : x43_12 = true
             ·subst c19
              have H1 : (some (0, false)) = some (r1, r2) := by rw [if_pos rfl] at H; exact H
              clear H
              have H := H1
              clear H1
              simp only [Option.some.injEq, Prod.mk.injEq] at H
              obtain ⟨rfl, rfl⟩ := H
              go_wp2
              go_ret2
              exact ⟨by first | rfl | (simp [errW_none, errW_some] <;> first | rfl | exact emp_bne _ | exact (emp_bne _).symm | exact emp_bne' _ | exact (emp_bne' _).symm) | (simp [*, errW_none, errW_some] <;> rfl), by repeat (first | (with_reducible first | exact HB.out | apply below_alloc | apply pw_below_drewN | apply below_drew1) | exact HB.out)⟩
             ·replace c19 := Bool.eq_false_iff.mpr c19
              subst c19
              have H1 : (if 0 ≤ x31_4 then (if x31_4 < (x4_5.size : Int) then (if x6_4 < (-922337203685477580) then (some (0, false)) else (if x6_4 = (-922337203685477580) then (if (wrap64 ((wrap64 (bt x4_5 x31_4)) - 48)) > 8 then (some (0, false)) else (tendrilref02_Whole.l0 kj12 a0 x4_5 x5_1 (wrap64 ((wrap64 (10 * x6_4)) - (wrap64 ((wrap64 (bt x4_5 x31_4)) - 48)))) (x4_5.size : Int) (wrap64 (x31_4 + 1)))) else (tendrilref02_Whole.l0 kj12 a0 x4_5 x5_1 (wrap64 ((wrap64 (10 * x6_4)) - (wrap64 ((wrap64 (bt x4_5 x31_4)) - 48)))) (x4_5.size : Int) (wrap64 (x31_4 + 1))))) else (none)) else (none)) = some (r1, r2) := by rw [if_neg (show ¬ (false = true) by decide)] at H; exact H
              clear H
              have H := H1
              clear H1
              by_cases c20 : 0 ≤ x31_4
              ·rw [if_pos c20] at H
               have c20b0 : decide (0 ≤ x31_4) = true := decide_eq_true c20
               clear c20
               by_cases c21 : x31_4 < (x4_5.size : Int)
               ·rw [if_pos c21] at H
                have c21b0 : decide (x31_4 < (x4_5.size : Int)) = true := decide_eq_true c21
                clear c21
                by_cases c23 : x6_4 < (-922337203685477580)
                ·rw [if_pos c23] at H
                 have c23b0 : decide (x6_4 < (-922337203685477580)) = true := decide_eq_true c23
                 clear c23
                 simp only [Option.some.injEq, Prod.mk.injEq] at H
                 obtain ⟨rfl, rfl⟩ := H
                 have p22 : 0 ≤ (x31_4 : Int) := of_decide_eq_true (by first | (with_reducible assumption) | assumption)
                 have q22 : x31_4 < (x4_5.size : Int) := of_decide_eq_true (by first | (with_reducible assumption) | assumption)
                 have hx22 := bt_at x4_5 x31_4
                 replace p22 := eq_true p22
                 replace q22 := eq_true q22
                 go_wp2
                 go_ret2
                 exact ⟨by first | rfl | (simp [errW_none, errW_some] <;> first | rfl | exact emp_bne _ | exact (emp_bne _).symm | exact emp_bne' _ | exact (emp_bne' _).symm) | (simp [*, errW_none, errW_some] <;> rfl), by repeat (first | (with_reducible first | exact HB.out | apply below_alloc | apply pw_below_drewN | apply below_drew1) | exact HB.out)⟩
                ·rw [if_neg c23] at H
                 have c23b0 : decide (x6_4 < (-922337203685477580)) = false := decide_eq_false c23
                 clear c23
                 by_cases c24 : x6_4 = (-922337203685477580)
                 ·rw [if_pos c24] at H
                  have c24b0 : (x6_4 == (-922337203685477580)) = true := beq_iff_eq.mpr c24
                  have c24b1 : (x6_4 != (-922337203685477580)) = false := bne_eq_false_iff_eq.mpr c24
                  clear c24
                  by_cases c25 : (wrap64 ((wrap64 (bt x4_5 x31_4)) - 48)) > 8
                  ·rw [if_pos c25] at H
                   have c25b0 : decide (8 < (wrap64 ((wrap64 (bt x4_5 x31_4)) - 48))) = true := decide_eq_true c25
                   clear c25
                   simp only [Option.some.injEq, Prod.mk.injEq] at H
                   obtain ⟨rfl, rfl⟩ := H
                   have p22 : 0 ≤ (x31_4 : Int) := of_decide_eq_true (by first | (with_reducible assumption) | assumption)
                   have q22 : x31_4 < (x4_5.size : Int) := of_decide_eq_true (by first | (with_reducible assumption) | assumption)
                   have hx22 := bt_at x4_5 x31_4
                   replace p22 := eq_true p22
                   replace q22 := eq_true q22
                   go_wp2
                   go_ret2
                   exact ⟨by first | rfl | (simp [errW_none, errW_some] <;> first | rfl | exact emp_bne _ | exact (emp_bne _).symm | exact emp_bne' _ | exact (emp_bne' _).symm) | (simp [*, errW_none, errW_some] <;> rfl), by repeat (first | (with_reducible first | exact HB.out | apply below_alloc | apply pw_below_drewN | apply below_drew1) | exact HB.out)⟩
                  ·rw [if_neg c25] at H
                   have c25b0 : decide (8 < (wrap64 ((wrap64 (bt x4_5 x31_4)) - 48))) = false := decide_eq_false c25
                   clear c25
                   have H' := Aside0.mk H
                   clear H
                   have p22 : 0 ≤ (x31_4 : Int) := of_decide_eq_true (by first | (with_reducible assumption) | assumption)
                   have q22 : x31_4 < (x4_5.size : Int) := of_decide_eq_true (by first | (with_reducible assumption) | assumption)
                   have hx22 := bt_at x4_5 x31_4
                   replace p22 := eq_true p22
                   replace q22 := eq_true q22
                   go_wp2
                   go_roundg kj12
                   case measure => have := HJ1.out; have := HJ5.out; have := HJ8.out; have := HK4.out; have := HJ12.out; omega
                   case rel => exact ⟨(wrap64 ((wrap64 (10 * x6_4)) - (wrap64 ((wrap64 (bt x4_5 x31_4)) - 48)))), (wrap64 (x31_4 + 1)), (by first | rfl | (simp; done) | (simp [*]; done)), (by first | rfl | (simp; done) | (simp [*]; done)), H', ⟨by have := HJ1.out; have := HJ5.out; have := HJ8.out; have := HK4.out; have := HJ12.out; omega⟩, ⟨by repeat (first | (with_reducible first | exact HB.out | apply below_alloc | apply pw_below_drewN | apply below_drew1) | exact HB.out)⟩⟩
                 ·rw [if_neg c24] at H
                  have c24b0 : (x6_4 == (-922337203685477580)) = false := beq_eq_false_iff_ne.mpr c24
                  have c24b1 : (x6_4 != (-922337203685477580)) = true := bne_iff_ne.mpr c24
                  have H' := Aside0.mk H
                  clear H
                  have p22 : 0 ≤ (x31_4 : Int) := of_decide_eq_true (by first | (with_reducible assumption) | assumption)
                  have q22 : x31_4 < (x4_5.size : Int) := of_decide_eq_true (by first | (with_reducible assumption) | assumption)
                  have hx22 := bt_at x4_5 x31_4
                  replace p22 := eq_true p22
                  replace q22 := eq_true q22
                  go_wp2
                  go_roundg kj12
                  case measure => have := HJ1.out; have := HJ5.out; have := HJ8.out; have := HK4.out; have := HJ12.out; omega
                  case rel => exact ⟨(wrap64 ((wrap64 (10 * x6_4)) - (wrap64 ((wrap64 (bt x4_5 x31_4)) - 48)))), (wrap64 (x31_4 + 1)), (by first | rfl | (simp; done) | (simp [*]; done)), (by first | rfl | (simp; done) | (simp [*]; done)), H', ⟨by have := HJ1.out; have := HJ5.out; have := HJ8.out; have := HK4.out; have := HJ12.out; omega⟩, ⟨by repeat (first | (with_reducible first | exact HB.out | apply below_alloc | apply pw_below_drewN | apply below_drew1) | exact HB.out)⟩⟩
               ·rw [if_neg c21] at H
                exact absurd H (by simp)
              ·rw [if_neg c20] at H
               exact absurd H (by simp)
          ·rw [if_neg c12] at H
           have c12b0 : decide (x31_4 < (x4_5.size : Int)) = false := decide_eq_false c12
           clear c12
           have HC26 := Aside0.mk H
           clear H
           go_upto_region 18 with (fail)
           go_cut [69] (fun v69 wc => ∃ (kq : Nat) (x69_25 : Bool), v69 = .bool x69_25 ∧ Aside0 (tendrilref02_Whole.j5 kq a0 x5_1 x6_4 x69_25 = some (r1, r2)) ∧ Aside0 (kq ≤ k4) ∧ Aside0 (Below w.heap.size w wc))
           case first =>
            have H := HC26.out
            clear HC26
            by_cases c27 : x5_1 = true
            ·subst c27
             have H1 : (tendrilref02_Whole.j5 k4 a0 true x6_4 false) = some (r1, r2) := by rw [if_pos rfl] at H; exact H
             clear H
             have H := H1
             clear H1
             have H' := Aside0.mk H
             clear H
             go_wp2
             go_meet
             case rel => exact ⟨_, (false), (by first | rfl | (simp; done) | (simp [*]; done)), H', ⟨by have := HJ1.out; have := HJ5.out; have := HJ8.out; have := HK4.out; first | omega | exact Nat.le_refl _⟩, ⟨by repeat (first | (with_reducible first | exact HB.out | apply below_alloc | apply pw_below_drewN | apply below_drew1) | exact HB.out)⟩⟩
            ·replace c27 := Bool.eq_false_iff.mpr c27
             subst c27
             have H1 : (tendrilref02_Whole.j5 k4 a0 false x6_4 (x6_4 == (-9223372036854775808))) = some (r1, r2) := by rw [if_neg (show ¬ (false = true) by decide)] at H; exact H
             clear H
             have H := H1
             clear H1
             have H' := Aside0.mk H
             clear H
             go_wp2
             go_meet
             case rel => exact ⟨_, ((x6_4 == (-9223372036854775808))), (by first | rfl | (simp; done) | (simp [*]; done)), H', ⟨by have := HJ1.out; have := HJ5.out; have := HJ8.out; have := HK4.out; first | omega | exact Nat.le_refl _⟩, ⟨by repeat (first | (with_reducible first | exact HB.out | apply below_alloc | apply pw_below_drewN | apply below_drew1) | exact HB.out)⟩⟩
           case rest =>
            clear HC26
            try clear c1
            try clear p1
            try clear q1
            try clear hx1
            try clear c2
            try clear p2
            try clear q2
            try clear hx2
            try clear c3
            try clear c3b0
            try clear c3b1
            try clear c4
            try clear c4b0
            try clear c4b1
            try clear p5
            try clear q5
            try clear hx5
            try clear qi5
            try clear c6
            try clear p6
            try clear c7
            try clear c8
            try clear c8b0
            try clear c8b1
            try clear c10
            try clear c10b0
            try clear c10b1
            try clear c11
            try clear c12
            try clear c12b0
            try clear c14
            try clear c14b0
            try clear c15
            try clear c15b0
            try clear p16
            try clear q16
            try clear hx16
            try clear c17
            try clear c17b0
            try clear p18
            try clear q18
            try clear hx18
            try clear c19
            try clear c20
            try clear c20b0
            try clear c21
            try clear c21b0
            try clear p22
            try clear q22
            try clear hx22
            try clear c23
            try clear c23b0
            try clear c24
            try clear c24b0
            try clear c24b1
            try clear c25
            try clear c25b0
            try clear c27
            try clear p1
            try clear p16
            try clear p18
            try clear p2
            try clear p22
            try clear p5
            try clear q1
            try clear q16
            try clear q18
            try clear q22
            try clear q5
            obtain ⟨kq, x69_25, rfl, HA, HJ25, HB⟩ := hcut
            cases kq with
            | zero => exact absurd HA.out (by simp [tendrilref02_Whole.j5])
            | succ kj25 =>
             have H := HA.out
             clear HA
             simp only [tendrilref02_Whole.j5] at H
             by_cases c28 : x69_25 = true
             ·subst c28
              have H1 : (some (0, false)) = some (r1, r2) := by rw [if_pos rfl] at H; exact H
              clear H
              have H := H1
              clear H1
              simp only [Option.some.injEq, Prod.mk.injEq] at H
              obtain ⟨rfl, rfl⟩ := H
              go_wp2
              go_ret2
              exact ⟨by first | rfl | (simp [errW_none, errW_some] <;> first | rfl | exact emp_bne _ | exact (emp_bne _).symm | exact emp_bne' _ | exact (emp_bne' _).symm) | (simp [*, errW_none, errW_some] <;> rfl), by repeat (first | (with_reducible first | exact HB.out | apply below_alloc | apply pw_below_drewN | apply below_drew1) | exact HB.out)⟩
             ·replace c28 := Bool.eq_false_iff.mpr c28
              subst c28
              have H1 : (if x5_1 = true then ((tendrilref02_Decimal.f kj25 x6_4).bind fun t221 => (if t221.toList = a0.toList then (some (x6_4, true)) else (some (0, false)))) else ((tendrilref02_Decimal.f kj25 (wrap64 (-x6_4))).bind fun t222 => (if t222.toList = a0.toList then (some (wrap64 (-x6_4), true)) else (some (0, false))))) = some (r1, r2) := by rw [if_neg (show ¬ (false = true) by decide)] at H; exact H
              clear H
              have H := H1
              clear H1
              by_cases c29 : x5_1 = true
              ·subst c29
               have H1 : ((tendrilref02_Decimal.f kj25 x6_4).bind fun t221 => (if t221.toList = a0.toList then (some (x6_4, true)) else (some (0, false)))) = some (r1, r2) := by rw [if_pos rfl] at H; exact H
               clear H
               have H := H1
               clear H1
               replace H := Option.bind_eq_some_iff.mp H
               obtain ⟨t221, A300, H⟩ := H
               replace H : (if t221.toList = a0.toList then (some (x6_4, true)) else (some (0, false))) = some (r1, r2) := H
               have A30 := Aside0.mk A300
               clear A300
               by_cases c31 : t221.toList = a0.toList
               ·rw [if_pos c31] at H
                have c31b0 : (t221.toList == a0.toList) = true := beq_iff_eq.mpr c31
                have c31b1 : (t221.toList != a0.toList) = false := bne_eq_false_iff_eq.mpr c31
                clear c31
                simp only [Option.some.injEq, Prod.mk.injEq] at H
                obtain ⟨rfl, rfl⟩ := H
                go_wp2_with (first | ((with_reducible refine gate_callee (f := 31) rfl ?_); refine goesL_ (some 75) rfl rfl Tryz.func31 (by kernel_rfl) rfl #[.int .i64 x6_4] rfl (by (try simp only [List.map_toArray, List.map_cons, List.map_nil]); first | done | rfl | (simp only [List.length_drop, List.length_take]; rfl)) ?_; (with_reducible refine (tendrilref02_Decimal.calls kj25 x6_4 t221 _ ?side1 A30.out).mono ?_); (case side1 => first | exact HGL.out | exact (Go.Proofs.YtidcecpbihmloaaGreatDoorX.GL.below HGL.out (by repeat (first | (with_reducible first | exact HB.out | apply below_alloc | apply pw_below_drewN | apply below_drew1) | exact HB.out))) | (repeat (first | exact HGL.out | (with_reducible refine Go.Proofs.YtidcecpbihmloaaGreatDoorX.GL.drewN ?_ _) | (with_reducible refine Go.Proofs.YtidcecpbihmloaaGreatDoorX.GL.drew ?_)))); rintro e w32 ⟨rfl, hb⟩; refine ⟨_, rfl, ?_⟩; have n0_ := Aside0.mk (below_step (by repeat (first | (with_reducible first | exact HB.out | apply below_alloc | apply pw_below_drewN | apply below_drew1) | exact HB.out)) hb); clear HB; have HB := n0_; clear n0_; (try clear hb); (try clear hb2); (try clear hk); (try clear hi)))
                go_ret2
                exact ⟨by first | rfl | (simp [errW_none, errW_some] <;> first | rfl | exact emp_bne _ | exact (emp_bne _).symm | exact emp_bne' _ | exact (emp_bne' _).symm) | (simp [*, errW_none, errW_some] <;> rfl), by repeat (first | (with_reducible first | exact HB.out | apply below_alloc | apply pw_below_drewN | apply below_drew1) | exact HB.out)⟩
               ·rw [if_neg c31] at H
                have c31b0 : (t221.toList == a0.toList) = false := beq_eq_false_iff_ne.mpr c31
                have c31b1 : (t221.toList != a0.toList) = true := bne_iff_ne.mpr c31
                simp only [Option.some.injEq, Prod.mk.injEq] at H
                obtain ⟨rfl, rfl⟩ := H
                go_wp2_with (first | ((with_reducible refine gate_callee (f := 31) rfl ?_); refine goesL_ (some 75) rfl rfl Tryz.func31 (by kernel_rfl) rfl #[.int .i64 x6_4] rfl (by (try simp only [List.map_toArray, List.map_cons, List.map_nil]); first | done | rfl | (simp only [List.length_drop, List.length_take]; rfl)) ?_; (with_reducible refine (tendrilref02_Decimal.calls kj25 x6_4 t221 _ ?side1 A30.out).mono ?_); (case side1 => first | exact HGL.out | exact (Go.Proofs.YtidcecpbihmloaaGreatDoorX.GL.below HGL.out (by repeat (first | (with_reducible first | exact HB.out | apply below_alloc | apply pw_below_drewN | apply below_drew1) | exact HB.out))) | (repeat (first | exact HGL.out | (with_reducible refine Go.Proofs.YtidcecpbihmloaaGreatDoorX.GL.drewN ?_ _) | (with_reducible refine Go.Proofs.YtidcecpbihmloaaGreatDoorX.GL.drew ?_)))); rintro e w33 ⟨rfl, hb⟩; refine ⟨_, rfl, ?_⟩; have n0_ := Aside0.mk (below_step (by repeat (first | (with_reducible first | exact HB.out | apply below_alloc | apply pw_below_drewN | apply below_drew1) | exact HB.out)) hb); clear HB; have HB := n0_; clear n0_; (try clear hb); (try clear hb2); (try clear hk); (try clear hi)))
                go_ret2
                exact ⟨by first | rfl | (simp [errW_none, errW_some] <;> first | rfl | exact emp_bne _ | exact (emp_bne _).symm | exact emp_bne' _ | exact (emp_bne' _).symm) | (simp [*, errW_none, errW_some] <;> rfl), by repeat (first | (with_reducible first | exact HB.out | apply below_alloc | apply pw_below_drewN | apply below_drew1) | exact HB.out)⟩
              ·replace c29 := Bool.eq_false_iff.mpr c29
               subst c29
               have H1 : ((tendrilref02_Decimal.f kj25 (wrap64 (-x6_4))).bind fun t222 => (if t222.toList = a0.toList then (some (wrap64 (-x6_4), true)) else (some (0, false)))) = some (r1, r2) := by rw [if_neg (show ¬ (false = true) by decide)] at H; exact H
               clear H
               have H := H1
               clear H1
               replace H := Option.bind_eq_some_iff.mp H
               obtain ⟨t222, A340, H⟩ := H
               replace H : (if t222.toList = a0.toList then (some (wrap64 (-x6_4), true)) else (some (0, false))) = some (r1, r2) := H
               have A34 := Aside0.mk A340
               clear A340
               by_cases c35 : t222.toList = a0.toList
               ·rw [if_pos c35] at H
                have c35b0 : (t222.toList == a0.toList) = true := beq_iff_eq.mpr c35
                have c35b1 : (t222.toList != a0.toList) = false := bne_eq_false_iff_eq.mpr c35
                clear c35
                simp only [Option.some.injEq, Prod.mk.injEq] at H
                obtain ⟨rfl, rfl⟩ := H
                go_wp2_with (first | ((with_reducible refine gate_callee (f := 31) rfl ?_); refine goesL_ (some 75) rfl rfl Tryz.func31 (by kernel_rfl) rfl #[.int .i64 (wrap64 (-x6_4))] rfl (by (try simp only [List.map_toArray, List.map_cons, List.map_nil]); first | done | rfl | (simp only [List.length_drop, List.length_take]; rfl)) ?_; (with_reducible refine (tendrilref02_Decimal.calls kj25 (wrap64 (-x6_4)) t222 _ ?side1 A34.out).mono ?_); (case side1 => first | exact HGL.out | exact (Go.Proofs.YtidcecpbihmloaaGreatDoorX.GL.below HGL.out (by repeat (first | (with_reducible first | exact HB.out | apply below_alloc | apply pw_below_drewN | apply below_drew1) | exact HB.out))) | (repeat (first | exact HGL.out | (with_reducible refine Go.Proofs.YtidcecpbihmloaaGreatDoorX.GL.drewN ?_ _) | (with_reducible refine Go.Proofs.YtidcecpbihmloaaGreatDoorX.GL.drew ?_)))); rintro e w36 ⟨rfl, hb⟩; refine ⟨_, rfl, ?_⟩; have n0_ := Aside0.mk (below_step (by repeat (first | (with_reducible first | exact HB.out | apply below_alloc | apply pw_below_drewN | apply below_drew1) | exact HB.out)) hb); clear HB; have HB := n0_; clear n0_; (try clear hb); (try clear hb2); (try clear hk); (try clear hi)))
                go_ret2
                exact ⟨by first | rfl | (simp [errW_none, errW_some] <;> first | rfl | exact emp_bne _ | exact (emp_bne _).symm | exact emp_bne' _ | exact (emp_bne' _).symm) | (simp [*, errW_none, errW_some] <;> rfl), by repeat (first | (with_reducible first | exact HB.out | apply below_alloc | apply pw_below_drewN | apply below_drew1) | exact HB.out)⟩
               ·rw [if_neg c35] at H
                have c35b0 : (t222.toList == a0.toList) = false := beq_eq_false_iff_ne.mpr c35
                have c35b1 : (t222.toList != a0.toList) = true := bne_iff_ne.mpr c35
                simp only [Option.some.injEq, Prod.mk.injEq] at H
                obtain ⟨rfl, rfl⟩ := H
                go_wp2_with (first | ((with_reducible refine gate_callee (f := 31) rfl ?_); refine goesL_ (some 75) rfl rfl Tryz.func31 (by kernel_rfl) rfl #[.int .i64 (wrap64 (-x6_4))] rfl (by (try simp only [List.map_toArray, List.map_cons, List.map_nil]); first | done | rfl | (simp only [List.length_drop, List.length_take]; rfl)) ?_; (with_reducible refine (tendrilref02_Decimal.calls kj25 (wrap64 (-x6_4)) t222 _ ?side1 A34.out).mono ?_); (case side1 => first | exact HGL.out | exact (Go.Proofs.YtidcecpbihmloaaGreatDoorX.GL.below HGL.out (by repeat (first | (with_reducible first | exact HB.out | apply below_alloc | apply pw_below_drewN | apply below_drew1) | exact HB.out))) | (repeat (first | exact HGL.out | (with_reducible refine Go.Proofs.YtidcecpbihmloaaGreatDoorX.GL.drewN ?_ _) | (with_reducible refine Go.Proofs.YtidcecpbihmloaaGreatDoorX.GL.drew ?_)))); rintro e w37 ⟨rfl, hb⟩; refine ⟨_, rfl, ?_⟩; have n0_ := Aside0.mk (below_step (by repeat (first | (with_reducible first | exact HB.out | apply below_alloc | apply pw_below_drewN | apply below_drew1) | exact HB.out)) hb); clear HB; have HB := n0_; clear n0_; (try clear hb); (try clear hb2); (try clear hk); (try clear hi)))
                go_ret2
                exact ⟨by first | rfl | (simp [errW_none, errW_some] <;> first | rfl | exact emp_bne _ | exact (emp_bne _).symm | exact emp_bne' _ | exact (emp_bne' _).symm) | (simp [*, errW_none, errW_some] <;> rfl), by repeat (first | (with_reducible first | exact HB.out | apply below_alloc | apply pw_below_drewN | apply below_drew1) | exact HB.out)⟩

end Go.Proofs.YtidcecpbihmloaaGreatDoor.P16

namespace Go.Proofs.YtidcecpbihmloaaGreatDoor.M02
open Go Go.RowKit Go.Proofs.YtidcecpbihmloaaGreatDoor.P16 Go.Proofs.YtidcecpbihmloaaGreatDoorE Go.Proofs.YtidcecpbihmloaaGreatDoorW.PrintWords Go.Proofs.YtidcecpbihmloaaGreatDoorW.PrintLast Go.Proofs.YtidcecpbihmloaaGreatDoorW.PrintMore

theorem w64 {n : Int} (h0 : -9223372036854775808 ≤ n) (h1 : n ≤ 9223372036854775807) : wrap64 n = n := by unfold wrap64; omega
/-- A string's bytes. -/
abbrev B (s : ByteArray) : List UInt8 := s.data.toList
theorem B_len (s : ByteArray) : (B s).length = s.size := data_length s
theorem toList_B (s : ByteArray) : s.toList = B s := ByteArray.toList_eq s
theorem B_inj {s t : ByteArray} (h : B s = B t) : s = t := by
 cases s; cases t; congr 1; exact Array.toList_inj.1 h
theorem bt_nat {s : ByteArray} {i : Nat} (h : i < (B s).length) : bt s (i : Int) = ((B s)[i].toNat : Int) := by
 have hs : i < s.size := by rw [← B_len]; exact h
 unfold bt
 rw [dif_pos (by simpa using hs)]
 simp only [Int.toNat_natCast]
 rfl
theorem u8_lt (c : UInt8) : c.toNat < 256 := c.toNat_lt
theorem toUInt8_toNat (c : UInt8) : ((c.toNat : Int).toNat.toUInt8) = c := by simp

def okb (more : Bool) (c : UInt8) : Bool := decide (97 ≤ c.toNat ∧ c.toNat ≤ 122) || decide (48 ≤ c.toNat ∧ c.toNat ≤ 57) || decide (c.toNat = 45) || (more && (decide (c.toNat = 58) || decide (c.toNat = 46)))
def small (c : UInt8) : Bool := decide (97 ≤ c.toNat ∧ c.toNat ≤ 122)
/-- A tag, or, with more, a name. -/
def namedS (more : Bool) (l : List UInt8) : Bool := match l with
 | [] => false
 | c :: t => decide (t.length < 32) && small c && (c :: t).all (okb more)
theorem namedS_cons (more : Bool) (c : UInt8) (t : List UInt8) : namedS more (c :: t) = (decide (t.length < 32) && small c && (c :: t).all (okb more)) := rfl
theorem small_ok (more : Bool) (c : UInt8) (h : small c = true) : okb more c = true := by
 unfold small at h; unfold okb; rw [h]; rfl
theorem small_f (c : UInt8) : chars_small.f (c.toNat : Int) = some (small c) := by
 unfold chars_small.f small
 by_cases h : (c.toNat : Int) ≥ 97
 ·rw [if_pos h]; congr 1; rw [decide_eq_decide]; omega
 ·rw [if_neg h]; congr 1; symm; rw [decide_eq_false_iff_not]; omega
theorem inner_f (c : UInt8) (more : Bool) : tendrilref02_inner.f (c.toNat : Int) more = some (okb more c) := by
 have hc := u8_lt c
 have key : ∀ n : Fin 256, ∀ more : Bool, tendrilref02_inner.f (n.val : Int) more = some (decide (97 ≤ n.val ∧ n.val ≤ 122) || decide (48 ≤ n.val ∧ n.val ≤ 57) || decide (n.val = 45) || (more && (decide (n.val = 58) || decide (n.val = 46)))) := by decide +kernel
 exact key ⟨c.toNat, hc⟩ more
/-- The bytes that a name may have besides. -/
def others (more : Bool) : ByteArray := if more then ⟨#[45, 58, 46]⟩ else ⟨#[45]⟩
theorem index_others (c : UInt8) (more : Bool) : (Lib.indexByte (B (others more)) c < 0) ↔ ¬ (c.toNat = 45 ∨ (more = true ∧ (c.toNat = 58 ∨ c.toNat = 46))) := by
 have key : ∀ n : Fin 256, ∀ more : Bool, (Lib.indexByte (B (others more)) n.val.toUInt8 < 0) ↔ ¬ (n.val = 45 ∨ (more = true ∧ (n.val = 58 ∨ n.val = 46))) := by decide +kernel
 have := key ⟨c.toNat, u8_lt c⟩ more
 simpa using this
theorem named_l0 (s : ByteArray) (more : Bool) (hs : s.size ≤ 1000) (d : Nat) : ∀ i : Nat, i + d = s.size →
  Ev (fun k => chars_named.l0 k s (others more) (s.size : Int) (i : Int)) (((B s).drop i).all (okb more)) := by
 induction d with
 | zero =>
  intro i hi
  rw [List.drop_eq_nil_of_le (by rw [B_len]; omega)]
  refine Ev.step (f := fun _ => some true) (fun k => ?_) (Ev.now _)
  simp only [chars_named.l0]; rw [if_neg (by omega)]
 | succ d ih =>
  intro i hi
  have hlt : i < (B s).length := by rw [B_len]; omega
  have hn := ih (i + 1) (by omega)
  rw [List.drop_eq_getElem_cons hlt, List.all_cons]
  have e2 : wrap64 ((i : Int) + 1) = ((i + 1 : Nat) : Int) := by rw [w64 (by omega) (by omega)]; omega
  have hsm := small_f (B s)[i]
  have hix := index_others (B s)[i] more
  refine Ev.step (f := fun k => if okb more (B s)[i] = true then chars_named.l0 k s (others more) (s.size : Int) ((i + 1 : Nat) : Int) else some false) (fun k => ?_) ?_
  ·simp only [chars_named.l0]
   rw [if_pos (by omega), if_pos (by omega), if_pos (by omega), bt_nat hlt, hsm, Option.bind_some, e2]
   by_cases h1 : small (B s)[i] = true
   ·rw [if_pos h1, if_pos (small_ok more _ h1)]
   ·rw [if_neg h1]
    have h1' : ¬ (97 ≤ (B s)[i].toNat ∧ (B s)[i].toNat ≤ 122) := by simpa [small] using h1
    have hrest : ((strings_IndexByte.f (others more) ((B s)[i].toNat : Int)).bind fun t => if t < 0 then some false else chars_named.l0 k s (others more) (s.size : Int) ((i + 1 : Nat) : Int)) = if ((B s)[i].toNat = 45 ∨ (more = true ∧ ((B s)[i].toNat = 58 ∨ (B s)[i].toNat = 46))) then chars_named.l0 k s (others more) (s.size : Int) ((i + 1 : Nat) : Int) else some false := by
     unfold strings_IndexByte.f
     rw [Option.bind_some, toUInt8_toNat]
     by_cases h2 : ((B s)[i].toNat = 45 ∨ (more = true ∧ ((B s)[i].toNat = 58 ∨ (B s)[i].toNat = 46)))
     ·rw [if_neg (fun h => (hix.1 h) h2), if_pos h2]
     ·rw [if_pos (hix.2 h2), if_neg h2]
    have hok : okb more (B s)[i] = true ↔ (48 ≤ (B s)[i].toNat ∧ (B s)[i].toNat ≤ 57) ∨ ((B s)[i].toNat = 45 ∨ (more = true ∧ ((B s)[i].toNat = 58 ∨ (B s)[i].toNat = 46))) := by
     have hq : ¬ (97 ≤ (B s)[i].toNat ∧ (B s)[i].toNat ≤ 122) := h1'
     unfold okb
     rw [decide_eq_false hq]
     generalize (B s)[i].toNat = q at *
     cases more <;> simp <;> omega
    by_cases h3 : ((B s)[i].toNat : Int) < 48
    ·rw [if_pos h3, hrest]
     by_cases h2 : ((B s)[i].toNat = 45 ∨ (more = true ∧ ((B s)[i].toNat = 58 ∨ (B s)[i].toNat = 46)))
     ·rw [if_pos h2, if_pos (hok.2 (.inr h2))]
     ·rw [if_neg h2, if_neg (fun h => (hok.1 h).elim (fun h => by omega) h2)]
    ·rw [if_neg h3]
     by_cases h4 : ((B s)[i].toNat : Int) > 57
     ·rw [if_pos h4, hrest]
      by_cases h2 : ((B s)[i].toNat = 45 ∨ (more = true ∧ ((B s)[i].toNat = 58 ∨ (B s)[i].toNat = 46)))
      ·rw [if_pos h2, if_pos (hok.2 (.inr h2))]
      ·rw [if_neg h2, if_neg (fun h => (hok.1 h).elim (fun h => by omega) h2)]
     ·rw [if_neg h4, if_pos (hok.2 (.inl (by omega)))]
  ·by_cases h : okb more (B s)[i] = true
   ·rw [h, Bool.true_and]; exact Ev.congr (fun k => by rw [if_pos rfl]) hn
   ·rw [Bool.eq_false_iff.2 h, Bool.false_and]; exact Ev.congr (fun k => by rw [if_neg (by decide)]) (Ev.now _)
theorem named_ev (s : ByteArray) (more : Bool) (hs : s.size ≤ 140737488351232) : Ev (fun k => chars_named.f k s (others more)) (namedS more (B s)) := by
 have bad : Ev (fun k => chars_named.j0 k s (others more) true) false := Ev.step (f := fun _ => some false) (fun k => by simp only [chars_named.j0]; rw [if_pos trivial]) (Ev.now _)
 unfold chars_named.f
 rw [toList_B]
 by_cases h0 : B s = []
 ·exact Ev.congr (f := fun k => chars_named.j0 k s (others more) true) (fun k => by rw [if_pos h0]) (by rw [h0]; exact bad)
 ·obtain ⟨c, t, e⟩ := List.exists_cons_of_ne_nil h0
  have hl : s.size = t.length + 1 := by rw [← B_len, e]; rfl
  have hb0 : bt s 0 = (c.toNat : Int) := by
   have := bt_nat (s := s) (i := 0) (by rw [e]; simp)
   simp only [e] at this
   simpa using this
  by_cases h1 : (s.size : Int) > 32
  ·have : namedS more (B s) = false := by rw [e]; rw [namedS_cons]; simp; omega
   rw [this]
   exact Ev.congr (f := fun k => chars_named.j0 k s (others more) true) (fun k => by rw [if_neg h0, if_pos h1]) bad
  ·have hall := named_l0 s more (by omega) s.size 0 (by omega)
   rw [List.drop_zero] at hall
   refine Ev.congr (f := fun k => chars_named.j0 k s (others more) (!small c)) (fun k => by rw [if_neg h0, if_neg h1, if_pos (by omega), hb0, small_f, Option.bind_some]) ?_
   by_cases h2 : small c = true
   ·have : namedS more (B s) = (B s).all (okb more) := by rw [e]; rw [namedS_cons, h2, decide_eq_true (by omega)]; simp
    rw [this, h2]
    refine Ev.step (fun k => ?_) hall
    simp only [chars_named.j0]; rw [if_neg (by decide)]; rfl
   ·have : namedS more (B s) = false := by rw [e]; rw [namedS_cons, Bool.eq_false_iff.2 h2]; simp
    rw [this, Bool.eq_false_iff.2 h2]; exact bad
theorem rnamed_l0 (s : ByteArray) (more : Bool) (hs : s.size ≤ 1000) (d : Nat) : ∀ i : Nat, i + d = s.size →
  Ev (fun k => tendrilref02_Named.l0 k s more (i : Int)) (((B s).drop i).all (okb more)) := by
 induction d with
 | zero =>
  intro i hi
  rw [List.drop_eq_nil_of_le (by rw [B_len]; omega)]
  refine Ev.step (f := fun _ => some true) (fun k => ?_) (Ev.now _)
  simp only [tendrilref02_Named.l0]; rw [if_neg (by omega)]
 | succ d ih =>
  intro i hi
  have hlt : i < (B s).length := by rw [B_len]; omega
  have hn := ih (i + 1) (by omega)
  rw [List.drop_eq_getElem_cons hlt, List.all_cons]
  have e2 : wrap64 ((i : Int) + 1) = ((i + 1 : Nat) : Int) := by rw [w64 (by omega) (by omega)]; omega
  refine Ev.step (f := fun k => if okb more (B s)[i] = true then tendrilref02_Named.l0 k s more ((i + 1 : Nat) : Int) else some false) (fun k => ?_) ?_
  ·simp only [tendrilref02_Named.l0]
   rw [if_pos (by omega), if_pos (by omega), bt_nat hlt, inner_f, Option.bind_some, e2]
  ·by_cases h : okb more (B s)[i] = true
   ·rw [h, Bool.true_and]; exact Ev.congr (fun k => by rw [if_pos rfl]) hn
   ·rw [Bool.eq_false_iff.2 h, Bool.false_and]; exact Ev.congr (fun k => by rw [if_neg (by decide)]) (Ev.now _)
theorem rnamed_ev (s : ByteArray) (more : Bool) (hs : s.size ≤ 140737488351232) : Ev (fun k => tendrilref02_Named.f k s more) (namedS more (B s)) := by
 have bad : Ev (fun k => tendrilref02_Named.j0 k s more true) false := Ev.step (f := fun _ => some false) (fun k => by simp only [tendrilref02_Named.j0]; rw [if_pos trivial]) (Ev.now _)
 unfold tendrilref02_Named.f
 by_cases h0 : (s.size : Int) < 1
 ·have e : B s = [] := List.eq_nil_of_length_eq_zero (by rw [B_len]; omega)
  exact Ev.congr (f := fun k => tendrilref02_Named.j0 k s more true) (fun k => by rw [if_pos h0]) (by rw [e]; exact bad)
 ·obtain ⟨c, t, e⟩ := List.exists_cons_of_ne_nil (l := B s) (by intro h; have := B_len s; rw [h] at this; simp at this; omega)
  have hl : s.size = t.length + 1 := by rw [← B_len, e]; rfl
  have hb0 : bt s 0 = (c.toNat : Int) := by
   have := bt_nat (s := s) (i := 0) (by rw [e]; simp)
   simp only [e] at this
   simpa using this
  by_cases h1 : (s.size : Int) > 32
  ·have : namedS more (B s) = false := by rw [e]; rw [namedS_cons]; simp; omega
   rw [this]
   exact Ev.congr (f := fun k => tendrilref02_Named.j0 k s more true) (fun k => by rw [if_neg h0, if_pos h1]) bad
  ·have hall := rnamed_l0 s more (by omega) t.length 1 (by omega)
   rw [e, List.drop_succ_cons, List.drop_zero] at hall
   have gd : small c = true → Ev (fun k => tendrilref02_Named.j0 k s more false) (namedS more (B s)) := by
    intro h2
    have : namedS more (B s) = t.all (okb more) := by rw [e]; rw [namedS_cons, h2, decide_eq_true (by omega), List.all_cons, small_ok more c h2]; simp
    rw [this]
    refine Ev.step (fun k => ?_) hall
    simp only [tendrilref02_Named.j0]; rw [if_neg (by decide)]; rfl
   have bd : small c = false → namedS more (B s) = false := by intro h2; rw [e]; rw [namedS_cons, h2]; simp
   by_cases h2 : (c.toNat : Int) < 97
   ·rw [bd (by unfold small; rw [decide_eq_false_iff_not]; omega)]
    exact Ev.congr (f := fun k => tendrilref02_Named.j0 k s more true) (fun k => by rw [if_neg h0, if_neg h1, if_pos (by omega), hb0, if_pos h2]) bad
   ·refine Ev.congr (f := fun k => tendrilref02_Named.j0 k s more (decide ((c.toNat : Int) > 122))) (fun k => by rw [if_neg h0, if_neg h1, if_pos (by omega), hb0, if_neg h2]) ?_
    by_cases h3 : (c.toNat : Int) > 122
    ·rw [bd (by unfold small; rw [decide_eq_false_iff_not]; omega), decide_eq_true h3]; exact bad
    ·rw [decide_eq_false h3]; exact gd (by unfold small; rw [decide_eq_true_eq]; omega)
theorem name_ev (s : ByteArray) (hs : s.size ≤ 140737488351232) : Ev (fun k => chars_Name.f k s) (namedS true (B s)) := Ev.bind (named_ev s true hs) (Ev.now _)
end Go.Proofs.YtidcecpbihmloaaGreatDoor.M02

namespace Go.Proofs.YtidcecpbihmloaaGreatDoor.M02
open Go Go.RowKit Go.Proofs.YtidcecpbihmloaaGreatDoor.P16 Go.Proofs.YtidcecpbihmloaaGreatDoorE Go.Proofs.YtidcecpbihmloaaGreatDoorW.PrintWords Go.Proofs.YtidcecpbihmloaaGreatDoorW.PrintLast Go.Proofs.YtidcecpbihmloaaGreatDoorW.PrintMore

def cmpL : List UInt8 → List UInt8 → Int
 | [], [] => 0
 | [], _ :: _ => -1
 | _ :: _, [] => 1
 | a :: s, b :: t => if a.toNat < b.toNat then -1 else if b.toNat < a.toNat then 1 else cmpL s t
theorem cmpL_neg : ∀ s t : List UInt8, cmpL t s = - cmpL s t
 | [], [] => rfl
 | [], _ :: _ => rfl
 | _ :: _, [] => rfl
 | a :: s, b :: t => by
  simp only [cmpL]
  by_cases h1 : a.toNat < b.toNat
  ·rw [if_pos h1, if_neg (by omega), if_pos h1]; rfl
  ·by_cases h2 : b.toNat < a.toNat
   ·rw [if_pos h2, if_neg h1, if_pos h2]
   ·rw [if_neg h1, if_neg h2, if_neg h2, if_neg h1]; exact cmpL_neg s t
theorem cmpL_eq : ∀ s t : List UInt8, cmpL s t = 0 ↔ s = t
 | [], [] => by simp [cmpL]
 | [], _ :: _ => by simp [cmpL]
 | _ :: _, [] => by simp [cmpL]
 | a :: s, b :: t => by
  simp only [cmpL]
  by_cases h1 : a.toNat < b.toNat
  ·rw [if_pos h1]; simp; intro h; subst h; omega
  ·by_cases h2 : b.toNat < a.toNat
   ·rw [if_neg h1, if_pos h2]; simp; intro h; subst h; omega
   ·rw [if_neg h1, if_neg h2, cmpL_eq s t]
    have : a = b := UInt8.toNat_inj.1 (by omega)
    simp [this]
theorem less_cmpL : ∀ s t : List UInt8, (if Op.bytesLess s t = true then (-1 : Int) else if s = t then 0 else 1) = cmpL s t
 | [], [] => by simp [Op.bytesLess, cmpL]
 | [], _ :: _ => by simp [Op.bytesLess, cmpL]
 | _ :: _, [] => by simp [Op.bytesLess, cmpL]
 | a :: s, b :: t => by
  have ih := less_cmpL s t
  simp only [Op.bytesLess, cmpL]
  by_cases h1 : a.toNat < b.toNat
  ·have : a < b := UInt8.lt_iff_toNat_lt.2 h1
   simp [this, h1]
  ·have h1' : ¬ a < b := fun h => h1 (UInt8.lt_iff_toNat_lt.1 h)
   by_cases h2 : b.toNat < a.toNat
   ·have hne : ¬ a = b := fun h => by subst h; omega
    simp [h1', hne, h1, h2]
   ·have he : a = b := UInt8.toNat_inj.1 (by omega)
    subst he
    simp only [Nat.lt_irrefl, if_false]
    rw [← ih]
    simp
theorem rcompare_l0 (a b : ByteArray) (_ha : a.size ≤ 140737488351232) (_hb : b.size ≤ 140737488351232) (d : Nat) : ∀ i : Nat, i + d = a.size → i ≤ b.size →
  Ev (fun k => tendrilref02_Compare.l0 k a b (i : Int)) (cmpL ((B a).drop i) ((B b).drop i)) := by
 have stop : ∀ i : Nat, i ≥ a.size ∨ i ≥ b.size → (i ≤ a.size ∧ i ≤ b.size) → Ev (fun k => tendrilref02_Compare.j1 k a b (i : Int) false) (cmpL ((B a).drop i) ((B b).drop i)) := by
  intro i h hle
  have l1 := B_len a
  have l2 := B_len b
  refine Ev.step (f := fun _ => some (cmpL ((B a).drop i) ((B b).drop i))) (fun k => ?_) (Ev.now _)
  simp only [tendrilref02_Compare.j1]
  rw [if_neg (by decide)]
  by_cases h1 : a.size ≤ i
  ·rw [show (B a).drop i = [] from List.drop_eq_nil_of_le (by omega)]
   by_cases h2 : b.size ≤ i
   ·rw [show (B b).drop i = [] from List.drop_eq_nil_of_le (by omega)]
    by_cases h3 : a.size < b.size
    ·exfalso; omega
    ·by_cases h4 : b.size < a.size
     ·exfalso; omega
     ·rw [if_neg (by omega), if_neg (by omega)]; rfl
   ·obtain ⟨x, t, e⟩ := List.exists_cons_of_ne_nil (l := (B b).drop i) (by intro hh; have := congrArg List.length hh; simp at this; omega)
    rw [e, if_pos (by omega)]; rfl
  ·have h2 : b.size ≤ i := by omega
   rw [show (B b).drop i = [] from List.drop_eq_nil_of_le (by omega)]
   obtain ⟨x, t, e⟩ := List.exists_cons_of_ne_nil (l := (B a).drop i) (by intro hh; have := congrArg List.length hh; simp at this; omega)
   rw [e, if_neg (by omega), if_pos (by omega)]; rfl
 induction d with
 | zero =>
  intro i hi hib
  refine Ev.step (f := fun k => tendrilref02_Compare.j1 k a b (i : Int) false) (fun k => ?_) (stop i (.inl (by omega)) ⟨by omega, hib⟩)
  simp only [tendrilref02_Compare.l0]; rw [if_neg (by omega)]
 | succ d ih =>
  intro i hi hib
  refine Ev.step (f := fun k => tendrilref02_Compare.j1 k a b (i : Int) (decide ((i : Int) < (b.size : Int)))) (fun k => ?_) ?_
  ·simp only [tendrilref02_Compare.l0]; rw [if_pos (by omega)]
  ·by_cases h2 : (i : Int) < (b.size : Int)
   ·rw [decide_eq_true h2]
    have hla : i < (B a).length := by rw [B_len]; omega
    have hlb : i < (B b).length := by rw [B_len]; omega
    have hn := ih (i + 1) (by omega) (by omega)
    rw [List.drop_eq_getElem_cons hla, List.drop_eq_getElem_cons hlb]
    simp only [cmpL]
    have e2 : wrap64 ((i : Int) + 1) = ((i + 1 : Nat) : Int) := by rw [w64 (by omega) (by omega)]; omega
    refine Ev.step (f := fun k => if (B a)[i].toNat < (B b)[i].toNat then some (-1) else if (B b)[i].toNat < (B a)[i].toNat then some 1 else tendrilref02_Compare.l0 k a b ((i + 1 : Nat) : Int)) (fun k => ?_) ?_
    ·simp only [tendrilref02_Compare.j1]
     rw [if_pos trivial, if_pos (by omega), if_pos (by omega), if_pos h2, bt_nat hla, bt_nat hlb, e2]
     by_cases h3 : (B a)[i].toNat < (B b)[i].toNat
     ·rw [if_pos h3, if_pos (by omega)]
     ·by_cases h4 : (B b)[i].toNat < (B a)[i].toNat
      ·rw [if_neg h3, if_pos h4, if_neg (by omega), if_pos (by omega)]
      ·rw [if_neg h3, if_neg h4, if_neg (by omega), if_neg (by omega)]
    ·by_cases h3 : (B a)[i].toNat < (B b)[i].toNat
     ·rw [if_pos h3]; exact Ev.congr (fun k => by rw [if_pos h3]) (Ev.now _)
     ·by_cases h4 : (B b)[i].toNat < (B a)[i].toNat
      ·rw [if_neg h3, if_pos h4]; exact Ev.congr (fun k => by rw [if_neg h3, if_pos h4]) (Ev.now _)
      ·rw [if_neg h3, if_neg h4]; exact Ev.congr (fun k => by rw [if_neg h3, if_neg h4]) hn
   ·rw [decide_eq_false h2]; exact stop i (.inr (by omega)) ⟨by omega, hib⟩
theorem rcompare_ev (a b : ByteArray) (ha : a.size ≤ 140737488351232) (hb : b.size ≤ 140737488351232) : Ev (fun k => tendrilref02_Compare.f k a b) (cmpL (B a) (B b)) := by
 have := rcompare_l0 a b ha hb a.size 0 (by omega) (by omega)
 rw [List.drop_zero, List.drop_zero] at this
 exact this
end Go.Proofs.YtidcecpbihmloaaGreatDoor.M02

namespace Go.Proofs.YtidcecpbihmloaaGreatDoor.M02
open Go Go.RowKit Go.Proofs.YtidcecpbihmloaaGreatDoor.P16 Go.Proofs.YtidcecpbihmloaaGreatDoorE Go.Proofs.YtidcecpbihmloaaGreatDoorW.PrintWords Go.Proofs.YtidcecpbihmloaaGreatDoorW.PrintLast Go.Proofs.YtidcecpbihmloaaGreatDoorW.PrintMore

def mkS (l : List UInt8) : ByteArray := ⟨l.toArray⟩
theorem B_mkS (l : List UInt8) : B (mkS l) = l := by simp [B, mkS]
theorem B_append (s t : ByteArray) : B (s ++ t) = B s ++ B t := by simp [B, ByteArray.data_append]
theorem dd_lt {m : Nat} (h : m < 10) : Lib.decDigits m = [UInt8.ofNat (48 + m)] := by rw [Lib.decDigits, dif_pos h]
theorem dd_ge {m : Nat} (h : 10 ≤ m) : Lib.decDigits m = Lib.decDigits (m / 10) ++ [UInt8.ofNat (48 + m % 10)] := by rw [Lib.decDigits, dif_neg (by omega)]
theorem dig_nat {d : Nat} (h : d < 10) : (UInt8.ofNat (48 + d)).toNat = 48 + d := by simp; omega
theorem dd_digit : ∀ (m : Nat), ∀ c ∈ Lib.decDigits m, 48 ≤ c.toNat ∧ c.toNat ≤ 57 := by
 intro m
 induction m using Nat.strongRecOn with
 | _ m ih =>
  intro c hc
  by_cases h : m < 10
  ·rw [dd_lt h, List.mem_singleton] at hc
   rw [hc, dig_nat h]; omega
  ·rw [dd_ge (by omega)] at hc
   rcases List.mem_append.1 hc with h1 | h1
   ·exact ih (m / 10) (by omega) c h1
   ·rw [List.mem_singleton] at h1
    rw [h1, dig_nat (by omega)]; omega
theorem dd_ne (m : Nat) : Lib.decDigits m ≠ [] := by
 by_cases h : m < 10
 ·rw [dd_lt h]; simp
 ·rw [dd_ge (by omega)]; simp
theorem dd_len : ∀ (k m : Nat), m < 10 ^ (k + 1) → (Lib.decDigits m).length ≤ k + 1
 | 0, m, h => by rw [dd_lt (by simpa using h)]; simp
 | k + 1, m, h => by
  by_cases h1 : m < 10
  ·rw [dd_lt h1]; simp
  ·have h2 : 10 ^ (k + 1 + 1) = 10 * 10 ^ (k + 1) := by rw [Nat.pow_succ, Nat.mul_comm]
   have := dd_len k (m / 10) (by omega)
   rw [dd_ge (by omega), List.length_append, List.length_singleton]; omega
theorem parse_dd (m : Nat) : ∀ (rest : List UInt8), m < 18446744073709551616 → Lib.parseUint10 0 (Lib.decDigits m ++ rest) = Lib.parseUint10 m rest := by
 induction m using Nat.strongRecOn with
 | _ m ih =>
  intro rest hm
  by_cases h : m < 10
  ·rw [dd_lt h, List.singleton_append]
   simp only [Lib.parseUint10, dig_nat h]
   rw [if_pos (by omega), if_neg (by omega), if_neg (by omega)]
   congr 1; omega
  ·rw [dd_ge (by omega), List.append_assoc, ih (m / 10) (by omega) _ (by omega), List.singleton_append]
   simp only [Lib.parseUint10, dig_nat (show m % 10 < 10 by omega)]
   rw [if_pos (by omega), if_neg (by omega), if_neg (by omega)]
   congr 1; omega
theorem atoi_itoa {n : Int} (h0 : -9223372036854775808 ≤ n) (h1 : n ≤ 9223372036854775807) : Lib.atoiAll (Lib.itoa n) = .ok n := by
 have pm : ∀ m : Nat, m < 18446744073709551616 → Lib.parseMag (Lib.decDigits m) = .ok m := by
  intro m hm
  unfold Lib.parseMag
  rw [if_neg (dd_ne m)]
  have := parse_dd m [] hm
  rw [List.append_nil] at this
  rw [this]; rfl
 unfold Lib.itoa
 by_cases hn : n < 0
 ·rw [if_pos hn]
  unfold Lib.atoiAll
  simp only
  rw [if_pos (by decide), pm n.natAbs (by omega)]
  simp only
  have h45 : (45 : UInt8).toNat = 45 := rfl
  rw [if_neg (by rw [h45]; simp), if_neg (by omega), if_pos (by rw [h45])]
  congr 1; omega
 ·rw [if_neg hn]
  obtain ⟨c, r, e⟩ := List.exists_cons_of_ne_nil (dd_ne n.toNat)
  have hc := dd_digit n.toNat c (by rw [e]; exact List.mem_cons_self ..)
  have hp := pm n.toNat (by omega)
  rw [e] at hp ⊢
  unfold Lib.atoiAll
  simp only
  rw [if_neg (by omega), hp]
  simp only
  rw [if_neg (by omega), if_neg (by omega), if_neg (by omega)]
  congr 1; omega
theorem whole_itoa {n : Int} (h0 : -9223372036854775808 ≤ n) (h1 : n ≤ 9223372036854775807) : wholeS (Lib.itoa n) = (n, true) := by
 unfold wholeS; rw [atoi_itoa h0 h1]; simp
theorem whole_not {l : List UInt8} (h : ¬ ∃ n : Int, -9223372036854775808 ≤ n ∧ n ≤ 9223372036854775807 ∧ Lib.itoa n = l) : wholeS l = (0, false) := by
 unfold wholeS
 cases ha : Lib.atoiAll l with
 | ok n =>
  have hn := atoi_range ha
  simp only
  rw [if_neg (fun e => h ⟨n, hn.1, hn.2, e⟩)]
 | range => rfl
 | _ => rfl

theorem strOf_one (v : Int) : strOfNums [v] = mkS [UInt8.ofNat v.toNat] := by
 apply B_inj; rw [B_mkS]; simp [strOfNums, B]
theorem rdec_l0 (below : Bool) (sg : Int) (hsg : sg = 1 ∨ sg = -1) (m : Nat) : ∀ (x3 : ByteArray), 0 < m → m ≤ 9223372036854775808 → 2 * x3.size + m ≤ 9223372036854775808 + 1000 →
  Ev (fun k => tendrilref02_Decimal.l0 k (sg * (m : Int)) x3 below) (mkS ((if below = true then [45] else []) ++ Lib.decDigits m ++ B x3)) := by
 induction m using Nat.strongRecOn with
 | _ m ih =>
  intro x3 hm hmx hsz
  have et : Int.tmod (sg * (m : Int)) 10 = sg * ((m % 10 : Nat) : Int) := by
   rcases hsg with rfl | rfl
   ·rw [Int.one_mul, Int.one_mul, show (10 : Int) = ((10 : Nat) : Int) from rfl, ← Int.ofNat_tmod]
   ·rw [show (-1 : Int) * (m : Int) = -(m : Int) by omega, Int.neg_tmod, show (10 : Int) = ((10 : Nat) : Int) from rfl, ← Int.ofNat_tmod]; omega
  have ed : Int.tdiv (sg * (m : Int)) 10 = sg * ((m / 10 : Nat) : Int) := by
   rcases hsg with rfl | rfl
   ·rw [Int.one_mul, Int.one_mul, show (10 : Int) = ((10 : Nat) : Int) from rfl, ← Int.ofNat_tdiv]
   ·rw [show (-1 : Int) * (m : Int) = -(m : Int) by omega, Int.neg_tdiv, show (10 : Int) = ((10 : Nat) : Int) from rfl, ← Int.ofNat_tdiv]; omega
  have ew : wrap64 (sg * ((m / 10 : Nat) : Int)) = sg * ((m / 10 : Nat) : Int) := by rcases hsg with rfl | rfl <;> (rw [w64 (by omega) (by omega)])
  have e10 : m % 10 < 10 := Nat.mod_lt _ (by decide)
  have sz1 : (mkS [UInt8.ofNat (48 + m % 10)]).size = 1 := rfl
  have step : ∀ k, tendrilref02_Decimal.l0 (k + 1) (sg * (m : Int)) x3 below = tendrilref02_Decimal.l0 k (sg * ((m / 10 : Nat) : Int)) (mkS [UInt8.ofNat (48 + m % 10)] ++ x3) below := by
   intro k
   simp only [tendrilref02_Decimal.l0]
   rw [et, ed, ew, if_neg (by rcases hsg with rfl | rfl <;> omega)]
   have hb : (48 + ((m % 10 : Nat) : Int)) % 256 = ((48 + m % 10 : Nat) : Int) := by omega
   by_cases hneg : sg * ((m % 10 : Nat) : Int) < 0
   ·rw [if_pos hneg]
    have : -(sg * ((m % 10 : Nat) : Int)) = ((m % 10 : Nat) : Int) := by rcases hsg with rfl | rfl <;> omega
    rw [this, w64 (n := ((m % 10 : Nat) : Int)) (by omega) (by omega), w64 (n := 48 + ((m % 10 : Nat) : Int)) (by omega) (by omega), hb, Option.bind_some, strOf_one, Int.toNat_natCast, if_pos (by rw [sz1]; omega)]
   ·rw [if_neg hneg]
    have : sg * ((m % 10 : Nat) : Int) = ((m % 10 : Nat) : Int) := by rcases hsg with rfl | rfl <;> omega
    rw [this, w64 (n := 48 + ((m % 10 : Nat) : Int)) (by omega) (by omega), hb, Option.bind_some, strOf_one, Int.toNat_natCast, if_pos (by rw [sz1]; omega)]
  by_cases h : m < 10
  ·have h0 : m / 10 = 0 := by omega
   rw [dd_lt h]
   rw [h0, show m % 10 = m by omega] at step
   refine Ev.step step (Ev.step (f := fun _ => some (mkS ((if below = true then [45] else []) ++ [UInt8.ofNat (48 + m)] ++ B x3))) (fun k => ?_) (Ev.now _))
   simp only [tendrilref02_Decimal.l0]
   rw [if_pos (by rcases hsg with rfl | rfl <;> omega)]
   by_cases hb : below = true
   ·rw [if_pos hb, if_pos (by rw [ByteArray.size_append]; show 1 + (1 + x3.size) ≤ _; omega), if_pos hb]
    congr 1
   ·rw [if_neg hb, if_neg hb]
    congr 1
  ·have hn := ih (m / 10) (by omega) (mkS [UInt8.ofNat (48 + m % 10)] ++ x3) (by omega) (by omega) (by rw [ByteArray.size_append, sz1]; omega)
   have er : mkS ((if below = true then [45] else []) ++ Lib.decDigits m ++ B x3) = mkS ((if below = true then [45] else []) ++ Lib.decDigits (m / 10) ++ B (mkS [UInt8.ofNat (48 + m % 10)] ++ x3)) := by
    rw [dd_ge (by omega), B_append, B_mkS]; simp
   rw [er]
   exact Ev.step step hn
theorem rdec_ev (n : Int) (h0 : -9223372036854775808 ≤ n) (h1 : n ≤ 9223372036854775807) : Ev (fun k => tendrilref02_Decimal.f k n) (mkS (Lib.itoa n)) := by
 unfold tendrilref02_Decimal.f Lib.itoa
 by_cases hz : n = 0
 ·subst hz
  exact Ev.congr (fun k => by rw [if_pos rfl]) (by rw [if_neg (by omega), show (0 : Int).toNat = 0 from rfl, dd_lt (by decide)]; exact Ev.now _)
 ·by_cases hn : n < 0
  ·have := rdec_l0 true (-1) (.inr rfl) n.natAbs ⟨#[]⟩ (by omega) (by omega) (by show 2 * 0 + _ ≤ _; omega)
   rw [if_pos hn]
   refine Ev.congr (f := fun k => tendrilref02_Decimal.l0 k (-1 * (n.natAbs : Int)) ⟨#[]⟩ true) (fun k => ?_) (by simpa [B] using this)
   rw [if_neg hz, decide_eq_true hn, show -1 * (n.natAbs : Int) = n by omega]
  ·have := rdec_l0 false 1 (.inl rfl) n.toNat ⟨#[]⟩ (by omega) (by omega) (by show 2 * 0 + _ ≤ _; omega)
   rw [if_neg hn]
   refine Ev.congr (f := fun k => tendrilref02_Decimal.l0 k (1 * (n.toNat : Int)) ⟨#[]⟩ false) (fun k => ?_) (by simpa [B] using this)
   rw [if_neg hz, decide_eq_false hn, show 1 * (n.toNat : Int) = n by omega]
end Go.Proofs.YtidcecpbihmloaaGreatDoor.M02

namespace Go.Proofs.YtidcecpbihmloaaGreatDoor.K03
open Go Go.RowKit Go.Proofs.YtidcecpbihmloaaGreatDoorE Go.Proofs.YtidcecpbihmloaaGreatDoor.L03 Go.Proofs.YtidcecpbihmloaaGreatDoorW.PrintWords Go.Proofs.YtidcecpbihmloaaGreatDoorW.PrintLast Go.Proofs.YtidcecpbihmloaaGreatDoorW.PrintMore
theorem ref_form (c : Nat) (hc : c = 38 ∨ c = 60 ∨ c = 62 ∨ c = 34 ∨ c = 127 ∨ c < 32) (rest : List UInt8) : refS (formL c ++ rest) = ((c : Int), ((formL c).length : Int)) := by
 have h : c = 0 ∨ c = 1 ∨ c = 2 ∨ c = 3 ∨ c = 4 ∨ c = 5 ∨ c = 6 ∨ c = 7 ∨ c = 8 ∨ c = 9 ∨ c = 10 ∨ c = 11 ∨ c = 12 ∨ c = 13 ∨ c = 14 ∨ c = 15 ∨ c = 16 ∨ c = 17 ∨ c = 18 ∨ c = 19 ∨ c = 20 ∨ c = 21 ∨ c = 22 ∨ c = 23 ∨ c = 24 ∨ c = 25 ∨ c = 26 ∨ c = 27 ∨ c = 28 ∨ c = 29 ∨ c = 30 ∨ c = 31 ∨ c = 34 ∨ c = 38 ∨ c = 60 ∨ c = 62 ∨ c = 127 := by omega
 rcases h with rfl | rfl | rfl | rfl | rfl | rfl | rfl | rfl | rfl | rfl | rfl | rfl | rfl | rfl | rfl | rfl | rfl | rfl | rfl | rfl | rfl | rfl | rfl | rfl | rfl | rfl | rfl | rfl | rfl | rfl | rfl | rfl | rfl | rfl | rfl | rfl | rfl
 ·have h : refS (formL 0 ++ rest) = (((0 : Nat) : Int), ((formL 0).length : Int)) := by kernel_rfl
  exact h
 ·have h : refS (formL 1 ++ rest) = (((1 : Nat) : Int), ((formL 1).length : Int)) := by kernel_rfl
  exact h
 ·have h : refS (formL 2 ++ rest) = (((2 : Nat) : Int), ((formL 2).length : Int)) := by kernel_rfl
  exact h
 ·have h : refS (formL 3 ++ rest) = (((3 : Nat) : Int), ((formL 3).length : Int)) := by kernel_rfl
  exact h
 ·have h : refS (formL 4 ++ rest) = (((4 : Nat) : Int), ((formL 4).length : Int)) := by kernel_rfl
  exact h
 ·have h : refS (formL 5 ++ rest) = (((5 : Nat) : Int), ((formL 5).length : Int)) := by kernel_rfl
  exact h
 ·have h : refS (formL 6 ++ rest) = (((6 : Nat) : Int), ((formL 6).length : Int)) := by kernel_rfl
  exact h
 ·have h : refS (formL 7 ++ rest) = (((7 : Nat) : Int), ((formL 7).length : Int)) := by kernel_rfl
  exact h
 ·have h : refS (formL 8 ++ rest) = (((8 : Nat) : Int), ((formL 8).length : Int)) := by kernel_rfl
  exact h
 ·have h : refS (formL 9 ++ rest) = (((9 : Nat) : Int), ((formL 9).length : Int)) := by kernel_rfl
  exact h
 ·have h : refS (formL 10 ++ rest) = (((10 : Nat) : Int), ((formL 10).length : Int)) := by kernel_rfl
  exact h
 ·have h : refS (formL 11 ++ rest) = (((11 : Nat) : Int), ((formL 11).length : Int)) := by kernel_rfl
  exact h
 ·have h : refS (formL 12 ++ rest) = (((12 : Nat) : Int), ((formL 12).length : Int)) := by kernel_rfl
  exact h
 ·have h : refS (formL 13 ++ rest) = (((13 : Nat) : Int), ((formL 13).length : Int)) := by kernel_rfl
  exact h
 ·have h : refS (formL 14 ++ rest) = (((14 : Nat) : Int), ((formL 14).length : Int)) := by kernel_rfl
  exact h
 ·have h : refS (formL 15 ++ rest) = (((15 : Nat) : Int), ((formL 15).length : Int)) := by kernel_rfl
  exact h
 ·have h : refS (formL 16 ++ rest) = (((16 : Nat) : Int), ((formL 16).length : Int)) := by kernel_rfl
  exact h
 ·have h : refS (formL 17 ++ rest) = (((17 : Nat) : Int), ((formL 17).length : Int)) := by kernel_rfl
  exact h
 ·have h : refS (formL 18 ++ rest) = (((18 : Nat) : Int), ((formL 18).length : Int)) := by kernel_rfl
  exact h
 ·have h : refS (formL 19 ++ rest) = (((19 : Nat) : Int), ((formL 19).length : Int)) := by kernel_rfl
  exact h
 ·have h : refS (formL 20 ++ rest) = (((20 : Nat) : Int), ((formL 20).length : Int)) := by kernel_rfl
  exact h
 ·have h : refS (formL 21 ++ rest) = (((21 : Nat) : Int), ((formL 21).length : Int)) := by kernel_rfl
  exact h
 ·have h : refS (formL 22 ++ rest) = (((22 : Nat) : Int), ((formL 22).length : Int)) := by kernel_rfl
  exact h
 ·have h : refS (formL 23 ++ rest) = (((23 : Nat) : Int), ((formL 23).length : Int)) := by kernel_rfl
  exact h
 ·have h : refS (formL 24 ++ rest) = (((24 : Nat) : Int), ((formL 24).length : Int)) := by kernel_rfl
  exact h
 ·have h : refS (formL 25 ++ rest) = (((25 : Nat) : Int), ((formL 25).length : Int)) := by kernel_rfl
  exact h
 ·have h : refS (formL 26 ++ rest) = (((26 : Nat) : Int), ((formL 26).length : Int)) := by kernel_rfl
  exact h
 ·have h : refS (formL 27 ++ rest) = (((27 : Nat) : Int), ((formL 27).length : Int)) := by kernel_rfl
  exact h
 ·have h : refS (formL 28 ++ rest) = (((28 : Nat) : Int), ((formL 28).length : Int)) := by kernel_rfl
  exact h
 ·have h : refS (formL 29 ++ rest) = (((29 : Nat) : Int), ((formL 29).length : Int)) := by kernel_rfl
  exact h
 ·have h : refS (formL 30 ++ rest) = (((30 : Nat) : Int), ((formL 30).length : Int)) := by kernel_rfl
  exact h
 ·have h : refS (formL 31 ++ rest) = (((31 : Nat) : Int), ((formL 31).length : Int)) := by kernel_rfl
  exact h
 ·have h : refS (formL 34 ++ rest) = (((34 : Nat) : Int), ((formL 34).length : Int)) := by kernel_rfl
  exact h
 ·have h : refS (formL 38 ++ rest) = (((38 : Nat) : Int), ((formL 38).length : Int)) := by kernel_rfl
  exact h
 ·have h : refS (formL 60 ++ rest) = (((60 : Nat) : Int), ((formL 60).length : Int)) := by kernel_rfl
  exact h
 ·have h : refS (formL 62 ++ rest) = (((62 : Nat) : Int), ((formL 62).length : Int)) := by kernel_rfl
  exact h
 ·have h : refS (formL 127 ++ rest) = (((127 : Nat) : Int), ((formL 127).length : Int)) := by kernel_rfl
  exact h
theorem step_form (c : UInt8) (rest : List UInt8) : stepU (escB c ++ rest) = (c, (escB c).length) := by
 unfold escB
 by_cases hf : formL c.toNat = []
 ·rw [if_pos hf]
  have hn : c.toNat ≠ 38 := by intro e; rw [e] at hf; exact absurd hf (by decide)
  simp only [List.cons_append, List.nil_append, stepU]
  rw [if_neg hn, if_pos hf]
  rfl
 ·rw [if_neg hf]
  have hc : c.toNat = 38 ∨ c.toNat = 60 ∨ c.toNat = 62 ∨ c.toNat = 34 ∨ c.toNat = 127 ∨ c.toNat < 32 := by
   unfold formL at hf
   by_cases h1 : c.toNat = 38
   ·exact .inl h1
   ·rw [if_neg h1] at hf
    by_cases h2 : c.toNat = 60
    ·exact .inr (.inl h2)
    ·rw [if_neg h2] at hf
     by_cases h3 : c.toNat = 62
     ·exact .inr (.inr (.inl h3))
     ·rw [if_neg h3] at hf
      by_cases h4 : c.toNat = 34
      ·exact .inr (.inr (.inr (.inl h4)))
      ·rw [if_neg h4] at hf
       by_cases h5 : c.toNat = 127 ∨ c.toNat < 32
       ·exact .inr (.inr (.inr (.inr h5)))
       ·rw [if_neg h5] at hf
        exact absurd rfl hf
  have hr := ref_form c.toNat hc rest
  obtain ⟨t, ht⟩ : ∃ t, formL c.toNat = 38 :: t := by
   unfold formL
   rcases hc with h | h | h | h | h | h
   ·rw [if_pos h]; exact ⟨_, rfl⟩
   ·rw [if_neg (by omega), if_pos h]; exact ⟨_, rfl⟩
   ·rw [if_neg (by omega), if_neg (by omega), if_pos h]; exact ⟨_, rfl⟩
   ·rw [if_neg (by omega), if_neg (by omega), if_neg (by omega), if_pos h]; exact ⟨_, rfl⟩
   ·rw [if_neg (by omega), if_neg (by omega), if_neg (by omega), if_neg (by omega), if_pos (.inl h)]; exact ⟨_, rfl⟩
   ·rw [if_neg (by omega), if_neg (by omega), if_neg (by omega), if_neg (by omega), if_pos (.inr h)]; exact ⟨_, rfl⟩
  rw [ht] at hr ⊢
  simp only [List.cons_append, stepU]
  rw [List.cons_append] at hr
  rw [if_pos (by decide), hr]
  simp
def sgn : List UInt8 := [60, 62, 34]
end Go.Proofs.YtidcecpbihmloaaGreatDoor.K03

namespace Go.Proofs.YtidcecpbihmloaaGreatDoor.K04
open Go Go.Proofs.YtidcecpbihmloaaGreatDoor.L03 Go.RowKit Go.Proofs.YtidcecpbihmloaaGreatDoorE Go.Proofs.YtidcecpbihmloaaGreatDoorW.PrintWords
theorem escB_of {n : Nat} (hn : n ≤ 255) (h : formL n ≠ []) : escB ((n : Int).toNat.toUInt8) = formL n := by
 have e : ((n : Int).toNat.toUInt8).toNat = n := by simp; omega
 unfold escB
 rw [e, if_neg h]
theorem ref_esc (l : List UInt8) (h : (refS l).2.toNat ≠ 0) : escB ((refS l).1.toNat.toUInt8) = l.take (refS l).2.toNat := by
 revert h
 unfold refS
 split
 ·rename_i c hc
  intro h
  have h1 := List.find?_some hc
  have h2 := List.mem_of_find?_eq_some hc
  have h3 : c ≤ 255 := by
   have := List.mem_of_mem_take h2
   simp [signs] at this
   omega
  have h4 := List.prefix_iff_eq_take.1 (List.isPrefixOf_iff_prefix.1 h1)
  have h5 : formL c ≠ [] := by intro e; rw [e] at h; simp at h
  rw [escB_of h3 h5]
  simpa using h4
 ·split
  ·rename_i hp
   have hix := index_num _ hp
   unfold numS
   split
   ·intro h; simp at h
   ·split
    ·split
     ·rename_i n _ hn
      intro h
      obtain ⟨n0, n1, he⟩ := hn
      obtain ⟨m, rfl⟩ := Int.eq_ofNat_of_zero_le n0
      have hne : formL m ≠ [] := by
       intro e
       rw [Int.toNat_natCast, e] at he
       have := congrArg List.length he
       rw [List.length_take, List.length_nil] at this
       omega
      simp only
      rw [escB_of (by omega) hne, ← show (m : Int).toNat = m from rfl, he]
      congr 1
      omega
     ·intro h; simp at h
    ·intro h; simp at h
  ·intro h; simp at h
theorem step_esc (l : List UInt8) (h : (stepU l).2 ≠ 0) : (stepU l).2 ≤ l.length ∧ escB (stepU l).1 = l.take (stepU l).2 := by
 cases l with
 | nil => simp [stepU] at h
 | cons c t =>
  simp only [stepU] at h ⊢
  split
  ·rename_i hc
   rw [if_pos hc] at h
   have hr := refS_range (c :: t)
   exact ⟨by simp only; omega, ref_esc _ h⟩
  ·rename_i hc
   rw [if_neg hc] at h
   split
   ·rename_i hf
    refine ⟨by simp, ?_⟩
    unfold escB
    rw [if_pos hf]; rfl
   ·rename_i hf
    rw [if_neg hf] at h
    exact absurd rfl h
theorem escS_append (a b : List UInt8) : escS (a ++ b) = escS a ++ escS b := by simp [escS]
theorem escS_one (c : UInt8) : escS [c] = escB c := by simp [escS]
theorem un_esc (d : Nat) : ∀ (l : List UInt8) (pos : Nat) (out : List UInt8), l.length ≤ d →
  ((unS l pos out).2.2 = 0 ∧ escS (unS l pos out).1 = escS out ++ l) ∨ ((unS l pos out).2.2 = 2 ∧ (unS l pos out).1 = [] ∧ (pos : Int) ≤ (unS l pos out).2.1 ∧ (unS l pos out).2.1 < pos + l.length) := by
 induction d with
 | zero =>
  intro l pos out hl
  obtain rfl : l = [] := List.length_eq_zero_iff.1 (by omega)
  rw [unS_nil]; left; simp
 | succ d ih =>
  intro l pos out hl
  by_cases hn : l = []
  ·subst hn; rw [unS_nil]; left; simp
  ·have hp := List.length_pos_iff.2 hn
   rw [unS_cons l hn]
   by_cases h0 : (stepU l).2 = 0
   ·rw [if_pos h0]; right
    refine ⟨rfl, rfl, Int.le_refl _, ?_⟩
    simp only; omega
   ·rw [if_neg h0]
    obtain ⟨h1, h2⟩ := step_esc l h0
    have hd : (l.drop (stepU l).2).length = l.length - (stepU l).2 := List.length_drop ..
    rcases ih (l.drop (stepU l).2) (pos + (stepU l).2) (out ++ [(stepU l).1]) (by omega) with ⟨a, b⟩ | ⟨a, b, c, e⟩
    ·left
     refine ⟨a, ?_⟩
     rw [b, escS_append, escS_one, h2, List.append_assoc, List.take_append_drop]
    ·right
     exact ⟨a, b, by omega, by omega⟩
theorem escS_ge : ∀ l : List UInt8, l.length ≤ (escS l).length
 | [] => Nat.zero_le _
 | c :: t => by
  have h := escS_ge t
  have h2 : 1 ≤ (escB c).length := by
   unfold escB
   split
   ·simp
   ·rename_i hf
    exact List.length_pos_iff.2 hf
  unfold escS at h ⊢
  rw [List.flatMap_cons, List.length_append, List.length_cons]; omega
end Go.Proofs.YtidcecpbihmloaaGreatDoor.K04

namespace Go.Proofs.YtidcecpbihmloaaGreatDoorE
open Go Go.RowKit
abbrev em : ByteArray := ⟨#[]⟩
def sgn : List UInt8 := [60, 62, 34]
def stopS (l : List UInt8) : Nat := l.findIdx fun b => sgn.contains b
def mkB (l : List UInt8) : ByteArray := ⟨l.toArray⟩
theorem mkB_list (l : List UInt8) : (mkB l).data.toList = l := rfl
theorem mkB_size (l : List UInt8) : (mkB l).size = l.length := List.size_toArray
end Go.Proofs.YtidcecpbihmloaaGreatDoorE

namespace Go.Proofs.YtidcecpbihmloaaGreatDoorE
open Go Go.RowKit Go.Proofs.YtidcecpbihmloaaGreatDoor.M02 Go.Proofs.YtidcecpbihmloaaGreatDoor.P16
set_option linter.unusedVariables false
set_option linter.unusedSimpArgs false
def isLet (c : UInt8) : Bool := decide (97 ≤ c.toNat ∧ c.toNat ≤ 122)
def isDig (c : UInt8) : Bool := decide (c.toNat = 45) || decide (48 ≤ c.toNat ∧ c.toNat ≤ 57)
def isNam (c : UInt8) : Bool := isLet c || isDig c || decide (c.toNat = 58) || decide (c.toNat = 46)
/-- The fields that a kind does not name are zero. -/
def plainD (d : S25) : Bool :=
 if d.f0 = 0 then decide (d.f1 = 0) && d.f2.data.toList.isEmpty && d.f3.isEmpty && d.f4.isEmpty
 else if d.f0 = 1 then (decide (d.f1 = 0) || decide (d.f1 = 1)) && d.f2.data.toList.isEmpty && d.f3.isEmpty && d.f4.isEmpty
 else if d.f0 = 2 then d.f2.data.toList.isEmpty && d.f3.isEmpty && d.f4.isEmpty
 else if d.f0 = 3 then decide (d.f1 = 0) && d.f3.isEmpty && d.f4.isEmpty && decide (d.f2.size ≤ 65536)
 else if d.f0 = 4 then decide (d.f1 = 0) && d.f2.data.toList.isEmpty && d.f3.isEmpty
 else if d.f0 = 5 then decide (d.f1 = 0) && d.f2.data.toList.isEmpty && decide (d.f3.length = d.f4.length)
 else false
/-- Names, in ascending order. -/
def namesD : List ByteArray → Bool
 | [] => true
 | [n] => namedS true n.data.toList
 | n :: m :: l => namedS true n.data.toList && Op.bytesLess n.data.toList m.data.toList && namesD (m :: l)
mutual
/-- What is left of so many pieces, less those of a piece; none: it is not right. -/
def weighD : S25 → Nat → Nat → Option Nat
 | ⟨k, n, t, ns, l⟩, left, op => if left = 0 ∨ plainD ⟨k, n, t, ns, l⟩ = false ∨ (k > 3 ∧ op = 16) ∨ namesD ns = false then none else weighL l (left - 1) (op + 1)
def weighL : List S25 → Nat → Nat → Option Nat
 | [], left, _ => some left
 | d :: l, left, op => match weighD d left op with
  | none => none
  | some r => weighL l r op
end
def rightD (d : S25) : Bool := (weighD d 2000 0).isSome
mutual
def printD : S25 → List UInt8
 | ⟨k, n, t, ns, l⟩ =>
  if k = 0 then [110, 111, 110, 101] else if k = 1 then (if n = 1 then [121, 101, 115] else [110, 111]) else if k = 2 then Lib.itoa n
  else if k = 3 then 34 :: (escS t.data.toList ++ [34])
  else if k = 4 then 91 :: (printL false [] l ++ [93]) else 123 :: (printL true ns l ++ [125])
/-- The members, commas between. -/
def printL : Bool → List ByteArray → List S25 → List UInt8
 | _, _, [] => []
 | b, ns, d :: l => (if b then (ns.headD em).data.toList ++ [61] else []) ++ printD d ++ (match l with
  | [] => []
  | e :: r => 44 :: printL b ns.tail (e :: r))
end
/-- What a reading comes to: a thing, and where it stands then; or the place and the kind of what is wrong. -/
inductive Res (α : Type) where
 | ok (a : α) (at_ : Nat) (rest : List UInt8)
 | err (at_ : Nat) (code : Int)
def wordD (w : List UInt8) : Option S25 :=
 if w = [110, 111, 110, 101] then some ⟨0, 0, em, [], []⟩ else if w = [110, 111] then some ⟨1, 0, em, [], []⟩ else if w = [121, 101, 115] then some ⟨1, 1, em, [], []⟩ else none
/-- A text behind its quote. -/
def textD (t : List UInt8) (at_ : Nat) : Res S25 :=
 if (unS (t.take (stopS t)) 0 []).2.2 ≠ 0 then .err (at_ + (unS (t.take (stopS t)) 0 []).2.1.toNat) 2
 else if (t.drop (stopS t)).head? = some 34 then .ok ⟨3, 0, mkB (unS (t.take (stopS t)) 0 []).1, [], []⟩ (at_ + stopS t + 1) (t.drop (stopS t + 1)) else .err (at_ + stopS t) 2
mutual
/-- One piece; n: more than there are bytes. -/
def pieceS : Nat → List UInt8 → Nat → Nat → Res S25
 | 0, _, at_, _ => .err at_ 2
 | n + 1, l, at_, deep => match l with
  | [] => .err at_ 2
  | c :: t =>
   if isLet c then (match wordD ((c :: t).takeWhile isLet) with
    | some d => .ok d (at_ + ((c :: t).takeWhile isLet).length) ((c :: t).dropWhile isLet)
    | none => .err at_ 2)
   else if isDig c then (if (wholeS ((c :: t).takeWhile isDig)).2 then .ok ⟨2, (wholeS ((c :: t).takeWhile isDig)).1, em, [], []⟩ (at_ + ((c :: t).takeWhile isDig).length) ((c :: t).dropWhile isDig) else .err at_ 2)
   else if c = 34 then textD t (at_ + 1)
   else if c = 91 ∨ c = 123 then (if 16 ≤ deep then .err at_ 11 else
    if t.head? = some (if c = 123 then 125 else 93) then .ok ⟨if c = 123 then 5 else 4, 0, em, [], []⟩ (at_ + 2) (t.drop 1) else membersS n t (at_ + 1) (deep + 1) (decide (c = 123)) [] [])
   else .err at_ 2
/-- The members of a list or a record that is open. -/
def membersS : Nat → List UInt8 → Nat → Nat → Bool → List ByteArray → List S25 → Res S25
 | 0, _, at_, _, _, _, _ => .err at_ 2
 | n + 1, l, at_, deep, b, ns, ds =>
  if b then (if namedS true (l.takeWhile isNam) then (if (l.dropWhile isNam).head? = some 61 then tailS n ((l.dropWhile isNam).drop 1) (at_ + (l.takeWhile isNam).length + 1) deep b (ns ++ [mkB (l.takeWhile isNam)]) ds else .err (at_ + (l.takeWhile isNam).length) 2) else .err at_ 2)
  else tailS n l at_ deep b ns ds
/-- The piece of a member, and what stands behind it. -/
def tailS : Nat → List UInt8 → Nat → Nat → Bool → List ByteArray → List S25 → Res S25
 | 0, _, at_, _, _, _, _ => .err at_ 2
 | n + 1, l, at_, deep, b, ns, ds => match pieceS n l at_ deep with
  | .err a e => .err a e
  | .ok d a r =>
   if r.head? = some 44 then membersS n (r.drop 1) (a + 1) deep b ns (ds ++ [d])
   else if r.head? = some (if b then 125 else 93) then .ok ⟨if b then 5 else 4, 0, em, ns, ds ++ [d]⟩ (a + 1) (r.drop 1)
   else .err a 2
end
end Go.Proofs.YtidcecpbihmloaaGreatDoorE

namespace Go.Proofs.YtidcecpbihmloaaGreatDoorE
open Go Go.RowKit Go.Proofs.YtidcecpbihmloaaGreatDoor.M02 Go.Proofs.YtidcecpbihmloaaGreatDoor.P16
set_option linter.unusedVariables false
set_option linter.unusedSimpArgs false
theorem d_nil {t : ByteArray} (h : t.data.toList.isEmpty = true) : t = em := by
 cases t with
 | mk d =>
  cases d with
  | mk l =>
   cases l with
   | nil => rfl
   | cons c l => simp at h
theorem plain_cases {k n : Int} {t : ByteArray} {ns : List ByteArray} {l : List S25} (h : plainD ⟨k, n, t, ns, l⟩ = true) :
  (k = 0 ∧ n = 0 ∧ t = em ∧ ns = [] ∧ l = []) ∨ (k = 1 ∧ (n = 0 ∨ n = 1) ∧ t = em ∧ ns = [] ∧ l = []) ∨ (k = 2 ∧ t = em ∧ ns = [] ∧ l = [])
  ∨ (k = 3 ∧ n = 0 ∧ ns = [] ∧ l = [] ∧ t.size ≤ 65536) ∨ (k = 4 ∧ n = 0 ∧ t = em ∧ ns = []) ∨ (k = 5 ∧ n = 0 ∧ t = em ∧ ns.length = l.length) := by
 unfold plainD at h
 simp only at h
 split at h
 ·rename_i hk
  simp only [Bool.and_eq_true, decide_eq_true_eq, List.isEmpty_iff] at h
  exact Or.inl ⟨hk, h.1.1.1, d_nil (List.isEmpty_iff.2 h.1.1.2), h.1.2, h.2⟩
 split at h
 ·rename_i hk
  simp only [Bool.and_eq_true, Bool.or_eq_true, decide_eq_true_eq, List.isEmpty_iff] at h
  exact Or.inr (Or.inl ⟨hk, h.1.1.1, d_nil (List.isEmpty_iff.2 h.1.1.2), h.1.2, h.2⟩)
 split at h
 ·rename_i hk
  simp only [Bool.and_eq_true, decide_eq_true_eq, List.isEmpty_iff] at h
  exact Or.inr (Or.inr (Or.inl ⟨hk, d_nil (List.isEmpty_iff.2 h.1.1), h.1.2, h.2⟩))
 split at h
 ·rename_i hk
  simp only [Bool.and_eq_true, decide_eq_true_eq, List.isEmpty_iff] at h
  exact Or.inr (Or.inr (Or.inr (Or.inl ⟨hk, h.1.1.1, h.1.1.2, h.1.2, h.2⟩)))
 split at h
 ·rename_i hk
  simp only [Bool.and_eq_true, decide_eq_true_eq, List.isEmpty_iff] at h
  exact Or.inr (Or.inr (Or.inr (Or.inr (Or.inl ⟨hk, h.1.1, d_nil (List.isEmpty_iff.2 h.1.2), h.2⟩))))
 split at h
 ·rename_i hk
  simp only [Bool.and_eq_true, decide_eq_true_eq, List.isEmpty_iff] at h
  exact Or.inr (Or.inr (Or.inr (Or.inr (Or.inr ⟨hk, h.1.1, d_nil (List.isEmpty_iff.2 h.1.2), h.2⟩))))
 ·simp at h
theorem names_all : ∀ {ns : List ByteArray}, namesD ns = true → ∀ x ∈ ns, namedS true x.data.toList = true
 | [], _, x, hx => by simp at hx
 | [n], h, x, hx => by
  rw [List.mem_singleton.1 hx]; exact h
 | n :: m :: l, h, x, hx => by
  simp only [namesD, Bool.and_eq_true] at h
  rcases List.mem_cons.1 hx with rfl | hx
  ·exact h.1.1
  ·exact names_all h.2 x hx
mutual
/-- The numbers within are numbers of the machine. -/
def numsD : S25 → Prop
 | ⟨k, n, t, ns, l⟩ => (-9223372036854775808 ≤ n ∧ n ≤ 9223372036854775807) ∧ numsL l
def numsL : List S25 → Prop
 | [] => True
 | d :: l => numsD d ∧ numsL l
end
theorem weigh_plain {d : S25} {left op r : Nat} (h : weighD d left op = some r) : left ≠ 0 ∧ plainD d = true ∧ ¬ (d.f0 > 3 ∧ op = 16) ∧ namesD d.f3 = true ∧ weighL d.f4 (left - 1) (op + 1) = some r := by
 rcases d with ⟨k, n, t, ns, l⟩
 rw [weighD] at h
 split at h
 ·simp at h
 ·rename_i hc
  rw [not_or, not_or, not_or] at hc
  refine ⟨hc.1, by simpa using hc.2.1, hc.2.2.1, by simpa using hc.2.2.2, h⟩
/-- What stands behind a member. -/
def moreL (b : Bool) (ns : List ByteArray) (l : List S25) : List UInt8 := match l with
 | [] => []
 | e :: r => 44 :: printL b ns (e :: r)
theorem printL_cons (b : Bool) (ns : List ByteArray) (d : S25) (l : List S25) : printL b ns (d :: l) = (if b then (ns.headD em).data.toList ++ [61] else []) ++ printD d ++ moreL b ns.tail l := by
 cases l <;> simp [printL, moreL]
end Go.Proofs.YtidcecpbihmloaaGreatDoorE

namespace Go.Proofs.YtidcecpbihmloaaGreatDoorE
open Go Go.RowKit Go.Proofs.YtidcecpbihmloaaGreatDoor.M02 Go.Proofs.YtidcecpbihmloaaGreatDoor.P16
set_option linter.unusedVariables false
set_option linter.unusedSimpArgs false
theorem whole_of {l : List UInt8} (h : (wholeS l).2 = true) : (-9223372036854775808 ≤ (wholeS l).1 ∧ (wholeS l).1 ≤ 9223372036854775807) ∧ Lib.itoa (wholeS l).1 = l := by
 by_cases hc : ∃ n : Int, -9223372036854775808 ≤ n ∧ n ≤ 9223372036854775807 ∧ Lib.itoa n = l
 ·obtain ⟨n, h0, h1, rfl⟩ := hc
  rw [whole_itoa h0 h1]
  exact ⟨⟨h0, h1⟩, rfl⟩
 ·rw [whole_not hc] at h
  simp at h
theorem un_back (t : List UInt8) (h : (unS t 0 []).2.2 = 0) : escS (unS t 0 []).1 = t := by
 rcases Go.Proofs.YtidcecpbihmloaaGreatDoor.K04.un_esc t.length t 0 [] (Nat.le_refl _) with h' | h'
 ·rw [h'.2]; rfl
 ·rw [h] at h'; exact absurd h'.1 (by decide)
theorem head_at {l : List UInt8} {c : UInt8} (h : l.head? = some c) : l = c :: l.drop 1 := by
 cases l with
 | nil => simp at h
 | cons x l => simp at h; rw [h]; rfl
theorem word_back {w : List UInt8} {d : S25} (h : wordD w = some d) : printD d = w ∧ numsD d := by
 unfold wordD at h
 split at h
 ·rename_i hw; injection h with h; rw [← h, hw]; exact ⟨rfl, by simp [numsD, numsL]⟩
 split at h
 ·rename_i hw; injection h with h; rw [← h, hw]; exact ⟨rfl, by simp [numsD, numsL]⟩
 split at h
 ·rename_i hw; injection h with h; rw [← h, hw]; exact ⟨rfl, by simp [numsD, numsL]⟩
 ·simp at h
theorem text_back {t : List UInt8} {a a' : Nat} {d : S25} {r : List UInt8} (h : textD t a = .ok d a' r) : 34 :: t = printD d ++ r ∧ a' + 1 = a + (printD d).length ∧ numsD d := by
 unfold textD at h
 split at h
 ·simp at h
 rename_i h0
 split at h
 ·rename_i h1
  injection h with hd ha hr
  have hb := un_back _ (Decidable.not_not.1 h0)
  have hp : printD d = 34 :: (t.take (stopS t) ++ [34]) := by
   rw [← hd]
   have hpr : ∀ x : ByteArray, printD (⟨3, 0, x, [], []⟩ : S25) = 34 :: (escS x.data.toList ++ [34]) := fun _ => rfl
   rw [hpr, mkB_list, hb]
  have hd1 := head_at h1
  rw [List.drop_drop] at hd1
  have ht : t.take (stopS t) ++ 34 :: r = t := by
   rw [← hr, ← hd1, List.take_append_drop]
  have hlen : (t.take (stopS t)).length = stopS t := by
   rw [List.length_take]
   exact Nat.min_eq_left List.findIdx_le_length
  refine ⟨?_, ?_, ?_⟩
  ·rw [hp]; simp [ht]
  ·rw [hp, ← ha]
   simp only [List.length_cons, List.length_append, List.length_nil, hlen]
   omega
  ·rw [← hd]; simp [numsD, numsL]
 ·simp at h
theorem print_read (n : Nat) :
  (∀ (l : List UInt8) (a deep : Nat) (d : S25) (a' : Nat) (r : List UInt8), pieceS n l a deep = .ok d a' r → l = printD d ++ r ∧ a' = a + (printD d).length ∧ numsD d)
  ∧ (∀ (l : List UInt8) (a deep : Nat) (b : Bool) (ns0 : List ByteArray) (ds0 : List S25) (d : S25) (a' : Nat) (r : List UInt8), membersS n l a deep b ns0 ds0 = .ok d a' r →
   ∃ ns ds, d = ⟨if b then 5 else 4, 0, em, ns0 ++ ns, ds0 ++ ds⟩ ∧ ds ≠ [] ∧ (b = false → ns = []) ∧ (b = true → ns.length = ds.length) ∧ l = printL b ns ds ++ (if b then 125 else 93) :: r ∧ a' = a + (printL b ns ds).length + 1 ∧ numsL ds)
  ∧ (∀ (l : List UInt8) (a deep : Nat) (b : Bool) (ns0 : List ByteArray) (ds0 : List S25) (d : S25) (a' : Nat) (r : List UInt8), tailS n l a deep b ns0 ds0 = .ok d a' r →
   ∃ ns e ds, d = ⟨if b then 5 else 4, 0, em, ns0 ++ ns, ds0 ++ e :: ds⟩ ∧ (b = false → ns = []) ∧ (b = true → ns.length = ds.length) ∧ l = printD e ++ moreL b ns ds ++ (if b then 125 else 93) :: r ∧ a' = a + (printD e).length + (moreL b ns ds).length + 1 ∧ numsD e ∧ numsL ds) := by
 induction n with
 | zero =>
  refine ⟨?_, ?_, ?_⟩
  ·intro l a deep d a' r h; simp [pieceS] at h
  ·intro l a deep b ns0 ds0 d a' r h; simp [membersS] at h
  ·intro l a deep b ns0 ds0 d a' r h; simp [tailS] at h
 | succ n ih =>
  obtain ⟨ihP, ihM, ihT⟩ := ih
  refine ⟨?_, ?_, ?_⟩
  ·intro l a deep d a' r h
   cases l with
   | nil => simp [pieceS] at h
   | cons c t =>
    rw [pieceS] at h
    split at h
    ·rename_i hc
     split at h
     ·rename_i x hw
      injection h with h1 h2 h3
      have hp := word_back hw
      rw [h1] at hp
      rw [← h2, ← h3, hp.1, List.takeWhile_append_dropWhile]
      exact ⟨rfl, rfl, hp.2⟩
     ·simp at h
    split at h
    ·rename_i hc
     split at h
     ·rename_i hw
      injection h with h1 h2 h3
      have hp := whole_of hw
      have hpr : printD d = (c :: t).takeWhile isDig := by
       rw [← h1]
       exact hp.2
      rw [← h2, ← h3, hpr, List.takeWhile_append_dropWhile, ← h1]
      exact ⟨rfl, rfl, by rw [numsD]; exact ⟨hp.1, by simp [numsL]⟩⟩
     ·simp at h
    split at h
    ·rename_i hc
     have hb := text_back h
     rw [hc]
     exact ⟨hb.1, by omega, hb.2.2⟩
    split at h
    ·rename_i hc
     by_cases hdp : 16 ≤ deep
     ·rw [if_pos hdp] at h; simp at h
     rw [if_neg hdp] at h
     rcases hc with rfl | rfl
     ·rw [if_neg (show ¬ ((91 : UInt8) = 123) by decide), if_neg (show ¬ ((91 : UInt8) = 123) by decide)] at h
      by_cases ht : t.head? = some 93
      ·rw [if_pos ht] at h
       injection h with h1 h2 h3
       have hd1 := head_at ht
       rw [← h1, ← h2, ← h3]
       have hpr : printD (⟨4, 0, em, [], []⟩ : S25) = [91, 93] := rfl
       rw [hpr]
       exact ⟨by rw [hd1]; rfl, rfl, by simp [numsD, numsL]⟩
      ·rw [if_neg ht] at h
       obtain ⟨ns, ds, rfl, hne, hb0, hb1, hl, ha, hn⟩ := ihM _ _ _ _ _ _ _ _ _ h
       rw [show decide ((91 : UInt8) = 123) = false from by decide] at hl ha hb0 ⊢
       rw [List.nil_append, List.nil_append]
       have hpr : printD (⟨4, 0, em, ns, ds⟩ : S25) = 91 :: (printL false [] ds ++ [93]) := rfl
       have hn0 := hb0 rfl
       subst hn0
       simp only [Bool.false_eq_true, if_false] at hl ha ⊢
       rw [hpr, hl]
       refine ⟨by simp, ?_, ?_⟩
       ·rw [ha]; simp only [List.length_cons, List.length_append, List.length_nil]; omega
       ·rw [numsD]; exact ⟨by decide, hn⟩
     ·rw [if_pos (show ((123 : UInt8) = 123) by decide), if_pos (show ((123 : UInt8) = 123) by decide)] at h
      by_cases ht : t.head? = some 125
      ·rw [if_pos ht] at h
       injection h with h1 h2 h3
       have hd1 := head_at ht
       rw [← h1, ← h2, ← h3]
       have hpr : printD (⟨5, 0, em, [], []⟩ : S25) = [123, 125] := rfl
       rw [hpr]
       exact ⟨by rw [hd1]; rfl, rfl, by simp [numsD, numsL]⟩
      ·rw [if_neg ht] at h
       obtain ⟨ns, ds, rfl, hne, hb0, hb1, hl, ha, hn⟩ := ihM _ _ _ _ _ _ _ _ _ h
       rw [show decide ((123 : UInt8) = 123) = true from by decide] at hl ha hb1 ⊢
       rw [List.nil_append, List.nil_append]
       have hpr : printD (⟨5, 0, em, ns, ds⟩ : S25) = 123 :: (printL true ns ds ++ [125]) := rfl
       simp only [if_true] at hl ha ⊢
       rw [hpr, hl]
       refine ⟨by simp, ?_, ?_⟩
       ·rw [ha]; simp only [List.length_cons, List.length_append, List.length_nil]; omega
       ·rw [numsD]; exact ⟨by decide, hn⟩
    ·simp at h
  ·intro l a deep b ns0 ds0 d a' r h
   rw [membersS] at h
   cases b with
   | false =>
    rw [if_neg (by simp)] at h
    obtain ⟨ns, e, ds, rfl, hb0, hb1, hl, ha, hn⟩ := ihT _ _ _ _ _ _ _ _ _ h
    have hn0 := hb0 rfl
    subst hn0
    refine ⟨[], e :: ds, rfl, by simp, fun _ => rfl, fun h => (by cases h), ?_, ?_, by rw [numsL]; exact hn⟩
    ·rw [hl, printL_cons]; simp
    ·rw [ha, printL_cons]; simp [Nat.add_assoc]
   | true =>
    rw [if_pos rfl] at h
    split at h
    ·rename_i hnm
     split at h
     ·rename_i h61
      obtain ⟨ns, e, ds, rfl, hb0, hb1, hl, ha, hn⟩ := ihT _ _ _ _ _ _ _ _ _ h
      refine ⟨mkB (l.takeWhile isNam) :: ns, e :: ds, by simp, by simp, fun h => (by cases h), fun _ => by simp [hb1 rfl], ?_, ?_, by rw [numsL]; exact hn⟩
      ·have e1 : l = l.takeWhile isNam ++ 61 :: (printD e ++ moreL true ns ds ++ 125 :: r) := by
        have := head_at h61
        rw [hl] at this
        simp only [if_true] at this
        rw [← this, List.takeWhile_append_dropWhile]
       rw [printL_cons]
       simp only [if_true, List.headD_cons, List.tail_cons, mkB_list]
       simpa using e1
      ·rw [ha, printL_cons]
       simp only [if_true, List.headD_cons, List.tail_cons, mkB_list, List.length_append, List.length_cons, List.length_nil]
       omega
     ·simp at h
    ·simp at h
  ·intro l a deep b ns0 ds0 d a' r h
   rw [tailS] at h
   cases hp : pieceS n l a deep with
   | err x y => rw [hp] at h; simp at h
   | ok e a1 r1 =>
    rw [hp] at h
    obtain ⟨p1, p2, p3⟩ := ihP _ _ _ _ _ _ hp
    simp only at h
    split at h
    ·rename_i h44
     obtain ⟨ns, ds, rfl, hne, hb0, hb1, hl, ha, hn⟩ := ihM _ _ _ _ _ _ _ _ _ h
     obtain ⟨x, ds, rfl⟩ : ∃ x s, ds = x :: s := by
      cases ds with
      | nil => exact absurd rfl hne
      | cons x s => exact ⟨x, s, rfl⟩
     refine ⟨ns, e, x :: ds, by simp, hb0, hb1, ?_, ?_, p3, hn⟩
     ·have h1 := head_at h44
      rw [hl] at h1
      rw [p1, h1, moreL]; simp
     ·rw [ha, p2, moreL]; simp only [List.length_cons]; omega
    by_cases hsh : r1.head? = some (if b then 125 else 93)
    ·rw [if_pos hsh] at h
     injection h with h1 h2 h3
     refine ⟨[], e, [], ?_, fun _ => rfl, fun _ => rfl, ?_, ?_, p3, by simp [numsL]⟩
     ·rw [← h1]; simp
     ·have h4 := head_at hsh
      rw [h3] at h4
      rw [p1, h4, moreL]; simp
     ·rw [← h2, p2, moreL]; simp
    ·rw [if_neg hsh] at h; simp at h
end Go.Proofs.YtidcecpbihmloaaGreatDoorE

namespace Go.Proofs.YtidcecpbihmloaaGreatDoorE
open Go Go.RowKit Go.Proofs.YtidcecpbihmloaaGreatDoor.M02 Go.Proofs.YtidcecpbihmloaaGreatDoor.P16
set_option linter.unusedVariables false
set_option linter.unusedSimpArgs false
/-- An order, told by a number. -/
structure Ord3 {α : Type} (f : α → α → Int) : Prop where
 neg : ∀ a b, f b a = - f a b
 eq : ∀ a b, f a b = 0 ↔ a = b
 tr : ∀ a b c, f a b ≤ 0 → f b c ≤ 0 → f a c ≤ 0
/-- The first that is not zero. -/
def orI (x y : Int) : Int := if x ≠ 0 then x else y
theorem orI_tr {α : Type} {f : α → α → Int} (hf : Ord3 f) (a b c : α) {x y z : Int} (h : x ≤ 0 → y ≤ 0 → z ≤ 0) (h1 : orI (f a b) x ≤ 0) (h2 : orI (f b c) y ≤ 0) : orI (f a c) z ≤ 0 := by
 unfold orI at *
 by_cases e1 : f a b = 0
 ·obtain rfl := (hf.eq a b).1 e1
  rw [if_neg (by omega)] at h1
  by_cases e2 : f a c = 0
  ·rw [if_neg (by omega)] at h2 ⊢
   exact h h1 h2
  ·rw [if_pos e2] at h2 ⊢
   exact h2
 ·rw [if_pos e1] at h1
  by_cases e2 : f b c = 0
  ·obtain rfl := (hf.eq b c).1 e2
   rw [if_pos e1]; exact h1
  ·rw [if_pos e2] at h2
   have ht := hf.tr a b c h1 h2
   by_cases e3 : f a c = 0
   ·obtain rfl := (hf.eq a c).1 e3
    have := hf.neg b a
    omega
   ·rw [if_pos e3]; exact ht
/-- Of lists, the first that differs; of no differing, the shorter. -/
def lexL {α : Type} (f : α → α → Int) : List α → List α → Int
 | [], [] => 0
 | [], _ :: _ => -1
 | _ :: _, [] => 1
 | a :: s, b :: t => orI (f a b) (lexL f s t)
theorem lexL_tr {α : Type} {f : α → α → Int} (hf : Ord3 f) : ∀ s t u : List α, lexL f s t ≤ 0 → lexL f t u ≤ 0 → lexL f s u ≤ 0
 | [], t, [], _, _ => by simp [lexL]
 | [], t, _ :: _, _, _ => by simp [lexL]
 | _ :: _, [], u, h, _ => by simp [lexL] at h
 | _ :: _, _ :: _, [], _, h => by simp [lexL] at h
 | a :: s, b :: t, c :: u, h1, h2 => by
  rw [lexL] at *
  exact orI_tr hf a b c (lexL_tr hf s t u) h1 h2
def cmpU (a b : UInt8) : Int := if a.toNat < b.toNat then -1 else if b.toNat < a.toNat then 1 else 0
theorem cmpU_ord : Ord3 cmpU := ⟨fun a b => by unfold cmpU; split <;> split <;> omega, fun a b => by
 rw [← UInt8.toNat_inj]; unfold cmpU; split <;> (try split) <;> omega, fun a b c h1 h2 => by
 unfold cmpU at *
 split at h1 <;> split at h2 <;> split <;> (try split) <;> (try split at h1) <;> (try split at h2) <;> omega⟩
theorem cmpL_lex : ∀ s t : List UInt8, cmpL s t = lexL cmpU s t
 | [], [] => rfl
 | [], _ :: _ => rfl
 | _ :: _, [] => rfl
 | a :: s, b :: t => by
  rw [cmpL, lexL, cmpL_lex s t]
  unfold orI cmpU
  split
  ·rfl
  ·split <;> simp
def cmpB (a b : ByteArray) : Int := cmpL a.data.toList b.data.toList
theorem cmpB_ord : Ord3 cmpB := ⟨fun a b => cmpL_neg _ _, fun a b => by
 unfold cmpB; rw [cmpL_eq]; exact ⟨fun h => B_inj h, fun h => by rw [h]⟩, fun a b c h1 h2 => by
 unfold cmpB at *
 rw [cmpL_lex] at *
 exact lexL_tr cmpU_ord _ _ _ h1 h2⟩
/-- A name that is ahead is less. -/
theorem less_cmpB (a b : ByteArray) : Op.bytesLess a.data.toList b.data.toList = true ↔ cmpB a b < 0 := by
 unfold cmpB
 rw [← less_cmpL]
 split
 ·rename_i h; rw [h]; simp
 ·rename_i h; simp only [h]; simp; split <;> omega
theorem names_lt : ∀ {ns : List ByteArray}, namesD ns = true → ∀ (i j : Nat) (h : i < j) (hj : j < ns.length), cmpB (ns[i]'(by omega)) ns[j] < 0
 | [], _, i, j, h, hj => by simp at hj
 | [n], _, i, j, h, hj => by simp at hj; omega
 | n :: m :: l, hn, i, j, h, hj => by
  have hs := hn
  simp only [namesD, Bool.and_eq_true] at hs
  have h01 : cmpB n m < 0 := (less_cmpB n m).1 hs.1.2
  cases i with
  | succ i =>
   obtain ⟨j, rfl⟩ : ∃ q, j = q + 1 := ⟨j - 1, by omega⟩
   have := names_lt hs.2 i j (by omega) (by simpa using hj)
   simpa using this
  | zero =>
   obtain ⟨j, rfl⟩ : ∃ q, j = q + 1 := ⟨j - 1, by omega⟩
   cases j with
   | zero => simpa using h01
   | succ j =>
    have h2 := names_lt hs.2 0 (j + 1) (by omega) (by simpa using hj)
    have h3 := cmpB_ord.tr n m ((n :: m :: l)[j + 1 + 1]) (by omega) (by simpa using Int.le_of_lt h2)
    simp only [List.getElem_cons_zero]
    have h4 : cmpB n ((n :: m :: l)[j + 1 + 1]) ≠ 0 := by
     intro e
     have e := (cmpB_ord.eq _ _).1 e
     have h5 := cmpB_ord.neg m n
     simp only [List.getElem_cons_succ, List.getElem_cons_zero] at h2 e
     rw [← e] at h2
     omega
    omega
end Go.Proofs.YtidcecpbihmloaaGreatDoorE

namespace Go.Proofs.YtidcecpbihmloaaGreatDoorE
open Go Go.RowKit Go.Proofs.YtidcecpbihmloaaGreatDoor.M02 Go.Proofs.YtidcecpbihmloaaGreatDoor.P16
set_option linter.unusedVariables false
set_option linter.unusedSimpArgs false
def zeroD : S25 := ⟨0, 0, em, [], []⟩
/-- What Parse says of a text. -/
def parseS (l : List UInt8) : S25 × Nat × Int := match pieceS (3 * l.length + 1) l 0 0 with
 | .err a e => (zeroD, a, e)
 | .ok d a r => if r ≠ [] then (zeroD, a, 2) else if rightD d then (d, 0, 0) else (zeroD, 0, 24)
theorem parse_ok {l : List UInt8} {d : S25} {a : Nat} (h : parseS l = (d, a, 0)) (he : ∀ x y, pieceS (3 * l.length + 1) l 0 0 = (.err x y : Res S25) → y ≠ 0) : rightD d = true ∧ printD d = l := by
 unfold parseS at h
 cases hp : (pieceS (3 * l.length + 1) l 0 0 : Res S25) with
 | err x y =>
  rw [hp] at h
  injection h with h1 h2
  injection h2 with h2 h3
  exact absurd h3 (he x y hp)
 | ok e x r =>
  rw [hp] at h
  simp only at h
  by_cases hr : r = []
  ·rw [if_neg (by simpa using hr)] at h
   by_cases hR : rightD e = true
   ·rw [if_pos hR] at h
    injection h with h1 h2
    have := ((print_read _).1 _ _ _ _ _ _ hp).1
    rw [hr, List.append_nil] at this
    rw [← h1]
    exact ⟨hR, this.symm⟩
   ·rw [if_neg hR] at h
    injection h with h1 h2
    injection h2 with h2 h3
    exact absurd h3 (by decide)
  ·rw [if_pos hr] at h
   injection h with h1 h2
   injection h2 with h2 h3
   exact absurd h3 (by decide)
/-- An error is one of two. -/
theorem err_code (n : Nat) :
  (∀ (l : List UInt8) (a deep : Nat) (x : Nat) (y : Int), pieceS n l a deep = (.err x y : Res S25) → y = 2 ∨ y = 11)
  ∧ (∀ (l : List UInt8) (a deep : Nat) (b : Bool) (ns0 : List ByteArray) (ds0 : List S25) (x : Nat) (y : Int), membersS n l a deep b ns0 ds0 = .err x y → y = 2 ∨ y = 11)
  ∧ (∀ (l : List UInt8) (a deep : Nat) (b : Bool) (ns0 : List ByteArray) (ds0 : List S25) (x : Nat) (y : Int), tailS n l a deep b ns0 ds0 = .err x y → y = 2 ∨ y = 11) := by
 induction n with
 | zero =>
  refine ⟨?_, ?_, ?_⟩
  ·intro l a deep x y h; simp [pieceS] at h; exact Or.inl h.2.symm
  ·intro l a deep b ns0 ds0 x y h; simp [membersS] at h; exact Or.inl h.2.symm
  ·intro l a deep b ns0 ds0 x y h; simp [tailS] at h; exact Or.inl h.2.symm
 | succ n ih =>
  obtain ⟨ihP, ihM, ihT⟩ := ih
  have e2 : ∀ {u v : Nat} {y : Int}, (Res.err u 2 : Res S25) = .err v y → y = 2 ∨ y = 11 := by
   intro u v y h; injection h with _ h; exact Or.inl h.symm
  refine ⟨?_, ?_, ?_⟩
  ·intro l a deep x y h
   cases l with
   | nil => rw [pieceS] at h; exact e2 h
   | cons c t =>
    rw [pieceS] at h
    split at h
    ·split at h
     ·cases h
     ·exact e2 h
    split at h
    ·split at h
     ·cases h
     ·exact e2 h
    split at h
    ·unfold textD at h
     split at h
     ·exact e2 h
     split at h
     ·cases h
     ·exact e2 h
    by_cases hc : c = 91 ∨ c = 123
    ·rw [if_pos hc] at h
     by_cases hd : 16 ≤ deep
     ·rw [if_pos hd] at h; injection h with _ h; exact Or.inr h.symm
     ·rw [if_neg hd] at h
      by_cases ht : t.head? = some (if c = 123 then 125 else 93)
      ·rw [if_pos ht] at h; cases h
      ·rw [if_neg ht] at h; exact ihM _ _ _ _ _ _ _ _ h
    ·rw [if_neg hc] at h; exact e2 h
  ·intro l a deep b ns0 ds0 x y h
   rw [membersS] at h
   cases b with
   | false => rw [if_neg (by simp)] at h; exact ihT _ _ _ _ _ _ _ _ h
   | true =>
    rw [if_pos rfl] at h
    split at h
    ·split at h
     ·exact ihT _ _ _ _ _ _ _ _ h
     ·exact e2 h
    ·exact e2 h
  ·intro l a deep b ns0 ds0 x y h
   rw [tailS] at h
   cases hp : (pieceS n l a deep : Res S25) with
   | err u v =>
    rw [hp] at h
    injection h with h1 h2
    rw [← h2]
    exact ihP _ _ _ _ _ hp
   | ok e a1 r1 =>
    rw [hp] at h
    simp only at h
    split at h
    ·exact ihM _ _ _ _ _ _ _ _ h
    by_cases hsh : r1.head? = some (if b then 125 else 93)
    ·rw [if_pos hsh] at h; cases h
    ·rw [if_neg hsh] at h; exact e2 h
/-- The piece of a name. -/
def getS (d : S25) (name : ByteArray) : S25 × Bool :=
 if d.f0 = 5 ∧ rightD d = true then (match d.f3.findIdx? (fun n => n.data.toList == name.data.toList) with
  | some i => (d.f4.getD i zeroD, true)
  | none => (zeroD, false)) else (zeroD, false)
mutual
theorem weighD_le : ∀ (d : S25) (left op r : Nat), weighD d left op = some r → r + 1 ≤ left
 | ⟨k, n, t, ns, l⟩, left, op, r, h => by
  obtain ⟨h0, _, _, _, h4⟩ := weigh_plain h
  have := weighL_le l (left - 1) (op + 1) r h4
  omega
theorem weighL_le : ∀ (l : List S25) (left op r : Nat), weighL l left op = some r → r + l.length ≤ left
 | [], left, op, r, h => by rw [weighL] at h; injection h with h; simp; omega
 | d :: l, left, op, r, h => by
  rw [weighL] at h
  cases hd : weighD d left op with
  | none => rw [hd] at h; cases h
  | some q =>
   rw [hd] at h
   have h1 := weighD_le d left op q hd
   have h2 := weighL_le l q op r h
   simp only [List.length_cons]
   omega
end
theorem weighL_many {l : List S25} {left op : Nat} (h : left < l.length) : weighL l left op = none := by
 cases hw : weighL l left op with
 | none => rfl
 | some r => have := weighL_le l left op r hw; omega
theorem weighL_append : ∀ (a b : List S25) (left op : Nat), weighL (a ++ b) left op = (match weighL a left op with
  | none => none
  | some r => weighL b r op)
 | [], b, left, op => by rw [List.nil_append, weighL]
 | d :: a, b, left, op => by
  rw [List.cons_append, weighL, weighL]
  cases weighD d left op with
  | none => rfl
  | some q => exact weighL_append a b q op
end Go.Proofs.YtidcecpbihmloaaGreatDoorE

namespace Go.Proofs.YtidcecpbihmloaaGreatDoorE
open Go Go.RowKit Go.Proofs.YtidcecpbihmloaaGreatDoorW.PrintWords Go.Proofs.YtidcecpbihmloaaGreatDoorX Go.Proofs.YtidcecpbihmloaaGreatDoor.P16 Go.Proofs.YtidcecpbihmloaaGreatDoor.M02
set_option linter.unusedVariables false
set_option linter.unusedSimpArgs false
abbrev DT := S25
/-- A piece of a size that fits a machine, and all within it. -/
inductive OkD : DT → Prop
 | mk (x : DT) (h0 : -9223372036854775808 ≤ x.f0 ∧ x.f0 ≤ 9223372036854775807) (h1 : -9223372036854775808 ≤ x.f1 ∧ x.f1 ≤ 9223372036854775807) (h2 : x.f2.size ≤ 140737488351232) (n3 : x.f3.length ≤ 140737488351232) (h3 : ∀ s ∈ x.f3, s.size ≤ 140737488351232) (n4 : x.f4.length ≤ 140737488351232) (h4 : ∀ y ∈ x.f4, OkD y) : OkD x
theorem OkD.out {x : DT} (h : OkD x) : (-9223372036854775808 ≤ x.f0 ∧ x.f0 ≤ 9223372036854775807) ∧ (-9223372036854775808 ≤ x.f1 ∧ x.f1 ≤ 9223372036854775807) ∧ x.f2.size ≤ 140737488351232 ∧ x.f3.length ≤ 140737488351232 ∧ (∀ s ∈ x.f3, s.size ≤ 140737488351232) ∧ x.f4.length ≤ 140737488351232 ∧ ∀ y ∈ x.f4, OkD y := by
 cases h with
 | mk _ h0 h1 h2 n3 h3 n4 h4 => exact ⟨h0, h1, h2, n3, h3, n4, h4⟩
mutual
theorem okD_nums : ∀ x : DT, OkD x → numsD x
 | ⟨k, n, t, ns, l⟩, h => by
  rw [numsD]
  exact ⟨h.out.2.1, okD_numsL l h.out.2.2.2.2.2.2⟩
theorem okD_numsL : ∀ l : List DT, (∀ y ∈ l, OkD y) → numsL l
 | [], _ => by simp [numsL]
 | d :: l, h => by
  rw [numsL]
  exact ⟨okD_nums d (h d List.mem_cons_self), okD_numsL l fun y hy => h y (List.mem_cons_of_mem _ hy)⟩
end
end Go.Proofs.YtidcecpbihmloaaGreatDoorE

namespace Go.Proofs.YtidcecpbihmloaaGreatDoorE
open Go Go.RowKit Go.Proofs.YtidcecpbihmloaaGreatDoorW.PrintWords Go.Proofs.YtidcecpbihmloaaGreatDoorX Go.Proofs.YtidcecpbihmloaaGreatDoor.P16 Go.Proofs.YtidcecpbihmloaaGreatDoor.M02
set_option linter.unusedVariables false
set_option linter.unusedSimpArgs false
def IsC (w0 W : World) (g : Nat) (left : Int) : Prop := W.heap[g]? = some (.cells #[.int .i64 left] 58 (0, 0)) ∧ w0.heap.size ≤ g
/-- What right says of a piece. -/
def rightP (w0 w : World) (g : Nat) (o : Option Nat) (e : Ending) (w' : World) : Prop := Below w0.heap.size w0 w' ∧ KeepBut w w' g none ∧ (match o with
 | some r => e = .returned (.bool true) ∧ IsC w0 w' g r
 | none => e = .returned (.bool false))
abbrev aggD (x : DT) (A3 : Option Addr) (c3 : Nat) (A4 : Option Addr) (c4 : Nat) : Value := .agg #[.int .i64 x.f0, .int .i64 x.f1, .string x.f2, .slice A3 x.f3.length c3, .slice A4 x.f4.length c4]
set_option maxHeartbeats 4000000 in
set_option maxRecDepth 100000 in
theorem right_zero (x : DT) (op : Nat) (g : Nat) (w0 w : World) (A3 : Option Addr) (c3 : Nat) (A4 : Option Addr) (c4 : Nat) (hI : IsC w0 w g (0 : Nat)) (hB : Below w0.heap.size w0 w) :
  Calls Tryz.prog 28 #[.pointer (some ⟨g, 0, none⟩), .agg #[.int .i64 x.f0, .int .i64 x.f1, .string x.f2, .slice A3 x.f3.length c3, .slice A4 x.f4.length c4], .int .i64 op] w (rightP w0 w g none) := by
 have HI := Aside0.mk hI
 have HB := Aside0.mk hB
 clear hI hB
 go_enter Tryz.func28, Tryz.ntmps28
 go_upto_region 1 with (first | ((with_reducible refine gate_dst (N := 4) rfl ?_); refine box_event ?hg (N := 4) ?hd (cs := #[.int .i64 x.f0, .int .i64 x.f1, .string x.f2, .slice A3 x.f3.length c3, .slice A4 x.f4.length c4]) (t := 25) ?hr ?_; (case hd => rfl); (case hg => rfl); (case hr => first | (go_simp; done) | (go_simp; rfl)); intro gb hg w5 hbox hb; have BK := Aside0.mk hbox; have HW := Aside0.mk hb; have HGB := Aside0.mk hg; clear hbox hb hg))
 (try simp only [Act.put, List.setIfInBounds_toArray, List.set_cons_zero, List.set_cons_succ])
 have hgw : g < w.heap.size := blk_lt HI.out.1
 have hi5 : w5.heap[g]? = some (.cells #[.int .i64 (0 : Nat)] 58 (0, 0)) := (HW.out.block g hgw).trans HI.out.1
 have c0 : w5.cell? ⟨g, 0, none⟩ = some (.int .i64 0) := (blk_cell hi5 0).trans rfl
 have f0 := blk_frozen hi5 0
 have HI5 := Aside0.mk hi5
 clear hi5
 go_wp2_with fail
 go_ret
 exact ⟨(below_then HB.out HB.out.size HW.out).setCell HI.out.2 _, (KeepBut.of_below HW.out g none).set_ 0 _, rfl⟩
end Go.Proofs.YtidcecpbihmloaaGreatDoorE

namespace Go.Proofs.YtidcecpbihmloaaGreatDoorE
open Go Go.RowKit Go.Proofs.YtidcecpbihmloaaGreatDoor.M02 Go.Proofs.YtidcecpbihmloaaGreatDoor.P16
set_option linter.unusedVariables false
set_option linter.unusedSimpArgs false
/-- The name at a place is one, and the one ahead of it is less. -/
def goodN (ns : List ByteArray) (j : Nat) : Prop := namedS true (ns.getD j em).data.toList = true ∧ (0 < j → Op.bytesLess (ns.getD (j - 1) em).data.toList (ns.getD j em).data.toList = true)
theorem namesD_good : ∀ ns : List ByteArray, namesD ns = true ↔ ∀ j, j < ns.length → goodN ns j
 | [] => ⟨fun _ j h => by simp at h, fun _ => rfl⟩
 | [n] => ⟨fun h j hj => by
   obtain rfl : j = 0 := by simp at hj; omega
   exact ⟨h, fun h => absurd h (by omega)⟩, fun h => (h 0 (by simp)).1⟩
 | n :: m :: l => by
  have ih := namesD_good (m :: l)
  rw [namesD, Bool.and_eq_true, Bool.and_eq_true, ih]
  constructor
  ·rintro ⟨⟨h1, h2⟩, h3⟩ j hj
   cases j with
   | zero => exact ⟨h1, fun h => absurd h (by omega)⟩
   | succ j =>
    have := h3 j (by simp at hj ⊢; omega)
    refine ⟨this.1, fun _ => ?_⟩
    cases j with
    | zero => exact h2
    | succ j => exact this.2 (by omega)
  ·intro h
   refine ⟨⟨(h 0 (by simp)).1, (h 1 (by simp)).2 (by omega)⟩, fun j hj => ?_⟩
   have := h (j + 1) (by simp at hj ⊢; omega)
   refine ⟨this.1, fun h0 => ?_⟩
   obtain ⟨j, rfl⟩ : ∃ q, j = q + 1 := ⟨j - 1, by omega⟩
   exact this.2 (by omega)
end Go.Proofs.YtidcecpbihmloaaGreatDoorE

namespace Go.Proofs.YtidcecpbihmloaaGreatDoorE
open Go Go.RowKit Go.Proofs.YtidcecpbihmloaaGreatDoor.M02 Go.Proofs.YtidcecpbihmloaaGreatDoor.P16
set_option linter.unusedVariables false
set_option linter.unusedSimpArgs false
theorem named_len {l : List UInt8} (h : namedS true l = true) : l.length ≤ 32 := by
 cases l with
 | nil => simp
 | cons c t =>
  rw [namedS_cons] at h
  simp only [Bool.and_eq_true, decide_eq_true_eq] at h
  simp only [List.length_cons]; omega
theorem moreL_len (b : Bool) (ns : List ByteArray) (l : List S25) : (moreL b ns l).length ≤ (printL b ns l).length + 1 := by
 cases l with
 | nil => simp [moreL]
 | cons d l => simp [moreL]
theorem head_len {ns : List ByteArray} (h : ∀ x ∈ ns, namedS true x.data.toList = true) : (ns.headD em).data.toList.length ≤ 32 := by
 cases ns with
 | nil => simp
 | cons x r => exact named_len (h x List.mem_cons_self)
mutual
theorem printD_len : ∀ (d : S25) (left op r : Nat), numsD d → weighD d left op = some r → (printD d).length + 40 + 400000 * r ≤ 400000 * left
 | ⟨k, n, t, ns, l⟩, left, op, r, hn, h => by
  obtain ⟨h0, hp, _, hns, hw⟩ := weigh_plain h
  simp only at hns hw
  rw [numsD] at hn
  have hl := printL_len l (decide (k = 5)) ns (left - 1) (op + 1) r (names_all hns) hn.2 hw
  have hc : (printL (decide (k = 5)) ns l).length + 2 + 400000 * r ≤ 400000 * left - 400000 + 2 := by omega
  have hr : r + 1 ≤ left := by
   have := weighL_le l (left - 1) (op + 1) r hw
   omega
  rcases plain_cases hp with ⟨rfl, rfl, rfl, rfl, rfl⟩ | ⟨rfl, h1, rfl, rfl, rfl⟩ | ⟨rfl, rfl, rfl, rfl⟩ | ⟨rfl, rfl, rfl, rfl, hs⟩ | ⟨rfl, rfl, rfl, rfl⟩ | ⟨rfl, rfl, rfl, hl⟩
  ·have e : (printD (⟨0, 0, em, [], []⟩ : S25)).length = 4 := rfl
   omega
  ·rcases h1 with rfl | rfl
   ·have e : (printD (⟨1, 0, em, [], []⟩ : S25)).length = 2 := rfl
    omega
   ·have e : (printD (⟨1, 1, em, [], []⟩ : S25)).length = 3 := rfl
    omega
  ·have e : printD (⟨2, n, em, [], []⟩ : S25) = Lib.itoa n := rfl
   have := Lib.itoa_length_le n hn.1.1 hn.1.2
   rw [e]; omega
  ·have e : printD (⟨3, 0, t, [], []⟩ : S25) = 34 :: (escS t.data.toList ++ [34]) := rfl
   have h2 := escS_len t.data.toList
   have h3 : t.data.toList.length = t.size := by rw [Array.length_toList]; rfl
   rw [e]; simp only [List.length_cons, List.length_append, List.length_nil]; omega
  ·have e : printD (⟨4, 0, em, [], l⟩ : S25) = 91 :: (printL false [] l ++ [93]) := rfl
   have hc' : (printL false [] l).length + 2 + 400000 * r ≤ 400000 * left - 400000 + 2 := hc
   rw [e]; simp only [List.length_cons, List.length_append, List.length_nil]; omega
  ·have e : printD (⟨5, 0, em, ns, l⟩ : S25) = 123 :: (printL true ns l ++ [125]) := rfl
   have hc' : (printL true ns l).length + 2 + 400000 * r ≤ 400000 * left - 400000 + 2 := hc
   rw [e]; simp only [List.length_cons, List.length_append, List.length_nil]; omega
theorem printL_len : ∀ (l : List S25) (b : Bool) (ns : List ByteArray) (left op r : Nat), (∀ x ∈ ns, namedS true x.data.toList = true) → numsL l → weighL l left op = some r → (printL b ns l).length + 400000 * r ≤ 400000 * left
 | [], b, ns, left, op, r, hns, hn, h => by
  rw [weighL] at h
  injection h with h
  simp [printL]; omega
 | d :: l, b, ns, left, op, r, hns, hn, h => by
  rw [weighL] at h
  rw [numsL] at hn
  cases hd : weighD d left op with
  | none => rw [hd] at h; cases h
  | some q =>
   rw [hd] at h
   have h1 := printD_len d left op q hn.1 hd
   have h2 := printL_len l b ns.tail q op r (fun x hx => hns x (List.mem_of_mem_tail hx)) hn.2 h
   have h3 := moreL_len b ns.tail l
   have h4 := head_len hns
   rw [printL_cons, List.length_append, List.length_append]
   have h5 : (if b = true then (ns.headD em).data.toList ++ [61] else []).length ≤ 33 := by
    split
    ·rw [List.length_append]; simp only [List.length_cons, List.length_nil]; omega
    ·simp
   omega
end
theorem right_len {d : S25} (hn : numsD d) (h : rightD d = true) : (printD d).length ≤ 800000000 := by
 obtain ⟨r, hr⟩ := Option.isSome_iff_exists.1 h
 have := printD_len d 2000 0 r hn hr
 omega
/-- What a reading leaves is the text from the place that it tells. -/
theorem piece_at {n : Nat} {l : List UInt8} {a deep : Nat} {d : S25} {a' : Nat} {r : List UInt8} (h : pieceS n l a deep = .ok d a' r) : ∃ k, k ≤ l.length ∧ a' = a + k ∧ r = l.drop k := by
 obtain ⟨h1, h2, _⟩ := (print_read n).1 l a deep d a' r h
 refine ⟨(printD d).length, ?_, h2, ?_⟩
 ·rw [h1, List.length_append]; omega
 ·rw [h1, List.drop_left]
end Go.Proofs.YtidcecpbihmloaaGreatDoorE

namespace Go.Proofs.YtidcecpbihmloaaGreatDoorE
open Go Go.RowKit Go.Proofs.YtidcecpbihmloaaGreatDoorW.PrintWords Go.Proofs.YtidcecpbihmloaaGreatDoorX Go.Proofs.YtidcecpbihmloaaGreatDoor.P16 Go.Proofs.YtidcecpbihmloaaGreatDoor.M02
set_option linter.unusedVariables false
set_option linter.unusedSimpArgs false
set_option maxRecDepth 100000
theorem w64_0 : wrap64 0 = 0 := w64 (by decide) (by decide)
theorem sum_zero2 (ns : List ByteArray) (l : List DT) (h3 : ns.length ≤ 140737488351232) (h4 : l.length ≤ 140737488351232) : wrap64 ((ns.length : Int) + (l.length : Int)) = 0 ↔ ns = [] ∧ l = [] := by
 rw [w64 (by omega) (by omega)]
 cases ns <;> cases l <;> simp <;> omega
theorem plain_out {kd n : Int} {t : ByteArray} {ns : List ByteArray} {l : List DT} (h : ¬ (0 ≤ kd ∧ kd ≤ 5)) : plainD (⟨kd, n, t, ns, l⟩ : DT) = false := by
 unfold plainD
 rw [if_neg (by simp only; omega), if_neg (by simp only; omega), if_neg (by simp only; omega), if_neg (by simp only; omega), if_neg (by simp only; omega), if_neg (by simp only; omega)]
set_option maxHeartbeats 8000000 in
theorem qplain_0 (n : Int) (t : ByteArray) (ns : List ByteArray) (l : List DT) (h3 : ns.length ≤ 140737488351232) (h4 : l.length ≤ 140737488351232) (A3 : Option Addr) (c3 : Nat) (A4 : Option Addr) (c4 : Nat) (w : World) (hgl : GL w) : Calls Tryz.prog 50 #[.agg #[.int .i64 0, .int .i64 n, .string t, .slice A3 ns.length c3, .slice A4 l.length c4]] w fun e w' => e = .returned (.bool (plainD (⟨0, n, t, ns, l⟩ : DT))) ∧ Below w.heap.size w w' := by
 have HG := Aside0.mk hgl
 have HS := Aside0.mk (sum_zero2 ns l h3 h4)
 have HT := Aside0.mk (toList_data t)
 clear hgl
 obtain ⟨fb, hfb⟩ : ∃ fb, fb = decide (t.size ≤ 65536) := ⟨_, rfl⟩
 have HF := Aside0.mk (show chars_Fits.f t = some fb by rw [hfb]; unfold chars_Fits.f; exact congrArg some (decide_eq_decide.2 (by omega)))
 rw [show plainD (⟨0, n, t, ns, l⟩ : DT) = (decide (n = 0) && t.data.toList.isEmpty && ns.isEmpty && l.isEmpty) by rfl]
 clear hfb
 go_enter Tryz.func50, Tryz.ntmps50
 go_wp2_with (go_at_call 70; go_loud (with_reducible refine (chars_Fits.calls t fb _ (HG.out.below (below_alloc (Below.refl _ _) _)) HF.out).mono ?_); rintro e w5 ⟨rfl, hb5⟩; have HB5 := Aside0.mk hb5.below; clear hb5)
 all_goals go_ret
 all_goals (refine ⟨?_, ?_⟩; rotate_left; (first | exact below_alloc (Below.refl _ _) _ | exact below_then (below_alloc (Below.refl _ _) _) (by simp) HB5.out))
 all_goals
  (have HS := HS.out
   have HT := HT.out
   try clear HB5
   clear HG HF
   cases ns <;> cases l <;> simp_all [w64_0] <;> omega)
set_option maxHeartbeats 8000000 in
theorem qplain_1 (n : Int) (t : ByteArray) (ns : List ByteArray) (l : List DT) (h3 : ns.length ≤ 140737488351232) (h4 : l.length ≤ 140737488351232) (A3 : Option Addr) (c3 : Nat) (A4 : Option Addr) (c4 : Nat) (w : World) (hgl : GL w) : Calls Tryz.prog 50 #[.agg #[.int .i64 1, .int .i64 n, .string t, .slice A3 ns.length c3, .slice A4 l.length c4]] w fun e w' => e = .returned (.bool (plainD (⟨1, n, t, ns, l⟩ : DT))) ∧ Below w.heap.size w w' := by
 have HG := Aside0.mk hgl
 have HS := Aside0.mk (sum_zero2 ns l h3 h4)
 have HT := Aside0.mk (toList_data t)
 clear hgl
 obtain ⟨fb, hfb⟩ : ∃ fb, fb = decide (t.size ≤ 65536) := ⟨_, rfl⟩
 have HF := Aside0.mk (show chars_Fits.f t = some fb by rw [hfb]; unfold chars_Fits.f; exact congrArg some (decide_eq_decide.2 (by omega)))
 rw [show plainD (⟨1, n, t, ns, l⟩ : DT) = ((decide (n = 0) || decide (n = 1)) && t.data.toList.isEmpty && ns.isEmpty && l.isEmpty) by rfl]
 clear hfb
 go_enter Tryz.func50, Tryz.ntmps50
 go_wp2_with (go_at_call 70; go_loud (with_reducible refine (chars_Fits.calls t fb _ (HG.out.below (below_alloc (Below.refl _ _) _)) HF.out).mono ?_); rintro e w5 ⟨rfl, hb5⟩; have HB5 := Aside0.mk hb5.below; clear hb5)
 all_goals go_ret
 all_goals (refine ⟨?_, ?_⟩; rotate_left; (first | exact below_alloc (Below.refl _ _) _ | exact below_then (below_alloc (Below.refl _ _) _) (by simp) HB5.out))
 all_goals
  (have HS := HS.out
   have HT := HT.out
   try clear HB5
   clear HG HF
   cases ns <;> cases l <;> simp_all [w64_0] <;> omega)
set_option maxHeartbeats 8000000 in
theorem qplain_2 (n : Int) (t : ByteArray) (ns : List ByteArray) (l : List DT) (h3 : ns.length ≤ 140737488351232) (h4 : l.length ≤ 140737488351232) (A3 : Option Addr) (c3 : Nat) (A4 : Option Addr) (c4 : Nat) (w : World) (hgl : GL w) : Calls Tryz.prog 50 #[.agg #[.int .i64 2, .int .i64 n, .string t, .slice A3 ns.length c3, .slice A4 l.length c4]] w fun e w' => e = .returned (.bool (plainD (⟨2, n, t, ns, l⟩ : DT))) ∧ Below w.heap.size w w' := by
 have HG := Aside0.mk hgl
 have HS := Aside0.mk (sum_zero2 ns l h3 h4)
 have HT := Aside0.mk (toList_data t)
 clear hgl
 obtain ⟨fb, hfb⟩ : ∃ fb, fb = decide (t.size ≤ 65536) := ⟨_, rfl⟩
 have HF := Aside0.mk (show chars_Fits.f t = some fb by rw [hfb]; unfold chars_Fits.f; exact congrArg some (decide_eq_decide.2 (by omega)))
 rw [show plainD (⟨2, n, t, ns, l⟩ : DT) = (t.data.toList.isEmpty && ns.isEmpty && l.isEmpty) by rfl]
 clear hfb
 go_enter Tryz.func50, Tryz.ntmps50
 go_wp2_with (go_at_call 70; go_loud (with_reducible refine (chars_Fits.calls t fb _ (HG.out.below (below_alloc (Below.refl _ _) _)) HF.out).mono ?_); rintro e w5 ⟨rfl, hb5⟩; have HB5 := Aside0.mk hb5.below; clear hb5)
 all_goals go_ret
 all_goals (refine ⟨?_, ?_⟩; rotate_left; (first | exact below_alloc (Below.refl _ _) _ | exact below_then (below_alloc (Below.refl _ _) _) (by simp) HB5.out))
 all_goals
  (have HS := HS.out
   have HT := HT.out
   try clear HB5
   clear HG HF
   cases ns <;> cases l <;> simp_all [w64_0] <;> omega)
set_option maxHeartbeats 8000000 in
theorem qplain_3 (n : Int) (t : ByteArray) (ns : List ByteArray) (l : List DT) (h3 : ns.length ≤ 140737488351232) (h4 : l.length ≤ 140737488351232) (A3 : Option Addr) (c3 : Nat) (A4 : Option Addr) (c4 : Nat) (w : World) (hgl : GL w) : Calls Tryz.prog 50 #[.agg #[.int .i64 3, .int .i64 n, .string t, .slice A3 ns.length c3, .slice A4 l.length c4]] w fun e w' => e = .returned (.bool (plainD (⟨3, n, t, ns, l⟩ : DT))) ∧ Below w.heap.size w w' := by
 have HG := Aside0.mk hgl
 have HS := Aside0.mk (sum_zero2 ns l h3 h4)
 have HT := Aside0.mk (toList_data t)
 clear hgl
 obtain ⟨fb, hfb⟩ : ∃ fb, fb = decide (t.size ≤ 65536) := ⟨_, rfl⟩
 have HF := Aside0.mk (show chars_Fits.f t = some fb by rw [hfb]; unfold chars_Fits.f; exact congrArg some (decide_eq_decide.2 (by omega)))
 rw [show plainD (⟨3, n, t, ns, l⟩ : DT) = (decide (n = 0) && ns.isEmpty && l.isEmpty && fb) by rw [hfb]; rfl]
 clear hfb
 go_enter Tryz.func50, Tryz.ntmps50
 go_wp2_with (go_at_call 70; go_loud (with_reducible refine (chars_Fits.calls t fb _ (HG.out.below (below_alloc (Below.refl _ _) _)) HF.out).mono ?_); rintro e w5 ⟨rfl, hb5⟩; have HB5 := Aside0.mk hb5.below; clear hb5)
 all_goals go_ret
 all_goals (refine ⟨?_, ?_⟩; rotate_left; (first | exact below_alloc (Below.refl _ _) _ | exact below_then (below_alloc (Below.refl _ _) _) (by simp) HB5.out))
 all_goals
  (have HS := HS.out
   have HT := HT.out
   try clear HB5
   clear HG HF
   cases ns <;> cases l <;> simp_all [w64_0] <;> omega)
set_option maxHeartbeats 8000000 in
theorem qplain_4 (n : Int) (t : ByteArray) (ns : List ByteArray) (l : List DT) (h3 : ns.length ≤ 140737488351232) (h4 : l.length ≤ 140737488351232) (A3 : Option Addr) (c3 : Nat) (A4 : Option Addr) (c4 : Nat) (w : World) (hgl : GL w) : Calls Tryz.prog 50 #[.agg #[.int .i64 4, .int .i64 n, .string t, .slice A3 ns.length c3, .slice A4 l.length c4]] w fun e w' => e = .returned (.bool (plainD (⟨4, n, t, ns, l⟩ : DT))) ∧ Below w.heap.size w w' := by
 have HG := Aside0.mk hgl
 have HS := Aside0.mk (sum_zero2 ns l h3 h4)
 have HT := Aside0.mk (toList_data t)
 clear hgl
 obtain ⟨fb, hfb⟩ : ∃ fb, fb = decide (t.size ≤ 65536) := ⟨_, rfl⟩
 have HF := Aside0.mk (show chars_Fits.f t = some fb by rw [hfb]; unfold chars_Fits.f; exact congrArg some (decide_eq_decide.2 (by omega)))
 rw [show plainD (⟨4, n, t, ns, l⟩ : DT) = (decide (n = 0) && t.data.toList.isEmpty && ns.isEmpty) by rfl]
 clear hfb
 go_enter Tryz.func50, Tryz.ntmps50
 go_wp2_with (go_at_call 70; go_loud (with_reducible refine (chars_Fits.calls t fb _ (HG.out.below (below_alloc (Below.refl _ _) _)) HF.out).mono ?_); rintro e w5 ⟨rfl, hb5⟩; have HB5 := Aside0.mk hb5.below; clear hb5)
 all_goals go_ret
 all_goals (refine ⟨?_, ?_⟩; rotate_left; (first | exact below_alloc (Below.refl _ _) _ | exact below_then (below_alloc (Below.refl _ _) _) (by simp) HB5.out))
 all_goals
  (have HS := HS.out
   have HT := HT.out
   try clear HB5
   clear HG HF
   cases ns <;> cases l <;> simp_all [w64_0] <;> omega)
set_option maxHeartbeats 8000000 in
theorem qplain_5 (n : Int) (t : ByteArray) (ns : List ByteArray) (l : List DT) (h3 : ns.length ≤ 140737488351232) (h4 : l.length ≤ 140737488351232) (A3 : Option Addr) (c3 : Nat) (A4 : Option Addr) (c4 : Nat) (w : World) (hgl : GL w) : Calls Tryz.prog 50 #[.agg #[.int .i64 5, .int .i64 n, .string t, .slice A3 ns.length c3, .slice A4 l.length c4]] w fun e w' => e = .returned (.bool (plainD (⟨5, n, t, ns, l⟩ : DT))) ∧ Below w.heap.size w w' := by
 have HG := Aside0.mk hgl
 have HS := Aside0.mk (sum_zero2 ns l h3 h4)
 have HT := Aside0.mk (toList_data t)
 clear hgl
 obtain ⟨fb, hfb⟩ : ∃ fb, fb = decide (t.size ≤ 65536) := ⟨_, rfl⟩
 have HF := Aside0.mk (show chars_Fits.f t = some fb by rw [hfb]; unfold chars_Fits.f; exact congrArg some (decide_eq_decide.2 (by omega)))
 rw [show plainD (⟨5, n, t, ns, l⟩ : DT) = (decide (n = 0) && t.data.toList.isEmpty && ((ns.length : Int) == (l.length : Int))) by rw [show ((ns.length : Int) == (l.length : Int)) = decide (ns.length = l.length) by rw [Bool.eq_iff_iff]; simp; omega]; rfl]
 clear hfb
 go_enter Tryz.func50, Tryz.ntmps50
 go_wp2_with (go_at_call 70; go_loud (with_reducible refine (chars_Fits.calls t fb _ (HG.out.below (below_alloc (Below.refl _ _) _)) HF.out).mono ?_); rintro e w5 ⟨rfl, hb5⟩; have HB5 := Aside0.mk hb5.below; clear hb5)
 all_goals go_ret
 all_goals (refine ⟨?_, ?_⟩; rotate_left; (first | exact below_alloc (Below.refl _ _) _ | exact below_then (below_alloc (Below.refl _ _) _) (by simp) HB5.out))
 all_goals
  (have HS := HS.out
   have HT := HT.out
   try clear HB5
   clear HG HF
   simp_all)
theorem qplain_c (kd : Int) (n : Int) (t : ByteArray) (ns : List ByteArray) (l : List DT) (h3 : ns.length ≤ 140737488351232) (h4 : l.length ≤ 140737488351232) (A3 : Option Addr) (c3 : Nat) (A4 : Option Addr) (c4 : Nat) (w : World) (hgl : GL w) : Calls Tryz.prog 50 #[.agg #[.int .i64 kd, .int .i64 n, .string t, .slice A3 ns.length c3, .slice A4 l.length c4]] w fun e w' => e = .returned (.bool (plainD (⟨kd, n, t, ns, l⟩ : DT))) ∧ Below w.heap.size w w' := by
 by_cases hk : 0 ≤ kd ∧ kd ≤ 5
 ·have hk : kd = 0 ∨ kd = 1 ∨ kd = 2 ∨ kd = 3 ∨ kd = 4 ∨ kd = 5 := by omega
  rcases hk with rfl | rfl | rfl | rfl | rfl | rfl
  ·exact qplain_0 n t ns l h3 h4 A3 c3 A4 c4 w hgl
  ·exact qplain_1 n t ns l h3 h4 A3 c3 A4 c4 w hgl
  ·exact qplain_2 n t ns l h3 h4 A3 c3 A4 c4 w hgl
  ·exact qplain_3 n t ns l h3 h4 A3 c3 A4 c4 w hgl
  ·exact qplain_4 n t ns l h3 h4 A3 c3 A4 c4 w hgl
  ·exact qplain_5 n t ns l h3 h4 A3 c3 A4 c4 w hgl
 ·rw [plain_out hk]
  have k0 : (kd == 0) = false := by simp; omega
  have k1 : (kd == 1) = false := by simp; omega
  have k2 : (kd == 2) = false := by simp; omega
  have k3 : (kd == 3) = false := by simp; omega
  have k4 : (kd == 4) = false := by simp; omega
  have k5 : (kd == 5) = false := by simp; omega
  clear hk
  go_enter Tryz.func50, Tryz.ntmps50
  go_wp2_with fail
  go_ret
  exact ⟨rfl, below_alloc (Below.refl _ _) _⟩
theorem qplain_is (kd n : Int) (t : ByteArray) (A3 : Option Addr) (c3 : Nat) (ns : List ByteArray) (A4 : Option Addr) (c4 : Nat) (l : List DT) (r : Bool) (w : World) (hgl : GL w) (h : plainD (⟨kd, n, t, ns, l⟩ : DT) = r ∧ ns.length ≤ 140737488351232 ∧ l.length ≤ 140737488351232) : Calls Tryz.prog 50 #[.agg #[.int .i64 kd, .int .i64 n, .string t, .slice A3 ns.length c3, .slice A4 l.length c4]] w fun e w' => e = .returned (.bool r) ∧ Below w.heap.size w w' := h.1 ▸ qplain_c kd n t ns l h.2.1 h.2.2 A3 c3 A4 c4 w hgl
end Go.Proofs.YtidcecpbihmloaaGreatDoorE

namespace Go.Proofs.YtidcecpbihmloaaGreatDoorE
open Go Go.RowKit Go.Proofs.YtidcecpbihmloaaGreatDoorW.PrintWords Go.Proofs.YtidcecpbihmloaaGreatDoorX Go.Proofs.YtidcecpbihmloaaGreatDoor.P16 Go.Proofs.YtidcecpbihmloaaGreatDoor.M02
set_option linter.unusedVariables false
set_option linter.unusedSimpArgs false
set_option maxHeartbeats 4000000 in
set_option maxRecDepth 100000 in
theorem right_bad (x : DT) (hx : OkD x) (hp : plainD x = false) (L op : Nat) (hL : L ≤ 2000) (g : Nat) (w0 w : World) (hgl : GL w0) (A3 : Option Addr) (c3 : Nat) (A4 : Option Addr) (c4 : Nat) (l3 : x.f3.length ≤ c3) (g3 : Kd.string.C w0 A3 x.f3.length x.f3) (l4 : x.f4.length ≤ c4) (g4 : k25.C w0 A4 x.f4.length x.f4) (hI : IsC w0 w g (L + 1 : Nat)) (hB : Below w0.heap.size w0 w) :
  Calls Tryz.prog 28 #[.pointer (some ⟨g, 0, none⟩), .agg #[.int .i64 x.f0, .int .i64 x.f1, .string x.f2, .slice A3 x.f3.length c3, .slice A4 x.f4.length c4], .int .i64 op] w (rightP w0 w g none) := by
 have HI := Aside0.mk hI
 have HB := Aside0.mk hB
 have HG := Aside0.mk hgl
 have H3 := Aside0.mk g3
 have H4 := Aside0.mk g4
 have HP := Aside0.mk (show plainD (⟨x.f0, x.f1, x.f2, x.f3, x.f4⟩ : DT) = false ∧ x.f3.length ≤ 140737488351232 ∧ x.f4.length ≤ 140737488351232 from ⟨hp, hx.out.2.2.2.1, hx.out.2.2.2.2.2.1⟩)
 clear hI hB hgl g3 g4 hx hp
 go_enter Tryz.func28, Tryz.ntmps28
 go_upto_region 1 with (first | ((with_reducible refine gate_dst (N := 4) rfl ?_); refine box_event ?hg (N := 4) ?hd (cs := #[.int .i64 x.f0, .int .i64 x.f1, .string x.f2, .slice A3 x.f3.length c3, .slice A4 x.f4.length c4]) (t := 25) ?hr ?_; (case hd => rfl); (case hg => rfl); (case hr => first | (go_simp; done) | (go_simp; rfl)); intro gb hg w5 hbox hb; have BK := Aside0.mk hbox; have HW := Aside0.mk hb; have HGB := Aside0.mk hg; clear hbox hb hg))
 (try simp only [Act.put, List.setIfInBounds_toArray, List.set_cons_zero, List.set_cons_succ])
 have hgw : g < w.heap.size := blk_lt HI.out.1
 have hne : gb ≠ g := by rw [HGB.out]; omega
 have hi5 : w5.heap[g]? = some (.cells #[.int .i64 (L + 1 : Nat)] 58 (0, 0)) := (HW.out.block g hgw).trans HI.out.1
 have c0 : w5.cell? ⟨g, 0, none⟩ = some (.int .i64 ((L + 1 : Nat) : Int)) := (blk_cell hi5 0).trans rfl
 have f0 := blk_frozen hi5 0
 have HI5 := Aside0.mk hi5
 clear hi5
 have b0 : w5.cell? ⟨gb, 0, none⟩ = some (.int .i64 x.f0) := (blk_cell BK.out 0).trans rfl
 have b1 : w5.cell? ⟨gb, 1, none⟩ = some (.int .i64 x.f1) := (blk_cell BK.out 1).trans rfl
 have b2 : w5.cell? ⟨gb, 2, none⟩ = some (.string x.f2) := (blk_cell BK.out 2).trans rfl
 have b3 : w5.cell? ⟨gb, 3, none⟩ = some (.slice A3 x.f3.length c3) := (blk_cell BK.out 3).trans rfl
 have b4 : w5.cell? ⟨gb, 4, none⟩ = some (.slice A4 x.f4.length c4) := (blk_cell BK.out 4).trans rfl
 have e1 : wrap64 (((L + 1 : Nat) : Int) - 1) = (L : Int) := by rw [w64 (by omega) (by omega)]; omega
 have HW1 := Aside0.mk (show Below w0.heap.size w0 (w5.setCell ⟨g, 0, none⟩ (.int .i64 (L : Int))) from (below_then HB.out HB.out.size HW.out).setCell HI.out.2 _)
 have HK1 := Aside0.mk (show KeepBut w (w5.setCell ⟨g, 0, none⟩ (.int .i64 (L : Int))) g none from (KeepBut.of_below HW.out g none).set_ 0 _)
 go_wp2_with (go_at_call 50; go_loud (with_reducible refine (qplain_is x.f0 x.f1 x.f2 _ _ x.f3 _ _ x.f4 false _ (HG.out.below HW1.out) HP.out).mono ?_); rintro e w' ⟨rfl, hb⟩; have HW2 := Aside0.mk hb; clear hb)
 go_ret
 exact ⟨below_then HW1.out HW1.out.size HW2.out, HK1.out.trans (KeepBut.of_below HW2.out g none) (.inl rfl), rfl⟩
end Go.Proofs.YtidcecpbihmloaaGreatDoorE

namespace Go.Proofs.YtidcecpbihmloaaGreatDoorE
open Go Go.RowKit Go.Proofs.YtidcecpbihmloaaGreatDoorW.PrintWords Go.Proofs.YtidcecpbihmloaaGreatDoorX Go.Proofs.YtidcecpbihmloaaGreatDoor.P16 Go.Proofs.YtidcecpbihmloaaGreatDoor.M02
set_option linter.unusedVariables false
set_option linter.unusedSimpArgs false
set_option maxHeartbeats 4000000 in
set_option maxRecDepth 100000 in
theorem right_leaf (x : DT) (hx : OkD x) (hp : plainD x = true) (hk : x.f0 < 4) (L op : Nat) (hL : L ≤ 2000) (g : Nat) (w0 w : World) (hgl : GL w0) (A3 : Option Addr) (c3 : Nat) (A4 : Option Addr) (c4 : Nat) (l3 : x.f3.length ≤ c3) (g3 : Kd.string.C w0 A3 x.f3.length x.f3) (l4 : x.f4.length ≤ c4) (g4 : k25.C w0 A4 x.f4.length x.f4) (hI : IsC w0 w g (L + 1 : Nat)) (hB : Below w0.heap.size w0 w) :
  Calls Tryz.prog 28 #[.pointer (some ⟨g, 0, none⟩), .agg #[.int .i64 x.f0, .int .i64 x.f1, .string x.f2, .slice A3 x.f3.length c3, .slice A4 x.f4.length c4], .int .i64 op] w (rightP w0 w g (some L)) := by
 have HI := Aside0.mk hI
 have HB := Aside0.mk hB
 have HG := Aside0.mk hgl
 have H3 := Aside0.mk g3
 have H4 := Aside0.mk g4
 have HP := Aside0.mk (show plainD (⟨x.f0, x.f1, x.f2, x.f3, x.f4⟩ : DT) = true ∧ x.f3.length ≤ 140737488351232 ∧ x.f4.length ≤ 140737488351232 from ⟨hp, hx.out.2.2.2.1, hx.out.2.2.2.2.2.1⟩)
 clear hI hB hgl g3 g4 hx hp
 go_enter Tryz.func28, Tryz.ntmps28
 go_upto_region 1 with (first | ((with_reducible refine gate_dst (N := 4) rfl ?_); refine box_event ?hg (N := 4) ?hd (cs := #[.int .i64 x.f0, .int .i64 x.f1, .string x.f2, .slice A3 x.f3.length c3, .slice A4 x.f4.length c4]) (t := 25) ?hr ?_; (case hd => rfl); (case hg => rfl); (case hr => first | (go_simp; done) | (go_simp; rfl)); intro gb hg w5 hbox hb; have BK := Aside0.mk hbox; have HW := Aside0.mk hb; have HGB := Aside0.mk hg; clear hbox hb hg))
 (try simp only [Act.put, List.setIfInBounds_toArray, List.set_cons_zero, List.set_cons_succ])
 have hgw : g < w.heap.size := blk_lt HI.out.1
 have hne : gb ≠ g := by rw [HGB.out]; omega
 have hi5 : w5.heap[g]? = some (.cells #[.int .i64 (L + 1 : Nat)] 58 (0, 0)) := (HW.out.block g hgw).trans HI.out.1
 have c0 : w5.cell? ⟨g, 0, none⟩ = some (.int .i64 ((L + 1 : Nat) : Int)) := (blk_cell hi5 0).trans rfl
 have f0 := blk_frozen hi5 0
 have HI5 := Aside0.mk hi5
 clear hi5
 have b0 : w5.cell? ⟨gb, 0, none⟩ = some (.int .i64 x.f0) := (blk_cell BK.out 0).trans rfl
 have b1 : w5.cell? ⟨gb, 1, none⟩ = some (.int .i64 x.f1) := (blk_cell BK.out 1).trans rfl
 have b2 : w5.cell? ⟨gb, 2, none⟩ = some (.string x.f2) := (blk_cell BK.out 2).trans rfl
 have b3 : w5.cell? ⟨gb, 3, none⟩ = some (.slice A3 x.f3.length c3) := (blk_cell BK.out 3).trans rfl
 have b4 : w5.cell? ⟨gb, 4, none⟩ = some (.slice A4 x.f4.length c4) := (blk_cell BK.out 4).trans rfl
 have e1 : wrap64 (((L + 1 : Nat) : Int) - 1) = (L : Int) := by rw [w64 (by omega) (by omega)]; omega
 have HW1 := Aside0.mk (show Below w0.heap.size w0 (w5.setCell ⟨g, 0, none⟩ (.int .i64 (L : Int))) from (below_then HB.out HB.out.size HW.out).setCell HI.out.2 _)
 have HK1 := Aside0.mk (show KeepBut w (w5.setCell ⟨g, 0, none⟩ (.int .i64 (L : Int))) g none from (KeepBut.of_below HW.out g none).set_ 0 _)
 have bg : (w5.setCell ⟨g, 0, none⟩ (.int .i64 (L : Int))).heap[gb]? = some (.cells #[.int .i64 x.f0, .int .i64 x.f1, .string x.f2, .slice A3 x.f3.length c3, .slice A4 x.f4.length c4] 25 (0, 0)) := (KeepBut.set_ (KeepBut.refl w5 g none) 0 _).blk BK.out hne (by simp)
 have BG := Aside0.mk bg
 have HIL := Aside0.mk (show IsC w0 (w5.setCell ⟨g, 0, none⟩ (.int .i64 (L : Int))) g (L : Int) from ⟨by rw [blk_set HI5.out 0 _]; rfl, HI.out.2⟩)
 clear bg
 go_wp2_with (go_at_call 50; go_loud (with_reducible refine (qplain_is x.f0 x.f1 x.f2 _ _ x.f3 _ _ x.f4 true _ (HG.out.below HW1.out) HP.out).mono ?_); rintro e w' ⟨rfl, hb⟩; have d0 : w'.cell? ⟨gb, 0, none⟩ = some (.int .i64 x.f0) := (blk_cell ((hb.block gb (blk_lt BG.out)).trans BG.out) 0).trans rfl; have HW2 := Aside0.mk hb; clear hb)
 go_ret
 exact ⟨below_then HW1.out HW1.out.size HW2.out, HK1.out.trans (KeepBut.of_below HW2.out g none) (.inl rfl), rfl, (HW2.out.block g (blk_lt HIL.out.1)).trans HIL.out.1, HIL.out.2⟩
end Go.Proofs.YtidcecpbihmloaaGreatDoorE

namespace Go.Proofs.YtidcecpbihmloaaGreatDoorE
open Go Go.RowKit Go.Proofs.YtidcecpbihmloaaGreatDoorW.PrintWords Go.Proofs.YtidcecpbihmloaaGreatDoorX Go.Proofs.YtidcecpbihmloaaGreatDoor.P16 Go.Proofs.YtidcecpbihmloaaGreatDoor.M02
set_option linter.unusedVariables false
set_option linter.unusedSimpArgs false
set_option maxHeartbeats 4000000 in
set_option maxRecDepth 100000 in
theorem right_much (x : DT) (hx : OkD x) (hp : plainD x = true) (hk : ¬ x.f0 < 4) (L op : Nat) (hL : L ≤ 2000) (hmu : op = 16 ∨ L < x.f4.length) (g : Nat) (w0 w : World) (hgl : GL w0) (A3 : Option Addr) (c3 : Nat) (A4 : Option Addr) (c4 : Nat) (l3 : x.f3.length ≤ c3) (g3 : Kd.string.C w0 A3 x.f3.length x.f3) (l4 : x.f4.length ≤ c4) (g4 : k25.C w0 A4 x.f4.length x.f4) (hI : IsC w0 w g (L + 1 : Nat)) (hB : Below w0.heap.size w0 w) :
  Calls Tryz.prog 28 #[.pointer (some ⟨g, 0, none⟩), .agg #[.int .i64 x.f0, .int .i64 x.f1, .string x.f2, .slice A3 x.f3.length c3, .slice A4 x.f4.length c4], .int .i64 op] w (rightP w0 w g none) := by
 have HI := Aside0.mk hI
 have HB := Aside0.mk hB
 have HG := Aside0.mk hgl
 have H3 := Aside0.mk g3
 have H4 := Aside0.mk g4
 have HP := Aside0.mk (show plainD (⟨x.f0, x.f1, x.f2, x.f3, x.f4⟩ : DT) = true ∧ x.f3.length ≤ 140737488351232 ∧ x.f4.length ≤ 140737488351232 from ⟨hp, hx.out.2.2.2.1, hx.out.2.2.2.2.2.1⟩)
 clear hI hB hgl g3 g4 hx hp
 go_enter Tryz.func28, Tryz.ntmps28
 go_upto_region 1 with (first | ((with_reducible refine gate_dst (N := 4) rfl ?_); refine box_event ?hg (N := 4) ?hd (cs := #[.int .i64 x.f0, .int .i64 x.f1, .string x.f2, .slice A3 x.f3.length c3, .slice A4 x.f4.length c4]) (t := 25) ?hr ?_; (case hd => rfl); (case hg => rfl); (case hr => first | (go_simp; done) | (go_simp; rfl)); intro gb hg w5 hbox hb; have BK := Aside0.mk hbox; have HW := Aside0.mk hb; have HGB := Aside0.mk hg; clear hbox hb hg))
 (try simp only [Act.put, List.setIfInBounds_toArray, List.set_cons_zero, List.set_cons_succ])
 have hgw : g < w.heap.size := blk_lt HI.out.1
 have hne : gb ≠ g := by rw [HGB.out]; omega
 have hi5 : w5.heap[g]? = some (.cells #[.int .i64 (L + 1 : Nat)] 58 (0, 0)) := (HW.out.block g hgw).trans HI.out.1
 have c0 : w5.cell? ⟨g, 0, none⟩ = some (.int .i64 ((L + 1 : Nat) : Int)) := (blk_cell hi5 0).trans rfl
 have f0 := blk_frozen hi5 0
 have HI5 := Aside0.mk hi5
 clear hi5
 have b0 : w5.cell? ⟨gb, 0, none⟩ = some (.int .i64 x.f0) := (blk_cell BK.out 0).trans rfl
 have b1 : w5.cell? ⟨gb, 1, none⟩ = some (.int .i64 x.f1) := (blk_cell BK.out 1).trans rfl
 have b2 : w5.cell? ⟨gb, 2, none⟩ = some (.string x.f2) := (blk_cell BK.out 2).trans rfl
 have b3 : w5.cell? ⟨gb, 3, none⟩ = some (.slice A3 x.f3.length c3) := (blk_cell BK.out 3).trans rfl
 have b4 : w5.cell? ⟨gb, 4, none⟩ = some (.slice A4 x.f4.length c4) := (blk_cell BK.out 4).trans rfl
 have e1 : wrap64 (((L + 1 : Nat) : Int) - 1) = (L : Int) := by rw [w64 (by omega) (by omega)]; omega
 have HW1 := Aside0.mk (show Below w0.heap.size w0 (w5.setCell ⟨g, 0, none⟩ (.int .i64 (L : Int))) from (below_then HB.out HB.out.size HW.out).setCell HI.out.2 _)
 have HK1 := Aside0.mk (show KeepBut w (w5.setCell ⟨g, 0, none⟩ (.int .i64 (L : Int))) g none from (KeepBut.of_below HW.out g none).set_ 0 _)
 have bg : (w5.setCell ⟨g, 0, none⟩ (.int .i64 (L : Int))).heap[gb]? = some (.cells #[.int .i64 x.f0, .int .i64 x.f1, .string x.f2, .slice A3 x.f3.length c3, .slice A4 x.f4.length c4] 25 (0, 0)) := (KeepBut.set_ (KeepBut.refl w5 g none) 0 _).blk BK.out hne (by simp)
 have BG := Aside0.mk bg
 have HIL := Aside0.mk (show IsC w0 (w5.setCell ⟨g, 0, none⟩ (.int .i64 (L : Int))) g (L : Int) from ⟨by rw [blk_set HI5.out 0 _]; rfl, HI.out.2⟩)
 clear bg
 by_cases ho : op = 16
 ·subst ho
  go_wp2_with (go_at_call 50; go_loud (with_reducible refine (qplain_is x.f0 x.f1 x.f2 _ _ x.f3 _ _ x.f4 true _ (HG.out.below HW1.out) HP.out).mono ?_); rintro e w' ⟨rfl, hb⟩; have d0 : w'.cell? ⟨gb, 0, none⟩ = some (.int .i64 x.f0) := (blk_cell ((hb.block gb (blk_lt BG.out)).trans BG.out) 0).trans rfl; have d4 : w'.cell? ⟨gb, 4, none⟩ = some (.slice A4 x.f4.length c4) := (blk_cell ((hb.block gb (blk_lt BG.out)).trans BG.out) 4).trans rfl; have p0 : w'.cell? ⟨g, 0, none⟩ = some (.int .i64 (L : Int)) := (blk_cell ((hb.block g (blk_lt HIL.out.1)).trans HIL.out.1) 0).trans rfl; have HW2 := Aside0.mk hb; clear hb)
  go_quiet (fail)
  go_wp2_with fail
  go_ret
  exact ⟨pw_below_drewN (below_then HW1.out HW1.out.size HW2.out) _, HK1.out.trans (KeepBut.of_below (pw_below_drewN HW2.out _) g none) (.inl rfl), rfl⟩
 ·have ho2 : ((op : Int) == 16) = false := by simp; omega
  have hmm : (L : Int) < (x.f4.length : Int) := by omega
  go_wp2_with (go_at_call 50; go_loud (with_reducible refine (qplain_is x.f0 x.f1 x.f2 _ _ x.f3 _ _ x.f4 true _ (HG.out.below HW1.out) HP.out).mono ?_); rintro e w' ⟨rfl, hb⟩; have d0 : w'.cell? ⟨gb, 0, none⟩ = some (.int .i64 x.f0) := (blk_cell ((hb.block gb (blk_lt BG.out)).trans BG.out) 0).trans rfl; have d4 : w'.cell? ⟨gb, 4, none⟩ = some (.slice A4 x.f4.length c4) := (blk_cell ((hb.block gb (blk_lt BG.out)).trans BG.out) 4).trans rfl; have p0 : w'.cell? ⟨g, 0, none⟩ = some (.int .i64 (L : Int)) := (blk_cell ((hb.block g (blk_lt HIL.out.1)).trans HIL.out.1) 0).trans rfl; have HW2 := Aside0.mk hb; clear hb)
  go_quiet (fail)
  go_wp2_with fail
  go_ret
  exact ⟨pw_below_drewN (below_then HW1.out HW1.out.size HW2.out) _, HK1.out.trans (KeepBut.of_below (pw_below_drewN HW2.out _) g none) (.inl rfl), rfl⟩
end Go.Proofs.YtidcecpbihmloaaGreatDoorE

namespace Go.Proofs.YtidcecpbihmloaaGreatDoorE
open Go Go.RowKit Go.Proofs.YtidcecpbihmloaaGreatDoorW.PrintWords Go.Proofs.YtidcecpbihmloaaGreatDoorX Go.Proofs.YtidcecpbihmloaaGreatDoor.P16 Go.Proofs.YtidcecpbihmloaaGreatDoor.M02
set_option linter.unusedVariables false
set_option linter.unusedSimpArgs false
/-- What is left, or one below nothing. -/
def optI : Option Nat → Int
 | some r => r
 | none => -1
theorem get_rdOf (ns : List ByteArray) (i : Nat) : rdOf ByteArray.empty ns (i : Int) = ns.getD i em := by unfold rdOf; rw [Int.toNat_natCast]; rfl
theorem getD_size {ns : List ByteArray} (h : ∀ s ∈ ns, s.size ≤ 140737488351232) (i : Nat) : (ns.getD i em).size ≤ 140737488351232 := by
 rw [List.getD_eq_getElem?_getD]
 cases hq : ns[i]? with
 | none => exact Nat.zero_le _
 | some s => exact h s (List.mem_of_getElem? hq)
end Go.Proofs.YtidcecpbihmloaaGreatDoorE

namespace Go.Proofs.YtidcecpbihmloaaGreatDoorE
open Go Go.RowKit Go.Proofs.YtidcecpbihmloaaGreatDoorW.PrintWords Go.Proofs.YtidcecpbihmloaaGreatDoorX Go.Proofs.YtidcecpbihmloaaGreatDoor.P16 Go.Proofs.YtidcecpbihmloaaGreatDoor.M02
set_option linter.unusedVariables false
set_option linter.unusedSimpArgs false
set_option maxHeartbeats 4000000 in
set_option maxRecDepth 100000 in
theorem right_names (x : DT) (hx : OkD x) (hp : plainD x = true) (hk : ¬ x.f0 < 4) (L op : Nat) (hL : L ≤ 2000) (ho : op < 16) (hmu : x.f4.length ≤ L) (hbad : ∃ j, j < x.f3.length ∧ ¬ goodN x.f3 j) (g : Nat) (w0 w : World) (hgl : GL w0) (A3 : Option Addr) (c3 : Nat) (A4 : Option Addr) (c4 : Nat) (l3 : x.f3.length ≤ c3) (g3 : Kd.string.C w0 A3 x.f3.length x.f3) (l4 : x.f4.length ≤ c4) (g4 : k25.C w0 A4 x.f4.length x.f4) (hI : IsC w0 w g (L + 1 : Nat)) (hB : Below w0.heap.size w0 w) :
  Calls Tryz.prog 28 #[.pointer (some ⟨g, 0, none⟩), .agg #[.int .i64 x.f0, .int .i64 x.f1, .string x.f2, .slice A3 x.f3.length c3, .slice A4 x.f4.length c4], .int .i64 op] w (rightP w0 w g none) := by
 have HI := Aside0.mk hI
 have HB := Aside0.mk hB
 have HG := Aside0.mk hgl
 have H3 := Aside0.mk g3
 have H4 := Aside0.mk g4
 have HP := Aside0.mk (show plainD (⟨x.f0, x.f1, x.f2, x.f3, x.f4⟩ : DT) = true ∧ x.f3.length ≤ 140737488351232 ∧ x.f4.length ≤ 140737488351232 from ⟨hp, hx.out.2.2.2.1, hx.out.2.2.2.2.2.1⟩)
 have HXS := Aside0.mk hx.out.2.2.2.2.1
 have hN3 : x.f3.length ≤ 140737488351232 := hx.out.2.2.2.1
 clear hI hB hgl g3 g4 hx hp
 go_enter Tryz.func28, Tryz.ntmps28
 go_upto_region 1 with (first | ((with_reducible refine gate_dst (N := 4) rfl ?_); refine box_event ?hg (N := 4) ?hd (cs := #[.int .i64 x.f0, .int .i64 x.f1, .string x.f2, .slice A3 x.f3.length c3, .slice A4 x.f4.length c4]) (t := 25) ?hr ?_; (case hd => rfl); (case hg => rfl); (case hr => first | (go_simp; done) | (go_simp; rfl)); intro gb hg w5 hbox hb; have BK := Aside0.mk hbox; have HW := Aside0.mk hb; have HGB := Aside0.mk hg; clear hbox hb hg))
 (try simp only [Act.put, List.setIfInBounds_toArray, List.set_cons_zero, List.set_cons_succ])
 have hgw : g < w.heap.size := blk_lt HI.out.1
 have hne : gb ≠ g := by rw [HGB.out]; omega
 have hi5 : w5.heap[g]? = some (.cells #[.int .i64 (L + 1 : Nat)] 58 (0, 0)) := (HW.out.block g hgw).trans HI.out.1
 have c0 : w5.cell? ⟨g, 0, none⟩ = some (.int .i64 ((L + 1 : Nat) : Int)) := (blk_cell hi5 0).trans rfl
 have f0 := blk_frozen hi5 0
 have HI5 := Aside0.mk hi5
 clear hi5
 have b0 : w5.cell? ⟨gb, 0, none⟩ = some (.int .i64 x.f0) := (blk_cell BK.out 0).trans rfl
 have b1 : w5.cell? ⟨gb, 1, none⟩ = some (.int .i64 x.f1) := (blk_cell BK.out 1).trans rfl
 have b2 : w5.cell? ⟨gb, 2, none⟩ = some (.string x.f2) := (blk_cell BK.out 2).trans rfl
 have b3 : w5.cell? ⟨gb, 3, none⟩ = some (.slice A3 x.f3.length c3) := (blk_cell BK.out 3).trans rfl
 have b4 : w5.cell? ⟨gb, 4, none⟩ = some (.slice A4 x.f4.length c4) := (blk_cell BK.out 4).trans rfl
 have e1 : wrap64 (((L + 1 : Nat) : Int) - 1) = (L : Int) := by rw [w64 (by omega) (by omega)]; omega
 have HW1 := Aside0.mk (show Below w0.heap.size w0 (w5.setCell ⟨g, 0, none⟩ (.int .i64 (L : Int))) from (below_then HB.out HB.out.size HW.out).setCell HI.out.2 _)
 have HK1 := Aside0.mk (show KeepBut w (w5.setCell ⟨g, 0, none⟩ (.int .i64 (L : Int))) g none from (KeepBut.of_below HW.out g none).set_ 0 _)
 have bg : (w5.setCell ⟨g, 0, none⟩ (.int .i64 (L : Int))).heap[gb]? = some (.cells #[.int .i64 x.f0, .int .i64 x.f1, .string x.f2, .slice A3 x.f3.length c3, .slice A4 x.f4.length c4] 25 (0, 0)) := (KeepBut.set_ (KeepBut.refl w5 g none) 0 _).blk BK.out hne (by simp)
 have BG := Aside0.mk bg
 have HIL := Aside0.mk (show IsC w0 (w5.setCell ⟨g, 0, none⟩ (.int .i64 (L : Int))) g (L : Int) from ⟨by rw [blk_set HI5.out 0 _]; rfl, HI.out.2⟩)
 clear bg
 have ho2 : ((op : Int) == 16) = false := by simp; omega
 have hmm : decide (L < x.f4.length) = false := decide_eq_false (by omega)
 have hmm2 : decide ((L : Int) < (x.f4.length : Int)) = false := decide_eq_false (by omega)
 go_wp2_with (go_at_call 50; go_loud (with_reducible refine (qplain_is x.f0 x.f1 x.f2 _ _ x.f3 _ _ x.f4 true _ (HG.out.below HW1.out) HP.out).mono ?_); rintro e w2 ⟨rfl, hb⟩; have d0 : w2.cell? ⟨gb, 0, none⟩ = some (.int .i64 x.f0) := (blk_cell ((hb.block gb (blk_lt BG.out)).trans BG.out) 0).trans rfl; have d3 : w2.cell? ⟨gb, 3, none⟩ = some (.slice A3 x.f3.length c3) := (blk_cell ((hb.block gb (blk_lt BG.out)).trans BG.out) 3).trans rfl; have d4 : w2.cell? ⟨gb, 4, none⟩ = some (.slice A4 x.f4.length c4) := (blk_cell ((hb.block gb (blk_lt BG.out)).trans BG.out) 4).trans rfl; have p0 : w2.cell? ⟨g, 0, none⟩ = some (.int .i64 (L : Int)) := (blk_cell ((hb.block g (blk_lt HIL.out.1)).trans HIL.out.1) 0).trans rfl; have HW2 := Aside0.mk hb; clear hb)
 go_quiet (fail)
 have HBAD := Aside0.mk hbad
 clear hbad
 go_wp2_with fail
 go_loopg [46] x.f3.length (fun gk i wr => ∃ k : Nat, k ≤ x.f3.length ∧ i = .int .i64 k ∧ Aside0 (Below w2.heap.size w2 wr ∧ (∀ j, j < k → goodN x.f3 j) ∧ k + gk = x.f3.length))
 case atStart => exact ⟨0, by omega, rfl, ⟨pw_below_drewN (Below.refl _ _) _, fun j hj => by omega, by omega⟩⟩
 case round =>
  obtain ⟨k, hk, rfl, HXD⟩ := hrel
  by_cases hlt : k < x.f3.length
  ·have HZ := Aside0.mk (show Below w0.heap.size w0 wr from below_then (below_then HW1.out HW1.out.size HW2.out) (below_then HW1.out HW1.out.size HW2.out).size HXD.out.1)
   have d3r : wr.cell? ⟨gb, 3, none⟩ = some (.slice A3 x.f3.length c3) := (blk_cell ((HXD.out.1.block gb (blk_lt ((HW2.out.block gb (blk_lt BG.out)).trans BG.out))).trans ((HW2.out.block gb (blk_lt BG.out)).trans BG.out)) 3).trans rfl
   obtain ⟨ad, rfl, q0⟩ := Kd.at_string (Kd.C_below H3.out HZ.out) (k : Int) (by omega) (by omega)
   rw [Int.toNat_natCast] at q0
   obtain ⟨s, hs⟩ : ∃ s, s = rdOf ByteArray.empty x.f3 (k : Int) := ⟨_, rfl⟩
   rw [← hs] at q0
   have hsz : s.size ≤ 140737488351232 := by
    rw [hs]
    unfold rdOf
    rw [Int.toNat_natCast, List.getD_eq_getElem?_getD, List.getElem?_eq_getElem hlt]
    exact HXS.out _ (List.getElem_mem hlt)
   obtain ⟨K, hK⟩ := name_ev s hsz
   have HNK := Aside0.mk (hK K (Nat.le_refl _))
   have HS := Aside0.mk hs
   clear hs hK hsz
   obtain ⟨bn, hbn⟩ : ∃ b, b = namedS true (B s) := ⟨_, rfl⟩
   have HNK := Aside0.mk (show chars_Name.f K s = some bn by rw [hbn]; exact HNK.out)
   have HBN := Aside0.mk hbn
   clear hbn
   cases bn with
   | false =>
    go_wp2_with (go_at_call 51; go_loud (with_reducible refine (chars_Name.calls K s false _ (HG.out.below HZ.out) HNK.out).mono ?_); rintro e w3 ⟨rfl, hd⟩; have HD3 := Aside0.mk hd.below; clear hd)
    go_ret
    exact ⟨below_then HZ.out HZ.out.size HD3.out, (HK1.out.trans (KeepBut.of_below (below_then HW2.out HW2.out.size HXD.out.1) g none) (.inl rfl)).trans (KeepBut.of_below HD3.out g none) (.inl rfl), rfl⟩
   | true =>
    have HNM := Aside0.mk (show namedS true (x.f3.getD k em).data.toList = true by have h := HBN.out; rw [HS.out] at h; exact h.symm)
    by_cases hk0 : k = 0
    ·subst hk0
     rw [Addr.add_zero'] at q0
     go_wp2_with (go_at_call 51; go_loud (with_reducible refine (chars_Name.calls K s true _ (HG.out.below HZ.out) HNK.out).mono ?_); rintro e w3 ⟨rfl, hd⟩; have HD3 := Aside0.mk hd.below; clear hd)
     go_roundg (x.f3.length - 1)
     case measure => have := HXD.out.2.2; omega
     case rel => exact ⟨1, by omega, by go_num, ⟨below_then HXD.out.1 HXD.out.1.size HD3.out, fun j hj => by
      obtain rfl : j = 0 := by omega
      exact ⟨HNM.out, fun h => absurd h (by omega)⟩, by omega⟩⟩
    ·have hk1 : 0 < k := by omega
     have hk2 : k ≤ 140737488351232 := by omega
     obtain ⟨ad', hade, q1⟩ := Kd.at_string (Kd.C_below H3.out HZ.out) ((k - 1 : Nat) : Int) (by omega) (by omega)
     injection hade with hade
     subst hade
     rw [Int.toNat_natCast] at q1
     obtain ⟨s', hs'⟩ : ∃ s', s' = rdOf ByteArray.empty x.f3 ((k - 1 : Nat) : Int) := ⟨_, rfl⟩
     rw [← hs'] at q1
     have HS' := Aside0.mk hs'
     clear hs'
     go_wp2_with (go_at_call 51; go_loud (with_reducible refine (chars_Name.calls K s true _ (HG.out.below HZ.out) HNK.out).mono ?_); rintro e w3 ⟨rfl, hd⟩; have q2 := pw_cell_below hd.below q1; have d3s := pw_cell_below hd.below d3r; have HD3 := Aside0.mk hd.below; clear hd)
     ·go_ret
      exact ⟨below_then HZ.out HZ.out.size HD3.out, (HK1.out.trans (KeepBut.of_below (below_then HW2.out HW2.out.size HXD.out.1) g none) (.inl rfl)).trans (KeepBut.of_below HD3.out g none) (.inl rfl), rfl⟩
     ·have hq : (!Op.bytesLess s'.toList s.toList) = false := by assumption
      have HQ := Aside0.mk hq
      clear hq
      go_roundg (gk - 1)
      case measure => have := HXD.out.2.2; omega
      case rel => exact ⟨k + 1, by omega, by go_num, ⟨below_then HXD.out.1 HXD.out.1.size HD3.out, fun j hj => by
       by_cases hjk : j = k
       ·subst hjk
        have h := HQ.out
        rw [toList_B, toList_B, HS.out, HS'.out, get_rdOf, get_rdOf] at h
        exact ⟨HNM.out, fun _ => by simpa using h⟩
       ·exact HXD.out.2.1 j (by omega), by have := HXD.out.2.2; omega⟩⟩
  ·exfalso
   obtain ⟨j, hj, hn⟩ := HBAD.out
   exact hn (HXD.out.2.1 j (by omega))
end Go.Proofs.YtidcecpbihmloaaGreatDoorE

namespace Go.Proofs.YtidcecpbihmloaaGreatDoorE
open Go Go.RowKit Go.Proofs.YtidcecpbihmloaaGreatDoorW.PrintWords Go.Proofs.YtidcecpbihmloaaGreatDoorX Go.Proofs.YtidcecpbihmloaaGreatDoor.P16 Go.Proofs.YtidcecpbihmloaaGreatDoor.M02
set_option linter.unusedVariables false
set_option linter.unusedSimpArgs false
/-- What right says of a piece, wherever it is called. -/
def rightC (x : DT) : Prop := ∀ (L op : Nat), L ≤ 2000 → op ≤ 16 → ∀ (g : Nat) (w0 w : World), GL w0 → ∀ (A3 : Option Addr) (c3 : Nat) (A4 : Option Addr) (c4 : Nat), x.f3.length ≤ c3 → Kd.string.C w0 A3 x.f3.length x.f3 → x.f4.length ≤ c4 → k25.C w0 A4 x.f4.length x.f4 → IsC w0 w g (L : Nat) → Below w0.heap.size w0 w →
 Calls Tryz.prog 28 #[.pointer (some ⟨g, 0, none⟩), aggD x A3 c3 A4 c4, .int .i64 op] w (rightP w0 w g (weighD x L op))
theorem rd_take (l : List DT) (q : Nat) (h : q < l.length) : rd_T25 l (q : Int) ∈ l ∧ l.take (q + 1) = l.take q ++ [rd_T25 l (q : Int)] ∧ l = l.take q ++ rd_T25 l (q : Int) :: l.drop (q + 1) := by
 have e : rd_T25 l (q : Int) = l[q] := by
  unfold rd_T25
  rw [Int.toNat_natCast, List.getD_eq_getElem?_getD, List.getElem?_eq_getElem h]
  rfl
 rw [e]
 refine ⟨List.getElem_mem h, List.take_succ_eq_append_getElem h, ?_⟩
 rw [← List.drop_eq_getElem_cons h, List.take_append_drop]
set_option maxHeartbeats 4000000 in
set_option maxRecDepth 100000 in
theorem right_kids (x : DT) (hx : OkD x) (hp : plainD x = true) (hk : ¬ x.f0 < 4) (L op : Nat) (hL : L ≤ 2000) (ho : op < 16) (hmu : x.f4.length ≤ L) (hgood : ∀ j, j < x.f3.length → goodN x.f3 j) (ih : ∀ y ∈ x.f4, rightC y) (g : Nat) (w0 w : World) (hgl : GL w0) (A3 : Option Addr) (c3 : Nat) (A4 : Option Addr) (c4 : Nat) (l3 : x.f3.length ≤ c3) (g3 : Kd.string.C w0 A3 x.f3.length x.f3) (l4 : x.f4.length ≤ c4) (g4 : k25.C w0 A4 x.f4.length x.f4) (hI : IsC w0 w g (L + 1 : Nat)) (hB : Below w0.heap.size w0 w) :
  Calls Tryz.prog 28 #[.pointer (some ⟨g, 0, none⟩), .agg #[.int .i64 x.f0, .int .i64 x.f1, .string x.f2, .slice A3 x.f3.length c3, .slice A4 x.f4.length c4], .int .i64 op] w (rightP w0 w g (weighL x.f4 L (op + 1))) := by
 have HI := Aside0.mk hI
 have HB := Aside0.mk hB
 have HG := Aside0.mk hgl
 have H3 := Aside0.mk g3
 have H4 := Aside0.mk g4
 have HP := Aside0.mk (show plainD (⟨x.f0, x.f1, x.f2, x.f3, x.f4⟩ : DT) = true ∧ x.f3.length ≤ 140737488351232 ∧ x.f4.length ≤ 140737488351232 from ⟨hp, hx.out.2.2.2.1, hx.out.2.2.2.2.2.1⟩)
 have HXS := Aside0.mk hx.out.2.2.2.2.1
 have HGOOD := Aside0.mk hgood
 have IH := Aside0.mk ih
 have hN4 : x.f4.length ≤ 140737488351232 := hx.out.2.2.2.2.2.1
 clear hgood ih
 have hN3 : x.f3.length ≤ 140737488351232 := hx.out.2.2.2.1
 clear hI hB hgl g3 g4 hx hp
 go_enter Tryz.func28, Tryz.ntmps28
 go_upto_region 1 with (first | ((with_reducible refine gate_dst (N := 4) rfl ?_); refine box_event ?hg (N := 4) ?hd (cs := #[.int .i64 x.f0, .int .i64 x.f1, .string x.f2, .slice A3 x.f3.length c3, .slice A4 x.f4.length c4]) (t := 25) ?hr ?_; (case hd => rfl); (case hg => rfl); (case hr => first | (go_simp; done) | (go_simp; rfl)); intro gb hg w5 hbox hb; have BK := Aside0.mk hbox; have HW := Aside0.mk hb; have HGB := Aside0.mk hg; clear hbox hb hg))
 (try simp only [Act.put, List.setIfInBounds_toArray, List.set_cons_zero, List.set_cons_succ])
 have hgw : g < w.heap.size := blk_lt HI.out.1
 have hne : gb ≠ g := by rw [HGB.out]; omega
 have hi5 : w5.heap[g]? = some (.cells #[.int .i64 (L + 1 : Nat)] 58 (0, 0)) := (HW.out.block g hgw).trans HI.out.1
 have c0 : w5.cell? ⟨g, 0, none⟩ = some (.int .i64 ((L + 1 : Nat) : Int)) := (blk_cell hi5 0).trans rfl
 have f0 := blk_frozen hi5 0
 have HI5 := Aside0.mk hi5
 clear hi5
 have b0 : w5.cell? ⟨gb, 0, none⟩ = some (.int .i64 x.f0) := (blk_cell BK.out 0).trans rfl
 have b1 : w5.cell? ⟨gb, 1, none⟩ = some (.int .i64 x.f1) := (blk_cell BK.out 1).trans rfl
 have b2 : w5.cell? ⟨gb, 2, none⟩ = some (.string x.f2) := (blk_cell BK.out 2).trans rfl
 have b3 : w5.cell? ⟨gb, 3, none⟩ = some (.slice A3 x.f3.length c3) := (blk_cell BK.out 3).trans rfl
 have b4 : w5.cell? ⟨gb, 4, none⟩ = some (.slice A4 x.f4.length c4) := (blk_cell BK.out 4).trans rfl
 have e1 : wrap64 (((L + 1 : Nat) : Int) - 1) = (L : Int) := by rw [w64 (by omega) (by omega)]; omega
 have HW1 := Aside0.mk (show Below w0.heap.size w0 (w5.setCell ⟨g, 0, none⟩ (.int .i64 (L : Int))) from (below_then HB.out HB.out.size HW.out).setCell HI.out.2 _)
 have HK1 := Aside0.mk (show KeepBut w (w5.setCell ⟨g, 0, none⟩ (.int .i64 (L : Int))) g none from (KeepBut.of_below HW.out g none).set_ 0 _)
 have bg : (w5.setCell ⟨g, 0, none⟩ (.int .i64 (L : Int))).heap[gb]? = some (.cells #[.int .i64 x.f0, .int .i64 x.f1, .string x.f2, .slice A3 x.f3.length c3, .slice A4 x.f4.length c4] 25 (0, 0)) := (KeepBut.set_ (KeepBut.refl w5 g none) 0 _).blk BK.out hne (by simp)
 have BG := Aside0.mk bg
 have HIL := Aside0.mk (show IsC w0 (w5.setCell ⟨g, 0, none⟩ (.int .i64 (L : Int))) g (L : Int) from ⟨by rw [blk_set HI5.out 0 _]; rfl, HI.out.2⟩)
 clear bg
 have ho2 : ((op : Int) == 16) = false := by simp; omega
 have hmm : decide (L < x.f4.length) = false := decide_eq_false (by omega)
 have hmm2 : decide ((L : Int) < (x.f4.length : Int)) = false := decide_eq_false (by omega)
 go_wp2_with (go_at_call 50; go_loud (with_reducible refine (qplain_is x.f0 x.f1 x.f2 _ _ x.f3 _ _ x.f4 true _ (HG.out.below HW1.out) HP.out).mono ?_); rintro e w2 ⟨rfl, hb⟩; have d0 : w2.cell? ⟨gb, 0, none⟩ = some (.int .i64 x.f0) := (blk_cell ((hb.block gb (blk_lt BG.out)).trans BG.out) 0).trans rfl; have d3 : w2.cell? ⟨gb, 3, none⟩ = some (.slice A3 x.f3.length c3) := (blk_cell ((hb.block gb (blk_lt BG.out)).trans BG.out) 3).trans rfl; have d4 : w2.cell? ⟨gb, 4, none⟩ = some (.slice A4 x.f4.length c4) := (blk_cell ((hb.block gb (blk_lt BG.out)).trans BG.out) 4).trans rfl; have p0 : w2.cell? ⟨g, 0, none⟩ = some (.int .i64 (L : Int)) := (blk_cell ((hb.block g (blk_lt HIL.out.1)).trans HIL.out.1) 0).trans rfl; have HW2 := Aside0.mk hb; clear hb)
 go_quiet (fail)
 go_wp2_with fail
 go_loopg [46] x.f3.length (fun gk i wr => ∃ k : Nat, k ≤ x.f3.length ∧ i = .int .i64 k ∧ Aside0 (Below w2.heap.size w2 wr ∧ (∀ j, j < k → goodN x.f3 j) ∧ k + gk = x.f3.length))
 case atStart => exact ⟨0, by omega, rfl, ⟨pw_below_drewN (Below.refl _ _) _, fun j hj => by omega, by omega⟩⟩
 case round =>
  obtain ⟨k, hk, rfl, HXD⟩ := hrel
  by_cases hlt : k < x.f3.length
  ·have HZ := Aside0.mk (show Below w0.heap.size w0 wr from below_then (below_then HW1.out HW1.out.size HW2.out) (below_then HW1.out HW1.out.size HW2.out).size HXD.out.1)
   have d3r : wr.cell? ⟨gb, 3, none⟩ = some (.slice A3 x.f3.length c3) := (blk_cell ((HXD.out.1.block gb (blk_lt ((HW2.out.block gb (blk_lt BG.out)).trans BG.out))).trans ((HW2.out.block gb (blk_lt BG.out)).trans BG.out)) 3).trans rfl
   obtain ⟨ad, rfl, q0⟩ := Kd.at_string (Kd.C_below H3.out HZ.out) (k : Int) (by omega) (by omega)
   rw [Int.toNat_natCast] at q0
   obtain ⟨s, hs⟩ : ∃ s, s = rdOf ByteArray.empty x.f3 (k : Int) := ⟨_, rfl⟩
   rw [← hs] at q0
   have hsz : s.size ≤ 140737488351232 := by
    rw [hs]
    unfold rdOf
    rw [Int.toNat_natCast, List.getD_eq_getElem?_getD, List.getElem?_eq_getElem hlt]
    exact HXS.out _ (List.getElem_mem hlt)
   obtain ⟨K, hK⟩ := name_ev s hsz
   have HNK := Aside0.mk (hK K (Nat.le_refl _))
   have HS := Aside0.mk hs
   clear hs hK hsz
   obtain ⟨bn, hbn⟩ : ∃ b, b = namedS true (B s) := ⟨_, rfl⟩
   have HNK := Aside0.mk (show chars_Name.f K s = some bn by rw [hbn]; exact HNK.out)
   have HBN := Aside0.mk hbn
   clear hbn
   cases bn with
   | false =>
    exfalso
    have h := HBN.out
    rw [HS.out, get_rdOf] at h
    exact absurd (h.trans (HGOOD.out k hlt).1) (by decide)
   | true =>
    have HNM := Aside0.mk (show namedS true (x.f3.getD k em).data.toList = true by have h := HBN.out; rw [HS.out] at h; exact h.symm)
    by_cases hk0 : k = 0
    ·subst hk0
     rw [Addr.add_zero'] at q0
     go_wp2_with (go_at_call 51; go_loud (with_reducible refine (chars_Name.calls K s true _ (HG.out.below HZ.out) HNK.out).mono ?_); rintro e w3 ⟨rfl, hd⟩; have HD3 := Aside0.mk hd.below; clear hd)
     go_roundg (x.f3.length - 1)
     case measure => have := HXD.out.2.2; omega
     case rel => exact ⟨1, by omega, by go_num, ⟨below_then HXD.out.1 HXD.out.1.size HD3.out, fun j hj => by
      obtain rfl : j = 0 := by omega
      exact ⟨HNM.out, fun h => absurd h (by omega)⟩, by omega⟩⟩
    ·have hk1 : 0 < k := by omega
     have hk2 : k ≤ 140737488351232 := by omega
     obtain ⟨ad', hade, q1⟩ := Kd.at_string (Kd.C_below H3.out HZ.out) ((k - 1 : Nat) : Int) (by omega) (by omega)
     injection hade with hade
     subst hade
     rw [Int.toNat_natCast] at q1
     obtain ⟨s', hs'⟩ : ∃ s', s' = rdOf ByteArray.empty x.f3 ((k - 1 : Nat) : Int) := ⟨_, rfl⟩
     rw [← hs'] at q1
     have HS' := Aside0.mk hs'
     clear hs'
     go_wp2_with (go_at_call 51; go_loud (with_reducible refine (chars_Name.calls K s true _ (HG.out.below HZ.out) HNK.out).mono ?_); rintro e w3 ⟨rfl, hd⟩; have q2 := pw_cell_below hd.below q1; have d3s := pw_cell_below hd.below d3r; have HD3 := Aside0.mk hd.below; clear hd)
     ·exfalso
      have hq : (!Op.bytesLess s'.toList s.toList) = true := by assumption
      have h := (HGOOD.out k hlt).2 hk1
      rw [toList_B, toList_B, HS.out, HS'.out, get_rdOf, get_rdOf] at hq
      rw [show Op.bytesLess (B (x.f3.getD (k - 1) em)) (B (x.f3.getD k em)) = true from h] at hq
      exact absurd hq (by decide)
     ·have hq : (!Op.bytesLess s'.toList s.toList) = false := by assumption
      have HQ := Aside0.mk hq
      clear hq
      go_roundg (gk - 1)
      case measure => have := HXD.out.2.2; omega
      case rel => exact ⟨k + 1, by omega, by go_num, ⟨below_then HXD.out.1 HXD.out.1.size HD3.out, fun j hj => by
       by_cases hjk : j = k
       ·subst hjk
        have h := HQ.out
        rw [toList_B, toList_B, HS.out, HS'.out, get_rdOf, get_rdOf] at h
        exact ⟨HNM.out, fun _ => by simpa using h⟩
       ·exact HXD.out.2.1 j (by omega), by have := HXD.out.2.2; omega⟩⟩
  ·have HZ := Aside0.mk (show Below w0.heap.size w0 wr from below_then (below_then HW1.out HW1.out.size HW2.out) (below_then HW1.out HW1.out.size HW2.out).size HXD.out.1)
   have d4r : wr.cell? ⟨gb, 4, none⟩ = some (.slice A4 x.f4.length c4) := (blk_cell ((HXD.out.1.block gb (blk_lt ((HW2.out.block gb (blk_lt BG.out)).trans BG.out))).trans ((HW2.out.block gb (blk_lt BG.out)).trans BG.out)) 4).trans rfl
   have HK3 := Aside0.mk (HK1.out.trans (KeepBut.of_below (below_then HW2.out HW2.out.size HXD.out.1) g none) (.inl rfl))
   have HI3 := Aside0.mk (show IsC w0 wr g (L : Int) from ⟨(HXD.out.1.block g (blk_lt ((HW2.out.block g (blk_lt HIL.out.1)).trans HIL.out.1))).trans ((HW2.out.block g (blk_lt HIL.out.1)).trans HIL.out.1), HIL.out.2⟩)
   go_wp2_with fail
   go_loopg [72] x.f4.length (fun gq i wq => ∃ q : Nat, q ≤ x.f4.length ∧ i = .int .i64 q ∧ Aside0 (q + gq = x.f4.length ∧ ∃ r : Nat, weighL (x.f4.take q) L (op + 1) = some r ∧ r ≤ 2000 ∧ IsC w0 wq g r ∧ Below w0.heap.size w0 wq ∧ KeepBut w wq g none))
   case atStart => exact ⟨0, by omega, rfl, ⟨by omega, L, by rw [List.take_zero, weighL], by omega, HI3.out, HZ.out, HK3.out⟩⟩
   case round =>
    obtain ⟨q, hq, rfl, HQ⟩ := hrel
    obtain ⟨hqn, r, hr⟩ := HQ.out
    have HR := Aside0.mk hr
    have HN := Aside0.mk hqn
    clear HQ hqn hr
    by_cases hqlt : q < x.f4.length
    ·obtain ⟨ad, A3q, c3q, A4q, c4q, rfl, a0, a1, a2, a3, a4, hl3, hC3, hl4, hC4⟩ := at_T25 H4.out (q : Int) (by omega) (by omega)
     rw [Int.toNat_natCast] at a0 a1 a2 a3 a4
     replace a0 := pw_cell_below HR.out.2.2.2.1 a0
     replace a1 := pw_cell_below HR.out.2.2.2.1 a1
     replace a2 := pw_cell_below HR.out.2.2.2.1 a2
     replace a3 := pw_cell_below HR.out.2.2.2.1 a3
     replace a4 := pw_cell_below HR.out.2.2.2.1 a4
     obtain ⟨y, hy⟩ : ∃ y, y = rd_T25 x.f4 (q : Int) := ⟨_, rfl⟩
     rw [← hy] at a0 a1 a2 a3 a4 hl3 hC3 hl4 hC4
     have HY := Aside0.mk (rd_take x.f4 q hqlt)
     rw [← hy] at HY
     clear hy
     have HB4 := Aside0.mk (below_alloc HR.out.2.2.2.1 (.cells #[.int .i64 y.f0, .int .i64 y.f1, .string y.f2, .slice A3q y.f3.length c3q, .slice A4q y.f4.length c4q] 25))
     have HI4 := Aside0.mk (show IsC w0 (wr.alloc (.cells #[.int .i64 y.f0, .int .i64 y.f1, .string y.f2, .slice A3q y.f3.length c3q, .slice A4q y.f4.length c4q] 25)) g r from ⟨((below_alloc (Below.refl _ _) _).block g (blk_lt HR.out.2.2.1.1)).trans HR.out.2.2.1.1, HR.out.2.2.1.2⟩)
     have HK4 := Aside0.mk (HR.out.2.2.2.2.trans (KeepBut.of_below (below_alloc (Below.refl _ _) (.cells #[.int .i64 y.f0, .int .i64 y.f1, .string y.f2, .slice A3q y.f3.length c3q, .slice A4q y.f4.length c4q] 25)) g none) (.inl rfl))
     have CY := Aside0.mk (IH.out y HY.out.1 r (op + 1) HR.out.2.1 (by omega) g w0 _ HG.out A3q c3q A4q c4q hl3 hC3 hl4 hC4 HI4.out HB4.out)
     clear hl3 hC3 hl4 hC4
     have hop : ((op + 1 : Nat) : Int) = (op : Int) + 1 := by omega
     rw [hop] at CY
     clear hop
     have HWL := Aside0.mk (show weighL x.f4 L (op + 1) = (match weighD y r (op + 1) with | none => none | some r' => weighL (x.f4.drop (q + 1)) r' (op + 1)) by
      conv => lhs; rw [HY.out.2.2]
      rw [weighL_append, HR.out.1]
      show weighL (y :: x.f4.drop (q + 1)) r (op + 1) = _
      rw [weighL]
      try (cases weighD y r (op + 1) <;> rfl))
     have HWT := Aside0.mk (show weighL (x.f4.take (q + 1)) L (op + 1) = weighD y r (op + 1) by
      rw [HY.out.2.1, weighL_append, HR.out.1]
      show weighL [y] r (op + 1) = _
      rw [weighL]
      try (cases weighD y r (op + 1) <;> simp [weighL]))
     have HLE := Aside0.mk (fun q' (h : weighD y r (op + 1) = some q') => weighD_le y r (op + 1) q' h)
     cases hwd : weighD y r (op + 1) with
     | none =>
      rw [hwd] at CY HWL
      clear hwd
      have HWN := Aside0.mk (show weighL x.f4 L (op + 1) = none from HWL.out)
      rw [HWN.out]
      go_wp2_with (go_at_call 28; go_loud (with_reducible refine CY.out.mono ?_); rintro e w4 ⟨hb4, hk4, rfl⟩; have HBZ := Aside0.mk hb4; have HKZ := Aside0.mk hk4; clear hb4 hk4)
      go_ret
      exact ⟨HBZ.out, HK4.out.trans HKZ.out (.inl rfl), rfl⟩
     | some r' =>
      rw [hwd] at CY HWT
      have HLE' := Aside0.mk (HLE.out r' hwd)
      clear hwd
      go_wp2_with (go_at_call 28; go_loud (with_reducible refine CY.out.mono ?_); rintro e w4 ⟨hb4, hk4, rfl, hi4⟩; have HBZ := Aside0.mk hb4; have HKZ := Aside0.mk hk4; have HIZ := Aside0.mk hi4; clear hb4 hk4 hi4)
      go_roundg (gk - 1)
      case measure => have := HN.out; omega
      case rel => exact ⟨q + 1, by omega, by go_num, ⟨by have := HN.out; omega, r', HWT.out, by have := HLE'.out; have := HR.out.2.1; omega, HIZ.out, HBZ.out, HK4.out.trans HKZ.out (.inl rfl)⟩⟩
    ·go_wp2_with fail
     go_ret
     have hx2 : x.f4.take q = x.f4 := List.take_of_length_le (by omega)
     have h := HR.out
     rw [hx2] at h
     rw [h.1]
     exact ⟨h.2.2.2.1, h.2.2.2.2, rfl, h.2.2.1⟩
end Go.Proofs.YtidcecpbihmloaaGreatDoorE

namespace Go.Proofs.YtidcecpbihmloaaGreatDoorE
open Go Go.RowKit Go.Proofs.YtidcecpbihmloaaGreatDoorW.PrintWords Go.Proofs.YtidcecpbihmloaaGreatDoorX Go.Proofs.YtidcecpbihmloaaGreatDoor.P16 Go.Proofs.YtidcecpbihmloaaGreatDoor.M02
set_option linter.unusedVariables false
set_option linter.unusedSimpArgs false
theorem weighD_eq (x : DT) (L op : Nat) : weighD x (L + 1) op = if plainD x = false ∨ (x.f0 > 3 ∧ op = 16) ∨ namesD x.f3 = false then none else weighL x.f4 L (op + 1) := by
 rcases x with ⟨a, b, c, ns, l⟩
 rw [weighD]
 simp only [Nat.add_sub_cancel, Nat.succ_ne_zero, false_or]
theorem right_c (x : DT) (hx : OkD x) : rightC x := by
 induction hx with
 | mk x h0 h1 h2 n3 h3 n4 h4 ih =>
  have hx : OkD x := .mk x h0 h1 h2 n3 h3 n4 h4
  intro L op hL ho g w0 w hgl A3 c3 A4 c4 l3 g3 l4 g4 hI hB
  cases L with
  | zero =>
   have e : weighD x 0 op = none := by rcases x with ⟨a, b, c, ns, l⟩; rw [weighD, if_pos (.inl rfl)]
   rw [e]
   exact right_zero x op g w0 w A3 c3 A4 c4 hI hB
  | succ L =>
   rw [weighD_eq]
   by_cases hp : plainD x = true
   ·by_cases hk : x.f0 < 4
    ·have hl : x.f3 = [] ∧ x.f4 = [] := by
      rcases x with ⟨a, b, c, ns, l⟩
      rcases plain_cases hp with ⟨_, _, _, h3, h4⟩ | ⟨_, _, _, h3, h4⟩ | ⟨_, _, h3, h4⟩ | ⟨_, _, h3, h4, _⟩ | ⟨ha, _⟩ | ⟨ha, _⟩
      ·exact ⟨h3, h4⟩
      ·exact ⟨h3, h4⟩
      ·exact ⟨h3, h4⟩
      ·exact ⟨h3, h4⟩
      ·exact absurd hk (by simp only [ha]; decide)
      ·exact absurd hk (by simp only [ha]; decide)
     rw [if_neg (by rw [hp, hl.1]; simp [namesD]; omega), hl.2, weighL]
     exact right_leaf x hx hp hk L op (by omega) g w0 w hgl A3 c3 A4 c4 l3 g3 l4 g4 hI hB
    ·by_cases hm : op = 16 ∨ L < x.f4.length
     ·have e : (if plainD x = false ∨ (x.f0 > 3 ∧ op = 16) ∨ namesD x.f3 = false then none else weighL x.f4 L (op + 1)) = none := by
       rcases hm with h | h
       ·rw [if_pos (.inr (.inl ⟨by omega, h⟩))]
       ·rw [weighL_many h]; split <;> rfl
      rw [e]
      exact right_much x hx hp hk L op (by omega) hm g w0 w hgl A3 c3 A4 c4 l3 g3 l4 g4 hI hB
     ·by_cases hn : namesD x.f3 = true
      ·rw [if_neg (by rw [hp, hn]; simp; omega)]
       exact right_kids x hx hp hk L op (by omega) (by omega) (by omega) ((namesD_good x.f3).1 hn) ih g w0 w hgl A3 c3 A4 c4 l3 g3 l4 g4 hI hB
      ·rw [if_pos (.inr (.inr (by simpa using hn)))]
       refine right_names x hx hp hk L op (by omega) (by omega) (by omega) ?_ g w0 w hgl A3 c3 A4 c4 l3 g3 l4 g4 hI hB
       have h := mt (namesD_good x.f3).2 hn
       simp only [Classical.not_forall] at h
       obtain ⟨j, hj, hb⟩ := h
       exact ⟨j, hj, hb⟩
   ·rw [if_pos (.inl (by simpa using hp))]
    exact right_bad x hx (by simpa using hp) L op (by omega) g w0 w hgl A3 c3 A4 c4 l3 g3 l4 g4 hI hB
set_option maxHeartbeats 4000000 in
set_option maxRecDepth 100000 in
theorem Right_c (x : DT) (hx : OkD x) (w : World) (hgl : GL w) (A3 : Option Addr) (c3 : Nat) (A4 : Option Addr) (c4 : Nat) (l3 : x.f3.length ≤ c3) (g3 : Kd.string.C w A3 x.f3.length x.f3) (l4 : x.f4.length ≤ c4) (g4 : k25.C w A4 x.f4.length x.f4) :
  Calls Tryz.prog 15 #[aggD x A3 c3 A4 c4] w fun e w' => e = .returned (.bool (rightD x)) ∧ Below w.heap.size w w' := by
 have HC := Aside0.mk (right_c x hx 2000 0 (by omega) (by omega))
 have HG := Aside0.mk hgl
 have H3 := Aside0.mk g3
 have H4 := Aside0.mk g4
 clear hgl g3 g4 hx
 have HB := Aside0.mk (below_alloc (below_alloc (Below.refl w.heap.size w) (.cells #[.int .i64 x.f0, .int .i64 x.f1, .string x.f2, .slice A3 x.f3.length c3, .slice A4 x.f4.length c4] 25)) (.cells #[.int .i64 2000] 58))
 have HI := Aside0.mk (show IsC w ((w.alloc (.cells #[.int .i64 x.f0, .int .i64 x.f1, .string x.f2, .slice A3 x.f3.length c3, .slice A4 x.f4.length c4] 25)).alloc (.cells #[.int .i64 2000] 58)) (w.heap.size + 1) ((2000 : Nat) : Int) from ⟨by
  have h := heap_alloc_new (w.alloc (.cells #[.int .i64 x.f0, .int .i64 x.f1, .string x.f2, .slice A3 x.f3.length c3, .slice A4 x.f4.length c4] 25)) (.cells #[.int .i64 2000] 58)
  rw [show (w.alloc (.cells #[.int .i64 x.f0, .int .i64 x.f1, .string x.f2, .slice A3 x.f3.length c3, .slice A4 x.f4.length c4] 25)).heap.size = w.heap.size + 1 by simp] at h
  exact h, by omega⟩)
 have CR := Aside0.mk (HC.out (w.heap.size + 1) w _ HG.out A3 c3 A4 c4 l3 H3.out l4 H4.out HI.out HB.out)
 rw [show ((0 : Nat) : Int) = 0 from rfl] at CR
 unfold rightD
 cases hwd : weighD x 2000 0 with
 | none =>
  rw [hwd] at CR
  clear hwd
  go_enter Tryz.func15, Tryz.ntmps15
  go_wp2_with (go_at_call 28; go_loud (with_reducible refine CR.out.mono ?_); rintro e w4 ⟨hb4, hk4, rfl⟩; have HBZ := Aside0.mk hb4; clear hb4 hk4)
  go_ret
  exact ⟨rfl, HBZ.out⟩
 | some r =>
  rw [hwd] at CR
  clear hwd
  go_enter Tryz.func15, Tryz.ntmps15
  go_wp2_with (go_at_call 28; go_loud (with_reducible refine CR.out.mono ?_); rintro e w4 ⟨hb4, hk4, rfl, hi4⟩; have HBZ := Aside0.mk hb4; clear hb4 hk4 hi4)
  go_ret
  exact ⟨rfl, HBZ.out⟩
end Go.Proofs.YtidcecpbihmloaaGreatDoorE

namespace Go.Proofs.YtidcecpbihmloaaGreatDoor.K06
open Go Go.RowKit Go.Proofs.YtidcecpbihmloaaGreatDoor.P16 Go.Proofs.YtidcecpbihmloaaGreatDoorE Go.Proofs.YtidcecpbihmloaaGreatDoor.M02 Go.Proofs.YtidcecpbihmloaaGreatDoorW.PrintWords Go.Proofs.YtidcecpbihmloaaGreatDoorW.PrintLast Go.Proofs.YtidcecpbihmloaaGreatDoorW.PrintMore
set_option linter.unusedVariables false
set_option linter.unusedSimpArgs false
theorem B_extract (s : ByteArray) (i j : Nat) : B (s.extract i j) = ((B s).drop i).take (j - i) := by
 simp [B, List.take_drop, ByteArray.data_extract]
def isDig (c : UInt8) : Bool := decide (48 ≤ c.toNat ∧ c.toNat ≤ 57)
def dv (v : Nat) : List UInt8 → Nat
 | [] => v
 | c :: t => dv (v * 10 + (c.toNat - 48)) t
theorem dv_mono : ∀ (t : List UInt8) (v : Nat), v ≤ dv v t
 | [], _ => Nat.le_refl _
 | c :: t, v => Nat.le_trans (by omega) (dv_mono t (v * 10 + (c.toNat - 48)))
theorem dv_dd (m : Nat) : ∀ rest, dv 0 (Lib.decDigits m ++ rest) = dv m rest := by
 induction m using Nat.strongRecOn with
 | _ m ih =>
  intro rest
  by_cases h : m < 10
  ·rw [dd_lt h, List.singleton_append]
   show dv (0 * 10 + ((UInt8.ofNat (48 + m)).toNat - 48)) rest = _
   rw [dig_nat h, show 0 * 10 + (48 + m - 48) = m by omega]
  ·rw [dd_ge (by omega), List.append_assoc, ih (m / 10) (by omega), List.singleton_append]
   show dv (m / 10 * 10 + ((UInt8.ofNat (48 + m % 10)).toNat - 48)) rest = _
   rw [dig_nat (show m % 10 < 10 by omega), show m / 10 * 10 + (48 + m % 10 - 48) = m by omega]
theorem isDig_iff (c : UInt8) : isDig c = true ↔ 48 ≤ c.toNat ∧ c.toNat ≤ 57 := by simp [isDig]
section
variable (s t : ByteArray) (below : Bool)
/-- One round: a byte that is no digit, a number that is too great, or on. -/
theorem rw_round (ht : t.size ≤ 1000000) {i v : Nat} (hi : i < (B t).length) (hv : v ≤ 9223372036854775808) (k : Nat) :
  tendrilref02_Whole.l0 (k + 2) s t below (-(v : Int)) (t.size : Int) (i : Int) =
   if isDig (B t)[i] = true then (if v * 10 + ((B t)[i].toNat - 48) ≤ 9223372036854775808 then tendrilref02_Whole.l0 k s t below (-((v * 10 + ((B t)[i].toNat - 48) : Nat) : Int)) (t.size : Int) ((i + 1 : Nat) : Int) else some (0, false)) else some (0, false) := by
 have hL := B_len t
 have hc := u8_lt (B t)[i]
 have ei : wrap64 ((i : Int) + 1) = ((i + 1 : Nat) : Int) := by rw [w64 (by omega) (by omega)]; omega
 have j4f : ∀ b : Bool, (b = true ↔ ¬ isDig (B t)[i] = true) → tendrilref02_Whole.j4 (k + 1) s t below (-(v : Int)) (i : Int) (t.size : Int) (i : Int) b = if isDig (B t)[i] = true then (if v * 10 + ((B t)[i].toNat - 48) ≤ 9223372036854775808 then tendrilref02_Whole.l0 k s t below (-((v * 10 + ((B t)[i].toNat - 48) : Nat) : Int)) (t.size : Int) ((i + 1 : Nat) : Int) else some (0, false)) else some (0, false) := by
  intro b hb
  simp only [tendrilref02_Whole.j4]
  by_cases hd : isDig (B t)[i] = true
  ·have hbf : ¬ b = true := fun h => (hb.1 h) hd
   have hdd : 48 ≤ (B t)[i].toNat ∧ (B t)[i].toNat ≤ 57 := by simpa [isDig] using hd
   rw [if_neg hbf, if_pos (by omega), if_pos (by omega), if_pos hd, bt_nat hi, w64 (n := ((B t)[i].toNat : Int)) (by omega) (by omega), w64 (n := ((B t)[i].toNat : Int) - 48) (by omega) (by omega), ei]
   by_cases h1 : -(v : Int) < -922337203685477580
   ·rw [if_pos h1, if_neg (by omega)]
   ·rw [if_neg h1]
    by_cases h2 : -(v : Int) = -922337203685477580
    ·rw [if_pos h2]
     by_cases h3 : ((B t)[i].toNat : Int) - 48 > 8
     ·rw [if_pos h3, if_neg (by omega)]
     ·rw [if_neg h3, if_pos (by omega), w64 (n := 10 * -(v : Int)) (by omega) (by omega), w64 (by omega) (by omega)]
      congr 1; omega
    ·rw [if_neg h2, if_pos (by omega), w64 (n := 10 * -(v : Int)) (by omega) (by omega), w64 (by omega) (by omega)]
     congr 1; omega
  ·rw [if_pos (hb.2 hd), if_neg hd]
 have e1 : k + 2 = (k + 1) + 1 := rfl
 rw [e1]
 simp only [tendrilref02_Whole.l0]
 rw [if_pos (by omega), if_pos (by omega), if_pos (by omega), bt_nat hi]
 by_cases h1 : ((B t)[i].toNat : Int) < 48
 ·rw [if_pos h1]; exact j4f true (by rw [isDig_iff]; constructor <;> intro _ <;> first | rfl | omega)
 ·rw [if_neg h1]; exact j4f (decide (((B t)[i].toNat : Int) > 57)) (by rw [decide_eq_true_eq, isDig_iff]; omega)
theorem Ev.two {α : Type} {g f : Nat → Option α} {r : α} (h : ∀ k, g (k + 2) = f k) (k : Ev f r) : Ev g r := by
 obtain ⟨K, k⟩ := k
 refine ⟨K + 2, fun n hn => ?_⟩
 obtain ⟨m, rfl⟩ : ∃ m, n = m + 2 := ⟨n - 2, by omega⟩
 rw [h]; exact k m (by omega)
/-- If no number has this text, it is refused, wherever the reading stands. -/
theorem rw_none (hno : ¬ ∃ n : Int, -9223372036854775808 ≤ n ∧ n ≤ 9223372036854775807 ∧ Lib.itoa n = B s) (ht : t.size ≤ 1000000) (d : Nat) : ∀ i v : Nat, i + d = t.size → v ≤ 9223372036854775808 →
  Ev (fun k => tendrilref02_Whole.l0 k s t below (-(v : Int)) (t.size : Int) (i : Int)) (0, false) := by
 have hL := B_len t
 have fin : ∀ n : Int, -9223372036854775808 ≤ n → n ≤ 9223372036854775807 → Ev (fun k => (tendrilref02_Decimal.f k n).bind fun u => if u.toList = s.toList then some (n, true) else some (0, false)) (0, false) := by
  intro n h0 h1
  refine Ev.bind (rdec_ev n h0 h1) (Ev.congr (f := fun _ => some (0, false)) (fun k => ?_) (Ev.now _))
  rw [toList_B, toList_B, B_mkS, if_neg (fun e => hno ⟨n, h0, h1, e⟩)]
 have j5 : ∀ v : Nat, v ≤ 9223372036854775808 → ∀ b : Bool, (b = true ↔ (below = false ∧ v = 9223372036854775808)) → Ev (fun k => tendrilref02_Whole.j5 k s below (-(v : Int)) b) (0, false) := by
  intro v hv b hb
  by_cases h : b = true
  ·exact Ev.step (f := fun _ => some (0, false)) (fun k => by simp only [tendrilref02_Whole.j5]; rw [if_pos h]) (Ev.now _)
  ·have hb2 : ¬ (below = false ∧ v = 9223372036854775808) := fun h2 => h (hb.2 h2)
   by_cases hbl : below = true
   ·refine Ev.step (fun k => ?_) (fin (-(v : Int)) (by omega) (by omega))
    simp only [tendrilref02_Whole.j5]; rw [if_neg h, if_pos hbl]
   ·have hv2 : v ≠ 9223372036854775808 := fun h2 => hb2 ⟨by simpa using hbl, h2⟩
    refine Ev.step (fun k => ?_) (fin (v : Int) (by omega) (by omega))
    simp only [tendrilref02_Whole.j5]; rw [if_neg h, if_neg hbl, Int.neg_neg, w64 (by omega) (by omega)]
 induction d with
 | zero =>
  intro i v hi hv
  by_cases hbl : below = true
  ·refine Ev.step (fun k => ?_) (j5 v hv false (by rw [hbl]; simp))
   simp only [tendrilref02_Whole.l0]; rw [if_neg (by omega), if_pos hbl]
  ·refine Ev.step (fun k => ?_) (j5 v hv (-(v : Int) == -9223372036854775808) (by rw [beq_iff_eq]; simp at hbl; simp [hbl]; omega))
   simp only [tendrilref02_Whole.l0]; rw [if_neg (by omega), if_neg hbl]
 | succ d ih =>
  intro i v hi hv
  have hlt : i < (B t).length := by omega
  have hr := rw_round s t below ht hlt hv
  by_cases hd : isDig (B t)[i] = true
  ·by_cases hm : v * 10 + ((B t)[i].toNat - 48) ≤ 9223372036854775808
   ·exact Ev.two (fun k => by rw [hr, if_pos hd, if_pos hm]) (ih (i + 1) _ (by omega) hm)
   ·exact Ev.two (f := fun _ => some (0, false)) (fun k => by rw [hr, if_pos hd, if_neg hm]) (Ev.now _)
  ·exact Ev.two (f := fun _ => some (0, false)) (fun k => by rw [hr, if_neg hd]) (Ev.now _)
set_option maxHeartbeats 1000000 in
/-- If it is a number's text, it is read. -/
theorem rw_some (n : Int) (h0 : -9223372036854775808 ≤ n) (h1 : n ≤ 9223372036854775807) (he : B s = Lib.itoa n) (hbl : below = decide (n < 0)) (ht : t.size ≤ 1000000) (hdg : ∀ c ∈ B t, 48 ≤ c.toNat ∧ c.toNat ≤ 57) (d : Nat) :
  ∀ i v : Nat, i + d = t.size → dv v ((B t).drop i) = n.natAbs → Ev (fun k => tendrilref02_Whole.l0 k s t below (-(v : Int)) (t.size : Int) (i : Int)) (n, true) := by
 have hL := B_len t
 have fin : Ev (fun k => (tendrilref02_Decimal.f k n).bind fun u => if u.toList = s.toList then some (n, true) else some (0, false)) (n, true) := by
  refine Ev.bind (rdec_ev n h0 h1) (Ev.congr (f := fun _ => some (n, true)) (fun k => ?_) (Ev.now _))
  rw [toList_B, toList_B, B_mkS, if_pos he.symm]
 induction d with
 | zero =>
  intro i v hi hv
  obtain rfl : v = n.natAbs := by
   rw [List.drop_eq_nil_of_le (by omega)] at hv
   exact hv
  by_cases hn : n < 0
  ·have hbt : below = true := by rw [hbl]; exact decide_eq_true hn
   refine Ev.step (f := fun k => tendrilref02_Whole.j5 k s below (-(n.natAbs : Int)) false) (fun k => ?_) (Ev.step (fun k => ?_) fin)
   ·simp only [tendrilref02_Whole.l0]; rw [if_neg (by omega), if_pos hbt]
   ·simp only [tendrilref02_Whole.j5]; rw [if_neg (by decide), if_pos hbt, show -(n.natAbs : Int) = n by omega]
  ·have hbt : ¬ below = true := by rw [hbl]; simpa using hn
   have hb : (-(n.natAbs : Int) == -9223372036854775808) = false := by rw [beq_eq_false_iff_ne]; omega
   refine Ev.step (f := fun k => tendrilref02_Whole.j5 k s below (-(n.natAbs : Int)) false) (fun k => ?_) (Ev.step (fun k => ?_) fin)
   ·simp only [tendrilref02_Whole.l0]; rw [if_neg (by omega), if_neg hbt, hb]
   ·simp only [tendrilref02_Whole.j5]; rw [if_neg (by decide), if_neg hbt, Int.neg_neg, show (n.natAbs : Int) = n by omega, w64 (by omega) (by omega)]
 | succ d ih =>
  intro i v hi hv
  have hlt : i < (B t).length := by omega
  rw [List.drop_eq_getElem_cons hlt] at hv
  replace hv : dv (v * 10 + ((B t)[i].toNat - 48)) ((B t).drop (i + 1)) = n.natAbs := hv
  have hm := dv_mono ((B t).drop (i + 1)) (v * 10 + ((B t)[i].toNat - 48))
  have hr := rw_round s t below ht hlt (v := v) (by omega)
  have hc := hdg (B t)[i] (List.getElem_mem hlt)
  exact Ev.two (fun k => by rw [hr, if_pos (by unfold isDig; rw [decide_eq_true_eq]; exact hc), if_pos (by omega)]) (ih (i + 1) _ (by omega) hv)
end
theorem rwhole_ev (s : ByteArray) (hs : s.size ≤ 1000000) : Ev (fun k => tendrilref02_Whole.f k s) (wholeS (B s)) := by
 have hL := B_len s
 have base : ∀ (t : ByteArray) (below : Bool), t.size ≤ 1000000 → Ev (fun k => tendrilref02_Whole.l0 k s t below (-((0 : Nat) : Int)) (t.size : Int) ((0 : Nat) : Int)) (wholeS (B s)) → (t.size < 1 ∨ t.size > 19 → wholeS (B s) = (0, false)) → Ev (fun k => tendrilref02_Whole.j1 k s t below) (wholeS (B s)) := by
  intro t below ht h hno
  have j2 : ∀ b : Bool, (b = true ↔ (t.size < 1 ∨ t.size > 19)) → Ev (fun k => tendrilref02_Whole.j2 k s t below b) (wholeS (B s)) := by
   intro b hb
   by_cases h1 : b = true
   ·rw [hno (hb.1 h1)]
    exact Ev.step (f := fun _ => some (0, false)) (fun k => by simp only [tendrilref02_Whole.j2]; rw [if_pos h1]) (Ev.now _)
   ·refine Ev.step (fun k => ?_) h
    simp only [tendrilref02_Whole.j2]; rw [if_neg h1]; rfl
  by_cases h1 : (t.size : Int) < 1
  ·exact Ev.step (fun k => by simp only [tendrilref02_Whole.j1]; rw [if_pos h1]) (j2 true ⟨fun _ => .inl (by omega), fun _ => rfl⟩)
  ·exact Ev.step (fun k => by simp only [tendrilref02_Whole.j1]; rw [if_neg h1]) (j2 (decide ((t.size : Int) > 19)) (by simp only [decide_eq_true_eq]; omega))
 have goj0 : ∀ b : Bool, (b = true ↔ ∃ r, B s = 45 :: r ∧ r ≠ []) → Ev (fun k => tendrilref02_Whole.j0 k s s b) (wholeS (B s)) := by
  intro b hb
  obtain ⟨t, hte, htb⟩ : ∃ t : ByteArray, t = (if b = true then s.extract 1 s.size else s) ∧ B t = (if b = true then (B s).drop 1 else B s) := by
   refine ⟨_, rfl, ?_⟩
   split
   ·rw [B_extract, List.take_of_length_le (by rw [List.length_drop]; omega)]
   ·rfl
  have hts : t.size ≤ 1000000 := by
   have := B_len t
   rw [htb] at this
   split at this
   ·rw [List.length_drop] at this; omega
   ·omega
  have step : ∀ k, tendrilref02_Whole.j0 (k + 1) s s b = tendrilref02_Whole.j1 k s t b := by
   intro k
   simp only [tendrilref02_Whole.j0]
   rw [hte]
   by_cases h : b = true
   ·obtain ⟨r, e, _⟩ := hb.1 h
    rw [e] at hL
    simp only [List.length_cons] at hL
    rw [if_pos h, if_pos h, if_pos (by omega)]
   ·rw [if_neg h, if_neg h]
  refine Ev.step step (base t b hts ?_ ?_)
  ·by_cases hex : ∃ n : Int, -9223372036854775808 ≤ n ∧ n ≤ 9223372036854775807 ∧ Lib.itoa n = B s
   ·obtain ⟨n, h0, h1, he⟩ := hex
    rw [← he, whole_itoa h0 h1]
    have hbt : b = decide (n < 0) ∧ B t = Lib.decDigits n.natAbs := by
     by_cases hn : n < 0
     ·have e1 : B s = 45 :: Lib.decDigits n.natAbs := by rw [← he]; unfold Lib.itoa; rw [if_pos hn]
      have hbb : b = true := hb.2 ⟨_, e1, dd_ne _⟩
      refine ⟨by rw [hbb, decide_eq_true hn], ?_⟩
      rw [htb, if_pos hbb, e1]; rfl
     ·have e1 : B s = Lib.decDigits n.natAbs := by rw [← he]; unfold Lib.itoa; rw [if_neg hn, show n.toNat = n.natAbs by omega]
      have hbb : ¬ b = true := by
       intro hbt
       obtain ⟨r, e2, _⟩ := hb.1 hbt
       have := dd_digit n.natAbs 45 (by rw [← e1, e2]; exact List.mem_cons_self ..)
       revert this; decide
      refine ⟨by rw [Bool.eq_false_iff.2 hbb, decide_eq_false hn], ?_⟩
      rw [htb, if_neg hbb, e1]
    exact rw_some s t b n h0 h1 he.symm hbt.1 hts (by rw [hbt.2]; exact dd_digit _) t.size 0 0 (by omega) (by
     rw [List.drop_zero, hbt.2]
     have := dv_dd n.natAbs []
     rw [List.append_nil] at this
     rw [this]; rfl)
   ·rw [whole_not hex]
    exact rw_none s t b hex hts t.size 0 0 (by omega) (by omega)
  ·intro hsz
   apply whole_not
   rintro ⟨n, h0, h1, he⟩
   have ht2 := B_len t
   by_cases hn : n < 0
   ·have e1 : B s = 45 :: Lib.decDigits n.natAbs := by rw [← he]; unfold Lib.itoa; rw [if_pos hn]
    have hbb : b = true := hb.2 ⟨_, e1, dd_ne _⟩
    rw [htb, if_pos hbb, e1, List.drop_succ_cons, List.drop_zero] at ht2
    have := dd_len 18 n.natAbs (by omega)
    have h2 := List.length_pos_iff.2 (dd_ne n.natAbs)
    omega
   ·have e1 : B s = Lib.decDigits n.natAbs := by rw [← he]; unfold Lib.itoa; rw [if_neg hn, show n.toNat = n.natAbs by omega]
    have hbb : ¬ b = true := by
     intro hbt
     obtain ⟨r, e2, _⟩ := hb.1 hbt
     have := dd_digit n.natAbs 45 (by rw [← e1, e2]; exact List.mem_cons_self ..)
     revert this; decide
    rw [htb, if_neg hbb, e1] at ht2
    have := dd_len 18 n.natAbs (by omega)
    have h2 := List.length_pos_iff.2 (dd_ne n.natAbs)
    omega
 unfold tendrilref02_Whole.f
 by_cases h : (s.size : Int) > 1
 ·have hlt : 0 < (B s).length := by omega
  have hb0 := bt_nat (s := s) (i := 0) hlt
  refine Ev.congr (fun k => by rw [if_pos h, if_pos (by omega)]) (goj0 (bt s 0 == 45) ?_)
  rw [beq_iff_eq, show (0 : Int) = ((0 : Nat) : Int) from rfl, hb0]
  obtain ⟨c, r, e⟩ := List.exists_cons_of_ne_nil (l := B s) (by intro h2; rw [h2] at hlt; simp at hlt)
  simp only [e, List.getElem_cons_zero, List.cons.injEq]
  constructor
  ·intro hc
   refine ⟨r, ⟨UInt8.toNat_inj.1 (by rw [show (45 : UInt8).toNat = 45 from rfl]; omega), rfl⟩, ?_⟩
   intro hr; rw [e, hr] at hL; simp at hL; omega
  ·rintro ⟨r', ⟨rfl, rfl⟩, _⟩; rfl
 ·refine Ev.congr (fun k => by rw [if_neg h]) (goj0 false ?_)
  simp only [Bool.false_eq_true, false_iff]
  rintro ⟨r, e, hr⟩
  rw [e] at hL
  have := List.length_pos_iff.2 hr
  simp only [List.length_cons] at hL; omega

theorem decimal_f (n : Int) (h0 : -9223372036854775808 ≤ n) (h1 : n ≤ 9223372036854775807) : chars_Decimal.f n = some (mkS (Lib.itoa n)) := by
 unfold chars_Decimal.f strconv_Itoa.f; rw [if_pos ⟨h0, h1⟩]; rfl
end Go.Proofs.YtidcecpbihmloaaGreatDoor.K06

namespace Go.Proofs.YtidcecpbihmloaaGreatDoorE
open Go Go.RowKit Go.Proofs.YtidcecpbihmloaaGreatDoorW.PrintWords Go.Proofs.YtidcecpbihmloaaGreatDoorX Go.Proofs.YtidcecpbihmloaaGreatDoor.P16 Go.Proofs.YtidcecpbihmloaaGreatDoor.M02
set_option linter.unusedVariables false
set_option linter.unusedSimpArgs false
/-- A byte comes at a place. -/
def nxt (s : ByteArray) (a : Nat) (c : UInt8) : Bool := ((B s).drop a).head? == some c
theorem nxt_end {s : ByteArray} {a : Nat} (c : UInt8) (h : s.size ≤ a) : nxt s a c = false := by
 unfold nxt
 rw [List.drop_of_length_le (by rw [B_len]; exact h)]
 rfl
theorem bt_nxt {s : ByteArray} {a : Nat} (c : UInt8) (h : a < s.size) : (bt s (a : Int) == (c.toNat : Int)) = nxt s a c := by
 have hl : a < (B s).length := by rw [B_len]; exact h
 unfold nxt
 rw [bt_nat hl, List.drop_eq_getElem_cons hl, List.head?_cons, Bool.eq_iff_iff, beq_iff_eq, beq_iff_eq]
 constructor
 ·intro e
  have h2 : (B s)[a] = c := UInt8.toNat_inj.1 (by omega)
  rw [h2]
 ·intro e
  injection e with e
  rw [e]
theorem bt_nxt' {s : ByteArray} {a : Nat} (c : UInt8) (h : a < s.size) : (bt s (a : Int) = (c.toNat : Int)) ↔ nxt s a c = true := by
 rw [← bt_nxt c h, beq_iff_eq]
theorem rIs_f (s : ByteArray) (a : Nat) (op er st : Int) (c : UInt8) : tendrilref16_R_Is.f s a op er st c.toNat = some (decide (er = 0) && nxt s a c, s, (a : Int), op, er, st) := by
 unfold tendrilref16_R_Is.f
 by_cases he : er = 0
 ·rw [if_pos he, decide_eq_true he, Bool.true_and]
  by_cases hl : a < s.size
  ·rw [if_pos (by omega), if_pos (by omega), bt_nxt c hl]
  ·rw [if_neg (by omega), nxt_end c (by omega)]
 ·rw [if_neg he, decide_eq_false he, Bool.false_and]
theorem rmust_ok (s : ByteArray) (a : Nat) (op st : Int) (c : UInt8) (h : nxt s a c = true) (ha : a ≤ 140737488351232) : tendrilref16_R_must.f s a op 0 st c.toNat = some (s, ((a + 1 : Nat) : Int), op, 0, st) := by
 unfold tendrilref16_R_must.f
 rw [rIs_f, Option.bind_some, h]
 simp only [decide_true, Bool.true_and, if_true]
 rw [w64 (by omega) (by omega)]
 rfl
theorem rmust_no (s : ByteArray) (a : Nat) (op st : Int) (c : UInt8) (h : nxt s a c = false) : tendrilref16_R_must.f s a op 0 st c.toNat = some (s, (a : Int), op, 2, (a : Int)) := by
 unfold tendrilref16_R_must.f
 rw [rIs_f, Option.bind_some, h]
 simp [tendrilref16_R_fail.f]
/-- The bytes of a run of a kind. -/
def pk (kd : Int) : UInt8 → Bool := if kd = 0 then isLet else if kd = 1 then isDig else isNam
theorem in_ev (c : UInt8) (kd : Int) : Ev (fun k => tendrilref16_in.f k (c.toNat : Int) kd) (pk kd c) := by
 have hc := u8_lt c
 have j1 : Ev (fun k => tendrilref16_in.j1 k (c.toNat : Int) kd (isLet c) (isDig c)) (pk kd c) := by
  refine Ev.step (f := fun _ => some (pk kd c)) (fun k => ?_) (Ev.now _)
  simp only [tendrilref16_in.j1]
  unfold pk
  by_cases h0 : kd = 0
  ·rw [if_pos h0, if_pos h0]
  ·rw [if_neg h0, if_neg h0]
   by_cases h1 : kd = 1
   ·rw [if_pos h1, if_pos h1]
   ·rw [if_neg h1, if_neg h1]
    unfold isNam
    cases isLet c
    ·cases isDig c
     ·simp only [Bool.false_eq_true, if_false, Bool.false_or]
      by_cases h58 : c.toNat = 58
      ·rw [if_pos (by omega), decide_eq_true h58]; rfl
      ·rw [if_neg (by omega), decide_eq_false h58, Bool.false_or]
       congr 1
       rw [Bool.eq_iff_iff, beq_iff_eq, decide_eq_true_eq]
       omega
     ·simp
    ·simp
 have j0 : Ev (fun k => tendrilref16_in.j0 k (c.toNat : Int) kd (isLet c)) (pk kd c) := by
  refine Ev.step (fun k => ?_) j1
  simp only [tendrilref16_in.j0]
  by_cases h48 : 48 ≤ c.toNat
  ·rw [if_pos (by omega)]
   by_cases h57 : c.toNat ≤ 57
   ·rw [if_pos (by omega), show isDig c = true by unfold isDig; simp [h48, h57]]
   ·rw [if_neg (by omega), show isDig c = (((c.toNat : Int)) == 45) by unfold isDig; rw [Bool.eq_iff_iff]; simp; omega]
  ·rw [if_neg (by omega), show isDig c = (((c.toNat : Int)) == 45) by unfold isDig; rw [Bool.eq_iff_iff]; simp; omega]
 refine Ev.congr (fun k => ?_) j0
 unfold tendrilref16_in.f
 by_cases h97 : 97 ≤ c.toNat
 ·rw [if_pos (by omega), show isLet c = decide ((c.toNat : Int) ≤ 122) by unfold isLet; rw [Bool.eq_iff_iff]; simp; omega]
 ·rw [if_neg (by omega), show isLet c = false by unfold isLet; simp; omega]
theorem take_len {α : Type} (p : α → Bool) (l : List α) : l.takeWhile p = l.take (l.takeWhile p).length := by
 conv => rhs; arg 2; rw [← List.takeWhile_append_dropWhile (p := p) (l := l)]
 rw [List.take_left]
theorem drop_len {α : Type} (p : α → Bool) (l : List α) : l.dropWhile p = l.drop (l.takeWhile p).length := by
 conv => rhs; arg 2; rw [← List.takeWhile_append_dropWhile (p := p) (l := l)]
 rw [List.drop_left]
theorem tw_le {α : Type} (p : α → Bool) (l : List α) : (l.takeWhile p).length ≤ l.length := (List.takeWhile_sublist p).length_le
theorem run_l0 (s : ByteArray) (hs : s.size ≤ 140737488351232) (kd op er st : Int) (fr : Nat) (d : Nat) : ∀ a : Nat, a + d = s.size → fr ≤ a →
  Ev (fun k => tendrilref16_R_run.l0 k kd fr s a op er st) (s.extract fr (a + (((B s).drop a).takeWhile (pk kd)).length), s, ((a + (((B s).drop a).takeWhile (pk kd)).length : Nat) : Int), op, er, st) := by
 induction d with
 | zero =>
  intro a ha hf
  rw [List.drop_of_length_le (by rw [B_len]; omega)]
  refine Ev.step (f := fun _ => some (s.extract fr a, s, (a : Int), op, er, st)) (fun k => ?_) (Ev.now _)
  simp only [tendrilref16_R_run.l0]
  rw [if_neg (by omega), if_pos (by omega), if_pos (by omega), if_pos (by omega), Int.toNat_natCast, Int.toNat_natCast]
 | succ d ih =>
  intro a ha hf
  have hl : a < (B s).length := by rw [B_len]; omega
  have e1 : wrap64 ((a : Int) + 1) = ((a + 1 : Nat) : Int) := by rw [w64 (by omega) (by omega)]; omega
  refine Ev.step (f := fun k => (tendrilref16_in.f k ((B s)[a].toNat : Int) kd).bind fun t175 => (if t175 = true then (tendrilref16_R_run.l0 k kd fr s ((a + 1 : Nat) : Int) op er st) else some (s.extract fr a, s, (a : Int), op, er, st))) (fun k => ?_) ?_
  ·simp only [tendrilref16_R_run.l0]
   rw [if_pos (by omega), if_pos (by omega), bt_nat hl, e1, if_pos (by omega), if_pos (by omega), if_pos (by omega), Int.toNat_natCast, Int.toNat_natCast]
  ·refine Ev.bind (in_ev _ kd) ?_
   rw [List.drop_eq_getElem_cons hl, List.takeWhile_cons]
   by_cases hp : pk kd (B s)[a] = true
   ·rw [if_pos hp]
    have h := ih (a + 1) (by omega) (by omega)
    rw [show a + ((B s)[a] :: ((B s).drop (a + 1)).takeWhile (pk kd)).length = a + 1 + (((B s).drop (a + 1)).takeWhile (pk kd)).length by simp only [List.length_cons]; omega]
    exact Ev.congr (fun k => by rw [if_pos hp]) h
   ·rw [if_neg hp]
    exact Ev.congr (f := fun _ => some (s.extract fr a, s, (a : Int), op, er, st)) (fun k => by rw [if_neg hp]) (Ev.now _)
theorem run_ev (s : ByteArray) (hs : s.size ≤ 140737488351232) (kd op er st : Int) (a : Nat) (ha : a ≤ s.size) :
  Ev (fun k => tendrilref16_R_run.f k s a op er st kd) (mkB (((B s).drop a).takeWhile (pk kd)), s, ((a + (((B s).drop a).takeWhile (pk kd)).length : Nat) : Int), op, er, st) := by
 have h := run_l0 s hs kd op er st a (s.size - a) a (by omega) (Nat.le_refl _)
 have e : s.extract a (a + (((B s).drop a).takeWhile (pk kd)).length) = mkB (((B s).drop a).takeWhile (pk kd)) := by
  have h1 : B (s.extract a (a + (((B s).drop a).takeWhile (pk kd)).length)) = ((B s).drop a).takeWhile (pk kd) := by
   rw [Go.Proofs.YtidcecpbihmloaaGreatDoor.K06.B_extract, Nat.add_sub_cancel_left, ← take_len]
  exact B_inj (h1.trans (mkB_list _).symm)
 rw [e] at h
 exact h
end Go.Proofs.YtidcecpbihmloaaGreatDoorE

namespace Go.Proofs.YtidcecpbihmloaaGreatDoorE
open Go Go.RowKit Go.Proofs.YtidcecpbihmloaaGreatDoorW.PrintWords Go.Proofs.YtidcecpbihmloaaGreatDoorW.PrintMore Go.Proofs.YtidcecpbihmloaaGreatDoorW.PrintLast Go.Proofs.YtidcecpbihmloaaGreatDoorX Go.Proofs.YtidcecpbihmloaaGreatDoor.P16 Go.Proofs.YtidcecpbihmloaaGreatDoor.M02
set_option linter.unusedVariables false
set_option linter.unusedSimpArgs false
theorem two_old_ (w : World) (a b : Obj) : ((w.alloc a).alloc b).heap[w.heap.size]? = some a := by
 rw [(below_alloc (Below.refl (w.alloc a).heap.size (w.alloc a)) b).block _ (by simp)]
 exact heap_alloc_new w a
theorem two_new_ (w : World) (a b : Obj) : ((w.alloc a).alloc b).heap[w.heap.size + 1]? = some b := by
 have := heap_alloc_new (w.alloc a) b
 simpa using this
theorem then_w {w w1 w2 : World} (h : Below w.heap.size w w1) (k : Below w1.heap.size w1 w2) : Below w.heap.size w w2 := below_then h h.size k
theorem cell_drew {w : World} {a : Addr} {v : Value} (h : w.cell? a = some v) : w.drew.cell? a = some v := h
theorem set_blk {w : World} {p j : Nat} {cs : Array Value} {T : TypeId} {fz : Nat × Nat} (h : w.heap[p]? = some (.cells cs T fz)) (v : Value) : (w.setCell ⟨p, j, none⟩ v).heap[p]? = some (.cells (cs.setIfInBounds j v) T fz) := by
 simp [World.setCell, Array.getElem?_modify, h]
theorem w_wrap (x : Int) : IntKind.i64.wrap x = wrap64 x := Go.Proofs.YtidcecpbihmloaaGreatDoorW.PrintLast.i64_w x
theorem wrap_in {x : Int} (h0 : -9223372036854775808 ≤ x) (h1 : x ≤ 9223372036854775807) : IntKind.i64.wrap x = x := by rw [w_wrap, w64 h0 h1]
abbrev zCells : Array Value := #[.int .i64 0, .int .i64 0, .string ⟨#[]⟩, .slice none 0 0, .slice none 0 0]
abbrev dCells (x : DT) (v3 v4 : Value) : List Value := [.int .i64 x.f0, .int .i64 x.f1, .string x.f2, v3, v4]
/-- A piece that is being made: its fields in block b, its rows made behind it, apart from one another. -/
structure DL (b : Nat) (x : DT) (v3 v4 : Value) (w : World) : Prop where
 blk : w.heap[b]? = some (.cells #[.int .i64 x.f0, .int .i64 x.f1, .string x.f2, v3, v4] 25 (0, 0))
 r3 : Kd.string.R 9 w (b + 1) (fun k => b < k) v3 x.f3
 r4 : k25.R 25 w (b + 1) (fun k => b < k ∧ some k ≠ v3.ownBlock) v4 x.f4
namespace DL
variable {b : Nat} {x : DT} {v3 v4 : Value} {w w1 : World}
theorem lt (h : DL b x v3 v4 w) : b < w.heap.size := blk_lt h.blk
theorem keep (h : DL b x v3 v4 w) {g : Nat} (hk : KeepBut w w1 g none) (hg : g < b) : DL b x v3 v4 w1 :=
 ⟨hk.blk h.blk (by omega) (by simp), Kd.R_keep h.r3 hk (fun k hk => by omega), Kd.R_keep h.r4 hk (fun k hk => by have := hk.1; omega)⟩
theorem below (h : DL b x v3 v4 w) (hb : Below w.heap.size w w1) : DL b x v3 v4 w1 :=
 ⟨(hb.block b h.lt).trans h.blk, Kd.R_below h.r3 hb, Kd.R_below h.r4 hb⟩
theorem far (h : DL b x v3 v4 w) {p : Addr} (hp : p.block < b) (u : Value) : DL b x v3 v4 (w.setCell p u) :=
 ⟨blk_far h.blk (by omega) u, Kd.R_far h.r3 (fun k hk => by omega) u, Kd.R_far h.r4 (fun k hk => by have := hk.1; omega) u⟩
/-- A name has been appended, and stored. -/
theorem name (h : DL b x v3 v4 w) {n : ByteArray} {u : Value} (hr : Kd.string.R 9 w1 (b + 1) (fun k => b < k) u (x.f3 ++ [n])) (hg : w.grownBy w1 v3.ownBlock) (hat : u.ownBlock = v3.ownBlock ∨ ∃ q, u.ownBlock = some q ∧ w.heap.size ≤ q) :
  DL b ⟨x.f0, x.f1, x.f2, x.f3 ++ [n], x.f4⟩ u v4 (w1.setCell ⟨b, 3, none⟩ u) := by
 have hb : w1.heap[b]? = some (.cells #[.int .i64 x.f0, .int .i64 x.f1, .string x.f2, v3, v4] 25 (0, 0)) := by
  refine blk_grown h.blk hg (fun e => ?_)
  have := h.r3.1 b e.symm
  omega
 have h4 := Kd.R_after (v := v3) (v1 := u) h.r4 hg hat
 exact ⟨by rw [set_blk hb]; rfl, Kd.R_far hr (p := ⟨b, 3, none⟩) (fun k hk => by show k ≠ b; omega) u, Kd.R_far h4 (p := ⟨b, 3, none⟩) (fun k hk => by show k ≠ b; have := hk.1; omega) u⟩
/-- A piece has been appended, and stored. -/
theorem piece (h : DL b x v3 v4 w) {d : DT} {u : Value} (hr : k25.R 25 w1 (b + 1) (fun k => b < k ∧ some k ≠ v3.ownBlock) u (x.f4 ++ [d])) (hg : w.grownBy w1 v4.ownBlock) :
  DL b ⟨x.f0, x.f1, x.f2, x.f3, x.f4 ++ [d]⟩ v3 u (w1.setCell ⟨b, 4, none⟩ u) := by
 have hb : w1.heap[b]? = some (.cells #[.int .i64 x.f0, .int .i64 x.f1, .string x.f2, v3, v4] 25 (0, 0)) := by
  refine blk_grown h.blk hg (fun e => ?_)
  have := (h.r4.1 b e.symm).1
  omega
 have h3 : Kd.string.R 9 w1 (b + 1) (fun k => b < k ∧ some k = v3.ownBlock) v3 x.f3 := by
  refine Kd.R_grown (Kd.R_mono (ok := fun k => b < k ∧ some k = v3.ownBlock) ?_ (fun _ h => h)) hg (fun k hk e => ?_)
  ·exact ⟨fun k hk => ⟨h.r3.1 k hk, hk.symm⟩, h.r3.2.imp_ (fun _ _ hp => hp)⟩
  ·exact (h.r4.1 k e.symm).2 hk.2
 exact ⟨by rw [set_blk hb]; rfl, Kd.R_far (Kd.R_mono h3 (fun _ h => h.1)) (p := ⟨b, 4, none⟩) (fun k hk => by show k ≠ b; omega) u, Kd.R_far hr (p := ⟨b, 4, none⟩) (fun k hk => by show k ≠ b; have := hk.1; omega) u⟩
/-- What has been made reads as a piece of one's own. -/
theorem made (h : DL b x v3 v4 w) {base : Nat} (hb : base ≤ b + 1) : k25.M w base (fun _ => True) x (dCells x v3 v4) :=
 k25_mkM w base _ x (Kd.R_mono (Kd.R_lower h.r3 hb) (fun _ _ => trivial)) (Kd.R_mono (Kd.R_lower h.r4 hb) (fun _ _ => trivial))
theorem new (w : World) (k n : Int) (t : ByteArray) (hb : w.heap[b]? = some (.cells #[.int .i64 k, .int .i64 n, .string t, .slice none 0 0, .slice none 0 0] 25 (0, 0))) : DL b ⟨k, n, t, [], []⟩ (.slice none 0 0) (.slice none 0 0) w :=
 ⟨hb, Kd.R_nil _ _ _ _ _, Kd.R_nil _ _ _ _ _⟩
end DL
end Go.Proofs.YtidcecpbihmloaaGreatDoorE

namespace Go.Proofs.YtidcecpbihmloaaGreatDoor.K05
open Go Go.RowKit Go.Proofs.YtidcecpbihmloaaGreatDoor.P16 Go.Proofs.YtidcecpbihmloaaGreatDoorE Go.Proofs.YtidcecpbihmloaaGreatDoor.L03 Go.Proofs.YtidcecpbihmloaaGreatDoor.K03 Go.Proofs.YtidcecpbihmloaaGreatDoor.K04 Go.Proofs.YtidcecpbihmloaaGreatDoorW.PrintWords Go.Proofs.YtidcecpbihmloaaGreatDoorW.PrintLast Go.Proofs.YtidcecpbihmloaaGreatDoorW.PrintMore
set_option linter.unusedVariables false
set_option linter.unusedSimpArgs false
theorem form_all : ∀ c : Fin 256, tendrilref03_Form.f 8 (c.val : Int) = some ⟨(escB (UInt8.ofNat c.val)).toArray⟩ := by decide +kernel
theorem form_ev (c : UInt8) : Ev (fun k => tendrilref03_Form.f k (c.toNat : Int)) ⟨(escB c).toArray⟩ := by
 have h := form_all ⟨c.toNat, c.toNat_lt⟩
 simp only [UInt8.ofNat_toNat] at h
 exact Ev.of (fun k => tendrilref03_Form.mono _ k) h
theorem starts_f (s t : ByteArray) : tendrilref03_starts.f s t = some (t.data.toList.isPrefixOf s.data.toList) := by
 have h1 := dlen s
 have h2 := dlen t
 unfold tendrilref03_starts.f
 by_cases h : (s.size : Int) ≥ (t.size : Int)
 ·rw [if_pos h, if_pos (by omega), if_pos (by omega), tl, tl, ext_list, List.drop_zero, Nat.sub_zero, Int.toNat_natCast]
  congr 1
  rw [Bool.eq_iff_iff, beq_iff_eq, List.isPrefixOf_iff_prefix, List.prefix_iff_eq_take, h2]
  exact eq_comm
 ·rw [if_neg h]
  congr 1
  symm
  rw [Bool.eq_false_iff, ne_eq, List.isPrefixOf_iff_prefix]
  intro hp
  have := hp.length_le
  omega
theorem one_step (s : ByteArray) (n : Nat) (hn : n < 256) (R : Int) (h : Ev (fun k => if (escB (UInt8.ofNat n)).isPrefixOf s.data.toList = true then some (n : Int) else tendrilref03_one.l0 k s ((n + 1 : Nat) : Int)) R) : Ev (fun k => tendrilref03_one.l0 k s (n : Int)) R := by
 refine Ev.step (f := fun k => (tendrilref03_Form.f k (n : Int)).bind fun t119 => ((tendrilref03_starts.f s t119).bind fun t120 => (if t120 = true then (some (n : Int)) else (tendrilref03_one.l0 k s ((n + 1 : Nat) : Int))))) (fun k => ?_) ?_
 ·simp only [tendrilref03_one.l0]
  rw [if_pos (by omega), show (n : Int) % 256 = (n : Int) by omega, Go.Proofs.YtidcecpbihmloaaGreatDoor.L03.w64 (by omega) (by omega)]
  rfl
 ·have hf := form_ev (UInt8.ofNat n)
  rw [show ((UInt8.ofNat n).toNat : Int) = (n : Int) by simp; omega] at hf
  refine Ev.bind hf ?_
  simp only [starts_f, Option.bind_some]
  exact h
theorem one_run (s : ByteArray) (R : Int) : ∀ n : Nat, n ≤ 256 → (∀ c : Nat, c < n → (escB (UInt8.ofNat c)).isPrefixOf s.data.toList = false) → Ev (fun k => tendrilref03_one.l0 k s (n : Int)) R → Ev (fun k => tendrilref03_one.l0 k s 0) R
 | 0, _, _, h => h
 | n + 1, hn, hno, h => by
  refine one_run s R n (by omega) (fun c hc => hno c (by omega)) (one_step s n (by omega) R ?_)
  rw [hno n (by omega)]
  simpa using h
/-- At most one form begins a text, and the reading finds it. -/
theorem pre_step (l : List UInt8) (c : UInt8) (h : (escB c).isPrefixOf l = true) : stepU l = (c, (escB c).length) := by
 obtain ⟨rest, rfl⟩ := List.isPrefixOf_iff_prefix.1 h
 exact step_form c rest
theorem one_hit (s : ByteArray) (hs : (stepU s.data.toList).2 ≠ 0) : Ev (fun k => tendrilref03_one.f k s) ((stepU s.data.toList).1.toNat : Int) := by
 obtain ⟨h1, h2⟩ := step_esc s.data.toList hs
 generalize hst : stepU s.data.toList = st at hs h1 h2 ⊢
 obtain ⟨c, n⟩ := st
 simp only at hs h1 h2 ⊢
 have hp : (escB c).isPrefixOf s.data.toList = true := by
  rw [List.isPrefixOf_iff_prefix, h2]
  exact List.take_prefix _ _
 refine one_run s _ c.toNat (Nat.le_of_lt c.toNat_lt) (fun b hb => ?_) (one_step s c.toNat c.toNat_lt _ ?_)
 ·rw [Bool.eq_false_iff]
  intro hq
  have := pre_step _ _ hq
  rw [hst] at this
  injection this with this
  have h3 := congrArg UInt8.toNat this
  have hcl := c.toNat_lt
  simp at h3
  omega
 ·rw [UInt8.ofNat_toNat]
  simp only [hp, if_true]
  exact Ev.now _
theorem one_miss (s : ByteArray) (hs : (stepU s.data.toList).2 = 0) : Ev (fun k => tendrilref03_one.f k s) (-1) := by
 refine one_run s _ 256 (Nat.le_refl _) (fun b hb => ?_) ?_
 ·rw [Bool.eq_false_iff]
  intro hq
  have := pre_step _ _ hq
  rw [this] at hs
  have hp : escB (UInt8.ofNat b) ≠ [] := by
   unfold escB
   split
   ·simp
   ·assumption
  have := List.length_pos_iff.2 hp
  simp only at hs
  omega
 ·refine Ev.step (f := fun _ => some (-1)) (fun k => ?_) (Ev.now _)
  simp only [tendrilref03_one.l0]
  rw [if_neg (by decide)]
/-- Bytes as numbers. -/
def ints (l : List UInt8) : List Int := l.map fun b => (b.toNat : Int)
theorem str_ints (l : List UInt8) : strOfNums (ints l) = ⟨l.toArray⟩ := by
 unfold strOfNums ints
 rw [List.map_map]
 have : l.map ((fun n : Int => UInt8.ofNat n.toNat) ∘ fun b : UInt8 => (b.toNat : Int)) = l := by
  conv => rhs; rw [← List.map_id l]
  refine List.map_congr_left fun b _ => ?_
  simp
 rw [this]
theorem un_ev (s : ByteArray) (hs : s.size ≤ 1000000000) (d : Nat) : ∀ (pos : Nat) (o : List UInt8), s.size - pos ≤ d → pos ≤ s.size → o.length ≤ pos →
  Ev (fun k => tendrilref03_Unescape.l0 k s (ints o) (pos : Int)) (⟨(unS (s.data.toList.drop pos) pos o).1.toArray⟩, (unS (s.data.toList.drop pos) pos o).2.1, (unS (s.data.toList.drop pos) pos o).2.2) := by
 induction d with
 | zero =>
  intro pos o hd hp ho
  rw [List.drop_of_length_le (by rw [dlen]; omega), unS_nil]
  refine Ev.step (f := fun _ => some (⟨o.toArray⟩, 0, 0)) (fun k => ?_) (Ev.now _)
  simp only [tendrilref03_Unescape.l0]
  rw [if_neg (by omega), str_ints]
 | succ d ih =>
  intro pos o hd hp ho
  by_cases hlt : pos < s.size
  ·have hne : s.data.toList.drop pos ≠ [] := by
    intro e
    have := congrArg List.length e
    rw [List.length_drop, dlen, List.length_nil] at this
    omega
   have hx : (s.extract pos s.size).data.toList = s.data.toList.drop pos := by
    rw [ext_list, List.take_of_length_le (by rw [List.length_drop, dlen]; omega)]
   have hlen : (s.data.toList.drop pos).length = s.size - pos := by rw [List.length_drop, dlen]
   rw [unS_cons _ hne]
   refine Ev.step (f := fun k => (tendrilref03_one.f k (s.extract pos s.size)).bind fun t121 => (if t121 < 0 then (some ((⟨#[]⟩ : ByteArray), (pos : Int), 2)) else ((tendrilref03_Form.f k (t121 % 256)).bind fun t125 => (tendrilref03_Unescape.l0 k s (ints o ++ [t121 % 256]) (wrap64 ((pos : Int) + (t125.size : Int))))))) (fun k => ?_) ?_
   ·simp only [tendrilref03_Unescape.l0]
    rw [if_pos (by omega), if_pos (by omega), if_pos (by omega), Int.toNat_natCast]
    congr 1
    funext t
    split
    ·rfl
    ·rw [if_pos (by unfold ints; rw [List.length_map]; omega)]
   ·by_cases h0 : (stepU (s.data.toList.drop pos)).2 = 0
    ·rw [if_pos h0]
     refine Ev.bind (one_miss _ (by rw [hx]; exact h0)) ?_
     simp only [show ((-1 : Int) < 0) = True from eq_true (by decide), if_true]
     exact Ev.now _
    ·rw [if_neg h0]
     obtain ⟨h1, h2⟩ := step_esc _ h0
     have hq := one_hit (s.extract pos s.size) (by rw [hx]; exact h0)
     rw [hx] at hq
     generalize stepU (s.data.toList.drop pos) = st at h0 h1 h2 hq ⊢
     obtain ⟨c, n⟩ := st
     simp only at h0 h1 h2 hq ⊢
     have hc := c.toNat_lt
     have hm : ((c.toNat : Int)) % 256 = (c.toNat : Int) := by omega
     refine Ev.bind hq ?_
     simp only [show ((c.toNat : Int) < 0) = False from eq_false (by omega), if_false, hm]
     refine Ev.bind (form_ev c) ?_
     have hsz : (⟨(escB c).toArray⟩ : ByteArray).size = n := by
      rw [sizeL, h2, List.length_take]; omega
     simp only [hsz]
     rw [Go.Proofs.YtidcecpbihmloaaGreatDoor.L03.w64 (by omega) (by omega), show (pos : Int) + (n : Int) = ((pos + n : Nat) : Int) by omega, show ints o ++ [(c.toNat : Int)] = ints (o ++ [c]) by simp [ints], List.drop_drop]
     exact ih (pos + n) (o ++ [c]) (by omega) (by omega) (by rw [List.length_append, List.length_singleton]; omega)
  ·have : pos = s.size := by omega
   subst this
   rw [List.drop_of_length_le (by rw [dlen]; omega), unS_nil]
   refine Ev.step (f := fun _ => some (⟨o.toArray⟩, 0, 0)) (fun k => ?_) (Ev.now _)
   simp only [tendrilref03_Unescape.l0]
   rw [if_neg (by omega), str_ints]
theorem run_ev (s : ByteArray) (hs : s.size ≤ 1000000000) : Ev (fun k => tendrilref03_Unescape.f k s) (⟨(unS s.data.toList 0 []).1.toArray⟩, (unS s.data.toList 0 []).2.1, (unS s.data.toList 0 []).2.2) := un_ev s hs s.size 0 [] (by omega) (by omega) (by simp)
theorem bt_at (s : ByteArray) (i : Nat) (h : i < s.data.toList.length) : bt s (i : Int) = ((s.data.toList[i]'h).toNat : Int) := by
 have hs : i < s.size := by rw [← dlen]; exact h
 unfold bt
 rw [dif_pos (by simpa using hs)]
 simp only [Int.toNat_natCast]
 rfl
theorem stop_le (l : List UInt8) : stopS l ≤ l.length := List.findIdx_le_length
theorem stop_no (l : List UInt8) : Lib.NoAny l Go.Proofs.YtidcecpbihmloaaGreatDoorE.sgn (stopS l) := by
 intro j b hj hb
 obtain ⟨hlt, rfl⟩ := List.getElem?_eq_some_iff.1 hb
 have := List.not_of_lt_findIdx hj
 simpa using this
theorem stop_hit (l : List UInt8) (h : stopS l < l.length) : Go.Proofs.YtidcecpbihmloaaGreatDoorE.sgn.contains (l[stopS l]'h) = true := List.findIdx_getElem (w := h)
theorem any_stop (l : List UInt8) : Lib.indexAny l Go.Proofs.YtidcecpbihmloaaGreatDoorE.sgn = if stopS l < l.length then (stopS l : Int) else -1 := by
 split
 ·rename_i h
  exact Lib.indexAny_hit (stop_no l) (List.getElem?_eq_getElem h) (stop_hit l h)
 ·rename_i h
  exact Lib.indexAny_none (by rw [show l.length = stopS l by have := stop_le l; omega]; exact stop_no l)
theorem any_f (s : ByteArray) (h : s.size ≤ 1000000000) : strings_IndexAny.f s ⟨#[60, 62, 34]⟩ = some (if stopS s.data.toList < s.data.toList.length then (stopS s.data.toList : Int) else -1) := by
 unfold strings_IndexAny.f
 rw [if_pos ⟨by omega, by decide, by decide, by decide⟩]
 congr 1
 exact any_stop _
def spanS (s : ByteArray) (at_ : Int) : Int := if at_ < 0 ∨ at_ ≥ (s.size : Int) then 0 else (stopS (s.data.toList.drop at_.toNat) : Int)
theorem span_ev (s : ByteArray) (h : s.size ≤ 1000000000) (at_ : Int) : Ev (fun k => escape_Span.f k s at_) (spanS s at_) := by
 unfold spanS
 by_cases h0 : at_ < 0
 ·rw [if_pos (.inl h0)]
  refine Ev.congr (f := fun k => escape_Span.j0 k s at_ true) (fun k => by unfold escape_Span.f; rw [if_pos h0]) ?_
  refine Ev.step (f := fun _ => some 0) (fun k => ?_) (Ev.now _)
  simp only [escape_Span.j0, if_true]
 ·by_cases h1 : at_ ≥ (s.size : Int)
  ·rw [if_pos (.inr h1)]
   refine Ev.congr (f := fun k => escape_Span.j0 k s at_ true) (fun k => by unfold escape_Span.f; rw [if_neg h0, decide_eq_true h1]) ?_
   refine Ev.step (f := fun _ => some 0) (fun k => ?_) (Ev.now _)
   simp only [escape_Span.j0, if_true]
  ·rw [if_neg (by omega)]
   obtain ⟨p, rfl⟩ := Int.eq_ofNat_of_zero_le (show 0 ≤ at_ by omega)
   have hx : (s.extract p s.size).data.toList = s.data.toList.drop p := by
    rw [ext_list, List.take_of_length_le (by rw [List.length_drop, dlen]; omega)]
   have hl : (s.data.toList.drop p).length = s.size - p := by rw [List.length_drop, dlen]
   have hxs : (s.extract p s.size).size = s.size - p := by rw [← dlen, hx, hl]
   have hst := stop_le (s.data.toList.drop p)
   refine Ev.congr (f := fun k => escape_Span.j0 k s (p : Int) false) (fun k => by unfold escape_Span.f; rw [if_neg h0, decide_eq_false h1]) ?_
   refine Ev.step (f := fun _ => some (stopS (s.data.toList.drop p) : Int)) (fun k => ?_) (Ev.now _)
   simp only [escape_Span.j0]
   rw [if_neg (by decide), if_pos (by omega), if_pos (by omega), Int.toNat_natCast, any_f _ (by omega), Option.bind_some, hx]
   by_cases h2 : stopS (s.data.toList.drop p) < (s.data.toList.drop p).length
   ·rw [if_pos h2, if_pos (by omega)]
   ·rw [if_neg h2, if_neg (by decide), Go.Proofs.YtidcecpbihmloaaGreatDoor.L03.w64 (by omega) (by omega)]
    congr 1
    omega
theorem rspan_l0 (s : ByteArray) (h : s.size ≤ 1000000000) (p : Nat) (hp : p < s.size) (d : Nat) : ∀ n : Nat, n + d = stopS (s.data.toList.drop p) → Ev (fun k => tendrilref03_Span.l0 k s (p : Int) (n : Int)) (stopS (s.data.toList.drop p) : Int) := by
 have hl : (s.data.toList.drop p).length = s.size - p := by rw [List.length_drop, dlen]
 have hst := stop_le (s.data.toList.drop p)
 have hat : ∀ n : Nat, (hn : n < (s.data.toList.drop p).length) → bt s ((p + n : Nat) : Int) = (((s.data.toList.drop p)[n]'hn).toNat : Int) := by
  intro n hn
  rw [bt_at s (p + n) (by rw [dlen]; omega)]
  simp
 induction d with
 | zero =>
  intro n hn
  obtain rfl : n = stopS (s.data.toList.drop p) := by omega
  refine Ev.step (f := fun _ => some (stopS (s.data.toList.drop p) : Int)) (fun k => ?_) (Ev.now _)
  simp only [tendrilref03_Span.l0]
  rw [Go.Proofs.YtidcecpbihmloaaGreatDoor.L03.w64 (by omega) (by omega), show (p : Int) + (stopS (s.data.toList.drop p) : Int) = ((p + stopS (s.data.toList.drop p) : Nat) : Int) by omega]
  by_cases h2 : stopS (s.data.toList.drop p) < (s.data.toList.drop p).length
  ·have hh := stop_hit _ h2
   rw [if_pos (by omega), if_pos (by omega), hat _ h2]
   generalize (s.data.toList.drop p)[stopS (s.data.toList.drop p)] = b at hh ⊢
   simp only [Go.Proofs.YtidcecpbihmloaaGreatDoorE.sgn, List.contains_cons, List.contains_nil, Bool.or_false, Bool.or_eq_true, beq_iff_eq] at hh
   rcases hh with rfl | rfl | rfl
   ·rw [if_pos (by decide)]
   ·rw [if_neg (by decide), if_pos (by decide)]
   ·rw [if_neg (by decide), if_neg (by decide), if_pos (by decide)]
  ·rw [if_neg (by omega)]
 | succ d ih =>
  intro n hn
  have h2 : n < (s.data.toList.drop p).length := by omega
  have hno := stop_no (s.data.toList.drop p) n _ (by omega) (List.getElem?_eq_getElem h2)
  refine Ev.step (f := fun k => tendrilref03_Span.l0 k s (p : Int) ((n + 1 : Nat) : Int)) (fun k => ?_) (ih (n + 1) (by omega))
  simp only [tendrilref03_Span.l0]
  rw [Go.Proofs.YtidcecpbihmloaaGreatDoor.L03.w64 (n := (p : Int) + (n : Int)) (by omega) (by omega), show (p : Int) + (n : Int) = ((p + n : Nat) : Int) by omega, if_pos (by omega), if_pos (by omega), hat _ h2, Go.Proofs.YtidcecpbihmloaaGreatDoor.L03.w64 (n := (n : Int) + 1) (by omega) (by omega)]
  generalize (s.data.toList.drop p)[n] = b at hno ⊢
  have hb : ∀ q : UInt8, q ∈ Go.Proofs.YtidcecpbihmloaaGreatDoorE.sgn → (b.toNat : Int) ≠ (q.toNat : Int) := by
   intro q hq e
   have : b = q := UInt8.toNat_inj.1 (by omega)
   rw [this] at hno
   rw [List.contains_iff_mem.2 hq] at hno
   exact absurd hno (by decide)
  rw [if_neg (show ¬ ((b.toNat : Int) = 60) from hb 60 (by decide)), if_neg (show ¬ ((b.toNat : Int) = 62) from hb 62 (by decide)), if_neg (show ¬ ((b.toNat : Int) = 34) from hb 34 (by decide))]
  rfl
theorem rspan_ev (s : ByteArray) (h : s.size ≤ 1000000000) (at_ : Int) : Ev (fun k => tendrilref03_Span.f k s at_) (spanS s at_) := by
 unfold spanS
 by_cases h0 : at_ < 0
 ·rw [if_pos (.inl h0)]
  refine Ev.congr (f := fun k => tendrilref03_Span.j0 k s at_ true) (fun k => by unfold tendrilref03_Span.f; rw [if_pos h0]) ?_
  refine Ev.step (f := fun _ => some 0) (fun k => ?_) (Ev.now _)
  simp only [tendrilref03_Span.j0, if_true]
 ·by_cases h1 : at_ ≥ (s.size : Int)
  ·rw [if_pos (.inr h1)]
   refine Ev.congr (f := fun k => tendrilref03_Span.j0 k s at_ true) (fun k => by unfold tendrilref03_Span.f; rw [if_neg h0, decide_eq_true h1]) ?_
   refine Ev.step (f := fun _ => some 0) (fun k => ?_) (Ev.now _)
   simp only [tendrilref03_Span.j0, if_true]
  ·rw [if_neg (by omega)]
   obtain ⟨p, rfl⟩ := Int.eq_ofNat_of_zero_le (show 0 ≤ at_ by omega)
   refine Ev.congr (f := fun k => tendrilref03_Span.j0 k s (p : Int) false) (fun k => by unfold tendrilref03_Span.f; rw [if_neg h0, decide_eq_false h1]) ?_
   refine Ev.step (f := fun k => tendrilref03_Span.l0 k s (p : Int) 0) (fun k => ?_) (rspan_l0 s h p (by omega) _ 0 (Nat.zero_add _))
   simp only [tendrilref03_Span.j0]
   rw [if_neg (by decide)]
theorem cat_str (a b : List UInt8) : (⟨a.toArray⟩ : ByteArray) ++ ⟨b.toArray⟩ = ⟨(a ++ b).toArray⟩ := by
 apply ByteArray.ext
 rw [ByteArray.data_append]
 simp
end Go.Proofs.YtidcecpbihmloaaGreatDoor.K05

namespace Go.Proofs.YtidcecpbihmloaaGreatDoorE
open Go Go.RowKit Go.Proofs.YtidcecpbihmloaaGreatDoorW.PrintWords Go.Proofs.YtidcecpbihmloaaGreatDoorW.PrintMore Go.Proofs.YtidcecpbihmloaaGreatDoorW.PrintLast Go.Proofs.YtidcecpbihmloaaGreatDoorX Go.Proofs.YtidcecpbihmloaaGreatDoor.P16 Go.Proofs.YtidcecpbihmloaaGreatDoor.M02
set_option linter.unusedVariables false
set_option linter.unusedSimpArgs false
set_option maxRecDepth 100000
/-- The state behind a reading. -/
def stR (w0 w' : World) (g : Nat) (s : ByteArray) (op st : Int) (res : Res DT) (x : DT) : Prop := match res with
 | .ok d a _ => x = d ∧ IsS68 w0 w' g s (a : Int) op 0 st
 | .err a c => ∃ (a' op' : Int), IsS68 w0 w' g s a' op' c (a : Int)
/-- What the reference's reader hands back of a piece. -/
def pieceR (w0 w : World) (g : Nat) (s : ByteArray) (op st : Int) (res : Res DT) (e : Ending) (w' : World) : Prop :=
 Below w0.heap.size w0 w' ∧ KeepBut w w' g none ∧ ∃ (x : DT) (v3 v4 : Value), e = .returned (.agg #[.int .i64 x.f0, .int .i64 x.f1, .string x.f2, v3, v4]) ∧ k25.M w' w.heap.size (fun _ => True) x [.int .i64 x.f0, .int .i64 x.f1, .string x.f2, v3, v4] ∧ stR w0 w' g s op st res x
/-- A piece stored into the block of a call's result. -/
abbrev set5 (W : World) (b : Nat) (v0 v1 v2 v3 v4 : Value) : World := ((((W.setCell ⟨b, 0, none⟩ v0).setCell ⟨b, 1, none⟩ v1).setCell ⟨b, 2, none⟩ v2).setCell ⟨b, 3, none⟩ v3).setCell ⟨b, 4, none⟩ v4
theorem KeepBut.far {w W : World} {g : Nat} (h : KeepBut w W g none) {p : Addr} (hp : w.heap.size ≤ p.block) (u : Value) : KeepBut w (W.setCell p u) g none :=
 ⟨Nat.le_trans h.1 (by simp [World.setCell]), fun i hi hg hr => (Below.heap_setCell W p u i (by omega)).trans (h.2 i hi hg hr)⟩
theorem keep5 {w W : World} {g b : Nat} (h : KeepBut w W g none) (hb : w.heap.size ≤ b) (v0 v1 v2 v3 v4 : Value) : KeepBut w (set5 W b v0 v1 v2 v3 v4) g none :=
 KeepBut.far (KeepBut.far (KeepBut.far (KeepBut.far (KeepBut.far h (p := ⟨b, 0, none⟩) hb v0) (p := ⟨b, 1, none⟩) hb v1) (p := ⟨b, 2, none⟩) hb v2) (p := ⟨b, 3, none⟩) hb v3) (p := ⟨b, 4, none⟩) hb v4
theorem below5 {w W : World} {b : Nat} (h : Below w.heap.size w W) (hb : w.heap.size ≤ b) (v0 v1 v2 v3 v4 : Value) : Below w.heap.size w (set5 W b v0 v1 v2 v3 v4) :=
 ((((h.setCell hb v0).setCell hb v1).setCell hb v2).setCell hb v3).setCell hb v4
theorem made5 {base : Nat} {ok : Nat → Prop} {x : DT} {cs : List Value} {W : World} {b : Nat} (h : k25.M W base ok x cs) (hok : ∀ k, ok k → k ≠ b) (v0 v1 v2 v3 v4 : Value) : k25.M (set5 W b v0 v1 v2 v3 v4) base ok x cs :=
 Kd.M_far (Kd.M_far (Kd.M_far (Kd.M_far (Kd.M_far h (p := ⟨b, 0, none⟩) hok v0) (p := ⟨b, 1, none⟩) hok v1) (p := ⟨b, 2, none⟩) hok v2) (p := ⟨b, 3, none⟩) hok v3) (p := ⟨b, 4, none⟩) hok v4
theorem state5 {w0 W : World} {g b : Nat} {s : ByteArray} {i1 i2 i3 i4 : Int} (h : IsS68 w0 W g s i1 i2 i3 i4) (hb : g ≠ b) (v0 v1 v2 v3 v4 : Value) : IsS68 w0 (set5 W b v0 v1 v2 v3 v4) g s i1 i2 i3 i4 :=
 ((((h.far (p := ⟨b, 0, none⟩) hb v0).far (p := ⟨b, 1, none⟩) hb v1).far (p := ⟨b, 2, none⟩) hb v2).far (p := ⟨b, 3, none⟩) hb v3).far (p := ⟨b, 4, none⟩) hb v4
theorem stR5 {w0 W : World} {g b : Nat} {s : ByteArray} {op st : Int} {res : Res DT} {x : DT} (h : stR w0 W g s op st res x) (hb : g ≠ b) (v0 v1 v2 v3 v4 : Value) : stR w0 (set5 W b v0 v1 v2 v3 v4) g s op st res x := by
 unfold stR at h ⊢
 cases res with
 | ok d a r => exact ⟨h.1, state5 h.2 hb _ _ _ _ _⟩
 | err a c => obtain ⟨a', op', h⟩ := h; exact ⟨a', op', state5 h hb _ _ _ _ _⟩
theorem finR {w0 w W : World} {g : Nat} {s : ByteArray} {op st : Int} {res : Res DT} {x : DT} {v3 v4 : Value} {ok : Nat → Prop} (hB : Below w0.heap.size w0 W) (hw : w0.heap.size ≤ w.heap.size) (hK : KeepBut w W g none) (hg : g < w.heap.size) (hM : k25.M W w.heap.size ok x (dCells x v3 v4)) (hok : ∀ k, ok k → k ≠ w.heap.size) (hS : stR w0 W g s op st res x) :
  pieceR w0 w g s op st res (.returned (.agg #[.int .i64 x.f0, .int .i64 x.f1, .string x.f2, v3, v4])) (set5 W w.heap.size (.int .i64 x.f0) (.int .i64 x.f1) (.string x.f2) v3 v4) :=
 ⟨below5 hB hw _ _ _ _ _, keep5 hK (Nat.le_refl _) _ _ _ _ _, x, v3, v4, rfl, k25.M_mono (fun _ _ => trivial) (made5 hM hok _ _ _ _ _), stR5 hS (by omega) _ _ _ _ _⟩
theorem rIs_er (s : ByteArray) (a op er st ci : Int) (h : er ≠ 0) : tendrilref16_R_Is.f s a op er st ci = some (false, s, a, op, er, st) := by
 unfold tendrilref16_R_Is.f
 rw [if_neg h]
theorem rmust_ir (s : ByteArray) (a op er st ci : Int) (h : er ≠ 0) : tendrilref16_R_must.f s a op er st ci = some (s, a, op, er, st) := by
 unfold tendrilref16_R_must.f
 rw [rIs_er s a op er st ci h, Option.bind_some]
 simp [tendrilref16_R_fail.f, h]
theorem rfail_0 (s : ByteArray) (a op st p c : Int) : tendrilref16_R_fail.f s a op 0 st p c = some (s, a, op, c, p) := by unfold tendrilref16_R_fail.f; rw [if_pos rfl]
theorem rfail_er (s : ByteArray) (a op er st p c : Int) (h : er ≠ 0) : tendrilref16_R_fail.f s a op er st p c = some (s, a, op, er, st) := by unfold tendrilref16_R_fail.f; rw [if_neg h]
theorem stop_lt {s : ByteArray} {a : Nat} (h : a ≤ s.size) : a + stopS ((B s).drop a) ≤ s.size := by
 have h1 := Go.Proofs.YtidcecpbihmloaaGreatDoor.K05.stop_le ((B s).drop a)
 rw [List.length_drop, B_len] at h1
 omega
theorem span_nat (s : ByteArray) (a : Nat) : Go.Proofs.YtidcecpbihmloaaGreatDoor.K05.spanS s (a : Int) = (stopS ((B s).drop a) : Int) := by
 unfold Go.Proofs.YtidcecpbihmloaaGreatDoor.K05.spanS
 by_cases h : a < s.size
 ·rw [if_neg (by omega), Int.toNat_natCast]
 ·rw [if_pos (by omega), List.drop_of_length_le (by rw [B_len]; omega)]
  rfl
theorem ext_take (s : ByteArray) (a n : Nat) : (s.extract a (a + n)).data.toList = ((B s).drop a).take n := by
 rw [Go.Proofs.YtidcecpbihmloaaGreatDoor.L03.ext_list, Nat.add_sub_cancel_left]
theorem rspan_c (s : ByteArray) (hs : s.size ≤ 1000000000) (a : Nat) (w : World) (hgl : GL w) :
  Calls Tryz.prog 81 #[.string s, .int .i64 (a : Int)] w fun e w' => e = .returned (.int .i64 (stopS ((B s).drop a) : Int)) ∧ ∃ n, w' = w.drewN n := by
 obtain ⟨k, hk⟩ := Go.Proofs.YtidcecpbihmloaaGreatDoor.K05.rspan_ev s hs (a : Int)
 have h := hk k (Nat.le_refl _)
 rw [span_nat] at h
 refine (tendrilref03_Span.calls k s (a : Int) _ w hgl h).mono ?_
 rintro e w' ⟨he, hd⟩
 exact ⟨he, hd.out⟩
theorem run_c (s : ByteArray) (hs : s.size ≤ 1000000000) (w : World) (hgl : GL w) :
  Calls Tryz.prog 82 #[.string s] w fun e w' => e = .returned (.tuple #[.string (mkB (unS s.data.toList 0 []).1), .int .i64 (unS s.data.toList 0 []).2.1, .int .i64 (unS s.data.toList 0 []).2.2]) ∧ Below w.heap.size w w' := by
 obtain ⟨k, hk⟩ := Go.Proofs.YtidcecpbihmloaaGreatDoor.K05.run_ev s hs
 exact tendrilref03_Unescape.calls k s _ _ _ w hgl (hk k (Nat.le_refl _))
set_option maxHeartbeats 4000000 in
theorem rtext_c (s : ByteArray) (hs : s.size ≤ 1000000000) (a : Nat) (ha : a ≤ s.size) (op st : Int) (g : Nat) (w0 w : World) (hgl : GL w0) (hI : IsS68 w0 w g s (a : Int) op 0 st) (hB : Below w0.heap.size w0 w) :
  Calls Tryz.prog 61 #[.pointer (some ⟨g, 0, none⟩)] w (pieceR w0 w g s op st (textD ((B s).drop a) a)) := by
 have hsl := stop_lt ha
 have hex := ext_take s a (stopS ((B s).drop a))
 have HSP : Aside0 (∀ W, GL W → Calls Tryz.prog 81 #[.string s, .int .i64 (a : Int)] W fun e w' => e = .returned (.int .i64 (stopS ((B s).drop a) : Int)) ∧ ∃ n, w' = W.drewN n) := ⟨fun W h => rspan_c s hs a W h⟩
 have HUN : Aside0 (∀ W, GL W → Calls Tryz.prog 82 #[.string (s.extract a (a + stopS ((B s).drop a)))] W fun e w' => e = .returned (.tuple #[.string (mkB (unS (((B s).drop a).take (stopS ((B s).drop a))) 0 []).1), .int .i64 (unS (((B s).drop a).take (stopS ((B s).drop a))) 0 []).2.1, .int .i64 (unS (((B s).drop a).take (stopS ((B s).drop a))) 0 []).2.2]) ∧ Below W.heap.size W w') := ⟨fun W h => by
  have h1 := run_c (s.extract a (a + stopS ((B s).drop a))) (by rw [ByteArray.size_extract]; omega) W h
  rw [hex] at h1
  exact h1⟩
 obtain ⟨U, hU⟩ : ∃ U, U = unS (((B s).drop a).take (stopS ((B s).drop a))) 0 [] := ⟨_, rfl⟩
 obtain ⟨n, hn⟩ : ∃ n, n = stopS ((B s).drop a) := ⟨_, rfl⟩
 have HTD := Aside0.mk (show textD ((B s).drop a) a = (if U.2.2 ≠ 0 then .err (a + U.2.1.toNat) 2 else if nxt s (a + n) 34 = true then .ok ⟨3, 0, mkB U.1, [], []⟩ (a + n + 1) ((B s).drop (a + n + 1)) else .err (a + n) 2 : Res DT) by
  have e : (List.drop (a + n) (B s)).head? = some 34 ↔ nxt s (a + n) 34 = true := by unfold nxt; rw [beq_iff_eq]
  unfold textD
  rw [← hn] at hU ⊢
  simp only [← hU, List.drop_drop, e, ← Nat.add_assoc])
 rw [← hU, ← hn] at HUN
 rw [← hn] at HSP hsl
 have hUr : 0 ≤ U.2.1 ∧ U.2.1 ≤ 1000000000 ∨ U.2.2 = 0 := by
  rcases Go.Proofs.YtidcecpbihmloaaGreatDoor.K04.un_esc _ (((B s).drop a).take (stopS ((B s).drop a))) 0 [] (Nat.le_refl _) with h | h
  ·exact .inr (by rw [hU]; exact h.1)
  ·refine .inl ?_
   have h1 : (((B s).drop a).take (stopS ((B s).drop a))).length ≤ s.size := by
    rw [List.length_take, List.length_drop, B_len]; omega
   rw [← hU] at h
   omega
 clear hex hU hn
 obtain ⟨R, hR⟩ : ∃ R : Res DT, R = textD ((B s).drop a) a := ⟨_, rfl⟩
 rw [← hR]
 have HTD := Aside0.mk (hR.trans HTD.out)
 clear hR
 have hgw0 : g < w.heap.size := blk_lt hI.1
 have hww : w0.heap.size ≤ w.heap.size := hB.size
 have HG := Aside0.mk hgl
 have HI0 := Aside0.mk (hI.alloc (.cells zCells 25))
 have HB0 := Aside0.mk (below_alloc hB (.cells zCells 25))
 have q0 := (blk_cell HI0.out.1 0).trans rfl
 have q1 := (blk_cell HI0.out.1 1).trans rfl
 clear hgl hI hB
 go_enter Tryz.func61, Tryz.ntmps61
 go_wp2_with fail
 go_quiet ((go_at_call 81; go_loud (refine Calls.quiet_of (HSP.out _ (HG.out.below ?_)); exact pw_below_drewN HB0.out _)))
 generalize hW : (w.alloc (.cells zCells 25)).drewN nq = W1
 have HI1 := Aside0.mk (show IsS68 w0 W1 g s (a : Int) op 0 st by rw [← hW]; exact HI0.out.drewN nq)
 have HB1 := Aside0.mk (show Below w0.heap.size w0 W1 by rw [← hW]; exact pw_below_drewN HB0.out nq)
 have HK1 := Aside0.mk (show Below w.heap.size w W1 by rw [← hW]; exact pw_below_drewN (below_alloc (Below.refl _ _) _) nq)
 have HR1 := Aside0.mk (show W1.heap[w.heap.size]? = some (.cells zCells 25 (0, 0)) by rw [← hW]; exact heap_alloc_new w _)
 clear hW q0 q1 HI0 HB0
 have hgw : g < W1.heap.size := blk_lt HI1.out.1
 have q0 : W1.cell? ⟨g, 0, none⟩ = some (.string s) := (blk_cell HI1.out.1 0).trans rfl
 have q1 : W1.cell? ⟨g, 1, none⟩ = some (.int .i64 (a : Int)) := (blk_cell HI1.out.1 1).trans rfl
 have HS : (W1.drew.cell? ⟨g, 0, none⟩ = some (.string s) ∧ W1.drew.cell? ⟨g, 1, none⟩ = some (.int .i64 (a : Int))) ∧ Below W1.heap.size W1 W1.drew := ⟨⟨cell_drew q0, cell_drew q1⟩, below_drew (Below.refl _ _)⟩
 clear q0 q1
 have hsum : IntKind.i64.wrap ((a : Int) + (n : Int)) = (a : Int) + (n : Int) := wrap_in (by omega) (by omega)
 have hnn : ((a : Int) + (n : Int)).toNat = a + n := by omega
 have hb1 : (0 : Int) ≤ (a : Int) := by omega
 have hb2 : (a : Int) ≤ (a : Int) + (n : Int) := by omega
 have hb3 : (a : Int) + (n : Int) ≤ (s.size : Int) := by omega
 go_wp2_with fail
 go_region_held3 (fun w' => (w'.cell? ⟨g, 0, none⟩ = some (.string s) ∧ w'.cell? ⟨g, 1, none⟩ = some (.int .i64 (a : Int))) ∧ Below W1.heap.size W1 w')
  (first
   | with_reducible exact HS
   |(go_split_ands
     with_reducible exact ⟨⟨pw_cell_below hbf (by with_reducible assumption), pw_cell_below hbf (by with_reducible assumption)⟩, then_w (by with_reducible assumption) hbf⟩))
  (first
   |(go_at_call 82
     go_loud (
     refine (HUN.out _ (HG.out.below (below_then HB1.out HB1.out.size ?hb))).mono ?_
     case hb => first | with_reducible assumption | (go_split_ands; with_reducible assumption)
     rintro e w5 ⟨rfl, hbf⟩)))
 have HB5 := Aside0.mk (then_w (below_drew (Below.refl _ _)) hbf)
 have HI5 := Aside0.mk (HI1.out.below HB5.out)
 have HBW5 := Aside0.mk (below_then HB1.out HB1.out.size HB5.out)
 have HK5 := Aside0.mk (KeepBut.of_below (then_w HK1.out HB5.out) g none)
 have HR5 := Aside0.mk ((HB5.out.block w.heap.size (blk_lt HR1.out)).trans HR1.out)
 clear hbf
 rename_i hHeld
 have q0 := hHeld.1.1
 have q1 := hHeld.1.2
 clear hHeld HSP HUN HI1 HB1 HB5
 have f5 := blk_frozen HI5.out.1
 by_cases hE : U.2.2 = 0
 ·have HRa := Aside0.mk (HTD.out.trans (if_neg (show ¬ U.2.2 ≠ 0 from fun h => h hE)))
  have heq : (U.2.2 != 0) = false := by simp [hE]
  have HSET := Aside0.mk (HI5.out.set_1 ((a : Int) + (n : Int)))
  have HBS := Aside0.mk (HBW5.out.setCell (p := ⟨g, 1, none⟩) HI5.out.2 (.int .i64 ((a : Int) + (n : Int))))
  have HKS := Aside0.mk (HK5.out.set_ 1 (.int .i64 ((a : Int) + (n : Int))))
  have HRS := Aside0.mk (show (w5.setCell ⟨g, 1, none⟩ (.int .i64 ((a : Int) + (n : Int)))).heap[w.heap.size]? = some (.cells zCells 25 (0, 0)) from blk_far HR5.out (by show w.heap.size ≠ g; omega) _)
  by_cases hx : nxt s (a + n) 34 = true
  ·have HRb := Aside0.mk (HRa.out.trans (if_pos hx))
   have HM : Aside0 (Calls Tryz.prog 83 #[.pointer (some ⟨g, 0, none⟩), .int .u8 34] (w5.setCell ⟨g, 1, none⟩ (.int .i64 ((a : Int) + (n : Int)))) fun e w' => e = .returned (.tuple #[]) ∧ IsS68 w0 w' g s ((a + n + 1 : Nat) : Int) op 0 st ∧ Below w0.heap.size w0 w' ∧ KeepBut (w5.setCell ⟨g, 1, none⟩ (.int .i64 ((a : Int) + (n : Int)))) w' g none) := ⟨tendrilref16_R_must.calls g s ((a + n : Nat) : Int) op 0 st 34 _ _ _ _ _ w0 _ HG.out HSET.out HBS.out (rmust_ok s (a + n) op st 34 hx (by omega))⟩
   clear hx hE
   go_wp2_with (go_at_call 83; go_loud (with_reducible refine HM.out.mono ?_); rintro e w6 ⟨rfl, hi6, hb6, hk6⟩; have HI6 := Aside0.mk hi6; have HB6 := Aside0.mk hb6; have HR6 := Aside0.mk (hk6.blk HRS.out (by omega) (by simp)); have HK6 := Aside0.mk (HKS.out.trans hk6 (.inl rfl)); have hy := Lib.cell_of_heap HR6.out; have hz := Lib.frozen_of_heap HR6.out; clear hi6 hb6 hk6)
   refine bodyPost_ret (results_cell_row rfl _ _ w.heap.size 25 _ (0, 0) _ rfl (set_blk (j := 4) (set_blk (j := 3) (set_blk (j := 2) (set_blk (j := 1) (set_blk (j := 0) HR6.out _) _) _) _) _) Tryz.underlying25 rfl (by kernel_rfl)) rfl ?_
   refine finR (x := ⟨3, 0, mkB U.1, [], []⟩) (v3 := .slice none 0 0) (v4 := .slice none 0 0) (ok := fun k => w.heap.size < k) HB6.out hww HK6.out hgw0 (k25_mkM w6 w.heap.size _ ⟨3, 0, mkB U.1, [], []⟩ (Kd.R_nil _ _ _ _ _) (Kd.R_nil _ _ _ _ _)) (fun k hk => by omega) ?_
   rw [HRb.out]
   exact ⟨rfl, HI6.out⟩
  ·have HRb := Aside0.mk (HRa.out.trans (if_neg hx))
   have hx' : nxt s (a + n) 34 = false := by simpa using hx
   have HM : Aside0 (Calls Tryz.prog 83 #[.pointer (some ⟨g, 0, none⟩), .int .u8 34] (w5.setCell ⟨g, 1, none⟩ (.int .i64 ((a : Int) + (n : Int)))) fun e w' => e = .returned (.tuple #[]) ∧ IsS68 w0 w' g s ((a + n : Nat) : Int) op 2 ((a + n : Nat) : Int) ∧ Below w0.heap.size w0 w' ∧ KeepBut (w5.setCell ⟨g, 1, none⟩ (.int .i64 ((a : Int) + (n : Int)))) w' g none) := ⟨tendrilref16_R_must.calls g s ((a + n : Nat) : Int) op 0 st 34 _ _ _ _ _ w0 _ HG.out HSET.out HBS.out (rmust_no s (a + n) op st 34 hx')⟩
   clear hx hx' hE
   go_wp2_with (go_at_call 83; go_loud (with_reducible refine HM.out.mono ?_); rintro e w6 ⟨rfl, hi6, hb6, hk6⟩; have HI6 := Aside0.mk hi6; have HB6 := Aside0.mk hb6; have HR6 := Aside0.mk (hk6.blk HRS.out (by omega) (by simp)); have HK6 := Aside0.mk (HKS.out.trans hk6 (.inl rfl)); have hy := Lib.cell_of_heap HR6.out; have hz := Lib.frozen_of_heap HR6.out; clear hi6 hb6 hk6)
   refine bodyPost_ret (results_cell_row rfl _ _ w.heap.size 25 _ (0, 0) _ rfl (set_blk (j := 4) (set_blk (j := 3) (set_blk (j := 2) (set_blk (j := 1) (set_blk (j := 0) HR6.out _) _) _) _) _) Tryz.underlying25 rfl (by kernel_rfl)) rfl ?_
   refine finR (x := ⟨3, 0, mkB U.1, [], []⟩) (v3 := .slice none 0 0) (v4 := .slice none 0 0) (ok := fun k => w.heap.size < k) HB6.out hww HK6.out hgw0 (k25_mkM w6 w.heap.size _ ⟨3, 0, mkB U.1, [], []⟩ (Kd.R_nil _ _ _ _ _) (Kd.R_nil _ _ _ _ _)) (fun k hk => by omega) ?_
   rw [HRb.out]
   exact ⟨_, _, HI6.out⟩
 ·have HRb := Aside0.mk (HTD.out.trans (if_pos hE))
  have hU1 : 0 ≤ U.2.1 ∧ U.2.1 ≤ 1000000000 := hUr.resolve_right hE
  have hnat : (a : Int) + U.2.1 = ((a + U.2.1.toNat : Nat) : Int) := by omega
  have hneq : (U.2.2 != 0) = true := by simpa using hE
  have HF : Aside0 (Calls Tryz.prog 34 #[.pointer (some ⟨g, 0, none⟩), .int .i64 ((a : Int) + U.2.1), .int .i64 2] w5 fun e w' => e = .returned (.tuple #[]) ∧ IsS68 w0 w' g s a op 2 ((a : Int) + U.2.1) ∧ Below w0.heap.size w0 w' ∧ KeepBut w5 w' g none) := ⟨tendrilref16_R_fail.calls g s a op 0 st _ 2 _ _ _ _ _ w0 w5 HG.out HI5.out HBW5.out (rfail_0 s a op st _ 2)⟩
  have HN := Aside0.mk hnat
  clear hnat hE
  go_wp2_with (go_at_call 34; go_loud (with_reducible refine HF.out.mono ?_); rintro e w6 ⟨rfl, hi6, hb6, hk6⟩; have HI6 := Aside0.mk hi6; have HB6 := Aside0.mk hb6; have HR6 := Aside0.mk (hk6.blk HR5.out (by omega) (by simp)); have HK6 := Aside0.mk (HK5.out.trans hk6 (.inl rfl)); have hy := Lib.cell_of_heap HR6.out; have hz := Lib.frozen_of_heap HR6.out; clear hi6 hb6 hk6)
  refine bodyPost_ret (results_cell_row rfl _ _ w.heap.size 25 _ (0, 0) _ rfl (set_blk (j := 4) (set_blk (j := 3) (set_blk (j := 2) (set_blk (j := 1) (set_blk (j := 0) HR6.out _) _) _) _) _) Tryz.underlying25 rfl (by kernel_rfl)) rfl ?_
  refine finR (x := ⟨0, 0, em, [], []⟩) (v3 := .slice none 0 0) (v4 := .slice none 0 0) (ok := fun k => w.heap.size < k) HB6.out hww HK6.out hgw0 (k25_mkM w6 w.heap.size _ ⟨0, 0, em, [], []⟩ (Kd.R_nil _ _ _ _ _) (Kd.R_nil _ _ _ _ _)) (fun k hk => by omega) ?_
  rw [HRb.out]
  exact ⟨_, _, by rw [← HN.out]; exact HI6.out⟩
end Go.Proofs.YtidcecpbihmloaaGreatDoorE

namespace Go.Proofs.YtidcecpbihmloaaGreatDoorE
open Go Go.RowKit Go.Proofs.YtidcecpbihmloaaGreatDoorW.PrintWords Go.Proofs.YtidcecpbihmloaaGreatDoorW.PrintMore Go.Proofs.YtidcecpbihmloaaGreatDoorW.PrintLast Go.Proofs.YtidcecpbihmloaaGreatDoorX Go.Proofs.YtidcecpbihmloaaGreatDoor.P16 Go.Proofs.YtidcecpbihmloaaGreatDoor.M02
set_option linter.unusedVariables false
set_option linter.unusedSimpArgs false
set_option maxRecDepth 100000
def shutB (b : Bool) : UInt8 := if b then 125 else 93
def kindB (b : Bool) : Int := if b then 5 else 4
/-- A list or record behind what opens it. -/
def allS (m : Nat) (s : ByteArray) (a deep : Nat) (b : Bool) : Res DT :=
 if nxt s a (shutB b) = true then .ok ⟨kindB b, 0, em, [], []⟩ (a + 1) ((B s).drop (a + 1)) else membersS m ((B s).drop a) a (deep + 1) b [] []
/-- The contract of the reference's Piece at a fuel. -/
def PieceR (s : ByteArray) (n : Nat) : Prop := ∀ (a deep : Nat), a ≤ s.size → deep ≤ 16 → 3 * (s.size - a) + 1 ≤ n → ∀ (st : Int) (g : Nat) (w0 w : World), GL w0 → IsS68 w0 w g s (a : Int) (deep : Int) 0 st → Below w0.heap.size w0 w →
 Calls Tryz.prog 33 #[.pointer (some ⟨g, 0, none⟩)] w (pieceR w0 w g s (deep : Int) st (pieceS n ((B s).drop a) a deep))
/-- What stands in memory while a list or record is read. -/
structure LR (w0 w : World) (g : Nat) (x : DT) (v3 v4 : Value) (wr : World) : Prop where
 dl : DL (w.heap.size + 1) x v3 v4 wr
 bel : Below w0.heap.size w0 wr
 keep : KeepBut w wr g none
 res : wr.heap[w.heap.size]? = some (.cells zCells 25 (0, 0))
namespace LR
variable {w0 w : World} {g : Nat} {x : DT} {v3 v4 : Value} {wr w1 : World}
theorem step (h : LR w0 w g x v3 v4 wr) (hg : g < w.heap.size) (hb : Below w0.heap.size w0 w1) (hk : KeepBut wr w1 g none) : LR w0 w g x v3 v4 w1 :=
 ⟨h.dl.keep hk (by omega), hb, h.keep.trans hk (.inl rfl), hk.blk h.res (by omega) (by simp)⟩
theorem below (h : LR w0 w g x v3 v4 wr) (hb : Below wr.heap.size wr w1) : LR w0 w g x v3 v4 w1 :=
 ⟨h.dl.below hb, below_then h.bel h.bel.size hb, h.keep.trans (KeepBut.of_below hb g none) (.inl rfl), (hb.block _ (blk_lt h.res)).trans h.res⟩
theorem set (h : LR w0 w g x v3 v4 wr) (hg : g < w.heap.size) (hg0 : w0.heap.size ≤ g) (j : Nat) (u : Value) : LR w0 w g x v3 v4 (wr.setCell ⟨g, j, none⟩ u) :=
 ⟨h.dl.far (p := ⟨g, j, none⟩) (by show g < _; omega) u, h.bel.setCell (p := ⟨g, j, none⟩) hg0 u, h.keep.set_ j u, blk_far h.res (p := ⟨g, j, none⟩) (by show w.heap.size ≠ g; omega) u⟩
theorem cell (h : LR w0 w g x v3 v4 wr) : wr.cell? ⟨w.heap.size + 1, 0, none⟩ = some (.int .i64 x.f0) ∧ wr.cell? ⟨w.heap.size + 1, 1, none⟩ = some (.int .i64 x.f1) ∧ wr.cell? ⟨w.heap.size + 1, 2, none⟩ = some (.string x.f2) ∧ wr.cell? ⟨w.heap.size + 1, 3, none⟩ = some v3 ∧ wr.cell? ⟨w.heap.size + 1, 4, none⟩ = some v4 :=
 ⟨(blk_cell h.dl.blk 0).trans rfl, (blk_cell h.dl.blk 1).trans rfl, (blk_cell h.dl.blk 2).trans rfl, (blk_cell h.dl.blk 3).trans rfl, (blk_cell h.dl.blk 4).trans rfl⟩
/-- A name appended and stored. -/
theorem name (h : LR w0 w g x v3 v4 wr) (hw : w0.heap.size ≤ w.heap.size) {n : ByteArray} {u : Value} (hr : Kd.string.R 9 w1 (w.heap.size + 1 + 1) (fun k => w.heap.size + 1 < k) u (x.f3 ++ [n])) (hg : wr.grownBy w1 v3.ownBlock) (hat : u.ownBlock = v3.ownBlock ∨ ∃ q, u.ownBlock = some q ∧ wr.heap.size ≤ q) :
  LR w0 w g ⟨x.f0, x.f1, x.f2, x.f3 ++ [n], x.f4⟩ u v4 (w1.setCell ⟨w.heap.size + 1, 3, none⟩ u) := by
 have hne : ∀ k, v3.ownBlock = some k → w.heap.size + 1 < k := fun k hk => h.dl.r3.1 k hk
 refine ⟨h.dl.name hr hg hat, (pw_below_grown h.bel _ h.bel.size hg (fun k hk => by have := hne k hk; omega)).setCell (p := ⟨w.heap.size + 1, 3, none⟩) (by show w0.heap.size ≤ w.heap.size + 1; omega) u, ?_, ?_⟩
 ·have hk1 : KeepBut w w1 g none := ⟨Nat.le_trans h.keep.1 hg.size, fun i hi hgi _ => (hg.block i (Nat.lt_of_lt_of_le hi h.keep.1) (fun e => by have := hne i e.symm; omega)).trans (h.keep.2 i hi hgi (by simp))⟩
  exact KeepBut.far hk1 (p := ⟨w.heap.size + 1, 3, none⟩) (by show w.heap.size ≤ w.heap.size + 1; omega) u
 ·exact blk_far (blk_grown h.res hg (fun e => by have := hne _ e.symm; omega)) (p := ⟨w.heap.size + 1, 3, none⟩) (by show w.heap.size ≠ w.heap.size + 1; omega) u
/-- A piece appended and stored. -/
theorem piece (h : LR w0 w g x v3 v4 wr) (hw : w0.heap.size ≤ w.heap.size) {d : DT} {u : Value} (hr : k25.R 25 w1 (w.heap.size + 1 + 1) (fun k => w.heap.size + 1 < k ∧ some k ≠ v3.ownBlock) u (x.f4 ++ [d])) (hg : wr.grownBy w1 v4.ownBlock) :
  LR w0 w g ⟨x.f0, x.f1, x.f2, x.f3, x.f4 ++ [d]⟩ v3 u (w1.setCell ⟨w.heap.size + 1, 4, none⟩ u) := by
 have hne : ∀ k, v4.ownBlock = some k → w.heap.size + 1 < k := fun k hk => (h.dl.r4.1 k hk).1
 refine ⟨h.dl.piece hr hg, (pw_below_grown h.bel _ h.bel.size hg (fun k hk => by have := hne k hk; omega)).setCell (p := ⟨w.heap.size + 1, 4, none⟩) (by show w0.heap.size ≤ w.heap.size + 1; omega) u, ?_, ?_⟩
 ·have hk1 : KeepBut w w1 g none := ⟨Nat.le_trans h.keep.1 hg.size, fun i hi hgi _ => (hg.block i (Nat.lt_of_lt_of_le hi h.keep.1) (fun e => by have := hne i e.symm; omega)).trans (h.keep.2 i hi hgi (by simp))⟩
  exact KeepBut.far hk1 (p := ⟨w.heap.size + 1, 4, none⟩) (by show w.heap.size ≤ w.heap.size + 1; omega) u
 ·exact blk_far (blk_grown h.res hg (fun e => by have := hne _ e.symm; omega)) (p := ⟨w.heap.size + 1, 4, none⟩) (by show w.heap.size ≠ w.heap.size + 1; omega) u
end LR
theorem state_grown {w0 W W1 : World} {g : Nat} {s : ByteArray} {i1 i2 i3 i4 : Int} {v : Value} {b : Nat} (h : IsS68 w0 W g s i1 i2 i3 i4) (hg : W.grownBy W1 v.ownBlock) (hne : ∀ k, v.ownBlock = some k → b < k) (hb : g < b) (j : Nat) (u : Value) : IsS68 w0 (W1.setCell ⟨b, j, none⟩ u) g s i1 i2 i3 i4 :=
 (h.grown hg (fun e => by have := hne g e.symm; omega)).far (p := ⟨b, j, none⟩) (by show g ≠ b; omega) u
/-- What holds at the head of the loop over the members. -/
def LInv (w0 w : World) (g : Nat) (s : ByteArray) (deep : Nat) (st : Int) (b : Bool) (R : Res DT) (gk : Nat) (mo : Bool) (wr : World) : Prop :=
 ∃ (x : DT) (v3 v4 : Value), LR w0 w g x v3 v4 wr ∧ x.f0 = kindB b ∧ x.f1 = 0 ∧ x.f2 = em ∧
  ((mo = true ∧ ∃ a : Nat, a ≤ s.size ∧ IsS68 w0 wr g s (a : Int) ((deep : Int) + 1) 0 st ∧ R = membersS gk ((B s).drop a) a (deep + 1) b x.f3 x.f4 ∧ 3 * (s.size - a) + 3 ≤ gk ∧ x.f3.length ≤ a ∧ x.f4.length ≤ a)
  ∨ (mo = false ∧ ∃ a : Nat, a ≤ s.size ∧ IsS68 w0 wr g s (a : Int) ((deep : Int) + 1) 0 st ∧ R = (if nxt s a (shutB b) = true then .ok x (a + 1) ((B s).drop (a + 1)) else .err a 2))
  ∨ (∃ (a' op' c : Int) (p : Nat), c ≠ 0 ∧ IsS68 w0 wr g s a' op' c (p : Int) ∧ R = .err p c))
/-- An error that stands: Piece hands back an empty piece. -/
theorem info_d : (Tryz.prog.info? 25).map (fun i => (i.zero, i.size, i.bytes)) = some (some (.agg zCells), 5, 80) := by kernel_rfl
theorem info_s : (Tryz.prog.info? 9).map (fun i => (i.zero, i.size, i.bytes)) = some (some (.string ⟨#[]⟩), 1, 16) := by kernel_rfl
end Go.Proofs.YtidcecpbihmloaaGreatDoorE

namespace Go.Proofs.YtidcecpbihmloaaGreatDoorE
open Go Go.RowKit Go.Proofs.YtidcecpbihmloaaGreatDoorW.PrintWords Go.Proofs.YtidcecpbihmloaaGreatDoorX Go.Proofs.YtidcecpbihmloaaGreatDoor.P16 Go.Proofs.YtidcecpbihmloaaGreatDoor.M02
set_option linter.unusedVariables false
set_option linter.unusedSimpArgs false
theorem catB (a b : List UInt8) : mkB a ++ mkB b = mkB (a ++ b) := Go.Proofs.YtidcecpbihmloaaGreatDoor.K05.cat_str a b
/-- What stands in a list or record from a member on. -/
def restS (b : Bool) (i : Nat) (ns : List ByteArray) (l : List DT) : List UInt8 := if i = 0 then printL b ns l else moreL b ns l
theorem restS_cons (b : Bool) (i : Nat) (ns : List ByteArray) (d : DT) (l : List DT) : restS b i ns (d :: l) = ((if i = 0 then [] else [44]) ++ (if b then (ns.headD em).data.toList ++ [61] else [])) ++ (printD d ++ restS b (i + 1) ns.tail l) := by
 have e : restS b (i + 1) ns.tail l = moreL b ns.tail l := if_neg (by omega)
 rw [e]
 unfold restS
 by_cases h : i = 0
 ·rw [if_pos h, if_pos h, printL_cons]; simp
 ·rw [if_neg h, if_neg h]
  show 44 :: printL b ns (d :: l) = _
  rw [printL_cons]; simp
theorem restS_nil (b : Bool) (i : Nat) (ns : List ByteArray) : restS b i ns ([] : List DT) = [] := by
 unfold restS
 split <;> simp [printL, moreL]
theorem head_drop (ns : List ByteArray) (i : Nat) : (ns.drop i).headD em = ns.getD i em := by
 rw [List.headD_eq_head?_getD, List.head?_drop, List.getD_eq_getElem?_getD]
theorem tail_drop (ns : List ByteArray) (i : Nat) : (ns.drop i).tail = ns.drop (i + 1) := by rw [List.tail_drop]
end Go.Proofs.YtidcecpbihmloaaGreatDoorE

namespace Go.Proofs.YtidcecpbihmloaaGreatDoorE
open Go Go.RowKit Go.Proofs.YtidcecpbihmloaaGreatDoorW.PrintWords Go.Proofs.YtidcecpbihmloaaGreatDoorW.PrintMore Go.Proofs.YtidcecpbihmloaaGreatDoorW.PrintLast Go.Proofs.YtidcecpbihmloaaGreatDoorX Go.Proofs.YtidcecpbihmloaaGreatDoor.P16 Go.Proofs.YtidcecpbihmloaaGreatDoor.M02
set_option linter.unusedVariables false
set_option linter.unusedSimpArgs false
set_option maxRecDepth 100000
abbrev IsW (B b : Nat) (out : List UInt8) (w : World) : Prop := Lib.IsBuilderF 53 5 B b (Lib.byteCells out) w
/-- What write says. -/
def writeP (w0 w : World) (b : Nat) (out : List UInt8) (e : Ending) (w' : World) : Prop :=
 e = .returned (.tuple #[]) ∧ IsW w0.heap.size b out w' ∧ Below w0.heap.size w0 w' ∧ Lib.OthersKept 5 (some b) w w'
/-- Where write is called. -/
structure WAt (w0 w : World) (b : Nat) (out : List UInt8) : Prop where
 bld : IsW w0.heap.size b out w
 bel : Below w0.heap.size w0 w
def writeC (x : DT) : Prop := ∀ (left op r : Nat), weighD x left op = some r → ∀ (b : Nat) (out : List UInt8) (w0 w : World), GL w0 → ∀ (A3 : Option Addr) (c3 : Nat) (A4 : Option Addr) (c4 : Nat), x.f3.length ≤ c3 → Kd.string.C w0 A3 x.f3.length x.f3 → x.f4.length ≤ c4 → k25.C w0 A4 x.f4.length x.f4 → out.length + (printD x).length ≤ 2000000000 → WAt w0 w b out →
 Calls Tryz.prog 26 #[.pointer (some ⟨b, 0, none⟩), aggD x A3 c3 A4 c4] w (writeP w0 w b (out ++ printD x))
theorem WAt.below {w0 w w1 : World} {b : Nat} {out : List UInt8} (h : WAt w0 w b out) (hb : Below w.heap.size w w1) : WAt w0 w1 b out := ⟨b_below h.bld hb, below_then h.bel h.bel.size hb⟩
theorem kept_of_below {e : TypeId} {b : Option Nat} {w w1 : World} (hb : Below w.heap.size w w1) : Lib.OthersKept e b w w1 := fun k o hk _ _ => (hb.block k (blk_lt hk)).trans hk
/-- One text, written. -/
theorem wstr_c (w0 w : World) (b : Nat) (out : List UInt8) (t : ByteArray) (h : WAt w0 w b out) (hl : out.length + t.size ≤ 2000000000) :
  Calls Tryz.prog 46 #[.pointer (some ⟨b, 0, none⟩), .string t] w fun e w' => e = .returned (.tuple #[.int .i64 t.size, .nilIface]) ∧ WAt w0 w' b (out ++ t.data.toList) ∧ Lib.OthersKept 5 (some b) w w' := by
 refine (b_string w0.heap.size b out t w h.bld (by omega) h.bel.size).mono ?_
 rintro e w' ⟨rfl, h1, h2, h3⟩
 exact ⟨rfl, ⟨h1, h.bel.trans h2⟩, h3⟩
theorem wbyte_c (w0 w : World) (b : Nat) (out : List UInt8) (c : UInt8) (h : WAt w0 w b out) (hl : out.length + 1 ≤ 2000000000) :
  Calls Tryz.prog 69 #[.pointer (some ⟨b, 0, none⟩), .int .u8 c.toNat] w fun e w' => e = .returned .nilIface ∧ WAt w0 w' b (out ++ [c]) ∧ Lib.OthersKept 5 (some b) w w' := by
 refine (b_byte w0.heap.size b out c w h.bld (by omega) h.bel.size).mono ?_
 rintro e w' ⟨rfl, h1, h2, h3⟩
 exact ⟨rfl, ⟨h1, h.bel.trans h2⟩, h3⟩
abbrev dBox (x : DT) (A3 : Option Addr) (c3 : Nat) (A4 : Option Addr) (c4 : Nat) : Obj := .cells #[.int .i64 x.f0, .int .i64 x.f1, .string x.f2, .slice A3 x.f3.length c3, .slice A4 x.f4.length c4] 25
set_option maxHeartbeats 4000000 in
theorem write_none (x : DT) (hk : x.f0 = 0) (b : Nat) (out : List UInt8) (w0 w : World) (hgl : GL w0) (A3 : Option Addr) (c3 : Nat) (A4 : Option Addr) (c4 : Nat) (hl : out.length + 4 ≤ 2000000000) (h : WAt w0 w b out) :
  Calls Tryz.prog 26 #[.pointer (some ⟨b, 0, none⟩), aggD x A3 c3 A4 c4] w (writeP w0 w b (out ++ [110, 111, 110, 101])) := by
 have HA := Aside0.mk (h.below (below_alloc (Below.refl _ w) (dBox x A3 c3 A4 c4)))
 have HK := Aside0.mk (kept_of_below (e := 5) (b := some b) (below_alloc (Below.refl _ w) (dBox x A3 c3 A4 c4)))
 have HG := Aside0.mk hgl
 clear h hgl
 have HC : Aside0 (Calls Tryz.prog 46 #[.pointer (some ⟨b, 0, none⟩), .string ⟨#[110, 111, 110, 101]⟩] (w.alloc (dBox x A3 c3 A4 c4)) fun e w' => e = .returned (.tuple #[.int .i64 4, .nilIface]) ∧ WAt w0 w' b (out ++ [110, 111, 110, 101]) ∧ Lib.OthersKept 5 (some b) (w.alloc (dBox x A3 c3 A4 c4)) w') := ⟨wstr_c w0 _ b out ⟨#[110, 111, 110, 101]⟩ HA.out hl⟩
 have k0 : (x.f0 == 0) = true := by rw [hk]; rfl
 have k1 : (x.f0 == 1) = false := by rw [hk]; rfl
 have k2 : (x.f0 == 2) = false := by rw [hk]; rfl
 have k3 : (x.f0 == 3) = false := by rw [hk]; rfl
 have k4 : (x.f0 == 4) = false := by rw [hk]; rfl
 have k5 : (x.f0 == 5) = false := by rw [hk]; rfl
 clear hk
 go_enter Tryz.func26, Tryz.ntmps26
 go_wp2_with (go_at_call 46; go_loud (with_reducible refine HC.out.mono ?_); rintro e w5 ⟨rfl, h5, hk5⟩; have H5 := Aside0.mk h5; have HK5 := Aside0.mk hk5; clear h5 hk5)
 (try simp only [Exit.inBlock, Exit.then])
 refine bodyPost_ret (results_none rfl _ _ _) rfl ?_
 exact ⟨rfl, H5.out.bld, H5.out.bel, HK.out.trans HK5.out⟩
set_option maxHeartbeats 4000000 in
theorem write_truth0 (x : DT) (hk : x.f0 = 1) (hn : x.f1 = 0) (b : Nat) (out : List UInt8) (w0 w : World) (hgl : GL w0) (A3 : Option Addr) (c3 : Nat) (A4 : Option Addr) (c4 : Nat) (hl : out.length + 2 ≤ 2000000000) (h : WAt w0 w b out) :
  Calls Tryz.prog 26 #[.pointer (some ⟨b, 0, none⟩), aggD x A3 c3 A4 c4] w (writeP w0 w b (out ++ [110, 111])) := by
 have HA := Aside0.mk (h.below (below_alloc (Below.refl _ w) (dBox x A3 c3 A4 c4)))
 have HK := Aside0.mk (kept_of_below (e := 5) (b := some b) (below_alloc (Below.refl _ w) (dBox x A3 c3 A4 c4)))
 have HG := Aside0.mk hgl
 clear h hgl
 simp only [dBox, hn] at HA HK
 have HC : Aside0 (Calls Tryz.prog 46 #[.pointer (some ⟨b, 0, none⟩), .string ⟨#[110, 111]⟩] (w.alloc (.cells #[.int .i64 x.f0, .int .i64 0, .string x.f2, .slice A3 x.f3.length c3, .slice A4 x.f4.length c4] 25)) fun e w' => e = .returned (.tuple #[.int .i64 2, .nilIface]) ∧ WAt w0 w' b (out ++ [110, 111]) ∧ Lib.OthersKept 5 (some b) (w.alloc (.cells #[.int .i64 x.f0, .int .i64 0, .string x.f2, .slice A3 x.f3.length c3, .slice A4 x.f4.length c4] 25)) w') := ⟨wstr_c w0 _ b out ⟨#[110, 111]⟩ HA.out hl⟩
 have hix : ∀ w : World, (Instr.index 83 (.agg #[.string ⟨#[110, 111]⟩, .string ⟨#[121, 101, 115]⟩]) (.int .i64 0)).run Tryz.prog w = .ok (.string ⟨#[110, 111]⟩) w := fun _ => rfl
 have k0 : (x.f0 == 0) = false := by rw [hk]; rfl
 have k1 : (x.f0 == 1) = true := by rw [hk]; rfl
 have k2 : (x.f0 == 2) = false := by rw [hk]; rfl
 have k3 : (x.f0 == 3) = false := by rw [hk]; rfl
 have k4 : (x.f0 == 4) = false := by rw [hk]; rfl
 have k5 : (x.f0 == 5) = false := by rw [hk]; rfl
 clear hk
 go_enter Tryz.func26, Tryz.ntmps26
 go_wp2_with (go_at_call 46; go_loud (with_reducible refine HC.out.mono ?_); rintro e w5 ⟨rfl, h5, hk5⟩; have H5 := Aside0.mk h5; have HK5 := Aside0.mk hk5; clear h5 hk5)
 (try simp only [Exit.inBlock, Exit.then])
 refine bodyPost_ret (results_none rfl _ _ _) rfl ?_
 exact ⟨rfl, H5.out.bld, H5.out.bel, HK.out.trans HK5.out⟩
set_option maxHeartbeats 4000000 in
theorem write_truth1 (x : DT) (hk : x.f0 = 1) (hn : x.f1 = 1) (b : Nat) (out : List UInt8) (w0 w : World) (hgl : GL w0) (A3 : Option Addr) (c3 : Nat) (A4 : Option Addr) (c4 : Nat) (hl : out.length + 3 ≤ 2000000000) (h : WAt w0 w b out) :
  Calls Tryz.prog 26 #[.pointer (some ⟨b, 0, none⟩), aggD x A3 c3 A4 c4] w (writeP w0 w b (out ++ [121, 101, 115])) := by
 have HA := Aside0.mk (h.below (below_alloc (Below.refl _ w) (dBox x A3 c3 A4 c4)))
 have HK := Aside0.mk (kept_of_below (e := 5) (b := some b) (below_alloc (Below.refl _ w) (dBox x A3 c3 A4 c4)))
 have HG := Aside0.mk hgl
 clear h hgl
 simp only [dBox, hn] at HA HK
 have HC : Aside0 (Calls Tryz.prog 46 #[.pointer (some ⟨b, 0, none⟩), .string ⟨#[121, 101, 115]⟩] (w.alloc (.cells #[.int .i64 x.f0, .int .i64 1, .string x.f2, .slice A3 x.f3.length c3, .slice A4 x.f4.length c4] 25)) fun e w' => e = .returned (.tuple #[.int .i64 3, .nilIface]) ∧ WAt w0 w' b (out ++ [121, 101, 115]) ∧ Lib.OthersKept 5 (some b) (w.alloc (.cells #[.int .i64 x.f0, .int .i64 1, .string x.f2, .slice A3 x.f3.length c3, .slice A4 x.f4.length c4] 25)) w') := ⟨wstr_c w0 _ b out ⟨#[121, 101, 115]⟩ HA.out hl⟩
 have hix : ∀ w : World, (Instr.index 83 (.agg #[.string ⟨#[110, 111]⟩, .string ⟨#[121, 101, 115]⟩]) (.int .i64 1)).run Tryz.prog w = .ok (.string ⟨#[121, 101, 115]⟩) w := fun _ => rfl
 have k0 : (x.f0 == 0) = false := by rw [hk]; rfl
 have k1 : (x.f0 == 1) = true := by rw [hk]; rfl
 have k2 : (x.f0 == 2) = false := by rw [hk]; rfl
 have k3 : (x.f0 == 3) = false := by rw [hk]; rfl
 have k4 : (x.f0 == 4) = false := by rw [hk]; rfl
 have k5 : (x.f0 == 5) = false := by rw [hk]; rfl
 clear hk
 go_enter Tryz.func26, Tryz.ntmps26
 go_wp2_with (go_at_call 46; go_loud (with_reducible refine HC.out.mono ?_); rintro e w5 ⟨rfl, h5, hk5⟩; have H5 := Aside0.mk h5; have HK5 := Aside0.mk hk5; clear h5 hk5)
 (try simp only [Exit.inBlock, Exit.then])
 refine bodyPost_ret (results_none rfl _ _ _) rfl ?_
 exact ⟨rfl, H5.out.bld, H5.out.bel, HK.out.trans HK5.out⟩
set_option maxHeartbeats 4000000 in
theorem write_num (x : DT) (hk : x.f0 = 2) (h1 : -9223372036854775808 ≤ x.f1 ∧ x.f1 ≤ 9223372036854775807) (b : Nat) (out : List UInt8) (w0 w : World) (hgl : GL w0) (A3 : Option Addr) (c3 : Nat) (A4 : Option Addr) (c4 : Nat) (hl : out.length + (Lib.itoa x.f1).length ≤ 2000000000) (h : WAt w0 w b out) :
  Calls Tryz.prog 26 #[.pointer (some ⟨b, 0, none⟩), aggD x A3 c3 A4 c4] w (writeP w0 w b (out ++ Lib.itoa x.f1)) := by
 have HA := Aside0.mk (h.below (below_alloc (Below.refl _ w) (dBox x A3 c3 A4 c4)))
 have HK := Aside0.mk (kept_of_below (e := 5) (b := some b) (below_alloc (Below.refl _ w) (dBox x A3 c3 A4 c4)))
 have HG := Aside0.mk hgl
 clear h hgl
 have HDE : Aside0 (Calls Tryz.prog 47 #[.int .i64 x.f1] (w.alloc (dBox x A3 c3 A4 c4)) fun e w' => e = .returned (.string (mkB (Lib.itoa x.f1))) ∧ Below (w.alloc (dBox x A3 c3 A4 c4)).heap.size (w.alloc (dBox x A3 c3 A4 c4)) w') := ⟨chars_Decimal.calls x.f1 _ _ (HG.out.below HA.out.bel) (Go.Proofs.YtidcecpbihmloaaGreatDoor.K06.decimal_f x.f1 h1.1 h1.2)⟩
 have k0 : (x.f0 == 0) = false := by rw [hk]; rfl
 have k1 : (x.f0 == 1) = false := by rw [hk]; rfl
 have k2 : (x.f0 == 2) = true := by rw [hk]; rfl
 have k3 : (x.f0 == 3) = false := by rw [hk]; rfl
 have k4 : (x.f0 == 4) = false := by rw [hk]; rfl
 have k5 : (x.f0 == 5) = false := by rw [hk]; rfl
 clear hk
 go_enter Tryz.func26, Tryz.ntmps26
 go_wp2_with (first | (go_at_call 47; go_loud (with_reducible refine HDE.out.mono ?_); rintro e w4 ⟨rfl, hb4⟩; have HA4 := Aside0.mk (HA.out.below hb4); have HK4 := Aside0.mk (HK.out.trans (kept_of_below hb4)); clear hb4) | (go_at_call 46; go_loud (refine (wstr_c w0 w4 b out (mkB (Lib.itoa x.f1)) HA4.out (by rw [mkB_size]; omega)).mono ?_); rintro e w5 ⟨rfl, h5, hk5⟩; have H5 := Aside0.mk h5; have HK5 := Aside0.mk hk5; clear h5 hk5))
 (try simp only [Exit.inBlock, Exit.then])
 refine bodyPost_ret (results_none rfl _ _ _) rfl ?_
 exact ⟨rfl, H5.out.bld, H5.out.bel, HK4.out.trans HK5.out⟩
set_option maxHeartbeats 4000000 in
theorem write_text (x : DT) (hk : x.f0 = 3) (h2 : x.f2.size ≤ 65536) (b : Nat) (out : List UInt8) (w0 w : World) (hgl : GL w0) (A3 : Option Addr) (c3 : Nat) (A4 : Option Addr) (c4 : Nat) (hl : out.length + ((escS x.f2.data.toList).length + 2) ≤ 2000000000) (h : WAt w0 w b out) :
  Calls Tryz.prog 26 #[.pointer (some ⟨b, 0, none⟩), aggD x A3 c3 A4 c4] w (writeP w0 w b (out ++ (34 :: (escS x.f2.data.toList ++ [34])))) := by
 have HA := Aside0.mk (h.below (below_alloc (Below.refl _ w) (dBox x A3 c3 A4 c4)))
 have HK := Aside0.mk (kept_of_below (e := 5) (b := some b) (below_alloc (Below.refl _ w) (dBox x A3 c3 A4 c4)))
 have HG := Aside0.mk hgl
 clear h hgl
 have h6 := escS_len x.f2.data.toList
 have h7 : x.f2.data.toList.length = x.f2.size := by rw [Array.length_toList]; rfl
 have HES : Aside0 (Calls Tryz.prog 48 #[.string x.f2] (w.alloc (dBox x A3 c3 A4 c4)) fun e w' => e = .returned (.string (mkB (escS x.f2.data.toList))) ∧ Below (w.alloc (dBox x A3 c3 A4 c4)).heap.size (w.alloc (dBox x A3 c3 A4 c4)) w') := ⟨escape_Escape.calls x.f2 _ _ (HG.out.below HA.out.bel) (by unfold escape_Escape.f; rw [if_pos (by omega)]; rfl)⟩
 obtain ⟨E, hE⟩ : ∃ E, E = escS x.f2.data.toList := ⟨_, rfl⟩
 rw [← hE] at HES hl h6 ⊢
 clear hE
 have z1 : (mkB E).size = E.length := mkB_size E
 have HZ := Aside0.mk z1
 have s1 : ((⟨#[34]⟩ : ByteArray) ++ mkB E) = mkB (34 :: E) := catB [34] E
 have s2 : (mkB (34 :: E) ++ (⟨#[34]⟩ : ByteArray)) = mkB (34 :: (E ++ [34])) := catB (34 :: E) [34]
 have HS := Aside0.mk (And.intro s1 s2)
 have l1 : (mkB E).size ≤ 1000000 := by rw [z1]; omega
 have HWS : Aside0 (∀ W, WAt w0 W b out → Calls Tryz.prog 46 #[.pointer (some ⟨b, 0, none⟩), .string ((⟨#[34]⟩ : ByteArray) ++ mkB E ++ (⟨#[34]⟩ : ByteArray))] W fun e w' => e = .returned (.tuple #[.int .i64 ((mkB (34 :: (E ++ [34]))).size : Int), .nilIface]) ∧ WAt w0 w' b (out ++ (34 :: (E ++ [34]))) ∧ Lib.OthersKept 5 (some b) W w') := ⟨fun W hW => by
  rw [s1, s2]
  exact wstr_c w0 W b out (mkB (34 :: (E ++ [34]))) hW (by rw [mkB_size]; simp; omega)⟩
 clear z1 s1 s2
 have k0 : (x.f0 == 0) = false := by rw [hk]; rfl
 have k1 : (x.f0 == 1) = false := by rw [hk]; rfl
 have k2 : (x.f0 == 2) = false := by rw [hk]; rfl
 have k3 : (x.f0 == 3) = true := by rw [hk]; rfl
 have k4 : (x.f0 == 4) = false := by rw [hk]; rfl
 have k5 : (x.f0 == 5) = false := by rw [hk]; rfl
 clear hk
 go_enter Tryz.func26, Tryz.ntmps26
 go_wp2_with (first | (go_at_call 48; go_loud (with_reducible refine HES.out.mono ?_); rintro e w4 ⟨rfl, hb4⟩; have HA4 := Aside0.mk (HA.out.below hb4); have HK4 := Aside0.mk (HK.out.trans (kept_of_below hb4)); clear hb4) | (go_at_call 46; go_loud (with_reducible refine (HWS.out w4 HA4.out).mono ?_); rintro e w5 ⟨rfl, h5, hk5⟩; have H5 := Aside0.mk h5; have HK5 := Aside0.mk hk5; clear h5 hk5))
 (try simp only [Exit.inBlock, Exit.then])
 refine bodyPost_ret (results_none rfl _ _ _) rfl ?_
 exact ⟨rfl, H5.out.bld, H5.out.bel, HK4.out.trans HK5.out⟩
end Go.Proofs.YtidcecpbihmloaaGreatDoorE
