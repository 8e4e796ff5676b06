/- Merged by this claim's own program (merge.py) out of the texts X16x2, X16x4, X16x7, X16x12, X16x13, K02, K02b, K02e, K03, K04, D00, D01, D02, D03, D04, D05, ED1, ED2, D06, D07, EDH3, ED3, ED4, ED5, EDR1, ED6; the W texts among them began as the kit's print. -/
import Derived.Test.YtidcecpbihmloaaGreatDoorDO2
import Derived.Lib.ItoaLen
import Derived.Deep.QuietTactic
import Derived.BigQuiet

namespace Go.Proofs.YtidcecpbihmloaaGreatDoor.P16
open Go.RowKit Go.Proofs.YtidcecpbihmloaaGreatDoorE Go.Proofs.YtidcecpbihmloaaGreatDoorW.PrintWords Go.Proofs.YtidcecpbihmloaaGreatDoorW.PrintLast Go.Proofs.YtidcecpbihmloaaGreatDoorW.PrintMore
attribute [local go_sem] max2_int min2_int max_two min_two max_three min_three max_four min_four   -- for this text's walks alone
set_option linter.unusedVariables false
set_option linter.unusedSimpArgs false

mutual
def tendrilref02_Compare.l0 : Nat → ByteArray → ByteArray → Int → Option (Int)
 | 0, _, _, _ => none
 | k + 1, x0, x1, x5 => if x5 < (x0.size : Int) then (tendrilref02_Compare.j1 k x0 x1 x5 (decide (x5 < (x1.size : Int)))) else (tendrilref02_Compare.j1 k x0 x1 x5 false)
def tendrilref02_Compare.j1 : Nat → ByteArray → ByteArray → Int → Bool → Option (Int)
 | 0, _, _, _, _ => none
 | k + 1, x0, x1, x5, x15 => if x15 = true then (if 0 ≤ x5 then (if x5 < (x0.size : Int) then (if x5 < (x1.size : Int) then (if (bt x0 x5) < (bt x1 x5) then (some (-1)) else (if (bt x0 x5) > (bt x1 x5) then (some 1) else (tendrilref02_Compare.l0 k x0 x1 (wrap64 (x5 + 1))))) else (none)) else (none)) else (none)) else (if (x0.size : Int) < (x1.size : Int) then (some (-1)) else (if (x0.size : Int) > (x1.size : Int) then (some 1) else (some 0)))
end
def tendrilref02_Compare.f (k : Nat) (a0 : ByteArray) (a1 : ByteArray) : Option (Int) := tendrilref02_Compare.l0 k a0 a1 0
theorem tendrilref02_Compare.mono_l : ∀ k, (∀ y0 y1 y2, LeO (tendrilref02_Compare.l0 k y0 y1 y2) (tendrilref02_Compare.l0 (k + 1) y0 y1 y2)) ∧ (∀ y0 y1 y2 y3, LeO (tendrilref02_Compare.j1 k y0 y1 y2 y3) (tendrilref02_Compare.j1 (k + 1) y0 y1 y2 y3))
 | 0 => ⟨fun _ _ _ r h => by simp [tendrilref02_Compare.l0] at h, fun _ _ _ _ r h => by simp [tendrilref02_Compare.j1] at h⟩
 | k + 1 => by
  obtain ⟨ih0, ih1⟩ := tendrilref02_Compare.mono_l k
  refine ⟨?_, ?_⟩
  ·intro y0 y1 y2
   unfold tendrilref02_Compare.l0
   repeat' first
   |(with_reducible exact ih0 _ _ _)
   |(with_reducible exact ih1 _ _ _ _)
   |(with_reducible exact LeO.refl _)
   |(with_reducible exact LeO.none _)
   |(with_reducible refine LeO.ite ?_ ?_)
   | (with_reducible refine LeO.bind ?_ (fun _ => ?_))
   | exact ih0 _ _ _
   | exact ih1 _ _ _ _
   | exact LeO.none _
   | refine LeO.ite ?_ ?_
   | refine LeO.bind ?_ (fun _ => ?_)
  ·intro y0 y1 y2 y3
   unfold tendrilref02_Compare.j1
   repeat' first
   |(with_reducible exact ih0 _ _ _)
   |(with_reducible exact ih1 _ _ _ _)
   |(with_reducible exact LeO.refl _)
   |(with_reducible exact LeO.none _)
   |(with_reducible refine LeO.ite ?_ ?_)
   | (with_reducible refine LeO.bind ?_ (fun _ => ?_))
   | exact ih0 _ _ _
   | exact ih1 _ _ _ _
   | exact LeO.none _
   | refine LeO.ite ?_ ?_
   | refine LeO.bind ?_ (fun _ => ?_)
theorem tendrilref02_Compare.mono : ∀ a0 a1 k, LeO (tendrilref02_Compare.f k a0 a1) (tendrilref02_Compare.f (k + 1) a0 a1) := by
 intro a0 a1 k
 obtain ⟨ih0, ih1⟩ := tendrilref02_Compare.mono_l k
 unfold tendrilref02_Compare.f
 repeat' first
   |(with_reducible exact ih0 _ _ _)
   |(with_reducible exact ih1 _ _ _ _)
   |(with_reducible exact LeO.refl _)
   |(with_reducible exact LeO.none _)
   |(with_reducible refine LeO.ite ?_ ?_)
   | (with_reducible refine LeO.bind ?_ (fun _ => ?_))
   | exact ih0 _ _ _
   | exact ih1 _ _ _ _
   | exact LeO.none _
   | refine LeO.ite ?_ ?_
   | refine LeO.bind ?_ (fun _ => ?_)
set_option maxHeartbeats 8000000 in
set_option maxRecDepth 100000 in
theorem tendrilref02_Compare.calls (k : Nat) (a0 : ByteArray) (a1 : ByteArray) (r : Int) (w : World) (hgl : Go.Proofs.YtidcecpbihmloaaGreatDoorX.GL w) (h : tendrilref02_Compare.f k a0 a1 = some r) :
  Calls Tryz.prog 25 #[.string a0, .string a1] w fun e w' => e = .returned (.int .i64 r) ∧ Drawn0 w w' := by
 have HGL := Aside0.mk hgl
 clear hgl
 have H : (tendrilref02_Compare.l0 k a0 a1 0) = some r := h
 clear h
 have H' := Aside0.mk H
 clear H
 go_enter Tryz.func25, Tryz.ntmps25
 go_wp2
 repeat (go_quiet (fail); try go_wp2)
 go_loopg [5] k (fun kq v5 w' => ∃ (x5_1 : Int), v5 = .int .i64 x5_1 ∧ Aside0 (tendrilref02_Compare.l0 kq a0 a1 x5_1 = some r) ∧ Aside0 (kq ≤ k) ∧ Drawn0 w w')
 case atStart => exact ⟨(0), (by first | rfl | (simp; done) | (simp [*]; done)), H', ⟨Nat.le_refl _⟩, by repeat (first | exact Drawn0.refl _ | apply Drawn0.step)⟩
 case round =>
  clear H'
  try clear c2
  try clear p2
  obtain ⟨x5_1, rfl, HA, HK1, ⟨m1, rfl⟩⟩ := hrel
  cases gk with
  | zero => exact absurd HA.out (by simp [tendrilref02_Compare.l0])
  | succ k1 =>
   have H := HA.out
   clear HA
   simp only [tendrilref02_Compare.l0] at H
   have HC3 := Aside0.mk H
   clear H
   go_upto_region 2 with (fail)
   repeat (go_quiet (fail); go_upto_region 2 with (fail))
   go_cut [15] (fun v15 wc => ∃ (kq : Nat) (x15_2 : Bool), v15 = .bool x15_2 ∧ Aside0 (tendrilref02_Compare.j1 kq a0 a1 x5_1 x15_2 = some r) ∧ Aside0 (kq ≤ k1) ∧ Drawn0 w wc)
   case first =>
    have H := HC3.out
    clear HC3
    by_cases c4 : x5_1 < (a0.size : Int)
    ·rw [if_pos c4] at H
     have c4b0 : decide (x5_1 < (a0.size : Int)) = true := decide_eq_true c4
     clear c4
     (first | rw [c4b0] | (simp only [i64_w, i32_w]; rw [c4b0]) | skip)
     have H' := Aside0.mk H
     clear H
     go_wp2
     repeat (go_quiet (fail); try go_wp2)
     go_meet
     case rel => exact ⟨_, (decide (x5_1 < (a1.size : Int))), (by first | rfl | (simp; done) | (simp [*]; done)), H', ⟨by have := HK1.out; first | omega | exact Nat.le_refl _⟩, by repeat (first | exact Drawn0.refl _ | apply Drawn0.step)⟩
    ·rw [if_neg c4] at H
     have c4b0 : decide (x5_1 < (a0.size : Int)) = false := decide_eq_false c4
     clear c4
     (first | rw [c4b0] | (simp only [i64_w, i32_w]; rw [c4b0]) | skip)
     have H' := Aside0.mk H
     clear H
     go_wp2
     repeat (go_quiet (fail); try go_wp2)
     go_meet
     case rel => exact ⟨_, (false), (by first | rfl | (simp; done) | (simp [*]; done)), H', ⟨by have := HK1.out; first | omega | exact Nat.le_refl _⟩, by repeat (first | exact Drawn0.refl _ | apply Drawn0.step)⟩
   case rest =>
    clear HC3
    try clear c2
    try clear p2
    try clear c4
    try clear c4b0
    try clear p2
    obtain ⟨kq, x15_2, rfl, HA, HJ2, ⟨mc2, rfl⟩⟩ := hcut
    cases kq with
    | zero => exact absurd HA.out (by simp [tendrilref02_Compare.j1])
    | succ kj2 =>
     have H := HA.out
     clear HA
     simp only [tendrilref02_Compare.j1] at H
     by_cases c5 : x15_2 = true
     ·subst c5
      have H1 : (if 0 ≤ x5_1 then (if x5_1 < (a0.size : Int) then (if x5_1 < (a1.size : Int) then (if (bt a0 x5_1) < (bt a1 x5_1) then (some (-1)) else (if (bt a0 x5_1) > (bt a1 x5_1) then (some 1) else (tendrilref02_Compare.l0 kj2 a0 a1 (wrap64 (x5_1 + 1))))) else (none)) else (none)) else (none)) = some r := by rw [if_pos rfl] at H; exact H
      clear H
      have H := H1
      clear H1
      by_cases c6 : 0 ≤ x5_1
      ·rw [if_pos c6] at H
       have c6b0 : decide (0 ≤ x5_1) = true := decide_eq_true c6
       clear c6
       by_cases c7 : x5_1 < (a0.size : Int)
       ·rw [if_pos c7] at H
        have c7b0 : decide (x5_1 < (a0.size : Int)) = true := decide_eq_true c7
        clear c7
        by_cases c9 : x5_1 < (a1.size : Int)
        ·rw [if_pos c9] at H
         have c9b0 : decide (x5_1 < (a1.size : Int)) = true := decide_eq_true c9
         clear c9
         by_cases c11 : (bt a0 x5_1) < (bt a1 x5_1)
         ·rw [if_pos c11] at H
          have c11b0 : decide ((bt a0 x5_1) < (bt a1 x5_1)) = true := decide_eq_true c11
          clear c11
          obtain rfl := Option.some.inj H
          have p8 : 0 ≤ (x5_1 : Int) := of_decide_eq_true (by first | (with_reducible assumption) | assumption)
          have q8 : x5_1 < (a0.size : Int) := of_decide_eq_true (by first | (with_reducible assumption) | assumption)
          have hx8 := bt_at a0 x5_1
          replace p8 := eq_true p8
          replace q8 := eq_true q8
          have p10 : 0 ≤ (x5_1 : Int) := of_decide_eq_true (by first | (with_reducible assumption) | assumption)
          have q10 : x5_1 < (a1.size : Int) := of_decide_eq_true (by first | (with_reducible assumption) | assumption)
          have hx10 := bt_at a1 x5_1
          replace p10 := eq_true p10
          replace q10 := eq_true q10
          go_wp2
          repeat (go_quiet (fail); try go_wp2)
          go_ret
          exact ⟨by first | rfl | (simp; done) | (simp [*]; done), by repeat (first | exact Drawn0.refl _ | apply Drawn0.step)⟩
         ·rw [if_neg c11] at H
          have c11b0 : decide ((bt a0 x5_1) < (bt a1 x5_1)) = false := decide_eq_false c11
          clear c11
          by_cases c14 : (bt a0 x5_1) > (bt a1 x5_1)
          ·rw [if_pos c14] at H
           have c14b0 : decide ((bt a1 x5_1) < (bt a0 x5_1)) = true := decide_eq_true c14
           clear c14
           obtain rfl := Option.some.inj H
           have p8 : 0 ≤ (x5_1 : Int) := of_decide_eq_true (by first | (with_reducible assumption) | assumption)
           have q8 : x5_1 < (a0.size : Int) := of_decide_eq_true (by first | (with_reducible assumption) | assumption)
           have hx8 := bt_at a0 x5_1
           replace p8 := eq_true p8
           replace q8 := eq_true q8
           have p10 : 0 ≤ (x5_1 : Int) := of_decide_eq_true (by first | (with_reducible assumption) | assumption)
           have q10 : x5_1 < (a1.size : Int) := of_decide_eq_true (by first | (with_reducible assumption) | assumption)
           have hx10 := bt_at a1 x5_1
           replace p10 := eq_true p10
           replace q10 := eq_true q10
           have p12 : 0 ≤ (x5_1 : Int) := of_decide_eq_true (by first | (with_reducible assumption) | assumption)
           have q12 : x5_1 < (a0.size : Int) := of_decide_eq_true (by first | (with_reducible assumption) | assumption)
           have hx12 := bt_at a0 x5_1
           replace p12 := eq_true p12
           replace q12 := eq_true q12
           have p13 : 0 ≤ (x5_1 : Int) := of_decide_eq_true (by first | (with_reducible assumption) | assumption)
           have q13 : x5_1 < (a1.size : Int) := of_decide_eq_true (by first | (with_reducible assumption) | assumption)
           have hx13 := bt_at a1 x5_1
           replace p13 := eq_true p13
           replace q13 := eq_true q13
           go_wp2
           repeat (go_quiet (fail); try go_wp2)
           go_ret
           exact ⟨by first | rfl | (simp; done) | (simp [*]; done), by repeat (first | exact Drawn0.refl _ | apply Drawn0.step)⟩
          ·rw [if_neg c14] at H
           have c14b0 : decide ((bt a1 x5_1) < (bt a0 x5_1)) = false := decide_eq_false c14
           clear c14
           have H' := Aside0.mk H
           clear H
           have p8 : 0 ≤ (x5_1 : Int) := of_decide_eq_true (by first | (with_reducible assumption) | assumption)
           have q8 : x5_1 < (a0.size : Int) := of_decide_eq_true (by first | (with_reducible assumption) | assumption)
           have hx8 := bt_at a0 x5_1
           replace p8 := eq_true p8
           replace q8 := eq_true q8
           have p10 : 0 ≤ (x5_1 : Int) := of_decide_eq_true (by first | (with_reducible assumption) | assumption)
           have q10 : x5_1 < (a1.size : Int) := of_decide_eq_true (by first | (with_reducible assumption) | assumption)
           have hx10 := bt_at a1 x5_1
           replace p10 := eq_true p10
           replace q10 := eq_true q10
           have p12 : 0 ≤ (x5_1 : Int) := of_decide_eq_true (by first | (with_reducible assumption) | assumption)
           have q12 : x5_1 < (a0.size : Int) := of_decide_eq_true (by first | (with_reducible assumption) | assumption)
           have hx12 := bt_at a0 x5_1
           replace p12 := eq_true p12
           replace q12 := eq_true q12
           have p13 : 0 ≤ (x5_1 : Int) := of_decide_eq_true (by first | (with_reducible assumption) | assumption)
           have q13 : x5_1 < (a1.size : Int) := of_decide_eq_true (by first | (with_reducible assumption) | assumption)
           have hx13 := bt_at a1 x5_1
           replace p13 := eq_true p13
           replace q13 := eq_true q13
           go_wp2
           repeat (go_quiet (fail); try go_wp2)
           go_roundg kj2
           case measure => have := HK1.out; have := HJ2.out; omega
           case rel => exact ⟨(wrap64 (x5_1 + 1)), (by first | rfl | (simp; done) | (simp [*]; done)), H', ⟨by have := HK1.out; have := HJ2.out; omega⟩, by repeat (first | exact Drawn0.refl _ | apply Drawn0.step)⟩
        ·rw [if_neg c9] at H
         exact absurd H (by simp)
       ·rw [if_neg c7] at H
        exact absurd H (by simp)
      ·rw [if_neg c6] at H
       exact absurd H (by simp)
     ·replace c5 := Bool.eq_false_iff.mpr c5
      subst c5
      have H1 : (if (a0.size : Int) < (a1.size : Int) then (some (-1)) else (if (a0.size : Int) > (a1.size : Int) then (some 1) else (some 0))) = some r := by rw [if_neg (show ¬ (false = true) by decide)] at H; exact H
      clear H
      have H := H1
      clear H1
      by_cases c15 : (a0.size : Int) < (a1.size : Int)
      ·rw [if_pos c15] at H
       have c15b0 : decide ((a0.size : Int) < (a1.size : Int)) = true := decide_eq_true c15
       have c15b1 : decide (a0.size < a1.size) = true := decide_eq_true (Int.ofNat_lt.mp c15)
       clear c15
       obtain rfl := Option.some.inj H
       go_wp2
       repeat (go_quiet (fail); try go_wp2)
       go_ret
       exact ⟨by first | rfl | (simp; done) | (simp [*]; done), by repeat (first | exact Drawn0.refl _ | apply Drawn0.step)⟩
      ·rw [if_neg c15] at H
       have c15b0 : decide ((a0.size : Int) < (a1.size : Int)) = false := decide_eq_false c15
       have c15b1 : decide (a0.size < a1.size) = false := decide_eq_false (fun h => c15 (Int.ofNat_lt.mpr h))
       clear c15
       by_cases c16 : (a0.size : Int) > (a1.size : Int)
       ·rw [if_pos c16] at H
        have c16b0 : decide ((a1.size : Int) < (a0.size : Int)) = true := decide_eq_true c16
        have c16b1 : decide (a1.size < a0.size) = true := decide_eq_true (Int.ofNat_lt.mp c16)
        clear c16
        obtain rfl := Option.some.inj H
        go_wp2
        repeat (go_quiet (fail); try go_wp2)
        go_ret
        exact ⟨by first | rfl | (simp; done) | (simp [*]; done), by repeat (first | exact Drawn0.refl _ | apply Drawn0.step)⟩
       ·rw [if_neg c16] at H
        have c16b0 : decide ((a1.size : Int) < (a0.size : Int)) = false := decide_eq_false c16
        have c16b1 : decide (a1.size < a0.size) = false := decide_eq_false (fun h => c16 (Int.ofNat_lt.mpr h))
        clear c16
        obtain rfl := Option.some.inj H
        go_wp2
        repeat (go_quiet (fail); try go_wp2)
        go_ret
        exact ⟨by first | rfl | (simp; done) | (simp [*]; done), by repeat (first | exact Drawn0.refl _ | apply Drawn0.step)⟩

end Go.Proofs.YtidcecpbihmloaaGreatDoor.P16

namespace Go.Proofs.YtidcecpbihmloaaGreatDoor.P16
open Go.RowKit Go.Proofs.YtidcecpbihmloaaGreatDoorE Go.Proofs.YtidcecpbihmloaaGreatDoorW.PrintWords Go.Proofs.YtidcecpbihmloaaGreatDoorW.PrintLast Go.Proofs.YtidcecpbihmloaaGreatDoorW.PrintMore
attribute [local go_sem] max2_int min2_int max_two min_two max_three min_three max_four min_four   -- for this text's walks alone
set_option linter.unusedVariables false
set_option linter.unusedSimpArgs false

def tendrilref02_inner.f (a0 : Int) (a1 : Bool) : Option (Bool) := if a0 ≥ 97 then (if a0 ≤ 122 then (some true) else (if a0 ≥ 48 then (if a0 ≤ 57 then (some true) else (if a0 = 45 then (some true) else (if a1 = true then (if a0 = 58 then (some true) else (some (a0 == 46))) else (some false)))) else (if a0 = 45 then (some true) else (if a1 = true then (if a0 = 58 then (some true) else (some (a0 == 46))) else (some false))))) else (if a0 ≥ 48 then (if a0 ≤ 57 then (some true) else (if a0 = 45 then (some true) else (if a1 = true then (if a0 = 58 then (some true) else (some (a0 == 46))) else (some false)))) else (if a0 = 45 then (some true) else (if a1 = true then (if a0 = 58 then (some true) else (some (a0 == 46))) else (some false))))
set_option maxHeartbeats 8000000 in
set_option maxRecDepth 100000 in
theorem tendrilref02_inner.calls (a0 : Int) (a1 : Bool) (r : Bool) (w : World) (hgl : Go.Proofs.YtidcecpbihmloaaGreatDoorX.GL w) (h : tendrilref02_inner.f a0 a1 = some r) :
  Calls Tryz.prog 64 #[.int .u8 a0, .bool a1] w fun e w' => e = .returned (.bool r) ∧ Drawn0 w w' := by
 have HGL := Aside0.mk hgl
 clear hgl
 have H : (if a0 ≥ 97 then (if a0 ≤ 122 then (some true) else (if a0 ≥ 48 then (if a0 ≤ 57 then (some true) else (if a0 = 45 then (some true) else (if a1 = true then (if a0 = 58 then (some true) else (some (a0 == 46))) else (some false)))) else (if a0 = 45 then (some true) else (if a1 = true then (if a0 = 58 then (some true) else (some (a0 == 46))) else (some false))))) else (if a0 ≥ 48 then (if a0 ≤ 57 then (some true) else (if a0 = 45 then (some true) else (if a1 = true then (if a0 = 58 then (some true) else (some (a0 == 46))) else (some false)))) else (if a0 = 45 then (some true) else (if a1 = true then (if a0 = 58 then (some true) else (some (a0 == 46))) else (some false))))) = some r := h
 clear h
 by_cases c3 : a0 ≥ 97
 ·rw [if_pos c3] at H
  have c3b0 : decide (97 ≤ a0) = true := decide_eq_true c3
  clear c3
  by_cases c4 : a0 ≤ 122
  ·rw [if_pos c4] at H
   have c4b0 : decide (a0 ≤ 122) = true := decide_eq_true c4
   clear c4
   obtain rfl := Option.some.inj H
   go_enter Tryz.func64, Tryz.ntmps64
   go_wp2
   go_ret
   exact ⟨by first | rfl | (simp; done) | (simp [*]; done), by repeat (first | exact Drawn0.refl _ | apply Drawn0.step)⟩
  ·rw [if_neg c4] at H
   have c4b0 : decide (a0 ≤ 122) = false := decide_eq_false c4
   clear c4
   by_cases c5 : a0 ≥ 48
   ·rw [if_pos c5] at H
    have c5b0 : decide (48 ≤ a0) = true := decide_eq_true c5
    clear c5
    by_cases c6 : a0 ≤ 57
    ·rw [if_pos c6] at H
     have c6b0 : decide (a0 ≤ 57) = true := decide_eq_true c6
     clear c6
     obtain rfl := Option.some.inj H
     go_enter Tryz.func64, Tryz.ntmps64
     go_wp2
     go_ret
     exact ⟨by first | rfl | (simp; done) | (simp [*]; done), by repeat (first | exact Drawn0.refl _ | apply Drawn0.step)⟩
    ·rw [if_neg c6] at H
     have c6b0 : decide (a0 ≤ 57) = false := decide_eq_false c6
     clear c6
     by_cases c7 : a0 = 45
     ·rw [if_pos c7] at H
      have c7b0 : (a0 == 45) = true := beq_iff_eq.mpr c7
      have c7b1 : (a0 != 45) = false := bne_eq_false_iff_eq.mpr c7
      clear c7
      obtain rfl := Option.some.inj H
      go_enter Tryz.func64, Tryz.ntmps64
      go_wp2
      go_ret
      exact ⟨by first | rfl | (simp; done) | (simp [*]; done), by repeat (first | exact Drawn0.refl _ | apply Drawn0.step)⟩
     ·rw [if_neg c7] at H
      have c7b0 : (a0 == 45) = false := beq_eq_false_iff_ne.mpr c7
      have c7b1 : (a0 != 45) = true := bne_iff_ne.mpr c7
      by_cases c8 : a1 = true
      ·subst c8
       have H1 : (if a0 = 58 then (some true) else (some (a0 == 46))) = some r := by rw [if_pos rfl] at H; exact H
       clear H
       have H := H1
       clear H1
       by_cases c9 : a0 = 58
       ·rw [if_pos c9] at H
        have c9b0 : (a0 == 58) = true := beq_iff_eq.mpr c9
        have c9b1 : (a0 != 58) = false := bne_eq_false_iff_eq.mpr c9
        clear c9
        obtain rfl := Option.some.inj H
        go_enter Tryz.func64, Tryz.ntmps64
        go_wp2
        go_ret
        exact ⟨by first | rfl | (simp; done) | (simp [*]; done), by repeat (first | exact Drawn0.refl _ | apply Drawn0.step)⟩
       ·rw [if_neg c9] at H
        have c9b0 : (a0 == 58) = false := beq_eq_false_iff_ne.mpr c9
        have c9b1 : (a0 != 58) = true := bne_iff_ne.mpr c9
        obtain rfl := Option.some.inj H
        go_enter Tryz.func64, Tryz.ntmps64
        go_wp2
        go_ret
        exact ⟨by first | rfl | (simp; done) | (simp [*]; done), by repeat (first | exact Drawn0.refl _ | apply Drawn0.step)⟩
      ·replace c8 := Bool.eq_false_iff.mpr c8
       subst c8
       have H1 : (some false) = some r := by rw [if_neg (show ¬ (false = true) by decide)] at H; exact H
       clear H
       have H := H1
       clear H1
       obtain rfl := Option.some.inj H
       go_enter Tryz.func64, Tryz.ntmps64
       go_wp2
       go_ret
       exact ⟨by first | rfl | (simp; done) | (simp [*]; done), by repeat (first | exact Drawn0.refl _ | apply Drawn0.step)⟩
   ·rw [if_neg c5] at H
    have c5b0 : decide (48 ≤ a0) = false := decide_eq_false c5
    clear c5
    by_cases c10 : a0 = 45
    ·rw [if_pos c10] at H
     have c10b0 : (a0 == 45) = true := beq_iff_eq.mpr c10
     have c10b1 : (a0 != 45) = false := bne_eq_false_iff_eq.mpr c10
     clear c10
     obtain rfl := Option.some.inj H
     go_enter Tryz.func64, Tryz.ntmps64
     go_wp2
     go_ret
     exact ⟨by first | rfl | (simp; done) | (simp [*]; done), by repeat (first | exact Drawn0.refl _ | apply Drawn0.step)⟩
    ·rw [if_neg c10] at H
     have c10b0 : (a0 == 45) = false := beq_eq_false_iff_ne.mpr c10
     have c10b1 : (a0 != 45) = true := bne_iff_ne.mpr c10
     by_cases c11 : a1 = true
     ·subst c11
      have H1 : (if a0 = 58 then (some true) else (some (a0 == 46))) = some r := by rw [if_pos rfl] at H; exact H
      clear H
      have H := H1
      clear H1
      by_cases c12 : a0 = 58
      ·rw [if_pos c12] at H
       have c12b0 : (a0 == 58) = true := beq_iff_eq.mpr c12
       have c12b1 : (a0 != 58) = false := bne_eq_false_iff_eq.mpr c12
       clear c12
       obtain rfl := Option.some.inj H
       go_enter Tryz.func64, Tryz.ntmps64
       go_wp2
       go_ret
       exact ⟨by first | rfl | (simp; done) | (simp [*]; done), by repeat (first | exact Drawn0.refl _ | apply Drawn0.step)⟩
      ·rw [if_neg c12] at H
       have c12b0 : (a0 == 58) = false := beq_eq_false_iff_ne.mpr c12
       have c12b1 : (a0 != 58) = true := bne_iff_ne.mpr c12
       obtain rfl := Option.some.inj H
       go_enter Tryz.func64, Tryz.ntmps64
       go_wp2
       go_ret
       exact ⟨by first | rfl | (simp; done) | (simp [*]; done), by repeat (first | exact Drawn0.refl _ | apply Drawn0.step)⟩
     ·replace c11 := Bool.eq_false_iff.mpr c11
      subst c11
      have H1 : (some false) = some r := by rw [if_neg (show ¬ (false = true) by decide)] at H; exact H
      clear H
      have H := H1
      clear H1
      obtain rfl := Option.some.inj H
      go_enter Tryz.func64, Tryz.ntmps64
      go_wp2
      go_ret
      exact ⟨by first | rfl | (simp; done) | (simp [*]; done), by repeat (first | exact Drawn0.refl _ | apply Drawn0.step)⟩
 ·rw [if_neg c3] at H
  have c3b0 : decide (97 ≤ a0) = false := decide_eq_false c3
  clear c3
  by_cases c13 : a0 ≥ 48
  ·rw [if_pos c13] at H
   have c13b0 : decide (48 ≤ a0) = true := decide_eq_true c13
   clear c13
   by_cases c14 : a0 ≤ 57
   ·rw [if_pos c14] at H
    have c14b0 : decide (a0 ≤ 57) = true := decide_eq_true c14
    clear c14
    obtain rfl := Option.some.inj H
    go_enter Tryz.func64, Tryz.ntmps64
    go_wp2
    go_ret
    exact ⟨by first | rfl | (simp; done) | (simp [*]; done), by repeat (first | exact Drawn0.refl _ | apply Drawn0.step)⟩
   ·rw [if_neg c14] at H
    have c14b0 : decide (a0 ≤ 57) = false := decide_eq_false c14
    clear c14
    by_cases c15 : a0 = 45
    ·rw [if_pos c15] at H
     have c15b0 : (a0 == 45) = true := beq_iff_eq.mpr c15
     have c15b1 : (a0 != 45) = false := bne_eq_false_iff_eq.mpr c15
     clear c15
     obtain rfl := Option.some.inj H
     go_enter Tryz.func64, Tryz.ntmps64
     go_wp2
     go_ret
     exact ⟨by first | rfl | (simp; done) | (simp [*]; done), by repeat (first | exact Drawn0.refl _ | apply Drawn0.step)⟩
    ·rw [if_neg c15] at H
     have c15b0 : (a0 == 45) = false := beq_eq_false_iff_ne.mpr c15
     have c15b1 : (a0 != 45) = true := bne_iff_ne.mpr c15
     by_cases c16 : a1 = true
     ·subst c16
      have H1 : (if a0 = 58 then (some true) else (some (a0 == 46))) = some r := by rw [if_pos rfl] at H; exact H
      clear H
      have H := H1
      clear H1
      by_cases c17 : a0 = 58
      ·rw [if_pos c17] at H
       have c17b0 : (a0 == 58) = true := beq_iff_eq.mpr c17
       have c17b1 : (a0 != 58) = false := bne_eq_false_iff_eq.mpr c17
       clear c17
       obtain rfl := Option.some.inj H
       go_enter Tryz.func64, Tryz.ntmps64
       go_wp2
       go_ret
       exact ⟨by first | rfl | (simp; done) | (simp [*]; done), by repeat (first | exact Drawn0.refl _ | apply Drawn0.step)⟩
      ·rw [if_neg c17] at H
       have c17b0 : (a0 == 58) = false := beq_eq_false_iff_ne.mpr c17
       have c17b1 : (a0 != 58) = true := bne_iff_ne.mpr c17
       obtain rfl := Option.some.inj H
       go_enter Tryz.func64, Tryz.ntmps64
       go_wp2
       go_ret
       exact ⟨by first | rfl | (simp; done) | (simp [*]; done), by repeat (first | exact Drawn0.refl _ | apply Drawn0.step)⟩
     ·replace c16 := Bool.eq_false_iff.mpr c16
      subst c16
      have H1 : (some false) = some r := by rw [if_neg (show ¬ (false = true) by decide)] at H; exact H
      clear H
      have H := H1
      clear H1
      obtain rfl := Option.some.inj H
      go_enter Tryz.func64, Tryz.ntmps64
      go_wp2
      go_ret
      exact ⟨by first | rfl | (simp; done) | (simp [*]; done), by repeat (first | exact Drawn0.refl _ | apply Drawn0.step)⟩
  ·rw [if_neg c13] at H
   have c13b0 : decide (48 ≤ a0) = false := decide_eq_false c13
   clear c13
   by_cases c18 : a0 = 45
   ·rw [if_pos c18] at H
    have c18b0 : (a0 == 45) = true := beq_iff_eq.mpr c18
    have c18b1 : (a0 != 45) = false := bne_eq_false_iff_eq.mpr c18
    clear c18
    obtain rfl := Option.some.inj H
    go_enter Tryz.func64, Tryz.ntmps64
    go_wp2
    go_ret
    exact ⟨by first | rfl | (simp; done) | (simp [*]; done), by repeat (first | exact Drawn0.refl _ | apply Drawn0.step)⟩
   ·rw [if_neg c18] at H
    have c18b0 : (a0 == 45) = false := beq_eq_false_iff_ne.mpr c18
    have c18b1 : (a0 != 45) = true := bne_iff_ne.mpr c18
    by_cases c19 : a1 = true
    ·subst c19
     have H1 : (if a0 = 58 then (some true) else (some (a0 == 46))) = some r := by rw [if_pos rfl] at H; exact H
     clear H
     have H := H1
     clear H1
     by_cases c20 : a0 = 58
     ·rw [if_pos c20] at H
      have c20b0 : (a0 == 58) = true := beq_iff_eq.mpr c20
      have c20b1 : (a0 != 58) = false := bne_eq_false_iff_eq.mpr c20
      clear c20
      obtain rfl := Option.some.inj H
      go_enter Tryz.func64, Tryz.ntmps64
      go_wp2
      go_ret
      exact ⟨by first | rfl | (simp; done) | (simp [*]; done), by repeat (first | exact Drawn0.refl _ | apply Drawn0.step)⟩
     ·rw [if_neg c20] at H
      have c20b0 : (a0 == 58) = false := beq_eq_false_iff_ne.mpr c20
      have c20b1 : (a0 != 58) = true := bne_iff_ne.mpr c20
      obtain rfl := Option.some.inj H
      go_enter Tryz.func64, Tryz.ntmps64
      go_wp2
      go_ret
      exact ⟨by first | rfl | (simp; done) | (simp [*]; done), by repeat (first | exact Drawn0.refl _ | apply Drawn0.step)⟩
    ·replace c19 := Bool.eq_false_iff.mpr c19
     subst c19
     have H1 : (some false) = some r := by rw [if_neg (show ¬ (false = true) by decide)] at H; exact H
     clear H
     have H := H1
     clear H1
     obtain rfl := Option.some.inj H
     go_enter Tryz.func64, Tryz.ntmps64
     go_wp2
     go_ret
     exact ⟨by first | rfl | (simp; done) | (simp [*]; done), by repeat (first | exact Drawn0.refl _ | apply Drawn0.step)⟩

mutual
def tendrilref02_Named.j0 : Nat → ByteArray → Bool → Bool → Option (Bool)
 | 0, _, _, _ => none
 | k + 1, x0, x1, x23 => if x23 = true then (some false) else (tendrilref02_Named.l0 k x0 x1 1)
def tendrilref02_Named.l0 : Nat → ByteArray → Bool → Int → Option (Bool)
 | 0, _, _, _ => none
 | k + 1, x0, x1, x5 => if x5 < (x0.size : Int) then (if 0 ≤ x5 then ((tendrilref02_inner.f (bt x0 x5) x1).bind fun t111 => (if t111 = true then (tendrilref02_Named.l0 k x0 x1 (wrap64 (x5 + 1))) else (some false))) else (none)) else (some true)
end
def tendrilref02_Named.f (k : Nat) (a0 : ByteArray) (a1 : Bool) : Option (Bool) := if (a0.size : Int) < 1 then (tendrilref02_Named.j0 k a0 a1 true) else (if (a0.size : Int) > 32 then (tendrilref02_Named.j0 k a0 a1 true) else (if 0 < (a0.size : Int) then (if (bt a0 0) < 97 then (tendrilref02_Named.j0 k a0 a1 true) else (tendrilref02_Named.j0 k a0 a1 (decide ((bt a0 0) > 122)))) else (none)))
theorem tendrilref02_Named.mono_l : ∀ k, (∀ y0 y1 y2, LeO (tendrilref02_Named.j0 k y0 y1 y2) (tendrilref02_Named.j0 (k + 1) y0 y1 y2)) ∧ (∀ y0 y1 y2, LeO (tendrilref02_Named.l0 k y0 y1 y2) (tendrilref02_Named.l0 (k + 1) y0 y1 y2))
 | 0 => ⟨fun _ _ _ r h => by simp [tendrilref02_Named.j0] at h, fun _ _ _ r h => by simp [tendrilref02_Named.l0] at h⟩
 | k + 1 => by
  obtain ⟨ih0, ih1⟩ := tendrilref02_Named.mono_l k
  refine ⟨?_, ?_⟩
  ·intro y0 y1 y2
   unfold tendrilref02_Named.j0
   repeat' first
   |(with_reducible exact ih0 _ _ _)
   |(with_reducible exact ih1 _ _ _)
   |(with_reducible exact LeO.refl _)
   |(with_reducible exact LeO.none _)
   |(with_reducible refine LeO.ite ?_ ?_)
   | (with_reducible refine LeO.bind ?_ (fun _ => ?_))
   | exact ih0 _ _ _
   | exact ih1 _ _ _
   | exact LeO.none _
   | refine LeO.ite ?_ ?_
   | refine LeO.bind ?_ (fun _ => ?_)
  ·intro y0 y1 y2
   unfold tendrilref02_Named.l0
   repeat' first
   |(with_reducible exact ih0 _ _ _)
   |(with_reducible exact ih1 _ _ _)
   |(with_reducible exact LeO.refl _)
   |(with_reducible exact LeO.none _)
   |(with_reducible refine LeO.ite ?_ ?_)
   | (with_reducible refine LeO.bind ?_ (fun _ => ?_))
   | exact ih0 _ _ _
   | exact ih1 _ _ _
   | exact LeO.none _
   | refine LeO.ite ?_ ?_
   | refine LeO.bind ?_ (fun _ => ?_)
theorem tendrilref02_Named.mono : ∀ a0 a1 k, LeO (tendrilref02_Named.f k a0 a1) (tendrilref02_Named.f (k + 1) a0 a1) := by
 intro a0 a1 k
 obtain ⟨ih0, ih1⟩ := tendrilref02_Named.mono_l k
 unfold tendrilref02_Named.f
 repeat' first
   |(with_reducible exact ih0 _ _ _)
   |(with_reducible exact ih1 _ _ _)
   |(with_reducible exact LeO.refl _)
   |(with_reducible exact LeO.none _)
   |(with_reducible refine LeO.ite ?_ ?_)
   | (with_reducible refine LeO.bind ?_ (fun _ => ?_))
   | exact ih0 _ _ _
   | exact ih1 _ _ _
   | exact LeO.none _
   | refine LeO.ite ?_ ?_
   | refine LeO.bind ?_ (fun _ => ?_)
set_option maxHeartbeats 8000000 in
set_option maxRecDepth 100000 in
theorem tendrilref02_Named.calls (k : Nat) (a0 : ByteArray) (a1 : Bool) (r : Bool) (w : World) (hgl : Go.Proofs.YtidcecpbihmloaaGreatDoorX.GL w) (h : tendrilref02_Named.f k a0 a1 = some r) :
  Calls Tryz.prog 40 #[.string a0, .bool a1] w fun e w' => e = .returned (.bool r) ∧ Drawn0 w w' := by
 have HGL := Aside0.mk hgl
 clear hgl
 have H : (if (a0.size : Int) < 1 then (tendrilref02_Named.j0 k a0 a1 true) else (if (a0.size : Int) > 32 then (tendrilref02_Named.j0 k a0 a1 true) else (if 0 < (a0.size : Int) then (if (bt a0 0) < 97 then (tendrilref02_Named.j0 k a0 a1 true) else (tendrilref02_Named.j0 k a0 a1 (decide ((bt a0 0) > 122)))) else (none)))) = some r := h
 clear h
 have HC3 := Aside0.mk H
 clear H
 go_enter Tryz.func40, Tryz.ntmps40
 go_upto_region 1 with (fail)
 go_cut [23] (fun v23 wc => ∃ (kq : Nat) (x23_2 : Bool), v23 = .bool x23_2 ∧ Aside0 (tendrilref02_Named.j0 kq a0 a1 x23_2 = some r) ∧ Aside0 (kq ≤ k) ∧ Drawn0 w wc)
 case first =>
  have H := HC3.out
  clear HC3
  by_cases c4 : (a0.size : Int) < 1
  ·rw [if_pos c4] at H
   have c4b0 : decide ((a0.size : Int) < 1) = true := decide_eq_true c4
   have c4b1 : decide (a0.size < 1) = true := decide_eq_true (by omega)
   clear c4
   (first | rw [c4b0] | (simp only [i64_w, i32_w]; rw [c4b0]) | skip)
   have H' := Aside0.mk H
   clear H
   go_wp2
   go_meet
   case rel => exact ⟨_, (true), (by first | rfl | (simp; done) | (simp [*]; done)), H', ⟨by first | omega | exact Nat.le_refl _⟩, by repeat (first | exact Drawn0.refl _ | apply Drawn0.step)⟩
  ·rw [if_neg c4] at H
   have c4b0 : decide ((a0.size : Int) < 1) = false := decide_eq_false c4
   have c4b1 : decide (a0.size < 1) = false := decide_eq_false (by omega)
   clear c4
   (first | rw [c4b0] | (simp only [i64_w, i32_w]; rw [c4b0]) | skip)
   by_cases c5 : (a0.size : Int) > 32
   ·rw [if_pos c5] at H
    have c5b0 : decide (32 < (a0.size : Int)) = true := decide_eq_true c5
    have c5b1 : decide (32 < a0.size) = true := decide_eq_true (by omega)
    clear c5
    have H' := Aside0.mk H
    clear H
    go_wp2
    go_meet
    case rel => exact ⟨_, (true), (by first | rfl | (simp; done) | (simp [*]; done)), H', ⟨by first | omega | exact Nat.le_refl _⟩, by repeat (first | exact Drawn0.refl _ | apply Drawn0.step)⟩
   ·rw [if_neg c5] at H
    have c5b0 : decide (32 < (a0.size : Int)) = false := decide_eq_false c5
    have c5b1 : decide (32 < a0.size) = false := decide_eq_false (by omega)
    clear c5
    by_cases c6 : 0 < (a0.size : Int)
    ·rw [if_pos c6] at H
     have c6b0 : decide (0 < (a0.size : Int)) = true := decide_eq_true c6
     have c6b1 : decide (0 < a0.size) = true := decide_eq_true (by omega)
     clear c6
     by_cases c8 : (bt a0 0) < 97
     ·rw [if_pos c8] at H
      have c8b0 : decide ((bt a0 0) < 97) = true := decide_eq_true c8
      clear c8
      have H' := Aside0.mk H
      clear H
      have p7 : 0 ≤ (0 : Int) := (by omega)
      have q7 : 0 < a0.size := (by have : (0 : Int) < (a0.size : Int) := of_decide_eq_true (by first | (with_reducible assumption) | assumption); omega)
      have hx7 : ∀ h : 0 < a0.size, ((a0[0]'h).toNat : Int) = bt a0 0 := bt_at a0 0
      clear p7
      have qi7 : (0 < (a0.size : Int)) = True := eq_true (of_decide_eq_true (by first | (with_reducible assumption) | assumption))
      replace q7 := eq_true q7
      go_wp2
      go_meet
      case rel => exact ⟨_, (true), (by first | rfl | (simp; done) | (simp [*]; done)), H', ⟨by first | omega | exact Nat.le_refl _⟩, by repeat (first | exact Drawn0.refl _ | apply Drawn0.step)⟩
     ·rw [if_neg c8] at H
      have c8b0 : decide ((bt a0 0) < 97) = false := decide_eq_false c8
      clear c8
      have H' := Aside0.mk H
      clear H
      have p7 : 0 ≤ (0 : Int) := (by omega)
      have q7 : 0 < a0.size := (by have : (0 : Int) < (a0.size : Int) := of_decide_eq_true (by first | (with_reducible assumption) | assumption); omega)
      have hx7 : ∀ h : 0 < a0.size, ((a0[0]'h).toNat : Int) = bt a0 0 := bt_at a0 0
      clear p7
      have qi7 : (0 < (a0.size : Int)) = True := eq_true (of_decide_eq_true (by first | (with_reducible assumption) | assumption))
      replace q7 := eq_true q7
      have p9 : 0 ≤ (0 : Int) := (by omega)
      have q9 : 0 < a0.size := (by have : (0 : Int) < (a0.size : Int) := of_decide_eq_true (by first | (with_reducible assumption) | assumption); omega)
      have hx9 : ∀ h : 0 < a0.size, ((a0[0]'h).toNat : Int) = bt a0 0 := bt_at a0 0
      clear p9
      have qi9 : (0 < (a0.size : Int)) = True := eq_true (of_decide_eq_true (by first | (with_reducible assumption) | assumption))
      replace q9 := eq_true q9
      go_wp2
      go_meet
      case rel => exact ⟨_, (decide ((bt a0 0) > 122)), (by first | rfl | (simp; done) | (simp [*]; done)), H', ⟨by first | omega | exact Nat.le_refl _⟩, by repeat (first | exact Drawn0.refl _ | apply Drawn0.step)⟩
    ·rw [if_neg c6] at H
     exact absurd H (by simp)
 case rest =>
  clear HC3
  try clear p2
  try clear c4
  try clear c4b0
  try clear c4b1
  try clear c5
  try clear c5b0
  try clear c5b1
  try clear c6
  try clear c6b0
  try clear c6b1
  try clear p7
  try clear q7
  try clear hx7
  try clear qi7
  try clear c8
  try clear c8b0
  try clear p9
  try clear q9
  try clear hx9
  try clear qi9
  try clear p7
  try clear p9
  try clear q7
  try clear q9
  obtain ⟨kq, x23_2, rfl, HA, HJ2, ⟨mc2, rfl⟩⟩ := hcut
  cases kq with
  | zero => exact absurd HA.out (by simp [tendrilref02_Named.j0])
  | succ kj2 =>
   have H := HA.out
   clear HA
   simp only [tendrilref02_Named.j0] at H
   by_cases c10 : x23_2 = true
   ·subst c10
    have H1 : (some false) = some r := by rw [if_pos rfl] at H; exact H
    clear H
    have H := H1
    clear H1
    obtain rfl := Option.some.inj H
    go_wp2
    go_ret
    exact ⟨by first | rfl | (simp; done) | (simp [*]; done), by repeat (first | exact Drawn0.refl _ | apply Drawn0.step)⟩
   ·replace c10 := Bool.eq_false_iff.mpr c10
    subst c10
    have H1 : (tendrilref02_Named.l0 kj2 a0 a1 1) = some r := by rw [if_neg (show ¬ (false = true) by decide)] at H; exact H
    clear H
    have H := H1
    clear H1
    have H' := Aside0.mk H
    clear H
    go_wp2
    go_loopg [5] kj2 (fun kq v5 w' => ∃ (x5_2 : Int), v5 = .int .i64 x5_2 ∧ Aside0 (tendrilref02_Named.l0 kq a0 a1 x5_2 = some r) ∧ Aside0 (kq ≤ kj2) ∧ Drawn0 w w')
    case atStart => exact ⟨(1), (by first | rfl | (simp; done) | (simp [*]; done)), H', ⟨Nat.le_refl _⟩, by repeat (first | exact Drawn0.refl _ | apply Drawn0.step)⟩
    case round =>
     clear H'
     try clear c1
     try clear c2
     try clear p2
     try clear c4
     try clear c4b0
     try clear c4b1
     try clear c5
     try clear c5b0
     try clear c5b1
     try clear c6
     try clear c6b0
     try clear c6b1
     try clear p7
     try clear q7
     try clear hx7
     try clear qi7
     try clear c8
     try clear c8b0
     try clear p9
     try clear q9
     try clear hx9
     try clear qi9
     try clear c10
     try clear p2
     try clear p7
     try clear p9
     try clear q7
     try clear q9
     obtain ⟨x5_2, rfl, HA, HK2, ⟨m2, rfl⟩⟩ := hrel
     cases gk with
     | zero => exact absurd HA.out (by simp [tendrilref02_Named.l0])
     | succ k2 =>
      have H := HA.out
      clear HA
      simp only [tendrilref02_Named.l0] at H
      by_cases c11 : x5_2 < (a0.size : Int)
      ·rw [if_pos c11] at H
       have c11b0 : decide (x5_2 < (a0.size : Int)) = true := decide_eq_true c11
       clear c11
       by_cases c12 : 0 ≤ x5_2
       ·rw [if_pos c12] at H
        have c12b0 : decide (0 ≤ x5_2) = true := decide_eq_true c12
        clear c12
        replace H := Option.bind_eq_some_iff.mp H
        obtain ⟨t111, A140, H⟩ := H
        replace H : (if t111 = true then (tendrilref02_Named.l0 k2 a0 a1 (wrap64 (x5_2 + 1))) else (some false)) = some r := H
        have A14 := Aside0.mk A140
        clear A140
        by_cases c15 : t111 = true
        ·subst c15
         have H1 : (tendrilref02_Named.l0 k2 a0 a1 (wrap64 (x5_2 + 1))) = some r := by rw [if_pos rfl] at H; exact H
         clear H
         have H := H1
         clear H1
         have H' := Aside0.mk H
         clear H
         have p13 : 0 ≤ (x5_2 : Int) := of_decide_eq_true (by first | (with_reducible assumption) | assumption)
         have q13 : x5_2 < (a0.size : Int) := of_decide_eq_true (by first | (with_reducible assumption) | assumption)
         have hx13 := bt_at a0 x5_2
         replace p13 := eq_true p13
         replace q13 := eq_true q13
         go_wp2_with (first | ((with_reducible refine gate_callee (f := 64) rfl ?_); refine goesL_ (some 34) rfl rfl Tryz.func64 (by kernel_rfl) rfl #[.int .u8 (bt a0 x5_2), .bool a1] rfl (by (try simp only [List.map_toArray, List.map_cons, List.map_nil]); first | done | rfl | (simp only [List.length_drop, List.length_take]; rfl)) ?_; (with_reducible refine (tendrilref02_inner.calls (bt a0 x5_2) a1 true _ ?side1 A14.out).mono ?_); (case side1 => first | exact HGL.out | (repeat (first | exact HGL.out | (with_reducible refine Go.Proofs.YtidcecpbihmloaaGreatDoorX.GL.drewN ?_ _) | (with_reducible refine Go.Proofs.YtidcecpbihmloaaGreatDoorX.GL.drew ?_)))); rintro e w' ⟨rfl, ⟨nd, rfl⟩⟩; refine ⟨_, rfl, ?_⟩))
         go_roundg k2
         case measure => have := HJ2.out; have := HK2.out; omega
         case rel => exact ⟨(wrap64 (x5_2 + 1)), (by first | rfl | (simp; done) | (simp [*]; done)), H', ⟨by have := HJ2.out; have := HK2.out; omega⟩, by repeat (first | exact Drawn0.refl _ | apply Drawn0.step)⟩
        ·replace c15 := Bool.eq_false_iff.mpr c15
         subst c15
         have H1 : (some false) = some r := by rw [if_neg (show ¬ (false = true) by decide)] at H; exact H
         clear H
         have H := H1
         clear H1
         obtain rfl := Option.some.inj H
         have p13 : 0 ≤ (x5_2 : Int) := of_decide_eq_true (by first | (with_reducible assumption) | assumption)
         have q13 : x5_2 < (a0.size : Int) := of_decide_eq_true (by first | (with_reducible assumption) | assumption)
         have hx13 := bt_at a0 x5_2
         replace p13 := eq_true p13
         replace q13 := eq_true q13
         go_wp2_with (first | ((with_reducible refine gate_callee (f := 64) rfl ?_); refine goesL_ (some 34) rfl rfl Tryz.func64 (by kernel_rfl) rfl #[.int .u8 (bt a0 x5_2), .bool a1] rfl (by (try simp only [List.map_toArray, List.map_cons, List.map_nil]); first | done | rfl | (simp only [List.length_drop, List.length_take]; rfl)) ?_; (with_reducible refine (tendrilref02_inner.calls (bt a0 x5_2) a1 false _ ?side1 A14.out).mono ?_); (case side1 => first | exact HGL.out | (repeat (first | exact HGL.out | (with_reducible refine Go.Proofs.YtidcecpbihmloaaGreatDoorX.GL.drewN ?_ _) | (with_reducible refine Go.Proofs.YtidcecpbihmloaaGreatDoorX.GL.drew ?_)))); rintro e w' ⟨rfl, ⟨nd, rfl⟩⟩; refine ⟨_, rfl, ?_⟩))
         go_ret
         exact ⟨by first | rfl | (simp; done) | (simp [*]; done), by repeat (first | exact Drawn0.refl _ | apply Drawn0.step)⟩
       ·rw [if_neg c12] at H
        exact absurd H (by simp)
      ·rw [if_neg c11] at H
       have c11b0 : decide (x5_2 < (a0.size : Int)) = false := decide_eq_false c11
       clear c11
       obtain rfl := Option.some.inj H
       go_wp2
       go_ret
       exact ⟨by first | rfl | (simp; done) | (simp [*]; done), by repeat (first | exact Drawn0.refl _ | apply Drawn0.step)⟩

/-- THE ONE PURE STATEMENT of tendrilref02_Named: yours. -/
def tendrilref02_Named.Pure : Prop := ∀ (a0 : ByteArray) (a1 : Bool), a0.size ≤ 140737488351232 → ∃ k, tendrilref02_Named.f k a0 a1 = some true
theorem tendrilref02_Named.walk (P : tendrilref02_Named.Pure) (a0 : ByteArray) (a1 : Bool) (w : World) (hgl : Go.Proofs.YtidcecpbihmloaaGreatDoorX.GL w) (w0 : a0.size ≤ 140737488351232) :
  Calls Tryz.prog 40 #[.string a0, .bool a1] w fun e w' => e = .returned (.bool true) ∧ Below w.heap.size w w' := by
 obtain ⟨k, h⟩ := P a0 a1 w0
 refine (tendrilref02_Named.calls k a0 a1 true w hgl h).mono ?_
 rintro e w' ⟨rfl, hd⟩
 exact ⟨rfl, hd.below⟩

end Go.Proofs.YtidcecpbihmloaaGreatDoor.P16

namespace Go.Proofs.YtidcecpbihmloaaGreatDoor.P16
open Go.RowKit Go.Proofs.YtidcecpbihmloaaGreatDoorE Go.Proofs.YtidcecpbihmloaaGreatDoorW.PrintWords Go.Proofs.YtidcecpbihmloaaGreatDoorW.PrintLast Go.Proofs.YtidcecpbihmloaaGreatDoorW.PrintMore
attribute [local go_sem] max2_int min2_int max_two min_two max_three min_three max_four min_four   -- for this text's walks alone
set_option linter.unusedVariables false
set_option linter.unusedSimpArgs false

def tendrilref16_sign.f (a0 : Bool) : Option (Int) := if a0 = true then (some (-1)) else (some 1)
set_option maxHeartbeats 8000000 in
set_option maxRecDepth 100000 in
theorem tendrilref16_sign.calls (a0 : Bool) (r : Int) (w : World) (hgl : Go.Proofs.YtidcecpbihmloaaGreatDoorX.GL w) (h : tendrilref16_sign.f a0 = some r) :
  Calls Tryz.prog 24 #[.bool a0] w fun e w' => e = .returned (.int .i64 r) ∧ Drawn0 w w' := by
 have HGL := Aside0.mk hgl
 clear hgl
 have H : (if a0 = true then (some (-1)) else (some 1)) = some r := h
 clear h
 by_cases c2 : a0 = true
 ·subst c2
  have H1 : (some (-1)) = some r := by rw [if_pos rfl] at H; exact H
  clear H
  have H := H1
  clear H1
  obtain rfl := Option.some.inj H
  go_enter Tryz.func24, Tryz.ntmps24
  go_wp2
  go_ret
  exact ⟨by first | rfl | (simp; done) | (simp [*]; done), by repeat (first | exact Drawn0.refl _ | apply Drawn0.step)⟩
 ·replace c2 := Bool.eq_false_iff.mpr c2
  subst c2
  have H1 : (some 1) = some r := by rw [if_neg (show ¬ (false = true) by decide)] at H; exact H
  clear H
  have H := H1
  clear H1
  obtain rfl := Option.some.inj H
  go_enter Tryz.func24, Tryz.ntmps24
  go_wp2
  go_ret
  exact ⟨by first | rfl | (simp; done) | (simp [*]; done), by repeat (first | exact Drawn0.refl _ | apply Drawn0.step)⟩

end Go.Proofs.YtidcecpbihmloaaGreatDoor.P16

namespace Go.Proofs.YtidcecpbihmloaaGreatDoor.P16
open Go.RowKit Go.Proofs.YtidcecpbihmloaaGreatDoorE Go.Proofs.YtidcecpbihmloaaGreatDoorW.PrintWords Go.Proofs.YtidcecpbihmloaaGreatDoorW.PrintLast Go.Proofs.YtidcecpbihmloaaGreatDoorW.PrintMore
attribute [local go_sem] max2_int min2_int max_two min_two max_three min_three max_four min_four   -- for this text's walks alone
set_option linter.unusedVariables false
set_option linter.unusedSimpArgs false

def datum_named.f (a0 : ByteArray) : Option (Int × Int × ByteArray × List ByteArray × (List (S25)) × Bool) := if a0.toList = ([110, 111, 110, 101] : List UInt8) then (some (0, 0, (⟨#[]⟩ : ByteArray), ([] : List ByteArray), ([] : List (S25)), true)) else (if a0.toList = ([110, 111] : List UInt8) then (some (1, 0, (⟨#[]⟩ : ByteArray), ([] : List ByteArray), ([] : List (S25)), true)) else (if a0.toList = ([121, 101, 115] : List UInt8) then (some (1, 1, (⟨#[]⟩ : ByteArray), ([] : List ByteArray), ([] : List (S25)), true)) else (some (0, 0, (⟨#[]⟩ : ByteArray), ([] : List ByteArray), ([] : List (S25)), false))))
set_option maxHeartbeats 8000000 in
set_option maxRecDepth 100000 in
theorem datum_named.calls (a0 : ByteArray) (r1 : Int) (r2 : Int) (r3 : ByteArray) (r4 : List ByteArray) (r5 : List (S25)) (r6 : Bool) (w : World) (hgl : Go.Proofs.YtidcecpbihmloaaGreatDoorX.GL w) (h : datum_named.f a0 = some (r1, r2, r3, r4, r5, r6)) :
  Calls Tryz.prog 53 #[.string a0] w fun e w' => ∃ v3_ v4_ : Value, e = .returned (.tuple #[.agg #[.int .i64 r1, .int .i64 r2, .string r3, v3_, v4_], .bool r6]) ∧ Kd.R Kd.string 9 w' w.heap.size (fun _ => True) v3_ r4 ∧ Kd.R k25 25 w' w.heap.size (fun k_ => some k_ ≠ (v3_ : Value).ownBlock) v4_ r5 ∧ Below w.heap.size w w' := by
 have hu25 := Tryz.underlying25
 have HGL := Aside0.mk hgl
 clear hgl
 have HB := Aside0.mk (Below.refl w.heap.size w)
 have H : (if a0.toList = ([110, 111, 110, 101] : List UInt8) then (some (0, 0, (⟨#[]⟩ : ByteArray), ([] : List ByteArray), ([] : List (S25)), true)) else (if a0.toList = ([110, 111] : List UInt8) then (some (1, 0, (⟨#[]⟩ : ByteArray), ([] : List ByteArray), ([] : List (S25)), true)) else (if a0.toList = ([121, 101, 115] : List UInt8) then (some (1, 1, (⟨#[]⟩ : ByteArray), ([] : List ByteArray), ([] : List (S25)), true)) else (some (0, 0, (⟨#[]⟩ : ByteArray), ([] : List ByteArray), ([] : List (S25)), false))))) = some (r1, r2, r3, r4, r5, r6) := h
 clear h
 by_cases c2 : a0.toList = ([110, 111, 110, 101] : List UInt8)
 ·rw [if_pos c2] at H
  have c2b0 : (a0.toList == ([110, 111, 110, 101] : List UInt8)) = true := beq_iff_eq.mpr c2
  have c2b1 : (a0.toList != ([110, 111, 110, 101] : List UInt8)) = false := bne_eq_false_iff_eq.mpr c2
  clear c2
  simp only [Option.some.injEq, Prod.mk.injEq] at H
  obtain ⟨rfl, rfl, rfl, rfl, rfl, rfl⟩ := H
  go_enter Tryz.func53, Tryz.ntmps53
  go_wp2_with (first | ((with_reducible refine gate_dst (N := 2) rfl ?_); refine box_event ?hg (N := 2) ?hd (cs := #[.int .i64 0, .int .i64 0, .string (⟨#[]⟩ : ByteArray), .slice none 0 0, .slice none 0 0]) (t := 25) ?hr ?_; (case hd => rfl); (case hg => rfl); (case hr => first | (go_simp; done) | (go_simp; rfl)); intro gb194 hg w3 hbox hb; have n0_ := Aside0.mk (below_step (by repeat (first | (with_reducible first | exact HB.out | apply below_alloc | apply pw_below_drewN | apply below_drew1) | exact HB.out)) hb); have n1_ := Aside0.mk (hbox); have n2_ := Aside0.mk ((by rw [hg]; exact (below_size (by repeat (first | (with_reducible first | exact HB.out | apply below_alloc | apply pw_below_drewN | apply below_drew1) | exact HB.out))) : w.heap.size ≤ gb194)); have n3_ := Aside0.mk ((by rw [hg]; exact (below_size (by repeat (first | (with_reducible first | exact HB.out | apply below_alloc | apply pw_below_drewN | apply below_drew1) | exact HB.out))) : w.heap.size ≤ gb194)); clear HB; have HB := n0_; have BK194 := n1_; have GW194 := n2_; have GE194 := n3_; clear n0_ n1_ n2_ n3_; clear hb hbox hg; have hcz4_0 : w3.cell? ⟨gb194, 0, none⟩ = some (.int .i64 0) := (blk_cell BK194.out 0).trans rfl; have hcz4_1 : w3.cell? ⟨gb194, 1, none⟩ = some (.int .i64 0) := (blk_cell BK194.out 1).trans rfl; have hcz4_2 : w3.cell? ⟨gb194, 2, none⟩ = some (.string (⟨#[]⟩ : ByteArray)) := (blk_cell BK194.out 2).trans rfl; have hcz4_3 : w3.cell? ⟨gb194, 3, none⟩ = some (.slice none 0 0) := (blk_cell BK194.out 3).trans rfl; have hcz4_4 : w3.cell? ⟨gb194, 4, none⟩ = some (.slice none 0 0) := (blk_cell BK194.out 4).trans rfl; have hfz4_0 := blk_frozen BK194.out 0; have hfz4_1 := blk_frozen BK194.out 1; have hfz4_2 := blk_frozen BK194.out 2; have hfz4_3 := blk_frozen BK194.out 3; have hfz4_4 := blk_frozen BK194.out 4))
  refine bodyPost_ret (results_ct rfl _ _ gb194 25 #[.int .i64 0, .int .i64 0, .string (⟨#[]⟩ : ByteArray), .slice none 0 0, .slice none 0 0] (0, 0) _ rfl (by (with_reducible repeat (first | refine blk_drewN ?_ _ | refine blk_drew ?_ | refine blk_alloc ?_ _)); refine blk_put (cs := #[.int .i64 0, .int .i64 0, .string (⟨#[]⟩ : ByteArray), .slice none 0 0, .slice none 0 0]) ?_ 4 _ rfl; (with_reducible repeat (first | refine blk_drewN ?_ _ | refine blk_drew ?_ | refine blk_alloc ?_ _)); refine blk_put (cs := #[.int .i64 0, .int .i64 0, .string (⟨#[]⟩ : ByteArray), .slice none 0 0, .slice none 0 0]) ?_ 3 _ rfl; (with_reducible repeat (first | refine blk_drewN ?_ _ | refine blk_drew ?_ | refine blk_alloc ?_ _)); refine blk_put (cs := #[.int .i64 0, .int .i64 0, .string (⟨#[]⟩ : ByteArray), .slice none 0 0, .slice none 0 0]) ?_ 2 _ rfl; (with_reducible repeat (first | refine blk_drewN ?_ _ | refine blk_drew ?_ | refine blk_alloc ?_ _)); refine blk_put (cs := #[.int .i64 0, .int .i64 0, .string (⟨#[]⟩ : ByteArray), .slice none 0 0, .slice none 0 0]) ?_ 1 _ rfl; (with_reducible repeat (first | refine blk_drewN ?_ _ | refine blk_drew ?_ | refine blk_alloc ?_ _)); refine blk_put (cs := #[.int .i64 0, .int .i64 0, .string (⟨#[]⟩ : ByteArray), .slice none 0 0, .slice none 0 0]) ?_ 0 _ rfl; (with_reducible repeat (first | refine blk_drewN ?_ _ | refine blk_drew ?_ | refine blk_alloc ?_ _)); exact BK194.out) Tryz.underlying25 rfl (by kernel_rfl)) rfl ?_
  exact ⟨_, _, by first | rfl | (simp [errW_none, errW_some] <;> first | rfl | exact emp_bne _ | exact (emp_bne _).symm | exact emp_bne' _ | exact (emp_bne' _).symm) | (simp [*, errW_none, errW_some] <;> rfl), by first | exact Kd.R_nil _ _ _ _ _ | exact Kd.N_nil _ _ _ _ _ | exact Kd.V_nil _ _ _ _ _ | exact Kd.Q_nil _ _ _ _ _ | exact Kd.S_nil _ _ _ _ _, by first | exact Kd.R_nil _ _ _ _ _ | exact Kd.N_nil _ _ _ _ _ | exact Kd.V_nil _ _ _ _ _ | exact Kd.Q_nil _ _ _ _ _ | exact Kd.S_nil _ _ _ _ _, by repeat (first | (with_reducible first | exact HB.out | apply below_alloc | apply pw_below_drewN | apply below_drew1 | refine below_set ?_ GE194.out) | exact HB.out)⟩
 ·rw [if_neg c2] at H
  have c2b0 : (a0.toList == ([110, 111, 110, 101] : List UInt8)) = false := beq_eq_false_iff_ne.mpr c2
  have c2b1 : (a0.toList != ([110, 111, 110, 101] : List UInt8)) = true := bne_iff_ne.mpr c2
  by_cases c5 : a0.toList = ([110, 111] : List UInt8)
  ·rw [if_pos c5] at H
   have c5b0 : (a0.toList == ([110, 111] : List UInt8)) = true := beq_iff_eq.mpr c5
   have c5b1 : (a0.toList != ([110, 111] : List UInt8)) = false := bne_eq_false_iff_eq.mpr c5
   clear c5
   simp only [Option.some.injEq, Prod.mk.injEq] at H
   obtain ⟨rfl, rfl, rfl, rfl, rfl, rfl⟩ := H
   go_enter Tryz.func53, Tryz.ntmps53
   go_wp2_with (first | ((with_reducible refine gate_dst (N := 2) rfl ?_); refine box_event ?hg (N := 2) ?hd (cs := #[.int .i64 0, .int .i64 0, .string (⟨#[]⟩ : ByteArray), .slice none 0 0, .slice none 0 0]) (t := 25) ?hr ?_; (case hd => rfl); (case hg => rfl); (case hr => first | (go_simp; done) | (go_simp; rfl)); intro gb194 hg w6 hbox hb; have n0_ := Aside0.mk (below_step (by repeat (first | (with_reducible first | exact HB.out | apply below_alloc | apply pw_below_drewN | apply below_drew1) | exact HB.out)) hb); have n1_ := Aside0.mk (hbox); have n2_ := Aside0.mk ((by rw [hg]; exact (below_size (by repeat (first | (with_reducible first | exact HB.out | apply below_alloc | apply pw_below_drewN | apply below_drew1) | exact HB.out))) : w.heap.size ≤ gb194)); have n3_ := Aside0.mk ((by rw [hg]; exact (below_size (by repeat (first | (with_reducible first | exact HB.out | apply below_alloc | apply pw_below_drewN | apply below_drew1) | exact HB.out))) : w.heap.size ≤ gb194)); clear HB; have HB := n0_; have BK194 := n1_; have GW194 := n2_; have GE194 := n3_; clear n0_ n1_ n2_ n3_; clear hb hbox hg; have hcz7_0 : w6.cell? ⟨gb194, 0, none⟩ = some (.int .i64 0) := (blk_cell BK194.out 0).trans rfl; have hcz7_1 : w6.cell? ⟨gb194, 1, none⟩ = some (.int .i64 0) := (blk_cell BK194.out 1).trans rfl; have hcz7_2 : w6.cell? ⟨gb194, 2, none⟩ = some (.string (⟨#[]⟩ : ByteArray)) := (blk_cell BK194.out 2).trans rfl; have hcz7_3 : w6.cell? ⟨gb194, 3, none⟩ = some (.slice none 0 0) := (blk_cell BK194.out 3).trans rfl; have hcz7_4 : w6.cell? ⟨gb194, 4, none⟩ = some (.slice none 0 0) := (blk_cell BK194.out 4).trans rfl; have hfz7_0 := blk_frozen BK194.out 0; have hfz7_1 := blk_frozen BK194.out 1; have hfz7_2 := blk_frozen BK194.out 2; have hfz7_3 := blk_frozen BK194.out 3; have hfz7_4 := blk_frozen BK194.out 4))
   refine bodyPost_ret (results_ct rfl _ _ gb194 25 #[.int .i64 1, .int .i64 0, .string (⟨#[]⟩ : ByteArray), .slice none 0 0, .slice none 0 0] (0, 0) _ rfl (by (with_reducible repeat (first | refine blk_drewN ?_ _ | refine blk_drew ?_ | refine blk_alloc ?_ _)); refine blk_put (cs := #[.int .i64 1, .int .i64 0, .string (⟨#[]⟩ : ByteArray), .slice none 0 0, .slice none 0 0]) ?_ 4 _ rfl; (with_reducible repeat (first | refine blk_drewN ?_ _ | refine blk_drew ?_ | refine blk_alloc ?_ _)); refine blk_put (cs := #[.int .i64 1, .int .i64 0, .string (⟨#[]⟩ : ByteArray), .slice none 0 0, .slice none 0 0]) ?_ 3 _ rfl; (with_reducible repeat (first | refine blk_drewN ?_ _ | refine blk_drew ?_ | refine blk_alloc ?_ _)); refine blk_put (cs := #[.int .i64 1, .int .i64 0, .string (⟨#[]⟩ : ByteArray), .slice none 0 0, .slice none 0 0]) ?_ 2 _ rfl; (with_reducible repeat (first | refine blk_drewN ?_ _ | refine blk_drew ?_ | refine blk_alloc ?_ _)); refine blk_put (cs := #[.int .i64 1, .int .i64 0, .string (⟨#[]⟩ : ByteArray), .slice none 0 0, .slice none 0 0]) ?_ 1 _ rfl; (with_reducible repeat (first | refine blk_drewN ?_ _ | refine blk_drew ?_ | refine blk_alloc ?_ _)); refine blk_put (cs := #[.int .i64 0, .int .i64 0, .string (⟨#[]⟩ : ByteArray), .slice none 0 0, .slice none 0 0]) ?_ 0 _ rfl; (with_reducible repeat (first | refine blk_drewN ?_ _ | refine blk_drew ?_ | refine blk_alloc ?_ _)); exact BK194.out) Tryz.underlying25 rfl (by kernel_rfl)) rfl ?_
   exact ⟨_, _, by first | rfl | (simp [errW_none, errW_some] <;> first | rfl | exact emp_bne _ | exact (emp_bne _).symm | exact emp_bne' _ | exact (emp_bne' _).symm) | (simp [*, errW_none, errW_some] <;> rfl), by first | exact Kd.R_nil _ _ _ _ _ | exact Kd.N_nil _ _ _ _ _ | exact Kd.V_nil _ _ _ _ _ | exact Kd.Q_nil _ _ _ _ _ | exact Kd.S_nil _ _ _ _ _, by first | exact Kd.R_nil _ _ _ _ _ | exact Kd.N_nil _ _ _ _ _ | exact Kd.V_nil _ _ _ _ _ | exact Kd.Q_nil _ _ _ _ _ | exact Kd.S_nil _ _ _ _ _, by repeat (first | (with_reducible first | exact HB.out | apply below_alloc | apply pw_below_drewN | apply below_drew1 | refine below_set ?_ GE194.out) | exact HB.out)⟩
  ·rw [if_neg c5] at H
   have c5b0 : (a0.toList == ([110, 111] : List UInt8)) = false := beq_eq_false_iff_ne.mpr c5
   have c5b1 : (a0.toList != ([110, 111] : List UInt8)) = true := bne_iff_ne.mpr c5
   by_cases c8 : a0.toList = ([121, 101, 115] : List UInt8)
   ·rw [if_pos c8] at H
    have c8b0 : (a0.toList == ([121, 101, 115] : List UInt8)) = true := beq_iff_eq.mpr c8
    have c8b1 : (a0.toList != ([121, 101, 115] : List UInt8)) = false := bne_eq_false_iff_eq.mpr c8
    clear c8
    simp only [Option.some.injEq, Prod.mk.injEq] at H
    obtain ⟨rfl, rfl, rfl, rfl, rfl, rfl⟩ := H
    go_enter Tryz.func53, Tryz.ntmps53
    go_wp2_with (first | ((with_reducible refine gate_dst (N := 2) rfl ?_); refine box_event ?hg (N := 2) ?hd (cs := #[.int .i64 0, .int .i64 0, .string (⟨#[]⟩ : ByteArray), .slice none 0 0, .slice none 0 0]) (t := 25) ?hr ?_; (case hd => rfl); (case hg => rfl); (case hr => first | (go_simp; done) | (go_simp; rfl)); intro gb194 hg w9 hbox hb; have n0_ := Aside0.mk (below_step (by repeat (first | (with_reducible first | exact HB.out | apply below_alloc | apply pw_below_drewN | apply below_drew1) | exact HB.out)) hb); have n1_ := Aside0.mk (hbox); have n2_ := Aside0.mk ((by rw [hg]; exact (below_size (by repeat (first | (with_reducible first | exact HB.out | apply below_alloc | apply pw_below_drewN | apply below_drew1) | exact HB.out))) : w.heap.size ≤ gb194)); have n3_ := Aside0.mk ((by rw [hg]; exact (below_size (by repeat (first | (with_reducible first | exact HB.out | apply below_alloc | apply pw_below_drewN | apply below_drew1) | exact HB.out))) : w.heap.size ≤ gb194)); clear HB; have HB := n0_; have BK194 := n1_; have GW194 := n2_; have GE194 := n3_; clear n0_ n1_ n2_ n3_; clear hb hbox hg; have hcz10_0 : w9.cell? ⟨gb194, 0, none⟩ = some (.int .i64 0) := (blk_cell BK194.out 0).trans rfl; have hcz10_1 : w9.cell? ⟨gb194, 1, none⟩ = some (.int .i64 0) := (blk_cell BK194.out 1).trans rfl; have hcz10_2 : w9.cell? ⟨gb194, 2, none⟩ = some (.string (⟨#[]⟩ : ByteArray)) := (blk_cell BK194.out 2).trans rfl; have hcz10_3 : w9.cell? ⟨gb194, 3, none⟩ = some (.slice none 0 0) := (blk_cell BK194.out 3).trans rfl; have hcz10_4 : w9.cell? ⟨gb194, 4, none⟩ = some (.slice none 0 0) := (blk_cell BK194.out 4).trans rfl; have hfz10_0 := blk_frozen BK194.out 0; have hfz10_1 := blk_frozen BK194.out 1; have hfz10_2 := blk_frozen BK194.out 2; have hfz10_3 := blk_frozen BK194.out 3; have hfz10_4 := blk_frozen BK194.out 4))
    refine bodyPost_ret (results_ct rfl _ _ gb194 25 #[.int .i64 1, .int .i64 1, .string (⟨#[]⟩ : ByteArray), .slice none 0 0, .slice none 0 0] (0, 0) _ rfl (by (with_reducible repeat (first | refine blk_drewN ?_ _ | refine blk_drew ?_ | refine blk_alloc ?_ _)); refine blk_put (cs := #[.int .i64 1, .int .i64 1, .string (⟨#[]⟩ : ByteArray), .slice none 0 0, .slice none 0 0]) ?_ 4 _ rfl; (with_reducible repeat (first | refine blk_drewN ?_ _ | refine blk_drew ?_ | refine blk_alloc ?_ _)); refine blk_put (cs := #[.int .i64 1, .int .i64 1, .string (⟨#[]⟩ : ByteArray), .slice none 0 0, .slice none 0 0]) ?_ 3 _ rfl; (with_reducible repeat (first | refine blk_drewN ?_ _ | refine blk_drew ?_ | refine blk_alloc ?_ _)); refine blk_put (cs := #[.int .i64 1, .int .i64 1, .string (⟨#[]⟩ : ByteArray), .slice none 0 0, .slice none 0 0]) ?_ 2 _ rfl; (with_reducible repeat (first | refine blk_drewN ?_ _ | refine blk_drew ?_ | refine blk_alloc ?_ _)); refine blk_put (cs := #[.int .i64 1, .int .i64 0, .string (⟨#[]⟩ : ByteArray), .slice none 0 0, .slice none 0 0]) ?_ 1 _ rfl; (with_reducible repeat (first | refine blk_drewN ?_ _ | refine blk_drew ?_ | refine blk_alloc ?_ _)); refine blk_put (cs := #[.int .i64 0, .int .i64 0, .string (⟨#[]⟩ : ByteArray), .slice none 0 0, .slice none 0 0]) ?_ 0 _ rfl; (with_reducible repeat (first | refine blk_drewN ?_ _ | refine blk_drew ?_ | refine blk_alloc ?_ _)); exact BK194.out) Tryz.underlying25 rfl (by kernel_rfl)) rfl ?_
    exact ⟨_, _, by first | rfl | (simp [errW_none, errW_some] <;> first | rfl | exact emp_bne _ | exact (emp_bne _).symm | exact emp_bne' _ | exact (emp_bne' _).symm) | (simp [*, errW_none, errW_some] <;> rfl), by first | exact Kd.R_nil _ _ _ _ _ | exact Kd.N_nil _ _ _ _ _ | exact Kd.V_nil _ _ _ _ _ | exact Kd.Q_nil _ _ _ _ _ | exact Kd.S_nil _ _ _ _ _, by first | exact Kd.R_nil _ _ _ _ _ | exact Kd.N_nil _ _ _ _ _ | exact Kd.V_nil _ _ _ _ _ | exact Kd.Q_nil _ _ _ _ _ | exact Kd.S_nil _ _ _ _ _, by repeat (first | (with_reducible first | exact HB.out | apply below_alloc | apply pw_below_drewN | apply below_drew1 | refine below_set ?_ GE194.out) | exact HB.out)⟩
   ·rw [if_neg c8] at H
    have c8b0 : (a0.toList == ([121, 101, 115] : List UInt8)) = false := beq_eq_false_iff_ne.mpr c8
    have c8b1 : (a0.toList != ([121, 101, 115] : List UInt8)) = true := bne_iff_ne.mpr c8
    simp only [Option.some.injEq, Prod.mk.injEq] at H
    obtain ⟨rfl, rfl, rfl, rfl, rfl, rfl⟩ := H
    go_enter Tryz.func53, Tryz.ntmps53
    go_wp2_with (first | ((with_reducible refine gate_dst (N := 2) rfl ?_); refine box_event ?hg (N := 2) ?hd (cs := #[.int .i64 0, .int .i64 0, .string (⟨#[]⟩ : ByteArray), .slice none 0 0, .slice none 0 0]) (t := 25) ?hr ?_; (case hd => rfl); (case hg => rfl); (case hr => first | (go_simp; done) | (go_simp; rfl)); intro gb194 hg w11 hbox hb; have n0_ := Aside0.mk (below_step (by repeat (first | (with_reducible first | exact HB.out | apply below_alloc | apply pw_below_drewN | apply below_drew1) | exact HB.out)) hb); have n1_ := Aside0.mk (hbox); have n2_ := Aside0.mk ((by rw [hg]; exact (below_size (by repeat (first | (with_reducible first | exact HB.out | apply below_alloc | apply pw_below_drewN | apply below_drew1) | exact HB.out))) : w.heap.size ≤ gb194)); have n3_ := Aside0.mk ((by rw [hg]; exact (below_size (by repeat (first | (with_reducible first | exact HB.out | apply below_alloc | apply pw_below_drewN | apply below_drew1) | exact HB.out))) : w.heap.size ≤ gb194)); clear HB; have HB := n0_; have BK194 := n1_; have GW194 := n2_; have GE194 := n3_; clear n0_ n1_ n2_ n3_; clear hb hbox hg; have hcz12_0 : w11.cell? ⟨gb194, 0, none⟩ = some (.int .i64 0) := (blk_cell BK194.out 0).trans rfl; have hcz12_1 : w11.cell? ⟨gb194, 1, none⟩ = some (.int .i64 0) := (blk_cell BK194.out 1).trans rfl; have hcz12_2 : w11.cell? ⟨gb194, 2, none⟩ = some (.string (⟨#[]⟩ : ByteArray)) := (blk_cell BK194.out 2).trans rfl; have hcz12_3 : w11.cell? ⟨gb194, 3, none⟩ = some (.slice none 0 0) := (blk_cell BK194.out 3).trans rfl; have hcz12_4 : w11.cell? ⟨gb194, 4, none⟩ = some (.slice none 0 0) := (blk_cell BK194.out 4).trans rfl; have hfz12_0 := blk_frozen BK194.out 0; have hfz12_1 := blk_frozen BK194.out 1; have hfz12_2 := blk_frozen BK194.out 2; have hfz12_3 := blk_frozen BK194.out 3; have hfz12_4 := blk_frozen BK194.out 4))
    refine bodyPost_ret (results_ct rfl _ _ gb194 25 #[.int .i64 0, .int .i64 0, .string (⟨#[]⟩ : ByteArray), .slice none 0 0, .slice none 0 0] (0, 0) _ rfl (by (with_reducible repeat (first | refine blk_drewN ?_ _ | refine blk_drew ?_ | refine blk_alloc ?_ _)); refine blk_put (cs := #[.int .i64 0, .int .i64 0, .string (⟨#[]⟩ : ByteArray), .slice none 0 0, .slice none 0 0]) ?_ 4 _ rfl; (with_reducible repeat (first | refine blk_drewN ?_ _ | refine blk_drew ?_ | refine blk_alloc ?_ _)); refine blk_put (cs := #[.int .i64 0, .int .i64 0, .string (⟨#[]⟩ : ByteArray), .slice none 0 0, .slice none 0 0]) ?_ 3 _ rfl; (with_reducible repeat (first | refine blk_drewN ?_ _ | refine blk_drew ?_ | refine blk_alloc ?_ _)); refine blk_put (cs := #[.int .i64 0, .int .i64 0, .string (⟨#[]⟩ : ByteArray), .slice none 0 0, .slice none 0 0]) ?_ 2 _ rfl; (with_reducible repeat (first | refine blk_drewN ?_ _ | refine blk_drew ?_ | refine blk_alloc ?_ _)); refine blk_put (cs := #[.int .i64 0, .int .i64 0, .string (⟨#[]⟩ : ByteArray), .slice none 0 0, .slice none 0 0]) ?_ 1 _ rfl; (with_reducible repeat (first | refine blk_drewN ?_ _ | refine blk_drew ?_ | refine blk_alloc ?_ _)); refine blk_put (cs := #[.int .i64 0, .int .i64 0, .string (⟨#[]⟩ : ByteArray), .slice none 0 0, .slice none 0 0]) ?_ 0 _ rfl; (with_reducible repeat (first | refine blk_drewN ?_ _ | refine blk_drew ?_ | refine blk_alloc ?_ _)); exact BK194.out) Tryz.underlying25 rfl (by kernel_rfl)) rfl ?_
    exact ⟨_, _, by first | rfl | (simp [errW_none, errW_some] <;> first | rfl | exact emp_bne _ | exact (emp_bne _).symm | exact emp_bne' _ | exact (emp_bne' _).symm) | (simp [*, errW_none, errW_some] <;> rfl), by first | exact Kd.R_nil _ _ _ _ _ | exact Kd.N_nil _ _ _ _ _ | exact Kd.V_nil _ _ _ _ _ | exact Kd.Q_nil _ _ _ _ _ | exact Kd.S_nil _ _ _ _ _, by first | exact Kd.R_nil _ _ _ _ _ | exact Kd.N_nil _ _ _ _ _ | exact Kd.V_nil _ _ _ _ _ | exact Kd.Q_nil _ _ _ _ _ | exact Kd.S_nil _ _ _ _ _, by repeat (first | (with_reducible first | exact HB.out | apply below_alloc | apply pw_below_drewN | apply below_drew1 | refine below_set ?_ GE194.out) | exact HB.out)⟩

/-- A state of type 61 at block g of W; what its slices lead to came in by w0. -/
def IsS61 (w0 W : World) (g : Nat) (f0 : ByteArray) (f1 : Int) (f2 : Int) (f3 : Int) : Prop := W.heap[g]? = some (.cells #[.string f0, .int .i64 f1, .int .i64 f2, .int .i64 f3] 61 (0, 0)) ∧ w0.heap.size ≤ g
theorem IsS61.grown {w0 W : World} {g : Nat} {f0 : ByteArray} {f1 : Int} {f2 : Int} {f3 : Int} {W1 : World} {row : Option Nat} (h : IsS61 w0 W g f0 f1 f2 f3) (hw : W.grownBy W1 row) (hne : some g ≠ row) : IsS61 w0 W1 g f0 f1 f2 f3 := by
 obtain ⟨hb, hg⟩ := h
 exact ⟨blk_grown hb hw hne, hg⟩
theorem IsS61.kept {w0 W : World} {g : Nat} {f0 : ByteArray} {f1 : Int} {f2 : Int} {f3 : Int} {W1 : World} {S : Nat → Prop} (h : IsS61 w0 W g f0 f1 f2 f3) (hk : Kept W W1 S) (hne : ¬ S g) : IsS61 w0 W1 g f0 f1 f2 f3 := by
 obtain ⟨hb, hg⟩ := h
 exact ⟨blk_kept hb hk hne, hg⟩
theorem IsS61.below {w0 W : World} {g : Nat} {f0 : ByteArray} {f1 : Int} {f2 : Int} {f3 : Int} {W1 : World} (h : IsS61 w0 W g f0 f1 f2 f3) (hw : Below W.heap.size W W1) : IsS61 w0 W1 g f0 f1 f2 f3 := h.grown (grown_of_below hw none) (by simp)
theorem IsS61.alloc {w0 W : World} {g : Nat} {f0 : ByteArray} {f1 : Int} {f2 : Int} {f3 : Int} (h : IsS61 w0 W g f0 f1 f2 f3) (o : Obj) : IsS61 w0 (W.alloc o) g f0 f1 f2 f3 := h.below (below_alloc (Below.refl _ _) o)
theorem IsS61.drewN {w0 W : World} {g : Nat} {f0 : ByteArray} {f1 : Int} {f2 : Int} {f3 : Int} (h : IsS61 w0 W g f0 f1 f2 f3) (m : Nat) : IsS61 w0 (W.drewN m) g f0 f1 f2 f3 := h
theorem IsS61.drew {w0 W : World} {g : Nat} {f0 : ByteArray} {f1 : Int} {f2 : Int} {f3 : Int} (h : IsS61 w0 W g f0 f1 f2 f3) : IsS61 w0 W.drew g f0 f1 f2 f3 := h
theorem IsS61.at_ {w0 W : World} {g : Nat} {f0 : ByteArray} {f1 : Int} {f2 : Int} {f3 : Int} {w' : World} {m : Nat} (hq : W.drewN m = w') (h : IsS61 w0 W g f0 f1 f2 f3) : IsS61 w0 w' g f0 f1 f2 f3 := by subst hq; exact IsS61.drewN h m
theorem IsS61.apart {w0 W : World} {g : Nat} {f0 : ByteArray} {f1 : Int} {f2 : Int} {f3 : Int} {α : Type} {d : Kd α} {e : Nat} {base : Nat} {ok : Nat → Prop} {v : Value} {xs : List α} (h : IsS61 w0 W g f0 f1 f2 f3) (ho : d.R e W base ok v xs) (ht : ∀ q, q ∈ e :: d.E → q ≠ 61) : d.R e W base (fun k => ok k ∧ k ≠ g) v xs := by
 obtain ⟨hb, hg⟩ := h
 exact Kd.R_types ho hb ht
theorem IsS61.own_ne {w0 W : World} {g : Nat} {f0 : ByteArray} {f1 : Int} {f2 : Int} {f3 : Int} {α : Type} {d : Kd α} {e : Nat} {base : Nat} {ok : Nat → Prop} {v : Value} {xs : List α} (h : IsS61 w0 W g f0 f1 f2 f3) (ho : d.R e W base ok v xs) (ht : e ≠ 61) : some g ≠ v.ownBlock := by
 obtain ⟨hb, hg⟩ := h
 exact Kd.R_ne ho hb ht
theorem IsS61.lt {w0 W : World} {g : Nat} {f0 : ByteArray} {f1 : Int} {f2 : Int} {f3 : Int} (h : IsS61 w0 W g f0 f1 f2 f3) : g < W.heap.size := by
 obtain ⟨hb, hg⟩ := h
 exact blk_lt hb
theorem IsS61.ge {w0 W : World} {g : Nat} {f0 : ByteArray} {f1 : Int} {f2 : Int} {f3 : Int} (h : IsS61 w0 W g f0 f1 f2 f3) : w0.heap.size ≤ g := by
 obtain ⟨hb, hg⟩ := h
 exact hg
theorem IsS61.far {w0 W : World} {g : Nat} {f0 : ByteArray} {f1 : Int} {f2 : Int} {f3 : Int} {p : Addr} (h : IsS61 w0 W g f0 f1 f2 f3) (hne : g ≠ p.block) (u : Value) : IsS61 w0 (W.setCell p u) g f0 f1 f2 f3 := by
 obtain ⟨hb, hg⟩ := h
 exact ⟨blk_far hb hne u, hg⟩
theorem cellS61_0 {W : World} {g : Nat} {f0 : ByteArray} {f1 : Int} {f2 : Int} {f3 : Int} (h : W.heap[g]? = some (.cells #[.string f0, .int .i64 f1, .int .i64 f2, .int .i64 f3] 61 (0, 0))) : W.cell? ⟨g, 0, none⟩ = some (.string f0) := (blk_cell h 0).trans rfl
theorem IsS61.set_0 {w0 W : World} {g : Nat} {f0 : ByteArray} {f1 : Int} {f2 : Int} {f3 : Int} (h : IsS61 w0 W g f0 f1 f2 f3) (x : ByteArray) : IsS61 w0 (W.setCell ⟨g, 0, none⟩ (.string x)) g x f1 f2 f3 := by
 obtain ⟨hb, hg⟩ := h
 exact ⟨by simpa using blk_set hb 0 (.string x), hg⟩
theorem cellS61_1 {W : World} {g : Nat} {f0 : ByteArray} {f1 : Int} {f2 : Int} {f3 : Int} (h : W.heap[g]? = some (.cells #[.string f0, .int .i64 f1, .int .i64 f2, .int .i64 f3] 61 (0, 0))) : W.cell? ⟨g, 1, none⟩ = some (.int .i64 f1) := (blk_cell h 1).trans rfl
theorem IsS61.set_1 {w0 W : World} {g : Nat} {f0 : ByteArray} {f1 : Int} {f2 : Int} {f3 : Int} (h : IsS61 w0 W g f0 f1 f2 f3) (x : Int) : IsS61 w0 (W.setCell ⟨g, 1, none⟩ (.int .i64 x)) g f0 x f2 f3 := by
 obtain ⟨hb, hg⟩ := h
 exact ⟨by simpa using blk_set hb 1 (.int .i64 x), hg⟩
theorem cellS61_2 {W : World} {g : Nat} {f0 : ByteArray} {f1 : Int} {f2 : Int} {f3 : Int} (h : W.heap[g]? = some (.cells #[.string f0, .int .i64 f1, .int .i64 f2, .int .i64 f3] 61 (0, 0))) : W.cell? ⟨g, 2, none⟩ = some (.int .i64 f2) := (blk_cell h 2).trans rfl
theorem IsS61.set_2 {w0 W : World} {g : Nat} {f0 : ByteArray} {f1 : Int} {f2 : Int} {f3 : Int} (h : IsS61 w0 W g f0 f1 f2 f3) (x : Int) : IsS61 w0 (W.setCell ⟨g, 2, none⟩ (.int .i64 x)) g f0 f1 x f3 := by
 obtain ⟨hb, hg⟩ := h
 exact ⟨by simpa using blk_set hb 2 (.int .i64 x), hg⟩
theorem cellS61_3 {W : World} {g : Nat} {f0 : ByteArray} {f1 : Int} {f2 : Int} {f3 : Int} (h : W.heap[g]? = some (.cells #[.string f0, .int .i64 f1, .int .i64 f2, .int .i64 f3] 61 (0, 0))) : W.cell? ⟨g, 3, none⟩ = some (.int .i64 f3) := (blk_cell h 3).trans rfl
theorem IsS61.set_3 {w0 W : World} {g : Nat} {f0 : ByteArray} {f1 : Int} {f2 : Int} {f3 : Int} (h : IsS61 w0 W g f0 f1 f2 f3) (x : Int) : IsS61 w0 (W.setCell ⟨g, 3, none⟩ (.int .i64 x)) g f0 f1 f2 x := by
 obtain ⟨hb, hg⟩ := h
 exact ⟨by simpa using blk_set hb 3 (.int .i64 x), hg⟩
theorem IsS61.new (w0 W : World) (f0 : ByteArray) (f1 : Int) (f2 : Int) (f3 : Int) (hB : Below w0.heap.size w0 W) : IsS61 w0 (W.alloc (.cells #[.string f0, .int .i64 f1, .int .i64 f2, .int .i64 f3] 61)) W.heap.size f0 f1 f2 f3 := ⟨by simpa using heap_alloc_new W _, hB.size⟩

def datum_reader_fail.f (s0_0 : ByteArray) (s0_1 : Int) (s0_2 : Int) (s0_3 : Int) (a1 : Int) (a2 : Int) : Option (ByteArray × Int × Int × Int) := if s0_3 = 0 then (some (s0_0, a1, s0_2, a2)) else (some (s0_0, s0_1, s0_2, s0_3))
set_option maxHeartbeats 8000000 in
set_option maxRecDepth 100000 in
theorem datum_reader_fail.calls (g : Nat) (s0_0 : ByteArray) (s0_1 : Int) (s0_2 : Int) (s0_3 : Int) (a1 : Int) (a2 : Int) (r1 : ByteArray) (r2 : Int) (r3 : Int) (r4 : Int) (w0 w : World) (hgl : Go.Proofs.YtidcecpbihmloaaGreatDoorX.GL w0) (hI : IsS61 w0 w g s0_0 s0_1 s0_2 s0_3) (hB : Below w0.heap.size w0 w) (h : datum_reader_fail.f s0_0 s0_1 s0_2 s0_3 a1 a2 = some (r1, r2, r3, r4)) :
  Calls Tryz.prog 30 #[.pointer (some ⟨g, 0, none⟩), .int .i64 a1, .int .i64 a2] w fun e w' => e = .returned (.tuple #[]) ∧ IsS61 w0 w' g r1 r2 r3 r4 ∧ Below w0.heap.size w0 w' ∧ KeepBut w w' g none := by
 have HI0 := Aside0.mk hI
 have HK := Aside0.mk (KeepBut.refl w g none)
 have HL := Aside0.mk hB.size
 clear hI
 have HGL := Aside0.mk hgl
 clear hgl
 have HW0 := Aside0.mk hB.size
 have HB := Aside0.mk hB
 clear hB
 have H : (if s0_3 = 0 then (some (s0_0, a1, s0_2, a2)) else (some (s0_0, s0_1, s0_2, s0_3))) = some (r1, r2, r3, r4) := h
 clear h
 by_cases c4 : s0_3 = 0
 ·rw [if_pos c4] at H
  have c4b0 : (s0_3 == 0) = true := beq_iff_eq.mpr c4
  have c4b1 : (s0_3 != 0) = false := bne_eq_false_iff_eq.mpr c4
  clear c4
  simp only [Option.some.injEq, Prod.mk.injEq] at H
  obtain ⟨rfl, rfl, rfl, rfl⟩ := H
  obtain ⟨HGz5, hgz5⟩ := HI0.out
  have hcz5_0 := cellS61_0 HGz5
  have hcz5_1 := cellS61_1 HGz5
  have hcz5_2 := cellS61_2 HGz5
  have hcz5_3 := cellS61_3 HGz5
  have hfz5_0 := blk_frozen HGz5 0
  have hfz5_1 := blk_frozen HGz5 1
  have hfz5_2 := blk_frozen HGz5 2
  have hfz5_3 := blk_frozen HGz5 3
  clear HGz5 hgz5
  go_enter Tryz.func30, Tryz.ntmps30
  go_wp2
  first | go_end0 | ((try simp only [Exit.inBlock, Exit.then]); refine bodyPost_ret (results_none rfl _ _ _) rfl ?_)
  exact ⟨by first | rfl | (simp [errW_none, errW_some] <;> first | rfl | exact emp_bne _ | exact (emp_bne _).symm | exact emp_bne' _ | exact (emp_bne' _).symm) | (simp [*, errW_none, errW_some] <;> rfl), by repeat (first | (with_reducible first | exact HI0.out | apply IsS61.alloc | apply IsS61.drewN | apply IsS61.drew | apply IsS61.set_0 | apply IsS61.set_1 | apply IsS61.set_2 | apply IsS61.set_3) | exact HI0.out), by repeat (first | (with_reducible first | exact HB.out | apply below_alloc | apply pw_below_drewN | apply below_drew1 | refine below_set ?_ (IsS61.ge HI0.out)) | exact HB.out), by repeat (first | (with_reducible first | exact HK.out | apply KeepBut.set_ | apply keep_drewN | apply keep_drew | apply keep_alloc) | exact HK.out)⟩
 ·rw [if_neg c4] at H
  have c4b0 : (s0_3 == 0) = false := beq_eq_false_iff_ne.mpr c4
  have c4b1 : (s0_3 != 0) = true := bne_iff_ne.mpr c4
  simp only [Option.some.injEq, Prod.mk.injEq] at H
  obtain ⟨rfl, rfl, rfl, rfl⟩ := H
  obtain ⟨HGz6, hgz6⟩ := HI0.out
  have hcz6_0 := cellS61_0 HGz6
  have hcz6_1 := cellS61_1 HGz6
  have hcz6_2 := cellS61_2 HGz6
  have hcz6_3 := cellS61_3 HGz6
  have hfz6_0 := blk_frozen HGz6 0
  have hfz6_1 := blk_frozen HGz6 1
  have hfz6_2 := blk_frozen HGz6 2
  have hfz6_3 := blk_frozen HGz6 3
  clear HGz6 hgz6
  go_enter Tryz.func30, Tryz.ntmps30
  go_wp2
  first | go_end0 | ((try simp only [Exit.inBlock, Exit.then]); refine bodyPost_ret (results_none rfl _ _ _) rfl ?_)
  exact ⟨by first | rfl | (simp [errW_none, errW_some] <;> first | rfl | exact emp_bne _ | exact (emp_bne _).symm | exact emp_bne' _ | exact (emp_bne' _).symm) | (simp [*, errW_none, errW_some] <;> rfl), by repeat (first | (with_reducible first | exact HI0.out | apply IsS61.alloc | apply IsS61.drewN | apply IsS61.drew | apply IsS61.set_0 | apply IsS61.set_1 | apply IsS61.set_2 | apply IsS61.set_3) | exact HI0.out), by repeat (first | (with_reducible first | exact HB.out | apply below_alloc | apply pw_below_drewN | apply below_drew1 | refine below_set ?_ (IsS61.ge HI0.out)) | exact HB.out), by repeat (first | (with_reducible first | exact HK.out | apply KeepBut.set_ | apply keep_drewN | apply keep_drew | apply keep_alloc) | exact HK.out)⟩

def datum_reader_must.f (s0_0 : ByteArray) (s0_1 : Int) (s0_2 : Int) (s0_3 : Int) (a1 : Int) : Option (Bool × ByteArray × Int × Int × Int) := if s0_3 = 0 then (if s0_1 = (s0_0.size : Int) then ((datum_reader_fail.f s0_0 s0_1 s0_2 s0_3 s0_1 2).bind fun bt195 => (some (false, bt195.1, bt195.2.1, bt195.2.2.1, bt195.2.2.2))) else (if 0 ≤ s0_1 then (if s0_1 < (s0_0.size : Int) then (if (bt s0_0 s0_1) = a1 then (some (true, s0_0, wrap64 (s0_1 + 1), s0_2, s0_3)) else ((datum_reader_fail.f s0_0 s0_1 s0_2 s0_3 s0_1 2).bind fun bt199 => (some (false, bt199.1, bt199.2.1, bt199.2.2.1, bt199.2.2.2)))) else (none)) else (none))) else ((datum_reader_fail.f s0_0 s0_1 s0_2 s0_3 s0_1 2).bind fun bt203 => (some (false, bt203.1, bt203.2.1, bt203.2.2.1, bt203.2.2.2)))
set_option maxHeartbeats 8000000 in
set_option maxRecDepth 100000 in
theorem datum_reader_must.calls (g : Nat) (s0_0 : ByteArray) (s0_1 : Int) (s0_2 : Int) (s0_3 : Int) (a1 : Int) (r1 : Bool) (r2 : ByteArray) (r3 : Int) (r4 : Int) (r5 : Int) (w0 w : World) (hgl : Go.Proofs.YtidcecpbihmloaaGreatDoorX.GL w0) (hI : IsS61 w0 w g s0_0 s0_1 s0_2 s0_3) (hB : Below w0.heap.size w0 w) (h : datum_reader_must.f s0_0 s0_1 s0_2 s0_3 a1 = some (r1, r2, r3, r4, r5)) :
  Calls Tryz.prog 78 #[.pointer (some ⟨g, 0, none⟩), .int .u8 a1] w fun e w' => e = .returned (.bool r1) ∧ IsS61 w0 w' g r2 r3 r4 r5 ∧ Below w0.heap.size w0 w' ∧ KeepBut w w' g none := by
 have HI0 := Aside0.mk hI
 have HK := Aside0.mk (KeepBut.refl w g none)
 have HL := Aside0.mk hB.size
 clear hI
 have HGL := Aside0.mk hgl
 clear hgl
 have HW0 := Aside0.mk hB.size
 have HB := Aside0.mk hB
 clear hB
 have H : (if s0_3 = 0 then (if s0_1 = (s0_0.size : Int) then ((datum_reader_fail.f s0_0 s0_1 s0_2 s0_3 s0_1 2).bind fun bt195 => (some (false, bt195.1, bt195.2.1, bt195.2.2.1, bt195.2.2.2))) else (if 0 ≤ s0_1 then (if s0_1 < (s0_0.size : Int) then (if (bt s0_0 s0_1) = a1 then (some (true, s0_0, wrap64 (s0_1 + 1), s0_2, s0_3)) else ((datum_reader_fail.f s0_0 s0_1 s0_2 s0_3 s0_1 2).bind fun bt199 => (some (false, bt199.1, bt199.2.1, bt199.2.2.1, bt199.2.2.2)))) else (none)) else (none))) else ((datum_reader_fail.f s0_0 s0_1 s0_2 s0_3 s0_1 2).bind fun bt203 => (some (false, bt203.1, bt203.2.1, bt203.2.2.1, bt203.2.2.2)))) = some (r1, r2, r3, r4, r5) := h
 clear h
 by_cases c3 : s0_3 = 0
 ·rw [if_pos c3] at H
  have c3b0 : (s0_3 == 0) = true := beq_iff_eq.mpr c3
  have c3b1 : (s0_3 != 0) = false := bne_eq_false_iff_eq.mpr c3
  clear c3
  by_cases c4 : s0_1 = (s0_0.size : Int)
  ·rw [if_pos c4] at H
   have c4b0 : (s0_1 == (s0_0.size : Int)) = true := beq_iff_eq.mpr c4
   have c4b1 : (s0_1 != (s0_0.size : Int)) = false := bne_eq_false_iff_eq.mpr c4
   clear c4
   replace H := Option.bind_eq_some_iff.mp H
   obtain ⟨⟨t195, t196, t197, t198⟩, A50, H⟩ := H
   replace H : (some (false, t195, t196, t197, t198)) = some (r1, r2, r3, r4, r5) := H
   have A5 := Aside0.mk A50
   clear A50
   simp only [Option.some.injEq, Prod.mk.injEq] at H
   obtain ⟨rfl, rfl, rfl, rfl, rfl⟩ := H
   obtain ⟨HGz6, hgz6⟩ := HI0.out
   have hcz6_0 := cellS61_0 HGz6
   have hcz6_1 := cellS61_1 HGz6
   have hcz6_2 := cellS61_2 HGz6
   have hcz6_3 := cellS61_3 HGz6
   have hfz6_0 := blk_frozen HGz6 0
   have hfz6_1 := blk_frozen HGz6 1
   have hfz6_2 := blk_frozen HGz6 2
   have hfz6_3 := blk_frozen HGz6 3
   clear HGz6 hgz6
   go_enter Tryz.func78, Tryz.ntmps78
   go_wp2_with (first | (go_at_call 30; (with_reducible refine (datum_reader_fail.calls g s0_0 s0_1 s0_2 s0_3 s0_1 2 t195 t196 t197 t198 w0 _ ?side3 ?side1 ?side2 A5.out).mono ?_); (case side1 => repeat (first | (with_reducible first | exact HI0.out | apply IsS61.alloc | apply IsS61.drewN | apply IsS61.drew | apply IsS61.set_0 | apply IsS61.set_1 | apply IsS61.set_2 | apply IsS61.set_3) | exact HI0.out)); (case side2 => repeat (first | (with_reducible first | exact HB.out | apply below_alloc | apply pw_below_drewN | apply below_drew1 | refine below_set ?_ (IsS61.ge HI0.out)) | exact HB.out)); (case side3 => first | exact HGL.out | exact (Go.Proofs.YtidcecpbihmloaaGreatDoorX.GL.below HGL.out (by repeat (first | (with_reducible first | exact HB.out | apply below_alloc | apply pw_below_drewN | apply below_drew1 | refine below_set ?_ (IsS61.ge HI0.out)) | exact HB.out))) | (repeat (first | exact HGL.out | (with_reducible refine Go.Proofs.YtidcecpbihmloaaGreatDoorX.GL.drewN ?_ _) | (with_reducible refine Go.Proofs.YtidcecpbihmloaaGreatDoorX.GL.drew ?_)))); rintro e w7 ⟨rfl, hi, hb, hk⟩; have n0_ := Aside0.mk (KeepBut.trans (by repeat (first | (with_reducible first | exact HK.out | apply KeepBut.set_ | apply keep_drewN | apply keep_drew | apply keep_alloc) | exact HK.out)) hk (.inl rfl)); have n1_ := Aside0.mk (hb); have n2_ := Aside0.mk (hi); clear HK; clear HB; clear HI0; have HK := n0_; have HB := n1_; have HI0 := n2_; clear n0_ n1_ n2_; (try clear hb); (try clear hb2); (try clear hk); (try clear hi)))
   repeat (go_quiet (first | (go_at_call 30; (with_reducible refine (datum_reader_fail.calls g s0_0 s0_1 s0_2 s0_3 s0_1 2 t195 t196 t197 t198 w0 _ ?side3 ?side1 ?side2 A5.out).mono ?_); (case side1 => repeat (first | (with_reducible first | exact HI0.out | apply IsS61.alloc | apply IsS61.drewN | apply IsS61.drew | apply IsS61.set_0 | apply IsS61.set_1 | apply IsS61.set_2 | apply IsS61.set_3) | exact HI0.out)); (case side2 => repeat (first | (with_reducible first | exact HB.out | apply below_alloc | apply pw_below_drewN | apply below_drew1 | refine below_set ?_ (IsS61.ge HI0.out)) | exact HB.out)); (case side3 => first | exact HGL.out | exact (Go.Proofs.YtidcecpbihmloaaGreatDoorX.GL.below HGL.out (by repeat (first | (with_reducible first | exact HB.out | apply below_alloc | apply pw_below_drewN | apply below_drew1 | refine below_set ?_ (IsS61.ge HI0.out)) | exact HB.out))) | (repeat (first | exact HGL.out | (with_reducible refine Go.Proofs.YtidcecpbihmloaaGreatDoorX.GL.drewN ?_ _) | (with_reducible refine Go.Proofs.YtidcecpbihmloaaGreatDoorX.GL.drew ?_)))); rintro e w7 ⟨rfl, hi, hb, hk⟩; have n0_ := Aside0.mk (KeepBut.trans (by repeat (first | (with_reducible first | exact HK.out | apply KeepBut.set_ | apply keep_drewN | apply keep_drew | apply keep_alloc) | exact HK.out)) hk (.inl rfl)); have n1_ := Aside0.mk (hb); have n2_ := Aside0.mk (hi); clear HK; clear HB; clear HI0; have HK := n0_; have HB := n1_; have HI0 := n2_; clear n0_ n1_ n2_; (try clear hb); (try clear hb2); (try clear hk); (try clear hi))); try go_wp2_with (first | (go_at_call 30; (with_reducible refine (datum_reader_fail.calls g s0_0 s0_1 s0_2 s0_3 s0_1 2 t195 t196 t197 t198 w0 _ ?side3 ?side1 ?side2 A5.out).mono ?_); (case side1 => repeat (first | (with_reducible first | exact HI0.out | apply IsS61.alloc | apply IsS61.drewN | apply IsS61.drew | apply IsS61.set_0 | apply IsS61.set_1 | apply IsS61.set_2 | apply IsS61.set_3) | exact HI0.out)); (case side2 => repeat (first | (with_reducible first | exact HB.out | apply below_alloc | apply pw_below_drewN | apply below_drew1 | refine below_set ?_ (IsS61.ge HI0.out)) | exact HB.out)); (case side3 => first | exact HGL.out | exact (Go.Proofs.YtidcecpbihmloaaGreatDoorX.GL.below HGL.out (by repeat (first | (with_reducible first | exact HB.out | apply below_alloc | apply pw_below_drewN | apply below_drew1 | refine below_set ?_ (IsS61.ge HI0.out)) | exact HB.out))) | (repeat (first | exact HGL.out | (with_reducible refine Go.Proofs.YtidcecpbihmloaaGreatDoorX.GL.drewN ?_ _) | (with_reducible refine Go.Proofs.YtidcecpbihmloaaGreatDoorX.GL.drew ?_)))); rintro e w7 ⟨rfl, hi, hb, hk⟩; have n0_ := Aside0.mk (KeepBut.trans (by repeat (first | (with_reducible first | exact HK.out | apply KeepBut.set_ | apply keep_drewN | apply keep_drew | apply keep_alloc) | exact HK.out)) hk (.inl rfl)); have n1_ := Aside0.mk (hb); have n2_ := Aside0.mk (hi); clear HK; clear HB; clear HI0; have HK := n0_; have HB := n1_; have HI0 := n2_; clear n0_ n1_ n2_; (try clear hb); (try clear hb2); (try clear hk); (try clear hi))))
   go_ret
   exact ⟨by first | rfl | (simp [errW_none, errW_some] <;> first | rfl | exact emp_bne _ | exact (emp_bne _).symm | exact emp_bne' _ | exact (emp_bne' _).symm) | (simp [*, errW_none, errW_some] <;> rfl), by repeat (first | (with_reducible first | exact HI0.out | apply IsS61.alloc | apply IsS61.drewN | apply IsS61.drew | apply IsS61.set_0 | apply IsS61.set_1 | apply IsS61.set_2 | apply IsS61.set_3) | exact HI0.out), by repeat (first | (with_reducible first | exact HB.out | apply below_alloc | apply pw_below_drewN | apply below_drew1 | refine below_set ?_ (IsS61.ge HI0.out)) | exact HB.out), by repeat (first | (with_reducible first | exact HK.out | apply KeepBut.set_ | apply keep_drewN | apply keep_drew | apply keep_alloc) | exact HK.out)⟩
  ·rw [if_neg c4] at H
   have c4b0 : (s0_1 == (s0_0.size : Int)) = false := beq_eq_false_iff_ne.mpr c4
   have c4b1 : (s0_1 != (s0_0.size : Int)) = true := bne_iff_ne.mpr c4
   by_cases c8 : 0 ≤ s0_1
   ·rw [if_pos c8] at H
    have c8b0 : decide (0 ≤ s0_1) = true := decide_eq_true c8
    clear c8
    by_cases c9 : s0_1 < (s0_0.size : Int)
    ·rw [if_pos c9] at H
     have c9b0 : decide (s0_1 < (s0_0.size : Int)) = true := decide_eq_true c9
     clear c9
     by_cases c11 : (bt s0_0 s0_1) = a1
     ·rw [if_pos c11] at H
      have c11b0 : ((bt s0_0 s0_1) == a1) = true := beq_iff_eq.mpr c11
      have c11b1 : ((bt s0_0 s0_1) != a1) = false := bne_eq_false_iff_eq.mpr c11
      clear c11
      simp only [Option.some.injEq, Prod.mk.injEq] at H
      obtain ⟨rfl, rfl, rfl, rfl, rfl⟩ := H
      obtain ⟨HGz12, hgz12⟩ := HI0.out
      have hcz12_0 := cellS61_0 HGz12
      have hcz12_1 := cellS61_1 HGz12
      have hcz12_2 := cellS61_2 HGz12
      have hcz12_3 := cellS61_3 HGz12
      have hfz12_0 := blk_frozen HGz12 0
      have hfz12_1 := blk_frozen HGz12 1
      have hfz12_2 := blk_frozen HGz12 2
      have hfz12_3 := blk_frozen HGz12 3
      clear HGz12 hgz12
      have p10 : 0 ≤ (s0_1 : Int) := of_decide_eq_true (by first | (with_reducible assumption) | assumption)
      have q10 : s0_1 < (s0_0.size : Int) := of_decide_eq_true (by first | (with_reducible assumption) | assumption)
      have hx10 := bt_at s0_0 s0_1
      replace p10 := eq_true p10
      replace q10 := eq_true q10
      go_enter Tryz.func78, Tryz.ntmps78
      go_wp2
      repeat (go_quiet (fail); try go_wp2)
      go_ret
      exact ⟨by first | rfl | (simp [errW_none, errW_some] <;> first | rfl | exact emp_bne _ | exact (emp_bne _).symm | exact emp_bne' _ | exact (emp_bne' _).symm) | (simp [*, errW_none, errW_some] <;> rfl), by repeat (first | (with_reducible first | exact HI0.out | apply IsS61.alloc | apply IsS61.drewN | apply IsS61.drew | apply IsS61.set_0 | apply IsS61.set_1 | apply IsS61.set_2 | apply IsS61.set_3) | exact HI0.out), by repeat (first | (with_reducible first | exact HB.out | apply below_alloc | apply pw_below_drewN | apply below_drew1 | refine below_set ?_ (IsS61.ge HI0.out)) | exact HB.out), by repeat (first | (with_reducible first | exact HK.out | apply KeepBut.set_ | apply keep_drewN | apply keep_drew | apply keep_alloc) | exact HK.out)⟩
     ·rw [if_neg c11] at H
      have c11b0 : ((bt s0_0 s0_1) == a1) = false := beq_eq_false_iff_ne.mpr c11
      have c11b1 : ((bt s0_0 s0_1) != a1) = true := bne_iff_ne.mpr c11
      replace H := Option.bind_eq_some_iff.mp H
      obtain ⟨⟨t199, t200, t201, t202⟩, A130, H⟩ := H
      replace H : (some (false, t199, t200, t201, t202)) = some (r1, r2, r3, r4, r5) := H
      have A13 := Aside0.mk A130
      clear A130
      simp only [Option.some.injEq, Prod.mk.injEq] at H
      obtain ⟨rfl, rfl, rfl, rfl, rfl⟩ := H
      obtain ⟨HGz14, hgz14⟩ := HI0.out
      have hcz14_0 := cellS61_0 HGz14
      have hcz14_1 := cellS61_1 HGz14
      have hcz14_2 := cellS61_2 HGz14
      have hcz14_3 := cellS61_3 HGz14
      have hfz14_0 := blk_frozen HGz14 0
      have hfz14_1 := blk_frozen HGz14 1
      have hfz14_2 := blk_frozen HGz14 2
      have hfz14_3 := blk_frozen HGz14 3
      clear HGz14 hgz14
      have p10 : 0 ≤ (s0_1 : Int) := of_decide_eq_true (by first | (with_reducible assumption) | assumption)
      have q10 : s0_1 < (s0_0.size : Int) := of_decide_eq_true (by first | (with_reducible assumption) | assumption)
      have hx10 := bt_at s0_0 s0_1
      replace p10 := eq_true p10
      replace q10 := eq_true q10
      go_enter Tryz.func78, Tryz.ntmps78
      go_wp2_with (first | (go_at_call 30; (with_reducible refine (datum_reader_fail.calls g s0_0 s0_1 s0_2 s0_3 s0_1 2 t199 t200 t201 t202 w0 _ ?side3 ?side1 ?side2 A13.out).mono ?_); (case side1 => repeat (first | (with_reducible first | exact HI0.out | apply IsS61.alloc | apply IsS61.drewN | apply IsS61.drew | apply IsS61.set_0 | apply IsS61.set_1 | apply IsS61.set_2 | apply IsS61.set_3) | exact HI0.out)); (case side2 => repeat (first | (with_reducible first | exact HB.out | apply below_alloc | apply pw_below_drewN | apply below_drew1 | refine below_set ?_ (IsS61.ge HI0.out)) | exact HB.out)); (case side3 => first | exact HGL.out | exact (Go.Proofs.YtidcecpbihmloaaGreatDoorX.GL.below HGL.out (by repeat (first | (with_reducible first | exact HB.out | apply below_alloc | apply pw_below_drewN | apply below_drew1 | refine below_set ?_ (IsS61.ge HI0.out)) | exact HB.out))) | (repeat (first | exact HGL.out | (with_reducible refine Go.Proofs.YtidcecpbihmloaaGreatDoorX.GL.drewN ?_ _) | (with_reducible refine Go.Proofs.YtidcecpbihmloaaGreatDoorX.GL.drew ?_)))); rintro e w15 ⟨rfl, hi, hb, hk⟩; have n0_ := Aside0.mk (KeepBut.trans (by repeat (first | (with_reducible first | exact HK.out | apply KeepBut.set_ | apply keep_drewN | apply keep_drew | apply keep_alloc) | exact HK.out)) hk (.inl rfl)); have n1_ := Aside0.mk (hb); have n2_ := Aside0.mk (hi); clear HK; clear HB; clear HI0; have HK := n0_; have HB := n1_; have HI0 := n2_; clear n0_ n1_ n2_; (try clear hb); (try clear hb2); (try clear hk); (try clear hi)))
      repeat (go_quiet (first | (go_at_call 30; (with_reducible refine (datum_reader_fail.calls g s0_0 s0_1 s0_2 s0_3 s0_1 2 t199 t200 t201 t202 w0 _ ?side3 ?side1 ?side2 A13.out).mono ?_); (case side1 => repeat (first | (with_reducible first | exact HI0.out | apply IsS61.alloc | apply IsS61.drewN | apply IsS61.drew | apply IsS61.set_0 | apply IsS61.set_1 | apply IsS61.set_2 | apply IsS61.set_3) | exact HI0.out)); (case side2 => repeat (first | (with_reducible first | exact HB.out | apply below_alloc | apply pw_below_drewN | apply below_drew1 | refine below_set ?_ (IsS61.ge HI0.out)) | exact HB.out)); (case side3 => first | exact HGL.out | exact (Go.Proofs.YtidcecpbihmloaaGreatDoorX.GL.below HGL.out (by repeat (first | (with_reducible first | exact HB.out | apply below_alloc | apply pw_below_drewN | apply below_drew1 | refine below_set ?_ (IsS61.ge HI0.out)) | exact HB.out))) | (repeat (first | exact HGL.out | (with_reducible refine Go.Proofs.YtidcecpbihmloaaGreatDoorX.GL.drewN ?_ _) | (with_reducible refine Go.Proofs.YtidcecpbihmloaaGreatDoorX.GL.drew ?_)))); rintro e w15 ⟨rfl, hi, hb, hk⟩; have n0_ := Aside0.mk (KeepBut.trans (by repeat (first | (with_reducible first | exact HK.out | apply KeepBut.set_ | apply keep_drewN | apply keep_drew | apply keep_alloc) | exact HK.out)) hk (.inl rfl)); have n1_ := Aside0.mk (hb); have n2_ := Aside0.mk (hi); clear HK; clear HB; clear HI0; have HK := n0_; have HB := n1_; have HI0 := n2_; clear n0_ n1_ n2_; (try clear hb); (try clear hb2); (try clear hk); (try clear hi))); try go_wp2_with (first | (go_at_call 30; (with_reducible refine (datum_reader_fail.calls g s0_0 s0_1 s0_2 s0_3 s0_1 2 t199 t200 t201 t202 w0 _ ?side3 ?side1 ?side2 A13.out).mono ?_); (case side1 => repeat (first | (with_reducible first | exact HI0.out | apply IsS61.alloc | apply IsS61.drewN | apply IsS61.drew | apply IsS61.set_0 | apply IsS61.set_1 | apply IsS61.set_2 | apply IsS61.set_3) | exact HI0.out)); (case side2 => repeat (first | (with_reducible first | exact HB.out | apply below_alloc | apply pw_below_drewN | apply below_drew1 | refine below_set ?_ (IsS61.ge HI0.out)) | exact HB.out)); (case side3 => first | exact HGL.out | exact (Go.Proofs.YtidcecpbihmloaaGreatDoorX.GL.below HGL.out (by repeat (first | (with_reducible first | exact HB.out | apply below_alloc | apply pw_below_drewN | apply below_drew1 | refine below_set ?_ (IsS61.ge HI0.out)) | exact HB.out))) | (repeat (first | exact HGL.out | (with_reducible refine Go.Proofs.YtidcecpbihmloaaGreatDoorX.GL.drewN ?_ _) | (with_reducible refine Go.Proofs.YtidcecpbihmloaaGreatDoorX.GL.drew ?_)))); rintro e w15 ⟨rfl, hi, hb, hk⟩; have n0_ := Aside0.mk (KeepBut.trans (by repeat (first | (with_reducible first | exact HK.out | apply KeepBut.set_ | apply keep_drewN | apply keep_drew | apply keep_alloc) | exact HK.out)) hk (.inl rfl)); have n1_ := Aside0.mk (hb); have n2_ := Aside0.mk (hi); clear HK; clear HB; clear HI0; have HK := n0_; have HB := n1_; have HI0 := n2_; clear n0_ n1_ n2_; (try clear hb); (try clear hb2); (try clear hk); (try clear hi))))
      go_ret
      exact ⟨by first | rfl | (simp [errW_none, errW_some] <;> first | rfl | exact emp_bne _ | exact (emp_bne _).symm | exact emp_bne' _ | exact (emp_bne' _).symm) | (simp [*, errW_none, errW_some] <;> rfl), by repeat (first | (with_reducible first | exact HI0.out | apply IsS61.alloc | apply IsS61.drewN | apply IsS61.drew | apply IsS61.set_0 | apply IsS61.set_1 | apply IsS61.set_2 | apply IsS61.set_3) | exact HI0.out), by repeat (first | (with_reducible first | exact HB.out | apply below_alloc | apply pw_below_drewN | apply below_drew1 | refine below_set ?_ (IsS61.ge HI0.out)) | exact HB.out), by repeat (first | (with_reducible first | exact HK.out | apply KeepBut.set_ | apply keep_drewN | apply keep_drew | apply keep_alloc) | exact HK.out)⟩
    ·rw [if_neg c9] at H
     exact absurd H (by simp)
   ·rw [if_neg c8] at H
    exact absurd H (by simp)
 ·rw [if_neg c3] at H
  have c3b0 : (s0_3 == 0) = false := beq_eq_false_iff_ne.mpr c3
  have c3b1 : (s0_3 != 0) = true := bne_iff_ne.mpr c3
  replace H := Option.bind_eq_some_iff.mp H
  obtain ⟨⟨t203, t204, t205, t206⟩, A160, H⟩ := H
  replace H : (some (false, t203, t204, t205, t206)) = some (r1, r2, r3, r4, r5) := H
  have A16 := Aside0.mk A160
  clear A160
  simp only [Option.some.injEq, Prod.mk.injEq] at H
  obtain ⟨rfl, rfl, rfl, rfl, rfl⟩ := H
  obtain ⟨HGz17, hgz17⟩ := HI0.out
  have hcz17_0 := cellS61_0 HGz17
  have hcz17_1 := cellS61_1 HGz17
  have hcz17_2 := cellS61_2 HGz17
  have hcz17_3 := cellS61_3 HGz17
  have hfz17_0 := blk_frozen HGz17 0
  have hfz17_1 := blk_frozen HGz17 1
  have hfz17_2 := blk_frozen HGz17 2
  have hfz17_3 := blk_frozen HGz17 3
  clear HGz17 hgz17
  go_enter Tryz.func78, Tryz.ntmps78
  go_wp2_with (first | (go_at_call 30; (with_reducible refine (datum_reader_fail.calls g s0_0 s0_1 s0_2 s0_3 s0_1 2 t203 t204 t205 t206 w0 _ ?side3 ?side1 ?side2 A16.out).mono ?_); (case side1 => repeat (first | (with_reducible first | exact HI0.out | apply IsS61.alloc | apply IsS61.drewN | apply IsS61.drew | apply IsS61.set_0 | apply IsS61.set_1 | apply IsS61.set_2 | apply IsS61.set_3) | exact HI0.out)); (case side2 => repeat (first | (with_reducible first | exact HB.out | apply below_alloc | apply pw_below_drewN | apply below_drew1 | refine below_set ?_ (IsS61.ge HI0.out)) | exact HB.out)); (case side3 => first | exact HGL.out | exact (Go.Proofs.YtidcecpbihmloaaGreatDoorX.GL.below HGL.out (by repeat (first | (with_reducible first | exact HB.out | apply below_alloc | apply pw_below_drewN | apply below_drew1 | refine below_set ?_ (IsS61.ge HI0.out)) | exact HB.out))) | (repeat (first | exact HGL.out | (with_reducible refine Go.Proofs.YtidcecpbihmloaaGreatDoorX.GL.drewN ?_ _) | (with_reducible refine Go.Proofs.YtidcecpbihmloaaGreatDoorX.GL.drew ?_)))); rintro e w18 ⟨rfl, hi, hb, hk⟩; have n0_ := Aside0.mk (KeepBut.trans (by repeat (first | (with_reducible first | exact HK.out | apply KeepBut.set_ | apply keep_drewN | apply keep_drew | apply keep_alloc) | exact HK.out)) hk (.inl rfl)); have n1_ := Aside0.mk (hb); have n2_ := Aside0.mk (hi); clear HK; clear HB; clear HI0; have HK := n0_; have HB := n1_; have HI0 := n2_; clear n0_ n1_ n2_; (try clear hb); (try clear hb2); (try clear hk); (try clear hi)))
  repeat (go_quiet (first | (go_at_call 30; (with_reducible refine (datum_reader_fail.calls g s0_0 s0_1 s0_2 s0_3 s0_1 2 t203 t204 t205 t206 w0 _ ?side3 ?side1 ?side2 A16.out).mono ?_); (case side1 => repeat (first | (with_reducible first | exact HI0.out | apply IsS61.alloc | apply IsS61.drewN | apply IsS61.drew | apply IsS61.set_0 | apply IsS61.set_1 | apply IsS61.set_2 | apply IsS61.set_3) | exact HI0.out)); (case side2 => repeat (first | (with_reducible first | exact HB.out | apply below_alloc | apply pw_below_drewN | apply below_drew1 | refine below_set ?_ (IsS61.ge HI0.out)) | exact HB.out)); (case side3 => first | exact HGL.out | exact (Go.Proofs.YtidcecpbihmloaaGreatDoorX.GL.below HGL.out (by repeat (first | (with_reducible first | exact HB.out | apply below_alloc | apply pw_below_drewN | apply below_drew1 | refine below_set ?_ (IsS61.ge HI0.out)) | exact HB.out))) | (repeat (first | exact HGL.out | (with_reducible refine Go.Proofs.YtidcecpbihmloaaGreatDoorX.GL.drewN ?_ _) | (with_reducible refine Go.Proofs.YtidcecpbihmloaaGreatDoorX.GL.drew ?_)))); rintro e w18 ⟨rfl, hi, hb, hk⟩; have n0_ := Aside0.mk (KeepBut.trans (by repeat (first | (with_reducible first | exact HK.out | apply KeepBut.set_ | apply keep_drewN | apply keep_drew | apply keep_alloc) | exact HK.out)) hk (.inl rfl)); have n1_ := Aside0.mk (hb); have n2_ := Aside0.mk (hi); clear HK; clear HB; clear HI0; have HK := n0_; have HB := n1_; have HI0 := n2_; clear n0_ n1_ n2_; (try clear hb); (try clear hb2); (try clear hk); (try clear hi))); try go_wp2_with (first | (go_at_call 30; (with_reducible refine (datum_reader_fail.calls g s0_0 s0_1 s0_2 s0_3 s0_1 2 t203 t204 t205 t206 w0 _ ?side3 ?side1 ?side2 A16.out).mono ?_); (case side1 => repeat (first | (with_reducible first | exact HI0.out | apply IsS61.alloc | apply IsS61.drewN | apply IsS61.drew | apply IsS61.set_0 | apply IsS61.set_1 | apply IsS61.set_2 | apply IsS61.set_3) | exact HI0.out)); (case side2 => repeat (first | (with_reducible first | exact HB.out | apply below_alloc | apply pw_below_drewN | apply below_drew1 | refine below_set ?_ (IsS61.ge HI0.out)) | exact HB.out)); (case side3 => first | exact HGL.out | exact (Go.Proofs.YtidcecpbihmloaaGreatDoorX.GL.below HGL.out (by repeat (first | (with_reducible first | exact HB.out | apply below_alloc | apply pw_below_drewN | apply below_drew1 | refine below_set ?_ (IsS61.ge HI0.out)) | exact HB.out))) | (repeat (first | exact HGL.out | (with_reducible refine Go.Proofs.YtidcecpbihmloaaGreatDoorX.GL.drewN ?_ _) | (with_reducible refine Go.Proofs.YtidcecpbihmloaaGreatDoorX.GL.drew ?_)))); rintro e w18 ⟨rfl, hi, hb, hk⟩; have n0_ := Aside0.mk (KeepBut.trans (by repeat (first | (with_reducible first | exact HK.out | apply KeepBut.set_ | apply keep_drewN | apply keep_drew | apply keep_alloc) | exact HK.out)) hk (.inl rfl)); have n1_ := Aside0.mk (hb); have n2_ := Aside0.mk (hi); clear HK; clear HB; clear HI0; have HK := n0_; have HB := n1_; have HI0 := n2_; clear n0_ n1_ n2_; (try clear hb); (try clear hb2); (try clear hk); (try clear hi))))
  go_ret
  exact ⟨by first | rfl | (simp [errW_none, errW_some] <;> first | rfl | exact emp_bne _ | exact (emp_bne _).symm | exact emp_bne' _ | exact (emp_bne' _).symm) | (simp [*, errW_none, errW_some] <;> rfl), by repeat (first | (with_reducible first | exact HI0.out | apply IsS61.alloc | apply IsS61.drewN | apply IsS61.drew | apply IsS61.set_0 | apply IsS61.set_1 | apply IsS61.set_2 | apply IsS61.set_3) | exact HI0.out), by repeat (first | (with_reducible first | exact HB.out | apply below_alloc | apply pw_below_drewN | apply below_drew1 | refine below_set ?_ (IsS61.ge HI0.out)) | exact HB.out), by repeat (first | (with_reducible first | exact HK.out | apply KeepBut.set_ | apply keep_drewN | apply keep_drew | apply keep_alloc) | exact HK.out)⟩

def datum_reader_is.f (s0_0 : ByteArray) (s0_1 : Int) (s0_2 : Int) (s0_3 : Int) (a1 : Int) : Option (Bool × ByteArray × Int × Int × Int) := if s0_3 = 0 then (if s0_1 < (s0_0.size : Int) then (if 0 ≤ s0_1 then (if (bt s0_0 s0_1) = a1 then (some (true, s0_0, wrap64 (s0_1 + 1), s0_2, s0_3)) else (some (false, s0_0, s0_1, s0_2, s0_3))) else (none)) else (some (false, s0_0, s0_1, s0_2, s0_3))) else (some (false, s0_0, s0_1, s0_2, s0_3))
set_option maxHeartbeats 8000000 in
set_option maxRecDepth 100000 in
theorem datum_reader_is.calls (g : Nat) (s0_0 : ByteArray) (s0_1 : Int) (s0_2 : Int) (s0_3 : Int) (a1 : Int) (r1 : Bool) (r2 : ByteArray) (r3 : Int) (r4 : Int) (r5 : Int) (w0 w : World) (hgl : Go.Proofs.YtidcecpbihmloaaGreatDoorX.GL w0) (hI : IsS61 w0 w g s0_0 s0_1 s0_2 s0_3) (hB : Below w0.heap.size w0 w) (h : datum_reader_is.f s0_0 s0_1 s0_2 s0_3 a1 = some (r1, r2, r3, r4, r5)) :
  Calls Tryz.prog 79 #[.pointer (some ⟨g, 0, none⟩), .int .u8 a1] w fun e w' => e = .returned (.bool r1) ∧ IsS61 w0 w' g r2 r3 r4 r5 ∧ Below w0.heap.size w0 w' ∧ KeepBut w w' g none := by
 have HI0 := Aside0.mk hI
 have HK := Aside0.mk (KeepBut.refl w g none)
 have HL := Aside0.mk hB.size
 clear hI
 have HGL := Aside0.mk hgl
 clear hgl
 have HW0 := Aside0.mk hB.size
 have HB := Aside0.mk hB
 clear hB
 have H : (if s0_3 = 0 then (if s0_1 < (s0_0.size : Int) then (if 0 ≤ s0_1 then (if (bt s0_0 s0_1) = a1 then (some (true, s0_0, wrap64 (s0_1 + 1), s0_2, s0_3)) else (some (false, s0_0, s0_1, s0_2, s0_3))) else (none)) else (some (false, s0_0, s0_1, s0_2, s0_3))) else (some (false, s0_0, s0_1, s0_2, s0_3))) = some (r1, r2, r3, r4, r5) := h
 clear h
 by_cases c3 : s0_3 = 0
 ·rw [if_pos c3] at H
  have c3b0 : (s0_3 == 0) = true := beq_iff_eq.mpr c3
  have c3b1 : (s0_3 != 0) = false := bne_eq_false_iff_eq.mpr c3
  clear c3
  by_cases c4 : s0_1 < (s0_0.size : Int)
  ·rw [if_pos c4] at H
   have c4b0 : decide (s0_1 < (s0_0.size : Int)) = true := decide_eq_true c4
   clear c4
   by_cases c5 : 0 ≤ s0_1
   ·rw [if_pos c5] at H
    have c5b0 : decide (0 ≤ s0_1) = true := decide_eq_true c5
    clear c5
    by_cases c7 : (bt s0_0 s0_1) = a1
    ·rw [if_pos c7] at H
     have c7b0 : ((bt s0_0 s0_1) == a1) = true := beq_iff_eq.mpr c7
     have c7b1 : ((bt s0_0 s0_1) != a1) = false := bne_eq_false_iff_eq.mpr c7
     clear c7
     simp only [Option.some.injEq, Prod.mk.injEq] at H
     obtain ⟨rfl, rfl, rfl, rfl, rfl⟩ := H
     obtain ⟨HGz8, hgz8⟩ := HI0.out
     have hcz8_0 := cellS61_0 HGz8
     have hcz8_1 := cellS61_1 HGz8
     have hcz8_2 := cellS61_2 HGz8
     have hcz8_3 := cellS61_3 HGz8
     have hfz8_0 := blk_frozen HGz8 0
     have hfz8_1 := blk_frozen HGz8 1
     have hfz8_2 := blk_frozen HGz8 2
     have hfz8_3 := blk_frozen HGz8 3
     clear HGz8 hgz8
     have p6 : 0 ≤ (s0_1 : Int) := of_decide_eq_true (by first | (with_reducible assumption) | assumption)
     have q6 : s0_1 < (s0_0.size : Int) := of_decide_eq_true (by first | (with_reducible assumption) | assumption)
     have hx6 := bt_at s0_0 s0_1
     replace p6 := eq_true p6
     replace q6 := eq_true q6
     go_enter Tryz.func79, Tryz.ntmps79
     go_wp2
     repeat (go_quiet (fail); try go_wp2)
     go_ret
     exact ⟨by first | rfl | (simp [errW_none, errW_some] <;> first | rfl | exact emp_bne _ | exact (emp_bne _).symm | exact emp_bne' _ | exact (emp_bne' _).symm) | (simp [*, errW_none, errW_some] <;> rfl), by repeat (first | (with_reducible first | exact HI0.out | apply IsS61.alloc | apply IsS61.drewN | apply IsS61.drew | apply IsS61.set_0 | apply IsS61.set_1 | apply IsS61.set_2 | apply IsS61.set_3) | exact HI0.out), by repeat (first | (with_reducible first | exact HB.out | apply below_alloc | apply pw_below_drewN | apply below_drew1 | refine below_set ?_ (IsS61.ge HI0.out)) | exact HB.out), by repeat (first | (with_reducible first | exact HK.out | apply KeepBut.set_ | apply keep_drewN | apply keep_drew | apply keep_alloc) | exact HK.out)⟩
    ·rw [if_neg c7] at H
     have c7b0 : ((bt s0_0 s0_1) == a1) = false := beq_eq_false_iff_ne.mpr c7
     have c7b1 : ((bt s0_0 s0_1) != a1) = true := bne_iff_ne.mpr c7
     simp only [Option.some.injEq, Prod.mk.injEq] at H
     obtain ⟨rfl, rfl, rfl, rfl, rfl⟩ := H
     obtain ⟨HGz9, hgz9⟩ := HI0.out
     have hcz9_0 := cellS61_0 HGz9
     have hcz9_1 := cellS61_1 HGz9
     have hcz9_2 := cellS61_2 HGz9
     have hcz9_3 := cellS61_3 HGz9
     have hfz9_0 := blk_frozen HGz9 0
     have hfz9_1 := blk_frozen HGz9 1
     have hfz9_2 := blk_frozen HGz9 2
     have hfz9_3 := blk_frozen HGz9 3
     clear HGz9 hgz9
     have p6 : 0 ≤ (s0_1 : Int) := of_decide_eq_true (by first | (with_reducible assumption) | assumption)
     have q6 : s0_1 < (s0_0.size : Int) := of_decide_eq_true (by first | (with_reducible assumption) | assumption)
     have hx6 := bt_at s0_0 s0_1
     replace p6 := eq_true p6
     replace q6 := eq_true q6
     go_enter Tryz.func79, Tryz.ntmps79
     go_wp2
     repeat (go_quiet (fail); try go_wp2)
     go_ret
     exact ⟨by first | rfl | (simp [errW_none, errW_some] <;> first | rfl | exact emp_bne _ | exact (emp_bne _).symm | exact emp_bne' _ | exact (emp_bne' _).symm) | (simp [*, errW_none, errW_some] <;> rfl), by repeat (first | (with_reducible first | exact HI0.out | apply IsS61.alloc | apply IsS61.drewN | apply IsS61.drew | apply IsS61.set_0 | apply IsS61.set_1 | apply IsS61.set_2 | apply IsS61.set_3) | exact HI0.out), by repeat (first | (with_reducible first | exact HB.out | apply below_alloc | apply pw_below_drewN | apply below_drew1 | refine below_set ?_ (IsS61.ge HI0.out)) | exact HB.out), by repeat (first | (with_reducible first | exact HK.out | apply KeepBut.set_ | apply keep_drewN | apply keep_drew | apply keep_alloc) | exact HK.out)⟩
   ·rw [if_neg c5] at H
    exact absurd H (by simp)
  ·rw [if_neg c4] at H
   have c4b0 : decide (s0_1 < (s0_0.size : Int)) = false := decide_eq_false c4
   clear c4
   simp only [Option.some.injEq, Prod.mk.injEq] at H
   obtain ⟨rfl, rfl, rfl, rfl, rfl⟩ := H
   obtain ⟨HGz10, hgz10⟩ := HI0.out
   have hcz10_0 := cellS61_0 HGz10
   have hcz10_1 := cellS61_1 HGz10
   have hcz10_2 := cellS61_2 HGz10
   have hcz10_3 := cellS61_3 HGz10
   have hfz10_0 := blk_frozen HGz10 0
   have hfz10_1 := blk_frozen HGz10 1
   have hfz10_2 := blk_frozen HGz10 2
   have hfz10_3 := blk_frozen HGz10 3
   clear HGz10 hgz10
   go_enter Tryz.func79, Tryz.ntmps79
   go_wp2
   repeat (go_quiet (fail); try go_wp2)
   go_ret
   exact ⟨by first | rfl | (simp [errW_none, errW_some] <;> first | rfl | exact emp_bne _ | exact (emp_bne _).symm | exact emp_bne' _ | exact (emp_bne' _).symm) | (simp [*, errW_none, errW_some] <;> rfl), by repeat (first | (with_reducible first | exact HI0.out | apply IsS61.alloc | apply IsS61.drewN | apply IsS61.drew | apply IsS61.set_0 | apply IsS61.set_1 | apply IsS61.set_2 | apply IsS61.set_3) | exact HI0.out), by repeat (first | (with_reducible first | exact HB.out | apply below_alloc | apply pw_below_drewN | apply below_drew1 | refine below_set ?_ (IsS61.ge HI0.out)) | exact HB.out), by repeat (first | (with_reducible first | exact HK.out | apply KeepBut.set_ | apply keep_drewN | apply keep_drew | apply keep_alloc) | exact HK.out)⟩
 ·rw [if_neg c3] at H
  have c3b0 : (s0_3 == 0) = false := beq_eq_false_iff_ne.mpr c3
  have c3b1 : (s0_3 != 0) = true := bne_iff_ne.mpr c3
  simp only [Option.some.injEq, Prod.mk.injEq] at H
  obtain ⟨rfl, rfl, rfl, rfl, rfl⟩ := H
  obtain ⟨HGz11, hgz11⟩ := HI0.out
  have hcz11_0 := cellS61_0 HGz11
  have hcz11_1 := cellS61_1 HGz11
  have hcz11_2 := cellS61_2 HGz11
  have hcz11_3 := cellS61_3 HGz11
  have hfz11_0 := blk_frozen HGz11 0
  have hfz11_1 := blk_frozen HGz11 1
  have hfz11_2 := blk_frozen HGz11 2
  have hfz11_3 := blk_frozen HGz11 3
  clear HGz11 hgz11
  go_enter Tryz.func79, Tryz.ntmps79
  go_wp2
  repeat (go_quiet (fail); try go_wp2)
  go_ret
  exact ⟨by first | rfl | (simp [errW_none, errW_some] <;> first | rfl | exact emp_bne _ | exact (emp_bne _).symm | exact emp_bne' _ | exact (emp_bne' _).symm) | (simp [*, errW_none, errW_some] <;> rfl), by repeat (first | (with_reducible first | exact HI0.out | apply IsS61.alloc | apply IsS61.drewN | apply IsS61.drew | apply IsS61.set_0 | apply IsS61.set_1 | apply IsS61.set_2 | apply IsS61.set_3) | exact HI0.out), by repeat (first | (with_reducible first | exact HB.out | apply below_alloc | apply pw_below_drewN | apply below_drew1 | refine below_set ?_ (IsS61.ge HI0.out)) | exact HB.out), by repeat (first | (with_reducible first | exact HK.out | apply KeepBut.set_ | apply keep_drewN | apply keep_drew | apply keep_alloc) | exact HK.out)⟩

def cmp_isNaN_string.f (a0 : ByteArray) : Option (Bool) := some (a0.toList != a0.toList)
set_option maxHeartbeats 8000000 in
set_option maxRecDepth 100000 in
theorem cmp_isNaN_string.calls (a0 : ByteArray) (r : Bool) (w : World) (hgl : Go.Proofs.YtidcecpbihmloaaGreatDoorX.GL w) (h : cmp_isNaN_string.f a0 = some r) :
  Calls Tryz.prog 63 #[.string a0] w fun e w' => e = .returned (.bool r) ∧ Drawn0 w w' := by
 have HGL := Aside0.mk hgl
 clear hgl
 have H : (some (a0.toList != a0.toList)) = some r := h
 clear h
 obtain rfl := Option.some.inj H
 go_enter Tryz.func63, Tryz.ntmps63
 go_wp2
 go_ret
 exact ⟨by first | rfl | (simp; done) | (simp [*]; done), by repeat (first | exact Drawn0.refl _ | apply Drawn0.step)⟩

def cmp_Less_string.f (a0 : ByteArray) (a1 : ByteArray) : Option (Bool) := (cmp_isNaN_string.f a0).bind fun t207 => (if t207 = true then ((cmp_isNaN_string.f a1).bind fun t208 => (if t208 = true then (some (Op.bytesLess a0.toList a1.toList)) else (some true))) else (some (Op.bytesLess a0.toList a1.toList)))
set_option maxHeartbeats 8000000 in
set_option maxRecDepth 100000 in
theorem cmp_Less_string.calls (a0 : ByteArray) (a1 : ByteArray) (r : Bool) (w : World) (hgl : Go.Proofs.YtidcecpbihmloaaGreatDoorX.GL w) (h : cmp_Less_string.f a0 a1 = some r) :
  Calls Tryz.prog 35 #[.string a0, .string a1] w fun e w' => e = .returned (.bool r) ∧ Drawn0 w w' := by
 have HGL := Aside0.mk hgl
 clear hgl
 have H : ((cmp_isNaN_string.f a0).bind fun t207 => (if t207 = true then ((cmp_isNaN_string.f a1).bind fun t208 => (if t208 = true then (some (Op.bytesLess a0.toList a1.toList)) else (some true))) else (some (Op.bytesLess a0.toList a1.toList)))) = some r := h
 clear h
 replace H := Option.bind_eq_some_iff.mp H
 obtain ⟨t207, A30, H⟩ := H
 replace H : (if t207 = true then ((cmp_isNaN_string.f a1).bind fun t208 => (if t208 = true then (some (Op.bytesLess a0.toList a1.toList)) else (some true))) else (some (Op.bytesLess a0.toList a1.toList))) = some r := H
 have A3 := Aside0.mk A30
 clear A30
 by_cases c4 : t207 = true
 ·subst c4
  have H1 : ((cmp_isNaN_string.f a1).bind fun t208 => (if t208 = true then (some (Op.bytesLess a0.toList a1.toList)) else (some true))) = some r := by rw [if_pos rfl] at H; exact H
  clear H
  have H := H1
  clear H1
  replace H := Option.bind_eq_some_iff.mp H
  obtain ⟨t208, A50, H⟩ := H
  replace H : (if t208 = true then (some (Op.bytesLess a0.toList a1.toList)) else (some true)) = some r := H
  have A5 := Aside0.mk A50
  clear A50
  by_cases c6 : t208 = true
  ·subst c6
   have H1 : (some (Op.bytesLess a0.toList a1.toList)) = some r := by rw [if_pos rfl] at H; exact H
   clear H
   have H := H1
   clear H1
   obtain rfl := Option.some.inj H
   go_enter Tryz.func35, Tryz.ntmps35
   go_wp2_with (first | ((with_reducible refine gate_callee (f := 63) rfl ?_); refine goesL_ (some 6) rfl rfl Tryz.func63 (by kernel_rfl) rfl #[.string a0] rfl (by (try simp only [List.map_toArray, List.map_cons, List.map_nil]); first | done | rfl | (simp only [List.length_drop, List.length_take]; rfl)) ?_; (with_reducible refine (cmp_isNaN_string.calls a0 true _ ?side1 A3.out).mono ?_); (case side1 => first | exact HGL.out | (repeat (first | exact HGL.out | (with_reducible refine Go.Proofs.YtidcecpbihmloaaGreatDoorX.GL.drewN ?_ _) | (with_reducible refine Go.Proofs.YtidcecpbihmloaaGreatDoorX.GL.drew ?_)))); rintro e w' ⟨rfl, ⟨nd, rfl⟩⟩; refine ⟨_, rfl, ?_⟩) | (go_at_call 63; (with_reducible refine (cmp_isNaN_string.calls a1 true _ ?side1 A5.out).mono ?_); (case side1 => first | exact HGL.out | (repeat (first | exact HGL.out | (with_reducible refine Go.Proofs.YtidcecpbihmloaaGreatDoorX.GL.drewN ?_ _) | (with_reducible refine Go.Proofs.YtidcecpbihmloaaGreatDoorX.GL.drew ?_)))); rintro e w' ⟨rfl, ⟨nd, rfl⟩⟩))
   go_ret
   exact ⟨by first | rfl | (simp; done) | (simp [*]; done), by repeat (first | exact Drawn0.refl _ | apply Drawn0.step)⟩
  ·replace c6 := Bool.eq_false_iff.mpr c6
   subst c6
   have H1 : (some true) = some r := by rw [if_neg (show ¬ (false = true) by decide)] at H; exact H
   clear H
   have H := H1
   clear H1
   obtain rfl := Option.some.inj H
   go_enter Tryz.func35, Tryz.ntmps35
   go_wp2_with (first | ((with_reducible refine gate_callee (f := 63) rfl ?_); refine goesL_ (some 6) rfl rfl Tryz.func63 (by kernel_rfl) rfl #[.string a0] rfl (by (try simp only [List.map_toArray, List.map_cons, List.map_nil]); first | done | rfl | (simp only [List.length_drop, List.length_take]; rfl)) ?_; (with_reducible refine (cmp_isNaN_string.calls a0 true _ ?side1 A3.out).mono ?_); (case side1 => first | exact HGL.out | (repeat (first | exact HGL.out | (with_reducible refine Go.Proofs.YtidcecpbihmloaaGreatDoorX.GL.drewN ?_ _) | (with_reducible refine Go.Proofs.YtidcecpbihmloaaGreatDoorX.GL.drew ?_)))); rintro e w' ⟨rfl, ⟨nd, rfl⟩⟩; refine ⟨_, rfl, ?_⟩) | (go_at_call 63; (with_reducible refine (cmp_isNaN_string.calls a1 false _ ?side1 A5.out).mono ?_); (case side1 => first | exact HGL.out | (repeat (first | exact HGL.out | (with_reducible refine Go.Proofs.YtidcecpbihmloaaGreatDoorX.GL.drewN ?_ _) | (with_reducible refine Go.Proofs.YtidcecpbihmloaaGreatDoorX.GL.drew ?_)))); rintro e w' ⟨rfl, ⟨nd, rfl⟩⟩))
   go_ret
   exact ⟨by first | rfl | (simp; done) | (simp [*]; done), by repeat (first | exact Drawn0.refl _ | apply Drawn0.step)⟩
 ·replace c4 := Bool.eq_false_iff.mpr c4
  subst c4
  have H1 : (some (Op.bytesLess a0.toList a1.toList)) = some r := by rw [if_neg (show ¬ (false = true) by decide)] at H; exact H
  clear H
  have H := H1
  clear H1
  obtain rfl := Option.some.inj H
  go_enter Tryz.func35, Tryz.ntmps35
  go_wp2_with (first | ((with_reducible refine gate_callee (f := 63) rfl ?_); refine goesL_ (some 6) rfl rfl Tryz.func63 (by kernel_rfl) rfl #[.string a0] rfl (by (try simp only [List.map_toArray, List.map_cons, List.map_nil]); first | done | rfl | (simp only [List.length_drop, List.length_take]; rfl)) ?_; (with_reducible refine (cmp_isNaN_string.calls a0 false _ ?side1 A3.out).mono ?_); (case side1 => first | exact HGL.out | (repeat (first | exact HGL.out | (with_reducible refine Go.Proofs.YtidcecpbihmloaaGreatDoorX.GL.drewN ?_ _) | (with_reducible refine Go.Proofs.YtidcecpbihmloaaGreatDoorX.GL.drew ?_)))); rintro e w' ⟨rfl, ⟨nd, rfl⟩⟩; refine ⟨_, rfl, ?_⟩))
  go_ret
  exact ⟨by first | rfl | (simp; done) | (simp [*]; done), by repeat (first | exact Drawn0.refl _ | apply Drawn0.step)⟩

def slices_isNaN_string.f (a0 : ByteArray) : Option (Bool) := some (a0.toList != a0.toList)
set_option maxHeartbeats 8000000 in
set_option maxRecDepth 100000 in
theorem slices_isNaN_string.calls (a0 : ByteArray) (r : Bool) (w : World) (hgl : Go.Proofs.YtidcecpbihmloaaGreatDoorX.GL w) (h : slices_isNaN_string.f a0 = some r) :
  Calls Tryz.prog 36 #[.string a0] w fun e w' => e = .returned (.bool r) ∧ Drawn0 w w' := by
 have HGL := Aside0.mk hgl
 clear hgl
 have H : (some (a0.toList != a0.toList)) = some r := h
 clear h
 obtain rfl := Option.some.inj H
 go_enter Tryz.func36, Tryz.ntmps36
 go_wp2
 go_ret
 exact ⟨by first | rfl | (simp; done) | (simp [*]; done), by repeat (first | exact Drawn0.refl _ | apply Drawn0.step)⟩

end Go.Proofs.YtidcecpbihmloaaGreatDoor.P16

namespace Go.Proofs.YtidcecpbihmloaaGreatDoor.P16
open Go.RowKit Go.Proofs.YtidcecpbihmloaaGreatDoorE Go.Proofs.YtidcecpbihmloaaGreatDoorW.PrintWords Go.Proofs.YtidcecpbihmloaaGreatDoorW.PrintLast Go.Proofs.YtidcecpbihmloaaGreatDoorW.PrintMore
attribute [local go_sem] max2_int min2_int max_two min_two max_three min_three max_four min_four   -- for this text's walks alone
set_option linter.unusedVariables false
set_option linter.unusedSimpArgs false

def slices_BinarySearch_string_string.l0 : Nat → List ByteArray → ByteArray → Int → Int → Int → Option (Int × Bool)
 | 0, _, _, _, _, _ => none
 | k + 1, x0, x1, x6, x7, x8 => if x7 < x8 then (if 0 ≤ (wrap64 ((IntKind.u64.wrap (wrap64 (x7 + x8))) / 2)) then (if (wrap64 ((IntKind.u64.wrap (wrap64 (x7 + x8))) / 2)) < (x0.length : Int) then ((cmp_Less_string.f (rdOf ByteArray.empty x0 (wrap64 ((IntKind.u64.wrap (wrap64 (x7 + x8))) / 2))) x1).bind fun t210 => (if t210 = true then (slices_BinarySearch_string_string.l0 k x0 x1 x6 (wrap64 ((wrap64 ((IntKind.u64.wrap (wrap64 (x7 + x8))) / 2)) + 1)) x8) else (slices_BinarySearch_string_string.l0 k x0 x1 x6 x7 (wrap64 ((IntKind.u64.wrap (wrap64 (x7 + x8))) / 2))))) else (none)) else (none)) else (if x7 < x6 then (if 0 ≤ x7 then (if x7 < (x0.length : Int) then (if (rdOf ByteArray.empty x0 x7).toList = x1.toList then (some (x7, true)) else ((slices_isNaN_string.f (rdOf ByteArray.empty x0 x7)).bind fun t213 => (if t213 = true then ((slices_isNaN_string.f x1).bind fun t214 => (some (x7, t214))) else (some (x7, false))))) else (none)) else (none)) else (some (x7, false)))
def slices_BinarySearch_string_string.f (k : Nat) (l0 : List ByteArray) (a1 : ByteArray) : Option (Int × Bool) := slices_BinarySearch_string_string.l0 k l0 a1 (l0.length : Int) 0 (l0.length : Int)
theorem slices_BinarySearch_string_string.mono_l : ∀ k, (∀ y0 y1 y2 y3 y4, LeO (slices_BinarySearch_string_string.l0 k y0 y1 y2 y3 y4) (slices_BinarySearch_string_string.l0 (k + 1) y0 y1 y2 y3 y4))
 | 0 => fun _ _ _ _ _ r h => by simp [slices_BinarySearch_string_string.l0] at h
 | k + 1 => by
  have ih0 := slices_BinarySearch_string_string.mono_l k
  ·intro y0 y1 y2 y3 y4
   unfold slices_BinarySearch_string_string.l0
   repeat' first
   |(with_reducible exact ih0 _ _ _ _ _)
   |(with_reducible exact LeO.refl _)
   |(with_reducible exact LeO.none _)
   |(with_reducible refine LeO.ite ?_ ?_)
   | (with_reducible refine LeO.bind ?_ (fun _ => ?_))
   | exact ih0 _ _ _ _ _
   | exact LeO.none _
   | refine LeO.ite ?_ ?_
   | refine LeO.bind ?_ (fun _ => ?_)
theorem slices_BinarySearch_string_string.mono : ∀ a0 a1 k, LeO (slices_BinarySearch_string_string.f k a0 a1) (slices_BinarySearch_string_string.f (k + 1) a0 a1) := by
 intro a0 a1 k
 have ih0 := slices_BinarySearch_string_string.mono_l k
 unfold slices_BinarySearch_string_string.f
 repeat' first
   |(with_reducible exact ih0 _ _ _ _ _)
   |(with_reducible exact LeO.refl _)
   |(with_reducible exact LeO.none _)
   |(with_reducible refine LeO.ite ?_ ?_)
   | (with_reducible refine LeO.bind ?_ (fun _ => ?_))
   | exact ih0 _ _ _ _ _
   | exact LeO.none _
   | refine LeO.ite ?_ ?_
   | refine LeO.bind ?_ (fun _ => ?_)
set_option maxHeartbeats 8000000 in
set_option maxRecDepth 100000 in
theorem slices_BinarySearch_string_string.calls (k : Nat) (A0 : Option Addr) (c0 : Nat) (l0 : List ByteArray) (a1 : ByteArray) (r1 : Int) (r2 : Bool) (w : World) (hgl : Go.Proofs.YtidcecpbihmloaaGreatDoorX.GL w) (hr0 : Kd.C Kd.string w A0 l0.length l0) (hc0 : l0.length ≤ c0) (h : slices_BinarySearch_string_string.f k l0 a1 = some (r1, r2)) :
  Calls Tryz.prog 20 #[.slice A0 l0.length c0, .string a1] w fun e w' => e = .returned (.tuple #[.int .i64 r1, .bool r2]) ∧ Drawn0 w w' := by
 have HR0 := Aside0.mk hr0
 have HC0 := Aside0.mk hc0
 clear hr0 hc0
 have HGL := Aside0.mk hgl
 clear hgl
 have H : (slices_BinarySearch_string_string.l0 k l0 a1 (l0.length : Int) 0 (l0.length : Int)) = some (r1, r2) := h
 clear h
 have H' := Aside0.mk H
 clear H
 go_enter Tryz.func20, Tryz.ntmps20
 go_wp2
 go_loopg [7, 8] k (fun kq v7 v8 w' => ∃ (x7_1 : Int) (x8_1 : Int), v7 = .int .i64 x7_1 ∧ v8 = .int .i64 x8_1 ∧ Aside0 (slices_BinarySearch_string_string.l0 kq l0 a1 (l0.length : Int) x7_1 x8_1 = some (r1, r2)) ∧ Aside0 (kq ≤ k) ∧ Drawn0 w w')
 case atStart => exact ⟨(0), ((l0.length : Int)), (by first | rfl | (simp; done) | (simp [*]; done)), (by first | rfl | (simp; done) | (simp [*]; done)), H', ⟨Nat.le_refl _⟩, by repeat (first | exact Drawn0.refl _ | apply Drawn0.step)⟩
 case round =>
  clear H'
  try clear c2
  try clear p2
  obtain ⟨x7_1, x8_1, rfl, rfl, HA, HK1, ⟨m1, rfl⟩⟩ := hrel
  cases gk with
  | zero => exact absurd HA.out (by simp [slices_BinarySearch_string_string.l0])
  | succ k1 =>
   have H := HA.out
   clear HA
   simp only [slices_BinarySearch_string_string.l0] at H
   by_cases c3 : x7_1 < x8_1
   ·rw [if_pos c3] at H
    have c3b0 : decide (x7_1 < x8_1) = true := decide_eq_true c3
    clear c3
    obtain ⟨ji4, hji4⟩ : ∃ j_ : Int, (wrap64 ((IntKind.u64.wrap (wrap64 (x7_1 + x8_1))) / 2)) = j_ := ⟨_, rfl⟩
    replace H : (if 0 ≤ (ji4) then (if (ji4) < (l0.length : Int) then ((cmp_Less_string.f (rdOf ByteArray.empty l0 (ji4)) a1).bind fun t210 => (if t210 = true then (slices_BinarySearch_string_string.l0 k1 l0 a1 (l0.length : Int) (wrap64 ((ji4) + 1)) x8_1) else (slices_BinarySearch_string_string.l0 k1 l0 a1 (l0.length : Int) x7_1 ji4))) else (none)) else (none)) = some (r1, r2) := by first | (rw [hji4] at H; exact H) | (simp only [hji4] at H ⊢; exact H)
    have hji4w : (IntKind.i64.wrap ((IntKind.u64.wrap (wrap64 (x7_1 + x8_1))) / 2)) = ji4 := (i64_w _).trans hji4
    by_cases c5 : 0 ≤ (ji4)
    ·rw [if_pos c5] at H
     have c5b0 : decide (0 ≤ (ji4)) = true := decide_eq_true c5
     clear c5
     by_cases c6 : (ji4) < (l0.length : Int)
     ·rw [if_pos c6] at H
      have c6b0 : decide ((ji4) < (l0.length : Int)) = true := decide_eq_true c6
      clear c6
      replace H := Option.bind_eq_some_iff.mp H
      obtain ⟨t210, A70, H⟩ := H
      replace H : (if t210 = true then (slices_BinarySearch_string_string.l0 k1 l0 a1 (l0.length : Int) (wrap64 ((ji4) + 1)) x8_1) else (slices_BinarySearch_string_string.l0 k1 l0 a1 (l0.length : Int) x7_1 ji4)) = some (r1, r2) := H
      have A7 := Aside0.mk A70
      clear A70
      by_cases c8 : t210 = true
      ·subst c8
       have H1 : (slices_BinarySearch_string_string.l0 k1 l0 a1 (l0.length : Int) (wrap64 ((ji4) + 1)) x8_1) = some (r1, r2) := by rw [if_pos rfl] at H; exact H
       clear H
       have H := H1
       clear H1
       have H' := Aside0.mk H
       clear H
       have p209 : 0 ≤ ((ji4) : Int) := of_decide_eq_true (by first | (with_reducible assumption) | assumption)
       have q209 : (ji4) < (l0.length : Int) := of_decide_eq_true (by first | (with_reducible assumption) | assumption)
       obtain ⟨ad209, e209, hx209_0⟩ := Kd.at_string HR0.out (ji4) p209 q209
       cases e209
       replace p209 := eq_true p209
       replace q209 := eq_true q209
       go_wp2_with (first | ((with_reducible refine gate_callee (f := 35) rfl ?_); refine goesL_ (some 27) rfl rfl Tryz.func35 (by kernel_rfl) rfl #[.string (rdOf ByteArray.empty l0 (ji4)), .string a1] rfl (by (try simp only [List.map_toArray, List.map_cons, List.map_nil]); first | done | (simp only [hji4]; rfl) | rfl | (simp only [List.length_drop, List.length_take]; rfl)) ?_; (with_reducible refine (cmp_Less_string.calls (rdOf ByteArray.empty l0 (ji4)) a1 true _ ?side1 A7.out).mono ?_); (case side1 => first | exact HGL.out | (repeat (first | exact HGL.out | (with_reducible refine Go.Proofs.YtidcecpbihmloaaGreatDoorX.GL.drewN ?_ _) | (with_reducible refine Go.Proofs.YtidcecpbihmloaaGreatDoorX.GL.drew ?_)))); rintro e w' ⟨rfl, ⟨nd, rfl⟩⟩; refine ⟨_, rfl, ?_⟩))
       go_roundg k1
       case measure => have := HK1.out; omega
       case rel => exact ⟨(wrap64 ((ji4) + 1)), (x8_1), (by first | rfl | (simp; done) | (simp only [← hji4] <;> (first | rfl | simp)) | (simp [*]; done)), (by first | rfl | (simp; done) | (simp [*]; done)), H', ⟨by have := HK1.out; omega⟩, by repeat (first | exact Drawn0.refl _ | apply Drawn0.step)⟩
      ·replace c8 := Bool.eq_false_iff.mpr c8
       subst c8
       have H1 : (slices_BinarySearch_string_string.l0 k1 l0 a1 (l0.length : Int) x7_1 ji4) = some (r1, r2) := by rw [if_neg (show ¬ (false = true) by decide)] at H; exact H
       clear H
       have H := H1
       clear H1
       have H' := Aside0.mk H
       clear H
       have p209 : 0 ≤ ((ji4) : Int) := of_decide_eq_true (by first | (with_reducible assumption) | assumption)
       have q209 : (ji4) < (l0.length : Int) := of_decide_eq_true (by first | (with_reducible assumption) | assumption)
       obtain ⟨ad209, e209, hx209_0⟩ := Kd.at_string HR0.out (ji4) p209 q209
       cases e209
       replace p209 := eq_true p209
       replace q209 := eq_true q209
       go_wp2_with (first | ((with_reducible refine gate_callee (f := 35) rfl ?_); refine goesL_ (some 27) rfl rfl Tryz.func35 (by kernel_rfl) rfl #[.string (rdOf ByteArray.empty l0 (ji4)), .string a1] rfl (by (try simp only [List.map_toArray, List.map_cons, List.map_nil]); first | done | (simp only [hji4]; rfl) | rfl | (simp only [List.length_drop, List.length_take]; rfl)) ?_; (with_reducible refine (cmp_Less_string.calls (rdOf ByteArray.empty l0 (ji4)) a1 false _ ?side1 A7.out).mono ?_); (case side1 => first | exact HGL.out | (repeat (first | exact HGL.out | (with_reducible refine Go.Proofs.YtidcecpbihmloaaGreatDoorX.GL.drewN ?_ _) | (with_reducible refine Go.Proofs.YtidcecpbihmloaaGreatDoorX.GL.drew ?_)))); rintro e w' ⟨rfl, ⟨nd, rfl⟩⟩; refine ⟨_, rfl, ?_⟩))
       go_roundg k1
       case measure => have := HK1.out; omega
       case rel => exact ⟨(x7_1), (ji4), (by first | rfl | (simp; done) | (simp [*]; done)), (by first | rfl | (simp; done) | (simp only [← hji4] <;> (first | rfl | simp)) | (simp [*]; done)), H', ⟨by have := HK1.out; omega⟩, by repeat (first | exact Drawn0.refl _ | apply Drawn0.step)⟩
     ·rw [if_neg c6] at H
      exact absurd H (by simp)
    ·rw [if_neg c5] at H
     exact absurd H (by simp)
   ·rw [if_neg c3] at H
    have c3b0 : decide (x7_1 < x8_1) = false := decide_eq_false c3
    clear c3
    by_cases c9 : x7_1 < (l0.length : Int)
    ·rw [if_pos c9] at H
     have c9b0 : decide (x7_1 < (l0.length : Int)) = true := decide_eq_true c9
     clear c9
     by_cases c10 : 0 ≤ x7_1
     ·rw [if_pos c10] at H
      have c10b0 : decide (0 ≤ x7_1) = true := decide_eq_true c10
      clear c10
      by_cases c11 : x7_1 < (l0.length : Int)
      ·rw [if_pos c11] at H
       have c11b0 : decide (x7_1 < (l0.length : Int)) = true := decide_eq_true c11
       clear c11
       by_cases c12 : (rdOf ByteArray.empty l0 x7_1).toList = a1.toList
       ·rw [if_pos c12] at H
        have c12b0 : ((rdOf ByteArray.empty l0 x7_1).toList == a1.toList) = true := beq_iff_eq.mpr c12
        have c12b1 : ((rdOf ByteArray.empty l0 x7_1).toList != a1.toList) = false := bne_eq_false_iff_eq.mpr c12
        clear c12
        simp only [Option.some.injEq, Prod.mk.injEq] at H
        obtain ⟨rfl, rfl⟩ := H
        have p211 : 0 ≤ (x7_1 : Int) := of_decide_eq_true (by first | (with_reducible assumption) | assumption)
        have q211 : x7_1 < (l0.length : Int) := of_decide_eq_true (by first | (with_reducible assumption) | assumption)
        obtain ⟨ad211, e211, hx211_0⟩ := Kd.at_string HR0.out x7_1 p211 q211
        cases e211
        replace p211 := eq_true p211
        replace q211 := eq_true q211
        go_wp2
        go_ret2
        exact ⟨by first | rfl | (simp; done) | (simp [*]; done), by repeat (first | exact Drawn0.refl _ | apply Drawn0.step)⟩
       ·rw [if_neg c12] at H
        have c12b0 : ((rdOf ByteArray.empty l0 x7_1).toList == a1.toList) = false := beq_eq_false_iff_ne.mpr c12
        have c12b1 : ((rdOf ByteArray.empty l0 x7_1).toList != a1.toList) = true := bne_iff_ne.mpr c12
        replace H := Option.bind_eq_some_iff.mp H
        obtain ⟨t213, A130, H⟩ := H
        replace H : (if t213 = true then ((slices_isNaN_string.f a1).bind fun t214 => (some (x7_1, t214))) else (some (x7_1, false))) = some (r1, r2) := H
        have A13 := Aside0.mk A130
        clear A130
        by_cases c14 : t213 = true
        ·subst c14
         have H1 : ((slices_isNaN_string.f a1).bind fun t214 => (some (x7_1, t214))) = some (r1, r2) := by rw [if_pos rfl] at H; exact H
         clear H
         have H := H1
         clear H1
         replace H := Option.bind_eq_some_iff.mp H
         obtain ⟨t214, A150, H⟩ := H
         replace H : (some (x7_1, t214)) = some (r1, r2) := H
         have A15 := Aside0.mk A150
         clear A150
         simp only [Option.some.injEq, Prod.mk.injEq] at H
         obtain ⟨rfl, rfl⟩ := H
         have p211 : 0 ≤ (x7_1 : Int) := of_decide_eq_true (by first | (with_reducible assumption) | assumption)
         have q211 : x7_1 < (l0.length : Int) := of_decide_eq_true (by first | (with_reducible assumption) | assumption)
         obtain ⟨ad211, e211, hx211_0⟩ := Kd.at_string HR0.out x7_1 p211 q211
         cases e211
         replace p211 := eq_true p211
         replace q211 := eq_true q211
         have p212 : 0 ≤ (x7_1 : Int) := of_decide_eq_true (by first | (with_reducible assumption) | assumption)
         have q212 : x7_1 < (l0.length : Int) := of_decide_eq_true (by first | (with_reducible assumption) | assumption)
         obtain ⟨ad212, e212, hx212_0⟩ := Kd.at_string HR0.out x7_1 p212 q212
         obtain rfl : ad211 = ad212 := (by injection e212)
         replace p212 := eq_true p212
         replace q212 := eq_true q212
         go_wp2_with (first | (go_at_call 36; (with_reducible refine (slices_isNaN_string.calls (rdOf ByteArray.empty l0 x7_1) true _ ?side1 A13.out).mono ?_); (case side1 => first | exact HGL.out | (repeat (first | exact HGL.out | (with_reducible refine Go.Proofs.YtidcecpbihmloaaGreatDoorX.GL.drewN ?_ _) | (with_reducible refine Go.Proofs.YtidcecpbihmloaaGreatDoorX.GL.drew ?_)))); rintro e w' ⟨rfl, ⟨nd, rfl⟩⟩) | (go_at_call 36; (with_reducible refine (slices_isNaN_string.calls a1 t214 _ ?side1 A15.out).mono ?_); (case side1 => first | exact HGL.out | (repeat (first | exact HGL.out | (with_reducible refine Go.Proofs.YtidcecpbihmloaaGreatDoorX.GL.drewN ?_ _) | (with_reducible refine Go.Proofs.YtidcecpbihmloaaGreatDoorX.GL.drew ?_)))); rintro e w' ⟨rfl, ⟨nd, rfl⟩⟩))
         go_ret2
         exact ⟨by first | rfl | (simp; done) | (simp [*]; done), by repeat (first | exact Drawn0.refl _ | apply Drawn0.step)⟩
        ·replace c14 := Bool.eq_false_iff.mpr c14
         subst c14
         have H1 : (some (x7_1, false)) = some (r1, r2) := by rw [if_neg (show ¬ (false = true) by decide)] at H; exact H
         clear H
         have H := H1
         clear H1
         simp only [Option.some.injEq, Prod.mk.injEq] at H
         obtain ⟨rfl, rfl⟩ := H
         have p211 : 0 ≤ (x7_1 : Int) := of_decide_eq_true (by first | (with_reducible assumption) | assumption)
         have q211 : x7_1 < (l0.length : Int) := of_decide_eq_true (by first | (with_reducible assumption) | assumption)
         obtain ⟨ad211, e211, hx211_0⟩ := Kd.at_string HR0.out x7_1 p211 q211
         cases e211
         replace p211 := eq_true p211
         replace q211 := eq_true q211
         have p212 : 0 ≤ (x7_1 : Int) := of_decide_eq_true (by first | (with_reducible assumption) | assumption)
         have q212 : x7_1 < (l0.length : Int) := of_decide_eq_true (by first | (with_reducible assumption) | assumption)
         obtain ⟨ad212, e212, hx212_0⟩ := Kd.at_string HR0.out x7_1 p212 q212
         obtain rfl : ad211 = ad212 := (by injection e212)
         replace p212 := eq_true p212
         replace q212 := eq_true q212
         go_wp2_with (first | (go_at_call 36; (with_reducible refine (slices_isNaN_string.calls (rdOf ByteArray.empty l0 x7_1) false _ ?side1 A13.out).mono ?_); (case side1 => first | exact HGL.out | (repeat (first | exact HGL.out | (with_reducible refine Go.Proofs.YtidcecpbihmloaaGreatDoorX.GL.drewN ?_ _) | (with_reducible refine Go.Proofs.YtidcecpbihmloaaGreatDoorX.GL.drew ?_)))); rintro e w' ⟨rfl, ⟨nd, rfl⟩⟩))
         go_ret2
         exact ⟨by first | rfl | (simp; done) | (simp [*]; done), by repeat (first | exact Drawn0.refl _ | apply Drawn0.step)⟩
      ·rw [if_neg c11] at H
       exact absurd H (by simp)
     ·rw [if_neg c10] at H
      exact absurd H (by simp)
    ·rw [if_neg c9] at H
     have c9b0 : decide (x7_1 < (l0.length : Int)) = false := decide_eq_false c9
     clear c9
     simp only [Option.some.injEq, Prod.mk.injEq] at H
     obtain ⟨rfl, rfl⟩ := H
     go_wp2
     go_ret2
     exact ⟨by first | rfl | (simp; done) | (simp [*]; done), by repeat (first | exact Drawn0.refl _ | apply Drawn0.step)⟩

def slices_Compare_string_string.l0 : Nat → List ByteArray → List ByteArray → List ByteArray → Int → Int → Option (Int)
 | 0, _, _, _, _, _ => none
 | k + 1, x0, x1, x9, x10, x11 => if x11 < x10 then (if 0 ≤ x11 then (if x11 < (x9.length : Int) then (if x11 ≥ (x1.length : Int) then (some 1) else (if x11 < (x1.length : Int) then ((cmp_Compare_string.f (rdOf ByteArray.empty x9 x11) (rdOf ByteArray.empty x1 x11)).bind fun t217 => (if t217 = 0 then (slices_Compare_string_string.l0 k x0 x1 x9 x10 (wrap64 (x11 + 1))) else (some t217))) else (none))) else (none)) else (none)) else (if (x0.length : Int) < (x1.length : Int) then (some (-1)) else (some 0))
def slices_Compare_string_string.f (k : Nat) (l0 : List ByteArray) (l1 : List ByteArray) : Option (Int) := slices_Compare_string_string.l0 k l0 l1 l0 (l0.length : Int) 0
theorem slices_Compare_string_string.mono_l : ∀ k, (∀ y0 y1 y2 y3 y4, LeO (slices_Compare_string_string.l0 k y0 y1 y2 y3 y4) (slices_Compare_string_string.l0 (k + 1) y0 y1 y2 y3 y4))
 | 0 => fun _ _ _ _ _ r h => by simp [slices_Compare_string_string.l0] at h
 | k + 1 => by
  have ih0 := slices_Compare_string_string.mono_l k
  ·intro y0 y1 y2 y3 y4
   unfold slices_Compare_string_string.l0
   repeat' first
   |(with_reducible exact ih0 _ _ _ _ _)
   |(with_reducible exact LeO.refl _)
   |(with_reducible exact LeO.none _)
   |(with_reducible refine LeO.ite ?_ ?_)
   | (with_reducible refine LeO.bind ?_ (fun _ => ?_))
   | exact ih0 _ _ _ _ _
   | exact LeO.none _
   | refine LeO.ite ?_ ?_
   | refine LeO.bind ?_ (fun _ => ?_)
theorem slices_Compare_string_string.mono : ∀ a0 a1 k, LeO (slices_Compare_string_string.f k a0 a1) (slices_Compare_string_string.f (k + 1) a0 a1) := by
 intro a0 a1 k
 have ih0 := slices_Compare_string_string.mono_l k
 unfold slices_Compare_string_string.f
 repeat' first
   |(with_reducible exact ih0 _ _ _ _ _)
   |(with_reducible exact LeO.refl _)
   |(with_reducible exact LeO.none _)
   |(with_reducible refine LeO.ite ?_ ?_)
   | (with_reducible refine LeO.bind ?_ (fun _ => ?_))
   | exact ih0 _ _ _ _ _
   | exact LeO.none _
   | refine LeO.ite ?_ ?_
   | refine LeO.bind ?_ (fun _ => ?_)
set_option maxHeartbeats 8000000 in
set_option maxRecDepth 100000 in
theorem slices_Compare_string_string.calls (k : Nat) (A0 : Option Addr) (c0 : Nat) (l0 : List ByteArray) (A1 : Option Addr) (c1 : Nat) (l1 : List ByteArray) (r : Int) (w : World) (hgl : Go.Proofs.YtidcecpbihmloaaGreatDoorX.GL w) (hr0 : Kd.C Kd.string w A0 l0.length l0) (hc0 : l0.length ≤ c0) (hr1 : Kd.C Kd.string w A1 l1.length l1) (hc1 : l1.length ≤ c1) (h : slices_Compare_string_string.f k l0 l1 = some r) :
  Calls Tryz.prog 44 #[.slice A0 l0.length c0, .slice A1 l1.length c1] w fun e w' => e = .returned (.int .i64 r) ∧ Drawn0 w w' := by
 have HR0 := Aside0.mk hr0
 have HC0 := Aside0.mk hc0
 clear hr0 hc0
 have HR1 := Aside0.mk hr1
 have HC1 := Aside0.mk hc1
 clear hr1 hc1
 have HGL := Aside0.mk hgl
 clear hgl
 have H : (slices_Compare_string_string.l0 k l0 l1 l0 (l0.length : Int) 0) = some r := h
 clear h
 have H' := Aside0.mk H
 clear H
 go_enter Tryz.func44, Tryz.ntmps44
 go_wp2
 go_loopg [11] k (fun kq v11 w' => ∃ (x11_1 : Int), v11 = .int .i64 x11_1 ∧ Aside0 (slices_Compare_string_string.l0 kq l0 l1 l0 (l0.length : Int) x11_1 = some r) ∧ Aside0 (kq ≤ k) ∧ Drawn0 w w')
 case atStart => exact ⟨(0), (by first | rfl | (simp; done) | (simp [*]; done)), H', ⟨Nat.le_refl _⟩, by repeat (first | exact Drawn0.refl _ | apply Drawn0.step)⟩
 case round =>
  clear H'
  try clear c1
  try clear p2
  obtain ⟨x11_1, rfl, HA, HK1, ⟨m1, rfl⟩⟩ := hrel
  cases gk with
  | zero => exact absurd HA.out (by simp [slices_Compare_string_string.l0])
  | succ k1 =>
   have H := HA.out
   clear HA
   simp only [slices_Compare_string_string.l0] at H
   by_cases c3 : x11_1 < (l0.length : Int)
   ·rw [if_pos c3] at H
    have c3b0 : decide (x11_1 < (l0.length : Int)) = true := decide_eq_true c3
    clear c3
    by_cases c4 : 0 ≤ x11_1
    ·rw [if_pos c4] at H
     have c4b0 : decide (0 ≤ x11_1) = true := decide_eq_true c4
     clear c4
     by_cases c5 : x11_1 < (l0.length : Int)
     ·rw [if_pos c5] at H
      have c5b0 : decide (x11_1 < (l0.length : Int)) = true := decide_eq_true c5
      clear c5
      by_cases c6 : x11_1 ≥ (l1.length : Int)
      ·rw [if_pos c6] at H
       have c6b0 : decide ((l1.length : Int) ≤ x11_1) = true := decide_eq_true c6
       clear c6
       obtain rfl := Option.some.inj H
       have p215 : 0 ≤ (x11_1 : Int) := of_decide_eq_true (by first | (with_reducible assumption) | assumption)
       have q215 : x11_1 < (l0.length : Int) := of_decide_eq_true (by first | (with_reducible assumption) | assumption)
       obtain ⟨ad215, e215, hx215_0⟩ := Kd.at_string HR0.out x11_1 p215 q215
       cases e215
       replace p215 := eq_true p215
       replace q215 := eq_true q215
       go_wp2
       go_ret
       exact ⟨by first | rfl | (simp; done) | (simp [*]; done), by repeat (first | exact Drawn0.refl _ | apply Drawn0.step)⟩
      ·rw [if_neg c6] at H
       have c6b0 : decide ((l1.length : Int) ≤ x11_1) = false := decide_eq_false c6
       clear c6
       by_cases c7 : x11_1 < (l1.length : Int)
       ·rw [if_pos c7] at H
        have c7b0 : decide (x11_1 < (l1.length : Int)) = true := decide_eq_true c7
        clear c7
        replace H := Option.bind_eq_some_iff.mp H
        obtain ⟨t217, A80, H⟩ := H
        replace H : (if t217 = 0 then (slices_Compare_string_string.l0 k1 l0 l1 l0 (l0.length : Int) (wrap64 (x11_1 + 1))) else (some t217)) = some r := H
        have A8 := Aside0.mk A80
        clear A80
        by_cases c9 : t217 = 0
        ·rw [if_pos c9] at H
         have c9b0 : (t217 == 0) = true := beq_iff_eq.mpr c9
         have c9b1 : (t217 != 0) = false := bne_eq_false_iff_eq.mpr c9
         clear c9
         have H' := Aside0.mk H
         clear H
         have p215 : 0 ≤ (x11_1 : Int) := of_decide_eq_true (by first | (with_reducible assumption) | assumption)
         have q215 : x11_1 < (l0.length : Int) := of_decide_eq_true (by first | (with_reducible assumption) | assumption)
         obtain ⟨ad215, e215, hx215_0⟩ := Kd.at_string HR0.out x11_1 p215 q215
         cases e215
         replace p215 := eq_true p215
         replace q215 := eq_true q215
         have p216 : 0 ≤ (x11_1 : Int) := of_decide_eq_true (by first | (with_reducible assumption) | assumption)
         have q216 : x11_1 < (l1.length : Int) := of_decide_eq_true (by first | (with_reducible assumption) | assumption)
         obtain ⟨ad216, e216, hx216_0⟩ := Kd.at_string HR1.out x11_1 p216 q216
         cases e216
         replace p216 := eq_true p216
         replace q216 := eq_true q216
         go_wp2_with (first | ((with_reducible refine gate_callee (f := 43) rfl ?_); refine goesL_ (some 26) rfl rfl Tryz.func43 (by kernel_rfl) rfl #[.string (rdOf ByteArray.empty l0 x11_1), .string (rdOf ByteArray.empty l1 x11_1)] rfl (by (try simp only [List.map_toArray, List.map_cons, List.map_nil]); first | done | rfl | (simp only [List.length_drop, List.length_take]; rfl)) ?_; (with_reducible refine (cmp_Compare_string.calls (rdOf ByteArray.empty l0 x11_1) (rdOf ByteArray.empty l1 x11_1) t217 _ ?side1 A8.out).mono ?_); (case side1 => first | exact HGL.out | (repeat (first | exact HGL.out | (with_reducible refine Go.Proofs.YtidcecpbihmloaaGreatDoorX.GL.drewN ?_ _) | (with_reducible refine Go.Proofs.YtidcecpbihmloaaGreatDoorX.GL.drew ?_)))); rintro e w' ⟨rfl, ⟨nd, rfl⟩⟩; refine ⟨_, rfl, ?_⟩))
         go_roundg k1
         case measure => have := HK1.out; omega
         case rel => exact ⟨(wrap64 (x11_1 + 1)), (by first | rfl | (simp; done) | (simp [*]; done)), H', ⟨by have := HK1.out; omega⟩, by repeat (first | exact Drawn0.refl _ | apply Drawn0.step)⟩
        ·rw [if_neg c9] at H
         have c9b0 : (t217 == 0) = false := beq_eq_false_iff_ne.mpr c9
         have c9b1 : (t217 != 0) = true := bne_iff_ne.mpr c9
         obtain rfl := Option.some.inj H
         have p215 : 0 ≤ (x11_1 : Int) := of_decide_eq_true (by first | (with_reducible assumption) | assumption)
         have q215 : x11_1 < (l0.length : Int) := of_decide_eq_true (by first | (with_reducible assumption) | assumption)
         obtain ⟨ad215, e215, hx215_0⟩ := Kd.at_string HR0.out x11_1 p215 q215
         cases e215
         replace p215 := eq_true p215
         replace q215 := eq_true q215
         have p216 : 0 ≤ (x11_1 : Int) := of_decide_eq_true (by first | (with_reducible assumption) | assumption)
         have q216 : x11_1 < (l1.length : Int) := of_decide_eq_true (by first | (with_reducible assumption) | assumption)
         obtain ⟨ad216, e216, hx216_0⟩ := Kd.at_string HR1.out x11_1 p216 q216
         cases e216
         replace p216 := eq_true p216
         replace q216 := eq_true q216
         go_wp2_with (first | ((with_reducible refine gate_callee (f := 43) rfl ?_); refine goesL_ (some 26) rfl rfl Tryz.func43 (by kernel_rfl) rfl #[.string (rdOf ByteArray.empty l0 x11_1), .string (rdOf ByteArray.empty l1 x11_1)] rfl (by (try simp only [List.map_toArray, List.map_cons, List.map_nil]); first | done | rfl | (simp only [List.length_drop, List.length_take]; rfl)) ?_; (with_reducible refine (cmp_Compare_string.calls (rdOf ByteArray.empty l0 x11_1) (rdOf ByteArray.empty l1 x11_1) t217 _ ?side1 A8.out).mono ?_); (case side1 => first | exact HGL.out | (repeat (first | exact HGL.out | (with_reducible refine Go.Proofs.YtidcecpbihmloaaGreatDoorX.GL.drewN ?_ _) | (with_reducible refine Go.Proofs.YtidcecpbihmloaaGreatDoorX.GL.drew ?_)))); rintro e w' ⟨rfl, ⟨nd, rfl⟩⟩; refine ⟨_, rfl, ?_⟩))
         go_ret
         exact ⟨by first | rfl | (simp; done) | (simp [*]; done), by repeat (first | exact Drawn0.refl _ | apply Drawn0.step)⟩
       ·rw [if_neg c7] at H
        exact absurd H (by simp)
     ·rw [if_neg c5] at H
      exact absurd H (by simp)
    ·rw [if_neg c4] at H
     exact absurd H (by simp)
   ·rw [if_neg c3] at H
    have c3b0 : decide (x11_1 < (l0.length : Int)) = false := decide_eq_false c3
    clear c3
    by_cases c10 : (l0.length : Int) < (l1.length : Int)
    ·rw [if_pos c10] at H
     have c10b0 : decide ((l0.length : Int) < (l1.length : Int)) = true := decide_eq_true c10
     have c10b1 : decide (l0.length < l1.length) = true := decide_eq_true (Int.ofNat_lt.mp c10)
     clear c10
     obtain rfl := Option.some.inj H
     go_wp2
     go_ret
     exact ⟨by first | rfl | (simp; done) | (simp [*]; done), by repeat (first | exact Drawn0.refl _ | apply Drawn0.step)⟩
    ·rw [if_neg c10] at H
     have c10b0 : decide ((l0.length : Int) < (l1.length : Int)) = false := decide_eq_false c10
     have c10b1 : decide (l0.length < l1.length) = false := decide_eq_false (fun h => c10 (Int.ofNat_lt.mpr h))
     clear c10
     obtain rfl := Option.some.inj H
     go_wp2
     go_ret
     exact ⟨by first | rfl | (simp; done) | (simp [*]; done), by repeat (first | exact Drawn0.refl _ | apply Drawn0.step)⟩

def cmp_Or_int.l0 : Nat → Int → List Int → Int → Int → Option (Int)
 | 0, _, _, _, _ => none
 | k + 1, x3, x6, x7, x8 => if x8 < x7 then (if 0 ≤ x8 then (if x8 < (x6.length : Int) then (if (rd x6 x8) = x3 then (cmp_Or_int.l0 k x3 x6 x7 (wrap64 (x8 + 1))) else (some (rd x6 x8))) else (none)) else (none)) else (some x3)
def cmp_Or_int.f (k : Nat) (l0 : List Int) : Option (Int) := cmp_Or_int.l0 k 0 l0 (l0.length : Int) 0
theorem cmp_Or_int.mono_l : ∀ k, (∀ y0 y1 y2 y3, LeO (cmp_Or_int.l0 k y0 y1 y2 y3) (cmp_Or_int.l0 (k + 1) y0 y1 y2 y3))
 | 0 => fun _ _ _ _ r h => by simp [cmp_Or_int.l0] at h
 | k + 1 => by
  have ih0 := cmp_Or_int.mono_l k
  ·intro y0 y1 y2 y3
   unfold cmp_Or_int.l0
   repeat' first
   |(with_reducible exact ih0 _ _ _ _)
   |(with_reducible exact LeO.refl _)
   |(with_reducible exact LeO.none _)
   |(with_reducible refine LeO.ite ?_ ?_)
   | (with_reducible refine LeO.bind ?_ (fun _ => ?_))
   | exact ih0 _ _ _ _
   | exact LeO.none _
   | refine LeO.ite ?_ ?_
   | refine LeO.bind ?_ (fun _ => ?_)
theorem cmp_Or_int.mono : ∀ a0 k, LeO (cmp_Or_int.f k a0) (cmp_Or_int.f (k + 1) a0) := by
 intro a0 k
 have ih0 := cmp_Or_int.mono_l k
 unfold cmp_Or_int.f
 repeat' first
   |(with_reducible exact ih0 _ _ _ _)
   |(with_reducible exact LeO.refl _)
   |(with_reducible exact LeO.none _)
   |(with_reducible refine LeO.ite ?_ ?_)
   | (with_reducible refine LeO.bind ?_ (fun _ => ?_))
   | exact ih0 _ _ _ _
   | exact LeO.none _
   | refine LeO.ite ?_ ?_
   | refine LeO.bind ?_ (fun _ => ?_)
set_option maxHeartbeats 8000000 in
set_option maxRecDepth 100000 in
theorem cmp_Or_int.calls (k : Nat) (A0 : Option Addr) (c0 : Nat) (l0 : List Int) (r : Int) (w : World) (hgl : Go.Proofs.YtidcecpbihmloaaGreatDoorX.GL w) (hr0 : Kd.C (Kd.int .i64) w A0 l0.length l0) (hc0 : l0.length ≤ c0) (h : cmp_Or_int.f k l0 = some r) :
  Calls Tryz.prog 41 #[.slice A0 l0.length c0] w fun e w' => e = .returned (.int .i64 r) ∧ Drawn0 w w' := by
 have HR0 := Aside0.mk hr0
 have HC0 := Aside0.mk hc0
 clear hr0 hc0
 have HGL := Aside0.mk hgl
 clear hgl
 have H : (cmp_Or_int.l0 k 0 l0 (l0.length : Int) 0) = some r := h
 clear h
 have H' := Aside0.mk H
 clear H
 go_enter Tryz.func41, Tryz.ntmps41
 go_wp2
 go_loopg [8] k (fun kq v8 w' => ∃ (x8_1 : Int), v8 = .int .i64 x8_1 ∧ Aside0 (cmp_Or_int.l0 kq 0 l0 (l0.length : Int) x8_1 = some r) ∧ Aside0 (kq ≤ k) ∧ Drawn0 w w')
 case atStart => exact ⟨(0), (by first | rfl | (simp; done) | (simp [*]; done)), H', ⟨Nat.le_refl _⟩, by repeat (first | exact Drawn0.refl _ | apply Drawn0.step)⟩
 case round =>
  clear H'
  obtain ⟨x8_1, rfl, HA, HK1, ⟨m1, rfl⟩⟩ := hrel
  cases gk with
  | zero => exact absurd HA.out (by simp [cmp_Or_int.l0])
  | succ k1 =>
   have H := HA.out
   clear HA
   simp only [cmp_Or_int.l0] at H
   by_cases c2 : x8_1 < (l0.length : Int)
   ·rw [if_pos c2] at H
    have c2b0 : decide (x8_1 < (l0.length : Int)) = true := decide_eq_true c2
    clear c2
    by_cases c3 : 0 ≤ x8_1
    ·rw [if_pos c3] at H
     have c3b0 : decide (0 ≤ x8_1) = true := decide_eq_true c3
     clear c3
     by_cases c4 : x8_1 < (l0.length : Int)
     ·rw [if_pos c4] at H
      have c4b0 : decide (x8_1 < (l0.length : Int)) = true := decide_eq_true c4
      clear c4
      by_cases c5 : (rd l0 x8_1) = 0
      ·rw [if_pos c5] at H
       have c5b0 : ((rd l0 x8_1) == 0) = true := beq_iff_eq.mpr c5
       have c5b1 : ((rd l0 x8_1) != 0) = false := bne_eq_false_iff_eq.mpr c5
       clear c5
       have H' := Aside0.mk H
       clear H
       have p218 : 0 ≤ (x8_1 : Int) := of_decide_eq_true (by first | (with_reducible assumption) | assumption)
       have q218 : x8_1 < (l0.length : Int) := of_decide_eq_true (by first | (with_reducible assumption) | assumption)
       obtain ⟨ad218, e218, hx218_0⟩ := Kd.at_int HR0.out x8_1 p218 q218
       cases e218
       replace p218 := eq_true p218
       replace q218 := eq_true q218
       go_wp2
       go_roundg k1
       case measure => have := HK1.out; omega
       case rel => exact ⟨(wrap64 (x8_1 + 1)), (by first | rfl | (simp; done) | (simp [*]; done)), H', ⟨by have := HK1.out; omega⟩, by repeat (first | exact Drawn0.refl _ | apply Drawn0.step)⟩
      ·rw [if_neg c5] at H
       have c5b0 : ((rd l0 x8_1) == 0) = false := beq_eq_false_iff_ne.mpr c5
       have c5b1 : ((rd l0 x8_1) != 0) = true := bne_iff_ne.mpr c5
       obtain rfl := Option.some.inj H
       have p218 : 0 ≤ (x8_1 : Int) := of_decide_eq_true (by first | (with_reducible assumption) | assumption)
       have q218 : x8_1 < (l0.length : Int) := of_decide_eq_true (by first | (with_reducible assumption) | assumption)
       obtain ⟨ad218, e218, hx218_0⟩ := Kd.at_int HR0.out x8_1 p218 q218
       cases e218
       replace p218 := eq_true p218
       replace q218 := eq_true q218
       go_wp2
       go_ret
       exact ⟨by first | rfl | (simp; done) | (simp [*]; done), by repeat (first | exact Drawn0.refl _ | apply Drawn0.step)⟩
     ·rw [if_neg c4] at H
      exact absurd H (by simp)
    ·rw [if_neg c3] at H
     exact absurd H (by simp)
   ·rw [if_neg c2] at H
    have c2b0 : decide (x8_1 < (l0.length : Int)) = false := decide_eq_false c2
    clear c2
    obtain rfl := Option.some.inj H
    go_wp2
    go_ret
    exact ⟨by first | rfl | (simp; done) | (simp [*]; done), by repeat (first | exact Drawn0.refl _ | apply Drawn0.step)⟩

def cmp_isNaN_int.f (a0 : Int) : Option (Bool) := some (a0 != a0)
set_option maxHeartbeats 8000000 in
set_option maxRecDepth 100000 in
theorem cmp_isNaN_int.calls (a0 : Int) (r : Bool) (w : World) (hgl : Go.Proofs.YtidcecpbihmloaaGreatDoorX.GL w) (h : cmp_isNaN_int.f a0 = some r) :
  Calls Tryz.prog 65 #[.int .i64 a0] w fun e w' => e = .returned (.bool r) ∧ Drawn0 w w' := by
 have HGL := Aside0.mk hgl
 clear hgl
 have H : (some (a0 != a0)) = some r := h
 clear h
 obtain rfl := Option.some.inj H
 go_enter Tryz.func65, Tryz.ntmps65
 go_wp2
 go_ret
 exact ⟨by first | rfl | (simp; done) | (simp [*]; done), by repeat (first | exact Drawn0.refl _ | apply Drawn0.step)⟩

def cmp_Compare_int.f (a0 : Int) (a1 : Int) : Option (Int) := (cmp_isNaN_int.f a0).bind fun t219 => ((cmp_isNaN_int.f a1).bind fun t220 => (if t219 = true then (if t220 = true then (some 0) else (some (-1))) else (if t220 = true then (some 1) else (if a0 < a1 then (some (-1)) else (if a0 > a1 then (some 1) else (some 0))))))
set_option maxHeartbeats 8000000 in
set_option maxRecDepth 100000 in
theorem cmp_Compare_int.calls (a0 : Int) (a1 : Int) (r : Int) (w : World) (hgl : Go.Proofs.YtidcecpbihmloaaGreatDoorX.GL w) (h : cmp_Compare_int.f a0 a1 = some r) :
  Calls Tryz.prog 42 #[.int .i64 a0, .int .i64 a1] w fun e w' => e = .returned (.int .i64 r) ∧ Drawn0 w w' := by
 have HGL := Aside0.mk hgl
 clear hgl
 have H : ((cmp_isNaN_int.f a0).bind fun t219 => ((cmp_isNaN_int.f a1).bind fun t220 => (if t219 = true then (if t220 = true then (some 0) else (some (-1))) else (if t220 = true then (some 1) else (if a0 < a1 then (some (-1)) else (if a0 > a1 then (some 1) else (some 0))))))) = some r := h
 clear h
 replace H := Option.bind_eq_some_iff.mp H
 obtain ⟨t219, A30, H⟩ := H
 replace H : ((cmp_isNaN_int.f a1).bind fun t220 => (if t219 = true then (if t220 = true then (some 0) else (some (-1))) else (if t220 = true then (some 1) else (if a0 < a1 then (some (-1)) else (if a0 > a1 then (some 1) else (some 0)))))) = some r := H
 have A3 := Aside0.mk A30
 clear A30
 replace H := Option.bind_eq_some_iff.mp H
 obtain ⟨t220, A40, H⟩ := H
 replace H : (if t219 = true then (if t220 = true then (some 0) else (some (-1))) else (if t220 = true then (some 1) else (if a0 < a1 then (some (-1)) else (if a0 > a1 then (some 1) else (some 0))))) = some r := H
 have A4 := Aside0.mk A40
 clear A40
 by_cases c5 : t219 = true
 ·subst c5
  have H1 : (if t220 = true then (some 0) else (some (-1))) = some r := by rw [if_pos rfl] at H; exact H
  clear H
  have H := H1
  clear H1
  by_cases c6 : t220 = true
  ·subst c6
   have H1 : (some 0) = some r := by rw [if_pos rfl] at H; exact H
   clear H
   have H := H1
   clear H1
   obtain rfl := Option.some.inj H
   go_enter Tryz.func42, Tryz.ntmps42
   go_wp2_with (first | ((with_reducible refine gate_callee (f := 65) rfl ?_); refine goesL_ (some 8) rfl rfl Tryz.func65 (by kernel_rfl) rfl #[.int .i64 a0] rfl (by (try simp only [List.map_toArray, List.map_cons, List.map_nil]); first | done | rfl | (simp only [List.length_drop, List.length_take]; rfl)) ?_; (with_reducible refine (cmp_isNaN_int.calls a0 true _ ?side1 A3.out).mono ?_); (case side1 => first | exact HGL.out | (repeat (first | exact HGL.out | (with_reducible refine Go.Proofs.YtidcecpbihmloaaGreatDoorX.GL.drewN ?_ _) | (with_reducible refine Go.Proofs.YtidcecpbihmloaaGreatDoorX.GL.drew ?_)))); rintro e w' ⟨rfl, ⟨nd, rfl⟩⟩; refine ⟨_, rfl, ?_⟩) | ((with_reducible refine gate_callee (f := 65) rfl ?_); refine goesL_ (some 10) rfl rfl Tryz.func65 (by kernel_rfl) rfl #[.int .i64 a1] rfl (by (try simp only [List.map_toArray, List.map_cons, List.map_nil]); first | done | rfl | (simp only [List.length_drop, List.length_take]; rfl)) ?_; (with_reducible refine (cmp_isNaN_int.calls a1 true _ ?side1 A4.out).mono ?_); (case side1 => first | exact HGL.out | (repeat (first | exact HGL.out | (with_reducible refine Go.Proofs.YtidcecpbihmloaaGreatDoorX.GL.drewN ?_ _) | (with_reducible refine Go.Proofs.YtidcecpbihmloaaGreatDoorX.GL.drew ?_)))); rintro e w' ⟨rfl, ⟨nd, rfl⟩⟩; refine ⟨_, rfl, ?_⟩))
   go_ret
   exact ⟨by first | rfl | (simp; done) | (simp [*]; done), by repeat (first | exact Drawn0.refl _ | apply Drawn0.step)⟩
  ·replace c6 := Bool.eq_false_iff.mpr c6
   subst c6
   have H1 : (some (-1)) = some r := by rw [if_neg (show ¬ (false = true) by decide)] at H; exact H
   clear H
   have H := H1
   clear H1
   obtain rfl := Option.some.inj H
   go_enter Tryz.func42, Tryz.ntmps42
   go_wp2_with (first | ((with_reducible refine gate_callee (f := 65) rfl ?_); refine goesL_ (some 8) rfl rfl Tryz.func65 (by kernel_rfl) rfl #[.int .i64 a0] rfl (by (try simp only [List.map_toArray, List.map_cons, List.map_nil]); first | done | rfl | (simp only [List.length_drop, List.length_take]; rfl)) ?_; (with_reducible refine (cmp_isNaN_int.calls a0 true _ ?side1 A3.out).mono ?_); (case side1 => first | exact HGL.out | (repeat (first | exact HGL.out | (with_reducible refine Go.Proofs.YtidcecpbihmloaaGreatDoorX.GL.drewN ?_ _) | (with_reducible refine Go.Proofs.YtidcecpbihmloaaGreatDoorX.GL.drew ?_)))); rintro e w' ⟨rfl, ⟨nd, rfl⟩⟩; refine ⟨_, rfl, ?_⟩) | ((with_reducible refine gate_callee (f := 65) rfl ?_); refine goesL_ (some 10) rfl rfl Tryz.func65 (by kernel_rfl) rfl #[.int .i64 a1] rfl (by (try simp only [List.map_toArray, List.map_cons, List.map_nil]); first | done | rfl | (simp only [List.length_drop, List.length_take]; rfl)) ?_; (with_reducible refine (cmp_isNaN_int.calls a1 false _ ?side1 A4.out).mono ?_); (case side1 => first | exact HGL.out | (repeat (first | exact HGL.out | (with_reducible refine Go.Proofs.YtidcecpbihmloaaGreatDoorX.GL.drewN ?_ _) | (with_reducible refine Go.Proofs.YtidcecpbihmloaaGreatDoorX.GL.drew ?_)))); rintro e w' ⟨rfl, ⟨nd, rfl⟩⟩; refine ⟨_, rfl, ?_⟩))
   go_ret
   exact ⟨by first | rfl | (simp; done) | (simp [*]; done), by repeat (first | exact Drawn0.refl _ | apply Drawn0.step)⟩
 ·replace c5 := Bool.eq_false_iff.mpr c5
  subst c5
  have H1 : (if t220 = true then (some 1) else (if a0 < a1 then (some (-1)) else (if a0 > a1 then (some 1) else (some 0)))) = some r := by rw [if_neg (show ¬ (false = true) by decide)] at H; exact H
  clear H
  have H := H1
  clear H1
  by_cases c7 : t220 = true
  ·subst c7
   have H1 : (some 1) = some r := by rw [if_pos rfl] at H; exact H
   clear H
   have H := H1
   clear H1
   obtain rfl := Option.some.inj H
   go_enter Tryz.func42, Tryz.ntmps42
   go_wp2_with (first | ((with_reducible refine gate_callee (f := 65) rfl ?_); refine goesL_ (some 8) rfl rfl Tryz.func65 (by kernel_rfl) rfl #[.int .i64 a0] rfl (by (try simp only [List.map_toArray, List.map_cons, List.map_nil]); first | done | rfl | (simp only [List.length_drop, List.length_take]; rfl)) ?_; (with_reducible refine (cmp_isNaN_int.calls a0 false _ ?side1 A3.out).mono ?_); (case side1 => first | exact HGL.out | (repeat (first | exact HGL.out | (with_reducible refine Go.Proofs.YtidcecpbihmloaaGreatDoorX.GL.drewN ?_ _) | (with_reducible refine Go.Proofs.YtidcecpbihmloaaGreatDoorX.GL.drew ?_)))); rintro e w' ⟨rfl, ⟨nd, rfl⟩⟩; refine ⟨_, rfl, ?_⟩) | ((with_reducible refine gate_callee (f := 65) rfl ?_); refine goesL_ (some 10) rfl rfl Tryz.func65 (by kernel_rfl) rfl #[.int .i64 a1] rfl (by (try simp only [List.map_toArray, List.map_cons, List.map_nil]); first | done | rfl | (simp only [List.length_drop, List.length_take]; rfl)) ?_; (with_reducible refine (cmp_isNaN_int.calls a1 true _ ?side1 A4.out).mono ?_); (case side1 => first | exact HGL.out | (repeat (first | exact HGL.out | (with_reducible refine Go.Proofs.YtidcecpbihmloaaGreatDoorX.GL.drewN ?_ _) | (with_reducible refine Go.Proofs.YtidcecpbihmloaaGreatDoorX.GL.drew ?_)))); rintro e w' ⟨rfl, ⟨nd, rfl⟩⟩; refine ⟨_, rfl, ?_⟩))
   go_ret
   exact ⟨by first | rfl | (simp; done) | (simp [*]; done), by repeat (first | exact Drawn0.refl _ | apply Drawn0.step)⟩
  ·replace c7 := Bool.eq_false_iff.mpr c7
   subst c7
   have H1 : (if a0 < a1 then (some (-1)) else (if a0 > a1 then (some 1) else (some 0))) = some r := by rw [if_neg (show ¬ (false = true) by decide)] at H; exact H
   clear H
   have H := H1
   clear H1
   by_cases c8 : a0 < a1
   ·rw [if_pos c8] at H
    have c8b0 : decide (a0 < a1) = true := decide_eq_true c8
    clear c8
    obtain rfl := Option.some.inj H
    go_enter Tryz.func42, Tryz.ntmps42
    go_wp2_with (first | ((with_reducible refine gate_callee (f := 65) rfl ?_); refine goesL_ (some 8) rfl rfl Tryz.func65 (by kernel_rfl) rfl #[.int .i64 a0] rfl (by (try simp only [List.map_toArray, List.map_cons, List.map_nil]); first | done | rfl | (simp only [List.length_drop, List.length_take]; rfl)) ?_; (with_reducible refine (cmp_isNaN_int.calls a0 false _ ?side1 A3.out).mono ?_); (case side1 => first | exact HGL.out | (repeat (first | exact HGL.out | (with_reducible refine Go.Proofs.YtidcecpbihmloaaGreatDoorX.GL.drewN ?_ _) | (with_reducible refine Go.Proofs.YtidcecpbihmloaaGreatDoorX.GL.drew ?_)))); rintro e w' ⟨rfl, ⟨nd, rfl⟩⟩; refine ⟨_, rfl, ?_⟩) | ((with_reducible refine gate_callee (f := 65) rfl ?_); refine goesL_ (some 10) rfl rfl Tryz.func65 (by kernel_rfl) rfl #[.int .i64 a1] rfl (by (try simp only [List.map_toArray, List.map_cons, List.map_nil]); first | done | rfl | (simp only [List.length_drop, List.length_take]; rfl)) ?_; (with_reducible refine (cmp_isNaN_int.calls a1 false _ ?side1 A4.out).mono ?_); (case side1 => first | exact HGL.out | (repeat (first | exact HGL.out | (with_reducible refine Go.Proofs.YtidcecpbihmloaaGreatDoorX.GL.drewN ?_ _) | (with_reducible refine Go.Proofs.YtidcecpbihmloaaGreatDoorX.GL.drew ?_)))); rintro e w' ⟨rfl, ⟨nd, rfl⟩⟩; refine ⟨_, rfl, ?_⟩))
    go_ret
    exact ⟨by first | rfl | (simp; done) | (simp [*]; done), by repeat (first | exact Drawn0.refl _ | apply Drawn0.step)⟩
   ·rw [if_neg c8] at H
    have c8b0 : decide (a0 < a1) = false := decide_eq_false c8
    clear c8
    by_cases c9 : a0 > a1
    ·rw [if_pos c9] at H
     have c9b0 : decide (a1 < a0) = true := decide_eq_true c9
     clear c9
     obtain rfl := Option.some.inj H
     go_enter Tryz.func42, Tryz.ntmps42
     go_wp2_with (first | ((with_reducible refine gate_callee (f := 65) rfl ?_); refine goesL_ (some 8) rfl rfl Tryz.func65 (by kernel_rfl) rfl #[.int .i64 a0] rfl (by (try simp only [List.map_toArray, List.map_cons, List.map_nil]); first | done | rfl | (simp only [List.length_drop, List.length_take]; rfl)) ?_; (with_reducible refine (cmp_isNaN_int.calls a0 false _ ?side1 A3.out).mono ?_); (case side1 => first | exact HGL.out | (repeat (first | exact HGL.out | (with_reducible refine Go.Proofs.YtidcecpbihmloaaGreatDoorX.GL.drewN ?_ _) | (with_reducible refine Go.Proofs.YtidcecpbihmloaaGreatDoorX.GL.drew ?_)))); rintro e w' ⟨rfl, ⟨nd, rfl⟩⟩; refine ⟨_, rfl, ?_⟩) | ((with_reducible refine gate_callee (f := 65) rfl ?_); refine goesL_ (some 10) rfl rfl Tryz.func65 (by kernel_rfl) rfl #[.int .i64 a1] rfl (by (try simp only [List.map_toArray, List.map_cons, List.map_nil]); first | done | rfl | (simp only [List.length_drop, List.length_take]; rfl)) ?_; (with_reducible refine (cmp_isNaN_int.calls a1 false _ ?side1 A4.out).mono ?_); (case side1 => first | exact HGL.out | (repeat (first | exact HGL.out | (with_reducible refine Go.Proofs.YtidcecpbihmloaaGreatDoorX.GL.drewN ?_ _) | (with_reducible refine Go.Proofs.YtidcecpbihmloaaGreatDoorX.GL.drew ?_)))); rintro e w' ⟨rfl, ⟨nd, rfl⟩⟩; refine ⟨_, rfl, ?_⟩))
     go_ret
     exact ⟨by first | rfl | (simp; done) | (simp [*]; done), by repeat (first | exact Drawn0.refl _ | apply Drawn0.step)⟩
    ·rw [if_neg c9] at H
     have c9b0 : decide (a1 < a0) = false := decide_eq_false c9
     clear c9
     obtain rfl := Option.some.inj H
     go_enter Tryz.func42, Tryz.ntmps42
     go_wp2_with (first | ((with_reducible refine gate_callee (f := 65) rfl ?_); refine goesL_ (some 8) rfl rfl Tryz.func65 (by kernel_rfl) rfl #[.int .i64 a0] rfl (by (try simp only [List.map_toArray, List.map_cons, List.map_nil]); first | done | rfl | (simp only [List.length_drop, List.length_take]; rfl)) ?_; (with_reducible refine (cmp_isNaN_int.calls a0 false _ ?side1 A3.out).mono ?_); (case side1 => first | exact HGL.out | (repeat (first | exact HGL.out | (with_reducible refine Go.Proofs.YtidcecpbihmloaaGreatDoorX.GL.drewN ?_ _) | (with_reducible refine Go.Proofs.YtidcecpbihmloaaGreatDoorX.GL.drew ?_)))); rintro e w' ⟨rfl, ⟨nd, rfl⟩⟩; refine ⟨_, rfl, ?_⟩) | ((with_reducible refine gate_callee (f := 65) rfl ?_); refine goesL_ (some 10) rfl rfl Tryz.func65 (by kernel_rfl) rfl #[.int .i64 a1] rfl (by (try simp only [List.map_toArray, List.map_cons, List.map_nil]); first | done | rfl | (simp only [List.length_drop, List.length_take]; rfl)) ?_; (with_reducible refine (cmp_isNaN_int.calls a1 false _ ?side1 A4.out).mono ?_); (case side1 => first | exact HGL.out | (repeat (first | exact HGL.out | (with_reducible refine Go.Proofs.YtidcecpbihmloaaGreatDoorX.GL.drewN ?_ _) | (with_reducible refine Go.Proofs.YtidcecpbihmloaaGreatDoorX.GL.drew ?_)))); rintro e w' ⟨rfl, ⟨nd, rfl⟩⟩; refine ⟨_, rfl, ?_⟩))
     go_ret
     exact ⟨by first | rfl | (simp; done) | (simp [*]; done), by repeat (first | exact Drawn0.refl _ | apply Drawn0.step)⟩

end Go.Proofs.YtidcecpbihmloaaGreatDoor.P16

namespace Go.Proofs.YtidcecpbihmloaaGreatDoor.M02
open Go Go.RowKit Go.Proofs.YtidcecpbihmloaaGreatDoor.P16 Go.Proofs.YtidcecpbihmloaaGreatDoorE Go.Proofs.YtidcecpbihmloaaGreatDoorW.PrintWords Go.Proofs.YtidcecpbihmloaaGreatDoorW.PrintLast Go.Proofs.YtidcecpbihmloaaGreatDoorW.PrintMore

theorem w64 {n : Int} (h0 : -9223372036854775808 ≤ n) (h1 : n ≤ 9223372036854775807) : wrap64 n = n := by unfold wrap64; omega
/-- A string's bytes. -/
abbrev B (s : ByteArray) : List UInt8 := s.data.toList
theorem B_len (s : ByteArray) : (B s).length = s.size := data_length s
theorem toList_B (s : ByteArray) : s.toList = B s := ByteArray.toList_eq s
theorem B_inj {s t : ByteArray} (h : B s = B t) : s = t := by
 cases s; cases t; congr 1; exact Array.toList_inj.1 h
theorem bt_nat {s : ByteArray} {i : Nat} (h : i < (B s).length) : bt s (i : Int) = ((B s)[i].toNat : Int) := by
 have hs : i < s.size := by rw [← B_len]; exact h
 unfold bt
 rw [dif_pos (by simpa using hs)]
 simp only [Int.toNat_natCast]
 rfl
theorem u8_lt (c : UInt8) : c.toNat < 256 := c.toNat_lt
theorem toUInt8_toNat (c : UInt8) : ((c.toNat : Int).toNat.toUInt8) = c := by simp

def okb (more : Bool) (c : UInt8) : Bool := decide (97 ≤ c.toNat ∧ c.toNat ≤ 122) || decide (48 ≤ c.toNat ∧ c.toNat ≤ 57) || decide (c.toNat = 45) || (more && (decide (c.toNat = 58) || decide (c.toNat = 46)))
def small (c : UInt8) : Bool := decide (97 ≤ c.toNat ∧ c.toNat ≤ 122)
/-- A tag, or, with more, a name. -/
def namedS (more : Bool) (l : List UInt8) : Bool := match l with
 | [] => false
 | c :: t => decide (t.length < 32) && small c && (c :: t).all (okb more)
theorem namedS_cons (more : Bool) (c : UInt8) (t : List UInt8) : namedS more (c :: t) = (decide (t.length < 32) && small c && (c :: t).all (okb more)) := rfl
theorem small_ok (more : Bool) (c : UInt8) (h : small c = true) : okb more c = true := by
 unfold small at h; unfold okb; rw [h]; rfl
theorem small_f (c : UInt8) : chars_small.f (c.toNat : Int) = some (small c) := by
 unfold chars_small.f small
 by_cases h : (c.toNat : Int) ≥ 97
 ·rw [if_pos h]; congr 1; rw [decide_eq_decide]; omega
 ·rw [if_neg h]; congr 1; symm; rw [decide_eq_false_iff_not]; omega
theorem inner_f (c : UInt8) (more : Bool) : tendrilref02_inner.f (c.toNat : Int) more = some (okb more c) := by
 have hc := u8_lt c
 have key : ∀ n : Fin 256, ∀ more : Bool, tendrilref02_inner.f (n.val : Int) more = some (decide (97 ≤ n.val ∧ n.val ≤ 122) || decide (48 ≤ n.val ∧ n.val ≤ 57) || decide (n.val = 45) || (more && (decide (n.val = 58) || decide (n.val = 46)))) := by decide +kernel
 exact key ⟨c.toNat, hc⟩ more
/-- The bytes that a name may have besides. -/
def others (more : Bool) : ByteArray := if more then ⟨#[45, 58, 46]⟩ else ⟨#[45]⟩
theorem index_others (c : UInt8) (more : Bool) : (Lib.indexByte (B (others more)) c < 0) ↔ ¬ (c.toNat = 45 ∨ (more = true ∧ (c.toNat = 58 ∨ c.toNat = 46))) := by
 have key : ∀ n : Fin 256, ∀ more : Bool, (Lib.indexByte (B (others more)) n.val.toUInt8 < 0) ↔ ¬ (n.val = 45 ∨ (more = true ∧ (n.val = 58 ∨ n.val = 46))) := by decide +kernel
 have := key ⟨c.toNat, u8_lt c⟩ more
 simpa using this
theorem named_l0 (s : ByteArray) (more : Bool) (hs : s.size ≤ 1000) (d : Nat) : ∀ i : Nat, i + d = s.size →
  Ev (fun k => chars_named.l0 k s (others more) (s.size : Int) (i : Int)) (((B s).drop i).all (okb more)) := by
 induction d with
 | zero =>
  intro i hi
  rw [List.drop_eq_nil_of_le (by rw [B_len]; omega)]
  refine Ev.step (f := fun _ => some true) (fun k => ?_) (Ev.now _)
  simp only [chars_named.l0]; rw [if_neg (by omega)]
 | succ d ih =>
  intro i hi
  have hlt : i < (B s).length := by rw [B_len]; omega
  have hn := ih (i + 1) (by omega)
  rw [List.drop_eq_getElem_cons hlt, List.all_cons]
  have e2 : wrap64 ((i : Int) + 1) = ((i + 1 : Nat) : Int) := by rw [w64 (by omega) (by omega)]; omega
  have hsm := small_f (B s)[i]
  have hix := index_others (B s)[i] more
  refine Ev.step (f := fun k => if okb more (B s)[i] = true then chars_named.l0 k s (others more) (s.size : Int) ((i + 1 : Nat) : Int) else some false) (fun k => ?_) ?_
  ·simp only [chars_named.l0]
   rw [if_pos (by omega), if_pos (by omega), if_pos (by omega), bt_nat hlt, hsm, Option.bind_some, e2]
   by_cases h1 : small (B s)[i] = true
   ·rw [if_pos h1, if_pos (small_ok more _ h1)]
   ·rw [if_neg h1]
    have h1' : ¬ (97 ≤ (B s)[i].toNat ∧ (B s)[i].toNat ≤ 122) := by simpa [small] using h1
    have hrest : ((strings_IndexByte.f (others more) ((B s)[i].toNat : Int)).bind fun t => if t < 0 then some false else chars_named.l0 k s (others more) (s.size : Int) ((i + 1 : Nat) : Int)) = if ((B s)[i].toNat = 45 ∨ (more = true ∧ ((B s)[i].toNat = 58 ∨ (B s)[i].toNat = 46))) then chars_named.l0 k s (others more) (s.size : Int) ((i + 1 : Nat) : Int) else some false := by
     unfold strings_IndexByte.f
     rw [Option.bind_some, toUInt8_toNat]
     by_cases h2 : ((B s)[i].toNat = 45 ∨ (more = true ∧ ((B s)[i].toNat = 58 ∨ (B s)[i].toNat = 46)))
     ·rw [if_neg (fun h => (hix.1 h) h2), if_pos h2]
     ·rw [if_pos (hix.2 h2), if_neg h2]
    have hok : okb more (B s)[i] = true ↔ (48 ≤ (B s)[i].toNat ∧ (B s)[i].toNat ≤ 57) ∨ ((B s)[i].toNat = 45 ∨ (more = true ∧ ((B s)[i].toNat = 58 ∨ (B s)[i].toNat = 46))) := by
     have hq : ¬ (97 ≤ (B s)[i].toNat ∧ (B s)[i].toNat ≤ 122) := h1'
     unfold okb
     rw [decide_eq_false hq]
     generalize (B s)[i].toNat = q at *
     cases more <;> simp <;> omega
    by_cases h3 : ((B s)[i].toNat : Int) < 48
    ·rw [if_pos h3, hrest]
     by_cases h2 : ((B s)[i].toNat = 45 ∨ (more = true ∧ ((B s)[i].toNat = 58 ∨ (B s)[i].toNat = 46)))
     ·rw [if_pos h2, if_pos (hok.2 (.inr h2))]
     ·rw [if_neg h2, if_neg (fun h => (hok.1 h).elim (fun h => by omega) h2)]
    ·rw [if_neg h3]
     by_cases h4 : ((B s)[i].toNat : Int) > 57
     ·rw [if_pos h4, hrest]
      by_cases h2 : ((B s)[i].toNat = 45 ∨ (more = true ∧ ((B s)[i].toNat = 58 ∨ (B s)[i].toNat = 46)))
      ·rw [if_pos h2, if_pos (hok.2 (.inr h2))]
      ·rw [if_neg h2, if_neg (fun h => (hok.1 h).elim (fun h => by omega) h2)]
     ·rw [if_neg h4, if_pos (hok.2 (.inl (by omega)))]
  ·by_cases h : okb more (B s)[i] = true
   ·rw [h, Bool.true_and]; exact Ev.congr (fun k => by rw [if_pos rfl]) hn
   ·rw [Bool.eq_false_iff.2 h, Bool.false_and]; exact Ev.congr (fun k => by rw [if_neg (by decide)]) (Ev.now _)
theorem named_ev (s : ByteArray) (more : Bool) (hs : s.size ≤ 140737488351232) : Ev (fun k => chars_named.f k s (others more)) (namedS more (B s)) := by
 have bad : Ev (fun k => chars_named.j0 k s (others more) true) false := Ev.step (f := fun _ => some false) (fun k => by simp only [chars_named.j0]; rw [if_pos trivial]) (Ev.now _)
 unfold chars_named.f
 rw [toList_B]
 by_cases h0 : B s = []
 ·exact Ev.congr (f := fun k => chars_named.j0 k s (others more) true) (fun k => by rw [if_pos h0]) (by rw [h0]; exact bad)
 ·obtain ⟨c, t, e⟩ := List.exists_cons_of_ne_nil h0
  have hl : s.size = t.length + 1 := by rw [← B_len, e]; rfl
  have hb0 : bt s 0 = (c.toNat : Int) := by
   have := bt_nat (s := s) (i := 0) (by rw [e]; simp)
   simp only [e] at this
   simpa using this
  by_cases h1 : (s.size : Int) > 32
  ·have : namedS more (B s) = false := by rw [e]; rw [namedS_cons]; simp; omega
   rw [this]
   exact Ev.congr (f := fun k => chars_named.j0 k s (others more) true) (fun k => by rw [if_neg h0, if_pos h1]) bad
  ·have hall := named_l0 s more (by omega) s.size 0 (by omega)
   rw [List.drop_zero] at hall
   refine Ev.congr (f := fun k => chars_named.j0 k s (others more) (!small c)) (fun k => by rw [if_neg h0, if_neg h1, if_pos (by omega), hb0, small_f, Option.bind_some]) ?_
   by_cases h2 : small c = true
   ·have : namedS more (B s) = (B s).all (okb more) := by rw [e]; rw [namedS_cons, h2, decide_eq_true (by omega)]; simp
    rw [this, h2]
    refine Ev.step (fun k => ?_) hall
    simp only [chars_named.j0]; rw [if_neg (by decide)]; rfl
   ·have : namedS more (B s) = false := by rw [e]; rw [namedS_cons, Bool.eq_false_iff.2 h2]; simp
    rw [this, Bool.eq_false_iff.2 h2]; exact bad
theorem rnamed_l0 (s : ByteArray) (more : Bool) (hs : s.size ≤ 1000) (d : Nat) : ∀ i : Nat, i + d = s.size →
  Ev (fun k => tendrilref02_Named.l0 k s more (i : Int)) (((B s).drop i).all (okb more)) := by
 induction d with
 | zero =>
  intro i hi
  rw [List.drop_eq_nil_of_le (by rw [B_len]; omega)]
  refine Ev.step (f := fun _ => some true) (fun k => ?_) (Ev.now _)
  simp only [tendrilref02_Named.l0]; rw [if_neg (by omega)]
 | succ d ih =>
  intro i hi
  have hlt : i < (B s).length := by rw [B_len]; omega
  have hn := ih (i + 1) (by omega)
  rw [List.drop_eq_getElem_cons hlt, List.all_cons]
  have e2 : wrap64 ((i : Int) + 1) = ((i + 1 : Nat) : Int) := by rw [w64 (by omega) (by omega)]; omega
  refine Ev.step (f := fun k => if okb more (B s)[i] = true then tendrilref02_Named.l0 k s more ((i + 1 : Nat) : Int) else some false) (fun k => ?_) ?_
  ·simp only [tendrilref02_Named.l0]
   rw [if_pos (by omega), if_pos (by omega), bt_nat hlt, inner_f, Option.bind_some, e2]
  ·by_cases h : okb more (B s)[i] = true
   ·rw [h, Bool.true_and]; exact Ev.congr (fun k => by rw [if_pos rfl]) hn
   ·rw [Bool.eq_false_iff.2 h, Bool.false_and]; exact Ev.congr (fun k => by rw [if_neg (by decide)]) (Ev.now _)
theorem rnamed_ev (s : ByteArray) (more : Bool) (hs : s.size ≤ 140737488351232) : Ev (fun k => tendrilref02_Named.f k s more) (namedS more (B s)) := by
 have bad : Ev (fun k => tendrilref02_Named.j0 k s more true) false := Ev.step (f := fun _ => some false) (fun k => by simp only [tendrilref02_Named.j0]; rw [if_pos trivial]) (Ev.now _)
 unfold tendrilref02_Named.f
 by_cases h0 : (s.size : Int) < 1
 ·have e : B s = [] := List.eq_nil_of_length_eq_zero (by rw [B_len]; omega)
  exact Ev.congr (f := fun k => tendrilref02_Named.j0 k s more true) (fun k => by rw [if_pos h0]) (by rw [e]; exact bad)
 ·obtain ⟨c, t, e⟩ := List.exists_cons_of_ne_nil (l := B s) (by intro h; have := B_len s; rw [h] at this; simp at this; omega)
  have hl : s.size = t.length + 1 := by rw [← B_len, e]; rfl
  have hb0 : bt s 0 = (c.toNat : Int) := by
   have := bt_nat (s := s) (i := 0) (by rw [e]; simp)
   simp only [e] at this
   simpa using this
  by_cases h1 : (s.size : Int) > 32
  ·have : namedS more (B s) = false := by rw [e]; rw [namedS_cons]; simp; omega
   rw [this]
   exact Ev.congr (f := fun k => tendrilref02_Named.j0 k s more true) (fun k => by rw [if_neg h0, if_pos h1]) bad
  ·have hall := rnamed_l0 s more (by omega) t.length 1 (by omega)
   rw [e, List.drop_succ_cons, List.drop_zero] at hall
   have gd : small c = true → Ev (fun k => tendrilref02_Named.j0 k s more false) (namedS more (B s)) := by
    intro h2
    have : namedS more (B s) = t.all (okb more) := by rw [e]; rw [namedS_cons, h2, decide_eq_true (by omega), List.all_cons, small_ok more c h2]; simp
    rw [this]
    refine Ev.step (fun k => ?_) hall
    simp only [tendrilref02_Named.j0]; rw [if_neg (by decide)]; rfl
   have bd : small c = false → namedS more (B s) = false := by intro h2; rw [e]; rw [namedS_cons, h2]; simp
   by_cases h2 : (c.toNat : Int) < 97
   ·rw [bd (by unfold small; rw [decide_eq_false_iff_not]; omega)]
    exact Ev.congr (f := fun k => tendrilref02_Named.j0 k s more true) (fun k => by rw [if_neg h0, if_neg h1, if_pos (by omega), hb0, if_pos h2]) bad
   ·refine Ev.congr (f := fun k => tendrilref02_Named.j0 k s more (decide ((c.toNat : Int) > 122))) (fun k => by rw [if_neg h0, if_neg h1, if_pos (by omega), hb0, if_neg h2]) ?_
    by_cases h3 : (c.toNat : Int) > 122
    ·rw [bd (by unfold small; rw [decide_eq_false_iff_not]; omega), decide_eq_true h3]; exact bad
    ·rw [decide_eq_false h3]; exact gd (by unfold small; rw [decide_eq_true_eq]; omega)
theorem name_ev (s : ByteArray) (hs : s.size ≤ 140737488351232) : Ev (fun k => chars_Name.f k s) (namedS true (B s)) := Ev.bind (named_ev s true hs) (Ev.now _)
end Go.Proofs.YtidcecpbihmloaaGreatDoor.M02

namespace Go.Proofs.YtidcecpbihmloaaGreatDoor.M02
open Go Go.RowKit Go.Proofs.YtidcecpbihmloaaGreatDoor.P16 Go.Proofs.YtidcecpbihmloaaGreatDoorE Go.Proofs.YtidcecpbihmloaaGreatDoorW.PrintWords Go.Proofs.YtidcecpbihmloaaGreatDoorW.PrintLast Go.Proofs.YtidcecpbihmloaaGreatDoorW.PrintMore

def cmpL : List UInt8 → List UInt8 → Int
 | [], [] => 0
 | [], _ :: _ => -1
 | _ :: _, [] => 1
 | a :: s, b :: t => if a.toNat < b.toNat then -1 else if b.toNat < a.toNat then 1 else cmpL s t
theorem cmpL_neg : ∀ s t : List UInt8, cmpL t s = - cmpL s t
 | [], [] => rfl
 | [], _ :: _ => rfl
 | _ :: _, [] => rfl
 | a :: s, b :: t => by
  simp only [cmpL]
  by_cases h1 : a.toNat < b.toNat
  ·rw [if_pos h1, if_neg (by omega), if_pos h1]; rfl
  ·by_cases h2 : b.toNat < a.toNat
   ·rw [if_pos h2, if_neg h1, if_pos h2]
   ·rw [if_neg h1, if_neg h2, if_neg h2, if_neg h1]; exact cmpL_neg s t
theorem cmpL_eq : ∀ s t : List UInt8, cmpL s t = 0 ↔ s = t
 | [], [] => by simp [cmpL]
 | [], _ :: _ => by simp [cmpL]
 | _ :: _, [] => by simp [cmpL]
 | a :: s, b :: t => by
  simp only [cmpL]
  by_cases h1 : a.toNat < b.toNat
  ·rw [if_pos h1]; simp; intro h; subst h; omega
  ·by_cases h2 : b.toNat < a.toNat
   ·rw [if_neg h1, if_pos h2]; simp; intro h; subst h; omega
   ·rw [if_neg h1, if_neg h2, cmpL_eq s t]
    have : a = b := UInt8.toNat_inj.1 (by omega)
    simp [this]
theorem cmpL_range (s t : List UInt8) : cmpL s t = -1 ∨ cmpL s t = 0 ∨ cmpL s t = 1 := by
 induction s generalizing t with
 | nil => cases t <;> simp [cmpL]
 | cons a s ih =>
  cases t with
  | nil => simp [cmpL]
  | cons b t =>
   simp only [cmpL]
   split
   ·simp
   ·split
    ·simp
    ·exact ih t
theorem less_cmpL : ∀ s t : List UInt8, (if Op.bytesLess s t = true then (-1 : Int) else if s = t then 0 else 1) = cmpL s t
 | [], [] => by simp [Op.bytesLess, cmpL]
 | [], _ :: _ => by simp [Op.bytesLess, cmpL]
 | _ :: _, [] => by simp [Op.bytesLess, cmpL]
 | a :: s, b :: t => by
  have ih := less_cmpL s t
  simp only [Op.bytesLess, cmpL]
  by_cases h1 : a.toNat < b.toNat
  ·have : a < b := UInt8.lt_iff_toNat_lt.2 h1
   simp [this, h1]
  ·have h1' : ¬ a < b := fun h => h1 (UInt8.lt_iff_toNat_lt.1 h)
   by_cases h2 : b.toNat < a.toNat
   ·have hne : ¬ a = b := fun h => by subst h; omega
    simp [h1', hne, h1, h2]
   ·have he : a = b := UInt8.toNat_inj.1 (by omega)
    subst he
    simp only [Nat.lt_irrefl, if_false]
    rw [← ih]
    simp
theorem rcompare_l0 (a b : ByteArray) (_ha : a.size ≤ 140737488351232) (_hb : b.size ≤ 140737488351232) (d : Nat) : ∀ i : Nat, i + d = a.size → i ≤ b.size →
  Ev (fun k => tendrilref02_Compare.l0 k a b (i : Int)) (cmpL ((B a).drop i) ((B b).drop i)) := by
 have stop : ∀ i : Nat, i ≥ a.size ∨ i ≥ b.size → (i ≤ a.size ∧ i ≤ b.size) → Ev (fun k => tendrilref02_Compare.j1 k a b (i : Int) false) (cmpL ((B a).drop i) ((B b).drop i)) := by
  intro i h hle
  have l1 := B_len a
  have l2 := B_len b
  refine Ev.step (f := fun _ => some (cmpL ((B a).drop i) ((B b).drop i))) (fun k => ?_) (Ev.now _)
  simp only [tendrilref02_Compare.j1]
  rw [if_neg (by decide)]
  by_cases h1 : a.size ≤ i
  ·rw [show (B a).drop i = [] from List.drop_eq_nil_of_le (by omega)]
   by_cases h2 : b.size ≤ i
   ·rw [show (B b).drop i = [] from List.drop_eq_nil_of_le (by omega)]
    by_cases h3 : a.size < b.size
    ·exfalso; omega
    ·by_cases h4 : b.size < a.size
     ·exfalso; omega
     ·rw [if_neg (by omega), if_neg (by omega)]; rfl
   ·obtain ⟨x, t, e⟩ := List.exists_cons_of_ne_nil (l := (B b).drop i) (by intro hh; have := congrArg List.length hh; simp at this; omega)
    rw [e, if_pos (by omega)]; rfl
  ·have h2 : b.size ≤ i := by omega
   rw [show (B b).drop i = [] from List.drop_eq_nil_of_le (by omega)]
   obtain ⟨x, t, e⟩ := List.exists_cons_of_ne_nil (l := (B a).drop i) (by intro hh; have := congrArg List.length hh; simp at this; omega)
   rw [e, if_neg (by omega), if_pos (by omega)]; rfl
 induction d with
 | zero =>
  intro i hi hib
  refine Ev.step (f := fun k => tendrilref02_Compare.j1 k a b (i : Int) false) (fun k => ?_) (stop i (.inl (by omega)) ⟨by omega, hib⟩)
  simp only [tendrilref02_Compare.l0]; rw [if_neg (by omega)]
 | succ d ih =>
  intro i hi hib
  refine Ev.step (f := fun k => tendrilref02_Compare.j1 k a b (i : Int) (decide ((i : Int) < (b.size : Int)))) (fun k => ?_) ?_
  ·simp only [tendrilref02_Compare.l0]; rw [if_pos (by omega)]
  ·by_cases h2 : (i : Int) < (b.size : Int)
   ·rw [decide_eq_true h2]
    have hla : i < (B a).length := by rw [B_len]; omega
    have hlb : i < (B b).length := by rw [B_len]; omega
    have hn := ih (i + 1) (by omega) (by omega)
    rw [List.drop_eq_getElem_cons hla, List.drop_eq_getElem_cons hlb]
    simp only [cmpL]
    have e2 : wrap64 ((i : Int) + 1) = ((i + 1 : Nat) : Int) := by rw [w64 (by omega) (by omega)]; omega
    refine Ev.step (f := fun k => if (B a)[i].toNat < (B b)[i].toNat then some (-1) else if (B b)[i].toNat < (B a)[i].toNat then some 1 else tendrilref02_Compare.l0 k a b ((i + 1 : Nat) : Int)) (fun k => ?_) ?_
    ·simp only [tendrilref02_Compare.j1]
     rw [if_pos trivial, if_pos (by omega), if_pos (by omega), if_pos h2, bt_nat hla, bt_nat hlb, e2]
     by_cases h3 : (B a)[i].toNat < (B b)[i].toNat
     ·rw [if_pos h3, if_pos (by omega)]
     ·by_cases h4 : (B b)[i].toNat < (B a)[i].toNat
      ·rw [if_neg h3, if_pos h4, if_neg (by omega), if_pos (by omega)]
      ·rw [if_neg h3, if_neg h4, if_neg (by omega), if_neg (by omega)]
    ·by_cases h3 : (B a)[i].toNat < (B b)[i].toNat
     ·rw [if_pos h3]; exact Ev.congr (fun k => by rw [if_pos h3]) (Ev.now _)
     ·by_cases h4 : (B b)[i].toNat < (B a)[i].toNat
      ·rw [if_neg h3, if_pos h4]; exact Ev.congr (fun k => by rw [if_neg h3, if_pos h4]) (Ev.now _)
      ·rw [if_neg h3, if_neg h4]; exact Ev.congr (fun k => by rw [if_neg h3, if_neg h4]) hn
   ·rw [decide_eq_false h2]; exact stop i (.inr (by omega)) ⟨by omega, hib⟩
theorem rcompare_ev (a b : ByteArray) (ha : a.size ≤ 140737488351232) (hb : b.size ≤ 140737488351232) : Ev (fun k => tendrilref02_Compare.f k a b) (cmpL (B a) (B b)) := by
 have := rcompare_l0 a b ha hb a.size 0 (by omega) (by omega)
 rw [List.drop_zero, List.drop_zero] at this
 exact this
end Go.Proofs.YtidcecpbihmloaaGreatDoor.M02

namespace Go.Proofs.YtidcecpbihmloaaGreatDoor.M02
open Go Go.RowKit Go.Proofs.YtidcecpbihmloaaGreatDoor.P16 Go.Proofs.YtidcecpbihmloaaGreatDoorE Go.Proofs.YtidcecpbihmloaaGreatDoorW.PrintWords Go.Proofs.YtidcecpbihmloaaGreatDoorW.PrintLast Go.Proofs.YtidcecpbihmloaaGreatDoorW.PrintMore

def mkS (l : List UInt8) : ByteArray := ⟨l.toArray⟩
theorem dd_lt {m : Nat} (h : m < 10) : Lib.decDigits m = [UInt8.ofNat (48 + m)] := by rw [Lib.decDigits, dif_pos h]
theorem dd_ge {m : Nat} (h : 10 ≤ m) : Lib.decDigits m = Lib.decDigits (m / 10) ++ [UInt8.ofNat (48 + m % 10)] := by rw [Lib.decDigits, dif_neg (by omega)]
theorem dig_nat {d : Nat} (h : d < 10) : (UInt8.ofNat (48 + d)).toNat = 48 + d := by simp; omega
theorem dd_digit : ∀ (m : Nat), ∀ c ∈ Lib.decDigits m, 48 ≤ c.toNat ∧ c.toNat ≤ 57 := by
 intro m
 induction m using Nat.strongRecOn with
 | _ m ih =>
  intro c hc
  by_cases h : m < 10
  ·rw [dd_lt h, List.mem_singleton] at hc
   rw [hc, dig_nat h]; omega
  ·rw [dd_ge (by omega)] at hc
   rcases List.mem_append.1 hc with h1 | h1
   ·exact ih (m / 10) (by omega) c h1
   ·rw [List.mem_singleton] at h1
    rw [h1, dig_nat (by omega)]; omega
theorem dd_ne (m : Nat) : Lib.decDigits m ≠ [] := by
 by_cases h : m < 10
 ·rw [dd_lt h]; simp
 ·rw [dd_ge (by omega)]; simp
theorem parse_dd (m : Nat) : ∀ (rest : List UInt8), m < 18446744073709551616 → Lib.parseUint10 0 (Lib.decDigits m ++ rest) = Lib.parseUint10 m rest := by
 induction m using Nat.strongRecOn with
 | _ m ih =>
  intro rest hm
  by_cases h : m < 10
  ·rw [dd_lt h, List.singleton_append]
   simp only [Lib.parseUint10, dig_nat h]
   rw [if_pos (by omega), if_neg (by omega), if_neg (by omega)]
   congr 1; omega
  ·rw [dd_ge (by omega), List.append_assoc, ih (m / 10) (by omega) _ (by omega), List.singleton_append]
   simp only [Lib.parseUint10, dig_nat (show m % 10 < 10 by omega)]
   rw [if_pos (by omega), if_neg (by omega), if_neg (by omega)]
   congr 1; omega
theorem atoi_itoa {n : Int} (h0 : -9223372036854775808 ≤ n) (h1 : n ≤ 9223372036854775807) : Lib.atoiAll (Lib.itoa n) = .ok n := by
 have pm : ∀ m : Nat, m < 18446744073709551616 → Lib.parseMag (Lib.decDigits m) = .ok m := by
  intro m hm
  unfold Lib.parseMag
  rw [if_neg (dd_ne m)]
  have := parse_dd m [] hm
  rw [List.append_nil] at this
  rw [this]; rfl
 unfold Lib.itoa
 by_cases hn : n < 0
 ·rw [if_pos hn]
  unfold Lib.atoiAll
  simp only
  rw [if_pos (by decide), pm n.natAbs (by omega)]
  simp only
  have h45 : (45 : UInt8).toNat = 45 := rfl
  rw [if_neg (by rw [h45]; simp), if_neg (by omega), if_pos (by rw [h45])]
  congr 1; omega
 ·rw [if_neg hn]
  obtain ⟨c, r, e⟩ := List.exists_cons_of_ne_nil (dd_ne n.toNat)
  have hc := dd_digit n.toNat c (by rw [e]; exact List.mem_cons_self ..)
  have hp := pm n.toNat (by omega)
  rw [e] at hp ⊢
  unfold Lib.atoiAll
  simp only
  rw [if_neg (by omega), hp]
  simp only
  rw [if_neg (by omega), if_neg (by omega), if_neg (by omega)]
  congr 1; omega
theorem whole_itoa {n : Int} (h0 : -9223372036854775808 ≤ n) (h1 : n ≤ 9223372036854775807) : wholeS (Lib.itoa n) = (n, true) := by
 unfold wholeS; rw [atoi_itoa h0 h1]; simp
theorem whole_not {l : List UInt8} (h : ¬ ∃ n : Int, -9223372036854775808 ≤ n ∧ n ≤ 9223372036854775807 ∧ Lib.itoa n = l) : wholeS l = (0, false) := by
 unfold wholeS
 cases ha : Lib.atoiAll l with
 | ok n =>
  have hn := atoi_range ha
  simp only
  rw [if_neg (fun e => h ⟨n, hn.1, hn.2, e⟩)]
 | range => rfl
 | _ => rfl

end Go.Proofs.YtidcecpbihmloaaGreatDoor.M02

namespace Go.Proofs.YtidcecpbihmloaaGreatDoor.K03
open Go Go.RowKit Go.Proofs.YtidcecpbihmloaaGreatDoorE Go.Proofs.YtidcecpbihmloaaGreatDoor.L03 Go.Proofs.YtidcecpbihmloaaGreatDoorW.PrintWords Go.Proofs.YtidcecpbihmloaaGreatDoorW.PrintLast Go.Proofs.YtidcecpbihmloaaGreatDoorW.PrintMore
def sgn : List UInt8 := [60, 62, 34]
end Go.Proofs.YtidcecpbihmloaaGreatDoor.K03

namespace Go.Proofs.YtidcecpbihmloaaGreatDoor.K04
open Go Go.Proofs.YtidcecpbihmloaaGreatDoor.L03 Go.RowKit Go.Proofs.YtidcecpbihmloaaGreatDoorE Go.Proofs.YtidcecpbihmloaaGreatDoorW.PrintWords
theorem escB_of {n : Nat} (hn : n ≤ 255) (h : formL n ≠ []) : escB ((n : Int).toNat.toUInt8) = formL n := by
 have e : ((n : Int).toNat.toUInt8).toNat = n := by simp; omega
 unfold escB
 rw [e, if_neg h]
theorem ref_esc (l : List UInt8) (h : (refS l).2.toNat ≠ 0) : escB ((refS l).1.toNat.toUInt8) = l.take (refS l).2.toNat := by
 revert h
 unfold refS
 split
 ·rename_i c hc
  intro h
  have h1 := List.find?_some hc
  have h2 := List.mem_of_find?_eq_some hc
  have h3 : c ≤ 255 := by
   have := List.mem_of_mem_take h2
   simp [signs] at this
   omega
  have h4 := List.prefix_iff_eq_take.1 (List.isPrefixOf_iff_prefix.1 h1)
  have h5 : formL c ≠ [] := by intro e; rw [e] at h; simp at h
  rw [escB_of h3 h5]
  simpa using h4
 ·split
  ·rename_i hp
   have hix := index_num _ hp
   unfold numS
   split
   ·intro h; simp at h
   ·split
    ·split
     ·rename_i n _ hn
      intro h
      obtain ⟨n0, n1, he⟩ := hn
      obtain ⟨m, rfl⟩ := Int.eq_ofNat_of_zero_le n0
      have hne : formL m ≠ [] := by
       intro e
       rw [Int.toNat_natCast, e] at he
       have := congrArg List.length he
       rw [List.length_take, List.length_nil] at this
       omega
      simp only
      rw [escB_of (by omega) hne, ← show (m : Int).toNat = m from rfl, he]
      congr 1
      omega
     ·intro h; simp at h
    ·intro h; simp at h
  ·intro h; simp at h
theorem step_esc (l : List UInt8) (h : (stepU l).2 ≠ 0) : (stepU l).2 ≤ l.length ∧ escB (stepU l).1 = l.take (stepU l).2 := by
 cases l with
 | nil => simp [stepU] at h
 | cons c t =>
  simp only [stepU] at h ⊢
  split
  ·rename_i hc
   rw [if_pos hc] at h
   have hr := refS_range (c :: t)
   exact ⟨by simp only; omega, ref_esc _ h⟩
  ·rename_i hc
   rw [if_neg hc] at h
   split
   ·rename_i hf
    refine ⟨by simp, ?_⟩
    unfold escB
    rw [if_pos hf]; rfl
   ·rename_i hf
    rw [if_neg hf] at h
    exact absurd rfl h
theorem escS_append (a b : List UInt8) : escS (a ++ b) = escS a ++ escS b := by simp [escS]
theorem escS_one (c : UInt8) : escS [c] = escB c := by simp [escS]
theorem un_esc (d : Nat) : ∀ (l : List UInt8) (pos : Nat) (out : List UInt8), l.length ≤ d →
  ((unS l pos out).2.2 = 0 ∧ escS (unS l pos out).1 = escS out ++ l) ∨ ((unS l pos out).2.2 = 2 ∧ (unS l pos out).1 = [] ∧ (pos : Int) ≤ (unS l pos out).2.1 ∧ (unS l pos out).2.1 < pos + l.length) := by
 induction d with
 | zero =>
  intro l pos out hl
  obtain rfl : l = [] := List.length_eq_zero_iff.1 (by omega)
  rw [unS_nil]; left; simp
 | succ d ih =>
  intro l pos out hl
  by_cases hn : l = []
  ·subst hn; rw [unS_nil]; left; simp
  ·have hp := List.length_pos_iff.2 hn
   rw [unS_cons l hn]
   by_cases h0 : (stepU l).2 = 0
   ·rw [if_pos h0]; right
    refine ⟨rfl, rfl, Int.le_refl _, ?_⟩
    simp only; omega
   ·rw [if_neg h0]
    obtain ⟨h1, h2⟩ := step_esc l h0
    have hd : (l.drop (stepU l).2).length = l.length - (stepU l).2 := List.length_drop ..
    rcases ih (l.drop (stepU l).2) (pos + (stepU l).2) (out ++ [(stepU l).1]) (by omega) with ⟨a, b⟩ | ⟨a, b, c, e⟩
    ·left
     refine ⟨a, ?_⟩
     rw [b, escS_append, escS_one, h2, List.append_assoc, List.take_append_drop]
    ·right
     exact ⟨a, b, by omega, by omega⟩
theorem escS_ge : ∀ l : List UInt8, l.length ≤ (escS l).length
 | [] => Nat.zero_le _
 | c :: t => by
  have h := escS_ge t
  have h2 : 1 ≤ (escB c).length := by
   unfold escB
   split
   ·simp
   ·rename_i hf
    exact List.length_pos_iff.2 hf
  unfold escS at h ⊢
  rw [List.flatMap_cons, List.length_append, List.length_cons]; omega
end Go.Proofs.YtidcecpbihmloaaGreatDoor.K04

namespace Go.Proofs.YtidcecpbihmloaaGreatDoorE
open Go Go.RowKit
abbrev em : ByteArray := ⟨#[]⟩
def sgn : List UInt8 := [60, 62, 34]
def stopS (l : List UInt8) : Nat := l.findIdx fun b => sgn.contains b
def mkB (l : List UInt8) : ByteArray := ⟨l.toArray⟩
theorem mkB_list (l : List UInt8) : (mkB l).data.toList = l := rfl
theorem mkB_size (l : List UInt8) : (mkB l).size = l.length := List.size_toArray
end Go.Proofs.YtidcecpbihmloaaGreatDoorE

namespace Go.Proofs.YtidcecpbihmloaaGreatDoorE
open Go Go.RowKit Go.Proofs.YtidcecpbihmloaaGreatDoor.M02 Go.Proofs.YtidcecpbihmloaaGreatDoor.P16
set_option linter.unusedVariables false
set_option linter.unusedSimpArgs false
def isLet (c : UInt8) : Bool := decide (97 ≤ c.toNat ∧ c.toNat ≤ 122)
def isDig (c : UInt8) : Bool := decide (c.toNat = 45) || decide (48 ≤ c.toNat ∧ c.toNat ≤ 57)
def isNam (c : UInt8) : Bool := isLet c || isDig c || decide (c.toNat = 58) || decide (c.toNat = 46)
/-- The fields that a kind does not name are zero. -/
def plainD (d : S25) : Bool :=
 if d.f0 = 0 then decide (d.f1 = 0) && d.f2.data.toList.isEmpty && d.f3.isEmpty && d.f4.isEmpty
 else if d.f0 = 1 then (decide (d.f1 = 0) || decide (d.f1 = 1)) && d.f2.data.toList.isEmpty && d.f3.isEmpty && d.f4.isEmpty
 else if d.f0 = 2 then d.f2.data.toList.isEmpty && d.f3.isEmpty && d.f4.isEmpty
 else if d.f0 = 3 then decide (d.f1 = 0) && d.f3.isEmpty && d.f4.isEmpty && decide (d.f2.size ≤ 65536)
 else if d.f0 = 4 then decide (d.f1 = 0) && d.f2.data.toList.isEmpty && d.f3.isEmpty
 else if d.f0 = 5 then decide (d.f1 = 0) && d.f2.data.toList.isEmpty && decide (d.f3.length = d.f4.length)
 else false
/-- Names, in ascending order. -/
def namesD : List ByteArray → Bool
 | [] => true
 | [n] => namedS true n.data.toList
 | n :: m :: l => namedS true n.data.toList && Op.bytesLess n.data.toList m.data.toList && namesD (m :: l)
mutual
/-- What is left of so many pieces, less those of a piece; none: it is not right. -/
def weighD : S25 → Nat → Nat → Option Nat
 | ⟨k, n, t, ns, l⟩, left, op => if left = 0 ∨ plainD ⟨k, n, t, ns, l⟩ = false ∨ (k > 3 ∧ op = 16) ∨ namesD ns = false then none else weighL l (left - 1) (op + 1)
def weighL : List S25 → Nat → Nat → Option Nat
 | [], left, _ => some left
 | d :: l, left, op => match weighD d left op with
  | none => none
  | some r => weighL l r op
end
def rightD (d : S25) : Bool := (weighD d 2000 0).isSome
mutual
def printD : S25 → List UInt8
 | ⟨k, n, t, ns, l⟩ =>
  if k = 0 then [110, 111, 110, 101] else if k = 1 then (if n = 1 then [121, 101, 115] else [110, 111]) else if k = 2 then Lib.itoa n
  else if k = 3 then 34 :: (escS t.data.toList ++ [34])
  else if k = 4 then 91 :: (printL false [] l ++ [93]) else 123 :: (printL true ns l ++ [125])
/-- The members, commas between. -/
def printL : Bool → List ByteArray → List S25 → List UInt8
 | _, _, [] => []
 | b, ns, d :: l => (if b then (ns.headD em).data.toList ++ [61] else []) ++ printD d ++ (match l with
  | [] => []
  | e :: r => 44 :: printL b ns.tail (e :: r))
end
/-- What a reading comes to: a thing, and where it stands then; or the place and the kind of what is wrong. -/
inductive Res (α : Type) where
 | ok (a : α) (at_ : Nat) (rest : List UInt8)
 | err (at_ : Nat) (code : Int)
def wordD (w : List UInt8) : Option S25 :=
 if w = [110, 111, 110, 101] then some ⟨0, 0, em, [], []⟩ else if w = [110, 111] then some ⟨1, 0, em, [], []⟩ else if w = [121, 101, 115] then some ⟨1, 1, em, [], []⟩ else none
/-- A text behind its quote. -/
def textD (t : List UInt8) (at_ : Nat) : Res S25 :=
 if (unS (t.take (stopS t)) 0 []).2.2 ≠ 0 then .err (at_ + (unS (t.take (stopS t)) 0 []).2.1.toNat) 2
 else if (t.drop (stopS t)).head? = some 34 then .ok ⟨3, 0, mkB (unS (t.take (stopS t)) 0 []).1, [], []⟩ (at_ + stopS t + 1) (t.drop (stopS t + 1)) else .err (at_ + stopS t) 2
mutual
/-- One piece; n: more than there are bytes. -/
def pieceS : Nat → List UInt8 → Nat → Nat → Res S25
 | 0, _, at_, _ => .err at_ 2
 | n + 1, l, at_, deep => match l with
  | [] => .err at_ 2
  | c :: t =>
   if isLet c then (match wordD ((c :: t).takeWhile isLet) with
    | some d => .ok d (at_ + ((c :: t).takeWhile isLet).length) ((c :: t).dropWhile isLet)
    | none => .err at_ 2)
   else if isDig c then (if (wholeS ((c :: t).takeWhile isDig)).2 then .ok ⟨2, (wholeS ((c :: t).takeWhile isDig)).1, em, [], []⟩ (at_ + ((c :: t).takeWhile isDig).length) ((c :: t).dropWhile isDig) else .err at_ 2)
   else if c = 34 then textD t (at_ + 1)
   else if c = 91 ∨ c = 123 then (if 16 ≤ deep then .err at_ 11 else
    if t.head? = some (if c = 123 then 125 else 93) then .ok ⟨if c = 123 then 5 else 4, 0, em, [], []⟩ (at_ + 2) (t.drop 1) else membersS n t (at_ + 1) (deep + 1) (decide (c = 123)) [] [])
   else .err at_ 2
/-- The members of a list or a record that is open. -/
def membersS : Nat → List UInt8 → Nat → Nat → Bool → List ByteArray → List S25 → Res S25
 | 0, _, at_, _, _, _, _ => .err at_ 2
 | n + 1, l, at_, deep, b, ns, ds =>
  if b then (if namedS true (l.takeWhile isNam) then (if (l.dropWhile isNam).head? = some 61 then tailS n ((l.dropWhile isNam).drop 1) (at_ + (l.takeWhile isNam).length + 1) deep b (ns ++ [mkB (l.takeWhile isNam)]) ds else .err (at_ + (l.takeWhile isNam).length) 2) else .err at_ 2)
  else tailS n l at_ deep b ns ds
/-- The piece of a member, and what stands behind it. -/
def tailS : Nat → List UInt8 → Nat → Nat → Bool → List ByteArray → List S25 → Res S25
 | 0, _, at_, _, _, _, _ => .err at_ 2
 | n + 1, l, at_, deep, b, ns, ds => match pieceS n l at_ deep with
  | .err a e => .err a e
  | .ok d a r =>
   if r.head? = some 44 then membersS n (r.drop 1) (a + 1) deep b ns (ds ++ [d])
   else if r.head? = some (if b then 125 else 93) then .ok ⟨if b then 5 else 4, 0, em, ns, ds ++ [d]⟩ (a + 1) (r.drop 1)
   else .err a 2
end
end Go.Proofs.YtidcecpbihmloaaGreatDoorE

namespace Go.Proofs.YtidcecpbihmloaaGreatDoorE
open Go Go.RowKit Go.Proofs.YtidcecpbihmloaaGreatDoor.M02 Go.Proofs.YtidcecpbihmloaaGreatDoor.P16
set_option linter.unusedVariables false
set_option linter.unusedSimpArgs false
theorem d_nil {t : ByteArray} (h : t.data.toList.isEmpty = true) : t = em := by
 cases t with
 | mk d =>
  cases d with
  | mk l =>
   cases l with
   | nil => rfl
   | cons c l => simp at h
theorem plain_cases {k n : Int} {t : ByteArray} {ns : List ByteArray} {l : List S25} (h : plainD ⟨k, n, t, ns, l⟩ = true) :
  (k = 0 ∧ n = 0 ∧ t = em ∧ ns = [] ∧ l = []) ∨ (k = 1 ∧ (n = 0 ∨ n = 1) ∧ t = em ∧ ns = [] ∧ l = []) ∨ (k = 2 ∧ t = em ∧ ns = [] ∧ l = [])
  ∨ (k = 3 ∧ n = 0 ∧ ns = [] ∧ l = [] ∧ t.size ≤ 65536) ∨ (k = 4 ∧ n = 0 ∧ t = em ∧ ns = []) ∨ (k = 5 ∧ n = 0 ∧ t = em ∧ ns.length = l.length) := by
 unfold plainD at h
 simp only at h
 split at h
 ·rename_i hk
  simp only [Bool.and_eq_true, decide_eq_true_eq, List.isEmpty_iff] at h
  exact Or.inl ⟨hk, h.1.1.1, d_nil (List.isEmpty_iff.2 h.1.1.2), h.1.2, h.2⟩
 split at h
 ·rename_i hk
  simp only [Bool.and_eq_true, Bool.or_eq_true, decide_eq_true_eq, List.isEmpty_iff] at h
  exact Or.inr (Or.inl ⟨hk, h.1.1.1, d_nil (List.isEmpty_iff.2 h.1.1.2), h.1.2, h.2⟩)
 split at h
 ·rename_i hk
  simp only [Bool.and_eq_true, decide_eq_true_eq, List.isEmpty_iff] at h
  exact Or.inr (Or.inr (Or.inl ⟨hk, d_nil (List.isEmpty_iff.2 h.1.1), h.1.2, h.2⟩))
 split at h
 ·rename_i hk
  simp only [Bool.and_eq_true, decide_eq_true_eq, List.isEmpty_iff] at h
  exact Or.inr (Or.inr (Or.inr (Or.inl ⟨hk, h.1.1.1, h.1.1.2, h.1.2, h.2⟩)))
 split at h
 ·rename_i hk
  simp only [Bool.and_eq_true, decide_eq_true_eq, List.isEmpty_iff] at h
  exact Or.inr (Or.inr (Or.inr (Or.inr (Or.inl ⟨hk, h.1.1, d_nil (List.isEmpty_iff.2 h.1.2), h.2⟩))))
 split at h
 ·rename_i hk
  simp only [Bool.and_eq_true, decide_eq_true_eq, List.isEmpty_iff] at h
  exact Or.inr (Or.inr (Or.inr (Or.inr (Or.inr ⟨hk, h.1.1, d_nil (List.isEmpty_iff.2 h.1.2), h.2⟩))))
 ·simp at h
theorem names_all : ∀ {ns : List ByteArray}, namesD ns = true → ∀ x ∈ ns, namedS true x.data.toList = true
 | [], _, x, hx => by simp at hx
 | [n], h, x, hx => by
  rw [List.mem_singleton.1 hx]; exact h
 | n :: m :: l, h, x, hx => by
  simp only [namesD, Bool.and_eq_true] at h
  rcases List.mem_cons.1 hx with rfl | hx
  ·exact h.1.1
  ·exact names_all h.2 x hx
mutual
/-- The numbers within are numbers of the machine. -/
def numsD : S25 → Prop
 | ⟨k, n, t, ns, l⟩ => (-9223372036854775808 ≤ n ∧ n ≤ 9223372036854775807) ∧ numsL l
def numsL : List S25 → Prop
 | [] => True
 | d :: l => numsD d ∧ numsL l
end
theorem weigh_plain {d : S25} {left op r : Nat} (h : weighD d left op = some r) : left ≠ 0 ∧ plainD d = true ∧ ¬ (d.f0 > 3 ∧ op = 16) ∧ namesD d.f3 = true ∧ weighL d.f4 (left - 1) (op + 1) = some r := by
 rcases d with ⟨k, n, t, ns, l⟩
 rw [weighD] at h
 split at h
 ·simp at h
 ·rename_i hc
  rw [not_or, not_or, not_or] at hc
  refine ⟨hc.1, by simpa using hc.2.1, hc.2.2.1, by simpa using hc.2.2.2, h⟩
/-- What stands behind a member. -/
def moreL (b : Bool) (ns : List ByteArray) (l : List S25) : List UInt8 := match l with
 | [] => []
 | e :: r => 44 :: printL b ns (e :: r)
theorem printL_cons (b : Bool) (ns : List ByteArray) (d : S25) (l : List S25) : printL b ns (d :: l) = (if b then (ns.headD em).data.toList ++ [61] else []) ++ printD d ++ moreL b ns.tail l := by
 cases l <;> simp [printL, moreL]
end Go.Proofs.YtidcecpbihmloaaGreatDoorE

namespace Go.Proofs.YtidcecpbihmloaaGreatDoorE
open Go Go.RowKit Go.Proofs.YtidcecpbihmloaaGreatDoor.M02 Go.Proofs.YtidcecpbihmloaaGreatDoor.P16
set_option linter.unusedVariables false
set_option linter.unusedSimpArgs false
theorem whole_of {l : List UInt8} (h : (wholeS l).2 = true) : (-9223372036854775808 ≤ (wholeS l).1 ∧ (wholeS l).1 ≤ 9223372036854775807) ∧ Lib.itoa (wholeS l).1 = l := by
 by_cases hc : ∃ n : Int, -9223372036854775808 ≤ n ∧ n ≤ 9223372036854775807 ∧ Lib.itoa n = l
 ·obtain ⟨n, h0, h1, rfl⟩ := hc
  rw [whole_itoa h0 h1]
  exact ⟨⟨h0, h1⟩, rfl⟩
 ·rw [whole_not hc] at h
  simp at h
theorem un_back (t : List UInt8) (h : (unS t 0 []).2.2 = 0) : escS (unS t 0 []).1 = t := by
 rcases Go.Proofs.YtidcecpbihmloaaGreatDoor.K04.un_esc t.length t 0 [] (Nat.le_refl _) with h' | h'
 ·rw [h'.2]; rfl
 ·rw [h] at h'; exact absurd h'.1 (by decide)
theorem head_at {l : List UInt8} {c : UInt8} (h : l.head? = some c) : l = c :: l.drop 1 := by
 cases l with
 | nil => simp at h
 | cons x l => simp at h; rw [h]; rfl
theorem word_back {w : List UInt8} {d : S25} (h : wordD w = some d) : printD d = w ∧ numsD d := by
 unfold wordD at h
 split at h
 ·rename_i hw; injection h with h; rw [← h, hw]; exact ⟨rfl, by simp [numsD, numsL]⟩
 split at h
 ·rename_i hw; injection h with h; rw [← h, hw]; exact ⟨rfl, by simp [numsD, numsL]⟩
 split at h
 ·rename_i hw; injection h with h; rw [← h, hw]; exact ⟨rfl, by simp [numsD, numsL]⟩
 ·simp at h
theorem text_back {t : List UInt8} {a a' : Nat} {d : S25} {r : List UInt8} (h : textD t a = .ok d a' r) : 34 :: t = printD d ++ r ∧ a' + 1 = a + (printD d).length ∧ numsD d := by
 unfold textD at h
 split at h
 ·simp at h
 rename_i h0
 split at h
 ·rename_i h1
  injection h with hd ha hr
  have hb := un_back _ (Decidable.not_not.1 h0)
  have hp : printD d = 34 :: (t.take (stopS t) ++ [34]) := by
   rw [← hd]
   have hpr : ∀ x : ByteArray, printD (⟨3, 0, x, [], []⟩ : S25) = 34 :: (escS x.data.toList ++ [34]) := fun _ => rfl
   rw [hpr, mkB_list, hb]
  have hd1 := head_at h1
  rw [List.drop_drop] at hd1
  have ht : t.take (stopS t) ++ 34 :: r = t := by
   rw [← hr, ← hd1, List.take_append_drop]
  have hlen : (t.take (stopS t)).length = stopS t := by
   rw [List.length_take]
   exact Nat.min_eq_left List.findIdx_le_length
  refine ⟨?_, ?_, ?_⟩
  ·rw [hp]; simp [ht]
  ·rw [hp, ← ha]
   simp only [List.length_cons, List.length_append, List.length_nil, hlen]
   omega
  ·rw [← hd]; simp [numsD, numsL]
 ·simp at h
theorem print_read (n : Nat) :
  (∀ (l : List UInt8) (a deep : Nat) (d : S25) (a' : Nat) (r : List UInt8), pieceS n l a deep = .ok d a' r → l = printD d ++ r ∧ a' = a + (printD d).length ∧ numsD d)
  ∧ (∀ (l : List UInt8) (a deep : Nat) (b : Bool) (ns0 : List ByteArray) (ds0 : List S25) (d : S25) (a' : Nat) (r : List UInt8), membersS n l a deep b ns0 ds0 = .ok d a' r →
   ∃ ns ds, d = ⟨if b then 5 else 4, 0, em, ns0 ++ ns, ds0 ++ ds⟩ ∧ ds ≠ [] ∧ (b = false → ns = []) ∧ (b = true → ns.length = ds.length) ∧ l = printL b ns ds ++ (if b then 125 else 93) :: r ∧ a' = a + (printL b ns ds).length + 1 ∧ numsL ds)
  ∧ (∀ (l : List UInt8) (a deep : Nat) (b : Bool) (ns0 : List ByteArray) (ds0 : List S25) (d : S25) (a' : Nat) (r : List UInt8), tailS n l a deep b ns0 ds0 = .ok d a' r →
   ∃ ns e ds, d = ⟨if b then 5 else 4, 0, em, ns0 ++ ns, ds0 ++ e :: ds⟩ ∧ (b = false → ns = []) ∧ (b = true → ns.length = ds.length) ∧ l = printD e ++ moreL b ns ds ++ (if b then 125 else 93) :: r ∧ a' = a + (printD e).length + (moreL b ns ds).length + 1 ∧ numsD e ∧ numsL ds) := by
 induction n with
 | zero =>
  refine ⟨?_, ?_, ?_⟩
  ·intro l a deep d a' r h; simp [pieceS] at h
  ·intro l a deep b ns0 ds0 d a' r h; simp [membersS] at h
  ·intro l a deep b ns0 ds0 d a' r h; simp [tailS] at h
 | succ n ih =>
  obtain ⟨ihP, ihM, ihT⟩ := ih
  refine ⟨?_, ?_, ?_⟩
  ·intro l a deep d a' r h
   cases l with
   | nil => simp [pieceS] at h
   | cons c t =>
    rw [pieceS] at h
    split at h
    ·rename_i hc
     split at h
     ·rename_i x hw
      injection h with h1 h2 h3
      have hp := word_back hw
      rw [h1] at hp
      rw [← h2, ← h3, hp.1, List.takeWhile_append_dropWhile]
      exact ⟨rfl, rfl, hp.2⟩
     ·simp at h
    split at h
    ·rename_i hc
     split at h
     ·rename_i hw
      injection h with h1 h2 h3
      have hp := whole_of hw
      have hpr : printD d = (c :: t).takeWhile isDig := by
       rw [← h1]
       exact hp.2
      rw [← h2, ← h3, hpr, List.takeWhile_append_dropWhile, ← h1]
      exact ⟨rfl, rfl, by rw [numsD]; exact ⟨hp.1, by simp [numsL]⟩⟩
     ·simp at h
    split at h
    ·rename_i hc
     have hb := text_back h
     rw [hc]
     exact ⟨hb.1, by omega, hb.2.2⟩
    split at h
    ·rename_i hc
     by_cases hdp : 16 ≤ deep
     ·rw [if_pos hdp] at h; simp at h
     rw [if_neg hdp] at h
     rcases hc with rfl | rfl
     ·rw [if_neg (show ¬ ((91 : UInt8) = 123) by decide), if_neg (show ¬ ((91 : UInt8) = 123) by decide)] at h
      by_cases ht : t.head? = some 93
      ·rw [if_pos ht] at h
       injection h with h1 h2 h3
       have hd1 := head_at ht
       rw [← h1, ← h2, ← h3]
       have hpr : printD (⟨4, 0, em, [], []⟩ : S25) = [91, 93] := rfl
       rw [hpr]
       exact ⟨by rw [hd1]; rfl, rfl, by simp [numsD, numsL]⟩
      ·rw [if_neg ht] at h
       obtain ⟨ns, ds, rfl, hne, hb0, hb1, hl, ha, hn⟩ := ihM _ _ _ _ _ _ _ _ _ h
       rw [show decide ((91 : UInt8) = 123) = false from by decide] at hl ha hb0 ⊢
       rw [List.nil_append, List.nil_append]
       have hpr : printD (⟨4, 0, em, ns, ds⟩ : S25) = 91 :: (printL false [] ds ++ [93]) := rfl
       have hn0 := hb0 rfl
       subst hn0
       simp only [Bool.false_eq_true, if_false] at hl ha ⊢
       rw [hpr, hl]
       refine ⟨by simp, ?_, ?_⟩
       ·rw [ha]; simp only [List.length_cons, List.length_append, List.length_nil]; omega
       ·rw [numsD]; exact ⟨by decide, hn⟩
     ·rw [if_pos (show ((123 : UInt8) = 123) by decide), if_pos (show ((123 : UInt8) = 123) by decide)] at h
      by_cases ht : t.head? = some 125
      ·rw [if_pos ht] at h
       injection h with h1 h2 h3
       have hd1 := head_at ht
       rw [← h1, ← h2, ← h3]
       have hpr : printD (⟨5, 0, em, [], []⟩ : S25) = [123, 125] := rfl
       rw [hpr]
       exact ⟨by rw [hd1]; rfl, rfl, by simp [numsD, numsL]⟩
      ·rw [if_neg ht] at h
       obtain ⟨ns, ds, rfl, hne, hb0, hb1, hl, ha, hn⟩ := ihM _ _ _ _ _ _ _ _ _ h
       rw [show decide ((123 : UInt8) = 123) = true from by decide] at hl ha hb1 ⊢
       rw [List.nil_append, List.nil_append]
       have hpr : printD (⟨5, 0, em, ns, ds⟩ : S25) = 123 :: (printL true ns ds ++ [125]) := rfl
       simp only [if_true] at hl ha ⊢
       rw [hpr, hl]
       refine ⟨by simp, ?_, ?_⟩
       ·rw [ha]; simp only [List.length_cons, List.length_append, List.length_nil]; omega
       ·rw [numsD]; exact ⟨by decide, hn⟩
    ·simp at h
  ·intro l a deep b ns0 ds0 d a' r h
   rw [membersS] at h
   cases b with
   | false =>
    rw [if_neg (by simp)] at h
    obtain ⟨ns, e, ds, rfl, hb0, hb1, hl, ha, hn⟩ := ihT _ _ _ _ _ _ _ _ _ h
    have hn0 := hb0 rfl
    subst hn0
    refine ⟨[], e :: ds, rfl, by simp, fun _ => rfl, fun h => (by cases h), ?_, ?_, by rw [numsL]; exact hn⟩
    ·rw [hl, printL_cons]; simp
    ·rw [ha, printL_cons]; simp [Nat.add_assoc]
   | true =>
    rw [if_pos rfl] at h
    split at h
    ·rename_i hnm
     split at h
     ·rename_i h61
      obtain ⟨ns, e, ds, rfl, hb0, hb1, hl, ha, hn⟩ := ihT _ _ _ _ _ _ _ _ _ h
      refine ⟨mkB (l.takeWhile isNam) :: ns, e :: ds, by simp, by simp, fun h => (by cases h), fun _ => by simp [hb1 rfl], ?_, ?_, by rw [numsL]; exact hn⟩
      ·have e1 : l = l.takeWhile isNam ++ 61 :: (printD e ++ moreL true ns ds ++ 125 :: r) := by
        have := head_at h61
        rw [hl] at this
        simp only [if_true] at this
        rw [← this, List.takeWhile_append_dropWhile]
       rw [printL_cons]
       simp only [if_true, List.headD_cons, List.tail_cons, mkB_list]
       simpa using e1
      ·rw [ha, printL_cons]
       simp only [if_true, List.headD_cons, List.tail_cons, mkB_list, List.length_append, List.length_cons, List.length_nil]
       omega
     ·simp at h
    ·simp at h
  ·intro l a deep b ns0 ds0 d a' r h
   rw [tailS] at h
   cases hp : pieceS n l a deep with
   | err x y => rw [hp] at h; simp at h
   | ok e a1 r1 =>
    rw [hp] at h
    obtain ⟨p1, p2, p3⟩ := ihP _ _ _ _ _ _ hp
    simp only at h
    split at h
    ·rename_i h44
     obtain ⟨ns, ds, rfl, hne, hb0, hb1, hl, ha, hn⟩ := ihM _ _ _ _ _ _ _ _ _ h
     obtain ⟨x, ds, rfl⟩ : ∃ x s, ds = x :: s := by
      cases ds with
      | nil => exact absurd rfl hne
      | cons x s => exact ⟨x, s, rfl⟩
     refine ⟨ns, e, x :: ds, by simp, hb0, hb1, ?_, ?_, p3, hn⟩
     ·have h1 := head_at h44
      rw [hl] at h1
      rw [p1, h1, moreL]; simp
     ·rw [ha, p2, moreL]; simp only [List.length_cons]; omega
    by_cases hsh : r1.head? = some (if b then 125 else 93)
    ·rw [if_pos hsh] at h
     injection h with h1 h2 h3
     refine ⟨[], e, [], ?_, fun _ => rfl, fun _ => rfl, ?_, ?_, p3, by simp [numsL]⟩
     ·rw [← h1]; simp
     ·have h4 := head_at hsh
      rw [h3] at h4
      rw [p1, h4, moreL]; simp
     ·rw [← h2, p2, moreL]; simp
    ·rw [if_neg hsh] at h; simp at h
end Go.Proofs.YtidcecpbihmloaaGreatDoorE

namespace Go.Proofs.YtidcecpbihmloaaGreatDoorE
open Go Go.RowKit Go.Proofs.YtidcecpbihmloaaGreatDoor.M02 Go.Proofs.YtidcecpbihmloaaGreatDoor.P16
set_option linter.unusedVariables false
set_option linter.unusedSimpArgs false
/-- An order, told by a number. -/
structure Ord3 {α : Type} (f : α → α → Int) : Prop where
 neg : ∀ a b, f b a = - f a b
 eq : ∀ a b, f a b = 0 ↔ a = b
 tr : ∀ a b c, f a b ≤ 0 → f b c ≤ 0 → f a c ≤ 0
/-- The first that is not zero. -/
def orI (x y : Int) : Int := if x ≠ 0 then x else y
theorem orI_neg (x y : Int) : orI (-x) (-y) = - orI x y := by
 unfold orI; split <;> split <;> omega
theorem orI_zero (x y : Int) : orI x y = 0 ↔ x = 0 ∧ y = 0 := by
 unfold orI; split <;> omega
theorem orI_tr {α : Type} {f : α → α → Int} (hf : Ord3 f) (a b c : α) {x y z : Int} (h : x ≤ 0 → y ≤ 0 → z ≤ 0) (h1 : orI (f a b) x ≤ 0) (h2 : orI (f b c) y ≤ 0) : orI (f a c) z ≤ 0 := by
 unfold orI at *
 by_cases e1 : f a b = 0
 ·obtain rfl := (hf.eq a b).1 e1
  rw [if_neg (by omega)] at h1
  by_cases e2 : f a c = 0
  ·rw [if_neg (by omega)] at h2 ⊢
   exact h h1 h2
  ·rw [if_pos e2] at h2 ⊢
   exact h2
 ·rw [if_pos e1] at h1
  by_cases e2 : f b c = 0
  ·obtain rfl := (hf.eq b c).1 e2
   rw [if_pos e1]; exact h1
  ·rw [if_pos e2] at h2
   have ht := hf.tr a b c h1 h2
   by_cases e3 : f a c = 0
   ·obtain rfl := (hf.eq a c).1 e3
    have := hf.neg b a
    omega
   ·rw [if_pos e3]; exact ht
def cmpI (a b : Int) : Int := if a < b then -1 else if b < a then 1 else 0
theorem cmpI_ord : Ord3 cmpI := ⟨fun a b => by unfold cmpI; split <;> split <;> omega, fun a b => by unfold cmpI; split <;> (try split) <;> omega, fun a b c h1 h2 => by
 unfold cmpI at *
 split at h1 <;> split at h2 <;> split <;> (try split) <;> (try split at h1) <;> (try split at h2) <;> omega⟩
/-- Of lists, the first that differs; of no differing, the shorter. -/
def lexL {α : Type} (f : α → α → Int) : List α → List α → Int
 | [], [] => 0
 | [], _ :: _ => -1
 | _ :: _, [] => 1
 | a :: s, b :: t => orI (f a b) (lexL f s t)
theorem lexL_neg {α : Type} {f : α → α → Int} (hf : Ord3 f) : ∀ s t : List α, lexL f t s = - lexL f s t
 | [], [] => rfl
 | [], _ :: _ => rfl
 | _ :: _, [] => rfl
 | a :: s, b :: t => by rw [lexL, lexL, hf.neg a b, lexL_neg hf s t, orI_neg]
theorem lexL_eq {α : Type} {f : α → α → Int} (hf : Ord3 f) : ∀ s t : List α, lexL f s t = 0 ↔ s = t
 | [], [] => by simp [lexL]
 | [], _ :: _ => by simp [lexL]
 | _ :: _, [] => by simp [lexL]
 | a :: s, b :: t => by rw [lexL, orI_zero, hf.eq, lexL_eq hf s t]; simp
theorem lexL_tr {α : Type} {f : α → α → Int} (hf : Ord3 f) : ∀ s t u : List α, lexL f s t ≤ 0 → lexL f t u ≤ 0 → lexL f s u ≤ 0
 | [], t, [], _, _ => by simp [lexL]
 | [], t, _ :: _, _, _ => by simp [lexL]
 | _ :: _, [], u, h, _ => by simp [lexL] at h
 | _ :: _, _ :: _, [], _, h => by simp [lexL] at h
 | a :: s, b :: t, c :: u, h1, h2 => by
  rw [lexL] at *
  exact orI_tr hf a b c (lexL_tr hf s t u) h1 h2
theorem lexL_ord {α : Type} {f : α → α → Int} (hf : Ord3 f) : Ord3 (lexL f) := ⟨lexL_neg hf, lexL_eq hf, lexL_tr hf⟩
def cmpU (a b : UInt8) : Int := if a.toNat < b.toNat then -1 else if b.toNat < a.toNat then 1 else 0
theorem cmpU_ord : Ord3 cmpU := ⟨fun a b => by unfold cmpU; split <;> split <;> omega, fun a b => by
 rw [← UInt8.toNat_inj]; unfold cmpU; split <;> (try split) <;> omega, fun a b c h1 h2 => by
 unfold cmpU at *
 split at h1 <;> split at h2 <;> split <;> (try split) <;> (try split at h1) <;> (try split at h2) <;> omega⟩
theorem cmpL_lex : ∀ s t : List UInt8, cmpL s t = lexL cmpU s t
 | [], [] => rfl
 | [], _ :: _ => rfl
 | _ :: _, [] => rfl
 | a :: s, b :: t => by
  rw [cmpL, lexL, cmpL_lex s t]
  unfold orI cmpU
  split
  ·rfl
  ·split <;> simp
def cmpB (a b : ByteArray) : Int := cmpL a.data.toList b.data.toList
theorem cmpB_ord : Ord3 cmpB := ⟨fun a b => cmpL_neg _ _, fun a b => by
 unfold cmpB; rw [cmpL_eq]; exact ⟨fun h => B_inj h, fun h => by rw [h]⟩, fun a b c h1 h2 => by
 unfold cmpB at *
 rw [cmpL_lex] at *
 exact lexL_tr cmpU_ord _ _ _ h1 h2⟩
mutual
/-- Which piece is ahead. -/
def cmpD : S25 → S25 → Int
 | ⟨k, n, t, ns, l⟩, ⟨k', n', t', ns', l'⟩ => orI (cmpI k k') (orI (cmpI n n') (orI (cmpB t t') (orI (lexL cmpB ns ns') (cmpDs l l'))))
def cmpDs : List S25 → List S25 → Int
 | [], [] => 0
 | [], _ :: _ => -1
 | _ :: _, [] => 1
 | a :: s, b :: t => orI (cmpD a b) (cmpDs s t)
end
mutual
theorem cmpD_neg : ∀ a b : S25, cmpD b a = - cmpD a b
 | ⟨k, n, t, ns, l⟩, ⟨k', n', t', ns', l'⟩ => by
  rw [cmpD, cmpD, cmpI_ord.neg k k', cmpI_ord.neg n n', cmpB_ord.neg t t', (lexL_ord cmpB_ord).neg ns ns', cmpDs_neg l l', orI_neg, orI_neg, orI_neg, orI_neg]
theorem cmpDs_neg : ∀ a b : List S25, cmpDs b a = - cmpDs a b
 | [], [] => by simp [cmpDs]
 | [], _ :: _ => by simp [cmpDs]
 | _ :: _, [] => by simp [cmpDs]
 | a :: s, b :: t => by rw [cmpDs, cmpDs, cmpD_neg a b, cmpDs_neg s t, orI_neg]
end
mutual
theorem cmpD_eq : ∀ a b : S25, cmpD a b = 0 ↔ a = b
 | ⟨k, n, t, ns, l⟩, ⟨k', n', t', ns', l'⟩ => by
  rw [cmpD, orI_zero, orI_zero, orI_zero, orI_zero, cmpI_ord.eq, cmpI_ord.eq, cmpB_ord.eq, (lexL_ord cmpB_ord).eq, cmpDs_eq l l']
  simp
theorem cmpDs_eq : ∀ a b : List S25, cmpDs a b = 0 ↔ a = b
 | [], [] => by simp [cmpDs]
 | [], _ :: _ => by simp [cmpDs]
 | _ :: _, [] => by simp [cmpDs]
 | a :: s, b :: t => by rw [cmpDs, orI_zero, cmpD_eq a b, cmpDs_eq s t]; simp
end
theorem orI_tr' {x y z x' y' z' : Int} (ht : x ≤ 0 → y ≤ 0 → z ≤ 0) (h0 : x = 0 → z = y) (h1 : y = 0 → z = x) (h2 : x < 0 → y < 0 → z ≠ 0) (h : x' ≤ 0 → y' ≤ 0 → z' ≤ 0) (a : orI x x' ≤ 0) (b : orI y y' ≤ 0) : orI z z' ≤ 0 := by
 unfold orI at *
 split at a <;> split at b <;> split <;> omega
mutual
theorem cmpD_tr : ∀ a b c : S25, cmpD a b ≤ 0 → cmpD b c ≤ 0 → cmpD a c ≤ 0
 | ⟨k, n, t, ns, l⟩, ⟨k', n', t', ns', l'⟩, ⟨k2, n2, t2, ns2, l2⟩, h1, h2 => by
  rw [cmpD] at *
  exact orI_tr cmpI_ord k k' k2 (orI_tr cmpI_ord n n' n2 (orI_tr cmpB_ord t t' t2 (orI_tr (lexL_ord cmpB_ord) ns ns' ns2 (cmpDs_tr l l' l2)))) h1 h2
theorem cmpDs_tr : ∀ a b c : List S25, cmpDs a b ≤ 0 → cmpDs b c ≤ 0 → cmpDs a c ≤ 0
 | [], t, [], _, _ => by simp [cmpDs]
 | [], t, _ :: _, _, _ => by simp [cmpDs]
 | _ :: _, [], u, h, _ => by simp [cmpDs] at h
 | _ :: _, _ :: _, [], _, h => by simp [cmpDs] at h
 | a :: s, b :: t, c :: u, h1, h2 => by
  rw [cmpDs] at *
  refine orI_tr' (cmpD_tr a b c) (fun e => ?_) (fun e => ?_) (fun p q e => ?_) (cmpDs_tr s t u) h1 h2
  ·rw [(cmpD_eq a b).1 e]
  ·rw [(cmpD_eq b c).1 e]
  ·have h := (cmpD_eq a c).1 e
   have := cmpD_neg b a
   rw [h] at p this
   omega
end
/-- A name that is ahead is less. -/
theorem less_cmpB (a b : ByteArray) : Op.bytesLess a.data.toList b.data.toList = true ↔ cmpB a b < 0 := by
 unfold cmpB
 rw [← less_cmpL]
 split
 ·rename_i h; rw [h]; simp
 ·rename_i h; simp only [h]; simp; split <;> omega
theorem names_lt : ∀ {ns : List ByteArray}, namesD ns = true → ∀ (i j : Nat) (h : i < j) (hj : j < ns.length), cmpB (ns[i]'(by omega)) ns[j] < 0
 | [], _, i, j, h, hj => by simp at hj
 | [n], _, i, j, h, hj => by simp at hj; omega
 | n :: m :: l, hn, i, j, h, hj => by
  have hs := hn
  simp only [namesD, Bool.and_eq_true] at hs
  have h01 : cmpB n m < 0 := (less_cmpB n m).1 hs.1.2
  cases i with
  | succ i =>
   obtain ⟨j, rfl⟩ : ∃ q, j = q + 1 := ⟨j - 1, by omega⟩
   have := names_lt hs.2 i j (by omega) (by simpa using hj)
   simpa using this
  | zero =>
   obtain ⟨j, rfl⟩ : ∃ q, j = q + 1 := ⟨j - 1, by omega⟩
   cases j with
   | zero => simpa using h01
   | succ j =>
    have h2 := names_lt hs.2 0 (j + 1) (by omega) (by simpa using hj)
    have h3 := cmpB_ord.tr n m ((n :: m :: l)[j + 1 + 1]) (by omega) (by simpa using Int.le_of_lt h2)
    simp only [List.getElem_cons_zero]
    have h4 : cmpB n ((n :: m :: l)[j + 1 + 1]) ≠ 0 := by
     intro e
     have e := (cmpB_ord.eq _ _).1 e
     have h5 := cmpB_ord.neg m n
     simp only [List.getElem_cons_succ, List.getElem_cons_zero] at h2 e
     rw [← e] at h2
     omega
    omega
end Go.Proofs.YtidcecpbihmloaaGreatDoorE

namespace Go.Proofs.YtidcecpbihmloaaGreatDoorE
open Go Go.RowKit Go.Proofs.YtidcecpbihmloaaGreatDoor.M02 Go.Proofs.YtidcecpbihmloaaGreatDoor.P16
set_option linter.unusedVariables false
set_option linter.unusedSimpArgs false
def zeroD : S25 := ⟨0, 0, em, [], []⟩
/-- What Parse says of a text. -/
def parseS (l : List UInt8) : S25 × Nat × Int := match pieceS (3 * l.length + 1) l 0 0 with
 | .err a e => (zeroD, a, e)
 | .ok d a r => if r ≠ [] then (zeroD, a, 2) else if rightD d then (d, 0, 0) else (zeroD, 0, 24)
/-- An error is one of two. -/
theorem err_code (n : Nat) :
  (∀ (l : List UInt8) (a deep : Nat) (x : Nat) (y : Int), pieceS n l a deep = (.err x y : Res S25) → y = 2 ∨ y = 11)
  ∧ (∀ (l : List UInt8) (a deep : Nat) (b : Bool) (ns0 : List ByteArray) (ds0 : List S25) (x : Nat) (y : Int), membersS n l a deep b ns0 ds0 = .err x y → y = 2 ∨ y = 11)
  ∧ (∀ (l : List UInt8) (a deep : Nat) (b : Bool) (ns0 : List ByteArray) (ds0 : List S25) (x : Nat) (y : Int), tailS n l a deep b ns0 ds0 = .err x y → y = 2 ∨ y = 11) := by
 induction n with
 | zero =>
  refine ⟨?_, ?_, ?_⟩
  ·intro l a deep x y h; simp [pieceS] at h; exact Or.inl h.2.symm
  ·intro l a deep b ns0 ds0 x y h; simp [membersS] at h; exact Or.inl h.2.symm
  ·intro l a deep b ns0 ds0 x y h; simp [tailS] at h; exact Or.inl h.2.symm
 | succ n ih =>
  obtain ⟨ihP, ihM, ihT⟩ := ih
  have e2 : ∀ {u v : Nat} {y : Int}, (Res.err u 2 : Res S25) = .err v y → y = 2 ∨ y = 11 := by
   intro u v y h; injection h with _ h; exact Or.inl h.symm
  refine ⟨?_, ?_, ?_⟩
  ·intro l a deep x y h
   cases l with
   | nil => rw [pieceS] at h; exact e2 h
   | cons c t =>
    rw [pieceS] at h
    split at h
    ·split at h
     ·cases h
     ·exact e2 h
    split at h
    ·split at h
     ·cases h
     ·exact e2 h
    split at h
    ·unfold textD at h
     split at h
     ·exact e2 h
     split at h
     ·cases h
     ·exact e2 h
    by_cases hc : c = 91 ∨ c = 123
    ·rw [if_pos hc] at h
     by_cases hd : 16 ≤ deep
     ·rw [if_pos hd] at h; injection h with _ h; exact Or.inr h.symm
     ·rw [if_neg hd] at h
      by_cases ht : t.head? = some (if c = 123 then 125 else 93)
      ·rw [if_pos ht] at h; cases h
      ·rw [if_neg ht] at h; exact ihM _ _ _ _ _ _ _ _ h
    ·rw [if_neg hc] at h; exact e2 h
  ·intro l a deep b ns0 ds0 x y h
   rw [membersS] at h
   cases b with
   | false => rw [if_neg (by simp)] at h; exact ihT _ _ _ _ _ _ _ _ h
   | true =>
    rw [if_pos rfl] at h
    split at h
    ·split at h
     ·exact ihT _ _ _ _ _ _ _ _ h
     ·exact e2 h
    ·exact e2 h
  ·intro l a deep b ns0 ds0 x y h
   rw [tailS] at h
   cases hp : (pieceS n l a deep : Res S25) with
   | err u v =>
    rw [hp] at h
    injection h with h1 h2
    rw [← h2]
    exact ihP _ _ _ _ _ hp
   | ok e a1 r1 =>
    rw [hp] at h
    simp only at h
    split at h
    ·exact ihM _ _ _ _ _ _ _ _ h
    by_cases hsh : r1.head? = some (if b then 125 else 93)
    ·rw [if_pos hsh] at h; cases h
    ·rw [if_neg hsh] at h; exact e2 h
/-- The piece of a name. -/
def getS (d : S25) (name : ByteArray) : S25 × Bool :=
 if d.f0 = 5 ∧ rightD d = true then (match d.f3.findIdx? (fun n => n.data.toList == name.data.toList) with
  | some i => (d.f4.getD i zeroD, true)
  | none => (zeroD, false)) else (zeroD, false)
mutual
theorem weighD_le : ∀ (d : S25) (left op r : Nat), weighD d left op = some r → r + 1 ≤ left
 | ⟨k, n, t, ns, l⟩, left, op, r, h => by
  obtain ⟨h0, _, _, _, h4⟩ := weigh_plain h
  have := weighL_le l (left - 1) (op + 1) r h4
  omega
theorem weighL_le : ∀ (l : List S25) (left op r : Nat), weighL l left op = some r → r + l.length ≤ left
 | [], left, op, r, h => by rw [weighL] at h; injection h with h; simp; omega
 | d :: l, left, op, r, h => by
  rw [weighL] at h
  cases hd : weighD d left op with
  | none => rw [hd] at h; cases h
  | some q =>
   rw [hd] at h
   have h1 := weighD_le d left op q hd
   have h2 := weighL_le l q op r h
   simp only [List.length_cons]
   omega
end
theorem weighL_many {l : List S25} {left op : Nat} (h : left < l.length) : weighL l left op = none := by
 cases hw : weighL l left op with
 | none => rfl
 | some r => have := weighL_le l left op r hw; omega
theorem weighL_append : ∀ (a b : List S25) (left op : Nat), weighL (a ++ b) left op = (match weighL a left op with
  | none => none
  | some r => weighL b r op)
 | [], b, left, op => by rw [List.nil_append, weighL]
 | d :: a, b, left, op => by
  rw [List.cons_append, weighL, weighL]
  cases weighD d left op with
  | none => rfl
  | some q => exact weighL_append a b q op
end Go.Proofs.YtidcecpbihmloaaGreatDoorE

namespace Go.Proofs.YtidcecpbihmloaaGreatDoorE
open Go Go.RowKit Go.Proofs.YtidcecpbihmloaaGreatDoorW.PrintWords Go.Proofs.YtidcecpbihmloaaGreatDoorX Go.Proofs.YtidcecpbihmloaaGreatDoor.P16 Go.Proofs.YtidcecpbihmloaaGreatDoor.M02
set_option linter.unusedVariables false
set_option linter.unusedSimpArgs false
abbrev DT := S25
/-- A piece of a size that fits a machine, and all within it. -/
inductive OkD : DT → Prop
 | mk (x : DT) (h0 : -9223372036854775808 ≤ x.f0 ∧ x.f0 ≤ 9223372036854775807) (h1 : -9223372036854775808 ≤ x.f1 ∧ x.f1 ≤ 9223372036854775807) (h2 : x.f2.size ≤ 140737488351232) (n3 : x.f3.length ≤ 140737488351232) (h3 : ∀ s ∈ x.f3, s.size ≤ 140737488351232) (n4 : x.f4.length ≤ 140737488351232) (h4 : ∀ y ∈ x.f4, OkD y) : OkD x
theorem OkD.out {x : DT} (h : OkD x) : (-9223372036854775808 ≤ x.f0 ∧ x.f0 ≤ 9223372036854775807) ∧ (-9223372036854775808 ≤ x.f1 ∧ x.f1 ≤ 9223372036854775807) ∧ x.f2.size ≤ 140737488351232 ∧ x.f3.length ≤ 140737488351232 ∧ (∀ s ∈ x.f3, s.size ≤ 140737488351232) ∧ x.f4.length ≤ 140737488351232 ∧ ∀ y ∈ x.f4, OkD y := by
 cases h with
 | mk _ h0 h1 h2 n3 h3 n4 h4 => exact ⟨h0, h1, h2, n3, h3, n4, h4⟩
mutual
theorem okD_nums : ∀ x : DT, OkD x → numsD x
 | ⟨k, n, t, ns, l⟩, h => by
  rw [numsD]
  exact ⟨h.out.2.1, okD_numsL l h.out.2.2.2.2.2.2⟩
theorem okD_numsL : ∀ l : List DT, (∀ y ∈ l, OkD y) → numsL l
 | [], _ => by simp [numsL]
 | d :: l, h => by
  rw [numsL]
  exact ⟨okD_nums d (h d List.mem_cons_self), okD_numsL l fun y hy => h y (List.mem_cons_of_mem _ hy)⟩
end
end Go.Proofs.YtidcecpbihmloaaGreatDoorE

namespace Go.Proofs.YtidcecpbihmloaaGreatDoorE
open Go Go.RowKit Go.Proofs.YtidcecpbihmloaaGreatDoorW.PrintWords Go.Proofs.YtidcecpbihmloaaGreatDoorX Go.Proofs.YtidcecpbihmloaaGreatDoor.P16 Go.Proofs.YtidcecpbihmloaaGreatDoor.M02
set_option linter.unusedVariables false
set_option linter.unusedSimpArgs false
def IsC (w0 W : World) (g : Nat) (left : Int) : Prop := W.heap[g]? = some (.cells #[.int .i64 left] 58 (0, 0)) ∧ w0.heap.size ≤ g
/-- What right says of a piece. -/
def rightP (w0 w : World) (g : Nat) (o : Option Nat) (e : Ending) (w' : World) : Prop := Below w0.heap.size w0 w' ∧ KeepBut w w' g none ∧ (match o with
 | some r => e = .returned (.bool true) ∧ IsC w0 w' g r
 | none => e = .returned (.bool false))
abbrev aggD (x : DT) (A3 : Option Addr) (c3 : Nat) (A4 : Option Addr) (c4 : Nat) : Value := .agg #[.int .i64 x.f0, .int .i64 x.f1, .string x.f2, .slice A3 x.f3.length c3, .slice A4 x.f4.length c4]
set_option maxHeartbeats 4000000 in
set_option maxRecDepth 100000 in
theorem right_zero (x : DT) (op : Nat) (g : Nat) (w0 w : World) (A3 : Option Addr) (c3 : Nat) (A4 : Option Addr) (c4 : Nat) (hI : IsC w0 w g (0 : Nat)) (hB : Below w0.heap.size w0 w) :
  Calls Tryz.prog 28 #[.pointer (some ⟨g, 0, none⟩), .agg #[.int .i64 x.f0, .int .i64 x.f1, .string x.f2, .slice A3 x.f3.length c3, .slice A4 x.f4.length c4], .int .i64 op] w (rightP w0 w g none) := by
 have HI := Aside0.mk hI
 have HB := Aside0.mk hB
 clear hI hB
 go_enter Tryz.func28, Tryz.ntmps28
 go_upto_region 1 with (first | ((with_reducible refine gate_dst (N := 4) rfl ?_); refine box_event ?hg (N := 4) ?hd (cs := #[.int .i64 x.f0, .int .i64 x.f1, .string x.f2, .slice A3 x.f3.length c3, .slice A4 x.f4.length c4]) (t := 25) ?hr ?_; (case hd => rfl); (case hg => rfl); (case hr => first | (go_simp; done) | (go_simp; rfl)); intro gb hg w5 hbox hb; have BK := Aside0.mk hbox; have HW := Aside0.mk hb; have HGB := Aside0.mk hg; clear hbox hb hg))
 (try simp only [Act.put, List.setIfInBounds_toArray, List.set_cons_zero, List.set_cons_succ])
 have hgw : g < w.heap.size := blk_lt HI.out.1
 have hi5 : w5.heap[g]? = some (.cells #[.int .i64 (0 : Nat)] 58 (0, 0)) := (HW.out.block g hgw).trans HI.out.1
 have c0 : w5.cell? ⟨g, 0, none⟩ = some (.int .i64 0) := (blk_cell hi5 0).trans rfl
 have f0 := blk_frozen hi5 0
 have HI5 := Aside0.mk hi5
 clear hi5
 go_wp2_with fail
 go_ret
 exact ⟨(below_then HB.out HB.out.size HW.out).setCell HI.out.2 _, (KeepBut.of_below HW.out g none).set_ 0 _, rfl⟩
end Go.Proofs.YtidcecpbihmloaaGreatDoorE

namespace Go.Proofs.YtidcecpbihmloaaGreatDoorE
open Go Go.RowKit Go.Proofs.YtidcecpbihmloaaGreatDoor.M02 Go.Proofs.YtidcecpbihmloaaGreatDoor.P16
set_option linter.unusedVariables false
set_option linter.unusedSimpArgs false
/-- The name at a place is one, and the one ahead of it is less. -/
def goodN (ns : List ByteArray) (j : Nat) : Prop := namedS true (ns.getD j em).data.toList = true ∧ (0 < j → Op.bytesLess (ns.getD (j - 1) em).data.toList (ns.getD j em).data.toList = true)
theorem namesD_good : ∀ ns : List ByteArray, namesD ns = true ↔ ∀ j, j < ns.length → goodN ns j
 | [] => ⟨fun _ j h => by simp at h, fun _ => rfl⟩
 | [n] => ⟨fun h j hj => by
   obtain rfl : j = 0 := by simp at hj; omega
   exact ⟨h, fun h => absurd h (by omega)⟩, fun h => (h 0 (by simp)).1⟩
 | n :: m :: l => by
  have ih := namesD_good (m :: l)
  rw [namesD, Bool.and_eq_true, Bool.and_eq_true, ih]
  constructor
  ·rintro ⟨⟨h1, h2⟩, h3⟩ j hj
   cases j with
   | zero => exact ⟨h1, fun h => absurd h (by omega)⟩
   | succ j =>
    have := h3 j (by simp at hj ⊢; omega)
    refine ⟨this.1, fun _ => ?_⟩
    cases j with
    | zero => exact h2
    | succ j => exact this.2 (by omega)
  ·intro h
   refine ⟨⟨(h 0 (by simp)).1, (h 1 (by simp)).2 (by omega)⟩, fun j hj => ?_⟩
   have := h (j + 1) (by simp at hj ⊢; omega)
   refine ⟨this.1, fun h0 => ?_⟩
   obtain ⟨j, rfl⟩ : ∃ q, j = q + 1 := ⟨j - 1, by omega⟩
   exact this.2 (by omega)
end Go.Proofs.YtidcecpbihmloaaGreatDoorE

namespace Go.Proofs.YtidcecpbihmloaaGreatDoorE
open Go Go.RowKit Go.Proofs.YtidcecpbihmloaaGreatDoor.M02 Go.Proofs.YtidcecpbihmloaaGreatDoor.P16
set_option linter.unusedVariables false
set_option linter.unusedSimpArgs false
theorem named_len {l : List UInt8} (h : namedS true l = true) : l.length ≤ 32 := by
 cases l with
 | nil => simp
 | cons c t =>
  rw [namedS_cons] at h
  simp only [Bool.and_eq_true, decide_eq_true_eq] at h
  simp only [List.length_cons]; omega
theorem moreL_len (b : Bool) (ns : List ByteArray) (l : List S25) : (moreL b ns l).length ≤ (printL b ns l).length + 1 := by
 cases l with
 | nil => simp [moreL]
 | cons d l => simp [moreL]
theorem head_len {ns : List ByteArray} (h : ∀ x ∈ ns, namedS true x.data.toList = true) : (ns.headD em).data.toList.length ≤ 32 := by
 cases ns with
 | nil => simp
 | cons x r => exact named_len (h x List.mem_cons_self)
mutual
theorem printD_len : ∀ (d : S25) (left op r : Nat), numsD d → weighD d left op = some r → (printD d).length + 40 + 400000 * r ≤ 400000 * left
 | ⟨k, n, t, ns, l⟩, left, op, r, hn, h => by
  obtain ⟨h0, hp, _, hns, hw⟩ := weigh_plain h
  simp only at hns hw
  rw [numsD] at hn
  have hl := printL_len l (decide (k = 5)) ns (left - 1) (op + 1) r (names_all hns) hn.2 hw
  have hc : (printL (decide (k = 5)) ns l).length + 2 + 400000 * r ≤ 400000 * left - 400000 + 2 := by omega
  have hr : r + 1 ≤ left := by
   have := weighL_le l (left - 1) (op + 1) r hw
   omega
  rcases plain_cases hp with ⟨rfl, rfl, rfl, rfl, rfl⟩ | ⟨rfl, h1, rfl, rfl, rfl⟩ | ⟨rfl, rfl, rfl, rfl⟩ | ⟨rfl, rfl, rfl, rfl, hs⟩ | ⟨rfl, rfl, rfl, rfl⟩ | ⟨rfl, rfl, rfl, hl⟩
  ·have e : (printD (⟨0, 0, em, [], []⟩ : S25)).length = 4 := rfl
   omega
  ·rcases h1 with rfl | rfl
   ·have e : (printD (⟨1, 0, em, [], []⟩ : S25)).length = 2 := rfl
    omega
   ·have e : (printD (⟨1, 1, em, [], []⟩ : S25)).length = 3 := rfl
    omega
  ·have e : printD (⟨2, n, em, [], []⟩ : S25) = Lib.itoa n := rfl
   have := Lib.itoa_length_le n hn.1.1 hn.1.2
   rw [e]; omega
  ·have e : printD (⟨3, 0, t, [], []⟩ : S25) = 34 :: (escS t.data.toList ++ [34]) := rfl
   have h2 := escS_len t.data.toList
   have h3 : t.data.toList.length = t.size := by rw [Array.length_toList]; rfl
   rw [e]; simp only [List.length_cons, List.length_append, List.length_nil]; omega
  ·have e : printD (⟨4, 0, em, [], l⟩ : S25) = 91 :: (printL false [] l ++ [93]) := rfl
   have hc' : (printL false [] l).length + 2 + 400000 * r ≤ 400000 * left - 400000 + 2 := hc
   rw [e]; simp only [List.length_cons, List.length_append, List.length_nil]; omega
  ·have e : printD (⟨5, 0, em, ns, l⟩ : S25) = 123 :: (printL true ns l ++ [125]) := rfl
   have hc' : (printL true ns l).length + 2 + 400000 * r ≤ 400000 * left - 400000 + 2 := hc
   rw [e]; simp only [List.length_cons, List.length_append, List.length_nil]; omega
theorem printL_len : ∀ (l : List S25) (b : Bool) (ns : List ByteArray) (left op r : Nat), (∀ x ∈ ns, namedS true x.data.toList = true) → numsL l → weighL l left op = some r → (printL b ns l).length + 400000 * r ≤ 400000 * left
 | [], b, ns, left, op, r, hns, hn, h => by
  rw [weighL] at h
  injection h with h
  simp [printL]; omega
 | d :: l, b, ns, left, op, r, hns, hn, h => by
  rw [weighL] at h
  rw [numsL] at hn
  cases hd : weighD d left op with
  | none => rw [hd] at h; cases h
  | some q =>
   rw [hd] at h
   have h1 := printD_len d left op q hn.1 hd
   have h2 := printL_len l b ns.tail q op r (fun x hx => hns x (List.mem_of_mem_tail hx)) hn.2 h
   have h3 := moreL_len b ns.tail l
   have h4 := head_len hns
   rw [printL_cons, List.length_append, List.length_append]
   have h5 : (if b = true then (ns.headD em).data.toList ++ [61] else []).length ≤ 33 := by
    split
    ·rw [List.length_append]; simp only [List.length_cons, List.length_nil]; omega
    ·simp
   omega
end
theorem right_len {d : S25} (hn : numsD d) (h : rightD d = true) : (printD d).length ≤ 800000000 := by
 obtain ⟨r, hr⟩ := Option.isSome_iff_exists.1 h
 have := printD_len d 2000 0 r hn hr
 omega
/-- What a reading leaves is the text from the place that it tells. -/
theorem piece_at {n : Nat} {l : List UInt8} {a deep : Nat} {d : S25} {a' : Nat} {r : List UInt8} (h : pieceS n l a deep = .ok d a' r) : ∃ k, k ≤ l.length ∧ a' = a + k ∧ r = l.drop k := by
 obtain ⟨h1, h2, _⟩ := (print_read n).1 l a deep d a' r h
 refine ⟨(printD d).length, ?_, h2, ?_⟩
 ·rw [h1, List.length_append]; omega
 ·rw [h1, List.drop_left]
end Go.Proofs.YtidcecpbihmloaaGreatDoorE

namespace Go.Proofs.YtidcecpbihmloaaGreatDoorE
open Go Go.RowKit Go.Proofs.YtidcecpbihmloaaGreatDoorW.PrintWords Go.Proofs.YtidcecpbihmloaaGreatDoorX Go.Proofs.YtidcecpbihmloaaGreatDoor.P16 Go.Proofs.YtidcecpbihmloaaGreatDoor.M02
set_option linter.unusedVariables false
set_option linter.unusedSimpArgs false
set_option maxRecDepth 100000
theorem w64_0 : wrap64 0 = 0 := w64 (by decide) (by decide)
theorem sum_zero2 (ns : List ByteArray) (l : List DT) (h3 : ns.length ≤ 140737488351232) (h4 : l.length ≤ 140737488351232) : wrap64 ((ns.length : Int) + (l.length : Int)) = 0 ↔ ns = [] ∧ l = [] := by
 rw [w64 (by omega) (by omega)]
 cases ns <;> cases l <;> simp <;> omega
theorem plain_out {kd n : Int} {t : ByteArray} {ns : List ByteArray} {l : List DT} (h : ¬ (0 ≤ kd ∧ kd ≤ 5)) : plainD (⟨kd, n, t, ns, l⟩ : DT) = false := by
 unfold plainD
 rw [if_neg (by simp only; omega), if_neg (by simp only; omega), if_neg (by simp only; omega), if_neg (by simp only; omega), if_neg (by simp only; omega), if_neg (by simp only; omega)]
set_option maxHeartbeats 8000000 in
theorem qplain_0 (n : Int) (t : ByteArray) (ns : List ByteArray) (l : List DT) (h3 : ns.length ≤ 140737488351232) (h4 : l.length ≤ 140737488351232) (A3 : Option Addr) (c3 : Nat) (A4 : Option Addr) (c4 : Nat) (w : World) (hgl : GL w) : Calls Tryz.prog 50 #[.agg #[.int .i64 0, .int .i64 n, .string t, .slice A3 ns.length c3, .slice A4 l.length c4]] w fun e w' => e = .returned (.bool (plainD (⟨0, n, t, ns, l⟩ : DT))) ∧ Below w.heap.size w w' := by
 have HG := Aside0.mk hgl
 have HS := Aside0.mk (sum_zero2 ns l h3 h4)
 have HT := Aside0.mk (toList_data t)
 clear hgl
 obtain ⟨fb, hfb⟩ : ∃ fb, fb = decide (t.size ≤ 65536) := ⟨_, rfl⟩
 have HF := Aside0.mk (show chars_Fits.f t = some fb by rw [hfb]; unfold chars_Fits.f; exact congrArg some (decide_eq_decide.2 (by omega)))
 rw [show plainD (⟨0, n, t, ns, l⟩ : DT) = (decide (n = 0) && t.data.toList.isEmpty && ns.isEmpty && l.isEmpty) by rfl]
 clear hfb
 go_enter Tryz.func50, Tryz.ntmps50
 go_wp2_with (go_at_call 70; go_loud (with_reducible refine (chars_Fits.calls t fb _ (HG.out.below (below_alloc (Below.refl _ _) _)) HF.out).mono ?_); rintro e w5 ⟨rfl, hb5⟩; have HB5 := Aside0.mk hb5.below; clear hb5)
 all_goals go_ret
 all_goals (refine ⟨?_, ?_⟩; rotate_left; (first | exact below_alloc (Below.refl _ _) _ | exact below_then (below_alloc (Below.refl _ _) _) (by simp) HB5.out))
 all_goals
  (have HS := HS.out
   have HT := HT.out
   try clear HB5
   clear HG HF
   cases ns <;> cases l <;> simp_all [w64_0] <;> omega)
set_option maxHeartbeats 8000000 in
theorem qplain_1 (n : Int) (t : ByteArray) (ns : List ByteArray) (l : List DT) (h3 : ns.length ≤ 140737488351232) (h4 : l.length ≤ 140737488351232) (A3 : Option Addr) (c3 : Nat) (A4 : Option Addr) (c4 : Nat) (w : World) (hgl : GL w) : Calls Tryz.prog 50 #[.agg #[.int .i64 1, .int .i64 n, .string t, .slice A3 ns.length c3, .slice A4 l.length c4]] w fun e w' => e = .returned (.bool (plainD (⟨1, n, t, ns, l⟩ : DT))) ∧ Below w.heap.size w w' := by
 have HG := Aside0.mk hgl
 have HS := Aside0.mk (sum_zero2 ns l h3 h4)
 have HT := Aside0.mk (toList_data t)
 clear hgl
 obtain ⟨fb, hfb⟩ : ∃ fb, fb = decide (t.size ≤ 65536) := ⟨_, rfl⟩
 have HF := Aside0.mk (show chars_Fits.f t = some fb by rw [hfb]; unfold chars_Fits.f; exact congrArg some (decide_eq_decide.2 (by omega)))
 rw [show plainD (⟨1, n, t, ns, l⟩ : DT) = ((decide (n = 0) || decide (n = 1)) && t.data.toList.isEmpty && ns.isEmpty && l.isEmpty) by rfl]
 clear hfb
 go_enter Tryz.func50, Tryz.ntmps50
 go_wp2_with (go_at_call 70; go_loud (with_reducible refine (chars_Fits.calls t fb _ (HG.out.below (below_alloc (Below.refl _ _) _)) HF.out).mono ?_); rintro e w5 ⟨rfl, hb5⟩; have HB5 := Aside0.mk hb5.below; clear hb5)
 all_goals go_ret
 all_goals (refine ⟨?_, ?_⟩; rotate_left; (first | exact below_alloc (Below.refl _ _) _ | exact below_then (below_alloc (Below.refl _ _) _) (by simp) HB5.out))
 all_goals
  (have HS := HS.out
   have HT := HT.out
   try clear HB5
   clear HG HF
   cases ns <;> cases l <;> simp_all [w64_0] <;> omega)
set_option maxHeartbeats 8000000 in
theorem qplain_2 (n : Int) (t : ByteArray) (ns : List ByteArray) (l : List DT) (h3 : ns.length ≤ 140737488351232) (h4 : l.length ≤ 140737488351232) (A3 : Option Addr) (c3 : Nat) (A4 : Option Addr) (c4 : Nat) (w : World) (hgl : GL w) : Calls Tryz.prog 50 #[.agg #[.int .i64 2, .int .i64 n, .string t, .slice A3 ns.length c3, .slice A4 l.length c4]] w fun e w' => e = .returned (.bool (plainD (⟨2, n, t, ns, l⟩ : DT))) ∧ Below w.heap.size w w' := by
 have HG := Aside0.mk hgl
 have HS := Aside0.mk (sum_zero2 ns l h3 h4)
 have HT := Aside0.mk (toList_data t)
 clear hgl
 obtain ⟨fb, hfb⟩ : ∃ fb, fb = decide (t.size ≤ 65536) := ⟨_, rfl⟩
 have HF := Aside0.mk (show chars_Fits.f t = some fb by rw [hfb]; unfold chars_Fits.f; exact congrArg some (decide_eq_decide.2 (by omega)))
 rw [show plainD (⟨2, n, t, ns, l⟩ : DT) = (t.data.toList.isEmpty && ns.isEmpty && l.isEmpty) by rfl]
 clear hfb
 go_enter Tryz.func50, Tryz.ntmps50
 go_wp2_with (go_at_call 70; go_loud (with_reducible refine (chars_Fits.calls t fb _ (HG.out.below (below_alloc (Below.refl _ _) _)) HF.out).mono ?_); rintro e w5 ⟨rfl, hb5⟩; have HB5 := Aside0.mk hb5.below; clear hb5)
 all_goals go_ret
 all_goals (refine ⟨?_, ?_⟩; rotate_left; (first | exact below_alloc (Below.refl _ _) _ | exact below_then (below_alloc (Below.refl _ _) _) (by simp) HB5.out))
 all_goals
  (have HS := HS.out
   have HT := HT.out
   try clear HB5
   clear HG HF
   cases ns <;> cases l <;> simp_all [w64_0] <;> omega)
set_option maxHeartbeats 8000000 in
theorem qplain_3 (n : Int) (t : ByteArray) (ns : List ByteArray) (l : List DT) (h3 : ns.length ≤ 140737488351232) (h4 : l.length ≤ 140737488351232) (A3 : Option Addr) (c3 : Nat) (A4 : Option Addr) (c4 : Nat) (w : World) (hgl : GL w) : Calls Tryz.prog 50 #[.agg #[.int .i64 3, .int .i64 n, .string t, .slice A3 ns.length c3, .slice A4 l.length c4]] w fun e w' => e = .returned (.bool (plainD (⟨3, n, t, ns, l⟩ : DT))) ∧ Below w.heap.size w w' := by
 have HG := Aside0.mk hgl
 have HS := Aside0.mk (sum_zero2 ns l h3 h4)
 have HT := Aside0.mk (toList_data t)
 clear hgl
 obtain ⟨fb, hfb⟩ : ∃ fb, fb = decide (t.size ≤ 65536) := ⟨_, rfl⟩
 have HF := Aside0.mk (show chars_Fits.f t = some fb by rw [hfb]; unfold chars_Fits.f; exact congrArg some (decide_eq_decide.2 (by omega)))
 rw [show plainD (⟨3, n, t, ns, l⟩ : DT) = (decide (n = 0) && ns.isEmpty && l.isEmpty && fb) by rw [hfb]; rfl]
 clear hfb
 go_enter Tryz.func50, Tryz.ntmps50
 go_wp2_with (go_at_call 70; go_loud (with_reducible refine (chars_Fits.calls t fb _ (HG.out.below (below_alloc (Below.refl _ _) _)) HF.out).mono ?_); rintro e w5 ⟨rfl, hb5⟩; have HB5 := Aside0.mk hb5.below; clear hb5)
 all_goals go_ret
 all_goals (refine ⟨?_, ?_⟩; rotate_left; (first | exact below_alloc (Below.refl _ _) _ | exact below_then (below_alloc (Below.refl _ _) _) (by simp) HB5.out))
 all_goals
  (have HS := HS.out
   have HT := HT.out
   try clear HB5
   clear HG HF
   cases ns <;> cases l <;> simp_all [w64_0] <;> omega)
set_option maxHeartbeats 8000000 in
theorem qplain_4 (n : Int) (t : ByteArray) (ns : List ByteArray) (l : List DT) (h3 : ns.length ≤ 140737488351232) (h4 : l.length ≤ 140737488351232) (A3 : Option Addr) (c3 : Nat) (A4 : Option Addr) (c4 : Nat) (w : World) (hgl : GL w) : Calls Tryz.prog 50 #[.agg #[.int .i64 4, .int .i64 n, .string t, .slice A3 ns.length c3, .slice A4 l.length c4]] w fun e w' => e = .returned (.bool (plainD (⟨4, n, t, ns, l⟩ : DT))) ∧ Below w.heap.size w w' := by
 have HG := Aside0.mk hgl
 have HS := Aside0.mk (sum_zero2 ns l h3 h4)
 have HT := Aside0.mk (toList_data t)
 clear hgl
 obtain ⟨fb, hfb⟩ : ∃ fb, fb = decide (t.size ≤ 65536) := ⟨_, rfl⟩
 have HF := Aside0.mk (show chars_Fits.f t = some fb by rw [hfb]; unfold chars_Fits.f; exact congrArg some (decide_eq_decide.2 (by omega)))
 rw [show plainD (⟨4, n, t, ns, l⟩ : DT) = (decide (n = 0) && t.data.toList.isEmpty && ns.isEmpty) by rfl]
 clear hfb
 go_enter Tryz.func50, Tryz.ntmps50
 go_wp2_with (go_at_call 70; go_loud (with_reducible refine (chars_Fits.calls t fb _ (HG.out.below (below_alloc (Below.refl _ _) _)) HF.out).mono ?_); rintro e w5 ⟨rfl, hb5⟩; have HB5 := Aside0.mk hb5.below; clear hb5)
 all_goals go_ret
 all_goals (refine ⟨?_, ?_⟩; rotate_left; (first | exact below_alloc (Below.refl _ _) _ | exact below_then (below_alloc (Below.refl _ _) _) (by simp) HB5.out))
 all_goals
  (have HS := HS.out
   have HT := HT.out
   try clear HB5
   clear HG HF
   cases ns <;> cases l <;> simp_all [w64_0] <;> omega)
set_option maxHeartbeats 8000000 in
theorem qplain_5 (n : Int) (t : ByteArray) (ns : List ByteArray) (l : List DT) (h3 : ns.length ≤ 140737488351232) (h4 : l.length ≤ 140737488351232) (A3 : Option Addr) (c3 : Nat) (A4 : Option Addr) (c4 : Nat) (w : World) (hgl : GL w) : Calls Tryz.prog 50 #[.agg #[.int .i64 5, .int .i64 n, .string t, .slice A3 ns.length c3, .slice A4 l.length c4]] w fun e w' => e = .returned (.bool (plainD (⟨5, n, t, ns, l⟩ : DT))) ∧ Below w.heap.size w w' := by
 have HG := Aside0.mk hgl
 have HS := Aside0.mk (sum_zero2 ns l h3 h4)
 have HT := Aside0.mk (toList_data t)
 clear hgl
 obtain ⟨fb, hfb⟩ : ∃ fb, fb = decide (t.size ≤ 65536) := ⟨_, rfl⟩
 have HF := Aside0.mk (show chars_Fits.f t = some fb by rw [hfb]; unfold chars_Fits.f; exact congrArg some (decide_eq_decide.2 (by omega)))
 rw [show plainD (⟨5, n, t, ns, l⟩ : DT) = (decide (n = 0) && t.data.toList.isEmpty && ((ns.length : Int) == (l.length : Int))) by rw [show ((ns.length : Int) == (l.length : Int)) = decide (ns.length = l.length) by rw [Bool.eq_iff_iff]; simp; omega]; rfl]
 clear hfb
 go_enter Tryz.func50, Tryz.ntmps50
 go_wp2_with (go_at_call 70; go_loud (with_reducible refine (chars_Fits.calls t fb _ (HG.out.below (below_alloc (Below.refl _ _) _)) HF.out).mono ?_); rintro e w5 ⟨rfl, hb5⟩; have HB5 := Aside0.mk hb5.below; clear hb5)
 all_goals go_ret
 all_goals (refine ⟨?_, ?_⟩; rotate_left; (first | exact below_alloc (Below.refl _ _) _ | exact below_then (below_alloc (Below.refl _ _) _) (by simp) HB5.out))
 all_goals
  (have HS := HS.out
   have HT := HT.out
   try clear HB5
   clear HG HF
   simp_all)
theorem qplain_c (kd : Int) (n : Int) (t : ByteArray) (ns : List ByteArray) (l : List DT) (h3 : ns.length ≤ 140737488351232) (h4 : l.length ≤ 140737488351232) (A3 : Option Addr) (c3 : Nat) (A4 : Option Addr) (c4 : Nat) (w : World) (hgl : GL w) : Calls Tryz.prog 50 #[.agg #[.int .i64 kd, .int .i64 n, .string t, .slice A3 ns.length c3, .slice A4 l.length c4]] w fun e w' => e = .returned (.bool (plainD (⟨kd, n, t, ns, l⟩ : DT))) ∧ Below w.heap.size w w' := by
 by_cases hk : 0 ≤ kd ∧ kd ≤ 5
 ·have hk : kd = 0 ∨ kd = 1 ∨ kd = 2 ∨ kd = 3 ∨ kd = 4 ∨ kd = 5 := by omega
  rcases hk with rfl | rfl | rfl | rfl | rfl | rfl
  ·exact qplain_0 n t ns l h3 h4 A3 c3 A4 c4 w hgl
  ·exact qplain_1 n t ns l h3 h4 A3 c3 A4 c4 w hgl
  ·exact qplain_2 n t ns l h3 h4 A3 c3 A4 c4 w hgl
  ·exact qplain_3 n t ns l h3 h4 A3 c3 A4 c4 w hgl
  ·exact qplain_4 n t ns l h3 h4 A3 c3 A4 c4 w hgl
  ·exact qplain_5 n t ns l h3 h4 A3 c3 A4 c4 w hgl
 ·rw [plain_out hk]
  have k0 : (kd == 0) = false := by simp; omega
  have k1 : (kd == 1) = false := by simp; omega
  have k2 : (kd == 2) = false := by simp; omega
  have k3 : (kd == 3) = false := by simp; omega
  have k4 : (kd == 4) = false := by simp; omega
  have k5 : (kd == 5) = false := by simp; omega
  clear hk
  go_enter Tryz.func50, Tryz.ntmps50
  go_wp2_with fail
  go_ret
  exact ⟨rfl, below_alloc (Below.refl _ _) _⟩
theorem qplain_is (kd n : Int) (t : ByteArray) (A3 : Option Addr) (c3 : Nat) (ns : List ByteArray) (A4 : Option Addr) (c4 : Nat) (l : List DT) (r : Bool) (w : World) (hgl : GL w) (h : plainD (⟨kd, n, t, ns, l⟩ : DT) = r ∧ ns.length ≤ 140737488351232 ∧ l.length ≤ 140737488351232) : Calls Tryz.prog 50 #[.agg #[.int .i64 kd, .int .i64 n, .string t, .slice A3 ns.length c3, .slice A4 l.length c4]] w fun e w' => e = .returned (.bool r) ∧ Below w.heap.size w w' := h.1 ▸ qplain_c kd n t ns l h.2.1 h.2.2 A3 c3 A4 c4 w hgl
end Go.Proofs.YtidcecpbihmloaaGreatDoorE

namespace Go.Proofs.YtidcecpbihmloaaGreatDoorE
open Go Go.RowKit Go.Proofs.YtidcecpbihmloaaGreatDoorW.PrintWords Go.Proofs.YtidcecpbihmloaaGreatDoorX Go.Proofs.YtidcecpbihmloaaGreatDoor.P16 Go.Proofs.YtidcecpbihmloaaGreatDoor.M02
set_option linter.unusedVariables false
set_option linter.unusedSimpArgs false
set_option maxHeartbeats 4000000 in
set_option maxRecDepth 100000 in
theorem right_bad (x : DT) (hx : OkD x) (hp : plainD x = false) (L op : Nat) (hL : L ≤ 2000) (g : Nat) (w0 w : World) (hgl : GL w0) (A3 : Option Addr) (c3 : Nat) (A4 : Option Addr) (c4 : Nat) (l3 : x.f3.length ≤ c3) (g3 : Kd.string.C w0 A3 x.f3.length x.f3) (l4 : x.f4.length ≤ c4) (g4 : k25.C w0 A4 x.f4.length x.f4) (hI : IsC w0 w g (L + 1 : Nat)) (hB : Below w0.heap.size w0 w) :
  Calls Tryz.prog 28 #[.pointer (some ⟨g, 0, none⟩), .agg #[.int .i64 x.f0, .int .i64 x.f1, .string x.f2, .slice A3 x.f3.length c3, .slice A4 x.f4.length c4], .int .i64 op] w (rightP w0 w g none) := by
 have HI := Aside0.mk hI
 have HB := Aside0.mk hB
 have HG := Aside0.mk hgl
 have H3 := Aside0.mk g3
 have H4 := Aside0.mk g4
 have HP := Aside0.mk (show plainD (⟨x.f0, x.f1, x.f2, x.f3, x.f4⟩ : DT) = false ∧ x.f3.length ≤ 140737488351232 ∧ x.f4.length ≤ 140737488351232 from ⟨hp, hx.out.2.2.2.1, hx.out.2.2.2.2.2.1⟩)
 clear hI hB hgl g3 g4 hx hp
 go_enter Tryz.func28, Tryz.ntmps28
 go_upto_region 1 with (first | ((with_reducible refine gate_dst (N := 4) rfl ?_); refine box_event ?hg (N := 4) ?hd (cs := #[.int .i64 x.f0, .int .i64 x.f1, .string x.f2, .slice A3 x.f3.length c3, .slice A4 x.f4.length c4]) (t := 25) ?hr ?_; (case hd => rfl); (case hg => rfl); (case hr => first | (go_simp; done) | (go_simp; rfl)); intro gb hg w5 hbox hb; have BK := Aside0.mk hbox; have HW := Aside0.mk hb; have HGB := Aside0.mk hg; clear hbox hb hg))
 (try simp only [Act.put, List.setIfInBounds_toArray, List.set_cons_zero, List.set_cons_succ])
 have hgw : g < w.heap.size := blk_lt HI.out.1
 have hne : gb ≠ g := by rw [HGB.out]; omega
 have hi5 : w5.heap[g]? = some (.cells #[.int .i64 (L + 1 : Nat)] 58 (0, 0)) := (HW.out.block g hgw).trans HI.out.1
 have c0 : w5.cell? ⟨g, 0, none⟩ = some (.int .i64 ((L + 1 : Nat) : Int)) := (blk_cell hi5 0).trans rfl
 have f0 := blk_frozen hi5 0
 have HI5 := Aside0.mk hi5
 clear hi5
 have b0 : w5.cell? ⟨gb, 0, none⟩ = some (.int .i64 x.f0) := (blk_cell BK.out 0).trans rfl
 have b1 : w5.cell? ⟨gb, 1, none⟩ = some (.int .i64 x.f1) := (blk_cell BK.out 1).trans rfl
 have b2 : w5.cell? ⟨gb, 2, none⟩ = some (.string x.f2) := (blk_cell BK.out 2).trans rfl
 have b3 : w5.cell? ⟨gb, 3, none⟩ = some (.slice A3 x.f3.length c3) := (blk_cell BK.out 3).trans rfl
 have b4 : w5.cell? ⟨gb, 4, none⟩ = some (.slice A4 x.f4.length c4) := (blk_cell BK.out 4).trans rfl
 have e1 : wrap64 (((L + 1 : Nat) : Int) - 1) = (L : Int) := by rw [w64 (by omega) (by omega)]; omega
 have HW1 := Aside0.mk (show Below w0.heap.size w0 (w5.setCell ⟨g, 0, none⟩ (.int .i64 (L : Int))) from (below_then HB.out HB.out.size HW.out).setCell HI.out.2 _)
 have HK1 := Aside0.mk (show KeepBut w (w5.setCell ⟨g, 0, none⟩ (.int .i64 (L : Int))) g none from (KeepBut.of_below HW.out g none).set_ 0 _)
 go_wp2_with (go_at_call 50; go_loud (with_reducible refine (qplain_is x.f0 x.f1 x.f2 _ _ x.f3 _ _ x.f4 false _ (HG.out.below HW1.out) HP.out).mono ?_); rintro e w' ⟨rfl, hb⟩; have HW2 := Aside0.mk hb; clear hb)
 go_ret
 exact ⟨below_then HW1.out HW1.out.size HW2.out, HK1.out.trans (KeepBut.of_below HW2.out g none) (.inl rfl), rfl⟩
end Go.Proofs.YtidcecpbihmloaaGreatDoorE

namespace Go.Proofs.YtidcecpbihmloaaGreatDoorE
open Go Go.RowKit Go.Proofs.YtidcecpbihmloaaGreatDoorW.PrintWords Go.Proofs.YtidcecpbihmloaaGreatDoorX Go.Proofs.YtidcecpbihmloaaGreatDoor.P16 Go.Proofs.YtidcecpbihmloaaGreatDoor.M02
set_option linter.unusedVariables false
set_option linter.unusedSimpArgs false
set_option maxHeartbeats 4000000 in
set_option maxRecDepth 100000 in
theorem right_leaf (x : DT) (hx : OkD x) (hp : plainD x = true) (hk : x.f0 < 4) (L op : Nat) (hL : L ≤ 2000) (g : Nat) (w0 w : World) (hgl : GL w0) (A3 : Option Addr) (c3 : Nat) (A4 : Option Addr) (c4 : Nat) (l3 : x.f3.length ≤ c3) (g3 : Kd.string.C w0 A3 x.f3.length x.f3) (l4 : x.f4.length ≤ c4) (g4 : k25.C w0 A4 x.f4.length x.f4) (hI : IsC w0 w g (L + 1 : Nat)) (hB : Below w0.heap.size w0 w) :
  Calls Tryz.prog 28 #[.pointer (some ⟨g, 0, none⟩), .agg #[.int .i64 x.f0, .int .i64 x.f1, .string x.f2, .slice A3 x.f3.length c3, .slice A4 x.f4.length c4], .int .i64 op] w (rightP w0 w g (some L)) := by
 have HI := Aside0.mk hI
 have HB := Aside0.mk hB
 have HG := Aside0.mk hgl
 have H3 := Aside0.mk g3
 have H4 := Aside0.mk g4
 have HP := Aside0.mk (show plainD (⟨x.f0, x.f1, x.f2, x.f3, x.f4⟩ : DT) = true ∧ x.f3.length ≤ 140737488351232 ∧ x.f4.length ≤ 140737488351232 from ⟨hp, hx.out.2.2.2.1, hx.out.2.2.2.2.2.1⟩)
 clear hI hB hgl g3 g4 hx hp
 go_enter Tryz.func28, Tryz.ntmps28
 go_upto_region 1 with (first | ((with_reducible refine gate_dst (N := 4) rfl ?_); refine box_event ?hg (N := 4) ?hd (cs := #[.int .i64 x.f0, .int .i64 x.f1, .string x.f2, .slice A3 x.f3.length c3, .slice A4 x.f4.length c4]) (t := 25) ?hr ?_; (case hd => rfl); (case hg => rfl); (case hr => first | (go_simp; done) | (go_simp; rfl)); intro gb hg w5 hbox hb; have BK := Aside0.mk hbox; have HW := Aside0.mk hb; have HGB := Aside0.mk hg; clear hbox hb hg))
 (try simp only [Act.put, List.setIfInBounds_toArray, List.set_cons_zero, List.set_cons_succ])
 have hgw : g < w.heap.size := blk_lt HI.out.1
 have hne : gb ≠ g := by rw [HGB.out]; omega
 have hi5 : w5.heap[g]? = some (.cells #[.int .i64 (L + 1 : Nat)] 58 (0, 0)) := (HW.out.block g hgw).trans HI.out.1
 have c0 : w5.cell? ⟨g, 0, none⟩ = some (.int .i64 ((L + 1 : Nat) : Int)) := (blk_cell hi5 0).trans rfl
 have f0 := blk_frozen hi5 0
 have HI5 := Aside0.mk hi5
 clear hi5
 have b0 : w5.cell? ⟨gb, 0, none⟩ = some (.int .i64 x.f0) := (blk_cell BK.out 0).trans rfl
 have b1 : w5.cell? ⟨gb, 1, none⟩ = some (.int .i64 x.f1) := (blk_cell BK.out 1).trans rfl
 have b2 : w5.cell? ⟨gb, 2, none⟩ = some (.string x.f2) := (blk_cell BK.out 2).trans rfl
 have b3 : w5.cell? ⟨gb, 3, none⟩ = some (.slice A3 x.f3.length c3) := (blk_cell BK.out 3).trans rfl
 have b4 : w5.cell? ⟨gb, 4, none⟩ = some (.slice A4 x.f4.length c4) := (blk_cell BK.out 4).trans rfl
 have e1 : wrap64 (((L + 1 : Nat) : Int) - 1) = (L : Int) := by rw [w64 (by omega) (by omega)]; omega
 have HW1 := Aside0.mk (show Below w0.heap.size w0 (w5.setCell ⟨g, 0, none⟩ (.int .i64 (L : Int))) from (below_then HB.out HB.out.size HW.out).setCell HI.out.2 _)
 have HK1 := Aside0.mk (show KeepBut w (w5.setCell ⟨g, 0, none⟩ (.int .i64 (L : Int))) g none from (KeepBut.of_below HW.out g none).set_ 0 _)
 have bg : (w5.setCell ⟨g, 0, none⟩ (.int .i64 (L : Int))).heap[gb]? = some (.cells #[.int .i64 x.f0, .int .i64 x.f1, .string x.f2, .slice A3 x.f3.length c3, .slice A4 x.f4.length c4] 25 (0, 0)) := (KeepBut.set_ (KeepBut.refl w5 g none) 0 _).blk BK.out hne (by simp)
 have BG := Aside0.mk bg
 have HIL := Aside0.mk (show IsC w0 (w5.setCell ⟨g, 0, none⟩ (.int .i64 (L : Int))) g (L : Int) from ⟨by rw [blk_set HI5.out 0 _]; rfl, HI.out.2⟩)
 clear bg
 go_wp2_with (go_at_call 50; go_loud (with_reducible refine (qplain_is x.f0 x.f1 x.f2 _ _ x.f3 _ _ x.f4 true _ (HG.out.below HW1.out) HP.out).mono ?_); rintro e w' ⟨rfl, hb⟩; have d0 : w'.cell? ⟨gb, 0, none⟩ = some (.int .i64 x.f0) := (blk_cell ((hb.block gb (blk_lt BG.out)).trans BG.out) 0).trans rfl; have HW2 := Aside0.mk hb; clear hb)
 go_ret
 exact ⟨below_then HW1.out HW1.out.size HW2.out, HK1.out.trans (KeepBut.of_below HW2.out g none) (.inl rfl), rfl, (HW2.out.block g (blk_lt HIL.out.1)).trans HIL.out.1, HIL.out.2⟩
end Go.Proofs.YtidcecpbihmloaaGreatDoorE

namespace Go.Proofs.YtidcecpbihmloaaGreatDoorE
open Go Go.RowKit Go.Proofs.YtidcecpbihmloaaGreatDoorW.PrintWords Go.Proofs.YtidcecpbihmloaaGreatDoorX Go.Proofs.YtidcecpbihmloaaGreatDoor.P16 Go.Proofs.YtidcecpbihmloaaGreatDoor.M02
set_option linter.unusedVariables false
set_option linter.unusedSimpArgs false
set_option maxHeartbeats 4000000 in
set_option maxRecDepth 100000 in
theorem right_much (x : DT) (hx : OkD x) (hp : plainD x = true) (hk : ¬ x.f0 < 4) (L op : Nat) (hL : L ≤ 2000) (hmu : op = 16 ∨ L < x.f4.length) (g : Nat) (w0 w : World) (hgl : GL w0) (A3 : Option Addr) (c3 : Nat) (A4 : Option Addr) (c4 : Nat) (l3 : x.f3.length ≤ c3) (g3 : Kd.string.C w0 A3 x.f3.length x.f3) (l4 : x.f4.length ≤ c4) (g4 : k25.C w0 A4 x.f4.length x.f4) (hI : IsC w0 w g (L + 1 : Nat)) (hB : Below w0.heap.size w0 w) :
  Calls Tryz.prog 28 #[.pointer (some ⟨g, 0, none⟩), .agg #[.int .i64 x.f0, .int .i64 x.f1, .string x.f2, .slice A3 x.f3.length c3, .slice A4 x.f4.length c4], .int .i64 op] w (rightP w0 w g none) := by
 have HI := Aside0.mk hI
 have HB := Aside0.mk hB
 have HG := Aside0.mk hgl
 have H3 := Aside0.mk g3
 have H4 := Aside0.mk g4
 have HP := Aside0.mk (show plainD (⟨x.f0, x.f1, x.f2, x.f3, x.f4⟩ : DT) = true ∧ x.f3.length ≤ 140737488351232 ∧ x.f4.length ≤ 140737488351232 from ⟨hp, hx.out.2.2.2.1, hx.out.2.2.2.2.2.1⟩)
 clear hI hB hgl g3 g4 hx hp
 go_enter Tryz.func28, Tryz.ntmps28
 go_upto_region 1 with (first | ((with_reducible refine gate_dst (N := 4) rfl ?_); refine box_event ?hg (N := 4) ?hd (cs := #[.int .i64 x.f0, .int .i64 x.f1, .string x.f2, .slice A3 x.f3.length c3, .slice A4 x.f4.length c4]) (t := 25) ?hr ?_; (case hd => rfl); (case hg => rfl); (case hr => first | (go_simp; done) | (go_simp; rfl)); intro gb hg w5 hbox hb; have BK := Aside0.mk hbox; have HW := Aside0.mk hb; have HGB := Aside0.mk hg; clear hbox hb hg))
 (try simp only [Act.put, List.setIfInBounds_toArray, List.set_cons_zero, List.set_cons_succ])
 have hgw : g < w.heap.size := blk_lt HI.out.1
 have hne : gb ≠ g := by rw [HGB.out]; omega
 have hi5 : w5.heap[g]? = some (.cells #[.int .i64 (L + 1 : Nat)] 58 (0, 0)) := (HW.out.block g hgw).trans HI.out.1
 have c0 : w5.cell? ⟨g, 0, none⟩ = some (.int .i64 ((L + 1 : Nat) : Int)) := (blk_cell hi5 0).trans rfl
 have f0 := blk_frozen hi5 0
 have HI5 := Aside0.mk hi5
 clear hi5
 have b0 : w5.cell? ⟨gb, 0, none⟩ = some (.int .i64 x.f0) := (blk_cell BK.out 0).trans rfl
 have b1 : w5.cell? ⟨gb, 1, none⟩ = some (.int .i64 x.f1) := (blk_cell BK.out 1).trans rfl
 have b2 : w5.cell? ⟨gb, 2, none⟩ = some (.string x.f2) := (blk_cell BK.out 2).trans rfl
 have b3 : w5.cell? ⟨gb, 3, none⟩ = some (.slice A3 x.f3.length c3) := (blk_cell BK.out 3).trans rfl
 have b4 : w5.cell? ⟨gb, 4, none⟩ = some (.slice A4 x.f4.length c4) := (blk_cell BK.out 4).trans rfl
 have e1 : wrap64 (((L + 1 : Nat) : Int) - 1) = (L : Int) := by rw [w64 (by omega) (by omega)]; omega
 have HW1 := Aside0.mk (show Below w0.heap.size w0 (w5.setCell ⟨g, 0, none⟩ (.int .i64 (L : Int))) from (below_then HB.out HB.out.size HW.out).setCell HI.out.2 _)
 have HK1 := Aside0.mk (show KeepBut w (w5.setCell ⟨g, 0, none⟩ (.int .i64 (L : Int))) g none from (KeepBut.of_below HW.out g none).set_ 0 _)
 have bg : (w5.setCell ⟨g, 0, none⟩ (.int .i64 (L : Int))).heap[gb]? = some (.cells #[.int .i64 x.f0, .int .i64 x.f1, .string x.f2, .slice A3 x.f3.length c3, .slice A4 x.f4.length c4] 25 (0, 0)) := (KeepBut.set_ (KeepBut.refl w5 g none) 0 _).blk BK.out hne (by simp)
 have BG := Aside0.mk bg
 have HIL := Aside0.mk (show IsC w0 (w5.setCell ⟨g, 0, none⟩ (.int .i64 (L : Int))) g (L : Int) from ⟨by rw [blk_set HI5.out 0 _]; rfl, HI.out.2⟩)
 clear bg
 by_cases ho : op = 16
 ·subst ho
  go_wp2_with (go_at_call 50; go_loud (with_reducible refine (qplain_is x.f0 x.f1 x.f2 _ _ x.f3 _ _ x.f4 true _ (HG.out.below HW1.out) HP.out).mono ?_); rintro e w' ⟨rfl, hb⟩; have d0 : w'.cell? ⟨gb, 0, none⟩ = some (.int .i64 x.f0) := (blk_cell ((hb.block gb (blk_lt BG.out)).trans BG.out) 0).trans rfl; have d4 : w'.cell? ⟨gb, 4, none⟩ = some (.slice A4 x.f4.length c4) := (blk_cell ((hb.block gb (blk_lt BG.out)).trans BG.out) 4).trans rfl; have p0 : w'.cell? ⟨g, 0, none⟩ = some (.int .i64 (L : Int)) := (blk_cell ((hb.block g (blk_lt HIL.out.1)).trans HIL.out.1) 0).trans rfl; have HW2 := Aside0.mk hb; clear hb)
  go_quiet (fail)
  go_wp2_with fail
  go_ret
  exact ⟨pw_below_drewN (below_then HW1.out HW1.out.size HW2.out) _, HK1.out.trans (KeepBut.of_below (pw_below_drewN HW2.out _) g none) (.inl rfl), rfl⟩
 ·have ho2 : ((op : Int) == 16) = false := by simp; omega
  have hmm : (L : Int) < (x.f4.length : Int) := by omega
  go_wp2_with (go_at_call 50; go_loud (with_reducible refine (qplain_is x.f0 x.f1 x.f2 _ _ x.f3 _ _ x.f4 true _ (HG.out.below HW1.out) HP.out).mono ?_); rintro e w' ⟨rfl, hb⟩; have d0 : w'.cell? ⟨gb, 0, none⟩ = some (.int .i64 x.f0) := (blk_cell ((hb.block gb (blk_lt BG.out)).trans BG.out) 0).trans rfl; have d4 : w'.cell? ⟨gb, 4, none⟩ = some (.slice A4 x.f4.length c4) := (blk_cell ((hb.block gb (blk_lt BG.out)).trans BG.out) 4).trans rfl; have p0 : w'.cell? ⟨g, 0, none⟩ = some (.int .i64 (L : Int)) := (blk_cell ((hb.block g (blk_lt HIL.out.1)).trans HIL.out.1) 0).trans rfl; have HW2 := Aside0.mk hb; clear hb)
  go_quiet (fail)
  go_wp2_with fail
  go_ret
  exact ⟨pw_below_drewN (below_then HW1.out HW1.out.size HW2.out) _, HK1.out.trans (KeepBut.of_below (pw_below_drewN HW2.out _) g none) (.inl rfl), rfl⟩
end Go.Proofs.YtidcecpbihmloaaGreatDoorE

namespace Go.Proofs.YtidcecpbihmloaaGreatDoorE
open Go Go.RowKit Go.Proofs.YtidcecpbihmloaaGreatDoorW.PrintWords Go.Proofs.YtidcecpbihmloaaGreatDoorX Go.Proofs.YtidcecpbihmloaaGreatDoor.P16 Go.Proofs.YtidcecpbihmloaaGreatDoor.M02
set_option linter.unusedVariables false
set_option linter.unusedSimpArgs false
/-- What is left, or one below nothing. -/
def optI : Option Nat → Int
 | some r => r
 | none => -1
theorem get_rdOf (ns : List ByteArray) (i : Nat) : rdOf ByteArray.empty ns (i : Int) = ns.getD i em := by unfold rdOf; rw [Int.toNat_natCast]; rfl
theorem getD_size {ns : List ByteArray} (h : ∀ s ∈ ns, s.size ≤ 140737488351232) (i : Nat) : (ns.getD i em).size ≤ 140737488351232 := by
 rw [List.getD_eq_getElem?_getD]
 cases hq : ns[i]? with
 | none => exact Nat.zero_le _
 | some s => exact h s (List.mem_of_getElem? hq)
end Go.Proofs.YtidcecpbihmloaaGreatDoorE

namespace Go.Proofs.YtidcecpbihmloaaGreatDoorE
open Go Go.RowKit Go.Proofs.YtidcecpbihmloaaGreatDoorW.PrintWords Go.Proofs.YtidcecpbihmloaaGreatDoorX Go.Proofs.YtidcecpbihmloaaGreatDoor.P16 Go.Proofs.YtidcecpbihmloaaGreatDoor.M02
set_option linter.unusedVariables false
set_option linter.unusedSimpArgs false
set_option maxHeartbeats 4000000 in
set_option maxRecDepth 100000 in
theorem right_names (x : DT) (hx : OkD x) (hp : plainD x = true) (hk : ¬ x.f0 < 4) (L op : Nat) (hL : L ≤ 2000) (ho : op < 16) (hmu : x.f4.length ≤ L) (hbad : ∃ j, j < x.f3.length ∧ ¬ goodN x.f3 j) (g : Nat) (w0 w : World) (hgl : GL w0) (A3 : Option Addr) (c3 : Nat) (A4 : Option Addr) (c4 : Nat) (l3 : x.f3.length ≤ c3) (g3 : Kd.string.C w0 A3 x.f3.length x.f3) (l4 : x.f4.length ≤ c4) (g4 : k25.C w0 A4 x.f4.length x.f4) (hI : IsC w0 w g (L + 1 : Nat)) (hB : Below w0.heap.size w0 w) :
  Calls Tryz.prog 28 #[.pointer (some ⟨g, 0, none⟩), .agg #[.int .i64 x.f0, .int .i64 x.f1, .string x.f2, .slice A3 x.f3.length c3, .slice A4 x.f4.length c4], .int .i64 op] w (rightP w0 w g none) := by
 have HI := Aside0.mk hI
 have HB := Aside0.mk hB
 have HG := Aside0.mk hgl
 have H3 := Aside0.mk g3
 have H4 := Aside0.mk g4
 have HP := Aside0.mk (show plainD (⟨x.f0, x.f1, x.f2, x.f3, x.f4⟩ : DT) = true ∧ x.f3.length ≤ 140737488351232 ∧ x.f4.length ≤ 140737488351232 from ⟨hp, hx.out.2.2.2.1, hx.out.2.2.2.2.2.1⟩)
 have HXS := Aside0.mk hx.out.2.2.2.2.1
 have hN3 : x.f3.length ≤ 140737488351232 := hx.out.2.2.2.1
 clear hI hB hgl g3 g4 hx hp
 go_enter Tryz.func28, Tryz.ntmps28
 go_upto_region 1 with (first | ((with_reducible refine gate_dst (N := 4) rfl ?_); refine box_event ?hg (N := 4) ?hd (cs := #[.int .i64 x.f0, .int .i64 x.f1, .string x.f2, .slice A3 x.f3.length c3, .slice A4 x.f4.length c4]) (t := 25) ?hr ?_; (case hd => rfl); (case hg => rfl); (case hr => first | (go_simp; done) | (go_simp; rfl)); intro gb hg w5 hbox hb; have BK := Aside0.mk hbox; have HW := Aside0.mk hb; have HGB := Aside0.mk hg; clear hbox hb hg))
 (try simp only [Act.put, List.setIfInBounds_toArray, List.set_cons_zero, List.set_cons_succ])
 have hgw : g < w.heap.size := blk_lt HI.out.1
 have hne : gb ≠ g := by rw [HGB.out]; omega
 have hi5 : w5.heap[g]? = some (.cells #[.int .i64 (L + 1 : Nat)] 58 (0, 0)) := (HW.out.block g hgw).trans HI.out.1
 have c0 : w5.cell? ⟨g, 0, none⟩ = some (.int .i64 ((L + 1 : Nat) : Int)) := (blk_cell hi5 0).trans rfl
 have f0 := blk_frozen hi5 0
 have HI5 := Aside0.mk hi5
 clear hi5
 have b0 : w5.cell? ⟨gb, 0, none⟩ = some (.int .i64 x.f0) := (blk_cell BK.out 0).trans rfl
 have b1 : w5.cell? ⟨gb, 1, none⟩ = some (.int .i64 x.f1) := (blk_cell BK.out 1).trans rfl
 have b2 : w5.cell? ⟨gb, 2, none⟩ = some (.string x.f2) := (blk_cell BK.out 2).trans rfl
 have b3 : w5.cell? ⟨gb, 3, none⟩ = some (.slice A3 x.f3.length c3) := (blk_cell BK.out 3).trans rfl
 have b4 : w5.cell? ⟨gb, 4, none⟩ = some (.slice A4 x.f4.length c4) := (blk_cell BK.out 4).trans rfl
 have e1 : wrap64 (((L + 1 : Nat) : Int) - 1) = (L : Int) := by rw [w64 (by omega) (by omega)]; omega
 have HW1 := Aside0.mk (show Below w0.heap.size w0 (w5.setCell ⟨g, 0, none⟩ (.int .i64 (L : Int))) from (below_then HB.out HB.out.size HW.out).setCell HI.out.2 _)
 have HK1 := Aside0.mk (show KeepBut w (w5.setCell ⟨g, 0, none⟩ (.int .i64 (L : Int))) g none from (KeepBut.of_below HW.out g none).set_ 0 _)
 have bg : (w5.setCell ⟨g, 0, none⟩ (.int .i64 (L : Int))).heap[gb]? = some (.cells #[.int .i64 x.f0, .int .i64 x.f1, .string x.f2, .slice A3 x.f3.length c3, .slice A4 x.f4.length c4] 25 (0, 0)) := (KeepBut.set_ (KeepBut.refl w5 g none) 0 _).blk BK.out hne (by simp)
 have BG := Aside0.mk bg
 have HIL := Aside0.mk (show IsC w0 (w5.setCell ⟨g, 0, none⟩ (.int .i64 (L : Int))) g (L : Int) from ⟨by rw [blk_set HI5.out 0 _]; rfl, HI.out.2⟩)
 clear bg
 have ho2 : ((op : Int) == 16) = false := by simp; omega
 have hmm : decide (L < x.f4.length) = false := decide_eq_false (by omega)
 have hmm2 : decide ((L : Int) < (x.f4.length : Int)) = false := decide_eq_false (by omega)
 go_wp2_with (go_at_call 50; go_loud (with_reducible refine (qplain_is x.f0 x.f1 x.f2 _ _ x.f3 _ _ x.f4 true _ (HG.out.below HW1.out) HP.out).mono ?_); rintro e w2 ⟨rfl, hb⟩; have d0 : w2.cell? ⟨gb, 0, none⟩ = some (.int .i64 x.f0) := (blk_cell ((hb.block gb (blk_lt BG.out)).trans BG.out) 0).trans rfl; have d3 : w2.cell? ⟨gb, 3, none⟩ = some (.slice A3 x.f3.length c3) := (blk_cell ((hb.block gb (blk_lt BG.out)).trans BG.out) 3).trans rfl; have d4 : w2.cell? ⟨gb, 4, none⟩ = some (.slice A4 x.f4.length c4) := (blk_cell ((hb.block gb (blk_lt BG.out)).trans BG.out) 4).trans rfl; have p0 : w2.cell? ⟨g, 0, none⟩ = some (.int .i64 (L : Int)) := (blk_cell ((hb.block g (blk_lt HIL.out.1)).trans HIL.out.1) 0).trans rfl; have HW2 := Aside0.mk hb; clear hb)
 go_quiet (fail)
 have HBAD := Aside0.mk hbad
 clear hbad
 go_wp2_with fail
 go_loopg [46] x.f3.length (fun gk i wr => ∃ k : Nat, k ≤ x.f3.length ∧ i = .int .i64 k ∧ Aside0 (Below w2.heap.size w2 wr ∧ (∀ j, j < k → goodN x.f3 j) ∧ k + gk = x.f3.length))
 case atStart => exact ⟨0, by omega, rfl, ⟨pw_below_drewN (Below.refl _ _) _, fun j hj => by omega, by omega⟩⟩
 case round =>
  obtain ⟨k, hk, rfl, HXD⟩ := hrel
  by_cases hlt : k < x.f3.length
  ·have HZ := Aside0.mk (show Below w0.heap.size w0 wr from below_then (below_then HW1.out HW1.out.size HW2.out) (below_then HW1.out HW1.out.size HW2.out).size HXD.out.1)
   have d3r : wr.cell? ⟨gb, 3, none⟩ = some (.slice A3 x.f3.length c3) := (blk_cell ((HXD.out.1.block gb (blk_lt ((HW2.out.block gb (blk_lt BG.out)).trans BG.out))).trans ((HW2.out.block gb (blk_lt BG.out)).trans BG.out)) 3).trans rfl
   obtain ⟨ad, rfl, q0⟩ := Kd.at_string (Kd.C_below H3.out HZ.out) (k : Int) (by omega) (by omega)
   rw [Int.toNat_natCast] at q0
   obtain ⟨s, hs⟩ : ∃ s, s = rdOf ByteArray.empty x.f3 (k : Int) := ⟨_, rfl⟩
   rw [← hs] at q0
   have hsz : s.size ≤ 140737488351232 := by
    rw [hs]
    unfold rdOf
    rw [Int.toNat_natCast, List.getD_eq_getElem?_getD, List.getElem?_eq_getElem hlt]
    exact HXS.out _ (List.getElem_mem hlt)
   obtain ⟨K, hK⟩ := name_ev s hsz
   have HNK := Aside0.mk (hK K (Nat.le_refl _))
   have HS := Aside0.mk hs
   clear hs hK hsz
   obtain ⟨bn, hbn⟩ : ∃ b, b = namedS true (B s) := ⟨_, rfl⟩
   have HNK := Aside0.mk (show chars_Name.f K s = some bn by rw [hbn]; exact HNK.out)
   have HBN := Aside0.mk hbn
   clear hbn
   cases bn with
   | false =>
    go_wp2_with (go_at_call 51; go_loud (with_reducible refine (chars_Name.calls K s false _ (HG.out.below HZ.out) HNK.out).mono ?_); rintro e w3 ⟨rfl, hd⟩; have HD3 := Aside0.mk hd.below; clear hd)
    go_ret
    exact ⟨below_then HZ.out HZ.out.size HD3.out, (HK1.out.trans (KeepBut.of_below (below_then HW2.out HW2.out.size HXD.out.1) g none) (.inl rfl)).trans (KeepBut.of_below HD3.out g none) (.inl rfl), rfl⟩
   | true =>
    have HNM := Aside0.mk (show namedS true (x.f3.getD k em).data.toList = true by have h := HBN.out; rw [HS.out] at h; exact h.symm)
    by_cases hk0 : k = 0
    ·subst hk0
     rw [Addr.add_zero'] at q0
     go_wp2_with (go_at_call 51; go_loud (with_reducible refine (chars_Name.calls K s true _ (HG.out.below HZ.out) HNK.out).mono ?_); rintro e w3 ⟨rfl, hd⟩; have HD3 := Aside0.mk hd.below; clear hd)
     go_roundg (x.f3.length - 1)
     case measure => have := HXD.out.2.2; omega
     case rel => exact ⟨1, by omega, by go_num, ⟨below_then HXD.out.1 HXD.out.1.size HD3.out, fun j hj => by
      obtain rfl : j = 0 := by omega
      exact ⟨HNM.out, fun h => absurd h (by omega)⟩, by omega⟩⟩
    ·have hk1 : 0 < k := by omega
     have hk2 : k ≤ 140737488351232 := by omega
     obtain ⟨ad', hade, q1⟩ := Kd.at_string (Kd.C_below H3.out HZ.out) ((k - 1 : Nat) : Int) (by omega) (by omega)
     injection hade with hade
     subst hade
     rw [Int.toNat_natCast] at q1
     obtain ⟨s', hs'⟩ : ∃ s', s' = rdOf ByteArray.empty x.f3 ((k - 1 : Nat) : Int) := ⟨_, rfl⟩
     rw [← hs'] at q1
     have HS' := Aside0.mk hs'
     clear hs'
     go_wp2_with (go_at_call 51; go_loud (with_reducible refine (chars_Name.calls K s true _ (HG.out.below HZ.out) HNK.out).mono ?_); rintro e w3 ⟨rfl, hd⟩; have q2 := pw_cell_below hd.below q1; have d3s := pw_cell_below hd.below d3r; have HD3 := Aside0.mk hd.below; clear hd)
     ·go_ret
      exact ⟨below_then HZ.out HZ.out.size HD3.out, (HK1.out.trans (KeepBut.of_below (below_then HW2.out HW2.out.size HXD.out.1) g none) (.inl rfl)).trans (KeepBut.of_below HD3.out g none) (.inl rfl), rfl⟩
     ·have hq : (!Op.bytesLess s'.toList s.toList) = false := by assumption
      have HQ := Aside0.mk hq
      clear hq
      go_roundg (gk - 1)
      case measure => have := HXD.out.2.2; omega
      case rel => exact ⟨k + 1, by omega, by go_num, ⟨below_then HXD.out.1 HXD.out.1.size HD3.out, fun j hj => by
       by_cases hjk : j = k
       ·subst hjk
        have h := HQ.out
        rw [toList_B, toList_B, HS.out, HS'.out, get_rdOf, get_rdOf] at h
        exact ⟨HNM.out, fun _ => by simpa using h⟩
       ·exact HXD.out.2.1 j (by omega), by have := HXD.out.2.2; omega⟩⟩
  ·exfalso
   obtain ⟨j, hj, hn⟩ := HBAD.out
   exact hn (HXD.out.2.1 j (by omega))
end Go.Proofs.YtidcecpbihmloaaGreatDoorE
