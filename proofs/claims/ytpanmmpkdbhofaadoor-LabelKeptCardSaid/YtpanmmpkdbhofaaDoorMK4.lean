/- The row and the card of LabelKept: whatever the input, the law returns true. -/
import Derived.Test.YtpanmmpkdbhofaaDoorMK3
import Derived.ChangeArms
import Derived.DataReads
import Derived.SizedLaws
import Derived.Deep.Slices
import Derived.Test.YtpanmmpkdbhofaaDoorRows
import Derived.Test.YtpanmmpkdbhofaaDoorCards
import Derived.Test.YtpanmmpkdbhofaaDoorTie
import Derived.WalkKit
import Derived.ProofKit
import Derived.OpenShut
import Derived.ShutString
import Derived.ChangeOld
import Derived.Below
import Derived.LaidMore
import Derived.Stop.Joined
import Derived.SevenTiedAt
import Derived.MakeChecks
import Derived.Handed
import Derived.Lib.SmallJoins
import Derived.Carry

namespace Go.Proofs.YtpanmmpkdbhofaaDoor.P12r
open Go.RowKit Go.Proofs.YtpanmmpkdbhofaaDoorE Go.Proofs.YtpanmmpkdbhofaaDoorW.PrintWords Go.Proofs.YtpanmmpkdbhofaaDoorW.PrintLast Go.Proofs.YtpanmmpkdbhofaaDoorW.PrintMore
attribute [local go_sem] max2_int min2_int max_two min_two max_three min_three max_four min_four   -- for this text's walks alone
set_option linter.unusedVariables false
set_option linter.unusedSimpArgs false

attribute [local go_sem high] eqA56

def tendrilplain_Ints.l0 : Nat → List Int → List Int → Int → Int → Option (Bool)
  | 0, _, _, _, _ => none
  | k + 1, x0, x1, x12, x13 => if x13 < x12 then (if 0 ≤ x13 then (if x13 < (x0.length : Int) then (if x13 < (x1.length : Int) then (if (rd x0 x13) = (rd x1 x13) then (tendrilplain_Ints.l0 k x0 x1 x12 (wrap64 (x13 + 1))) else (some false)) else (none)) else (none)) else (none)) else (some true)
def tendrilplain_Ints.f (k : Nat) (l0 : List Int) (l1 : List Int) : Option (Bool) := if (l0.length : Int) = (l1.length : Int) then (tendrilplain_Ints.l0 k l0 l1 (l0.length : Int) 0) else (some false)
theorem tendrilplain_Ints.mono_l : ∀ k, (∀ y0 y1 y2 y3, LeO (tendrilplain_Ints.l0 k y0 y1 y2 y3) (tendrilplain_Ints.l0 (k + 1) y0 y1 y2 y3))
  | 0 => fun _ _ _ _ r h => by simp [tendrilplain_Ints.l0] at h
  | k + 1 => by
    have ih0 := tendrilplain_Ints.mono_l k
    · intro y0 y1 y2 y3
      unfold tendrilplain_Ints.l0
      repeat' first
      | (with_reducible exact ih0 _ _ _ _)
      | (with_reducible exact LeO.refl _)
      | (with_reducible exact LeO.none _)
      | (with_reducible refine LeO.ite ?_ ?_)
      | (with_reducible refine LeO.bind ?_ (fun _ => ?_))
      | exact ih0 _ _ _ _
      | exact LeO.none _
      | refine LeO.ite ?_ ?_
      | refine LeO.bind ?_ (fun _ => ?_)
theorem tendrilplain_Ints.mono : ∀ a0 a1 k, LeO (tendrilplain_Ints.f k a0 a1) (tendrilplain_Ints.f (k + 1) a0 a1) := by
  intro a0 a1 k
  have ih0 := tendrilplain_Ints.mono_l k
  unfold tendrilplain_Ints.f
  repeat' first
      | (with_reducible exact ih0 _ _ _ _)
      | (with_reducible exact LeO.refl _)
      | (with_reducible exact LeO.none _)
      | (with_reducible refine LeO.ite ?_ ?_)
      | (with_reducible refine LeO.bind ?_ (fun _ => ?_))
      | exact ih0 _ _ _ _
      | exact LeO.none _
      | refine LeO.ite ?_ ?_
      | refine LeO.bind ?_ (fun _ => ?_)
set_option maxHeartbeats 8000000 in
set_option maxRecDepth 100000 in
theorem tendrilplain_Ints.calls (k : Nat) (A0 : Option Addr) (c0 : Nat) (l0 : List Int) (A1 : Option Addr) (c1 : Nat) (l1 : List Int) (r : Bool) (w : World) (hgl : Go.Proofs.YtpanmmpkdbhofaaDoorX.GL w) (hr0 : Kd.C (Kd.int .i64) w A0 l0.length l0) (hc0 : l0.length ≤ c0) (hr1 : Kd.C (Kd.int .i64) w A1 l1.length l1) (hc1 : l1.length ≤ c1) (h : tendrilplain_Ints.f k l0 l1 = some r) :
    Calls Tryd.prog 50 #[.slice A0 l0.length c0, .slice A1 l1.length c1] w fun e w' => e = .returned (.bool r) ∧ Drawn0 w w' := by
  have HR0 := Aside0.mk hr0
  have HC0 := Aside0.mk hc0
  clear hr0 hc0
  have HR1 := Aside0.mk hr1
  have HC1 := Aside0.mk hc1
  clear hr1 hc1
  have HGL := Aside0.mk hgl
  clear hgl
  have H : (if (l0.length : Int) = (l1.length : Int) then (tendrilplain_Ints.l0 k l0 l1 (l0.length : Int) 0) else (some false)) = some r := h
  clear h
  by_cases c3 : (l0.length : Int) = (l1.length : Int)
  · rw [if_pos c3] at H
    have c3b0 : ((l0.length : Int) == (l1.length : Int)) = true := beq_iff_eq.mpr c3
    have c3b1 : ((l0.length : Int) != (l1.length : Int)) = false := bne_eq_false_iff_eq.mpr c3
    have c3b2 : (l0.length == l1.length) = true := by first | simpa using c3 | (simp at c3 ⊢; omega)
    clear c3
    have H' := Aside0.mk H
    clear H
    go_enter Tryd.func50, Tryd.ntmps50
    go_wp2
    repeat (go_quiet (fail); try go_wp2)
    go_loopg [13] k (fun kq v13 w' => ∃ (x13_1 : Int), v13 = .int .i64 x13_1 ∧ Aside0 (tendrilplain_Ints.l0 kq l0 l1 (l0.length : Int) x13_1 = some r) ∧ Aside0 (kq ≤ k) ∧ Drawn0 w w')
    case atStart => exact ⟨(0), (by first | rfl | (simp; done) | (simp [*]; done)), H', ⟨Nat.le_refl _⟩, by repeat (first | exact Drawn0.refl _ | apply Drawn0.step)⟩
    case round =>
      clear H'
      try clear c1
      try clear p2
      try clear c3
      try clear c3b0
      try clear c3b1
      try clear c3b2
      obtain ⟨x13_1, rfl, HA, HK1, ⟨m1, rfl⟩⟩ := hrel
      cases gk with
      | zero => exact absurd HA.out (by simp [tendrilplain_Ints.l0])
      | succ k1 =>
        have H := HA.out
        clear HA
        simp only [tendrilplain_Ints.l0] at H
        by_cases c4 : x13_1 < (l0.length : Int)
        · rw [if_pos c4] at H
          have c4b0 : decide (x13_1 < (l0.length : Int)) = true := decide_eq_true c4
          clear c4
          by_cases c5 : 0 ≤ x13_1
          · rw [if_pos c5] at H
            have c5b0 : decide (0 ≤ x13_1) = true := decide_eq_true c5
            clear c5
            by_cases c6 : x13_1 < (l0.length : Int)
            · rw [if_pos c6] at H
              have c6b0 : decide (x13_1 < (l0.length : Int)) = true := decide_eq_true c6
              clear c6
              by_cases c7 : x13_1 < (l1.length : Int)
              · rw [if_pos c7] at H
                have c7b0 : decide (x13_1 < (l1.length : Int)) = true := decide_eq_true c7
                clear c7
                by_cases c8 : (rd l0 x13_1) = (rd l1 x13_1)
                · rw [if_pos c8] at H
                  have c8b0 : ((rd l0 x13_1) == (rd l1 x13_1)) = true := beq_iff_eq.mpr c8
                  have c8b1 : ((rd l0 x13_1) != (rd l1 x13_1)) = false := bne_eq_false_iff_eq.mpr c8
                  clear c8
                  have H' := Aside0.mk H
                  clear H
                  have p159 : 0 ≤ (x13_1 : Int) := of_decide_eq_true (by first | (with_reducible assumption) | assumption)
                  have q159 : x13_1 < (l0.length : Int) := of_decide_eq_true (by first | (with_reducible assumption) | assumption)
                  obtain ⟨ad159, e159, hx159_0⟩ := Kd.at_int HR0.out x13_1 p159 q159
                  cases e159
                  replace p159 := eq_true p159
                  replace q159 := eq_true q159
                  have p160 : 0 ≤ (x13_1 : Int) := of_decide_eq_true (by first | (with_reducible assumption) | assumption)
                  have q160 : x13_1 < (l1.length : Int) := of_decide_eq_true (by first | (with_reducible assumption) | assumption)
                  obtain ⟨ad160, e160, hx160_0⟩ := Kd.at_int HR1.out x13_1 p160 q160
                  cases e160
                  replace p160 := eq_true p160
                  replace q160 := eq_true q160
                  go_wp2
                  repeat (go_quiet (fail); try go_wp2)
                  go_roundg k1
                  case measure => have := HK1.out; omega
                  case rel => exact ⟨(wrap64 (x13_1 + 1)), (by first | rfl | (simp; done) | (simp [*]; done)), H', ⟨by have := HK1.out; omega⟩, by repeat (first | exact Drawn0.refl _ | apply Drawn0.step)⟩
                · rw [if_neg c8] at H
                  have c8b0 : ((rd l0 x13_1) == (rd l1 x13_1)) = false := beq_eq_false_iff_ne.mpr c8
                  have c8b1 : ((rd l0 x13_1) != (rd l1 x13_1)) = true := bne_iff_ne.mpr c8
                  obtain rfl := Option.some.inj H
                  have p159 : 0 ≤ (x13_1 : Int) := of_decide_eq_true (by first | (with_reducible assumption) | assumption)
                  have q159 : x13_1 < (l0.length : Int) := of_decide_eq_true (by first | (with_reducible assumption) | assumption)
                  obtain ⟨ad159, e159, hx159_0⟩ := Kd.at_int HR0.out x13_1 p159 q159
                  cases e159
                  replace p159 := eq_true p159
                  replace q159 := eq_true q159
                  have p160 : 0 ≤ (x13_1 : Int) := of_decide_eq_true (by first | (with_reducible assumption) | assumption)
                  have q160 : x13_1 < (l1.length : Int) := of_decide_eq_true (by first | (with_reducible assumption) | assumption)
                  obtain ⟨ad160, e160, hx160_0⟩ := Kd.at_int HR1.out x13_1 p160 q160
                  cases e160
                  replace p160 := eq_true p160
                  replace q160 := eq_true q160
                  go_wp2
                  repeat (go_quiet (fail); try go_wp2)
                  go_ret
                  exact ⟨by first | rfl | (simp; done) | (simp [*]; done), by repeat (first | exact Drawn0.refl _ | apply Drawn0.step)⟩
              · rw [if_neg c7] at H
                exact absurd H (by simp)
            · rw [if_neg c6] at H
              exact absurd H (by simp)
          · rw [if_neg c5] at H
            exact absurd H (by simp)
        · rw [if_neg c4] at H
          have c4b0 : decide (x13_1 < (l0.length : Int)) = false := decide_eq_false c4
          clear c4
          obtain rfl := Option.some.inj H
          go_wp2
          repeat (go_quiet (fail); try go_wp2)
          go_ret
          exact ⟨by first | rfl | (simp; done) | (simp [*]; done), by repeat (first | exact Drawn0.refl _ | apply Drawn0.step)⟩
  · rw [if_neg c3] at H
    have c3b0 : ((l0.length : Int) == (l1.length : Int)) = false := beq_eq_false_iff_ne.mpr c3
    have c3b1 : ((l0.length : Int) != (l1.length : Int)) = true := bne_iff_ne.mpr c3
    have c3b2 : (l0.length == l1.length) = false := by first | simpa using c3 | (simp at c3 ⊢; omega)
    obtain rfl := Option.some.inj H
    go_enter Tryd.func50, Tryd.ntmps50
    go_wp2
    repeat (go_quiet (fail); try go_wp2)
    go_ret
    exact ⟨by first | rfl | (simp; done) | (simp [*]; done), by repeat (first | exact Drawn0.refl _ | apply Drawn0.step)⟩

def tendrilref12_Find.l0 : Nat → List (S56) → Int → Int → ByteArray → ByteArray → Int → Option (Int)
  | 0, _, _, _, _, _, _ => none
  | k + 1, x0, x7, x8, x162000, x162001, x162002 => if x8 < x7 then (if 0 ≤ x8 then (if x8 < (x0.length : Int) then (if ((((rd_T56 x0 x8).f0).toList) == x162000.toList && ((((rd_T56 x0 x8).f1).toList) == x162001.toList && (((rd_T56 x0 x8).f2) == x162002))) = true then (some x8) else (tendrilref12_Find.l0 k x0 x7 (wrap64 (x8 + 1)) x162000 x162001 x162002)) else (none)) else (none)) else (some (-1))
def tendrilref12_Find.f (k : Nat) (l0 : List (S56)) (a1_0 : ByteArray) (a1_1 : ByteArray) (a1_2 : Int) : Option (Int) := tendrilref12_Find.l0 k l0 (l0.length : Int) 0 a1_0 a1_1 a1_2
theorem tendrilref12_Find.mono_l : ∀ k, (∀ y0 y1 y2 y3 y4 y5, LeO (tendrilref12_Find.l0 k y0 y1 y2 y3 y4 y5) (tendrilref12_Find.l0 (k + 1) y0 y1 y2 y3 y4 y5))
  | 0 => fun _ _ _ _ _ _ r h => by simp [tendrilref12_Find.l0] at h
  | k + 1 => by
    have ih0 := tendrilref12_Find.mono_l k
    · intro y0 y1 y2 y3 y4 y5
      unfold tendrilref12_Find.l0
      repeat' first
      | (with_reducible exact ih0 _ _ _ _ _ _)
      | (with_reducible exact LeO.refl _)
      | (with_reducible exact LeO.none _)
      | (with_reducible refine LeO.ite ?_ ?_)
      | (with_reducible refine LeO.bind ?_ (fun _ => ?_))
      | exact ih0 _ _ _ _ _ _
      | exact LeO.none _
      | refine LeO.ite ?_ ?_
      | refine LeO.bind ?_ (fun _ => ?_)
theorem tendrilref12_Find.mono : ∀ a0 a1 a2 a3 k, LeO (tendrilref12_Find.f k a0 a1 a2 a3) (tendrilref12_Find.f (k + 1) a0 a1 a2 a3) := by
  intro a0 a1 a2 a3 k
  have ih0 := tendrilref12_Find.mono_l k
  unfold tendrilref12_Find.f
  repeat' first
      | (with_reducible exact ih0 _ _ _ _ _ _)
      | (with_reducible exact LeO.refl _)
      | (with_reducible exact LeO.none _)
      | (with_reducible refine LeO.ite ?_ ?_)
      | (with_reducible refine LeO.bind ?_ (fun _ => ?_))
      | exact ih0 _ _ _ _ _ _
      | exact LeO.none _
      | refine LeO.ite ?_ ?_
      | refine LeO.bind ?_ (fun _ => ?_)
set_option maxHeartbeats 8000000 in
set_option maxRecDepth 100000 in
theorem tendrilref12_Find.calls (k : Nat) (A0 : Option Addr) (c0 : Nat) (l0 : List (S56)) (a1_0 : ByteArray) (a1_1 : ByteArray) (a1_2 : Int) (r : Int) (w : World) (hgl : Go.Proofs.YtpanmmpkdbhofaaDoorX.GL w) (hr0 : Kd.C k56 w A0 l0.length l0) (hc0 : l0.length ≤ c0) (h : tendrilref12_Find.f k l0 a1_0 a1_1 a1_2 = some r) :
    Calls Tryd.prog 45 #[.slice A0 l0.length c0, .agg #[.string a1_0, .string a1_1, .int .i64 a1_2]] w fun e w' => e = .returned (.int .i64 r) ∧ Below w.heap.size w w' := by
  have hu56 := Tryd.underlying56
  have HR0 := Aside0.mk hr0
  have HC0 := Aside0.mk hc0
  clear hr0 hc0
  have HGL := Aside0.mk hgl
  clear hgl
  have HB := Aside0.mk (Below.refl w.heap.size w)
  have H : (tendrilref12_Find.l0 k l0 (l0.length : Int) 0 a1_0 a1_1 a1_2) = some r := h
  clear h
  have H' := Aside0.mk H
  clear H
  go_enter Tryd.func45, Tryd.ntmps45
  go_wp2_with (first | ((with_reducible refine gate_dst (N := 3) rfl ?_); refine box_event ?hg (N := 3) ?hd (cs := #[.string a1_0, .string a1_1, .int .i64 a1_2]) (t := 56) ?hr ?_; (case hd => rfl); (case hg => rfl); (case hr => first | (go_simp; done) | (go_simp; rfl)); intro gb161 hg w3 hbox hb; have n0_ := Aside0.mk (below_step (by repeat (first | (with_reducible first | exact HB.out | apply below_alloc | apply pw_below_drewN | apply below_drew1) | exact HB.out)) hb); have n1_ := Aside0.mk (hbox); have n2_ := Aside0.mk ((by rw [hg]; exact (below_size (by repeat (first | (with_reducible first | exact HB.out | apply below_alloc | apply pw_below_drewN | apply below_drew1) | exact HB.out))) : w.heap.size ≤ gb161)); have n3_ := Aside0.mk ((by rw [hg]; exact (below_size (by repeat (first | (with_reducible first | exact HB.out | apply below_alloc | apply pw_below_drewN | apply below_drew1) | exact HB.out))) : w.heap.size ≤ gb161)); clear HB; have HB := n0_; have BK161 := n1_; have GW161 := n2_; have GE161 := n3_; clear n0_ n1_ n2_ n3_; clear hb hbox hg))
  repeat (go_quiet (first | ((with_reducible refine gate_dst (N := 3) rfl ?_); refine box_event ?hg (N := 3) ?hd (cs := #[.string a1_0, .string a1_1, .int .i64 a1_2]) (t := 56) ?hr ?_; (case hd => rfl); (case hg => rfl); (case hr => first | (go_simp; done) | (go_simp; rfl)); intro gb161 hg w3 hbox hb; have n0_ := Aside0.mk (below_step (by repeat (first | (with_reducible first | exact HB.out | apply below_alloc | apply pw_below_drewN | apply below_drew1) | exact HB.out)) hb); have n1_ := Aside0.mk (hbox); have n2_ := Aside0.mk ((by rw [hg]; exact (below_size (by repeat (first | (with_reducible first | exact HB.out | apply below_alloc | apply pw_below_drewN | apply below_drew1) | exact HB.out))) : w.heap.size ≤ gb161)); have n3_ := Aside0.mk ((by rw [hg]; exact (below_size (by repeat (first | (with_reducible first | exact HB.out | apply below_alloc | apply pw_below_drewN | apply below_drew1) | exact HB.out))) : w.heap.size ≤ gb161)); clear HB; have HB := n0_; have BK161 := n1_; have GW161 := n2_; have GE161 := n3_; clear n0_ n1_ n2_ n3_; clear hb hbox hg)); try go_wp2_with (first | ((with_reducible refine gate_dst (N := 3) rfl ?_); refine box_event ?hg (N := 3) ?hd (cs := #[.string a1_0, .string a1_1, .int .i64 a1_2]) (t := 56) ?hr ?_; (case hd => rfl); (case hg => rfl); (case hr => first | (go_simp; done) | (go_simp; rfl)); intro gb161 hg w3 hbox hb; have n0_ := Aside0.mk (below_step (by repeat (first | (with_reducible first | exact HB.out | apply below_alloc | apply pw_below_drewN | apply below_drew1) | exact HB.out)) hb); have n1_ := Aside0.mk (hbox); have n2_ := Aside0.mk ((by rw [hg]; exact (below_size (by repeat (first | (with_reducible first | exact HB.out | apply below_alloc | apply pw_below_drewN | apply below_drew1) | exact HB.out))) : w.heap.size ≤ gb161)); have n3_ := Aside0.mk ((by rw [hg]; exact (below_size (by repeat (first | (with_reducible first | exact HB.out | apply below_alloc | apply pw_below_drewN | apply below_drew1) | exact HB.out))) : w.heap.size ≤ gb161)); clear HB; have HB := n0_; have BK161 := n1_; have GW161 := n2_; have GE161 := n3_; clear n0_ n1_ n2_ n3_; clear hb hbox hg)))
  go_loopg [8] k (fun kq v8 w' => ∃ (x8_1 : Int), v8 = .int .i64 x8_1 ∧ Aside0 (tendrilref12_Find.l0 kq l0 (l0.length : Int) x8_1 a1_0 a1_1 a1_2 = some r) ∧ Aside0 (kq ≤ k) ∧ Aside0 (w'.heap[gb161]? = some (.cells #[.string a1_0, .string a1_1, .int .i64 a1_2] 56 (0, 0))) ∧ Aside0 (Below w.heap.size w w'))
  case atStart => exact ⟨(0), (by first | rfl | (simp; done) | (simp [*]; done)), H', ⟨Nat.le_refl _⟩, ⟨by (with_reducible repeat (first | refine blk_drewN ?_ _ | refine blk_drew ?_ | refine blk_alloc ?_ _)); exact BK161.out⟩, ⟨by repeat (first | (with_reducible first | exact HB.out | apply below_alloc | apply pw_below_drewN | apply below_drew1 | refine below_set ?_ GE161.out) | exact HB.out)⟩⟩
  case round =>
    clear H'
    try clear p2
    obtain ⟨x8_1, rfl, HA, HK1, BK161, HB⟩ := hrel
    cases gk with
    | zero => exact absurd HA.out (by simp [tendrilref12_Find.l0])
    | succ k1 =>
      have H := HA.out
      clear HA
      simp only [tendrilref12_Find.l0] at H
      by_cases c4 : x8_1 < (l0.length : Int)
      · rw [if_pos c4] at H
        have c4b0 : decide (x8_1 < (l0.length : Int)) = true := decide_eq_true c4
        clear c4
        by_cases c5 : 0 ≤ x8_1
        · rw [if_pos c5] at H
          have c5b0 : decide (0 ≤ x8_1) = true := decide_eq_true c5
          clear c5
          by_cases c6 : x8_1 < (l0.length : Int)
          · rw [if_pos c6] at H
            have c6b0 : decide (x8_1 < (l0.length : Int)) = true := decide_eq_true c6
            clear c6
            by_cases c7 : ((((rd_T56 l0 x8_1).f0).toList) == a1_0.toList && ((((rd_T56 l0 x8_1).f1).toList) == a1_1.toList && (((rd_T56 l0 x8_1).f2) == a1_2))) = true
            · rw [if_pos c7] at H
              have c7b0 : ((((rd_T56 l0 x8_1).f0).toList) == a1_0.toList && ((((rd_T56 l0 x8_1).f1).toList) == a1_1.toList && (((rd_T56 l0 x8_1).f2) == a1_2))) = true := c7
              (try (have c7b1 : decide ((((rd_T56 l0 x8_1).f0).toList) = a1_0.toList && ((((rd_T56 l0 x8_1).f1).toList) == a1_1.toList && (((rd_T56 l0 x8_1).f2) == a1_2))) = true := by simpa using c7))
              (try (have c7b2 : ((((rd_T56 l0 x8_1).f0).toList) == a1_0.toList && ((((rd_T56 l0 x8_1).f1).toList) == a1_1.toList && (((rd_T56 l0 x8_1).f2) == a1_2))) = true := by simpa using c7))
              clear c7
              obtain rfl := Option.some.inj H
              have p162 : 0 ≤ (x8_1 : Int) := of_decide_eq_true (by first | (with_reducible assumption) | assumption)
              have q162 : x8_1 < (l0.length : Int) := of_decide_eq_true (by first | (with_reducible assumption) | assumption)
              obtain ⟨ad162, e162, hx162_0, hx162_1, hx162_2⟩ := at_T56 HR0.out x8_1 p162 q162
              cases e162
              replace hx162_0 := (HB.out.cell (World.block_lt_of_cell? w _ hx162_0)).trans hx162_0
              replace hx162_1 := (HB.out.cell (World.block_lt_of_cell? w _ hx162_1)).trans hx162_1
              replace hx162_2 := (HB.out.cell (World.block_lt_of_cell? w _ hx162_2)).trans hx162_2
              replace p162 := eq_true p162
              replace q162 := eq_true q162
              have hcz8_0 : wr.cell? ⟨gb161, 0, none⟩ = some (.string a1_0) := (blk_cell BK161.out 0).trans rfl
              have hcz8_1 : wr.cell? ⟨gb161, 1, none⟩ = some (.string a1_1) := (blk_cell BK161.out 1).trans rfl
              have hcz8_2 : wr.cell? ⟨gb161, 2, none⟩ = some (.int .i64 a1_2) := (blk_cell BK161.out 2).trans rfl
              have hfz8_0 := blk_frozen BK161.out 0
              have hfz8_1 := blk_frozen BK161.out 1
              have hfz8_2 := blk_frozen BK161.out 2
              go_wp2
              repeat (go_quiet (fail); try go_wp2)
              go_ret
              exact ⟨by first | rfl | (simp [errW_none, errW_some] <;> rfl) | (simp [*, errW_none, errW_some] <;> rfl), by repeat (first | (with_reducible first | exact HB.out | apply below_alloc | apply pw_below_drewN | apply below_drew1 | refine below_set ?_ GE161.out) | exact HB.out)⟩
            · rw [if_neg c7] at H
              have c7b0 : ((((rd_T56 l0 x8_1).f0).toList) == a1_0.toList && ((((rd_T56 l0 x8_1).f1).toList) == a1_1.toList && (((rd_T56 l0 x8_1).f2) == a1_2))) = false := by simpa using c7
              (try (have c7b1 : decide ((((rd_T56 l0 x8_1).f0).toList) = a1_0.toList && ((((rd_T56 l0 x8_1).f1).toList) == a1_1.toList && (((rd_T56 l0 x8_1).f2) == a1_2))) = false := by simpa using c7))
              (try (have c7b2 : ((((rd_T56 l0 x8_1).f0).toList) == a1_0.toList && ((((rd_T56 l0 x8_1).f1).toList) == a1_1.toList && (((rd_T56 l0 x8_1).f2) == a1_2))) = false := by simpa using c7))
              (try (have c7b3 : ¬ ((((rd_T56 l0 x8_1).f0).toList) = a1_0.toList && ((((rd_T56 l0 x8_1).f1).toList) == a1_1.toList && (((rd_T56 l0 x8_1).f2) == a1_2))) := by simpa using c7))
              clear c7
              have H' := Aside0.mk H
              clear H
              have p162 : 0 ≤ (x8_1 : Int) := of_decide_eq_true (by first | (with_reducible assumption) | assumption)
              have q162 : x8_1 < (l0.length : Int) := of_decide_eq_true (by first | (with_reducible assumption) | assumption)
              obtain ⟨ad162, e162, hx162_0, hx162_1, hx162_2⟩ := at_T56 HR0.out x8_1 p162 q162
              cases e162
              replace hx162_0 := (HB.out.cell (World.block_lt_of_cell? w _ hx162_0)).trans hx162_0
              replace hx162_1 := (HB.out.cell (World.block_lt_of_cell? w _ hx162_1)).trans hx162_1
              replace hx162_2 := (HB.out.cell (World.block_lt_of_cell? w _ hx162_2)).trans hx162_2
              replace p162 := eq_true p162
              replace q162 := eq_true q162
              have hcz9_0 : wr.cell? ⟨gb161, 0, none⟩ = some (.string a1_0) := (blk_cell BK161.out 0).trans rfl
              have hcz9_1 : wr.cell? ⟨gb161, 1, none⟩ = some (.string a1_1) := (blk_cell BK161.out 1).trans rfl
              have hcz9_2 : wr.cell? ⟨gb161, 2, none⟩ = some (.int .i64 a1_2) := (blk_cell BK161.out 2).trans rfl
              have hfz9_0 := blk_frozen BK161.out 0
              have hfz9_1 := blk_frozen BK161.out 1
              have hfz9_2 := blk_frozen BK161.out 2
              go_wp2
              repeat (go_quiet (fail); try go_wp2)
              go_roundg k1
              case measure => have := HK1.out; omega
              case rel => exact ⟨(wrap64 (x8_1 + 1)), (by first | rfl | (simp; done) | (simp [*]; done)), H', ⟨by have := HK1.out; omega⟩, ⟨by (with_reducible repeat (first | refine blk_drewN ?_ _ | refine blk_drew ?_ | refine blk_alloc ?_ _)); exact BK161.out⟩, ⟨by repeat (first | (with_reducible first | exact HB.out | apply below_alloc | apply pw_below_drewN | apply below_drew1 | refine below_set ?_ GE161.out) | exact HB.out)⟩⟩
          · rw [if_neg c6] at H
            exact absurd H (by simp)
        · rw [if_neg c5] at H
          exact absurd H (by simp)
      · rw [if_neg c4] at H
        have c4b0 : decide (x8_1 < (l0.length : Int)) = false := decide_eq_false c4
        clear c4
        obtain rfl := Option.some.inj H
        go_wp2
        repeat (go_quiet (fail); try go_wp2)
        go_ret
        exact ⟨by first | rfl | (simp [errW_none, errW_some] <;> rfl) | (simp [*, errW_none, errW_some] <;> rfl), by repeat (first | (with_reducible first | exact HB.out | apply below_alloc | apply pw_below_drewN | apply below_drew1 | refine below_set ?_ GE161.out) | exact HB.out)⟩

end Go.Proofs.YtpanmmpkdbhofaaDoor.P12r

namespace Go.Proofs.YtpanmmpkdbhofaaDoor.P12r
open Go.RowKit Go.Proofs.YtpanmmpkdbhofaaDoorE Go.Proofs.YtpanmmpkdbhofaaDoorW.PrintWords Go.Proofs.YtpanmmpkdbhofaaDoorW.PrintLast Go.Proofs.YtpanmmpkdbhofaaDoorW.PrintMore
attribute [local go_sem] max2_int min2_int max_two min_two max_three min_three max_four min_four   -- for this text's walks alone
set_option linter.unusedVariables false
set_option linter.unusedSimpArgs false

attribute [local go_sem high] eqA56

def tendrilref12_Kept.l0 : Nat → List (S56) → List (S56) → List Int → Int → Int → Option (List Int)
  | 0, _, _, _, _, _ => none
  | k + 1, x0, x1, x5, x8, x9 => if x9 < x8 then (if 0 ≤ x9 then (if x9 < (x1.length : Int) then ((tendrilref12_Find.f k x0 ((rd_T56 x1 x9).f0) ((rd_T56 x1 x9).f1) ((rd_T56 x1 x9).f2)).bind fun t164 => (if x5.length < 17592186044416 then (tendrilref12_Kept.l0 k x0 x1 (x5 ++ [t164]) x8 (wrap64 (x9 + 1))) else (none))) else (none)) else (none)) else (some x5)
def tendrilref12_Kept.f (k : Nat) (l0 : List (S56)) (l1 : List (S56)) : Option (List Int) := tendrilref12_Kept.l0 k l0 l1 ([] : List Int) (l1.length : Int) 0
theorem tendrilref12_Kept.mono_l : ∀ k, (∀ y0 y1 y2 y3 y4, LeO (tendrilref12_Kept.l0 k y0 y1 y2 y3 y4) (tendrilref12_Kept.l0 (k + 1) y0 y1 y2 y3 y4))
  | 0 => fun _ _ _ _ _ r h => by simp [tendrilref12_Kept.l0] at h
  | k + 1 => by
    have ih0 := tendrilref12_Kept.mono_l k
    · intro y0 y1 y2 y3 y4
      unfold tendrilref12_Kept.l0
      repeat' first
      | (with_reducible exact ih0 _ _ _ _ _)
      | (with_reducible exact tendrilref12_Find.mono _ _ _ _ _)
      | (with_reducible exact LeO.refl _)
      | (with_reducible exact LeO.none _)
      | (with_reducible refine LeO.ite ?_ ?_)
      | (with_reducible refine LeO.bind ?_ (fun _ => ?_))
      | exact ih0 _ _ _ _ _
      | exact tendrilref12_Find.mono _ _ _ _ _
      | exact LeO.none _
      | refine LeO.ite ?_ ?_
      | refine LeO.bind ?_ (fun _ => ?_)
theorem tendrilref12_Kept.mono : ∀ a0 a1 k, LeO (tendrilref12_Kept.f k a0 a1) (tendrilref12_Kept.f (k + 1) a0 a1) := by
  intro a0 a1 k
  have ih0 := tendrilref12_Kept.mono_l k
  unfold tendrilref12_Kept.f
  repeat' first
      | (with_reducible exact ih0 _ _ _ _ _)
      | (with_reducible exact tendrilref12_Find.mono _ _ _ _ _)
      | (with_reducible exact LeO.refl _)
      | (with_reducible exact LeO.none _)
      | (with_reducible refine LeO.ite ?_ ?_)
      | (with_reducible refine LeO.bind ?_ (fun _ => ?_))
      | exact ih0 _ _ _ _ _
      | exact tendrilref12_Find.mono _ _ _ _ _
      | exact LeO.none _
      | refine LeO.ite ?_ ?_
      | refine LeO.bind ?_ (fun _ => ?_)
set_option maxHeartbeats 8000000 in
set_option maxRecDepth 100000 in
theorem tendrilref12_Kept.calls (k : Nat) (A0 : Option Addr) (c0 : Nat) (l0 : List (S56)) (A1 : Option Addr) (c1 : Nat) (l1 : List (S56)) (r : List Int) (w : World) (hgl : Go.Proofs.YtpanmmpkdbhofaaDoorX.GL w) (hr0 : Kd.C k56 w A0 l0.length l0) (hc0 : l0.length ≤ c0) (hr1 : Kd.C k56 w A1 l1.length l1) (hc1 : l1.length ≤ c1) (h : tendrilref12_Kept.f k l0 l1 = some r) :
    Calls Tryd.prog 51 #[.slice A0 l0.length c0, .slice A1 l1.length c1] w fun e w' => ∃ v0_ : Value, e = .returned (v0_) ∧ Kd.R (Kd.int .i64) 3 w' w.heap.size (fun _ => True) v0_ r ∧ Below w.heap.size w w' := by
  have hu56 := Tryd.underlying56
  have HR0 := Aside0.mk hr0
  have HC0 := Aside0.mk hc0
  clear hr0 hc0
  have HR1 := Aside0.mk hr1
  have HC1 := Aside0.mk hc1
  clear hr1 hc1
  have HGL := Aside0.mk hgl
  clear hgl
  have HB := Aside0.mk (Below.refl w.heap.size w)
  have H : (tendrilref12_Kept.l0 k l0 l1 ([] : List Int) (l1.length : Int) 0) = some r := h
  clear h
  have H' := Aside0.mk H
  clear H
  go_enter Tryd.func51, Tryd.ntmps51
  go_wp2
  go_loopg [5, 9] k (fun kq v5 v9 w' => ∃ (x5_1 : List Int) (x9_1 : Int), v9 = .int .i64 x9_1 ∧ Aside0 (tendrilref12_Kept.l0 kq l0 l1 x5_1 (l1.length : Int) x9_1 = some r) ∧ Aside0 (kq ≤ k) ∧ Aside0 (Kd.R (Kd.int .i64) 3 w' w.heap.size (fun _ => True) v5 x5_1) ∧ Aside0 (Below w.heap.size w w'))
  case atStart => exact ⟨(([] : List Int)), (0), (by first | rfl | (simp; done) | (simp [*]; done)), H', ⟨Nat.le_refl _⟩, ⟨by first | exact Kd.R_nil _ _ _ _ _ | exact Kd.N_nil _ _ _ _ _ | exact Kd.V_nil _ _ _ _ _ | exact Kd.Q_nil _ _ _ _ _ | exact Kd.S_nil _ _ _ _ _⟩, ⟨by repeat (first | (with_reducible first | exact HB.out | apply below_alloc | apply pw_below_drewN | apply below_drew1) | exact HB.out)⟩⟩
  case round =>
    clear H'
    try clear c1
    try clear p2
    obtain ⟨x5_1, x9_1, rfl, HA, HK1, HO_5, HB⟩ := hrel
    cases gk with
    | zero => exact absurd HA.out (by simp [tendrilref12_Kept.l0])
    | succ k1 =>
      have H := HA.out
      clear HA
      simp only [tendrilref12_Kept.l0] at H
      by_cases c3 : x9_1 < (l1.length : Int)
      · rw [if_pos c3] at H
        have c3b0 : decide (x9_1 < (l1.length : Int)) = true := decide_eq_true c3
        clear c3
        by_cases c4 : 0 ≤ x9_1
        · rw [if_pos c4] at H
          have c4b0 : decide (0 ≤ x9_1) = true := decide_eq_true c4
          clear c4
          by_cases c5 : x9_1 < (l1.length : Int)
          · rw [if_pos c5] at H
            have c5b0 : decide (x9_1 < (l1.length : Int)) = true := decide_eq_true c5
            clear c5
            replace H := Option.bind_eq_some_iff.mp H
            obtain ⟨t164, A60, H⟩ := H
            replace H : (if x5_1.length < 17592186044416 then (tendrilref12_Kept.l0 k1 l0 l1 (x5_1 ++ [t164]) (l1.length : Int) (wrap64 (x9_1 + 1))) else (none)) = some r := H
            have A6 := Aside0.mk A60
            clear A60
            by_cases c7 : x5_1.length < 17592186044416
            · rw [if_pos c7] at H
              have LMc7 := Aside0.mk c7
              clear c7
              obtain ⟨y165, hy165⟩ : ∃ y_ : List Int, y_ = (x5_1 ++ [t164]) := ⟨_, rfl⟩
              replace H : (tendrilref12_Kept.l0 k1 l0 l1 y165 (l1.length : Int) (wrap64 (x9_1 + 1))) = some r := by first | (rw [hy165]; with_reducible exact H) | (have H2_ := (Option.bind_some _ _).symm.trans H; rw [hy165]; with_reducible exact H2_) | (have H2_ := (Option.bind_some _ _).symm.trans H; with_reducible exact H2_) | with_reducible exact H | (rw [hy165]; exact H) | exact H
              have Ny165 := Aside0.mk hy165
              clear hy165
              have H' := Aside0.mk H
              clear H
              have p163 : 0 ≤ (x9_1 : Int) := of_decide_eq_true (by first | (with_reducible assumption) | assumption)
              have q163 : x9_1 < (l1.length : Int) := of_decide_eq_true (by first | (with_reducible assumption) | assumption)
              obtain ⟨ad163, e163, hx163_0, hx163_1, hx163_2⟩ := at_T56 HR1.out x9_1 p163 q163
              cases e163
              replace hx163_0 := (HB.out.cell (World.block_lt_of_cell? w _ hx163_0)).trans hx163_0
              replace hx163_1 := (HB.out.cell (World.block_lt_of_cell? w _ hx163_1)).trans hx163_1
              replace hx163_2 := (HB.out.cell (World.block_lt_of_cell? w _ hx163_2)).trans hx163_2
              replace p163 := eq_true p163
              replace q163 := eq_true q163
              go_wp2_with (first | ((with_reducible refine gate_callee (f := 45) rfl ?_); refine goesL_ (some 18) rfl rfl Tryd.func45 (by kernel_rfl) rfl #[.slice A0 l0.length c0, .agg #[.string ((rd_T56 l1 x9_1).f0), .string ((rd_T56 l1 x9_1).f1), .int .i64 ((rd_T56 l1 x9_1).f2)]] rfl (by (try simp only [List.map_toArray, List.map_cons, List.map_nil]); first | done | rfl | (simp only [List.length_drop, List.length_take]; rfl)) ?_; (with_reducible refine (tendrilref12_Find.calls k1 _ _ l0 ((rd_T56 l1 x9_1).f0) ((rd_T56 l1 x9_1).f1) ((rd_T56 l1 x9_1).f2) t164 _ ?side1 ?side2 ?side3 A6.out).mono ?_); (case side1 => first | exact HGL.out | exact (Go.Proofs.YtpanmmpkdbhofaaDoorX.GL.below HGL.out (by repeat (first | (with_reducible first | exact HB.out | apply below_alloc | apply pw_below_drewN | apply below_drew1) | exact HB.out))) | (repeat (first | exact HGL.out | (with_reducible refine Go.Proofs.YtpanmmpkdbhofaaDoorX.GL.drewN ?_ _) | (with_reducible refine Go.Proofs.YtpanmmpkdbhofaaDoorX.GL.drew ?_)))); (case side2 => repeat (first | exact (Kd.C_below HR0.out HB.out) | (with_reducible refine Kd.C_alloc ?_ _) | (with_reducible refine Kd.C_drewN ?_ _) | (with_reducible refine Kd.C_drew ?_))); (case side3 => exact HC0.out); rintro e w8 ⟨rfl, hb⟩; refine ⟨_, rfl, ?_⟩; have n0_ := Aside0.mk (Kd.R_below (by (with_reducible repeat (first | apply Kd.R_alloc | apply Kd.R_drewN | apply Kd.R_drew)); exact HO_5.out) hb); have n1_ := Aside0.mk (below_step (by repeat (first | (with_reducible first | exact HB.out | apply below_alloc | apply pw_below_drewN | apply below_drew1) | exact HB.out)) hb); clear HO_5; clear HB; have HO_5 := n0_; have HB := n1_; clear n0_ n1_; (try clear hb); (try clear hb2); (try clear hk); (try clear hi)) | ((with_reducible refine gate_builtin (b := .append) (xs := #[.tmp 12, .tmp 19]) rfl ?_); at_builtin; refine Kd.R_append (Kd.int .i64) (w0 := w) w.heap.size rfl (.tmp 12) (.tmp 19) 66 3 (.int .i64 0) 8 rfl Tryd.underlying66 info3 rfl (by decide) (by omega) u5 x5_1 t164 [.int .i64 t164] (fun _ => True) (fun _ => False) rfl rfl ?aP (fun _ hk => hk.elim) ?aF ?aO ?aB ?aS ?aL ?_; (case aP => exact rfl); (case aB => exact (by repeat (first | (with_reducible first | exact HB.out | apply below_alloc | apply pw_below_drewN | apply below_drew1) | exact HB.out))); (case aF => exact (fun _ _ => trivial)); (case aO => exact (by (with_reducible repeat (first | apply Kd.R_alloc | apply Kd.R_drewN | apply Kd.R_drew)); exact HO_5.out)); (case aS => exact (below_size (by repeat (first | (with_reducible first | exact HB.out | apply below_alloc | apply pw_below_drewN | apply below_drew1) | exact HB.out)))); (case aL => have := LMc7.out; omega); intro v166 w9 ho hb hg hat; rw [← Ny165.out] at ho; have n0_ := Aside0.mk (hb); have n1_ := Aside0.mk (ho); clear HB; clear HO_5; have HB := n0_; have HO167 := n1_; clear n0_ n1_; clear ho hb hg hat))
              go_roundg k1
              case measure => have := HK1.out; omega
              case rel => exact ⟨(y165), (wrap64 (x9_1 + 1)), (by first | rfl | (simp; done) | (simp [*]; done)), H', ⟨by have := HK1.out; omega⟩, ⟨by (with_reducible repeat (first | apply Kd.R_alloc | apply Kd.R_drewN | apply Kd.R_drew)); exact HO167.out⟩, ⟨by repeat (first | (with_reducible first | exact HB.out | apply below_alloc | apply pw_below_drewN | apply below_drew1) | exact HB.out)⟩⟩
            · rw [if_neg c7] at H
              exact absurd H (by simp)
          · rw [if_neg c5] at H
            exact absurd H (by simp)
        · rw [if_neg c4] at H
          exact absurd H (by simp)
      · rw [if_neg c3] at H
        have c3b0 : decide (x9_1 < (l1.length : Int)) = false := decide_eq_false c3
        clear c3
        obtain rfl := Option.some.inj H
        go_wp2
        go_ret
        exact ⟨_, by first | rfl | (simp [errW_none, errW_some] <;> rfl) | (simp [*, errW_none, errW_some] <;> rfl), by (with_reducible repeat (first | apply Kd.R_alloc | apply Kd.R_drewN | apply Kd.R_drew)); exact HO_5.out, by repeat (first | (with_reducible first | exact HB.out | apply below_alloc | apply pw_below_drewN | apply below_drew1) | exact HB.out)⟩

end Go.Proofs.YtpanmmpkdbhofaaDoor.P12r

namespace Go.Proofs.YtpanmmpkdbhofaaDoor.M02
open Go Go.RowKit Go.Proofs.YtpanmmpkdbhofaaDoor.P12r Go.Proofs.YtpanmmpkdbhofaaDoorE Go.Proofs.YtpanmmpkdbhofaaDoorW.PrintWords Go.Proofs.YtpanmmpkdbhofaaDoorW.PrintLast Go.Proofs.YtpanmmpkdbhofaaDoorW.PrintMore

theorem w64 {n : Int} (h0 : -9223372036854775808 ≤ n) (h1 : n ≤ 9223372036854775807) : wrap64 n = n := by unfold wrap64; omega
/-- A string's bytes. -/
abbrev B (s : ByteArray) : List UInt8 := s.data.toList
theorem toList_B (s : ByteArray) : s.toList = B s := ByteArray.toList_eq s
theorem B_inj {s t : ByteArray} (h : B s = B t) : s = t := by
  cases s; cases t; congr 1; exact Array.toList_inj.1 h

end Go.Proofs.YtpanmmpkdbhofaaDoor.M02

namespace Go.Proofs.YtpanmmpkdbhofaaDoorE
open Go Go.RowKit Go.ChangeShapes Go.WideShapes Go.Proofs.YtpanmmpkdbhofaaDoorW.PrintWords
set_option linter.unusedVariables false
set_option linter.unusedSimpArgs false
namespace Op
/-- The weights of a piece of data are in reach. -/
def Sz {H : Type} (P : Program) (t : TypeId) (d : DataW H) : Prop := ∀ n ∈ d.weights P t, n ≤ 140737488351232
def SzEach {H : Type} (P : Program) (ts : List TypeId) (ds : List (DataW H)) : Prop := ∀ n ∈ DataW.weightsEach P ts ds, n ≤ 140737488351232
/-- What reads at type t with so much fuel is a value of kind d, of which ok holds. -/
def At {α : Type} (P : Program) (fuel : Nat) (t : TypeId) (d : Kd α) (ok : α → Prop) : Prop :=
  ∀ {H : Type} (enc : TypeId × Value → H) (w : World) (base : Nat) (spare : Nat → Bool) (held : Bool) (cs : List Value) (x : DataW H × List MemPlace), DataW.trod enc P w base spare held fuel t cs = some x → Sz P t x.1 → ∃ a, d.K w a cs ∧ ok a
/-- Fields one behind the other. -/
def Fields {β : Type} (P : Program) (fuel : Nat) (ts : List TypeId) (d : Kd β) (ok : β → Prop) : Prop :=
  ∀ {H : Type} (enc : TypeId × Value → H) (w : World) (base : Nat) (spare : Nat → Bool) (held : Bool) (cs : List Value) (xs : List (DataW H × List MemPlace)), cs.length = (ts.map P.cellsOf).sum → xs.length = ts.length →
    (∀ (i : Nat) (t : TypeId), ts[i]? = some t → DataW.trod enc P w base spare held fuel t ((cs.drop ((ts.take i).map P.cellsOf).sum).take (P.cellsOf t)) = xs[i]?) → SzEach P ts (xs.map (·.1)) → ∃ a, d.K w a cs ∧ ok a
theorem string {P : Program} {fuel : Nat} {t : TypeId} (hu : P.underlying t = some .string) : At P fuel t Kd.string (fun s => s.size ≤ 140737488351232) := by
  intro H enc w base spare held cs x h hs
  obtain ⟨s, h1, rfl, -⟩ : ∃ s : ByteArray, x = (.lit (.string s.data.toList), []) ∧ cs = [.string s] ∧ True := by
    cases fuel with
    | zero => simp [DataW.trod] at h
    | succ n =>
      unfold DataW.trod at h
      rw [hu] at h
      split at h <;> simp_all
  subst h1
  refine ⟨s, rfl, ?_⟩
  have := hs s.data.toList.length (by simp [DataW.weights])
  rw [Array.length_toList] at this
  exact this
theorem int {P : Program} {fuel : Nat} {t : TypeId} {k : IntKind} (hu : P.underlying t = some (.int k)) : At P fuel t (Kd.int k) (fun a => (Lit.int k a).wf = true) := by
  intro H enc w base spare held cs x h hs
  obtain ⟨a, rfl, h1⟩ : ∃ a : Int, cs = [.int k a] ∧ (Lit.int k a).wf = true := by
    cases fuel with
    | zero => simp [DataW.trod] at h
    | succ n =>
      unfold DataW.trod at h
      rw [hu] at h
      split at h <;> simp_all
  exact ⟨a, rfl, h1⟩
theorem zero {α : Type} {P : Program} {t : TypeId} {d : Kd α} {ok : α → Prop} : At P 0 t d ok := by
  intro H enc w base spare held cs x h hs
  simp [DataW.trod] at h
theorem one {α : Type} {P : Program} {fuel : Nat} {t : TypeId} {d : Kd α} {ok : α → Prop} (h : At P fuel t d ok) : Fields P fuel [t] d ok := by
  intro H enc w base spare held cs xs hl hx hr hs
  have h0 := hr 0 t rfl
  simp only [List.map_cons, List.map_nil, List.sum_cons, List.sum_nil, Nat.add_zero] at hl
  simp only [List.take_zero, List.map_nil, List.sum_nil, List.drop_zero] at h0
  rw [← hl, List.take_length] at h0
  cases xs with
  | nil => simp at hx
  | cons x xs =>
    refine h enc w base spare held cs x (by rw [h0]; rfl) (fun n hn => hs n ?_)
    simp [DataW.weightsEach]
    exact hn
theorem cons {α β : Type} {P : Program} {fuel : Nat} {t : TypeId} {ts : List TypeId} {d : Kd α} {ok : α → Prop} {d' : Kd β} {ok' : β → Prop} (h : At P fuel t d ok) (h' : Fields P fuel ts d' ok') :
    Fields P fuel (t :: ts) (Kd.pair d d') (fun x => ok x.1 ∧ ok' x.2) := by
  intro H enc w base spare held cs xs hl hx hr hs
  have h0 := hr 0 t rfl
  simp only [List.map_cons, List.sum_cons] at hl
  simp only [List.take_zero, List.map_nil, List.sum_nil, List.drop_zero] at h0
  cases xs with
  | nil => simp at hx
  | cons x xs =>
    obtain ⟨a, ha, oa⟩ := h enc w base spare held (cs.take (P.cellsOf t)) x (by rw [h0]; rfl) (fun n hn => hs n (by simp [DataW.weightsEach]; exact Or.inl hn))
    obtain ⟨b, hb, ob⟩ := h' enc w base spare held (cs.drop (P.cellsOf t)) xs (by rw [List.length_drop]; omega) (by simpa using hx) (fun i t' ht => by
      have := hr (i + 1) t' (by simpa using ht)
      rw [List.take_succ_cons, List.map_cons, List.sum_cons, ← List.drop_drop] at this
      rw [this]
      rfl) (fun n hn => hs n (by simp [DataW.weightsEach]; exact Or.inr hn))
    exact ⟨(a, b), ⟨_, _, (List.take_append_drop _ _).symm, ha, hb⟩, oa, ob⟩
theorem iso {α β : Type} {P : Program} {fuel : Nat} {ts : List TypeId} {d : Kd α} {ok : α → Prop} (f : β → α) (g : α → β) (hg : ∀ a, f (g a) = a) (h : Fields P fuel ts d ok) : Fields P fuel ts (Kd.iso d f) (fun b => ok (f b)) := by
  intro H enc w base spare held cs xs hl hx hr hs
  obtain ⟨a, ha, oa⟩ := h enc w base spare held cs xs hl hx hr hs
  exact ⟨g a, show d.K w (f (g a)) cs by rw [hg]; exact ha, show ok (f (g a)) by rw [hg]; exact oa⟩
theorem struct {β : Type} {P : Program} {fuel : Nat} {t : TypeId} {fs : Array Field} {d : Kd β} {ok : β → Prop} (hu : P.underlying t = some (.struct fs)) (hc : P.cellsOf t = ((fs.toList.map (·.type)).map P.cellsOf).sum)
    (ho : ∀ i : Nat, ∀ f, fs[i]? = some f → f.offset = (((fs.toList.map (·.type)).take i).map P.cellsOf).sum) (h : Fields P fuel (fs.toList.map (·.type)) d ok) : At P (fuel + 1) t d ok := by
  intro H enc w base spare held cs x hr hs
  obtain ⟨xs, n, hn, rfl, hl, hx, hf⟩ := DataW.trod_struct hu hr
  obtain rfl : fuel = n := by omega
  refine h enc w base spare held cs xs (by rw [hl, hc]) (by rw [hx, List.length_map, Array.length_toList]) (fun i t' ht => ?_) (fun n hn => hs n ?_)
  · rw [List.getElem?_map] at ht
    obtain ⟨f, hf1, rfl⟩ := Option.map_eq_some_iff.1 ht
    rw [Array.getElem?_toList] at hf1
    rw [← hf i f hf1, ho i f hf1]
  · show n ∈ DataW.weights P t (.agg (xs.map (·.1)))
    unfold DataW.weights
    simp only [hu]
    exact hn
theorem weightsAll_mem {H : Type} {P : Program} {e : TypeId} : ∀ {l : List (DataW H)} {d : DataW H}, d ∈ l → ∀ n ∈ d.weights P e, n ∈ DataW.weightsAll P e l
  | _ :: _, _, hd, n, hn => by
    rcases List.mem_cons.1 hd with rfl | hd
    · simp [DataW.weightsAll]; exact Or.inl hn
    · simp [DataW.weightsAll]; exact Or.inr (weightsAll_mem hd n hn)
theorem slice {α : Type} {P : Program} {fuel : Nat} {t e : TypeId} {d : Kd α} {ok : α → Prop} (hu : P.underlying t = some (.slice e)) (hz : d.sz = P.cellsOf e) (h : At P fuel e d ok) :
    At P (fuel + 1) t (Kd.slice e d) (fun xs => xs.length * P.bytesOf e ≤ 140737488351232 ∧ xs.length ≤ maxLen ∧ ∀ x ∈ xs, ok x) := by
  intro H enc w base spare held cs x hr hs
  rcases DataW.trod_slice hu hr with ⟨rfl, rfl⟩ | ⟨a, len, cap, elems, rest, n, hn, rfl, rfl, hb, hl, hm, hlen, hel, -, -⟩
  · exact ⟨[], ⟨none, 0, rfl, Nat.le_refl _, Kd.C_nil d w⟩, by simp, by simp, fun x hx => by cases hx⟩
  · obtain rfl : fuel = n := by omega
    have key : ∀ i, i < len → ∃ c y, w.cells? base (a.add (i * P.cellsOf e)) (P.cellsOf e) = some c ∧ d.K w y c ∧ ok y := by
      intro i hi
      have h1 := hel i hi
      rw [List.getElem?_eq_getElem (by omega)] at h1
      obtain ⟨c, hc1, hc2⟩ := Option.bind_eq_some_iff.1 h1
      obtain ⟨y, hy1, hy2⟩ := h enc w base spare held c _ hc2 (fun n hn => hs n (by
        show n ∈ DataW.weights P t (.slice (elems.map (·.1)) (rest.map (·.1)))
        unfold DataW.weights
        simp only [hu]
        exact List.mem_cons_of_mem _ (List.mem_append.2 (Or.inl (weightsAll_mem (List.mem_map_of_mem (List.getElem_mem (by omega))) n hn)))))
      exact ⟨c, y, hc1, hy1, hy2⟩
    have build : ∀ m, m ≤ len → ∃ xs : List α, xs.length = m ∧ ∀ i y, xs[i]? = some y → ok y ∧ ∃ c, w.cells? base (a.add (i * P.cellsOf e)) (P.cellsOf e) = some c ∧ d.K w y c := by
      intro m
      induction m with
      | zero => exact fun _ => ⟨[], rfl, fun i y hy => by simp at hy⟩
      | succ m ih =>
        intro hm
        obtain ⟨xs, hx1, hx2⟩ := ih (by omega)
        obtain ⟨c, y, h1, h2, h3⟩ := key m (by omega)
        refine ⟨xs ++ [y], by simp [hx1], fun i z hz => ?_⟩
        rcases Nat.lt_or_ge i xs.length with hlt | hge
        · rw [List.getElem?_append_left hlt] at hz
          exact hx2 i z hz
        · have hi : i = m := by
            have := (List.getElem?_eq_some_iff.1 hz).1
            simp at this; omega
          subst hi
          rw [List.getElem?_append_right hge, hx1, Nat.sub_self] at hz
          obtain rfl : y = z := by simpa using hz
          exact ⟨h3, c, h1, h2⟩
    obtain ⟨xs, hx1, hx2⟩ := build len (Nat.le_refl _)
    have hw := hs ((elems.length + rest.length) * P.bytesOf e) (by
      show _ ∈ DataW.weights P t (.slice (elems.map (·.1)) (rest.map (·.1)))
      unfold DataW.weights
      simp only [hu]
      rw [List.length_map, List.length_map]
      exact List.mem_cons_self)
    refine ⟨xs, ⟨some a, cap, by rw [hx1], by omega, hx1.symm ▸ rfl, by unfold maxLen at hm; omega, fun _ => ⟨a, rfl, fun j p hp => ?_⟩⟩, ?_, by omega, fun x hx => ?_⟩
    · obtain ⟨-, c, hc1, hc2⟩ := hx2 j p hp
      obtain ⟨-, hcl, hcc⟩ := World.cells?_some hc1
      refine ⟨c, by rw [hcl, hz], hc2, fun i u hu2 => ?_⟩
      have hi := (List.getElem?_eq_some_iff.1 hu2).1
      have := hcc i (by omega)
      rw [hu2, add_add] at this
      rw [hz]
      exact this
    · exact Nat.le_trans (Nat.mul_le_mul_right _ (by omega)) hw
    · obtain ⟨i, hi, rfl⟩ := List.getElem_of_mem hx
      exact (hx2 i _ (List.getElem?_eq_getElem hi)).1
theorem mono {α : Type} {P : Program} {fuel : Nat} {t : TypeId} {d d' : Kd α} {ok ok' : α → Prop} (h : At P fuel t d ok) (hk : ∀ w a cs, d.K w a cs → d'.K w a cs) (ho : ∀ a, ok a → ok' a) : At P fuel t d' ok' := by
  intro H enc w base spare held cs x hr hs
  obtain ⟨a, ha, oa⟩ := h enc w base spare held cs x hr hs
  exact ⟨a, hk _ _ _ ha, ho a oa⟩
/-- A slice that came in, opened. -/
theorem arg {α : Type} {P : Program} {fuel : Nat} {t e : TypeId} {d : Kd α} {ok : List α → Prop} (h : At P fuel t (Kd.slice e d) ok) {H : Type} {enc : TypeId × Value → H} {w : World} {base : Nat} {spare : Nat → Bool} {held : Bool} {A : Option Addr} {n c : Nat} {x : DataW H × List MemPlace}
    (hr : DataW.trod enc P w base spare held fuel t (Value.slice A n c).cells.toList = some x) (hs : Sz P t x.1) : ∃ l : List α, n = l.length ∧ n ≤ c ∧ d.C w A l.length l ∧ ok l := by
  obtain ⟨l, ⟨A', c', he, hl, hC⟩, ho⟩ := h enc w base spare held _ x hr hs
  have he' : [Value.slice A n c] = [Value.slice A' l.length c'] := he
  injection he' with he' _
  injection he' with h1 h2 h3
  subst h1 h3
  exact ⟨l, h2, by omega, hC, ho⟩
end Op
end Go.Proofs.YtpanmmpkdbhofaaDoorE

namespace Go.Proofs.YtpanmmpkdbhofaaDoorE
open Go Go.RowKit Go.ChangeShapes Go.WideShapes Go.Proofs.YtpanmmpkdbhofaaDoorW.PrintWords Go.Proofs.YtpanmmpkdbhofaaDoor.P12r
set_option linter.unusedVariables false
set_option linter.unusedSimpArgs false
def okL (x : S56) : Prop := x.f0.size ≤ 140737488351232 ∧ x.f1.size ≤ 140737488351232 ∧ -9223372036854775808 ≤ x.f2 ∧ x.f2 ≤ 9223372036854775807
theorem wf_i64' {x : Int} (h : (Lit.int .i64 x).wf = true) : -9223372036854775808 ≤ x ∧ x ≤ 9223372036854775807 := by
  simp [Lit.wf, IntKind.min, IntKind.max, IntKind.bits, IntKind.signed] at h
  omega
theorem cellsL0 : Tryd.prog.cellsOf 9 = 1 := by kernel_rfl
theorem cellsL1 : Tryd.prog.cellsOf 3 = 1 := by kernel_rfl
theorem cellsL2 : Tryd.prog.cellsOf 56 = 3 := by kernel_rfl
theorem open_label (fuel : Nat) : Op.At Tryd.prog fuel 56 k56 okL := by
  cases fuel with
  | zero => exact Op.zero
  | succ n =>
    refine Op.mono (Op.struct Tryd.underlying56 (by kernel_rfl) (fun i f hf => ?_) (Op.iso (fun x : S56 => (x.f0, x.f1, x.f2)) (fun a => ⟨a.1, a.2.1, a.2.2⟩) (fun a => rfl) (Op.cons (Op.string Tryd.underlying9) (Op.cons (Op.string Tryd.underlying9) (Op.one (Op.int Tryd.underlying3)))))) (fun w a cs h => h) (fun a h => ⟨h.1, h.2.1, (wf_i64' h.2.2).1, (wf_i64' h.2.2).2⟩)
    rcases i with _ | _ | _ | i <;> simp at hf <;> (subst hf; simp [cellsL0, cellsL1])
def openLabT (W : World) (A : Option Addr) (n c : Nat) : Prop := ∃ l : List S56, n = l.length ∧ n ≤ c ∧ Kd.C k56 W A l.length l ∧ l.length ≤ 140737488351232 ∧ ∀ x ∈ l, okL x
theorem openLab {H : Type} {enc : TypeId × Value → H} {W : World} {base : Nat} {spare : Nat → Bool} {held : Bool} {A : Option Addr} {n c fuel : Nat} {d : DataW H} {ps : List MemPlace}
    (hf : DataW.trod enc Tryd.prog W base spare held fuel 51 (Value.slice A n c).cells.toList = some (d, ps)) (hs : ∀ m ∈ d.weights Tryd.prog 51, m ≤ 140737488351232) : openLabT W A n c := by
  cases fuel with
  | zero => simp [DataW.trod] at hf
  | succ f =>
    obtain ⟨l, h1, h2, h3, h4, -, h5⟩ := Op.arg (Op.slice Tryd.underlying51 cellsL2.symm (open_label f)) hf hs
    exact ⟨l, h1, h2, h3, Nat.le_trans (Nat.le_mul_of_pos_right _ (of_decide_eq_true (by kernel_rfl))) h4, h5⟩
theorem okL_at {l : List S56} (h : ∀ x ∈ l, okL x) : ∀ i : Nat, i < l.length → okL (rd_T56 l i) := by
  intro i hi
  unfold rd_T56
  rw [Int.toNat_natCast, List.getD_eq_getElem?_getD, List.getElem?_eq_getElem hi]
  exact h _ (List.getElem_mem hi)
end Go.Proofs.YtpanmmpkdbhofaaDoorE

namespace Go.Proofs.YtpanmmpkdbhofaaDoor.PureK
open Go Go.RowKit Go.Proofs.YtpanmmpkdbhofaaDoor.P12r Go.Proofs.YtpanmmpkdbhofaaDoor.P12k Go.Proofs.YtpanmmpkdbhofaaDoorE Go.Proofs.YtpanmmpkdbhofaaDoor.M02 Go.Proofs.YtpanmmpkdbhofaaDoorW.PrintWords Go.Proofs.YtpanmmpkdbhofaaDoorW.PrintMore Go.Proofs.YtpanmmpkdbhofaaDoorW.PrintLast
def big (x : S56) : Bool := decide (x.f0.size + x.f1.size > 1000)
theorem heavy_l (l : List S56) (ho : ∀ i : Nat, i < l.length → okL (rd_T56 l i)) (hn : l.length ≤ 281474976710656) : ∀ d i : Nat, i + d = l.length →
    ∃ b, Ev (fun k => Go.Proofs.YtpanmmpkdbhofaaDoor.P12k.tendrillaw12_heavy.l0 k l (l.length : Int) (i : Int)) b ∧ (b = false → l.length ≤ 200 ∧ ∀ j : Nat, i ≤ j → j < l.length → big (rd_T56 l j) = false) := by
  intro d
  induction d with
  | zero =>
    intro i hi
    refine ⟨decide ((l.length : Int) > 200), Ev.step (f := fun _ => some (decide ((l.length : Int) > 200))) (fun k => ?_) (Ev.now _), fun h => ⟨?_, fun j h1 h2 => by omega⟩⟩
    · simp only [Go.Proofs.YtpanmmpkdbhofaaDoor.P12k.tendrillaw12_heavy.l0]; rw [if_neg (by omega)]
    · rw [decide_eq_false_iff_not] at h; omega
  | succ d ih =>
    intro i hi
    have hlt : i < l.length := by omega
    obtain ⟨h0, h1, -, -⟩ := ho i hlt
    have ei : wrap64 ((i : Int) + 1) = ((i + 1 : Nat) : Int) := by rw [w64 (by omega) (by omega)]; omega
    have es : wrap64 (((rd_T56 l (i : Int)).f0.size : Int) + ((rd_T56 l (i : Int)).f1.size : Int)) = ((rd_T56 l (i : Int)).f0.size : Int) + ((rd_T56 l (i : Int)).f1.size : Int) := w64 (by omega) (by omega)
    by_cases hb : big (rd_T56 l i) = true
    · refine ⟨true, Ev.step (f := fun _ => some true) (fun k => ?_) (Ev.now _), fun h => by cases h⟩
      simp only [big, decide_eq_true_eq] at hb
      simp only [Go.Proofs.YtpanmmpkdbhofaaDoor.P12k.tendrillaw12_heavy.l0]
      rw [if_pos (by omega), if_pos (by omega), if_pos (by omega), es, if_pos (by omega)]
    · obtain ⟨b, hev, hb2⟩ := ih (i + 1) (by omega)
      refine ⟨b, Ev.step (fun k => ?_) hev, fun h => ⟨(hb2 h).1, fun j hj hj2 => ?_⟩⟩
      · simp only [big, decide_eq_true_eq] at hb
        simp only [Go.Proofs.YtpanmmpkdbhofaaDoor.P12k.tendrillaw12_heavy.l0]
        rw [if_pos (by omega), if_pos (by omega), if_pos (by omega), es, if_neg (by omega), ei]
      · by_cases hji : j = i
        · subst hji; simpa using hb
        · exact (hb2 h).2 j (by omega) hj2
theorem heavy_ev (l : List S56) (ho : ∀ i : Nat, i < l.length → okL (rd_T56 l i)) (hn : l.length ≤ 281474976710656) : ∃ b, Ev (fun k => Go.Proofs.YtpanmmpkdbhofaaDoor.P12k.tendrillaw12_heavy.f k l) b ∧ (b = false → l.length ≤ 200 ∧ ∀ j : Nat, j < l.length → big (rd_T56 l j) = false) := by
  obtain ⟨b, h1, h2⟩ := heavy_l l ho hn l.length 0 (by omega)
  exact ⟨b, h1, fun h => ⟨(h2 h).1, fun j hj => (h2 h).2 j (Nat.zero_le _) hj⟩⟩
theorem allB_mk {l : List S56} (ho : ∀ i : Nat, i < l.length → okL (rd_T56 l i)) : allB l = true := by
  unfold allB
  rw [List.all_eq_true]
  intro i hi
  obtain ⟨h0, h1, h2, h3⟩ := ho i (List.mem_range.1 hi)
  exact decide_eq_true ⟨by unfold maxLen; omega, by unfold maxLen; omega, wf_i h2 h3⟩
theorem kept_f (a b : List S56) (ha : a.length ≤ 200) (hb : b.length ≤ 200) (hoa : ∀ i : Nat, i < a.length → okL (rd_T56 a i)) (hob : ∀ i : Nat, i < b.length → okL (rd_T56 b i)) : label_Kept.f a b = some (keptL a b b.length) := by
  unfold label_Kept.f
  rw [if_pos ⟨by omega, by omega, allB_mk hoa, allB_mk hob⟩]
theorem eqB_print (x : S56) (a b : ByteArray) (n : Int) : ((x.f0.toList == a.toList && (x.f1.toList == b.toList && (x.f2 == n))) = true) ↔ eqB x ⟨a, b, n⟩ = true := by
  simp only [eqB, Bool.and_eq_true, beq_iff_eq, decide_eq_true_eq, toList_B]
  constructor
  · rintro ⟨h1, h2, h3⟩; exact ⟨B_inj h1, B_inj h2, h3⟩
  · rintro ⟨h1, h2, h3⟩; exact ⟨by rw [h1], by rw [h2], h3⟩
theorem findK_skip (l : List S56) (x : S56) (i : Nat) (h : eqB (rd_T56 l i) x = false) (hn : findK l x i = none) : findK l x (i + 1) = none := by
  unfold findK; rw [hn]; simp [h]
theorem findK_stay (l : List S56) (x : S56) (i j : Nat) : ∀ m, i ≤ m → findK l x i = some j → findK l x m = some j := by
  intro m hm h
  induction m with
  | zero => obtain rfl : i = 0 := by omega
            exact h
  | succ m ih =>
    by_cases e : i = m + 1
    · rw [← e]; exact h
    · unfold findK; rw [ih (by omega)]
theorem find_ev (l : List S56) (x : S56) (hn : l.length ≤ 1000) : ∀ d i : Nat, i + d = l.length → findK l x i = none → Ev (fun k => Go.Proofs.YtpanmmpkdbhofaaDoor.P12k.tendrilref12_Find.l0 k l (l.length : Int) (i : Int) x.f0 x.f1 x.f2) (fpos l x) := by
  intro d
  induction d with
  | zero =>
    intro i hi hf
    obtain rfl : i = l.length := by omega
    refine Ev.step (f := fun _ => some (fpos l x)) (fun k => ?_) (Ev.now _)
    simp only [Go.Proofs.YtpanmmpkdbhofaaDoor.P12k.tendrilref12_Find.l0]
    rw [if_neg (by omega), fpos, hf]
  | succ d ih =>
    intro i hi hf
    have ei : wrap64 ((i : Int) + 1) = ((i + 1 : Nat) : Int) := by rw [w64 (by omega) (by omega)]; omega
    have hp := eqB_print (rd_T56 l i) x.f0 x.f1 x.f2
    by_cases he : eqB (rd_T56 l i) x = true
    · refine Ev.step (f := fun _ => some (fpos l x)) (fun k => ?_) (Ev.now _)
      simp only [Go.Proofs.YtpanmmpkdbhofaaDoor.P12k.tendrilref12_Find.l0]
      have hfi : findK l x (i + 1) = some i := by unfold findK; rw [hf]; simp [he]
      rw [if_pos (by omega), if_pos (by omega), if_pos (by omega), if_pos (hp.2 he), fpos, findK_stay l x (i + 1) i l.length (by omega) hfi]
    · refine Ev.step (fun k => ?_) (ih (i + 1) (by omega) (findK_skip l x i (by simpa using he) hf))
      simp only [Go.Proofs.YtpanmmpkdbhofaaDoor.P12k.tendrilref12_Find.l0]
      rw [if_pos (by omega), if_pos (by omega), if_pos (by omega), if_neg (fun e => he (hp.1 e)), ei]
theorem rkept_ev (a b : List S56) (ha : a.length ≤ 1000) (hb : b.length ≤ 1000) : ∀ d i : Nat, i + d = b.length → Ev (fun k => Go.Proofs.YtpanmmpkdbhofaaDoor.P12k.tendrilref12_Kept.l0 k a b (keptL a b i) (b.length : Int) (i : Int)) (keptL a b b.length) := by
  intro d
  induction d with
  | zero =>
    intro i hi
    obtain rfl : i = b.length := by omega
    refine Ev.step (f := fun _ => some (keptL a b b.length)) (fun k => ?_) (Ev.now _)
    simp only [Go.Proofs.YtpanmmpkdbhofaaDoor.P12k.tendrilref12_Kept.l0]
    rw [if_neg (by omega)]
  | succ d ih =>
    intro i hi
    have ei : wrap64 ((i : Int) + 1) = ((i + 1 : Nat) : Int) := by rw [w64 (by omega) (by omega)]; omega
    have hf := find_ev a (rd_T56 b i) ha a.length 0 (by omega) rfl
    refine Ev.step (f := fun k => (Go.Proofs.YtpanmmpkdbhofaaDoor.P12k.tendrilref12_Find.f k a (rd_T56 b i).f0 (rd_T56 b i).f1 (rd_T56 b i).f2).bind fun t => Go.Proofs.YtpanmmpkdbhofaaDoor.P12k.tendrilref12_Kept.l0 k a b (keptL a b i ++ [t]) (b.length : Int) ((i + 1 : Nat) : Int)) (fun k => ?_) ?_
    · simp only [Go.Proofs.YtpanmmpkdbhofaaDoor.P12k.tendrilref12_Kept.l0]
      rw [if_pos (by omega), if_pos (by omega), if_pos (by omega), keptL_len, ei]
      simp only [if_pos (show i < 17592186044416 by omega)]
    · refine Ev.bind hf ?_
      rw [← keptL_succ]
      exact ih (i + 1) (by omega)
theorem ints_ev (a : List Int) (hn : a.length ≤ 1000) : ∀ d i : Nat, i + d = a.length → Ev (fun k => Go.Proofs.YtpanmmpkdbhofaaDoor.P12k.tendrilplain_Ints.l0 k a a (a.length : Int) (i : Int)) true := by
  intro d
  induction d with
  | zero =>
    intro i hi
    refine Ev.step (f := fun _ => some true) (fun k => ?_) (Ev.now _)
    simp only [Go.Proofs.YtpanmmpkdbhofaaDoor.P12k.tendrilplain_Ints.l0]
    rw [if_neg (by omega)]
  | succ d ih =>
    intro i hi
    have ei : wrap64 ((i : Int) + 1) = ((i + 1 : Nat) : Int) := by rw [w64 (by omega) (by omega)]; omega
    refine Ev.step (fun k => ?_) (ih (i + 1) (by omega))
    simp only [Go.Proofs.YtpanmmpkdbhofaaDoor.P12k.tendrilplain_Ints.l0]
    rw [if_pos (by omega), if_pos (by omega), if_pos (by omega), if_pos (by omega), if_pos trivial, ei]
theorem rd_kept (a b : List S56) (n i : Nat) (h : i < n) : rd (keptL a b n) (i : Int) = fpos a (rd_T56 b i) := by
  unfold rd keptL
  rw [Int.toNat_natCast, List.getD_eq_getElem?_getD, List.getElem?_map, List.getElem?_range h]
  rfl
theorem findK_hit (l : List S56) (i : Nat) : ∃ j, findK l (rd_T56 l i) (i + 1) = some j ∧ j ≤ i := by
  unfold findK
  cases h : findK l (rd_T56 l i) i with
  | some j => exact ⟨j, rfl, by have := findK_le l _ _ _ h; omega⟩
  | none => exact ⟨i, by simp [eqB_iff.2 rfl], Nat.le_refl _⟩
theorem fpos_self (l : List S56) (i : Nat) (h : i < l.length) : ∃ j : Nat, fpos l (rd_T56 l i) = j ∧ j ≤ i ∧ rd_T56 l j = rd_T56 l i := by
  obtain ⟨j, h1, h2⟩ := findK_hit l i
  have h3 := findK_stay l _ _ _ l.length (show i + 1 ≤ l.length by omega) h1
  exact ⟨j, by unfold fpos; rw [h3], h2, findK_eq l _ _ _ h3⟩
theorem main_ev (a b : List S56) (ha : a.length ≤ 200) (hb : b.length ≤ 200) (hoa : ∀ i : Nat, i < a.length → okL (rd_T56 a i)) (hob : ∀ i : Nat, i < b.length → okL (rd_T56 b i)) : ∀ d i : Nat, i + d = a.length →
    Ev (fun k => tendrillaw12_LabelKept.l0 k a b (keptL a a a.length) (a.length : Int) (i : Int)) true := by
  intro d
  induction d with
  | zero =>
    intro i hi
    refine Ev.step (f := fun k => (Go.Proofs.YtpanmmpkdbhofaaDoor.P12k.tendrilref12_Kept.f k a b).bind fun t => (Go.Proofs.YtpanmmpkdbhofaaDoor.P12k.tendrilplain_Ints.f k (keptL a b b.length) t).bind fun u => if u = true then some true else some false) (fun k => ?_) ?_
    · simp only [tendrillaw12_LabelKept.l0]
      rw [if_neg (by omega), keptL_len, if_pos rfl, kept_f a b ha hb hoa hob, Option.bind_some]
      simp only [tendrillaw12_same.f, Option.bind_some]
    · refine Ev.bind (rkept_ev a b (by omega) (by omega) b.length 0 (by omega)) ?_
      refine Ev.bind (r := true) ?_ (Ev.congr (f := fun _ => some true) (fun k => by rw [if_pos rfl]) (Ev.now _))
      refine Ev.congr (fun k => ?_) (ints_ev (keptL a b b.length) (by rw [keptL_len]; omega) _ 0 (Nat.zero_add _))
      simp only [Go.Proofs.YtpanmmpkdbhofaaDoor.P12k.tendrilplain_Ints.f]
      rw [if_pos trivial]
      rfl
  | succ d ih =>
    intro i hi
    have ei : wrap64 ((i : Int) + 1) = ((i + 1 : Nat) : Int) := by rw [w64 (by omega) (by omega)]; omega
    obtain ⟨j, h1, h2, h3⟩ := fpos_self a i (by omega)
    refine Ev.step (fun k => ?_) (ih (i + 1) (by omega))
    simp only [tendrillaw12_LabelKept.l0]
    rw [keptL_len, rd_kept a a a.length i (by omega), h1]
    rw [if_pos (by omega), if_neg (by omega), if_pos (by omega), if_pos (by omega), if_neg (by omega), if_neg (by omega), if_pos (by omega), if_pos (by omega), if_pos (by omega), h3, if_neg (by simp), ei]
theorem LabelKept_ev (a b : List S56) (hna : a.length ≤ 281474976710656) (hnb : b.length ≤ 281474976710656) (hoa : ∀ i : Nat, i < a.length → okL (rd_T56 a i)) (hob : ∀ i : Nat, i < b.length → okL (rd_T56 b i)) :
    Ev (fun k => tendrillaw12_LabelKept.f k a b) true := by
  have done : Ev (fun k => tendrillaw12_LabelKept.j0 k a b true) true := Ev.step (f := fun _ => some true) (fun k => by simp [tendrillaw12_LabelKept.j0, tendrillaw12_same.f]) (Ev.now _)
  obtain ⟨p, hp, hp2⟩ := heavy_ev a hoa hna
  obtain ⟨q, hq, hq2⟩ := heavy_ev b hob hnb
  unfold tendrillaw12_LabelKept.f
  refine Ev.bind hp ?_
  cases p with
  | true => exact Ev.congr (fun k => by rw [if_pos rfl]) done
  | false =>
    refine Ev.congr (f := fun k => (Go.Proofs.YtpanmmpkdbhofaaDoor.P12k.tendrillaw12_heavy.f k b).bind fun t => tendrillaw12_LabelKept.j0 k a b t) (fun k => by rw [if_neg (by decide)]) ?_
    refine Ev.bind hq ?_
    cases q with
    | true => exact done
    | false =>
      refine Ev.step (fun k => ?_) (main_ev a b (hp2 rfl).1 (hq2 rfl).1 hoa hob a.length 0 (by omega))
      simp only [tendrillaw12_LabelKept.j0]
      rw [if_neg (by decide), kept_f a a (hp2 rfl).1 (hp2 rfl).1 hoa hoa, Option.bind_some, keptL_len]
      rfl
theorem labelKept_w (A0 : Option Addr) (n0 c0 : Nat) (l0 : List S56) (A1 : Option Addr) (n1 c1 : Nat) (l1 : List S56) (W : World) (hgl : Go.Proofs.YtpanmmpkdbhofaaDoorX.GL W)
    (h0 : n0 = l0.length ∧ n0 ≤ c0 ∧ Kd.C k56 W A0 l0.length l0 ∧ l0.length ≤ 140737488351232 ∧ ∀ x ∈ l0, okL x) (h1 : n1 = l1.length ∧ n1 ≤ c1 ∧ Kd.C k56 W A1 l1.length l1 ∧ l1.length ≤ 140737488351232 ∧ ∀ x ∈ l1, okL x) :
    Calls Tryd.prog 12 #[.slice A0 n0 c0, .slice A1 n1 c1] W fun e w' => e = .returned (.bool true) ∧ Below W.heap.size W w' := by
  obtain ⟨rfl, a2, a3, a4, a5⟩ := h0
  obtain ⟨rfl, b2, b3, b4, b5⟩ := h1
  obtain ⟨k, hk⟩ := (LabelKept_ev l0 l1 (by omega) (by omega) (okL_at a5) (okL_at b5)).rounds
  exact tendrillaw12_LabelKept.calls k A0 c0 l0 A1 c1 l1 true W hgl a3 a2 b3 b2 hk
end Go.Proofs.YtpanmmpkdbhofaaDoor.PureK

namespace Go.Proofs.YtpanmmpkdbhofaaDoor.labelKept
open Go.ChangeShapes Go.WideShapes Go.ChangeAt Go.RowKit
open Go.ChangeMaps (open_string shut_string)
set_option linter.unusedVariables false
theorem own : ownKnob Tryd.prog.godebug = none := by kernel_rfl
theorem door_met (os : Os) (args : Array Value) : laidMetH Tryd.prog Rows.labelKeptRow.laid ((World.doorLaid Tryd.prog 62 os).forCall (fun _ _ => 0) ⟨#[], args, []⟩).memory :=
  laidMetH_of_parts3 (fuel := 8) (laidMet_of_run' 8 (by kernel_rfl) (by kernel_rfl)) (by kernel_rfl) (by kernel_rfl)
theorem gl {W : World} (h : laidMetH Tryd.prog Rows.labelKeptRow.laid W) : Go.Proofs.YtpanmmpkdbhofaaDoorX.GL W := by
  rw [MakeChecks.laidMetH_plain _ _ _ (by kernel_rfl)] at h
  exact Go.Proofs.YtpanmmpkdbhofaaDoorX.gl_of h
theorem laidOut : laidOutB Tryd.prog = true := by kernel_rfl
set_option maxRecDepth 100000 in
theorem lifted (os : Os) (started : os.Started) (H : Type) (enc : TypeId × Value → H) :
    ReturnsInHanded {} Tryd.checked os 12 .any (fun w args => (Rows.labelKeptSpec.pre enc Tryd.prog Tryd.f12 [] false w args ∧ laidMetH Tryd.prog Rows.labelKeptRow.laid w) ∧ sizedMet enc Tryd.prog Tryd.f12 (OpenSpec.ofChange Rows.labelKeptSpec) false w args) (Rows.labelKeptSpec.post enc Tryd.prog Tryd.f12 false true false false) := by
  refine returnsInHanded_of_change_and (C := Tryd.checked) (X := fun w _ => laidMetH Tryd.prog Rows.labelKeptRow.laid w) (fun _ _ _ hh h => h.of_heap hh) own started (by kernel_rfl) Tryd.func12
    (ChangeSpec.witness_shaped (enc := enc) (C := Tryd.checked) (os := os) (X := fun w _ => laidMetH Tryd.prog Rows.labelKeptRow.laid w) false (World.doorLaid Tryd.prog 62 os) #[.slice none 0 0, .slice none 0 0] 8 rfl (World.shaped_of_RefB (by kernel_rfl) (by kernel_rfl)) (by kernel_rfl) (by kernel_rfl) (by kernel_rfl) (door_met os _)) ?_
  intro W base args ds gs before hval0 hW _ hsz0 hL _
  have hgl := gl hL
  have hsz : (DataW.weightsEach Tryd.prog (Tryd.f12.params.toList ++ Rows.labelKeptSpec.plain.varTypes Tryd.prog) (ds ++ gs)).all (· ≤ reachBytes) = true := hsz0
  have hval : ∀ (j : Nat) t v, Tryd.f12.params[j]? = some t → args[j]? = some v → Value.okWide Tryd.prog W .any base t v := hval0
  have hW' := hW
  obtain ⟨p, q, hA0, hV, rfl, hfz, hnd⟩ := hW
  have hA : DataW.TrodAll enc Tryd.prog W 0 (fun _ => true) true Tryd.f12.params.toList args.toList ds p := hA0
  rw [Tryd.params12] at hA hval hsz
  obtain ⟨v0, vs0, d0, ds0, p0, q0, hargs, rfl, rfl, h0, r0⟩ := trodAll_cons hA
  obtain ⟨v1, vs1, d1, ds1, p1, q1, rfl, rfl, rfl, h1, r1⟩ := trodAll_cons r0
  obtain ⟨rfl, rfl, rfl⟩ := trodAll_nil r1
  obtain rfl : args = #[v0, v1] := by cases args; simp_all
  obtain ⟨rfl, rfl⟩ := trodVars_none hV
  have k0 := h0
  have lt0 : ∀ x ∈ p0, x.block < W.heap.size := by obtain ⟨m, hm⟩ := k0; exact DataW.trod_lt m _ _ _ hm
  obtain ⟨a0, len0, cap0, rfl⟩ := okWide_slice Tryd.underlying51 (hval 0 51 v0 rfl rfl)
  obtain ⟨b0, w0⟩ := (by
    obtain ⟨fuel, hf⟩ := h0
    exact Go.Proofs.YtpanmmpkdbhofaaDoorE.openLab hf (fun n hn => of_decide_eq_true (List.all_eq_true.1 hsz n (DataW.weights_mem_each (j := 0) (t := 51) rfl rfl n hn))) : Go.Proofs.YtpanmmpkdbhofaaDoorE.openLabT W a0 len0 cap0)
  have k1 := h1
  have lt1 : ∀ x ∈ p1, x.block < W.heap.size := by obtain ⟨m, hm⟩ := k1; exact DataW.trod_lt m _ _ _ hm
  obtain ⟨a1, len1, cap1, rfl⟩ := okWide_slice Tryd.underlying51 (hval 1 51 v1 rfl rfl)
  obtain ⟨b1, w1⟩ := (by
    obtain ⟨fuel, hf⟩ := h1
    exact Go.Proofs.YtpanmmpkdbhofaaDoorE.openLab hf (fun n hn => of_decide_eq_true (List.all_eq_true.1 hsz n (DataW.weights_mem_each (j := 1) (t := 51) rfl rfl n hn))) : Go.Proofs.YtpanmmpkdbhofaaDoorE.openLabT W a1 len1 cap1)
  clear hA0 hval0 hsz0 hsz hL
  refine (Go.Proofs.YtpanmmpkdbhofaaDoor.PureK.labelKept_w a0 len0 cap0 b0 a1 len1 cap1 b1 W hgl w0 w1).mono fun e W' ⟨he, bel⟩ => ?_
  subst he
  exact ⟨_, rfl, _, _, _, [], _, [], hW', trodAll_mk1 (shut_bool Tryd.underlying4 _), (trodAll_cons_mk (Below.trod laidOut (by kernel_rfl) (of_decide_eq_true (by kernel_rfl)) k0 bel lt0) (trodAll_cons_mk (Below.trod laidOut (by kernel_rfl) (of_decide_eq_true (by kernel_rfl)) k1 bel lt1) trodAll_mk0)), rfl, bel.frame _, fun h => by cases h⟩
theorem over : Rows.labelKeptRow.holds Tryd.pinned (OpenSpec.ofChange Rows.labelKeptSpec) :=
  OpenClaim.holds_of_wide 12 Tryd.f12 rfl rfl rfl rfl rfl rfl rfl ⟨rfl, rfl, rfl, rfl, rfl⟩ rfl rfl rfl rfl rfl (by kernel_rfl) Tryd.func12 (by kernel_rfl)
    (of_decide_eq_true (by kernel_rfl)) (by unfold Func.isWrapper; first | (rw [if_pos (by decide +kernel)]; kernel_rfl) | (rw [if_neg (by decide +kernel)]; exact ⟨rfl, rfl⟩))
    (fun os started H enc _ => lifted os started H enc)
theorem wants : ∀ (j : Nat) (t : TypeId), Tryd.f12.params[j]? = some t → Tryd.prog.wantsStandIn t = false := by
  intro j t ht
  rw [Tryd.params12] at ht
  rcases j with _ | j
  · have h3 : t = 51 := by simpa using ht.symm
    subst h3
    exact (show Tryd.prog.wantsStandIn 51 = false by kernel_rfl)
  rcases j with _ | j
  · have h3 : t = 51 := by simpa using ht.symm
    subst h3
    exact (show Tryd.prog.wantsStandIn 51 = false by kernel_rfl)
  simp at ht
theorem proved : Rows.LabelKeptCardSaid :=
  Claim7.holds_tied_plain_at .later [] [.data, .data, .data, .sentinel, .sentinel] true (true, "f34a13f7a2e572fe92dfbbe1cc8ea8881f651b4747b1b2d7c1466721f57ac486") true
    over (fun _ h => by cases h) (by kernel_rfl) (fun _ h => by cases h) labelKept_row_tie rfl ⟨rfl, rfl⟩ (by kernel_rfl) rfl
    (fun f fn hf hfn => by
      obtain rfl : f = 12 := Option.some.inj ((show Tryd.prog.funcNamed "tendril/tendrillaw12.LabelKept" = some 12 by kernel_rfl).symm.trans hf) |>.symm
      obtain rfl : fn = Tryd.f12 := (Option.some.inj (Tryd.func12.symm.trans hfn)).symm
      exact ⟨by kernel_rfl, wants⟩)
    (by kernel_rfl)
end Go.Proofs.YtpanmmpkdbhofaaDoor.labelKept
namespace Go.Proofs.YtpanmmpkdbhofaaDoor
/-- The card, under a short name, for the claim. -/
theorem labelKept_holds : Rows.LabelKeptCardSaid := labelKept.proved
end Go.Proofs.YtpanmmpkdbhofaaDoor
