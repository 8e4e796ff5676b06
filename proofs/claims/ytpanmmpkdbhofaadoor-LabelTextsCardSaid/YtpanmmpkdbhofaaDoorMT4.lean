/- Merged by this claim's own program (merge.py) out of the texts X12rx6, M02, M02e, M02f, X03ox0, PureEscapeOnly, M03b, M03c, E10, E11, X12tx0, X12tx1, X12tx2; the W texts among them began as the kit's print. -/
import Derived.Test.YtpanmmpkdbhofaaDoorMT3
import Derived.Test.YtpanmmpkdbhofaaDoorProg
import Derived.Below
import Derived.Deep.Draws
import Derived.Deep.AppendLies
import Derived.Maps.AppendAt
import Derived.OwnWalk
import Derived.Laws.BytesArg
import Derived.Laws.MakeOwn
import Derived.Laws.OwnMore
import Derived.Deep.OwnRows
import Derived.Tactics
import Derived.Lib.ConvBytes
import Derived.Laws.Slices
import Derived.WalkKit
import Derived.KernelRfl
import Derived.RowKit3
import Derived.Deep.LoopGhost
import Derived.Deep.QuietTactic
import Derived.BigQuiet
import Derived.WideLaws
import Derived.Deep.DeepCutAuto
import Derived.Deep.CutBlock
import Derived.Deep.RegionHeld3
import Derived.Laws.Rows
import Derived.Lib.AppendStr
import Derived.ArgAppend
import Derived.Laws.IdiomCopy
import Derived.OrdersHeld
import Derived.Laws.BitsLemmas
import Derived.RowKit
import Derived.WalkLawsBesides

namespace Go.Proofs.YtpanmmpkdbhofaaDoor.P12r
open Go.RowKit Go.Proofs.YtpanmmpkdbhofaaDoorE Go.Proofs.YtpanmmpkdbhofaaDoorW.PrintWords Go.Proofs.YtpanmmpkdbhofaaDoorW.PrintLast Go.Proofs.YtpanmmpkdbhofaaDoorW.PrintMore
attribute [local go_sem] max2_int min2_int max_two min_two max_three min_three max_four min_four   -- for this text's walks alone
set_option linter.unusedVariables false
set_option linter.unusedSimpArgs false

attribute [local go_sem high] eqA56

def tendrilref03_Unescape.l0 : Nat → ByteArray → List Int → Int → Option (ByteArray × Int × Int)
  | 0, _, _, _ => none
  | k + 1, x0, x5, x6 => if x6 < (x0.size : Int) then (if 0 ≤ x6 then (if x6 ≤ (x0.size : Int) then ((tendrilref03_one.f k (x0.extract (x6 : Int).toNat x0.size)).bind fun t144 => (if t144 < 0 then (some ((⟨#[]⟩ : ByteArray), x6, 2)) else (if x5.length < 140737488355328 then ((tendrilref03_Form.f k ((t144) % 256)).bind fun t148 => (tendrilref03_Unescape.l0 k x0 (x5 ++ [(t144) % 256]) (wrap64 (x6 + (t148.size : Int))))) else (none)))) else (none)) else (none)) else (some (strOfNums x5, 0, 0))
def tendrilref03_Unescape.f (k : Nat) (a0 : ByteArray) : Option (ByteArray × Int × Int) := tendrilref03_Unescape.l0 k a0 ([] : List Int) 0
theorem tendrilref03_Unescape.mono_l : ∀ k, (∀ y0 y1 y2, LeO (tendrilref03_Unescape.l0 k y0 y1 y2) (tendrilref03_Unescape.l0 (k + 1) y0 y1 y2))
  | 0 => fun _ _ _ r h => by simp [tendrilref03_Unescape.l0] at h
  | k + 1 => by
    have ih0 := tendrilref03_Unescape.mono_l k
    · intro y0 y1 y2
      unfold tendrilref03_Unescape.l0
      repeat' first
      | (with_reducible exact ih0 _ _ _)
      | (with_reducible exact tendrilref03_Form.mono _ _)
      | (with_reducible exact tendrilref03_one.mono _ _)
      | (with_reducible exact LeO.refl _)
      | (with_reducible exact LeO.none _)
      | (with_reducible refine LeO.ite ?_ ?_)
      | (with_reducible refine LeO.bind ?_ (fun _ => ?_))
      | exact ih0 _ _ _
      | exact tendrilref03_Form.mono _ _
      | exact tendrilref03_one.mono _ _
      | exact LeO.none _
      | refine LeO.ite ?_ ?_
      | refine LeO.bind ?_ (fun _ => ?_)
theorem tendrilref03_Unescape.mono : ∀ a0 k, LeO (tendrilref03_Unescape.f k a0) (tendrilref03_Unescape.f (k + 1) a0) := by
  intro a0 k
  have ih0 := tendrilref03_Unescape.mono_l k
  unfold tendrilref03_Unescape.f
  repeat' first
      | (with_reducible exact ih0 _ _ _)
      | (with_reducible exact tendrilref03_Form.mono _ _)
      | (with_reducible exact tendrilref03_one.mono _ _)
      | (with_reducible exact LeO.refl _)
      | (with_reducible exact LeO.none _)
      | (with_reducible refine LeO.ite ?_ ?_)
      | (with_reducible refine LeO.bind ?_ (fun _ => ?_))
      | exact ih0 _ _ _
      | exact tendrilref03_Form.mono _ _
      | exact tendrilref03_one.mono _ _
      | exact LeO.none _
      | refine LeO.ite ?_ ?_
      | refine LeO.bind ?_ (fun _ => ?_)
set_option maxHeartbeats 8000000 in
set_option maxRecDepth 100000 in
theorem tendrilref03_Unescape.calls (k : Nat) (a0 : ByteArray) (r1 : ByteArray) (r2 : Int) (r3 : Int) (w : World) (hgl : Go.Proofs.YtpanmmpkdbhofaaDoorX.GL w) (h : tendrilref03_Unescape.f k a0 = some (r1, r2, r3)) :
    Calls Tryd.prog 32 #[.string a0] w fun e w' => e = .returned (.tuple #[.string r1, .int .i64 r2, .int .i64 r3]) ∧ Below w.heap.size w w' := by
  have HGL := Aside0.mk hgl
  clear hgl
  have HB := Aside0.mk (Below.refl w.heap.size w)
  have H : (tendrilref03_Unescape.l0 k a0 ([] : List Int) 0) = some (r1, r2, r3) := h
  clear h
  have H' := Aside0.mk H
  clear H
  go_enter Tryd.func32, Tryd.ntmps32
  go_wp2
  go_loopg [5, 6] k (fun kq v5 v6 w' => ∃ (x5_1 : List Int) (x6_1 : Int), v6 = .int .i64 x6_1 ∧ Aside0 (tendrilref03_Unescape.l0 kq a0 x5_1 x6_1 = some (r1, r2, r3)) ∧ Aside0 (kq ≤ k) ∧ Aside0 (Kd.R (Kd.int .u8) 5 w' w.heap.size (fun _ => True) v5 x5_1) ∧ Aside0 (Below w.heap.size w w'))
  case atStart => exact ⟨(([] : List Int)), (0), (by first | rfl | (simp; done) | (simp [*]; done)), H', ⟨Nat.le_refl _⟩, ⟨by first | exact Kd.R_nil _ _ _ _ _ | exact Kd.N_nil _ _ _ _ _ | exact Kd.V_nil _ _ _ _ _ | exact Kd.Q_nil _ _ _ _ _ | exact Kd.S_nil _ _ _ _ _⟩, ⟨by repeat (first | (with_reducible first | exact HB.out | apply below_alloc | apply pw_below_drewN | apply below_drew1) | exact HB.out)⟩⟩
  case round =>
    clear H'
    obtain ⟨x5_1, x6_1, rfl, HA, HK1, HO_5, HB⟩ := hrel
    cases gk with
    | zero => exact absurd HA.out (by simp [tendrilref03_Unescape.l0])
    | succ k1 =>
      have H := HA.out
      clear HA
      simp only [tendrilref03_Unescape.l0] at H
      by_cases c2 : x6_1 < (a0.size : Int)
      · rw [if_pos c2] at H
        have c2b0 : decide (x6_1 < (a0.size : Int)) = true := decide_eq_true c2
        clear c2
        by_cases c3 : 0 ≤ x6_1
        · rw [if_pos c3] at H
          have c3b0 := eq_true c3
          have c3b1 : decide (0 ≤ x6_1) = true := decide_eq_true c3
          clear c3
          by_cases c4 : x6_1 ≤ (a0.size : Int)
          · rw [if_pos c4] at H
            have c4b0 := eq_true c4
            have c4b1 : decide (x6_1 ≤ (a0.size : Int)) = true := decide_eq_true c4
            clear c4
            replace H := Option.bind_eq_some_iff.mp H
            obtain ⟨t144, A50, H⟩ := H
            replace H : (if t144 < 0 then (some ((⟨#[]⟩ : ByteArray), x6_1, 2)) else (if x5_1.length < 140737488355328 then ((tendrilref03_Form.f k1 ((t144) % 256)).bind fun t148 => (tendrilref03_Unescape.l0 k1 a0 (x5_1 ++ [(t144) % 256]) (wrap64 (x6_1 + (t148.size : Int))))) else (none))) = some (r1, r2, r3) := H
            have A5 := Aside0.mk A50
            clear A50
            by_cases c6 : t144 < 0
            · rw [if_pos c6] at H
              have c6b0 : decide (t144 < 0) = true := decide_eq_true c6
              clear c6
              simp only [Option.some.injEq, Prod.mk.injEq] at H
              obtain ⟨rfl, rfl, rfl⟩ := H
              go_wp2_with (first | ((with_reducible refine gate_callee (f := 62) rfl ?_); refine goesL_ (some 15) rfl rfl Tryd.func62 (by kernel_rfl) rfl #[.string (a0.extract (x6_1 : Int).toNat a0.size)] rfl (by (try simp only [List.map_toArray, List.map_cons, List.map_nil]); first | done | rfl | (simp only [List.length_drop, List.length_take]; rfl)) ?_; (with_reducible refine (tendrilref03_one.calls k1 (a0.extract (x6_1 : Int).toNat a0.size) t144 _ ?side1 A5.out).mono ?_); (case side1 => first | exact HGL.out | exact (Go.Proofs.YtpanmmpkdbhofaaDoorX.GL.below HGL.out (by repeat (first | (with_reducible first | exact HB.out | apply below_alloc | apply pw_below_drewN | apply below_drew1) | exact HB.out))) | (repeat (first | exact HGL.out | (with_reducible refine Go.Proofs.YtpanmmpkdbhofaaDoorX.GL.drewN ?_ _) | (with_reducible refine Go.Proofs.YtpanmmpkdbhofaaDoorX.GL.drew ?_)))); rintro e w7 ⟨rfl, hb⟩; refine ⟨_, rfl, ?_⟩; have n0_ := Aside0.mk (Kd.R_below (by (with_reducible repeat (first | apply Kd.R_alloc | apply Kd.R_drewN | apply Kd.R_drew)); exact HO_5.out) hb); have n1_ := Aside0.mk (below_step (by repeat (first | (with_reducible first | exact HB.out | apply below_alloc | apply pw_below_drewN | apply below_drew1) | exact HB.out)) hb); clear HO_5; clear HB; have HO_5 := n0_; have HB := n1_; clear n0_ n1_; (try clear hb); (try clear hb2); (try clear hk); (try clear hi)))
              go_ret3
              exact ⟨by first | rfl | (simp [errW_none, errW_some] <;> rfl) | (simp [*, errW_none, errW_some] <;> rfl), by repeat (first | (with_reducible first | exact HB.out | apply below_alloc | apply pw_below_drewN | apply below_drew1) | exact HB.out)⟩
            · rw [if_neg c6] at H
              have c6b0 : decide (t144 < 0) = false := decide_eq_false c6
              clear c6
              by_cases c8 : x5_1.length < 140737488355328
              · rw [if_pos c8] at H
                have LMc8 := Aside0.mk c8
                clear c8
                obtain ⟨y145, hy145⟩ : ∃ y_ : List Int, y_ = (x5_1 ++ [(t144) % 256]) := ⟨_, rfl⟩
                replace H : ((tendrilref03_Form.f k1 ((t144) % 256)).bind fun t148 => (tendrilref03_Unescape.l0 k1 a0 y145 (wrap64 (x6_1 + (t148.size : Int))))) = some (r1, r2, r3) := by first | (rw [hy145]; with_reducible exact H) | (have H2_ := (Option.bind_some _ _).symm.trans H; rw [hy145]; with_reducible exact H2_) | (have H2_ := (Option.bind_some _ _).symm.trans H; with_reducible exact H2_) | with_reducible exact H | (rw [hy145]; exact H) | exact H
                have Ny145 := Aside0.mk hy145
                clear hy145
                replace H := Option.bind_eq_some_iff.mp H
                obtain ⟨t148, A90, H⟩ := H
                replace H : (tendrilref03_Unescape.l0 k1 a0 y145 (wrap64 (x6_1 + (t148.size : Int)))) = some (r1, r2, r3) := H
                have A9 := Aside0.mk A90
                clear A90
                have H' := Aside0.mk H
                clear H
                go_wp2_with (first | ((with_reducible refine gate_callee (f := 62) rfl ?_); refine goesL_ (some 15) rfl rfl Tryd.func62 (by kernel_rfl) rfl #[.string (a0.extract (x6_1 : Int).toNat a0.size)] rfl (by (try simp only [List.map_toArray, List.map_cons, List.map_nil]); first | done | rfl | (simp only [List.length_drop, List.length_take]; rfl)) ?_; (with_reducible refine (tendrilref03_one.calls k1 (a0.extract (x6_1 : Int).toNat a0.size) t144 _ ?side1 A5.out).mono ?_); (case side1 => first | exact HGL.out | exact (Go.Proofs.YtpanmmpkdbhofaaDoorX.GL.below HGL.out (by repeat (first | (with_reducible first | exact HB.out | apply below_alloc | apply pw_below_drewN | apply below_drew1) | exact HB.out))) | (repeat (first | exact HGL.out | (with_reducible refine Go.Proofs.YtpanmmpkdbhofaaDoorX.GL.drewN ?_ _) | (with_reducible refine Go.Proofs.YtpanmmpkdbhofaaDoorX.GL.drew ?_)))); rintro e w10 ⟨rfl, hb⟩; refine ⟨_, rfl, ?_⟩; have n0_ := Aside0.mk (Kd.R_below (by (with_reducible repeat (first | apply Kd.R_alloc | apply Kd.R_drewN | apply Kd.R_drew)); exact HO_5.out) hb); have n1_ := Aside0.mk (below_step (by repeat (first | (with_reducible first | exact HB.out | apply below_alloc | apply pw_below_drewN | apply below_drew1) | exact HB.out)) hb); clear HO_5; clear HB; have HO_5 := n0_; have HB := n1_; clear n0_ n1_; (try clear hb); (try clear hb2); (try clear hk); (try clear hi)) | ((with_reducible refine gate_builtin (b := .append) (xs := #[.tmp 19, .tmp 22]) rfl ?_); at_builtin; refine Kd.R_append (Kd.int .u8) (w0 := w) w.heap.size rfl (.tmp 19) (.tmp 22) 73 5 (.int .u8 0) 1 rfl Tryd.underlying73 info5 rfl (by decide) (by omega) u5 x5_1 ((t144) % 256) [.int .u8 ((t144) % 256)] (fun _ => True) (fun _ => False) rfl rfl ?aP (fun _ hk => hk.elim) ?aF ?aO ?aB ?aS ?aL ?_; (case aP => exact rfl); (case aB => exact (by repeat (first | (with_reducible first | exact HB.out | apply below_alloc | apply pw_below_drewN | apply below_drew1) | exact HB.out))); (case aF => exact (fun _ _ => trivial)); (case aO => exact (by (with_reducible repeat (first | apply Kd.R_alloc | apply Kd.R_drewN | apply Kd.R_drew)); exact HO_5.out)); (case aS => exact (below_size (by repeat (first | (with_reducible first | exact HB.out | apply below_alloc | apply pw_below_drewN | apply below_drew1) | exact HB.out)))); (case aL => have := LMc8.out; omega); intro v146 w11 ho hb hg hat; rw [← Ny145.out] at ho; have n0_ := Aside0.mk (hb); have n1_ := Aside0.mk (ho); clear HB; clear HO_5; have HB := n0_; have HO147 := n1_; clear n0_ n1_; clear ho hb hg hat) | ((with_reducible refine gate_callee (f := 63) rfl ?_); refine goesL_ (some 27) rfl rfl Tryd.func63 (by kernel_rfl) rfl #[.int .u8 ((t144) % 256)] rfl (by (try simp only [List.map_toArray, List.map_cons, List.map_nil]); first | done | rfl | (simp only [List.length_drop, List.length_take]; rfl)) ?_; (with_reducible refine (tendrilref03_Form.calls k1 ((t144) % 256) t148 _ ?side1 A9.out).mono ?_); (case side1 => first | exact HGL.out | exact (Go.Proofs.YtpanmmpkdbhofaaDoorX.GL.below HGL.out (by repeat (first | (with_reducible first | exact HB.out | apply below_alloc | apply pw_below_drewN | apply below_drew1) | exact HB.out))) | (repeat (first | exact HGL.out | (with_reducible refine Go.Proofs.YtpanmmpkdbhofaaDoorX.GL.drewN ?_ _) | (with_reducible refine Go.Proofs.YtpanmmpkdbhofaaDoorX.GL.drew ?_)))); rintro e w12 ⟨rfl, hb⟩; refine ⟨_, rfl, ?_⟩; have n0_ := Aside0.mk (Kd.R_below (by (with_reducible repeat (first | apply Kd.R_alloc | apply Kd.R_drewN | apply Kd.R_drew)); exact HO147.out) hb); have n1_ := Aside0.mk (below_step (by repeat (first | (with_reducible first | exact HB.out | apply below_alloc | apply pw_below_drewN | apply below_drew1) | exact HB.out)) hb); clear HO147; clear HB; have HO147 := n0_; have HB := n1_; clear n0_ n1_; (try clear hb); (try clear hb2); (try clear hk); (try clear hi)))
                go_roundg k1
                case measure => have := HK1.out; omega
                case rel => exact ⟨(y145), (wrap64 (x6_1 + (t148.size : Int))), (by first | rfl | (simp; done) | (simp [*]; done)), H', ⟨by have := HK1.out; omega⟩, ⟨by (with_reducible repeat (first | apply Kd.R_alloc | apply Kd.R_drewN | apply Kd.R_drew)); exact HO147.out⟩, ⟨by repeat (first | (with_reducible first | exact HB.out | apply below_alloc | apply pw_below_drewN | apply below_drew1) | exact HB.out)⟩⟩
              · rw [if_neg c8] at H
                exact absurd H (by simp)
          · rw [if_neg c4] at H
            exact absurd H (by simp)
        · rw [if_neg c3] at H
          exact absurd H (by simp)
      · rw [if_neg c2] at H
        have c2b0 : decide (x6_1 < (a0.size : Int)) = false := decide_eq_false c2
        clear c2
        simp only [Option.some.injEq, Prod.mk.injEq] at H
        obtain ⟨rfl, rfl, rfl⟩ := H
        have hcv13 := own_string (P := Tryd.prog) Tryd.underlying73 Tryd.underlying5 Tryd.underlying9 (Kd.own_of_R HO_5.out)
        go_wp2
        go_ret3
        exact ⟨by first | rfl | (simp [errW_none, errW_some] <;> rfl) | (simp [*, errW_none, errW_some] <;> rfl), by repeat (first | (with_reducible first | exact HB.out | apply below_alloc | apply pw_below_drewN | apply below_drew1) | exact HB.out)⟩

def tendrilref03_Escape.l0 : Nat → ByteArray → ByteArray → Int → Int → Option (ByteArray)
  | 0, _, _, _, _ => none
  | k + 1, x0, x3, x6, x7 => if x7 < x6 then (if 0 ≤ x7 then (if x7 < (x0.size : Int) then ((tendrilref03_Form.f k (bt x0 x7)).bind fun t150 => (if x3.size + t150.size ≤ 9223372036854775807 then (tendrilref03_Escape.l0 k x0 (x3 ++ t150) x6 (wrap64 (x7 + 1))) else (none))) else (none)) else (none)) else (some x3)
def tendrilref03_Escape.f (k : Nat) (a0 : ByteArray) : Option (ByteArray) := tendrilref03_Escape.l0 k a0 (⟨#[]⟩ : ByteArray) (a0.size : Int) 0
theorem tendrilref03_Escape.mono_l : ∀ k, (∀ y0 y1 y2 y3, LeO (tendrilref03_Escape.l0 k y0 y1 y2 y3) (tendrilref03_Escape.l0 (k + 1) y0 y1 y2 y3))
  | 0 => fun _ _ _ _ r h => by simp [tendrilref03_Escape.l0] at h
  | k + 1 => by
    have ih0 := tendrilref03_Escape.mono_l k
    · intro y0 y1 y2 y3
      unfold tendrilref03_Escape.l0
      repeat' first
      | (with_reducible exact ih0 _ _ _ _)
      | (with_reducible exact tendrilref03_Form.mono _ _)
      | (with_reducible exact LeO.refl _)
      | (with_reducible exact LeO.none _)
      | (with_reducible refine LeO.ite ?_ ?_)
      | (with_reducible refine LeO.bind ?_ (fun _ => ?_))
      | exact ih0 _ _ _ _
      | exact tendrilref03_Form.mono _ _
      | exact LeO.none _
      | refine LeO.ite ?_ ?_
      | refine LeO.bind ?_ (fun _ => ?_)
theorem tendrilref03_Escape.mono : ∀ a0 k, LeO (tendrilref03_Escape.f k a0) (tendrilref03_Escape.f (k + 1) a0) := by
  intro a0 k
  have ih0 := tendrilref03_Escape.mono_l k
  unfold tendrilref03_Escape.f
  repeat' first
      | (with_reducible exact ih0 _ _ _ _)
      | (with_reducible exact tendrilref03_Form.mono _ _)
      | (with_reducible exact LeO.refl _)
      | (with_reducible exact LeO.none _)
      | (with_reducible refine LeO.ite ?_ ?_)
      | (with_reducible refine LeO.bind ?_ (fun _ => ?_))
      | exact ih0 _ _ _ _
      | exact tendrilref03_Form.mono _ _
      | exact LeO.none _
      | refine LeO.ite ?_ ?_
      | refine LeO.bind ?_ (fun _ => ?_)
set_option maxHeartbeats 8000000 in
set_option maxRecDepth 100000 in
theorem tendrilref03_Escape.calls (k : Nat) (a0 : ByteArray) (r : ByteArray) (w : World) (hgl : Go.Proofs.YtpanmmpkdbhofaaDoorX.GL w) (h : tendrilref03_Escape.f k a0 = some r) :
    Calls Tryd.prog 35 #[.string a0] w fun e w' => e = .returned (.string r) ∧ Below w.heap.size w w' := by
  have HGL := Aside0.mk hgl
  clear hgl
  have HB := Aside0.mk (Below.refl w.heap.size w)
  have H : (tendrilref03_Escape.l0 k a0 (⟨#[]⟩ : ByteArray) (a0.size : Int) 0) = some r := h
  clear h
  have H' := Aside0.mk H
  clear H
  go_enter Tryd.func35, Tryd.ntmps35
  go_wp2
  go_loopg [3, 7] k (fun kq v3 v7 w' => ∃ (x3_1 : ByteArray) (x7_1 : Int), v3 = .string x3_1 ∧ v7 = .int .i64 x7_1 ∧ Aside0 (tendrilref03_Escape.l0 kq a0 x3_1 (a0.size : Int) x7_1 = some r) ∧ Aside0 (kq ≤ k) ∧ Aside0 (Below w.heap.size w w'))
  case atStart => exact ⟨((⟨#[]⟩ : ByteArray)), (0), (by first | rfl | (simp; done) | (simp [*]; done)), (by first | rfl | (simp; done) | (simp [*]; done)), H', ⟨Nat.le_refl _⟩, ⟨by repeat (first | (with_reducible first | exact HB.out | apply below_alloc | apply pw_below_drewN | apply below_drew1) | exact HB.out)⟩⟩
  case round =>
    clear H'
    obtain ⟨x3_1, x7_1, rfl, rfl, HA, HK1, HB⟩ := hrel
    cases gk with
    | zero => exact absurd HA.out (by simp [tendrilref03_Escape.l0])
    | succ k1 =>
      have H := HA.out
      clear HA
      simp only [tendrilref03_Escape.l0] at H
      by_cases c2 : x7_1 < (a0.size : Int)
      · rw [if_pos c2] at H
        have c2b0 : decide (x7_1 < (a0.size : Int)) = true := decide_eq_true c2
        clear c2
        by_cases c3 : 0 ≤ x7_1
        · rw [if_pos c3] at H
          have c3b0 : decide (0 ≤ x7_1) = true := decide_eq_true c3
          clear c3
          by_cases c4 : x7_1 < (a0.size : Int)
          · rw [if_pos c4] at H
            have c4b0 : decide (x7_1 < (a0.size : Int)) = true := decide_eq_true c4
            clear c4
            replace H := Option.bind_eq_some_iff.mp H
            obtain ⟨t150, A60, H⟩ := H
            replace H : (if x3_1.size + t150.size ≤ 9223372036854775807 then (tendrilref03_Escape.l0 k1 a0 (x3_1 ++ t150) (a0.size : Int) (wrap64 (x7_1 + 1))) else (none)) = some r := H
            have A6 := Aside0.mk A60
            clear A60
            by_cases c7 : x3_1.size + t150.size ≤ 9223372036854775807
            · rw [if_pos c7] at H
              have c7b0 := eq_true c7
              have c7b1 : decide (x3_1.size + t150.size ≤ 9223372036854775807) = true := decide_eq_true c7
              try have c7b2 : (9223372036854775807 < x3_1.size + t150.size) = False := eq_false (Nat.not_lt.2 c7)
              have H' := Aside0.mk H
              clear H
              have p5 : 0 ≤ (x7_1 : Int) := of_decide_eq_true (by first | (with_reducible assumption) | assumption)
              have q5 : x7_1 < (a0.size : Int) := of_decide_eq_true (by first | (with_reducible assumption) | assumption)
              have hx5 := bt_at a0 x7_1
              replace p5 := eq_true p5
              replace q5 := eq_true q5
              go_wp2_with (first | ((with_reducible refine gate_callee (f := 63) rfl ?_); refine goesL_ (some 14) rfl rfl Tryd.func63 (by kernel_rfl) rfl #[.int .u8 (bt a0 x7_1)] rfl (by (try simp only [List.map_toArray, List.map_cons, List.map_nil]); first | done | rfl | (simp only [List.length_drop, List.length_take]; rfl)) ?_; (with_reducible refine (tendrilref03_Form.calls k1 (bt a0 x7_1) t150 _ ?side1 A6.out).mono ?_); (case side1 => first | exact HGL.out | exact (Go.Proofs.YtpanmmpkdbhofaaDoorX.GL.below HGL.out (by repeat (first | (with_reducible first | exact HB.out | apply below_alloc | apply pw_below_drewN | apply below_drew1) | exact HB.out))) | (repeat (first | exact HGL.out | (with_reducible refine Go.Proofs.YtpanmmpkdbhofaaDoorX.GL.drewN ?_ _) | (with_reducible refine Go.Proofs.YtpanmmpkdbhofaaDoorX.GL.drew ?_)))); rintro e w8 ⟨rfl, hb⟩; refine ⟨_, rfl, ?_⟩; have n0_ := Aside0.mk (below_step (by repeat (first | (with_reducible first | exact HB.out | apply below_alloc | apply pw_below_drewN | apply below_drew1) | exact HB.out)) hb); clear HB; have HB := n0_; clear n0_; (try clear hb); (try clear hb2); (try clear hk); (try clear hi)))
              go_roundg k1
              case measure => have := HK1.out; omega
              case rel => exact ⟨(x3_1 ++ t150), (wrap64 (x7_1 + 1)), (by first | rfl | (simp; done) | (simp [*]; done)), (by first | rfl | (simp; done) | (simp [*]; done)), H', ⟨by have := HK1.out; omega⟩, ⟨by repeat (first | (with_reducible first | exact HB.out | apply below_alloc | apply pw_below_drewN | apply below_drew1) | exact HB.out)⟩⟩
            · rw [if_neg c7] at H
              exact absurd H (by simp)
          · rw [if_neg c4] at H
            exact absurd H (by simp)
        · rw [if_neg c3] at H
          exact absurd H (by simp)
      · rw [if_neg c2] at H
        have c2b0 : decide (x7_1 < (a0.size : Int)) = false := decide_eq_false c2
        clear c2
        obtain rfl := Option.some.inj H
        go_wp2
        go_ret
        exact ⟨by first | rfl | (simp [errW_none, errW_some] <;> rfl) | (simp [*, errW_none, errW_some] <;> rfl), by repeat (first | (with_reducible first | exact HB.out | apply below_alloc | apply pw_below_drewN | apply below_drew1) | exact HB.out)⟩

def tendrilref12_Text.f (k : Nat) (a0_0 : ByteArray) (a0_1 : ByteArray) (a0_2 : Int) : Option (ByteArray) := if a0_1.toList = ([] : List UInt8) then (if a0_0.size + 1 ≤ 9223372036854775807 then ((tendrilref02_Decimal.f k a0_2).bind fun t152 => (if (a0_0 ++ (⟨#[58]⟩ : ByteArray)).size + t152.size ≤ 9223372036854775807 then (some ((a0_0 ++ (⟨#[58]⟩ : ByteArray)) ++ t152)) else (none))) else (none)) else (if a0_0.size + 1 ≤ 9223372036854775807 then ((tendrilref03_Escape.f k a0_1).bind fun t153 => (if (a0_0 ++ (⟨#[35]⟩ : ByteArray)).size + t153.size ≤ 9223372036854775807 then (some ((a0_0 ++ (⟨#[35]⟩ : ByteArray)) ++ t153)) else (none))) else (none))
theorem tendrilref12_Text.mono : ∀ a0 a1 a2 k, LeO (tendrilref12_Text.f k a0 a1 a2) (tendrilref12_Text.f (k + 1) a0 a1 a2) := by
  intro a0 a1 a2 k
  unfold tendrilref12_Text.f
  repeat' first
      | (with_reducible exact tendrilref02_Decimal.mono _ _)
      | (with_reducible exact tendrilref03_Escape.mono _ _)
      | (with_reducible exact LeO.refl _)
      | (with_reducible exact LeO.none _)
      | (with_reducible refine LeO.ite ?_ ?_)
      | (with_reducible refine LeO.bind ?_ (fun _ => ?_))
      | exact tendrilref02_Decimal.mono _ _
      | exact tendrilref03_Escape.mono _ _
      | exact LeO.none _
      | refine LeO.ite ?_ ?_
      | refine LeO.bind ?_ (fun _ => ?_)
def tendrilref12_Text.T2 : Bool × List (List Nat × List Nat) := (true, [([], []), ([0], [0]), ([1], [1]), ([], []), ([3], [3]), ([4], [4]), ([2, 5], [2, 5]), ([6, 5, 0, 1, 2, 3, 4, 5, 6], [6])])
def tendrilref12_Text.B2 : List Nat := [0, 1, 3, 0, 8, 24, 63, 127]
theorem tendrilref12_Text.tab2 : rtab .any (opsOf Tryd.f48 2) = tendrilref12_Text.T2 := by kernel_rfl
theorem tendrilref12_Text.bits2 : waitsOk tendrilref12_Text.T2.2 tendrilref12_Text.B2 = true := by kernel_rfl
def tendrilref12_Text.T3 : Bool × List (List Nat × List Nat) := (true, [([], []), ([0], [0]), ([1], [1]), ([], []), ([3], [3]), ([4], [4]), ([2, 5], [2, 5]), ([6, 5, 0, 1, 2, 3, 4, 5, 6], [6])])
def tendrilref12_Text.B3 : List Nat := [0, 1, 3, 0, 8, 24, 63, 127]
theorem tendrilref12_Text.tab3 : rtab .any (opsOf Tryd.f48 3) = tendrilref12_Text.T3 := by kernel_rfl
theorem tendrilref12_Text.bits3 : waitsOk tendrilref12_Text.T3.2 tendrilref12_Text.B3 = true := by kernel_rfl
set_option maxHeartbeats 8000000 in
set_option maxRecDepth 100000 in
theorem tendrilref12_Text.calls (k : Nat) (a0_0 : ByteArray) (a0_1 : ByteArray) (a0_2 : Int) (r : ByteArray) (w : World) (hgl : Go.Proofs.YtpanmmpkdbhofaaDoorX.GL w) (h : tendrilref12_Text.f k a0_0 a0_1 a0_2 = some r) :
    Calls Tryd.prog 48 #[.agg #[.string a0_0, .string a0_1, .int .i64 a0_2]] w fun e w' => e = .returned (.string r) ∧ Below w.heap.size w w' := by
  have hu56 := Tryd.underlying56
  have HGL := Aside0.mk hgl
  clear hgl
  have HB := Aside0.mk (Below.refl w.heap.size w)
  have H : (if a0_1.toList = ([] : List UInt8) then (if a0_0.size + 1 ≤ 9223372036854775807 then ((tendrilref02_Decimal.f k a0_2).bind fun t152 => (if (a0_0 ++ (⟨#[58]⟩ : ByteArray)).size + t152.size ≤ 9223372036854775807 then (some ((a0_0 ++ (⟨#[58]⟩ : ByteArray)) ++ t152)) else (none))) else (none)) else (if a0_0.size + 1 ≤ 9223372036854775807 then ((tendrilref03_Escape.f k a0_1).bind fun t153 => (if (a0_0 ++ (⟨#[35]⟩ : ByteArray)).size + t153.size ≤ 9223372036854775807 then (some ((a0_0 ++ (⟨#[35]⟩ : ByteArray)) ++ t153)) else (none))) else (none))) = some r := h
  clear h
  by_cases c2 : a0_1.toList = ([] : List UInt8)
  · rw [if_pos c2] at H
    have c2b0 : (a0_1.toList == ([] : List UInt8)) = true := beq_iff_eq.mpr c2
    have c2b1 : (a0_1.toList != ([] : List UInt8)) = false := bne_eq_false_iff_eq.mpr c2
    clear c2
    by_cases c3 : a0_0.size + 1 ≤ 9223372036854775807
    · rw [if_pos c3] at H
      have c3b0 := eq_true c3
      have c3b1 : decide (a0_0.size + 1 ≤ 9223372036854775807) = true := decide_eq_true c3
      try have c3b2 : (9223372036854775807 < a0_0.size + 1) = False := eq_false (Nat.not_lt.2 c3)
      replace H := Option.bind_eq_some_iff.mp H
      obtain ⟨t152, A40, H⟩ := H
      replace H : (if (a0_0 ++ (⟨#[58]⟩ : ByteArray)).size + t152.size ≤ 9223372036854775807 then (some ((a0_0 ++ (⟨#[58]⟩ : ByteArray)) ++ t152)) else (none)) = some r := H
      have A4 := Aside0.mk A40
      clear A40
      by_cases c5 : (a0_0 ++ (⟨#[58]⟩ : ByteArray)).size + t152.size ≤ 9223372036854775807
      · rw [if_pos c5] at H
        have c5b0 := eq_true c5
        have c5b1 : decide ((a0_0 ++ (⟨#[58]⟩ : ByteArray)).size + t152.size ≤ 9223372036854775807) = true := decide_eq_true c5
        try have c5b2 : (9223372036854775807 < (a0_0 ++ (⟨#[58]⟩ : ByteArray)).size + t152.size) = False := eq_false (Nat.not_lt.2 c5)
        have c5b2x : (9223372036854775807 < a0_0.size + 1 + t152.size) = False := eq_false (Nat.not_lt.2 (by have h_ := c5; rw [ByteArray.size_append] at h_; exact h_))
        obtain rfl := Option.some.inj H
        go_enter Tryd.func48, Tryd.ntmps48
        try go_wp2_with (first | ((with_reducible refine gate_dst (N := 1) rfl ?_); refine box_event ?hg (N := 1) ?hd (cs := #[.string a0_0, .string a0_1, .int .i64 a0_2]) (t := 56) ?hr ?_; (case hd => rfl); (case hg => rfl); (case hr => first | (go_simp; done) | (go_simp; rfl)); intro gb151 hg w6 hbox hb; have n0_ := Aside0.mk (below_step (by repeat (first | (with_reducible first | exact HB.out | apply below_alloc | apply pw_below_drewN | apply below_drew1) | exact HB.out)) hb); have n1_ := Aside0.mk (hbox); have n2_ := Aside0.mk ((by rw [hg]; exact (below_size (by repeat (first | (with_reducible first | exact HB.out | apply below_alloc | apply pw_below_drewN | apply below_drew1) | exact HB.out))) : w.heap.size ≤ gb151)); have n3_ := Aside0.mk ((by rw [hg]; exact (below_size (by repeat (first | (with_reducible first | exact HB.out | apply below_alloc | apply pw_below_drewN | apply below_drew1) | exact HB.out))) : w.heap.size ≤ gb151)); clear HB; have HB := n0_; have BK151 := n1_; have GW151 := n2_; have GE151 := n3_; clear n0_ n1_ n2_ n3_; clear hb hbox hg; have hcz7_0 : w6.cell? ⟨gb151, 0, none⟩ = some (.string a0_0) := (blk_cell BK151.out 0).trans rfl; have hcz7_1 : w6.cell? ⟨gb151, 1, none⟩ = some (.string a0_1) := (blk_cell BK151.out 1).trans rfl; have hcz7_2 : w6.cell? ⟨gb151, 2, none⟩ = some (.int .i64 a0_2) := (blk_cell BK151.out 2).trans rfl; have hfz7_0 := blk_frozen BK151.out 0; have hfz7_1 := blk_frozen BK151.out 1; have hfz7_2 := blk_frozen BK151.out 2))
        have n0_ := Aside0.mk (blk_drew BK151.out)
        have n1_ := Aside0.mk (below_drew1 HB.out)
        clear BK151
        clear HB
        have BK151 := n0_
        have HB := n1_
        clear n0_ n1_
        refine start_ (n := 8) (S := fun w' => w'.cell? ⟨gb151, 0, none⟩ = some (.string a0_0) ∧ w'.cell? ⟨gb151, 1, none⟩ = some (.string a0_1) ∧ w'.cell? ⟨gb151, 2, none⟩ = some (.int .i64 a0_2)) (ds := []) #[false, false, false, false, false, false, false, false] (by kernel_rfl) rfl rfl ⟨(blk_cell BK151.out 0).trans rfl, (blk_cell BK151.out 1).trans rfl, (blk_cell BK151.out 2).trans rfl⟩ (fun hHeld => ?_); refine with_tabW tendrilref12_Text.tab3 tendrilref12_Text.bits3 (fun HT_ HW_ => ?_)
        generalize w6.drew = w8 at BK151 HB hHeld ⊢
        refine pure_ (i := 0) (N := some 13) (v := ?_) (a' := ?_) #[true, false, false, false, false, false, false, false] rfl rfl (any_of HT_.out (by kernel_rfl)) (fun _ _ _ h => h) (Or.inl ⟨by rfl, ?_⟩) ?_ ?_
        rotate_left
        · intro w'
          go_simp
          with_reducible rfl
        rotate_left
        · simp only [Act.put, List.setIfInBounds_toArray, List.set_cons_zero, List.set_cons_succ, i64_w, i32_w]
          rfl
        refine pure_ (i := 3) (N := some 16) (v := ?_) (a' := ?_) #[true, false, false, true, false, false, false, false] rfl rfl (any_of HT_.out (by kernel_rfl)) (fun _ _ _ h => h) (Or.inl ⟨by rfl, ?_⟩) ?_ ?_
        rotate_left
        · intro w'
          go_simp
          with_reducible rfl
        rotate_left
        · simp only [Act.put, List.setIfInBounds_toArray, List.set_cons_zero, List.set_cons_succ, i64_w, i32_w]
          rfl
        refine take_ (i := 1) (N := some 14) (v := ?_) (a' := ?_) #[true, true, false, true, false, false, false, false] rfl rfl (take_ofW HT_.out HW_.out (by kernel_rfl)) (fun _ _ _ h => h) (Or.inl ⟨by rfl, ?_⟩) hHeld ?_ ?_
        rotate_left
        · rintro w' ⟨s0, s1, s2⟩
          go_simp
          with_reducible rfl
        rotate_left
        · simp only [Act.put, List.setIfInBounds_toArray, List.set_cons_zero, List.set_cons_succ, i64_w, i32_w]
          rfl
        refine pure_ (i := 2) (N := some 15) (v := ?_) (a' := ?_) #[true, true, true, true, false, false, false, false] rfl rfl (any_of HT_.out (by kernel_rfl)) (fun _ _ _ h => h) (Or.inl ⟨by rfl, ?_⟩) ?_ ?_
        rotate_left
        · intro w'
          go_simp
          with_reducible rfl
        rotate_left
        · simp only [Act.put, List.setIfInBounds_toArray, List.set_cons_zero, List.set_cons_succ, i64_w, i32_w]
          rfl
        refine take_ (i := 4) (N := some 17) (v := ?_) (a' := ?_) #[true, true, true, true, true, false, false, false] rfl rfl (take_ofW HT_.out HW_.out (by kernel_rfl)) (fun _ _ _ h => h) (Or.inl ⟨by rfl, ?_⟩) hHeld ?_ ?_
        rotate_left
        · rintro w' ⟨s0, s1, s2⟩
          go_simp
          with_reducible rfl
        rotate_left
        · simp only [Act.put, List.setIfInBounds_toArray, List.set_cons_zero, List.set_cons_succ, i64_w, i32_w]
          rfl
        refine one_ (i := 5) (N := some 18) #[true, true, true, true, true, true, false, false] rfl rfl (one_of HT_.out (by kernel_rfl)) (by decide) (fun K hK => ?_)
        refine goes_ Tryd.func20 (by kernel_rfl) rfl #[.int .i64 a0_2] (by rfl) rfl rfl (by (try simp only [List.map_toArray, List.map_cons, List.map_nil]); first | done | rfl | (simp only [List.length_drop, List.length_take]; rfl)) ?_
        with_reducible refine (tendrilref02_Decimal.calls k a0_2 t152 _ ?side1 A4.out).mono ?_
        (case side1 => first | exact HGL.out | exact (Go.Proofs.YtpanmmpkdbhofaaDoorX.GL.below HGL.out (by repeat (first | (with_reducible first | exact HB.out | apply below_alloc | apply pw_below_drewN | apply below_drew1 | refine below_set ?_ GE151.out) | exact HB.out))) | (repeat (first | exact HGL.out | (with_reducible refine Go.Proofs.YtpanmmpkdbhofaaDoorX.GL.drewN ?_ _) | (with_reducible refine Go.Proofs.YtpanmmpkdbhofaaDoorX.GL.drew ?_))))
        rintro e w9 ⟨rfl, hb⟩
        refine ⟨_, rfl, ?_⟩
        have n0_ := Aside0.mk (blk_below (g := gb151) (o := .cells #[.string a0_0, .string a0_1, .int .i64 a0_2] 56 (0, 0)) (by (with_reducible repeat (first | refine blk_drewN ?_ _ | refine blk_drew ?_ | refine blk_alloc ?_ _)); exact BK151.out) hb)
        have n1_ := Aside0.mk (below_step (by repeat (first | (with_reducible first | exact HB.out | apply below_alloc | apply pw_below_drewN | apply below_drew1 | refine below_set ?_ GE151.out) | exact HB.out)) hb)
        clear BK151
        clear HB
        have BK151 := n0_
        have HB := n1_
        clear n0_ n1_
        (try clear hb)
        (try clear hb2)
        (try clear hk)
        (try clear hi)
        refine hK.out _ _ ⟨(blk_cell BK151.out 0).trans rfl, (blk_cell BK151.out 1).trans rfl, (blk_cell BK151.out 2).trans rfl⟩ (fun hHeld => ?_)
        clear hK K
        refine norm_ (a' := ?_) ?_ ?_
        rotate_left
        · show Act.put _ (some 18) _ = _
          simp only [Act.put, List.setIfInBounds_toArray, List.set_cons_zero, List.set_cons_succ, i64_w, i32_w]
          rfl
        refine pure_ (i := 6) (N := some 19) (v := ?_) (a' := ?_) #[true, true, true, true, true, true, true, false] rfl rfl (any_of HT_.out (by kernel_rfl)) (fun _ _ _ h => h) (Or.inl ⟨by rfl, ?_⟩) ?_ ?_
        rotate_left
        · intro w'
          go_simp
          with_reducible rfl
        rotate_left
        · simp only [Act.put, List.setIfInBounds_toArray, List.set_cons_zero, List.set_cons_succ, i64_w, i32_w]
          rfl
        refine pure_ (i := 7) (N := some 2) (v := ?_) (a' := ?_) #[true, true, true, true, true, true, true, true] rfl rfl (any_of HT_.out (by kernel_rfl)) (fun _ _ _ h => h) (Or.inl ⟨by rfl, ?_⟩) ?_ ?_
        rotate_left
        · intro w'
          go_simp
          with_reducible rfl
        rotate_left
        · simp only [Act.put, List.setIfInBounds_toArray, List.set_cons_zero, List.set_cons_succ, i64_w, i32_w]
          rfl
        refine done_ (done_of HT_.out (by kernel_rfl)) ?_
        try go_wp2
        go_ret
        exact ⟨by first | rfl | (simp [errW_none, errW_some] <;> rfl) | (simp [*, errW_none, errW_some] <;> rfl), by repeat (first | (with_reducible first | exact HB.out | apply below_alloc | apply pw_below_drewN | apply below_drew1 | refine below_set ?_ GE151.out) | exact HB.out)⟩
      · rw [if_neg c5] at H
        exact absurd H (by simp)
    · rw [if_neg c3] at H
      exact absurd H (by simp)
  · rw [if_neg c2] at H
    have c2b0 : (a0_1.toList == ([] : List UInt8)) = false := beq_eq_false_iff_ne.mpr c2
    have c2b1 : (a0_1.toList != ([] : List UInt8)) = true := bne_iff_ne.mpr c2
    by_cases c10 : a0_0.size + 1 ≤ 9223372036854775807
    · rw [if_pos c10] at H
      have c10b0 := eq_true c10
      have c10b1 : decide (a0_0.size + 1 ≤ 9223372036854775807) = true := decide_eq_true c10
      try have c10b2 : (9223372036854775807 < a0_0.size + 1) = False := eq_false (Nat.not_lt.2 c10)
      replace H := Option.bind_eq_some_iff.mp H
      obtain ⟨t153, A110, H⟩ := H
      replace H : (if (a0_0 ++ (⟨#[35]⟩ : ByteArray)).size + t153.size ≤ 9223372036854775807 then (some ((a0_0 ++ (⟨#[35]⟩ : ByteArray)) ++ t153)) else (none)) = some r := H
      have A11 := Aside0.mk A110
      clear A110
      by_cases c12 : (a0_0 ++ (⟨#[35]⟩ : ByteArray)).size + t153.size ≤ 9223372036854775807
      · rw [if_pos c12] at H
        have c12b0 := eq_true c12
        have c12b1 : decide ((a0_0 ++ (⟨#[35]⟩ : ByteArray)).size + t153.size ≤ 9223372036854775807) = true := decide_eq_true c12
        try have c12b2 : (9223372036854775807 < (a0_0 ++ (⟨#[35]⟩ : ByteArray)).size + t153.size) = False := eq_false (Nat.not_lt.2 c12)
        have c12b2x : (9223372036854775807 < a0_0.size + 1 + t153.size) = False := eq_false (Nat.not_lt.2 (by have h_ := c12; rw [ByteArray.size_append] at h_; exact h_))
        obtain rfl := Option.some.inj H
        go_enter Tryd.func48, Tryd.ntmps48
        try go_wp2_with (first | ((with_reducible refine gate_dst (N := 1) rfl ?_); refine box_event ?hg (N := 1) ?hd (cs := #[.string a0_0, .string a0_1, .int .i64 a0_2]) (t := 56) ?hr ?_; (case hd => rfl); (case hg => rfl); (case hr => first | (go_simp; done) | (go_simp; rfl)); intro gb151 hg w13 hbox hb; have n0_ := Aside0.mk (below_step (by repeat (first | (with_reducible first | exact HB.out | apply below_alloc | apply pw_below_drewN | apply below_drew1) | exact HB.out)) hb); have n1_ := Aside0.mk (hbox); have n2_ := Aside0.mk ((by rw [hg]; exact (below_size (by repeat (first | (with_reducible first | exact HB.out | apply below_alloc | apply pw_below_drewN | apply below_drew1) | exact HB.out))) : w.heap.size ≤ gb151)); have n3_ := Aside0.mk ((by rw [hg]; exact (below_size (by repeat (first | (with_reducible first | exact HB.out | apply below_alloc | apply pw_below_drewN | apply below_drew1) | exact HB.out))) : w.heap.size ≤ gb151)); clear HB; have HB := n0_; have BK151 := n1_; have GW151 := n2_; have GE151 := n3_; clear n0_ n1_ n2_ n3_; clear hb hbox hg; have hcz14_0 : w13.cell? ⟨gb151, 0, none⟩ = some (.string a0_0) := (blk_cell BK151.out 0).trans rfl; have hcz14_1 : w13.cell? ⟨gb151, 1, none⟩ = some (.string a0_1) := (blk_cell BK151.out 1).trans rfl; have hcz14_2 : w13.cell? ⟨gb151, 2, none⟩ = some (.int .i64 a0_2) := (blk_cell BK151.out 2).trans rfl; have hfz14_0 := blk_frozen BK151.out 0; have hfz14_1 := blk_frozen BK151.out 1; have hfz14_2 := blk_frozen BK151.out 2))
        have n0_ := Aside0.mk (blk_drew BK151.out)
        have n1_ := Aside0.mk (below_drew1 HB.out)
        clear BK151
        clear HB
        have BK151 := n0_
        have HB := n1_
        clear n0_ n1_
        refine start_ (n := 8) (S := fun w' => w'.cell? ⟨gb151, 0, none⟩ = some (.string a0_0) ∧ w'.cell? ⟨gb151, 1, none⟩ = some (.string a0_1) ∧ w'.cell? ⟨gb151, 2, none⟩ = some (.int .i64 a0_2)) (ds := []) #[false, false, false, false, false, false, false, false] (by kernel_rfl) rfl rfl ⟨(blk_cell BK151.out 0).trans rfl, (blk_cell BK151.out 1).trans rfl, (blk_cell BK151.out 2).trans rfl⟩ (fun hHeld => ?_); refine with_tabW tendrilref12_Text.tab2 tendrilref12_Text.bits2 (fun HT_ HW_ => ?_)
        generalize w13.drew = w15 at BK151 HB hHeld ⊢
        refine pure_ (i := 0) (N := some 6) (v := ?_) (a' := ?_) #[true, false, false, false, false, false, false, false] rfl rfl (any_of HT_.out (by kernel_rfl)) (fun _ _ _ h => h) (Or.inl ⟨by rfl, ?_⟩) ?_ ?_
        rotate_left
        · intro w'
          go_simp
          with_reducible rfl
        rotate_left
        · simp only [Act.put, List.setIfInBounds_toArray, List.set_cons_zero, List.set_cons_succ, i64_w, i32_w]
          rfl
        refine pure_ (i := 3) (N := some 9) (v := ?_) (a' := ?_) #[true, false, false, true, false, false, false, false] rfl rfl (any_of HT_.out (by kernel_rfl)) (fun _ _ _ h => h) (Or.inl ⟨by rfl, ?_⟩) ?_ ?_
        rotate_left
        · intro w'
          go_simp
          with_reducible rfl
        rotate_left
        · simp only [Act.put, List.setIfInBounds_toArray, List.set_cons_zero, List.set_cons_succ, i64_w, i32_w]
          rfl
        refine take_ (i := 1) (N := some 7) (v := ?_) (a' := ?_) #[true, true, false, true, false, false, false, false] rfl rfl (take_ofW HT_.out HW_.out (by kernel_rfl)) (fun _ _ _ h => h) (Or.inl ⟨by rfl, ?_⟩) hHeld ?_ ?_
        rotate_left
        · rintro w' ⟨s0, s1, s2⟩
          go_simp
          with_reducible rfl
        rotate_left
        · simp only [Act.put, List.setIfInBounds_toArray, List.set_cons_zero, List.set_cons_succ, i64_w, i32_w]
          rfl
        refine pure_ (i := 2) (N := some 8) (v := ?_) (a' := ?_) #[true, true, true, true, false, false, false, false] rfl rfl (any_of HT_.out (by kernel_rfl)) (fun _ _ _ h => h) (Or.inl ⟨by rfl, ?_⟩) ?_ ?_
        rotate_left
        · intro w'
          go_simp
          with_reducible rfl
        rotate_left
        · simp only [Act.put, List.setIfInBounds_toArray, List.set_cons_zero, List.set_cons_succ, i64_w, i32_w]
          rfl
        refine take_ (i := 4) (N := some 10) (v := ?_) (a' := ?_) #[true, true, true, true, true, false, false, false] rfl rfl (take_ofW HT_.out HW_.out (by kernel_rfl)) (fun _ _ _ h => h) (Or.inl ⟨by rfl, ?_⟩) hHeld ?_ ?_
        rotate_left
        · rintro w' ⟨s0, s1, s2⟩
          go_simp
          with_reducible rfl
        rotate_left
        · simp only [Act.put, List.setIfInBounds_toArray, List.set_cons_zero, List.set_cons_succ, i64_w, i32_w]
          rfl
        refine one_ (i := 5) (N := some 11) #[true, true, true, true, true, true, false, false] rfl rfl (one_of HT_.out (by kernel_rfl)) (by decide) (fun K hK => ?_)
        refine goes_ Tryd.func35 (by kernel_rfl) rfl #[.string a0_1] (by rfl) rfl rfl (by (try simp only [List.map_toArray, List.map_cons, List.map_nil]); first | done | rfl | (simp only [List.length_drop, List.length_take]; rfl)) ?_
        with_reducible refine (tendrilref03_Escape.calls k a0_1 t153 _ ?side1 A11.out).mono ?_
        (case side1 => first | exact HGL.out | exact (Go.Proofs.YtpanmmpkdbhofaaDoorX.GL.below HGL.out (by repeat (first | (with_reducible first | exact HB.out | apply below_alloc | apply pw_below_drewN | apply below_drew1 | refine below_set ?_ GE151.out) | exact HB.out))) | (repeat (first | exact HGL.out | (with_reducible refine Go.Proofs.YtpanmmpkdbhofaaDoorX.GL.drewN ?_ _) | (with_reducible refine Go.Proofs.YtpanmmpkdbhofaaDoorX.GL.drew ?_))))
        rintro e w16 ⟨rfl, hb⟩
        refine ⟨_, rfl, ?_⟩
        have n0_ := Aside0.mk (blk_below (g := gb151) (o := .cells #[.string a0_0, .string a0_1, .int .i64 a0_2] 56 (0, 0)) (by (with_reducible repeat (first | refine blk_drewN ?_ _ | refine blk_drew ?_ | refine blk_alloc ?_ _)); exact BK151.out) hb)
        have n1_ := Aside0.mk (below_step (by repeat (first | (with_reducible first | exact HB.out | apply below_alloc | apply pw_below_drewN | apply below_drew1 | refine below_set ?_ GE151.out) | exact HB.out)) hb)
        clear BK151
        clear HB
        have BK151 := n0_
        have HB := n1_
        clear n0_ n1_
        (try clear hb)
        (try clear hb2)
        (try clear hk)
        (try clear hi)
        refine hK.out _ _ ⟨(blk_cell BK151.out 0).trans rfl, (blk_cell BK151.out 1).trans rfl, (blk_cell BK151.out 2).trans rfl⟩ (fun hHeld => ?_)
        clear hK K
        refine norm_ (a' := ?_) ?_ ?_
        rotate_left
        · show Act.put _ (some 11) _ = _
          simp only [Act.put, List.setIfInBounds_toArray, List.set_cons_zero, List.set_cons_succ, i64_w, i32_w]
          rfl
        refine pure_ (i := 6) (N := some 12) (v := ?_) (a' := ?_) #[true, true, true, true, true, true, true, false] rfl rfl (any_of HT_.out (by kernel_rfl)) (fun _ _ _ h => h) (Or.inl ⟨by rfl, ?_⟩) ?_ ?_
        rotate_left
        · intro w'
          go_simp
          with_reducible rfl
        rotate_left
        · simp only [Act.put, List.setIfInBounds_toArray, List.set_cons_zero, List.set_cons_succ, i64_w, i32_w]
          rfl
        refine pure_ (i := 7) (N := some 2) (v := ?_) (a' := ?_) #[true, true, true, true, true, true, true, true] rfl rfl (any_of HT_.out (by kernel_rfl)) (fun _ _ _ h => h) (Or.inl ⟨by rfl, ?_⟩) ?_ ?_
        rotate_left
        · intro w'
          go_simp
          with_reducible rfl
        rotate_left
        · simp only [Act.put, List.setIfInBounds_toArray, List.set_cons_zero, List.set_cons_succ, i64_w, i32_w]
          rfl
        refine done_ (done_of HT_.out (by kernel_rfl)) ?_
        try go_wp2
        go_ret
        exact ⟨by first | rfl | (simp [errW_none, errW_some] <;> rfl) | (simp [*, errW_none, errW_some] <;> rfl), by repeat (first | (with_reducible first | exact HB.out | apply below_alloc | apply pw_below_drewN | apply below_drew1 | refine below_set ?_ GE151.out) | exact HB.out)⟩
      · rw [if_neg c12] at H
        exact absurd H (by simp)
    · rw [if_neg c10] at H
      exact absurd H (by simp)

end Go.Proofs.YtpanmmpkdbhofaaDoor.P12r

namespace Go.Proofs.YtpanmmpkdbhofaaDoor.M02
open Go Go.RowKit Go.Proofs.YtpanmmpkdbhofaaDoor.P12r Go.Proofs.YtpanmmpkdbhofaaDoorE Go.Proofs.YtpanmmpkdbhofaaDoorW.PrintWords Go.Proofs.YtpanmmpkdbhofaaDoorW.PrintLast Go.Proofs.YtpanmmpkdbhofaaDoorW.PrintMore

theorem w64 {n : Int} (h0 : -9223372036854775808 ≤ n) (h1 : n ≤ 9223372036854775807) : wrap64 n = n := by unfold wrap64; omega
/-- A string's bytes. -/
abbrev B (s : ByteArray) : List UInt8 := s.data.toList
theorem B_len (s : ByteArray) : (B s).length = s.size := data_length s
theorem toList_B (s : ByteArray) : s.toList = B s := ByteArray.toList_eq s
theorem B_inj {s t : ByteArray} (h : B s = B t) : s = t := by
  cases s; cases t; congr 1; exact Array.toList_inj.1 h
theorem bt_nat {s : ByteArray} {i : Nat} (h : i < (B s).length) : bt s (i : Int) = ((B s)[i].toNat : Int) := by
  have hs : i < s.size := by rw [← B_len]; exact h
  unfold bt
  rw [dif_pos (by simpa using hs)]
  simp only [Int.toNat_natCast]
  rfl
theorem u8_lt (c : UInt8) : c.toNat < 256 := c.toNat_lt
theorem toUInt8_toNat (c : UInt8) : ((c.toNat : Int).toNat.toUInt8) = c := by simp

def okb (more : Bool) (c : UInt8) : Bool := decide (97 ≤ c.toNat ∧ c.toNat ≤ 122) || decide (48 ≤ c.toNat ∧ c.toNat ≤ 57) || decide (c.toNat = 45) || (more && (decide (c.toNat = 58) || decide (c.toNat = 46)))
def small (c : UInt8) : Bool := decide (97 ≤ c.toNat ∧ c.toNat ≤ 122)
/-- A tag, or, with more, a name. -/
def namedS (more : Bool) (l : List UInt8) : Bool := match l with
  | [] => false
  | c :: t => decide (t.length < 32) && small c && (c :: t).all (okb more)
theorem namedS_cons (more : Bool) (c : UInt8) (t : List UInt8) : namedS more (c :: t) = (decide (t.length < 32) && small c && (c :: t).all (okb more)) := rfl
theorem small_ok (more : Bool) (c : UInt8) (h : small c = true) : okb more c = true := by
  unfold small at h; unfold okb; rw [h]; rfl
theorem small_f (c : UInt8) : chars_small.f (c.toNat : Int) = some (small c) := by
  unfold chars_small.f small
  by_cases h : (c.toNat : Int) ≥ 97
  · rw [if_pos h]; congr 1; rw [decide_eq_decide]; omega
  · rw [if_neg h]; congr 1; symm; rw [decide_eq_false_iff_not]; omega
theorem inner_f (c : UInt8) (more : Bool) : tendrilref02_inner.f (c.toNat : Int) more = some (okb more c) := by
  have hc := u8_lt c
  have key : ∀ n : Fin 256, ∀ more : Bool, tendrilref02_inner.f (n.val : Int) more = some (decide (97 ≤ n.val ∧ n.val ≤ 122) || decide (48 ≤ n.val ∧ n.val ≤ 57) || decide (n.val = 45) || (more && (decide (n.val = 58) || decide (n.val = 46)))) := by decide +kernel
  exact key ⟨c.toNat, hc⟩ more
/-- The bytes that a name may have besides. -/
def others (more : Bool) : ByteArray := if more then ⟨#[45, 58, 46]⟩ else ⟨#[45]⟩
theorem index_others (c : UInt8) (more : Bool) : (Lib.indexByte (B (others more)) c < 0) ↔ ¬ (c.toNat = 45 ∨ (more = true ∧ (c.toNat = 58 ∨ c.toNat = 46))) := by
  have key : ∀ n : Fin 256, ∀ more : Bool, (Lib.indexByte (B (others more)) n.val.toUInt8 < 0) ↔ ¬ (n.val = 45 ∨ (more = true ∧ (n.val = 58 ∨ n.val = 46))) := by decide +kernel
  have := key ⟨c.toNat, u8_lt c⟩ more
  simpa using this
theorem named_l0 (s : ByteArray) (more : Bool) (hs : s.size ≤ 1000) (d : Nat) : ∀ i : Nat, i + d = s.size →
    Ev (fun k => chars_named.l0 k s (others more) (s.size : Int) (i : Int)) (((B s).drop i).all (okb more)) := by
  induction d with
  | zero =>
    intro i hi
    rw [List.drop_eq_nil_of_le (by rw [B_len]; omega)]
    refine Ev.step (f := fun _ => some true) (fun k => ?_) (Ev.now _)
    simp only [chars_named.l0]; rw [if_neg (by omega)]
  | succ d ih =>
    intro i hi
    have hlt : i < (B s).length := by rw [B_len]; omega
    have hn := ih (i + 1) (by omega)
    rw [List.drop_eq_getElem_cons hlt, List.all_cons]
    have e2 : wrap64 ((i : Int) + 1) = ((i + 1 : Nat) : Int) := by rw [w64 (by omega) (by omega)]; omega
    have hsm := small_f (B s)[i]
    have hix := index_others (B s)[i] more
    refine Ev.step (f := fun k => if okb more (B s)[i] = true then chars_named.l0 k s (others more) (s.size : Int) ((i + 1 : Nat) : Int) else some false) (fun k => ?_) ?_
    · simp only [chars_named.l0]
      rw [if_pos (by omega), if_pos (by omega), if_pos (by omega), bt_nat hlt, hsm, Option.bind_some, e2]
      by_cases h1 : small (B s)[i] = true
      · rw [if_pos h1, if_pos (small_ok more _ h1)]
      · rw [if_neg h1]
        have h1' : ¬ (97 ≤ (B s)[i].toNat ∧ (B s)[i].toNat ≤ 122) := by simpa [small] using h1
        have hrest : ((strings_IndexByte.f (others more) ((B s)[i].toNat : Int)).bind fun t => if t < 0 then some false else chars_named.l0 k s (others more) (s.size : Int) ((i + 1 : Nat) : Int)) = if ((B s)[i].toNat = 45 ∨ (more = true ∧ ((B s)[i].toNat = 58 ∨ (B s)[i].toNat = 46))) then chars_named.l0 k s (others more) (s.size : Int) ((i + 1 : Nat) : Int) else some false := by
          unfold strings_IndexByte.f
          rw [Option.bind_some, toUInt8_toNat]
          by_cases h2 : ((B s)[i].toNat = 45 ∨ (more = true ∧ ((B s)[i].toNat = 58 ∨ (B s)[i].toNat = 46)))
          · rw [if_neg (fun h => (hix.1 h) h2), if_pos h2]
          · rw [if_pos (hix.2 h2), if_neg h2]
        have hok : okb more (B s)[i] = true ↔ (48 ≤ (B s)[i].toNat ∧ (B s)[i].toNat ≤ 57) ∨ ((B s)[i].toNat = 45 ∨ (more = true ∧ ((B s)[i].toNat = 58 ∨ (B s)[i].toNat = 46))) := by
          have hq : ¬ (97 ≤ (B s)[i].toNat ∧ (B s)[i].toNat ≤ 122) := h1'
          unfold okb
          rw [decide_eq_false hq]
          generalize (B s)[i].toNat = q at *
          cases more <;> simp <;> omega
        by_cases h3 : ((B s)[i].toNat : Int) < 48
        · rw [if_pos h3, hrest]
          by_cases h2 : ((B s)[i].toNat = 45 ∨ (more = true ∧ ((B s)[i].toNat = 58 ∨ (B s)[i].toNat = 46)))
          · rw [if_pos h2, if_pos (hok.2 (.inr h2))]
          · rw [if_neg h2, if_neg (fun h => (hok.1 h).elim (fun h => by omega) h2)]
        · rw [if_neg h3]
          by_cases h4 : ((B s)[i].toNat : Int) > 57
          · rw [if_pos h4, hrest]
            by_cases h2 : ((B s)[i].toNat = 45 ∨ (more = true ∧ ((B s)[i].toNat = 58 ∨ (B s)[i].toNat = 46)))
            · rw [if_pos h2, if_pos (hok.2 (.inr h2))]
            · rw [if_neg h2, if_neg (fun h => (hok.1 h).elim (fun h => by omega) h2)]
          · rw [if_neg h4, if_pos (hok.2 (.inl (by omega)))]
    · by_cases h : okb more (B s)[i] = true
      · rw [h, Bool.true_and]; exact Ev.congr (fun k => by rw [if_pos rfl]) hn
      · rw [Bool.eq_false_iff.2 h, Bool.false_and]; exact Ev.congr (fun k => by rw [if_neg (by decide)]) (Ev.now _)
theorem named_ev (s : ByteArray) (more : Bool) (hs : s.size ≤ 140737488351232) : Ev (fun k => chars_named.f k s (others more)) (namedS more (B s)) := by
  have bad : Ev (fun k => chars_named.j0 k s (others more) true) false := Ev.step (f := fun _ => some false) (fun k => by simp only [chars_named.j0]; rw [if_pos trivial]) (Ev.now _)
  unfold chars_named.f
  rw [toList_B]
  by_cases h0 : B s = []
  · exact Ev.congr (f := fun k => chars_named.j0 k s (others more) true) (fun k => by rw [if_pos h0]) (by rw [h0]; exact bad)
  · obtain ⟨c, t, e⟩ := List.exists_cons_of_ne_nil h0
    have hl : s.size = t.length + 1 := by rw [← B_len, e]; rfl
    have hb0 : bt s 0 = (c.toNat : Int) := by
      have := bt_nat (s := s) (i := 0) (by rw [e]; simp)
      simp only [e] at this
      simpa using this
    by_cases h1 : (s.size : Int) > 32
    · have : namedS more (B s) = false := by rw [e]; rw [namedS_cons]; simp; omega
      rw [this]
      exact Ev.congr (f := fun k => chars_named.j0 k s (others more) true) (fun k => by rw [if_neg h0, if_pos h1]) bad
    · have hall := named_l0 s more (by omega) s.size 0 (by omega)
      rw [List.drop_zero] at hall
      refine Ev.congr (f := fun k => chars_named.j0 k s (others more) (!small c)) (fun k => by rw [if_neg h0, if_neg h1, if_pos (by omega), hb0, small_f, Option.bind_some]) ?_
      by_cases h2 : small c = true
      · have : namedS more (B s) = (B s).all (okb more) := by rw [e]; rw [namedS_cons, h2, decide_eq_true (by omega)]; simp
        rw [this, h2]
        refine Ev.step (fun k => ?_) hall
        simp only [chars_named.j0]; rw [if_neg (by decide)]; rfl
      · have : namedS more (B s) = false := by rw [e]; rw [namedS_cons, Bool.eq_false_iff.2 h2]; simp
        rw [this, Bool.eq_false_iff.2 h2]; exact bad
theorem rnamed_l0 (s : ByteArray) (more : Bool) (hs : s.size ≤ 1000) (d : Nat) : ∀ i : Nat, i + d = s.size →
    Ev (fun k => tendrilref02_Named.l0 k s more (i : Int)) (((B s).drop i).all (okb more)) := by
  induction d with
  | zero =>
    intro i hi
    rw [List.drop_eq_nil_of_le (by rw [B_len]; omega)]
    refine Ev.step (f := fun _ => some true) (fun k => ?_) (Ev.now _)
    simp only [tendrilref02_Named.l0]; rw [if_neg (by omega)]
  | succ d ih =>
    intro i hi
    have hlt : i < (B s).length := by rw [B_len]; omega
    have hn := ih (i + 1) (by omega)
    rw [List.drop_eq_getElem_cons hlt, List.all_cons]
    have e2 : wrap64 ((i : Int) + 1) = ((i + 1 : Nat) : Int) := by rw [w64 (by omega) (by omega)]; omega
    refine Ev.step (f := fun k => if okb more (B s)[i] = true then tendrilref02_Named.l0 k s more ((i + 1 : Nat) : Int) else some false) (fun k => ?_) ?_
    · simp only [tendrilref02_Named.l0]
      rw [if_pos (by omega), if_pos (by omega), bt_nat hlt, inner_f, Option.bind_some, e2]
    · by_cases h : okb more (B s)[i] = true
      · rw [h, Bool.true_and]; exact Ev.congr (fun k => by rw [if_pos rfl]) hn
      · rw [Bool.eq_false_iff.2 h, Bool.false_and]; exact Ev.congr (fun k => by rw [if_neg (by decide)]) (Ev.now _)
theorem rnamed_ev (s : ByteArray) (more : Bool) (hs : s.size ≤ 140737488351232) : Ev (fun k => tendrilref02_Named.f k s more) (namedS more (B s)) := by
  have bad : Ev (fun k => tendrilref02_Named.j0 k s more true) false := Ev.step (f := fun _ => some false) (fun k => by simp only [tendrilref02_Named.j0]; rw [if_pos trivial]) (Ev.now _)
  unfold tendrilref02_Named.f
  by_cases h0 : (s.size : Int) < 1
  · have e : B s = [] := List.eq_nil_of_length_eq_zero (by rw [B_len]; omega)
    exact Ev.congr (f := fun k => tendrilref02_Named.j0 k s more true) (fun k => by rw [if_pos h0]) (by rw [e]; exact bad)
  · obtain ⟨c, t, e⟩ := List.exists_cons_of_ne_nil (l := B s) (by intro h; have := B_len s; rw [h] at this; simp at this; omega)
    have hl : s.size = t.length + 1 := by rw [← B_len, e]; rfl
    have hb0 : bt s 0 = (c.toNat : Int) := by
      have := bt_nat (s := s) (i := 0) (by rw [e]; simp)
      simp only [e] at this
      simpa using this
    by_cases h1 : (s.size : Int) > 32
    · have : namedS more (B s) = false := by rw [e]; rw [namedS_cons]; simp; omega
      rw [this]
      exact Ev.congr (f := fun k => tendrilref02_Named.j0 k s more true) (fun k => by rw [if_neg h0, if_pos h1]) bad
    · have hall := rnamed_l0 s more (by omega) t.length 1 (by omega)
      rw [e, List.drop_succ_cons, List.drop_zero] at hall
      have gd : small c = true → Ev (fun k => tendrilref02_Named.j0 k s more false) (namedS more (B s)) := by
        intro h2
        have : namedS more (B s) = t.all (okb more) := by rw [e]; rw [namedS_cons, h2, decide_eq_true (by omega), List.all_cons, small_ok more c h2]; simp
        rw [this]
        refine Ev.step (fun k => ?_) hall
        simp only [tendrilref02_Named.j0]; rw [if_neg (by decide)]; rfl
      have bd : small c = false → namedS more (B s) = false := by intro h2; rw [e]; rw [namedS_cons, h2]; simp
      by_cases h2 : (c.toNat : Int) < 97
      · rw [bd (by unfold small; rw [decide_eq_false_iff_not]; omega)]
        exact Ev.congr (f := fun k => tendrilref02_Named.j0 k s more true) (fun k => by rw [if_neg h0, if_neg h1, if_pos (by omega), hb0, if_pos h2]) bad
      · refine Ev.congr (f := fun k => tendrilref02_Named.j0 k s more (decide ((c.toNat : Int) > 122))) (fun k => by rw [if_neg h0, if_neg h1, if_pos (by omega), hb0, if_neg h2]) ?_
        by_cases h3 : (c.toNat : Int) > 122
        · rw [bd (by unfold small; rw [decide_eq_false_iff_not]; omega), decide_eq_true h3]; exact bad
        · rw [decide_eq_false h3]; exact gd (by unfold small; rw [decide_eq_true_eq]; omega)
theorem tag_ev (s : ByteArray) (hs : s.size ≤ 140737488351232) : Ev (fun k => chars_Tag.f k s) (namedS false (B s)) := Ev.bind (named_ev s false hs) (Ev.now _)
end Go.Proofs.YtpanmmpkdbhofaaDoor.M02

namespace Go.Proofs.YtpanmmpkdbhofaaDoor.M02
open Go Go.RowKit Go.Proofs.YtpanmmpkdbhofaaDoor.P12r Go.Proofs.YtpanmmpkdbhofaaDoorE Go.Proofs.YtpanmmpkdbhofaaDoorW.PrintWords Go.Proofs.YtpanmmpkdbhofaaDoorW.PrintLast Go.Proofs.YtpanmmpkdbhofaaDoorW.PrintMore
theorem B_extract (s : ByteArray) (i j : Nat) : B (s.extract i j) = ((B s).drop i).take (j - i) := by
  simp [B, List.take_drop, ByteArray.data_extract]
def mkS (l : List UInt8) : ByteArray := ⟨l.toArray⟩
theorem B_mkS (l : List UInt8) : B (mkS l) = l := by simp [B, mkS]
theorem B_append (s t : ByteArray) : B (s ++ t) = B s ++ B t := by simp [B, ByteArray.data_append]

theorem dd_lt {m : Nat} (h : m < 10) : Lib.decDigits m = [UInt8.ofNat (48 + m)] := by rw [Lib.decDigits, dif_pos h]
theorem dd_ge {m : Nat} (h : 10 ≤ m) : Lib.decDigits m = Lib.decDigits (m / 10) ++ [UInt8.ofNat (48 + m % 10)] := by rw [Lib.decDigits, dif_neg (by omega)]
theorem dig_nat {d : Nat} (h : d < 10) : (UInt8.ofNat (48 + d)).toNat = 48 + d := by simp; omega
theorem dd_digit : ∀ (m : Nat), ∀ c ∈ Lib.decDigits m, 48 ≤ c.toNat ∧ c.toNat ≤ 57 := by
  intro m
  induction m using Nat.strongRecOn with
  | _ m ih =>
    intro c hc
    by_cases h : m < 10
    · rw [dd_lt h, List.mem_singleton] at hc
      rw [hc, dig_nat h]; omega
    · rw [dd_ge (by omega)] at hc
      rcases List.mem_append.1 hc with h1 | h1
      · exact ih (m / 10) (by omega) c h1
      · rw [List.mem_singleton] at h1
        rw [h1, dig_nat (by omega)]; omega
theorem dd_ne (m : Nat) : Lib.decDigits m ≠ [] := by
  by_cases h : m < 10
  · rw [dd_lt h]; simp
  · rw [dd_ge (by omega)]; simp
theorem dd_len : ∀ (k m : Nat), m < 10 ^ (k + 1) → (Lib.decDigits m).length ≤ k + 1
  | 0, m, h => by rw [dd_lt (by simpa using h)]; simp
  | k + 1, m, h => by
    by_cases h1 : m < 10
    · rw [dd_lt h1]; simp
    · have h2 : 10 ^ (k + 1 + 1) = 10 * 10 ^ (k + 1) := by rw [Nat.pow_succ, Nat.mul_comm]
      have := dd_len k (m / 10) (by omega)
      rw [dd_ge (by omega), List.length_append, List.length_singleton]; omega
theorem parse_dd (m : Nat) : ∀ (rest : List UInt8), m < 18446744073709551616 → Lib.parseUint10 0 (Lib.decDigits m ++ rest) = Lib.parseUint10 m rest := by
  induction m using Nat.strongRecOn with
  | _ m ih =>
    intro rest hm
    by_cases h : m < 10
    · rw [dd_lt h, List.singleton_append]
      simp only [Lib.parseUint10, dig_nat h]
      rw [if_pos (by omega), if_neg (by omega), if_neg (by omega)]
      congr 1; omega
    · rw [dd_ge (by omega), List.append_assoc, ih (m / 10) (by omega) _ (by omega), List.singleton_append]
      simp only [Lib.parseUint10, dig_nat (show m % 10 < 10 by omega)]
      rw [if_pos (by omega), if_neg (by omega), if_neg (by omega)]
      congr 1; omega
theorem atoi_itoa {n : Int} (h0 : -9223372036854775808 ≤ n) (h1 : n ≤ 9223372036854775807) : Lib.atoiAll (Lib.itoa n) = .ok n := by
  have pm : ∀ m : Nat, m < 18446744073709551616 → Lib.parseMag (Lib.decDigits m) = .ok m := by
    intro m hm
    unfold Lib.parseMag
    rw [if_neg (dd_ne m)]
    have := parse_dd m [] hm
    rw [List.append_nil] at this
    rw [this]; rfl
  unfold Lib.itoa
  by_cases hn : n < 0
  · rw [if_pos hn]
    unfold Lib.atoiAll
    simp only
    rw [if_pos (by decide), pm n.natAbs (by omega)]
    simp only
    have h45 : (45 : UInt8).toNat = 45 := rfl
    rw [if_neg (by rw [h45]; simp), if_neg (by omega), if_pos (by rw [h45])]
    congr 1; omega
  · rw [if_neg hn]
    obtain ⟨c, r, e⟩ := List.exists_cons_of_ne_nil (dd_ne n.toNat)
    have hc := dd_digit n.toNat c (by rw [e]; exact List.mem_cons_self ..)
    have hp := pm n.toNat (by omega)
    rw [e] at hp ⊢
    unfold Lib.atoiAll
    simp only
    rw [if_neg (by omega), hp]
    simp only
    rw [if_neg (by omega), if_neg (by omega), if_neg (by omega)]
    congr 1; omega
theorem whole_itoa {n : Int} (h0 : -9223372036854775808 ≤ n) (h1 : n ≤ 9223372036854775807) : wholeS (Lib.itoa n) = (n, true) := by
  unfold wholeS; rw [atoi_itoa h0 h1]; simp
theorem whole_not {l : List UInt8} (h : ¬ ∃ n : Int, -9223372036854775808 ≤ n ∧ n ≤ 9223372036854775807 ∧ Lib.itoa n = l) : wholeS l = (0, false) := by
  unfold wholeS
  cases ha : Lib.atoiAll l with
  | ok n =>
    have hn := atoi_range ha
    simp only
    rw [if_neg (fun e => h ⟨n, hn.1, hn.2, e⟩)]
  | range => rfl
  | _ => rfl

theorem strOf_one (v : Int) : strOfNums [v] = mkS [UInt8.ofNat v.toNat] := by
  apply B_inj; rw [B_mkS]; simp [strOfNums, B]
theorem rdec_l0 (below : Bool) (sg : Int) (hsg : sg = 1 ∨ sg = -1) (m : Nat) : ∀ (x3 : ByteArray), 0 < m → m ≤ 9223372036854775808 → 2 * x3.size + m ≤ 9223372036854775808 + 1000 →
    Ev (fun k => tendrilref02_Decimal.l0 k (sg * (m : Int)) x3 below) (mkS ((if below = true then [45] else []) ++ Lib.decDigits m ++ B x3)) := by
  induction m using Nat.strongRecOn with
  | _ m ih =>
    intro x3 hm hmx hsz
    have et : Int.tmod (sg * (m : Int)) 10 = sg * ((m % 10 : Nat) : Int) := by
      rcases hsg with rfl | rfl
      · rw [Int.one_mul, Int.one_mul, show (10 : Int) = ((10 : Nat) : Int) from rfl, ← Int.ofNat_tmod]
      · rw [show (-1 : Int) * (m : Int) = -(m : Int) by omega, Int.neg_tmod, show (10 : Int) = ((10 : Nat) : Int) from rfl, ← Int.ofNat_tmod]; omega
    have ed : Int.tdiv (sg * (m : Int)) 10 = sg * ((m / 10 : Nat) : Int) := by
      rcases hsg with rfl | rfl
      · rw [Int.one_mul, Int.one_mul, show (10 : Int) = ((10 : Nat) : Int) from rfl, ← Int.ofNat_tdiv]
      · rw [show (-1 : Int) * (m : Int) = -(m : Int) by omega, Int.neg_tdiv, show (10 : Int) = ((10 : Nat) : Int) from rfl, ← Int.ofNat_tdiv]; omega
    have ew : wrap64 (sg * ((m / 10 : Nat) : Int)) = sg * ((m / 10 : Nat) : Int) := by rcases hsg with rfl | rfl <;> (rw [w64 (by omega) (by omega)])
    have e10 : m % 10 < 10 := Nat.mod_lt _ (by decide)
    have sz1 : (mkS [UInt8.ofNat (48 + m % 10)]).size = 1 := rfl
    have step : ∀ k, tendrilref02_Decimal.l0 (k + 1) (sg * (m : Int)) x3 below = tendrilref02_Decimal.l0 k (sg * ((m / 10 : Nat) : Int)) (mkS [UInt8.ofNat (48 + m % 10)] ++ x3) below := by
      intro k
      simp only [tendrilref02_Decimal.l0]
      rw [et, ed, ew, if_neg (by rcases hsg with rfl | rfl <;> omega)]
      have hb : (48 + ((m % 10 : Nat) : Int)) % 256 = ((48 + m % 10 : Nat) : Int) := by omega
      by_cases hneg : sg * ((m % 10 : Nat) : Int) < 0
      · rw [if_pos hneg]
        have : -(sg * ((m % 10 : Nat) : Int)) = ((m % 10 : Nat) : Int) := by rcases hsg with rfl | rfl <;> omega
        rw [this, w64 (n := ((m % 10 : Nat) : Int)) (by omega) (by omega), w64 (n := 48 + ((m % 10 : Nat) : Int)) (by omega) (by omega), hb, Option.bind_some, strOf_one, Int.toNat_natCast, if_pos (by rw [sz1]; omega)]
      · rw [if_neg hneg]
        have : sg * ((m % 10 : Nat) : Int) = ((m % 10 : Nat) : Int) := by rcases hsg with rfl | rfl <;> omega
        rw [this, w64 (n := 48 + ((m % 10 : Nat) : Int)) (by omega) (by omega), hb, Option.bind_some, strOf_one, Int.toNat_natCast, if_pos (by rw [sz1]; omega)]
    by_cases h : m < 10
    · have h0 : m / 10 = 0 := by omega
      rw [dd_lt h]
      rw [h0, show m % 10 = m by omega] at step
      refine Ev.step step (Ev.step (f := fun _ => some (mkS ((if below = true then [45] else []) ++ [UInt8.ofNat (48 + m)] ++ B x3))) (fun k => ?_) (Ev.now _))
      simp only [tendrilref02_Decimal.l0]
      rw [if_pos (by rcases hsg with rfl | rfl <;> omega)]
      by_cases hb : below = true
      · rw [if_pos hb, if_pos (by rw [ByteArray.size_append]; show 1 + (1 + x3.size) ≤ _; omega), if_pos hb]
        congr 1
      · rw [if_neg hb, if_neg hb]
        congr 1
    · have hn := ih (m / 10) (by omega) (mkS [UInt8.ofNat (48 + m % 10)] ++ x3) (by omega) (by omega) (by rw [ByteArray.size_append, sz1]; omega)
      have er : mkS ((if below = true then [45] else []) ++ Lib.decDigits m ++ B x3) = mkS ((if below = true then [45] else []) ++ Lib.decDigits (m / 10) ++ B (mkS [UInt8.ofNat (48 + m % 10)] ++ x3)) := by
        rw [dd_ge (by omega), B_append, B_mkS]; simp
      rw [er]
      exact Ev.step step hn
theorem rdec_ev (n : Int) (h0 : -9223372036854775808 ≤ n) (h1 : n ≤ 9223372036854775807) : Ev (fun k => tendrilref02_Decimal.f k n) (mkS (Lib.itoa n)) := by
  unfold tendrilref02_Decimal.f Lib.itoa
  by_cases hz : n = 0
  · subst hz
    exact Ev.congr (fun k => by rw [if_pos rfl]) (by rw [if_neg (by omega), show (0 : Int).toNat = 0 from rfl, dd_lt (by decide)]; exact Ev.now _)
  · by_cases hn : n < 0
    · have := rdec_l0 true (-1) (.inr rfl) n.natAbs ⟨#[]⟩ (by omega) (by omega) (by show 2 * 0 + _ ≤ _; omega)
      rw [if_pos hn]
      refine Ev.congr (f := fun k => tendrilref02_Decimal.l0 k (-1 * (n.natAbs : Int)) ⟨#[]⟩ true) (fun k => ?_) (by simpa [B] using this)
      rw [if_neg hz, decide_eq_true hn, show -1 * (n.natAbs : Int) = n by omega]
    · have := rdec_l0 false 1 (.inl rfl) n.toNat ⟨#[]⟩ (by omega) (by omega) (by show 2 * 0 + _ ≤ _; omega)
      rw [if_neg hn]
      refine Ev.congr (f := fun k => tendrilref02_Decimal.l0 k (1 * (n.toNat : Int)) ⟨#[]⟩ false) (fun k => ?_) (by simpa [B] using this)
      rw [if_neg hz, decide_eq_false hn, show 1 * (n.toNat : Int) = n by omega]
theorem decimal_f (n : Int) (h0 : -9223372036854775808 ≤ n) (h1 : n ≤ 9223372036854775807) : chars_Decimal.f n = some (mkS (Lib.itoa n)) := by
  unfold chars_Decimal.f strconv_Itoa.f; rw [if_pos ⟨h0, h1⟩]; rfl
end Go.Proofs.YtpanmmpkdbhofaaDoor.M02

namespace Go.Proofs.YtpanmmpkdbhofaaDoor.M02
open Go Go.RowKit Go.Proofs.YtpanmmpkdbhofaaDoor.P12r Go.Proofs.YtpanmmpkdbhofaaDoorE Go.Proofs.YtpanmmpkdbhofaaDoorW.PrintWords Go.Proofs.YtpanmmpkdbhofaaDoorW.PrintLast Go.Proofs.YtpanmmpkdbhofaaDoorW.PrintMore

def isDig (c : UInt8) : Bool := decide (48 ≤ c.toNat ∧ c.toNat ≤ 57)
def dv (v : Nat) : List UInt8 → Nat
  | [] => v
  | c :: t => dv (v * 10 + (c.toNat - 48)) t
theorem dv_mono : ∀ (t : List UInt8) (v : Nat), v ≤ dv v t
  | [], _ => Nat.le_refl _
  | c :: t, v => Nat.le_trans (by omega) (dv_mono t (v * 10 + (c.toNat - 48)))
theorem dv_dd (m : Nat) : ∀ rest, dv 0 (Lib.decDigits m ++ rest) = dv m rest := by
  induction m using Nat.strongRecOn with
  | _ m ih =>
    intro rest
    by_cases h : m < 10
    · rw [dd_lt h, List.singleton_append]
      show dv (0 * 10 + ((UInt8.ofNat (48 + m)).toNat - 48)) rest = _
      rw [dig_nat h, show 0 * 10 + (48 + m - 48) = m by omega]
    · rw [dd_ge (by omega), List.append_assoc, ih (m / 10) (by omega), List.singleton_append]
      show dv (m / 10 * 10 + ((UInt8.ofNat (48 + m % 10)).toNat - 48)) rest = _
      rw [dig_nat (show m % 10 < 10 by omega), show m / 10 * 10 + (48 + m % 10 - 48) = m by omega]
theorem isDig_iff (c : UInt8) : isDig c = true ↔ 48 ≤ c.toNat ∧ c.toNat ≤ 57 := by simp [isDig]
section
variable (s t : ByteArray) (below : Bool)
/-- One round: a byte that is no digit, a number that is too great, or on. -/
theorem rw_round (ht : t.size ≤ 1000) {i v : Nat} (hi : i < (B t).length) (hv : v ≤ 9223372036854775808) (k : Nat) :
    tendrilref02_Whole.l0 (k + 2) s t below (-(v : Int)) (t.size : Int) (i : Int) =
      if isDig (B t)[i] = true then (if v * 10 + ((B t)[i].toNat - 48) ≤ 9223372036854775808 then tendrilref02_Whole.l0 k s t below (-((v * 10 + ((B t)[i].toNat - 48) : Nat) : Int)) (t.size : Int) ((i + 1 : Nat) : Int) else some (0, false)) else some (0, false) := by
  have hL := B_len t
  have hc := u8_lt (B t)[i]
  have ei : wrap64 ((i : Int) + 1) = ((i + 1 : Nat) : Int) := by rw [w64 (by omega) (by omega)]; omega
  have j4f : ∀ b : Bool, (b = true ↔ ¬ isDig (B t)[i] = true) → tendrilref02_Whole.j4 (k + 1) s t below (-(v : Int)) (i : Int) (t.size : Int) (i : Int) b = if isDig (B t)[i] = true then (if v * 10 + ((B t)[i].toNat - 48) ≤ 9223372036854775808 then tendrilref02_Whole.l0 k s t below (-((v * 10 + ((B t)[i].toNat - 48) : Nat) : Int)) (t.size : Int) ((i + 1 : Nat) : Int) else some (0, false)) else some (0, false) := by
    intro b hb
    simp only [tendrilref02_Whole.j4]
    by_cases hd : isDig (B t)[i] = true
    · have hbf : ¬ b = true := fun h => (hb.1 h) hd
      have hdd : 48 ≤ (B t)[i].toNat ∧ (B t)[i].toNat ≤ 57 := by simpa [isDig] using hd
      rw [if_neg hbf, if_pos (by omega), if_pos (by omega), if_pos hd, bt_nat hi, w64 (n := ((B t)[i].toNat : Int)) (by omega) (by omega), w64 (n := ((B t)[i].toNat : Int) - 48) (by omega) (by omega), ei]
      by_cases h1 : -(v : Int) < -922337203685477580
      · rw [if_pos h1, if_neg (by omega)]
      · rw [if_neg h1]
        by_cases h2 : -(v : Int) = -922337203685477580
        · rw [if_pos h2]
          by_cases h3 : ((B t)[i].toNat : Int) - 48 > 8
          · rw [if_pos h3, if_neg (by omega)]
          · rw [if_neg h3, if_pos (by omega), w64 (n := 10 * -(v : Int)) (by omega) (by omega), w64 (by omega) (by omega)]
            congr 1; omega
        · rw [if_neg h2, if_pos (by omega), w64 (n := 10 * -(v : Int)) (by omega) (by omega), w64 (by omega) (by omega)]
          congr 1; omega
    · rw [if_pos (hb.2 hd), if_neg hd]
  have e1 : k + 2 = (k + 1) + 1 := rfl
  rw [e1]
  simp only [tendrilref02_Whole.l0]
  rw [if_pos (by omega), if_pos (by omega), if_pos (by omega), bt_nat hi]
  by_cases h1 : ((B t)[i].toNat : Int) < 48
  · rw [if_pos h1]; exact j4f true (by rw [isDig_iff]; constructor <;> intro _ <;> first | rfl | omega)
  · rw [if_neg h1]; exact j4f (decide (((B t)[i].toNat : Int) > 57)) (by rw [decide_eq_true_eq, isDig_iff]; omega)
theorem Ev.two {α : Type} {g f : Nat → Option α} {r : α} (h : ∀ k, g (k + 2) = f k) (k : Ev f r) : Ev g r := by
  obtain ⟨K, k⟩ := k
  refine ⟨K + 2, fun n hn => ?_⟩
  obtain ⟨m, rfl⟩ : ∃ m, n = m + 2 := ⟨n - 2, by omega⟩
  rw [h]; exact k m (by omega)
/-- If no number has this text, it is refused, wherever the reading stands. -/
theorem rw_none (hno : ¬ ∃ n : Int, -9223372036854775808 ≤ n ∧ n ≤ 9223372036854775807 ∧ Lib.itoa n = B s) (ht : t.size ≤ 1000) (d : Nat) : ∀ i v : Nat, i + d = t.size → v ≤ 9223372036854775808 →
    Ev (fun k => tendrilref02_Whole.l0 k s t below (-(v : Int)) (t.size : Int) (i : Int)) (0, false) := by
  have hL := B_len t
  have fin : ∀ n : Int, -9223372036854775808 ≤ n → n ≤ 9223372036854775807 → Ev (fun k => (tendrilref02_Decimal.f k n).bind fun u => if u.toList = s.toList then some (n, true) else some (0, false)) (0, false) := by
    intro n h0 h1
    refine Ev.bind (rdec_ev n h0 h1) (Ev.congr (f := fun _ => some (0, false)) (fun k => ?_) (Ev.now _))
    rw [toList_B, toList_B, B_mkS, if_neg (fun e => hno ⟨n, h0, h1, e⟩)]
  have j5 : ∀ v : Nat, v ≤ 9223372036854775808 → ∀ b : Bool, (b = true ↔ (below = false ∧ v = 9223372036854775808)) → Ev (fun k => tendrilref02_Whole.j5 k s below (-(v : Int)) b) (0, false) := by
    intro v hv b hb
    by_cases h : b = true
    · exact Ev.step (f := fun _ => some (0, false)) (fun k => by simp only [tendrilref02_Whole.j5]; rw [if_pos h]) (Ev.now _)
    · have hb2 : ¬ (below = false ∧ v = 9223372036854775808) := fun h2 => h (hb.2 h2)
      by_cases hbl : below = true
      · refine Ev.step (fun k => ?_) (fin (-(v : Int)) (by omega) (by omega))
        simp only [tendrilref02_Whole.j5]; rw [if_neg h, if_pos hbl]
      · have hv2 : v ≠ 9223372036854775808 := fun h2 => hb2 ⟨by simpa using hbl, h2⟩
        refine Ev.step (fun k => ?_) (fin (v : Int) (by omega) (by omega))
        simp only [tendrilref02_Whole.j5]; rw [if_neg h, if_neg hbl, Int.neg_neg, w64 (by omega) (by omega)]
  induction d with
  | zero =>
    intro i v hi hv
    by_cases hbl : below = true
    · refine Ev.step (fun k => ?_) (j5 v hv false (by rw [hbl]; simp))
      simp only [tendrilref02_Whole.l0]; rw [if_neg (by omega), if_pos hbl]
    · refine Ev.step (fun k => ?_) (j5 v hv (-(v : Int) == -9223372036854775808) (by rw [beq_iff_eq]; simp at hbl; simp [hbl]; omega))
      simp only [tendrilref02_Whole.l0]; rw [if_neg (by omega), if_neg hbl]
  | succ d ih =>
    intro i v hi hv
    have hlt : i < (B t).length := by omega
    have hr := rw_round s t below ht hlt hv
    by_cases hd : isDig (B t)[i] = true
    · by_cases hm : v * 10 + ((B t)[i].toNat - 48) ≤ 9223372036854775808
      · exact Ev.two (fun k => by rw [hr, if_pos hd, if_pos hm]) (ih (i + 1) _ (by omega) hm)
      · exact Ev.two (f := fun _ => some (0, false)) (fun k => by rw [hr, if_pos hd, if_neg hm]) (Ev.now _)
    · exact Ev.two (f := fun _ => some (0, false)) (fun k => by rw [hr, if_neg hd]) (Ev.now _)
set_option maxHeartbeats 1000000 in
/-- If it is a number's text, it is read. -/
theorem rw_some (n : Int) (h0 : -9223372036854775808 ≤ n) (h1 : n ≤ 9223372036854775807) (he : B s = Lib.itoa n) (hbl : below = decide (n < 0)) (ht : t.size ≤ 1000) (hdg : ∀ c ∈ B t, 48 ≤ c.toNat ∧ c.toNat ≤ 57) (d : Nat) :
    ∀ i v : Nat, i + d = t.size → dv v ((B t).drop i) = n.natAbs → Ev (fun k => tendrilref02_Whole.l0 k s t below (-(v : Int)) (t.size : Int) (i : Int)) (n, true) := by
  have hL := B_len t
  have fin : Ev (fun k => (tendrilref02_Decimal.f k n).bind fun u => if u.toList = s.toList then some (n, true) else some (0, false)) (n, true) := by
    refine Ev.bind (rdec_ev n h0 h1) (Ev.congr (f := fun _ => some (n, true)) (fun k => ?_) (Ev.now _))
    rw [toList_B, toList_B, B_mkS, if_pos he.symm]
  induction d with
  | zero =>
    intro i v hi hv
    obtain rfl : v = n.natAbs := by
      rw [List.drop_eq_nil_of_le (by omega)] at hv
      exact hv
    by_cases hn : n < 0
    · have hbt : below = true := by rw [hbl]; exact decide_eq_true hn
      refine Ev.step (f := fun k => tendrilref02_Whole.j5 k s below (-(n.natAbs : Int)) false) (fun k => ?_) (Ev.step (fun k => ?_) fin)
      · simp only [tendrilref02_Whole.l0]; rw [if_neg (by omega), if_pos hbt]
      · simp only [tendrilref02_Whole.j5]; rw [if_neg (by decide), if_pos hbt, show -(n.natAbs : Int) = n by omega]
    · have hbt : ¬ below = true := by rw [hbl]; simpa using hn
      have hb : (-(n.natAbs : Int) == -9223372036854775808) = false := by rw [beq_eq_false_iff_ne]; omega
      refine Ev.step (f := fun k => tendrilref02_Whole.j5 k s below (-(n.natAbs : Int)) false) (fun k => ?_) (Ev.step (fun k => ?_) fin)
      · simp only [tendrilref02_Whole.l0]; rw [if_neg (by omega), if_neg hbt, hb]
      · simp only [tendrilref02_Whole.j5]; rw [if_neg (by decide), if_neg hbt, Int.neg_neg, show (n.natAbs : Int) = n by omega, w64 (by omega) (by omega)]
  | succ d ih =>
    intro i v hi hv
    have hlt : i < (B t).length := by omega
    rw [List.drop_eq_getElem_cons hlt] at hv
    replace hv : dv (v * 10 + ((B t)[i].toNat - 48)) ((B t).drop (i + 1)) = n.natAbs := hv
    have hm := dv_mono ((B t).drop (i + 1)) (v * 10 + ((B t)[i].toNat - 48))
    have hr := rw_round s t below ht hlt (v := v) (by omega)
    have hc := hdg (B t)[i] (List.getElem_mem hlt)
    exact Ev.two (fun k => by rw [hr, if_pos (by unfold isDig; rw [decide_eq_true_eq]; exact hc), if_pos (by omega)]) (ih (i + 1) _ (by omega) hv)
end
theorem rwhole_ev (s : ByteArray) (hs : s.size ≤ 1000) : Ev (fun k => tendrilref02_Whole.f k s) (wholeS (B s)) := by
  have hL := B_len s
  have base : ∀ (t : ByteArray) (below : Bool), t.size ≤ 1000 → Ev (fun k => tendrilref02_Whole.l0 k s t below (-((0 : Nat) : Int)) (t.size : Int) ((0 : Nat) : Int)) (wholeS (B s)) → (t.size < 1 ∨ t.size > 19 → wholeS (B s) = (0, false)) → Ev (fun k => tendrilref02_Whole.j1 k s t below) (wholeS (B s)) := by
    intro t below ht h hno
    have j2 : ∀ b : Bool, (b = true ↔ (t.size < 1 ∨ t.size > 19)) → Ev (fun k => tendrilref02_Whole.j2 k s t below b) (wholeS (B s)) := by
      intro b hb
      by_cases h1 : b = true
      · rw [hno (hb.1 h1)]
        exact Ev.step (f := fun _ => some (0, false)) (fun k => by simp only [tendrilref02_Whole.j2]; rw [if_pos h1]) (Ev.now _)
      · refine Ev.step (fun k => ?_) h
        simp only [tendrilref02_Whole.j2]; rw [if_neg h1]; rfl
    by_cases h1 : (t.size : Int) < 1
    · exact Ev.step (fun k => by simp only [tendrilref02_Whole.j1]; rw [if_pos h1]) (j2 true ⟨fun _ => .inl (by omega), fun _ => rfl⟩)
    · exact Ev.step (fun k => by simp only [tendrilref02_Whole.j1]; rw [if_neg h1]) (j2 (decide ((t.size : Int) > 19)) (by simp only [decide_eq_true_eq]; omega))
  have goj0 : ∀ b : Bool, (b = true ↔ ∃ r, B s = 45 :: r ∧ r ≠ []) → Ev (fun k => tendrilref02_Whole.j0 k s s b) (wholeS (B s)) := by
    intro b hb
    obtain ⟨t, hte, htb⟩ : ∃ t : ByteArray, t = (if b = true then s.extract 1 s.size else s) ∧ B t = (if b = true then (B s).drop 1 else B s) := by
      refine ⟨_, rfl, ?_⟩
      split
      · rw [B_extract, List.take_of_length_le (by rw [List.length_drop]; omega)]
      · rfl
    have hts : t.size ≤ 1000 := by
      have := B_len t
      rw [htb] at this
      split at this
      · rw [List.length_drop] at this; omega
      · omega
    have step : ∀ k, tendrilref02_Whole.j0 (k + 1) s s b = tendrilref02_Whole.j1 k s t b := by
      intro k
      simp only [tendrilref02_Whole.j0]
      rw [hte]
      by_cases h : b = true
      · obtain ⟨r, e, _⟩ := hb.1 h
        rw [e] at hL
        simp only [List.length_cons] at hL
        rw [if_pos h, if_pos h, if_pos (by omega)]
      · rw [if_neg h, if_neg h]
    refine Ev.step step (base t b hts ?_ ?_)
    · by_cases hex : ∃ n : Int, -9223372036854775808 ≤ n ∧ n ≤ 9223372036854775807 ∧ Lib.itoa n = B s
      · obtain ⟨n, h0, h1, he⟩ := hex
        rw [← he, whole_itoa h0 h1]
        have hbt : b = decide (n < 0) ∧ B t = Lib.decDigits n.natAbs := by
          by_cases hn : n < 0
          · have e1 : B s = 45 :: Lib.decDigits n.natAbs := by rw [← he]; unfold Lib.itoa; rw [if_pos hn]
            have hbb : b = true := hb.2 ⟨_, e1, dd_ne _⟩
            refine ⟨by rw [hbb, decide_eq_true hn], ?_⟩
            rw [htb, if_pos hbb, e1]; rfl
          · have e1 : B s = Lib.decDigits n.natAbs := by rw [← he]; unfold Lib.itoa; rw [if_neg hn, show n.toNat = n.natAbs by omega]
            have hbb : ¬ b = true := by
              intro hbt
              obtain ⟨r, e2, _⟩ := hb.1 hbt
              have := dd_digit n.natAbs 45 (by rw [← e1, e2]; exact List.mem_cons_self ..)
              revert this; decide
            refine ⟨by rw [Bool.eq_false_iff.2 hbb, decide_eq_false hn], ?_⟩
            rw [htb, if_neg hbb, e1]
        exact rw_some s t b n h0 h1 he.symm hbt.1 hts (by rw [hbt.2]; exact dd_digit _) t.size 0 0 (by omega) (by
          rw [List.drop_zero, hbt.2]
          have := dv_dd n.natAbs []
          rw [List.append_nil] at this
          rw [this]; rfl)
      · rw [whole_not hex]
        exact rw_none s t b hex hts t.size 0 0 (by omega) (by omega)
    · intro hsz
      apply whole_not
      rintro ⟨n, h0, h1, he⟩
      have ht2 := B_len t
      by_cases hn : n < 0
      · have e1 : B s = 45 :: Lib.decDigits n.natAbs := by rw [← he]; unfold Lib.itoa; rw [if_pos hn]
        have hbb : b = true := hb.2 ⟨_, e1, dd_ne _⟩
        rw [htb, if_pos hbb, e1, List.drop_succ_cons, List.drop_zero] at ht2
        have := dd_len 18 n.natAbs (by omega)
        have h2 := List.length_pos_iff.2 (dd_ne n.natAbs)
        omega
      · have e1 : B s = Lib.decDigits n.natAbs := by rw [← he]; unfold Lib.itoa; rw [if_neg hn, show n.toNat = n.natAbs by omega]
        have hbb : ¬ b = true := by
          intro hbt
          obtain ⟨r, e2, _⟩ := hb.1 hbt
          have := dd_digit n.natAbs 45 (by rw [← e1, e2]; exact List.mem_cons_self ..)
          revert this; decide
        rw [htb, if_neg hbb, e1] at ht2
        have := dd_len 18 n.natAbs (by omega)
        have h2 := List.length_pos_iff.2 (dd_ne n.natAbs)
        omega
  unfold tendrilref02_Whole.f
  by_cases h : (s.size : Int) > 1
  · have hlt : 0 < (B s).length := by omega
    have hb0 := bt_nat (s := s) (i := 0) hlt
    refine Ev.congr (fun k => by rw [if_pos h, if_pos (by omega)]) (goj0 (bt s 0 == 45) ?_)
    rw [beq_iff_eq, show (0 : Int) = ((0 : Nat) : Int) from rfl, hb0]
    obtain ⟨c, r, e⟩ := List.exists_cons_of_ne_nil (l := B s) (by intro h2; rw [h2] at hlt; simp at hlt)
    simp only [e, List.getElem_cons_zero, List.cons.injEq]
    constructor
    · intro hc
      refine ⟨r, ⟨UInt8.toNat_inj.1 (by rw [show (45 : UInt8).toNat = 45 from rfl]; omega), rfl⟩, ?_⟩
      intro hr; rw [e, hr] at hL; simp at hL; omega
    · rintro ⟨r', ⟨rfl, rfl⟩, _⟩; rfl
  · refine Ev.congr (fun k => by rw [if_neg h]) (goj0 false ?_)
    simp only [Bool.false_eq_true, false_iff]
    rintro ⟨r, e, hr⟩
    rw [e] at hL
    have := List.length_pos_iff.2 hr
    simp only [List.length_cons] at hL; omega

end Go.Proofs.YtpanmmpkdbhofaaDoor.M02

namespace Go.Proofs.YtpanmmpkdbhofaaDoor.P03o
open Go.RowKit Go.Proofs.YtpanmmpkdbhofaaDoorE Go.Proofs.YtpanmmpkdbhofaaDoorW.PrintWords Go.Proofs.YtpanmmpkdbhofaaDoorW.PrintLast Go.Proofs.YtpanmmpkdbhofaaDoorW.PrintMore
attribute [local go_sem] max2_int min2_int max_two min_two max_three min_three max_four min_four   -- for this text's walks alone
set_option linter.unusedVariables false
set_option linter.unusedSimpArgs false

def errW : Option Int → Value
  | none => .nilIface
  | some c => .iface 0 (.int .i64 c)
theorem errW_none : errW none = .nilIface := rfl
theorem errW_some (c : Int) : errW (some c) = .iface 0 (.int .i64 c) := rfl

end Go.Proofs.YtpanmmpkdbhofaaDoor.P03o

namespace Go.Proofs.YtpanmmpkdbhofaaDoor.L03
open Go Go.RowKit Go.Proofs.YtpanmmpkdbhofaaDoorE Go.Proofs.YtpanmmpkdbhofaaDoorW.PrintWords
theorem escB_of {n : Nat} (hn : n ≤ 255) (h : formL n ≠ []) : escB ((n : Int).toNat.toUInt8) = formL n := by
  have e : ((n : Int).toNat.toUInt8).toNat = n := by simp; omega
  unfold escB
  rw [e, if_neg h]
theorem ref_esc (l : List UInt8) (h : (refS l).2.toNat ≠ 0) : escB ((refS l).1.toNat.toUInt8) = l.take (refS l).2.toNat := by
  revert h
  unfold refS
  split
  · rename_i c hc
    intro h
    have h1 := List.find?_some hc
    have h2 := List.mem_of_find?_eq_some hc
    have h3 : c ≤ 255 := by
      have := List.mem_of_mem_take h2
      simp [signs] at this
      omega
    have h4 := List.prefix_iff_eq_take.1 (List.isPrefixOf_iff_prefix.1 h1)
    have h5 : formL c ≠ [] := by intro e; rw [e] at h; simp at h
    rw [escB_of h3 h5]
    simpa using h4
  · split
    · rename_i hp
      have hix := index_num _ hp
      unfold numS
      split
      · intro h; simp at h
      · split
        · split
          · rename_i n _ hn
            intro h
            obtain ⟨n0, n1, he⟩ := hn
            obtain ⟨m, rfl⟩ := Int.eq_ofNat_of_zero_le n0
            have hne : formL m ≠ [] := by
              intro e
              rw [Int.toNat_natCast, e] at he
              have := congrArg List.length he
              rw [List.length_take, List.length_nil] at this
              omega
            simp only
            rw [escB_of (by omega) hne, ← show (m : Int).toNat = m from rfl, he]
            congr 1
            omega
          · intro h; simp at h
        · intro h; simp at h
    · intro h; simp at h
theorem step_esc (l : List UInt8) (h : (stepU l).2 ≠ 0) : (stepU l).2 ≤ l.length ∧ escB (stepU l).1 = l.take (stepU l).2 := by
  cases l with
  | nil => simp [stepU] at h
  | cons c t =>
    simp only [stepU] at h ⊢
    split
    · rename_i hc
      rw [if_pos hc] at h
      have hr := refS_range (c :: t)
      exact ⟨by simp only; omega, ref_esc _ h⟩
    · rename_i hc
      rw [if_neg hc] at h
      split
      · rename_i hf
        refine ⟨by simp, ?_⟩
        unfold escB
        rw [if_pos hf]; rfl
      · rename_i hf
        rw [if_neg hf] at h
        exact absurd rfl h
theorem escS_append (a b : List UInt8) : escS (a ++ b) = escS a ++ escS b := by simp [escS]
theorem escS_one (c : UInt8) : escS [c] = escB c := by simp [escS]
theorem un_esc (d : Nat) : ∀ (l : List UInt8) (pos : Nat) (out : List UInt8), l.length ≤ d →
    ((unS l pos out).2.2 = 0 ∧ escS (unS l pos out).1 = escS out ++ l) ∨ ((unS l pos out).2.2 = 2 ∧ (unS l pos out).1 = [] ∧ (pos : Int) ≤ (unS l pos out).2.1 ∧ (unS l pos out).2.1 < pos + l.length) := by
  induction d with
  | zero =>
    intro l pos out hl
    obtain rfl : l = [] := List.length_eq_zero_iff.1 (by omega)
    rw [unS_nil]; left; simp
  | succ d ih =>
    intro l pos out hl
    by_cases hn : l = []
    · subst hn; rw [unS_nil]; left; simp
    · have hp := List.length_pos_iff.2 hn
      rw [unS_cons l hn]
      by_cases h0 : (stepU l).2 = 0
      · rw [if_pos h0]; right
        refine ⟨rfl, rfl, Int.le_refl _, ?_⟩
        simp only; omega
      · rw [if_neg h0]
        obtain ⟨h1, h2⟩ := step_esc l h0
        have hd : (l.drop (stepU l).2).length = l.length - (stepU l).2 := List.length_drop ..
        rcases ih (l.drop (stepU l).2) (pos + (stepU l).2) (out ++ [(stepU l).1]) (by omega) with ⟨a, b⟩ | ⟨a, b, c, e⟩
        · left
          refine ⟨a, ?_⟩
          rw [b, escS_append, escS_one, h2, List.append_assoc, List.take_append_drop]
        · right
          exact ⟨a, b, by omega, by omega⟩
end Go.Proofs.YtpanmmpkdbhofaaDoor.L03
namespace Go.Proofs.YtpanmmpkdbhofaaDoor.Pure
open Go Go.RowKit Go.Proofs.YtpanmmpkdbhofaaDoor.P03o Go.Proofs.YtpanmmpkdbhofaaDoorE Go.Proofs.YtpanmmpkdbhofaaDoor.L03 Go.Proofs.YtpanmmpkdbhofaaDoorW.PrintWords
end Go.Proofs.YtpanmmpkdbhofaaDoor.Pure

namespace Go.Proofs.YtpanmmpkdbhofaaDoor.M03
open Go Go.RowKit Go.Proofs.YtpanmmpkdbhofaaDoor.P12r Go.Proofs.YtpanmmpkdbhofaaDoorE Go.Proofs.YtpanmmpkdbhofaaDoor.L03 Go.Proofs.YtpanmmpkdbhofaaDoorW.PrintWords Go.Proofs.YtpanmmpkdbhofaaDoorW.PrintLast Go.Proofs.YtpanmmpkdbhofaaDoorW.PrintMore
theorem ref_form (c : Nat) (hc : c = 38 ∨ c = 60 ∨ c = 62 ∨ c = 34 ∨ c = 127 ∨ c < 32) (rest : List UInt8) : refS (formL c ++ rest) = ((c : Int), ((formL c).length : Int)) := by
  have h : c = 0 ∨ c = 1 ∨ c = 2 ∨ c = 3 ∨ c = 4 ∨ c = 5 ∨ c = 6 ∨ c = 7 ∨ c = 8 ∨ c = 9 ∨ c = 10 ∨ c = 11 ∨ c = 12 ∨ c = 13 ∨ c = 14 ∨ c = 15 ∨ c = 16 ∨ c = 17 ∨ c = 18 ∨ c = 19 ∨ c = 20 ∨ c = 21 ∨ c = 22 ∨ c = 23 ∨ c = 24 ∨ c = 25 ∨ c = 26 ∨ c = 27 ∨ c = 28 ∨ c = 29 ∨ c = 30 ∨ c = 31 ∨ c = 34 ∨ c = 38 ∨ c = 60 ∨ c = 62 ∨ c = 127 := by omega
  rcases h with rfl | rfl | rfl | rfl | rfl | rfl | rfl | rfl | rfl | rfl | rfl | rfl | rfl | rfl | rfl | rfl | rfl | rfl | rfl | rfl | rfl | rfl | rfl | rfl | rfl | rfl | rfl | rfl | rfl | rfl | rfl | rfl | rfl | rfl | rfl | rfl | rfl
  · have h : refS (formL 0 ++ rest) = (((0 : Nat) : Int), ((formL 0).length : Int)) := by kernel_rfl
    exact h
  · have h : refS (formL 1 ++ rest) = (((1 : Nat) : Int), ((formL 1).length : Int)) := by kernel_rfl
    exact h
  · have h : refS (formL 2 ++ rest) = (((2 : Nat) : Int), ((formL 2).length : Int)) := by kernel_rfl
    exact h
  · have h : refS (formL 3 ++ rest) = (((3 : Nat) : Int), ((formL 3).length : Int)) := by kernel_rfl
    exact h
  · have h : refS (formL 4 ++ rest) = (((4 : Nat) : Int), ((formL 4).length : Int)) := by kernel_rfl
    exact h
  · have h : refS (formL 5 ++ rest) = (((5 : Nat) : Int), ((formL 5).length : Int)) := by kernel_rfl
    exact h
  · have h : refS (formL 6 ++ rest) = (((6 : Nat) : Int), ((formL 6).length : Int)) := by kernel_rfl
    exact h
  · have h : refS (formL 7 ++ rest) = (((7 : Nat) : Int), ((formL 7).length : Int)) := by kernel_rfl
    exact h
  · have h : refS (formL 8 ++ rest) = (((8 : Nat) : Int), ((formL 8).length : Int)) := by kernel_rfl
    exact h
  · have h : refS (formL 9 ++ rest) = (((9 : Nat) : Int), ((formL 9).length : Int)) := by kernel_rfl
    exact h
  · have h : refS (formL 10 ++ rest) = (((10 : Nat) : Int), ((formL 10).length : Int)) := by kernel_rfl
    exact h
  · have h : refS (formL 11 ++ rest) = (((11 : Nat) : Int), ((formL 11).length : Int)) := by kernel_rfl
    exact h
  · have h : refS (formL 12 ++ rest) = (((12 : Nat) : Int), ((formL 12).length : Int)) := by kernel_rfl
    exact h
  · have h : refS (formL 13 ++ rest) = (((13 : Nat) : Int), ((formL 13).length : Int)) := by kernel_rfl
    exact h
  · have h : refS (formL 14 ++ rest) = (((14 : Nat) : Int), ((formL 14).length : Int)) := by kernel_rfl
    exact h
  · have h : refS (formL 15 ++ rest) = (((15 : Nat) : Int), ((formL 15).length : Int)) := by kernel_rfl
    exact h
  · have h : refS (formL 16 ++ rest) = (((16 : Nat) : Int), ((formL 16).length : Int)) := by kernel_rfl
    exact h
  · have h : refS (formL 17 ++ rest) = (((17 : Nat) : Int), ((formL 17).length : Int)) := by kernel_rfl
    exact h
  · have h : refS (formL 18 ++ rest) = (((18 : Nat) : Int), ((formL 18).length : Int)) := by kernel_rfl
    exact h
  · have h : refS (formL 19 ++ rest) = (((19 : Nat) : Int), ((formL 19).length : Int)) := by kernel_rfl
    exact h
  · have h : refS (formL 20 ++ rest) = (((20 : Nat) : Int), ((formL 20).length : Int)) := by kernel_rfl
    exact h
  · have h : refS (formL 21 ++ rest) = (((21 : Nat) : Int), ((formL 21).length : Int)) := by kernel_rfl
    exact h
  · have h : refS (formL 22 ++ rest) = (((22 : Nat) : Int), ((formL 22).length : Int)) := by kernel_rfl
    exact h
  · have h : refS (formL 23 ++ rest) = (((23 : Nat) : Int), ((formL 23).length : Int)) := by kernel_rfl
    exact h
  · have h : refS (formL 24 ++ rest) = (((24 : Nat) : Int), ((formL 24).length : Int)) := by kernel_rfl
    exact h
  · have h : refS (formL 25 ++ rest) = (((25 : Nat) : Int), ((formL 25).length : Int)) := by kernel_rfl
    exact h
  · have h : refS (formL 26 ++ rest) = (((26 : Nat) : Int), ((formL 26).length : Int)) := by kernel_rfl
    exact h
  · have h : refS (formL 27 ++ rest) = (((27 : Nat) : Int), ((formL 27).length : Int)) := by kernel_rfl
    exact h
  · have h : refS (formL 28 ++ rest) = (((28 : Nat) : Int), ((formL 28).length : Int)) := by kernel_rfl
    exact h
  · have h : refS (formL 29 ++ rest) = (((29 : Nat) : Int), ((formL 29).length : Int)) := by kernel_rfl
    exact h
  · have h : refS (formL 30 ++ rest) = (((30 : Nat) : Int), ((formL 30).length : Int)) := by kernel_rfl
    exact h
  · have h : refS (formL 31 ++ rest) = (((31 : Nat) : Int), ((formL 31).length : Int)) := by kernel_rfl
    exact h
  · have h : refS (formL 34 ++ rest) = (((34 : Nat) : Int), ((formL 34).length : Int)) := by kernel_rfl
    exact h
  · have h : refS (formL 38 ++ rest) = (((38 : Nat) : Int), ((formL 38).length : Int)) := by kernel_rfl
    exact h
  · have h : refS (formL 60 ++ rest) = (((60 : Nat) : Int), ((formL 60).length : Int)) := by kernel_rfl
    exact h
  · have h : refS (formL 62 ++ rest) = (((62 : Nat) : Int), ((formL 62).length : Int)) := by kernel_rfl
    exact h
  · have h : refS (formL 127 ++ rest) = (((127 : Nat) : Int), ((formL 127).length : Int)) := by kernel_rfl
    exact h
theorem step_form (c : UInt8) (rest : List UInt8) : stepU (escB c ++ rest) = (c, (escB c).length) := by
  unfold escB
  by_cases hf : formL c.toNat = []
  · rw [if_pos hf]
    have hn : c.toNat ≠ 38 := by intro e; rw [e] at hf; exact absurd hf (by decide)
    simp only [List.cons_append, List.nil_append, stepU]
    rw [if_neg hn, if_pos hf]
    rfl
  · rw [if_neg hf]
    have hc : c.toNat = 38 ∨ c.toNat = 60 ∨ c.toNat = 62 ∨ c.toNat = 34 ∨ c.toNat = 127 ∨ c.toNat < 32 := by
      unfold formL at hf
      by_cases h1 : c.toNat = 38
      · exact .inl h1
      · rw [if_neg h1] at hf
        by_cases h2 : c.toNat = 60
        · exact .inr (.inl h2)
        · rw [if_neg h2] at hf
          by_cases h3 : c.toNat = 62
          · exact .inr (.inr (.inl h3))
          · rw [if_neg h3] at hf
            by_cases h4 : c.toNat = 34
            · exact .inr (.inr (.inr (.inl h4)))
            · rw [if_neg h4] at hf
              by_cases h5 : c.toNat = 127 ∨ c.toNat < 32
              · exact .inr (.inr (.inr (.inr h5)))
              · rw [if_neg h5] at hf
                exact absurd rfl hf
    have hr := ref_form c.toNat hc rest
    obtain ⟨t, ht⟩ : ∃ t, formL c.toNat = 38 :: t := by
      unfold formL
      rcases hc with h | h | h | h | h | h
      · rw [if_pos h]; exact ⟨_, rfl⟩
      · rw [if_neg (by omega), if_pos h]; exact ⟨_, rfl⟩
      · rw [if_neg (by omega), if_neg (by omega), if_pos h]; exact ⟨_, rfl⟩
      · rw [if_neg (by omega), if_neg (by omega), if_neg (by omega), if_pos h]; exact ⟨_, rfl⟩
      · rw [if_neg (by omega), if_neg (by omega), if_neg (by omega), if_neg (by omega), if_pos (.inl h)]; exact ⟨_, rfl⟩
      · rw [if_neg (by omega), if_neg (by omega), if_neg (by omega), if_neg (by omega), if_pos (.inr h)]; exact ⟨_, rfl⟩
    rw [ht] at hr ⊢
    simp only [List.cons_append, stepU]
    rw [List.cons_append] at hr
    rw [if_pos (by decide), hr]
    simp
theorem form_all : ∀ c : Fin 256, tendrilref03_Form.f 8 (c.val : Int) = some ⟨(escB (UInt8.ofNat c.val)).toArray⟩ := by decide +kernel
theorem form_ev (c : UInt8) : Ev (fun k => tendrilref03_Form.f k (c.toNat : Int)) ⟨(escB c).toArray⟩ := by
  have h := form_all ⟨c.toNat, c.toNat_lt⟩
  simp only [UInt8.ofNat_toNat] at h
  exact Ev.of (fun k => tendrilref03_Form.mono _ k) h
theorem starts_f (s t : ByteArray) : tendrilref03_starts.f s t = some (t.data.toList.isPrefixOf s.data.toList) := by
  have h1 := dlen s
  have h2 := dlen t
  unfold tendrilref03_starts.f
  by_cases h : (s.size : Int) ≥ (t.size : Int)
  · rw [if_pos h, if_pos (by omega), if_pos (by omega), tl, tl, ext_list, List.drop_zero, Nat.sub_zero, Int.toNat_natCast]
    congr 1
    rw [Bool.eq_iff_iff, beq_iff_eq, List.isPrefixOf_iff_prefix, List.prefix_iff_eq_take, h2]
    exact eq_comm
  · rw [if_neg h]
    congr 1
    symm
    rw [Bool.eq_false_iff, ne_eq, List.isPrefixOf_iff_prefix]
    intro hp
    have := hp.length_le
    omega
theorem one_step (s : ByteArray) (n : Nat) (hn : n < 256) (R : Int) (h : Ev (fun k => if (escB (UInt8.ofNat n)).isPrefixOf s.data.toList = true then some (n : Int) else tendrilref03_one.l0 k s ((n + 1 : Nat) : Int)) R) : Ev (fun k => tendrilref03_one.l0 k s (n : Int)) R := by
  refine Ev.step (f := fun k => (tendrilref03_Form.f k (n : Int)).bind fun t119 => ((tendrilref03_starts.f s t119).bind fun t120 => (if t120 = true then (some (n : Int)) else (tendrilref03_one.l0 k s ((n + 1 : Nat) : Int))))) (fun k => ?_) ?_
  · simp only [tendrilref03_one.l0]
    rw [if_pos (by omega), show (n : Int) % 256 = (n : Int) by omega, L03.w64 (by omega) (by omega)]
    rfl
  · have hf := form_ev (UInt8.ofNat n)
    rw [show ((UInt8.ofNat n).toNat : Int) = (n : Int) by simp; omega] at hf
    refine Ev.bind hf ?_
    simp only [starts_f, Option.bind_some]
    exact h
theorem one_run (s : ByteArray) (R : Int) : ∀ n : Nat, n ≤ 256 → (∀ c : Nat, c < n → (escB (UInt8.ofNat c)).isPrefixOf s.data.toList = false) → Ev (fun k => tendrilref03_one.l0 k s (n : Int)) R → Ev (fun k => tendrilref03_one.l0 k s 0) R
  | 0, _, _, h => h
  | n + 1, hn, hno, h => by
    refine one_run s R n (by omega) (fun c hc => hno c (by omega)) (one_step s n (by omega) R ?_)
    rw [hno n (by omega)]
    simpa using h
/-- At most one form begins a text, and the reading finds it. -/
theorem pre_step (l : List UInt8) (c : UInt8) (h : (escB c).isPrefixOf l = true) : stepU l = (c, (escB c).length) := by
  obtain ⟨rest, rfl⟩ := List.isPrefixOf_iff_prefix.1 h
  exact step_form c rest
theorem one_hit (s : ByteArray) (hs : (stepU s.data.toList).2 ≠ 0) : Ev (fun k => tendrilref03_one.f k s) ((stepU s.data.toList).1.toNat : Int) := by
  obtain ⟨h1, h2⟩ := step_esc s.data.toList hs
  generalize hst : stepU s.data.toList = st at hs h1 h2 ⊢
  obtain ⟨c, n⟩ := st
  simp only at hs h1 h2 ⊢
  have hp : (escB c).isPrefixOf s.data.toList = true := by
    rw [List.isPrefixOf_iff_prefix, h2]
    exact List.take_prefix _ _
  refine one_run s _ c.toNat (Nat.le_of_lt c.toNat_lt) (fun b hb => ?_) (one_step s c.toNat c.toNat_lt _ ?_)
  · rw [Bool.eq_false_iff]
    intro hq
    have := pre_step _ _ hq
    rw [hst] at this
    injection this with this
    have h3 := congrArg UInt8.toNat this
    have hcl := c.toNat_lt
    simp at h3
    omega
  · rw [UInt8.ofNat_toNat]
    simp only [hp, if_true]
    exact Ev.now _
theorem one_miss (s : ByteArray) (hs : (stepU s.data.toList).2 = 0) : Ev (fun k => tendrilref03_one.f k s) (-1) := by
  refine one_run s _ 256 (Nat.le_refl _) (fun b hb => ?_) ?_
  · rw [Bool.eq_false_iff]
    intro hq
    have := pre_step _ _ hq
    rw [this] at hs
    have hp : escB (UInt8.ofNat b) ≠ [] := by
      unfold escB
      split
      · simp
      · assumption
    have := List.length_pos_iff.2 hp
    simp only at hs
    omega
  · refine Ev.step (f := fun _ => some (-1)) (fun k => ?_) (Ev.now _)
    simp only [tendrilref03_one.l0]
    rw [if_neg (by decide)]
/-- Bytes as numbers. -/
def ints (l : List UInt8) : List Int := l.map fun b => (b.toNat : Int)
theorem str_ints (l : List UInt8) : strOfNums (ints l) = ⟨l.toArray⟩ := by
  unfold strOfNums ints
  rw [List.map_map]
  have : l.map ((fun n : Int => UInt8.ofNat n.toNat) ∘ fun b : UInt8 => (b.toNat : Int)) = l := by
    conv => rhs; rw [← List.map_id l]
    refine List.map_congr_left fun b _ => ?_
    simp
  rw [this]
theorem un_ev (s : ByteArray) (hs : s.size ≤ 1000000) (d : Nat) : ∀ (pos : Nat) (o : List UInt8), s.size - pos ≤ d → pos ≤ s.size → o.length ≤ pos →
    Ev (fun k => tendrilref03_Unescape.l0 k s (ints o) (pos : Int)) (⟨(unS (s.data.toList.drop pos) pos o).1.toArray⟩, (unS (s.data.toList.drop pos) pos o).2.1, (unS (s.data.toList.drop pos) pos o).2.2) := by
  induction d with
  | zero =>
    intro pos o hd hp ho
    rw [List.drop_of_length_le (by rw [dlen]; omega), unS_nil]
    refine Ev.step (f := fun _ => some (⟨o.toArray⟩, 0, 0)) (fun k => ?_) (Ev.now _)
    simp only [tendrilref03_Unescape.l0]
    rw [if_neg (by omega), str_ints]
  | succ d ih =>
    intro pos o hd hp ho
    by_cases hlt : pos < s.size
    · have hne : s.data.toList.drop pos ≠ [] := by
        intro e
        have := congrArg List.length e
        rw [List.length_drop, dlen, List.length_nil] at this
        omega
      have hx : (s.extract pos s.size).data.toList = s.data.toList.drop pos := by
        rw [ext_list, List.take_of_length_le (by rw [List.length_drop, dlen]; omega)]
      have hlen : (s.data.toList.drop pos).length = s.size - pos := by rw [List.length_drop, dlen]
      rw [unS_cons _ hne]
      refine Ev.step (f := fun k => (tendrilref03_one.f k (s.extract pos s.size)).bind fun t121 => (if t121 < 0 then (some ((⟨#[]⟩ : ByteArray), (pos : Int), 2)) else ((tendrilref03_Form.f k (t121 % 256)).bind fun t125 => (tendrilref03_Unescape.l0 k s (ints o ++ [t121 % 256]) (wrap64 ((pos : Int) + (t125.size : Int))))))) (fun k => ?_) ?_
      · simp only [tendrilref03_Unescape.l0]
        rw [if_pos (by omega), if_pos (by omega), if_pos (by omega), Int.toNat_natCast]
        congr 1
        funext t
        split
        · rfl
        · rw [if_pos (by unfold ints; rw [List.length_map]; omega)]
      · by_cases h0 : (stepU (s.data.toList.drop pos)).2 = 0
        · rw [if_pos h0]
          refine Ev.bind (one_miss _ (by rw [hx]; exact h0)) ?_
          simp only [show ((-1 : Int) < 0) = True from eq_true (by decide), if_true]
          exact Ev.now _
        · rw [if_neg h0]
          obtain ⟨h1, h2⟩ := step_esc _ h0
          have hq := one_hit (s.extract pos s.size) (by rw [hx]; exact h0)
          rw [hx] at hq
          generalize stepU (s.data.toList.drop pos) = st at h0 h1 h2 hq ⊢
          obtain ⟨c, n⟩ := st
          simp only at h0 h1 h2 hq ⊢
          have hc := c.toNat_lt
          have hm : ((c.toNat : Int)) % 256 = (c.toNat : Int) := by omega
          refine Ev.bind hq ?_
          simp only [show ((c.toNat : Int) < 0) = False from eq_false (by omega), if_false, hm]
          refine Ev.bind (form_ev c) ?_
          have hsz : (⟨(escB c).toArray⟩ : ByteArray).size = n := by
            rw [sizeL, h2, List.length_take]; omega
          simp only [hsz]
          rw [L03.w64 (by omega) (by omega), show (pos : Int) + (n : Int) = ((pos + n : Nat) : Int) by omega, show ints o ++ [(c.toNat : Int)] = ints (o ++ [c]) by simp [ints], List.drop_drop]
          exact ih (pos + n) (o ++ [c]) (by omega) (by omega) (by rw [List.length_append, List.length_singleton]; omega)
    · have : pos = s.size := by omega
      subst this
      rw [List.drop_of_length_le (by rw [dlen]; omega), unS_nil]
      refine Ev.step (f := fun _ => some (⟨o.toArray⟩, 0, 0)) (fun k => ?_) (Ev.now _)
      simp only [tendrilref03_Unescape.l0]
      rw [if_neg (by omega), str_ints]
theorem run_ev (s : ByteArray) (hs : s.size ≤ 1000000) : Ev (fun k => tendrilref03_Unescape.f k s) (⟨(unS s.data.toList 0 []).1.toArray⟩, (unS s.data.toList 0 []).2.1, (unS s.data.toList 0 []).2.2) := un_ev s hs s.size 0 [] (by omega) (by omega) (by simp)
end Go.Proofs.YtpanmmpkdbhofaaDoor.M03

namespace Go.Proofs.YtpanmmpkdbhofaaDoor.M03
open Go Go.RowKit Go.Proofs.YtpanmmpkdbhofaaDoor.P12r Go.Proofs.YtpanmmpkdbhofaaDoorE Go.Proofs.YtpanmmpkdbhofaaDoor.L03 Go.Proofs.YtpanmmpkdbhofaaDoorW.PrintWords Go.Proofs.YtpanmmpkdbhofaaDoorW.PrintLast Go.Proofs.YtpanmmpkdbhofaaDoorW.PrintMore
theorem bt_at (s : ByteArray) (i : Nat) (h : i < s.data.toList.length) : bt s (i : Int) = ((s.data.toList[i]'h).toNat : Int) := by
  have hs : i < s.size := by rw [← dlen]; exact h
  unfold bt
  rw [dif_pos (by simpa using hs)]
  simp only [Int.toNat_natCast]
  rfl
theorem cat_str (a b : List UInt8) : (⟨a.toArray⟩ : ByteArray) ++ ⟨b.toArray⟩ = ⟨(a ++ b).toArray⟩ := by
  apply ByteArray.ext
  rw [ByteArray.data_append]
  simp
theorem resc_ev (s : ByteArray) (h : s.size ≤ 1000000) (d : Nat) : ∀ i : Nat, i + d = s.size → Ev (fun k => tendrilref03_Escape.l0 k s ⟨(escS (s.data.toList.take i)).toArray⟩ (s.size : Int) (i : Int)) ⟨(escS s.data.toList).toArray⟩ := by
  induction d with
  | zero =>
    intro i hi
    obtain rfl : i = s.size := by omega
    refine Ev.step (f := fun _ => some ⟨(escS s.data.toList).toArray⟩) (fun k => ?_) (Ev.now _)
    simp only [tendrilref03_Escape.l0]
    rw [if_neg (by omega), List.take_of_length_le (by rw [dlen]; omega)]
  | succ d ih =>
    intro i hi
    have hlt : i < s.data.toList.length := by rw [dlen]; omega
    have hll := escS_take_len s i
    refine Ev.step (f := fun k => (tendrilref03_Form.f k ((s.data.toList[i]'hlt).toNat : Int)).bind fun t137 => (if (escS (s.data.toList.take i)).length + t137.size ≤ 9223372036854775807 then (tendrilref03_Escape.l0 k s (⟨(escS (s.data.toList.take i)).toArray⟩ ++ t137) (s.size : Int) ((i + 1 : Nat) : Int)) else none)) (fun k => ?_) ?_
    · simp only [tendrilref03_Escape.l0]
      rw [if_pos (by omega), if_pos (by omega), if_pos (by omega), bt_at s i hlt, sizeL, L03.w64 (by omega) (by omega)]
      rfl
    · refine Ev.bind (form_ev _) ?_
      have h6 := escB_len (s.data.toList[i]'hlt)
      simp only [sizeL, cat_str]
      exact Ev.congr (f := fun k => tendrilref03_Escape.l0 k s ⟨(escS (s.data.toList.take (i + 1))).toArray⟩ (s.size : Int) ((i + 1 : Nat) : Int)) (fun k => by rw [if_pos (by omega), ← escS_take s i hlt]) (ih (i + 1) (by omega))
theorem resc_run (s : ByteArray) (h : s.size ≤ 1000000) : Ev (fun k => tendrilref03_Escape.f k s) ⟨(escS s.data.toList).toArray⟩ := resc_ev s h s.size 0 (by omega)
end Go.Proofs.YtpanmmpkdbhofaaDoor.M03

namespace Go.Proofs.YtpanmmpkdbhofaaDoorE
open Go Go.RowKit Go.Proofs.YtpanmmpkdbhofaaDoorW.PrintWords Go.Proofs.YtpanmmpkdbhofaaDoorX Go.Proofs.YtpanmmpkdbhofaaDoor.P12r Go.Proofs.YtpanmmpkdbhofaaDoor.M02
set_option linter.unusedVariables false
abbrev RL := ByteArray × ByteArray × Int × Int
/-- What the place i tells of a text: a label, or nothing. -/
def tryR (s : ByteArray) (i : Nat) : Option RL :=
  if namedS false ((B s).take i) = true then
    if (B s)[i]? = some 58 ∧ (wholeS ((B s).drop (i + 1))).2 = true ∧ 1 ≤ (wholeS ((B s).drop (i + 1))).1 then some (s.extract 0 i, ⟨#[]⟩, (wholeS ((B s).drop (i + 1))).1, 0)
    else if (B s)[i]? = some 35 ∧ (unS ((B s).drop (i + 1)) 0 []).2.2 = 0 ∧ (unS ((B s).drop (i + 1)) 0 []).1 ≠ [] ∧ (unS ((B s).drop (i + 1)) 0 []).1.length ≤ 65536 then some (s.extract 0 i, ⟨(unS ((B s).drop (i + 1)) 0 []).1.toArray⟩, 0, 0)
    else none
  else none
def readFrom (s : ByteArray) (i : Nat) : RL :=
  if h : i < s.size then
    match tryR s i with
    | some r => r
    | none => readFrom s (i + ((Utf8.decode s i).2 - 1) + 1)
  else (⟨#[]⟩, ⟨#[]⟩, 0, 2)
termination_by s.size - i
decreasing_by omega
theorem readFrom_hit (s : ByteArray) (i : Nat) (h : i < s.size) (r : RL) (hr : tryR s i = some r) : readFrom s i = r := by rw [readFrom, dif_pos h, hr]
theorem readFrom_miss (s : ByteArray) (i : Nat) (h : i < s.size) (hr : tryR s i = none) : readFrom s i = readFrom s (i + ((Utf8.decode s i).2 - 1) + 1) := by rw [readFrom, dif_pos h, hr]
theorem readFrom_end (s : ByteArray) : readFrom s s.size = (⟨#[]⟩, ⟨#[]⟩, 0, 2) := by rw [readFrom, dif_neg (by omega)]
theorem named_c (t : ByteArray) (ht : t.size ≤ 1000) (W : World) (hgl : GL W) : Calls Tryd.prog 22 #[.string t, .bool false] W fun e w' => e = .returned (.bool (namedS false (B t))) ∧ Drawn0 W w' := by
  obtain ⟨k, hk⟩ := rnamed_ev t false (by omega)
  exact tendrilref02_Named.calls k t false _ W hgl (hk k (Nat.le_refl _))
theorem whole_c (t : ByteArray) (ht : t.size ≤ 1000) (W : World) (hgl : GL W) : Calls Tryd.prog 18 #[.string t] W fun e w' => e = .returned (.tuple #[.int .i64 (wholeS (B t)).1, .bool (wholeS (B t)).2]) ∧ Below W.heap.size W w' := by
  obtain ⟨k, hk⟩ := rwhole_ev t ht
  exact tendrilref02_Whole.calls k t _ _ W hgl (hk k (Nat.le_refl _))
theorem unesc_c (t : ByteArray) (ht : t.size ≤ 1000) (W : World) (hgl : GL W) : Calls Tryd.prog 32 #[.string t] W fun e w' => e = .returned (.tuple #[.string ⟨(unS (B t) 0 []).1.toArray⟩, .int .i64 (unS (B t) 0 []).2.1, .int .i64 (unS (B t) 0 []).2.2]) ∧ Below W.heap.size W w' := by
  obtain ⟨k, hk⟩ := Go.Proofs.YtpanmmpkdbhofaaDoor.M03.run_ev t (by omega)
  exact tendrilref03_Unescape.calls k t _ _ _ W hgl (hk k (Nat.le_refl _))
theorem B_upto (s : ByteArray) (i : Nat) : B (s.extract 0 i) = (B s).take i := by rw [B_extract]; simp
theorem B_from (s : ByteArray) (i : Nat) : B (s.extract i s.size) = (B s).drop i := by rw [B_extract, List.take_of_length_le (by rw [List.length_drop, B_len]; omega)]
theorem B_at (s : ByteArray) (i : Nat) (hi : i < s.size) : (B s)[i]? = some (s[i]'hi) := by
  have h : i < (B s).length := by rw [B_len]; exact hi
  rw [List.getElem?_eq_getElem h]; simp [B]; rfl
theorem ext_size (s : ByteArray) (i j : Nat) : (s.extract i j).size ≤ s.size := by rw [ByteArray.size_extract]; omega
theorem width_pos (s : ByteArray) (i : Nat) : 1 ≤ (Utf8.decode s i).2 := by
  simp only [Utf8.decode]
  repeat' split
  all_goals simp
theorem width_le (s : ByteArray) (i : Nat) (h : i < s.size) : i + (Utf8.decode s i).2 ≤ s.size := by
  by_cases hx : (s[i]'h).toNat < 128
  · rw [decode_ascii s i h hx]; show i + 1 ≤ _; omega
  · exact (decode_bytes s i h (by omega)).1
theorem iterAt_other (w : World) (k : Nat) (s : ByteArray) (p : Nat) {j : Nat} (h : j ≠ k) : (w.iterAt k s p).heap[j]? = w.heap[j]? := by
  simp [World.iterAt, Ne.symm h]
theorem iterAt_le {w wx : World} {k : Nat} {s : ByteArray} {p : Nat} (h : Below w.heap.size w wx) (hk : w.heap.size ≤ k) : Below w.heap.size w (wx.iterAt k s p) :=
  ⟨h.os, h.tape, h.output, by simpa [World.iterAt] using h.size, fun j hj => (iterAt_other wx k s p (by omega)).trans (h.block j hj)⟩
theorem blk_lt5 {w : World} {g : Nat} {o : Obj} (h : w.heap[g]? = some o) : g < w.heap.size := by
  rcases Nat.lt_or_ge g w.heap.size with h' | h'
  · exact h'
  · simp [Array.getElem?_eq_none h'] at h
set_option maxHeartbeats 4000000 in
set_option maxRecDepth 100000 in
theorem rread_c (s : ByteArray) (hs : s.size ≤ 1000) (w : World) (hgl : GL w) :
    Calls Tryd.prog 47 #[.string s] w fun e w' => e = .returned (.tuple #[.agg #[.string (readFrom s 0).1, .string (readFrom s 0).2.1, .int .i64 (readFrom s 0).2.2.1], .int .i64 (readFrom s 0).2.2.2]) ∧ Below w.heap.size w w' := by
  have HGL := Aside0.mk hgl
  clear hgl
  go_enter Tryd.func47, Tryd.ntmps47
  go_wp2_with fail
  have H2 := Aside0.mk (two_old w (.cells #[.string ⟨#[]⟩, .string ⟨#[]⟩, .int .i64 0] 56) (.stringIter s 0))
  have HI := Aside0.mk (two_new w (.cells #[.string ⟨#[]⟩, .string ⟨#[]⟩, .int .i64 0] 56) (.stringIter s 0))
  have HB0 := Aside0.mk (below_alloc (below_alloc (Below.refl w.heap.size w) (.cells #[.string ⟨#[]⟩, .string ⟨#[]⟩, .int .i64 0] 56)) (.stringIter s 0))
  go_loopg [4] s.size (fun gk _ wx => ∃ i : Nat, i + gk = s.size ∧ wx.heap[w.heap.size + 1]? = some (.stringIter s i) ∧ wx.heap[w.heap.size]? = some (.cells #[.string ⟨#[]⟩, .string ⟨#[]⟩, .int .i64 0] 56 (0, 0)) ∧ Below w.heap.size w wx ∧ readFrom s i = readFrom s 0)
  case atStart => exact ⟨0, by omega, HI.out, H2.out, HB0.out, rfl⟩
  case round =>
    obtain ⟨i, hig, hit, h2, hb, hrf⟩ := hrel
    clear H2 HI HB0
    have HI := Aside0.mk hit
    have H2 := Aside0.mk h2
    have HB := Aside0.mk hb
    have HR := Aside0.mk hrf
    have HB2 := Aside0.mk (show w.heap.size + 2 ≤ wr.heap.size from blk_lt5 hit)
    clear hit h2 hb hrf
    by_cases hi : i < s.size
    · have hnx := fun ty => Lib.run_next_any_at (P := Tryd.prog) wr (w.heap.size + 1) s i ty HI.out hi
      have hwd := width_pos s i
      have hnx2 : i + ((Utf8.decode s i).2 - 1) + 1 = i + (Utf8.decode s i).2 := by omega
      have hwl : i + (Utf8.decode s i).2 ≤ s.size := width_le s i hi
      have hmiss := readFrom_miss s i hi
      rw [hnx2] at hmiss
      generalize Utf8.decode s i = d at hnx hwd hwl hmiss
      obtain ⟨rn, nw⟩ := d
      simp only at hnx hwd hwl hmiss
      have HMI := Aside0.mk hmiss
      clear hmiss hnx2
      go_wp2_with fail
      have hgs : (wr.iterAt (w.heap.size + 1) s (i + nw)).heap.size = wr.heap.size := by simp [World.iterAt]
      have hk2 : w.heap.size + 2 ≤ wr.heap.size := HB2.out
      obtain ⟨W1, hW1⟩ : ∃ W, W = (wr.iterAt (w.heap.size + 1) s (i + nw)).alloc (.cells #[.string (s.extract 0 i), .string ⟨#[]⟩, .int .i64 0] 56) := ⟨_, rfl⟩
      rw [← hW1]
      obtain ⟨g, hgg⟩ : ∃ g, g = (wr.iterAt (w.heap.size + 1) s (i + nw)).heap.size := ⟨_, rfl⟩
      rw [← hgg]
      have hk3 : w.heap.size + 2 ≤ g := by rw [hgg, hgs]; exact hk2
      have b5 : W1.heap[g]? = some (.cells #[.string (s.extract 0 i), .string ⟨#[]⟩, .int .i64 0] 56 (0, 0)) := by rw [hW1, hgg]; exact heap_alloc_new _ _
      have i5 : W1.heap[w.heap.size + 1]? = some (.stringIter s (i + nw)) := by rw [hW1]; exact ((below_alloc (Below.refl _ _) _).block _ (by rw [hgs]; omega)).trans (Lib.iterAt_heap _ _ _ _ _ HI.out)
      have a5 : W1.heap[w.heap.size]? = some (.cells #[.string ⟨#[]⟩, .string ⟨#[]⟩, .int .i64 0] 56 (0, 0)) := by rw [hW1]; exact ((below_alloc (Below.refl _ _) _).block _ (by rw [hgs]; omega)).trans ((iterAt_other _ _ _ _ (by omega)).trans H2.out)
      have HB5 := Aside0.mk (show Below w.heap.size w W1 by rw [hW1]; exact below_alloc (iterAt_le HB.out (by omega)) _)
      have hs5 : g < W1.heap.size := blk_lt5 b5
      clear hW1 hgs hnx hgg hk2
      refine (named_c (s.extract 0 i) (Nat.le_trans (ext_size s 0 i) hs) W1 (HGL.out.below HB5.out)).mono ?_
      rintro e w1 ⟨rfl, ⟨m1, rfl⟩⟩
      rw [B_upto]
      have x50 : W1.cell? ⟨g, 0, none⟩ = some (.string (s.extract 0 i)) := cell_blk b5 rfl
      by_cases hnm : namedS false ((B s).take i) = true
      · rw [hnm]
        go_wp2_with fail
        have hg2 : GL (W1.drewN m1) := HGL.out.below (pw_below_drewN HB5.out m1)
        have hB5 : Below w.heap.size w (W1.drewN m1) := pw_below_drewN HB5.out m1
        have hB51 : Below (wr.heap.size + 1) W1 (W1.drewN m1) := pw_below_drewN (Below.refl _ W1) m1
        refine (whole_c (s.extract (i + 1) s.size) (Nat.le_trans (ext_size s _ _) hs) (W1.drewN m1) hg2).mono ?_
        rintro e w2 ⟨rfl, hw2⟩
        rw [B_from]
        have b6 : w2.heap[g]? = some (.cells #[.string (s.extract 0 i), .string ⟨#[]⟩, .int .i64 0] 56 (0, 0)) := (hw2.block g (by simpa using hs5)).trans (blk_drewN b5 _)
        have a6 : w2.heap[w.heap.size]? = some (.cells #[.string ⟨#[]⟩, .string ⟨#[]⟩, .int .i64 0] 56 (0, 0)) := (hw2.block _ (by simpa using Nat.lt_of_lt_of_le (by omega) (Nat.le_of_lt hs5))).trans (blk_drewN a5 _)
        have i6 : w2.heap[w.heap.size + 1]? = some (.stringIter s (i + nw)) := (hw2.block _ (by simpa using Nat.lt_of_lt_of_le (by omega) (Nat.le_of_lt hs5))).trans (blk_drewN i5 _)
        have HB6 := Aside0.mk (below_step hB5 hw2)
        have hs6 : g < w2.heap.size := blk_lt5 b6
        clear x50 b5 a5 i5 hB5 hB51 hw2 hg2 hs5 HB5
        have HB6' := Aside0.mk b6
        have HA6 := Aside0.mk a6
        have HI6 := Aside0.mk i6
        have x0 : w2.cell? ⟨g, 0, none⟩ = some (.string (s.extract 0 i)) := cell_blk b6 rfl
        have x1 : w2.cell? ⟨g, 1, none⟩ = some (.string ⟨#[]⟩) := cell_blk b6 rfl
        have x2 : w2.cell? ⟨g, 2, none⟩ = some (.int .i64 0) := cell_blk b6 rfl
        have y0 : w2.cell? ⟨w.heap.size, 0, none⟩ = some (.string ⟨#[]⟩) := cell_blk a6 rfl
        have y1 : w2.cell? ⟨w.heap.size, 1, none⟩ = some (.string ⟨#[]⟩) := cell_blk a6 rfl
        have y2 : w2.cell? ⟨w.heap.size, 2, none⟩ = some (.int .i64 0) := cell_blk a6 rfl
        have hf0 := blk_frozen b6 0
        have hf1 := blk_frozen b6 1
        have hf2 := blk_frozen b6 2
        have hq0 := blk_frozen a6 0
        have hq1 := blk_frozen a6 1
        have hq2 := blk_frozen a6 2
        have hne : (w.heap.size == g) = false := by rw [beq_eq_false_iff_ne]; omega
        have hne' : (g == w.heap.size) = false := by rw [beq_eq_false_iff_ne]; omega
        clear b6 a6 i6
        have hbi : (B s)[i]? = some (s[i]'hi) := B_at s i hi
        obtain ⟨n, ok, hwh⟩ : ∃ n ok, wholeS ((B s).drop (i + 1)) = (n, ok) := ⟨_, _, rfl⟩
        obtain ⟨l, at0, er, hun⟩ : ∃ l at0 er, unS ((B s).drop (i + 1)) 0 [] = (l, at0, er) := ⟨_, _, _, rfl⟩
        rw [hwh]
        by_cases h58 : s[i]'hi = 58
        · have hn35 : ¬ (s[i]'hi = 35) := by rw [h58]; decide
          cases ok with
          | true =>
            by_cases hn : 1 ≤ n
            · have htr : tryR s i = some (s.extract 0 i, ⟨#[]⟩, n, 0) := by unfold tryR; rw [if_pos hnm, hbi, hwh, if_pos ⟨by rw [h58], rfl, hn⟩]
              have hd : decide (1 ≤ n) = true := decide_eq_true hn
              go_wp2_with fail
              refine bodyPost_ret (results_ct rfl _ _ w.heap.size 56 #[.string (s.extract 0 i), .string ⟨#[]⟩, .int .i64 n] (0, 0) _ rfl ?blk Tryd.underlying56 rfl (by kernel_rfl)) rfl ?_
              case blk =>
                refine blk_put (cs := #[.string (s.extract 0 i), .string ⟨#[]⟩, .int .i64 0]) ?_ 2 _ rfl
                refine blk_put (cs := #[.string (s.extract 0 i), .string ⟨#[]⟩, .int .i64 0]) ?_ 1 _ rfl
                refine blk_put (cs := #[.string ⟨#[]⟩, .string ⟨#[]⟩, .int .i64 0]) ?_ 0 _ rfl
                exact blk_far HA6.out (show w.heap.size ≠ g by omega) _
              refine ⟨?_, below_set (below_set (below_set (below_set HB6.out (show w.heap.size ≤ g by omega)) (Nat.le_refl _)) (Nat.le_refl _)) (Nat.le_refl _)⟩
              rw [← HR.out, readFrom_hit s i hi _ htr]
              rfl
            · have htr : tryR s i = none := by
                unfold tryR
                rw [if_pos hnm, hbi, hwh, if_neg (fun h => hn h.2.2), if_neg (fun h => hn35 (Option.some.inj h.1))]
              have hd : decide (1 ≤ n) = false := decide_eq_false hn
              go_wp2_with fail
              have hg6 : GL w2 := HGL.out.below HB6.out
              refine (unesc_c (s.extract (i + 1) s.size) (Nat.le_trans (ext_size s _ _) hs) w2 hg6).mono ?_
              rintro e w3 ⟨rfl, hw3⟩
              rw [B_from]
              have b7 : w3.heap[g]? = some (.cells #[.string (s.extract 0 i), .string ⟨#[]⟩, .int .i64 0] 56 (0, 0)) := (hw3.block _ (by omega)).trans HB6'.out
              have i7 : w3.heap[w.heap.size + 1]? = some (.stringIter s (i + nw)) := (hw3.block _ (by omega)).trans HI6.out
              have a7 : w3.heap[w.heap.size]? = some (.cells #[.string ⟨#[]⟩, .string ⟨#[]⟩, .int .i64 0] 56 (0, 0)) := (hw3.block _ (by omega)).trans HA6.out
              have HB7 := Aside0.mk (below_step HB6.out hw3)
              have hs7 : g < w3.heap.size := blk_lt5 b7
              clear x0 x1 x2 y0 y1 y2 hf0 hf1 hf2 hq0 hq1 hq2 hw3
              rw [hun]
              go_wp2_with fail
              go_roundg (s.size - (i + nw))
              case measure => omega
              case rel => exact ⟨i + nw, by omega, i7, a7, HB7.out, (HMI.out htr).symm.trans HR.out⟩
          | false =>
            have htr : tryR s i = none := by
              unfold tryR
              rw [if_pos hnm, hbi, hwh, if_neg (fun h => Bool.false_ne_true h.2.1), if_neg (fun h => hn35 (Option.some.inj h.1))]
            go_wp2_with fail
            have hg6 : GL w2 := HGL.out.below HB6.out
            refine (unesc_c (s.extract (i + 1) s.size) (Nat.le_trans (ext_size s _ _) hs) w2 hg6).mono ?_
            rintro e w3 ⟨rfl, hw3⟩
            rw [B_from]
            have b7 : w3.heap[g]? = some (.cells #[.string (s.extract 0 i), .string ⟨#[]⟩, .int .i64 0] 56 (0, 0)) := (hw3.block _ (by omega)).trans HB6'.out
            have i7 : w3.heap[w.heap.size + 1]? = some (.stringIter s (i + nw)) := (hw3.block _ (by omega)).trans HI6.out
            have a7 : w3.heap[w.heap.size]? = some (.cells #[.string ⟨#[]⟩, .string ⟨#[]⟩, .int .i64 0] 56 (0, 0)) := (hw3.block _ (by omega)).trans HA6.out
            have HB7 := Aside0.mk (below_step HB6.out hw3)
            have hs7 : g < w3.heap.size := blk_lt5 b7
            clear x0 x1 x2 y0 y1 y2 hf0 hf1 hf2 hq0 hq1 hq2 hw3
            rw [hun]
            go_wp2_with fail
            go_roundg (s.size - (i + nw))
            case measure => omega
            case rel => exact ⟨i + nw, by omega, i7, a7, HB7.out, (HMI.out htr).symm.trans HR.out⟩
        · have hz58 : ((s[i]'hi).toNat : Int) ≠ 58 := fun h => h58 (UInt8.toNat_inj.1 (by show (s[i]'hi).toNat = 58; omega))
          go_wp2_with fail
          have hg6 : GL w2 := HGL.out.below HB6.out
          refine (unesc_c (s.extract (i + 1) s.size) (Nat.le_trans (ext_size s _ _) hs) w2 hg6).mono ?_
          rintro e w3 ⟨rfl, hw3⟩
          rw [B_from]
          have b7 : w3.heap[g]? = some (.cells #[.string (s.extract 0 i), .string ⟨#[]⟩, .int .i64 0] 56 (0, 0)) := (hw3.block _ (by omega)).trans HB6'.out
          have i7 : w3.heap[w.heap.size + 1]? = some (.stringIter s (i + nw)) := (hw3.block _ (by omega)).trans HI6.out
          have a7 : w3.heap[w.heap.size]? = some (.cells #[.string ⟨#[]⟩, .string ⟨#[]⟩, .int .i64 0] 56 (0, 0)) := (hw3.block _ (by omega)).trans HA6.out
          have HB7 := Aside0.mk (below_step HB6.out hw3)
          have hs7 : g < w3.heap.size := blk_lt5 b7
          clear x0 x1 x2 y0 y1 y2 hf0 hf1 hf2 hq0 hq1 hq2 hw3
          rw [hun]
          obtain ⟨k, hk⟩ : ∃ k : ByteArray, k = ⟨l.toArray⟩ := ⟨_, rfl⟩
          rw [← hk]
          have hkl : B k = l := by rw [hk]
          clear hk
          by_cases h35 : s[i]'hi = 35
          · have hz35 : ((s[i]'hi).toNat : Int) = 35 := by rw [h35]; rfl
            have hn58 : ∀ X Y : Prop, ¬ ((some (s[i]'hi) = some 58) ∧ X ∧ Y) := fun X Y h => h58 (Option.some.inj h.1)
            by_cases her : er = 0
            · by_cases hl0 : l = []
              · have hk0 : k.toList = [] := by rw [toList_B, hkl, hl0]
                have hk1 : k.toList.isEmpty = true := by rw [hk0]; rfl
                have htr : tryR s i = none := by
                  unfold tryR
                  rw [if_pos hnm, hbi, hwh, if_neg (hn58 _ _), hun, if_neg (fun h => h.2.2.1 hl0)]
                go_wp2_with fail
                go_roundg (s.size - (i + nw))
                case measure => omega
                case rel => exact ⟨i + nw, by omega, i7, a7, HB7.out, (HMI.out htr).symm.trans HR.out⟩
              · have hk0 : k.toList ≠ [] := by rw [toList_B, hkl]; exact hl0
                have hk1 : k.toList.isEmpty = false := by rw [Bool.eq_false_iff]; intro h; exact hk0 (List.isEmpty_iff.1 h)
                have hks : k.size = l.length := by rw [← hkl, B_len]
                by_cases h64 : l.length ≤ 65536
                · have htr : tryR s i = some (s.extract 0 i, ⟨l.toArray⟩, 0, 0) := by
                    unfold tryR
                    rw [if_pos hnm, hbi, hwh, if_neg (hn58 _ _), hun, if_pos ⟨by rw [h35], her, hl0, h64⟩]
                  have hk6 : (k.size : Int) ≤ 65536 := by omega
                  have hk7 := decide_eq_true hk6
                  have x0 : w3.cell? ⟨g, 0, none⟩ = some (.string (s.extract 0 i)) := cell_blk b7 rfl
                  have x1 : w3.cell? ⟨g, 1, none⟩ = some (.string ⟨#[]⟩) := cell_blk b7 rfl
                  have x2 : w3.cell? ⟨g, 2, none⟩ = some (.int .i64 0) := cell_blk b7 rfl
                  have y0 : w3.cell? ⟨w.heap.size, 0, none⟩ = some (.string ⟨#[]⟩) := cell_blk a7 rfl
                  have y1 : w3.cell? ⟨w.heap.size, 1, none⟩ = some (.string ⟨#[]⟩) := cell_blk a7 rfl
                  have y2 : w3.cell? ⟨w.heap.size, 2, none⟩ = some (.int .i64 0) := cell_blk a7 rfl
                  have hf0 := blk_frozen b7 0
                  have hf1 := blk_frozen b7 1
                  have hf2 := blk_frozen b7 2
                  have hq0 := blk_frozen a7 0
                  have hq1 := blk_frozen a7 1
                  have hq2 := blk_frozen a7 2
                  go_wp2_with fail
                  have hkk : k = ⟨l.toArray⟩ := B_inj (by rw [hkl])
                  refine bodyPost_ret (results_ct rfl _ _ w.heap.size 56 #[.string (s.extract 0 i), .string k, .int .i64 0] (0, 0) _ rfl ?blk Tryd.underlying56 rfl (by kernel_rfl)) rfl ?_
                  case blk =>
                    refine blk_put (cs := #[.string (s.extract 0 i), .string k, .int .i64 0]) ?_ 2 _ rfl
                    refine blk_put (cs := #[.string (s.extract 0 i), .string ⟨#[]⟩, .int .i64 0]) ?_ 1 _ rfl
                    refine blk_put (cs := #[.string ⟨#[]⟩, .string ⟨#[]⟩, .int .i64 0]) ?_ 0 _ rfl
                    exact blk_far a7 (show w.heap.size ≠ g by omega) _
                  refine ⟨?_, below_set (below_set (below_set (below_set HB7.out (show w.heap.size ≤ g by omega)) (Nat.le_refl _)) (Nat.le_refl _)) (Nat.le_refl _)⟩
                  rw [← HR.out, readFrom_hit s i hi _ htr, hkk]
                  rfl
                · have htr : tryR s i = none := by
                    unfold tryR
                    rw [if_pos hnm, hbi, hwh, if_neg (hn58 _ _), hun, if_neg (fun h => h64 h.2.2.2)]
                  have hk6 : ¬ (k.size : Int) ≤ 65536 := by omega
                  have hk7 := decide_eq_false hk6
                  go_wp2_with fail
                  go_roundg (s.size - (i + nw))
                  case measure => omega
                  case rel => exact ⟨i + nw, by omega, i7, a7, HB7.out, (HMI.out htr).symm.trans HR.out⟩
            · have htr : tryR s i = none := by
                unfold tryR
                rw [if_pos hnm, hbi, hwh, if_neg (hn58 _ _), hun, if_neg (fun h => her h.2.1)]
              have her' : (er == 0) = false := beq_eq_false_iff_ne.2 her
              go_wp2_with fail
              go_roundg (s.size - (i + nw))
              case measure => omega
              case rel => exact ⟨i + nw, by omega, i7, a7, HB7.out, (HMI.out htr).symm.trans HR.out⟩
          · have hz35 : ((s[i]'hi).toNat : Int) ≠ 35 := fun h => h35 (UInt8.toNat_inj.1 (by show (s[i]'hi).toNat = 35; omega))
            have htr : tryR s i = none := by
              unfold tryR
              rw [if_pos hnm, hbi, hwh, if_neg (fun h => h58 (Option.some.inj h.1)), if_neg (fun h => h35 (Option.some.inj h.1))]
            go_wp2_with fail
            go_roundg (s.size - (i + nw))
            case measure => omega
            case rel => exact ⟨i + nw, by omega, i7, a7, HB7.out, (HMI.out htr).symm.trans HR.out⟩
      · have hnf : namedS false ((B s).take i) = false := by simpa using hnm
        rw [hnf]
        have htr : tryR s i = none := by unfold tryR; rw [if_neg hnm]
        go_wp2_with fail
        go_roundg (s.size - (i + nw))
        case measure => omega
        case rel => exact ⟨i + nw, by omega, i5, a5, pw_below_drewN HB5.out _, (HMI.out htr).symm.trans HR.out⟩
    · have his : i = s.size := by omega
      have hnx := fun ty => Lib.run_next_end_at (P := Tryd.prog) wr (w.heap.size + 1) s i ty HI.out (by omega)
      have y0 : wr.cell? ⟨w.heap.size, 0, none⟩ = some (.string ⟨#[]⟩) := cell_blk H2.out rfl
      have y1 : wr.cell? ⟨w.heap.size, 1, none⟩ = some (.string ⟨#[]⟩) := cell_blk H2.out rfl
      have y2 : wr.cell? ⟨w.heap.size, 2, none⟩ = some (.int .i64 0) := cell_blk H2.out rfl
      have hq0 := blk_frozen H2.out 0
      have hq1 := blk_frozen H2.out 1
      have hq2 := blk_frozen H2.out 2
      go_wp2_with fail
      refine bodyPost_ret (results_ct rfl _ _ w.heap.size 56 #[.string ⟨#[]⟩, .string ⟨#[]⟩, .int .i64 0] (0, 0) _ rfl ?blk Tryd.underlying56 rfl (by kernel_rfl)) rfl ?_
      case blk =>
        refine blk_put (cs := #[.string ⟨#[]⟩, .string ⟨#[]⟩, .int .i64 0]) ?_ 2 _ rfl
        refine blk_put (cs := #[.string ⟨#[]⟩, .string ⟨#[]⟩, .int .i64 0]) ?_ 1 _ rfl
        refine blk_put (cs := #[.string ⟨#[]⟩, .string ⟨#[]⟩, .int .i64 0]) ?_ 0 _ rfl
        exact H2.out
      refine ⟨?_, below_set (below_set (below_set HB.out (Nat.le_refl _)) (Nat.le_refl _)) (Nat.le_refl _)⟩
      rw [← HR.out, his, readFrom_end]
      rfl
end Go.Proofs.YtpanmmpkdbhofaaDoorE

namespace Go.Proofs.YtpanmmpkdbhofaaDoorE
open Go Go.RowKit Go.Proofs.YtpanmmpkdbhofaaDoorW.PrintWords Go.Proofs.YtpanmmpkdbhofaaDoorX Go.Proofs.YtpanmmpkdbhofaaDoor.P12r Go.Proofs.YtpanmmpkdbhofaaDoor.M02 Go.Proofs.YtpanmmpkdbhofaaDoorW.PrintMore Go.Proofs.YtpanmmpkdbhofaaDoorW.PrintLast
set_option linter.unusedVariables false
def sg2 : List UInt8 := [35, 58]
def stop2 (l : List UInt8) : Nat := l.findIdx fun b => sg2.contains b
theorem stop2_le (l : List UInt8) : stop2 l ≤ l.length := List.findIdx_le_length
theorem stop2_no (l : List UInt8) : Lib.NoAny l sg2 (stop2 l) := by
  intro j b hj hb
  obtain ⟨hlt, rfl⟩ := List.getElem?_eq_some_iff.1 hb
  have := List.not_of_lt_findIdx hj
  simpa using this
theorem stop2_hit (l : List UInt8) (h : stop2 l < l.length) : sg2.contains (l[stop2 l]'h) = true := List.findIdx_getElem (w := h)
theorem any_stop2 (l : List UInt8) : Lib.indexAny l sg2 = if stop2 l < l.length then (stop2 l : Int) else -1 := by
  split
  · rename_i h
    exact Lib.indexAny_hit (stop2_no l) (List.getElem?_eq_getElem h) (stop2_hit l h)
  · rename_i h
    exact Lib.indexAny_none (by rw [show l.length = stop2 l by have := stop2_le l; omega]; exact stop2_no l)
theorem any_f2 (s : ByteArray) (h : s.size ≤ 1000000) : strings_IndexAny.f s ⟨#[35, 58]⟩ = some (if stop2 (B s) < (B s).length then (stop2 (B s) : Int) else -1) := by
  unfold strings_IndexAny.f
  rw [if_pos ⟨by omega, by decide, by decide, by decide⟩]
  congr 1
  exact any_stop2 _
abbrev noR : RL := (⟨#[]⟩, ⟨#[]⟩, 0, 2)
theorem tryR_plain (s : ByteArray) (i : Nat) (h58 : (B s)[i]? ≠ some 58) (h35 : (B s)[i]? ≠ some 35) : tryR s i = none := by
  unfold tryR
  split
  · rw [if_neg (fun e => h58 e.1), if_neg (fun e => h35 e.1)]
  · rfl
theorem readFrom_none (s : ByteArray) : ∀ d i, s.size - i ≤ d → (∀ j, i ≤ j → j < s.size → tryR s j = none) → readFrom s i = noR := by
  intro d
  induction d with
  | zero => intro i hd _; rw [readFrom, dif_neg (by omega)]
  | succ d ih =>
    intro i hd h
    by_cases hi : i < s.size
    · rw [readFrom_miss s i hi (h i (Nat.le_refl _) hi)]
      have := width_pos s i
      exact ih _ (by omega) (fun j hj hjs => h j (by omega) hjs)
    · rw [readFrom, dif_neg hi]
theorem readFrom_skip (s : ByteArray) (p : Nat) (hp : p < s.size) (ha : (s[p]'hp).toNat < 128) : ∀ d i, p - i ≤ d → i ≤ p → (∀ j, i ≤ j → j < p → tryR s j = none) → readFrom s i = readFrom s p := by
  intro d
  induction d with
  | zero => intro i hd hip _; rw [show i = p by omega]
  | succ d ih =>
    intro i hd hip h
    by_cases he : i = p
    · rw [he]
    · have hi : i < s.size := by omega
      rw [readFrom_miss s i hi (h i (Nat.le_refl _) (by omega))]
      have hw := width_pos s i
      have hle : i + (Utf8.decode s i).2 ≤ p := by
        by_cases hx : (s[i]'hi).toNat < 128
        · rw [decode_ascii s i hi hx]; show i + 1 ≤ p; omega
        · have hb := (decode_bytes s i hi (by omega)).2
          rcases Nat.lt_or_ge p (i + (Utf8.decode s i).2) with hlt | hge
          · have h1 := hb (p - i) (by omega) (by omega)
            have e : i + (p - i) = p := by omega
            simp only [e] at h1
            omega
          · exact hge
      exact ih _ (by omega) (by omega) (fun j hj hjs => h j (by omega) hjs)
theorem tryR_later (s : ByteArray) (p j : Nat) (hp : p < (B s).length) (hc : (B s)[p] = 58 ∨ (B s)[p] = 35) (hj : p < j) : tryR s j = none := by
  unfold tryR
  rw [if_neg]
  intro hn
  have hm : (B s)[p] ∈ (B s).take j := List.mem_take_iff_getElem.2 ⟨p, by omega, rfl⟩
  generalize (B s).take j = l at hn hm
  cases l with
  | nil => simp at hm
  | cons c t =>
    rw [namedS_cons] at hn
    simp only [Bool.and_eq_true, List.all_eq_true] at hn
    have := hn.2 _ hm
    rcases hc with hc | hc <;> rw [hc] at this <;> exact absurd this (by decide)
theorem readFrom_eq (s : ByteArray) : readFrom s 0 = if h : stop2 (B s) < (B s).length then ((tryR s (stop2 (B s))).getD noR) else noR := by
  have hno := stop2_no (B s)
  have hpl : ∀ j, j < stop2 (B s) → tryR s j = none := by
    intro j hj
    refine tryR_plain s j (fun e => ?_) (fun e => ?_)
    · have := hno j 58 hj e; exact absurd this (by decide)
    · have := hno j 35 hj e; exact absurd this (by decide)
  split
  · rename_i h
    have hh := stop2_hit (B s) h
    have hps : stop2 (B s) < s.size := by rw [← B_len]; exact h
    have hc : (B s)[stop2 (B s)] = 58 ∨ (B s)[stop2 (B s)] = 35 := by
      simp [sg2] at hh
      rcases hh with hh | hh
      · exact Or.inr hh
      · exact Or.inl hh
    have hgt : (B s)[stop2 (B s)]'h = s[stop2 (B s)]'hps := by
      have := B_at s _ hps
      rw [List.getElem?_eq_getElem h] at this
      exact Option.some.inj this
    have ha : (s[stop2 (B s)]'hps).toNat < 128 := by
      rw [← hgt]
      rcases hc with hc | hc <;> rw [hc] <;> decide
    rw [readFrom_skip s _ hps ha _ 0 (Nat.le_refl _) (Nat.zero_le _) (fun j _ hj => hpl j hj)]
    cases htr : tryR s (stop2 (B s)) with
    | some r => rw [readFrom_hit s _ hps r htr]; rfl
    | none =>
      rw [readFrom_miss s _ hps htr]
      have := width_pos s (stop2 (B s))
      exact readFrom_none s _ _ (Nat.le_refl _) (fun j hj hjs => tryR_later s _ j h hc (by omega))
  · rename_i h
    exact readFrom_none s _ 0 (Nat.le_refl _) (fun j _ hj => hpl j (by have := B_len s; omega))
theorem lread_ev (s : ByteArray) (hs : s.size ≤ 1000) : Ev (fun k => Go.Proofs.YtpanmmpkdbhofaaDoor.P12r.label_Read.f k s) (readFrom s 0) := by
  rw [readFrom_eq]
  have hBl := B_len s
  by_cases h : stop2 (B s) < (B s).length
  · rw [dif_pos h]
    have hh := stop2_hit (B s) h
    obtain ⟨k0, hk0⟩ := tag_ev (s.extract 0 (stop2 (B s))) (by have := ext_size s 0 (stop2 (B s)); omega)
    rw [B_upto] at hk0
    refine ⟨k0 + 1, fun k hk => ?_⟩
    obtain ⟨k, rfl⟩ : ∃ m, k = m + 1 := ⟨k - 1, by omega⟩
    have hbt : bt s (stop2 (B s) : Int) = ((B s)[stop2 (B s)]'h).toNat := bt_nat h
    have hget : (B s)[stop2 (B s)]? = some ((B s)[stop2 (B s)]'h) := List.getElem?_eq_getElem h
    have hc : (B s)[stop2 (B s)]'h = 58 ∨ (B s)[stop2 (B s)]'h = 35 := by
      simp [sg2] at hh
      rcases hh with hh | hh
      · exact Or.inr hh
      · exact Or.inl hh
    generalize (B s)[stop2 (B s)]'h = c at hbt hget hc
    generalize hp : stop2 (B s) = p at *
    have hp1 : (wrap64 ((p : Int) + 1)).toNat = p + 1 := by rw [w64 (by omega) (by omega)]; omega
    have hp2 : 0 ≤ wrap64 ((p : Int) + 1) := by rw [w64 (by omega) (by omega)]; omega
    have hp3 : wrap64 ((p : Int) + 1) ≤ (s.size : Int) := by rw [w64 (by omega) (by omega)]; omega
    have hsz := ext_size s (p + 1) s.size
    have hwf : chars_Whole.f (s.extract (p + 1) s.size) = some (wholeS ((B s).drop (p + 1))) := by
      unfold chars_Whole.f; rw [if_pos (by omega)]; congr 2; exact B_from s (p + 1)
    have huf : escape_Unescape.f (s.extract (p + 1) s.size) = some (⟨(unS ((B s).drop (p + 1)) 0 []).1.toArray⟩, (unS ((B s).drop (p + 1)) 0 []).2.1, (unS ((B s).drop (p + 1)) 0 []).2.2) := by
      unfold escape_Unescape.f
      rw [if_pos (by omega)]
      have e : (s.extract (p + 1) s.size).data.toList = (B s).drop (p + 1) := B_from s (p + 1)
      rw [e]
    simp only [label_Read.f]
    rw [any_f2 s (by omega), hp, if_pos h]
    simp only [Option.bind_some]
    rw [if_neg (by omega), if_pos (by omega), if_pos (by omega), Int.toNat_natCast, show chars_Tag.f (k + 1) (s.extract 0 p) = _ from hk0 (k + 1) (by omega)]
    simp only [Option.bind_some]
    unfold tryR
    cases hn : namedS false ((B s).take p) with
    | false => simp [label_Read.j0]
    | true =>
      simp only [label_Read.j0, Bool.not_true, Bool.false_eq_true, if_false, if_true]
      rw [if_pos (by omega), if_pos (by omega), if_pos (by omega), hbt, hp1, hget, hwf, huf, Int.toNat_natCast]
      simp only [if_pos hp2, if_pos hp3]
      generalize wholeS ((B s).drop (p + 1)) = nw
      obtain ⟨n, ok⟩ := nw
      generalize unS ((B s).drop (p + 1)) 0 [] = u
      obtain ⟨l, at0, er⟩ := u
      simp only [Option.bind_some]
      rcases hc with rfl | rfl
      · rw [if_pos (by decide)]
        rw [if_neg (c := (some (58 : UInt8) = some 35 ∧ _)) (fun e => absurd e.1 (by decide))]
        cases ok with
        | false => simp
        | true =>
          by_cases hn1 : 1 ≤ n
          · rw [if_pos (c := (some (58 : UInt8) = some 58 ∧ _)) ⟨rfl, rfl, hn1⟩, if_pos rfl, if_neg (by omega)]; rfl
          · rw [if_neg (c := (some (58 : UInt8) = some 58 ∧ _)) (fun e => hn1 e.2.2), if_pos rfl, if_pos (by omega)]; rfl
      · rw [if_neg (by decide)]
        rw [if_neg (c := (some (35 : UInt8) = some 58 ∧ _)) (fun e => absurd e.1 (by decide))]
        by_cases her : er = 0
        · rw [if_pos her]
          by_cases hl0 : l = []
          · rw [if_pos (by rw [toList_B, hl0]), if_neg (c := (some (35 : UInt8) = some 35 ∧ _)) (fun e => e.2.2.1 hl0)]; rfl
          · rw [if_neg (by rw [toList_B]; exact hl0)]
            simp only [chars_Fits.f, Option.bind_some]
            have hz : (⟨l.toArray⟩ : ByteArray).size = l.length := by rw [← B_len]
            rw [hz]
            by_cases h64 : l.length ≤ 65536
            · rw [if_pos (c := (True ∧ _)) ⟨trivial, her, hl0, h64⟩, if_pos (decide_eq_true (by omega))]; rfl
            · rw [if_neg (c := (True ∧ _)) (fun e => h64 e.2.2.2), if_neg (by rw [decide_eq_true_iff]; omega)]; rfl
        · rw [if_neg her, if_neg (c := (some (35 : UInt8) = some 35 ∧ _)) (fun e => her e.2.1)]; rfl
  · rw [dif_neg h]
    refine ⟨1, fun k hk => ?_⟩
    obtain ⟨k, rfl⟩ : ∃ m, k = m + 1 := ⟨k - 1, by omega⟩
    simp only [label_Read.f]
    rw [any_f2 s (by omega), if_neg h]
    simp [label_Read.j0]

def textS (a b : ByteArray) (n : Int) : ByteArray := if B b = [] then (a ++ ⟨#[58]⟩) ++ mkS (Lib.itoa n) else (a ++ ⟨#[35]⟩) ++ ⟨(escS (B b)).toArray⟩
theorem itoa_len (n : Int) (h0 : -9223372036854775808 ≤ n) (h1 : n ≤ 9223372036854775807) : (mkS (Lib.itoa n)).size ≤ 1000 := by
  rw [← B_len, B_mkS]
  unfold Lib.itoa
  split
  · have := dd_len 20 n.natAbs (by omega); simp only [List.length_cons]; omega
  · have := dd_len 20 n.toNat (by omega); omega
theorem esc_size (b : ByteArray) (hb : b.size ≤ 1000000) : (⟨(escS (B b)).toArray⟩ : ByteArray).size ≤ 6000000 := by
  rw [← B_len]
  have := escS_len (B b)
  have h2 := B_len b
  show (escS (B b)).length ≤ _
  omega
theorem ltext_f (a b : ByteArray) (n : Int) (ha : a.size ≤ 1000000) (hb : b.size ≤ 1000000) (h0 : -9223372036854775808 ≤ n) (h1 : n ≤ 9223372036854775807) : Go.Proofs.YtpanmmpkdbhofaaDoor.P12r.label_Text.f a b n = some (textS a b n) := by
  have hi := itoa_len n h0 h1
  have he := esc_size b hb
  unfold Go.Proofs.YtpanmmpkdbhofaaDoor.P12r.label_Text.f textS
  rw [toList_B, decimal_f n h0 h1]
  simp only [escape_Escape.f, if_pos (show b.size ≤ 1000000000000 by omega), Option.bind_some, if_pos (show a.size + 1 ≤ 9223372036854775807 by omega)]
  by_cases h : B b = []
  · rw [if_pos h, if_pos h, if_pos (by rw [ByteArray.size_append]; show a.size + 1 + _ ≤ _; omega)]
  · rw [if_neg h, if_neg h, if_pos (by rw [ByteArray.size_append]; show a.size + 1 + (⟨(escS (B b)).toArray⟩ : ByteArray).size ≤ _; omega)]
theorem rtext_ev (a b : ByteArray) (n : Int) (ha : a.size ≤ 1000000) (hb : b.size ≤ 1000000) (h0 : -9223372036854775808 ≤ n) (h1 : n ≤ 9223372036854775807) : Ev (fun k => Go.Proofs.YtpanmmpkdbhofaaDoor.P12r.tendrilref12_Text.f k a b n) (textS a b n) := by
  have hi := itoa_len n h0 h1
  have he := esc_size b hb
  obtain ⟨k1, hk1⟩ := rdec_ev n h0 h1
  obtain ⟨k2, hk2⟩ := Go.Proofs.YtpanmmpkdbhofaaDoor.M03.resc_run b hb
  refine ⟨max k1 k2, fun k hk => ?_⟩
  unfold Go.Proofs.YtpanmmpkdbhofaaDoor.P12r.tendrilref12_Text.f textS
  show (if _ then _ else _) = _
  rw [toList_B, show tendrilref02_Decimal.f k n = _ from hk1 k (by omega), show tendrilref03_Escape.f k b = _ from hk2 k (by omega)]
  simp only [Option.bind_some, if_pos (show a.size + 1 ≤ 9223372036854775807 by omega)]
  by_cases h : B b = []
  · rw [if_pos h, if_pos h, if_pos (by rw [ByteArray.size_append]; show a.size + 1 + _ ≤ _; omega)]
  · rw [if_neg h, if_neg h, if_pos (by rw [ByteArray.size_append]; show a.size + 1 + (⟨(escS (B b)).toArray⟩ : ByteArray).size ≤ _; omega)]

def label_Read.f (a0 : ByteArray) : Option RL := if a0.size ≤ 1000 then some (readFrom a0 0) else none
theorem label_Read.calls (a0 r1 r2 : ByteArray) (r3 r4 : Int) (w : World) (hgl : GL w) (h : Go.Proofs.YtpanmmpkdbhofaaDoorE.label_Read.f a0 = some (r1, r2, r3, r4)) :
    Calls Tryd.prog 43 #[.string a0] w fun e w' => e = .returned (.tuple #[.agg #[.string r1, .string r2, .int .i64 r3], .int .i64 r4]) ∧ Below w.heap.size w w' := by
  unfold Go.Proofs.YtpanmmpkdbhofaaDoorE.label_Read.f at h
  split at h
  · rename_i hs
    injection h with h
    obtain ⟨k, hk⟩ := (lread_ev a0 hs).rounds
    rw [h] at hk
    exact Go.Proofs.YtpanmmpkdbhofaaDoor.P12r.label_Read.calls k a0 r1 r2 r3 r4 w hgl hk
  · simp at h
def tendrilref12_Read.f (a0 : ByteArray) : Option RL := if a0.size ≤ 1000 then some (readFrom a0 0) else none
theorem tendrilref12_Read.calls (a0 r1 r2 : ByteArray) (r3 r4 : Int) (w : World) (hgl : GL w) (h : Go.Proofs.YtpanmmpkdbhofaaDoorE.tendrilref12_Read.f a0 = some (r1, r2, r3, r4)) :
    Calls Tryd.prog 47 #[.string a0] w fun e w' => e = .returned (.tuple #[.agg #[.string r1, .string r2, .int .i64 r3], .int .i64 r4]) ∧ Below w.heap.size w w' := by
  unfold Go.Proofs.YtpanmmpkdbhofaaDoorE.tendrilref12_Read.f at h
  split at h
  · rename_i hs
    injection h with h
    have := rread_c a0 hs w hgl
    rw [h] at this
    exact this
  · simp at h
def label_Text.f (a0_0 a0_1 : ByteArray) (a0_2 : Int) : Option ByteArray := if a0_0.size ≤ 1000000 ∧ a0_1.size ≤ 1000000 ∧ -9223372036854775808 ≤ a0_2 ∧ a0_2 ≤ 9223372036854775807 then some (textS a0_0 a0_1 a0_2) else none
theorem label_Text.calls (a0_0 a0_1 : ByteArray) (a0_2 : Int) (r : ByteArray) (w : World) (hgl : GL w) (h : Go.Proofs.YtpanmmpkdbhofaaDoorE.label_Text.f a0_0 a0_1 a0_2 = some r) :
    Calls Tryd.prog 44 #[.agg #[.string a0_0, .string a0_1, .int .i64 a0_2]] w fun e w' => e = .returned (.string r) ∧ Below w.heap.size w w' := by
  unfold Go.Proofs.YtpanmmpkdbhofaaDoorE.label_Text.f at h
  split at h
  · rename_i hs
    injection h with h
    exact Go.Proofs.YtpanmmpkdbhofaaDoor.P12r.label_Text.calls a0_0 a0_1 a0_2 r w hgl (by rw [ltext_f _ _ _ hs.1 hs.2.1 hs.2.2.1 hs.2.2.2, h])
  · simp at h
def tendrilref12_Text.f (a0_0 a0_1 : ByteArray) (a0_2 : Int) : Option ByteArray := if a0_0.size ≤ 1000000 ∧ a0_1.size ≤ 1000000 ∧ -9223372036854775808 ≤ a0_2 ∧ a0_2 ≤ 9223372036854775807 then some (textS a0_0 a0_1 a0_2) else none
theorem tendrilref12_Text.calls (a0_0 a0_1 : ByteArray) (a0_2 : Int) (r : ByteArray) (w : World) (hgl : GL w) (h : Go.Proofs.YtpanmmpkdbhofaaDoorE.tendrilref12_Text.f a0_0 a0_1 a0_2 = some r) :
    Calls Tryd.prog 48 #[.agg #[.string a0_0, .string a0_1, .int .i64 a0_2]] w fun e w' => e = .returned (.string r) ∧ Below w.heap.size w w' := by
  unfold Go.Proofs.YtpanmmpkdbhofaaDoorE.tendrilref12_Text.f at h
  split at h
  · rename_i hs
    injection h with h
    obtain ⟨k, hk⟩ := (rtext_ev a0_0 a0_1 a0_2 hs.1 hs.2.1 hs.2.2.1 hs.2.2.2).rounds
    rw [h] at hk
    exact Go.Proofs.YtpanmmpkdbhofaaDoor.P12r.tendrilref12_Text.calls k a0_0 a0_1 a0_2 r w hgl hk
  · simp at h
end Go.Proofs.YtpanmmpkdbhofaaDoorE

namespace Go.Proofs.YtpanmmpkdbhofaaDoor.P12t
open Go.RowKit Go.Proofs.YtpanmmpkdbhofaaDoorE Go.Proofs.YtpanmmpkdbhofaaDoorW.PrintWords Go.Proofs.YtpanmmpkdbhofaaDoorW.PrintLast Go.Proofs.YtpanmmpkdbhofaaDoorW.PrintMore
attribute [local go_sem] max2_int min2_int max_two min_two max_three min_three max_four min_four   -- for this text's walks alone
set_option linter.unusedVariables false
set_option linter.unusedSimpArgs false

def errW : Option Int → Value
  | none => .nilIface
  | some c => .iface 0 (.int .i64 c)
theorem errW_none : errW none = .nilIface := rfl
theorem errW_some (c : Int) : errW (some c) = .iface 0 (.int .i64 c) := rfl

theorem info56 : (Tryd.prog.info? 56).map (fun i => (i.zero, i.size, i.bytes)) = some (some (.agg #[(.string ⟨#[]⟩), (.string ⟨#[]⟩), (.int .i64 0)]), 3, 40) := by kernel_rfl

structure S56 where
  f0 : ByteArray
  f1 : ByteArray
  f2 : Int
def z56 : S56 := ⟨(⟨#[]⟩ : ByteArray), (⟨#[]⟩ : ByteArray), (0 : Int)⟩
def k56 : Kd S56 := Kd.iso (Kd.pair Kd.string (Kd.pair Kd.string (Kd.int .i64))) (fun x : S56 => (x.f0, x.f1, x.f2))
theorem k56_open {w : World} {x : S56} {cs : List Value} (h : k56.K w x cs) : cs = [.string x.f0, .string x.f1, .int .i64 x.f2] := by
  obtain ⟨_, _, rfl, rfl, ⟨_, _, rfl, rfl, rfl⟩⟩ := h
  exact rfl
theorem k56_mkM (w : World) (base : Nat) (ok : Nat → Prop) (x : S56)  : k56.M w base ok x [.string x.f0, .string x.f1, .int .i64 x.f2] := ⟨[.string x.f0], [.string x.f1, .int .i64 x.f2], rfl, rfl, ⟨[.string x.f1], [.int .i64 x.f2], rfl, rfl, rfl⟩⟩
def rd_T56 (xs : List S56) (i : Int) : S56 := xs.getD i.toNat z56
theorem at_T56 {w : World} {A : Option Addr} {n : Nat} {xs : List S56} (h : Kd.C k56 w A n xs) (i : Int) (h0 : 0 ≤ i) (h1 : i < n) : ∃ ad , A = some ad ∧ w.cell? (ad.add (i.toNat * 3)) = some (.string (rd_T56 xs i).f0) ∧ w.cell? ⟨(ad.add (i.toNat * 3)).block, (ad.add (i.toNat * 3)).off + 1, none⟩ = some (.string (rd_T56 xs i).f1) ∧ w.cell? ⟨(ad.add (i.toNat * 3)).block, (ad.add (i.toNat * 3)).off + 2, none⟩ = some (.int .i64 (rd_T56 xs i).f2) := by
  obtain ⟨ad, c, e, _, hK, hc0⟩ := Kd.C_get h z56 i h0 h1
  have hc : ∀ j u, c[j]? = some u → w.cell? (ad.add (i.toNat * 3 + j)) = some u := hc0
  obtain rfl := k56_open hK
  exact ⟨ad, e, hc 0 _ rfl, by rw [← add_field _ _ 1 (by omega)]; exact hc 1 _ rfl, by rw [← add_field _ _ 2 (by omega)]; exact hc 2 _ rfl⟩

end Go.Proofs.YtpanmmpkdbhofaaDoor.P12t

namespace Go.Proofs.YtpanmmpkdbhofaaDoor.P12t
open Go.RowKit Go.Proofs.YtpanmmpkdbhofaaDoorE Go.Proofs.YtpanmmpkdbhofaaDoorW.PrintWords Go.Proofs.YtpanmmpkdbhofaaDoorW.PrintLast Go.Proofs.YtpanmmpkdbhofaaDoorW.PrintMore
attribute [local go_sem] max2_int min2_int max_two min_two max_three min_three max_four min_four   -- for this text's walks alone
set_option linter.unusedVariables false
set_option linter.unusedSimpArgs false

theorem eqA56 (d : Nat) (w : World) (x0 y0 : ByteArray) (x1 y1 : ByteArray) (x2 y2 : Int) :
    (Op.equalIn (d + 2) 56 (.agg #[.string x0, .string x1, .int .i64 x2]) (.agg #[.string y0, .string y1, .int .i64 y2])).run Tryd.prog w = .ok (x0.toList == y0.toList && (x1.toList == y1.toList && (x2 == y2))) w := by
  refine eqA_of Tryd.underlying56 (by kernel_rfl) ?_
  refine eqf_cons (by rfl) (by go_simp; rfl) (by go_simp; rfl) (by go_simp) ?_
  refine eqf_cons (by rfl) (by go_simp; rfl) (by go_simp; rfl) (by go_simp) ?_
  exact eqf_last (by rfl) (by go_simp; rfl) (by go_simp; rfl) (by go_simp)
end Go.Proofs.YtpanmmpkdbhofaaDoor.P12t

namespace Go.Proofs.YtpanmmpkdbhofaaDoor.P12t
open Go.RowKit Go.Proofs.YtpanmmpkdbhofaaDoorE Go.Proofs.YtpanmmpkdbhofaaDoorW.PrintWords Go.Proofs.YtpanmmpkdbhofaaDoorW.PrintLast Go.Proofs.YtpanmmpkdbhofaaDoorW.PrintMore
attribute [local go_sem] max2_int min2_int max_two min_two max_three min_three max_four min_four   -- for this text's walks alone
set_option linter.unusedVariables false
set_option linter.unusedSimpArgs false

def tendrillaw12_heavy.l0 : Nat → List (S56) → Int → Int → Option (Bool)
  | 0, _, _, _ => none
  | k + 1, x0, x5, x6 => if x6 < x5 then (if 0 ≤ x6 then (if x6 < (x0.length : Int) then (if (wrap64 ((((rd_T56 x0 x6).f0).size : Int) + (((rd_T56 x0 x6).f1).size : Int))) > 1000 then (some true) else (tendrillaw12_heavy.l0 k x0 x5 (wrap64 (x6 + 1)))) else (none)) else (none)) else (some (decide ((x0.length : Int) > 200)))
def tendrillaw12_heavy.f (k : Nat) (l0 : List (S56)) : Option (Bool) := tendrillaw12_heavy.l0 k l0 (l0.length : Int) 0
theorem tendrillaw12_heavy.mono_l : ∀ k, (∀ y0 y1 y2, LeO (tendrillaw12_heavy.l0 k y0 y1 y2) (tendrillaw12_heavy.l0 (k + 1) y0 y1 y2))
  | 0 => fun _ _ _ r h => by simp [tendrillaw12_heavy.l0] at h
  | k + 1 => by
    have ih0 := tendrillaw12_heavy.mono_l k
    · intro y0 y1 y2
      unfold tendrillaw12_heavy.l0
      repeat' first
      | (with_reducible exact ih0 _ _ _)
      | (with_reducible exact LeO.refl _)
      | (with_reducible exact LeO.none _)
      | (with_reducible refine LeO.ite ?_ ?_)
      | (with_reducible refine LeO.bind ?_ (fun _ => ?_))
      | exact ih0 _ _ _
      | exact LeO.none _
      | refine LeO.ite ?_ ?_
      | refine LeO.bind ?_ (fun _ => ?_)
theorem tendrillaw12_heavy.mono : ∀ a0 k, LeO (tendrillaw12_heavy.f k a0) (tendrillaw12_heavy.f (k + 1) a0) := by
  intro a0 k
  have ih0 := tendrillaw12_heavy.mono_l k
  unfold tendrillaw12_heavy.f
  repeat' first
      | (with_reducible exact ih0 _ _ _)
      | (with_reducible exact LeO.refl _)
      | (with_reducible exact LeO.none _)
      | (with_reducible refine LeO.ite ?_ ?_)
      | (with_reducible refine LeO.bind ?_ (fun _ => ?_))
      | exact ih0 _ _ _
      | exact LeO.none _
      | refine LeO.ite ?_ ?_
      | refine LeO.bind ?_ (fun _ => ?_)
set_option maxHeartbeats 8000000 in
set_option maxRecDepth 100000 in
theorem tendrillaw12_heavy.calls (k : Nat) (A0 : Option Addr) (c0 : Nat) (l0 : List (S56)) (r : Bool) (w : World) (hgl : Go.Proofs.YtpanmmpkdbhofaaDoorX.GL w) (hr0 : Kd.C k56 w A0 l0.length l0) (hc0 : l0.length ≤ c0) (h : tendrillaw12_heavy.f k l0 = some r) :
    Calls Tryd.prog 46 #[.slice A0 l0.length c0] w fun e w' => e = .returned (.bool r) ∧ Drawn0 w w' := by
  have HR0 := Aside0.mk hr0
  have HC0 := Aside0.mk hc0
  clear hr0 hc0
  have HGL := Aside0.mk hgl
  clear hgl
  have H : (tendrillaw12_heavy.l0 k l0 (l0.length : Int) 0) = some r := h
  clear h
  have H' := Aside0.mk H
  clear H
  go_enter Tryd.func46, Tryd.ntmps46
  go_wp2
  repeat (go_quiet (fail); try go_wp2)
  go_loopg [6] k (fun kq v6 w' => ∃ (x6_1 : Int), v6 = .int .i64 x6_1 ∧ Aside0 (tendrillaw12_heavy.l0 kq l0 (l0.length : Int) x6_1 = some r) ∧ Aside0 (kq ≤ k) ∧ Drawn0 w w')
  case atStart => exact ⟨(0), (by first | rfl | (simp; done) | (simp [*]; done)), H', ⟨Nat.le_refl _⟩, by repeat (first | exact Drawn0.refl _ | apply Drawn0.step)⟩
  case round =>
    clear H'
    obtain ⟨x6_1, rfl, HA, HK1, ⟨m1, rfl⟩⟩ := hrel
    cases gk with
    | zero => exact absurd HA.out (by simp [tendrillaw12_heavy.l0])
    | succ k1 =>
      have H := HA.out
      clear HA
      simp only [tendrillaw12_heavy.l0] at H
      by_cases c2 : x6_1 < (l0.length : Int)
      · rw [if_pos c2] at H
        have c2b0 : decide (x6_1 < (l0.length : Int)) = true := decide_eq_true c2
        clear c2
        by_cases c3 : 0 ≤ x6_1
        · rw [if_pos c3] at H
          have c3b0 : decide (0 ≤ x6_1) = true := decide_eq_true c3
          clear c3
          by_cases c4 : x6_1 < (l0.length : Int)
          · rw [if_pos c4] at H
            have c4b0 : decide (x6_1 < (l0.length : Int)) = true := decide_eq_true c4
            clear c4
            by_cases c5 : (wrap64 ((((rd_T56 l0 x6_1).f0).size : Int) + (((rd_T56 l0 x6_1).f1).size : Int))) > 1000
            · rw [if_pos c5] at H
              have c5b0 : decide (1000 < (wrap64 ((((rd_T56 l0 x6_1).f0).size : Int) + (((rd_T56 l0 x6_1).f1).size : Int)))) = true := decide_eq_true c5
              clear c5
              obtain rfl := Option.some.inj H
              have p101 : 0 ≤ (x6_1 : Int) := of_decide_eq_true (by first | (with_reducible assumption) | assumption)
              have q101 : x6_1 < (l0.length : Int) := of_decide_eq_true (by first | (with_reducible assumption) | assumption)
              obtain ⟨ad101, e101, hx101_0, hx101_1, hx101_2⟩ := at_T56 HR0.out x6_1 p101 q101
              cases e101
              replace p101 := eq_true p101
              replace q101 := eq_true q101
              have p102 : 0 ≤ (x6_1 : Int) := of_decide_eq_true (by first | (with_reducible assumption) | assumption)
              have q102 : x6_1 < (l0.length : Int) := of_decide_eq_true (by first | (with_reducible assumption) | assumption)
              obtain ⟨ad102, e102, hx102_0, hx102_1, hx102_2⟩ := at_T56 HR0.out x6_1 p102 q102
              obtain rfl : ad101 = ad102 := (by injection e102)
              replace p102 := eq_true p102
              replace q102 := eq_true q102
              go_wp2
              repeat (go_quiet (fail); try go_wp2)
              go_ret
              exact ⟨by first | rfl | (simp; done) | (simp [*]; done), by repeat (first | exact Drawn0.refl _ | apply Drawn0.step)⟩
            · rw [if_neg c5] at H
              have c5b0 : decide (1000 < (wrap64 ((((rd_T56 l0 x6_1).f0).size : Int) + (((rd_T56 l0 x6_1).f1).size : Int)))) = false := decide_eq_false c5
              clear c5
              have H' := Aside0.mk H
              clear H
              have p101 : 0 ≤ (x6_1 : Int) := of_decide_eq_true (by first | (with_reducible assumption) | assumption)
              have q101 : x6_1 < (l0.length : Int) := of_decide_eq_true (by first | (with_reducible assumption) | assumption)
              obtain ⟨ad101, e101, hx101_0, hx101_1, hx101_2⟩ := at_T56 HR0.out x6_1 p101 q101
              cases e101
              replace p101 := eq_true p101
              replace q101 := eq_true q101
              have p102 : 0 ≤ (x6_1 : Int) := of_decide_eq_true (by first | (with_reducible assumption) | assumption)
              have q102 : x6_1 < (l0.length : Int) := of_decide_eq_true (by first | (with_reducible assumption) | assumption)
              obtain ⟨ad102, e102, hx102_0, hx102_1, hx102_2⟩ := at_T56 HR0.out x6_1 p102 q102
              obtain rfl : ad101 = ad102 := (by injection e102)
              replace p102 := eq_true p102
              replace q102 := eq_true q102
              go_wp2
              repeat (go_quiet (fail); try go_wp2)
              go_roundg k1
              case measure => have := HK1.out; omega
              case rel => exact ⟨(wrap64 (x6_1 + 1)), (by first | rfl | (simp; done) | (simp [*]; done)), H', ⟨by have := HK1.out; omega⟩, by repeat (first | exact Drawn0.refl _ | apply Drawn0.step)⟩
          · rw [if_neg c4] at H
            exact absurd H (by simp)
        · rw [if_neg c3] at H
          exact absurd H (by simp)
      · rw [if_neg c2] at H
        have c2b0 : decide (x6_1 < (l0.length : Int)) = false := decide_eq_false c2
        clear c2
        obtain rfl := Option.some.inj H
        go_wp2
        repeat (go_quiet (fail); try go_wp2)
        go_ret
        exact ⟨by first | rfl | (simp; done) | (simp [*]; done), by repeat (first | exact Drawn0.refl _ | apply Drawn0.step)⟩

end Go.Proofs.YtpanmmpkdbhofaaDoor.P12t
