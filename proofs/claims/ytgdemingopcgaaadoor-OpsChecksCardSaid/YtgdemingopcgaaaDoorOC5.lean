/- Merged by this claim's own program (merge.py) out of the texts X03rx2, L03, E70, E5, E72, E73, E74, K02e, E71, K03, E75, E76, E77, E78, E79; the W texts among them began as the kit's print. -/
import Derived.Test.YtgdemingopcgaaaDoorOC4
import Derived.Lib.FrozenHead
import Derived.Laws.Externs
import Derived.KernelRfl
import Derived.Deep.CutRange
import Derived.Deep.CutBlock

namespace Go.Proofs.YtgdemingopcgaaaDoor.P03r
open Go.RowKit Go.Proofs.YtgdemingopcgaaaDoorE Go.Proofs.YtgdemingopcgaaaDoorW.PrintWords Go.Proofs.YtgdemingopcgaaaDoorW.PrintLast Go.Proofs.YtgdemingopcgaaaDoorW.PrintMore
attribute [local go_sem] max2_int min2_int max_two min_two max_three min_three max_four min_four   -- for this text's walks alone
set_option linter.unusedVariables false
set_option linter.unusedSimpArgs false

def escape_reference.l0 : Nat → ByteArray → List Int → Int → Int → Option (Int × Int)
  | 0, _, _, _, _ => none
  | k + 1, x0, x9, x10, x11 => if x11 < x10 then (if 0 ≤ x11 then (if x11 < (x9.length : Int) then ((escape_form.f (rd x9 x11)).bind fun t106 => ((strings_HasPrefix.f x0 t106).bind fun t107 => (if t107 = true then ((escape_form.f (rd x9 x11)).bind fun t108 => (some (rd x9 x11, (t108.size : Int)))) else (escape_reference.l0 k x0 x9 x10 (wrap64 (x11 + 1)))))) else (none)) else (none)) else ((strings_HasPrefix.f x0 (⟨#[38, 35]⟩ : ByteArray)).bind fun t109 => (if t109 = true then (if 0 ≤ (mn (x0.size : Int) 6) then (if (mn (x0.size : Int) 6) ≤ (x0.size : Int) then ((strings_IndexByte.f (x0.extract 0 ((mn (x0.size : Int) 6) : Int).toNat) 59).bind fun t110 => (if t110 < 0 then (some (0, 0)) else (if 2 ≤ t110 then (if t110 ≤ (x0.size : Int) then ((strconv_Atoi.f (x0.extract 2 (t110 : Int).toNat)).bind fun bt111 => (if bt111.2.isNone = true then (if bt111.1 < 0 then (some (0, 0)) else (if bt111.1 > 127 then (some (0, 0)) else ((escape_form.f ((bt111.1) % 256)).bind fun t114 => (if 0 ≤ (wrap64 (t110 + 1)) then (if (wrap64 (t110 + 1)) ≤ (x0.size : Int) then (if t114.toList = (x0.extract 0 ((wrap64 (t110 + 1)) : Int).toNat).toList then (some ((bt111.1) % 256, wrap64 (t110 + 1))) else (some (0, 0))) else (none)) else (none))))) else (some (0, 0)))) else (none)) else (none)))) else (none)) else (none)) else (some (0, 0))))
def escape_reference.f (k : Nat) (a0 : ByteArray) : Option (Int × Int) := (some (([38, 60, 62, 34] : List Int) : List Int)).bind fun y102 => (escape_reference.l0 k a0 y102 (y102.length : Int) 0)
theorem escape_reference.mono_l : ∀ k, (∀ y0 y1 y2 y3, LeO (escape_reference.l0 k y0 y1 y2 y3) (escape_reference.l0 (k + 1) y0 y1 y2 y3))
  | 0 => fun _ _ _ _ r h => by simp [escape_reference.l0] at h
  | k + 1 => by
    have ih0 := escape_reference.mono_l k
    · intro y0 y1 y2 y3
      unfold escape_reference.l0
      repeat' first
      | (with_reducible exact ih0 _ _ _ _)
      | (with_reducible exact LeO.refl _)
      | (with_reducible exact LeO.none _)
      | (with_reducible refine LeO.ite ?_ ?_)
      | (with_reducible refine LeO.bind ?_ (fun _ => ?_))
      | exact ih0 _ _ _ _
      | exact LeO.none _
      | refine LeO.ite ?_ ?_
      | refine LeO.bind ?_ (fun _ => ?_)
theorem escape_reference.mono : ∀ a0 k, LeO (escape_reference.f k a0) (escape_reference.f (k + 1) a0) := by
  intro a0 k
  have ih0 := escape_reference.mono_l k
  unfold escape_reference.f
  repeat' first
      | (with_reducible exact ih0 _ _ _ _)
      | (with_reducible exact LeO.refl _)
      | (with_reducible exact LeO.none _)
      | (with_reducible refine LeO.ite ?_ ?_)
      | (with_reducible refine LeO.bind ?_ (fun _ => ?_))
      | exact ih0 _ _ _ _
      | exact LeO.none _
      | refine LeO.ite ?_ ?_
      | refine LeO.bind ?_ (fun _ => ?_)
def escape_reference.T13 : Bool × List (List Nat × List Nat) := (true, [([], []), ([0], [0]), ([1], [1]), ([2], [2]), ([3, 2], [2, 3]), ([2, 4], [2, 4]), ([5, 2], [5]), ([6], [6]), ([7, 6], [6, 7]), ([6, 8], [6, 8]), ([9, 6], [9]), ([10], [10]), ([11, 10], [10, 11]), ([12, 10, 10], [10, 12]), ([10], [10]), ([10], [10]), ([15, 10], [10, 15]), ([14, 16, 10], [10, 14, 16]), ([13, 17, 10], [10, 13, 17]), ([10, 18], [10, 18])])
def escape_reference.B13 : List Nat := [0, 1, 3, 7, 15, 31, 63, 127, 255, 511, 1023, 2047, 4095, 8191, 2047, 2047, 34815, 116735, 262143, 524287]
theorem escape_reference.tab13 : rtab .any (opsOf Tryd.f56 13) = escape_reference.T13 := by kernel_rfl
theorem escape_reference.bits13 : waitsOk escape_reference.T13.2 escape_reference.B13 = true := by kernel_rfl
set_option maxHeartbeats 8000000 in
set_option maxRecDepth 100000 in
theorem escape_reference.calls (k : Nat) (a0 : ByteArray) (r1 : Int) (r2 : Int) (w : World) (hgl : Go.Proofs.YtgdemingopcgaaaDoorX.GL w) (h : escape_reference.f k a0 = some (r1, r2)) :
    Calls Tryd.prog 56 #[.string a0] w fun e w' => e = .returned (.tuple #[.int .u8 r1, .int .i64 r2]) ∧ Below w.heap.size w w' := by
  have hu91 := Tryd.underlying91
  have HGL := Aside0.mk hgl
  clear hgl
  have HB := Aside0.mk (Below.refl w.heap.size w)
  have H : ((some (([38, 60, 62, 34] : List Int) : List Int)).bind fun y102 => (escape_reference.l0 k a0 y102 (y102.length : Int) 0)) = some (r1, r2) := h
  clear h
  obtain ⟨y102, hy102⟩ : ∃ y_ : List Int, y_ = (([38, 60, 62, 34] : List Int)) := ⟨_, rfl⟩
  replace H : (escape_reference.l0 k a0 y102 (y102.length : Int) 0) = some (r1, r2) := by first | (rw [hy102]; with_reducible exact H) | (have H2_ := (Option.bind_some _ _).symm.trans H; rw [hy102]; with_reducible exact H2_) | (have H2_ := (Option.bind_some _ _).symm.trans H; with_reducible exact H2_) | with_reducible exact H | (rw [hy102]; exact H) | exact H
  have Ny102 := Aside0.mk hy102
  clear hy102
  have H' := Aside0.mk H
  clear H
  go_enter Tryd.func56, Tryd.ntmps56
  go_wp2_with (first | ((with_reducible refine gate_dst (N := 9) rfl ?_); refine Kd.R_lit (Kd.int .u8) _ 5 ?hg (N := 9) ?hd (xs := ([38, 60, 62, 34] : List Int)) (inner := [.int .u8 38, .int .u8 60, .int .u8 62, .int .u8 34]) (ok := fun _ => True) (okp := fun _ => True) ?hr ?hp (fun _ hk => hk) trivial (Below.refl _ _) (Nat.le_refl _) (by simp) ?_; (case hd => rfl); (case hg => rfl); (case hr => first | (go_simp; done) | (go_simp; rfl)); (case hp => exact (Reps.one (show Kd.M (Kd.int .u8) _ _ _ 38 [.int .u8 38] from rfl) (Reps.one (show Kd.M (Kd.int .u8) _ _ _ 60 [.int .u8 60] from rfl) (Reps.one (show Kd.M (Kd.int .u8) _ _ _ 62 [.int .u8 62] from rfl) (Reps.one (show Kd.M (Kd.int .u8) _ _ _ 34 [.int .u8 34] from rfl) (Reps.none _ _)))))); intro v103 w2 ho3 hb hg_ hnew_; clear hg_ hnew_; (first | rw [← Ny102.out] at ho3 | (simp only [Int.reduceToNat] at ho3; rw [← Ny102.out] at ho3)); have n0_ := Aside0.mk (Kd.R_lower ho3 (below_size (by repeat (first | (with_reducible first | exact HB.out | apply below_alloc | apply pw_below_drewN | apply below_drew1) | exact HB.out)))); have n1_ := Aside0.mk (below_step (by repeat (first | (with_reducible first | exact HB.out | apply below_alloc | apply pw_below_drewN | apply below_drew1) | exact HB.out)) hb); clear HB; have HO104 := n0_; have HB := n1_; clear n0_ n1_; clear hb ho3; obtain ⟨Ao4, co4, eo4⟩ := Kd.R_slice HO104.out; subst eo4))
  go_loopg [11] k (fun kq v11 w' => ∃ (x11_1 : Int), v11 = .int .i64 x11_1 ∧ Aside0 (escape_reference.l0 kq a0 y102 (y102.length : Int) x11_1 = some (r1, r2)) ∧ Aside0 (kq ≤ k) ∧ Aside0 (Kd.R (Kd.int .u8) 5 w' w.heap.size (fun _ => True) (.slice Ao4 y102.length co4) y102) ∧ Aside0 (Below w.heap.size w w'))
  case atStart => exact ⟨(0), (by first | rfl | (simp; done) | (simp [*]; done)), H', ⟨Nat.le_refl _⟩, ⟨by (with_reducible repeat (first | apply Kd.R_alloc | apply Kd.R_drewN | apply Kd.R_drew)); exact HO104.out⟩, ⟨by repeat (first | (with_reducible first | exact HB.out | apply below_alloc | apply pw_below_drewN | apply below_drew1) | exact HB.out)⟩⟩
  case round =>
    clear H'
    try clear p2
    obtain ⟨x11_1, rfl, HA, HK1, HO_9, HB⟩ := hrel
    cases gk with
    | zero => exact absurd HA.out (by simp [escape_reference.l0])
    | succ k1 =>
      have H := HA.out
      clear HA
      simp only [escape_reference.l0] at H
      by_cases c5 : x11_1 < (y102.length : Int)
      · rw [if_pos c5] at H
        have c5b0 : decide (x11_1 < (y102.length : Int)) = true := decide_eq_true c5
        clear c5
        by_cases c6 : 0 ≤ x11_1
        · rw [if_pos c6] at H
          have c6b0 : decide (0 ≤ x11_1) = true := decide_eq_true c6
          clear c6
          by_cases c7 : x11_1 < (y102.length : Int)
          · rw [if_pos c7] at H
            have c7b0 : decide (x11_1 < (y102.length : Int)) = true := decide_eq_true c7
            clear c7
            replace H := Option.bind_eq_some_iff.mp H
            obtain ⟨t106, A80, H⟩ := H
            replace H : ((strings_HasPrefix.f a0 t106).bind fun t107 => (if t107 = true then ((escape_form.f (rd y102 x11_1)).bind fun t108 => (some (rd y102 x11_1, (t108.size : Int)))) else (escape_reference.l0 k1 a0 y102 (y102.length : Int) (wrap64 (x11_1 + 1))))) = some (r1, r2) := H
            have A8 := Aside0.mk A80
            clear A80
            replace H := Option.bind_eq_some_iff.mp H
            obtain ⟨t107, A90, H⟩ := H
            replace H : (if t107 = true then ((escape_form.f (rd y102 x11_1)).bind fun t108 => (some (rd y102 x11_1, (t108.size : Int)))) else (escape_reference.l0 k1 a0 y102 (y102.length : Int) (wrap64 (x11_1 + 1)))) = some (r1, r2) := H
            have A9 := Aside0.mk A90
            clear A90
            by_cases c10 : t107 = true
            · subst c10
              have H1 : ((escape_form.f (rd y102 x11_1)).bind fun t108 => (some (rd y102 x11_1, (t108.size : Int)))) = some (r1, r2) := by rw [if_pos rfl] at H; exact H
              clear H
              have H := H1
              clear H1
              replace H := Option.bind_eq_some_iff.mp H
              obtain ⟨t108, A110, H⟩ := H
              replace H : (some (rd y102 x11_1, (t108.size : Int))) = some (r1, r2) := H
              have A11 := Aside0.mk A110
              clear A110
              simp only [Option.some.injEq, Prod.mk.injEq] at H
              obtain ⟨rfl, rfl⟩ := H
              have p105 : 0 ≤ (x11_1 : Int) := of_decide_eq_true (by first | (with_reducible assumption) | assumption)
              have q105 : x11_1 < (y102.length : Int) := of_decide_eq_true (by first | (with_reducible assumption) | assumption)
              obtain ⟨ad105, e105, hx105_0⟩ := Kd.at_int (Kd.R_reads' HO_9.out).2.2 x11_1 p105 q105
              cases e105
              replace p105 := eq_true p105
              replace q105 := eq_true q105
              go_wp2_with (first | ((with_reducible refine gate_callee (f := 57) rfl ?_); refine goesL_ (some 17) rfl rfl Tryd.func57 (by kernel_rfl) rfl #[.int .u8 (rd y102 x11_1)] rfl (by (try simp only [List.map_toArray, List.map_cons, List.map_nil]); first | done | rfl | (simp only [List.length_drop, List.length_take]; rfl)) ?_; (with_reducible refine (escape_form.calls (rd y102 x11_1) t106 _ ?side1 A8.out).mono ?_); (case side1 => first | exact HGL.out | exact (Go.Proofs.YtgdemingopcgaaaDoorX.GL.below HGL.out (by repeat (first | (with_reducible first | exact HB.out | apply below_alloc | apply pw_below_drewN | apply below_drew1) | exact HB.out))) | (repeat (first | exact HGL.out | (with_reducible refine Go.Proofs.YtgdemingopcgaaaDoorX.GL.drewN ?_ _) | (with_reducible refine Go.Proofs.YtgdemingopcgaaaDoorX.GL.drew ?_)))); rintro e w12 ⟨rfl, hb⟩; refine ⟨_, rfl, ?_⟩; have n0_ := Aside0.mk (Kd.R_below (by (with_reducible repeat (first | apply Kd.R_alloc | apply Kd.R_drewN | apply Kd.R_drew)); exact HO_9.out) hb); have n1_ := Aside0.mk (below_step (by repeat (first | (with_reducible first | exact HB.out | apply below_alloc | apply pw_below_drewN | apply below_drew1) | exact HB.out)) hb); clear HO_9; clear HB; have HO_9 := n0_; have HB := n1_; clear n0_ n1_; (try clear hb); (try clear hb2); (try clear hk); (try clear hi)) | ((with_reducible refine gate_callee (f := 67) rfl ?_); refine goesL_ (some 18) rfl rfl Tryd.func67 (by kernel_rfl) rfl #[.string a0, .string t106] rfl (by (try simp only [List.map_toArray, List.map_cons, List.map_nil]); first | done | rfl | (simp only [List.length_drop, List.length_take]; rfl)) ?_; (with_reducible refine (strings_HasPrefix.calls a0 t106 true _ ?side1 A9.out).mono ?_); (case side1 => first | exact HGL.out | exact (Go.Proofs.YtgdemingopcgaaaDoorX.GL.below HGL.out (by repeat (first | (with_reducible first | exact HB.out | apply below_alloc | apply pw_below_drewN | apply below_drew1) | exact HB.out))) | (repeat (first | exact HGL.out | (with_reducible refine Go.Proofs.YtgdemingopcgaaaDoorX.GL.drewN ?_ _) | (with_reducible refine Go.Proofs.YtgdemingopcgaaaDoorX.GL.drew ?_)))); rintro e w' ⟨rfl, ⟨nd, rfl⟩⟩; refine ⟨_, rfl, ?_⟩) | ((with_reducible refine gate_callee (f := 57) rfl ?_); refine goesL_ (some 21) rfl rfl Tryd.func57 (by kernel_rfl) rfl #[.int .u8 (rd y102 x11_1)] rfl (by (try simp only [List.map_toArray, List.map_cons, List.map_nil]); first | done | rfl | (simp only [List.length_drop, List.length_take]; rfl)) ?_; (with_reducible refine (escape_form.calls (rd y102 x11_1) t108 _ ?side1 A11.out).mono ?_); (case side1 => first | exact HGL.out | exact (Go.Proofs.YtgdemingopcgaaaDoorX.GL.below HGL.out (by repeat (first | (with_reducible first | exact HB.out | apply below_alloc | apply pw_below_drewN | apply below_drew1) | exact HB.out))) | (repeat (first | exact HGL.out | (with_reducible refine Go.Proofs.YtgdemingopcgaaaDoorX.GL.drewN ?_ _) | (with_reducible refine Go.Proofs.YtgdemingopcgaaaDoorX.GL.drew ?_)))); rintro e w13 ⟨rfl, hb⟩; refine ⟨_, rfl, ?_⟩; have n0_ := Aside0.mk (Kd.R_below (by (with_reducible repeat (first | apply Kd.R_alloc | apply Kd.R_drewN | apply Kd.R_drew)); exact HO_9.out) hb); have n1_ := Aside0.mk (below_step (by repeat (first | (with_reducible first | exact HB.out | apply below_alloc | apply pw_below_drewN | apply below_drew1) | exact HB.out)) hb); clear HO_9; clear HB; have HO_9 := n0_; have HB := n1_; clear n0_ n1_; (try clear hb); (try clear hb2); (try clear hk); (try clear hi)))
              go_ret2
              exact ⟨by first | rfl | (simp [errW_none, errW_some] <;> rfl) | (simp [*, errW_none, errW_some] <;> rfl), by repeat (first | (with_reducible first | exact HB.out | apply below_alloc | apply pw_below_drewN | apply below_drew1) | exact HB.out)⟩
            · replace c10 := Bool.eq_false_iff.mpr c10
              subst c10
              have H1 : (escape_reference.l0 k1 a0 y102 (y102.length : Int) (wrap64 (x11_1 + 1))) = some (r1, r2) := by rw [if_neg (show ¬ (false = true) by decide)] at H; exact H
              clear H
              have H := H1
              clear H1
              have H' := Aside0.mk H
              clear H
              have p105 : 0 ≤ (x11_1 : Int) := of_decide_eq_true (by first | (with_reducible assumption) | assumption)
              have q105 : x11_1 < (y102.length : Int) := of_decide_eq_true (by first | (with_reducible assumption) | assumption)
              obtain ⟨ad105, e105, hx105_0⟩ := Kd.at_int (Kd.R_reads' HO_9.out).2.2 x11_1 p105 q105
              cases e105
              replace p105 := eq_true p105
              replace q105 := eq_true q105
              go_wp2_with (first | ((with_reducible refine gate_callee (f := 57) rfl ?_); refine goesL_ (some 17) rfl rfl Tryd.func57 (by kernel_rfl) rfl #[.int .u8 (rd y102 x11_1)] rfl (by (try simp only [List.map_toArray, List.map_cons, List.map_nil]); first | done | rfl | (simp only [List.length_drop, List.length_take]; rfl)) ?_; (with_reducible refine (escape_form.calls (rd y102 x11_1) t106 _ ?side1 A8.out).mono ?_); (case side1 => first | exact HGL.out | exact (Go.Proofs.YtgdemingopcgaaaDoorX.GL.below HGL.out (by repeat (first | (with_reducible first | exact HB.out | apply below_alloc | apply pw_below_drewN | apply below_drew1) | exact HB.out))) | (repeat (first | exact HGL.out | (with_reducible refine Go.Proofs.YtgdemingopcgaaaDoorX.GL.drewN ?_ _) | (with_reducible refine Go.Proofs.YtgdemingopcgaaaDoorX.GL.drew ?_)))); rintro e w14 ⟨rfl, hb⟩; refine ⟨_, rfl, ?_⟩; have n0_ := Aside0.mk (Kd.R_below (by (with_reducible repeat (first | apply Kd.R_alloc | apply Kd.R_drewN | apply Kd.R_drew)); exact HO_9.out) hb); have n1_ := Aside0.mk (below_step (by repeat (first | (with_reducible first | exact HB.out | apply below_alloc | apply pw_below_drewN | apply below_drew1) | exact HB.out)) hb); clear HO_9; clear HB; have HO_9 := n0_; have HB := n1_; clear n0_ n1_; (try clear hb); (try clear hb2); (try clear hk); (try clear hi)) | ((with_reducible refine gate_callee (f := 67) rfl ?_); refine goesL_ (some 18) rfl rfl Tryd.func67 (by kernel_rfl) rfl #[.string a0, .string t106] rfl (by (try simp only [List.map_toArray, List.map_cons, List.map_nil]); first | done | rfl | (simp only [List.length_drop, List.length_take]; rfl)) ?_; (with_reducible refine (strings_HasPrefix.calls a0 t106 false _ ?side1 A9.out).mono ?_); (case side1 => first | exact HGL.out | exact (Go.Proofs.YtgdemingopcgaaaDoorX.GL.below HGL.out (by repeat (first | (with_reducible first | exact HB.out | apply below_alloc | apply pw_below_drewN | apply below_drew1) | exact HB.out))) | (repeat (first | exact HGL.out | (with_reducible refine Go.Proofs.YtgdemingopcgaaaDoorX.GL.drewN ?_ _) | (with_reducible refine Go.Proofs.YtgdemingopcgaaaDoorX.GL.drew ?_)))); rintro e w' ⟨rfl, ⟨nd, rfl⟩⟩; refine ⟨_, rfl, ?_⟩))
              go_roundg k1
              case measure => have := HK1.out; omega
              case rel => exact ⟨(wrap64 (x11_1 + 1)), (by first | rfl | (simp; done) | (simp [*]; done)), H', ⟨by have := HK1.out; omega⟩, ⟨by (with_reducible repeat (first | apply Kd.R_alloc | apply Kd.R_drewN | apply Kd.R_drew)); exact HO_9.out⟩, ⟨by repeat (first | (with_reducible first | exact HB.out | apply below_alloc | apply pw_below_drewN | apply below_drew1) | exact HB.out)⟩⟩
          · rw [if_neg c7] at H
            exact absurd H (by simp)
        · rw [if_neg c6] at H
          exact absurd H (by simp)
      · rw [if_neg c5] at H
        have c5b0 : decide (x11_1 < (y102.length : Int)) = false := decide_eq_false c5
        clear c5
        replace H := Option.bind_eq_some_iff.mp H
        obtain ⟨t109, A150, H⟩ := H
        replace H : (if t109 = true then (if 0 ≤ (mn (a0.size : Int) 6) then (if (mn (a0.size : Int) 6) ≤ (a0.size : Int) then ((strings_IndexByte.f (a0.extract 0 ((mn (a0.size : Int) 6) : Int).toNat) 59).bind fun t110 => (if t110 < 0 then (some (0, 0)) else (if 2 ≤ t110 then (if t110 ≤ (a0.size : Int) then ((strconv_Atoi.f (a0.extract 2 (t110 : Int).toNat)).bind fun bt111 => (if bt111.2.isNone = true then (if bt111.1 < 0 then (some (0, 0)) else (if bt111.1 > 127 then (some (0, 0)) else ((escape_form.f ((bt111.1) % 256)).bind fun t114 => (if 0 ≤ (wrap64 (t110 + 1)) then (if (wrap64 (t110 + 1)) ≤ (a0.size : Int) then (if t114.toList = (a0.extract 0 ((wrap64 (t110 + 1)) : Int).toNat).toList then (some ((bt111.1) % 256, wrap64 (t110 + 1))) else (some (0, 0))) else (none)) else (none))))) else (some (0, 0)))) else (none)) else (none)))) else (none)) else (none)) else (some (0, 0))) = some (r1, r2) := H
        have A15 := Aside0.mk A150
        clear A150
        by_cases c16 : t109 = true
        · subst c16
          have H1 : (if 0 ≤ (mn (a0.size : Int) 6) then (if (mn (a0.size : Int) 6) ≤ (a0.size : Int) then ((strings_IndexByte.f (a0.extract 0 ((mn (a0.size : Int) 6) : Int).toNat) 59).bind fun t110 => (if t110 < 0 then (some (0, 0)) else (if 2 ≤ t110 then (if t110 ≤ (a0.size : Int) then ((strconv_Atoi.f (a0.extract 2 (t110 : Int).toNat)).bind fun bt111 => (if bt111.2.isNone = true then (if bt111.1 < 0 then (some (0, 0)) else (if bt111.1 > 127 then (some (0, 0)) else ((escape_form.f ((bt111.1) % 256)).bind fun t114 => (if 0 ≤ (wrap64 (t110 + 1)) then (if (wrap64 (t110 + 1)) ≤ (a0.size : Int) then (if t114.toList = (a0.extract 0 ((wrap64 (t110 + 1)) : Int).toNat).toList then (some ((bt111.1) % 256, wrap64 (t110 + 1))) else (some (0, 0))) else (none)) else (none))))) else (some (0, 0)))) else (none)) else (none)))) else (none)) else (none)) = some (r1, r2) := by rw [if_pos rfl] at H; exact H
          clear H
          have H := H1
          clear H1
          obtain ⟨ji17, hji17⟩ : ∃ j_ : Int, (mn (a0.size : Int) 6) = j_ := ⟨_, rfl⟩
          replace H : (if 0 ≤ (ji17) then (if (ji17) ≤ (a0.size : Int) then ((strings_IndexByte.f (a0.extract 0 ((ji17) : Int).toNat) 59).bind fun t110 => (if t110 < 0 then (some (0, 0)) else (if 2 ≤ t110 then (if t110 ≤ (a0.size : Int) then ((strconv_Atoi.f (a0.extract 2 (t110 : Int).toNat)).bind fun bt111 => (if bt111.2.isNone = true then (if bt111.1 < 0 then (some (0, 0)) else (if bt111.1 > 127 then (some (0, 0)) else ((escape_form.f ((bt111.1) % 256)).bind fun t114 => (if 0 ≤ (wrap64 (t110 + 1)) then (if (wrap64 (t110 + 1)) ≤ (a0.size : Int) then (if t114.toList = (a0.extract 0 ((wrap64 (t110 + 1)) : Int).toNat).toList then (some ((bt111.1) % 256, wrap64 (t110 + 1))) else (some (0, 0))) else (none)) else (none))))) else (some (0, 0)))) else (none)) else (none)))) else (none)) else (none)) = some (r1, r2) := by first | (rw [hji17] at H; exact H) | (simp only [hji17] at H ⊢; exact H)
          (try rw [hji17] at A15)
          have hji17_ : (if 6 < (a0.size : Int) then 6 else (a0.size : Int)) = ji17 := hji17
          (try (have hji17n : (if 6 < a0.size then (6 : Int) else (a0.size : Int)) = ji17 := by (rw [← hji17_]; (repeat' split) <;> (first | rfl | omega))))
          by_cases c18 : 0 ≤ (ji17)
          · rw [if_pos c18] at H
            have c18b0 := eq_true c18
            have c18b1 : decide (0 ≤ (ji17)) = true := decide_eq_true c18
            clear c18
            by_cases c19 : (ji17) ≤ (a0.size : Int)
            · rw [if_pos c19] at H
              have c19b0 := eq_true c19
              have c19b1 : decide ((ji17) ≤ (a0.size : Int)) = true := decide_eq_true c19
              clear c19
              replace H := Option.bind_eq_some_iff.mp H
              obtain ⟨t110, A200, H⟩ := H
              replace H : (if t110 < 0 then (some (0, 0)) else (if 2 ≤ t110 then (if t110 ≤ (a0.size : Int) then ((strconv_Atoi.f (a0.extract 2 (t110 : Int).toNat)).bind fun bt111 => (if bt111.2.isNone = true then (if bt111.1 < 0 then (some (0, 0)) else (if bt111.1 > 127 then (some (0, 0)) else ((escape_form.f ((bt111.1) % 256)).bind fun t114 => (if 0 ≤ (wrap64 (t110 + 1)) then (if (wrap64 (t110 + 1)) ≤ (a0.size : Int) then (if t114.toList = (a0.extract 0 ((wrap64 (t110 + 1)) : Int).toNat).toList then (some ((bt111.1) % 256, wrap64 (t110 + 1))) else (some (0, 0))) else (none)) else (none))))) else (some (0, 0)))) else (none)) else (none))) = some (r1, r2) := H
              have A20 := Aside0.mk A200
              clear A200
              by_cases c21 : t110 < 0
              · rw [if_pos c21] at H
                have c21b0 : decide (t110 < 0) = true := decide_eq_true c21
                clear c21
                simp only [Option.some.injEq, Prod.mk.injEq] at H
                obtain ⟨rfl, rfl⟩ := H
                go_wp2_with (first | ((with_reducible refine gate_callee (f := 67) rfl ?_); refine goesL_ (some 25) rfl rfl Tryd.func67 (by kernel_rfl) rfl #[.string a0, .string (⟨#[38, 35]⟩ : ByteArray)] rfl (by (try simp only [List.map_toArray, List.map_cons, List.map_nil]); first | done | rfl | (simp only [List.length_drop, List.length_take]; rfl)) ?_; (with_reducible refine (strings_HasPrefix.calls a0 (⟨#[38, 35]⟩ : ByteArray) true _ ?side1 A15.out).mono ?_); (case side1 => first | exact HGL.out | exact (Go.Proofs.YtgdemingopcgaaaDoorX.GL.below HGL.out (by repeat (first | (with_reducible first | exact HB.out | apply below_alloc | apply pw_below_drewN | apply below_drew1) | exact HB.out))) | (repeat (first | exact HGL.out | (with_reducible refine Go.Proofs.YtgdemingopcgaaaDoorX.GL.drewN ?_ _) | (with_reducible refine Go.Proofs.YtgdemingopcgaaaDoorX.GL.drew ?_)))); rintro e w' ⟨rfl, ⟨nd, rfl⟩⟩; refine ⟨_, rfl, ?_⟩) | ((with_reducible refine gate_callee (f := 65) rfl ?_); refine goesL_ (some 32) rfl rfl Tryd.func65 (by kernel_rfl) rfl #[.string (a0.extract 0 ((ji17) : Int).toNat), .int .u8 59] rfl (by (try simp only [List.map_toArray, List.map_cons, List.map_nil]); first | done | (simp only [hji17]; rfl) | rfl | (simp only [List.length_drop, List.length_take]; rfl)) ?_; (with_reducible refine (strings_IndexByte.calls (a0.extract 0 ((ji17) : Int).toNat) 59 t110 _ ?side1 A20.out).mono ?_); (case side1 => first | exact HGL.out | exact (Go.Proofs.YtgdemingopcgaaaDoorX.GL.below HGL.out (by repeat (first | (with_reducible first | exact HB.out | apply below_alloc | apply pw_below_drewN | apply below_drew1) | exact HB.out))) | (repeat (first | exact HGL.out | (with_reducible refine Go.Proofs.YtgdemingopcgaaaDoorX.GL.drewN ?_ _) | (with_reducible refine Go.Proofs.YtgdemingopcgaaaDoorX.GL.drew ?_)))); rintro e w' ⟨rfl, ⟨nd, rfl⟩⟩; refine ⟨_, rfl, ?_⟩))
                go_ret2
                exact ⟨by first | rfl | (simp [errW_none, errW_some] <;> rfl) | (simp only [← hji17]; first | rfl | (simp [errW_none, errW_some] <;> rfl)) | (simp [*, errW_none, errW_some] <;> rfl), by repeat (first | (with_reducible first | exact HB.out | apply below_alloc | apply pw_below_drewN | apply below_drew1) | exact HB.out)⟩
              · rw [if_neg c21] at H
                have c21b0 : decide (t110 < 0) = false := decide_eq_false c21
                clear c21
                by_cases c22 : 2 ≤ t110
                · rw [if_pos c22] at H
                  have c22b0 := eq_true c22
                  have c22b1 : decide (2 ≤ t110) = true := decide_eq_true c22
                  clear c22
                  by_cases c23 : t110 ≤ (a0.size : Int)
                  · rw [if_pos c23] at H
                    have c23b0 := eq_true c23
                    have c23b1 : decide (t110 ≤ (a0.size : Int)) = true := decide_eq_true c23
                    clear c23
                    replace H := Option.bind_eq_some_iff.mp H
                    obtain ⟨⟨t111, t112⟩, A240, H⟩ := H
                    replace H : (if t112.isNone = true then (if t111 < 0 then (some (0, 0)) else (if t111 > 127 then (some (0, 0)) else ((escape_form.f ((t111) % 256)).bind fun t114 => (if 0 ≤ (wrap64 (t110 + 1)) then (if (wrap64 (t110 + 1)) ≤ (a0.size : Int) then (if t114.toList = (a0.extract 0 ((wrap64 (t110 + 1)) : Int).toNat).toList then (some ((t111) % 256, wrap64 (t110 + 1))) else (some (0, 0))) else (none)) else (none))))) else (some (0, 0))) = some (r1, r2) := H
                    have A24 := Aside0.mk A240
                    clear A240
                    rcases t112 with _ | q113
                    · have H1 : (if t111 < 0 then (some (0, 0)) else (if t111 > 127 then (some (0, 0)) else ((escape_form.f ((t111) % 256)).bind fun t114 => (if 0 ≤ (wrap64 (t110 + 1)) then (if (wrap64 (t110 + 1)) ≤ (a0.size : Int) then (if t114.toList = (a0.extract 0 ((wrap64 (t110 + 1)) : Int).toNat).toList then (some ((t111) % 256, wrap64 (t110 + 1))) else (some (0, 0))) else (none)) else (none))))) = some (r1, r2) := by rw [if_pos (show (none : Option Int).isNone = true by rfl)] at H; exact H
                      clear H
                      have H := H1
                      clear H1
                      try simp only [errW_none, errW_some]
                      by_cases c25 : t111 < 0
                      · rw [if_pos c25] at H
                        have c25b0 : decide (t111 < 0) = true := decide_eq_true c25
                        clear c25
                        simp only [Option.some.injEq, Prod.mk.injEq] at H
                        obtain ⟨rfl, rfl⟩ := H
                        try go_wp2_with (first | ((with_reducible refine gate_callee (f := 67) rfl ?_); refine goesL_ (some 25) rfl rfl Tryd.func67 (by kernel_rfl) rfl #[.string a0, .string (⟨#[38, 35]⟩ : ByteArray)] rfl (by (try simp only [List.map_toArray, List.map_cons, List.map_nil]); first | done | rfl | (simp only [List.length_drop, List.length_take]; rfl)) ?_; (with_reducible refine (strings_HasPrefix.calls a0 (⟨#[38, 35]⟩ : ByteArray) true _ ?side1 A15.out).mono ?_); (case side1 => first | exact HGL.out | exact (Go.Proofs.YtgdemingopcgaaaDoorX.GL.below HGL.out (by repeat (first | (with_reducible first | exact HB.out | apply below_alloc | apply pw_below_drewN | apply below_drew1) | exact HB.out))) | (repeat (first | exact HGL.out | (with_reducible refine Go.Proofs.YtgdemingopcgaaaDoorX.GL.drewN ?_ _) | (with_reducible refine Go.Proofs.YtgdemingopcgaaaDoorX.GL.drew ?_)))); rintro e w' ⟨rfl, ⟨nd, rfl⟩⟩; refine ⟨_, rfl, ?_⟩) | ((with_reducible refine gate_callee (f := 65) rfl ?_); refine goesL_ (some 32) rfl rfl Tryd.func65 (by kernel_rfl) rfl #[.string (a0.extract 0 ((ji17) : Int).toNat), .int .u8 59] rfl (by (try simp only [List.map_toArray, List.map_cons, List.map_nil]); first | done | (simp only [hji17]; rfl) | rfl | (simp only [List.length_drop, List.length_take]; rfl)) ?_; (with_reducible refine (strings_IndexByte.calls (a0.extract 0 ((ji17) : Int).toNat) 59 t110 _ ?side1 A20.out).mono ?_); (case side1 => first | exact HGL.out | exact (Go.Proofs.YtgdemingopcgaaaDoorX.GL.below HGL.out (by repeat (first | (with_reducible first | exact HB.out | apply below_alloc | apply pw_below_drewN | apply below_drew1) | exact HB.out))) | (repeat (first | exact HGL.out | (with_reducible refine Go.Proofs.YtgdemingopcgaaaDoorX.GL.drewN ?_ _) | (with_reducible refine Go.Proofs.YtgdemingopcgaaaDoorX.GL.drew ?_)))); rintro e w' ⟨rfl, ⟨nd, rfl⟩⟩; refine ⟨_, rfl, ?_⟩) | ((with_reducible refine gate_callee (f := 61) rfl ?_); refine goesL_ (some 39) rfl rfl Tryd.func61 (by kernel_rfl) rfl #[.string (a0.extract 2 (t110 : Int).toNat)] rfl (by (try simp only [List.map_toArray, List.map_cons, List.map_nil]); first | done | rfl | (simp only [List.length_drop, List.length_take]; rfl)) ?_; (with_reducible refine (strconv_Atoi.calls (a0.extract 2 (t110 : Int).toNat) t111 none _ ?side1 A24.out).mono ?_); (case side1 => first | exact HGL.out | exact (Go.Proofs.YtgdemingopcgaaaDoorX.GL.below HGL.out (by repeat (first | (with_reducible first | exact HB.out | apply below_alloc | apply pw_below_drewN | apply below_drew1) | exact HB.out))) | (repeat (first | exact HGL.out | (with_reducible refine Go.Proofs.YtgdemingopcgaaaDoorX.GL.drewN ?_ _) | (with_reducible refine Go.Proofs.YtgdemingopcgaaaDoorX.GL.drew ?_)))); rintro e w26 ⟨rfl, hb⟩; refine ⟨_, rfl, ?_⟩; have n0_ := Aside0.mk (Kd.R_below (by (with_reducible repeat (first | apply Kd.R_alloc | apply Kd.R_drewN | apply Kd.R_drew)); exact HO_9.out) hb); have n1_ := Aside0.mk (below_step (by repeat (first | (with_reducible first | exact HB.out | apply below_alloc | apply pw_below_drewN | apply below_drew1) | exact HB.out)) hb); clear HO_9; clear HB; have HO_9 := n0_; have HB := n1_; clear n0_ n1_; (try clear hb); (try clear hb2); (try clear hk); (try clear hi); (try simp only [errW_none, errW_some])))
                        have n0_ := Aside0.mk (Kd.R_drew HO_9.out)
                        have n1_ := Aside0.mk (below_drew1 HB.out)
                        clear HO_9
                        clear HB
                        have HO_9 := n0_
                        have HB := n1_
                        clear n0_ n1_
                        refine start_ (n := 20) (S := fun w' => True) (ds := []) #[false, false, false, false, false, false, false, false, false, false, false, false, false, false, false, false, false, false, false, false] (by kernel_rfl) rfl rfl trivial (fun hHeld => ?_); refine with_tabW escape_reference.tab13 escape_reference.bits13 (fun HT_ HW_ => ?_)
                        generalize w26.drew = w27 at HO_9 HB hHeld ⊢
                        refine pure_ (i := 0) (N := some 42) (v := ?_) (a' := ?_) #[true, false, false, false, false, false, false, false, false, false, false, false, false, false, false, false, false, false, false, false] rfl rfl (any_of HT_.out (by kernel_rfl)) (fun _ _ _ h => h) (Or.inl ⟨by rfl, ?_⟩) ?_ ?_
                        rotate_left
                        · intro w'
                          go_simp
                          with_reducible rfl
                        rotate_left
                        · simp only [Act.put, List.setIfInBounds_toArray, List.set_cons_zero, List.set_cons_succ, i64_w, i32_w]
                          rfl
                        refine pure_ (i := 1) (N := some 43) (v := ?_) (a' := ?_) #[true, true, false, false, false, false, false, false, false, false, false, false, false, false, false, false, false, false, false, false] rfl rfl (any_of HT_.out (by kernel_rfl)) (fun _ _ _ h => h) (Or.inl ⟨by rfl, ?_⟩) ?_ ?_
                        rotate_left
                        · intro w'
                          go_simp
                          with_reducible rfl
                        rotate_left
                        · simp only [Act.put, List.setIfInBounds_toArray, List.set_cons_zero, List.set_cons_succ, i64_w, i32_w]
                          rfl
                        refine pure_ (i := 2) (N := some 44) (v := ?_) (a' := ?_) #[true, true, true, false, false, false, false, false, false, false, false, false, false, false, false, false, false, false, false, false] rfl rfl (any_of HT_.out (by kernel_rfl)) (fun _ _ _ h => h) (Or.inl ⟨by rfl, ?_⟩) ?_ ?_
                        rotate_left
                        · intro w'
                          go_simp
                          with_reducible rfl
                        rotate_left
                        · simp only [Act.put, List.setIfInBounds_toArray, List.set_cons_zero, List.set_cons_succ, i64_w, i32_w]
                          rfl
                        refine pure_ (i := 3) (N := some 45) (v := ?_) (a' := ?_) #[true, true, true, true, false, false, false, false, false, false, false, false, false, false, false, false, false, false, false, false] rfl rfl (any_of HT_.out (by kernel_rfl)) (fun _ _ _ h => h) (Or.inl ⟨by rfl, ?_⟩) ?_ ?_
                        rotate_left
                        · intro w'
                          go_simp
                          with_reducible rfl
                        rotate_left
                        · simp only [Act.put, List.setIfInBounds_toArray, List.set_cons_zero, List.set_cons_succ, i64_w, i32_w]
                          rfl
                        refine pure_ (i := 4) (N := some 46) (v := ?_) (a' := ?_) #[true, true, true, true, true, false, false, false, false, false, false, false, false, false, false, false, false, false, false, false] rfl rfl (any_of HT_.out (by kernel_rfl)) (fun _ _ _ h => h) (Or.inl ⟨by rfl, ?_⟩) ?_ ?_
                        rotate_left
                        · intro w'
                          go_simp
                          with_reducible rfl
                        rotate_left
                        · simp only [Act.put, List.setIfInBounds_toArray, List.set_cons_zero, List.set_cons_succ, i64_w, i32_w]
                          rfl
                        refine pure_ (i := 5) (N := some 47) (v := ?_) (a' := ?_) #[true, true, true, true, true, true, false, false, false, false, false, false, false, false, false, false, false, false, false, false] rfl rfl (any_of HT_.out (by kernel_rfl)) (fun _ _ _ h => h) (Or.inl ⟨by rfl, ?_⟩) ?_ ?_
                        rotate_left
                        · intro w'
                          go_simp
                          with_reducible rfl
                        rotate_left
                        · simp only [Act.put, List.setIfInBounds_toArray, List.set_cons_zero, List.set_cons_succ, i64_w, i32_w]
                          rfl
                        refine pure_ (i := 6) (N := some 48) (v := ?_) (a' := ?_) #[true, true, true, true, true, true, true, false, false, false, false, false, false, false, false, false, false, false, false, false] rfl rfl (any_of HT_.out (by kernel_rfl)) (fun _ _ _ h => h) (Or.inl ⟨by rfl, ?_⟩) ?_ ?_
                        rotate_left
                        · intro w'
                          go_simp
                          with_reducible rfl
                        rotate_left
                        · simp only [Act.put, List.setIfInBounds_toArray, List.set_cons_zero, List.set_cons_succ, i64_w, i32_w]
                          rfl
                        refine pure_ (i := 7) (N := some 49) (v := undef) (a' := ?_) #[true, true, true, true, true, true, true, true, false, false, false, false, false, false, false, false, false, false, false, false] rfl rfl (any_of HT_.out (by kernel_rfl)) (fun _ _ _ h => h) (Or.inr ⟨by rfl, rfl⟩) ?_ ?_
                        rotate_left
                        · simp only [Act.put, List.setIfInBounds_toArray, List.set_cons_zero, List.set_cons_succ, i64_w, i32_w]
                          rfl
                        refine pure_ (i := 8) (N := some 50) (v := undef) (a' := ?_) #[true, true, true, true, true, true, true, true, true, false, false, false, false, false, false, false, false, false, false, false] rfl rfl (any_of HT_.out (by kernel_rfl)) (fun _ _ _ h => h) (Or.inr ⟨by rfl, rfl⟩) ?_ ?_
                        rotate_left
                        · simp only [Act.put, List.setIfInBounds_toArray, List.set_cons_zero, List.set_cons_succ, i64_w, i32_w]
                          rfl
                        refine pure_ (i := 9) (N := some 51) (v := ?_) (a' := ?_) #[true, true, true, true, true, true, true, true, true, true, false, false, false, false, false, false, false, false, false, false] rfl rfl (any_of HT_.out (by kernel_rfl)) (fun _ _ _ h => h) (Or.inl ⟨by rfl, ?_⟩) ?_ ?_
                        rotate_left
                        · intro w'
                          go_simp
                          with_reducible rfl
                        rotate_left
                        · simp only [Act.put, List.setIfInBounds_toArray, List.set_cons_zero, List.set_cons_succ, i64_w, i32_w]
                          rfl
                        refine pure_ (i := 10) (N := some 52) (v := ?_) (a' := ?_) #[true, true, true, true, true, true, true, true, true, true, true, false, false, false, false, false, false, false, false, false] rfl rfl (any_of HT_.out (by kernel_rfl)) (fun _ _ _ h => h) (Or.inl ⟨by rfl, ?_⟩) ?_ ?_
                        rotate_left
                        · intro w'
                          go_simp
                          with_reducible rfl
                        rotate_left
                        · simp only [Act.put, List.setIfInBounds_toArray, List.set_cons_zero, List.set_cons_succ, i64_w, i32_w]
                          rfl
                        refine pure_ (i := 11) (N := some 53) (v := undef) (a' := ?_) #[true, true, true, true, true, true, true, true, true, true, true, true, false, false, false, false, false, false, false, false] rfl rfl (any_of HT_.out (by kernel_rfl)) (fun _ _ _ h => h) (Or.inr ⟨by rfl, rfl⟩) ?_ ?_
                        rotate_left
                        · simp only [Act.put, List.setIfInBounds_toArray, List.set_cons_zero, List.set_cons_succ, i64_w, i32_w]
                          rfl
                        refine pure_ (i := 12) (N := some 54) (v := undef) (a' := ?_) #[true, true, true, true, true, true, true, true, true, true, true, true, true, false, false, false, false, false, false, false] rfl rfl (any_of HT_.out (by kernel_rfl)) (fun _ _ _ h => h) (Or.inr ⟨by rfl, rfl⟩) ?_ ?_
                        rotate_left
                        · simp only [Act.put, List.setIfInBounds_toArray, List.set_cons_zero, List.set_cons_succ, i64_w, i32_w]
                          rfl
                        refine pure_ (i := 13) (N := some 55) (v := undef) (a' := ?_) #[true, true, true, true, true, true, true, true, true, true, true, true, true, true, false, false, false, false, false, false] rfl rfl (any_of HT_.out (by kernel_rfl)) (fun _ _ _ h => h) (Or.inr ⟨by rfl, rfl⟩) ?_ ?_
                        rotate_left
                        · simp only [Act.put, List.setIfInBounds_toArray, List.set_cons_zero, List.set_cons_succ, i64_w, i32_w]
                          rfl
                        refine pure_ (i := 14) (N := some 56) (v := undef) (a' := ?_) #[true, true, true, true, true, true, true, true, true, true, true, true, true, true, true, false, false, false, false, false] rfl rfl (any_of HT_.out (by kernel_rfl)) (fun _ _ _ h => h) (Or.inr ⟨by rfl, rfl⟩) ?_ ?_
                        rotate_left
                        · simp only [Act.put, List.setIfInBounds_toArray, List.set_cons_zero, List.set_cons_succ, i64_w, i32_w]
                          rfl
                        refine pure_ (i := 15) (N := some 57) (v := undef) (a' := ?_) #[true, true, true, true, true, true, true, true, true, true, true, true, true, true, true, true, false, false, false, false] rfl rfl (any_of HT_.out (by kernel_rfl)) (fun _ _ _ h => h) (Or.inr ⟨by rfl, rfl⟩) ?_ ?_
                        rotate_left
                        · simp only [Act.put, List.setIfInBounds_toArray, List.set_cons_zero, List.set_cons_succ, i64_w, i32_w]
                          rfl
                        refine pure_ (i := 16) (N := some 58) (v := undef) (a' := ?_) #[true, true, true, true, true, true, true, true, true, true, true, true, true, true, true, true, true, false, false, false] rfl rfl (any_of HT_.out (by kernel_rfl)) (fun _ _ _ h => h) (Or.inr ⟨by rfl, rfl⟩) ?_ ?_
                        rotate_left
                        · simp only [Act.put, List.setIfInBounds_toArray, List.set_cons_zero, List.set_cons_succ, i64_w, i32_w]
                          rfl
                        refine pure_ (i := 17) (N := some 59) (v := undef) (a' := ?_) #[true, true, true, true, true, true, true, true, true, true, true, true, true, true, true, true, true, true, false, false] rfl rfl (any_of HT_.out (by kernel_rfl)) (fun _ _ _ h => h) (Or.inr ⟨by rfl, rfl⟩) ?_ ?_
                        rotate_left
                        · simp only [Act.put, List.setIfInBounds_toArray, List.set_cons_zero, List.set_cons_succ, i64_w, i32_w]
                          rfl
                        refine pure_ (i := 18) (N := some 60) (v := undef) (a' := ?_) #[true, true, true, true, true, true, true, true, true, true, true, true, true, true, true, true, true, true, true, false] rfl rfl (any_of HT_.out (by kernel_rfl)) (fun _ _ _ h => h) (Or.inr ⟨by rfl, rfl⟩) ?_ ?_
                        rotate_left
                        · simp only [Act.put, List.setIfInBounds_toArray, List.set_cons_zero, List.set_cons_succ, i64_w, i32_w]
                          rfl
                        refine pure_ (i := 19) (N := some 61) (v := ?_) (a' := ?_) #[true, true, true, true, true, true, true, true, true, true, true, true, true, true, true, true, true, true, true, true] rfl rfl (any_of HT_.out (by kernel_rfl)) (fun _ _ _ h => h) (Or.inl ⟨by rfl, ?_⟩) ?_ ?_
                        rotate_left
                        · intro w'
                          go_simp
                          with_reducible rfl
                        rotate_left
                        · simp only [Act.put, List.setIfInBounds_toArray, List.set_cons_zero, List.set_cons_succ, i64_w, i32_w]
                          rfl
                        refine done_ (done_of HT_.out (by kernel_rfl)) ?_
                        try go_wp2
                        go_ret2
                        exact ⟨by first | rfl | (simp [errW_none, errW_some] <;> rfl) | (simp only [← hji17]; first | rfl | (simp [errW_none, errW_some] <;> rfl)) | (simp [*, errW_none, errW_some] <;> rfl), by repeat (first | (with_reducible first | exact HB.out | apply below_alloc | apply pw_below_drewN | apply below_drew1) | exact HB.out)⟩
                      · rw [if_neg c25] at H
                        have c25b0 : decide (t111 < 0) = false := decide_eq_false c25
                        clear c25
                        by_cases c28 : t111 > 127
                        · rw [if_pos c28] at H
                          have c28b0 : decide (127 < t111) = true := decide_eq_true c28
                          clear c28
                          simp only [Option.some.injEq, Prod.mk.injEq] at H
                          obtain ⟨rfl, rfl⟩ := H
                          try go_wp2_with (first | ((with_reducible refine gate_callee (f := 67) rfl ?_); refine goesL_ (some 25) rfl rfl Tryd.func67 (by kernel_rfl) rfl #[.string a0, .string (⟨#[38, 35]⟩ : ByteArray)] rfl (by (try simp only [List.map_toArray, List.map_cons, List.map_nil]); first | done | rfl | (simp only [List.length_drop, List.length_take]; rfl)) ?_; (with_reducible refine (strings_HasPrefix.calls a0 (⟨#[38, 35]⟩ : ByteArray) true _ ?side1 A15.out).mono ?_); (case side1 => first | exact HGL.out | exact (Go.Proofs.YtgdemingopcgaaaDoorX.GL.below HGL.out (by repeat (first | (with_reducible first | exact HB.out | apply below_alloc | apply pw_below_drewN | apply below_drew1) | exact HB.out))) | (repeat (first | exact HGL.out | (with_reducible refine Go.Proofs.YtgdemingopcgaaaDoorX.GL.drewN ?_ _) | (with_reducible refine Go.Proofs.YtgdemingopcgaaaDoorX.GL.drew ?_)))); rintro e w' ⟨rfl, ⟨nd, rfl⟩⟩; refine ⟨_, rfl, ?_⟩) | ((with_reducible refine gate_callee (f := 65) rfl ?_); refine goesL_ (some 32) rfl rfl Tryd.func65 (by kernel_rfl) rfl #[.string (a0.extract 0 ((ji17) : Int).toNat), .int .u8 59] rfl (by (try simp only [List.map_toArray, List.map_cons, List.map_nil]); first | done | (simp only [hji17]; rfl) | rfl | (simp only [List.length_drop, List.length_take]; rfl)) ?_; (with_reducible refine (strings_IndexByte.calls (a0.extract 0 ((ji17) : Int).toNat) 59 t110 _ ?side1 A20.out).mono ?_); (case side1 => first | exact HGL.out | exact (Go.Proofs.YtgdemingopcgaaaDoorX.GL.below HGL.out (by repeat (first | (with_reducible first | exact HB.out | apply below_alloc | apply pw_below_drewN | apply below_drew1) | exact HB.out))) | (repeat (first | exact HGL.out | (with_reducible refine Go.Proofs.YtgdemingopcgaaaDoorX.GL.drewN ?_ _) | (with_reducible refine Go.Proofs.YtgdemingopcgaaaDoorX.GL.drew ?_)))); rintro e w' ⟨rfl, ⟨nd, rfl⟩⟩; refine ⟨_, rfl, ?_⟩) | ((with_reducible refine gate_callee (f := 61) rfl ?_); refine goesL_ (some 39) rfl rfl Tryd.func61 (by kernel_rfl) rfl #[.string (a0.extract 2 (t110 : Int).toNat)] rfl (by (try simp only [List.map_toArray, List.map_cons, List.map_nil]); first | done | rfl | (simp only [List.length_drop, List.length_take]; rfl)) ?_; (with_reducible refine (strconv_Atoi.calls (a0.extract 2 (t110 : Int).toNat) t111 none _ ?side1 A24.out).mono ?_); (case side1 => first | exact HGL.out | exact (Go.Proofs.YtgdemingopcgaaaDoorX.GL.below HGL.out (by repeat (first | (with_reducible first | exact HB.out | apply below_alloc | apply pw_below_drewN | apply below_drew1) | exact HB.out))) | (repeat (first | exact HGL.out | (with_reducible refine Go.Proofs.YtgdemingopcgaaaDoorX.GL.drewN ?_ _) | (with_reducible refine Go.Proofs.YtgdemingopcgaaaDoorX.GL.drew ?_)))); rintro e w29 ⟨rfl, hb⟩; refine ⟨_, rfl, ?_⟩; have n0_ := Aside0.mk (Kd.R_below (by (with_reducible repeat (first | apply Kd.R_alloc | apply Kd.R_drewN | apply Kd.R_drew)); exact HO_9.out) hb); have n1_ := Aside0.mk (below_step (by repeat (first | (with_reducible first | exact HB.out | apply below_alloc | apply pw_below_drewN | apply below_drew1) | exact HB.out)) hb); clear HO_9; clear HB; have HO_9 := n0_; have HB := n1_; clear n0_ n1_; (try clear hb); (try clear hb2); (try clear hk); (try clear hi); (try simp only [errW_none, errW_some])))
                          have n0_ := Aside0.mk (Kd.R_drew HO_9.out)
                          have n1_ := Aside0.mk (below_drew1 HB.out)
                          clear HO_9
                          clear HB
                          have HO_9 := n0_
                          have HB := n1_
                          clear n0_ n1_
                          refine start_ (n := 20) (S := fun w' => True) (ds := []) #[false, false, false, false, false, false, false, false, false, false, false, false, false, false, false, false, false, false, false, false] (by kernel_rfl) rfl rfl trivial (fun hHeld => ?_); refine with_tabW escape_reference.tab13 escape_reference.bits13 (fun HT_ HW_ => ?_)
                          generalize w29.drew = w30 at HO_9 HB hHeld ⊢
                          refine pure_ (i := 0) (N := some 42) (v := ?_) (a' := ?_) #[true, false, false, false, false, false, false, false, false, false, false, false, false, false, false, false, false, false, false, false] rfl rfl (any_of HT_.out (by kernel_rfl)) (fun _ _ _ h => h) (Or.inl ⟨by rfl, ?_⟩) ?_ ?_
                          rotate_left
                          · intro w'
                            go_simp
                            with_reducible rfl
                          rotate_left
                          · simp only [Act.put, List.setIfInBounds_toArray, List.set_cons_zero, List.set_cons_succ, i64_w, i32_w]
                            rfl
                          refine pure_ (i := 1) (N := some 43) (v := ?_) (a' := ?_) #[true, true, false, false, false, false, false, false, false, false, false, false, false, false, false, false, false, false, false, false] rfl rfl (any_of HT_.out (by kernel_rfl)) (fun _ _ _ h => h) (Or.inl ⟨by rfl, ?_⟩) ?_ ?_
                          rotate_left
                          · intro w'
                            go_simp
                            with_reducible rfl
                          rotate_left
                          · simp only [Act.put, List.setIfInBounds_toArray, List.set_cons_zero, List.set_cons_succ, i64_w, i32_w]
                            rfl
                          refine pure_ (i := 2) (N := some 44) (v := ?_) (a' := ?_) #[true, true, true, false, false, false, false, false, false, false, false, false, false, false, false, false, false, false, false, false] rfl rfl (any_of HT_.out (by kernel_rfl)) (fun _ _ _ h => h) (Or.inl ⟨by rfl, ?_⟩) ?_ ?_
                          rotate_left
                          · intro w'
                            go_simp
                            with_reducible rfl
                          rotate_left
                          · simp only [Act.put, List.setIfInBounds_toArray, List.set_cons_zero, List.set_cons_succ, i64_w, i32_w]
                            rfl
                          refine pure_ (i := 3) (N := some 45) (v := ?_) (a' := ?_) #[true, true, true, true, false, false, false, false, false, false, false, false, false, false, false, false, false, false, false, false] rfl rfl (any_of HT_.out (by kernel_rfl)) (fun _ _ _ h => h) (Or.inl ⟨by rfl, ?_⟩) ?_ ?_
                          rotate_left
                          · intro w'
                            go_simp
                            with_reducible rfl
                          rotate_left
                          · simp only [Act.put, List.setIfInBounds_toArray, List.set_cons_zero, List.set_cons_succ, i64_w, i32_w]
                            rfl
                          refine pure_ (i := 4) (N := some 46) (v := ?_) (a' := ?_) #[true, true, true, true, true, false, false, false, false, false, false, false, false, false, false, false, false, false, false, false] rfl rfl (any_of HT_.out (by kernel_rfl)) (fun _ _ _ h => h) (Or.inl ⟨by rfl, ?_⟩) ?_ ?_
                          rotate_left
                          · intro w'
                            go_simp
                            with_reducible rfl
                          rotate_left
                          · simp only [Act.put, List.setIfInBounds_toArray, List.set_cons_zero, List.set_cons_succ, i64_w, i32_w]
                            rfl
                          refine pure_ (i := 5) (N := some 47) (v := ?_) (a' := ?_) #[true, true, true, true, true, true, false, false, false, false, false, false, false, false, false, false, false, false, false, false] rfl rfl (any_of HT_.out (by kernel_rfl)) (fun _ _ _ h => h) (Or.inl ⟨by rfl, ?_⟩) ?_ ?_
                          rotate_left
                          · intro w'
                            go_simp
                            with_reducible rfl
                          rotate_left
                          · simp only [Act.put, List.setIfInBounds_toArray, List.set_cons_zero, List.set_cons_succ, i64_w, i32_w]
                            rfl
                          refine pure_ (i := 6) (N := some 48) (v := ?_) (a' := ?_) #[true, true, true, true, true, true, true, false, false, false, false, false, false, false, false, false, false, false, false, false] rfl rfl (any_of HT_.out (by kernel_rfl)) (fun _ _ _ h => h) (Or.inl ⟨by rfl, ?_⟩) ?_ ?_
                          rotate_left
                          · intro w'
                            go_simp
                            with_reducible rfl
                          rotate_left
                          · simp only [Act.put, List.setIfInBounds_toArray, List.set_cons_zero, List.set_cons_succ, i64_w, i32_w]
                            rfl
                          refine pure_ (i := 7) (N := some 49) (v := ?_) (a' := ?_) #[true, true, true, true, true, true, true, true, false, false, false, false, false, false, false, false, false, false, false, false] rfl rfl (any_of HT_.out (by kernel_rfl)) (fun _ _ _ h => h) (Or.inl ⟨by rfl, ?_⟩) ?_ ?_
                          rotate_left
                          · intro w'
                            go_simp
                            with_reducible rfl
                          rotate_left
                          · simp only [Act.put, List.setIfInBounds_toArray, List.set_cons_zero, List.set_cons_succ, i64_w, i32_w]
                            rfl
                          refine pure_ (i := 8) (N := some 50) (v := ?_) (a' := ?_) #[true, true, true, true, true, true, true, true, true, false, false, false, false, false, false, false, false, false, false, false] rfl rfl (any_of HT_.out (by kernel_rfl)) (fun _ _ _ h => h) (Or.inl ⟨by rfl, ?_⟩) ?_ ?_
                          rotate_left
                          · intro w'
                            go_simp
                            with_reducible rfl
                          rotate_left
                          · simp only [Act.put, List.setIfInBounds_toArray, List.set_cons_zero, List.set_cons_succ, i64_w, i32_w]
                            rfl
                          refine pure_ (i := 9) (N := some 51) (v := ?_) (a' := ?_) #[true, true, true, true, true, true, true, true, true, true, false, false, false, false, false, false, false, false, false, false] rfl rfl (any_of HT_.out (by kernel_rfl)) (fun _ _ _ h => h) (Or.inl ⟨by rfl, ?_⟩) ?_ ?_
                          rotate_left
                          · intro w'
                            go_simp
                            with_reducible rfl
                          rotate_left
                          · simp only [Act.put, List.setIfInBounds_toArray, List.set_cons_zero, List.set_cons_succ, i64_w, i32_w]
                            rfl
                          refine pure_ (i := 10) (N := some 52) (v := ?_) (a' := ?_) #[true, true, true, true, true, true, true, true, true, true, true, false, false, false, false, false, false, false, false, false] rfl rfl (any_of HT_.out (by kernel_rfl)) (fun _ _ _ h => h) (Or.inl ⟨by rfl, ?_⟩) ?_ ?_
                          rotate_left
                          · intro w'
                            go_simp
                            with_reducible rfl
                          rotate_left
                          · simp only [Act.put, List.setIfInBounds_toArray, List.set_cons_zero, List.set_cons_succ, i64_w, i32_w]
                            rfl
                          refine pure_ (i := 11) (N := some 53) (v := undef) (a' := ?_) #[true, true, true, true, true, true, true, true, true, true, true, true, false, false, false, false, false, false, false, false] rfl rfl (any_of HT_.out (by kernel_rfl)) (fun _ _ _ h => h) (Or.inr ⟨by rfl, rfl⟩) ?_ ?_
                          rotate_left
                          · simp only [Act.put, List.setIfInBounds_toArray, List.set_cons_zero, List.set_cons_succ, i64_w, i32_w]
                            rfl
                          refine pure_ (i := 12) (N := some 54) (v := undef) (a' := ?_) #[true, true, true, true, true, true, true, true, true, true, true, true, true, false, false, false, false, false, false, false] rfl rfl (any_of HT_.out (by kernel_rfl)) (fun _ _ _ h => h) (Or.inr ⟨by rfl, rfl⟩) ?_ ?_
                          rotate_left
                          · simp only [Act.put, List.setIfInBounds_toArray, List.set_cons_zero, List.set_cons_succ, i64_w, i32_w]
                            rfl
                          refine pure_ (i := 13) (N := some 55) (v := undef) (a' := ?_) #[true, true, true, true, true, true, true, true, true, true, true, true, true, true, false, false, false, false, false, false] rfl rfl (any_of HT_.out (by kernel_rfl)) (fun _ _ _ h => h) (Or.inr ⟨by rfl, rfl⟩) ?_ ?_
                          rotate_left
                          · simp only [Act.put, List.setIfInBounds_toArray, List.set_cons_zero, List.set_cons_succ, i64_w, i32_w]
                            rfl
                          refine pure_ (i := 14) (N := some 56) (v := undef) (a' := ?_) #[true, true, true, true, true, true, true, true, true, true, true, true, true, true, true, false, false, false, false, false] rfl rfl (any_of HT_.out (by kernel_rfl)) (fun _ _ _ h => h) (Or.inr ⟨by rfl, rfl⟩) ?_ ?_
                          rotate_left
                          · simp only [Act.put, List.setIfInBounds_toArray, List.set_cons_zero, List.set_cons_succ, i64_w, i32_w]
                            rfl
                          refine pure_ (i := 15) (N := some 57) (v := undef) (a' := ?_) #[true, true, true, true, true, true, true, true, true, true, true, true, true, true, true, true, false, false, false, false] rfl rfl (any_of HT_.out (by kernel_rfl)) (fun _ _ _ h => h) (Or.inr ⟨by rfl, rfl⟩) ?_ ?_
                          rotate_left
                          · simp only [Act.put, List.setIfInBounds_toArray, List.set_cons_zero, List.set_cons_succ, i64_w, i32_w]
                            rfl
                          refine pure_ (i := 16) (N := some 58) (v := undef) (a' := ?_) #[true, true, true, true, true, true, true, true, true, true, true, true, true, true, true, true, true, false, false, false] rfl rfl (any_of HT_.out (by kernel_rfl)) (fun _ _ _ h => h) (Or.inr ⟨by rfl, rfl⟩) ?_ ?_
                          rotate_left
                          · simp only [Act.put, List.setIfInBounds_toArray, List.set_cons_zero, List.set_cons_succ, i64_w, i32_w]
                            rfl
                          refine pure_ (i := 17) (N := some 59) (v := undef) (a' := ?_) #[true, true, true, true, true, true, true, true, true, true, true, true, true, true, true, true, true, true, false, false] rfl rfl (any_of HT_.out (by kernel_rfl)) (fun _ _ _ h => h) (Or.inr ⟨by rfl, rfl⟩) ?_ ?_
                          rotate_left
                          · simp only [Act.put, List.setIfInBounds_toArray, List.set_cons_zero, List.set_cons_succ, i64_w, i32_w]
                            rfl
                          refine pure_ (i := 18) (N := some 60) (v := undef) (a' := ?_) #[true, true, true, true, true, true, true, true, true, true, true, true, true, true, true, true, true, true, true, false] rfl rfl (any_of HT_.out (by kernel_rfl)) (fun _ _ _ h => h) (Or.inr ⟨by rfl, rfl⟩) ?_ ?_
                          rotate_left
                          · simp only [Act.put, List.setIfInBounds_toArray, List.set_cons_zero, List.set_cons_succ, i64_w, i32_w]
                            rfl
                          refine pure_ (i := 19) (N := some 61) (v := ?_) (a' := ?_) #[true, true, true, true, true, true, true, true, true, true, true, true, true, true, true, true, true, true, true, true] rfl rfl (any_of HT_.out (by kernel_rfl)) (fun _ _ _ h => h) (Or.inl ⟨by rfl, ?_⟩) ?_ ?_
                          rotate_left
                          · intro w'
                            go_simp
                            with_reducible rfl
                          rotate_left
                          · simp only [Act.put, List.setIfInBounds_toArray, List.set_cons_zero, List.set_cons_succ, i64_w, i32_w]
                            rfl
                          refine done_ (done_of HT_.out (by kernel_rfl)) ?_
                          try go_wp2
                          go_ret2
                          exact ⟨by first | rfl | (simp [errW_none, errW_some] <;> rfl) | (simp only [← hji17]; first | rfl | (simp [errW_none, errW_some] <;> rfl)) | (simp [*, errW_none, errW_some] <;> rfl), by repeat (first | (with_reducible first | exact HB.out | apply below_alloc | apply pw_below_drewN | apply below_drew1) | exact HB.out)⟩
                        · rw [if_neg c28] at H
                          have c28b0 : decide (127 < t111) = false := decide_eq_false c28
                          clear c28
                          replace H := Option.bind_eq_some_iff.mp H
                          obtain ⟨t114, A310, H⟩ := H
                          replace H : (if 0 ≤ (wrap64 (t110 + 1)) then (if (wrap64 (t110 + 1)) ≤ (a0.size : Int) then (if t114.toList = (a0.extract 0 ((wrap64 (t110 + 1)) : Int).toNat).toList then (some ((t111) % 256, wrap64 (t110 + 1))) else (some (0, 0))) else (none)) else (none)) = some (r1, r2) := H
                          have A31 := Aside0.mk A310
                          clear A310
                          obtain ⟨ji32, hji32⟩ : ∃ j_ : Int, (wrap64 (t110 + 1)) = j_ := ⟨_, rfl⟩
                          replace H : (if 0 ≤ (ji32) then (if (ji32) ≤ (a0.size : Int) then (if t114.toList = (a0.extract 0 ((ji32) : Int).toNat).toList then (some ((t111) % 256, ji32)) else (some (0, 0))) else (none)) else (none)) = some (r1, r2) := by first | (rw [hji32] at H; exact H) | (simp only [hji32] at H ⊢; exact H)
                          (try rw [hji32] at A15)
                          (try rw [hji32] at A20)
                          (try rw [hji32] at A24)
                          (try rw [hji32] at A31)
                          have hji32w : (IntKind.i64.wrap (t110 + 1)) = ji32 := (i64_w _).trans hji32
                          by_cases c33 : 0 ≤ (ji32)
                          · rw [if_pos c33] at H
                            have c33b0 := eq_true c33
                            have c33b1 : decide (0 ≤ (ji32)) = true := decide_eq_true c33
                            clear c33
                            by_cases c34 : (ji32) ≤ (a0.size : Int)
                            · rw [if_pos c34] at H
                              have c34b0 := eq_true c34
                              have c34b1 : decide ((ji32) ≤ (a0.size : Int)) = true := decide_eq_true c34
                              clear c34
                              by_cases c35 : t114.toList = (a0.extract 0 ((ji32) : Int).toNat).toList
                              · rw [if_pos c35] at H
                                have c35b0 : (t114.toList == (a0.extract 0 ((ji32) : Int).toNat).toList) = true := beq_iff_eq.mpr c35
                                have c35b1 : (t114.toList != (a0.extract 0 ((ji32) : Int).toNat).toList) = false := bne_eq_false_iff_eq.mpr c35
                                clear c35
                                simp only [Option.some.injEq, Prod.mk.injEq] at H
                                obtain ⟨rfl, rfl⟩ := H
                                try go_wp2_with (first | ((with_reducible refine gate_callee (f := 67) rfl ?_); refine goesL_ (some 25) rfl rfl Tryd.func67 (by kernel_rfl) rfl #[.string a0, .string (⟨#[38, 35]⟩ : ByteArray)] rfl (by (try simp only [List.map_toArray, List.map_cons, List.map_nil]); first | done | rfl | (simp only [List.length_drop, List.length_take]; rfl)) ?_; (with_reducible refine (strings_HasPrefix.calls a0 (⟨#[38, 35]⟩ : ByteArray) true _ ?side1 A15.out).mono ?_); (case side1 => first | exact HGL.out | exact (Go.Proofs.YtgdemingopcgaaaDoorX.GL.below HGL.out (by repeat (first | (with_reducible first | exact HB.out | apply below_alloc | apply pw_below_drewN | apply below_drew1) | exact HB.out))) | (repeat (first | exact HGL.out | (with_reducible refine Go.Proofs.YtgdemingopcgaaaDoorX.GL.drewN ?_ _) | (with_reducible refine Go.Proofs.YtgdemingopcgaaaDoorX.GL.drew ?_)))); rintro e w' ⟨rfl, ⟨nd, rfl⟩⟩; refine ⟨_, rfl, ?_⟩) | ((with_reducible refine gate_callee (f := 65) rfl ?_); refine goesL_ (some 32) rfl rfl Tryd.func65 (by kernel_rfl) rfl #[.string (a0.extract 0 ((ji17) : Int).toNat), .int .u8 59] rfl (by (try simp only [List.map_toArray, List.map_cons, List.map_nil]); first | done | (simp only [hji17]; rfl) | rfl | (simp only [List.length_drop, List.length_take]; rfl)) ?_; (with_reducible refine (strings_IndexByte.calls (a0.extract 0 ((ji17) : Int).toNat) 59 t110 _ ?side1 A20.out).mono ?_); (case side1 => first | exact HGL.out | exact (Go.Proofs.YtgdemingopcgaaaDoorX.GL.below HGL.out (by repeat (first | (with_reducible first | exact HB.out | apply below_alloc | apply pw_below_drewN | apply below_drew1) | exact HB.out))) | (repeat (first | exact HGL.out | (with_reducible refine Go.Proofs.YtgdemingopcgaaaDoorX.GL.drewN ?_ _) | (with_reducible refine Go.Proofs.YtgdemingopcgaaaDoorX.GL.drew ?_)))); rintro e w' ⟨rfl, ⟨nd, rfl⟩⟩; refine ⟨_, rfl, ?_⟩) | ((with_reducible refine gate_callee (f := 61) rfl ?_); refine goesL_ (some 39) rfl rfl Tryd.func61 (by kernel_rfl) rfl #[.string (a0.extract 2 (t110 : Int).toNat)] rfl (by (try simp only [List.map_toArray, List.map_cons, List.map_nil]); first | done | rfl | (simp only [List.length_drop, List.length_take]; rfl)) ?_; (with_reducible refine (strconv_Atoi.calls (a0.extract 2 (t110 : Int).toNat) t111 none _ ?side1 A24.out).mono ?_); (case side1 => first | exact HGL.out | exact (Go.Proofs.YtgdemingopcgaaaDoorX.GL.below HGL.out (by repeat (first | (with_reducible first | exact HB.out | apply below_alloc | apply pw_below_drewN | apply below_drew1) | exact HB.out))) | (repeat (first | exact HGL.out | (with_reducible refine Go.Proofs.YtgdemingopcgaaaDoorX.GL.drewN ?_ _) | (with_reducible refine Go.Proofs.YtgdemingopcgaaaDoorX.GL.drew ?_)))); rintro e w36 ⟨rfl, hb⟩; refine ⟨_, rfl, ?_⟩; have n0_ := Aside0.mk (Kd.R_below (by (with_reducible repeat (first | apply Kd.R_alloc | apply Kd.R_drewN | apply Kd.R_drew)); exact HO_9.out) hb); have n1_ := Aside0.mk (below_step (by repeat (first | (with_reducible first | exact HB.out | apply below_alloc | apply pw_below_drewN | apply below_drew1) | exact HB.out)) hb); clear HO_9; clear HB; have HO_9 := n0_; have HB := n1_; clear n0_ n1_; (try clear hb); (try clear hb2); (try clear hk); (try clear hi); (try simp only [errW_none, errW_some])))
                                have n0_ := Aside0.mk (Kd.R_drew HO_9.out)
                                have n1_ := Aside0.mk (below_drew1 HB.out)
                                clear HO_9
                                clear HB
                                have HO_9 := n0_
                                have HB := n1_
                                clear n0_ n1_
                                refine start_ (n := 20) (S := fun w' => True) (ds := []) #[false, false, false, false, false, false, false, false, false, false, false, false, false, false, false, false, false, false, false, false] (by kernel_rfl) rfl rfl trivial (fun hHeld => ?_); refine with_tabW escape_reference.tab13 escape_reference.bits13 (fun HT_ HW_ => ?_)
                                generalize w36.drew = w37 at HO_9 HB hHeld ⊢
                                refine pure_ (i := 0) (N := some 42) (v := ?_) (a' := ?_) #[true, false, false, false, false, false, false, false, false, false, false, false, false, false, false, false, false, false, false, false] rfl rfl (any_of HT_.out (by kernel_rfl)) (fun _ _ _ h => h) (Or.inl ⟨by rfl, ?_⟩) ?_ ?_
                                rotate_left
                                · intro w'
                                  go_simp
                                  with_reducible rfl
                                rotate_left
                                · simp only [Act.put, List.setIfInBounds_toArray, List.set_cons_zero, List.set_cons_succ, i64_w, i32_w]
                                  rfl
                                refine pure_ (i := 1) (N := some 43) (v := ?_) (a' := ?_) #[true, true, false, false, false, false, false, false, false, false, false, false, false, false, false, false, false, false, false, false] rfl rfl (any_of HT_.out (by kernel_rfl)) (fun _ _ _ h => h) (Or.inl ⟨by rfl, ?_⟩) ?_ ?_
                                rotate_left
                                · intro w'
                                  go_simp
                                  with_reducible rfl
                                rotate_left
                                · simp only [Act.put, List.setIfInBounds_toArray, List.set_cons_zero, List.set_cons_succ, i64_w, i32_w]
                                  rfl
                                refine pure_ (i := 2) (N := some 44) (v := ?_) (a' := ?_) #[true, true, true, false, false, false, false, false, false, false, false, false, false, false, false, false, false, false, false, false] rfl rfl (any_of HT_.out (by kernel_rfl)) (fun _ _ _ h => h) (Or.inl ⟨by rfl, ?_⟩) ?_ ?_
                                rotate_left
                                · intro w'
                                  go_simp
                                  with_reducible rfl
                                rotate_left
                                · simp only [Act.put, List.setIfInBounds_toArray, List.set_cons_zero, List.set_cons_succ, i64_w, i32_w]
                                  rfl
                                refine pure_ (i := 3) (N := some 45) (v := ?_) (a' := ?_) #[true, true, true, true, false, false, false, false, false, false, false, false, false, false, false, false, false, false, false, false] rfl rfl (any_of HT_.out (by kernel_rfl)) (fun _ _ _ h => h) (Or.inl ⟨by rfl, ?_⟩) ?_ ?_
                                rotate_left
                                · intro w'
                                  go_simp
                                  with_reducible rfl
                                rotate_left
                                · simp only [Act.put, List.setIfInBounds_toArray, List.set_cons_zero, List.set_cons_succ, i64_w, i32_w]
                                  rfl
                                refine pure_ (i := 4) (N := some 46) (v := ?_) (a' := ?_) #[true, true, true, true, true, false, false, false, false, false, false, false, false, false, false, false, false, false, false, false] rfl rfl (any_of HT_.out (by kernel_rfl)) (fun _ _ _ h => h) (Or.inl ⟨by rfl, ?_⟩) ?_ ?_
                                rotate_left
                                · intro w'
                                  go_simp
                                  with_reducible rfl
                                rotate_left
                                · simp only [Act.put, List.setIfInBounds_toArray, List.set_cons_zero, List.set_cons_succ, i64_w, i32_w]
                                  rfl
                                refine pure_ (i := 5) (N := some 47) (v := ?_) (a' := ?_) #[true, true, true, true, true, true, false, false, false, false, false, false, false, false, false, false, false, false, false, false] rfl rfl (any_of HT_.out (by kernel_rfl)) (fun _ _ _ h => h) (Or.inl ⟨by rfl, ?_⟩) ?_ ?_
                                rotate_left
                                · intro w'
                                  go_simp
                                  with_reducible rfl
                                rotate_left
                                · simp only [Act.put, List.setIfInBounds_toArray, List.set_cons_zero, List.set_cons_succ, i64_w, i32_w]
                                  rfl
                                refine pure_ (i := 6) (N := some 48) (v := ?_) (a' := ?_) #[true, true, true, true, true, true, true, false, false, false, false, false, false, false, false, false, false, false, false, false] rfl rfl (any_of HT_.out (by kernel_rfl)) (fun _ _ _ h => h) (Or.inl ⟨by rfl, ?_⟩) ?_ ?_
                                rotate_left
                                · intro w'
                                  go_simp
                                  with_reducible rfl
                                rotate_left
                                · simp only [Act.put, List.setIfInBounds_toArray, List.set_cons_zero, List.set_cons_succ, i64_w, i32_w]
                                  rfl
                                refine pure_ (i := 7) (N := some 49) (v := ?_) (a' := ?_) #[true, true, true, true, true, true, true, true, false, false, false, false, false, false, false, false, false, false, false, false] rfl rfl (any_of HT_.out (by kernel_rfl)) (fun _ _ _ h => h) (Or.inl ⟨by rfl, ?_⟩) ?_ ?_
                                rotate_left
                                · intro w'
                                  go_simp
                                  with_reducible rfl
                                rotate_left
                                · simp only [Act.put, List.setIfInBounds_toArray, List.set_cons_zero, List.set_cons_succ, i64_w, i32_w]
                                  rfl
                                refine pure_ (i := 8) (N := some 50) (v := ?_) (a' := ?_) #[true, true, true, true, true, true, true, true, true, false, false, false, false, false, false, false, false, false, false, false] rfl rfl (any_of HT_.out (by kernel_rfl)) (fun _ _ _ h => h) (Or.inl ⟨by rfl, ?_⟩) ?_ ?_
                                rotate_left
                                · intro w'
                                  go_simp
                                  with_reducible rfl
                                rotate_left
                                · simp only [Act.put, List.setIfInBounds_toArray, List.set_cons_zero, List.set_cons_succ, i64_w, i32_w]
                                  rfl
                                refine pure_ (i := 9) (N := some 51) (v := ?_) (a' := ?_) #[true, true, true, true, true, true, true, true, true, true, false, false, false, false, false, false, false, false, false, false] rfl rfl (any_of HT_.out (by kernel_rfl)) (fun _ _ _ h => h) (Or.inl ⟨by rfl, ?_⟩) ?_ ?_
                                rotate_left
                                · intro w'
                                  go_simp
                                  with_reducible rfl
                                rotate_left
                                · simp only [Act.put, List.setIfInBounds_toArray, List.set_cons_zero, List.set_cons_succ, i64_w, i32_w]
                                  rfl
                                refine pure_ (i := 10) (N := some 52) (v := ?_) (a' := ?_) #[true, true, true, true, true, true, true, true, true, true, true, false, false, false, false, false, false, false, false, false] rfl rfl (any_of HT_.out (by kernel_rfl)) (fun _ _ _ h => h) (Or.inl ⟨by rfl, ?_⟩) ?_ ?_
                                rotate_left
                                · intro w'
                                  go_simp
                                  with_reducible rfl
                                rotate_left
                                · simp only [Act.put, List.setIfInBounds_toArray, List.set_cons_zero, List.set_cons_succ, i64_w, i32_w]
                                  rfl
                                refine pure_ (i := 11) (N := some 53) (v := ?_) (a' := ?_) #[true, true, true, true, true, true, true, true, true, true, true, true, false, false, false, false, false, false, false, false] rfl rfl (any_of HT_.out (by kernel_rfl)) (fun _ _ _ h => h) (Or.inl ⟨by rfl, ?_⟩) ?_ ?_
                                rotate_left
                                · intro w'
                                  go_simp
                                  with_reducible rfl
                                rotate_left
                                · simp only [Act.put, List.setIfInBounds_toArray, List.set_cons_zero, List.set_cons_succ, i64_w, i32_w]
                                  rfl
                                refine pure_ (i := 12) (N := some 54) (v := ?_) (a' := ?_) #[true, true, true, true, true, true, true, true, true, true, true, true, true, false, false, false, false, false, false, false] rfl rfl (any_of HT_.out (by kernel_rfl)) (fun _ _ _ h => h) (Or.inl ⟨by rfl, ?_⟩) ?_ ?_
                                rotate_left
                                · intro w'
                                  go_simp
                                  with_reducible rfl
                                rotate_left
                                · simp only [Act.put, List.setIfInBounds_toArray, List.set_cons_zero, List.set_cons_succ, i64_w, i32_w]
                                  rfl
                                refine pure_ (i := 14) (N := some 56) (v := ?_) (a' := ?_) #[true, true, true, true, true, true, true, true, true, true, true, true, true, false, true, false, false, false, false, false] rfl rfl (any_of HT_.out (by kernel_rfl)) (fun _ _ _ h => h) (Or.inl ⟨by rfl, ?_⟩) ?_ ?_
                                rotate_left
                                · intro w'
                                  go_simp
                                  with_reducible rfl
                                rotate_left
                                · simp only [Act.put, List.setIfInBounds_toArray, List.set_cons_zero, List.set_cons_succ, i64_w, i32_w]
                                  rfl
                                refine pure_ (i := 15) (N := some 57) (v := ?_) (a' := ?_) #[true, true, true, true, true, true, true, true, true, true, true, true, true, false, true, true, false, false, false, false] rfl rfl (any_of HT_.out (by kernel_rfl)) (fun _ _ _ h => h) (Or.inl ⟨by rfl, ?_⟩) ?_ ?_
                                rotate_left
                                · intro w'
                                  go_simp
                                  with_reducible rfl
                                rotate_left
                                · simp only [Act.put, List.setIfInBounds_toArray, List.set_cons_zero, List.set_cons_succ, i64_w, i32_w]
                                  rfl
                                refine pure_ (i := 16) (N := some 58) (v := ?_) (a' := ?_) #[true, true, true, true, true, true, true, true, true, true, true, true, true, false, true, true, true, false, false, false] rfl rfl (any_of HT_.out (by kernel_rfl)) (fun _ _ _ h => h) (Or.inl ⟨by rfl, ?_⟩) ?_ ?_
                                rotate_left
                                · intro w'
                                  go_simp
                                  with_reducible rfl
                                rotate_left
                                · simp only [Act.put, List.setIfInBounds_toArray, List.set_cons_zero, List.set_cons_succ, i64_w, i32_w]
                                  rfl
                                refine pure_ (i := 17) (N := some 59) (v := ?_) (a' := ?_) #[true, true, true, true, true, true, true, true, true, true, true, true, true, false, true, true, true, true, false, false] rfl rfl (any_of HT_.out (by kernel_rfl)) (fun _ _ _ h => h) (Or.inl ⟨by rfl, ?_⟩) ?_ ?_
                                rotate_left
                                · intro w'
                                  go_simp
                                  with_reducible rfl
                                rotate_left
                                · simp only [Act.put, List.setIfInBounds_toArray, List.set_cons_zero, List.set_cons_succ, i64_w, i32_w]
                                  rfl
                                refine one_ (i := 13) (N := some 55) #[true, true, true, true, true, true, true, true, true, true, true, true, true, true, true, true, true, true, false, false] rfl rfl (one_of HT_.out (by kernel_rfl)) (by decide) (fun K hK => ?_)
                                refine goes_ Tryd.func57 (by kernel_rfl) rfl #[.int .u8 ((t111) % 256)] (by rfl) rfl rfl (by (try simp only [List.map_toArray, List.map_cons, List.map_nil]); first | done | rfl | (simp only [List.length_drop, List.length_take]; rfl)) ?_
                                with_reducible refine (escape_form.calls ((t111) % 256) t114 _ ?side1 A31.out).mono ?_
                                (case side1 => first | exact HGL.out | exact (Go.Proofs.YtgdemingopcgaaaDoorX.GL.below HGL.out (by repeat (first | (with_reducible first | exact HB.out | apply below_alloc | apply pw_below_drewN | apply below_drew1) | exact HB.out))) | (repeat (first | exact HGL.out | (with_reducible refine Go.Proofs.YtgdemingopcgaaaDoorX.GL.drewN ?_ _) | (with_reducible refine Go.Proofs.YtgdemingopcgaaaDoorX.GL.drew ?_))))
                                rintro e w38 ⟨rfl, hb⟩
                                refine ⟨_, rfl, ?_⟩
                                have n0_ := Aside0.mk (Kd.R_below (by (with_reducible repeat (first | apply Kd.R_alloc | apply Kd.R_drewN | apply Kd.R_drew)); exact HO_9.out) hb)
                                have n1_ := Aside0.mk (below_step (by repeat (first | (with_reducible first | exact HB.out | apply below_alloc | apply pw_below_drewN | apply below_drew1) | exact HB.out)) hb)
                                clear HO_9
                                clear HB
                                have HO_9 := n0_
                                have HB := n1_
                                clear n0_ n1_
                                (try clear hb)
                                (try clear hb2)
                                (try clear hk)
                                (try clear hi)
                                refine hK.out _ _ trivial (fun hHeld => ?_)
                                clear hK K
                                refine norm_ (a' := ?_) ?_ ?_
                                rotate_left
                                · show Act.put _ (some 55) _ = _
                                  simp only [Act.put, List.setIfInBounds_toArray, List.set_cons_zero, List.set_cons_succ, i64_w, i32_w]
                                  rfl
                                refine pure_ (i := 18) (N := some 60) (v := ?_) (a' := ?_) #[true, true, true, true, true, true, true, true, true, true, true, true, true, true, true, true, true, true, true, false] rfl rfl (any_of HT_.out (by kernel_rfl)) (fun _ _ _ h => h) (Or.inl ⟨by rfl, ?_⟩) ?_ ?_
                                rotate_left
                                · intro w'
                                  go_simp
                                  with_reducible rfl
                                rotate_left
                                · simp only [Act.put, List.setIfInBounds_toArray, List.set_cons_zero, List.set_cons_succ, i64_w, i32_w]
                                  rfl
                                refine pure_ (i := 19) (N := some 61) (v := ?_) (a' := ?_) #[true, true, true, true, true, true, true, true, true, true, true, true, true, true, true, true, true, true, true, true] rfl rfl (any_of HT_.out (by kernel_rfl)) (fun _ _ _ h => h) (Or.inl ⟨by rfl, ?_⟩) ?_ ?_
                                rotate_left
                                · intro w'
                                  go_simp
                                  with_reducible rfl
                                rotate_left
                                · simp only [Act.put, List.setIfInBounds_toArray, List.set_cons_zero, List.set_cons_succ, i64_w, i32_w]
                                  rfl
                                refine done_ (done_of HT_.out (by kernel_rfl)) ?_
                                try go_wp2
                                go_ret2
                                exact ⟨by first | rfl | (simp [errW_none, errW_some] <;> rfl) | (simp only [← hji17, ← hji32]; first | rfl | (simp [errW_none, errW_some] <;> rfl)) | (simp [*, errW_none, errW_some] <;> rfl), by repeat (first | (with_reducible first | exact HB.out | apply below_alloc | apply pw_below_drewN | apply below_drew1) | exact HB.out)⟩
                              · rw [if_neg c35] at H
                                have c35b0 : (t114.toList == (a0.extract 0 ((ji32) : Int).toNat).toList) = false := beq_eq_false_iff_ne.mpr c35
                                have c35b1 : (t114.toList != (a0.extract 0 ((ji32) : Int).toNat).toList) = true := bne_iff_ne.mpr c35
                                simp only [Option.some.injEq, Prod.mk.injEq] at H
                                obtain ⟨rfl, rfl⟩ := H
                                try go_wp2_with (first | ((with_reducible refine gate_callee (f := 67) rfl ?_); refine goesL_ (some 25) rfl rfl Tryd.func67 (by kernel_rfl) rfl #[.string a0, .string (⟨#[38, 35]⟩ : ByteArray)] rfl (by (try simp only [List.map_toArray, List.map_cons, List.map_nil]); first | done | rfl | (simp only [List.length_drop, List.length_take]; rfl)) ?_; (with_reducible refine (strings_HasPrefix.calls a0 (⟨#[38, 35]⟩ : ByteArray) true _ ?side1 A15.out).mono ?_); (case side1 => first | exact HGL.out | exact (Go.Proofs.YtgdemingopcgaaaDoorX.GL.below HGL.out (by repeat (first | (with_reducible first | exact HB.out | apply below_alloc | apply pw_below_drewN | apply below_drew1) | exact HB.out))) | (repeat (first | exact HGL.out | (with_reducible refine Go.Proofs.YtgdemingopcgaaaDoorX.GL.drewN ?_ _) | (with_reducible refine Go.Proofs.YtgdemingopcgaaaDoorX.GL.drew ?_)))); rintro e w' ⟨rfl, ⟨nd, rfl⟩⟩; refine ⟨_, rfl, ?_⟩) | ((with_reducible refine gate_callee (f := 65) rfl ?_); refine goesL_ (some 32) rfl rfl Tryd.func65 (by kernel_rfl) rfl #[.string (a0.extract 0 ((ji17) : Int).toNat), .int .u8 59] rfl (by (try simp only [List.map_toArray, List.map_cons, List.map_nil]); first | done | (simp only [hji17]; rfl) | rfl | (simp only [List.length_drop, List.length_take]; rfl)) ?_; (with_reducible refine (strings_IndexByte.calls (a0.extract 0 ((ji17) : Int).toNat) 59 t110 _ ?side1 A20.out).mono ?_); (case side1 => first | exact HGL.out | exact (Go.Proofs.YtgdemingopcgaaaDoorX.GL.below HGL.out (by repeat (first | (with_reducible first | exact HB.out | apply below_alloc | apply pw_below_drewN | apply below_drew1) | exact HB.out))) | (repeat (first | exact HGL.out | (with_reducible refine Go.Proofs.YtgdemingopcgaaaDoorX.GL.drewN ?_ _) | (with_reducible refine Go.Proofs.YtgdemingopcgaaaDoorX.GL.drew ?_)))); rintro e w' ⟨rfl, ⟨nd, rfl⟩⟩; refine ⟨_, rfl, ?_⟩) | ((with_reducible refine gate_callee (f := 61) rfl ?_); refine goesL_ (some 39) rfl rfl Tryd.func61 (by kernel_rfl) rfl #[.string (a0.extract 2 (t110 : Int).toNat)] rfl (by (try simp only [List.map_toArray, List.map_cons, List.map_nil]); first | done | rfl | (simp only [List.length_drop, List.length_take]; rfl)) ?_; (with_reducible refine (strconv_Atoi.calls (a0.extract 2 (t110 : Int).toNat) t111 none _ ?side1 A24.out).mono ?_); (case side1 => first | exact HGL.out | exact (Go.Proofs.YtgdemingopcgaaaDoorX.GL.below HGL.out (by repeat (first | (with_reducible first | exact HB.out | apply below_alloc | apply pw_below_drewN | apply below_drew1) | exact HB.out))) | (repeat (first | exact HGL.out | (with_reducible refine Go.Proofs.YtgdemingopcgaaaDoorX.GL.drewN ?_ _) | (with_reducible refine Go.Proofs.YtgdemingopcgaaaDoorX.GL.drew ?_)))); rintro e w39 ⟨rfl, hb⟩; refine ⟨_, rfl, ?_⟩; have n0_ := Aside0.mk (Kd.R_below (by (with_reducible repeat (first | apply Kd.R_alloc | apply Kd.R_drewN | apply Kd.R_drew)); exact HO_9.out) hb); have n1_ := Aside0.mk (below_step (by repeat (first | (with_reducible first | exact HB.out | apply below_alloc | apply pw_below_drewN | apply below_drew1) | exact HB.out)) hb); clear HO_9; clear HB; have HO_9 := n0_; have HB := n1_; clear n0_ n1_; (try clear hb); (try clear hb2); (try clear hk); (try clear hi); (try simp only [errW_none, errW_some])))
                                have n0_ := Aside0.mk (Kd.R_drew HO_9.out)
                                have n1_ := Aside0.mk (below_drew1 HB.out)
                                clear HO_9
                                clear HB
                                have HO_9 := n0_
                                have HB := n1_
                                clear n0_ n1_
                                refine start_ (n := 20) (S := fun w' => True) (ds := []) #[false, false, false, false, false, false, false, false, false, false, false, false, false, false, false, false, false, false, false, false] (by kernel_rfl) rfl rfl trivial (fun hHeld => ?_); refine with_tabW escape_reference.tab13 escape_reference.bits13 (fun HT_ HW_ => ?_)
                                generalize w39.drew = w40 at HO_9 HB hHeld ⊢
                                refine pure_ (i := 0) (N := some 42) (v := ?_) (a' := ?_) #[true, false, false, false, false, false, false, false, false, false, false, false, false, false, false, false, false, false, false, false] rfl rfl (any_of HT_.out (by kernel_rfl)) (fun _ _ _ h => h) (Or.inl ⟨by rfl, ?_⟩) ?_ ?_
                                rotate_left
                                · intro w'
                                  go_simp
                                  with_reducible rfl
                                rotate_left
                                · simp only [Act.put, List.setIfInBounds_toArray, List.set_cons_zero, List.set_cons_succ, i64_w, i32_w]
                                  rfl
                                refine pure_ (i := 1) (N := some 43) (v := ?_) (a' := ?_) #[true, true, false, false, false, false, false, false, false, false, false, false, false, false, false, false, false, false, false, false] rfl rfl (any_of HT_.out (by kernel_rfl)) (fun _ _ _ h => h) (Or.inl ⟨by rfl, ?_⟩) ?_ ?_
                                rotate_left
                                · intro w'
                                  go_simp
                                  with_reducible rfl
                                rotate_left
                                · simp only [Act.put, List.setIfInBounds_toArray, List.set_cons_zero, List.set_cons_succ, i64_w, i32_w]
                                  rfl
                                refine pure_ (i := 2) (N := some 44) (v := ?_) (a' := ?_) #[true, true, true, false, false, false, false, false, false, false, false, false, false, false, false, false, false, false, false, false] rfl rfl (any_of HT_.out (by kernel_rfl)) (fun _ _ _ h => h) (Or.inl ⟨by rfl, ?_⟩) ?_ ?_
                                rotate_left
                                · intro w'
                                  go_simp
                                  with_reducible rfl
                                rotate_left
                                · simp only [Act.put, List.setIfInBounds_toArray, List.set_cons_zero, List.set_cons_succ, i64_w, i32_w]
                                  rfl
                                refine pure_ (i := 3) (N := some 45) (v := ?_) (a' := ?_) #[true, true, true, true, false, false, false, false, false, false, false, false, false, false, false, false, false, false, false, false] rfl rfl (any_of HT_.out (by kernel_rfl)) (fun _ _ _ h => h) (Or.inl ⟨by rfl, ?_⟩) ?_ ?_
                                rotate_left
                                · intro w'
                                  go_simp
                                  with_reducible rfl
                                rotate_left
                                · simp only [Act.put, List.setIfInBounds_toArray, List.set_cons_zero, List.set_cons_succ, i64_w, i32_w]
                                  rfl
                                refine pure_ (i := 4) (N := some 46) (v := ?_) (a' := ?_) #[true, true, true, true, true, false, false, false, false, false, false, false, false, false, false, false, false, false, false, false] rfl rfl (any_of HT_.out (by kernel_rfl)) (fun _ _ _ h => h) (Or.inl ⟨by rfl, ?_⟩) ?_ ?_
                                rotate_left
                                · intro w'
                                  go_simp
                                  with_reducible rfl
                                rotate_left
                                · simp only [Act.put, List.setIfInBounds_toArray, List.set_cons_zero, List.set_cons_succ, i64_w, i32_w]
                                  rfl
                                refine pure_ (i := 5) (N := some 47) (v := ?_) (a' := ?_) #[true, true, true, true, true, true, false, false, false, false, false, false, false, false, false, false, false, false, false, false] rfl rfl (any_of HT_.out (by kernel_rfl)) (fun _ _ _ h => h) (Or.inl ⟨by rfl, ?_⟩) ?_ ?_
                                rotate_left
                                · intro w'
                                  go_simp
                                  with_reducible rfl
                                rotate_left
                                · simp only [Act.put, List.setIfInBounds_toArray, List.set_cons_zero, List.set_cons_succ, i64_w, i32_w]
                                  rfl
                                refine pure_ (i := 6) (N := some 48) (v := ?_) (a' := ?_) #[true, true, true, true, true, true, true, false, false, false, false, false, false, false, false, false, false, false, false, false] rfl rfl (any_of HT_.out (by kernel_rfl)) (fun _ _ _ h => h) (Or.inl ⟨by rfl, ?_⟩) ?_ ?_
                                rotate_left
                                · intro w'
                                  go_simp
                                  with_reducible rfl
                                rotate_left
                                · simp only [Act.put, List.setIfInBounds_toArray, List.set_cons_zero, List.set_cons_succ, i64_w, i32_w]
                                  rfl
                                refine pure_ (i := 7) (N := some 49) (v := ?_) (a' := ?_) #[true, true, true, true, true, true, true, true, false, false, false, false, false, false, false, false, false, false, false, false] rfl rfl (any_of HT_.out (by kernel_rfl)) (fun _ _ _ h => h) (Or.inl ⟨by rfl, ?_⟩) ?_ ?_
                                rotate_left
                                · intro w'
                                  go_simp
                                  with_reducible rfl
                                rotate_left
                                · simp only [Act.put, List.setIfInBounds_toArray, List.set_cons_zero, List.set_cons_succ, i64_w, i32_w]
                                  rfl
                                refine pure_ (i := 8) (N := some 50) (v := ?_) (a' := ?_) #[true, true, true, true, true, true, true, true, true, false, false, false, false, false, false, false, false, false, false, false] rfl rfl (any_of HT_.out (by kernel_rfl)) (fun _ _ _ h => h) (Or.inl ⟨by rfl, ?_⟩) ?_ ?_
                                rotate_left
                                · intro w'
                                  go_simp
                                  with_reducible rfl
                                rotate_left
                                · simp only [Act.put, List.setIfInBounds_toArray, List.set_cons_zero, List.set_cons_succ, i64_w, i32_w]
                                  rfl
                                refine pure_ (i := 9) (N := some 51) (v := ?_) (a' := ?_) #[true, true, true, true, true, true, true, true, true, true, false, false, false, false, false, false, false, false, false, false] rfl rfl (any_of HT_.out (by kernel_rfl)) (fun _ _ _ h => h) (Or.inl ⟨by rfl, ?_⟩) ?_ ?_
                                rotate_left
                                · intro w'
                                  go_simp
                                  with_reducible rfl
                                rotate_left
                                · simp only [Act.put, List.setIfInBounds_toArray, List.set_cons_zero, List.set_cons_succ, i64_w, i32_w]
                                  rfl
                                refine pure_ (i := 10) (N := some 52) (v := ?_) (a' := ?_) #[true, true, true, true, true, true, true, true, true, true, true, false, false, false, false, false, false, false, false, false] rfl rfl (any_of HT_.out (by kernel_rfl)) (fun _ _ _ h => h) (Or.inl ⟨by rfl, ?_⟩) ?_ ?_
                                rotate_left
                                · intro w'
                                  go_simp
                                  with_reducible rfl
                                rotate_left
                                · simp only [Act.put, List.setIfInBounds_toArray, List.set_cons_zero, List.set_cons_succ, i64_w, i32_w]
                                  rfl
                                refine pure_ (i := 11) (N := some 53) (v := ?_) (a' := ?_) #[true, true, true, true, true, true, true, true, true, true, true, true, false, false, false, false, false, false, false, false] rfl rfl (any_of HT_.out (by kernel_rfl)) (fun _ _ _ h => h) (Or.inl ⟨by rfl, ?_⟩) ?_ ?_
                                rotate_left
                                · intro w'
                                  go_simp
                                  with_reducible rfl
                                rotate_left
                                · simp only [Act.put, List.setIfInBounds_toArray, List.set_cons_zero, List.set_cons_succ, i64_w, i32_w]
                                  rfl
                                refine pure_ (i := 12) (N := some 54) (v := ?_) (a' := ?_) #[true, true, true, true, true, true, true, true, true, true, true, true, true, false, false, false, false, false, false, false] rfl rfl (any_of HT_.out (by kernel_rfl)) (fun _ _ _ h => h) (Or.inl ⟨by rfl, ?_⟩) ?_ ?_
                                rotate_left
                                · intro w'
                                  go_simp
                                  with_reducible rfl
                                rotate_left
                                · simp only [Act.put, List.setIfInBounds_toArray, List.set_cons_zero, List.set_cons_succ, i64_w, i32_w]
                                  rfl
                                refine pure_ (i := 14) (N := some 56) (v := ?_) (a' := ?_) #[true, true, true, true, true, true, true, true, true, true, true, true, true, false, true, false, false, false, false, false] rfl rfl (any_of HT_.out (by kernel_rfl)) (fun _ _ _ h => h) (Or.inl ⟨by rfl, ?_⟩) ?_ ?_
                                rotate_left
                                · intro w'
                                  go_simp
                                  with_reducible rfl
                                rotate_left
                                · simp only [Act.put, List.setIfInBounds_toArray, List.set_cons_zero, List.set_cons_succ, i64_w, i32_w]
                                  rfl
                                refine pure_ (i := 15) (N := some 57) (v := ?_) (a' := ?_) #[true, true, true, true, true, true, true, true, true, true, true, true, true, false, true, true, false, false, false, false] rfl rfl (any_of HT_.out (by kernel_rfl)) (fun _ _ _ h => h) (Or.inl ⟨by rfl, ?_⟩) ?_ ?_
                                rotate_left
                                · intro w'
                                  go_simp
                                  with_reducible rfl
                                rotate_left
                                · simp only [Act.put, List.setIfInBounds_toArray, List.set_cons_zero, List.set_cons_succ, i64_w, i32_w]
                                  rfl
                                refine pure_ (i := 16) (N := some 58) (v := ?_) (a' := ?_) #[true, true, true, true, true, true, true, true, true, true, true, true, true, false, true, true, true, false, false, false] rfl rfl (any_of HT_.out (by kernel_rfl)) (fun _ _ _ h => h) (Or.inl ⟨by rfl, ?_⟩) ?_ ?_
                                rotate_left
                                · intro w'
                                  go_simp
                                  with_reducible rfl
                                rotate_left
                                · simp only [Act.put, List.setIfInBounds_toArray, List.set_cons_zero, List.set_cons_succ, i64_w, i32_w]
                                  rfl
                                refine pure_ (i := 17) (N := some 59) (v := ?_) (a' := ?_) #[true, true, true, true, true, true, true, true, true, true, true, true, true, false, true, true, true, true, false, false] rfl rfl (any_of HT_.out (by kernel_rfl)) (fun _ _ _ h => h) (Or.inl ⟨by rfl, ?_⟩) ?_ ?_
                                rotate_left
                                · intro w'
                                  go_simp
                                  with_reducible rfl
                                rotate_left
                                · simp only [Act.put, List.setIfInBounds_toArray, List.set_cons_zero, List.set_cons_succ, i64_w, i32_w]
                                  rfl
                                refine one_ (i := 13) (N := some 55) #[true, true, true, true, true, true, true, true, true, true, true, true, true, true, true, true, true, true, false, false] rfl rfl (one_of HT_.out (by kernel_rfl)) (by decide) (fun K hK => ?_)
                                refine goes_ Tryd.func57 (by kernel_rfl) rfl #[.int .u8 ((t111) % 256)] (by rfl) rfl rfl (by (try simp only [List.map_toArray, List.map_cons, List.map_nil]); first | done | rfl | (simp only [List.length_drop, List.length_take]; rfl)) ?_
                                with_reducible refine (escape_form.calls ((t111) % 256) t114 _ ?side1 A31.out).mono ?_
                                (case side1 => first | exact HGL.out | exact (Go.Proofs.YtgdemingopcgaaaDoorX.GL.below HGL.out (by repeat (first | (with_reducible first | exact HB.out | apply below_alloc | apply pw_below_drewN | apply below_drew1) | exact HB.out))) | (repeat (first | exact HGL.out | (with_reducible refine Go.Proofs.YtgdemingopcgaaaDoorX.GL.drewN ?_ _) | (with_reducible refine Go.Proofs.YtgdemingopcgaaaDoorX.GL.drew ?_))))
                                rintro e w41 ⟨rfl, hb⟩
                                refine ⟨_, rfl, ?_⟩
                                have n0_ := Aside0.mk (Kd.R_below (by (with_reducible repeat (first | apply Kd.R_alloc | apply Kd.R_drewN | apply Kd.R_drew)); exact HO_9.out) hb)
                                have n1_ := Aside0.mk (below_step (by repeat (first | (with_reducible first | exact HB.out | apply below_alloc | apply pw_below_drewN | apply below_drew1) | exact HB.out)) hb)
                                clear HO_9
                                clear HB
                                have HO_9 := n0_
                                have HB := n1_
                                clear n0_ n1_
                                (try clear hb)
                                (try clear hb2)
                                (try clear hk)
                                (try clear hi)
                                refine hK.out _ _ trivial (fun hHeld => ?_)
                                clear hK K
                                refine norm_ (a' := ?_) ?_ ?_
                                rotate_left
                                · show Act.put _ (some 55) _ = _
                                  simp only [Act.put, List.setIfInBounds_toArray, List.set_cons_zero, List.set_cons_succ, i64_w, i32_w]
                                  rfl
                                refine pure_ (i := 18) (N := some 60) (v := ?_) (a' := ?_) #[true, true, true, true, true, true, true, true, true, true, true, true, true, true, true, true, true, true, true, false] rfl rfl (any_of HT_.out (by kernel_rfl)) (fun _ _ _ h => h) (Or.inl ⟨by rfl, ?_⟩) ?_ ?_
                                rotate_left
                                · intro w'
                                  go_simp
                                  with_reducible rfl
                                rotate_left
                                · simp only [Act.put, List.setIfInBounds_toArray, List.set_cons_zero, List.set_cons_succ, i64_w, i32_w]
                                  rfl
                                refine pure_ (i := 19) (N := some 61) (v := ?_) (a' := ?_) #[true, true, true, true, true, true, true, true, true, true, true, true, true, true, true, true, true, true, true, true] rfl rfl (any_of HT_.out (by kernel_rfl)) (fun _ _ _ h => h) (Or.inl ⟨by rfl, ?_⟩) ?_ ?_
                                rotate_left
                                · intro w'
                                  go_simp
                                  with_reducible rfl
                                rotate_left
                                · simp only [Act.put, List.setIfInBounds_toArray, List.set_cons_zero, List.set_cons_succ, i64_w, i32_w]
                                  rfl
                                refine done_ (done_of HT_.out (by kernel_rfl)) ?_
                                try go_wp2
                                go_ret2
                                exact ⟨by first | rfl | (simp [errW_none, errW_some] <;> rfl) | (simp only [← hji17, ← hji32]; first | rfl | (simp [errW_none, errW_some] <;> rfl)) | (simp [*, errW_none, errW_some] <;> rfl), by repeat (first | (with_reducible first | exact HB.out | apply below_alloc | apply pw_below_drewN | apply below_drew1) | exact HB.out)⟩
                            · rw [if_neg c34] at H
                              exact absurd H (by simp)
                          · rw [if_neg c33] at H
                            exact absurd H (by simp)
                    · have H1 : (some (0, 0)) = some (r1, r2) := by rw [if_neg (show ¬ (some q113).isNone = true by simp)] at H; exact H
                      clear H
                      have H := H1
                      clear H1
                      try simp only [errW_none, errW_some]
                      simp only [Option.some.injEq, Prod.mk.injEq] at H
                      obtain ⟨rfl, rfl⟩ := H
                      try go_wp2_with (first | ((with_reducible refine gate_callee (f := 67) rfl ?_); refine goesL_ (some 25) rfl rfl Tryd.func67 (by kernel_rfl) rfl #[.string a0, .string (⟨#[38, 35]⟩ : ByteArray)] rfl (by (try simp only [List.map_toArray, List.map_cons, List.map_nil]); first | done | rfl | (simp only [List.length_drop, List.length_take]; rfl)) ?_; (with_reducible refine (strings_HasPrefix.calls a0 (⟨#[38, 35]⟩ : ByteArray) true _ ?side1 A15.out).mono ?_); (case side1 => first | exact HGL.out | exact (Go.Proofs.YtgdemingopcgaaaDoorX.GL.below HGL.out (by repeat (first | (with_reducible first | exact HB.out | apply below_alloc | apply pw_below_drewN | apply below_drew1) | exact HB.out))) | (repeat (first | exact HGL.out | (with_reducible refine Go.Proofs.YtgdemingopcgaaaDoorX.GL.drewN ?_ _) | (with_reducible refine Go.Proofs.YtgdemingopcgaaaDoorX.GL.drew ?_)))); rintro e w' ⟨rfl, ⟨nd, rfl⟩⟩; refine ⟨_, rfl, ?_⟩) | ((with_reducible refine gate_callee (f := 65) rfl ?_); refine goesL_ (some 32) rfl rfl Tryd.func65 (by kernel_rfl) rfl #[.string (a0.extract 0 ((ji17) : Int).toNat), .int .u8 59] rfl (by (try simp only [List.map_toArray, List.map_cons, List.map_nil]); first | done | (simp only [hji17]; rfl) | rfl | (simp only [List.length_drop, List.length_take]; rfl)) ?_; (with_reducible refine (strings_IndexByte.calls (a0.extract 0 ((ji17) : Int).toNat) 59 t110 _ ?side1 A20.out).mono ?_); (case side1 => first | exact HGL.out | exact (Go.Proofs.YtgdemingopcgaaaDoorX.GL.below HGL.out (by repeat (first | (with_reducible first | exact HB.out | apply below_alloc | apply pw_below_drewN | apply below_drew1) | exact HB.out))) | (repeat (first | exact HGL.out | (with_reducible refine Go.Proofs.YtgdemingopcgaaaDoorX.GL.drewN ?_ _) | (with_reducible refine Go.Proofs.YtgdemingopcgaaaDoorX.GL.drew ?_)))); rintro e w' ⟨rfl, ⟨nd, rfl⟩⟩; refine ⟨_, rfl, ?_⟩) | ((with_reducible refine gate_callee (f := 61) rfl ?_); refine goesL_ (some 39) rfl rfl Tryd.func61 (by kernel_rfl) rfl #[.string (a0.extract 2 (t110 : Int).toNat)] rfl (by (try simp only [List.map_toArray, List.map_cons, List.map_nil]); first | done | rfl | (simp only [List.length_drop, List.length_take]; rfl)) ?_; (with_reducible refine (strconv_Atoi.calls (a0.extract 2 (t110 : Int).toNat) t111 (some q113) _ ?side1 A24.out).mono ?_); (case side1 => first | exact HGL.out | exact (Go.Proofs.YtgdemingopcgaaaDoorX.GL.below HGL.out (by repeat (first | (with_reducible first | exact HB.out | apply below_alloc | apply pw_below_drewN | apply below_drew1) | exact HB.out))) | (repeat (first | exact HGL.out | (with_reducible refine Go.Proofs.YtgdemingopcgaaaDoorX.GL.drewN ?_ _) | (with_reducible refine Go.Proofs.YtgdemingopcgaaaDoorX.GL.drew ?_)))); rintro e w42 ⟨⟨_, rfl⟩, hb⟩; refine ⟨_, rfl, ?_⟩; have n0_ := Aside0.mk (Kd.R_below (by (with_reducible repeat (first | apply Kd.R_alloc | apply Kd.R_drewN | apply Kd.R_drew)); exact HO_9.out) hb); have n1_ := Aside0.mk (below_step (by repeat (first | (with_reducible first | exact HB.out | apply below_alloc | apply pw_below_drewN | apply below_drew1) | exact HB.out)) hb); clear HO_9; clear HB; have HO_9 := n0_; have HB := n1_; clear n0_ n1_; (try clear hb); (try clear hb2); (try clear hk); (try clear hi); (try simp only [errW_none, errW_some])))
                      have n0_ := Aside0.mk (Kd.R_drew HO_9.out)
                      have n1_ := Aside0.mk (below_drew1 HB.out)
                      clear HO_9
                      clear HB
                      have HO_9 := n0_
                      have HB := n1_
                      clear n0_ n1_
                      refine start_ (n := 20) (S := fun w' => True) (ds := []) #[false, false, false, false, false, false, false, false, false, false, false, false, false, false, false, false, false, false, false, false] (by kernel_rfl) rfl rfl trivial (fun hHeld => ?_); refine with_tabW escape_reference.tab13 escape_reference.bits13 (fun HT_ HW_ => ?_)
                      generalize w42.drew = w43 at HO_9 HB hHeld ⊢
                      refine pure_ (i := 0) (N := some 42) (v := ?_) (a' := ?_) #[true, false, false, false, false, false, false, false, false, false, false, false, false, false, false, false, false, false, false, false] rfl rfl (any_of HT_.out (by kernel_rfl)) (fun _ _ _ h => h) (Or.inl ⟨by rfl, ?_⟩) ?_ ?_
                      rotate_left
                      · intro w'
                        go_simp
                        with_reducible rfl
                      rotate_left
                      · simp only [Act.put, List.setIfInBounds_toArray, List.set_cons_zero, List.set_cons_succ, i64_w, i32_w]
                        rfl
                      refine pure_ (i := 1) (N := some 43) (v := ?_) (a' := ?_) #[true, true, false, false, false, false, false, false, false, false, false, false, false, false, false, false, false, false, false, false] rfl rfl (any_of HT_.out (by kernel_rfl)) (fun _ _ _ h => h) (Or.inl ⟨by rfl, ?_⟩) ?_ ?_
                      rotate_left
                      · intro w'
                        go_simp
                        with_reducible rfl
                      rotate_left
                      · simp only [Act.put, List.setIfInBounds_toArray, List.set_cons_zero, List.set_cons_succ, i64_w, i32_w]
                        rfl
                      refine pure_ (i := 2) (N := some 44) (v := ?_) (a' := ?_) #[true, true, true, false, false, false, false, false, false, false, false, false, false, false, false, false, false, false, false, false] rfl rfl (any_of HT_.out (by kernel_rfl)) (fun _ _ _ h => h) (Or.inl ⟨by rfl, ?_⟩) ?_ ?_
                      rotate_left
                      · intro w'
                        go_simp
                        with_reducible rfl
                      rotate_left
                      · simp only [Act.put, List.setIfInBounds_toArray, List.set_cons_zero, List.set_cons_succ, i64_w, i32_w]
                        rfl
                      refine pure_ (i := 3) (N := some 45) (v := undef) (a' := ?_) #[true, true, true, true, false, false, false, false, false, false, false, false, false, false, false, false, false, false, false, false] rfl rfl (any_of HT_.out (by kernel_rfl)) (fun _ _ _ h => h) (Or.inr ⟨by rfl, rfl⟩) ?_ ?_
                      rotate_left
                      · simp only [Act.put, List.setIfInBounds_toArray, List.set_cons_zero, List.set_cons_succ, i64_w, i32_w]
                        rfl
                      refine pure_ (i := 4) (N := some 46) (v := undef) (a' := ?_) #[true, true, true, true, true, false, false, false, false, false, false, false, false, false, false, false, false, false, false, false] rfl rfl (any_of HT_.out (by kernel_rfl)) (fun _ _ _ h => h) (Or.inr ⟨by rfl, rfl⟩) ?_ ?_
                      rotate_left
                      · simp only [Act.put, List.setIfInBounds_toArray, List.set_cons_zero, List.set_cons_succ, i64_w, i32_w]
                        rfl
                      refine pure_ (i := 5) (N := some 47) (v := ?_) (a' := ?_) #[true, true, true, true, true, true, false, false, false, false, false, false, false, false, false, false, false, false, false, false] rfl rfl (any_of HT_.out (by kernel_rfl)) (fun _ _ _ h => h) (Or.inl ⟨by rfl, ?_⟩) ?_ ?_
                      rotate_left
                      · intro w'
                        go_simp
                        with_reducible rfl
                      rotate_left
                      · simp only [Act.put, List.setIfInBounds_toArray, List.set_cons_zero, List.set_cons_succ, i64_w, i32_w]
                        rfl
                      refine pure_ (i := 6) (N := some 48) (v := ?_) (a' := ?_) #[true, true, true, true, true, true, true, false, false, false, false, false, false, false, false, false, false, false, false, false] rfl rfl (any_of HT_.out (by kernel_rfl)) (fun _ _ _ h => h) (Or.inl ⟨by rfl, ?_⟩) ?_ ?_
                      rotate_left
                      · intro w'
                        go_simp
                        with_reducible rfl
                      rotate_left
                      · simp only [Act.put, List.setIfInBounds_toArray, List.set_cons_zero, List.set_cons_succ, i64_w, i32_w]
                        rfl
                      refine pure_ (i := 7) (N := some 49) (v := undef) (a' := ?_) #[true, true, true, true, true, true, true, true, false, false, false, false, false, false, false, false, false, false, false, false] rfl rfl (any_of HT_.out (by kernel_rfl)) (fun _ _ _ h => h) (Or.inr ⟨by rfl, rfl⟩) ?_ ?_
                      rotate_left
                      · simp only [Act.put, List.setIfInBounds_toArray, List.set_cons_zero, List.set_cons_succ, i64_w, i32_w]
                        rfl
                      refine pure_ (i := 8) (N := some 50) (v := undef) (a' := ?_) #[true, true, true, true, true, true, true, true, true, false, false, false, false, false, false, false, false, false, false, false] rfl rfl (any_of HT_.out (by kernel_rfl)) (fun _ _ _ h => h) (Or.inr ⟨by rfl, rfl⟩) ?_ ?_
                      rotate_left
                      · simp only [Act.put, List.setIfInBounds_toArray, List.set_cons_zero, List.set_cons_succ, i64_w, i32_w]
                        rfl
                      refine pure_ (i := 9) (N := some 51) (v := ?_) (a' := ?_) #[true, true, true, true, true, true, true, true, true, true, false, false, false, false, false, false, false, false, false, false] rfl rfl (any_of HT_.out (by kernel_rfl)) (fun _ _ _ h => h) (Or.inl ⟨by rfl, ?_⟩) ?_ ?_
                      rotate_left
                      · intro w'
                        go_simp
                        with_reducible rfl
                      rotate_left
                      · simp only [Act.put, List.setIfInBounds_toArray, List.set_cons_zero, List.set_cons_succ, i64_w, i32_w]
                        rfl
                      refine pure_ (i := 10) (N := some 52) (v := ?_) (a' := ?_) #[true, true, true, true, true, true, true, true, true, true, true, false, false, false, false, false, false, false, false, false] rfl rfl (any_of HT_.out (by kernel_rfl)) (fun _ _ _ h => h) (Or.inl ⟨by rfl, ?_⟩) ?_ ?_
                      rotate_left
                      · intro w'
                        go_simp
                        with_reducible rfl
                      rotate_left
                      · simp only [Act.put, List.setIfInBounds_toArray, List.set_cons_zero, List.set_cons_succ, i64_w, i32_w]
                        rfl
                      refine pure_ (i := 11) (N := some 53) (v := undef) (a' := ?_) #[true, true, true, true, true, true, true, true, true, true, true, true, false, false, false, false, false, false, false, false] rfl rfl (any_of HT_.out (by kernel_rfl)) (fun _ _ _ h => h) (Or.inr ⟨by rfl, rfl⟩) ?_ ?_
                      rotate_left
                      · simp only [Act.put, List.setIfInBounds_toArray, List.set_cons_zero, List.set_cons_succ, i64_w, i32_w]
                        rfl
                      refine pure_ (i := 12) (N := some 54) (v := undef) (a' := ?_) #[true, true, true, true, true, true, true, true, true, true, true, true, true, false, false, false, false, false, false, false] rfl rfl (any_of HT_.out (by kernel_rfl)) (fun _ _ _ h => h) (Or.inr ⟨by rfl, rfl⟩) ?_ ?_
                      rotate_left
                      · simp only [Act.put, List.setIfInBounds_toArray, List.set_cons_zero, List.set_cons_succ, i64_w, i32_w]
                        rfl
                      refine pure_ (i := 13) (N := some 55) (v := undef) (a' := ?_) #[true, true, true, true, true, true, true, true, true, true, true, true, true, true, false, false, false, false, false, false] rfl rfl (any_of HT_.out (by kernel_rfl)) (fun _ _ _ h => h) (Or.inr ⟨by rfl, rfl⟩) ?_ ?_
                      rotate_left
                      · simp only [Act.put, List.setIfInBounds_toArray, List.set_cons_zero, List.set_cons_succ, i64_w, i32_w]
                        rfl
                      refine pure_ (i := 14) (N := some 56) (v := undef) (a' := ?_) #[true, true, true, true, true, true, true, true, true, true, true, true, true, true, true, false, false, false, false, false] rfl rfl (any_of HT_.out (by kernel_rfl)) (fun _ _ _ h => h) (Or.inr ⟨by rfl, rfl⟩) ?_ ?_
                      rotate_left
                      · simp only [Act.put, List.setIfInBounds_toArray, List.set_cons_zero, List.set_cons_succ, i64_w, i32_w]
                        rfl
                      refine pure_ (i := 15) (N := some 57) (v := undef) (a' := ?_) #[true, true, true, true, true, true, true, true, true, true, true, true, true, true, true, true, false, false, false, false] rfl rfl (any_of HT_.out (by kernel_rfl)) (fun _ _ _ h => h) (Or.inr ⟨by rfl, rfl⟩) ?_ ?_
                      rotate_left
                      · simp only [Act.put, List.setIfInBounds_toArray, List.set_cons_zero, List.set_cons_succ, i64_w, i32_w]
                        rfl
                      refine pure_ (i := 16) (N := some 58) (v := undef) (a' := ?_) #[true, true, true, true, true, true, true, true, true, true, true, true, true, true, true, true, true, false, false, false] rfl rfl (any_of HT_.out (by kernel_rfl)) (fun _ _ _ h => h) (Or.inr ⟨by rfl, rfl⟩) ?_ ?_
                      rotate_left
                      · simp only [Act.put, List.setIfInBounds_toArray, List.set_cons_zero, List.set_cons_succ, i64_w, i32_w]
                        rfl
                      refine pure_ (i := 17) (N := some 59) (v := undef) (a' := ?_) #[true, true, true, true, true, true, true, true, true, true, true, true, true, true, true, true, true, true, false, false] rfl rfl (any_of HT_.out (by kernel_rfl)) (fun _ _ _ h => h) (Or.inr ⟨by rfl, rfl⟩) ?_ ?_
                      rotate_left
                      · simp only [Act.put, List.setIfInBounds_toArray, List.set_cons_zero, List.set_cons_succ, i64_w, i32_w]
                        rfl
                      refine pure_ (i := 18) (N := some 60) (v := undef) (a' := ?_) #[true, true, true, true, true, true, true, true, true, true, true, true, true, true, true, true, true, true, true, false] rfl rfl (any_of HT_.out (by kernel_rfl)) (fun _ _ _ h => h) (Or.inr ⟨by rfl, rfl⟩) ?_ ?_
                      rotate_left
                      · simp only [Act.put, List.setIfInBounds_toArray, List.set_cons_zero, List.set_cons_succ, i64_w, i32_w]
                        rfl
                      refine pure_ (i := 19) (N := some 61) (v := ?_) (a' := ?_) #[true, true, true, true, true, true, true, true, true, true, true, true, true, true, true, true, true, true, true, true] rfl rfl (any_of HT_.out (by kernel_rfl)) (fun _ _ _ h => h) (Or.inl ⟨by rfl, ?_⟩) ?_ ?_
                      rotate_left
                      · intro w'
                        go_simp
                        with_reducible rfl
                      rotate_left
                      · simp only [Act.put, List.setIfInBounds_toArray, List.set_cons_zero, List.set_cons_succ, i64_w, i32_w]
                        rfl
                      refine done_ (done_of HT_.out (by kernel_rfl)) ?_
                      try go_wp2
                      go_ret2
                      exact ⟨by first | rfl | (simp [errW_none, errW_some] <;> rfl) | (simp only [← hji17]; first | rfl | (simp [errW_none, errW_some] <;> rfl)) | (simp [*, errW_none, errW_some] <;> rfl), by repeat (first | (with_reducible first | exact HB.out | apply below_alloc | apply pw_below_drewN | apply below_drew1) | exact HB.out)⟩
                  · rw [if_neg c23] at H
                    exact absurd H (by simp)
                · rw [if_neg c22] at H
                  exact absurd H (by simp)
            · rw [if_neg c19] at H
              exact absurd H (by simp)
          · rw [if_neg c18] at H
            exact absurd H (by simp)
        · replace c16 := Bool.eq_false_iff.mpr c16
          subst c16
          have H1 : (some (0, 0)) = some (r1, r2) := by rw [if_neg (show ¬ (false = true) by decide)] at H; exact H
          clear H
          have H := H1
          clear H1
          simp only [Option.some.injEq, Prod.mk.injEq] at H
          obtain ⟨rfl, rfl⟩ := H
          go_wp2_with (first | ((with_reducible refine gate_callee (f := 67) rfl ?_); refine goesL_ (some 25) rfl rfl Tryd.func67 (by kernel_rfl) rfl #[.string a0, .string (⟨#[38, 35]⟩ : ByteArray)] rfl (by (try simp only [List.map_toArray, List.map_cons, List.map_nil]); first | done | rfl | (simp only [List.length_drop, List.length_take]; rfl)) ?_; (with_reducible refine (strings_HasPrefix.calls a0 (⟨#[38, 35]⟩ : ByteArray) false _ ?side1 A15.out).mono ?_); (case side1 => first | exact HGL.out | exact (Go.Proofs.YtgdemingopcgaaaDoorX.GL.below HGL.out (by repeat (first | (with_reducible first | exact HB.out | apply below_alloc | apply pw_below_drewN | apply below_drew1) | exact HB.out))) | (repeat (first | exact HGL.out | (with_reducible refine Go.Proofs.YtgdemingopcgaaaDoorX.GL.drewN ?_ _) | (with_reducible refine Go.Proofs.YtgdemingopcgaaaDoorX.GL.drew ?_)))); rintro e w' ⟨rfl, ⟨nd, rfl⟩⟩; refine ⟨_, rfl, ?_⟩))
          go_ret2
          exact ⟨by first | rfl | (simp [errW_none, errW_some] <;> rfl) | (simp [*, errW_none, errW_some] <;> rfl), by repeat (first | (with_reducible first | exact HB.out | apply below_alloc | apply pw_below_drewN | apply below_drew1) | exact HB.out)⟩

end Go.Proofs.YtgdemingopcgaaaDoor.P03r

namespace Go.Proofs.YtgdemingopcgaaaDoor.L03
open Go Go.RowKit Go.Proofs.YtgdemingopcgaaaDoor.P03r Go.Proofs.YtgdemingopcgaaaDoorE Go.Proofs.YtgdemingopcgaaaDoorW.PrintWords Go.Proofs.YtgdemingopcgaaaDoorW.PrintLast Go.Proofs.YtgdemingopcgaaaDoorW.PrintMore
/-- The four signs. -/
def signs : List Nat := [38, 60, 62, 34]
def signOf (l : List UInt8) (k : Nat) : Option Nat := (signs.take k).find? fun c => Lib.hasPrefix l (formL c)
/-- The number of a form, and its length. -/
def numS (l : List UInt8) : Int × Int :=
  if Lib.indexByte (l.take 6) 59 < 0 then (0, 0) else
  match Lib.atoiAll ((l.drop 2).take ((Lib.indexByte (l.take 6) 59).toNat - 2)) with
  | .ok n => if 0 ≤ n ∧ n ≤ 127 ∧ formL n.toNat = l.take ((Lib.indexByte (l.take 6) 59).toNat + 1) then (n, Lib.indexByte (l.take 6) 59 + 1) else (0, 0)
  | _ => (0, 0)
/-- The byte that a form says with which a text begins, and how long that form is. -/
def refS (l : List UInt8) : Int × Int :=
  match signOf l 4 with
  | some c => ((c : Int), ((formL c).length : Int))
  | none => if Lib.hasPrefix l [38, 35] = true then numS l else (0, 0)
theorem signOf_succ (l : List UInt8) (k : Nat) (hk : k < 4) (h : signOf l k = none) : signOf l (k + 1) = if Lib.hasPrefix l (formL (signs[k]?.getD 0)) = true then some (signs[k]?.getD 0) else none := by
  unfold signOf at h ⊢
  have hl : k < signs.length := hk
  rw [List.take_succ_eq_append_getElem hl, List.find?_append, h, List.getElem?_eq_getElem hl]
  simp [List.find?_cons]
  split <;> simp_all
theorem signOf_hit (l : List UInt8) (k c : Nat) (h : signOf l k = some c) : signOf l 4 = some c := by
  unfold signOf at h ⊢
  rw [show signs.take 4 = signs.take k ++ signs.drop k by rw [List.take_append_drop]; rfl, List.find?_append, h]; rfl
theorem sign_le (k : Nat) : signs[k]?.getD 0 ≤ 255 := by
  match k with
  | 0 => decide
  | 1 => decide
  | 2 => decide
  | 3 => decide
  | k + 4 => simp [signs]
theorem ext_list (s : ByteArray) (i j : Nat) : (s.extract i j).data.toList = (s.data.toList.drop i).take (j - i) := by
  rw [ByteArray.data_extract, Array.toList_extract]
theorem dlen (s : ByteArray) : s.data.toList.length = s.size := by rw [Array.length_toList]; rfl
theorem index_cases : ∀ (l : List UInt8) (c : UInt8), Lib.indexByte l c = -1 ∨ (0 ≤ Lib.indexByte l c ∧ Lib.indexByte l c < l.length)
  | [], c => .inl rfl
  | b :: t, c => by
    have ih := index_cases t c
    unfold Lib.indexByte
    by_cases h : (b == c) = true
    · rw [if_pos h, List.length_cons]; right; omega
    · rw [if_neg h]
      rcases ih with e | ⟨h0, h1⟩
      · rw [e]; left; rfl
      · rw [if_neg (by rw [beq_iff_eq]; omega), List.length_cons]; right; omega
theorem index_num (l : List UInt8) (hp : Lib.hasPrefix l [38, 35] = true) : Lib.indexByte (l.take 6) 59 < 0 ∨ (2 ≤ Lib.indexByte (l.take 6) 59 ∧ Lib.indexByte (l.take 6) 59 < 6 ∧ Lib.indexByte (l.take 6) 59 < l.length) := by
  unfold Lib.hasPrefix at hp
  match l, hp with
  | [], hp => simp [List.isPrefixOf] at hp
  | [a], hp => simp [List.isPrefixOf] at hp
  | a :: b :: t, hp =>
    simp only [List.isPrefixOf, Bool.and_eq_true, beq_iff_eq] at hp
    obtain ⟨rfl, rfl, -⟩ := hp
    have h := index_cases (t.take 4) 59
    have e : Lib.indexByte ((38 :: 35 :: t).take 6) 59 = if Lib.indexByte (t.take 4) 59 = -1 then -1 else Lib.indexByte (t.take 4) 59 + 2 := by
      simp only [List.take_succ_cons, Lib.indexByte]
      split <;> simp_all
      omega
    rw [e]
    rcases h with h | ⟨h0, h1⟩
    · rw [if_pos h]; left; decide
    · rw [if_neg (by omega)]
      rw [List.length_take] at h1
      simp only [List.length_cons]
      right; omega
theorem w64 {n : Int} (h0 : -9223372036854775808 ≤ n) (h1 : n ≤ 9223372036854775807) : wrap64 n = n := by unfold wrap64; omega
theorem tl (s : ByteArray) : s.toList = s.data.toList := ByteArray.toList_eq s
theorem hasPrefix_f (s t : ByteArray) : strings_HasPrefix.f s t = some (Lib.hasPrefix s.data.toList t.data.toList) := by
  have h1 := dlen s
  have h2 := dlen t
  unfold strings_HasPrefix.f stringslite_HasPrefix.f Lib.hasPrefix
  by_cases h : (s.size : Int) ≥ (t.size : Int)
  · rw [if_pos h, if_pos (by omega), if_pos (by omega), Option.bind_some, tl, tl, ext_list, List.drop_zero, Nat.sub_zero, Int.toNat_natCast]
    congr 1
    rw [Bool.eq_iff_iff, beq_iff_eq, List.isPrefixOf_iff_prefix, List.prefix_iff_eq_take, h2]
    exact eq_comm
  · rw [if_neg h, Option.bind_some]
    congr 1
    symm
    rw [Bool.eq_false_iff, ne_eq, List.isPrefixOf_iff_prefix]
    intro hp
    have := hp.length_le
    omega
theorem form_f (n : Nat) (h : n ≤ 255) : escape_form.f (n : Int) = some ⟨(formL n).toArray⟩ := by
  unfold escape_form.f
  rw [if_pos (by omega), Int.toNat_natCast]
theorem sizeL (l : List UInt8) : (⟨l.toArray⟩ : ByteArray).size = l.length := by simp [ByteArray.size]
theorem ref_step (s : ByteArray) (j : Nat) (hj : j < 4) (k : Nat) :
    escape_reference.l0 (k + 1) s [38, 60, 62, 34] 4 (j : Int) = if Lib.hasPrefix s.data.toList (formL (signs[j]?.getD 0)) = true then some (((signs[j]?.getD 0 : Nat) : Int), ((formL (signs[j]?.getD 0)).length : Int)) else escape_reference.l0 k s [38, 60, 62, 34] 4 ((j + 1 : Nat) : Int) := by
  have e : rd [38, 60, 62, 34] (j : Int) = ((signs[j]?.getD 0 : Nat) : Int) := by
    match j, hj with
    | 0, _ => rfl
    | 1, _ => rfl
    | 2, _ => rfl
    | 3, _ => rfl
  have hc := sign_le j
  have ew : wrap64 ((j : Int) + 1) = ((j + 1 : Nat) : Int) := by rw [w64 (by omega) (by omega)]; omega
  simp only [escape_reference.l0]
  rw [if_pos (by omega), if_pos (by omega), if_pos (by simp; omega), e, form_f _ hc, Option.bind_some, hasPrefix_f, Option.bind_some, Option.bind_some, sizeL, ew]
theorem reference_f (s : ByteArray) (hs : s.size ≤ 1000000000000) (k : Nat) : escape_reference.f (k + 5) s = some (refS s.data.toList) := by
  have hL := dlen s
  have key : ∀ d j : Nat, j + d = 4 → signOf s.data.toList j = none → escape_reference.l0 (k + d + 1) s [38, 60, 62, 34] 4 (j : Int) = some (refS s.data.toList) := by
    intro d
    induction d with
    | zero =>
      intro j hj hn
      obtain rfl : j = 4 := by omega
      simp only [escape_reference.l0]
      rw [if_neg (by decide), hasPrefix_f, Option.bind_some]
      unfold refS
      rw [hn]
      by_cases hp : Lib.hasPrefix s.data.toList [38, 35] = true
      · rw [if_pos hp, if_pos hp]
        have hix := index_num _ hp
        have hm : ((mn (s.size : Int) 6) : Int) = ((min s.size 6 : Nat) : Int) := by unfold mn; split <;> omega
        have E6 : (s.extract 0 (min s.size 6)).data.toList = s.data.toList.take 6 := by
          rw [ext_list, List.drop_zero, Nat.sub_zero]
          by_cases h6 : s.size ≤ 6
          · rw [List.take_of_length_le (by omega), List.take_of_length_le (by omega)]
          · congr 1; omega
        rw [hm, if_pos (by omega), if_pos (by omega), Int.toNat_natCast]
        unfold strings_IndexByte.f
        rw [E6, Option.bind_some, show ((59 : Int).toNat.toUInt8) = 59 from rfl]
        unfold numS
        generalize Lib.indexByte (List.take 6 s.data.toList) 59 = x at hix ⊢
        by_cases hx : x < 0
        · rw [if_pos hx, if_pos hx]
        · rw [if_neg hx, if_neg hx, if_pos (by omega), if_pos (by omega)]
          obtain ⟨m, rfl⟩ := Int.eq_ofNat_of_zero_le (show 0 ≤ x by omega)
          have h9 := dlen (s.extract 2 m)
          rw [ext_list, List.length_take, List.length_drop] at h9
          unfold strconv_Atoi.f
          rw [Int.toNat_natCast, if_pos (by omega), Option.bind_some, ext_list]
          unfold atoiS
          cases hq : Lib.atoiAll ((s.data.toList.drop 2).take (m - 2)) with
          | ok n =>
            simp only
            rw [if_pos (by rfl)]
            by_cases n0 : n < 0
            · rw [if_pos n0, if_neg (by omega)]
            · rw [if_neg n0]
              by_cases n1 : n > 127
              · rw [if_pos n1, if_neg (by omega)]
              · obtain ⟨c, rfl⟩ := Int.eq_ofNat_of_zero_le (show 0 ≤ n by omega)
                have ew : wrap64 ((m : Int) + 1) = ((m + 1 : Nat) : Int) := by rw [w64 (by omega) (by omega)]; omega
                rw [if_neg n1, show (c : Int) % 256 = (c : Int) by omega, form_f _ (by omega), Option.bind_some, ew, if_pos (by omega), if_pos (by omega), tl, tl, Int.toNat_natCast, ext_list, List.drop_zero, Nat.sub_zero, Int.toNat_natCast]
                by_cases he : formL c = s.data.toList.take (m + 1)
                · rw [if_pos (by simpa using he), if_pos ⟨by omega, by omega, he⟩]; rfl
                · rw [if_neg (by simpa using he), if_neg (fun h => he h.2.2)]
          | range => rfl
          | _ => rfl
      · rw [if_neg hp, if_neg hp]
    | succ d ih =>
      intro j hj hn
      have hs2 := signOf_succ s.data.toList j (by omega) hn
      rw [ref_step s j (by omega)]
      by_cases hp : Lib.hasPrefix s.data.toList (formL (signs[j]?.getD 0)) = true
      · rw [if_pos hp]
        rw [if_pos hp] at hs2
        unfold refS
        rw [signOf_hit _ _ _ hs2]
      · rw [if_neg hp]
        rw [if_neg hp] at hs2
        exact ih (j + 1) (by omega) hs2
  unfold escape_reference.f
  rw [Option.bind_some]
  exact key 4 0 rfl rfl
end Go.Proofs.YtgdemingopcgaaaDoor.L03

namespace Go.Proofs.YtgdemingopcgaaaDoorE
open Go Go.RowKit Go.Proofs.YtgdemingopcgaaaDoorW.PrintWords Go.Proofs.YtgdemingopcgaaaDoorW.PrintLast Go.Proofs.YtgdemingopcgaaaDoorW.PrintMore Go.Proofs.YtgdemingopcgaaaDoorX Go.Proofs.YtgdemingopcgaaaDoor.P26 Go.Proofs.YtgdemingopcgaaaDoor.M02 Go.Proofs.YtgdemingopcgaaaDoor.L03
set_option linter.unusedVariables false
set_option linter.unusedSimpArgs false
theorem bt_at (s : ByteArray) (i : Nat) (h : i < s.data.toList.length) : bt s (i : Int) = ((s.data.toList[i]'h).toNat : Int) := by
  have hs : i < s.size := by rw [← dlen]; exact h
  unfold bt
  rw [dif_pos (by simpa using hs)]
  simp only [Int.toNat_natCast]
  rfl
def sgn : List UInt8 := [60, 62, 34]
end Go.Proofs.YtgdemingopcgaaaDoorE

namespace Go.Proofs.YtgdemingopcgaaaDoorE
open Go Go.RowKit Go.Proofs.YtgdemingopcgaaaDoor.P03r Go.Proofs.YtgdemingopcgaaaDoor.L03 Go.Proofs.YtgdemingopcgaaaDoorW.PrintWords Go.Proofs.YtgdemingopcgaaaDoorX
set_option linter.unusedVariables false
/-- The next byte of a written text, and how much of the text it takes; 0: refused. -/
def stepU : List UInt8 → UInt8 × Nat
  | [] => (0, 0)
  | c :: t => if c.toNat = 38 then ((refS (c :: t)).1.toNat.toUInt8, (refS (c :: t)).2.toNat) else if formL c.toNat = [] then (c, 1) else (c, 0)
def unS (l : List UInt8) (pos : Nat) (out : List UInt8) : List UInt8 × Int × Int :=
  match l with
  | [] => (out, 0, 0)
  | c :: t => if (stepU (c :: t)).2 = 0 then ([], (pos : Int), 2) else unS ((c :: t).drop (stepU (c :: t)).2) (pos + (stepU (c :: t)).2) (out ++ [(stepU (c :: t)).1])
termination_by l.length
decreasing_by simp; omega
theorem unS_nil (pos : Nat) (out : List UInt8) : unS [] pos out = (out, 0, 0) := by rw [unS]
theorem unS_cons (l : List UInt8) (h : l ≠ []) (pos : Nat) (out : List UInt8) : unS l pos out = if (stepU l).2 = 0 then ([], (pos : Int), 2) else unS (l.drop (stepU l).2) (pos + (stepU l).2) (out ++ [(stepU l).1]) := by
  obtain ⟨c, t, rfl⟩ := List.exists_cons_of_ne_nil h
  rw [unS]
theorem refS_range (l : List UInt8) : 0 ≤ (refS l).1 ∧ (refS l).1 ≤ 255 ∧ 0 ≤ (refS l).2 ∧ (refS l).2 ≤ l.length := by
  unfold refS
  split
  · rename_i c hc
    have h1 := List.find?_some hc
    have h2 := List.mem_of_find?_eq_some hc
    have h3 : c ≤ 255 := by
      have := List.mem_of_mem_take h2
      simp [signs] at this
      omega
    have h4 : (formL c).length ≤ l.length := (List.isPrefixOf_iff_prefix.1 h1).length_le
    simp only
    omega
  · split
    · rename_i hp
      have hix := index_num _ hp
      unfold numS
      split
      · simp only; omega
      · split
        · split
          · simp only; omega
          · simp only; omega
        · simp only; omega
    · simp only; omega
def escape_Unescape.f (a0 : ByteArray) : Option (ByteArray × Int × Int) := if a0.size ≤ 1000000000000 then some (⟨(unS a0.data.toList 0 []).1.toArray⟩, (unS a0.data.toList 0 []).2.1, (unS a0.data.toList 0 []).2.2) else none
theorem ref_any (s : ByteArray) (hs : s.size ≤ 1000000000000) (w : World) (hgl : GL w) :
    Calls Tryd.prog 56 #[.string s] w fun e w' => e = .returned (.tuple #[.int .u8 (refS s.data.toList).1, .int .i64 (refS s.data.toList).2]) ∧ Below w.heap.size w w' :=
  escape_reference.calls (0 + 5) s _ _ w hgl (reference_f s hs 0)
set_option maxHeartbeats 1000000 in
theorem escape_Unescape.calls (a0 : ByteArray) (r1 : ByteArray) (r2 r3 : Int) (w : World) (hgl : GL w) (h : escape_Unescape.f a0 = some (r1, r2, r3)) :
    Calls Tryd.prog 46 #[.string a0] w fun e w' => e = .returned (.tuple #[.string r1, .int .i64 r2, .int .i64 r3]) ∧ Below w.heap.size w w' := by
  unfold escape_Unescape.f at h
  by_cases hr : a0.size ≤ 1000000000000
  rotate_left
  · rw [if_neg hr] at h; cases h
  rw [if_pos hr] at h
  simp only [Option.some.injEq, Prod.mk.injEq] at h
  obtain ⟨rfl, rfl, rfl⟩ := h
  have HGL := Aside0.mk hgl
  have HR := Aside0.mk hr
  clear hr hgl
  have H0 := Aside0.mk (Lib.IsBuilderF.of (Lib.fresh_isBuilder 86 5 w))
  have HB0 := Aside0.mk ((Below.refl w.heap.size w).alloc (Nat.le_refl _) (.cells #[.pointer none, .slice none 0 0] 86))
  go_enter Tryd.func46, Tryd.ntmps46
  go_wp2_with fail
  go_loopw [6] (fun i wr => ∃ (k : Nat) (out : List UInt8), k ≤ a0.size ∧ i = .int .i64 k ∧ Lib.IsBuilderF 86 5 w.heap.size w.heap.size (Lib.byteCells out) wr ∧ Below w.heap.size w wr ∧ out.length ≤ k ∧ unS (a0.data.toList.drop k) k out = unS a0.data.toList 0 []) (fun i _ => a0.size - (intOf i).toNat)
  case atStart => exact ⟨0, [], Nat.zero_le _, rfl, H0.out, HB0.out, Nat.le_refl _, rfl⟩
  case round =>
    obtain ⟨k, out, hk, rfl, hib, hbl, hol, hun⟩ := hrel
    have HI := Aside0.mk hib
    have HBL := Aside0.mk hbl
    have HO := Aside0.mk hol
    have HU := Aside0.mk hun
    have hr := HR.out
    clear hib hbl hol hun
    go_wp2_with fail
    · have hlt : k < a0.size := by assumption
      have h38 : ((a0[k].toNat : Int) == 38) = true := by assumption
      have hne : a0.data.toList.drop k ≠ [] := by
        intro h; have := congrArg List.length h; rw [List.length_drop, dlen, List.length_nil] at this; omega
      have hcx : a0[k] = a0.data.toList[k]'(by rw [dlen]; exact hlt) := by simp [ByteArray.getElem_eq_getElem_data]
      have hst : stepU (a0.data.toList.drop k) = ((refS (a0.data.toList.drop k)).1.toNat.toUInt8, (refS (a0.data.toList.drop k)).2.toNat) := by
        rw [List.drop_eq_getElem_cons (by rw [dlen]; exact hlt)]
        simp only [stepU]
        rw [if_pos (by rw [← hcx]; rw [beq_iff_eq] at h38; omega)]
      have hun := HU.out
      rw [unS_cons _ hne, hst] at hun
      have hrr := refS_range (a0.data.toList.drop k)
      have HC := ref_any (a0.extract k a0.size)
      have hxs := dlen (a0.extract k a0.size)
      have hx : (a0.extract k a0.size).data.toList = a0.data.toList.drop k := by
        rw [ext_list, List.take_of_length_le (by rw [List.length_drop, dlen]; omega)]
      rw [hx, List.length_drop, dlen] at hxs
      rw [hx] at HC
      rw [List.length_drop, dlen] at hrr
      generalize refS (a0.data.toList.drop k) = rr at hun hrr HC
      obtain ⟨b, n⟩ := rr
      obtain ⟨b0, b1, n0, n1⟩ := hrr
      simp only at hun b0 b1 n0 n1 HC
      obtain ⟨b, rfl⟩ := Int.eq_ofNat_of_zero_le b0
      obtain ⟨n, rfl⟩ := Int.eq_ofNat_of_zero_le n0
      have HUN := Aside0.mk hun
      refine (HC (by omega) wr (HGL.out.below HBL.out)).mono ?_
      rintro e w1 ⟨rfl, hb⟩
      have HB1 := Aside0.mk hb
      clear hb hun hst hx hxs HC
      have hsz : w.heap.size ≤ w1.heap.size := Nat.le_trans HBL.out.size HB1.out.size
      have IB1 := Aside0.mk (b_below HI.out HB1.out)
      have BB1 := Aside0.mk (below_step HBL.out HB1.out)
      go_wp2_with fail
      · have hn : ((n : Int) == 0) = true := by assumption
        have hu := HUN.out
        rw [if_pos (by rw [beq_iff_eq] at hn; simpa using hn)] at hu
        go_ret3
        refine ⟨?_, BB1.out⟩
        rw [← hu]
        rfl
      · have hn : ((n : Int) == 0) = false := by assumption
        have hn2 : n ≠ 0 := by rw [beq_eq_false_iff_ne] at hn; omega
        have hu := HUN.out
        rw [if_neg (by simpa using hn2)] at hu
        have HU2 := Aside0.mk hu
        clear hu HUN
        have hb8 : ((b : Int).toNat.toUInt8).toNat = b := by simp; omega
        rw [show (b : Int) = (((b : Int).toNat.toUInt8).toNat : Int) by rw [hb8]]
        refine (b_byte w.heap.size w.heap.size out ((b : Int).toNat.toUInt8) w1 IB1.out (by have := HO.out; have := HR.out; omega) hsz).mono ?_
        rintro e w2 ⟨rfl, hib2, hb2, -⟩
        have H2 := Aside0.mk hib2
        have B2 := Aside0.mk (BB1.out.trans hb2)
        clear hib2 hb2
        have hno : (k : Int) + n ≤ 1000000000000 := by omega
        go_wp2_with fail
        go_roundw
        case rel =>
          refine ⟨k + n, out ++ [(b : Int).toNat.toUInt8], by omega, by go_num, H2.out, B2.out, by have := HO.out; rw [List.length_append, List.length_singleton]; omega, ?_⟩
          have := HU2.out
          rw [List.drop_drop] at this
          exact this
        case measure => simp [intOf]; omega
    · have hlt : k < a0.size := by assumption
      have h38 : ((a0[k].toNat : Int) == 38) = false := by assumption
      have hne : a0.data.toList.drop k ≠ [] := by
        intro h; have := congrArg List.length h; rw [List.length_drop, dlen, List.length_nil] at this; omega
      have hcx : a0[k] = a0.data.toList[k]'(by rw [dlen]; exact hlt) := by simp [ByteArray.getElem_eq_getElem_data]
      have hst : stepU (a0.data.toList.drop k) = if formL a0[k].toNat = [] then (a0[k], 1) else (a0[k], 0) := by
        rw [List.drop_eq_getElem_cons (by rw [dlen]; exact hlt)]
        simp only [stepU]
        rw [if_neg (by rw [← hcx]; rw [beq_eq_false_iff_ne] at h38; omega), ← hcx]
      have hun := HU.out
      rw [unS_cons _ hne, hst] at hun
      clear hst hcx h38
      have HUN := Aside0.mk hun
      clear hun
      generalize hck : a0[k] = c at HUN ⊢
      have HK := Aside0.mk hck
      clear hck
      have hc := UInt8.toNat_lt c
      refine (escape_form.calls _ _ wr (HGL.out.below HBL.out) (form_f c.toNat (by omega))).mono ?_
      rintro e w1 ⟨rfl, hb⟩
      have HB1 := Aside0.mk hb
      clear hb
      have hsz : w.heap.size ≤ w1.heap.size := Nat.le_trans HBL.out.size HB1.out.size
      have IB1 := Aside0.mk (b_below HI.out HB1.out)
      have BB1 := Aside0.mk (below_step HBL.out HB1.out)
      go_wp2_with fail
      · have hh : (!(formL c.toNat).isEmpty) = true := by assumption
        have hf0 : ¬ formL c.toNat = [] := by simpa using hh
        have hu := HUN.out
        first
          | rw [HK.out, if_neg hf0, if_pos rfl] at hu
          | rw [if_neg hf0, if_pos rfl] at hu
        go_ret3
        refine ⟨?_, BB1.out⟩
        rw [← hu]
        rfl
      · have hh : (!(formL c.toNat).isEmpty) = false := by assumption
        have hf0 : formL c.toNat = [] := by simpa using hh
        have hu := HUN.out
        first
          | rw [HK.out, if_pos hf0, if_neg (show ¬ (1 : Nat) = 0 by decide)] at hu
          | rw [if_pos hf0, if_neg (show ¬ (1 : Nat) = 0 by decide)] at hu
        have HU2 := Aside0.mk hu
        clear hu HUN hf0
        refine (b_byte w.heap.size w.heap.size out c w1 IB1.out (by have := HO.out; have := HR.out; omega) hsz).mono ?_
        rintro e w2 ⟨rfl, hib2, hb2, -⟩
        have H2 := Aside0.mk hib2
        have B2 := Aside0.mk (BB1.out.trans hb2)
        clear hib2 hb2
        go_wp2_with fail
        go_roundw
        case rel =>
          refine ⟨k + 1, out ++ [c], by omega, by go_num, H2.out, B2.out, by have := HO.out; rw [List.length_append, List.length_singleton]; omega, ?_⟩
          have := HU2.out
          rw [List.drop_drop] at this
          exact this
        case measure => simp [intOf]; omega
    · have hge : ¬ k < a0.size := by assumption
      have hu := HU.out
      rw [List.drop_eq_nil_of_le (by rw [dlen]; omega), unS_nil] at hu
      refine (Tryd.Builder_String_any_f w.heap.size w.heap.size _ wr HI.out HBL.out.size).mono ?_
      rintro e w1 ⟨rfl, -, hb⟩
      have HB1 := Aside0.mk (HBL.out.trans hb)
      clear hb
      go_wp2_with fail
      go_ret3
      refine ⟨?_, HB1.out⟩
      rw [← hu]
      rfl
end Go.Proofs.YtgdemingopcgaaaDoorE

namespace Go.Proofs.YtgdemingopcgaaaDoorE
open Go Go.RowKit Go.Proofs.YtgdemingopcgaaaDoorW.PrintWords Go.Proofs.YtgdemingopcgaaaDoorX Go.Proofs.YtgdemingopcgaaaDoor.P26
set_option linter.unusedVariables false
set_option linter.unusedSimpArgs false
/-- The parts of a line, at the blanks that stand in no quotes. -/
def cutL : List UInt8 → Bool → List UInt8 → List (List UInt8)
  | [], _, cur => [cur]
  | c :: l, q, cur => if c = 34 then cutL l (!q) (cur ++ [c]) else if c = 32 ∧ q = false then cur :: cutL l q [] else cutL l q (cur ++ [c])
/-- How the quotes stand behind a part; none: a blank stands outside. -/
def okP : List UInt8 → Bool → Option Bool
  | [], q => some q
  | c :: l, q => if c = 34 then okP l (!q) else if c = 32 ∧ q = false then none else okP l q
theorem cutL_ok : ∀ (p l : List UInt8) (q q' : Bool) (cur : List UInt8), okP p q = some q' → cutL (p ++ l) q cur = cutL l q' (cur ++ p)
  | [], l, q, q', cur, h => by
    injection h with h
    rw [List.nil_append, List.append_nil, h]
  | c :: p, l, q, q', cur, h => by
    rw [okP] at h
    rw [List.cons_append, cutL]
    split at h
    · next hc =>
      rw [if_pos hc, cutL_ok p l (!q) q' _ h, List.append_assoc]
      rfl
    · next hc =>
      rw [if_neg hc]
      split at h
      · cases h
      · next h2 =>
        rw [if_neg h2, cutL_ok p l q q' _ h, List.append_assoc]
        rfl
theorem okP_append : ∀ (a b : List UInt8) (q : Bool), okP (a ++ b) q = (okP a q).bind (okP b)
  | [], b, q => rfl
  | c :: a, b, q => by
    rw [List.cons_append, okP, okP]
    split
    · exact okP_append a b _
    · split
      · rfl
      · exact okP_append a b _
theorem okP_plain (q : Bool) : ∀ (l : List UInt8), (∀ c ∈ l, c ≠ 34 ∧ (c ≠ 32 ∨ q = true)) → okP l q = some q
  | [], _ => rfl
  | c :: l, h => by
    obtain ⟨h1, h2⟩ := h c (List.mem_cons_self ..)
    rw [okP, if_neg h1, if_neg (by rintro ⟨h3, h4⟩; rcases h2 with h2 | h2; exact h2 h3; rw [h4] at h2; cases h2)]
    exact okP_plain q l (fun d hd => h d (List.mem_cons_of_mem _ hd))
theorem cutL_parts : ∀ (ps : List (List UInt8)) (cur : List UInt8), (∀ p ∈ ps, okP p false = some false) → cutL (ps.flatMap (fun p => 32 :: p)) false cur = cur :: ps
  | [], cur, _ => rfl
  | p :: ps, cur, h => by
    rw [List.flatMap_cons, List.cons_append, cutL, if_neg (by decide), if_pos ⟨rfl, rfl⟩, cutL_ok p _ false false [] (h p (List.mem_cons_self ..)), List.nil_append, cutL_parts ps p (fun d hd => h d (List.mem_cons_of_mem _ hd))]
theorem cutL_line (w : List UInt8) (ps : List (List UInt8)) (hw : okP w false = some false) (h : ∀ p ∈ ps, okP p false = some false) : cutL (w ++ ps.flatMap (fun p => 32 :: p)) false [] = w :: ps := by
  rw [cutL_ok w _ false false [] hw, List.nil_append, cutL_parts ps w h]
theorem cutL_len : ∀ (l : List UInt8) (q : Bool) (cur : List UInt8), (cutL l q cur).length ≤ l.length + 1
  | [], _, _ => Nat.le_refl _
  | c :: l, q, cur => by
    rw [cutL]
    split
    · have := cutL_len l (!q) (cur ++ [c]); rw [List.length_cons]; omega
    · split
      · have := cutL_len l q []; rw [List.length_cons, List.length_cons]; omega
      · have := cutL_len l q (cur ++ [c]); rw [List.length_cons]; omega
def mkB (l : List UInt8) : ByteArray := ⟨l.toArray⟩
def cutB (s : ByteArray) : List ByteArray := (cutL s.data.toList false []).map mkB
theorem mkB_list (l : List UInt8) : (mkB l).data.toList = l := rfl
theorem mkB_of (s : ByteArray) : mkB s.data.toList = s := rfl
theorem putS_list : ∀ (l : List ByteArray) (o : ByteArray), (putS o l).data.toList = o.data.toList ++ (l.map (fun s => s.data.toList)).flatMap (fun p => 32 :: p)
  | [], o => by simp [putS]
  | s :: l, o => by
    rw [putS, putS_list l, ByteArray.data_append, ByteArray.data_append]
    simp
theorem cutB_put (w : ByteArray) (ps : List ByteArray) (hw : okP w.data.toList false = some false) (h : ∀ p ∈ ps, okP p.data.toList false = some false) : cutB (putS w ps) = w :: ps := by
  unfold cutB
  rw [putS_list, cutL_line _ _ hw (by
    intro p hp
    obtain ⟨s, hs, rfl⟩ := List.mem_map.1 hp
    exact h s hs), List.map_cons, List.map_map]
  show mkB w.data.toList :: _ = _
  rw [mkB_of]
  congr 1
  exact List.map_id'' (fun s => mkB_of s) ps

abbrev StO := List ByteArray × Bool
def nxtO (s : StO) : ByteArray × StO := match s.1 with
  | [] => (em, [], true)
  | x :: l => (x, l, s.2)
def hdlO (s : StO) : Int × StO := ((wholeS (nxtO s).1.data.toList).1, (nxtO s).2.1, (nxtO s).2.2 || !(wholeS (nxtO s).1.data.toList).2)
/-- What a quoted part says; true: it says nothing. -/
def sdO (t : ByteArray) : ByteArray × Bool :=
  if t.data.toList.length < 2 ∨ t.data.toList.head? ≠ some 34 ∨ t.data.toList.getLast? ≠ some 34 then (em, true) else
  (mkB (unS ((t.data.toList.drop 1).take (t.data.toList.length - 2)) 0 []).1, decide ((unS ((t.data.toList.drop 1).take (t.data.toList.length - 2)) 0 []).2.2 ≠ 0))
def nsdO (s : StO) : ByteArray × StO := ((sdO (nxtO s).1).1, (nxtO s).2.1, (nxtO s).2.2 || (sdO (nxtO s).1).2)
/-- At the first sign of equality. -/
def eqO (t : ByteArray) : ByteArray × ByteArray × Bool :=
  if t.data.toList.findIdx (· = 61) < t.data.toList.length then (mkB (t.data.toList.take (t.data.toList.findIdx (· = 61))), mkB (t.data.toList.drop (t.data.toList.findIdx (· = 61) + 1)), true) else (t, em, false)
def prO (s : StO) : S51 × StO := (⟨(eqO (nxtO s).1).1, (sdO (eqO (nxtO s).1).2.1).1⟩, (nxtO s).2.1, ((nxtO s).2.2 || !(eqO (nxtO s).1).2.2) || (sdO (eqO (nxtO s).1).2.1).2)
def prsO : List ByteArray → Bool → List S51 × Bool
  | [], b => ([], b)
  | p :: l, b => ((prO ([p], b)).1 :: (prsO l (prO ([p], b)).2.2).1, (prsO l (prO ([p], b)).2.2).2)
end Go.Proofs.YtgdemingopcgaaaDoorE

namespace Go.Proofs.YtgdemingopcgaaaDoorE
open Go Go.RowKit Go.Proofs.YtgdemingopcgaaaDoorW.PrintWords Go.Proofs.YtgdemingopcgaaaDoorX Go.Proofs.YtgdemingopcgaaaDoor.P26
set_option linter.unusedVariables false
set_option linter.unusedSimpArgs false
/-- A row that holds something lies in a block. -/
theorem R_some {α : Type} {d : Kd α} {e base n : Nat} {w : World} {ok : Nat → Prop} {v : Value} {xs : List α} (h : d.R e w base ok v xs) (hn : xs.length = n + 1) : ∃ g c, v = .slice (some ⟨g, 0, none⟩) (n + 1) c := by
  obtain ⟨inner, ho⟩ := Kd.R_own h
  rcases ho.2 with ⟨rfl, h0⟩ | ⟨g, cap, cur, rfl, _⟩
  · omega
  · exact ⟨g, cap, by rw [hn]⟩
theorem F_of_R {α : Type} {d : Kd α} {e base n c : Nat} {w : World} {ok : Nat → Prop} {A : Option Addr} {xs : List α} (h : d.R e w base ok (.slice A n c) xs) : Kd.F d w (fun k => ok k ∧ base ≤ k ∧ k < w.heap.size) A xs.length xs := fun W' hm => by
  have h2 := Kd.R_move (ok := fun k => ok k ∧ base ≤ k ∧ k < w.heap.size) (Kd.R_mono (Kd.R_bound h) (fun k hk => ⟨hk.1, hk.2.1, hk.2.2.1⟩)) (fun k hk => hm k hk hk.2.2)
  obtain ⟨A1, c1, he, _, hC⟩ := Kd.R_reads h2
  injection he with e1 _ _
  rw [e1]
  exact hC
theorem info_str : (Tryd.prog.info? 9).map (fun i => (i.zero, i.size, i.bytes)) = some (some (.string ⟨#[]⟩), 1, 16) := by kernel_rfl
theorem lit_C (W : World) (xs : List ByteArray) (h : xs.length ≤ 9223372036854775807) : Kd.string.C (W.alloc (.cells (xs.map Value.string).toArray 9)) (some ⟨W.heap.size, 0, none⟩) xs.length xs :=
  (Kd.R_reads' (Kd.R_of_own (enc := Value.string) (h1 := fun _ => rfl) (ok := fun _ => True) (own_lit_of W 0 9 xs (Nat.zero_le _) h) (fun _ _ => trivial))).2.2
/-- In the midst of cut. -/
def InvC (s : ByteArray) (w : World) (k fr : Nat) (b : Bool) (done : List ByteArray) (v : Value) (wr : World) : Prop :=
  done.length ≤ k ∧ cutL s.data.toList false [] = done.map (fun t => t.data.toList) ++ cutL (s.data.toList.drop k) b ((s.data.toList.take k).drop fr) ∧ Kd.string.R 9 wr w.heap.size (fun _ => True) v (done ++ [em]) ∧ Below w.heap.size w wr
theorem ext_sub (s : ByteArray) (a b : Nat) : (s.extract a b).data.toList = (s.data.toList.take b).drop a := by
  simp [ByteArray.data_extract, List.extract_eq_take_drop, List.drop_take]
theorem take_drop_snoc (l : List UInt8) (k fr : Nat) (h : k < l.length) (hf : fr ≤ k) : (l.take (k + 1)).drop fr = (l.take k).drop fr ++ [l[k]] := by
  rw [List.take_succ_eq_append_getElem h, List.drop_append_of_le_length (by rw [List.length_take]; omega)]
set_option maxHeartbeats 4000000 in
set_option maxRecDepth 100000 in
theorem cut_c (s : ByteArray) (hs : s.size ≤ 1000000000000) (w : World) :
    Calls Tryd.prog 25 #[.string s] w fun e w' => (∃ v, e = .returned v ∧ Kd.string.R 9 w' w.heap.size (fun _ => True) v (cutB s)) ∧ Below w.heap.size w w' := by
  have HS := Aside0.mk hs
  have H0 : Aside0 (InvC s w 0 0 false [] (.slice (some ⟨w.heap.size, 0, none⟩) 1 1) (w.alloc (.cells #[.string ⟨#[]⟩] 9))) := ⟨Nat.zero_le _, by simp, Kd.R_of_own (own_lit_of w w.heap.size 9 [em] (Nat.le_refl _) (by decide)) (fun _ _ => trivial), below_alloc (Below.refl _ _) _⟩
  clear hs
  go_enter Tryd.func25, Tryd.ntmps25
  go_wp2_with fail
  go_loopw [3, 4, 5, 10] (fun v q f i wr => ∃ (k fr : Nat) (b : Bool) (done : List ByteArray), k ≤ s.size ∧ fr ≤ k ∧ i = .int .i64 k ∧ f = .int .i64 fr ∧ q = .bool b ∧ Aside0 (InvC s w k fr b done v wr)) (fun _ _ _ i _ => s.size - (intOf i).toNat)
  case atStart => exact ⟨0, 0, false, [], Nat.zero_le _, Nat.le_refl _, rfl, rfl, rfl, H0⟩
  case round =>
    obtain ⟨k, fr, b, done, hk, hf, rfl, rfl, rfl, HI⟩ := hrel
    have hs := HS.out
    obtain ⟨hd, hc, hR, hB⟩ := HI.out
    obtain ⟨g, c, rfl⟩ := R_some (n := done.length) hR (by simp)
    by_cases hlt : k < s.size
    · have hll : k < s.data.toList.length := by rw [Array.length_toList]; exact hlt
      have hcx : s[k] = s.data.toList[k] := by simp [ByteArray.getElem_eq_getElem_data]
      have hdc := List.drop_eq_getElem_cons hll
      have htk := take_drop_snoc s.data.toList k fr hll hf
      rw [hdc, cutL, ← htk, ← hcx] at hc
      clear hdc htk
      by_cases h34 : s[k] = 34
      · have hb34 : ((s[k].toNat : Int) == 34) = true := by rw [h34]; rfl
        have hb32 : ((s[k].toNat : Int) == 32) = false := by rw [h34]; rfl
        rw [if_pos h34] at hc
        have HC := Aside0.mk hc
        have HR := Aside0.mk hR
        clear hc hR HI h34 hcx
        go_wp2_with fail
        exact ⟨⟨k + 1, fr, !b, done, by omega, by omega, by go_num, rfl, rfl, ⟨by omega, HC.out, HR.out, hB⟩⟩, by simp [intOf]; omega⟩
      · have hb34 : ((s[k].toNat : Int) == 34) = false := by
          rw [beq_eq_false_iff_ne]
          intro e
          have e2 : s[k].toNat = 34 := by omega
          exact h34 (UInt8.toNat_inj.1 e2)
        rw [if_neg h34] at hc
        by_cases h32 : s[k] = 32
        · have hb32 : ((s[k].toNat : Int) == 32) = true := by rw [h32]; rfl
          cases b with
          | true =>
            rw [if_neg (by simp)] at hc
            have HC := Aside0.mk hc
            have HR := Aside0.mk hR
            clear hc hR HI h34 h32 hcx
            go_wp2_with fail
            exact ⟨⟨k + 1, fr, true, done, by omega, by omega, by go_num, rfl, rfl, ⟨by omega, HC.out, HR.out, hB⟩⟩, by simp [intOf]; omega⟩
          | false =>
            rw [if_pos ⟨h32, rfl⟩] at hc
            have HC := Aside0.mk hc
            have HR := Aside0.mk hR
            have HB := Aside0.mk hB
            obtain ⟨q1, q2⟩ := Kd.R_celln em hR (done.length : Int) (by omega) (by omega)
            rw [Int.toNat_natCast] at q1 q2
            have hR2 := Kd.R_putn hR (done.length : Int) (s.extract fr k)
            rw [Int.toNat_natCast] at hR2
            have HR2 := Aside0.mk hR2
            have hw : wrap64 (done.length : Int) = (done.length : Int) := by unfold wrap64; omega
            clear hc hR HI h34 h32 hcx hB hR2
            have hB1 : Below w.heap.size w ((wr.setCell ⟨g, done.length, none⟩ (.string (s.extract fr k))).alloc (.cells #[.string ⟨#[]⟩] 9)) := below_alloc (HB.out.setCell (by have := Kd.R_base HR.out g (by simp [Value.ownBlock]); exact this) _) _
            have HB1 := Aside0.mk hB1
            have HR3 := Aside0.mk (Kd.R_below HR2.out (below_alloc (Below.refl _ _) (.cells #[.string ⟨#[]⟩] 9)))
            have HE := Aside0.mk (show (done ++ [em]).set done.length (s.extract fr k) = done ++ [s.extract fr k] by simp)
            rw [HE.out] at HR3
            have hlc := lit_C (wr.setCell ⟨g, done.length, none⟩ (.string (s.extract fr k))) [em] (by decide)
            rw [show (wr.setCell ⟨g, done.length, none⟩ (.string (s.extract fr k))).heap.size = wr.heap.size by simp [World.setCell]] at hlc
            have HLC := Aside0.mk hlc
            clear hlc
            clear hB1
            go_wp2_with (at_builtin; refine Kd.R_append_row (w0 := w) Value.string em (h1 := fun _ => rfl) w.heap.size rfl _ _ 56 9 (.string ⟨#[]⟩) 16 rfl Tryd.underlying56 info_str rfl (by decide) _ (done ++ [s.extract fr k]) [em] _ 1 1 (fun _ => True) rfl rfl (fun _ _ => trivial) HR3.out HLC.out HB1.out ?hbase ?hl ?hk; (case hbase => exact HB1.out.size); (case hl => rw [List.length_append]; show (done.length + 1 + 1) * 16 ≤ _; omega); intro v1 w1 hR1 hb1 hg1 hat1; have HR4 := Aside0.mk hR1; have HB4 := Aside0.mk hb1; clear hR1 hb1 hg1 hat1)
            refine ⟨⟨k + 1, k + 1, false, done ++ [s.extract fr k], by omega, by omega, by go_num, by go_num, rfl, ⟨?_, ?_, HR4.out, HB4.out⟩⟩, by simp [intOf]; omega⟩
            · rw [List.length_append]; show done.length + 1 ≤ _; omega
            · have e0 : (s.data.toList.take (k + 1)).drop (k + 1) = [] := List.drop_of_length_le (by rw [List.length_take]; omega)
              rw [HC.out, List.map_append, List.append_assoc, e0]
              simp only [List.map_cons, List.map_nil, ext_sub]
              rfl
        · have hb32 : ((s[k].toNat : Int) == 32) = false := by
            rw [beq_eq_false_iff_ne]
            intro e
            have e2 : s[k].toNat = 32 := by omega
            exact h32 (UInt8.toNat_inj.1 e2)
          rw [if_neg (fun e => h32 e.1)] at hc
          have HC := Aside0.mk hc
          have HR := Aside0.mk hR
          clear hc hR HI h34 h32 hcx
          go_wp2_with fail
          exact ⟨⟨k + 1, fr, b, done, by omega, by omega, by go_num, rfl, rfl, ⟨by omega, HC.out, HR.out, hB⟩⟩, by simp [intOf]; omega⟩
    · obtain rfl : k = s.size := by omega
      have hdl : s.data.toList.length = s.size := by rw [Array.length_toList]; rfl
      rw [List.drop_of_length_le (by omega), cutL, List.take_of_length_le (by omega)] at hc
      have HC := Aside0.mk hc
      have HR := Aside0.mk hR
      have HB := Aside0.mk hB
      obtain ⟨q1, q2⟩ := Kd.R_celln em hR (done.length : Int) (by omega) (by omega)
      rw [Int.toNat_natCast] at q1 q2
      have hR2 := Kd.R_putn hR (done.length : Int) (s.extract fr s.size)
      rw [Int.toNat_natCast] at hR2
      rw [show (done ++ [em]).set done.length (s.extract fr s.size) = done ++ [s.extract fr s.size] by simp] at hR2
      have HR2 := Aside0.mk hR2
      have hw : wrap64 (done.length : Int) = (done.length : Int) := by unfold wrap64; omega
      clear hc hR HI hB hR2
      go_wp2_with fail
      go_ret
      refine ⟨⟨_, rfl, ?_⟩, HB.out.setCell (by have := Kd.R_base HR.out g (by simp [Value.ownBlock]); exact this) _⟩
      have e : cutB s = done ++ [s.extract fr s.size] := by
        unfold cutB
        rw [HC.out, List.map_append, List.map_map]
        congr 1
        · exact List.map_id'' (fun t => mkB_of t) done
        · rw [List.map_cons, List.map_nil, show s.data.toList.drop fr = (s.extract fr s.size).data.toList by rw [ext_sub, List.take_of_length_le (by omega)], mkB_of]
      rw [e]
      exact HR2.out
end Go.Proofs.YtgdemingopcgaaaDoorE

namespace Go.Proofs.YtgdemingopcgaaaDoorE
open Go Go.RowKit Go.Proofs.YtgdemingopcgaaaDoorW.PrintWords Go.Proofs.YtgdemingopcgaaaDoorX Go.Proofs.YtgdemingopcgaaaDoor.P26
set_option linter.unusedVariables false
set_option linter.unusedSimpArgs false
/-- All but the blocks of S stay as they are. -/
structure But (S : Nat → Prop) (w w' : World) : Prop where
  os : w'.os = w.os
  tape : w'.tape = w.tape
  output : w'.output = w.output
  size : w.heap.size ≤ w'.heap.size
  block : ∀ k, k < w.heap.size → ¬ S k → w'.heap[k]? = w.heap[k]?
namespace But
variable {S S2 : Nat → Prop} {w w1 w2 : World}
theorem refl (S : Nat → Prop) (w : World) : But S w w := ⟨rfl, rfl, rfl, Nat.le_refl _, fun _ _ _ => rfl⟩
theorem mono (h : But S w w1) (hs : ∀ k, S k → S2 k) : But S2 w w1 := ⟨h.os, h.tape, h.output, h.size, fun k hk hn => h.block k hk (fun x => hn (hs k x))⟩
theorem trans (h : But S w w1) (k : But S2 w1 w2) (hs : ∀ k, S2 k → S k ∨ w.heap.size ≤ k) : But S w w2 :=
  ⟨k.os.trans h.os, k.tape.trans h.tape, k.output.trans h.output, Nat.le_trans h.size k.size, fun i hi hn => (k.block i (Nat.lt_of_lt_of_le hi h.size) (fun x => (hs i x).elim hn (fun y => absurd hi (by omega)))).trans (h.block i hi hn)⟩
theorem then_ (h : But S w w1) (k : But S w1 w2) : But S w w2 := h.trans k (fun _ => .inl)
theorem below (h : But S w w1) (k : Below w1.heap.size w1 w2) : But S w w2 :=
  ⟨k.os.trans h.os, k.tape.trans h.tape, k.output.trans h.output, Nat.le_trans h.size k.size, fun i hi hn => (k.block i (Nat.lt_of_lt_of_le hi h.size)).trans (h.block i hi hn)⟩
theorem of_below (k : Below w.heap.size w w1) : But S w w1 := (refl S w).below k
theorem drawn (h : But S w w1) (k : Drawn0 w1 w2) : But S w w2 := by
  obtain ⟨n, rfl⟩ := k.out
  exact h.below (pw_below_drewN (Below.refl _ _) n)
theorem setCell (h : But S w w1) {p : Addr} (hp : S p.block ∨ w.heap.size ≤ p.block) (u : Value) : But S w (w1.setCell p u) :=
  ⟨h.os, h.tape, h.output, by simpa [World.setCell] using h.size, fun k hk hn => (Below.heap_setCell w1 p u k (fun e => hp.elim (fun x => hn (e ▸ x)) (fun x => absurd hk (by omega)))).trans (h.block k hk hn)⟩
theorem put_self {p : Nat} (h : But (· = p) w w1) (j : Nat) (u : Value) : But (· = p) w (w1.setCell ⟨p, j, none⟩ u) := h.setCell (.inl rfl) u
end But
theorem blk_lt' {w : World} {g : Nat} {o : Obj} (h : w.heap[g]? = some o) : g < w.heap.size := (Array.getElem?_eq_some_iff.1 h).1
theorem set_blk {w : World} {p j : Nat} {cs : Array Value} {T : TypeId} {fz : Nat × Nat} (h : w.heap[p]? = some (.cells cs T fz)) (v : Value) : (w.setCell ⟨p, j, none⟩ v).heap[p]? = some (.cells (cs.setIfInBounds j v) T fz) := by
  simp [World.setCell, Array.getElem?_modify, h]
theorem far {ok : Nat → Prop} {p : Nat} (h : ¬ ok p) : ∀ k, ok k → k ≠ p := fun k hk e => h (by rw [← e]; exact hk)
/-- A reader at p: the parts that are left, and whether one was wrong. -/
def AtO (p : Nat) (ok : Nat → Prop) (s : StO) (w : World) : Prop :=
  ¬ ok p ∧ ∃ A c, w.heap[p]? = some (.cells #[.slice A s.1.length c, .bool s.2] 59 (0, 0)) ∧ s.1.length ≤ c ∧ Kd.F Kd.string w ok A s.1.length s.1
theorem AtO.but {p : Nat} {ok S : Nat → Prop} {s : StO} {w w' : World} (h : AtO p ok s w) (hb : But S w w') (hs : ∀ k, S k → k ≠ p ∧ ¬ ok k) : AtO p ok s w' := by
  obtain ⟨h1, A, c, hp, hc, hf⟩ := h
  exact ⟨h1, A, c, (hb.block p (blk_lt' hp) (fun x => (hs p x).1 rfl)).trans hp, hc, Kd.F_step hf (fun k hk hlt => hb.block k hlt (fun x => (hs k x).2 hk))⟩
theorem AtO.below {p : Nat} {ok : Nat → Prop} {s : StO} {w w' : World} (h : AtO p ok s w) (hb : Below w.heap.size w w') : AtO p ok s w' := h.but ((But.refl (fun _ => False) w).below hb) (fun _ h => h.elim)
theorem AtO.lt {p : Nat} {ok : Nat → Prop} {s : StO} {w : World} (h : AtO p ok s w) : p < w.heap.size := by
  obtain ⟨-, A, c, hp, -⟩ := h
  exact blk_lt' hp
theorem AtO.flag {p : Nat} {ok : Nat → Prop} {s : StO} {w : World} (h : AtO p ok s w) (b : Bool) : AtO p ok (s.1, b) (w.setCell ⟨p, 1, none⟩ (.bool b)) := by
  obtain ⟨h1, A, c, hp, hc, hf⟩ := h
  exact ⟨h1, A, c, set_blk hp _, hc, Kd.F_far hf (far h1) _⟩
theorem AtO.bad {p : Nat} {ok : Nat → Prop} {s : StO} {w : World} (h : AtO p ok s w) : w.cell? ⟨p, 1, none⟩ = some (.bool s.2) ∧ w.frozen? ⟨p, 1, none⟩ = false := by
  obtain ⟨h1, A, c, hp, hc, hf⟩ := h
  exact ⟨by rw [Lib.cell_of_heap hp]; rfl, Lib.frozen_of_heap hp 1⟩
set_option maxHeartbeats 1000000 in
theorem next_c (p : Nat) (ok : Nat → Prop) (s : StO) (w : World) (h : AtO p ok s w) :
    Calls Tryd.prog 27 #[.pointer (some ⟨p, 0, none⟩)] w fun e w' => e = .returned (.string (nxtO s).1) ∧ AtO p ok (nxtO s).2 w' ∧ But (· = p) w w' := by
  have H := Aside0.mk h
  obtain ⟨l, b⟩ := s
  obtain ⟨h1, A, c, hp, hc, hf⟩ := h
  simp only at hp hc hf
  have c0 : w.cell? ⟨p, 0, none⟩ = some (.slice A l.length c) := by rw [Lib.cell_of_heap hp]; rfl
  have c1 : w.cell? ⟨p, 1, none⟩ = some (.bool b) := by rw [Lib.cell_of_heap hp]; rfl
  have f0 : w.frozen? ⟨p, 0, none⟩ = false := Lib.frozen_of_heap hp 0
  have f1 : w.frozen? ⟨p, 1, none⟩ = false := Lib.frozen_of_heap hp 1
  cases l with
  | nil =>
    have HP := Aside0.mk hp
    clear h1 hf hp
    go_enter Tryd.func27, Tryd.ntmps27
    go_wp2_with fail
    go_ret
    exact ⟨rfl, H.out.flag true, (But.refl _ w).put_self _ _⟩
  | cons x l =>
    have HF := Aside0.mk hf
    have HP := Aside0.mk hp
    have HN := Aside0.mk h1
    obtain ⟨ad, rfl, h0⟩ := Kd.at_string (Kd.F_now hf) 0 (by omega) (by simp only [List.length_cons]; omega)
    have h0' : w.cell? ad = some (.string x) := by rw [show ((0 : Int).toNat) = 0 from rfl, Addr.add_zero'] at h0; exact h0
    clear h0
    have hF := Kd.F_cut (m := 1) (c := c) hf (by simp) hc
    have HF2 := Aside0.mk hF
    rw [List.length_cons] at c0 hc
    clear h1 hf hp hF
    go_enter Tryd.func27, Tryd.ntmps27
    go_wp2_with fail
    · rename_i h
      subst h
      go_ret
      have hF := HF2.out
      rw [if_pos rfl] at hF
      exact ⟨rfl, ⟨HN.out, _, _, set_blk HP.out _, by simp only [nxtO]; omega, Kd.F_far hF (far HN.out) _⟩, (But.refl _ w).put_self _ _⟩
    · rename_i h
      go_ret
      have hF := HF2.out
      rw [if_neg h] at hF
      exact ⟨rfl, ⟨HN.out, _, _, set_blk HP.out _, by simp only [nxtO]; omega, Kd.F_far hF (far HN.out) _⟩, (But.refl _ w).put_self _ _⟩
theorem nxt_mem {s : StO} {N : Nat} (h : ∀ x ∈ s.1, x.size ≤ N) : (nxtO s).1.size ≤ N ∧ ∀ x ∈ (nxtO s).2.1, x.size ≤ N := by
  obtain ⟨l, b⟩ := s
  cases l with
  | nil => exact ⟨Nat.zero_le _, fun x hx => absurd hx (by simp [nxtO])⟩
  | cons y l => exact ⟨h y (List.mem_cons_self ..), fun x hx => h x (List.mem_cons_of_mem _ hx)⟩
set_option maxHeartbeats 1000000 in
theorem handle_O (p : Nat) (ok : Nat → Prop) (s : StO) (hz : ∀ x ∈ s.1, x.size ≤ 1000000000000) (w : World) (hgl : GL w) (hpg : ∀ W, But (· = p) w W → GL W) (h : AtO p ok s w) :
    Calls Tryd.prog 30 #[.pointer (some ⟨p, 0, none⟩)] w fun e w' => e = .returned (.int .i64 (hdlO s).1) ∧ AtO p ok (hdlO s).2 w' ∧ But (· = p) w w' := by
  have HN := Aside0.mk (next_c p ok s w h)
  have hx := (nxt_mem hz).1
  have HW : ∀ W, GL W → Calls Tryd.prog 48 #[.string (nxtO s).1] W fun e w' => e = .returned (.tuple #[.int .i64 (wholeS (nxtO s).1.data.toList).1, .bool (wholeS (nxtO s).1.data.toList).2]) ∧ Below W.heap.size W w' := fun W hW =>
    chars_Whole.calls _ _ _ W hW (by unfold chars_Whole.f; rw [if_pos (by omega)])
  unfold hdlO
  generalize nxtO s = E at *
  obtain ⟨x, l1, b1⟩ := E
  simp only at HN HW hx ⊢
  generalize wholeS x.data.toList = E at *
  obtain ⟨n, o⟩ := E
  simp only at HW ⊢
  have HWA := Aside0.mk HW
  have HG := Aside0.mk hpg
  clear h hz hgl hpg HW hx
  cases b1 <;> cases o <;> (
    go_enter Tryd.func30, Tryd.ntmps30
    go_wp2_with fail
    refine (HN.out).mono ?_
    rintro e w1 ⟨rfl, ha, hb⟩
    have HA := Aside0.mk ha
    have HB := Aside0.mk hb
    clear ha hb
    go_wp2_with fail
    refine (HWA.out _ (HG.out _ HB.out)).mono ?_
    rintro e w2 ⟨rfl, hb⟩
    have HB2 := Aside0.mk (HB.out.below hb)
    have HA2 := Aside0.mk (HA.out.below hb)
    obtain ⟨q1, q2⟩ := HA2.out.bad
    clear hb
    go_wp2_with fail
    go_ret
    exact ⟨rfl, HA2.out.flag _, HB2.out.put_self _ _⟩)
end Go.Proofs.YtgdemingopcgaaaDoorE

namespace Go.Proofs.YtgdemingopcgaaaDoor.M02
open Go Go.RowKit Go.Proofs.YtgdemingopcgaaaDoor.P26 Go.Proofs.YtgdemingopcgaaaDoorE Go.Proofs.YtgdemingopcgaaaDoorW.PrintWords Go.Proofs.YtgdemingopcgaaaDoorW.PrintLast Go.Proofs.YtgdemingopcgaaaDoorW.PrintMore

theorem dd_lt {m : Nat} (h : m < 10) : Lib.decDigits m = [UInt8.ofNat (48 + m)] := by rw [Lib.decDigits, dif_pos h]
theorem dd_ge {m : Nat} (h : 10 ≤ m) : Lib.decDigits m = Lib.decDigits (m / 10) ++ [UInt8.ofNat (48 + m % 10)] := by rw [Lib.decDigits, dif_neg (by omega)]
theorem dig_nat {d : Nat} (h : d < 10) : (UInt8.ofNat (48 + d)).toNat = 48 + d := by simp; omega
theorem dd_digit : ∀ (m : Nat), ∀ c ∈ Lib.decDigits m, 48 ≤ c.toNat ∧ c.toNat ≤ 57 := by
  intro m
  induction m using Nat.strongRecOn with
  | _ m ih =>
    intro c hc
    by_cases h : m < 10
    · rw [dd_lt h, List.mem_singleton] at hc
      rw [hc, dig_nat h]; omega
    · rw [dd_ge (by omega)] at hc
      rcases List.mem_append.1 hc with h1 | h1
      · exact ih (m / 10) (by omega) c h1
      · rw [List.mem_singleton] at h1
        rw [h1, dig_nat (by omega)]; omega
theorem dd_ne (m : Nat) : Lib.decDigits m ≠ [] := by
  by_cases h : m < 10
  · rw [dd_lt h]; simp
  · rw [dd_ge (by omega)]; simp
theorem parse_dd (m : Nat) : ∀ (rest : List UInt8), m < 18446744073709551616 → Lib.parseUint10 0 (Lib.decDigits m ++ rest) = Lib.parseUint10 m rest := by
  induction m using Nat.strongRecOn with
  | _ m ih =>
    intro rest hm
    by_cases h : m < 10
    · rw [dd_lt h, List.singleton_append]
      simp only [Lib.parseUint10, dig_nat h]
      rw [if_pos (by omega), if_neg (by omega), if_neg (by omega)]
      congr 1; omega
    · rw [dd_ge (by omega), List.append_assoc, ih (m / 10) (by omega) _ (by omega), List.singleton_append]
      simp only [Lib.parseUint10, dig_nat (show m % 10 < 10 by omega)]
      rw [if_pos (by omega), if_neg (by omega), if_neg (by omega)]
      congr 1; omega
theorem atoi_itoa {n : Int} (h0 : -9223372036854775808 ≤ n) (h1 : n ≤ 9223372036854775807) : Lib.atoiAll (Lib.itoa n) = .ok n := by
  have pm : ∀ m : Nat, m < 18446744073709551616 → Lib.parseMag (Lib.decDigits m) = .ok m := by
    intro m hm
    unfold Lib.parseMag
    rw [if_neg (dd_ne m)]
    have := parse_dd m [] hm
    rw [List.append_nil] at this
    rw [this]; rfl
  unfold Lib.itoa
  by_cases hn : n < 0
  · rw [if_pos hn]
    unfold Lib.atoiAll
    simp only
    rw [if_pos (by decide), pm n.natAbs (by omega)]
    simp only
    have h45 : (45 : UInt8).toNat = 45 := rfl
    rw [if_neg (by rw [h45]; simp), if_neg (by omega), if_pos (by rw [h45])]
    congr 1; omega
  · rw [if_neg hn]
    obtain ⟨c, r, e⟩ := List.exists_cons_of_ne_nil (dd_ne n.toNat)
    have hc := dd_digit n.toNat c (by rw [e]; exact List.mem_cons_self ..)
    have hp := pm n.toNat (by omega)
    rw [e] at hp ⊢
    unfold Lib.atoiAll
    simp only
    rw [if_neg (by omega), hp]
    simp only
    rw [if_neg (by omega), if_neg (by omega), if_neg (by omega)]
    congr 1; omega
theorem whole_itoa {n : Int} (h0 : -9223372036854775808 ≤ n) (h1 : n ≤ 9223372036854775807) : wholeS (Lib.itoa n) = (n, true) := by
  unfold wholeS; rw [atoi_itoa h0 h1]; simp

end Go.Proofs.YtgdemingopcgaaaDoor.M02

namespace Go.Proofs.YtgdemingopcgaaaDoorE
open Go Go.RowKit Go.Proofs.YtgdemingopcgaaaDoorW.PrintWords Go.Proofs.YtgdemingopcgaaaDoorW.PrintLast Go.Proofs.YtgdemingopcgaaaDoorW.PrintMore Go.Proofs.YtgdemingopcgaaaDoorX Go.Proofs.YtgdemingopcgaaaDoor.P26 Go.Proofs.YtgdemingopcgaaaDoor.M02 Go.Proofs.YtgdemingopcgaaaDoor.L03
set_option linter.unusedVariables false
set_option linter.unusedSimpArgs false
theorem Ev.pos {α : Type} {c : Prop} [Decidable c] {f g : Nat → Option α} {r : α} (h : c) (k : Ev f r) : Ev (fun n => if c then f n else g n) r := Ev.congr (fun n => if_pos h) k
theorem Ev.neg {α : Type} {c : Prop} [Decidable c] {f g : Nat → Option α} {r : α} (h : ¬ c) (k : Ev g r) : Ev (fun n => if c then f n else g n) r := Ev.congr (fun n => if_neg h) k
theorem Ev.is {α : Type} {a r : α} (h : a = r) : Ev (fun _ => some a) r := h ▸ Ev.now a
end Go.Proofs.YtgdemingopcgaaaDoorE

namespace Go.Proofs.YtgdemingopcgaaaDoor.K03
open Go Go.RowKit Go.Proofs.YtgdemingopcgaaaDoorE Go.Proofs.YtgdemingopcgaaaDoor.L03 Go.Proofs.YtgdemingopcgaaaDoorW.PrintWords Go.Proofs.YtgdemingopcgaaaDoorW.PrintLast Go.Proofs.YtgdemingopcgaaaDoorW.PrintMore
theorem ref_form (c : Nat) (hc : c = 38 ∨ c = 60 ∨ c = 62 ∨ c = 34 ∨ c = 127 ∨ c < 32) (rest : List UInt8) : refS (formL c ++ rest) = ((c : Int), ((formL c).length : Int)) := by
  have h : c = 0 ∨ c = 1 ∨ c = 2 ∨ c = 3 ∨ c = 4 ∨ c = 5 ∨ c = 6 ∨ c = 7 ∨ c = 8 ∨ c = 9 ∨ c = 10 ∨ c = 11 ∨ c = 12 ∨ c = 13 ∨ c = 14 ∨ c = 15 ∨ c = 16 ∨ c = 17 ∨ c = 18 ∨ c = 19 ∨ c = 20 ∨ c = 21 ∨ c = 22 ∨ c = 23 ∨ c = 24 ∨ c = 25 ∨ c = 26 ∨ c = 27 ∨ c = 28 ∨ c = 29 ∨ c = 30 ∨ c = 31 ∨ c = 34 ∨ c = 38 ∨ c = 60 ∨ c = 62 ∨ c = 127 := by omega
  rcases h with rfl | rfl | rfl | rfl | rfl | rfl | rfl | rfl | rfl | rfl | rfl | rfl | rfl | rfl | rfl | rfl | rfl | rfl | rfl | rfl | rfl | rfl | rfl | rfl | rfl | rfl | rfl | rfl | rfl | rfl | rfl | rfl | rfl | rfl | rfl | rfl | rfl
  · have h : refS (formL 0 ++ rest) = (((0 : Nat) : Int), ((formL 0).length : Int)) := by kernel_rfl
    exact h
  · have h : refS (formL 1 ++ rest) = (((1 : Nat) : Int), ((formL 1).length : Int)) := by kernel_rfl
    exact h
  · have h : refS (formL 2 ++ rest) = (((2 : Nat) : Int), ((formL 2).length : Int)) := by kernel_rfl
    exact h
  · have h : refS (formL 3 ++ rest) = (((3 : Nat) : Int), ((formL 3).length : Int)) := by kernel_rfl
    exact h
  · have h : refS (formL 4 ++ rest) = (((4 : Nat) : Int), ((formL 4).length : Int)) := by kernel_rfl
    exact h
  · have h : refS (formL 5 ++ rest) = (((5 : Nat) : Int), ((formL 5).length : Int)) := by kernel_rfl
    exact h
  · have h : refS (formL 6 ++ rest) = (((6 : Nat) : Int), ((formL 6).length : Int)) := by kernel_rfl
    exact h
  · have h : refS (formL 7 ++ rest) = (((7 : Nat) : Int), ((formL 7).length : Int)) := by kernel_rfl
    exact h
  · have h : refS (formL 8 ++ rest) = (((8 : Nat) : Int), ((formL 8).length : Int)) := by kernel_rfl
    exact h
  · have h : refS (formL 9 ++ rest) = (((9 : Nat) : Int), ((formL 9).length : Int)) := by kernel_rfl
    exact h
  · have h : refS (formL 10 ++ rest) = (((10 : Nat) : Int), ((formL 10).length : Int)) := by kernel_rfl
    exact h
  · have h : refS (formL 11 ++ rest) = (((11 : Nat) : Int), ((formL 11).length : Int)) := by kernel_rfl
    exact h
  · have h : refS (formL 12 ++ rest) = (((12 : Nat) : Int), ((formL 12).length : Int)) := by kernel_rfl
    exact h
  · have h : refS (formL 13 ++ rest) = (((13 : Nat) : Int), ((formL 13).length : Int)) := by kernel_rfl
    exact h
  · have h : refS (formL 14 ++ rest) = (((14 : Nat) : Int), ((formL 14).length : Int)) := by kernel_rfl
    exact h
  · have h : refS (formL 15 ++ rest) = (((15 : Nat) : Int), ((formL 15).length : Int)) := by kernel_rfl
    exact h
  · have h : refS (formL 16 ++ rest) = (((16 : Nat) : Int), ((formL 16).length : Int)) := by kernel_rfl
    exact h
  · have h : refS (formL 17 ++ rest) = (((17 : Nat) : Int), ((formL 17).length : Int)) := by kernel_rfl
    exact h
  · have h : refS (formL 18 ++ rest) = (((18 : Nat) : Int), ((formL 18).length : Int)) := by kernel_rfl
    exact h
  · have h : refS (formL 19 ++ rest) = (((19 : Nat) : Int), ((formL 19).length : Int)) := by kernel_rfl
    exact h
  · have h : refS (formL 20 ++ rest) = (((20 : Nat) : Int), ((formL 20).length : Int)) := by kernel_rfl
    exact h
  · have h : refS (formL 21 ++ rest) = (((21 : Nat) : Int), ((formL 21).length : Int)) := by kernel_rfl
    exact h
  · have h : refS (formL 22 ++ rest) = (((22 : Nat) : Int), ((formL 22).length : Int)) := by kernel_rfl
    exact h
  · have h : refS (formL 23 ++ rest) = (((23 : Nat) : Int), ((formL 23).length : Int)) := by kernel_rfl
    exact h
  · have h : refS (formL 24 ++ rest) = (((24 : Nat) : Int), ((formL 24).length : Int)) := by kernel_rfl
    exact h
  · have h : refS (formL 25 ++ rest) = (((25 : Nat) : Int), ((formL 25).length : Int)) := by kernel_rfl
    exact h
  · have h : refS (formL 26 ++ rest) = (((26 : Nat) : Int), ((formL 26).length : Int)) := by kernel_rfl
    exact h
  · have h : refS (formL 27 ++ rest) = (((27 : Nat) : Int), ((formL 27).length : Int)) := by kernel_rfl
    exact h
  · have h : refS (formL 28 ++ rest) = (((28 : Nat) : Int), ((formL 28).length : Int)) := by kernel_rfl
    exact h
  · have h : refS (formL 29 ++ rest) = (((29 : Nat) : Int), ((formL 29).length : Int)) := by kernel_rfl
    exact h
  · have h : refS (formL 30 ++ rest) = (((30 : Nat) : Int), ((formL 30).length : Int)) := by kernel_rfl
    exact h
  · have h : refS (formL 31 ++ rest) = (((31 : Nat) : Int), ((formL 31).length : Int)) := by kernel_rfl
    exact h
  · have h : refS (formL 34 ++ rest) = (((34 : Nat) : Int), ((formL 34).length : Int)) := by kernel_rfl
    exact h
  · have h : refS (formL 38 ++ rest) = (((38 : Nat) : Int), ((formL 38).length : Int)) := by kernel_rfl
    exact h
  · have h : refS (formL 60 ++ rest) = (((60 : Nat) : Int), ((formL 60).length : Int)) := by kernel_rfl
    exact h
  · have h : refS (formL 62 ++ rest) = (((62 : Nat) : Int), ((formL 62).length : Int)) := by kernel_rfl
    exact h
  · have h : refS (formL 127 ++ rest) = (((127 : Nat) : Int), ((formL 127).length : Int)) := by kernel_rfl
    exact h
theorem step_form (c : UInt8) (rest : List UInt8) : stepU (escB c ++ rest) = (c, (escB c).length) := by
  unfold escB
  by_cases hf : formL c.toNat = []
  · rw [if_pos hf]
    have hn : c.toNat ≠ 38 := by intro e; rw [e] at hf; exact absurd hf (by decide)
    simp only [List.cons_append, List.nil_append, stepU]
    rw [if_neg hn, if_pos hf]
    rfl
  · rw [if_neg hf]
    have hc : c.toNat = 38 ∨ c.toNat = 60 ∨ c.toNat = 62 ∨ c.toNat = 34 ∨ c.toNat = 127 ∨ c.toNat < 32 := by
      unfold formL at hf
      by_cases h1 : c.toNat = 38
      · exact .inl h1
      · rw [if_neg h1] at hf
        by_cases h2 : c.toNat = 60
        · exact .inr (.inl h2)
        · rw [if_neg h2] at hf
          by_cases h3 : c.toNat = 62
          · exact .inr (.inr (.inl h3))
          · rw [if_neg h3] at hf
            by_cases h4 : c.toNat = 34
            · exact .inr (.inr (.inr (.inl h4)))
            · rw [if_neg h4] at hf
              by_cases h5 : c.toNat = 127 ∨ c.toNat < 32
              · exact .inr (.inr (.inr (.inr h5)))
              · rw [if_neg h5] at hf
                exact absurd rfl hf
    have hr := ref_form c.toNat hc rest
    obtain ⟨t, ht⟩ : ∃ t, formL c.toNat = 38 :: t := by
      unfold formL
      rcases hc with h | h | h | h | h | h
      · rw [if_pos h]; exact ⟨_, rfl⟩
      · rw [if_neg (by omega), if_pos h]; exact ⟨_, rfl⟩
      · rw [if_neg (by omega), if_neg (by omega), if_pos h]; exact ⟨_, rfl⟩
      · rw [if_neg (by omega), if_neg (by omega), if_neg (by omega), if_pos h]; exact ⟨_, rfl⟩
      · rw [if_neg (by omega), if_neg (by omega), if_neg (by omega), if_neg (by omega), if_pos (.inl h)]; exact ⟨_, rfl⟩
      · rw [if_neg (by omega), if_neg (by omega), if_neg (by omega), if_neg (by omega), if_pos (.inr h)]; exact ⟨_, rfl⟩
    rw [ht] at hr ⊢
    simp only [List.cons_append, stepU]
    rw [List.cons_append] at hr
    rw [if_pos (by decide), hr]
    simp
/-- What is written is read, whatever follows. -/
theorem un_escS : ∀ (l : List UInt8) (pos : Nat) (out : List UInt8), unS (escS l) pos out = (out ++ l, 0, 0)
  | [], pos, out => by
    rw [show escS [] = [] from rfl, unS_nil, List.append_nil]
  | c :: t, pos, out => by
    have he : escS (c :: t) = escB c ++ escS t := by simp [escS]
    have hp : escB c ≠ [] := by
      unfold escB
      split
      · simp
      · assumption
    have hl : 0 < (escB c).length := List.length_pos_iff.2 hp
    rw [he, unS_cons _ (by intro e; exact hp (List.append_eq_nil_iff.1 e).1), step_form, if_neg (by simp only; omega)]
    simp only
    rw [List.drop_left, un_escS t]
    simp
def sgn : List UInt8 := [60, 62, 34]
theorem escB_clean : ∀ c : Fin 256, (escB (UInt8.ofNat c.val)).all (fun b => !sgn.contains b) = true := by decide +kernel
theorem escS_clean (l : List UInt8) : ∀ b ∈ escS l, sgn.contains b = false := by
  intro b hb
  obtain ⟨c, -, h⟩ := List.mem_flatMap.1 hb
  have := escB_clean ⟨c.toNat, c.toNat_lt⟩
  simp only [UInt8.ofNat_toNat] at this
  simpa using List.all_eq_true.1 this b h
end Go.Proofs.YtgdemingopcgaaaDoor.K03

namespace Go.Proofs.YtgdemingopcgaaaDoorE
open Go Go.RowKit Go.Proofs.YtgdemingopcgaaaDoorW.PrintWords Go.Proofs.YtgdemingopcgaaaDoorX Go.Proofs.YtgdemingopcgaaaDoor.P26 Go.Proofs.YtgdemingopcgaaaDoor.M02
set_option linter.unusedVariables false
set_option linter.unusedSimpArgs false
/-- Where a text stands in a list. -/
def idxN (l : List ByteArray) (v : ByteArray) : Nat := l.findIdx (fun a => v.data.toList == a.data.toList)
def idxS (l : List ByteArray) (v : ByteArray) : Int := if idxN l v < l.length then (idxN l v : Int) else -1
def kindW (v : ByteArray) : Int := if idxN wordL v < 8 then (idxN wordL v : Int) else 0
theorem kindW_range (v : ByteArray) : 0 ≤ kindW v ∧ kindW v ≤ 7 := by unfold kindW; split <;> omega
abbrev OpSt := S24 × StO
/-- The parts of a create, and the first part of the others. -/
def rdA (k : Int) (s : StO) : OpSt :=
  if k = 1 then (⟨1, 0, 0, 0, (nxtO s).1, (nsdO (nxtO s).2).1, em, (nsdO (nsdO (nxtO s).2).2).1, (prsO (nsdO (nsdO (nxtO s).2).2).2.1 (nsdO (nsdO (nxtO s).2).2).2.2).1⟩, [], (prsO (nsdO (nsdO (nxtO s).2).2).2.1 (nsdO (nsdO (nxtO s).2).2).2.2).2)
  else (⟨k, (hdlO s).1, 0, 0, em, em, em, em, []⟩, (hdlO s).2)
theorem rdA_ne {k : Int} (h : k ≠ 1) (s : StO) : rdA k s = (⟨k, (hdlO s).1, 0, 0, em, em, em, em, []⟩, (hdlO s).2) := if_neg h
def rdB (k : Int) (a : OpSt) : OpSt :=
  if k = 2 then (⟨a.1.f0, a.1.f1, (hdlO a.2).1, (hdlO (hdlO a.2).2).1, a.1.f4, a.1.f5, a.1.f6, a.1.f7, a.1.f8⟩, (hdlO (hdlO a.2).2).2)
  else if k = 3 then (⟨a.1.f0, a.1.f1, a.1.f2, (hdlO a.2).1, a.1.f4, a.1.f5, a.1.f6, a.1.f7, a.1.f8⟩, (hdlO a.2).2)
  else if k = 5 then (⟨a.1.f0, a.1.f1, a.1.f2, a.1.f3, a.1.f4, a.1.f5, (prO a.2).1.f0, (prO a.2).1.f1, a.1.f8⟩, (prO a.2).2)
  else if k = 6 then (⟨a.1.f0, a.1.f1, a.1.f2, a.1.f3, a.1.f4, a.1.f5, (nxtO a.2).1, a.1.f7, a.1.f8⟩, (nxtO a.2).2)
  else if k = 7 then (⟨a.1.f0, a.1.f1, a.1.f2, a.1.f3, a.1.f4, a.1.f5, a.1.f6, (nsdO a.2).1, a.1.f8⟩, (nsdO a.2).2)
  else a
def kindR (s : ByteArray) : Int := kindW (nxtO (cutB s, false)).1
def readX (s : ByteArray) : OpSt := rdB (kindR s) (rdA (kindR s) (nxtO (cutB s, false)).2)
def zOp : S24 := ⟨0, 0, 0, 0, em, em, em, em, []⟩
/-- What ops.Read answers. -/
def readS (s : ByteArray) : S24 × Int :=
  if kindR s = 0 ∨ (readX s).2.2 = true ∨ (readX s).2.1 ≠ [] ∨ chk (readX s).1 ≠ 0 ∨ lineB (readX s).1 ≠ s then (zOp, 2) else ((readX s).1, 0)

theorem name_ok (more : Bool) (s : ByteArray) (h : namedS more (B s) = true) : ∀ c ∈ s.data.toList, c ≠ 34 ∧ c ≠ 32 ∧ c ≠ 61 := by
  have e : ∀ c ∈ B s, okb more c = true := by
    unfold namedS at h
    split at h
    · cases h
    · next c t he =>
      simp only [Bool.and_eq_true] at h
      intro d hd
      rw [he] at hd
      exact List.all_eq_true.1 h.2 d hd
  have key : ∀ n : Fin 256, ∀ more : Bool, okb more (UInt8.ofNat n.val) = true → n.val ≠ 34 ∧ n.val ≠ 32 ∧ n.val ≠ 61 := by decide +kernel
  intro c hc
  have h1 := key ⟨c.toNat, c.toNat_lt⟩ more (by simpa using e c hc)
  refine ⟨?_, ?_, ?_⟩ <;> (rintro rfl; simp at h1)
theorem okP_name (more : Bool) (s : ByteArray) (h : namedS more (B s) = true) : okP s.data.toList false = some false :=
  okP_plain false _ (fun c hc => ⟨(name_ok more s h c hc).1, .inl (name_ok more s h c hc).2.1⟩)
theorem okP_quo (s : ByteArray) : okP (quoB s).data.toList false = some false := by
  have e : (quoB s).data.toList = 34 :: (escS s.data.toList ++ [34]) := by
    unfold quoB
    rw [ByteArray.data_append, ByteArray.data_append]
    simp [escT]
  rw [e, okP, if_pos rfl, okP_append, show (!false) = true from rfl, okP_plain _ _ (fun c hc => ⟨?_, .inr rfl⟩)]
  · rfl
  · rintro rfl
    have := Go.Proofs.YtgdemingopcgaaaDoor.K03.escS_clean s.data.toList 34 hc
    revert this
    decide
theorem okP_num (n : Int) : okP (itoaS n).data.toList false = some false := by
  refine okP_plain false _ (fun c hc => ?_)
  have h1 : (48 ≤ c.toNat ∧ c.toNat ≤ 57) ∨ c = 45 := by
    have hc' : c ∈ Lib.itoa n := hc
    unfold Lib.itoa at hc'
    split at hc'
    · rcases List.mem_cons.1 hc' with h | h
      · exact .inr h
      · exact .inl (dd_digit _ c h)
    · exact .inl (dd_digit _ c hc')
  refine ⟨?_, .inl ?_⟩ <;> (rintro rfl; rcases h1 with ⟨h1, h2⟩ | h1 <;> revert h1 <;> decide)
theorem sd_quo (s : ByteArray) : sdO (quoB s) = (s, false) := by
  have e : (quoB s).data.toList = 34 :: (escS s.data.toList ++ [34]) := by
    unfold quoB
    rw [ByteArray.data_append, ByteArray.data_append]
    simp [escT]
  unfold sdO
  have g : (34 :: (escS s.data.toList ++ [34])).getLast? = some 34 := by rw [← List.cons_append]; exact List.getLast?_concat ..
  rw [e, if_neg (by simp only [g]; simp)]
  have e2 : ((34 :: (escS s.data.toList ++ [34])).drop 1).take ((34 :: (escS s.data.toList ++ [34])).length - 2) = escS s.data.toList := by
    rw [List.drop_succ_cons, List.drop_zero, List.take_append_of_le_length (by simp), List.take_of_length_le (by simp)]
  rw [e2, Go.Proofs.YtgdemingopcgaaaDoor.K03.un_escS]
  rfl
theorem findIdx_app (a : List UInt8) (c : UInt8) (b : List UInt8) (p : UInt8 → Bool) (ha : ∀ x ∈ a, p x = false) (hc : p c = true) : (a ++ c :: b).findIdx p = a.length := by
  induction a with
  | nil => simp [List.findIdx_cons, hc]
  | cons x a ih =>
    rw [List.cons_append, List.findIdx_cons, ha x (List.mem_cons_self ..), ih (fun y hy => ha y (List.mem_cons_of_mem _ hy))]
    simp
theorem eq_attr (n v : ByteArray) (h : ∀ c ∈ n.data.toList, c ≠ 61) : eqO ((n ++ (⟨#[61]⟩ : ByteArray)) ++ v) = (n, v, true) := by
  have e : ((n ++ (⟨#[61]⟩ : ByteArray)) ++ v).data.toList = n.data.toList ++ 61 :: v.data.toList := by
    rw [ByteArray.data_append, ByteArray.data_append]
    simp
  unfold eqO
  rw [e, findIdx_app _ _ _ _ (fun x hx => by simpa using h x hx) (by simp), if_pos (by simp)]
  rw [List.take_left, show n.data.toList.length + 1 = (n.data.toList ++ [61]).length by simp, show n.data.toList ++ 61 :: v.data.toList = (n.data.toList ++ [61]) ++ v.data.toList by simp, List.drop_left]
  rfl
theorem hdl_num (n : Int) (h : i64 n) (l : List ByteArray) (b : Bool) : hdlO (itoaS n :: l, b) = (n, l, b) := by
  unfold hdlO nxtO
  simp only
  rw [show (itoaS n).data.toList = Lib.itoa n from rfl, whole_itoa h.1 h.2]
  simp
theorem nsd_quo (s : ByteArray) (l : List ByteArray) (b : Bool) : nsdO (quoB s :: l, b) = (s, l, b) := by
  unfold nsdO nxtO
  simp only
  rw [sd_quo]
  simp
theorem pr_attr (a : S51) (h : namedS true (B a.f0) = true) (l : List ByteArray) (b : Bool) : prO (attrP a :: l, b) = (a, l, b) := by
  unfold prO nxtO attrP
  simp only
  rw [eq_attr _ _ (fun c hc => (name_ok true _ h c hc).2.2)]
  simp only
  rw [sd_quo]
  simp
theorem prs_attrs : ∀ (l : List S51) (b : Bool), (∀ a ∈ l, namedS true (B a.f0) = true) → prsO (l.map attrP) b = (l, b)
  | [], b, _ => rfl
  | a :: l, b, h => by
    rw [List.map_cons, prsO, pr_attr a (h a (List.mem_cons_self ..)) [] b, prs_attrs l b (fun x hx => h x (List.mem_cons_of_mem _ hx))]
theorem kind_word : ∀ k : Fin 8, kindW (wordL.getD k.val em) = (k.val : Int) := by decide +kernel
theorem word_ok : ∀ k : Fin 8, okP (wordL.getD k.val em).data.toList false = some false := by decide +kernel
theorem rd_getElem (l : List S51) (i : Nat) (h : i < l.length) : rd_T51 l (i : Int) = l[i] := by
  unfold rd_T51
  rw [Int.toNat_natCast, List.getD_eq_getElem?_getD, List.getElem?_eq_getElem h]
  rfl
/-- What a checked operation keeps, more of it. -/
theorem chk_more (x : S24) (h : chk x = 0) : (1 ≤ x.f0 ∧ x.f0 ≤ 7) ∧ noneO x = false ∧ (x.f0 = 1 → namedS false (B x.f4) = true) ∧ ((x.f0 = 5 ∨ x.f0 = 6) → namedS true (B x.f6) = true) ∧ x.f5.size ≤ 65536 ∧ x.f7.size ≤ 65536 ∧ x.f8.length ≤ 64 ∧ (∀ a ∈ x.f8, namedS true (B a.f0) = true ∧ a.f1.size ≤ 65536) := by
  unfold chk checkO at h
  split at h
  · cases h
  next h0 =>
  split at h
  · cases h
  split at h
  · cases h
  next h2 =>
  split at h
  · cases h
  next h3 =>
  split at h
  · cases h
  next h4 =>
  split at h
  · cases h
  next h5 =>
  have ha := attrsN_ok x.f8 _ x.f8.length 0 h
  refine ⟨by omega, by simpa using h2, fun e => ?_, fun e => ?_, by omega, by omega, ?_, fun a hm => ?_⟩
  · cases ht : tgO x with
    | true => exact ht
    | false => exact absurd ⟨e, ht⟩ h3
  · cases ht : nmO x with
    | true => exact ht
    | false => exact absurd ⟨e, ht⟩ h4
  · rcases Nat.lt_or_ge 64 x.f8.length with h6 | h6
    · exact absurd rfl (ha 64 (by omega) (by omega)).2.2
    · exact h6
  · obtain ⟨i, hi, rfl⟩ := List.getElem_of_mem hm
    obtain ⟨h1, h2, -⟩ := ha i (by omega) (by omega)
    unfold naO at h1
    rw [rd_getElem _ _ hi] at h1 h2
    exact ⟨h1, h2⟩
set_option maxHeartbeats 1000000 in
theorem read_line (x : S24) (hx : okX x) (h : chk x = 0) : readS (lineB x) = (x, 0) := by
  obtain ⟨hk, hno, ht, hnm, -, -, -, ha⟩ := chk_more x h
  obtain ⟨k, hk'⟩ : ∃ k : Fin 8, x.f0 = (k.val : Int) := ⟨⟨x.f0.toNat, by omega⟩, by simp only; omega⟩
  have hparts : ∀ p ∈ putP x, okP p.data.toList false = some false := by
    have hat : ∀ a ∈ x.f8, okP (attrP a).data.toList false = some false := fun a hm => by
      unfold attrP
      rw [ByteArray.data_append, ByteArray.data_append, Array.toList_append, Array.toList_append, okP_append, okP_append, okP_name true _ (ha a hm).1]
      show (some false).bind _ = _
      rw [Option.bind_some]
      exact okP_quo a.f1
    have h7 : x.f0 = 1 ∨ x.f0 = 2 ∨ x.f0 = 3 ∨ x.f0 = 4 ∨ x.f0 = 5 ∨ x.f0 = 6 ∨ x.f0 = 7 := by omega
    unfold putP
    rcases h7 with e | e | e | e | e | e | e
    · rw [if_pos e]
      intro p hp
      simp only [List.cons_append, List.nil_append, List.mem_cons] at hp
      rcases hp with rfl | rfl | rfl | hp
      · exact okP_name false _ (ht e)
      · exact okP_quo _
      · exact okP_quo _
      · obtain ⟨a, hm, rfl⟩ := List.mem_map.1 hp
        exact hat a hm
    · rw [if_neg (by omega), if_pos e]
      intro p hp
      simp at hp
      rcases hp with rfl | rfl | rfl <;> exact okP_num _
    · rw [if_neg (by omega), if_neg (by omega), if_pos e]
      intro p hp
      simp at hp
      rcases hp with rfl | rfl <;> exact okP_num _
    · rw [if_neg (by omega), if_neg (by omega), if_neg (by omega), if_pos e]
      intro p hp
      simp at hp
      rw [hp]; exact okP_num _
    · rw [if_neg (by omega), if_neg (by omega), if_neg (by omega), if_neg (by omega), if_pos e]
      intro p hp
      simp only [List.mem_cons, List.not_mem_nil, or_false] at hp
      rcases hp with rfl | rfl
      · exact okP_num _
      · rw [ByteArray.data_append, ByteArray.data_append, Array.toList_append, Array.toList_append, okP_append, okP_append, okP_name true _ (hnm (.inl e))]
        show (some false).bind _ = _
        rw [Option.bind_some]
        exact okP_quo x.f7
    · rw [if_neg (by omega), if_neg (by omega), if_neg (by omega), if_neg (by omega), if_neg (by omega), if_pos e]
      intro p hp
      simp only [List.mem_cons, List.not_mem_nil, or_false] at hp
      rcases hp with rfl | rfl
      · exact okP_num _
      · exact okP_name true _ (hnm (.inr e))
    · rw [if_neg (by omega), if_neg (by omega), if_neg (by omega), if_neg (by omega), if_neg (by omega), if_neg (by omega)]
      intro p hp
      simp only [List.mem_cons, List.not_mem_nil, or_false] at hp
      rcases hp with rfl | rfl
      · exact okP_num _
      · exact okP_quo _
  have hw : x.f0.toNat = k.val := by omega
  have hcut : cutB (lineB x) = wordL.getD k.val em :: putP x := by
    unfold lineB
    rw [hw]
    exact cutB_put _ _ (word_ok k) hparts
  have hkr : kindR (lineB x) = x.f0 := by
    unfold kindR
    rw [hcut, hk']
    exact kind_word k
  have hX : readX (lineB x) = (x, [], false) := by
    unfold readX
    rw [hkr, hcut]
    show rdB x.f0 (rdA x.f0 (putP x, false)) = _
    obtain ⟨-, i1, i2, i3, -⟩ := hx
    clear hcut hkr hparts hk' hw h
    obtain ⟨f0, f1, f2, f3, f4, f5, f6, f7, f8⟩ := x
    simp only at *
    have h7 : f0 = 1 ∨ f0 = 2 ∨ f0 = 3 ∨ f0 = 4 ∨ f0 = 5 ∨ f0 = 6 ∨ f0 = 7 := by omega
    unfold noneO at hno
    rcases h7 with rfl | rfl | rfl | rfl | rfl | rfl | rfl
    all_goals simp at hno
    · obtain ⟨⟨⟨rfl, rfl⟩, rfl⟩, rfl⟩ := hno
      have n1 : nxtO (f4 :: quoB f5 :: quoB f7 :: f8.map attrP, false) = (f4, quoB f5 :: quoB f7 :: f8.map attrP, false) := rfl
      show rdB 1 (rdA 1 (f4 :: quoB f5 :: quoB f7 :: f8.map attrP, false)) = _
      unfold rdB rdA
      simp only [n1, nsd_quo, prs_attrs f8 false (fun a hm => (ha a hm).1), if_true]
      rfl
    · obtain ⟨⟨⟨rfl, rfl⟩, rfl⟩, rfl, rfl⟩ := hno
      show rdB 2 (rdA 2 ([itoaS f1, itoaS f2, itoaS f3], false)) = _
      rw [rdA_ne (by decide), hdl_num _ i1]
      unfold rdB
      rw [if_pos rfl]
      simp only [hdl_num _ i2, hdl_num _ i3]
      rfl
    · obtain ⟨⟨⟨⟨rfl, rfl⟩, rfl⟩, rfl⟩, rfl, rfl⟩ := hno
      show rdB 3 (rdA 3 ([itoaS f1, itoaS f3], false)) = _
      rw [rdA_ne (by decide), hdl_num _ i1]
      unfold rdB
      rw [if_neg (by decide), if_pos rfl]
      simp only [hdl_num _ i3]
      rfl
    · obtain ⟨⟨⟨⟨rfl, rfl⟩, rfl⟩, rfl, rfl⟩, rfl, rfl⟩ := hno
      show rdB 4 (rdA 4 ([itoaS f1], false)) = _
      rw [rdA_ne (by decide), hdl_num _ i1]
      unfold rdB
      rw [if_neg (by decide), if_neg (by decide), if_neg (by decide), if_neg (by decide), if_neg (by decide)]
      rfl
    · obtain ⟨⟨⟨rfl, rfl⟩, rfl⟩, rfl, rfl⟩ := hno
      show rdB 5 (rdA 5 ([itoaS f1, attrP ⟨f6, f7⟩], false)) = _
      rw [rdA_ne (by decide), hdl_num _ i1]
      unfold rdB
      rw [if_neg (by decide), if_neg (by decide), if_pos rfl]
      simp only [pr_attr ⟨f6, f7⟩ (hnm (.inl rfl))]
      rfl
    · obtain ⟨⟨⟨⟨rfl, rfl⟩, rfl⟩, rfl, rfl⟩, rfl⟩ := hno
      show rdB 6 (rdA 6 ([itoaS f1, f6], false)) = _
      rw [rdA_ne (by decide), hdl_num _ i1]
      unfold rdB
      rw [if_neg (by decide), if_neg (by decide), if_neg (by decide), if_pos rfl]
      rfl
    · obtain ⟨⟨⟨⟨rfl, rfl⟩, rfl⟩, rfl, rfl⟩, rfl⟩ := hno
      show rdB 7 (rdA 7 ([itoaS f1, quoB f7], false)) = _
      rw [rdA_ne (by decide), hdl_num _ i1]
      unfold rdB
      rw [if_neg (by decide), if_neg (by decide), if_neg (by decide), if_neg (by decide), if_pos rfl]
      simp only [nsd_quo]
      rfl
  unfold readS
  rw [hX, hkr]
  rw [if_neg]
  simp only [not_or, ne_eq, Decidable.not_not]
  exact ⟨by omega, by simp, trivial, h, trivial⟩
end Go.Proofs.YtgdemingopcgaaaDoorE

namespace Go.Proofs.YtgdemingopcgaaaDoorE
open Go Go.RowKit Go.Proofs.YtgdemingopcgaaaDoorW.PrintWords Go.Proofs.YtgdemingopcgaaaDoorX Go.Proofs.YtgdemingopcgaaaDoor.P26
set_option linter.unusedVariables false
set_option linter.unusedSimpArgs false
theorem index_eq (l : List UInt8) : Lib.indexByte l 61 = if l.findIdx (· = 61) < l.length then (l.findIdx (· = 61) : Int) else -1 := by
  induction l with
  | nil => rfl
  | cons c l ih =>
    rw [Lib.indexByte, List.findIdx_cons, List.length_cons]
    by_cases h : c = 61
    · subst h; simp
    · have h1 : (c == 61) = false := by simpa using h
      rw [h1, ih]
      simp only [h, decide_false, cond_false, Bool.false_eq_true, if_false]
      generalize l.findIdx (fun x => decide (x = 61)) = n
      by_cases h2 : n < l.length
      · have hb : ((n : Int) == -1) = false := by rw [beq_eq_false_iff_ne]; omega
        simp only [if_pos h2, hb, Bool.false_eq_true, if_false]
        rw [if_pos (by omega)]
        omega
      · simp only [if_neg h2]
        rw [if_neg (show ¬ n + 1 < l.length + 1 by omega)]
        rfl
set_option maxHeartbeats 1000000 in
set_option maxRecDepth 100000 in
theorem sIndex_c (s : ByteArray) (w : World) :
    Calls Tryd.prog 70 #[.string s, .string ⟨#[61]⟩] w fun e w' => e = .returned (.int .i64 (Lib.indexByte s.data.toList 61)) ∧ Drawn0 w w' := by
  by_cases h : s = ⟨#[61]⟩
  · subst h
    go_enter Tryd.func70, Tryd.ntmps70
    go_wp2_with fail
    go_ret
    exact ⟨rfl, Drawn0.refl _⟩
  · have hb : (([61] : List UInt8) == s.toList) = false := by
      rw [toList_data, beq_eq_false_iff_ne]
      intro e
      exact h (ba_inj e.symm)
    go_enter Tryd.func70, Tryd.ntmps70
    go_wp2_with fail
    refine (Tryd.stringslite_IndexByte s _ w).mono ?_
    rintro e w1 ⟨rfl, rfl⟩
    go_wp2_with fail
    go_ret
    exact ⟨rfl, Drawn0.refl _⟩
theorem sCut_c (s : ByteArray) (hs : s.size ≤ 1000000000000) (w : World) :
    Calls Tryd.prog 60 #[.string s, .string ⟨#[61]⟩] w fun e w' => e = .returned (.tuple #[.string (eqO s).1, .string (eqO s).2.1, .bool (eqO s).2.2]) ∧ Drawn0 w w' := by
  have HI := Aside0.mk (sIndex_c s w)
  rw [index_eq] at HI
  unfold eqO
  have hl : s.data.toList.length = s.size := by rw [Array.length_toList]; rfl
  rw [hl] at HI ⊢
  have E1 : Aside0 (mkB (s.data.toList.take (s.data.toList.findIdx (· = 61))) = s.extract 0 (s.data.toList.findIdx (· = 61))) := ⟨ba_inj (by rw [mkB_list, ext_sub, List.drop_zero])⟩
  have E2 : Aside0 (mkB (s.data.toList.drop (s.data.toList.findIdx (· = 61) + 1)) = s.extract (s.data.toList.findIdx (· = 61) + 1) s.size) := ⟨ba_inj (by rw [mkB_list, ext_sub, List.take_of_length_le (by omega)])⟩
  generalize s.data.toList.findIdx (· = 61) = n at *
  by_cases h : n < s.size
  · rw [if_pos h] at HI ⊢
    rw [E1.out, E2.out]
    go_enter Tryd.func60, Tryd.ntmps60
    go_wp2_with fail
    refine HI.out.mono ?_
    rintro e w1 ⟨rfl, hd⟩
    have HD := Aside0.mk hd
    go_wp2_with fail
    go_region
    go_wp2_with fail
    go_ret3
    exact ⟨rfl, HD.out.step 1⟩
  · rw [if_neg h] at HI ⊢
    go_enter Tryd.func60, Tryd.ntmps60
    go_wp2_with fail
    refine HI.out.mono ?_
    rintro e w1 ⟨rfl, hd⟩
    have HD := Aside0.mk hd
    go_wp2_with fail
    go_ret3
    exact ⟨rfl, HD.out⟩
theorem Cut_c (s : ByteArray) (hs : s.size ≤ 1000000000000) (w : World) :
    Calls Tryd.prog 47 #[.string s, .string ⟨#[61]⟩] w fun e w' => e = .returned (.tuple #[.string (eqO s).1, .string (eqO s).2.1, .bool (eqO s).2.2]) ∧ Drawn0 w w' := by
  have HI := Aside0.mk (sCut_c s hs w)
  go_enter Tryd.func47, Tryd.ntmps47
  go_wp2_with fail
  refine HI.out.mono ?_
  rintro e w1 ⟨rfl, hd⟩
  have HD := Aside0.mk hd
  clear hd
  go_wp2_with fail
  go_ret3
  exact ⟨rfl, HD.out⟩
theorem idxN_le (l : List ByteArray) (v : ByteArray) : idxN l v ≤ l.length := List.findIdx_le_length
theorem idxN_hit (l : List ByteArray) (v : ByteArray) (k : Nat) (hk : k < l.length) (h1 : k ≤ idxN l v) : (v.data.toList == l[k].data.toList) = decide (k = idxN l v) := by
  rcases Nat.lt_or_ge k (idxN l v) with h | h
  · have := List.not_of_lt_findIdx (p := fun a => v.data.toList == a.data.toList) (xs := l) h
    have h2 : (v.data.toList == l[k].data.toList) = false := by simpa using this
    rw [h2]
    symm
    rw [decide_eq_false_iff_not]
    omega
  · obtain rfl : k = idxN l v := by omega
    have hk2 : l.findIdx (fun a => v.data.toList == a.data.toList) < l.length := hk
    rw [decide_eq_true rfl]
    exact List.findIdx_getElem (w := hk2)
theorem index_c (l : List ByteArray) (v : ByteArray) (A : Option Addr) (c : Nat) (w : World) (hl : l.length ≤ 1000000000000) (hC : Kd.string.C w A l.length l) :
    Calls Tryd.prog 26 #[.slice A l.length c, .string v] w fun e w' => e = .returned (.int .i64 (idxS l v)) ∧ w' = w := by
  have HC := Aside0.mk hC
  have HI := Aside0.mk (idxN_le l v)
  clear hC
  go_enter Tryd.func26, Tryd.ntmps26
  go_wp2_with fail
  go_loopw [8] (fun i wr => ∃ k : Nat, k ≤ l.length ∧ i = .int .i64 k ∧ Aside0 (k ≤ idxN l v) ∧ wr = w) (fun i _ => l.length - (intOf i).toNat)
  case atStart => exact ⟨0, Nat.zero_le _, rfl, ⟨Nat.zero_le _⟩, rfl⟩
  case round =>
    obtain ⟨k, hk, rfl, hn, rfl⟩ := hrel
    by_cases hlt : k < l.length
    · obtain ⟨ad, rfl, h0⟩ := Kd.at_string HC.out (k : Int) (by omega) (by omega)
      rw [Int.toNat_natCast] at h0
      have hx : rdOf ByteArray.empty l (k : Int) = l[k] := by
        unfold rdOf
        rw [Int.toNat_natCast, List.getD_eq_getElem?_getD, List.getElem?_eq_getElem hlt]
        rfl
      rw [hx] at h0
      have hh := idxN_hit l v k hlt hn.out
      rw [← toList_data, ← toList_data] at hh
      by_cases he : k = idxN l v
      · rw [decide_eq_true he] at hh
        have HE := Aside0.mk he
        clear he hx
        go_wp2_with fail
        go_ret
        refine ⟨?_, rfl⟩
        unfold idxS
        rw [← HE.out, if_pos hlt]
        rfl
      · rw [decide_eq_false he] at hh
        have HE := Aside0.mk he
        clear he hx
        go_wp2_with fail
        exact ⟨⟨k + 1, by omega, by go_num, ⟨by have := hn.out; have := HE.out; omega⟩, trivial⟩, by simp [intOf]; omega⟩
    · have hke : k = l.length := by omega
      have hne : idxS l v = -1 := by unfold idxS; rw [if_neg (by have := hn.out; have := HI.out; omega)]
      subst hke
      go_wp2_with fail
      go_ret
      rw [hne]
      exact ⟨rfl, rfl⟩
end Go.Proofs.YtgdemingopcgaaaDoorE

namespace Go.Proofs.YtgdemingopcgaaaDoorE
open Go Go.RowKit Go.Proofs.YtgdemingopcgaaaDoorW.PrintWords Go.Proofs.YtgdemingopcgaaaDoorX Go.Proofs.YtgdemingopcgaaaDoor.P26
set_option linter.unusedVariables false
set_option linter.unusedSimpArgs false
theorem un_c (s : ByteArray) (hs : s.size ≤ 1000000000000) (w : World) (hgl : GL w) :
    Calls Tryd.prog 46 #[.string s] w fun e w' => e = .returned (.tuple #[.string (mkB (unS s.data.toList 0 []).1), .int .i64 (unS s.data.toList 0 []).2.1, .int .i64 (unS s.data.toList 0 []).2.2]) ∧ Below w.heap.size w w' :=
  escape_Unescape.calls s _ _ _ w hgl (by unfold escape_Unescape.f; rw [if_pos hs]; rfl)
theorem head_at (t : ByteArray) (h : 0 < t.size) : t.data.toList.head? = some t[0] := by
  have hl : 0 < t.data.toList.length := by rw [Array.length_toList]; exact h
  rw [List.head?_eq_getElem?, List.getElem?_eq_getElem hl]
  simp [ByteArray.getElem_eq_getElem_data]
theorem last_at (t : ByteArray) (n : Nat) (h : n + 1 = t.size) : t.data.toList.getLast? = some (t[n]'(by omega)) := by
  have hl : t.data.toList.length = n + 1 := by rw [Array.length_toList]; exact h.symm
  rw [List.getLast?_eq_getElem?, hl, Nat.add_sub_cancel, List.getElem?_eq_getElem (by omega)]
  simp [ByteArray.getElem_eq_getElem_data]
set_option maxHeartbeats 1000000 in
set_option maxRecDepth 100000 in
theorem said_O (p : Nat) (ok : Nat → Prop) (s : StO) (t : ByteArray) (ht : t.size ≤ 1000000000000) (w : World) (hpg : ∀ W, But (· = p) w W → GL W) (h : AtO p ok s w) :
    Calls Tryd.prog 28 #[.pointer (some ⟨p, 0, none⟩), .string t] w fun e w' => e = .returned (.string (sdO t).1) ∧ AtO p ok (s.1, s.2 || (sdO t).2) w' ∧ But (· = p) w w' := by
  have H := Aside0.mk h
  obtain ⟨q1, q2⟩ := h.bad
  have HG := Aside0.mk hpg
  have hl : t.data.toList.length = t.size := by rw [Array.length_toList]; rfl
  obtain ⟨l, b⟩ := s
  simp only at q1 ⊢
  clear hpg h
  by_cases h2 : t.size < 2
  · have hR : sdO t = (em, true) := by unfold sdO; rw [if_pos (.inl (by omega))]
    rw [hR]
    clear hR hl
    go_enter Tryd.func28, Tryd.ntmps28
    go_wp2_with fail
    go_ret
    exact ⟨rfl, H.out.flag true, (But.refl _ w).put_self _ _⟩
  · obtain ⟨n, hn⟩ : ∃ n, n + 1 = t.size := ⟨t.size - 1, by omega⟩
    have h0 : 0 < t.size := by omega
    have hnl : n < t.size := by omega
    by_cases hq0 : t[0] = 34
    · by_cases hq1 : t[n] = 34
      · have hz : (t.size : Int) - 1 = (n : Int) := by omega
        have b0 : ((t[0].toNat : Int) != 34) = false := by rw [hq0]; rfl
        have b1 : ((t[n].toNat : Int) != 34) = false := by rw [hq1]; rfl
        have hu := un_c (t.extract 1 n) (by rw [ByteArray.size_extract]; omega)
        have e : (t.extract 1 n).data.toList = (t.data.toList.drop 1).take (t.data.toList.length - 2) := by
          rw [ext_sub, List.drop_take]
          congr 1
          omega
        rw [e] at hu
        have hR : sdO t = (mkB (unS ((t.data.toList.drop 1).take (t.data.toList.length - 2)) 0 []).1, decide ((unS ((t.data.toList.drop 1).take (t.data.toList.length - 2)) 0 []).2.2 ≠ 0)) := by
          have hc : ¬ (t.data.toList.length < 2 ∨ t.data.toList.head? ≠ some 34 ∨ t.data.toList.getLast? ≠ some 34) := by
            rw [head_at t h0, last_at t n hn, hq0, hq1]
            rintro (h | h | h)
            · omega
            · exact h rfl
            · exact h rfl
          unfold sdO
          rw [if_neg hc]
        rw [hR]
        generalize unS ((t.data.toList.drop 1).take (t.data.toList.length - 2)) 0 [] = u at hu ⊢
        obtain ⟨u1, u2, u3⟩ := u
        simp only at hu ⊢
        have HU := Aside0.mk hu
        have hsl : ∀ W, Sem.run Tryd.prog (Instr.slice 9 (.string t) (some (.int .i64 1)) (some (.int .i64 (n : Int))) none) W = .ok (.string (t.extract 1 n)) W := fun W => by
          rw [run_slice_string W 9 t .i64 .i64 1 (n : Int) Tryd.underlying9 (by omega) (by omega) (by omega)]
          rfl
        clear hR hl hu e hq0 hq1
        by_cases hu3 : u3 = 0
        · have b3 : (u3 != 0) = false := by simpa using hu3
          cases b <;> (
            go_enter Tryd.func28, Tryd.ntmps28
            go_wp2_with fail
            refine (HU.out _ (HG.out _ (But.refl _ w))).mono ?_
            rintro e w1 ⟨rfl, hb⟩
            have HB := Aside0.mk ((But.refl (· = p) w).below hb)
            have HA := Aside0.mk (H.out.below hb)
            obtain ⟨q3, q4⟩ := HA.out.bad
            clear hb
            go_wp2_with fail
            go_ret
            exact ⟨rfl, by simp [hu3]; exact HA.out.flag _, HB.out.put_self _ _⟩)
        · have b3 : (u3 != 0) = true := by simpa using hu3
          cases b <;> (
            go_enter Tryd.func28, Tryd.ntmps28
            go_wp2_with fail
            refine (HU.out _ (HG.out _ (But.refl _ w))).mono ?_
            rintro e w1 ⟨rfl, hb⟩
            have HB := Aside0.mk ((But.refl (· = p) w).below hb)
            have HA := Aside0.mk (H.out.below hb)
            obtain ⟨q3, q4⟩ := HA.out.bad
            clear hb
            go_wp2_with fail
            go_ret
            exact ⟨rfl, by simp [hu3]; exact HA.out.flag _, HB.out.put_self _ _⟩)
      · have hR : sdO t = (em, true) := by
          unfold sdO
          rw [if_pos (.inr (.inr (by rw [last_at t n hn]; simpa using hq1)))]
        have hz : (t.size : Int) - 1 = (n : Int) := by omega
        have b0 : ((t[0].toNat : Int) != 34) = false := by rw [hq0]; rfl
        have b1 : ((t[n].toNat : Int) != 34) = true := by
          rw [bne_iff_ne]
          intro e
          exact hq1 (UInt8.toNat_inj.1 (show t[n].toNat = 34 by omega))
        rw [hR]
        clear hR hl hq0 hq1
        go_enter Tryd.func28, Tryd.ntmps28
        go_wp2_with fail
        go_ret
        exact ⟨rfl, by first | exact H.out.flag true | (rw [Bool.or_true]; exact H.out.flag true), (But.refl _ w).put_self _ _⟩
    · have hR : sdO t = (em, true) := by
        unfold sdO
        rw [if_pos (.inr (.inl (by rw [head_at t h0]; simpa using hq0)))]
      have b0 : ((t[0].toNat : Int) != 34) = true := by
        rw [bne_iff_ne]
        intro e
        exact hq0 (UInt8.toNat_inj.1 (show t[0].toNat = 34 by omega))
      rw [hR]
      clear hR hl hq0
      go_enter Tryd.func28, Tryd.ntmps28
      go_wp2_with fail
      go_ret
      exact ⟨rfl, by first | exact H.out.flag true | (rw [Bool.or_true]; exact H.out.flag true), (But.refl _ w).put_self _ _⟩
theorem eqO_size (t : ByteArray) : (eqO t).1.size ≤ t.size ∧ (eqO t).2.1.size ≤ t.size := by
  have hm : ∀ l : List UInt8, (mkB l).size = l.length := fun l => List.size_toArray
  have hl : t.data.toList.length = t.size := by rw [Array.length_toList]; rfl
  unfold eqO
  split
  · simp only [hm]
    rw [List.length_take, List.length_drop]
    omega
  · exact ⟨Nat.le_refl _, Nat.zero_le _⟩
set_option maxHeartbeats 1000000 in
set_option maxRecDepth 100000 in
theorem pair_O (p : Nat) (ok : Nat → Prop) (hok : ∀ k, ok k → k < p) (s : StO) (hz : ∀ x ∈ s.1, x.size ≤ 1000000000000) (w : World) (hpg : ∀ W, But (· = p) w W → GL W) (h : AtO p ok s w) :
    Calls Tryd.prog 29 #[.pointer (some ⟨p, 0, none⟩)] w fun e w' => e = .returned (.agg #[.string (prO s).1.f0, .string (prO s).1.f1]) ∧ AtO p ok (prO s).2 w' ∧ But (· = p) w w' := by
  have hb0 := below_alloc (Below.refl w.heap.size w) (.cells #[.string ⟨#[]⟩, .string ⟨#[]⟩] 51)
  have hlt := h.lt
  have HN := Aside0.mk (next_c p ok s _ (h.below hb0))
  have hx := (nxt_mem hz).1
  have HB0 := Aside0.mk ((But.refl (· = p) w).below hb0)
  have HK := Aside0.mk (heap_alloc_new w (.cells #[.string ⟨#[]⟩, .string ⟨#[]⟩] 51))
  unfold prO
  generalize nxtO s = E at *
  obtain ⟨x, l1, b1⟩ := E
  simp only at HN hx ⊢
  have HC := Aside0.mk (Cut_c x hx)
  have he := (eqO_size x).2
  generalize eqO x = E at *
  obtain ⟨e1, e2, e3⟩ := E
  simp only at HC he ⊢
  have HS := Aside0.mk (fun W (hg : ∀ W', But (· = p) W W' → GL W') st ha => said_O p ok st e2 (by omega) W hg ha)
  have HG := Aside0.mk hpg
  clear h hz hpg hx hb0
  cases b1 <;> cases e3 <;> (
    go_enter Tryd.func29, Tryd.ntmps29
    go_wp2_with fail
    refine (HN.out).mono ?_
    rintro e w1 ⟨rfl, ha, hb⟩
    have HA := Aside0.mk ha
    have HB := Aside0.mk (HB0.out.then_ hb)
    have HK1 := Aside0.mk ((hb.block _ (by simp) (by omega)).trans HK.out)
    clear ha hb
    go_wp2_with fail
    refine (HC.out _).mono ?_
    rintro e w2 ⟨rfl, hb⟩
    have hbl := hb.below
    have HB2 := Aside0.mk (HB.out.below hbl)
    have HA2 := Aside0.mk (HA.out.below hbl)
    have HK2 := Aside0.mk ((hbl.block _ (blk_lt' HK1.out)).trans HK1.out)
    obtain ⟨q1, q2⟩ := HA2.out.bad
    clear hb hbl
    go_wp2_with fail
    refine (HS.out _ ?_ _ (HA2.out.flag _)).mono ?_
    · intro W hW
      exact HG.out _ ((HB2.out.put_self _ _).then_ hW)
    rintro e w3 ⟨rfl, ha, hb⟩
    have HA3 := Aside0.mk ha
    have HB3 := Aside0.mk ((HB2.out.put_self 1 _).then_ hb)
    have HK3 := Aside0.mk ((((But.refl (· = p) w2).put_self 1 _).then_ hb).block w.heap.size (blk_lt' HK2.out) (by omega) |>.trans HK2.out)
    have y0 := cell_blk (j := 0) (v := .string ⟨#[]⟩) HK3.out rfl
    have y1 := cell_blk (j := 1) (v := .string ⟨#[]⟩) HK3.out rfl
    have z0 := Lib.frozen_of_heap HK3.out 0
    have z1 := Lib.frozen_of_heap HK3.out 1
    clear ha hb
    go_wp2_with fail
    refine bodyPost_ret (results_cell_row rfl _ _ w.heap.size 51 _ (0, 0) _ rfl (set_blk (j := 1) (set_blk (j := 0) HK3.out _) _) Tryd.underlying51 rfl (by kernel_rfl)) rfl ⟨rfl, ?_, ?_⟩
    · have hB : But (· = w.heap.size) w3 ((w3.setCell ⟨w.heap.size, 0, none⟩ (.string e1)).setCell ⟨w.heap.size, 1, none⟩ (.string (sdO e2).1)) := ((But.refl _ w3).put_self 0 _).put_self 1 _
      exact HA3.out.but hB (fun k hk => by rw [hk]; exact ⟨by omega, fun e => by have := hok _ e; omega⟩)
    · exact (HB3.out.setCell (.inr (Nat.le_refl _)) _).setCell (.inr (Nat.le_refl _)) _)
end Go.Proofs.YtgdemingopcgaaaDoorE

namespace Go.Proofs.YtgdemingopcgaaaDoorE
open Go Go.RowKit Go.Proofs.YtgdemingopcgaaaDoorW.PrintWords Go.Proofs.YtgdemingopcgaaaDoorW.PrintMore Go.Proofs.YtgdemingopcgaaaDoorW.PrintLast Go.Proofs.YtgdemingopcgaaaDoorX Go.Proofs.YtgdemingopcgaaaDoor.P26
set_option linter.unusedVariables false
set_option linter.unusedSimpArgs false
def boxO (x : S24) (v8 : Value) : Array Value := #[.int .i64 x.f0, .int .i64 x.f1, .int .i64 x.f2, .int .i64 x.f3, .string x.f4, .string x.f5, .string x.f6, .string x.f7, v8]
/-- In the midst of Read: the reader, the operation's box, the result's box. -/
structure InvX (w : World) (p bx : Nat) (ok : Nat → Prop) (x : S24) (v8 : Value) (s : StO) (wc : World) : Prop where
  bel : Below w.heap.size w wc
  res : wc.heap[w.heap.size]? = some (.cells (boxO zOp (.slice none 0 0)) 24 (0, 0))
  at_ : AtO p ok s wc
  box : wc.heap[bx]? = some (.cells (boxO x v8) 24 (0, 0))
  row : k51.R 51 wc (p + 1) (fun b => b ≠ bx) v8 x.f8
structure LieX (w : World) (p bx : Nat) (ok : Nat → Prop) : Prop where
  hp : w.heap.size < p
  hb : p < bx
  hok : ∀ k, ok k → k < p
theorem InvX.go {w : World} {p bx : Nat} {ok : Nat → Prop} {x : S24} {v8 : Value} {s s' : StO} {wc wd : World} (h : InvX w p bx ok x v8 s wc) (L : LieX w p bx ok) (ha : AtO p ok s' wd) (hb : But (· = p) wc wd) : InvX w p bx ok x v8 s' wd := by
  have h1 := L.hp
  have h2 := L.hb
  refine ⟨⟨hb.os.trans h.bel.os, hb.tape.trans h.bel.tape, hb.output.trans h.bel.output, Nat.le_trans h.bel.size hb.size, fun k hk => (hb.block k (Nat.lt_of_lt_of_le hk h.bel.size) (by omega)).trans (h.bel.block k hk)⟩, (hb.block _ (blk_lt' h.res) (by omega)).trans h.res, ha, (hb.block _ (blk_lt' h.box) (by omega)).trans h.box, Kd.R_mono (Kd.R_step (Kd.R_bound h.row) (fun k hk hlt => hb.block k hlt (by have := hk.2.1; omega))) (fun _ hk => hk.1)⟩
theorem InvX.below {w : World} {p bx : Nat} {ok : Nat → Prop} {x : S24} {v8 : Value} {s : StO} {wc wd : World} (h : InvX w p bx ok x v8 s wc) (L : LieX w p bx ok) (hb : Below wc.heap.size wc wd) : InvX w p bx ok x v8 s wd := h.go L (h.at_.below hb) ((But.refl _ wc).below hb)
theorem InvX.put {w : World} {p bx : Nat} {ok : Nat → Prop} {x y : S24} {v8 : Value} {s : StO} {wc : World} (h : InvX w p bx ok x v8 s wc) (L : LieX w p bx ok) (j : Nat) (u : Value) (hy : (boxO x v8).setIfInBounds j u = boxO y v8) (h8 : y.f8 = x.f8) : InvX w p bx ok y v8 s (wc.setCell ⟨bx, j, none⟩ u) := by
  have h1 := L.hp
  have h2 := L.hb
  have hB : But (· = bx) wc (wc.setCell ⟨bx, j, none⟩ u) := (But.refl _ wc).put_self j u
  refine ⟨⟨hB.os.trans h.bel.os, hB.tape.trans h.bel.tape, hB.output.trans h.bel.output, Nat.le_trans h.bel.size hB.size, fun k hk => (hB.block k (Nat.lt_of_lt_of_le hk h.bel.size) (by omega)).trans (h.bel.block k hk)⟩, (hB.block _ (blk_lt' h.res) (by omega)).trans h.res, h.at_.but hB (fun k hk => by rw [hk]; exact ⟨by omega, fun e => by have := L.hok _ e; omega⟩), hy ▸ set_blk h.box u, ?_⟩
  rw [h8]
  exact Kd.R_far (p := ⟨bx, j, none⟩) h.row (fun k hk => hk) u
theorem info_attr : (Tryd.prog.info? 51).map (fun i => (i.zero, i.size, i.bytes)) = some (some (.agg #[.string ⟨#[]⟩, .string ⟨#[]⟩]), k51.sz, 32) := by kernel_rfl
/-- A row has been appended to, its box not yet told. -/
theorem InvX.grown {w : World} {p bx : Nat} {ok : Nat → Prop} {x : S24} {v8 v1 : Value} {l1 : List S51} {s : StO} {wc wa : World} (h : InvX w p bx ok x v8 s wc) (L : LieX w p bx ok) {row : Option Nat} (g : wc.grownBy wa row) (hr : ∀ j, row = some j → p + 1 ≤ j ∧ j ≠ bx) (hR : k51.R 51 wa (p + 1) (fun k => k ≠ bx) v1 l1) :
    Below w.heap.size w wa ∧ wa.heap[bx]? = some (.cells (boxO x v8) 24 (0, 0)) ∧ wa.heap[w.heap.size]? = some (.cells (boxO zOp (.slice none 0 0)) 24 (0, 0)) ∧ AtO p ok s wa ∧ k51.R 51 wa (p + 1) (fun k => k ≠ bx) v1 l1 := by
  have h1 := L.hp
  have h2 := L.hb
  have hB : But (fun k => row = some k) wc wa := ⟨g.os, g.tape, g.output, g.size, fun i hi hn => g.block i hi (fun e => hn e.symm)⟩
  refine ⟨⟨g.os.trans h.bel.os, g.tape.trans h.bel.tape, g.output.trans h.bel.output, Nat.le_trans h.bel.size g.size, fun k hk => (g.block k (Nat.lt_of_lt_of_le hk h.bel.size) (fun e => by have := (hr k e.symm).1; omega)).trans (h.bel.block k hk)⟩, (g.block bx (blk_lt' h.box) (fun e => (hr bx e.symm).2 rfl)).trans h.box, (g.block _ (blk_lt' h.res) (fun e => by have := (hr _ e.symm).1; omega)).trans h.res, ?_, hR⟩
  exact h.at_.but hB (fun k hk => ⟨by have := (hr k hk).1; omega, fun e => by have := L.hok _ e; have := (hr k hk).1; omega⟩)
theorem InvX.told {w : World} {p bx : Nat} {ok : Nat → Prop} {x y : S24} {v8 v1 : Value} {l1 : List S51} {s : StO} {wa : World} (L : LieX w p bx ok) (hy : (boxO x v8).setIfInBounds 8 v1 = boxO y v1) (h8 : y.f8 = l1)
    (h : Below w.heap.size w wa ∧ wa.heap[bx]? = some (.cells (boxO x v8) 24 (0, 0)) ∧ wa.heap[w.heap.size]? = some (.cells (boxO zOp (.slice none 0 0)) 24 (0, 0)) ∧ AtO p ok s wa ∧ k51.R 51 wa (p + 1) (fun k => k ≠ bx) v1 l1) : InvX w p bx ok y v1 s (wa.setCell ⟨bx, 8, none⟩ v1) := by
  obtain ⟨hb, hbx, hr, ha, hR⟩ := h
  have h1 := L.hp
  have h2 := L.hb
  have hB : But (· = bx) wa (wa.setCell ⟨bx, 8, none⟩ v1) := (But.refl _ wa).put_self 8 v1
  refine ⟨hb.setCell (by show w.heap.size ≤ bx; omega) _, (hB.block _ (blk_lt' hr) (by omega)).trans hr, ha.but hB (fun k hk => by rw [hk]; exact ⟨by omega, fun e => by have := L.hok _ e; omega⟩), hy ▸ set_blk hbx v1, ?_⟩
  rw [h8]
  exact Kd.R_far (p := ⟨bx, 8, none⟩) hR (fun k hk => hk) v1
/-- Behind so many attributes of a create, n parts left. -/
def InvA (w : World) (p bx : Nat) (ok : Nat → Prop) (T1 T2 T3 : ByteArray) (l0 : List ByteArray) (b0 : Bool) (n : Nat) (wr : World) : Prop :=
  ∃ (al : List S51) (v8 : Value) (l : List ByteArray) (b : Bool), l.length = n ∧ prsO l0 b0 = (al ++ (prsO l b).1, (prsO l b).2) ∧ (∀ x ∈ l, x.size ≤ 1000000000000) ∧ al.length + l.length = l0.length ∧ InvX w p bx ok ⟨1, 0, 0, 0, T1, T2, em, T3, al⟩ v8 (l, b) wr
theorem nxt_len (s : StO) : (nxtO s).2.1.length ≤ s.1.length := by
  obtain ⟨l, b⟩ := s
  cases l with
  | nil => exact Nat.le_refl _
  | cons y l => simp [nxtO]
theorem rdA_k (k : Int) (s : StO) : (rdA k s).1.f0 = k := by
  unfold rdA
  split
  · next h => exact h.symm
  · rfl
theorem hdl_mem {s : StO} {N : Nat} (h : ∀ x ∈ s.1, x.size ≤ N) : ∀ x ∈ (hdlO s).2.1, x.size ≤ N := (nxt_mem h).2
theorem rdA_mem (k : Int) {s : StO} {N : Nat} (h : ∀ x ∈ s.1, x.size ≤ N) : ∀ x ∈ (rdA k s).2.1, x.size ≤ N := by
  unfold rdA
  split
  · intro x hx; cases hx
  · exact hdl_mem h
theorem cell_far {w : World} {a : Addr} {v u : Value} {b j : Nat} (h : w.cell? a = some v) (hne : ¬ a.block = b) : (w.setCell ⟨b, j, none⟩ u).cell? a = some v := by
  rw [World.cell?_setCell_other _ _ _ _ (fun e => hne (by rw [← e]))]; exact h
theorem row9 {wc : World} {g base : Nat} {ok : Nat → Prop} {v : Value} {l : List S51} (h : k51.R 51 wc base ok v l) (hg : ∀ k, ok k → k ≠ g) (u0 u1 u2 u3 u4 u5 u6 u7 u8 : Value) : k51.R 51 (((((((((wc.setCell ⟨g, 0, none⟩ u0).setCell ⟨g, 1, none⟩ u1).setCell ⟨g, 2, none⟩ u2).setCell ⟨g, 3, none⟩ u3).setCell ⟨g, 4, none⟩ u4).setCell ⟨g, 5, none⟩ u5).setCell ⟨g, 6, none⟩ u6).setCell ⟨g, 7, none⟩ u7).setCell ⟨g, 8, none⟩ u8) base ok v l := (Kd.R_far (p := ⟨g, 8, none⟩) (Kd.R_far (p := ⟨g, 7, none⟩) (Kd.R_far (p := ⟨g, 6, none⟩) (Kd.R_far (p := ⟨g, 5, none⟩) (Kd.R_far (p := ⟨g, 4, none⟩) (Kd.R_far (p := ⟨g, 3, none⟩) (Kd.R_far (p := ⟨g, 2, none⟩) (Kd.R_far (p := ⟨g, 1, none⟩) (Kd.R_far (p := ⟨g, 0, none⟩) h hg u0) hg u1) hg u2) hg u3) hg u4) hg u5) hg u6) hg u7) hg u8)
theorem unS_len (d : Nat) : ∀ (l : List UInt8) (pos : Nat) (out : List UInt8), l.length ≤ d → (unS l pos out).1.length ≤ out.length + l.length := by
  induction d with
  | zero =>
    intro l pos out h
    obtain rfl : l = [] := List.eq_nil_of_length_eq_zero (by omega)
    rw [unS_nil]
    simp
  | succ d ih =>
    intro l pos out h
    by_cases hl : l = []
    · subst hl
      rw [unS_nil]
      simp
    · rw [unS_cons l hl]
      have hpos : 0 < l.length := List.length_pos_iff.2 hl
      split
      · exact Nat.zero_le _
      · next hn =>
        have := ih (l.drop (stepU l).2) (pos + (stepU l).2) (out ++ [(stepU l).1]) (by rw [List.length_drop]; omega)
        rw [List.length_append, List.length_drop] at this
        simp at this
        omega
theorem mkB_size (l : List UInt8) : (mkB l).size = l.length := List.size_toArray
theorem sdO_size (t : ByteArray) : (sdO t).1.size ≤ t.size := by
  have hl : t.data.toList.length = t.size := by rw [Array.length_toList]; rfl
  unfold sdO
  split
  · exact Nat.zero_le _
  · simp only
    rw [mkB_size]
    have := unS_len _ ((t.data.toList.drop 1).take (t.data.toList.length - 2)) 0 [] (Nat.le_refl _)
    rw [List.length_take, List.length_drop, List.length_nil, Nat.zero_add] at this
    omega
theorem prO_size {s : StO} {N : Nat} (h : ∀ x ∈ s.1, x.size ≤ N) : (prO s).1.f0.size ≤ N ∧ (prO s).1.f1.size ≤ N := by
  have h1 := (nxt_mem h).1
  have h2 := eqO_size (nxtO s).1
  have h3 := sdO_size (eqO (nxtO s).1).2.1
  unfold prO
  exact ⟨by simp only; omega, by simp only; omega⟩
theorem prsO_ok {N : Nat} : ∀ (l : List ByteArray) (b : Bool), (∀ x ∈ l, x.size ≤ N) → (prsO l b).1.length = l.length ∧ ∀ a ∈ (prsO l b).1, a.f0.size ≤ N ∧ a.f1.size ≤ N
  | [], b, _ => ⟨rfl, fun a ha => by cases ha⟩
  | p :: l, b, h => by
    obtain ⟨h1, h2⟩ := prsO_ok l (prO ([p], b)).2.2 (fun x hx => h x (List.mem_cons_of_mem _ hx))
    rw [prsO]
    refine ⟨by simp [h1], fun a ha => ?_⟩
    rcases List.mem_cons.1 ha with rfl | ha
    · exact prO_size (s := ([p], b)) (fun x hx => by
        obtain rfl := List.mem_singleton.1 hx
        exact h _ (List.mem_cons_self ..))
    · exact h2 a ha
theorem hdl_i64 (s : StO) : i64 (hdlO s).1 := by
  unfold hdlO wholeS
  simp only
  split
  · next n hn =>
    split
    · exact atoi_range hn
    · exact ⟨by omega, by omega⟩
  · exact ⟨by omega, by omega⟩
theorem i64_sm {n : Int} (h : 0 ≤ n ∧ n ≤ 7) : i64 n := ⟨by omega, by omega⟩
theorem rd_mem51 (l : List S51) (i : Nat) (hi : i < l.length) : rd_T51 l (i : Int) ∈ l := by
  rw [rd_getElem l i hi]
  exact List.getElem_mem hi
theorem rdA_ok {k : Int} (hk : 0 ≤ k ∧ k ≤ 7) {s : StO} {N : Nat} (hN : N ≤ 140737488351232) (hl : s.1.length ≤ 140737488351232) (h : ∀ x ∈ s.1, x.size ≤ N) : okX (rdA k s).1 := by
  unfold rdA
  split
  · have h1 := nxt_mem h
    have h2 := nxt_mem h1.2
    have h3 := nxt_mem (s := (nsdO (nxtO s).2).2) h2.2
    have z1 := sdO_size (nxtO (nxtO s).2).1
    have z2 := sdO_size (nxtO (nsdO (nxtO s).2).2).1
    obtain ⟨e1, e2⟩ := prsO_ok (nsdO (nsdO (nxtO s).2).2).2.1 (nsdO (nsdO (nxtO s).2).2).2.2 h3.2
    have l1 := nxt_len s
    have l2 := nxt_len (nxtO s).2
    have l3 := nxt_len (nsdO (nxtO s).2).2
    have l4 : (nsdO (nsdO (nxtO s).2).2).2.1.length = (nxtO (nsdO (nxtO s).2).2).2.1.length := rfl
    have l5 : (nsdO (nxtO s).2).2.1.length = (nxtO (nxtO s).2).2.1.length := rfl
    have m1 : (nsdO (nxtO s).2).1.size = (sdO (nxtO (nxtO s).2).1).1.size := rfl
    have m2 : (nsdO (nsdO (nxtO s).2).2).1.size = (sdO (nxtO (nsdO (nxtO s).2).2).1).1.size := rfl
    refine ⟨i64_sm (by simp), i64_sm (by simp), i64_sm (by simp), i64_sm (by simp), by simp only; omega, by simp only; omega, Nat.zero_le _, by simp only; omega, by simp only; omega, fun i hi => ?_⟩
    have hm := e2 _ (rd_mem51 _ i hi)
    exact ⟨Nat.le_trans hm.1 hN, Nat.le_trans hm.2 hN⟩
  · exact ⟨i64_sm hk, hdl_i64 s, i64_sm (by simp), i64_sm (by simp), Nat.zero_le _, Nat.zero_le _, Nat.zero_le _, Nat.zero_le _, Nat.zero_le _, fun i hi => absurd hi (Nat.not_lt_zero i)⟩
theorem rdB_ok {k : Int} {a : OpSt} {N : Nat} (hN : N ≤ 140737488351232) (h : ∀ x ∈ a.2.1, x.size ≤ N) (ha : okX a.1) : okX (rdB k a).1 := by
  obtain ⟨h0, h1, h2, h3, h4, h5, h6, h7, h8, h9⟩ := ha
  have n1 := (nxt_mem h).1
  have p1 := prO_size h
  have z1 := sdO_size (nxtO a.2).1
  have m1 : (nsdO a.2).1.size = (sdO (nxtO a.2).1).1.size := rfl
  unfold rdB
  split
  · exact ⟨h0, h1, hdl_i64 _, hdl_i64 _, h4, h5, h6, h7, h8, h9⟩
  split
  · exact ⟨h0, h1, h2, hdl_i64 _, h4, h5, h6, h7, h8, h9⟩
  split
  · exact ⟨h0, h1, h2, h3, h4, h5, by simp only; omega, by simp only; omega, h8, h9⟩
  split
  · exact ⟨h0, h1, h2, h3, h4, h5, by simp only; omega, h7, h8, h9⟩
  split
  · exact ⟨h0, h1, h2, h3, h4, h5, h6, by simp only; omega, h8, h9⟩
  · exact ⟨h0, h1, h2, h3, h4, h5, h6, h7, h8, h9⟩
theorem cutL_size : ∀ (l : List UInt8) (q : Bool) (cur : List UInt8), ∀ p ∈ cutL l q cur, p.length ≤ l.length + cur.length
  | [], _, cur, p, hp => by
    rw [cutL, List.mem_singleton] at hp
    rw [hp]; omega
  | c :: l, q, cur, p, hp => by
    rw [cutL] at hp
    rw [List.length_cons]
    split at hp
    · have := cutL_size l (!q) _ p hp
      rw [List.length_append] at this
      simp at this
      omega
    · split at hp
      · rcases List.mem_cons.1 hp with rfl | hp
        · omega
        · have := cutL_size l q [] p hp
          simp at this
          omega
      · have := cutL_size l q _ p hp
        rw [List.length_append] at this
        simp at this
        omega
theorem cutB_size (s : ByteArray) (x : ByteArray) (hx : x ∈ cutB s) : x.size ≤ s.size := by
  obtain ⟨l, hl, rfl⟩ := List.mem_map.1 hx
  have h := cutL_size _ _ _ l hl
  have e : (mkB l).size = l.length := List.size_toArray
  have e2 : s.data.toList.length = s.size := by rw [Array.length_toList]; rfl
  rw [List.length_nil] at h
  omega
theorem readX_ok (s : ByteArray) (hs : s.size ≤ 100000000) : okX (readX s).1 := by
  have h1 := nxt_mem (s := (cutB s, false)) (N := 1000000000000) (fun x hx => Nat.le_trans (cutB_size s x hx) (by omega))
  have hl : (nxtO (cutB s, false)).2.1.length ≤ 140737488351232 := by
    have h4 := nxt_len (cutB s, false)
    have h5 := cutL_len s.data.toList false []
    have h6 : s.data.toList.length = s.size := by rw [Array.length_toList]; rfl
    have h7 : (cutB s).length = (cutL s.data.toList false []).length := by unfold cutB; rw [List.length_map]
    simp only at *
    omega
  unfold readX
  exact rdB_ok (by omega) (rdA_mem _ h1.2) (rdA_ok (kindW_range _) (by omega) hl h1.2)
theorem below9 {w wc : World} {g : Nat} (h : Below w.heap.size w wc) (hg : w.heap.size ≤ g) (u0 u1 u2 u3 u4 u5 u6 u7 u8 : Value) : Below w.heap.size w (((((((((wc.setCell ⟨g, 0, none⟩ u0).setCell ⟨g, 1, none⟩ u1).setCell ⟨g, 2, none⟩ u2).setCell ⟨g, 3, none⟩ u3).setCell ⟨g, 4, none⟩ u4).setCell ⟨g, 5, none⟩ u5).setCell ⟨g, 6, none⟩ u6).setCell ⟨g, 7, none⟩ u7).setCell ⟨g, 8, none⟩ u8) := (((((((((h.setCell hg u0).setCell hg u1).setCell hg u2).setCell hg u3).setCell hg u4).setCell hg u5).setCell hg u6).setCell hg u7).setCell hg u8)
theorem inv9 {w : World} {p bx : Nat} {ok : Nat → Prop} {s : StO} {w4 : World} {k : Int} (hbw : Below w.heap.size w w4) (hrw : w4.heap[w.heap.size]? = some (.cells (boxO zOp (.slice none 0 0)) 24 (0, 0))) (ha : AtO p ok s w4) (hx : w4.heap[bx]? = some (.cells (boxO zOp (.slice none 0 0)) 24 (0, 0))) (L : LieX w p bx ok) :
    InvX w p bx ok ⟨k, 0, 0, 0, em, em, em, em, []⟩ (.slice none 0 0) s (((((((((w4.setCell ⟨bx, 0, none⟩ (.int .i64 k)).setCell ⟨bx, 1, none⟩ (.int .i64 0)).setCell ⟨bx, 2, none⟩ (.int .i64 0)).setCell ⟨bx, 3, none⟩ (.int .i64 0)).setCell ⟨bx, 4, none⟩ (.string ⟨#[]⟩)).setCell ⟨bx, 5, none⟩ (.string ⟨#[]⟩)).setCell ⟨bx, 6, none⟩ (.string ⟨#[]⟩)).setCell ⟨bx, 7, none⟩ (.string ⟨#[]⟩)).setCell ⟨bx, 8, none⟩ (.slice none 0 0)) := by
  have h0 : InvX w p bx ok zOp (.slice none 0 0) s w4 := ⟨hbw, hrw, ha, hx, Kd.R_nil _ _ _ _ _⟩
  exact ((((((((h0.put L 0 _ (y := ⟨k, 0, 0, 0, em, em, em, em, []⟩) rfl rfl).put L 1 _ (y := ⟨k, 0, 0, 0, em, em, em, em, []⟩) rfl rfl).put L 2 _ (y := ⟨k, 0, 0, 0, em, em, em, em, []⟩) rfl rfl).put L 3 _ (y := ⟨k, 0, 0, 0, em, em, em, em, []⟩) rfl rfl).put L 4 _ (y := ⟨k, 0, 0, 0, em, em, em, em, []⟩) rfl rfl).put L 5 _ (y := ⟨k, 0, 0, 0, em, em, em, em, []⟩) rfl rfl).put L 6 _ (y := ⟨k, 0, 0, 0, em, em, em, em, []⟩) rfl rfl).put L 7 _ (y := ⟨k, 0, 0, 0, em, em, em, em, []⟩) rfl rfl).put L 8 _ (y := ⟨k, 0, 0, 0, em, em, em, em, []⟩) rfl rfl
theorem inv9a {w : World} {p : Nat} {ok : Nat → Prop} {s : StO} {w4 : World} {k : Int} (hbw : Below w.heap.size w w4) (hrw : w4.heap[w.heap.size]? = some (.cells (boxO zOp (.slice none 0 0)) 24 (0, 0))) (ha : AtO p ok s w4) (L : LieX w p w4.heap.size ok) :
    InvX w p w4.heap.size ok ⟨k, 0, 0, 0, em, em, em, em, []⟩ (.slice none 0 0) s (w4.alloc (.cells #[.int .i64 k, .int .i64 0, .int .i64 0, .int .i64 0, .string ⟨#[]⟩, .string ⟨#[]⟩, .string ⟨#[]⟩, .string ⟨#[]⟩, .slice none 0 0] 24 (0, 0))) :=
  ⟨below_alloc hbw _, ((below_alloc (Below.refl _ _) _).block w.heap.size (blk_lt' hrw)).trans hrw, ha.below (below_alloc (Below.refl _ _) _), heap_alloc_new _ _, Kd.R_nil _ _ _ _ _⟩
theorem WD.C {w : World} (h : WD w) : Kd.string.C w (some ⟨0, 0, none⟩) 8 wordL := by
  refine ⟨rfl, by omega, fun _ => ⟨_, rfl, ?_⟩⟩
  intro j p hp
  refine ⟨[.string p], rfl, rfl, ?_⟩
  intro i u hu
  match i, hu with
  | 0, hu =>
    simp at hu
    subst hu
    show w.cell? ((⟨0, 0, none⟩ : Addr).add (j * 1 + 0)) = _
    rw [add_plain, h.cell, List.getElem?_map, Nat.mul_one, Nat.add_zero, hp]
    rfl
theorem below_of_but {w W W' : World} {p : Nat} (h : Below w.heap.size w W) (hb : But (· = p) W W') (hp : w.heap.size ≤ p) : Below w.heap.size w W' :=
  ⟨hb.os.trans h.os, hb.tape.trans h.tape, hb.output.trans h.output, Nat.le_trans h.size hb.size, fun k hk => (hb.block k (Nat.lt_of_lt_of_le hk h.size) (by omega)).trans (h.block k hk)⟩
theorem kind_max (v : ByteArray) : max 0 (idxS wordL v) = kindW v := by
  unfold idxS kindW
  by_cases h8 : idxN wordL v < 8
  · rw [if_pos h8, if_pos (show _ < wordL.length from h8)]; omega
  · rw [if_neg h8, if_neg (show ¬ _ < wordL.length from h8)]; omega
set_option maxHeartbeats 20000000 in
set_option maxRecDepth 100000 in
theorem Read_c (s : ByteArray) (hs : s.size ≤ 100000000) (w : World) (hgl : GL w) (hwd : WD w) :
    Calls Tryd.prog 10 #[.string s] w fun e w' => (∃ A c, e = .returned (.tuple #[opOf (readS s).1 A c, .int .i64 (readS s).2]) ∧ (readS s).1.f8.length ≤ c ∧ Kd.C k51 w' A (readS s).1.f8.length (readS s).1.f8) ∧ Below w.heap.size w w' := by
  have HG := Aside0.mk hgl
  have HW := Aside0.mk hwd
  have hb0 := below_alloc (Below.refl w.heap.size w) (.cells (boxO zOp (.slice none 0 0)) 24)
  have HB0 := Aside0.mk hb0
  have HR0 := Aside0.mk (heap_alloc_new w (.cells (boxO zOp (.slice none 0 0)) 24))
  have HCUT := Aside0.mk (cut_c s (by omega) (w.alloc (.cells (boxO zOp (.slice none 0 0)) 24)))
  clear hgl hwd hb0
  go_enter Tryd.func10, Tryd.ntmps10
  go_upto_region 2 with (go_at_call 25; refine HCUT.out.mono ?_; rintro e w1 ⟨⟨v, rfl, hR⟩, hb⟩; have HR := Aside0.mk hR; have HB1 := Aside0.mk hb; clear hb; obtain ⟨A, c, rfl⟩ := Kd.R_slice hR; clear hR)
  have hsz : w.heap.size + 1 ≤ w1.heap.size := by have := HB1.out.size; simpa using this
  obtain ⟨ok, hok⟩ : ∃ ok : Nat → Prop, ok = fun k => True ∧ (w.alloc (.cells (boxO zOp (.slice none 0 0)) 24)).heap.size ≤ k ∧ k < w1.heap.size := ⟨_, rfl⟩
  have hokp : ∀ k, ok k → k < w1.heap.size := fun k hk => by rw [hok] at hk; exact hk.2.2
  have HA := Aside0.mk (show AtO w1.heap.size ok (cutB s, false) (w1.alloc (.cells #[.slice A (cutB s).length c, .bool false] 59)) from ⟨fun e => by have := hokp _ e; omega, A, c, heap_alloc_new w1 _, (Kd.R_reads' HR.out).2.1, by rw [hok]; exact Kd.F_alloc (F_of_R HR.out) _⟩)
  have HOK := Aside0.mk hokp
  have HB2 := Aside0.mk (below_alloc (below_then HB0.out HB0.out.size HB1.out) (.cells #[.slice A (cutB s).length c, .bool false] 59))
  have HR2 := Aside0.mk (((below_alloc HB1.out (.cells #[.slice A (cutB s).length c, .bool false] 59)).block w.heap.size (by simp)).trans HR0.out)
  have hnx := nxt_mem (s := (cutB s, false)) (N := 1000000000000) (fun x hx => Nat.le_trans (cutB_size s x hx) (by omega))
  clear hok hokp
  go_cut [5] from 7 (fun v5 wc => ∃ bx, v5 = .pointer (some ⟨bx, 0, none⟩) ∧ Aside0 (LieX w w1.heap.size bx ok ∧ InvX w w1.heap.size bx ok ⟨kindR s, 0, 0, 0, em, em, em, em, []⟩ (.slice none 0 0) (nxtO (cutB s, false)).2 wc))
  case first =>
    have HMX := Aside0.mk (kind_max (nxtO (cutB s, false)).1)
    obtain ⟨I, hI⟩ : ∃ I, I = idxS wordL (nxtO (cutB s, false)).1 := ⟨_, rfl⟩
    have hmx : max 0 I = kindR s := by rw [hI]; exact HMX.out
    have HIX : Aside0 (∀ W, WD W → Calls Tryd.prog 26 #[.slice (some ⟨0, 0, none⟩) 8 8, .string (nxtO (cutB s, false)).1] W fun e w' => e = .returned (.int .i64 I) ∧ w' = W) := ⟨fun W hW => by
      rw [hI]
      exact index_c wordL (nxtO (cutB s, false)).1 (some ⟨0, 0, none⟩) 8 W (by decide) hW.C⟩
    clear hI
    go_region_with (first
      | (go_at_call 27
         refine (next_c w1.heap.size ok (cutB s, false) _ (HA.out.below (by repeat (first | exact Below.refl _ _ | apply below_drew | apply below_alloc)))).mono ?_
         rintro e w3 ⟨rfl, ha, hb⟩
         have hbw := Aside0.mk (below_of_but (below_then HB2.out HB2.out.size (by repeat (first | exact Below.refl _ _ | apply below_drew | apply below_alloc))) hb (by omega))
         have hrw := Aside0.mk ((hb.block w.heap.size (by simp; omega) (by omega)).trans (((show Below (w1.alloc (.cells #[.slice A (cutB s).length c, .bool false] 59)).heap.size (w1.alloc (.cells #[.slice A (cutB s).length c, .bool false] 59)) _ by repeat (first | exact Below.refl _ _ | apply below_drew | apply below_alloc)).block w.heap.size (by simp; omega)).trans HR2.out))
         try (have hx := (hb.block (w1.heap.size + 1) (by simp) (by simp)).trans (two_new_ w1 (.cells #[.slice A (cutB s).length c, .bool false] 59) (.cells #[.int .i64 0, .int .i64 0, .int .i64 0, .int .i64 0, .string ⟨#[]⟩, .string ⟨#[]⟩, .string ⟨#[]⟩, .string ⟨#[]⟩, .slice none 0 0] 24))
              have hy := Lib.cell_of_heap hx
              have hz := Lib.frozen_of_heap hx
              have HXX := Aside0.mk (show w3.heap[w1.heap.size + 1]? = some (Obj.cells (boxO zOp (Value.slice none 0 0)) 24 (0, 0)) from hx)
              clear hx)
         have HSZ := Aside0.mk hb.size
         have HAA := Aside0.mk ha
         clear ha hb)
      | (go_at_call 26
         refine (HIX.out _ (HW.out.below (below_then hbw.out hbw.out.size (by repeat (first | exact Below.refl _ _ | apply below_drew | apply below_alloc))))).mono ?_
         rintro e w4 ⟨rfl, rfl⟩))
    all_goals (go_wp2_with fail; go_meet)
    all_goals have hsz4 := HSZ.out
    all_goals simp at hsz4
    all_goals have hLok := HOK.out
    all_goals refine ⟨_, rfl, ⟨⟨by omega, by omega, hLok⟩, ?_⟩⟩
    all_goals first
      | with_reducible exact inv9 hbw.out hrw.out HAA.out HXX.out ⟨by omega, by omega, hLok⟩
      | with_reducible exact inv9a hbw.out hrw.out HAA.out ⟨by omega, by omega, hLok⟩
  obtain ⟨bx, rfl, HLI⟩ := hcut
  have HL := Aside0.mk HLI.out.1
  have HI := Aside0.mk HLI.out.2
  clear HLI
  obtain ⟨k, hkk⟩ : ∃ k, k = kindR s := ⟨_, rfl⟩
  have hkr : 0 ≤ k ∧ k ≤ 7 := by rw [hkk]; exact kindW_range _
  rw [← hkk] at HI
  have HK := Aside0.mk hkk
  clear hkk
  have hk := Lib.cell_of_heap HI.out.box
  unfold boxO at hk
  go_upto_block 0 with fail
  go_cut [5] from 7 (fun v5 wd => v5 = .pointer (some ⟨bx, 0, none⟩) ∧ Aside0 (k ≠ 0 ∧ ∃ v8, InvX w w1.heap.size bx ok (rdA k (nxtO (cutB s, false)).2).1 v8 (rdA k (nxtO (cutB s, false)).2).2 wd))
  case first =>
    by_cases hk0 : k = 0
    · subst hk0
      have hr := Lib.cell_of_heap HI.out.res
      have hz := Lib.frozen_of_heap HI.out.res
      unfold boxO zOp at hr
      clear hk
      go_wp2_with fail
      have hS : readS s = (zOp, 2) := by unfold readS; rw [if_pos (.inl HK.out.symm)]
      refine bodyPost_ret (results_ct rfl _ _ w.heap.size 24 _ (0, 0) _ rfl (set_blk (j := 8) (set_blk (j := 7) (set_blk (j := 6) (set_blk (j := 5) (set_blk (j := 4) (set_blk (j := 3) (set_blk (j := 2) (set_blk (j := 1) (set_blk (j := 0) HI.out.res _) _) _) _) _) _) _) _) _) Tryd.underlying24 rfl (by kernel_rfl)) rfl ⟨⟨none, 0, ?_, ?_, ?_⟩, ?_⟩
      · rw [hS]; rfl
      · rw [hS]; exact Nat.le_refl 0
      · rw [hS]; exact Kd.C_nil _ _
      · with_reducible exact below9 HI.out.bel (Nat.le_refl _) _ _ _ _ _ _ _ _ _
    · by_cases hk1 : k = 1
      · subst hk1
        --CREATE
        have HSZ0 := Aside0.mk hnx.2
        clear hnx
        go_wp2_with fail
        refine (next_c w1.heap.size ok _ wc HI.out.at_).mono ?_
        rintro e w3 ⟨rfl, ha, hb⟩
        have HI1 := Aside0.mk (HI.out.go HL.out ha hb)
        clear ha hb hk
        go_wp2_with fail
        refine (next_c w1.heap.size ok _ _ HI1.out.at_).mono ?_
        rintro e w4 ⟨rfl, ha, hb⟩
        have HI2 := Aside0.mk (HI1.out.go HL.out ha hb)
        have HN1 := Aside0.mk (nxt_mem HSZ0.out)
        have HN2 := Aside0.mk (nxt_mem HN1.out.2)
        clear ha hb
        go_wp2_with fail
        refine (said_O w1.heap.size ok _ _ HN2.out.1 _ (fun W hW => HG.out.below (below_of_but HI2.out.bel hW (by omega))) HI2.out.at_).mono ?_
        rintro e w5 ⟨rfl, ha, hb⟩
        have HI3 : Aside0 (InvX w w1.heap.size bx ok _ _ (nsdO (nxtO (nxtO (cutB s, false)).2).2).2 w5) := ⟨HI2.out.go HL.out ha hb⟩
        clear ha hb
        go_wp2_with fail
        refine (next_c w1.heap.size ok _ _ HI3.out.at_).mono ?_
        rintro e w6 ⟨rfl, ha, hb⟩
        have HI4 := Aside0.mk (HI3.out.go HL.out ha hb)
        have HN4 : Aside0 (_ ∧ ∀ x ∈ (nxtO (nsdO (nxtO (nxtO (cutB s, false)).2).2).2).2.1, x.size ≤ 1000000000000) := ⟨nxt_mem (s := (nsdO (nxtO (nxtO (cutB s, false)).2).2).2) HN2.out.2⟩
        clear ha hb
        go_wp2_with fail
        refine (said_O w1.heap.size ok _ _ HN4.out.1 _ (fun W hW => HG.out.below (below_of_but HI4.out.bel hW (by omega))) HI4.out.at_).mono ?_
        rintro e w7 ⟨rfl, ha, hb⟩
        have HI5 : Aside0 (InvX w w1.heap.size bx ok _ _ (nsdO (nsdO (nxtO (nxtO (cutB s, false)).2).2).2).2 w7) := ⟨HI4.out.go HL.out ha hb⟩
        have hx := Lib.cell_of_heap HI5.out.box
        have hz := Lib.frozen_of_heap HI5.out.box
        unfold boxO at hx
        clear ha hb
        go_wp2_with fail
        have HI8 := Aside0.mk (((HI5.out.put HL.out 4 (.string (nxtO (nxtO (cutB s, false)).2).1) (y := ⟨1, 0, 0, 0, (nxtO (nxtO (cutB s, false)).2).1, em, em, em, []⟩) rfl rfl).put HL.out 5 (.string (nsdO (nxtO (nxtO (cutB s, false)).2).2).1) (y := ⟨1, 0, 0, 0, (nxtO (nxtO (cutB s, false)).2).1, (nsdO (nxtO (nxtO (cutB s, false)).2).2).1, em, em, []⟩) rfl rfl).put HL.out 7 (.string (nsdO (nsdO (nxtO (nxtO (cutB s, false)).2).2).2).1) (y := ⟨1, 0, 0, 0, (nxtO (nxtO (cutB s, false)).2).1, (nsdO (nxtO (nxtO (cutB s, false)).2).2).1, em, (nsdO (nsdO (nxtO (nxtO (cutB s, false)).2).2).2).1, []⟩) rfl rfl)
        obtain ⟨l0, b0, hlb⟩ : ∃ l0 b0, (nsdO (nsdO (nxtO (nxtO (cutB s, false)).2).2).2).2 = (l0, b0) := ⟨_, _, rfl⟩
        have hl0 : l0.length ≤ 1000000000 := by
          have e : l0 = (nsdO (nsdO (nxtO (nxtO (cutB s, false)).2).2).2).2.1 := by rw [hlb]
          have h1 := nxt_len (nsdO (nxtO (nxtO (cutB s, false)).2).2).2
          have h2 := nxt_len (nxtO (nxtO (cutB s, false)).2).2
          have h3 := nxt_len (nxtO (cutB s, false)).2
          have h4 := nxt_len (cutB s, false)
          have h5 := cutL_len s.data.toList false []
          have h6 : s.data.toList.length = s.size := by rw [Array.length_toList]; rfl
          have h7 : (cutB s).length = (cutL s.data.toList false []).length := by unfold cutB; rw [List.length_map]
          rw [e]
          have h8 : (nsdO (nsdO (nxtO (nxtO (cutB s, false)).2).2).2).2.1.length = (nxtO (nsdO (nxtO (nxtO (cutB s, false)).2).2).2).2.1.length := rfl
          have h9 : (nsdO (nxtO (nxtO (cutB s, false)).2).2).2.1.length = (nxtO (nxtO (nxtO (cutB s, false)).2).2).2.1.length := rfl
          simp only at *
          omega
        have hsz1 : ∀ x ∈ l0, x.size ≤ 1000000000000 := by
          have e : l0 = (nsdO (nsdO (nxtO (nxtO (cutB s, false)).2).2).2).2.1 := by rw [hlb]
          rw [e]
          exact HN4.out.2
        rw [hlb] at HI8
        have HLB := Aside0.mk hlb
        have HL0 := Aside0.mk hl0
        have HSZ1 := Aside0.mk hsz1
        clear hlb hl0 hsz1 hx hz
        go_loopg [] l0.length (fun n wr => Aside0 (InvA w w1.heap.size bx ok (nxtO (nxtO (cutB s, false)).2).1 (nsdO (nxtO (nxtO (cutB s, false)).2).2).1 (nsdO (nsdO (nxtO (nxtO (cutB s, false)).2).2).2).1 l0 b0 n wr))
        case atStart => exact ⟨⟨[], .slice none 0 0, l0, b0, rfl, rfl, HSZ1.out, by simp, HI8.out⟩⟩
        case round =>
          obtain ⟨al, v8, l, b, hn, hpr, hsz, hln, hI⟩ := hrel.out
          obtain ⟨A8, c8, rfl⟩ := Kd.R_slice hI.row
          have HI6 := Aside0.mk hI
          have HPR := Aside0.mk hpr
          have HSZ := Aside0.mk hsz
          have HLN := Aside0.mk hln
          have HNN := Aside0.mk hn
          obtain ⟨A7, c7, hp0⟩ : ∃ A7 c7, wr.heap[w1.heap.size]? = some (.cells #[.slice A7 l.length c7, .bool b] 59 (0, 0)) := by
            obtain ⟨-, A7, c7, hp0, -, -⟩ := hI.at_
            exact ⟨A7, c7, hp0⟩
          have q0 := cell_blk (j := 0) (v := .slice A7 l.length c7) hp0 rfl
          clear hI hpr hsz hln hn hp0 hrel
          cases l with
          | nil =>
            go_wp2_with fail
            go_meet
            refine ⟨rfl, ⟨by decide, .slice A8 al.length c8, ?_⟩⟩
            have e : rdA 1 (nxtO (cutB s, false)).2 = (⟨1, 0, 0, 0, (nxtO (nxtO (cutB s, false)).2).1, (nsdO (nxtO (nxtO (cutB s, false)).2).2).1, em, (nsdO (nsdO (nxtO (nxtO (cutB s, false)).2).2).2).1, al⟩, [], b) := by
              unfold rdA
              rw [if_pos rfl, HLB.out]
              simp only
              rw [HPR.out]
              simp [prsO]
            rw [e]
            exact HI6.out
          | cons q l =>
            have y8 := cell_blk (j := 8) (v := .slice A8 al.length c8) HI6.out.box rfl
            have HID := Aside0.mk (HI6.out.below HL.out (below_drew (Below.refl _ _)))
            rw [List.length_cons] at q0
            go_wp2_with fail
            refine start_ (n := 8) (S := fun w' => w'.cell? ⟨bx, 8, none⟩ = some (.slice A8 al.length c8)) (ds := [7]) #[false, false, false, false, false, false, false, false] (by kernel_rfl) rfl rfl (cell_drew y8) (fun hHeld => ?_)
            refine pure_ (i := 0) (N := some 46) (v := ?_) (a' := ?_) #[true, false, false, false, false, false, false, false] rfl rfl (by kernel_rfl) (fun _ _ _ h => h) (Or.inl ⟨by rfl, ?_⟩) ?_ ?_
            rotate_left
            · intro w'
              go_simp
              with_reducible rfl
            rotate_left
            · simp only [Act.put, List.setIfInBounds_toArray, List.set_cons_zero, List.set_cons_succ, i64_w, i32_w]
              rfl
            refine pure_ (i := 2) (N := some 48) (v := ?_) (a' := ?_) #[true, false, true, false, false, false, false, false] rfl rfl (by kernel_rfl) (fun _ _ _ h => h) (Or.inl ⟨by rfl, ?_⟩) ?_ ?_
            rotate_left
            · intro w'
              go_simp
              with_reducible rfl
            rotate_left
            · simp only [Act.put, List.setIfInBounds_toArray, List.set_cons_zero, List.set_cons_succ, i64_w, i32_w]
              rfl
            refine take_ (i := 1) (N := some 47) (v := ?_) (a' := ?_) #[true, true, true, false, false, false, false, false] rfl rfl (by kernel_rfl) (fun _ _ _ h => h) (Or.inl ⟨by rfl, ?_⟩) hHeld ?_ ?_
            rotate_left
            · intro w' s0
              go_split_ands
              go_simp
              with_reducible rfl
            rotate_left
            · simp only [Act.put, List.setIfInBounds_toArray, List.set_cons_zero, List.set_cons_succ, i64_w, i32_w]
              rfl
            refine one_ (i := 3) (N := some 49) #[true, true, true, true, false, false, false, false] rfl rfl (by kernel_rfl) (by decide) (fun K hK => ?_)
            refine goes_ Tryd.func29 (by kernel_rfl) rfl #[.pointer (some ⟨w1.heap.size, 0, none⟩)] (by rfl) rfl rfl (by (try simp only [List.map_toArray, List.map_cons, List.map_nil]); first | done | rfl) ?_
            refine (pair_O w1.heap.size ok HL.out.hok (q :: l, b) HSZ.out _ (fun W hW => HG.out.below (below_of_but HID.out.bel hW (by omega))) HID.out.at_).mono ?_
            rintro e w' ⟨rfl, ha, hb⟩
            have HI7 := Aside0.mk (HID.out.go HL.out ha hb)
            have y7 := cell_blk (j := 8) (v := .slice A8 al.length c8) HI7.out.box rfl
            clear ha hb
            refine ⟨_, rfl, ?_⟩
            refine hK.out _ _ y7 (fun hHeld => ?_)
            clear hK K
            refine norm_ (a' := ?_) ?_ ?_
            rotate_left
            · show Act.put _ (some 49) _ = _
              simp only [Act.put, List.setIfInBounds_toArray, List.set_cons_zero, List.set_cons_succ, i64_w, i32_w]
              rfl
            refine one_ (i := 4) (N := some 50) #[true, true, true, true, true, false, false, false] rfl rfl (by kernel_rfl) (by decide) (fun K hK => ?_)
            refine value_ (w1 := World.alloc w' (.cells #[.string (prO (q :: l, b)).1.f0, .string (prO (q :: l, b)).1.f1] 51 (0, 0))) (v := .slice (some ⟨w'.heap.size, 0, none⟩) 1 1) (by rfl) rfl (by go_simp) ?_
            refine hK.out _ _ (pw_cell_below (below_alloc (Below.refl _ _) _) y7) (fun hHeld => ?_)
            clear hK K
            refine norm_ (a' := ?_) ?_ ?_
            rotate_left
            · show Act.put _ (some 50) _ = _
              simp only [Act.put, List.setIfInBounds_toArray, List.set_cons_zero, List.set_cons_succ, i64_w, i32_w]
              rfl
            refine one_ (i := 5) (N := some 51) #[true, true, true, true, true, true, false, false] rfl rfl (by kernel_rfl) (by decide) (fun K hK => ?_)
            refine Kd.R_append_step (w0 := w') (W := w') k51 (w1.heap.size + 1) (by rfl) (.tmp 47) (.tmp 50) 22 51 (.agg #[.string ⟨#[]⟩, .string ⟨#[]⟩]) 32 rfl Tryd.underlying22 info_attr rfl (by decide) (by decide) (.slice A8 al.length c8) al (prO (q :: l, b)).1 [.string (prO (q :: l, b)).1.f0, .string (prO (q :: l, b)).1.f1] (fun k => k ≠ bx) (fun _ => False) rfl rfl (k51_mkM w' (w1.heap.size + 1) _ (prO (q :: l, b)).1) (fun _ h => h.elim) (fun j hj => ?_) HI7.out.row (Below.refl _ _) (by have := HI7.out.at_.lt; omega) ?_ ?_
            · have := blk_lt' HI7.out.box; omega
            · have e1 := HLN.out; have e2 := HL0.out; rw [List.length_cons] at e1; show (al.length + 1) * 32 ≤ _; omega
            intro v1 wa hR1 hb1 hg1 hat1
            obtain ⟨A9, c9, rfl⟩ := Kd.R_slice hR1
            have HI9 := Aside0.mk (HI7.out.grown HL.out hg1 (fun j hj => ⟨Kd.R_base HI7.out.row j hj, HI7.out.row.1 j hj⟩) hR1)
            clear hR1 hb1 hg1 hat1
            have y9 := cell_blk (j := 8) (v := .slice A8 al.length c8) HI9.out.2.1 rfl
            have z9 := Lib.frozen_of_heap HI9.out.2.1 8
            refine hK.out _ _ y9 (fun hHeld => ?_)
            clear hK K
            refine norm_ (a' := ?_) ?_ ?_
            rotate_left
            · show Act.put _ (some 51) _ = _
              simp only [Act.put, List.setIfInBounds_toArray, List.set_cons_zero, List.set_cons_succ, i64_w, i32_w]
              rfl
            refine pure_ (i := 6) (N := some 52) (v := ?_) (a' := ?_) #[true, true, true, true, true, true, true, false] rfl rfl (by kernel_rfl) (fun _ _ _ h => h) (Or.inl ⟨by rfl, ?_⟩) ?_ ?_
            rotate_left
            · intro w'
              go_simp
              with_reducible rfl
            rotate_left
            · simp only [Act.put, List.setIfInBounds_toArray, List.set_cons_zero, List.set_cons_succ, i64_w, i32_w]
              rfl
            refine last_ (i := 7) (N := none) #[true, true, true, true, true, true, true, true] rfl rfl (by kernel_rfl) (by decide) (fun K hK => ?_)
            refine skip_ (w1 := ?_) (by rfl) rfl ?_ ?_
            rotate_left
            · go_simp
              rfl
            refine hK.out _ _ ?_
            clear hK K
            refine done_ (by kernel_rfl) ?_
            go_wp2_with fail
            go_roundg l.length
            case measure => have := HNN.out; rw [List.length_cons] at this; omega
            case rel =>
              refine ⟨⟨al ++ [(prO (q :: l, b)).1], .slice A9 (al.length + 1) c9, l, (prO (q :: l, b)).2.2, rfl, ?_, fun x hx => HSZ.out x (List.mem_cons_of_mem _ hx), ?_, ?_⟩⟩
              · rw [HPR.out, List.append_assoc]
                rfl
              · have := HLN.out
                rw [List.length_append]
                rw [List.length_cons] at this
                show al.length + 1 + l.length = _
                omega
              · have h9 := HI9.out
                rw [show (al ++ [(prO (q :: l, b)).1]).length = al.length + 1 by simp] at h9
                exact InvX.told (y := ⟨1, 0, 0, 0, (nxtO (nxtO (cutB s, false)).2).1, (nsdO (nxtO (nxtO (cutB s, false)).2).2).1, em, (nsdO (nsdO (nxtO (nxtO (cutB s, false)).2).2).2).1, al ++ [(prO (q :: l, b)).1]⟩) HL.out rfl rfl h9
        --END CREATE
      · have b0 : (k == 0) = false := by simpa using hk0
        have b1 : (k == 1) = false := by simpa using hk1
        have HH := Aside0.mk (handle_O w1.heap.size ok (nxtO (cutB s, false)).2 hnx.2 wc (HG.out.below HI.out.bel) (fun W hW => HG.out.below (below_of_but HI.out.bel hW (by omega))) HI.out.at_)
        clear hnx
        go_wp2_with (go_at_call 30; refine HH.out.mono ?_; rintro e w3 ⟨rfl, ha, hb⟩; have HI3 := Aside0.mk (HI.out.go HL.out ha hb); have hx := Lib.cell_of_heap HI3.out.box; have hz := Lib.frozen_of_heap HI3.out.box; unfold boxO at hx; clear ha hb hk)
        go_meet
        exact ⟨rfl, ⟨hk0, by rw [rdA_ne hk1]; exact ⟨_, HI3.out.put HL.out 1 _ rfl rfl⟩⟩⟩
  --SECOND
  obtain ⟨rfl, HAI⟩ := hcut
  obtain ⟨hk0, v8, hI⟩ := HAI.out
  clear HAI
  have hsz1 := rdA_mem k hnx.2
  have hf0 := rdA_k k (nxtO (cutB s, false)).2
  have HRX : Aside0 (readX s = rdB k (rdA k (nxtO (cutB s, false)).2)) := ⟨by unfold readX; rw [← HK.out]⟩
  clear hnx
  generalize rdA k (nxtO (cutB s, false)).2 = a1 at *
  obtain ⟨x1, s1⟩ := a1
  simp only at hsz1 hf0 hI
  have H0 := Aside0.mk hsz1
  have HI0 := Aside0.mk hI
  have hx0 := Lib.cell_of_heap hI.box
  unfold boxO at hx0
  clear hsz1 hI
  go_upto_block 3 with fail
  go_cut [5] from 7 (fun v5 wd => v5 = .pointer (some ⟨bx, 0, none⟩) ∧ Aside0 (∃ v8, InvX w w1.heap.size bx ok (rdB k (x1, s1)).1 v8 (rdB k (x1, s1)).2 wd))
  case first =>
    have h7 : k = 1 ∨ k = 2 ∨ k = 3 ∨ k = 4 ∨ k = 5 ∨ k = 6 ∨ k = 7 := by omega
    rcases h7 with rfl | rfl | rfl | rfl | rfl | rfl | rfl
    · rw [hf0] at *
      clear hx0
      go_wp2_with fail
      go_meet
      exact ⟨rfl, ⟨v8, HI0.out⟩⟩
    · clear hx0
      go_wp2_with fail
      refine (handle_O w1.heap.size ok _ H0.out _ (HG.out.below HI0.out.bel) (fun W hW => HG.out.below (below_of_but HI0.out.bel hW (by omega))) HI0.out.at_).mono ?_
      rintro e w3 ⟨rfl, ha, hb⟩
      have HI1 := Aside0.mk (HI0.out.go HL.out ha hb)
      have hx1 := Lib.cell_of_heap HI1.out.box
      have hz1 := Lib.frozen_of_heap HI1.out.box
      unfold boxO at hx1
      clear ha hb
      go_wp2_with fail
      have HI2 := Aside0.mk (HI1.out.put HL.out 2 (.int .i64 (hdlO s1).1) (y := ⟨x1.f0, x1.f1, (hdlO s1).1, x1.f3, x1.f4, x1.f5, x1.f6, x1.f7, x1.f8⟩) rfl rfl)
      have H1 := Aside0.mk (hdl_mem H0.out)
      clear hx1 hz1
      refine (handle_O w1.heap.size ok _ H1.out _ (HG.out.below HI2.out.bel) (fun W hW => HG.out.below (below_of_but HI2.out.bel hW (by omega))) HI2.out.at_).mono ?_
      rintro e w4 ⟨rfl, ha, hb⟩
      have HI3 := Aside0.mk (HI2.out.go HL.out ha hb)
      have hx1 := Lib.cell_of_heap HI3.out.box
      have hz1 := Lib.frozen_of_heap HI3.out.box
      unfold boxO at hx1
      clear ha hb
      go_wp2_with fail
      go_meet
      exact ⟨rfl, ⟨v8, HI3.out.put HL.out 3 (.int .i64 (hdlO (hdlO s1).2).1) (y := (rdB 2 (x1, s1)).1) rfl rfl⟩⟩
    · clear hx0
      go_wp2_with fail
      refine (handle_O w1.heap.size ok _ H0.out _ (HG.out.below HI0.out.bel) (fun W hW => HG.out.below (below_of_but HI0.out.bel hW (by omega))) HI0.out.at_).mono ?_
      rintro e w3 ⟨rfl, ha, hb⟩
      have HI1 := Aside0.mk (HI0.out.go HL.out ha hb)
      have hx1 := Lib.cell_of_heap HI1.out.box
      have hz1 := Lib.frozen_of_heap HI1.out.box
      unfold boxO at hx1
      clear ha hb
      go_wp2_with fail
      go_meet
      exact ⟨rfl, ⟨v8, HI1.out.put HL.out 3 (.int .i64 (hdlO s1).1) (y := (rdB 3 (x1, s1)).1) rfl rfl⟩⟩
    · clear hx0
      go_wp2_with fail
      go_meet
      exact ⟨rfl, ⟨v8, HI0.out⟩⟩
    · clear hx0
      go_wp2_with fail
      refine (pair_O w1.heap.size ok HL.out.hok _ H0.out _ (fun W hW => HG.out.below (below_of_but HI0.out.bel hW (by omega))) HI0.out.at_).mono ?_
      rintro e w3 ⟨rfl, ha, hb⟩
      have HI1 := Aside0.mk ((HI0.out.go HL.out ha hb).below HL.out (below_alloc (Below.refl _ _) (.cells #[.string (prO s1).1.f0, .string (prO s1).1.f1] 51)))
      have hbx := blk_lt' (HI0.out.go HL.out ha hb).box
      have hg0 := cell_blk (j := 0) (v := .string (prO s1).1.f0) (heap_alloc_new w3 (.cells #[.string (prO s1).1.f0, .string (prO s1).1.f1] 51)) rfl
      have hg1 := cell_blk (j := 1) (v := .string (prO s1).1.f1) (heap_alloc_new w3 (.cells #[.string (prO s1).1.f0, .string (prO s1).1.f1] 51)) rfl
      clear ha hb
      go_wp2_with fail
      generalize w3.alloc (.cells #[.string (prO s1).1.f0, .string (prO s1).1.f1] 51) = W at HI1 hg0 hg1 ⊢
      have HID := Aside0.mk (HI1.out.below HL.out (below_drew (Below.refl _ _)))
      have hne : ¬ w3.heap.size = bx := by omega
      have hd0 := cell_drew hg0
      have hd1 := cell_drew hg1
      clear hg0 hg1
      refine start_ (n := 8) (S := fun w' => w'.cell? ⟨w3.heap.size, 0, none⟩ = some (.string (prO s1).1.f0) ∧ w'.cell? ⟨w3.heap.size, 1, none⟩ = some (.string (prO s1).1.f1)) (ds := []) #[false, false, false, false, false, false, false, false] (by kernel_rfl) rfl rfl ⟨hd0, hd1⟩ (fun hHeld => ?_)
      refine pure_ (i := 0) (N := some 73) (v := ?_) (a' := ?_) #[true, false, false, false, false, false, false, false] rfl rfl (by kernel_rfl) (fun _ _ _ h => h) (Or.inl ⟨by rfl, ?_⟩) ?_ ?_
      rotate_left
      · intro w'
        go_simp
        with_reducible rfl
      rotate_left
      · simp only [Act.put, List.setIfInBounds_toArray, List.set_cons_zero, List.set_cons_succ, i64_w, i32_w]
        rfl
      refine pure_ (i := 2) (N := some 75) (v := ?_) (a' := ?_) #[true, false, true, false, false, false, false, false] rfl rfl (by kernel_rfl) (fun _ _ _ h => h) (Or.inl ⟨by rfl, ?_⟩) ?_ ?_
      rotate_left
      · intro w'
        go_simp
        with_reducible rfl
      rotate_left
      · simp only [Act.put, List.setIfInBounds_toArray, List.set_cons_zero, List.set_cons_succ, i64_w, i32_w]
        rfl
      refine take_ (i := 1) (N := some 74) (v := ?_) (a' := ?_) #[true, true, true, false, false, false, false, false] rfl rfl (by kernel_rfl) (fun _ _ _ h => h) (Or.inl ⟨by rfl, ?_⟩) hHeld ?_ ?_
      rotate_left
      · intro w' s0
        go_split_ands
        go_simp
        with_reducible rfl
      rotate_left
      · simp only [Act.put, List.setIfInBounds_toArray, List.set_cons_zero, List.set_cons_succ, i64_w, i32_w]
        rfl
      refine take_ (i := 3) (N := some 76) (v := ?_) (a' := ?_) #[true, true, true, true, false, false, false, false] rfl rfl (by kernel_rfl) (fun _ _ _ h => h) (Or.inl ⟨by rfl, ?_⟩) hHeld ?_ ?_
      rotate_left
      · intro w' s0
        go_split_ands
        go_simp
        with_reducible rfl
      rotate_left
      · simp only [Act.put, List.setIfInBounds_toArray, List.set_cons_zero, List.set_cons_succ, i64_w, i32_w]
        rfl
      refine pure_ (i := 4) (N := some 77) (v := ?_) (a' := ?_) #[true, true, true, true, true, false, false, false] rfl rfl (by kernel_rfl) (fun _ _ _ h => h) (Or.inl ⟨by rfl, ?_⟩) ?_ ?_
      rotate_left
      · intro w'
        go_simp
        with_reducible rfl
      rotate_left
      · simp only [Act.put, List.setIfInBounds_toArray, List.set_cons_zero, List.set_cons_succ, i64_w, i32_w]
        rfl
      have x6 := cell_blk (j := 6) (v := .string x1.f6) HID.out.box rfl
      have z6 := Lib.frozen_of_heap HID.out.box 6
      have x7 := cell_blk (j := 7) (v := .string x1.f7) HI1.out.box rfl
      have z7 := Lib.frozen_of_heap HI1.out.box 7
      refine one_ (i := 5) (N := none) #[true, true, true, true, true, true, false, false] rfl rfl (by kernel_rfl) (by decide) (fun K hK => ?_)
      refine skip_ (w1 := ?_) (by rfl) rfl ?_ ?_
      rotate_left
      · go_simp
        rfl
      refine hK.out _ _ ⟨cell_far hd0 hne, cell_far hd1 hne⟩ (fun hHeld => ?_)
      clear hK K
      refine pure_ (i := 6) (N := some 78) (v := ?_) (a' := ?_) #[true, true, true, true, true, true, true, false] rfl rfl (by kernel_rfl) (fun _ _ _ h => h) (Or.inl ⟨by rfl, ?_⟩) ?_ ?_
      rotate_left
      · intro w'
        go_simp
        with_reducible rfl
      rotate_left
      · simp only [Act.put, List.setIfInBounds_toArray, List.set_cons_zero, List.set_cons_succ, i64_w, i32_w]
        rfl
      refine one_ (i := 7) (N := none) #[true, true, true, true, true, true, true, true] rfl rfl (by kernel_rfl) (by decide) (fun K hK => ?_)
      refine skip_ (w1 := ?_) (by rfl) rfl ?_ ?_
      rotate_left
      · go_simp
        rfl
      refine hK.out _ _ ⟨cell_far (cell_far hd0 hne) hne, cell_far (cell_far hd1 hne) hne⟩ (fun hHeld => ?_)
      clear hK K
      refine done_ (by kernel_rfl) ?_
      go_wp2_with fail
      go_meet
      exact ⟨rfl, ⟨v8, (HID.out.put HL.out 6 (.string (prO s1).1.f0) (y := ⟨x1.f0, x1.f1, x1.f2, x1.f3, x1.f4, x1.f5, (prO s1).1.f0, x1.f7, x1.f8⟩) rfl rfl).put HL.out 7 (.string (prO s1).1.f1) (y := (rdB 5 (x1, s1)).1) rfl rfl⟩⟩
    · clear hx0
      go_wp2_with fail
      refine (next_c w1.heap.size ok _ _ HI0.out.at_).mono ?_
      rintro e w3 ⟨rfl, ha, hb⟩
      have HI1 := Aside0.mk (HI0.out.go HL.out ha hb)
      have hx1 := Lib.cell_of_heap HI1.out.box
      have hz1 := Lib.frozen_of_heap HI1.out.box
      unfold boxO at hx1
      clear ha hb
      go_wp2_with fail
      go_meet
      exact ⟨rfl, ⟨v8, HI1.out.put HL.out 6 (.string (nxtO s1).1) (y := (rdB 6 (x1, s1)).1) rfl rfl⟩⟩
    · clear hx0
      go_wp2_with fail
      refine (next_c w1.heap.size ok _ _ HI0.out.at_).mono ?_
      rintro e w3 ⟨rfl, ha, hb⟩
      have HI1 := Aside0.mk (HI0.out.go HL.out ha hb)
      have H1 := Aside0.mk (nxt_mem H0.out).1
      clear ha hb
      go_wp2_with fail
      refine (said_O w1.heap.size ok _ _ H1.out _ (fun W hW => HG.out.below (below_of_but HI1.out.bel hW (by omega))) HI1.out.at_).mono ?_
      rintro e w4 ⟨rfl, ha, hb⟩
      have HI2 : Aside0 (InvX w w1.heap.size bx ok _ _ (nsdO s1).2 w4) := ⟨HI1.out.go HL.out ha hb⟩
      have hx1 := Lib.cell_of_heap HI2.out.box
      have hz1 := Lib.frozen_of_heap HI2.out.box
      unfold boxO at hx1
      clear ha hb
      go_wp2_with fail
      go_meet
      exact ⟨rfl, ⟨v8, HI2.out.put HL.out 7 (.string (nsdO s1).1) (y := (rdB 7 (x1, s1)).1) rfl rfl⟩⟩
  obtain ⟨rfl, HAI⟩ := hcut
  obtain ⟨v8, hI⟩ := HAI.out
  clear HAI hx0
  rw [← HRX.out] at hI
  have hok := readX_ok s hs
  have hSd : readS s = if kindR s = 0 ∨ (readX s).2.2 = true ∨ (readX s).2.1 ≠ [] ∨ chk (readX s).1 ≠ 0 ∨ lineB (readX s).1 ≠ s then (zOp, 2) else ((readX s).1, 0) := rfl
  have hkn : kindR s ≠ 0 := by rw [← HK.out]; exact hk0
  clear HRX
  generalize readX s = a2 at *
  obtain ⟨x, l, b⟩ := a2
  simp only at hI hok hSd
  have HI6 := Aside0.mk hI
  have HS := Aside0.mk hSd
  have HOX := Aside0.mk hok
  obtain ⟨A7, c7, hp0⟩ : ∃ A7 c7, wc.heap[w1.heap.size]? = some (.cells #[.slice A7 l.length c7, .bool b] 59 (0, 0)) := by
    obtain ⟨-, A7, c7, hp0, -, -⟩ := hI.at_
    exact ⟨A7, c7, hp0⟩
  have q0 := cell_blk (j := 0) (v := .slice A7 l.length c7) hp0 rfl
  have q1 := cell_blk (j := 1) (v := .bool b) hp0 rfl
  clear hI hok hSd hp0
  by_cases hb : b = true
  · subst hb
    · have hS : readS s = (zOp, 2) := by rw [HS.out, if_pos (.inr (.inl rfl))]
      have HIX := HI6
      have hr := Lib.cell_of_heap HIX.out.res
      have hz := Lib.frozen_of_heap HIX.out.res
      unfold boxO zOp at hr
      go_wp2_with fail
      refine bodyPost_ret (results_ct rfl _ _ w.heap.size 24 _ (0, 0) _ rfl (set_blk (j := 8) (set_blk (j := 7) (set_blk (j := 6) (set_blk (j := 5) (set_blk (j := 4) (set_blk (j := 3) (set_blk (j := 2) (set_blk (j := 1) (set_blk (j := 0) HIX.out.res _) _) _) _) _) _) _) _) _) Tryd.underlying24 rfl (by kernel_rfl)) rfl ⟨⟨none, 0, ?_, ?_, ?_⟩, ?_⟩
      · first | (rw [hS]; rfl) | rfl
      · first | (rw [hS]; exact Nat.le_refl 0) | exact Nat.le_refl 0
      · first | (rw [hS]; exact Kd.C_nil _ _) | exact Kd.C_nil _ _
      · with_reducible exact below9 HIX.out.bel (Nat.le_refl _) _ _ _ _ _ _ _ _ _
  obtain rfl : b = false := by simpa using hb
  clear hb
  by_cases hl : l = []
  rotate_left
  · have hpos : 0 < l.length := List.length_pos_iff.2 hl
    · have hS : readS s = (zOp, 2) := by rw [HS.out, if_pos (.inr (.inr (.inl hl)))]
      have HIX := HI6
      have hr := Lib.cell_of_heap HIX.out.res
      have hz := Lib.frozen_of_heap HIX.out.res
      unfold boxO zOp at hr
      clear hl
      go_wp2_with fail
      refine bodyPost_ret (results_ct rfl _ _ w.heap.size 24 _ (0, 0) _ rfl (set_blk (j := 8) (set_blk (j := 7) (set_blk (j := 6) (set_blk (j := 5) (set_blk (j := 4) (set_blk (j := 3) (set_blk (j := 2) (set_blk (j := 1) (set_blk (j := 0) HIX.out.res _) _) _) _) _) _) _) _) _) Tryd.underlying24 rfl (by kernel_rfl)) rfl ⟨⟨none, 0, ?_, ?_, ?_⟩, ?_⟩
      · first | (rw [hS]; rfl) | rfl
      · first | (rw [hS]; exact Nat.le_refl 0) | exact Nat.le_refl 0
      · first | (rw [hS]; exact Kd.C_nil _ _) | exact Kd.C_nil _ _
      · with_reducible exact below9 HIX.out.bel (Nat.le_refl _) _ _ _ _ _ _ _ _ _
  subst hl
  obtain ⟨A8, c8, rfl, hc8, hC8⟩ := Kd.R_reads HI6.out.row
  have HC8 := Aside0.mk hC8
  have HCK := Aside0.mk (Check_x x A8 c8 wc (HG.out.below HI6.out.bel) hC8 hc8 HOX.out)
  clear hC8
  have hx := Lib.cell_of_heap HI6.out.box
  unfold boxO at hx
  unfold opOf opV at HCK
  by_cases hck : chk x = 0
  rotate_left
  · have b0 : (chk x != 0) = true := by simpa using hck
    · have hS : readS s = (zOp, 2) := by rw [HS.out, if_pos (.inr (.inr (.inr (.inl hck))))]
      clear hck
      go_wp2_with fail
      refine HCK.out.mono ?_
      rintro e w5 ⟨rfl, hbl⟩
      have HIX := Aside0.mk (HI6.out.below HL.out hbl)
      have hr := Lib.cell_of_heap HIX.out.res
      have hz := Lib.frozen_of_heap HIX.out.res
      unfold boxO zOp at hr
      clear hbl hx
      go_wp2_with fail
      refine bodyPost_ret (results_ct rfl _ _ w.heap.size 24 _ (0, 0) _ rfl (set_blk (j := 8) (set_blk (j := 7) (set_blk (j := 6) (set_blk (j := 5) (set_blk (j := 4) (set_blk (j := 3) (set_blk (j := 2) (set_blk (j := 1) (set_blk (j := 0) HIX.out.res _) _) _) _) _) _) _) _) _) Tryd.underlying24 rfl (by kernel_rfl)) rfl ⟨⟨none, 0, ?_, ?_, ?_⟩, ?_⟩
      · first | (rw [hS]; rfl) | rfl
      · first | (rw [hS]; exact Nat.le_refl 0) | exact Nat.le_refl 0
      · first | (rw [hS]; exact Kd.C_nil _ _) | exact Kd.C_nil _ _
      · with_reducible exact below9 HIX.out.bel (Nat.le_refl _) _ _ _ _ _ _ _ _ _
  rw [hck] at HCK
  obtain ⟨h17, hokz⟩ := chk_ok x hck
  have HLN : Aside0 (∀ W, Below w.heap.size w W → Kd.C k51 W A8 x.f8.length x.f8 → Calls Tryd.prog 20 #[opOf x A8 c8] W fun e w' => e = .returned (.string (lineB x)) ∧ Below W.heap.size W w') := ⟨fun W hW hC => line_c x A8 c8 W (HG.out.below hW) (HW.out.below hW) HOX.out h17 hokz hC⟩
  unfold opOf opV at HLN
  obtain ⟨LB, hLB⟩ : ∃ LB, LB = lineB x := ⟨_, rfl⟩
  rw [← hLB] at HLN HS
  clear hLB h17 hokz
  go_wp2_with fail
  refine HCK.out.mono ?_
  rintro e w5 ⟨rfl, hbl⟩
  have HI7 := Aside0.mk (HI6.out.below HL.out hbl)
  have HC9 := Aside0.mk (Kd.C_below HC8.out hbl)
  have hx7 := Lib.cell_of_heap HI7.out.box
  unfold boxO at hx7
  clear hbl hx
  go_wp2_with fail
  refine (HLN.out _ HI7.out.bel HC9.out).mono ?_
  rintro e w6 ⟨rfl, hbl⟩
  have HIX := Aside0.mk (HI7.out.below HL.out hbl)
  have hr := Lib.cell_of_heap HIX.out.res
  have hz := Lib.frozen_of_heap HIX.out.res
  have hx8 := Lib.cell_of_heap HIX.out.box
  unfold boxO at hx8
  unfold boxO zOp at hr
  clear hbl hx7
  by_cases hls : LB = s
  rotate_left
  · have b0 : (!(LB.toList == s.toList)) = true := by
      rw [toList_data, toList_data]
      simp only [Bool.not_eq_true', beq_eq_false_iff_ne]
      exact fun e => hls (ba_inj e)
    · have hS : readS s = (zOp, 2) := by rw [HS.out, if_pos (.inr (.inr (.inr (.inr hls))))]
      clear hls hx8
      go_wp2_with fail
      refine bodyPost_ret (results_ct rfl _ _ w.heap.size 24 _ (0, 0) _ rfl (set_blk (j := 8) (set_blk (j := 7) (set_blk (j := 6) (set_blk (j := 5) (set_blk (j := 4) (set_blk (j := 3) (set_blk (j := 2) (set_blk (j := 1) (set_blk (j := 0) HIX.out.res _) _) _) _) _) _) _) _) _) Tryd.underlying24 rfl (by kernel_rfl)) rfl ⟨⟨none, 0, ?_, ?_, ?_⟩, ?_⟩
      · first | (rw [hS]; rfl) | rfl
      · first | (rw [hS]; exact Nat.le_refl 0) | exact Nat.le_refl 0
      · first | (rw [hS]; exact Kd.C_nil _ _) | exact Kd.C_nil _ _
      · with_reducible exact below9 HIX.out.bel (Nat.le_refl _) _ _ _ _ _ _ _ _ _
  have b0 : (!(LB.toList == s.toList)) = false := by rw [hls]; simp
  have hS : readS s = (x, 0) := by
    rw [HS.out, if_neg]
    simp only [not_or, ne_eq, Decidable.not_not]
    exact ⟨hkn, by simp, trivial, hck, hls⟩
  clear hls
  go_wp2_with fail
  have hL1 := HL.out.hp
  have HRW := Aside0.mk (Kd.R_mono (ok' := fun k => w1.heap.size + 1 ≤ k) (Kd.R_bound HIX.out.row) (fun k hk => hk.2.1))
  refine bodyPost_ret (results_ct rfl _ _ w.heap.size 24 _ (0, 0) _ rfl (set_blk (j := 8) (set_blk (j := 7) (set_blk (j := 6) (set_blk (j := 5) (set_blk (j := 4) (set_blk (j := 3) (set_blk (j := 2) (set_blk (j := 1) (set_blk (j := 0) HIX.out.res _) _) _) _) _) _) _) _) _) Tryd.underlying24 rfl (by kernel_rfl)) rfl ⟨⟨A8, c8, ?_, ?_, ?_⟩, ?_⟩
  · first | (rw [hS]; rfl) | rfl
  · first | (rw [hS]; exact hc8) | exact hc8
  · first
      | (rw [hS]; exact (Kd.R_reads' (row9 HRW.out (fun k hk => by omega) _ _ _ _ _ _ _ _ _)).2.2)
      | exact (Kd.R_reads' (row9 HRW.out (fun k hk => by omega) _ _ _ _ _ _ _ _ _)).2.2
  · with_reducible exact below9 HIX.out.bel (Nat.le_refl _) _ _ _ _ _ _ _ _ _
end Go.Proofs.YtgdemingopcgaaaDoorE

namespace Go.Proofs.YtgdemingopcgaaaDoorE
open Go Go.RowKit Go.Proofs.YtgdemingopcgaaaDoorW.PrintWords Go.Proofs.YtgdemingopcgaaaDoorX Go.Proofs.YtgdemingopcgaaaDoor.P26
set_option linter.unusedVariables false
set_option linter.unusedSimpArgs false
/-- How many there are of a kind. -/
def cntK (l : List S24) (k : Int) : Nat := l.countP (fun x => decide (x.f0 = k))
theorem cntK_le (l : List S24) (k : Int) : cntK l k ≤ l.length := List.countP_le_length
theorem cntK_snoc (l : List S24) (x : S24) (k : Int) : cntK (l ++ [x]) k = cntK l k + (if x.f0 = k then 1 else 0) := by
  unfold cntK
  rw [List.countP_append, List.countP_cons, List.countP_nil]
  simp
theorem cntK_cons (l : List S24) (x : S24) (k : Int) : cntK (x :: l) k = cntK l k + (if x.f0 = k then 1 else 0) := by
  unfold cntK
  rw [List.countP_cons]
  simp
theorem cnt7 : ∀ (l : List S24), cntK l 1 + cntK l 2 + cntK l 3 + cntK l 4 + cntK l 5 + cntK l 6 + cntK l 7 ≤ l.length
  | [] => Nat.le_refl _
  | x :: l => by
    have := cnt7 l
    simp only [cntK_cons, List.length_cons]
    repeat' split
    all_goals omega
theorem take_snoc24 (l : List S24) (k : Nat) (hk : k < l.length) : l.take (k + 1) = l.take k ++ [rd_T24 l (k : Int)] := by
  rw [List.take_add_one, List.getElem?_eq_getElem hk]
  unfold rd_T24
  rw [Int.toNat_natCast, List.getD_eq_getElem?_getD, List.getElem?_eq_getElem hk]
  rfl
set_option maxHeartbeats 4000000 in
set_option maxRecDepth 100000 in
theorem Total_C (a b c d e f g : Nat) (w : World) (h : a + b + c + d + e + f + g ≤ 9223372036854775807) :
    Calls Tryd.prog 19 #[.agg #[.int .i64 a, .int .i64 b, .int .i64 c, .int .i64 d, .int .i64 e, .int .i64 f, .int .i64 g]] w fun r w' => r = .returned (.int .i64 ((a + b + c + d + e + f + g : Nat) : Int)) ∧ Below w.heap.size w w' := by
  go_enter Tryd.func19, Tryd.ntmps19
  go_wp2_with fail
  refine bodyPost_ret (results_tmp rfl _ _ _) rfl ⟨?_, below_alloc (Below.refl _ _) _⟩
  show Ending.returned (.int .i64 _) = _
  congr 2
/-- The counts so far, in the array's cells. -/
def cntA (l : List S24) : Array Value := #[.int .i64 0, .int .i64 (cntK l 1), .int .i64 (cntK l 2), .int .i64 (cntK l 3), .int .i64 (cntK l 4), .int .i64 (cntK l 5), .int .i64 (cntK l 6), .int .i64 (cntK l 7)]
theorem w64_succ' (i : Nat) (h : i < 9223372036854775807) : wrap64 ((i : Int) + 1) = (i : Int) + 1 := by unfold wrap64; omega
def costV (l : List S24) : Value := .agg #[.int .i64 (cntK l 1), .int .i64 (cntK l 2), .int .i64 (cntK l 3), .int .i64 (cntK l 4), .int .i64 (cntK l 5), .int .i64 (cntK l 6), .int .i64 (cntK l 7)]
def InvK (w : World) (l : List S24) (k : Nat) (wr : World) : Prop :=
  wr.heap[w.heap.size]? = some (.cells #[.int .i64 0, .int .i64 0, .int .i64 0, .int .i64 0, .int .i64 0, .int .i64 0, .int .i64 0] 44 (0, 0)) ∧ wr.heap[w.heap.size + 1]? = some (.cells (cntA (l.take k)) 70 (0, 0)) ∧ Below w.heap.size w wr ∧ w.heap.size + 2 ≤ wr.heap.size
set_option maxHeartbeats 4000000 in
set_option maxRecDepth 100000 in
theorem Count_c (A : Option Addr) (c : Nat) (l : List S24) (w : World) (hl : Kd.C k24 w A l.length l) (hc : l.length ≤ c) :
    Calls Tryd.prog 16 #[.slice A l.length c] w fun e w' => e = .returned (costV l) ∧ Below w.heap.size w w' := by
  have HL := Aside0.mk hl
  have hmax := hl.2.1
  have H0 : Aside0 (InvK w l 0 ((w.alloc (.cells #[.int .i64 0, .int .i64 0, .int .i64 0, .int .i64 0, .int .i64 0, .int .i64 0, .int .i64 0] 44)).alloc (.cells #[.int .i64 0, .int .i64 0, .int .i64 0, .int .i64 0, .int .i64 0, .int .i64 0, .int .i64 0, .int .i64 0] 70))) := ⟨two_old_ w _ _, two_new_ w _ _, below_alloc (below_alloc (Below.refl _ _) _) _, by simp⟩
  clear hl
  go_enter Tryd.func16, Tryd.ntmps16
  go_wp2_with fail
  go_loopw [8] (fun i wr => ∃ k : Nat, k ≤ l.length ∧ i = .int .i64 k ∧ Aside0 (InvK w l k wr)) (fun i _ => l.length - (intOf i).toNat)
  case atStart => exact ⟨0, Nat.zero_le _, rfl, H0⟩
  case round =>
    obtain ⟨k, hk, rfl, HI⟩ := hrel
    by_cases hlt : k < l.length
    · obtain ⟨ad, A8, c8, rfl, e0, e1, e2, e3, e4, e5, e6, e7, e8, hl8, hi8⟩ := at_T24 HL.out (k : Int) (by omega) (by omega)
      rw [Int.toNat_natCast] at e0 e1 e2 e3 e4 e5 e6 e7 e8
      have hts := take_snoc24 l k hlt
      obtain ⟨X, hX⟩ : ∃ X, X = rd_T24 l (k : Int) := ⟨_, rfl⟩
      rw [← hX] at e0 e1 e2 e3 e4 e5 e6 e7 e8 hts
      have HTS := Aside0.mk hts
      have hb := HI.out.2.2.1
      have d0 := pw_cell_below hb e0
      have d1 := pw_cell_below hb e1
      have d2 := pw_cell_below hb e2
      have d3 := pw_cell_below hb e3
      have d4 := pw_cell_below hb e4
      have d5 := pw_cell_below hb e5
      have d6 := pw_cell_below hb e6
      have d7 := pw_cell_below hb e7
      have d8 := pw_cell_below hb e8
      clear e0 e1 e2 e3 e4 e5 e6 e7 e8 hl8 hi8 hX hts hb
      obtain ⟨f0, f1, f2, f3, f4, f5, f6, f7, f8⟩ := X
      simp only at d0 d1 d2 d3 d4 d5 d6 d7 d8
      have HBX : Aside0 (∀ o : Obj, InvK w l k (wr.alloc o)) := ⟨fun o => by
        obtain ⟨i1, i2, i3, i4⟩ := HI.out
        exact ⟨((below_alloc (Below.refl _ wr) o).block _ (by omega)).trans i1, ((below_alloc (Below.refl _ wr) o).block _ (by omega)).trans i2, below_alloc i3 o, by simp; omega⟩⟩
      have c1 := cntK_le (l.take k) 1
      have c2 := cntK_le (l.take k) 2
      have c3 := cntK_le (l.take k) 3
      have c4 := cntK_le (l.take k) 4
      have c5 := cntK_le (l.take k) 5
      have c6 := cntK_le (l.take k) 6
      have c7 := cntK_le (l.take k) 7
      rw [List.length_take] at c1 c2 c3 c4 c5 c6 c7
      by_cases hk0 : 0 < f0
      · by_cases hk8 : f0 < 8
        · have h7 : f0 = 1 ∨ f0 = 2 ∨ f0 = 3 ∨ f0 = 4 ∨ f0 = 5 ∨ f0 = 6 ∨ f0 = 7 := by omega
          have HSET : Aside0 (∀ (o : Obj) (j : Nat) (u : Value), (cntA (l.take k)).setIfInBounds j u = cntA (l.take (k + 1)) → InvK w l (k + 1) ((wr.alloc o).setCell ⟨w.heap.size + 1, j, none⟩ u)) := ⟨fun o j u h => by
            obtain ⟨i1, i2, i3, i4⟩ := HBX.out o
            have hB : But (· = w.heap.size + 1) (wr.alloc o) ((wr.alloc o).setCell ⟨w.heap.size + 1, j, none⟩ u) := (But.refl _ _).put_self j u
            exact ⟨(hB.block _ (blk_lt' i1) (by omega)).trans i1, h ▸ set_blk i2 u, i3.setCell (by show w.heap.size ≤ w.heap.size + 1; omega) u, Nat.le_trans i4 hB.size⟩⟩
          rcases h7 with rfl | rfl | rfl | rfl | rfl | rfl | rfl
          · have hA : (cntA (l.take k)).setIfInBounds 1 (.int .i64 ((cntK (l.take k) 1 : Int) + 1)) = cntA (l.take (k + 1)) := by
              rw [HTS.out]
              unfold cntA
              simp [cntK_snoc]
            have HA := Aside0.mk hA
            have hw := w64_succ' (cntK (l.take k) 1) (by omega)
            have hx := cell_blk (j := 1) (v := .int .i64 (cntK (l.take k) 1)) (HBX.out (.cells #[.int .i64 1, .int .i64 f1, .int .i64 f2, .int .i64 f3, .string f4, .string f5, .string f6, .string f7, .slice A8 f8.length c8] 24)).2.1 rfl
            have hz := Lib.frozen_of_heap (HBX.out (.cells #[.int .i64 1, .int .i64 f1, .int .i64 f2, .int .i64 f3, .string f4, .string f5, .string f6, .string f7, .slice A8 f8.length c8] 24)).2.1 1
            clear hA c1 c2 c3 c4 c5 c6 c7
            generalize cntK (l.take k) 1 = n at hw hx HA
            go_wp2_with fail
            exact ⟨⟨k + 1, by omega, by simp, ⟨HSET.out _ 1 _ HA.out⟩⟩, by simp [intOf]; omega⟩
          · have hA : (cntA (l.take k)).setIfInBounds 2 (.int .i64 ((cntK (l.take k) 2 : Int) + 1)) = cntA (l.take (k + 1)) := by
              rw [HTS.out]
              unfold cntA
              simp [cntK_snoc]
            have HA := Aside0.mk hA
            have hw := w64_succ' (cntK (l.take k) 2) (by omega)
            have hx := cell_blk (j := 2) (v := .int .i64 (cntK (l.take k) 2)) (HBX.out (.cells #[.int .i64 2, .int .i64 f1, .int .i64 f2, .int .i64 f3, .string f4, .string f5, .string f6, .string f7, .slice A8 f8.length c8] 24)).2.1 rfl
            have hz := Lib.frozen_of_heap (HBX.out (.cells #[.int .i64 2, .int .i64 f1, .int .i64 f2, .int .i64 f3, .string f4, .string f5, .string f6, .string f7, .slice A8 f8.length c8] 24)).2.1 2
            clear hA c1 c2 c3 c4 c5 c6 c7
            generalize cntK (l.take k) 2 = n at hw hx HA
            go_wp2_with fail
            exact ⟨⟨k + 1, by omega, by simp, ⟨HSET.out _ 2 _ HA.out⟩⟩, by simp [intOf]; omega⟩
          · have hA : (cntA (l.take k)).setIfInBounds 3 (.int .i64 ((cntK (l.take k) 3 : Int) + 1)) = cntA (l.take (k + 1)) := by
              rw [HTS.out]
              unfold cntA
              simp [cntK_snoc]
            have HA := Aside0.mk hA
            have hw := w64_succ' (cntK (l.take k) 3) (by omega)
            have hx := cell_blk (j := 3) (v := .int .i64 (cntK (l.take k) 3)) (HBX.out (.cells #[.int .i64 3, .int .i64 f1, .int .i64 f2, .int .i64 f3, .string f4, .string f5, .string f6, .string f7, .slice A8 f8.length c8] 24)).2.1 rfl
            have hz := Lib.frozen_of_heap (HBX.out (.cells #[.int .i64 3, .int .i64 f1, .int .i64 f2, .int .i64 f3, .string f4, .string f5, .string f6, .string f7, .slice A8 f8.length c8] 24)).2.1 3
            clear hA c1 c2 c3 c4 c5 c6 c7
            generalize cntK (l.take k) 3 = n at hw hx HA
            go_wp2_with fail
            exact ⟨⟨k + 1, by omega, by simp, ⟨HSET.out _ 3 _ HA.out⟩⟩, by simp [intOf]; omega⟩
          · have hA : (cntA (l.take k)).setIfInBounds 4 (.int .i64 ((cntK (l.take k) 4 : Int) + 1)) = cntA (l.take (k + 1)) := by
              rw [HTS.out]
              unfold cntA
              simp [cntK_snoc]
            have HA := Aside0.mk hA
            have hw := w64_succ' (cntK (l.take k) 4) (by omega)
            have hx := cell_blk (j := 4) (v := .int .i64 (cntK (l.take k) 4)) (HBX.out (.cells #[.int .i64 4, .int .i64 f1, .int .i64 f2, .int .i64 f3, .string f4, .string f5, .string f6, .string f7, .slice A8 f8.length c8] 24)).2.1 rfl
            have hz := Lib.frozen_of_heap (HBX.out (.cells #[.int .i64 4, .int .i64 f1, .int .i64 f2, .int .i64 f3, .string f4, .string f5, .string f6, .string f7, .slice A8 f8.length c8] 24)).2.1 4
            clear hA c1 c2 c3 c4 c5 c6 c7
            generalize cntK (l.take k) 4 = n at hw hx HA
            go_wp2_with fail
            exact ⟨⟨k + 1, by omega, by simp, ⟨HSET.out _ 4 _ HA.out⟩⟩, by simp [intOf]; omega⟩
          · have hA : (cntA (l.take k)).setIfInBounds 5 (.int .i64 ((cntK (l.take k) 5 : Int) + 1)) = cntA (l.take (k + 1)) := by
              rw [HTS.out]
              unfold cntA
              simp [cntK_snoc]
            have HA := Aside0.mk hA
            have hw := w64_succ' (cntK (l.take k) 5) (by omega)
            have hx := cell_blk (j := 5) (v := .int .i64 (cntK (l.take k) 5)) (HBX.out (.cells #[.int .i64 5, .int .i64 f1, .int .i64 f2, .int .i64 f3, .string f4, .string f5, .string f6, .string f7, .slice A8 f8.length c8] 24)).2.1 rfl
            have hz := Lib.frozen_of_heap (HBX.out (.cells #[.int .i64 5, .int .i64 f1, .int .i64 f2, .int .i64 f3, .string f4, .string f5, .string f6, .string f7, .slice A8 f8.length c8] 24)).2.1 5
            clear hA c1 c2 c3 c4 c5 c6 c7
            generalize cntK (l.take k) 5 = n at hw hx HA
            go_wp2_with fail
            exact ⟨⟨k + 1, by omega, by simp, ⟨HSET.out _ 5 _ HA.out⟩⟩, by simp [intOf]; omega⟩
          · have hA : (cntA (l.take k)).setIfInBounds 6 (.int .i64 ((cntK (l.take k) 6 : Int) + 1)) = cntA (l.take (k + 1)) := by
              rw [HTS.out]
              unfold cntA
              simp [cntK_snoc]
            have HA := Aside0.mk hA
            have hw := w64_succ' (cntK (l.take k) 6) (by omega)
            have hx := cell_blk (j := 6) (v := .int .i64 (cntK (l.take k) 6)) (HBX.out (.cells #[.int .i64 6, .int .i64 f1, .int .i64 f2, .int .i64 f3, .string f4, .string f5, .string f6, .string f7, .slice A8 f8.length c8] 24)).2.1 rfl
            have hz := Lib.frozen_of_heap (HBX.out (.cells #[.int .i64 6, .int .i64 f1, .int .i64 f2, .int .i64 f3, .string f4, .string f5, .string f6, .string f7, .slice A8 f8.length c8] 24)).2.1 6
            clear hA c1 c2 c3 c4 c5 c6 c7
            generalize cntK (l.take k) 6 = n at hw hx HA
            go_wp2_with fail
            exact ⟨⟨k + 1, by omega, by simp, ⟨HSET.out _ 6 _ HA.out⟩⟩, by simp [intOf]; omega⟩
          · have hA : (cntA (l.take k)).setIfInBounds 7 (.int .i64 ((cntK (l.take k) 7 : Int) + 1)) = cntA (l.take (k + 1)) := by
              rw [HTS.out]
              unfold cntA
              simp [cntK_snoc]
            have HA := Aside0.mk hA
            have hw := w64_succ' (cntK (l.take k) 7) (by omega)
            have hx := cell_blk (j := 7) (v := .int .i64 (cntK (l.take k) 7)) (HBX.out (.cells #[.int .i64 7, .int .i64 f1, .int .i64 f2, .int .i64 f3, .string f4, .string f5, .string f6, .string f7, .slice A8 f8.length c8] 24)).2.1 rfl
            have hz := Lib.frozen_of_heap (HBX.out (.cells #[.int .i64 7, .int .i64 f1, .int .i64 f2, .int .i64 f3, .string f4, .string f5, .string f6, .string f7, .slice A8 f8.length c8] 24)).2.1 7
            clear hA c1 c2 c3 c4 c5 c6 c7
            generalize cntK (l.take k) 7 = n at hw hx HA
            go_wp2_with fail
            exact ⟨⟨k + 1, by omega, by simp, ⟨HSET.out _ 7 _ HA.out⟩⟩, by simp [intOf]; omega⟩
        · have hA : cntA (l.take (k + 1)) = cntA (l.take k) := by
            rw [HTS.out]
            unfold cntA
            simp [cntK_snoc, show ¬ f0 = 1 by omega, show ¬ f0 = 2 by omega, show ¬ f0 = 3 by omega, show ¬ f0 = 4 by omega, show ¬ f0 = 5 by omega, show ¬ f0 = 6 by omega, show ¬ f0 = 7 by omega]
          have HA := Aside0.mk hA
          clear hA
          go_wp2_with fail
          refine ⟨⟨k + 1, by omega, by simp, ⟨?_⟩⟩, by simp [intOf]; omega⟩
          unfold InvK
          rw [HA.out]
          exact HBX.out _
      · have hA : cntA (l.take (k + 1)) = cntA (l.take k) := by
          rw [HTS.out]
          unfold cntA
          simp [cntK_snoc, show ¬ f0 = 1 by omega, show ¬ f0 = 2 by omega, show ¬ f0 = 3 by omega, show ¬ f0 = 4 by omega, show ¬ f0 = 5 by omega, show ¬ f0 = 6 by omega, show ¬ f0 = 7 by omega]
        have HA := Aside0.mk hA
        clear hA
        go_wp2_with fail
        refine ⟨⟨k + 1, by omega, by simp, ⟨?_⟩⟩, by simp [intOf]; omega⟩
        unfold InvK
        rw [HA.out]
        exact HBX.out _
    · obtain rfl : k = l.length := by omega
      have hx := Lib.cell_of_heap HI.out.2.1
      have hy := Lib.cell_of_heap HI.out.1
      have hz := Lib.frozen_of_heap HI.out.1
      have hts : l.take l.length = l := List.take_of_length_le (Nat.le_refl _)
      rw [hts] at hx
      unfold cntA at hx
      go_wp2_with fail
      have hg := Nat.le_refl w.heap.size
      refine bodyPost_ret (results_cell_row rfl _ _ w.heap.size 44 _ (0, 0) _ rfl (set_blk (j := 6) (set_blk (j := 5) (set_blk (j := 4) (set_blk (j := 3) (set_blk (j := 2) (set_blk (j := 1) (set_blk (j := 0) HI.out.1 _) _) _) _) _) _) _) Tryd.underlying44 rfl (by kernel_rfl)) rfl ⟨rfl, ?_⟩
      exact (((((((HI.out.2.2.1.setCell hg _).setCell hg _).setCell hg _).setCell hg _).setCell hg _).setCell hg _).setCell hg _)
end Go.Proofs.YtgdemingopcgaaaDoorE
