/- Merged by this claim's own program (merge.py) out of the texts X03rx2, L03, E70, E5, E72, E73, E74; the W texts among them began as the kit's print. -/
import Derived.Test.YtgdemingopcgaaaDoorOR4
import Derived.Lib.FrozenHead
import Derived.Laws.Externs
import Derived.KernelRfl

namespace Go.Proofs.YtgdemingopcgaaaDoor.P03r
open Go.RowKit Go.Proofs.YtgdemingopcgaaaDoorE Go.Proofs.YtgdemingopcgaaaDoorW.PrintWords Go.Proofs.YtgdemingopcgaaaDoorW.PrintLast Go.Proofs.YtgdemingopcgaaaDoorW.PrintMore
attribute [local go_sem] max2_int min2_int max_two min_two max_three min_three max_four min_four   -- for this text's walks alone
set_option linter.unusedVariables false
set_option linter.unusedSimpArgs false

def escape_reference.l0 : Nat → ByteArray → List Int → Int → Int → Option (Int × Int)
  | 0, _, _, _, _ => none
  | k + 1, x0, x9, x10, x11 => if x11 < x10 then (if 0 ≤ x11 then (if x11 < (x9.length : Int) then ((escape_form.f (rd x9 x11)).bind fun t106 => ((strings_HasPrefix.f x0 t106).bind fun t107 => (if t107 = true then ((escape_form.f (rd x9 x11)).bind fun t108 => (some (rd x9 x11, (t108.size : Int)))) else (escape_reference.l0 k x0 x9 x10 (wrap64 (x11 + 1)))))) else (none)) else (none)) else ((strings_HasPrefix.f x0 (⟨#[38, 35]⟩ : ByteArray)).bind fun t109 => (if t109 = true then (if 0 ≤ (mn (x0.size : Int) 6) then (if (mn (x0.size : Int) 6) ≤ (x0.size : Int) then ((strings_IndexByte.f (x0.extract 0 ((mn (x0.size : Int) 6) : Int).toNat) 59).bind fun t110 => (if t110 < 0 then (some (0, 0)) else (if 2 ≤ t110 then (if t110 ≤ (x0.size : Int) then ((strconv_Atoi.f (x0.extract 2 (t110 : Int).toNat)).bind fun bt111 => (if bt111.2.isNone = true then (if bt111.1 < 0 then (some (0, 0)) else (if bt111.1 > 127 then (some (0, 0)) else ((escape_form.f ((bt111.1) % 256)).bind fun t114 => (if 0 ≤ (wrap64 (t110 + 1)) then (if (wrap64 (t110 + 1)) ≤ (x0.size : Int) then (if t114.toList = (x0.extract 0 ((wrap64 (t110 + 1)) : Int).toNat).toList then (some ((bt111.1) % 256, wrap64 (t110 + 1))) else (some (0, 0))) else (none)) else (none))))) else (some (0, 0)))) else (none)) else (none)))) else (none)) else (none)) else (some (0, 0))))
def escape_reference.f (k : Nat) (a0 : ByteArray) : Option (Int × Int) := (some (([38, 60, 62, 34] : List Int) : List Int)).bind fun y102 => (escape_reference.l0 k a0 y102 (y102.length : Int) 0)
theorem escape_reference.mono_l : ∀ k, (∀ y0 y1 y2 y3, LeO (escape_reference.l0 k y0 y1 y2 y3) (escape_reference.l0 (k + 1) y0 y1 y2 y3))
  | 0 => fun _ _ _ _ r h => by simp [escape_reference.l0] at h
  | k + 1 => by
    have ih0 := escape_reference.mono_l k
    · intro y0 y1 y2 y3
      unfold escape_reference.l0
      repeat' first
      | (with_reducible exact ih0 _ _ _ _)
      | (with_reducible exact LeO.refl _)
      | (with_reducible exact LeO.none _)
      | (with_reducible refine LeO.ite ?_ ?_)
      | (with_reducible refine LeO.bind ?_ (fun _ => ?_))
      | exact ih0 _ _ _ _
      | exact LeO.none _
      | refine LeO.ite ?_ ?_
      | refine LeO.bind ?_ (fun _ => ?_)
theorem escape_reference.mono : ∀ a0 k, LeO (escape_reference.f k a0) (escape_reference.f (k + 1) a0) := by
  intro a0 k
  have ih0 := escape_reference.mono_l k
  unfold escape_reference.f
  repeat' first
      | (with_reducible exact ih0 _ _ _ _)
      | (with_reducible exact LeO.refl _)
      | (with_reducible exact LeO.none _)
      | (with_reducible refine LeO.ite ?_ ?_)
      | (with_reducible refine LeO.bind ?_ (fun _ => ?_))
      | exact ih0 _ _ _ _
      | exact LeO.none _
      | refine LeO.ite ?_ ?_
      | refine LeO.bind ?_ (fun _ => ?_)
def escape_reference.T13 : Bool × List (List Nat × List Nat) := (true, [([], []), ([0], [0]), ([1], [1]), ([2], [2]), ([3, 2], [2, 3]), ([2, 4], [2, 4]), ([5, 2], [5]), ([6], [6]), ([7, 6], [6, 7]), ([6, 8], [6, 8]), ([9, 6], [9]), ([10], [10]), ([11, 10], [10, 11]), ([12, 10, 10], [10, 12]), ([10], [10]), ([10], [10]), ([15, 10], [10, 15]), ([14, 16, 10], [10, 14, 16]), ([13, 17, 10], [10, 13, 17]), ([10, 18], [10, 18])])
def escape_reference.B13 : List Nat := [0, 1, 3, 7, 15, 31, 63, 127, 255, 511, 1023, 2047, 4095, 8191, 2047, 2047, 34815, 116735, 262143, 524287]
theorem escape_reference.tab13 : rtab .any (opsOf Tryd.f56 13) = escape_reference.T13 := by kernel_rfl
theorem escape_reference.bits13 : waitsOk escape_reference.T13.2 escape_reference.B13 = true := by kernel_rfl
set_option maxHeartbeats 8000000 in
set_option maxRecDepth 100000 in
theorem escape_reference.calls (k : Nat) (a0 : ByteArray) (r1 : Int) (r2 : Int) (w : World) (hgl : Go.Proofs.YtgdemingopcgaaaDoorX.GL w) (h : escape_reference.f k a0 = some (r1, r2)) :
    Calls Tryd.prog 56 #[.string a0] w fun e w' => e = .returned (.tuple #[.int .u8 r1, .int .i64 r2]) ∧ Below w.heap.size w w' := by
  have hu91 := Tryd.underlying91
  have HGL := Aside0.mk hgl
  clear hgl
  have HB := Aside0.mk (Below.refl w.heap.size w)
  have H : ((some (([38, 60, 62, 34] : List Int) : List Int)).bind fun y102 => (escape_reference.l0 k a0 y102 (y102.length : Int) 0)) = some (r1, r2) := h
  clear h
  obtain ⟨y102, hy102⟩ : ∃ y_ : List Int, y_ = (([38, 60, 62, 34] : List Int)) := ⟨_, rfl⟩
  replace H : (escape_reference.l0 k a0 y102 (y102.length : Int) 0) = some (r1, r2) := by first | (rw [hy102]; with_reducible exact H) | (have H2_ := (Option.bind_some _ _).symm.trans H; rw [hy102]; with_reducible exact H2_) | (have H2_ := (Option.bind_some _ _).symm.trans H; with_reducible exact H2_) | with_reducible exact H | (rw [hy102]; exact H) | exact H
  have Ny102 := Aside0.mk hy102
  clear hy102
  have H' := Aside0.mk H
  clear H
  go_enter Tryd.func56, Tryd.ntmps56
  go_wp2_with (first | ((with_reducible refine gate_dst (N := 9) rfl ?_); refine Kd.R_lit (Kd.int .u8) _ 5 ?hg (N := 9) ?hd (xs := ([38, 60, 62, 34] : List Int)) (inner := [.int .u8 38, .int .u8 60, .int .u8 62, .int .u8 34]) (ok := fun _ => True) (okp := fun _ => True) ?hr ?hp (fun _ hk => hk) trivial (Below.refl _ _) (Nat.le_refl _) (by simp) ?_; (case hd => rfl); (case hg => rfl); (case hr => first | (go_simp; done) | (go_simp; rfl)); (case hp => exact (Reps.one (show Kd.M (Kd.int .u8) _ _ _ 38 [.int .u8 38] from rfl) (Reps.one (show Kd.M (Kd.int .u8) _ _ _ 60 [.int .u8 60] from rfl) (Reps.one (show Kd.M (Kd.int .u8) _ _ _ 62 [.int .u8 62] from rfl) (Reps.one (show Kd.M (Kd.int .u8) _ _ _ 34 [.int .u8 34] from rfl) (Reps.none _ _)))))); intro v103 w2 ho3 hb hg_ hnew_; clear hg_ hnew_; (first | rw [← Ny102.out] at ho3 | (simp only [Int.reduceToNat] at ho3; rw [← Ny102.out] at ho3)); have n0_ := Aside0.mk (Kd.R_lower ho3 (below_size (by repeat (first | (with_reducible first | exact HB.out | apply below_alloc | apply pw_below_drewN | apply below_drew1) | exact HB.out)))); have n1_ := Aside0.mk (below_step (by repeat (first | (with_reducible first | exact HB.out | apply below_alloc | apply pw_below_drewN | apply below_drew1) | exact HB.out)) hb); clear HB; have HO104 := n0_; have HB := n1_; clear n0_ n1_; clear hb ho3; obtain ⟨Ao4, co4, eo4⟩ := Kd.R_slice HO104.out; subst eo4))
  go_loopg [11] k (fun kq v11 w' => ∃ (x11_1 : Int), v11 = .int .i64 x11_1 ∧ Aside0 (escape_reference.l0 kq a0 y102 (y102.length : Int) x11_1 = some (r1, r2)) ∧ Aside0 (kq ≤ k) ∧ Aside0 (Kd.R (Kd.int .u8) 5 w' w.heap.size (fun _ => True) (.slice Ao4 y102.length co4) y102) ∧ Aside0 (Below w.heap.size w w'))
  case atStart => exact ⟨(0), (by first | rfl | (simp; done) | (simp [*]; done)), H', ⟨Nat.le_refl _⟩, ⟨by (with_reducible repeat (first | apply Kd.R_alloc | apply Kd.R_drewN | apply Kd.R_drew)); exact HO104.out⟩, ⟨by repeat (first | (with_reducible first | exact HB.out | apply below_alloc | apply pw_below_drewN | apply below_drew1) | exact HB.out)⟩⟩
  case round =>
    clear H'
    try clear p2
    obtain ⟨x11_1, rfl, HA, HK1, HO_9, HB⟩ := hrel
    cases gk with
    | zero => exact absurd HA.out (by simp [escape_reference.l0])
    | succ k1 =>
      have H := HA.out
      clear HA
      simp only [escape_reference.l0] at H
      by_cases c5 : x11_1 < (y102.length : Int)
      · rw [if_pos c5] at H
        have c5b0 : decide (x11_1 < (y102.length : Int)) = true := decide_eq_true c5
        clear c5
        by_cases c6 : 0 ≤ x11_1
        · rw [if_pos c6] at H
          have c6b0 : decide (0 ≤ x11_1) = true := decide_eq_true c6
          clear c6
          by_cases c7 : x11_1 < (y102.length : Int)
          · rw [if_pos c7] at H
            have c7b0 : decide (x11_1 < (y102.length : Int)) = true := decide_eq_true c7
            clear c7
            replace H := Option.bind_eq_some_iff.mp H
            obtain ⟨t106, A80, H⟩ := H
            replace H : ((strings_HasPrefix.f a0 t106).bind fun t107 => (if t107 = true then ((escape_form.f (rd y102 x11_1)).bind fun t108 => (some (rd y102 x11_1, (t108.size : Int)))) else (escape_reference.l0 k1 a0 y102 (y102.length : Int) (wrap64 (x11_1 + 1))))) = some (r1, r2) := H
            have A8 := Aside0.mk A80
            clear A80
            replace H := Option.bind_eq_some_iff.mp H
            obtain ⟨t107, A90, H⟩ := H
            replace H : (if t107 = true then ((escape_form.f (rd y102 x11_1)).bind fun t108 => (some (rd y102 x11_1, (t108.size : Int)))) else (escape_reference.l0 k1 a0 y102 (y102.length : Int) (wrap64 (x11_1 + 1)))) = some (r1, r2) := H
            have A9 := Aside0.mk A90
            clear A90
            by_cases c10 : t107 = true
            · subst c10
              have H1 : ((escape_form.f (rd y102 x11_1)).bind fun t108 => (some (rd y102 x11_1, (t108.size : Int)))) = some (r1, r2) := by rw [if_pos rfl] at H; exact H
              clear H
              have H := H1
              clear H1
              replace H := Option.bind_eq_some_iff.mp H
              obtain ⟨t108, A110, H⟩ := H
              replace H : (some (rd y102 x11_1, (t108.size : Int))) = some (r1, r2) := H
              have A11 := Aside0.mk A110
              clear A110
              simp only [Option.some.injEq, Prod.mk.injEq] at H
              obtain ⟨rfl, rfl⟩ := H
              have p105 : 0 ≤ (x11_1 : Int) := of_decide_eq_true (by first | (with_reducible assumption) | assumption)
              have q105 : x11_1 < (y102.length : Int) := of_decide_eq_true (by first | (with_reducible assumption) | assumption)
              obtain ⟨ad105, e105, hx105_0⟩ := Kd.at_int (Kd.R_reads' HO_9.out).2.2 x11_1 p105 q105
              cases e105
              replace p105 := eq_true p105
              replace q105 := eq_true q105
              go_wp2_with (first | ((with_reducible refine gate_callee (f := 57) rfl ?_); refine goesL_ (some 17) rfl rfl Tryd.func57 (by kernel_rfl) rfl #[.int .u8 (rd y102 x11_1)] rfl (by (try simp only [List.map_toArray, List.map_cons, List.map_nil]); first | done | rfl | (simp only [List.length_drop, List.length_take]; rfl)) ?_; (with_reducible refine (escape_form.calls (rd y102 x11_1) t106 _ ?side1 A8.out).mono ?_); (case side1 => first | exact HGL.out | exact (Go.Proofs.YtgdemingopcgaaaDoorX.GL.below HGL.out (by repeat (first | (with_reducible first | exact HB.out | apply below_alloc | apply pw_below_drewN | apply below_drew1) | exact HB.out))) | (repeat (first | exact HGL.out | (with_reducible refine Go.Proofs.YtgdemingopcgaaaDoorX.GL.drewN ?_ _) | (with_reducible refine Go.Proofs.YtgdemingopcgaaaDoorX.GL.drew ?_)))); rintro e w12 ⟨rfl, hb⟩; refine ⟨_, rfl, ?_⟩; have n0_ := Aside0.mk (Kd.R_below (by (with_reducible repeat (first | apply Kd.R_alloc | apply Kd.R_drewN | apply Kd.R_drew)); exact HO_9.out) hb); have n1_ := Aside0.mk (below_step (by repeat (first | (with_reducible first | exact HB.out | apply below_alloc | apply pw_below_drewN | apply below_drew1) | exact HB.out)) hb); clear HO_9; clear HB; have HO_9 := n0_; have HB := n1_; clear n0_ n1_; (try clear hb); (try clear hb2); (try clear hk); (try clear hi)) | ((with_reducible refine gate_callee (f := 67) rfl ?_); refine goesL_ (some 18) rfl rfl Tryd.func67 (by kernel_rfl) rfl #[.string a0, .string t106] rfl (by (try simp only [List.map_toArray, List.map_cons, List.map_nil]); first | done | rfl | (simp only [List.length_drop, List.length_take]; rfl)) ?_; (with_reducible refine (strings_HasPrefix.calls a0 t106 true _ ?side1 A9.out).mono ?_); (case side1 => first | exact HGL.out | exact (Go.Proofs.YtgdemingopcgaaaDoorX.GL.below HGL.out (by repeat (first | (with_reducible first | exact HB.out | apply below_alloc | apply pw_below_drewN | apply below_drew1) | exact HB.out))) | (repeat (first | exact HGL.out | (with_reducible refine Go.Proofs.YtgdemingopcgaaaDoorX.GL.drewN ?_ _) | (with_reducible refine Go.Proofs.YtgdemingopcgaaaDoorX.GL.drew ?_)))); rintro e w' ⟨rfl, ⟨nd, rfl⟩⟩; refine ⟨_, rfl, ?_⟩) | ((with_reducible refine gate_callee (f := 57) rfl ?_); refine goesL_ (some 21) rfl rfl Tryd.func57 (by kernel_rfl) rfl #[.int .u8 (rd y102 x11_1)] rfl (by (try simp only [List.map_toArray, List.map_cons, List.map_nil]); first | done | rfl | (simp only [List.length_drop, List.length_take]; rfl)) ?_; (with_reducible refine (escape_form.calls (rd y102 x11_1) t108 _ ?side1 A11.out).mono ?_); (case side1 => first | exact HGL.out | exact (Go.Proofs.YtgdemingopcgaaaDoorX.GL.below HGL.out (by repeat (first | (with_reducible first | exact HB.out | apply below_alloc | apply pw_below_drewN | apply below_drew1) | exact HB.out))) | (repeat (first | exact HGL.out | (with_reducible refine Go.Proofs.YtgdemingopcgaaaDoorX.GL.drewN ?_ _) | (with_reducible refine Go.Proofs.YtgdemingopcgaaaDoorX.GL.drew ?_)))); rintro e w13 ⟨rfl, hb⟩; refine ⟨_, rfl, ?_⟩; have n0_ := Aside0.mk (Kd.R_below (by (with_reducible repeat (first | apply Kd.R_alloc | apply Kd.R_drewN | apply Kd.R_drew)); exact HO_9.out) hb); have n1_ := Aside0.mk (below_step (by repeat (first | (with_reducible first | exact HB.out | apply below_alloc | apply pw_below_drewN | apply below_drew1) | exact HB.out)) hb); clear HO_9; clear HB; have HO_9 := n0_; have HB := n1_; clear n0_ n1_; (try clear hb); (try clear hb2); (try clear hk); (try clear hi)))
              go_ret2
              exact ⟨by first | rfl | (simp [errW_none, errW_some] <;> rfl) | (simp [*, errW_none, errW_some] <;> rfl), by repeat (first | (with_reducible first | exact HB.out | apply below_alloc | apply pw_below_drewN | apply below_drew1) | exact HB.out)⟩
            · replace c10 := Bool.eq_false_iff.mpr c10
              subst c10
              have H1 : (escape_reference.l0 k1 a0 y102 (y102.length : Int) (wrap64 (x11_1 + 1))) = some (r1, r2) := by rw [if_neg (show ¬ (false = true) by decide)] at H; exact H
              clear H
              have H := H1
              clear H1
              have H' := Aside0.mk H
              clear H
              have p105 : 0 ≤ (x11_1 : Int) := of_decide_eq_true (by first | (with_reducible assumption) | assumption)
              have q105 : x11_1 < (y102.length : Int) := of_decide_eq_true (by first | (with_reducible assumption) | assumption)
              obtain ⟨ad105, e105, hx105_0⟩ := Kd.at_int (Kd.R_reads' HO_9.out).2.2 x11_1 p105 q105
              cases e105
              replace p105 := eq_true p105
              replace q105 := eq_true q105
              go_wp2_with (first | ((with_reducible refine gate_callee (f := 57) rfl ?_); refine goesL_ (some 17) rfl rfl Tryd.func57 (by kernel_rfl) rfl #[.int .u8 (rd y102 x11_1)] rfl (by (try simp only [List.map_toArray, List.map_cons, List.map_nil]); first | done | rfl | (simp only [List.length_drop, List.length_take]; rfl)) ?_; (with_reducible refine (escape_form.calls (rd y102 x11_1) t106 _ ?side1 A8.out).mono ?_); (case side1 => first | exact HGL.out | exact (Go.Proofs.YtgdemingopcgaaaDoorX.GL.below HGL.out (by repeat (first | (with_reducible first | exact HB.out | apply below_alloc | apply pw_below_drewN | apply below_drew1) | exact HB.out))) | (repeat (first | exact HGL.out | (with_reducible refine Go.Proofs.YtgdemingopcgaaaDoorX.GL.drewN ?_ _) | (with_reducible refine Go.Proofs.YtgdemingopcgaaaDoorX.GL.drew ?_)))); rintro e w14 ⟨rfl, hb⟩; refine ⟨_, rfl, ?_⟩; have n0_ := Aside0.mk (Kd.R_below (by (with_reducible repeat (first | apply Kd.R_alloc | apply Kd.R_drewN | apply Kd.R_drew)); exact HO_9.out) hb); have n1_ := Aside0.mk (below_step (by repeat (first | (with_reducible first | exact HB.out | apply below_alloc | apply pw_below_drewN | apply below_drew1) | exact HB.out)) hb); clear HO_9; clear HB; have HO_9 := n0_; have HB := n1_; clear n0_ n1_; (try clear hb); (try clear hb2); (try clear hk); (try clear hi)) | ((with_reducible refine gate_callee (f := 67) rfl ?_); refine goesL_ (some 18) rfl rfl Tryd.func67 (by kernel_rfl) rfl #[.string a0, .string t106] rfl (by (try simp only [List.map_toArray, List.map_cons, List.map_nil]); first | done | rfl | (simp only [List.length_drop, List.length_take]; rfl)) ?_; (with_reducible refine (strings_HasPrefix.calls a0 t106 false _ ?side1 A9.out).mono ?_); (case side1 => first | exact HGL.out | exact (Go.Proofs.YtgdemingopcgaaaDoorX.GL.below HGL.out (by repeat (first | (with_reducible first | exact HB.out | apply below_alloc | apply pw_below_drewN | apply below_drew1) | exact HB.out))) | (repeat (first | exact HGL.out | (with_reducible refine Go.Proofs.YtgdemingopcgaaaDoorX.GL.drewN ?_ _) | (with_reducible refine Go.Proofs.YtgdemingopcgaaaDoorX.GL.drew ?_)))); rintro e w' ⟨rfl, ⟨nd, rfl⟩⟩; refine ⟨_, rfl, ?_⟩))
              go_roundg k1
              case measure => have := HK1.out; omega
              case rel => exact ⟨(wrap64 (x11_1 + 1)), (by first | rfl | (simp; done) | (simp [*]; done)), H', ⟨by have := HK1.out; omega⟩, ⟨by (with_reducible repeat (first | apply Kd.R_alloc | apply Kd.R_drewN | apply Kd.R_drew)); exact HO_9.out⟩, ⟨by repeat (first | (with_reducible first | exact HB.out | apply below_alloc | apply pw_below_drewN | apply below_drew1) | exact HB.out)⟩⟩
          · rw [if_neg c7] at H
            exact absurd H (by simp)
        · rw [if_neg c6] at H
          exact absurd H (by simp)
      · rw [if_neg c5] at H
        have c5b0 : decide (x11_1 < (y102.length : Int)) = false := decide_eq_false c5
        clear c5
        replace H := Option.bind_eq_some_iff.mp H
        obtain ⟨t109, A150, H⟩ := H
        replace H : (if t109 = true then (if 0 ≤ (mn (a0.size : Int) 6) then (if (mn (a0.size : Int) 6) ≤ (a0.size : Int) then ((strings_IndexByte.f (a0.extract 0 ((mn (a0.size : Int) 6) : Int).toNat) 59).bind fun t110 => (if t110 < 0 then (some (0, 0)) else (if 2 ≤ t110 then (if t110 ≤ (a0.size : Int) then ((strconv_Atoi.f (a0.extract 2 (t110 : Int).toNat)).bind fun bt111 => (if bt111.2.isNone = true then (if bt111.1 < 0 then (some (0, 0)) else (if bt111.1 > 127 then (some (0, 0)) else ((escape_form.f ((bt111.1) % 256)).bind fun t114 => (if 0 ≤ (wrap64 (t110 + 1)) then (if (wrap64 (t110 + 1)) ≤ (a0.size : Int) then (if t114.toList = (a0.extract 0 ((wrap64 (t110 + 1)) : Int).toNat).toList then (some ((bt111.1) % 256, wrap64 (t110 + 1))) else (some (0, 0))) else (none)) else (none))))) else (some (0, 0)))) else (none)) else (none)))) else (none)) else (none)) else (some (0, 0))) = some (r1, r2) := H
        have A15 := Aside0.mk A150
        clear A150
        by_cases c16 : t109 = true
        · subst c16
          have H1 : (if 0 ≤ (mn (a0.size : Int) 6) then (if (mn (a0.size : Int) 6) ≤ (a0.size : Int) then ((strings_IndexByte.f (a0.extract 0 ((mn (a0.size : Int) 6) : Int).toNat) 59).bind fun t110 => (if t110 < 0 then (some (0, 0)) else (if 2 ≤ t110 then (if t110 ≤ (a0.size : Int) then ((strconv_Atoi.f (a0.extract 2 (t110 : Int).toNat)).bind fun bt111 => (if bt111.2.isNone = true then (if bt111.1 < 0 then (some (0, 0)) else (if bt111.1 > 127 then (some (0, 0)) else ((escape_form.f ((bt111.1) % 256)).bind fun t114 => (if 0 ≤ (wrap64 (t110 + 1)) then (if (wrap64 (t110 + 1)) ≤ (a0.size : Int) then (if t114.toList = (a0.extract 0 ((wrap64 (t110 + 1)) : Int).toNat).toList then (some ((bt111.1) % 256, wrap64 (t110 + 1))) else (some (0, 0))) else (none)) else (none))))) else (some (0, 0)))) else (none)) else (none)))) else (none)) else (none)) = some (r1, r2) := by rw [if_pos rfl] at H; exact H
          clear H
          have H := H1
          clear H1
          obtain ⟨ji17, hji17⟩ : ∃ j_ : Int, (mn (a0.size : Int) 6) = j_ := ⟨_, rfl⟩
          replace H : (if 0 ≤ (ji17) then (if (ji17) ≤ (a0.size : Int) then ((strings_IndexByte.f (a0.extract 0 ((ji17) : Int).toNat) 59).bind fun t110 => (if t110 < 0 then (some (0, 0)) else (if 2 ≤ t110 then (if t110 ≤ (a0.size : Int) then ((strconv_Atoi.f (a0.extract 2 (t110 : Int).toNat)).bind fun bt111 => (if bt111.2.isNone = true then (if bt111.1 < 0 then (some (0, 0)) else (if bt111.1 > 127 then (some (0, 0)) else ((escape_form.f ((bt111.1) % 256)).bind fun t114 => (if 0 ≤ (wrap64 (t110 + 1)) then (if (wrap64 (t110 + 1)) ≤ (a0.size : Int) then (if t114.toList = (a0.extract 0 ((wrap64 (t110 + 1)) : Int).toNat).toList then (some ((bt111.1) % 256, wrap64 (t110 + 1))) else (some (0, 0))) else (none)) else (none))))) else (some (0, 0)))) else (none)) else (none)))) else (none)) else (none)) = some (r1, r2) := by first | (rw [hji17] at H; exact H) | (simp only [hji17] at H ⊢; exact H)
          (try rw [hji17] at A15)
          have hji17_ : (if 6 < (a0.size : Int) then 6 else (a0.size : Int)) = ji17 := hji17
          (try (have hji17n : (if 6 < a0.size then (6 : Int) else (a0.size : Int)) = ji17 := by (rw [← hji17_]; (repeat' split) <;> (first | rfl | omega))))
          by_cases c18 : 0 ≤ (ji17)
          · rw [if_pos c18] at H
            have c18b0 := eq_true c18
            have c18b1 : decide (0 ≤ (ji17)) = true := decide_eq_true c18
            clear c18
            by_cases c19 : (ji17) ≤ (a0.size : Int)
            · rw [if_pos c19] at H
              have c19b0 := eq_true c19
              have c19b1 : decide ((ji17) ≤ (a0.size : Int)) = true := decide_eq_true c19
              clear c19
              replace H := Option.bind_eq_some_iff.mp H
              obtain ⟨t110, A200, H⟩ := H
              replace H : (if t110 < 0 then (some (0, 0)) else (if 2 ≤ t110 then (if t110 ≤ (a0.size : Int) then ((strconv_Atoi.f (a0.extract 2 (t110 : Int).toNat)).bind fun bt111 => (if bt111.2.isNone = true then (if bt111.1 < 0 then (some (0, 0)) else (if bt111.1 > 127 then (some (0, 0)) else ((escape_form.f ((bt111.1) % 256)).bind fun t114 => (if 0 ≤ (wrap64 (t110 + 1)) then (if (wrap64 (t110 + 1)) ≤ (a0.size : Int) then (if t114.toList = (a0.extract 0 ((wrap64 (t110 + 1)) : Int).toNat).toList then (some ((bt111.1) % 256, wrap64 (t110 + 1))) else (some (0, 0))) else (none)) else (none))))) else (some (0, 0)))) else (none)) else (none))) = some (r1, r2) := H
              have A20 := Aside0.mk A200
              clear A200
              by_cases c21 : t110 < 0
              · rw [if_pos c21] at H
                have c21b0 : decide (t110 < 0) = true := decide_eq_true c21
                clear c21
                simp only [Option.some.injEq, Prod.mk.injEq] at H
                obtain ⟨rfl, rfl⟩ := H
                go_wp2_with (first | ((with_reducible refine gate_callee (f := 67) rfl ?_); refine goesL_ (some 25) rfl rfl Tryd.func67 (by kernel_rfl) rfl #[.string a0, .string (⟨#[38, 35]⟩ : ByteArray)] rfl (by (try simp only [List.map_toArray, List.map_cons, List.map_nil]); first | done | rfl | (simp only [List.length_drop, List.length_take]; rfl)) ?_; (with_reducible refine (strings_HasPrefix.calls a0 (⟨#[38, 35]⟩ : ByteArray) true _ ?side1 A15.out).mono ?_); (case side1 => first | exact HGL.out | exact (Go.Proofs.YtgdemingopcgaaaDoorX.GL.below HGL.out (by repeat (first | (with_reducible first | exact HB.out | apply below_alloc | apply pw_below_drewN | apply below_drew1) | exact HB.out))) | (repeat (first | exact HGL.out | (with_reducible refine Go.Proofs.YtgdemingopcgaaaDoorX.GL.drewN ?_ _) | (with_reducible refine Go.Proofs.YtgdemingopcgaaaDoorX.GL.drew ?_)))); rintro e w' ⟨rfl, ⟨nd, rfl⟩⟩; refine ⟨_, rfl, ?_⟩) | ((with_reducible refine gate_callee (f := 65) rfl ?_); refine goesL_ (some 32) rfl rfl Tryd.func65 (by kernel_rfl) rfl #[.string (a0.extract 0 ((ji17) : Int).toNat), .int .u8 59] rfl (by (try simp only [List.map_toArray, List.map_cons, List.map_nil]); first | done | (simp only [hji17]; rfl) | rfl | (simp only [List.length_drop, List.length_take]; rfl)) ?_; (with_reducible refine (strings_IndexByte.calls (a0.extract 0 ((ji17) : Int).toNat) 59 t110 _ ?side1 A20.out).mono ?_); (case side1 => first | exact HGL.out | exact (Go.Proofs.YtgdemingopcgaaaDoorX.GL.below HGL.out (by repeat (first | (with_reducible first | exact HB.out | apply below_alloc | apply pw_below_drewN | apply below_drew1) | exact HB.out))) | (repeat (first | exact HGL.out | (with_reducible refine Go.Proofs.YtgdemingopcgaaaDoorX.GL.drewN ?_ _) | (with_reducible refine Go.Proofs.YtgdemingopcgaaaDoorX.GL.drew ?_)))); rintro e w' ⟨rfl, ⟨nd, rfl⟩⟩; refine ⟨_, rfl, ?_⟩))
                go_ret2
                exact ⟨by first | rfl | (simp [errW_none, errW_some] <;> rfl) | (simp only [← hji17]; first | rfl | (simp [errW_none, errW_some] <;> rfl)) | (simp [*, errW_none, errW_some] <;> rfl), by repeat (first | (with_reducible first | exact HB.out | apply below_alloc | apply pw_below_drewN | apply below_drew1) | exact HB.out)⟩
              · rw [if_neg c21] at H
                have c21b0 : decide (t110 < 0) = false := decide_eq_false c21
                clear c21
                by_cases c22 : 2 ≤ t110
                · rw [if_pos c22] at H
                  have c22b0 := eq_true c22
                  have c22b1 : decide (2 ≤ t110) = true := decide_eq_true c22
                  clear c22
                  by_cases c23 : t110 ≤ (a0.size : Int)
                  · rw [if_pos c23] at H
                    have c23b0 := eq_true c23
                    have c23b1 : decide (t110 ≤ (a0.size : Int)) = true := decide_eq_true c23
                    clear c23
                    replace H := Option.bind_eq_some_iff.mp H
                    obtain ⟨⟨t111, t112⟩, A240, H⟩ := H
                    replace H : (if t112.isNone = true then (if t111 < 0 then (some (0, 0)) else (if t111 > 127 then (some (0, 0)) else ((escape_form.f ((t111) % 256)).bind fun t114 => (if 0 ≤ (wrap64 (t110 + 1)) then (if (wrap64 (t110 + 1)) ≤ (a0.size : Int) then (if t114.toList = (a0.extract 0 ((wrap64 (t110 + 1)) : Int).toNat).toList then (some ((t111) % 256, wrap64 (t110 + 1))) else (some (0, 0))) else (none)) else (none))))) else (some (0, 0))) = some (r1, r2) := H
                    have A24 := Aside0.mk A240
                    clear A240
                    rcases t112 with _ | q113
                    · have H1 : (if t111 < 0 then (some (0, 0)) else (if t111 > 127 then (some (0, 0)) else ((escape_form.f ((t111) % 256)).bind fun t114 => (if 0 ≤ (wrap64 (t110 + 1)) then (if (wrap64 (t110 + 1)) ≤ (a0.size : Int) then (if t114.toList = (a0.extract 0 ((wrap64 (t110 + 1)) : Int).toNat).toList then (some ((t111) % 256, wrap64 (t110 + 1))) else (some (0, 0))) else (none)) else (none))))) = some (r1, r2) := by rw [if_pos (show (none : Option Int).isNone = true by rfl)] at H; exact H
                      clear H
                      have H := H1
                      clear H1
                      try simp only [errW_none, errW_some]
                      by_cases c25 : t111 < 0
                      · rw [if_pos c25] at H
                        have c25b0 : decide (t111 < 0) = true := decide_eq_true c25
                        clear c25
                        simp only [Option.some.injEq, Prod.mk.injEq] at H
                        obtain ⟨rfl, rfl⟩ := H
                        try go_wp2_with (first | ((with_reducible refine gate_callee (f := 67) rfl ?_); refine goesL_ (some 25) rfl rfl Tryd.func67 (by kernel_rfl) rfl #[.string a0, .string (⟨#[38, 35]⟩ : ByteArray)] rfl (by (try simp only [List.map_toArray, List.map_cons, List.map_nil]); first | done | rfl | (simp only [List.length_drop, List.length_take]; rfl)) ?_; (with_reducible refine (strings_HasPrefix.calls a0 (⟨#[38, 35]⟩ : ByteArray) true _ ?side1 A15.out).mono ?_); (case side1 => first | exact HGL.out | exact (Go.Proofs.YtgdemingopcgaaaDoorX.GL.below HGL.out (by repeat (first | (with_reducible first | exact HB.out | apply below_alloc | apply pw_below_drewN | apply below_drew1) | exact HB.out))) | (repeat (first | exact HGL.out | (with_reducible refine Go.Proofs.YtgdemingopcgaaaDoorX.GL.drewN ?_ _) | (with_reducible refine Go.Proofs.YtgdemingopcgaaaDoorX.GL.drew ?_)))); rintro e w' ⟨rfl, ⟨nd, rfl⟩⟩; refine ⟨_, rfl, ?_⟩) | ((with_reducible refine gate_callee (f := 65) rfl ?_); refine goesL_ (some 32) rfl rfl Tryd.func65 (by kernel_rfl) rfl #[.string (a0.extract 0 ((ji17) : Int).toNat), .int .u8 59] rfl (by (try simp only [List.map_toArray, List.map_cons, List.map_nil]); first | done | (simp only [hji17]; rfl) | rfl | (simp only [List.length_drop, List.length_take]; rfl)) ?_; (with_reducible refine (strings_IndexByte.calls (a0.extract 0 ((ji17) : Int).toNat) 59 t110 _ ?side1 A20.out).mono ?_); (case side1 => first | exact HGL.out | exact (Go.Proofs.YtgdemingopcgaaaDoorX.GL.below HGL.out (by repeat (first | (with_reducible first | exact HB.out | apply below_alloc | apply pw_below_drewN | apply below_drew1) | exact HB.out))) | (repeat (first | exact HGL.out | (with_reducible refine Go.Proofs.YtgdemingopcgaaaDoorX.GL.drewN ?_ _) | (with_reducible refine Go.Proofs.YtgdemingopcgaaaDoorX.GL.drew ?_)))); rintro e w' ⟨rfl, ⟨nd, rfl⟩⟩; refine ⟨_, rfl, ?_⟩) | ((with_reducible refine gate_callee (f := 61) rfl ?_); refine goesL_ (some 39) rfl rfl Tryd.func61 (by kernel_rfl) rfl #[.string (a0.extract 2 (t110 : Int).toNat)] rfl (by (try simp only [List.map_toArray, List.map_cons, List.map_nil]); first | done | rfl | (simp only [List.length_drop, List.length_take]; rfl)) ?_; (with_reducible refine (strconv_Atoi.calls (a0.extract 2 (t110 : Int).toNat) t111 none _ ?side1 A24.out).mono ?_); (case side1 => first | exact HGL.out | exact (Go.Proofs.YtgdemingopcgaaaDoorX.GL.below HGL.out (by repeat (first | (with_reducible first | exact HB.out | apply below_alloc | apply pw_below_drewN | apply below_drew1) | exact HB.out))) | (repeat (first | exact HGL.out | (with_reducible refine Go.Proofs.YtgdemingopcgaaaDoorX.GL.drewN ?_ _) | (with_reducible refine Go.Proofs.YtgdemingopcgaaaDoorX.GL.drew ?_)))); rintro e w26 ⟨rfl, hb⟩; refine ⟨_, rfl, ?_⟩; have n0_ := Aside0.mk (Kd.R_below (by (with_reducible repeat (first | apply Kd.R_alloc | apply Kd.R_drewN | apply Kd.R_drew)); exact HO_9.out) hb); have n1_ := Aside0.mk (below_step (by repeat (first | (with_reducible first | exact HB.out | apply below_alloc | apply pw_below_drewN | apply below_drew1) | exact HB.out)) hb); clear HO_9; clear HB; have HO_9 := n0_; have HB := n1_; clear n0_ n1_; (try clear hb); (try clear hb2); (try clear hk); (try clear hi); (try simp only [errW_none, errW_some])))
                        have n0_ := Aside0.mk (Kd.R_drew HO_9.out)
                        have n1_ := Aside0.mk (below_drew1 HB.out)
                        clear HO_9
                        clear HB
                        have HO_9 := n0_
                        have HB := n1_
                        clear n0_ n1_
                        refine start_ (n := 20) (S := fun w' => True) (ds := []) #[false, false, false, false, false, false, false, false, false, false, false, false, false, false, false, false, false, false, false, false] (by kernel_rfl) rfl rfl trivial (fun hHeld => ?_); refine with_tabW escape_reference.tab13 escape_reference.bits13 (fun HT_ HW_ => ?_)
                        generalize w26.drew = w27 at HO_9 HB hHeld ⊢
                        refine pure_ (i := 0) (N := some 42) (v := ?_) (a' := ?_) #[true, false, false, false, false, false, false, false, false, false, false, false, false, false, false, false, false, false, false, false] rfl rfl (any_of HT_.out (by kernel_rfl)) (fun _ _ _ h => h) (Or.inl ⟨by rfl, ?_⟩) ?_ ?_
                        rotate_left
                        · intro w'
                          go_simp
                          with_reducible rfl
                        rotate_left
                        · simp only [Act.put, List.setIfInBounds_toArray, List.set_cons_zero, List.set_cons_succ, i64_w, i32_w]
                          rfl
                        refine pure_ (i := 1) (N := some 43) (v := ?_) (a' := ?_) #[true, true, false, false, false, false, false, false, false, false, false, false, false, false, false, false, false, false, false, false] rfl rfl (any_of HT_.out (by kernel_rfl)) (fun _ _ _ h => h) (Or.inl ⟨by rfl, ?_⟩) ?_ ?_
                        rotate_left
                        · intro w'
                          go_simp
                          with_reducible rfl
                        rotate_left
                        · simp only [Act.put, List.setIfInBounds_toArray, List.set_cons_zero, List.set_cons_succ, i64_w, i32_w]
                          rfl
                        refine pure_ (i := 2) (N := some 44) (v := ?_) (a' := ?_) #[true, true, true, false, false, false, false, false, false, false, false, false, false, false, false, false, false, false, false, false] rfl rfl (any_of HT_.out (by kernel_rfl)) (fun _ _ _ h => h) (Or.inl ⟨by rfl, ?_⟩) ?_ ?_
                        rotate_left
                        · intro w'
                          go_simp
                          with_reducible rfl
                        rotate_left
                        · simp only [Act.put, List.setIfInBounds_toArray, List.set_cons_zero, List.set_cons_succ, i64_w, i32_w]
                          rfl
                        refine pure_ (i := 3) (N := some 45) (v := ?_) (a' := ?_) #[true, true, true, true, false, false, false, false, false, false, false, false, false, false, false, false, false, false, false, false] rfl rfl (any_of HT_.out (by kernel_rfl)) (fun _ _ _ h => h) (Or.inl ⟨by rfl, ?_⟩) ?_ ?_
                        rotate_left
                        · intro w'
                          go_simp
                          with_reducible rfl
                        rotate_left
                        · simp only [Act.put, List.setIfInBounds_toArray, List.set_cons_zero, List.set_cons_succ, i64_w, i32_w]
                          rfl
                        refine pure_ (i := 4) (N := some 46) (v := ?_) (a' := ?_) #[true, true, true, true, true, false, false, false, false, false, false, false, false, false, false, false, false, false, false, false] rfl rfl (any_of HT_.out (by kernel_rfl)) (fun _ _ _ h => h) (Or.inl ⟨by rfl, ?_⟩) ?_ ?_
                        rotate_left
                        · intro w'
                          go_simp
                          with_reducible rfl
                        rotate_left
                        · simp only [Act.put, List.setIfInBounds_toArray, List.set_cons_zero, List.set_cons_succ, i64_w, i32_w]
                          rfl
                        refine pure_ (i := 5) (N := some 47) (v := ?_) (a' := ?_) #[true, true, true, true, true, true, false, false, false, false, false, false, false, false, false, false, false, false, false, false] rfl rfl (any_of HT_.out (by kernel_rfl)) (fun _ _ _ h => h) (Or.inl ⟨by rfl, ?_⟩) ?_ ?_
                        rotate_left
                        · intro w'
                          go_simp
                          with_reducible rfl
                        rotate_left
                        · simp only [Act.put, List.setIfInBounds_toArray, List.set_cons_zero, List.set_cons_succ, i64_w, i32_w]
                          rfl
                        refine pure_ (i := 6) (N := some 48) (v := ?_) (a' := ?_) #[true, true, true, true, true, true, true, false, false, false, false, false, false, false, false, false, false, false, false, false] rfl rfl (any_of HT_.out (by kernel_rfl)) (fun _ _ _ h => h) (Or.inl ⟨by rfl, ?_⟩) ?_ ?_
                        rotate_left
                        · intro w'
                          go_simp
                          with_reducible rfl
                        rotate_left
                        · simp only [Act.put, List.setIfInBounds_toArray, List.set_cons_zero, List.set_cons_succ, i64_w, i32_w]
                          rfl
                        refine pure_ (i := 7) (N := some 49) (v := undef) (a' := ?_) #[true, true, true, true, true, true, true, true, false, false, false, false, false, false, false, false, false, false, false, false] rfl rfl (any_of HT_.out (by kernel_rfl)) (fun _ _ _ h => h) (Or.inr ⟨by rfl, rfl⟩) ?_ ?_
                        rotate_left
                        · simp only [Act.put, List.setIfInBounds_toArray, List.set_cons_zero, List.set_cons_succ, i64_w, i32_w]
                          rfl
                        refine pure_ (i := 8) (N := some 50) (v := undef) (a' := ?_) #[true, true, true, true, true, true, true, true, true, false, false, false, false, false, false, false, false, false, false, false] rfl rfl (any_of HT_.out (by kernel_rfl)) (fun _ _ _ h => h) (Or.inr ⟨by rfl, rfl⟩) ?_ ?_
                        rotate_left
                        · simp only [Act.put, List.setIfInBounds_toArray, List.set_cons_zero, List.set_cons_succ, i64_w, i32_w]
                          rfl
                        refine pure_ (i := 9) (N := some 51) (v := ?_) (a' := ?_) #[true, true, true, true, true, true, true, true, true, true, false, false, false, false, false, false, false, false, false, false] rfl rfl (any_of HT_.out (by kernel_rfl)) (fun _ _ _ h => h) (Or.inl ⟨by rfl, ?_⟩) ?_ ?_
                        rotate_left
                        · intro w'
                          go_simp
                          with_reducible rfl
                        rotate_left
                        · simp only [Act.put, List.setIfInBounds_toArray, List.set_cons_zero, List.set_cons_succ, i64_w, i32_w]
                          rfl
                        refine pure_ (i := 10) (N := some 52) (v := ?_) (a' := ?_) #[true, true, true, true, true, true, true, true, true, true, true, false, false, false, false, false, false, false, false, false] rfl rfl (any_of HT_.out (by kernel_rfl)) (fun _ _ _ h => h) (Or.inl ⟨by rfl, ?_⟩) ?_ ?_
                        rotate_left
                        · intro w'
                          go_simp
                          with_reducible rfl
                        rotate_left
                        · simp only [Act.put, List.setIfInBounds_toArray, List.set_cons_zero, List.set_cons_succ, i64_w, i32_w]
                          rfl
                        refine pure_ (i := 11) (N := some 53) (v := undef) (a' := ?_) #[true, true, true, true, true, true, true, true, true, true, true, true, false, false, false, false, false, false, false, false] rfl rfl (any_of HT_.out (by kernel_rfl)) (fun _ _ _ h => h) (Or.inr ⟨by rfl, rfl⟩) ?_ ?_
                        rotate_left
                        · simp only [Act.put, List.setIfInBounds_toArray, List.set_cons_zero, List.set_cons_succ, i64_w, i32_w]
                          rfl
                        refine pure_ (i := 12) (N := some 54) (v := undef) (a' := ?_) #[true, true, true, true, true, true, true, true, true, true, true, true, true, false, false, false, false, false, false, false] rfl rfl (any_of HT_.out (by kernel_rfl)) (fun _ _ _ h => h) (Or.inr ⟨by rfl, rfl⟩) ?_ ?_
                        rotate_left
                        · simp only [Act.put, List.setIfInBounds_toArray, List.set_cons_zero, List.set_cons_succ, i64_w, i32_w]
                          rfl
                        refine pure_ (i := 13) (N := some 55) (v := undef) (a' := ?_) #[true, true, true, true, true, true, true, true, true, true, true, true, true, true, false, false, false, false, false, false] rfl rfl (any_of HT_.out (by kernel_rfl)) (fun _ _ _ h => h) (Or.inr ⟨by rfl, rfl⟩) ?_ ?_
                        rotate_left
                        · simp only [Act.put, List.setIfInBounds_toArray, List.set_cons_zero, List.set_cons_succ, i64_w, i32_w]
                          rfl
                        refine pure_ (i := 14) (N := some 56) (v := undef) (a' := ?_) #[true, true, true, true, true, true, true, true, true, true, true, true, true, true, true, false, false, false, false, false] rfl rfl (any_of HT_.out (by kernel_rfl)) (fun _ _ _ h => h) (Or.inr ⟨by rfl, rfl⟩) ?_ ?_
                        rotate_left
                        · simp only [Act.put, List.setIfInBounds_toArray, List.set_cons_zero, List.set_cons_succ, i64_w, i32_w]
                          rfl
                        refine pure_ (i := 15) (N := some 57) (v := undef) (a' := ?_) #[true, true, true, true, true, true, true, true, true, true, true, true, true, true, true, true, false, false, false, false] rfl rfl (any_of HT_.out (by kernel_rfl)) (fun _ _ _ h => h) (Or.inr ⟨by rfl, rfl⟩) ?_ ?_
                        rotate_left
                        · simp only [Act.put, List.setIfInBounds_toArray, List.set_cons_zero, List.set_cons_succ, i64_w, i32_w]
                          rfl
                        refine pure_ (i := 16) (N := some 58) (v := undef) (a' := ?_) #[true, true, true, true, true, true, true, true, true, true, true, true, true, true, true, true, true, false, false, false] rfl rfl (any_of HT_.out (by kernel_rfl)) (fun _ _ _ h => h) (Or.inr ⟨by rfl, rfl⟩) ?_ ?_
                        rotate_left
                        · simp only [Act.put, List.setIfInBounds_toArray, List.set_cons_zero, List.set_cons_succ, i64_w, i32_w]
                          rfl
                        refine pure_ (i := 17) (N := some 59) (v := undef) (a' := ?_) #[true, true, true, true, true, true, true, true, true, true, true, true, true, true, true, true, true, true, false, false] rfl rfl (any_of HT_.out (by kernel_rfl)) (fun _ _ _ h => h) (Or.inr ⟨by rfl, rfl⟩) ?_ ?_
                        rotate_left
                        · simp only [Act.put, List.setIfInBounds_toArray, List.set_cons_zero, List.set_cons_succ, i64_w, i32_w]
                          rfl
                        refine pure_ (i := 18) (N := some 60) (v := undef) (a' := ?_) #[true, true, true, true, true, true, true, true, true, true, true, true, true, true, true, true, true, true, true, false] rfl rfl (any_of HT_.out (by kernel_rfl)) (fun _ _ _ h => h) (Or.inr ⟨by rfl, rfl⟩) ?_ ?_
                        rotate_left
                        · simp only [Act.put, List.setIfInBounds_toArray, List.set_cons_zero, List.set_cons_succ, i64_w, i32_w]
                          rfl
                        refine pure_ (i := 19) (N := some 61) (v := ?_) (a' := ?_) #[true, true, true, true, true, true, true, true, true, true, true, true, true, true, true, true, true, true, true, true] rfl rfl (any_of HT_.out (by kernel_rfl)) (fun _ _ _ h => h) (Or.inl ⟨by rfl, ?_⟩) ?_ ?_
                        rotate_left
                        · intro w'
                          go_simp
                          with_reducible rfl
                        rotate_left
                        · simp only [Act.put, List.setIfInBounds_toArray, List.set_cons_zero, List.set_cons_succ, i64_w, i32_w]
                          rfl
                        refine done_ (done_of HT_.out (by kernel_rfl)) ?_
                        try go_wp2
                        go_ret2
                        exact ⟨by first | rfl | (simp [errW_none, errW_some] <;> rfl) | (simp only [← hji17]; first | rfl | (simp [errW_none, errW_some] <;> rfl)) | (simp [*, errW_none, errW_some] <;> rfl), by repeat (first | (with_reducible first | exact HB.out | apply below_alloc | apply pw_below_drewN | apply below_drew1) | exact HB.out)⟩
                      · rw [if_neg c25] at H
                        have c25b0 : decide (t111 < 0) = false := decide_eq_false c25
                        clear c25
                        by_cases c28 : t111 > 127
                        · rw [if_pos c28] at H
                          have c28b0 : decide (127 < t111) = true := decide_eq_true c28
                          clear c28
                          simp only [Option.some.injEq, Prod.mk.injEq] at H
                          obtain ⟨rfl, rfl⟩ := H
                          try go_wp2_with (first | ((with_reducible refine gate_callee (f := 67) rfl ?_); refine goesL_ (some 25) rfl rfl Tryd.func67 (by kernel_rfl) rfl #[.string a0, .string (⟨#[38, 35]⟩ : ByteArray)] rfl (by (try simp only [List.map_toArray, List.map_cons, List.map_nil]); first | done | rfl | (simp only [List.length_drop, List.length_take]; rfl)) ?_; (with_reducible refine (strings_HasPrefix.calls a0 (⟨#[38, 35]⟩ : ByteArray) true _ ?side1 A15.out).mono ?_); (case side1 => first | exact HGL.out | exact (Go.Proofs.YtgdemingopcgaaaDoorX.GL.below HGL.out (by repeat (first | (with_reducible first | exact HB.out | apply below_alloc | apply pw_below_drewN | apply below_drew1) | exact HB.out))) | (repeat (first | exact HGL.out | (with_reducible refine Go.Proofs.YtgdemingopcgaaaDoorX.GL.drewN ?_ _) | (with_reducible refine Go.Proofs.YtgdemingopcgaaaDoorX.GL.drew ?_)))); rintro e w' ⟨rfl, ⟨nd, rfl⟩⟩; refine ⟨_, rfl, ?_⟩) | ((with_reducible refine gate_callee (f := 65) rfl ?_); refine goesL_ (some 32) rfl rfl Tryd.func65 (by kernel_rfl) rfl #[.string (a0.extract 0 ((ji17) : Int).toNat), .int .u8 59] rfl (by (try simp only [List.map_toArray, List.map_cons, List.map_nil]); first | done | (simp only [hji17]; rfl) | rfl | (simp only [List.length_drop, List.length_take]; rfl)) ?_; (with_reducible refine (strings_IndexByte.calls (a0.extract 0 ((ji17) : Int).toNat) 59 t110 _ ?side1 A20.out).mono ?_); (case side1 => first | exact HGL.out | exact (Go.Proofs.YtgdemingopcgaaaDoorX.GL.below HGL.out (by repeat (first | (with_reducible first | exact HB.out | apply below_alloc | apply pw_below_drewN | apply below_drew1) | exact HB.out))) | (repeat (first | exact HGL.out | (with_reducible refine Go.Proofs.YtgdemingopcgaaaDoorX.GL.drewN ?_ _) | (with_reducible refine Go.Proofs.YtgdemingopcgaaaDoorX.GL.drew ?_)))); rintro e w' ⟨rfl, ⟨nd, rfl⟩⟩; refine ⟨_, rfl, ?_⟩) | ((with_reducible refine gate_callee (f := 61) rfl ?_); refine goesL_ (some 39) rfl rfl Tryd.func61 (by kernel_rfl) rfl #[.string (a0.extract 2 (t110 : Int).toNat)] rfl (by (try simp only [List.map_toArray, List.map_cons, List.map_nil]); first | done | rfl | (simp only [List.length_drop, List.length_take]; rfl)) ?_; (with_reducible refine (strconv_Atoi.calls (a0.extract 2 (t110 : Int).toNat) t111 none _ ?side1 A24.out).mono ?_); (case side1 => first | exact HGL.out | exact (Go.Proofs.YtgdemingopcgaaaDoorX.GL.below HGL.out (by repeat (first | (with_reducible first | exact HB.out | apply below_alloc | apply pw_below_drewN | apply below_drew1) | exact HB.out))) | (repeat (first | exact HGL.out | (with_reducible refine Go.Proofs.YtgdemingopcgaaaDoorX.GL.drewN ?_ _) | (with_reducible refine Go.Proofs.YtgdemingopcgaaaDoorX.GL.drew ?_)))); rintro e w29 ⟨rfl, hb⟩; refine ⟨_, rfl, ?_⟩; have n0_ := Aside0.mk (Kd.R_below (by (with_reducible repeat (first | apply Kd.R_alloc | apply Kd.R_drewN | apply Kd.R_drew)); exact HO_9.out) hb); have n1_ := Aside0.mk (below_step (by repeat (first | (with_reducible first | exact HB.out | apply below_alloc | apply pw_below_drewN | apply below_drew1) | exact HB.out)) hb); clear HO_9; clear HB; have HO_9 := n0_; have HB := n1_; clear n0_ n1_; (try clear hb); (try clear hb2); (try clear hk); (try clear hi); (try simp only [errW_none, errW_some])))
                          have n0_ := Aside0.mk (Kd.R_drew HO_9.out)
                          have n1_ := Aside0.mk (below_drew1 HB.out)
                          clear HO_9
                          clear HB
                          have HO_9 := n0_
                          have HB := n1_
                          clear n0_ n1_
                          refine start_ (n := 20) (S := fun w' => True) (ds := []) #[false, false, false, false, false, false, false, false, false, false, false, false, false, false, false, false, false, false, false, false] (by kernel_rfl) rfl rfl trivial (fun hHeld => ?_); refine with_tabW escape_reference.tab13 escape_reference.bits13 (fun HT_ HW_ => ?_)
                          generalize w29.drew = w30 at HO_9 HB hHeld ⊢
                          refine pure_ (i := 0) (N := some 42) (v := ?_) (a' := ?_) #[true, false, false, false, false, false, false, false, false, false, false, false, false, false, false, false, false, false, false, false] rfl rfl (any_of HT_.out (by kernel_rfl)) (fun _ _ _ h => h) (Or.inl ⟨by rfl, ?_⟩) ?_ ?_
                          rotate_left
                          · intro w'
                            go_simp
                            with_reducible rfl
                          rotate_left
                          · simp only [Act.put, List.setIfInBounds_toArray, List.set_cons_zero, List.set_cons_succ, i64_w, i32_w]
                            rfl
                          refine pure_ (i := 1) (N := some 43) (v := ?_) (a' := ?_) #[true, true, false, false, false, false, false, false, false, false, false, false, false, false, false, false, false, false, false, false] rfl rfl (any_of HT_.out (by kernel_rfl)) (fun _ _ _ h => h) (Or.inl ⟨by rfl, ?_⟩) ?_ ?_
                          rotate_left
                          · intro w'
                            go_simp
                            with_reducible rfl
                          rotate_left
                          · simp only [Act.put, List.setIfInBounds_toArray, List.set_cons_zero, List.set_cons_succ, i64_w, i32_w]
                            rfl
                          refine pure_ (i := 2) (N := some 44) (v := ?_) (a' := ?_) #[true, true, true, false, false, false, false, false, false, false, false, false, false, false, false, false, false, false, false, false] rfl rfl (any_of HT_.out (by kernel_rfl)) (fun _ _ _ h => h) (Or.inl ⟨by rfl, ?_⟩) ?_ ?_
                          rotate_left
                          · intro w'
                            go_simp
                            with_reducible rfl
                          rotate_left
                          · simp only [Act.put, List.setIfInBounds_toArray, List.set_cons_zero, List.set_cons_succ, i64_w, i32_w]
                            rfl
                          refine pure_ (i := 3) (N := some 45) (v := ?_) (a' := ?_) #[true, true, true, true, false, false, false, false, false, false, false, false, false, false, false, false, false, false, false, false] rfl rfl (any_of HT_.out (by kernel_rfl)) (fun _ _ _ h => h) (Or.inl ⟨by rfl, ?_⟩) ?_ ?_
                          rotate_left
                          · intro w'
                            go_simp
                            with_reducible rfl
                          rotate_left
                          · simp only [Act.put, List.setIfInBounds_toArray, List.set_cons_zero, List.set_cons_succ, i64_w, i32_w]
                            rfl
                          refine pure_ (i := 4) (N := some 46) (v := ?_) (a' := ?_) #[true, true, true, true, true, false, false, false, false, false, false, false, false, false, false, false, false, false, false, false] rfl rfl (any_of HT_.out (by kernel_rfl)) (fun _ _ _ h => h) (Or.inl ⟨by rfl, ?_⟩) ?_ ?_
                          rotate_left
                          · intro w'
                            go_simp
                            with_reducible rfl
                          rotate_left
                          · simp only [Act.put, List.setIfInBounds_toArray, List.set_cons_zero, List.set_cons_succ, i64_w, i32_w]
                            rfl
                          refine pure_ (i := 5) (N := some 47) (v := ?_) (a' := ?_) #[true, true, true, true, true, true, false, false, false, false, false, false, false, false, false, false, false, false, false, false] rfl rfl (any_of HT_.out (by kernel_rfl)) (fun _ _ _ h => h) (Or.inl ⟨by rfl, ?_⟩) ?_ ?_
                          rotate_left
                          · intro w'
                            go_simp
                            with_reducible rfl
                          rotate_left
                          · simp only [Act.put, List.setIfInBounds_toArray, List.set_cons_zero, List.set_cons_succ, i64_w, i32_w]
                            rfl
                          refine pure_ (i := 6) (N := some 48) (v := ?_) (a' := ?_) #[true, true, true, true, true, true, true, false, false, false, false, false, false, false, false, false, false, false, false, false] rfl rfl (any_of HT_.out (by kernel_rfl)) (fun _ _ _ h => h) (Or.inl ⟨by rfl, ?_⟩) ?_ ?_
                          rotate_left
                          · intro w'
                            go_simp
                            with_reducible rfl
                          rotate_left
                          · simp only [Act.put, List.setIfInBounds_toArray, List.set_cons_zero, List.set_cons_succ, i64_w, i32_w]
                            rfl
                          refine pure_ (i := 7) (N := some 49) (v := ?_) (a' := ?_) #[true, true, true, true, true, true, true, true, false, false, false, false, false, false, false, false, false, false, false, false] rfl rfl (any_of HT_.out (by kernel_rfl)) (fun _ _ _ h => h) (Or.inl ⟨by rfl, ?_⟩) ?_ ?_
                          rotate_left
                          · intro w'
                            go_simp
                            with_reducible rfl
                          rotate_left
                          · simp only [Act.put, List.setIfInBounds_toArray, List.set_cons_zero, List.set_cons_succ, i64_w, i32_w]
                            rfl
                          refine pure_ (i := 8) (N := some 50) (v := ?_) (a' := ?_) #[true, true, true, true, true, true, true, true, true, false, false, false, false, false, false, false, false, false, false, false] rfl rfl (any_of HT_.out (by kernel_rfl)) (fun _ _ _ h => h) (Or.inl ⟨by rfl, ?_⟩) ?_ ?_
                          rotate_left
                          · intro w'
                            go_simp
                            with_reducible rfl
                          rotate_left
                          · simp only [Act.put, List.setIfInBounds_toArray, List.set_cons_zero, List.set_cons_succ, i64_w, i32_w]
                            rfl
                          refine pure_ (i := 9) (N := some 51) (v := ?_) (a' := ?_) #[true, true, true, true, true, true, true, true, true, true, false, false, false, false, false, false, false, false, false, false] rfl rfl (any_of HT_.out (by kernel_rfl)) (fun _ _ _ h => h) (Or.inl ⟨by rfl, ?_⟩) ?_ ?_
                          rotate_left
                          · intro w'
                            go_simp
                            with_reducible rfl
                          rotate_left
                          · simp only [Act.put, List.setIfInBounds_toArray, List.set_cons_zero, List.set_cons_succ, i64_w, i32_w]
                            rfl
                          refine pure_ (i := 10) (N := some 52) (v := ?_) (a' := ?_) #[true, true, true, true, true, true, true, true, true, true, true, false, false, false, false, false, false, false, false, false] rfl rfl (any_of HT_.out (by kernel_rfl)) (fun _ _ _ h => h) (Or.inl ⟨by rfl, ?_⟩) ?_ ?_
                          rotate_left
                          · intro w'
                            go_simp
                            with_reducible rfl
                          rotate_left
                          · simp only [Act.put, List.setIfInBounds_toArray, List.set_cons_zero, List.set_cons_succ, i64_w, i32_w]
                            rfl
                          refine pure_ (i := 11) (N := some 53) (v := undef) (a' := ?_) #[true, true, true, true, true, true, true, true, true, true, true, true, false, false, false, false, false, false, false, false] rfl rfl (any_of HT_.out (by kernel_rfl)) (fun _ _ _ h => h) (Or.inr ⟨by rfl, rfl⟩) ?_ ?_
                          rotate_left
                          · simp only [Act.put, List.setIfInBounds_toArray, List.set_cons_zero, List.set_cons_succ, i64_w, i32_w]
                            rfl
                          refine pure_ (i := 12) (N := some 54) (v := undef) (a' := ?_) #[true, true, true, true, true, true, true, true, true, true, true, true, true, false, false, false, false, false, false, false] rfl rfl (any_of HT_.out (by kernel_rfl)) (fun _ _ _ h => h) (Or.inr ⟨by rfl, rfl⟩) ?_ ?_
                          rotate_left
                          · simp only [Act.put, List.setIfInBounds_toArray, List.set_cons_zero, List.set_cons_succ, i64_w, i32_w]
                            rfl
                          refine pure_ (i := 13) (N := some 55) (v := undef) (a' := ?_) #[true, true, true, true, true, true, true, true, true, true, true, true, true, true, false, false, false, false, false, false] rfl rfl (any_of HT_.out (by kernel_rfl)) (fun _ _ _ h => h) (Or.inr ⟨by rfl, rfl⟩) ?_ ?_
                          rotate_left
                          · simp only [Act.put, List.setIfInBounds_toArray, List.set_cons_zero, List.set_cons_succ, i64_w, i32_w]
                            rfl
                          refine pure_ (i := 14) (N := some 56) (v := undef) (a' := ?_) #[true, true, true, true, true, true, true, true, true, true, true, true, true, true, true, false, false, false, false, false] rfl rfl (any_of HT_.out (by kernel_rfl)) (fun _ _ _ h => h) (Or.inr ⟨by rfl, rfl⟩) ?_ ?_
                          rotate_left
                          · simp only [Act.put, List.setIfInBounds_toArray, List.set_cons_zero, List.set_cons_succ, i64_w, i32_w]
                            rfl
                          refine pure_ (i := 15) (N := some 57) (v := undef) (a' := ?_) #[true, true, true, true, true, true, true, true, true, true, true, true, true, true, true, true, false, false, false, false] rfl rfl (any_of HT_.out (by kernel_rfl)) (fun _ _ _ h => h) (Or.inr ⟨by rfl, rfl⟩) ?_ ?_
                          rotate_left
                          · simp only [Act.put, List.setIfInBounds_toArray, List.set_cons_zero, List.set_cons_succ, i64_w, i32_w]
                            rfl
                          refine pure_ (i := 16) (N := some 58) (v := undef) (a' := ?_) #[true, true, true, true, true, true, true, true, true, true, true, true, true, true, true, true, true, false, false, false] rfl rfl (any_of HT_.out (by kernel_rfl)) (fun _ _ _ h => h) (Or.inr ⟨by rfl, rfl⟩) ?_ ?_
                          rotate_left
                          · simp only [Act.put, List.setIfInBounds_toArray, List.set_cons_zero, List.set_cons_succ, i64_w, i32_w]
                            rfl
                          refine pure_ (i := 17) (N := some 59) (v := undef) (a' := ?_) #[true, true, true, true, true, true, true, true, true, true, true, true, true, true, true, true, true, true, false, false] rfl rfl (any_of HT_.out (by kernel_rfl)) (fun _ _ _ h => h) (Or.inr ⟨by rfl, rfl⟩) ?_ ?_
                          rotate_left
                          · simp only [Act.put, List.setIfInBounds_toArray, List.set_cons_zero, List.set_cons_succ, i64_w, i32_w]
                            rfl
                          refine pure_ (i := 18) (N := some 60) (v := undef) (a' := ?_) #[true, true, true, true, true, true, true, true, true, true, true, true, true, true, true, true, true, true, true, false] rfl rfl (any_of HT_.out (by kernel_rfl)) (fun _ _ _ h => h) (Or.inr ⟨by rfl, rfl⟩) ?_ ?_
                          rotate_left
                          · simp only [Act.put, List.setIfInBounds_toArray, List.set_cons_zero, List.set_cons_succ, i64_w, i32_w]
                            rfl
                          refine pure_ (i := 19) (N := some 61) (v := ?_) (a' := ?_) #[true, true, true, true, true, true, true, true, true, true, true, true, true, true, true, true, true, true, true, true] rfl rfl (any_of HT_.out (by kernel_rfl)) (fun _ _ _ h => h) (Or.inl ⟨by rfl, ?_⟩) ?_ ?_
                          rotate_left
                          · intro w'
                            go_simp
                            with_reducible rfl
                          rotate_left
                          · simp only [Act.put, List.setIfInBounds_toArray, List.set_cons_zero, List.set_cons_succ, i64_w, i32_w]
                            rfl
                          refine done_ (done_of HT_.out (by kernel_rfl)) ?_
                          try go_wp2
                          go_ret2
                          exact ⟨by first | rfl | (simp [errW_none, errW_some] <;> rfl) | (simp only [← hji17]; first | rfl | (simp [errW_none, errW_some] <;> rfl)) | (simp [*, errW_none, errW_some] <;> rfl), by repeat (first | (with_reducible first | exact HB.out | apply below_alloc | apply pw_below_drewN | apply below_drew1) | exact HB.out)⟩
                        · rw [if_neg c28] at H
                          have c28b0 : decide (127 < t111) = false := decide_eq_false c28
                          clear c28
                          replace H := Option.bind_eq_some_iff.mp H
                          obtain ⟨t114, A310, H⟩ := H
                          replace H : (if 0 ≤ (wrap64 (t110 + 1)) then (if (wrap64 (t110 + 1)) ≤ (a0.size : Int) then (if t114.toList = (a0.extract 0 ((wrap64 (t110 + 1)) : Int).toNat).toList then (some ((t111) % 256, wrap64 (t110 + 1))) else (some (0, 0))) else (none)) else (none)) = some (r1, r2) := H
                          have A31 := Aside0.mk A310
                          clear A310
                          obtain ⟨ji32, hji32⟩ : ∃ j_ : Int, (wrap64 (t110 + 1)) = j_ := ⟨_, rfl⟩
                          replace H : (if 0 ≤ (ji32) then (if (ji32) ≤ (a0.size : Int) then (if t114.toList = (a0.extract 0 ((ji32) : Int).toNat).toList then (some ((t111) % 256, ji32)) else (some (0, 0))) else (none)) else (none)) = some (r1, r2) := by first | (rw [hji32] at H; exact H) | (simp only [hji32] at H ⊢; exact H)
                          (try rw [hji32] at A15)
                          (try rw [hji32] at A20)
                          (try rw [hji32] at A24)
                          (try rw [hji32] at A31)
                          have hji32w : (IntKind.i64.wrap (t110 + 1)) = ji32 := (i64_w _).trans hji32
                          by_cases c33 : 0 ≤ (ji32)
                          · rw [if_pos c33] at H
                            have c33b0 := eq_true c33
                            have c33b1 : decide (0 ≤ (ji32)) = true := decide_eq_true c33
                            clear c33
                            by_cases c34 : (ji32) ≤ (a0.size : Int)
                            · rw [if_pos c34] at H
                              have c34b0 := eq_true c34
                              have c34b1 : decide ((ji32) ≤ (a0.size : Int)) = true := decide_eq_true c34
                              clear c34
                              by_cases c35 : t114.toList = (a0.extract 0 ((ji32) : Int).toNat).toList
                              · rw [if_pos c35] at H
                                have c35b0 : (t114.toList == (a0.extract 0 ((ji32) : Int).toNat).toList) = true := beq_iff_eq.mpr c35
                                have c35b1 : (t114.toList != (a0.extract 0 ((ji32) : Int).toNat).toList) = false := bne_eq_false_iff_eq.mpr c35
                                clear c35
                                simp only [Option.some.injEq, Prod.mk.injEq] at H
                                obtain ⟨rfl, rfl⟩ := H
                                try go_wp2_with (first | ((with_reducible refine gate_callee (f := 67) rfl ?_); refine goesL_ (some 25) rfl rfl Tryd.func67 (by kernel_rfl) rfl #[.string a0, .string (⟨#[38, 35]⟩ : ByteArray)] rfl (by (try simp only [List.map_toArray, List.map_cons, List.map_nil]); first | done | rfl | (simp only [List.length_drop, List.length_take]; rfl)) ?_; (with_reducible refine (strings_HasPrefix.calls a0 (⟨#[38, 35]⟩ : ByteArray) true _ ?side1 A15.out).mono ?_); (case side1 => first | exact HGL.out | exact (Go.Proofs.YtgdemingopcgaaaDoorX.GL.below HGL.out (by repeat (first | (with_reducible first | exact HB.out | apply below_alloc | apply pw_below_drewN | apply below_drew1) | exact HB.out))) | (repeat (first | exact HGL.out | (with_reducible refine Go.Proofs.YtgdemingopcgaaaDoorX.GL.drewN ?_ _) | (with_reducible refine Go.Proofs.YtgdemingopcgaaaDoorX.GL.drew ?_)))); rintro e w' ⟨rfl, ⟨nd, rfl⟩⟩; refine ⟨_, rfl, ?_⟩) | ((with_reducible refine gate_callee (f := 65) rfl ?_); refine goesL_ (some 32) rfl rfl Tryd.func65 (by kernel_rfl) rfl #[.string (a0.extract 0 ((ji17) : Int).toNat), .int .u8 59] rfl (by (try simp only [List.map_toArray, List.map_cons, List.map_nil]); first | done | (simp only [hji17]; rfl) | rfl | (simp only [List.length_drop, List.length_take]; rfl)) ?_; (with_reducible refine (strings_IndexByte.calls (a0.extract 0 ((ji17) : Int).toNat) 59 t110 _ ?side1 A20.out).mono ?_); (case side1 => first | exact HGL.out | exact (Go.Proofs.YtgdemingopcgaaaDoorX.GL.below HGL.out (by repeat (first | (with_reducible first | exact HB.out | apply below_alloc | apply pw_below_drewN | apply below_drew1) | exact HB.out))) | (repeat (first | exact HGL.out | (with_reducible refine Go.Proofs.YtgdemingopcgaaaDoorX.GL.drewN ?_ _) | (with_reducible refine Go.Proofs.YtgdemingopcgaaaDoorX.GL.drew ?_)))); rintro e w' ⟨rfl, ⟨nd, rfl⟩⟩; refine ⟨_, rfl, ?_⟩) | ((with_reducible refine gate_callee (f := 61) rfl ?_); refine goesL_ (some 39) rfl rfl Tryd.func61 (by kernel_rfl) rfl #[.string (a0.extract 2 (t110 : Int).toNat)] rfl (by (try simp only [List.map_toArray, List.map_cons, List.map_nil]); first | done | rfl | (simp only [List.length_drop, List.length_take]; rfl)) ?_; (with_reducible refine (strconv_Atoi.calls (a0.extract 2 (t110 : Int).toNat) t111 none _ ?side1 A24.out).mono ?_); (case side1 => first | exact HGL.out | exact (Go.Proofs.YtgdemingopcgaaaDoorX.GL.below HGL.out (by repeat (first | (with_reducible first | exact HB.out | apply below_alloc | apply pw_below_drewN | apply below_drew1) | exact HB.out))) | (repeat (first | exact HGL.out | (with_reducible refine Go.Proofs.YtgdemingopcgaaaDoorX.GL.drewN ?_ _) | (with_reducible refine Go.Proofs.YtgdemingopcgaaaDoorX.GL.drew ?_)))); rintro e w36 ⟨rfl, hb⟩; refine ⟨_, rfl, ?_⟩; have n0_ := Aside0.mk (Kd.R_below (by (with_reducible repeat (first | apply Kd.R_alloc | apply Kd.R_drewN | apply Kd.R_drew)); exact HO_9.out) hb); have n1_ := Aside0.mk (below_step (by repeat (first | (with_reducible first | exact HB.out | apply below_alloc | apply pw_below_drewN | apply below_drew1) | exact HB.out)) hb); clear HO_9; clear HB; have HO_9 := n0_; have HB := n1_; clear n0_ n1_; (try clear hb); (try clear hb2); (try clear hk); (try clear hi); (try simp only [errW_none, errW_some])))
                                have n0_ := Aside0.mk (Kd.R_drew HO_9.out)
                                have n1_ := Aside0.mk (below_drew1 HB.out)
                                clear HO_9
                                clear HB
                                have HO_9 := n0_
                                have HB := n1_
                                clear n0_ n1_
                                refine start_ (n := 20) (S := fun w' => True) (ds := []) #[false, false, false, false, false, false, false, false, false, false, false, false, false, false, false, false, false, false, false, false] (by kernel_rfl) rfl rfl trivial (fun hHeld => ?_); refine with_tabW escape_reference.tab13 escape_reference.bits13 (fun HT_ HW_ => ?_)
                                generalize w36.drew = w37 at HO_9 HB hHeld ⊢
                                refine pure_ (i := 0) (N := some 42) (v := ?_) (a' := ?_) #[true, false, false, false, false, false, false, false, false, false, false, false, false, false, false, false, false, false, false, false] rfl rfl (any_of HT_.out (by kernel_rfl)) (fun _ _ _ h => h) (Or.inl ⟨by rfl, ?_⟩) ?_ ?_
                                rotate_left
                                · intro w'
                                  go_simp
                                  with_reducible rfl
                                rotate_left
                                · simp only [Act.put, List.setIfInBounds_toArray, List.set_cons_zero, List.set_cons_succ, i64_w, i32_w]
                                  rfl
                                refine pure_ (i := 1) (N := some 43) (v := ?_) (a' := ?_) #[true, true, false, false, false, false, false, false, false, false, false, false, false, false, false, false, false, false, false, false] rfl rfl (any_of HT_.out (by kernel_rfl)) (fun _ _ _ h => h) (Or.inl ⟨by rfl, ?_⟩) ?_ ?_
                                rotate_left
                                · intro w'
                                  go_simp
                                  with_reducible rfl
                                rotate_left
                                · simp only [Act.put, List.setIfInBounds_toArray, List.set_cons_zero, List.set_cons_succ, i64_w, i32_w]
                                  rfl
                                refine pure_ (i := 2) (N := some 44) (v := ?_) (a' := ?_) #[true, true, true, false, false, false, false, false, false, false, false, false, false, false, false, false, false, false, false, false] rfl rfl (any_of HT_.out (by kernel_rfl)) (fun _ _ _ h => h) (Or.inl ⟨by rfl, ?_⟩) ?_ ?_
                                rotate_left
                                · intro w'
                                  go_simp
                                  with_reducible rfl
                                rotate_left
                                · simp only [Act.put, List.setIfInBounds_toArray, List.set_cons_zero, List.set_cons_succ, i64_w, i32_w]
                                  rfl
                                refine pure_ (i := 3) (N := some 45) (v := ?_) (a' := ?_) #[true, true, true, true, false, false, false, false, false, false, false, false, false, false, false, false, false, false, false, false] rfl rfl (any_of HT_.out (by kernel_rfl)) (fun _ _ _ h => h) (Or.inl ⟨by rfl, ?_⟩) ?_ ?_
                                rotate_left
                                · intro w'
                                  go_simp
                                  with_reducible rfl
                                rotate_left
                                · simp only [Act.put, List.setIfInBounds_toArray, List.set_cons_zero, List.set_cons_succ, i64_w, i32_w]
                                  rfl
                                refine pure_ (i := 4) (N := some 46) (v := ?_) (a' := ?_) #[true, true, true, true, true, false, false, false, false, false, false, false, false, false, false, false, false, false, false, false] rfl rfl (any_of HT_.out (by kernel_rfl)) (fun _ _ _ h => h) (Or.inl ⟨by rfl, ?_⟩) ?_ ?_
                                rotate_left
                                · intro w'
                                  go_simp
                                  with_reducible rfl
                                rotate_left
                                · simp only [Act.put, List.setIfInBounds_toArray, List.set_cons_zero, List.set_cons_succ, i64_w, i32_w]
                                  rfl
                                refine pure_ (i := 5) (N := some 47) (v := ?_) (a' := ?_) #[true, true, true, true, true, true, false, false, false, false, false, false, false, false, false, false, false, false, false, false] rfl rfl (any_of HT_.out (by kernel_rfl)) (fun _ _ _ h => h) (Or.inl ⟨by rfl, ?_⟩) ?_ ?_
                                rotate_left
                                · intro w'
                                  go_simp
                                  with_reducible rfl
                                rotate_left
                                · simp only [Act.put, List.setIfInBounds_toArray, List.set_cons_zero, List.set_cons_succ, i64_w, i32_w]
                                  rfl
                                refine pure_ (i := 6) (N := some 48) (v := ?_) (a' := ?_) #[true, true, true, true, true, true, true, false, false, false, false, false, false, false, false, false, false, false, false, false] rfl rfl (any_of HT_.out (by kernel_rfl)) (fun _ _ _ h => h) (Or.inl ⟨by rfl, ?_⟩) ?_ ?_
                                rotate_left
                                · intro w'
                                  go_simp
                                  with_reducible rfl
                                rotate_left
                                · simp only [Act.put, List.setIfInBounds_toArray, List.set_cons_zero, List.set_cons_succ, i64_w, i32_w]
                                  rfl
                                refine pure_ (i := 7) (N := some 49) (v := ?_) (a' := ?_) #[true, true, true, true, true, true, true, true, false, false, false, false, false, false, false, false, false, false, false, false] rfl rfl (any_of HT_.out (by kernel_rfl)) (fun _ _ _ h => h) (Or.inl ⟨by rfl, ?_⟩) ?_ ?_
                                rotate_left
                                · intro w'
                                  go_simp
                                  with_reducible rfl
                                rotate_left
                                · simp only [Act.put, List.setIfInBounds_toArray, List.set_cons_zero, List.set_cons_succ, i64_w, i32_w]
                                  rfl
                                refine pure_ (i := 8) (N := some 50) (v := ?_) (a' := ?_) #[true, true, true, true, true, true, true, true, true, false, false, false, false, false, false, false, false, false, false, false] rfl rfl (any_of HT_.out (by kernel_rfl)) (fun _ _ _ h => h) (Or.inl ⟨by rfl, ?_⟩) ?_ ?_
                                rotate_left
                                · intro w'
                                  go_simp
                                  with_reducible rfl
                                rotate_left
                                · simp only [Act.put, List.setIfInBounds_toArray, List.set_cons_zero, List.set_cons_succ, i64_w, i32_w]
                                  rfl
                                refine pure_ (i := 9) (N := some 51) (v := ?_) (a' := ?_) #[true, true, true, true, true, true, true, true, true, true, false, false, false, false, false, false, false, false, false, false] rfl rfl (any_of HT_.out (by kernel_rfl)) (fun _ _ _ h => h) (Or.inl ⟨by rfl, ?_⟩) ?_ ?_
                                rotate_left
                                · intro w'
                                  go_simp
                                  with_reducible rfl
                                rotate_left
                                · simp only [Act.put, List.setIfInBounds_toArray, List.set_cons_zero, List.set_cons_succ, i64_w, i32_w]
                                  rfl
                                refine pure_ (i := 10) (N := some 52) (v := ?_) (a' := ?_) #[true, true, true, true, true, true, true, true, true, true, true, false, false, false, false, false, false, false, false, false] rfl rfl (any_of HT_.out (by kernel_rfl)) (fun _ _ _ h => h) (Or.inl ⟨by rfl, ?_⟩) ?_ ?_
                                rotate_left
                                · intro w'
                                  go_simp
                                  with_reducible rfl
                                rotate_left
                                · simp only [Act.put, List.setIfInBounds_toArray, List.set_cons_zero, List.set_cons_succ, i64_w, i32_w]
                                  rfl
                                refine pure_ (i := 11) (N := some 53) (v := ?_) (a' := ?_) #[true, true, true, true, true, true, true, true, true, true, true, true, false, false, false, false, false, false, false, false] rfl rfl (any_of HT_.out (by kernel_rfl)) (fun _ _ _ h => h) (Or.inl ⟨by rfl, ?_⟩) ?_ ?_
                                rotate_left
                                · intro w'
                                  go_simp
                                  with_reducible rfl
                                rotate_left
                                · simp only [Act.put, List.setIfInBounds_toArray, List.set_cons_zero, List.set_cons_succ, i64_w, i32_w]
                                  rfl
                                refine pure_ (i := 12) (N := some 54) (v := ?_) (a' := ?_) #[true, true, true, true, true, true, true, true, true, true, true, true, true, false, false, false, false, false, false, false] rfl rfl (any_of HT_.out (by kernel_rfl)) (fun _ _ _ h => h) (Or.inl ⟨by rfl, ?_⟩) ?_ ?_
                                rotate_left
                                · intro w'
                                  go_simp
                                  with_reducible rfl
                                rotate_left
                                · simp only [Act.put, List.setIfInBounds_toArray, List.set_cons_zero, List.set_cons_succ, i64_w, i32_w]
                                  rfl
                                refine pure_ (i := 14) (N := some 56) (v := ?_) (a' := ?_) #[true, true, true, true, true, true, true, true, true, true, true, true, true, false, true, false, false, false, false, false] rfl rfl (any_of HT_.out (by kernel_rfl)) (fun _ _ _ h => h) (Or.inl ⟨by rfl, ?_⟩) ?_ ?_
                                rotate_left
                                · intro w'
                                  go_simp
                                  with_reducible rfl
                                rotate_left
                                · simp only [Act.put, List.setIfInBounds_toArray, List.set_cons_zero, List.set_cons_succ, i64_w, i32_w]
                                  rfl
                                refine pure_ (i := 15) (N := some 57) (v := ?_) (a' := ?_) #[true, true, true, true, true, true, true, true, true, true, true, true, true, false, true, true, false, false, false, false] rfl rfl (any_of HT_.out (by kernel_rfl)) (fun _ _ _ h => h) (Or.inl ⟨by rfl, ?_⟩) ?_ ?_
                                rotate_left
                                · intro w'
                                  go_simp
                                  with_reducible rfl
                                rotate_left
                                · simp only [Act.put, List.setIfInBounds_toArray, List.set_cons_zero, List.set_cons_succ, i64_w, i32_w]
                                  rfl
                                refine pure_ (i := 16) (N := some 58) (v := ?_) (a' := ?_) #[true, true, true, true, true, true, true, true, true, true, true, true, true, false, true, true, true, false, false, false] rfl rfl (any_of HT_.out (by kernel_rfl)) (fun _ _ _ h => h) (Or.inl ⟨by rfl, ?_⟩) ?_ ?_
                                rotate_left
                                · intro w'
                                  go_simp
                                  with_reducible rfl
                                rotate_left
                                · simp only [Act.put, List.setIfInBounds_toArray, List.set_cons_zero, List.set_cons_succ, i64_w, i32_w]
                                  rfl
                                refine pure_ (i := 17) (N := some 59) (v := ?_) (a' := ?_) #[true, true, true, true, true, true, true, true, true, true, true, true, true, false, true, true, true, true, false, false] rfl rfl (any_of HT_.out (by kernel_rfl)) (fun _ _ _ h => h) (Or.inl ⟨by rfl, ?_⟩) ?_ ?_
                                rotate_left
                                · intro w'
                                  go_simp
                                  with_reducible rfl
                                rotate_left
                                · simp only [Act.put, List.setIfInBounds_toArray, List.set_cons_zero, List.set_cons_succ, i64_w, i32_w]
                                  rfl
                                refine one_ (i := 13) (N := some 55) #[true, true, true, true, true, true, true, true, true, true, true, true, true, true, true, true, true, true, false, false] rfl rfl (one_of HT_.out (by kernel_rfl)) (by decide) (fun K hK => ?_)
                                refine goes_ Tryd.func57 (by kernel_rfl) rfl #[.int .u8 ((t111) % 256)] (by rfl) rfl rfl (by (try simp only [List.map_toArray, List.map_cons, List.map_nil]); first | done | rfl | (simp only [List.length_drop, List.length_take]; rfl)) ?_
                                with_reducible refine (escape_form.calls ((t111) % 256) t114 _ ?side1 A31.out).mono ?_
                                (case side1 => first | exact HGL.out | exact (Go.Proofs.YtgdemingopcgaaaDoorX.GL.below HGL.out (by repeat (first | (with_reducible first | exact HB.out | apply below_alloc | apply pw_below_drewN | apply below_drew1) | exact HB.out))) | (repeat (first | exact HGL.out | (with_reducible refine Go.Proofs.YtgdemingopcgaaaDoorX.GL.drewN ?_ _) | (with_reducible refine Go.Proofs.YtgdemingopcgaaaDoorX.GL.drew ?_))))
                                rintro e w38 ⟨rfl, hb⟩
                                refine ⟨_, rfl, ?_⟩
                                have n0_ := Aside0.mk (Kd.R_below (by (with_reducible repeat (first | apply Kd.R_alloc | apply Kd.R_drewN | apply Kd.R_drew)); exact HO_9.out) hb)
                                have n1_ := Aside0.mk (below_step (by repeat (first | (with_reducible first | exact HB.out | apply below_alloc | apply pw_below_drewN | apply below_drew1) | exact HB.out)) hb)
                                clear HO_9
                                clear HB
                                have HO_9 := n0_
                                have HB := n1_
                                clear n0_ n1_
                                (try clear hb)
                                (try clear hb2)
                                (try clear hk)
                                (try clear hi)
                                refine hK.out _ _ trivial (fun hHeld => ?_)
                                clear hK K
                                refine norm_ (a' := ?_) ?_ ?_
                                rotate_left
                                · show Act.put _ (some 55) _ = _
                                  simp only [Act.put, List.setIfInBounds_toArray, List.set_cons_zero, List.set_cons_succ, i64_w, i32_w]
                                  rfl
                                refine pure_ (i := 18) (N := some 60) (v := ?_) (a' := ?_) #[true, true, true, true, true, true, true, true, true, true, true, true, true, true, true, true, true, true, true, false] rfl rfl (any_of HT_.out (by kernel_rfl)) (fun _ _ _ h => h) (Or.inl ⟨by rfl, ?_⟩) ?_ ?_
                                rotate_left
                                · intro w'
                                  go_simp
                                  with_reducible rfl
                                rotate_left
                                · simp only [Act.put, List.setIfInBounds_toArray, List.set_cons_zero, List.set_cons_succ, i64_w, i32_w]
                                  rfl
                                refine pure_ (i := 19) (N := some 61) (v := ?_) (a' := ?_) #[true, true, true, true, true, true, true, true, true, true, true, true, true, true, true, true, true, true, true, true] rfl rfl (any_of HT_.out (by kernel_rfl)) (fun _ _ _ h => h) (Or.inl ⟨by rfl, ?_⟩) ?_ ?_
                                rotate_left
                                · intro w'
                                  go_simp
                                  with_reducible rfl
                                rotate_left
                                · simp only [Act.put, List.setIfInBounds_toArray, List.set_cons_zero, List.set_cons_succ, i64_w, i32_w]
                                  rfl
                                refine done_ (done_of HT_.out (by kernel_rfl)) ?_
                                try go_wp2
                                go_ret2
                                exact ⟨by first | rfl | (simp [errW_none, errW_some] <;> rfl) | (simp only [← hji17, ← hji32]; first | rfl | (simp [errW_none, errW_some] <;> rfl)) | (simp [*, errW_none, errW_some] <;> rfl), by repeat (first | (with_reducible first | exact HB.out | apply below_alloc | apply pw_below_drewN | apply below_drew1) | exact HB.out)⟩
                              · rw [if_neg c35] at H
                                have c35b0 : (t114.toList == (a0.extract 0 ((ji32) : Int).toNat).toList) = false := beq_eq_false_iff_ne.mpr c35
                                have c35b1 : (t114.toList != (a0.extract 0 ((ji32) : Int).toNat).toList) = true := bne_iff_ne.mpr c35
                                simp only [Option.some.injEq, Prod.mk.injEq] at H
                                obtain ⟨rfl, rfl⟩ := H
                                try go_wp2_with (first | ((with_reducible refine gate_callee (f := 67) rfl ?_); refine goesL_ (some 25) rfl rfl Tryd.func67 (by kernel_rfl) rfl #[.string a0, .string (⟨#[38, 35]⟩ : ByteArray)] rfl (by (try simp only [List.map_toArray, List.map_cons, List.map_nil]); first | done | rfl | (simp only [List.length_drop, List.length_take]; rfl)) ?_; (with_reducible refine (strings_HasPrefix.calls a0 (⟨#[38, 35]⟩ : ByteArray) true _ ?side1 A15.out).mono ?_); (case side1 => first | exact HGL.out | exact (Go.Proofs.YtgdemingopcgaaaDoorX.GL.below HGL.out (by repeat (first | (with_reducible first | exact HB.out | apply below_alloc | apply pw_below_drewN | apply below_drew1) | exact HB.out))) | (repeat (first | exact HGL.out | (with_reducible refine Go.Proofs.YtgdemingopcgaaaDoorX.GL.drewN ?_ _) | (with_reducible refine Go.Proofs.YtgdemingopcgaaaDoorX.GL.drew ?_)))); rintro e w' ⟨rfl, ⟨nd, rfl⟩⟩; refine ⟨_, rfl, ?_⟩) | ((with_reducible refine gate_callee (f := 65) rfl ?_); refine goesL_ (some 32) rfl rfl Tryd.func65 (by kernel_rfl) rfl #[.string (a0.extract 0 ((ji17) : Int).toNat), .int .u8 59] rfl (by (try simp only [List.map_toArray, List.map_cons, List.map_nil]); first | done | (simp only [hji17]; rfl) | rfl | (simp only [List.length_drop, List.length_take]; rfl)) ?_; (with_reducible refine (strings_IndexByte.calls (a0.extract 0 ((ji17) : Int).toNat) 59 t110 _ ?side1 A20.out).mono ?_); (case side1 => first | exact HGL.out | exact (Go.Proofs.YtgdemingopcgaaaDoorX.GL.below HGL.out (by repeat (first | (with_reducible first | exact HB.out | apply below_alloc | apply pw_below_drewN | apply below_drew1) | exact HB.out))) | (repeat (first | exact HGL.out | (with_reducible refine Go.Proofs.YtgdemingopcgaaaDoorX.GL.drewN ?_ _) | (with_reducible refine Go.Proofs.YtgdemingopcgaaaDoorX.GL.drew ?_)))); rintro e w' ⟨rfl, ⟨nd, rfl⟩⟩; refine ⟨_, rfl, ?_⟩) | ((with_reducible refine gate_callee (f := 61) rfl ?_); refine goesL_ (some 39) rfl rfl Tryd.func61 (by kernel_rfl) rfl #[.string (a0.extract 2 (t110 : Int).toNat)] rfl (by (try simp only [List.map_toArray, List.map_cons, List.map_nil]); first | done | rfl | (simp only [List.length_drop, List.length_take]; rfl)) ?_; (with_reducible refine (strconv_Atoi.calls (a0.extract 2 (t110 : Int).toNat) t111 none _ ?side1 A24.out).mono ?_); (case side1 => first | exact HGL.out | exact (Go.Proofs.YtgdemingopcgaaaDoorX.GL.below HGL.out (by repeat (first | (with_reducible first | exact HB.out | apply below_alloc | apply pw_below_drewN | apply below_drew1) | exact HB.out))) | (repeat (first | exact HGL.out | (with_reducible refine Go.Proofs.YtgdemingopcgaaaDoorX.GL.drewN ?_ _) | (with_reducible refine Go.Proofs.YtgdemingopcgaaaDoorX.GL.drew ?_)))); rintro e w39 ⟨rfl, hb⟩; refine ⟨_, rfl, ?_⟩; have n0_ := Aside0.mk (Kd.R_below (by (with_reducible repeat (first | apply Kd.R_alloc | apply Kd.R_drewN | apply Kd.R_drew)); exact HO_9.out) hb); have n1_ := Aside0.mk (below_step (by repeat (first | (with_reducible first | exact HB.out | apply below_alloc | apply pw_below_drewN | apply below_drew1) | exact HB.out)) hb); clear HO_9; clear HB; have HO_9 := n0_; have HB := n1_; clear n0_ n1_; (try clear hb); (try clear hb2); (try clear hk); (try clear hi); (try simp only [errW_none, errW_some])))
                                have n0_ := Aside0.mk (Kd.R_drew HO_9.out)
                                have n1_ := Aside0.mk (below_drew1 HB.out)
                                clear HO_9
                                clear HB
                                have HO_9 := n0_
                                have HB := n1_
                                clear n0_ n1_
                                refine start_ (n := 20) (S := fun w' => True) (ds := []) #[false, false, false, false, false, false, false, false, false, false, false, false, false, false, false, false, false, false, false, false] (by kernel_rfl) rfl rfl trivial (fun hHeld => ?_); refine with_tabW escape_reference.tab13 escape_reference.bits13 (fun HT_ HW_ => ?_)
                                generalize w39.drew = w40 at HO_9 HB hHeld ⊢
                                refine pure_ (i := 0) (N := some 42) (v := ?_) (a' := ?_) #[true, false, false, false, false, false, false, false, false, false, false, false, false, false, false, false, false, false, false, false] rfl rfl (any_of HT_.out (by kernel_rfl)) (fun _ _ _ h => h) (Or.inl ⟨by rfl, ?_⟩) ?_ ?_
                                rotate_left
                                · intro w'
                                  go_simp
                                  with_reducible rfl
                                rotate_left
                                · simp only [Act.put, List.setIfInBounds_toArray, List.set_cons_zero, List.set_cons_succ, i64_w, i32_w]
                                  rfl
                                refine pure_ (i := 1) (N := some 43) (v := ?_) (a' := ?_) #[true, true, false, false, false, false, false, false, false, false, false, false, false, false, false, false, false, false, false, false] rfl rfl (any_of HT_.out (by kernel_rfl)) (fun _ _ _ h => h) (Or.inl ⟨by rfl, ?_⟩) ?_ ?_
                                rotate_left
                                · intro w'
                                  go_simp
                                  with_reducible rfl
                                rotate_left
                                · simp only [Act.put, List.setIfInBounds_toArray, List.set_cons_zero, List.set_cons_succ, i64_w, i32_w]
                                  rfl
                                refine pure_ (i := 2) (N := some 44) (v := ?_) (a' := ?_) #[true, true, true, false, false, false, false, false, false, false, false, false, false, false, false, false, false, false, false, false] rfl rfl (any_of HT_.out (by kernel_rfl)) (fun _ _ _ h => h) (Or.inl ⟨by rfl, ?_⟩) ?_ ?_
                                rotate_left
                                · intro w'
                                  go_simp
                                  with_reducible rfl
                                rotate_left
                                · simp only [Act.put, List.setIfInBounds_toArray, List.set_cons_zero, List.set_cons_succ, i64_w, i32_w]
                                  rfl
                                refine pure_ (i := 3) (N := some 45) (v := ?_) (a' := ?_) #[true, true, true, true, false, false, false, false, false, false, false, false, false, false, false, false, false, false, false, false] rfl rfl (any_of HT_.out (by kernel_rfl)) (fun _ _ _ h => h) (Or.inl ⟨by rfl, ?_⟩) ?_ ?_
                                rotate_left
                                · intro w'
                                  go_simp
                                  with_reducible rfl
                                rotate_left
                                · simp only [Act.put, List.setIfInBounds_toArray, List.set_cons_zero, List.set_cons_succ, i64_w, i32_w]
                                  rfl
                                refine pure_ (i := 4) (N := some 46) (v := ?_) (a' := ?_) #[true, true, true, true, true, false, false, false, false, false, false, false, false, false, false, false, false, false, false, false] rfl rfl (any_of HT_.out (by kernel_rfl)) (fun _ _ _ h => h) (Or.inl ⟨by rfl, ?_⟩) ?_ ?_
                                rotate_left
                                · intro w'
                                  go_simp
                                  with_reducible rfl
                                rotate_left
                                · simp only [Act.put, List.setIfInBounds_toArray, List.set_cons_zero, List.set_cons_succ, i64_w, i32_w]
                                  rfl
                                refine pure_ (i := 5) (N := some 47) (v := ?_) (a' := ?_) #[true, true, true, true, true, true, false, false, false, false, false, false, false, false, false, false, false, false, false, false] rfl rfl (any_of HT_.out (by kernel_rfl)) (fun _ _ _ h => h) (Or.inl ⟨by rfl, ?_⟩) ?_ ?_
                                rotate_left
                                · intro w'
                                  go_simp
                                  with_reducible rfl
                                rotate_left
                                · simp only [Act.put, List.setIfInBounds_toArray, List.set_cons_zero, List.set_cons_succ, i64_w, i32_w]
                                  rfl
                                refine pure_ (i := 6) (N := some 48) (v := ?_) (a' := ?_) #[true, true, true, true, true, true, true, false, false, false, false, false, false, false, false, false, false, false, false, false] rfl rfl (any_of HT_.out (by kernel_rfl)) (fun _ _ _ h => h) (Or.inl ⟨by rfl, ?_⟩) ?_ ?_
                                rotate_left
                                · intro w'
                                  go_simp
                                  with_reducible rfl
                                rotate_left
                                · simp only [Act.put, List.setIfInBounds_toArray, List.set_cons_zero, List.set_cons_succ, i64_w, i32_w]
                                  rfl
                                refine pure_ (i := 7) (N := some 49) (v := ?_) (a' := ?_) #[true, true, true, true, true, true, true, true, false, false, false, false, false, false, false, false, false, false, false, false] rfl rfl (any_of HT_.out (by kernel_rfl)) (fun _ _ _ h => h) (Or.inl ⟨by rfl, ?_⟩) ?_ ?_
                                rotate_left
                                · intro w'
                                  go_simp
                                  with_reducible rfl
                                rotate_left
                                · simp only [Act.put, List.setIfInBounds_toArray, List.set_cons_zero, List.set_cons_succ, i64_w, i32_w]
                                  rfl
                                refine pure_ (i := 8) (N := some 50) (v := ?_) (a' := ?_) #[true, true, true, true, true, true, true, true, true, false, false, false, false, false, false, false, false, false, false, false] rfl rfl (any_of HT_.out (by kernel_rfl)) (fun _ _ _ h => h) (Or.inl ⟨by rfl, ?_⟩) ?_ ?_
                                rotate_left
                                · intro w'
                                  go_simp
                                  with_reducible rfl
                                rotate_left
                                · simp only [Act.put, List.setIfInBounds_toArray, List.set_cons_zero, List.set_cons_succ, i64_w, i32_w]
                                  rfl
                                refine pure_ (i := 9) (N := some 51) (v := ?_) (a' := ?_) #[true, true, true, true, true, true, true, true, true, true, false, false, false, false, false, false, false, false, false, false] rfl rfl (any_of HT_.out (by kernel_rfl)) (fun _ _ _ h => h) (Or.inl ⟨by rfl, ?_⟩) ?_ ?_
                                rotate_left
                                · intro w'
                                  go_simp
                                  with_reducible rfl
                                rotate_left
                                · simp only [Act.put, List.setIfInBounds_toArray, List.set_cons_zero, List.set_cons_succ, i64_w, i32_w]
                                  rfl
                                refine pure_ (i := 10) (N := some 52) (v := ?_) (a' := ?_) #[true, true, true, true, true, true, true, true, true, true, true, false, false, false, false, false, false, false, false, false] rfl rfl (any_of HT_.out (by kernel_rfl)) (fun _ _ _ h => h) (Or.inl ⟨by rfl, ?_⟩) ?_ ?_
                                rotate_left
                                · intro w'
                                  go_simp
                                  with_reducible rfl
                                rotate_left
                                · simp only [Act.put, List.setIfInBounds_toArray, List.set_cons_zero, List.set_cons_succ, i64_w, i32_w]
                                  rfl
                                refine pure_ (i := 11) (N := some 53) (v := ?_) (a' := ?_) #[true, true, true, true, true, true, true, true, true, true, true, true, false, false, false, false, false, false, false, false] rfl rfl (any_of HT_.out (by kernel_rfl)) (fun _ _ _ h => h) (Or.inl ⟨by rfl, ?_⟩) ?_ ?_
                                rotate_left
                                · intro w'
                                  go_simp
                                  with_reducible rfl
                                rotate_left
                                · simp only [Act.put, List.setIfInBounds_toArray, List.set_cons_zero, List.set_cons_succ, i64_w, i32_w]
                                  rfl
                                refine pure_ (i := 12) (N := some 54) (v := ?_) (a' := ?_) #[true, true, true, true, true, true, true, true, true, true, true, true, true, false, false, false, false, false, false, false] rfl rfl (any_of HT_.out (by kernel_rfl)) (fun _ _ _ h => h) (Or.inl ⟨by rfl, ?_⟩) ?_ ?_
                                rotate_left
                                · intro w'
                                  go_simp
                                  with_reducible rfl
                                rotate_left
                                · simp only [Act.put, List.setIfInBounds_toArray, List.set_cons_zero, List.set_cons_succ, i64_w, i32_w]
                                  rfl
                                refine pure_ (i := 14) (N := some 56) (v := ?_) (a' := ?_) #[true, true, true, true, true, true, true, true, true, true, true, true, true, false, true, false, false, false, false, false] rfl rfl (any_of HT_.out (by kernel_rfl)) (fun _ _ _ h => h) (Or.inl ⟨by rfl, ?_⟩) ?_ ?_
                                rotate_left
                                · intro w'
                                  go_simp
                                  with_reducible rfl
                                rotate_left
                                · simp only [Act.put, List.setIfInBounds_toArray, List.set_cons_zero, List.set_cons_succ, i64_w, i32_w]
                                  rfl
                                refine pure_ (i := 15) (N := some 57) (v := ?_) (a' := ?_) #[true, true, true, true, true, true, true, true, true, true, true, true, true, false, true, true, false, false, false, false] rfl rfl (any_of HT_.out (by kernel_rfl)) (fun _ _ _ h => h) (Or.inl ⟨by rfl, ?_⟩) ?_ ?_
                                rotate_left
                                · intro w'
                                  go_simp
                                  with_reducible rfl
                                rotate_left
                                · simp only [Act.put, List.setIfInBounds_toArray, List.set_cons_zero, List.set_cons_succ, i64_w, i32_w]
                                  rfl
                                refine pure_ (i := 16) (N := some 58) (v := ?_) (a' := ?_) #[true, true, true, true, true, true, true, true, true, true, true, true, true, false, true, true, true, false, false, false] rfl rfl (any_of HT_.out (by kernel_rfl)) (fun _ _ _ h => h) (Or.inl ⟨by rfl, ?_⟩) ?_ ?_
                                rotate_left
                                · intro w'
                                  go_simp
                                  with_reducible rfl
                                rotate_left
                                · simp only [Act.put, List.setIfInBounds_toArray, List.set_cons_zero, List.set_cons_succ, i64_w, i32_w]
                                  rfl
                                refine pure_ (i := 17) (N := some 59) (v := ?_) (a' := ?_) #[true, true, true, true, true, true, true, true, true, true, true, true, true, false, true, true, true, true, false, false] rfl rfl (any_of HT_.out (by kernel_rfl)) (fun _ _ _ h => h) (Or.inl ⟨by rfl, ?_⟩) ?_ ?_
                                rotate_left
                                · intro w'
                                  go_simp
                                  with_reducible rfl
                                rotate_left
                                · simp only [Act.put, List.setIfInBounds_toArray, List.set_cons_zero, List.set_cons_succ, i64_w, i32_w]
                                  rfl
                                refine one_ (i := 13) (N := some 55) #[true, true, true, true, true, true, true, true, true, true, true, true, true, true, true, true, true, true, false, false] rfl rfl (one_of HT_.out (by kernel_rfl)) (by decide) (fun K hK => ?_)
                                refine goes_ Tryd.func57 (by kernel_rfl) rfl #[.int .u8 ((t111) % 256)] (by rfl) rfl rfl (by (try simp only [List.map_toArray, List.map_cons, List.map_nil]); first | done | rfl | (simp only [List.length_drop, List.length_take]; rfl)) ?_
                                with_reducible refine (escape_form.calls ((t111) % 256) t114 _ ?side1 A31.out).mono ?_
                                (case side1 => first | exact HGL.out | exact (Go.Proofs.YtgdemingopcgaaaDoorX.GL.below HGL.out (by repeat (first | (with_reducible first | exact HB.out | apply below_alloc | apply pw_below_drewN | apply below_drew1) | exact HB.out))) | (repeat (first | exact HGL.out | (with_reducible refine Go.Proofs.YtgdemingopcgaaaDoorX.GL.drewN ?_ _) | (with_reducible refine Go.Proofs.YtgdemingopcgaaaDoorX.GL.drew ?_))))
                                rintro e w41 ⟨rfl, hb⟩
                                refine ⟨_, rfl, ?_⟩
                                have n0_ := Aside0.mk (Kd.R_below (by (with_reducible repeat (first | apply Kd.R_alloc | apply Kd.R_drewN | apply Kd.R_drew)); exact HO_9.out) hb)
                                have n1_ := Aside0.mk (below_step (by repeat (first | (with_reducible first | exact HB.out | apply below_alloc | apply pw_below_drewN | apply below_drew1) | exact HB.out)) hb)
                                clear HO_9
                                clear HB
                                have HO_9 := n0_
                                have HB := n1_
                                clear n0_ n1_
                                (try clear hb)
                                (try clear hb2)
                                (try clear hk)
                                (try clear hi)
                                refine hK.out _ _ trivial (fun hHeld => ?_)
                                clear hK K
                                refine norm_ (a' := ?_) ?_ ?_
                                rotate_left
                                · show Act.put _ (some 55) _ = _
                                  simp only [Act.put, List.setIfInBounds_toArray, List.set_cons_zero, List.set_cons_succ, i64_w, i32_w]
                                  rfl
                                refine pure_ (i := 18) (N := some 60) (v := ?_) (a' := ?_) #[true, true, true, true, true, true, true, true, true, true, true, true, true, true, true, true, true, true, true, false] rfl rfl (any_of HT_.out (by kernel_rfl)) (fun _ _ _ h => h) (Or.inl ⟨by rfl, ?_⟩) ?_ ?_
                                rotate_left
                                · intro w'
                                  go_simp
                                  with_reducible rfl
                                rotate_left
                                · simp only [Act.put, List.setIfInBounds_toArray, List.set_cons_zero, List.set_cons_succ, i64_w, i32_w]
                                  rfl
                                refine pure_ (i := 19) (N := some 61) (v := ?_) (a' := ?_) #[true, true, true, true, true, true, true, true, true, true, true, true, true, true, true, true, true, true, true, true] rfl rfl (any_of HT_.out (by kernel_rfl)) (fun _ _ _ h => h) (Or.inl ⟨by rfl, ?_⟩) ?_ ?_
                                rotate_left
                                · intro w'
                                  go_simp
                                  with_reducible rfl
                                rotate_left
                                · simp only [Act.put, List.setIfInBounds_toArray, List.set_cons_zero, List.set_cons_succ, i64_w, i32_w]
                                  rfl
                                refine done_ (done_of HT_.out (by kernel_rfl)) ?_
                                try go_wp2
                                go_ret2
                                exact ⟨by first | rfl | (simp [errW_none, errW_some] <;> rfl) | (simp only [← hji17, ← hji32]; first | rfl | (simp [errW_none, errW_some] <;> rfl)) | (simp [*, errW_none, errW_some] <;> rfl), by repeat (first | (with_reducible first | exact HB.out | apply below_alloc | apply pw_below_drewN | apply below_drew1) | exact HB.out)⟩
                            · rw [if_neg c34] at H
                              exact absurd H (by simp)
                          · rw [if_neg c33] at H
                            exact absurd H (by simp)
                    · have H1 : (some (0, 0)) = some (r1, r2) := by rw [if_neg (show ¬ (some q113).isNone = true by simp)] at H; exact H
                      clear H
                      have H := H1
                      clear H1
                      try simp only [errW_none, errW_some]
                      simp only [Option.some.injEq, Prod.mk.injEq] at H
                      obtain ⟨rfl, rfl⟩ := H
                      try go_wp2_with (first | ((with_reducible refine gate_callee (f := 67) rfl ?_); refine goesL_ (some 25) rfl rfl Tryd.func67 (by kernel_rfl) rfl #[.string a0, .string (⟨#[38, 35]⟩ : ByteArray)] rfl (by (try simp only [List.map_toArray, List.map_cons, List.map_nil]); first | done | rfl | (simp only [List.length_drop, List.length_take]; rfl)) ?_; (with_reducible refine (strings_HasPrefix.calls a0 (⟨#[38, 35]⟩ : ByteArray) true _ ?side1 A15.out).mono ?_); (case side1 => first | exact HGL.out | exact (Go.Proofs.YtgdemingopcgaaaDoorX.GL.below HGL.out (by repeat (first | (with_reducible first | exact HB.out | apply below_alloc | apply pw_below_drewN | apply below_drew1) | exact HB.out))) | (repeat (first | exact HGL.out | (with_reducible refine Go.Proofs.YtgdemingopcgaaaDoorX.GL.drewN ?_ _) | (with_reducible refine Go.Proofs.YtgdemingopcgaaaDoorX.GL.drew ?_)))); rintro e w' ⟨rfl, ⟨nd, rfl⟩⟩; refine ⟨_, rfl, ?_⟩) | ((with_reducible refine gate_callee (f := 65) rfl ?_); refine goesL_ (some 32) rfl rfl Tryd.func65 (by kernel_rfl) rfl #[.string (a0.extract 0 ((ji17) : Int).toNat), .int .u8 59] rfl (by (try simp only [List.map_toArray, List.map_cons, List.map_nil]); first | done | (simp only [hji17]; rfl) | rfl | (simp only [List.length_drop, List.length_take]; rfl)) ?_; (with_reducible refine (strings_IndexByte.calls (a0.extract 0 ((ji17) : Int).toNat) 59 t110 _ ?side1 A20.out).mono ?_); (case side1 => first | exact HGL.out | exact (Go.Proofs.YtgdemingopcgaaaDoorX.GL.below HGL.out (by repeat (first | (with_reducible first | exact HB.out | apply below_alloc | apply pw_below_drewN | apply below_drew1) | exact HB.out))) | (repeat (first | exact HGL.out | (with_reducible refine Go.Proofs.YtgdemingopcgaaaDoorX.GL.drewN ?_ _) | (with_reducible refine Go.Proofs.YtgdemingopcgaaaDoorX.GL.drew ?_)))); rintro e w' ⟨rfl, ⟨nd, rfl⟩⟩; refine ⟨_, rfl, ?_⟩) | ((with_reducible refine gate_callee (f := 61) rfl ?_); refine goesL_ (some 39) rfl rfl Tryd.func61 (by kernel_rfl) rfl #[.string (a0.extract 2 (t110 : Int).toNat)] rfl (by (try simp only [List.map_toArray, List.map_cons, List.map_nil]); first | done | rfl | (simp only [List.length_drop, List.length_take]; rfl)) ?_; (with_reducible refine (strconv_Atoi.calls (a0.extract 2 (t110 : Int).toNat) t111 (some q113) _ ?side1 A24.out).mono ?_); (case side1 => first | exact HGL.out | exact (Go.Proofs.YtgdemingopcgaaaDoorX.GL.below HGL.out (by repeat (first | (with_reducible first | exact HB.out | apply below_alloc | apply pw_below_drewN | apply below_drew1) | exact HB.out))) | (repeat (first | exact HGL.out | (with_reducible refine Go.Proofs.YtgdemingopcgaaaDoorX.GL.drewN ?_ _) | (with_reducible refine Go.Proofs.YtgdemingopcgaaaDoorX.GL.drew ?_)))); rintro e w42 ⟨⟨_, rfl⟩, hb⟩; refine ⟨_, rfl, ?_⟩; have n0_ := Aside0.mk (Kd.R_below (by (with_reducible repeat (first | apply Kd.R_alloc | apply Kd.R_drewN | apply Kd.R_drew)); exact HO_9.out) hb); have n1_ := Aside0.mk (below_step (by repeat (first | (with_reducible first | exact HB.out | apply below_alloc | apply pw_below_drewN | apply below_drew1) | exact HB.out)) hb); clear HO_9; clear HB; have HO_9 := n0_; have HB := n1_; clear n0_ n1_; (try clear hb); (try clear hb2); (try clear hk); (try clear hi); (try simp only [errW_none, errW_some])))
                      have n0_ := Aside0.mk (Kd.R_drew HO_9.out)
                      have n1_ := Aside0.mk (below_drew1 HB.out)
                      clear HO_9
                      clear HB
                      have HO_9 := n0_
                      have HB := n1_
                      clear n0_ n1_
                      refine start_ (n := 20) (S := fun w' => True) (ds := []) #[false, false, false, false, false, false, false, false, false, false, false, false, false, false, false, false, false, false, false, false] (by kernel_rfl) rfl rfl trivial (fun hHeld => ?_); refine with_tabW escape_reference.tab13 escape_reference.bits13 (fun HT_ HW_ => ?_)
                      generalize w42.drew = w43 at HO_9 HB hHeld ⊢
                      refine pure_ (i := 0) (N := some 42) (v := ?_) (a' := ?_) #[true, false, false, false, false, false, false, false, false, false, false, false, false, false, false, false, false, false, false, false] rfl rfl (any_of HT_.out (by kernel_rfl)) (fun _ _ _ h => h) (Or.inl ⟨by rfl, ?_⟩) ?_ ?_
                      rotate_left
                      · intro w'
                        go_simp
                        with_reducible rfl
                      rotate_left
                      · simp only [Act.put, List.setIfInBounds_toArray, List.set_cons_zero, List.set_cons_succ, i64_w, i32_w]
                        rfl
                      refine pure_ (i := 1) (N := some 43) (v := ?_) (a' := ?_) #[true, true, false, false, false, false, false, false, false, false, false, false, false, false, false, false, false, false, false, false] rfl rfl (any_of HT_.out (by kernel_rfl)) (fun _ _ _ h => h) (Or.inl ⟨by rfl, ?_⟩) ?_ ?_
                      rotate_left
                      · intro w'
                        go_simp
                        with_reducible rfl
                      rotate_left
                      · simp only [Act.put, List.setIfInBounds_toArray, List.set_cons_zero, List.set_cons_succ, i64_w, i32_w]
                        rfl
                      refine pure_ (i := 2) (N := some 44) (v := ?_) (a' := ?_) #[true, true, true, false, false, false, false, false, false, false, false, false, false, false, false, false, false, false, false, false] rfl rfl (any_of HT_.out (by kernel_rfl)) (fun _ _ _ h => h) (Or.inl ⟨by rfl, ?_⟩) ?_ ?_
                      rotate_left
                      · intro w'
                        go_simp
                        with_reducible rfl
                      rotate_left
                      · simp only [Act.put, List.setIfInBounds_toArray, List.set_cons_zero, List.set_cons_succ, i64_w, i32_w]
                        rfl
                      refine pure_ (i := 3) (N := some 45) (v := undef) (a' := ?_) #[true, true, true, true, false, false, false, false, false, false, false, false, false, false, false, false, false, false, false, false] rfl rfl (any_of HT_.out (by kernel_rfl)) (fun _ _ _ h => h) (Or.inr ⟨by rfl, rfl⟩) ?_ ?_
                      rotate_left
                      · simp only [Act.put, List.setIfInBounds_toArray, List.set_cons_zero, List.set_cons_succ, i64_w, i32_w]
                        rfl
                      refine pure_ (i := 4) (N := some 46) (v := undef) (a' := ?_) #[true, true, true, true, true, false, false, false, false, false, false, false, false, false, false, false, false, false, false, false] rfl rfl (any_of HT_.out (by kernel_rfl)) (fun _ _ _ h => h) (Or.inr ⟨by rfl, rfl⟩) ?_ ?_
                      rotate_left
                      · simp only [Act.put, List.setIfInBounds_toArray, List.set_cons_zero, List.set_cons_succ, i64_w, i32_w]
                        rfl
                      refine pure_ (i := 5) (N := some 47) (v := ?_) (a' := ?_) #[true, true, true, true, true, true, false, false, false, false, false, false, false, false, false, false, false, false, false, false] rfl rfl (any_of HT_.out (by kernel_rfl)) (fun _ _ _ h => h) (Or.inl ⟨by rfl, ?_⟩) ?_ ?_
                      rotate_left
                      · intro w'
                        go_simp
                        with_reducible rfl
                      rotate_left
                      · simp only [Act.put, List.setIfInBounds_toArray, List.set_cons_zero, List.set_cons_succ, i64_w, i32_w]
                        rfl
                      refine pure_ (i := 6) (N := some 48) (v := ?_) (a' := ?_) #[true, true, true, true, true, true, true, false, false, false, false, false, false, false, false, false, false, false, false, false] rfl rfl (any_of HT_.out (by kernel_rfl)) (fun _ _ _ h => h) (Or.inl ⟨by rfl, ?_⟩) ?_ ?_
                      rotate_left
                      · intro w'
                        go_simp
                        with_reducible rfl
                      rotate_left
                      · simp only [Act.put, List.setIfInBounds_toArray, List.set_cons_zero, List.set_cons_succ, i64_w, i32_w]
                        rfl
                      refine pure_ (i := 7) (N := some 49) (v := undef) (a' := ?_) #[true, true, true, true, true, true, true, true, false, false, false, false, false, false, false, false, false, false, false, false] rfl rfl (any_of HT_.out (by kernel_rfl)) (fun _ _ _ h => h) (Or.inr ⟨by rfl, rfl⟩) ?_ ?_
                      rotate_left
                      · simp only [Act.put, List.setIfInBounds_toArray, List.set_cons_zero, List.set_cons_succ, i64_w, i32_w]
                        rfl
                      refine pure_ (i := 8) (N := some 50) (v := undef) (a' := ?_) #[true, true, true, true, true, true, true, true, true, false, false, false, false, false, false, false, false, false, false, false] rfl rfl (any_of HT_.out (by kernel_rfl)) (fun _ _ _ h => h) (Or.inr ⟨by rfl, rfl⟩) ?_ ?_
                      rotate_left
                      · simp only [Act.put, List.setIfInBounds_toArray, List.set_cons_zero, List.set_cons_succ, i64_w, i32_w]
                        rfl
                      refine pure_ (i := 9) (N := some 51) (v := ?_) (a' := ?_) #[true, true, true, true, true, true, true, true, true, true, false, false, false, false, false, false, false, false, false, false] rfl rfl (any_of HT_.out (by kernel_rfl)) (fun _ _ _ h => h) (Or.inl ⟨by rfl, ?_⟩) ?_ ?_
                      rotate_left
                      · intro w'
                        go_simp
                        with_reducible rfl
                      rotate_left
                      · simp only [Act.put, List.setIfInBounds_toArray, List.set_cons_zero, List.set_cons_succ, i64_w, i32_w]
                        rfl
                      refine pure_ (i := 10) (N := some 52) (v := ?_) (a' := ?_) #[true, true, true, true, true, true, true, true, true, true, true, false, false, false, false, false, false, false, false, false] rfl rfl (any_of HT_.out (by kernel_rfl)) (fun _ _ _ h => h) (Or.inl ⟨by rfl, ?_⟩) ?_ ?_
                      rotate_left
                      · intro w'
                        go_simp
                        with_reducible rfl
                      rotate_left
                      · simp only [Act.put, List.setIfInBounds_toArray, List.set_cons_zero, List.set_cons_succ, i64_w, i32_w]
                        rfl
                      refine pure_ (i := 11) (N := some 53) (v := undef) (a' := ?_) #[true, true, true, true, true, true, true, true, true, true, true, true, false, false, false, false, false, false, false, false] rfl rfl (any_of HT_.out (by kernel_rfl)) (fun _ _ _ h => h) (Or.inr ⟨by rfl, rfl⟩) ?_ ?_
                      rotate_left
                      · simp only [Act.put, List.setIfInBounds_toArray, List.set_cons_zero, List.set_cons_succ, i64_w, i32_w]
                        rfl
                      refine pure_ (i := 12) (N := some 54) (v := undef) (a' := ?_) #[true, true, true, true, true, true, true, true, true, true, true, true, true, false, false, false, false, false, false, false] rfl rfl (any_of HT_.out (by kernel_rfl)) (fun _ _ _ h => h) (Or.inr ⟨by rfl, rfl⟩) ?_ ?_
                      rotate_left
                      · simp only [Act.put, List.setIfInBounds_toArray, List.set_cons_zero, List.set_cons_succ, i64_w, i32_w]
                        rfl
                      refine pure_ (i := 13) (N := some 55) (v := undef) (a' := ?_) #[true, true, true, true, true, true, true, true, true, true, true, true, true, true, false, false, false, false, false, false] rfl rfl (any_of HT_.out (by kernel_rfl)) (fun _ _ _ h => h) (Or.inr ⟨by rfl, rfl⟩) ?_ ?_
                      rotate_left
                      · simp only [Act.put, List.setIfInBounds_toArray, List.set_cons_zero, List.set_cons_succ, i64_w, i32_w]
                        rfl
                      refine pure_ (i := 14) (N := some 56) (v := undef) (a' := ?_) #[true, true, true, true, true, true, true, true, true, true, true, true, true, true, true, false, false, false, false, false] rfl rfl (any_of HT_.out (by kernel_rfl)) (fun _ _ _ h => h) (Or.inr ⟨by rfl, rfl⟩) ?_ ?_
                      rotate_left
                      · simp only [Act.put, List.setIfInBounds_toArray, List.set_cons_zero, List.set_cons_succ, i64_w, i32_w]
                        rfl
                      refine pure_ (i := 15) (N := some 57) (v := undef) (a' := ?_) #[true, true, true, true, true, true, true, true, true, true, true, true, true, true, true, true, false, false, false, false] rfl rfl (any_of HT_.out (by kernel_rfl)) (fun _ _ _ h => h) (Or.inr ⟨by rfl, rfl⟩) ?_ ?_
                      rotate_left
                      · simp only [Act.put, List.setIfInBounds_toArray, List.set_cons_zero, List.set_cons_succ, i64_w, i32_w]
                        rfl
                      refine pure_ (i := 16) (N := some 58) (v := undef) (a' := ?_) #[true, true, true, true, true, true, true, true, true, true, true, true, true, true, true, true, true, false, false, false] rfl rfl (any_of HT_.out (by kernel_rfl)) (fun _ _ _ h => h) (Or.inr ⟨by rfl, rfl⟩) ?_ ?_
                      rotate_left
                      · simp only [Act.put, List.setIfInBounds_toArray, List.set_cons_zero, List.set_cons_succ, i64_w, i32_w]
                        rfl
                      refine pure_ (i := 17) (N := some 59) (v := undef) (a' := ?_) #[true, true, true, true, true, true, true, true, true, true, true, true, true, true, true, true, true, true, false, false] rfl rfl (any_of HT_.out (by kernel_rfl)) (fun _ _ _ h => h) (Or.inr ⟨by rfl, rfl⟩) ?_ ?_
                      rotate_left
                      · simp only [Act.put, List.setIfInBounds_toArray, List.set_cons_zero, List.set_cons_succ, i64_w, i32_w]
                        rfl
                      refine pure_ (i := 18) (N := some 60) (v := undef) (a' := ?_) #[true, true, true, true, true, true, true, true, true, true, true, true, true, true, true, true, true, true, true, false] rfl rfl (any_of HT_.out (by kernel_rfl)) (fun _ _ _ h => h) (Or.inr ⟨by rfl, rfl⟩) ?_ ?_
                      rotate_left
                      · simp only [Act.put, List.setIfInBounds_toArray, List.set_cons_zero, List.set_cons_succ, i64_w, i32_w]
                        rfl
                      refine pure_ (i := 19) (N := some 61) (v := ?_) (a' := ?_) #[true, true, true, true, true, true, true, true, true, true, true, true, true, true, true, true, true, true, true, true] rfl rfl (any_of HT_.out (by kernel_rfl)) (fun _ _ _ h => h) (Or.inl ⟨by rfl, ?_⟩) ?_ ?_
                      rotate_left
                      · intro w'
                        go_simp
                        with_reducible rfl
                      rotate_left
                      · simp only [Act.put, List.setIfInBounds_toArray, List.set_cons_zero, List.set_cons_succ, i64_w, i32_w]
                        rfl
                      refine done_ (done_of HT_.out (by kernel_rfl)) ?_
                      try go_wp2
                      go_ret2
                      exact ⟨by first | rfl | (simp [errW_none, errW_some] <;> rfl) | (simp only [← hji17]; first | rfl | (simp [errW_none, errW_some] <;> rfl)) | (simp [*, errW_none, errW_some] <;> rfl), by repeat (first | (with_reducible first | exact HB.out | apply below_alloc | apply pw_below_drewN | apply below_drew1) | exact HB.out)⟩
                  · rw [if_neg c23] at H
                    exact absurd H (by simp)
                · rw [if_neg c22] at H
                  exact absurd H (by simp)
            · rw [if_neg c19] at H
              exact absurd H (by simp)
          · rw [if_neg c18] at H
            exact absurd H (by simp)
        · replace c16 := Bool.eq_false_iff.mpr c16
          subst c16
          have H1 : (some (0, 0)) = some (r1, r2) := by rw [if_neg (show ¬ (false = true) by decide)] at H; exact H
          clear H
          have H := H1
          clear H1
          simp only [Option.some.injEq, Prod.mk.injEq] at H
          obtain ⟨rfl, rfl⟩ := H
          go_wp2_with (first | ((with_reducible refine gate_callee (f := 67) rfl ?_); refine goesL_ (some 25) rfl rfl Tryd.func67 (by kernel_rfl) rfl #[.string a0, .string (⟨#[38, 35]⟩ : ByteArray)] rfl (by (try simp only [List.map_toArray, List.map_cons, List.map_nil]); first | done | rfl | (simp only [List.length_drop, List.length_take]; rfl)) ?_; (with_reducible refine (strings_HasPrefix.calls a0 (⟨#[38, 35]⟩ : ByteArray) false _ ?side1 A15.out).mono ?_); (case side1 => first | exact HGL.out | exact (Go.Proofs.YtgdemingopcgaaaDoorX.GL.below HGL.out (by repeat (first | (with_reducible first | exact HB.out | apply below_alloc | apply pw_below_drewN | apply below_drew1) | exact HB.out))) | (repeat (first | exact HGL.out | (with_reducible refine Go.Proofs.YtgdemingopcgaaaDoorX.GL.drewN ?_ _) | (with_reducible refine Go.Proofs.YtgdemingopcgaaaDoorX.GL.drew ?_)))); rintro e w' ⟨rfl, ⟨nd, rfl⟩⟩; refine ⟨_, rfl, ?_⟩))
          go_ret2
          exact ⟨by first | rfl | (simp [errW_none, errW_some] <;> rfl) | (simp [*, errW_none, errW_some] <;> rfl), by repeat (first | (with_reducible first | exact HB.out | apply below_alloc | apply pw_below_drewN | apply below_drew1) | exact HB.out)⟩

end Go.Proofs.YtgdemingopcgaaaDoor.P03r

namespace Go.Proofs.YtgdemingopcgaaaDoor.L03
open Go Go.RowKit Go.Proofs.YtgdemingopcgaaaDoor.P03r Go.Proofs.YtgdemingopcgaaaDoorE Go.Proofs.YtgdemingopcgaaaDoorW.PrintWords Go.Proofs.YtgdemingopcgaaaDoorW.PrintLast Go.Proofs.YtgdemingopcgaaaDoorW.PrintMore
/-- The four signs. -/
def signs : List Nat := [38, 60, 62, 34]
def signOf (l : List UInt8) (k : Nat) : Option Nat := (signs.take k).find? fun c => Lib.hasPrefix l (formL c)
/-- The number of a form, and its length. -/
def numS (l : List UInt8) : Int × Int :=
  if Lib.indexByte (l.take 6) 59 < 0 then (0, 0) else
  match Lib.atoiAll ((l.drop 2).take ((Lib.indexByte (l.take 6) 59).toNat - 2)) with
  | .ok n => if 0 ≤ n ∧ n ≤ 127 ∧ formL n.toNat = l.take ((Lib.indexByte (l.take 6) 59).toNat + 1) then (n, Lib.indexByte (l.take 6) 59 + 1) else (0, 0)
  | _ => (0, 0)
/-- The byte that a form says with which a text begins, and how long that form is. -/
def refS (l : List UInt8) : Int × Int :=
  match signOf l 4 with
  | some c => ((c : Int), ((formL c).length : Int))
  | none => if Lib.hasPrefix l [38, 35] = true then numS l else (0, 0)
theorem signOf_succ (l : List UInt8) (k : Nat) (hk : k < 4) (h : signOf l k = none) : signOf l (k + 1) = if Lib.hasPrefix l (formL (signs[k]?.getD 0)) = true then some (signs[k]?.getD 0) else none := by
  unfold signOf at h ⊢
  have hl : k < signs.length := hk
  rw [List.take_succ_eq_append_getElem hl, List.find?_append, h, List.getElem?_eq_getElem hl]
  simp [List.find?_cons]
  split <;> simp_all
theorem signOf_hit (l : List UInt8) (k c : Nat) (h : signOf l k = some c) : signOf l 4 = some c := by
  unfold signOf at h ⊢
  rw [show signs.take 4 = signs.take k ++ signs.drop k by rw [List.take_append_drop]; rfl, List.find?_append, h]; rfl
theorem sign_le (k : Nat) : signs[k]?.getD 0 ≤ 255 := by
  match k with
  | 0 => decide
  | 1 => decide
  | 2 => decide
  | 3 => decide
  | k + 4 => simp [signs]
theorem ext_list (s : ByteArray) (i j : Nat) : (s.extract i j).data.toList = (s.data.toList.drop i).take (j - i) := by
  rw [ByteArray.data_extract, Array.toList_extract]
theorem dlen (s : ByteArray) : s.data.toList.length = s.size := by rw [Array.length_toList]; rfl
theorem index_cases : ∀ (l : List UInt8) (c : UInt8), Lib.indexByte l c = -1 ∨ (0 ≤ Lib.indexByte l c ∧ Lib.indexByte l c < l.length)
  | [], c => .inl rfl
  | b :: t, c => by
    have ih := index_cases t c
    unfold Lib.indexByte
    by_cases h : (b == c) = true
    · rw [if_pos h, List.length_cons]; right; omega
    · rw [if_neg h]
      rcases ih with e | ⟨h0, h1⟩
      · rw [e]; left; rfl
      · rw [if_neg (by rw [beq_iff_eq]; omega), List.length_cons]; right; omega
theorem index_num (l : List UInt8) (hp : Lib.hasPrefix l [38, 35] = true) : Lib.indexByte (l.take 6) 59 < 0 ∨ (2 ≤ Lib.indexByte (l.take 6) 59 ∧ Lib.indexByte (l.take 6) 59 < 6 ∧ Lib.indexByte (l.take 6) 59 < l.length) := by
  unfold Lib.hasPrefix at hp
  match l, hp with
  | [], hp => simp [List.isPrefixOf] at hp
  | [a], hp => simp [List.isPrefixOf] at hp
  | a :: b :: t, hp =>
    simp only [List.isPrefixOf, Bool.and_eq_true, beq_iff_eq] at hp
    obtain ⟨rfl, rfl, -⟩ := hp
    have h := index_cases (t.take 4) 59
    have e : Lib.indexByte ((38 :: 35 :: t).take 6) 59 = if Lib.indexByte (t.take 4) 59 = -1 then -1 else Lib.indexByte (t.take 4) 59 + 2 := by
      simp only [List.take_succ_cons, Lib.indexByte]
      split <;> simp_all
      omega
    rw [e]
    rcases h with h | ⟨h0, h1⟩
    · rw [if_pos h]; left; decide
    · rw [if_neg (by omega)]
      rw [List.length_take] at h1
      simp only [List.length_cons]
      right; omega
theorem w64 {n : Int} (h0 : -9223372036854775808 ≤ n) (h1 : n ≤ 9223372036854775807) : wrap64 n = n := by unfold wrap64; omega
theorem tl (s : ByteArray) : s.toList = s.data.toList := ByteArray.toList_eq s
theorem hasPrefix_f (s t : ByteArray) : strings_HasPrefix.f s t = some (Lib.hasPrefix s.data.toList t.data.toList) := by
  have h1 := dlen s
  have h2 := dlen t
  unfold strings_HasPrefix.f stringslite_HasPrefix.f Lib.hasPrefix
  by_cases h : (s.size : Int) ≥ (t.size : Int)
  · rw [if_pos h, if_pos (by omega), if_pos (by omega), Option.bind_some, tl, tl, ext_list, List.drop_zero, Nat.sub_zero, Int.toNat_natCast]
    congr 1
    rw [Bool.eq_iff_iff, beq_iff_eq, List.isPrefixOf_iff_prefix, List.prefix_iff_eq_take, h2]
    exact eq_comm
  · rw [if_neg h, Option.bind_some]
    congr 1
    symm
    rw [Bool.eq_false_iff, ne_eq, List.isPrefixOf_iff_prefix]
    intro hp
    have := hp.length_le
    omega
theorem form_f (n : Nat) (h : n ≤ 255) : escape_form.f (n : Int) = some ⟨(formL n).toArray⟩ := by
  unfold escape_form.f
  rw [if_pos (by omega), Int.toNat_natCast]
theorem sizeL (l : List UInt8) : (⟨l.toArray⟩ : ByteArray).size = l.length := by simp [ByteArray.size]
theorem ref_step (s : ByteArray) (j : Nat) (hj : j < 4) (k : Nat) :
    escape_reference.l0 (k + 1) s [38, 60, 62, 34] 4 (j : Int) = if Lib.hasPrefix s.data.toList (formL (signs[j]?.getD 0)) = true then some (((signs[j]?.getD 0 : Nat) : Int), ((formL (signs[j]?.getD 0)).length : Int)) else escape_reference.l0 k s [38, 60, 62, 34] 4 ((j + 1 : Nat) : Int) := by
  have e : rd [38, 60, 62, 34] (j : Int) = ((signs[j]?.getD 0 : Nat) : Int) := by
    match j, hj with
    | 0, _ => rfl
    | 1, _ => rfl
    | 2, _ => rfl
    | 3, _ => rfl
  have hc := sign_le j
  have ew : wrap64 ((j : Int) + 1) = ((j + 1 : Nat) : Int) := by rw [w64 (by omega) (by omega)]; omega
  simp only [escape_reference.l0]
  rw [if_pos (by omega), if_pos (by omega), if_pos (by simp; omega), e, form_f _ hc, Option.bind_some, hasPrefix_f, Option.bind_some, Option.bind_some, sizeL, ew]
theorem reference_f (s : ByteArray) (hs : s.size ≤ 1000000000000) (k : Nat) : escape_reference.f (k + 5) s = some (refS s.data.toList) := by
  have hL := dlen s
  have key : ∀ d j : Nat, j + d = 4 → signOf s.data.toList j = none → escape_reference.l0 (k + d + 1) s [38, 60, 62, 34] 4 (j : Int) = some (refS s.data.toList) := by
    intro d
    induction d with
    | zero =>
      intro j hj hn
      obtain rfl : j = 4 := by omega
      simp only [escape_reference.l0]
      rw [if_neg (by decide), hasPrefix_f, Option.bind_some]
      unfold refS
      rw [hn]
      by_cases hp : Lib.hasPrefix s.data.toList [38, 35] = true
      · rw [if_pos hp, if_pos hp]
        have hix := index_num _ hp
        have hm : ((mn (s.size : Int) 6) : Int) = ((min s.size 6 : Nat) : Int) := by unfold mn; split <;> omega
        have E6 : (s.extract 0 (min s.size 6)).data.toList = s.data.toList.take 6 := by
          rw [ext_list, List.drop_zero, Nat.sub_zero]
          by_cases h6 : s.size ≤ 6
          · rw [List.take_of_length_le (by omega), List.take_of_length_le (by omega)]
          · congr 1; omega
        rw [hm, if_pos (by omega), if_pos (by omega), Int.toNat_natCast]
        unfold strings_IndexByte.f
        rw [E6, Option.bind_some, show ((59 : Int).toNat.toUInt8) = 59 from rfl]
        unfold numS
        generalize Lib.indexByte (List.take 6 s.data.toList) 59 = x at hix ⊢
        by_cases hx : x < 0
        · rw [if_pos hx, if_pos hx]
        · rw [if_neg hx, if_neg hx, if_pos (by omega), if_pos (by omega)]
          obtain ⟨m, rfl⟩ := Int.eq_ofNat_of_zero_le (show 0 ≤ x by omega)
          have h9 := dlen (s.extract 2 m)
          rw [ext_list, List.length_take, List.length_drop] at h9
          unfold strconv_Atoi.f
          rw [Int.toNat_natCast, if_pos (by omega), Option.bind_some, ext_list]
          unfold atoiS
          cases hq : Lib.atoiAll ((s.data.toList.drop 2).take (m - 2)) with
          | ok n =>
            simp only
            rw [if_pos (by rfl)]
            by_cases n0 : n < 0
            · rw [if_pos n0, if_neg (by omega)]
            · rw [if_neg n0]
              by_cases n1 : n > 127
              · rw [if_pos n1, if_neg (by omega)]
              · obtain ⟨c, rfl⟩ := Int.eq_ofNat_of_zero_le (show 0 ≤ n by omega)
                have ew : wrap64 ((m : Int) + 1) = ((m + 1 : Nat) : Int) := by rw [w64 (by omega) (by omega)]; omega
                rw [if_neg n1, show (c : Int) % 256 = (c : Int) by omega, form_f _ (by omega), Option.bind_some, ew, if_pos (by omega), if_pos (by omega), tl, tl, Int.toNat_natCast, ext_list, List.drop_zero, Nat.sub_zero, Int.toNat_natCast]
                by_cases he : formL c = s.data.toList.take (m + 1)
                · rw [if_pos (by simpa using he), if_pos ⟨by omega, by omega, he⟩]; rfl
                · rw [if_neg (by simpa using he), if_neg (fun h => he h.2.2)]
          | range => rfl
          | _ => rfl
      · rw [if_neg hp, if_neg hp]
    | succ d ih =>
      intro j hj hn
      have hs2 := signOf_succ s.data.toList j (by omega) hn
      rw [ref_step s j (by omega)]
      by_cases hp : Lib.hasPrefix s.data.toList (formL (signs[j]?.getD 0)) = true
      · rw [if_pos hp]
        rw [if_pos hp] at hs2
        unfold refS
        rw [signOf_hit _ _ _ hs2]
      · rw [if_neg hp]
        rw [if_neg hp] at hs2
        exact ih (j + 1) (by omega) hs2
  unfold escape_reference.f
  rw [Option.bind_some]
  exact key 4 0 rfl rfl
end Go.Proofs.YtgdemingopcgaaaDoor.L03

namespace Go.Proofs.YtgdemingopcgaaaDoorE
open Go Go.RowKit Go.Proofs.YtgdemingopcgaaaDoorW.PrintWords Go.Proofs.YtgdemingopcgaaaDoorW.PrintLast Go.Proofs.YtgdemingopcgaaaDoorW.PrintMore Go.Proofs.YtgdemingopcgaaaDoorX Go.Proofs.YtgdemingopcgaaaDoor.P26 Go.Proofs.YtgdemingopcgaaaDoor.M02 Go.Proofs.YtgdemingopcgaaaDoor.L03
set_option linter.unusedVariables false
set_option linter.unusedSimpArgs false
theorem form_all : ∀ c : Fin 256, tendrilref03_Form.f 8 (c.val : Int) = some ⟨(escB (UInt8.ofNat c.val)).toArray⟩ := by decide +kernel
theorem form_ev (c : UInt8) : Ev (fun k => tendrilref03_Form.f k (c.toNat : Int)) ⟨(escB c).toArray⟩ := by
  have h := form_all ⟨c.toNat, c.toNat_lt⟩
  simp only [UInt8.ofNat_toNat] at h
  exact Ev.of (fun k => tendrilref03_Form.mono _ k) h
theorem bt_at (s : ByteArray) (i : Nat) (h : i < s.data.toList.length) : bt s (i : Int) = ((s.data.toList[i]'h).toNat : Int) := by
  have hs : i < s.size := by rw [← dlen]; exact h
  unfold bt
  rw [dif_pos (by simpa using hs)]
  simp only [Int.toNat_natCast]
  rfl
def sgn : List UInt8 := [60, 62, 34]
theorem cat_str (a b : List UInt8) : (⟨a.toArray⟩ : ByteArray) ++ ⟨b.toArray⟩ = ⟨(a ++ b).toArray⟩ := by
  apply ByteArray.ext
  rw [ByteArray.data_append]
  simp
theorem resc_ev (s : ByteArray) (h : s.size ≤ 1000000) (d : Nat) : ∀ i : Nat, i + d = s.size → Ev (fun k => tendrilref03_Escape.l0 k s ⟨(escS (s.data.toList.take i)).toArray⟩ (s.size : Int) (i : Int)) ⟨(escS s.data.toList).toArray⟩ := by
  induction d with
  | zero =>
    intro i hi
    obtain rfl : i = s.size := by omega
    refine Ev.step (f := fun _ => some ⟨(escS s.data.toList).toArray⟩) (fun k => ?_) (Ev.now _)
    simp only [tendrilref03_Escape.l0]
    rw [if_neg (by omega), List.take_of_length_le (by rw [dlen]; omega)]
  | succ d ih =>
    intro i hi
    have hlt : i < s.data.toList.length := by rw [dlen]; omega
    have hll := escS_take_len s i
    refine Ev.step (f := fun k => (tendrilref03_Form.f k ((s.data.toList[i]'hlt).toNat : Int)).bind fun t137 => (if (escS (s.data.toList.take i)).length + t137.size ≤ 9223372036854775807 then (tendrilref03_Escape.l0 k s (⟨(escS (s.data.toList.take i)).toArray⟩ ++ t137) (s.size : Int) ((i + 1 : Nat) : Int)) else none)) (fun k => ?_) ?_
    · simp only [tendrilref03_Escape.l0]
      rw [if_pos (by omega), if_pos (by omega), if_pos (by omega), bt_at s i hlt, sizeL, Go.Proofs.YtgdemingopcgaaaDoor.L03.w64 (by omega) (by omega)]
      rfl
    · refine Ev.bind (form_ev _) ?_
      have h6 := escB_len (s.data.toList[i]'hlt)
      simp only [sizeL, cat_str]
      exact Ev.congr (f := fun k => tendrilref03_Escape.l0 k s ⟨(escS (s.data.toList.take (i + 1))).toArray⟩ (s.size : Int) ((i + 1 : Nat) : Int)) (fun k => by rw [if_pos (by omega), ← escS_take s i hlt]) (ih (i + 1) (by omega))
theorem resc_run (s : ByteArray) (h : s.size ≤ 1000000) : Ev (fun k => tendrilref03_Escape.f k s) ⟨(escS s.data.toList).toArray⟩ := resc_ev s h s.size 0 (by omega)
theorem rquoted_ev (s : ByteArray) (h : s.size ≤ 1000000) : Ev (fun k => tendrilref25_quoted.f k s) (quoB s) := by
  have hl := escT_size s
  have e1 : ((⟨#[34]⟩ : ByteArray) ++ escT s).size = 1 + (escT s).size := by rw [ByteArray.size_append]; rfl
  refine Ev.congr (f := fun k => (tendrilref03_Escape.f k s).bind fun t152 => (if 1 + t152.size ≤ 9223372036854775807 then (if ((⟨#[34]⟩ : ByteArray) ++ t152).size + 1 ≤ 9223372036854775807 then (some (((⟨#[34]⟩ : ByteArray) ++ t152) ++ (⟨#[34]⟩ : ByteArray))) else (none)) else (none))) (fun k => rfl) ?_
  refine Ev.bind (resc_run s h) ?_
  refine Ev.congr (f := fun _ => some (quoB s)) (fun k => ?_) (Ev.now _)
  show (if 1 + (escT s).size ≤ 9223372036854775807 then (if ((⟨#[34]⟩ : ByteArray) ++ escT s).size + 1 ≤ 9223372036854775807 then (some (((⟨#[34]⟩ : ByteArray) ++ escT s) ++ (⟨#[34]⟩ : ByteArray))) else (none)) else (none)) = _
  rw [if_pos (by omega), if_pos (by omega)]
  rfl
end Go.Proofs.YtgdemingopcgaaaDoorE

namespace Go.Proofs.YtgdemingopcgaaaDoorE
open Go Go.RowKit Go.Proofs.YtgdemingopcgaaaDoor.P03r Go.Proofs.YtgdemingopcgaaaDoor.L03 Go.Proofs.YtgdemingopcgaaaDoorW.PrintWords Go.Proofs.YtgdemingopcgaaaDoorX
set_option linter.unusedVariables false
/-- The next byte of a written text, and how much of the text it takes; 0: refused. -/
def stepU : List UInt8 → UInt8 × Nat
  | [] => (0, 0)
  | c :: t => if c.toNat = 38 then ((refS (c :: t)).1.toNat.toUInt8, (refS (c :: t)).2.toNat) else if formL c.toNat = [] then (c, 1) else (c, 0)
def unS (l : List UInt8) (pos : Nat) (out : List UInt8) : List UInt8 × Int × Int :=
  match l with
  | [] => (out, 0, 0)
  | c :: t => if (stepU (c :: t)).2 = 0 then ([], (pos : Int), 2) else unS ((c :: t).drop (stepU (c :: t)).2) (pos + (stepU (c :: t)).2) (out ++ [(stepU (c :: t)).1])
termination_by l.length
decreasing_by simp; omega
theorem unS_nil (pos : Nat) (out : List UInt8) : unS [] pos out = (out, 0, 0) := by rw [unS]
theorem unS_cons (l : List UInt8) (h : l ≠ []) (pos : Nat) (out : List UInt8) : unS l pos out = if (stepU l).2 = 0 then ([], (pos : Int), 2) else unS (l.drop (stepU l).2) (pos + (stepU l).2) (out ++ [(stepU l).1]) := by
  obtain ⟨c, t, rfl⟩ := List.exists_cons_of_ne_nil h
  rw [unS]
theorem refS_range (l : List UInt8) : 0 ≤ (refS l).1 ∧ (refS l).1 ≤ 255 ∧ 0 ≤ (refS l).2 ∧ (refS l).2 ≤ l.length := by
  unfold refS
  split
  · rename_i c hc
    have h1 := List.find?_some hc
    have h2 := List.mem_of_find?_eq_some hc
    have h3 : c ≤ 255 := by
      have := List.mem_of_mem_take h2
      simp [signs] at this
      omega
    have h4 : (formL c).length ≤ l.length := (List.isPrefixOf_iff_prefix.1 h1).length_le
    simp only
    omega
  · split
    · rename_i hp
      have hix := index_num _ hp
      unfold numS
      split
      · simp only; omega
      · split
        · split
          · simp only; omega
          · simp only; omega
        · simp only; omega
    · simp only; omega
def escape_Unescape.f (a0 : ByteArray) : Option (ByteArray × Int × Int) := if a0.size ≤ 1000000000000 then some (⟨(unS a0.data.toList 0 []).1.toArray⟩, (unS a0.data.toList 0 []).2.1, (unS a0.data.toList 0 []).2.2) else none
theorem ref_any (s : ByteArray) (hs : s.size ≤ 1000000000000) (w : World) (hgl : GL w) :
    Calls Tryd.prog 56 #[.string s] w fun e w' => e = .returned (.tuple #[.int .u8 (refS s.data.toList).1, .int .i64 (refS s.data.toList).2]) ∧ Below w.heap.size w w' :=
  escape_reference.calls (0 + 5) s _ _ w hgl (reference_f s hs 0)
set_option maxHeartbeats 1000000 in
theorem escape_Unescape.calls (a0 : ByteArray) (r1 : ByteArray) (r2 r3 : Int) (w : World) (hgl : GL w) (h : escape_Unescape.f a0 = some (r1, r2, r3)) :
    Calls Tryd.prog 46 #[.string a0] w fun e w' => e = .returned (.tuple #[.string r1, .int .i64 r2, .int .i64 r3]) ∧ Below w.heap.size w w' := by
  unfold escape_Unescape.f at h
  by_cases hr : a0.size ≤ 1000000000000
  rotate_left
  · rw [if_neg hr] at h; cases h
  rw [if_pos hr] at h
  simp only [Option.some.injEq, Prod.mk.injEq] at h
  obtain ⟨rfl, rfl, rfl⟩ := h
  have HGL := Aside0.mk hgl
  have HR := Aside0.mk hr
  clear hr hgl
  have H0 := Aside0.mk (Lib.IsBuilderF.of (Lib.fresh_isBuilder 86 5 w))
  have HB0 := Aside0.mk ((Below.refl w.heap.size w).alloc (Nat.le_refl _) (.cells #[.pointer none, .slice none 0 0] 86))
  go_enter Tryd.func46, Tryd.ntmps46
  go_wp2_with fail
  go_loopw [6] (fun i wr => ∃ (k : Nat) (out : List UInt8), k ≤ a0.size ∧ i = .int .i64 k ∧ Lib.IsBuilderF 86 5 w.heap.size w.heap.size (Lib.byteCells out) wr ∧ Below w.heap.size w wr ∧ out.length ≤ k ∧ unS (a0.data.toList.drop k) k out = unS a0.data.toList 0 []) (fun i _ => a0.size - (intOf i).toNat)
  case atStart => exact ⟨0, [], Nat.zero_le _, rfl, H0.out, HB0.out, Nat.le_refl _, rfl⟩
  case round =>
    obtain ⟨k, out, hk, rfl, hib, hbl, hol, hun⟩ := hrel
    have HI := Aside0.mk hib
    have HBL := Aside0.mk hbl
    have HO := Aside0.mk hol
    have HU := Aside0.mk hun
    have hr := HR.out
    clear hib hbl hol hun
    go_wp2_with fail
    · have hlt : k < a0.size := by assumption
      have h38 : ((a0[k].toNat : Int) == 38) = true := by assumption
      have hne : a0.data.toList.drop k ≠ [] := by
        intro h; have := congrArg List.length h; rw [List.length_drop, dlen, List.length_nil] at this; omega
      have hcx : a0[k] = a0.data.toList[k]'(by rw [dlen]; exact hlt) := by simp [ByteArray.getElem_eq_getElem_data]
      have hst : stepU (a0.data.toList.drop k) = ((refS (a0.data.toList.drop k)).1.toNat.toUInt8, (refS (a0.data.toList.drop k)).2.toNat) := by
        rw [List.drop_eq_getElem_cons (by rw [dlen]; exact hlt)]
        simp only [stepU]
        rw [if_pos (by rw [← hcx]; rw [beq_iff_eq] at h38; omega)]
      have hun := HU.out
      rw [unS_cons _ hne, hst] at hun
      have hrr := refS_range (a0.data.toList.drop k)
      have HC := ref_any (a0.extract k a0.size)
      have hxs := dlen (a0.extract k a0.size)
      have hx : (a0.extract k a0.size).data.toList = a0.data.toList.drop k := by
        rw [ext_list, List.take_of_length_le (by rw [List.length_drop, dlen]; omega)]
      rw [hx, List.length_drop, dlen] at hxs
      rw [hx] at HC
      rw [List.length_drop, dlen] at hrr
      generalize refS (a0.data.toList.drop k) = rr at hun hrr HC
      obtain ⟨b, n⟩ := rr
      obtain ⟨b0, b1, n0, n1⟩ := hrr
      simp only at hun b0 b1 n0 n1 HC
      obtain ⟨b, rfl⟩ := Int.eq_ofNat_of_zero_le b0
      obtain ⟨n, rfl⟩ := Int.eq_ofNat_of_zero_le n0
      have HUN := Aside0.mk hun
      refine (HC (by omega) wr (HGL.out.below HBL.out)).mono ?_
      rintro e w1 ⟨rfl, hb⟩
      have HB1 := Aside0.mk hb
      clear hb hun hst hx hxs HC
      have hsz : w.heap.size ≤ w1.heap.size := Nat.le_trans HBL.out.size HB1.out.size
      have IB1 := Aside0.mk (b_below HI.out HB1.out)
      have BB1 := Aside0.mk (below_step HBL.out HB1.out)
      go_wp2_with fail
      · have hn : ((n : Int) == 0) = true := by assumption
        have hu := HUN.out
        rw [if_pos (by rw [beq_iff_eq] at hn; simpa using hn)] at hu
        go_ret3
        refine ⟨?_, BB1.out⟩
        rw [← hu]
        rfl
      · have hn : ((n : Int) == 0) = false := by assumption
        have hn2 : n ≠ 0 := by rw [beq_eq_false_iff_ne] at hn; omega
        have hu := HUN.out
        rw [if_neg (by simpa using hn2)] at hu
        have HU2 := Aside0.mk hu
        clear hu HUN
        have hb8 : ((b : Int).toNat.toUInt8).toNat = b := by simp; omega
        rw [show (b : Int) = (((b : Int).toNat.toUInt8).toNat : Int) by rw [hb8]]
        refine (b_byte w.heap.size w.heap.size out ((b : Int).toNat.toUInt8) w1 IB1.out (by have := HO.out; have := HR.out; omega) hsz).mono ?_
        rintro e w2 ⟨rfl, hib2, hb2, -⟩
        have H2 := Aside0.mk hib2
        have B2 := Aside0.mk (BB1.out.trans hb2)
        clear hib2 hb2
        have hno : (k : Int) + n ≤ 1000000000000 := by omega
        go_wp2_with fail
        go_roundw
        case rel =>
          refine ⟨k + n, out ++ [(b : Int).toNat.toUInt8], by omega, by go_num, H2.out, B2.out, by have := HO.out; rw [List.length_append, List.length_singleton]; omega, ?_⟩
          have := HU2.out
          rw [List.drop_drop] at this
          exact this
        case measure => simp [intOf]; omega
    · have hlt : k < a0.size := by assumption
      have h38 : ((a0[k].toNat : Int) == 38) = false := by assumption
      have hne : a0.data.toList.drop k ≠ [] := by
        intro h; have := congrArg List.length h; rw [List.length_drop, dlen, List.length_nil] at this; omega
      have hcx : a0[k] = a0.data.toList[k]'(by rw [dlen]; exact hlt) := by simp [ByteArray.getElem_eq_getElem_data]
      have hst : stepU (a0.data.toList.drop k) = if formL a0[k].toNat = [] then (a0[k], 1) else (a0[k], 0) := by
        rw [List.drop_eq_getElem_cons (by rw [dlen]; exact hlt)]
        simp only [stepU]
        rw [if_neg (by rw [← hcx]; rw [beq_eq_false_iff_ne] at h38; omega), ← hcx]
      have hun := HU.out
      rw [unS_cons _ hne, hst] at hun
      clear hst hcx h38
      have HUN := Aside0.mk hun
      clear hun
      generalize hck : a0[k] = c at HUN ⊢
      have HK := Aside0.mk hck
      clear hck
      have hc := UInt8.toNat_lt c
      refine (escape_form.calls _ _ wr (HGL.out.below HBL.out) (form_f c.toNat (by omega))).mono ?_
      rintro e w1 ⟨rfl, hb⟩
      have HB1 := Aside0.mk hb
      clear hb
      have hsz : w.heap.size ≤ w1.heap.size := Nat.le_trans HBL.out.size HB1.out.size
      have IB1 := Aside0.mk (b_below HI.out HB1.out)
      have BB1 := Aside0.mk (below_step HBL.out HB1.out)
      go_wp2_with fail
      · have hh : (!(formL c.toNat).isEmpty) = true := by assumption
        have hf0 : ¬ formL c.toNat = [] := by simpa using hh
        have hu := HUN.out
        first
          | rw [HK.out, if_neg hf0, if_pos rfl] at hu
          | rw [if_neg hf0, if_pos rfl] at hu
        go_ret3
        refine ⟨?_, BB1.out⟩
        rw [← hu]
        rfl
      · have hh : (!(formL c.toNat).isEmpty) = false := by assumption
        have hf0 : formL c.toNat = [] := by simpa using hh
        have hu := HUN.out
        first
          | rw [HK.out, if_pos hf0, if_neg (show ¬ (1 : Nat) = 0 by decide)] at hu
          | rw [if_pos hf0, if_neg (show ¬ (1 : Nat) = 0 by decide)] at hu
        have HU2 := Aside0.mk hu
        clear hu HUN hf0
        refine (b_byte w.heap.size w.heap.size out c w1 IB1.out (by have := HO.out; have := HR.out; omega) hsz).mono ?_
        rintro e w2 ⟨rfl, hib2, hb2, -⟩
        have H2 := Aside0.mk hib2
        have B2 := Aside0.mk (BB1.out.trans hb2)
        clear hib2 hb2
        go_wp2_with fail
        go_roundw
        case rel =>
          refine ⟨k + 1, out ++ [c], by omega, by go_num, H2.out, B2.out, by have := HO.out; rw [List.length_append, List.length_singleton]; omega, ?_⟩
          have := HU2.out
          rw [List.drop_drop] at this
          exact this
        case measure => simp [intOf]; omega
    · have hge : ¬ k < a0.size := by assumption
      have hu := HU.out
      rw [List.drop_eq_nil_of_le (by rw [dlen]; omega), unS_nil] at hu
      refine (Tryd.Builder_String_any_f w.heap.size w.heap.size _ wr HI.out HBL.out.size).mono ?_
      rintro e w1 ⟨rfl, -, hb⟩
      have HB1 := Aside0.mk (HBL.out.trans hb)
      clear hb
      go_wp2_with fail
      go_ret3
      refine ⟨?_, HB1.out⟩
      rw [← hu]
      rfl
end Go.Proofs.YtgdemingopcgaaaDoorE

namespace Go.Proofs.YtgdemingopcgaaaDoorE
open Go Go.RowKit Go.Proofs.YtgdemingopcgaaaDoorW.PrintWords Go.Proofs.YtgdemingopcgaaaDoorX Go.Proofs.YtgdemingopcgaaaDoor.P26
set_option linter.unusedVariables false
set_option linter.unusedSimpArgs false
/-- The parts of a line, at the blanks that stand in no quotes. -/
def cutL : List UInt8 → Bool → List UInt8 → List (List UInt8)
  | [], _, cur => [cur]
  | c :: l, q, cur => if c = 34 then cutL l (!q) (cur ++ [c]) else if c = 32 ∧ q = false then cur :: cutL l q [] else cutL l q (cur ++ [c])
/-- How the quotes stand behind a part; none: a blank stands outside. -/
def okP : List UInt8 → Bool → Option Bool
  | [], q => some q
  | c :: l, q => if c = 34 then okP l (!q) else if c = 32 ∧ q = false then none else okP l q
theorem cutL_ok : ∀ (p l : List UInt8) (q q' : Bool) (cur : List UInt8), okP p q = some q' → cutL (p ++ l) q cur = cutL l q' (cur ++ p)
  | [], l, q, q', cur, h => by
    injection h with h
    rw [List.nil_append, List.append_nil, h]
  | c :: p, l, q, q', cur, h => by
    rw [okP] at h
    rw [List.cons_append, cutL]
    split at h
    · next hc =>
      rw [if_pos hc, cutL_ok p l (!q) q' _ h, List.append_assoc]
      rfl
    · next hc =>
      rw [if_neg hc]
      split at h
      · cases h
      · next h2 =>
        rw [if_neg h2, cutL_ok p l q q' _ h, List.append_assoc]
        rfl
theorem okP_append : ∀ (a b : List UInt8) (q : Bool), okP (a ++ b) q = (okP a q).bind (okP b)
  | [], b, q => rfl
  | c :: a, b, q => by
    rw [List.cons_append, okP, okP]
    split
    · exact okP_append a b _
    · split
      · rfl
      · exact okP_append a b _
theorem okP_plain (q : Bool) : ∀ (l : List UInt8), (∀ c ∈ l, c ≠ 34 ∧ (c ≠ 32 ∨ q = true)) → okP l q = some q
  | [], _ => rfl
  | c :: l, h => by
    obtain ⟨h1, h2⟩ := h c (List.mem_cons_self ..)
    rw [okP, if_neg h1, if_neg (by rintro ⟨h3, h4⟩; rcases h2 with h2 | h2; exact h2 h3; rw [h4] at h2; cases h2)]
    exact okP_plain q l (fun d hd => h d (List.mem_cons_of_mem _ hd))
theorem cutL_parts : ∀ (ps : List (List UInt8)) (cur : List UInt8), (∀ p ∈ ps, okP p false = some false) → cutL (ps.flatMap (fun p => 32 :: p)) false cur = cur :: ps
  | [], cur, _ => rfl
  | p :: ps, cur, h => by
    rw [List.flatMap_cons, List.cons_append, cutL, if_neg (by decide), if_pos ⟨rfl, rfl⟩, cutL_ok p _ false false [] (h p (List.mem_cons_self ..)), List.nil_append, cutL_parts ps p (fun d hd => h d (List.mem_cons_of_mem _ hd))]
theorem cutL_line (w : List UInt8) (ps : List (List UInt8)) (hw : okP w false = some false) (h : ∀ p ∈ ps, okP p false = some false) : cutL (w ++ ps.flatMap (fun p => 32 :: p)) false [] = w :: ps := by
  rw [cutL_ok w _ false false [] hw, List.nil_append, cutL_parts ps w h]
theorem cutL_len : ∀ (l : List UInt8) (q : Bool) (cur : List UInt8), (cutL l q cur).length ≤ l.length + 1
  | [], _, _ => Nat.le_refl _
  | c :: l, q, cur => by
    rw [cutL]
    split
    · have := cutL_len l (!q) (cur ++ [c]); rw [List.length_cons]; omega
    · split
      · have := cutL_len l q []; rw [List.length_cons, List.length_cons]; omega
      · have := cutL_len l q (cur ++ [c]); rw [List.length_cons]; omega
def mkB (l : List UInt8) : ByteArray := ⟨l.toArray⟩
def cutB (s : ByteArray) : List ByteArray := (cutL s.data.toList false []).map mkB
theorem mkB_list (l : List UInt8) : (mkB l).data.toList = l := rfl
theorem mkB_of (s : ByteArray) : mkB s.data.toList = s := rfl
theorem putS_list : ∀ (l : List ByteArray) (o : ByteArray), (putS o l).data.toList = o.data.toList ++ (l.map (fun s => s.data.toList)).flatMap (fun p => 32 :: p)
  | [], o => by simp [putS]
  | s :: l, o => by
    rw [putS, putS_list l, ByteArray.data_append, ByteArray.data_append]
    simp
theorem cutB_put (w : ByteArray) (ps : List ByteArray) (hw : okP w.data.toList false = some false) (h : ∀ p ∈ ps, okP p.data.toList false = some false) : cutB (putS w ps) = w :: ps := by
  unfold cutB
  rw [putS_list, cutL_line _ _ hw (by
    intro p hp
    obtain ⟨s, hs, rfl⟩ := List.mem_map.1 hp
    exact h s hs), List.map_cons, List.map_map]
  show mkB w.data.toList :: _ = _
  rw [mkB_of]
  congr 1
  exact List.map_id'' (fun s => mkB_of s) ps

abbrev StO := List ByteArray × Bool
def nxtO (s : StO) : ByteArray × StO := match s.1 with
  | [] => (em, [], true)
  | x :: l => (x, l, s.2)
def hdlO (s : StO) : Int × StO := ((wholeS (nxtO s).1.data.toList).1, (nxtO s).2.1, (nxtO s).2.2 || !(wholeS (nxtO s).1.data.toList).2)
/-- What a quoted part says; true: it says nothing. -/
def sdO (t : ByteArray) : ByteArray × Bool :=
  if t.data.toList.length < 2 ∨ t.data.toList.head? ≠ some 34 ∨ t.data.toList.getLast? ≠ some 34 then (em, true) else
  (mkB (unS ((t.data.toList.drop 1).take (t.data.toList.length - 2)) 0 []).1, decide ((unS ((t.data.toList.drop 1).take (t.data.toList.length - 2)) 0 []).2.2 ≠ 0))
def nsdO (s : StO) : ByteArray × StO := ((sdO (nxtO s).1).1, (nxtO s).2.1, (nxtO s).2.2 || (sdO (nxtO s).1).2)
/-- At the first sign of equality. -/
def eqO (t : ByteArray) : ByteArray × ByteArray × Bool :=
  if t.data.toList.findIdx (· = 61) < t.data.toList.length then (mkB (t.data.toList.take (t.data.toList.findIdx (· = 61))), mkB (t.data.toList.drop (t.data.toList.findIdx (· = 61) + 1)), true) else (t, em, false)
def prO (s : StO) : S51 × StO := (⟨(eqO (nxtO s).1).1, (sdO (eqO (nxtO s).1).2.1).1⟩, (nxtO s).2.1, ((nxtO s).2.2 || !(eqO (nxtO s).1).2.2) || (sdO (eqO (nxtO s).1).2.1).2)
def prsO : List ByteArray → Bool → List S51 × Bool
  | [], b => ([], b)
  | p :: l, b => ((prO ([p], b)).1 :: (prsO l (prO ([p], b)).2.2).1, (prsO l (prO ([p], b)).2.2).2)
end Go.Proofs.YtgdemingopcgaaaDoorE

namespace Go.Proofs.YtgdemingopcgaaaDoorE
open Go Go.RowKit Go.Proofs.YtgdemingopcgaaaDoorW.PrintWords Go.Proofs.YtgdemingopcgaaaDoorX Go.Proofs.YtgdemingopcgaaaDoor.P26
set_option linter.unusedVariables false
set_option linter.unusedSimpArgs false
/-- A row that holds something lies in a block. -/
theorem R_some {α : Type} {d : Kd α} {e base n : Nat} {w : World} {ok : Nat → Prop} {v : Value} {xs : List α} (h : d.R e w base ok v xs) (hn : xs.length = n + 1) : ∃ g c, v = .slice (some ⟨g, 0, none⟩) (n + 1) c := by
  obtain ⟨inner, ho⟩ := Kd.R_own h
  rcases ho.2 with ⟨rfl, h0⟩ | ⟨g, cap, cur, rfl, _⟩
  · omega
  · exact ⟨g, cap, by rw [hn]⟩
theorem F_of_R {α : Type} {d : Kd α} {e base n c : Nat} {w : World} {ok : Nat → Prop} {A : Option Addr} {xs : List α} (h : d.R e w base ok (.slice A n c) xs) : Kd.F d w (fun k => ok k ∧ base ≤ k ∧ k < w.heap.size) A xs.length xs := fun W' hm => by
  have h2 := Kd.R_move (ok := fun k => ok k ∧ base ≤ k ∧ k < w.heap.size) (Kd.R_mono (Kd.R_bound h) (fun k hk => ⟨hk.1, hk.2.1, hk.2.2.1⟩)) (fun k hk => hm k hk hk.2.2)
  obtain ⟨A1, c1, he, _, hC⟩ := Kd.R_reads h2
  injection he with e1 _ _
  rw [e1]
  exact hC
theorem info_str : (Tryd.prog.info? 9).map (fun i => (i.zero, i.size, i.bytes)) = some (some (.string ⟨#[]⟩), 1, 16) := by kernel_rfl
theorem lit_C (W : World) (xs : List ByteArray) (h : xs.length ≤ 9223372036854775807) : Kd.string.C (W.alloc (.cells (xs.map Value.string).toArray 9)) (some ⟨W.heap.size, 0, none⟩) xs.length xs :=
  (Kd.R_reads' (Kd.R_of_own (enc := Value.string) (h1 := fun _ => rfl) (ok := fun _ => True) (own_lit_of W 0 9 xs (Nat.zero_le _) h) (fun _ _ => trivial))).2.2
/-- In the midst of cut. -/
def InvC (s : ByteArray) (w : World) (k fr : Nat) (b : Bool) (done : List ByteArray) (v : Value) (wr : World) : Prop :=
  done.length ≤ k ∧ cutL s.data.toList false [] = done.map (fun t => t.data.toList) ++ cutL (s.data.toList.drop k) b ((s.data.toList.take k).drop fr) ∧ Kd.string.R 9 wr w.heap.size (fun _ => True) v (done ++ [em]) ∧ Below w.heap.size w wr
theorem ext_sub (s : ByteArray) (a b : Nat) : (s.extract a b).data.toList = (s.data.toList.take b).drop a := by
  simp [ByteArray.data_extract, List.extract_eq_take_drop, List.drop_take]
theorem take_drop_snoc (l : List UInt8) (k fr : Nat) (h : k < l.length) (hf : fr ≤ k) : (l.take (k + 1)).drop fr = (l.take k).drop fr ++ [l[k]] := by
  rw [List.take_succ_eq_append_getElem h, List.drop_append_of_le_length (by rw [List.length_take]; omega)]
set_option maxHeartbeats 4000000 in
set_option maxRecDepth 100000 in
theorem cut_c (s : ByteArray) (hs : s.size ≤ 1000000000000) (w : World) :
    Calls Tryd.prog 25 #[.string s] w fun e w' => (∃ v, e = .returned v ∧ Kd.string.R 9 w' w.heap.size (fun _ => True) v (cutB s)) ∧ Below w.heap.size w w' := by
  have HS := Aside0.mk hs
  have H0 : Aside0 (InvC s w 0 0 false [] (.slice (some ⟨w.heap.size, 0, none⟩) 1 1) (w.alloc (.cells #[.string ⟨#[]⟩] 9))) := ⟨Nat.zero_le _, by simp, Kd.R_of_own (own_lit_of w w.heap.size 9 [em] (Nat.le_refl _) (by decide)) (fun _ _ => trivial), below_alloc (Below.refl _ _) _⟩
  clear hs
  go_enter Tryd.func25, Tryd.ntmps25
  go_wp2_with fail
  go_loopw [3, 4, 5, 10] (fun v q f i wr => ∃ (k fr : Nat) (b : Bool) (done : List ByteArray), k ≤ s.size ∧ fr ≤ k ∧ i = .int .i64 k ∧ f = .int .i64 fr ∧ q = .bool b ∧ Aside0 (InvC s w k fr b done v wr)) (fun _ _ _ i _ => s.size - (intOf i).toNat)
  case atStart => exact ⟨0, 0, false, [], Nat.zero_le _, Nat.le_refl _, rfl, rfl, rfl, H0⟩
  case round =>
    obtain ⟨k, fr, b, done, hk, hf, rfl, rfl, rfl, HI⟩ := hrel
    have hs := HS.out
    obtain ⟨hd, hc, hR, hB⟩ := HI.out
    obtain ⟨g, c, rfl⟩ := R_some (n := done.length) hR (by simp)
    by_cases hlt : k < s.size
    · have hll : k < s.data.toList.length := by rw [Array.length_toList]; exact hlt
      have hcx : s[k] = s.data.toList[k] := by simp [ByteArray.getElem_eq_getElem_data]
      have hdc := List.drop_eq_getElem_cons hll
      have htk := take_drop_snoc s.data.toList k fr hll hf
      rw [hdc, cutL, ← htk, ← hcx] at hc
      clear hdc htk
      by_cases h34 : s[k] = 34
      · have hb34 : ((s[k].toNat : Int) == 34) = true := by rw [h34]; rfl
        have hb32 : ((s[k].toNat : Int) == 32) = false := by rw [h34]; rfl
        rw [if_pos h34] at hc
        have HC := Aside0.mk hc
        have HR := Aside0.mk hR
        clear hc hR HI h34 hcx
        go_wp2_with fail
        exact ⟨⟨k + 1, fr, !b, done, by omega, by omega, by go_num, rfl, rfl, ⟨by omega, HC.out, HR.out, hB⟩⟩, by simp [intOf]; omega⟩
      · have hb34 : ((s[k].toNat : Int) == 34) = false := by
          rw [beq_eq_false_iff_ne]
          intro e
          have e2 : s[k].toNat = 34 := by omega
          exact h34 (UInt8.toNat_inj.1 e2)
        rw [if_neg h34] at hc
        by_cases h32 : s[k] = 32
        · have hb32 : ((s[k].toNat : Int) == 32) = true := by rw [h32]; rfl
          cases b with
          | true =>
            rw [if_neg (by simp)] at hc
            have HC := Aside0.mk hc
            have HR := Aside0.mk hR
            clear hc hR HI h34 h32 hcx
            go_wp2_with fail
            exact ⟨⟨k + 1, fr, true, done, by omega, by omega, by go_num, rfl, rfl, ⟨by omega, HC.out, HR.out, hB⟩⟩, by simp [intOf]; omega⟩
          | false =>
            rw [if_pos ⟨h32, rfl⟩] at hc
            have HC := Aside0.mk hc
            have HR := Aside0.mk hR
            have HB := Aside0.mk hB
            obtain ⟨q1, q2⟩ := Kd.R_celln em hR (done.length : Int) (by omega) (by omega)
            rw [Int.toNat_natCast] at q1 q2
            have hR2 := Kd.R_putn hR (done.length : Int) (s.extract fr k)
            rw [Int.toNat_natCast] at hR2
            have HR2 := Aside0.mk hR2
            have hw : wrap64 (done.length : Int) = (done.length : Int) := by unfold wrap64; omega
            clear hc hR HI h34 h32 hcx hB hR2
            have hB1 : Below w.heap.size w ((wr.setCell ⟨g, done.length, none⟩ (.string (s.extract fr k))).alloc (.cells #[.string ⟨#[]⟩] 9)) := below_alloc (HB.out.setCell (by have := Kd.R_base HR.out g (by simp [Value.ownBlock]); exact this) _) _
            have HB1 := Aside0.mk hB1
            have HR3 := Aside0.mk (Kd.R_below HR2.out (below_alloc (Below.refl _ _) (.cells #[.string ⟨#[]⟩] 9)))
            have HE := Aside0.mk (show (done ++ [em]).set done.length (s.extract fr k) = done ++ [s.extract fr k] by simp)
            rw [HE.out] at HR3
            have hlc := lit_C (wr.setCell ⟨g, done.length, none⟩ (.string (s.extract fr k))) [em] (by decide)
            rw [show (wr.setCell ⟨g, done.length, none⟩ (.string (s.extract fr k))).heap.size = wr.heap.size by simp [World.setCell]] at hlc
            have HLC := Aside0.mk hlc
            clear hlc
            clear hB1
            go_wp2_with (at_builtin; refine Kd.R_append_row (w0 := w) Value.string em (h1 := fun _ => rfl) w.heap.size rfl _ _ 56 9 (.string ⟨#[]⟩) 16 rfl Tryd.underlying56 info_str rfl (by decide) _ (done ++ [s.extract fr k]) [em] _ 1 1 (fun _ => True) rfl rfl (fun _ _ => trivial) HR3.out HLC.out HB1.out ?hbase ?hl ?hk; (case hbase => exact HB1.out.size); (case hl => rw [List.length_append]; show (done.length + 1 + 1) * 16 ≤ _; omega); intro v1 w1 hR1 hb1 hg1 hat1; have HR4 := Aside0.mk hR1; have HB4 := Aside0.mk hb1; clear hR1 hb1 hg1 hat1)
            refine ⟨⟨k + 1, k + 1, false, done ++ [s.extract fr k], by omega, by omega, by go_num, by go_num, rfl, ⟨?_, ?_, HR4.out, HB4.out⟩⟩, by simp [intOf]; omega⟩
            · rw [List.length_append]; show done.length + 1 ≤ _; omega
            · have e0 : (s.data.toList.take (k + 1)).drop (k + 1) = [] := List.drop_of_length_le (by rw [List.length_take]; omega)
              rw [HC.out, List.map_append, List.append_assoc, e0]
              simp only [List.map_cons, List.map_nil, ext_sub]
              rfl
        · have hb32 : ((s[k].toNat : Int) == 32) = false := by
            rw [beq_eq_false_iff_ne]
            intro e
            have e2 : s[k].toNat = 32 := by omega
            exact h32 (UInt8.toNat_inj.1 e2)
          rw [if_neg (fun e => h32 e.1)] at hc
          have HC := Aside0.mk hc
          have HR := Aside0.mk hR
          clear hc hR HI h34 h32 hcx
          go_wp2_with fail
          exact ⟨⟨k + 1, fr, b, done, by omega, by omega, by go_num, rfl, rfl, ⟨by omega, HC.out, HR.out, hB⟩⟩, by simp [intOf]; omega⟩
    · obtain rfl : k = s.size := by omega
      have hdl : s.data.toList.length = s.size := by rw [Array.length_toList]; rfl
      rw [List.drop_of_length_le (by omega), cutL, List.take_of_length_le (by omega)] at hc
      have HC := Aside0.mk hc
      have HR := Aside0.mk hR
      have HB := Aside0.mk hB
      obtain ⟨q1, q2⟩ := Kd.R_celln em hR (done.length : Int) (by omega) (by omega)
      rw [Int.toNat_natCast] at q1 q2
      have hR2 := Kd.R_putn hR (done.length : Int) (s.extract fr s.size)
      rw [Int.toNat_natCast] at hR2
      rw [show (done ++ [em]).set done.length (s.extract fr s.size) = done ++ [s.extract fr s.size] by simp] at hR2
      have HR2 := Aside0.mk hR2
      have hw : wrap64 (done.length : Int) = (done.length : Int) := by unfold wrap64; omega
      clear hc hR HI hB hR2
      go_wp2_with fail
      go_ret
      refine ⟨⟨_, rfl, ?_⟩, HB.out.setCell (by have := Kd.R_base HR.out g (by simp [Value.ownBlock]); exact this) _⟩
      have e : cutB s = done ++ [s.extract fr s.size] := by
        unfold cutB
        rw [HC.out, List.map_append, List.map_map]
        congr 1
        · exact List.map_id'' (fun t => mkB_of t) done
        · rw [List.map_cons, List.map_nil, show s.data.toList.drop fr = (s.extract fr s.size).data.toList by rw [ext_sub, List.take_of_length_le (by omega)], mkB_of]
      rw [e]
      exact HR2.out
end Go.Proofs.YtgdemingopcgaaaDoorE

namespace Go.Proofs.YtgdemingopcgaaaDoorE
open Go Go.RowKit Go.Proofs.YtgdemingopcgaaaDoorW.PrintWords Go.Proofs.YtgdemingopcgaaaDoorX Go.Proofs.YtgdemingopcgaaaDoor.P26
set_option linter.unusedVariables false
set_option linter.unusedSimpArgs false
/-- All but the blocks of S stay as they are. -/
structure But (S : Nat → Prop) (w w' : World) : Prop where
  os : w'.os = w.os
  tape : w'.tape = w.tape
  output : w'.output = w.output
  size : w.heap.size ≤ w'.heap.size
  block : ∀ k, k < w.heap.size → ¬ S k → w'.heap[k]? = w.heap[k]?
namespace But
variable {S S2 : Nat → Prop} {w w1 w2 : World}
theorem refl (S : Nat → Prop) (w : World) : But S w w := ⟨rfl, rfl, rfl, Nat.le_refl _, fun _ _ _ => rfl⟩
theorem mono (h : But S w w1) (hs : ∀ k, S k → S2 k) : But S2 w w1 := ⟨h.os, h.tape, h.output, h.size, fun k hk hn => h.block k hk (fun x => hn (hs k x))⟩
theorem trans (h : But S w w1) (k : But S2 w1 w2) (hs : ∀ k, S2 k → S k ∨ w.heap.size ≤ k) : But S w w2 :=
  ⟨k.os.trans h.os, k.tape.trans h.tape, k.output.trans h.output, Nat.le_trans h.size k.size, fun i hi hn => (k.block i (Nat.lt_of_lt_of_le hi h.size) (fun x => (hs i x).elim hn (fun y => absurd hi (by omega)))).trans (h.block i hi hn)⟩
theorem then_ (h : But S w w1) (k : But S w1 w2) : But S w w2 := h.trans k (fun _ => .inl)
theorem below (h : But S w w1) (k : Below w1.heap.size w1 w2) : But S w w2 :=
  ⟨k.os.trans h.os, k.tape.trans h.tape, k.output.trans h.output, Nat.le_trans h.size k.size, fun i hi hn => (k.block i (Nat.lt_of_lt_of_le hi h.size)).trans (h.block i hi hn)⟩
theorem of_below (k : Below w.heap.size w w1) : But S w w1 := (refl S w).below k
theorem drawn (h : But S w w1) (k : Drawn0 w1 w2) : But S w w2 := by
  obtain ⟨n, rfl⟩ := k.out
  exact h.below (pw_below_drewN (Below.refl _ _) n)
theorem setCell (h : But S w w1) {p : Addr} (hp : S p.block ∨ w.heap.size ≤ p.block) (u : Value) : But S w (w1.setCell p u) :=
  ⟨h.os, h.tape, h.output, by simpa [World.setCell] using h.size, fun k hk hn => (Below.heap_setCell w1 p u k (fun e => hp.elim (fun x => hn (e ▸ x)) (fun x => absurd hk (by omega)))).trans (h.block k hk hn)⟩
theorem put_self {p : Nat} (h : But (· = p) w w1) (j : Nat) (u : Value) : But (· = p) w (w1.setCell ⟨p, j, none⟩ u) := h.setCell (.inl rfl) u
end But
theorem blk_lt' {w : World} {g : Nat} {o : Obj} (h : w.heap[g]? = some o) : g < w.heap.size := (Array.getElem?_eq_some_iff.1 h).1
theorem set_blk {w : World} {p j : Nat} {cs : Array Value} {T : TypeId} {fz : Nat × Nat} (h : w.heap[p]? = some (.cells cs T fz)) (v : Value) : (w.setCell ⟨p, j, none⟩ v).heap[p]? = some (.cells (cs.setIfInBounds j v) T fz) := by
  simp [World.setCell, Array.getElem?_modify, h]
theorem far {ok : Nat → Prop} {p : Nat} (h : ¬ ok p) : ∀ k, ok k → k ≠ p := fun k hk e => h (by rw [← e]; exact hk)
/-- A reader at p: the parts that are left, and whether one was wrong. -/
def AtO (p : Nat) (ok : Nat → Prop) (s : StO) (w : World) : Prop :=
  ¬ ok p ∧ ∃ A c, w.heap[p]? = some (.cells #[.slice A s.1.length c, .bool s.2] 59 (0, 0)) ∧ s.1.length ≤ c ∧ Kd.F Kd.string w ok A s.1.length s.1
theorem AtO.but {p : Nat} {ok S : Nat → Prop} {s : StO} {w w' : World} (h : AtO p ok s w) (hb : But S w w') (hs : ∀ k, S k → k ≠ p ∧ ¬ ok k) : AtO p ok s w' := by
  obtain ⟨h1, A, c, hp, hc, hf⟩ := h
  exact ⟨h1, A, c, (hb.block p (blk_lt' hp) (fun x => (hs p x).1 rfl)).trans hp, hc, Kd.F_step hf (fun k hk hlt => hb.block k hlt (fun x => (hs k x).2 hk))⟩
theorem AtO.below {p : Nat} {ok : Nat → Prop} {s : StO} {w w' : World} (h : AtO p ok s w) (hb : Below w.heap.size w w') : AtO p ok s w' := h.but ((But.refl (fun _ => False) w).below hb) (fun _ h => h.elim)
theorem AtO.lt {p : Nat} {ok : Nat → Prop} {s : StO} {w : World} (h : AtO p ok s w) : p < w.heap.size := by
  obtain ⟨-, A, c, hp, -⟩ := h
  exact blk_lt' hp
theorem AtO.flag {p : Nat} {ok : Nat → Prop} {s : StO} {w : World} (h : AtO p ok s w) (b : Bool) : AtO p ok (s.1, b) (w.setCell ⟨p, 1, none⟩ (.bool b)) := by
  obtain ⟨h1, A, c, hp, hc, hf⟩ := h
  exact ⟨h1, A, c, set_blk hp _, hc, Kd.F_far hf (far h1) _⟩
theorem AtO.bad {p : Nat} {ok : Nat → Prop} {s : StO} {w : World} (h : AtO p ok s w) : w.cell? ⟨p, 1, none⟩ = some (.bool s.2) ∧ w.frozen? ⟨p, 1, none⟩ = false := by
  obtain ⟨h1, A, c, hp, hc, hf⟩ := h
  exact ⟨by rw [Lib.cell_of_heap hp]; rfl, Lib.frozen_of_heap hp 1⟩
set_option maxHeartbeats 1000000 in
theorem next_c (p : Nat) (ok : Nat → Prop) (s : StO) (w : World) (h : AtO p ok s w) :
    Calls Tryd.prog 27 #[.pointer (some ⟨p, 0, none⟩)] w fun e w' => e = .returned (.string (nxtO s).1) ∧ AtO p ok (nxtO s).2 w' ∧ But (· = p) w w' := by
  have H := Aside0.mk h
  obtain ⟨l, b⟩ := s
  obtain ⟨h1, A, c, hp, hc, hf⟩ := h
  simp only at hp hc hf
  have c0 : w.cell? ⟨p, 0, none⟩ = some (.slice A l.length c) := by rw [Lib.cell_of_heap hp]; rfl
  have c1 : w.cell? ⟨p, 1, none⟩ = some (.bool b) := by rw [Lib.cell_of_heap hp]; rfl
  have f0 : w.frozen? ⟨p, 0, none⟩ = false := Lib.frozen_of_heap hp 0
  have f1 : w.frozen? ⟨p, 1, none⟩ = false := Lib.frozen_of_heap hp 1
  cases l with
  | nil =>
    have HP := Aside0.mk hp
    clear h1 hf hp
    go_enter Tryd.func27, Tryd.ntmps27
    go_wp2_with fail
    go_ret
    exact ⟨rfl, H.out.flag true, (But.refl _ w).put_self _ _⟩
  | cons x l =>
    have HF := Aside0.mk hf
    have HP := Aside0.mk hp
    have HN := Aside0.mk h1
    obtain ⟨ad, rfl, h0⟩ := Kd.at_string (Kd.F_now hf) 0 (by omega) (by simp only [List.length_cons]; omega)
    have h0' : w.cell? ad = some (.string x) := by rw [show ((0 : Int).toNat) = 0 from rfl, Addr.add_zero'] at h0; exact h0
    clear h0
    have hF := Kd.F_cut (m := 1) (c := c) hf (by simp) hc
    have HF2 := Aside0.mk hF
    rw [List.length_cons] at c0 hc
    clear h1 hf hp hF
    go_enter Tryd.func27, Tryd.ntmps27
    go_wp2_with fail
    · rename_i h
      subst h
      go_ret
      have hF := HF2.out
      rw [if_pos rfl] at hF
      exact ⟨rfl, ⟨HN.out, _, _, set_blk HP.out _, by simp only [nxtO]; omega, Kd.F_far hF (far HN.out) _⟩, (But.refl _ w).put_self _ _⟩
    · rename_i h
      go_ret
      have hF := HF2.out
      rw [if_neg h] at hF
      exact ⟨rfl, ⟨HN.out, _, _, set_blk HP.out _, by simp only [nxtO]; omega, Kd.F_far hF (far HN.out) _⟩, (But.refl _ w).put_self _ _⟩
theorem nxt_mem {s : StO} {N : Nat} (h : ∀ x ∈ s.1, x.size ≤ N) : (nxtO s).1.size ≤ N ∧ ∀ x ∈ (nxtO s).2.1, x.size ≤ N := by
  obtain ⟨l, b⟩ := s
  cases l with
  | nil => exact ⟨Nat.zero_le _, fun x hx => absurd hx (by simp [nxtO])⟩
  | cons y l => exact ⟨h y (List.mem_cons_self ..), fun x hx => h x (List.mem_cons_of_mem _ hx)⟩
set_option maxHeartbeats 1000000 in
theorem handle_O (p : Nat) (ok : Nat → Prop) (s : StO) (hz : ∀ x ∈ s.1, x.size ≤ 1000000000000) (w : World) (hgl : GL w) (hpg : ∀ W, But (· = p) w W → GL W) (h : AtO p ok s w) :
    Calls Tryd.prog 30 #[.pointer (some ⟨p, 0, none⟩)] w fun e w' => e = .returned (.int .i64 (hdlO s).1) ∧ AtO p ok (hdlO s).2 w' ∧ But (· = p) w w' := by
  have HN := Aside0.mk (next_c p ok s w h)
  have hx := (nxt_mem hz).1
  have HW : ∀ W, GL W → Calls Tryd.prog 48 #[.string (nxtO s).1] W fun e w' => e = .returned (.tuple #[.int .i64 (wholeS (nxtO s).1.data.toList).1, .bool (wholeS (nxtO s).1.data.toList).2]) ∧ Below W.heap.size W w' := fun W hW =>
    chars_Whole.calls _ _ _ W hW (by unfold chars_Whole.f; rw [if_pos (by omega)])
  unfold hdlO
  generalize nxtO s = E at *
  obtain ⟨x, l1, b1⟩ := E
  simp only at HN HW hx ⊢
  generalize wholeS x.data.toList = E at *
  obtain ⟨n, o⟩ := E
  simp only at HW ⊢
  have HWA := Aside0.mk HW
  have HG := Aside0.mk hpg
  clear h hz hgl hpg HW hx
  cases b1 <;> cases o <;> (
    go_enter Tryd.func30, Tryd.ntmps30
    go_wp2_with fail
    refine (HN.out).mono ?_
    rintro e w1 ⟨rfl, ha, hb⟩
    have HA := Aside0.mk ha
    have HB := Aside0.mk hb
    clear ha hb
    go_wp2_with fail
    refine (HWA.out _ (HG.out _ HB.out)).mono ?_
    rintro e w2 ⟨rfl, hb⟩
    have HB2 := Aside0.mk (HB.out.below hb)
    have HA2 := Aside0.mk (HA.out.below hb)
    obtain ⟨q1, q2⟩ := HA2.out.bad
    clear hb
    go_wp2_with fail
    go_ret
    exact ⟨rfl, HA2.out.flag _, HB2.out.put_self _ _⟩)
end Go.Proofs.YtgdemingopcgaaaDoorE
