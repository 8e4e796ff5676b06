-- Written by this claim's own program (xprint.py). Not trusted: Lean checks it.
import Derived.Test.YtpanmmpkdbhofaaDoorX03bx0
import Derived.Test.YtpanmmpkdbhofaaDoorX03bx1
import Derived.Test.YtpanmmpkdbhofaaDoorX03bx2
namespace Go.Proofs.YtpanmmpkdbhofaaDoor.P03b
open Go.RowKit Go.Proofs.YtpanmmpkdbhofaaDoorE Go.Proofs.YtpanmmpkdbhofaaDoorW.PrintWords Go.Proofs.YtpanmmpkdbhofaaDoorW.PrintLast Go.Proofs.YtpanmmpkdbhofaaDoorW.PrintMore
attribute [local go_sem] max2_int min2_int max_two min_two max_three min_three max_four min_four   -- for this text's walks alone
set_option linter.unusedVariables false
set_option linter.unusedSimpArgs false

/-! ### tendrillaw03_EscapeBack: function 9 -/
mutual
def tendrillaw03_EscapeBack.j0 : Nat → ByteArray → ByteArray → Bool → Option (Bool)
  | 0, _, _, _ => none
  | k + 1, x0, x1, x16 => if x16 = true then ((tendrillaw03_same.f).bind fun t139 => (some t139)) else ((escape_Escape.f x0).bind fun t140 => ((escape_Unescape.f t140).bind fun bt141 => ((tendrilref03_Escape.f k x0).bind fun t144 => (if t140.toList = t144.toList then ((escape_Length.f k x0).bind fun t145 => (if t145 = (t140.size : Int) then (if bt141.1.toList = x0.toList then (if bt141.2.1 = 0 then (tendrillaw03_EscapeBack.j1 k x0 x1 t140 (bt141.2.2 != 0)) else (tendrillaw03_EscapeBack.j1 k x0 x1 t140 true)) else (tendrillaw03_EscapeBack.j1 k x0 x1 t140 true)) else (tendrillaw03_EscapeBack.j1 k x0 x1 t140 true))) else (tendrillaw03_EscapeBack.j1 k x0 x1 t140 true)))))
def tendrillaw03_EscapeBack.j1 : Nat → ByteArray → ByteArray → ByteArray → Bool → Option (Bool)
  | 0, _, _, _, _ => none
  | k + 1, x0, x1, x5, x49 => if x49 = true then (some false) else (if x0.size + x1.size ≤ 9223372036854775807 then ((escape_Escape.f (x0 ++ x1)).bind fun t146 => ((escape_Escape.f x1).bind fun t147 => (if x5.size + t147.size ≤ 9223372036854775807 then (if t146.toList = (x5 ++ t147).toList then ((escape_Span.f k x5 0).bind fun t148 => (if t148 = (x5.size : Int) then ((tendrillaw03_same.f).bind fun t149 => (some t149)) else (some false))) else (some false)) else (none)))) else (none))
end
def tendrillaw03_EscapeBack.f (k : Nat) (a0 : ByteArray) (a1 : ByteArray) : Option (Bool) := if (a0.size : Int) > 2000 then (tendrillaw03_EscapeBack.j0 k a0 a1 true) else (tendrillaw03_EscapeBack.j0 k a0 a1 (decide ((a1.size : Int) > 2000)))
theorem tendrillaw03_EscapeBack.mono_l : ∀ k, (∀ y0 y1 y2, LeO (tendrillaw03_EscapeBack.j0 k y0 y1 y2) (tendrillaw03_EscapeBack.j0 (k + 1) y0 y1 y2)) ∧ (∀ y0 y1 y2 y3, LeO (tendrillaw03_EscapeBack.j1 k y0 y1 y2 y3) (tendrillaw03_EscapeBack.j1 (k + 1) y0 y1 y2 y3))
  | 0 => ⟨fun _ _ _ r h => by simp [tendrillaw03_EscapeBack.j0] at h, fun _ _ _ _ r h => by simp [tendrillaw03_EscapeBack.j1] at h⟩
  | k + 1 => by
    obtain ⟨ih0, ih1⟩ := tendrillaw03_EscapeBack.mono_l k
    refine ⟨?_, ?_⟩
    · intro y0 y1 y2
      unfold tendrillaw03_EscapeBack.j0
      repeat' first
      | (with_reducible exact ih0 _ _ _)
      | (with_reducible exact ih1 _ _ _ _)
      | (with_reducible exact escape_Length.mono _ _)
      | (with_reducible exact escape_Span.mono _ _ _)
      | (with_reducible exact tendrilref03_Escape.mono _ _)
      | (with_reducible exact LeO.refl _)
      | (with_reducible exact LeO.none _)
      | (with_reducible refine LeO.ite ?_ ?_)
      | (with_reducible refine LeO.bind ?_ (fun _ => ?_))
      | exact ih0 _ _ _
      | exact ih1 _ _ _ _
      | exact escape_Length.mono _ _
      | exact escape_Span.mono _ _ _
      | exact tendrilref03_Escape.mono _ _
      | exact LeO.none _
      | refine LeO.ite ?_ ?_
      | refine LeO.bind ?_ (fun _ => ?_)
    · intro y0 y1 y2 y3
      unfold tendrillaw03_EscapeBack.j1
      repeat' first
      | (with_reducible exact ih0 _ _ _)
      | (with_reducible exact ih1 _ _ _ _)
      | (with_reducible exact escape_Length.mono _ _)
      | (with_reducible exact escape_Span.mono _ _ _)
      | (with_reducible exact tendrilref03_Escape.mono _ _)
      | (with_reducible exact LeO.refl _)
      | (with_reducible exact LeO.none _)
      | (with_reducible refine LeO.ite ?_ ?_)
      | (with_reducible refine LeO.bind ?_ (fun _ => ?_))
      | exact ih0 _ _ _
      | exact ih1 _ _ _ _
      | exact escape_Length.mono _ _
      | exact escape_Span.mono _ _ _
      | exact tendrilref03_Escape.mono _ _
      | exact LeO.none _
      | refine LeO.ite ?_ ?_
      | refine LeO.bind ?_ (fun _ => ?_)
theorem tendrillaw03_EscapeBack.mono : ∀ a0 a1 k, LeO (tendrillaw03_EscapeBack.f k a0 a1) (tendrillaw03_EscapeBack.f (k + 1) a0 a1) := by
  intro a0 a1 k
  obtain ⟨ih0, ih1⟩ := tendrillaw03_EscapeBack.mono_l k
  unfold tendrillaw03_EscapeBack.f
  repeat' first
      | (with_reducible exact ih0 _ _ _)
      | (with_reducible exact ih1 _ _ _ _)
      | (with_reducible exact escape_Length.mono _ _)
      | (with_reducible exact escape_Span.mono _ _ _)
      | (with_reducible exact tendrilref03_Escape.mono _ _)
      | (with_reducible exact LeO.refl _)
      | (with_reducible exact LeO.none _)
      | (with_reducible refine LeO.ite ?_ ?_)
      | (with_reducible refine LeO.bind ?_ (fun _ => ?_))
      | exact ih0 _ _ _
      | exact ih1 _ _ _ _
      | exact escape_Length.mono _ _
      | exact escape_Span.mono _ _ _
      | exact tendrilref03_Escape.mono _ _
      | exact LeO.none _
      | refine LeO.ite ?_ ?_
      | refine LeO.bind ?_ (fun _ => ?_)
set_option maxHeartbeats 8000000 in
set_option maxRecDepth 100000 in
theorem tendrillaw03_EscapeBack.calls (k : Nat) (a0 : ByteArray) (a1 : ByteArray) (r : Bool) (w : World) (hgl : Go.Proofs.YtpanmmpkdbhofaaDoorX.GL w) (h : tendrillaw03_EscapeBack.f k a0 a1 = some r) :
    Calls Tryd.prog 9 #[.string a0, .string a1] w fun e w' => e = .returned (.bool r) ∧ Below w.heap.size w w' := by
  have HGL := Aside0.mk hgl
  clear hgl
  have HB := Aside0.mk (Below.refl w.heap.size w)
  have H : (if (a0.size : Int) > 2000 then (tendrillaw03_EscapeBack.j0 k a0 a1 true) else (tendrillaw03_EscapeBack.j0 k a0 a1 (decide ((a1.size : Int) > 2000)))) = some r := h
  clear h
  have HC3 := Aside0.mk H
  clear H
  go_enter Tryd.func9, Tryd.ntmps9
  go_upto_region 1 with (fail)
  go_cut [16] (fun v16 wc => ∃ (kq : Nat) (x16_2 : Bool), v16 = .bool x16_2 ∧ Aside0 (tendrillaw03_EscapeBack.j0 kq a0 a1 x16_2 = some r) ∧ Aside0 (kq ≤ k) ∧ Aside0 (Below w.heap.size w wc))
  case first =>
    have H := HC3.out
    clear HC3
    by_cases c4 : (a0.size : Int) > 2000
    · rw [if_pos c4] at H
      have c4b0 : decide (2000 < (a0.size : Int)) = true := decide_eq_true c4
      have c4b1 : decide (2000 < a0.size) = true := decide_eq_true (by omega)
      clear c4
      (first | rw [c4b0] | (simp only [i64_w, i32_w]; rw [c4b0]) | skip)
      have H' := Aside0.mk H
      clear H
      go_wp2
      go_meet
      case rel => exact ⟨_, (true), (by first | rfl | (simp; done) | (simp [*]; done)), H', ⟨by first | omega | exact Nat.le_refl _⟩, ⟨by repeat (first | (with_reducible first | exact HB.out | apply below_alloc | apply pw_below_drewN | apply below_drew1) | exact HB.out)⟩⟩
    · rw [if_neg c4] at H
      have c4b0 : decide (2000 < (a0.size : Int)) = false := decide_eq_false c4
      have c4b1 : decide (2000 < a0.size) = false := decide_eq_false (by omega)
      clear c4
      (first | rw [c4b0] | (simp only [i64_w, i32_w]; rw [c4b0]) | skip)
      have H' := Aside0.mk H
      clear H
      go_wp2
      go_meet
      case rel => exact ⟨_, (decide ((a1.size : Int) > 2000)), (by first | rfl | (simp; done) | (simp [*]; done)), H', ⟨by first | omega | exact Nat.le_refl _⟩, ⟨by repeat (first | (with_reducible first | exact HB.out | apply below_alloc | apply pw_below_drewN | apply below_drew1) | exact HB.out)⟩⟩
  case rest =>
    clear HC3
    try clear p2
    try clear c4
    try clear c4b0
    try clear c4b1
    obtain ⟨kq, x16_2, rfl, HA, HJ2, HB⟩ := hcut
    cases kq with
    | zero => exact absurd HA.out (by simp [tendrillaw03_EscapeBack.j0])
    | succ kj2 =>
      have H := HA.out
      clear HA
      simp only [tendrillaw03_EscapeBack.j0] at H
      by_cases c5 : x16_2 = true
      · subst c5
        have H1 : ((tendrillaw03_same.f).bind fun t139 => (some t139)) = some r := by rw [if_pos rfl] at H; exact H
        clear H
        have H := H1
        clear H1
        replace H := Option.bind_eq_some_iff.mp H
        obtain ⟨t139, A60, H⟩ := H
        replace H : (some t139) = some r := H
        have A6 := Aside0.mk A60
        clear A60
        obtain rfl := Option.some.inj H
        go_wp2_with (first | ((with_reducible refine gate_callee (f := 29) rfl ?_); refine goesL_ (some 17) rfl rfl Tryd.func29 (by kernel_rfl) rfl #[] rfl (by (try simp only [List.map_toArray, List.map_cons, List.map_nil]); first | done | rfl | (simp only [List.length_drop, List.length_take]; rfl)) ?_; (with_reducible refine (tendrillaw03_same.calls  t139 _ ?side1 A6.out).mono ?_); (case side1 => first | exact HGL.out | exact (Go.Proofs.YtpanmmpkdbhofaaDoorX.GL.below HGL.out (by repeat (first | (with_reducible first | exact HB.out | apply below_alloc | apply pw_below_drewN | apply below_drew1) | exact HB.out))) | (repeat (first | exact HGL.out | (with_reducible refine Go.Proofs.YtpanmmpkdbhofaaDoorX.GL.drewN ?_ _) | (with_reducible refine Go.Proofs.YtpanmmpkdbhofaaDoorX.GL.drew ?_)))); rintro e w7 ⟨rfl, hb⟩; refine ⟨_, rfl, ?_⟩; have n0_ := Aside0.mk (below_step (by repeat (first | (with_reducible first | exact HB.out | apply below_alloc | apply pw_below_drewN | apply below_drew1) | exact HB.out)) hb); clear HB; have HB := n0_; clear n0_; (try clear hb); (try clear hb2); (try clear hk); (try clear hi)))
        go_ret
        exact ⟨by first | rfl | (simp [errW_none, errW_some] <;> rfl) | (simp [*, errW_none, errW_some] <;> rfl), by repeat (first | (with_reducible first | exact HB.out | apply below_alloc | apply pw_below_drewN | apply below_drew1) | exact HB.out)⟩
      · replace c5 := Bool.eq_false_iff.mpr c5
        subst c5
        have H1 : ((escape_Escape.f a0).bind fun t140 => ((escape_Unescape.f t140).bind fun bt141 => ((tendrilref03_Escape.f kj2 a0).bind fun t144 => (if t140.toList = t144.toList then ((escape_Length.f kj2 a0).bind fun t145 => (if t145 = (t140.size : Int) then (if bt141.1.toList = a0.toList then (if bt141.2.1 = 0 then (tendrillaw03_EscapeBack.j1 kj2 a0 a1 t140 (bt141.2.2 != 0)) else (tendrillaw03_EscapeBack.j1 kj2 a0 a1 t140 true)) else (tendrillaw03_EscapeBack.j1 kj2 a0 a1 t140 true)) else (tendrillaw03_EscapeBack.j1 kj2 a0 a1 t140 true))) else (tendrillaw03_EscapeBack.j1 kj2 a0 a1 t140 true))))) = some r := by rw [if_neg (show ¬ (false = true) by decide)] at H; exact H
        clear H
        have H := H1
        clear H1
        replace H := Option.bind_eq_some_iff.mp H
        obtain ⟨t140, A80, H⟩ := H
        replace H : ((escape_Unescape.f t140).bind fun bt141 => ((tendrilref03_Escape.f kj2 a0).bind fun t144 => (if t140.toList = t144.toList then ((escape_Length.f kj2 a0).bind fun t145 => (if t145 = (t140.size : Int) then (if bt141.1.toList = a0.toList then (if bt141.2.1 = 0 then (tendrillaw03_EscapeBack.j1 kj2 a0 a1 t140 (bt141.2.2 != 0)) else (tendrillaw03_EscapeBack.j1 kj2 a0 a1 t140 true)) else (tendrillaw03_EscapeBack.j1 kj2 a0 a1 t140 true)) else (tendrillaw03_EscapeBack.j1 kj2 a0 a1 t140 true))) else (tendrillaw03_EscapeBack.j1 kj2 a0 a1 t140 true)))) = some r := H
        have A8 := Aside0.mk A80
        clear A80
        replace H := Option.bind_eq_some_iff.mp H
        obtain ⟨⟨t141, t142, t143⟩, A90, H⟩ := H
        replace H : ((tendrilref03_Escape.f kj2 a0).bind fun t144 => (if t140.toList = t144.toList then ((escape_Length.f kj2 a0).bind fun t145 => (if t145 = (t140.size : Int) then (if t141.toList = a0.toList then (if t142 = 0 then (tendrillaw03_EscapeBack.j1 kj2 a0 a1 t140 (t143 != 0)) else (tendrillaw03_EscapeBack.j1 kj2 a0 a1 t140 true)) else (tendrillaw03_EscapeBack.j1 kj2 a0 a1 t140 true)) else (tendrillaw03_EscapeBack.j1 kj2 a0 a1 t140 true))) else (tendrillaw03_EscapeBack.j1 kj2 a0 a1 t140 true))) = some r := H
        have A9 := Aside0.mk A90
        clear A90
        have HC10 := Aside0.mk H
        clear H
        go_upto_region 5 with (first | ((with_reducible refine gate_callee (f := 31) rfl ?_); refine goesL_ (some 19) rfl rfl Tryd.func31 (by kernel_rfl) rfl #[.string a0] rfl (by (try simp only [List.map_toArray, List.map_cons, List.map_nil]); first | done | rfl | (simp only [List.length_drop, List.length_take]; rfl)) ?_; (with_reducible refine (escape_Escape.calls a0 t140 _ ?side1 A8.out).mono ?_); (case side1 => first | exact HGL.out | exact (Go.Proofs.YtpanmmpkdbhofaaDoorX.GL.below HGL.out (by repeat (first | (with_reducible first | exact HB.out | apply below_alloc | apply pw_below_drewN | apply below_drew1) | exact HB.out))) | (repeat (first | exact HGL.out | (with_reducible refine Go.Proofs.YtpanmmpkdbhofaaDoorX.GL.drewN ?_ _) | (with_reducible refine Go.Proofs.YtpanmmpkdbhofaaDoorX.GL.drew ?_)))); rintro e w11 ⟨rfl, hb⟩; refine ⟨_, rfl, ?_⟩; have n0_ := Aside0.mk (below_step (by repeat (first | (with_reducible first | exact HB.out | apply below_alloc | apply pw_below_drewN | apply below_drew1) | exact HB.out)) hb); clear HB; have HB := n0_; clear n0_; (try clear hb); (try clear hb2); (try clear hk); (try clear hi)) | ((with_reducible refine gate_callee (f := 30) rfl ?_); refine goesL_ (some 22) rfl rfl Tryd.func30 (by kernel_rfl) rfl #[.string t140] rfl (by (try simp only [List.map_toArray, List.map_cons, List.map_nil]); first | done | rfl | (simp only [List.length_drop, List.length_take]; rfl)) ?_; (with_reducible refine (escape_Unescape.calls t140 t141 t142 t143 _ ?side1 A9.out).mono ?_); (case side1 => first | exact HGL.out | exact (Go.Proofs.YtpanmmpkdbhofaaDoorX.GL.below HGL.out (by repeat (first | (with_reducible first | exact HB.out | apply below_alloc | apply pw_below_drewN | apply below_drew1) | exact HB.out))) | (repeat (first | exact HGL.out | (with_reducible refine Go.Proofs.YtpanmmpkdbhofaaDoorX.GL.drewN ?_ _) | (with_reducible refine Go.Proofs.YtpanmmpkdbhofaaDoorX.GL.drew ?_)))); rintro e w12 ⟨rfl, hb⟩; refine ⟨_, rfl, ?_⟩; have n0_ := Aside0.mk (below_step (by repeat (first | (with_reducible first | exact HB.out | apply below_alloc | apply pw_below_drewN | apply below_drew1) | exact HB.out)) hb); clear HB; have HB := n0_; clear n0_; (try clear hb); (try clear hb2); (try clear hk); (try clear hi)))
        (try simp only [Act.put, List.setIfInBounds_toArray, List.set_cons_zero, List.set_cons_succ])
        go_cut [49] (fun v49 wc => ∃ (kq : Nat) (x49_9 : Bool), v49 = .bool x49_9 ∧ Aside0 (tendrillaw03_EscapeBack.j1 kq a0 a1 t140 x49_9 = some r) ∧ Aside0 (kq ≤ kj2) ∧ Aside0 (Below w.heap.size w wc))
        case first =>
          have H := HC10.out
          clear HC10
          replace H := Option.bind_eq_some_iff.mp H
          obtain ⟨t144, A130, H⟩ := H
          replace H : (if t140.toList = t144.toList then ((escape_Length.f kj2 a0).bind fun t145 => (if t145 = (t140.size : Int) then (if t141.toList = a0.toList then (if t142 = 0 then (tendrillaw03_EscapeBack.j1 kj2 a0 a1 t140 (t143 != 0)) else (tendrillaw03_EscapeBack.j1 kj2 a0 a1 t140 true)) else (tendrillaw03_EscapeBack.j1 kj2 a0 a1 t140 true)) else (tendrillaw03_EscapeBack.j1 kj2 a0 a1 t140 true))) else (tendrillaw03_EscapeBack.j1 kj2 a0 a1 t140 true)) = some r := H
          have A13 := Aside0.mk A130
          clear A130
          by_cases c14 : t140.toList = t144.toList
          · rw [if_pos c14] at H
            have c14b0 : (t140.toList == t144.toList) = true := beq_iff_eq.mpr c14
            have c14b1 : (t140.toList != t144.toList) = false := bne_eq_false_iff_eq.mpr c14
            clear c14
            (first | rw [c14b0] | (simp only [i64_w, i32_w]; rw [c14b0]) | skip)
            replace H := Option.bind_eq_some_iff.mp H
            obtain ⟨t145, A150, H⟩ := H
            replace H : (if t145 = (t140.size : Int) then (if t141.toList = a0.toList then (if t142 = 0 then (tendrillaw03_EscapeBack.j1 kj2 a0 a1 t140 (t143 != 0)) else (tendrillaw03_EscapeBack.j1 kj2 a0 a1 t140 true)) else (tendrillaw03_EscapeBack.j1 kj2 a0 a1 t140 true)) else (tendrillaw03_EscapeBack.j1 kj2 a0 a1 t140 true)) = some r := H
            have A15 := Aside0.mk A150
            clear A150
            by_cases c16 : t145 = (t140.size : Int)
            · rw [if_pos c16] at H
              have c16b0 : (t145 == (t140.size : Int)) = true := beq_iff_eq.mpr c16
              have c16b1 : (t145 != (t140.size : Int)) = false := bne_eq_false_iff_eq.mpr c16
              clear c16
              by_cases c17 : t141.toList = a0.toList
              · rw [if_pos c17] at H
                have c17b0 : (t141.toList == a0.toList) = true := beq_iff_eq.mpr c17
                have c17b1 : (t141.toList != a0.toList) = false := bne_eq_false_iff_eq.mpr c17
                clear c17
                by_cases c18 : t142 = 0
                · rw [if_pos c18] at H
                  have c18b0 : (t142 == 0) = true := beq_iff_eq.mpr c18
                  have c18b1 : (t142 != 0) = false := bne_eq_false_iff_eq.mpr c18
                  clear c18
                  have H' := Aside0.mk H
                  clear H
                  go_wp2_with (first | ((with_reducible refine gate_callee (f := 35) rfl ?_); refine goesL_ (some 28) rfl rfl Tryd.func35 (by kernel_rfl) rfl #[.string a0] rfl (by (try simp only [List.map_toArray, List.map_cons, List.map_nil]); first | done | rfl | (simp only [List.length_drop, List.length_take]; rfl)) ?_; (with_reducible refine (tendrilref03_Escape.calls kj2 a0 t144 _ ?side1 A13.out).mono ?_); (case side1 => first | exact HGL.out | exact (Go.Proofs.YtpanmmpkdbhofaaDoorX.GL.below HGL.out (by repeat (first | (with_reducible first | exact HB.out | apply below_alloc | apply pw_below_drewN | apply below_drew1) | exact HB.out))) | (repeat (first | exact HGL.out | (with_reducible refine Go.Proofs.YtpanmmpkdbhofaaDoorX.GL.drewN ?_ _) | (with_reducible refine Go.Proofs.YtpanmmpkdbhofaaDoorX.GL.drew ?_)))); rintro e w19 ⟨rfl, hb⟩; refine ⟨_, rfl, ?_⟩; have n0_ := Aside0.mk (below_step (by repeat (first | (with_reducible first | exact HB.out | apply below_alloc | apply pw_below_drewN | apply below_drew1) | exact HB.out)) hb); clear HB; have HB := n0_; clear n0_; (try clear hb); (try clear hb2); (try clear hk); (try clear hi)) | (go_at_call 36; (with_reducible refine (escape_Length.calls kj2 a0 t145 _ ?side1 A15.out).mono ?_); (case side1 => first | exact HGL.out | exact (Go.Proofs.YtpanmmpkdbhofaaDoorX.GL.below HGL.out (by repeat (first | (with_reducible first | exact HB.out | apply below_alloc | apply pw_below_drewN | apply below_drew1) | exact HB.out))) | (repeat (first | exact HGL.out | (with_reducible refine Go.Proofs.YtpanmmpkdbhofaaDoorX.GL.drewN ?_ _) | (with_reducible refine Go.Proofs.YtpanmmpkdbhofaaDoorX.GL.drew ?_)))); rintro e w20 ⟨rfl, hb⟩; have n0_ := Aside0.mk (below_step (by repeat (first | (with_reducible first | exact HB.out | apply below_alloc | apply pw_below_drewN | apply below_drew1) | exact HB.out)) hb); clear HB; have HB := n0_; clear n0_; (try clear hb); (try clear hb2); (try clear hk); (try clear hi)))
                  go_meet
                  case rel => exact ⟨_, ((t143 != 0)), (by first | rfl | (simp; done) | (simp [*]; done)), H', ⟨by have := HJ2.out; first | omega | exact Nat.le_refl _⟩, ⟨by repeat (first | (with_reducible first | exact HB.out | apply below_alloc | apply pw_below_drewN | apply below_drew1) | exact HB.out)⟩⟩
                · rw [if_neg c18] at H
                  have c18b0 : (t142 == 0) = false := beq_eq_false_iff_ne.mpr c18
                  have c18b1 : (t142 != 0) = true := bne_iff_ne.mpr c18
                  have H' := Aside0.mk H
                  clear H
                  go_wp2_with (first | ((with_reducible refine gate_callee (f := 35) rfl ?_); refine goesL_ (some 28) rfl rfl Tryd.func35 (by kernel_rfl) rfl #[.string a0] rfl (by (try simp only [List.map_toArray, List.map_cons, List.map_nil]); first | done | rfl | (simp only [List.length_drop, List.length_take]; rfl)) ?_; (with_reducible refine (tendrilref03_Escape.calls kj2 a0 t144 _ ?side1 A13.out).mono ?_); (case side1 => first | exact HGL.out | exact (Go.Proofs.YtpanmmpkdbhofaaDoorX.GL.below HGL.out (by repeat (first | (with_reducible first | exact HB.out | apply below_alloc | apply pw_below_drewN | apply below_drew1) | exact HB.out))) | (repeat (first | exact HGL.out | (with_reducible refine Go.Proofs.YtpanmmpkdbhofaaDoorX.GL.drewN ?_ _) | (with_reducible refine Go.Proofs.YtpanmmpkdbhofaaDoorX.GL.drew ?_)))); rintro e w21 ⟨rfl, hb⟩; refine ⟨_, rfl, ?_⟩; have n0_ := Aside0.mk (below_step (by repeat (first | (with_reducible first | exact HB.out | apply below_alloc | apply pw_below_drewN | apply below_drew1) | exact HB.out)) hb); clear HB; have HB := n0_; clear n0_; (try clear hb); (try clear hb2); (try clear hk); (try clear hi)) | (go_at_call 36; (with_reducible refine (escape_Length.calls kj2 a0 t145 _ ?side1 A15.out).mono ?_); (case side1 => first | exact HGL.out | exact (Go.Proofs.YtpanmmpkdbhofaaDoorX.GL.below HGL.out (by repeat (first | (with_reducible first | exact HB.out | apply below_alloc | apply pw_below_drewN | apply below_drew1) | exact HB.out))) | (repeat (first | exact HGL.out | (with_reducible refine Go.Proofs.YtpanmmpkdbhofaaDoorX.GL.drewN ?_ _) | (with_reducible refine Go.Proofs.YtpanmmpkdbhofaaDoorX.GL.drew ?_)))); rintro e w22 ⟨rfl, hb⟩; have n0_ := Aside0.mk (below_step (by repeat (first | (with_reducible first | exact HB.out | apply below_alloc | apply pw_below_drewN | apply below_drew1) | exact HB.out)) hb); clear HB; have HB := n0_; clear n0_; (try clear hb); (try clear hb2); (try clear hk); (try clear hi)))
                  go_meet
                  case rel => exact ⟨_, (true), (by first | rfl | (simp; done) | (simp [*]; done)), H', ⟨by have := HJ2.out; first | omega | exact Nat.le_refl _⟩, ⟨by repeat (first | (with_reducible first | exact HB.out | apply below_alloc | apply pw_below_drewN | apply below_drew1) | exact HB.out)⟩⟩
              · rw [if_neg c17] at H
                have c17b0 : (t141.toList == a0.toList) = false := beq_eq_false_iff_ne.mpr c17
                have c17b1 : (t141.toList != a0.toList) = true := bne_iff_ne.mpr c17
                have H' := Aside0.mk H
                clear H
                go_wp2_with (first | ((with_reducible refine gate_callee (f := 35) rfl ?_); refine goesL_ (some 28) rfl rfl Tryd.func35 (by kernel_rfl) rfl #[.string a0] rfl (by (try simp only [List.map_toArray, List.map_cons, List.map_nil]); first | done | rfl | (simp only [List.length_drop, List.length_take]; rfl)) ?_; (with_reducible refine (tendrilref03_Escape.calls kj2 a0 t144 _ ?side1 A13.out).mono ?_); (case side1 => first | exact HGL.out | exact (Go.Proofs.YtpanmmpkdbhofaaDoorX.GL.below HGL.out (by repeat (first | (with_reducible first | exact HB.out | apply below_alloc | apply pw_below_drewN | apply below_drew1) | exact HB.out))) | (repeat (first | exact HGL.out | (with_reducible refine Go.Proofs.YtpanmmpkdbhofaaDoorX.GL.drewN ?_ _) | (with_reducible refine Go.Proofs.YtpanmmpkdbhofaaDoorX.GL.drew ?_)))); rintro e w23 ⟨rfl, hb⟩; refine ⟨_, rfl, ?_⟩; have n0_ := Aside0.mk (below_step (by repeat (first | (with_reducible first | exact HB.out | apply below_alloc | apply pw_below_drewN | apply below_drew1) | exact HB.out)) hb); clear HB; have HB := n0_; clear n0_; (try clear hb); (try clear hb2); (try clear hk); (try clear hi)) | (go_at_call 36; (with_reducible refine (escape_Length.calls kj2 a0 t145 _ ?side1 A15.out).mono ?_); (case side1 => first | exact HGL.out | exact (Go.Proofs.YtpanmmpkdbhofaaDoorX.GL.below HGL.out (by repeat (first | (with_reducible first | exact HB.out | apply below_alloc | apply pw_below_drewN | apply below_drew1) | exact HB.out))) | (repeat (first | exact HGL.out | (with_reducible refine Go.Proofs.YtpanmmpkdbhofaaDoorX.GL.drewN ?_ _) | (with_reducible refine Go.Proofs.YtpanmmpkdbhofaaDoorX.GL.drew ?_)))); rintro e w24 ⟨rfl, hb⟩; have n0_ := Aside0.mk (below_step (by repeat (first | (with_reducible first | exact HB.out | apply below_alloc | apply pw_below_drewN | apply below_drew1) | exact HB.out)) hb); clear HB; have HB := n0_; clear n0_; (try clear hb); (try clear hb2); (try clear hk); (try clear hi)))
                go_meet
                case rel => exact ⟨_, (true), (by first | rfl | (simp; done) | (simp [*]; done)), H', ⟨by have := HJ2.out; first | omega | exact Nat.le_refl _⟩, ⟨by repeat (first | (with_reducible first | exact HB.out | apply below_alloc | apply pw_below_drewN | apply below_drew1) | exact HB.out)⟩⟩
            · rw [if_neg c16] at H
              have c16b0 : (t145 == (t140.size : Int)) = false := beq_eq_false_iff_ne.mpr c16
              have c16b1 : (t145 != (t140.size : Int)) = true := bne_iff_ne.mpr c16
              have H' := Aside0.mk H
              clear H
              go_wp2_with (first | ((with_reducible refine gate_callee (f := 35) rfl ?_); refine goesL_ (some 28) rfl rfl Tryd.func35 (by kernel_rfl) rfl #[.string a0] rfl (by (try simp only [List.map_toArray, List.map_cons, List.map_nil]); first | done | rfl | (simp only [List.length_drop, List.length_take]; rfl)) ?_; (with_reducible refine (tendrilref03_Escape.calls kj2 a0 t144 _ ?side1 A13.out).mono ?_); (case side1 => first | exact HGL.out | exact (Go.Proofs.YtpanmmpkdbhofaaDoorX.GL.below HGL.out (by repeat (first | (with_reducible first | exact HB.out | apply below_alloc | apply pw_below_drewN | apply below_drew1) | exact HB.out))) | (repeat (first | exact HGL.out | (with_reducible refine Go.Proofs.YtpanmmpkdbhofaaDoorX.GL.drewN ?_ _) | (with_reducible refine Go.Proofs.YtpanmmpkdbhofaaDoorX.GL.drew ?_)))); rintro e w25 ⟨rfl, hb⟩; refine ⟨_, rfl, ?_⟩; have n0_ := Aside0.mk (below_step (by repeat (first | (with_reducible first | exact HB.out | apply below_alloc | apply pw_below_drewN | apply below_drew1) | exact HB.out)) hb); clear HB; have HB := n0_; clear n0_; (try clear hb); (try clear hb2); (try clear hk); (try clear hi)) | (go_at_call 36; (with_reducible refine (escape_Length.calls kj2 a0 t145 _ ?side1 A15.out).mono ?_); (case side1 => first | exact HGL.out | exact (Go.Proofs.YtpanmmpkdbhofaaDoorX.GL.below HGL.out (by repeat (first | (with_reducible first | exact HB.out | apply below_alloc | apply pw_below_drewN | apply below_drew1) | exact HB.out))) | (repeat (first | exact HGL.out | (with_reducible refine Go.Proofs.YtpanmmpkdbhofaaDoorX.GL.drewN ?_ _) | (with_reducible refine Go.Proofs.YtpanmmpkdbhofaaDoorX.GL.drew ?_)))); rintro e w26 ⟨rfl, hb⟩; have n0_ := Aside0.mk (below_step (by repeat (first | (with_reducible first | exact HB.out | apply below_alloc | apply pw_below_drewN | apply below_drew1) | exact HB.out)) hb); clear HB; have HB := n0_; clear n0_; (try clear hb); (try clear hb2); (try clear hk); (try clear hi)))
              go_meet
              case rel => exact ⟨_, (true), (by first | rfl | (simp; done) | (simp [*]; done)), H', ⟨by have := HJ2.out; first | omega | exact Nat.le_refl _⟩, ⟨by repeat (first | (with_reducible first | exact HB.out | apply below_alloc | apply pw_below_drewN | apply below_drew1) | exact HB.out)⟩⟩
          · rw [if_neg c14] at H
            have c14b0 : (t140.toList == t144.toList) = false := beq_eq_false_iff_ne.mpr c14
            have c14b1 : (t140.toList != t144.toList) = true := bne_iff_ne.mpr c14
            (first | rw [c14b0] | (simp only [i64_w, i32_w]; rw [c14b0]) | skip)
            have H' := Aside0.mk H
            clear H
            go_wp2_with (first | ((with_reducible refine gate_callee (f := 35) rfl ?_); refine goesL_ (some 28) rfl rfl Tryd.func35 (by kernel_rfl) rfl #[.string a0] rfl (by (try simp only [List.map_toArray, List.map_cons, List.map_nil]); first | done | rfl | (simp only [List.length_drop, List.length_take]; rfl)) ?_; (with_reducible refine (tendrilref03_Escape.calls kj2 a0 t144 _ ?side1 A13.out).mono ?_); (case side1 => first | exact HGL.out | exact (Go.Proofs.YtpanmmpkdbhofaaDoorX.GL.below HGL.out (by repeat (first | (with_reducible first | exact HB.out | apply below_alloc | apply pw_below_drewN | apply below_drew1) | exact HB.out))) | (repeat (first | exact HGL.out | (with_reducible refine Go.Proofs.YtpanmmpkdbhofaaDoorX.GL.drewN ?_ _) | (with_reducible refine Go.Proofs.YtpanmmpkdbhofaaDoorX.GL.drew ?_)))); rintro e w27 ⟨rfl, hb⟩; refine ⟨_, rfl, ?_⟩; have n0_ := Aside0.mk (below_step (by repeat (first | (with_reducible first | exact HB.out | apply below_alloc | apply pw_below_drewN | apply below_drew1) | exact HB.out)) hb); clear HB; have HB := n0_; clear n0_; (try clear hb); (try clear hb2); (try clear hk); (try clear hi)))
            go_meet
            case rel => exact ⟨_, (true), (by first | rfl | (simp; done) | (simp [*]; done)), H', ⟨by have := HJ2.out; first | omega | exact Nat.le_refl _⟩, ⟨by repeat (first | (with_reducible first | exact HB.out | apply below_alloc | apply pw_below_drewN | apply below_drew1) | exact HB.out)⟩⟩
        case rest =>
          clear HC10
          try clear c1
          try clear c2
          try clear p2
          try clear c3
          try clear c4
          try clear c4b0
          try clear c4b1
          try clear c5
          try clear c9
          try clear c14
          try clear c14b0
          try clear c14b1
          try clear c16
          try clear c16b0
          try clear c16b1
          try clear c17
          try clear c17b0
          try clear c17b1
          try clear c18
          try clear c18b0
          try clear c18b1
          try clear p2
          obtain ⟨kq, x49_9, rfl, HA, HJ9, HB⟩ := hcut
          cases kq with
          | zero => exact absurd HA.out (by simp [tendrillaw03_EscapeBack.j1])
          | succ kj9 =>
            have H := HA.out
            clear HA
            simp only [tendrillaw03_EscapeBack.j1] at H
            by_cases c28 : x49_9 = true
            · subst c28
              have H1 : (some false) = some r := by rw [if_pos rfl] at H; exact H
              clear H
              have H := H1
              clear H1
              obtain rfl := Option.some.inj H
              go_wp2
              go_ret
              exact ⟨by first | rfl | (simp [errW_none, errW_some] <;> rfl) | (simp [*, errW_none, errW_some] <;> rfl), by repeat (first | (with_reducible first | exact HB.out | apply below_alloc | apply pw_below_drewN | apply below_drew1) | exact HB.out)⟩
            · replace c28 := Bool.eq_false_iff.mpr c28
              subst c28
              have H1 : (if a0.size + a1.size ≤ 9223372036854775807 then ((escape_Escape.f (a0 ++ a1)).bind fun t146 => ((escape_Escape.f a1).bind fun t147 => (if t140.size + t147.size ≤ 9223372036854775807 then (if t146.toList = (t140 ++ t147).toList then ((escape_Span.f kj9 t140 0).bind fun t148 => (if t148 = (t140.size : Int) then ((tendrillaw03_same.f).bind fun t149 => (some t149)) else (some false))) else (some false)) else (none)))) else (none)) = some r := by rw [if_neg (show ¬ (false = true) by decide)] at H; exact H
              clear H
              have H := H1
              clear H1
              by_cases c29 : a0.size + a1.size ≤ 9223372036854775807
              · rw [if_pos c29] at H
                have c29b0 := eq_true c29
                have c29b1 : decide (a0.size + a1.size ≤ 9223372036854775807) = true := decide_eq_true c29
                try have c29b2 : (9223372036854775807 < a0.size + a1.size) = False := eq_false (Nat.not_lt.2 c29)
                replace H := Option.bind_eq_some_iff.mp H
                obtain ⟨t146, A300, H⟩ := H
                replace H : ((escape_Escape.f a1).bind fun t147 => (if t140.size + t147.size ≤ 9223372036854775807 then (if t146.toList = (t140 ++ t147).toList then ((escape_Span.f kj9 t140 0).bind fun t148 => (if t148 = (t140.size : Int) then ((tendrillaw03_same.f).bind fun t149 => (some t149)) else (some false))) else (some false)) else (none))) = some r := H
                have A30 := Aside0.mk A300
                clear A300
                replace H := Option.bind_eq_some_iff.mp H
                obtain ⟨t147, A310, H⟩ := H
                replace H : (if t140.size + t147.size ≤ 9223372036854775807 then (if t146.toList = (t140 ++ t147).toList then ((escape_Span.f kj9 t140 0).bind fun t148 => (if t148 = (t140.size : Int) then ((tendrillaw03_same.f).bind fun t149 => (some t149)) else (some false))) else (some false)) else (none)) = some r := H
                have A31 := Aside0.mk A310
                clear A310
                by_cases c32 : t140.size + t147.size ≤ 9223372036854775807
                · rw [if_pos c32] at H
                  have c32b0 := eq_true c32
                  have c32b1 : decide (t140.size + t147.size ≤ 9223372036854775807) = true := decide_eq_true c32
                  try have c32b2 : (9223372036854775807 < t140.size + t147.size) = False := eq_false (Nat.not_lt.2 c32)
                  by_cases c33 : t146.toList = (t140 ++ t147).toList
                  · rw [if_pos c33] at H
                    have c33b0 : (t146.toList == (t140 ++ t147).toList) = true := beq_iff_eq.mpr c33
                    have c33b1 : (t146.toList != (t140 ++ t147).toList) = false := bne_eq_false_iff_eq.mpr c33
                    clear c33
                    replace H := Option.bind_eq_some_iff.mp H
                    obtain ⟨t148, A340, H⟩ := H
                    replace H : (if t148 = (t140.size : Int) then ((tendrillaw03_same.f).bind fun t149 => (some t149)) else (some false)) = some r := H
                    have A34 := Aside0.mk A340
                    clear A340
                    by_cases c35 : t148 = (t140.size : Int)
                    · rw [if_pos c35] at H
                      have c35b0 : (t148 == (t140.size : Int)) = true := beq_iff_eq.mpr c35
                      have c35b1 : (t148 != (t140.size : Int)) = false := bne_eq_false_iff_eq.mpr c35
                      clear c35
                      replace H := Option.bind_eq_some_iff.mp H
                      obtain ⟨t149, A360, H⟩ := H
                      replace H : (some t149) = some r := H
                      have A36 := Aside0.mk A360
                      clear A360
                      obtain rfl := Option.some.inj H
                      go_wp2_with (first | ((with_reducible refine gate_callee (f := 31) rfl ?_); refine goesL_ (some 53) rfl rfl Tryd.func31 (by kernel_rfl) rfl #[.string (a0 ++ a1)] rfl (by (try simp only [List.map_toArray, List.map_cons, List.map_nil]); first | done | rfl | (simp only [List.length_drop, List.length_take]; rfl)) ?_; (with_reducible refine (escape_Escape.calls (a0 ++ a1) t146 _ ?side1 A30.out).mono ?_); (case side1 => first | exact HGL.out | exact (Go.Proofs.YtpanmmpkdbhofaaDoorX.GL.below HGL.out (by repeat (first | (with_reducible first | exact HB.out | apply below_alloc | apply pw_below_drewN | apply below_drew1) | exact HB.out))) | (repeat (first | exact HGL.out | (with_reducible refine Go.Proofs.YtpanmmpkdbhofaaDoorX.GL.drewN ?_ _) | (with_reducible refine Go.Proofs.YtpanmmpkdbhofaaDoorX.GL.drew ?_)))); rintro e w37 ⟨rfl, hb⟩; refine ⟨_, rfl, ?_⟩; have n0_ := Aside0.mk (below_step (by repeat (first | (with_reducible first | exact HB.out | apply below_alloc | apply pw_below_drewN | apply below_drew1) | exact HB.out)) hb); clear HB; have HB := n0_; clear n0_; (try clear hb); (try clear hb2); (try clear hk); (try clear hi)) | ((with_reducible refine gate_callee (f := 31) rfl ?_); refine goesL_ (some 56) rfl rfl Tryd.func31 (by kernel_rfl) rfl #[.string a1] rfl (by (try simp only [List.map_toArray, List.map_cons, List.map_nil]); first | done | rfl | (simp only [List.length_drop, List.length_take]; rfl)) ?_; (with_reducible refine (escape_Escape.calls a1 t147 _ ?side1 A31.out).mono ?_); (case side1 => first | exact HGL.out | exact (Go.Proofs.YtpanmmpkdbhofaaDoorX.GL.below HGL.out (by repeat (first | (with_reducible first | exact HB.out | apply below_alloc | apply pw_below_drewN | apply below_drew1) | exact HB.out))) | (repeat (first | exact HGL.out | (with_reducible refine Go.Proofs.YtpanmmpkdbhofaaDoorX.GL.drewN ?_ _) | (with_reducible refine Go.Proofs.YtpanmmpkdbhofaaDoorX.GL.drew ?_)))); rintro e w38 ⟨rfl, hb⟩; refine ⟨_, rfl, ?_⟩; have n0_ := Aside0.mk (below_step (by repeat (first | (with_reducible first | exact HB.out | apply below_alloc | apply pw_below_drewN | apply below_drew1) | exact HB.out)) hb); clear HB; have HB := n0_; clear n0_; (try clear hb); (try clear hb2); (try clear hk); (try clear hi)) | (go_at_call 33; (with_reducible refine (escape_Span.calls kj9 t140 0 t148 _ ?side1 A34.out).mono ?_); (case side1 => first | exact HGL.out | exact (Go.Proofs.YtpanmmpkdbhofaaDoorX.GL.below HGL.out (by repeat (first | (with_reducible first | exact HB.out | apply below_alloc | apply pw_below_drewN | apply below_drew1) | exact HB.out))) | (repeat (first | exact HGL.out | (with_reducible refine Go.Proofs.YtpanmmpkdbhofaaDoorX.GL.drewN ?_ _) | (with_reducible refine Go.Proofs.YtpanmmpkdbhofaaDoorX.GL.drew ?_)))); rintro e w39 ⟨rfl, hb⟩; have n0_ := Aside0.mk (below_step (by repeat (first | (with_reducible first | exact HB.out | apply below_alloc | apply pw_below_drewN | apply below_drew1) | exact HB.out)) hb); clear HB; have HB := n0_; clear n0_; (try clear hb); (try clear hb2); (try clear hk); (try clear hi)) | (go_at_call 29; (with_reducible refine (tendrillaw03_same.calls  t149 _ ?side1 A36.out).mono ?_); (case side1 => first | exact HGL.out | exact (Go.Proofs.YtpanmmpkdbhofaaDoorX.GL.below HGL.out (by repeat (first | (with_reducible first | exact HB.out | apply below_alloc | apply pw_below_drewN | apply below_drew1) | exact HB.out))) | (repeat (first | exact HGL.out | (with_reducible refine Go.Proofs.YtpanmmpkdbhofaaDoorX.GL.drewN ?_ _) | (with_reducible refine Go.Proofs.YtpanmmpkdbhofaaDoorX.GL.drew ?_)))); rintro e w40 ⟨rfl, hb⟩; have n0_ := Aside0.mk (below_step (by repeat (first | (with_reducible first | exact HB.out | apply below_alloc | apply pw_below_drewN | apply below_drew1) | exact HB.out)) hb); clear HB; have HB := n0_; clear n0_; (try clear hb); (try clear hb2); (try clear hk); (try clear hi)))
                      go_ret
                      exact ⟨by first | rfl | (simp [errW_none, errW_some] <;> rfl) | (simp [*, errW_none, errW_some] <;> rfl), by repeat (first | (with_reducible first | exact HB.out | apply below_alloc | apply pw_below_drewN | apply below_drew1) | exact HB.out)⟩
                    · rw [if_neg c35] at H
                      have c35b0 : (t148 == (t140.size : Int)) = false := beq_eq_false_iff_ne.mpr c35
                      have c35b1 : (t148 != (t140.size : Int)) = true := bne_iff_ne.mpr c35
                      obtain rfl := Option.some.inj H
                      go_wp2_with (first | ((with_reducible refine gate_callee (f := 31) rfl ?_); refine goesL_ (some 53) rfl rfl Tryd.func31 (by kernel_rfl) rfl #[.string (a0 ++ a1)] rfl (by (try simp only [List.map_toArray, List.map_cons, List.map_nil]); first | done | rfl | (simp only [List.length_drop, List.length_take]; rfl)) ?_; (with_reducible refine (escape_Escape.calls (a0 ++ a1) t146 _ ?side1 A30.out).mono ?_); (case side1 => first | exact HGL.out | exact (Go.Proofs.YtpanmmpkdbhofaaDoorX.GL.below HGL.out (by repeat (first | (with_reducible first | exact HB.out | apply below_alloc | apply pw_below_drewN | apply below_drew1) | exact HB.out))) | (repeat (first | exact HGL.out | (with_reducible refine Go.Proofs.YtpanmmpkdbhofaaDoorX.GL.drewN ?_ _) | (with_reducible refine Go.Proofs.YtpanmmpkdbhofaaDoorX.GL.drew ?_)))); rintro e w41 ⟨rfl, hb⟩; refine ⟨_, rfl, ?_⟩; have n0_ := Aside0.mk (below_step (by repeat (first | (with_reducible first | exact HB.out | apply below_alloc | apply pw_below_drewN | apply below_drew1) | exact HB.out)) hb); clear HB; have HB := n0_; clear n0_; (try clear hb); (try clear hb2); (try clear hk); (try clear hi)) | ((with_reducible refine gate_callee (f := 31) rfl ?_); refine goesL_ (some 56) rfl rfl Tryd.func31 (by kernel_rfl) rfl #[.string a1] rfl (by (try simp only [List.map_toArray, List.map_cons, List.map_nil]); first | done | rfl | (simp only [List.length_drop, List.length_take]; rfl)) ?_; (with_reducible refine (escape_Escape.calls a1 t147 _ ?side1 A31.out).mono ?_); (case side1 => first | exact HGL.out | exact (Go.Proofs.YtpanmmpkdbhofaaDoorX.GL.below HGL.out (by repeat (first | (with_reducible first | exact HB.out | apply below_alloc | apply pw_below_drewN | apply below_drew1) | exact HB.out))) | (repeat (first | exact HGL.out | (with_reducible refine Go.Proofs.YtpanmmpkdbhofaaDoorX.GL.drewN ?_ _) | (with_reducible refine Go.Proofs.YtpanmmpkdbhofaaDoorX.GL.drew ?_)))); rintro e w42 ⟨rfl, hb⟩; refine ⟨_, rfl, ?_⟩; have n0_ := Aside0.mk (below_step (by repeat (first | (with_reducible first | exact HB.out | apply below_alloc | apply pw_below_drewN | apply below_drew1) | exact HB.out)) hb); clear HB; have HB := n0_; clear n0_; (try clear hb); (try clear hb2); (try clear hk); (try clear hi)) | (go_at_call 33; (with_reducible refine (escape_Span.calls kj9 t140 0 t148 _ ?side1 A34.out).mono ?_); (case side1 => first | exact HGL.out | exact (Go.Proofs.YtpanmmpkdbhofaaDoorX.GL.below HGL.out (by repeat (first | (with_reducible first | exact HB.out | apply below_alloc | apply pw_below_drewN | apply below_drew1) | exact HB.out))) | (repeat (first | exact HGL.out | (with_reducible refine Go.Proofs.YtpanmmpkdbhofaaDoorX.GL.drewN ?_ _) | (with_reducible refine Go.Proofs.YtpanmmpkdbhofaaDoorX.GL.drew ?_)))); rintro e w43 ⟨rfl, hb⟩; have n0_ := Aside0.mk (below_step (by repeat (first | (with_reducible first | exact HB.out | apply below_alloc | apply pw_below_drewN | apply below_drew1) | exact HB.out)) hb); clear HB; have HB := n0_; clear n0_; (try clear hb); (try clear hb2); (try clear hk); (try clear hi)))
                      go_ret
                      exact ⟨by first | rfl | (simp [errW_none, errW_some] <;> rfl) | (simp [*, errW_none, errW_some] <;> rfl), by repeat (first | (with_reducible first | exact HB.out | apply below_alloc | apply pw_below_drewN | apply below_drew1) | exact HB.out)⟩
                  · rw [if_neg c33] at H
                    have c33b0 : (t146.toList == (t140 ++ t147).toList) = false := beq_eq_false_iff_ne.mpr c33
                    have c33b1 : (t146.toList != (t140 ++ t147).toList) = true := bne_iff_ne.mpr c33
                    obtain rfl := Option.some.inj H
                    go_wp2_with (first | ((with_reducible refine gate_callee (f := 31) rfl ?_); refine goesL_ (some 53) rfl rfl Tryd.func31 (by kernel_rfl) rfl #[.string (a0 ++ a1)] rfl (by (try simp only [List.map_toArray, List.map_cons, List.map_nil]); first | done | rfl | (simp only [List.length_drop, List.length_take]; rfl)) ?_; (with_reducible refine (escape_Escape.calls (a0 ++ a1) t146 _ ?side1 A30.out).mono ?_); (case side1 => first | exact HGL.out | exact (Go.Proofs.YtpanmmpkdbhofaaDoorX.GL.below HGL.out (by repeat (first | (with_reducible first | exact HB.out | apply below_alloc | apply pw_below_drewN | apply below_drew1) | exact HB.out))) | (repeat (first | exact HGL.out | (with_reducible refine Go.Proofs.YtpanmmpkdbhofaaDoorX.GL.drewN ?_ _) | (with_reducible refine Go.Proofs.YtpanmmpkdbhofaaDoorX.GL.drew ?_)))); rintro e w44 ⟨rfl, hb⟩; refine ⟨_, rfl, ?_⟩; have n0_ := Aside0.mk (below_step (by repeat (first | (with_reducible first | exact HB.out | apply below_alloc | apply pw_below_drewN | apply below_drew1) | exact HB.out)) hb); clear HB; have HB := n0_; clear n0_; (try clear hb); (try clear hb2); (try clear hk); (try clear hi)) | ((with_reducible refine gate_callee (f := 31) rfl ?_); refine goesL_ (some 56) rfl rfl Tryd.func31 (by kernel_rfl) rfl #[.string a1] rfl (by (try simp only [List.map_toArray, List.map_cons, List.map_nil]); first | done | rfl | (simp only [List.length_drop, List.length_take]; rfl)) ?_; (with_reducible refine (escape_Escape.calls a1 t147 _ ?side1 A31.out).mono ?_); (case side1 => first | exact HGL.out | exact (Go.Proofs.YtpanmmpkdbhofaaDoorX.GL.below HGL.out (by repeat (first | (with_reducible first | exact HB.out | apply below_alloc | apply pw_below_drewN | apply below_drew1) | exact HB.out))) | (repeat (first | exact HGL.out | (with_reducible refine Go.Proofs.YtpanmmpkdbhofaaDoorX.GL.drewN ?_ _) | (with_reducible refine Go.Proofs.YtpanmmpkdbhofaaDoorX.GL.drew ?_)))); rintro e w45 ⟨rfl, hb⟩; refine ⟨_, rfl, ?_⟩; have n0_ := Aside0.mk (below_step (by repeat (first | (with_reducible first | exact HB.out | apply below_alloc | apply pw_below_drewN | apply below_drew1) | exact HB.out)) hb); clear HB; have HB := n0_; clear n0_; (try clear hb); (try clear hb2); (try clear hk); (try clear hi)))
                    go_ret
                    exact ⟨by first | rfl | (simp [errW_none, errW_some] <;> rfl) | (simp [*, errW_none, errW_some] <;> rfl), by repeat (first | (with_reducible first | exact HB.out | apply below_alloc | apply pw_below_drewN | apply below_drew1) | exact HB.out)⟩
                · rw [if_neg c32] at H
                  exact absurd H (by simp)
              · rw [if_neg c29] at H
                exact absurd H (by simp)

/-- THE ONE PURE STATEMENT of tendrillaw03_EscapeBack: yours. -/
def tendrillaw03_EscapeBack.Pure : Prop := ∀ (a0 : ByteArray) (a1 : ByteArray), a0.size ≤ 140737488351232 → a1.size ≤ 140737488351232 → ∃ k, tendrillaw03_EscapeBack.f k a0 a1 = some true
theorem tendrillaw03_EscapeBack.walk (P : tendrillaw03_EscapeBack.Pure) (a0 : ByteArray) (a1 : ByteArray) (w : World) (hgl : Go.Proofs.YtpanmmpkdbhofaaDoorX.GL w) (w0 : a0.size ≤ 140737488351232) (w1 : a1.size ≤ 140737488351232) :
    Calls Tryd.prog 9 #[.string a0, .string a1] w fun e w' => e = .returned (.bool true) ∧ Below w.heap.size w w' := by
  obtain ⟨k, h⟩ := P a0 a1 w0 w1
  refine (tendrillaw03_EscapeBack.calls k a0 a1 true w hgl h).mono ?_
  rintro e w' ⟨rfl, hd⟩
  exact ⟨rfl, hd⟩

end Go.Proofs.YtpanmmpkdbhofaaDoor.P03b
