/- Merged by this claim's own program (merge.py) out of the texts EDT5, EDT6, EDT7, EDL1, EDH2, EDL3, EDF1, EOP, EDO, EDC1, EDC2, EDC3, EDN3; the W texts among them began as the kit's print. -/
import Derived.Test.YtidcecpbihmloaaGreatDoorDO4
import Derived.Deep.QuietTactic
import Derived.BigQuiet
import Derived.ChangeArms
import Derived.DataReads
import Derived.SizedLaws
import Derived.Deep.Slices

namespace Go.Proofs.YtidcecpbihmloaaGreatDoorE
open Go Go.RowKit Go.Proofs.YtidcecpbihmloaaGreatDoorW.PrintWords Go.Proofs.YtidcecpbihmloaaGreatDoorW.PrintMore Go.Proofs.YtidcecpbihmloaaGreatDoorW.PrintLast Go.Proofs.YtidcecpbihmloaaGreatDoorX Go.Proofs.YtidcecpbihmloaaGreatDoor.P16 Go.Proofs.YtidcecpbihmloaaGreatDoor.M02
set_option linter.unusedVariables false
set_option linter.unusedSimpArgs false
set_option maxRecDepth 100000
set_option maxHeartbeats 20000000 in
theorem qall_rec (s : ByteArray) (hs : s.size ≤ 1000000000) (a : Nat) (ha : a ≤ s.size) (deep : Nat) (hd : deep < 16) (m : Nat) (hm : 3 * (s.size - a) + 3 ≤ m) (ih : ∀ n, n < m → PieceQ s n) (g : Nat) (w0 w : World) (hgl : GL w0) (hI : IsS61 w0 w g s (a : Int) ((deep + 1 : Nat) : Int) 0) (hB : Below w0.heap.size w0 w) :
  Calls Tryz.prog 56 #[.pointer (some ⟨g, 0, none⟩), .bool true] w (pieceQ w0 w g s ((deep + 1 : Nat) : Int) (allS m s a deep true)) := by
 obtain ⟨R, hR⟩ : ∃ R : Res DT, R = allS m s a deep true := ⟨_, rfl⟩
 rw [← hR]
 have HRA := Aside0.mk hR
 have IH := Aside0.mk ih
 have HG := Aside0.mk hgl
 have hgw : g < w.heap.size := blk_lt hI.1
 have hg0 : w0.heap.size ≤ g := hI.2
 have hww : w0.heap.size ≤ w.heap.size := hB.size
 have HI1 := Aside0.mk ((hI.alloc (.cells zCells 25)).alloc (.cells #[.int .i64 5, .int .i64 0, .string ⟨#[]⟩, .slice none 0 0, .slice none 0 0] 25))
 have HL1 : Aside0 (LR w0 w g ⟨5, 0, em, [], []⟩ (.slice none 0 0) (.slice none 0 0) ((w.alloc (.cells zCells 25)).alloc (.cells #[.int .i64 5, .int .i64 0, .string ⟨#[]⟩, .slice none 0 0, .slice none 0 0] 25))) := ⟨⟨DL.new _ 5 0 em (two_new_ w _ _), below_alloc (below_alloc hB _) _, KeepBut.of_below (below_alloc (below_alloc (Below.refl _ w) _) _) g none, two_old_ w _ _⟩⟩
 have HD1 := Aside0.mk (two_new_ w (.cells zCells 25) (.cells #[.int .i64 4, .int .i64 0, .string ⟨#[]⟩, .slice none 0 0, .slice none 0 0] 25))
 have y1 := Lib.cell_of_heap HD1.out
 have z1 := Lib.frozen_of_heap HD1.out
 clear hR ih hgl hI hB
 go_enter Tryz.func56, Tryz.ntmps56
 go_upto_region 4 with fail
 clear y1 z1 HD1
 generalize hW : (w.alloc (.cells zCells 25)).alloc (.cells #[.int .i64 5, .int .i64 0, .string ⟨#[]⟩, .slice none 0 0, .slice none 0 0] 25) = W1 at HI1 HL1 ⊢
 clear hW
 cases hx : nxt s a (shutB true) with
 | true =>
  have HRt := Aside0.mk (HRA.out.trans (show allS m s a deep true = .ok ⟨5, 0, em, [], []⟩ (a + 1) ((B s).drop (a + 1)) from if_pos hx))
  have HIS : Aside0 (Calls Tryz.prog 79 #[.pointer (some ⟨g, 0, none⟩), .int .u8 125] W1 fun e w' => e = .returned (.bool true) ∧ IsS61 w0 w' g s ((a + 1 : Nat) : Int) ((deep + 1 : Nat) : Int) 0 ∧ Below w0.heap.size w0 w' ∧ KeepBut W1 w' g none) := ⟨datum_reader_is.calls g s _ _ _ 125 _ _ _ _ _ w0 W1 HG.out HI1.out HL1.out.bel (dis_ok s a ((deep + 1 : Nat) : Int) (shutB true) hx (by omega))⟩
  clear hx
  go_wp2_with (go_at_call 79; go_loud (with_reducible refine HIS.out.mono ?_); rintro e w7 ⟨rfl, hi, hb, hk⟩; have HI7 := Aside0.mk hi; have HL7 := Aside0.mk (HL1.out.step hgw hb hk); obtain ⟨p0, p1, p2, p3, p4⟩ := HL7.out.cell; have hy := Lib.cell_of_heap HL7.out.res; have hz := Lib.frozen_of_heap HL7.out.res; clear hi hb hk)
  clear hy hz p0 p1 p2 p3 p4
  refine bodyPost_ret (results_cell_row rfl _ _ w.heap.size 25 _ (0, 0) _ rfl (set_blk (j := 4) (set_blk (j := 3) (set_blk (j := 2) (set_blk (j := 1) (set_blk (j := 0) HL7.out.res _) _) _) _) _) Tryz.underlying25 rfl (by kernel_rfl)) rfl ?_
  refine finQ (x := ⟨5, 0, em, [], []⟩) (ok := fun k => w.heap.size + 1 < k) HL7.out.bel hww HL7.out.keep hgw (k25_mkM _ w.heap.size _ ⟨5, 0, em, [], []⟩ (Kd.R_lower HL7.out.dl.r3 (by omega)) (Kd.R_mono (Kd.R_lower HL7.out.dl.r4 (by omega)) (fun k hk => hk.1))) (fun k hk => by omega) ?_
  rw [HRt.out]
  exact ⟨rfl, HI7.out⟩
 | false =>
  have HRf := Aside0.mk (HRA.out.trans (show allS m s a deep true = membersS m ((B s).drop a) a (deep + 1) true [] [] from if_neg (by rw [hx]; decide)))
  have HIS : Aside0 (Calls Tryz.prog 79 #[.pointer (some ⟨g, 0, none⟩), .int .u8 125] W1 fun e w' => e = .returned (.bool false) ∧ IsS61 w0 w' g s (a : Int) ((deep + 1 : Nat) : Int) 0 ∧ Below w0.heap.size w0 w' ∧ KeepBut W1 w' g none) := ⟨datum_reader_is.calls g s _ _ _ 125 _ _ _ _ _ w0 W1 HG.out HI1.out HL1.out.bel (dis_no s a ((deep + 1 : Nat) : Int) (shutB true) hx)⟩
  clear hx
  go_wp2_with (go_at_call 79; go_loud (with_reducible refine HIS.out.mono ?_); rintro e w3 ⟨rfl, hi, hb, hk⟩; have HI3 := Aside0.mk hi; have HL3 := Aside0.mk (HL1.out.step hgw hb hk); clear hi hb hk)
  go_loopg [] m (fun gk wr => gk ≤ m ∧ Aside0 (QInv w0 w g s deep true R gk wr))
  case atStart => exact ⟨Nat.le_refl _, ⟨_, _, _, HL3.out, rfl, rfl, rfl, a, ha, HI3.out, HRf.out, hm, Nat.zero_le _, Nat.zero_le _⟩⟩
  case round =>
   clear HRA HI1 HL1 HIS HI3 HL3 HRf
   obtain ⟨hgm, HLV⟩ := hrel
   obtain ⟨x, v3, v4, hl, h0, h1, h2, a1, ha1, hi, hRm, hfu, hn3, hn4⟩ := HLV.out
   have HLR := Aside0.mk hl
   have HX := Aside0.mk (And.intro h0 (And.intro h1 h2))
   clear hl h0 h1 h2 HLV
   have HI := Aside0.mk hi
   have HRm := Aside0.mk hRm
   have q3 : wr.cell? ⟨g, 3, none⟩ = some (.int .i64 0) := (blk_cell hi.1 3).trans rfl
   obtain ⟨n, hn⟩ : ∃ n, gk = n + 2 := ⟨gk - 2, by omega⟩
   have HNG := Aside0.mk hn
   have hng : n + 2 ≤ gk := by omega
   have hgn : gk ≤ n + 2 := by omega
   obtain ⟨A3, c3, rfl⟩ := Kd.R_slice HLR.out.dl.r3
   obtain ⟨A4, c4, rfl⟩ := Kd.R_slice HLR.out.dl.r4
   clear hi hRm
   obtain ⟨T, hT⟩ : ∃ T, T = ((B s).drop a1).takeWhile isNam := ⟨_, rfl⟩
   have hTl : a1 + T.length ≤ s.size := by
    have h := tw_le isNam ((B s).drop a1)
    rw [← hT, List.length_drop, B_len] at h
    omega
   have hrm := HRm.out
   rw [HNG.out, members_rec, ← hT] at hrm
   have HRT := Aside0.mk hrm
   have HLw := Aside0.mk (HLR.out.below (below_drew (Below.refl _ _)))
   have HNAM := Aside0.mk (dname_c s hs a1 ha1 ((deep + 1 : Nat) : Int) g w0 wr.drew HG.out HI.out.drew HLw.out.bel)
   rw [← hT] at HNAM
   clear hrm hT hn HRm
   have y3 := HLR.out.cell.2.2.2.1
   go_upto_region 8 with fail
   refine start_ (n := 8) (S := fun w' => w'.cell? ⟨w.heap.size + 1, 3, none⟩ = some (.slice A3 x.f3.length c3)) (ds := [7]) #[false, false, false, false, false, false, false, false] (by kernel_rfl) rfl rfl (cell_drew y3) (fun hHeld => ?_)
   refine pure_ (i := 0) (N := some 20) (v := ?_) (a' := ?_) #[true, false, false, false, false, false, false, false] rfl rfl (by kernel_rfl) (fun _ _ _ h => h) (Or.inl ⟨by rfl, ?_⟩) ?_ ?_
   rotate_left
   ·intro w'
    go_simp
    with_reducible rfl
   rotate_left
   ·simp only [Act.put, List.setIfInBounds_toArray, List.set_cons_zero, List.set_cons_succ, i64_w, i32_w]
    rfl
   refine pure_ (i := 2) (N := some 22) (v := ?_) (a' := ?_) #[true, false, true, false, false, false, false, false] rfl rfl (by kernel_rfl) (fun _ _ _ h => h) (Or.inl ⟨by rfl, ?_⟩) ?_ ?_
   rotate_left
   ·intro w'
    go_simp
    with_reducible rfl
   rotate_left
   ·simp only [Act.put, List.setIfInBounds_toArray, List.set_cons_zero, List.set_cons_succ, i64_w, i32_w]
    rfl
   refine take_ (i := 1) (N := some 21) (v := ?_) (a' := ?_) #[true, true, true, false, false, false, false, false] rfl rfl (by kernel_rfl) (fun _ _ _ h => h) (Or.inl ⟨by rfl, ?_⟩) hHeld ?_ ?_
   rotate_left
   ·intro w' s0
    go_split_ands
    go_simp
    with_reducible rfl
   rotate_left
   ·simp only [Act.put, List.setIfInBounds_toArray, List.set_cons_zero, List.set_cons_succ, i64_w, i32_w]
    rfl
   refine one_ (i := 3) (N := some 23) #[true, true, true, true, false, false, false, false] rfl rfl (by kernel_rfl) (by decide) (fun K hK => ?_)
   refine goes_ Tryz.func80 (by kernel_rfl) rfl #[.pointer (some ⟨g, 0, none⟩)] (by rfl) rfl rfl (by (try simp only [List.map_toArray, List.map_cons, List.map_nil]); first | done | rfl) ?_
   refine HNAM.out.mono ?_
   rintro e w' ⟨rfl, hs5, hb5, hk5⟩
   have HL5 := Aside0.mk (HLw.out.step hgw hb5 hk5)
   have HS5 := Aside0.mk hs5
   have y5 := HL5.out.cell.2.2.2.1
   clear hb5 hk5 hs5
   refine ⟨_, rfl, ?_⟩
   refine hK.out _ _ y5 (fun hHeld => ?_)
   clear hK K
   refine norm_ (a' := ?_) ?_ ?_
   rotate_left
   ·show Act.put _ (some 23) _ = _
    simp only [Act.put, List.setIfInBounds_toArray, List.set_cons_zero, List.set_cons_succ, i64_w, i32_w]
    rfl
   refine one_ (i := 4) (N := some 24) #[true, true, true, true, true, false, false, false] rfl rfl (by kernel_rfl) (by decide) (fun K hK => ?_)
   refine value_ (w1 := World.alloc w' (.cells #[.string (mkB T)] 9 (0, 0))) (v := .slice (some ⟨w'.heap.size, 0, none⟩) 1 1) (by rfl) rfl (by go_simp) ?_
   refine hK.out _ _ (pw_cell_below (below_alloc (Below.refl _ _) _) y5) (fun hHeld => ?_)
   clear hK K
   refine norm_ (a' := ?_) ?_ ?_
   rotate_left
   ·show Act.put _ (some 24) _ = _
    simp only [Act.put, List.setIfInBounds_toArray, List.set_cons_zero, List.set_cons_succ, i64_w, i32_w]
    rfl
   refine one_ (i := 5) (N := some 25) #[true, true, true, true, true, true, false, false] rfl rfl (by kernel_rfl) (by decide) (fun K hK => ?_)
   refine Kd.R_append_step (w0 := w') (W := w') Kd.string (w.heap.size + 1 + 1) (by rfl) (.tmp 21) (.tmp 24) 22 9 (.string ⟨#[]⟩) 16 rfl Tryz.underlying22 info_s rfl (by decide) (by decide) (.slice A3 x.f3.length c3) x.f3 (mkB T) [.string (mkB T)] (fun k => w.heap.size + 1 < k) (fun _ => False) rfl rfl rfl (fun _ h => h.elim) (fun k hk => (new_ok HL5.out.dl hk).1.1) HL5.out.dl.r3 (Below.refl _ _) HL5.out.dl.lt ?_ ?_
   ·show (x.f3.length + 1) * 16 ≤ _; omega
   intro v1 wa hR1 hb1 hg1 hat1
   obtain ⟨A8, c8, rfl⟩ := Kd.R_slice hR1
   have HL9 := Aside0.mk (HL5.out.name hww hR1 hg1 hat1)
   have HG9 := Aside0.mk hg1
   have HB9 := Aside0.mk (blk_grown HL5.out.dl.blk hg1 (fun e => absurd (HL5.out.dl.r3.1 _ e.symm) (by omega)))
   clear hR1 hb1 hg1 hat1
   have y9 : wa.cell? ⟨w.heap.size + 1, 3, none⟩ = some (.slice A3 x.f3.length c3) := (blk_cell HB9.out 3).trans rfl
   have z9 := blk_frozen HB9.out 3
   refine hK.out _ _ y9 (fun hHeld => ?_)
   clear hK K
   refine norm_ (a' := ?_) ?_ ?_
   rotate_left
   ·show Act.put _ (some 25) _ = _
    simp only [Act.put, List.setIfInBounds_toArray, List.set_cons_zero, List.set_cons_succ, i64_w, i32_w]
    rfl
   refine pure_ (i := 6) (N := some 26) (v := ?_) (a' := ?_) #[true, true, true, true, true, true, true, false] rfl rfl (by kernel_rfl) (fun _ _ _ h => h) (Or.inl ⟨by rfl, ?_⟩) ?_ ?_
   rotate_left
   ·intro w'
    go_simp
    with_reducible rfl
   rotate_left
   ·simp only [Act.put, List.setIfInBounds_toArray, List.set_cons_zero, List.set_cons_succ, i64_w, i32_w]
    rfl
   refine last_ (i := 7) (N := none) #[true, true, true, true, true, true, true, true] rfl rfl (by kernel_rfl) (by decide) (fun K hK => ?_)
   refine skip_ (w1 := ?_) (by rfl) rfl ?_ ?_
   rotate_left
   ·go_simp
    rfl
   refine hK.out _ _ ?_
   clear hK K
   refine done_ (by kernel_rfl) ?_
   have HP9 := Aside0.mk (fun (i1 i2 i3 : Int) (h : IsS61 w0 w' g s i1 i2 i3) => state_grownQ (W1 := wa) (v := .slice A3 x.f3.length c3) (b := w.heap.size + 1) h HG9.out (fun k hk => HL5.out.dl.r3.1 k hk) (by omega) 3 (.slice A8 (x.f3 ++ [mkB T]).length c8))
   clear HG9 HB9 y9 z9
   rw [show (x.f3 ++ [mkB T]).length = x.f3.length + 1 by simp] at HL9 HP9
   by_cases hbn : namedS true T = true
   rotate_left
   ·have HRF := Aside0.mk (HRT.out.trans (if_neg hbn))
    have hs9 := HS5.out
    rw [if_neg hbn] at hs9
    have HI9 := Aside0.mk (HP9.out _ _ _ hs9)
    clear hs9 hbn HS5 HP9
    have HMU : Aside0 (∀ W, IsS61 w0 W g s (a1 : Int) ((deep + 1 : Nat) : Int) 2 → Below w0.heap.size w0 W → Calls Tryz.prog 78 #[.pointer (some ⟨g, 0, none⟩), .int .u8 61] W fun e w' => e = .returned (.bool false) ∧ IsS61 w0 w' g s (a1 : Int) ((deep + 1 : Nat) : Int) 2 ∧ Below w0.heap.size w0 w' ∧ KeepBut W w' g none) := ⟨fun W h hb => datum_reader_must.calls g s _ _ _ 61 _ _ _ _ _ w0 W HG.out h hb (dmust_er s (a1 : Int) ((deep + 1 : Nat) : Int) 2 61 (by decide))⟩
    go_wp2_with (go_at_call 78; go_loud (with_reducible refine (HMU.out _ HI9.out HL9.out.bel).mono ?_); rintro e w7 ⟨rfl, hi, hb, hk⟩; have HI7 := Aside0.mk hi; have HL7 := Aside0.mk (HL9.out.step hgw hb hk); obtain ⟨p0, p1, p2, p3, p4⟩ := HL7.out.cell; have hy := Lib.cell_of_heap HL7.out.res; have hz := Lib.frozen_of_heap HL7.out.res; clear hi hb hk)
    clear hy hz p0 p1 p2 p3 p4
    refine bodyPost_ret (results_cell_row rfl _ _ w.heap.size 25 _ (0, 0) _ rfl (set_blk (j := 4) (set_blk (j := 3) (set_blk (j := 2) (set_blk (j := 1) (set_blk (j := 0) HL7.out.res _) _) _) _) _) Tryz.underlying25 rfl (by kernel_rfl)) rfl ?_
    refine finQ (x := ⟨x.f0, x.f1, x.f2, x.f3 ++ [mkB T], x.f4⟩) (ok := fun k => w.heap.size + 1 < k) HL7.out.bel hww HL7.out.keep hgw (k25_mkM _ w.heap.size _ ⟨x.f0, x.f1, x.f2, x.f3 ++ [mkB T], x.f4⟩ (Kd.R_lower HL7.out.dl.r3 (by omega)) (Kd.R_mono (Kd.R_lower HL7.out.dl.r4 (by omega)) (fun k hk => hk.1))) (fun k hk => by omega) ?_
    rw [HRF.out]
    exact ⟨_, HI7.out⟩
   have HRG := Aside0.mk (HRT.out.trans (if_pos hbn))
   have hs9 := HS5.out
   rw [if_pos hbn] at hs9
   have HI9 := Aside0.mk (HP9.out _ _ _ hs9)
   clear hs9 hbn HS5 HP9
   cases hx : nxt s (a1 + T.length) 61 with
   | false =>
    have HRF := Aside0.mk (HRG.out.trans (if_neg (by rw [hx]; decide)))
    have HMU : Aside0 (∀ W, IsS61 w0 W g s ((a1 + T.length : Nat) : Int) ((deep + 1 : Nat) : Int) 0 → Below w0.heap.size w0 W → Calls Tryz.prog 78 #[.pointer (some ⟨g, 0, none⟩), .int .u8 61] W fun e w' => e = .returned (.bool false) ∧ IsS61 w0 w' g s ((a1 + T.length : Nat) : Int) ((deep + 1 : Nat) : Int) 2 ∧ Below w0.heap.size w0 w' ∧ KeepBut W w' g none) := ⟨fun W h hb => datum_reader_must.calls g s _ _ _ 61 _ _ _ _ _ w0 W HG.out h hb (dmust_no s (a1 + T.length) ((deep + 1 : Nat) : Int) 61 hx hTl)⟩
    clear hx
    go_wp2_with (go_at_call 78; go_loud (with_reducible refine (HMU.out _ HI9.out HL9.out.bel).mono ?_); rintro e w7 ⟨rfl, hi, hb, hk⟩; have HI7 := Aside0.mk hi; have HL7 := Aside0.mk (HL9.out.step hgw hb hk); obtain ⟨p0, p1, p2, p3, p4⟩ := HL7.out.cell; have hy := Lib.cell_of_heap HL7.out.res; have hz := Lib.frozen_of_heap HL7.out.res; clear hi hb hk)
    clear hy hz p0 p1 p2 p3 p4
    refine bodyPost_ret (results_cell_row rfl _ _ w.heap.size 25 _ (0, 0) _ rfl (set_blk (j := 4) (set_blk (j := 3) (set_blk (j := 2) (set_blk (j := 1) (set_blk (j := 0) HL7.out.res _) _) _) _) _) Tryz.underlying25 rfl (by kernel_rfl)) rfl ?_
    refine finQ (x := ⟨x.f0, x.f1, x.f2, x.f3 ++ [mkB T], x.f4⟩) (ok := fun k => w.heap.size + 1 < k) HL7.out.bel hww HL7.out.keep hgw (k25_mkM _ w.heap.size _ ⟨x.f0, x.f1, x.f2, x.f3 ++ [mkB T], x.f4⟩ (Kd.R_lower HL7.out.dl.r3 (by omega)) (Kd.R_mono (Kd.R_lower HL7.out.dl.r4 (by omega)) (fun k hk => hk.1))) (fun k hk => by omega) ?_
    rw [HRF.out]
    exact ⟨_, HI7.out⟩
   | true =>
    have HRF := Aside0.mk (HRG.out.trans (if_pos hx))
    have hlt : a1 + T.length < s.size := by
     rcases Nat.lt_or_ge (a1 + T.length) s.size with h | h
     ·exact h
     ·rw [nxt_end 61 h] at hx; cases hx
    have HMU : Aside0 (∀ W, IsS61 w0 W g s ((a1 + T.length : Nat) : Int) ((deep + 1 : Nat) : Int) 0 → Below w0.heap.size w0 W → Calls Tryz.prog 78 #[.pointer (some ⟨g, 0, none⟩), .int .u8 61] W fun e w' => e = .returned (.bool true) ∧ IsS61 w0 w' g s ((a1 + T.length + 1 : Nat) : Int) ((deep + 1 : Nat) : Int) 0 ∧ Below w0.heap.size w0 w' ∧ KeepBut W w' g none) := ⟨fun W h hb => datum_reader_must.calls g s _ _ _ 61 _ _ _ _ _ w0 W HG.out h hb (dmust_ok s (a1 + T.length) ((deep + 1 : Nat) : Int) 61 hx (by omega))⟩
    clear hx
    go_upto_region 10 with (go_at_call 78; go_loud (with_reducible refine (HMU.out _ HI9.out HL9.out.bel).mono ?_); rintro e wd ⟨rfl, hi, hb, hk⟩; have HI8 := Aside0.mk hi; have HL8 := Aside0.mk (HL9.out.step hgw hb hk); clear hi hb hk)
    obtain ⟨y, hyy⟩ : ∃ y : DT, y = ⟨x.f0, x.f1, x.f2, x.f3 ++ [mkB T], x.f4⟩ := ⟨_, rfl⟩
    have HRc := Aside0.mk (HRF.out.trans (tailS_eq n s (a1 + T.length + 1) deep true ⟨x.f0, x.f1, x.f2, x.f3 ++ [mkB T], x.f4⟩))
    have HTI := Aside0.mk (tail_of s n (a1 + T.length + 1) deep true ⟨x.f0, x.f1, x.f2, x.f3 ++ [mkB T], x.f4⟩ (by omega) hs (by omega) (by show (x.f3 ++ [mkB T]).length ≤ _; simp; omega) (by show x.f4.length ≤ _; omega))
    have HLd := Aside0.mk (HL8.out.below (below_drew (Below.refl _ _)))
    have HPC := Aside0.mk (IH.out n (by omega) (a1 + T.length + 1) (deep + 1) (by omega) (by omega) (by omega) g w0 wd.drew HG.out HI8.out.drew HLd.out.bel)
    obtain ⟨R1, hR1⟩ : ∃ R1 : Res DT, R1 = pieceS n ((B s).drop (a1 + T.length + 1)) (a1 + T.length + 1) (deep + 1) := ⟨_, rfl⟩
    rw [← hR1] at HRc HTI HPC
    have HLc := Aside0.mk HL8.out
    have e3 : x.f3.length + 1 = y.f3.length := by rw [hyy]; simp
    have hx4 : x.f4 = y.f4 := by rw [hyy]
    have HX := Aside0.mk (show y.f0 = kindB true ∧ y.f1 = 0 ∧ y.f2 = em by rw [hyy]; exact HX.out)
    rw [← hyy] at HRc HTI HLd HLc
    rw [e3] at HLd HLc ⊢
    rw [hx4] at HLd HLc
    clear hR1 HRT HRG HRF HNAM HL5 HL9 HL8 HI9 HI8 HMU HLw HLR HI hyy e3 hx4
    have y4 := HLc.out.cell.2.2.2.2
    refine start_ (n := 8) (S := fun w' => w'.cell? ⟨w.heap.size + 1, 4, none⟩ = some (.slice A4 y.f4.length c4)) (ds := [7]) #[false, false, false, false, false, false, false, false] (by kernel_rfl) rfl rfl (cell_drew y4) (fun hHeld => ?_)
    refine pure_ (i := 0) (N := some 30) (v := ?_) (a' := ?_) #[true, false, false, false, false, false, false, false] rfl rfl (by kernel_rfl) (fun _ _ _ h => h) (Or.inl ⟨by rfl, ?_⟩) ?_ ?_
    rotate_left
    ·intro w'
     go_simp
     with_reducible rfl
    rotate_left
    ·simp only [Act.put, List.setIfInBounds_toArray, List.set_cons_zero, List.set_cons_succ, i64_w, i32_w]
     rfl
    refine pure_ (i := 2) (N := some 32) (v := ?_) (a' := ?_) #[true, false, true, false, false, false, false, false] rfl rfl (by kernel_rfl) (fun _ _ _ h => h) (Or.inl ⟨by rfl, ?_⟩) ?_ ?_
    rotate_left
    ·intro w'
     go_simp
     with_reducible rfl
    rotate_left
    ·simp only [Act.put, List.setIfInBounds_toArray, List.set_cons_zero, List.set_cons_succ, i64_w, i32_w]
     rfl
    refine take_ (i := 1) (N := some 31) (v := ?_) (a' := ?_) #[true, true, true, false, false, false, false, false] rfl rfl (by kernel_rfl) (fun _ _ _ h => h) (Or.inl ⟨by rfl, ?_⟩) hHeld ?_ ?_
    rotate_left
    ·intro w' s0
     go_split_ands
     go_simp
     with_reducible rfl
    rotate_left
    ·simp only [Act.put, List.setIfInBounds_toArray, List.set_cons_zero, List.set_cons_succ, i64_w, i32_w]
     rfl
    refine one_ (i := 3) (N := some 33) #[true, true, true, true, false, false, false, false] rfl rfl (by kernel_rfl) (by decide) (fun K hK => ?_)
    refine goes_ Tryz.func29 (by kernel_rfl) rfl #[.pointer (some ⟨g, 0, none⟩)] (by rfl) rfl rfl (by (try simp only [List.map_toArray, List.map_cons, List.map_nil]); first | done | rfl) ?_
    refine HPC.out.mono ?_
    rintro e w' ⟨hb5, hk5, d, u3, u4, rfl, hm5, hs5⟩
    have HL5 := Aside0.mk (HLd.out.step hgw hb5 hk5)
    have HS5 := Aside0.mk hs5
    have HM5 := Aside0.mk hm5
    have y5 := HL5.out.cell.2.2.2.2
    clear hb5 hk5 hm5 hs5
    refine ⟨_, rfl, ?_⟩
    refine hK.out _ _ y5 (fun hHeld => ?_)
    clear hK K
    refine norm_ (a' := ?_) ?_ ?_
    rotate_left
    ·show Act.put _ (some 33) _ = _
     simp only [Act.put, List.setIfInBounds_toArray, List.set_cons_zero, List.set_cons_succ, i64_w, i32_w]
     rfl
    refine one_ (i := 4) (N := some 34) #[true, true, true, true, true, false, false, false] rfl rfl (by kernel_rfl) (by decide) (fun K hK => ?_)
    refine value_ (w1 := World.alloc w' (.cells #[.int .i64 d.f0, .int .i64 d.f1, .string d.f2, u3, u4] 25 (0, 0))) (v := .slice (some ⟨w'.heap.size, 0, none⟩) 1 1) (by rfl) rfl (by go_simp) ?_
    refine hK.out _ _ (pw_cell_below (below_alloc (Below.refl _ _) _) y5) (fun hHeld => ?_)
    clear hK K
    refine norm_ (a' := ?_) ?_ ?_
    rotate_left
    ·show Act.put _ (some 34) _ = _
     simp only [Act.put, List.setIfInBounds_toArray, List.set_cons_zero, List.set_cons_succ, i64_w, i32_w]
     rfl
    refine one_ (i := 5) (N := some 35) #[true, true, true, true, true, true, false, false] rfl rfl (by kernel_rfl) (by decide) (fun K hK => ?_)
    refine Kd.R_append_step (w0 := w') (W := w') k25 (w.heap.size + 1 + 1) (by rfl) (.tmp 31) (.tmp 34) 23 25 (.agg zCells) 80 rfl Tryz.underlying23 info_d rfl (by decide) (by decide) (.slice A4 y.f4.length c4) y.f4 d (dCells d u3 u4) (fun k => w.heap.size + 1 < k ∧ some k ≠ (Value.slice A8 y.f3.length c8).ownBlock) (fun k => wd.heap.size ≤ k) rfl rfl (made_low HM5.out HLc.out.dl.lt) (fun k hk => ?_) (fun k hk => ?_) HL5.out.dl.r4 (Below.refl _ _) HL5.out.dl.lt ?_ ?_
    ·exact new_ok HLc.out.dl hk
    ·exact new_ok HL5.out.dl hk |>.1
    ·have := HTI.out.len; show (y.f4.length + 1) * 80 ≤ _; omega
    intro v1 wa hR1 hb1 hg1 hat1
    obtain ⟨A9, c9, rfl⟩ := Kd.R_slice hR1
    have HL9 := Aside0.mk (HL5.out.piece hww hR1 hg1)
    have HG9 := Aside0.mk hg1
    have HB9 := Aside0.mk (blk_grown HL5.out.dl.blk hg1 (fun e => absurd (HL5.out.dl.r4.1 _ e.symm).1 (by omega)))
    clear hR1 hb1 hg1 hat1
    have y9 : wa.cell? ⟨w.heap.size + 1, 4, none⟩ = some (.slice A4 y.f4.length c4) := (blk_cell HB9.out 4).trans rfl
    have z9 := blk_frozen HB9.out 4
    refine hK.out _ _ y9 (fun hHeld => ?_)
    clear hK K
    refine norm_ (a' := ?_) ?_ ?_
    rotate_left
    ·show Act.put _ (some 35) _ = _
     simp only [Act.put, List.setIfInBounds_toArray, List.set_cons_zero, List.set_cons_succ, i64_w, i32_w]
     rfl
    refine pure_ (i := 6) (N := some 36) (v := ?_) (a' := ?_) #[true, true, true, true, true, true, true, false] rfl rfl (by kernel_rfl) (fun _ _ _ h => h) (Or.inl ⟨by rfl, ?_⟩) ?_ ?_
    rotate_left
    ·intro w'
     go_simp
     with_reducible rfl
    rotate_left
    ·simp only [Act.put, List.setIfInBounds_toArray, List.set_cons_zero, List.set_cons_succ, i64_w, i32_w]
     rfl
    refine last_ (i := 7) (N := none) #[true, true, true, true, true, true, true, true] rfl rfl (by kernel_rfl) (by decide) (fun K hK => ?_)
    refine skip_ (w1 := ?_) (by rfl) rfl ?_ ?_
    rotate_left
    ·go_simp
     rfl
    refine hK.out _ _ ?_
    clear hK K
    refine done_ (by kernel_rfl) ?_
    have HP9 := Aside0.mk (fun (i1 i2 i3 : Int) (h : IsS61 w0 w' g s i1 i2 i3) => state_grownQ (W1 := wa) (v := .slice A4 y.f4.length c4) (b := w.heap.size + 1) h HG9.out (fun k hk => (HL5.out.dl.r4.1 k hk).1) (by omega) 4 (.slice A9 (y.f4 ++ [d]).length c9))
    clear HG9 HB9 HM5 y9 z9
    rw [show (y.f4 ++ [d]).length = y.f4.length + 1 by simp] at HL9 HP9
    cases R1 with
    | err p c =>
     obtain ⟨op', hi⟩ := HS5.out
     have HI9 := Aside0.mk (HP9.out _ _ _ hi)
     have HC0 := Aside0.mk (HTI.out.err p c rfl)
     have HIS : Aside0 (∀ W, IsS61 w0 W g s (p : Int) op' c → Below w0.heap.size w0 W → Calls Tryz.prog 79 #[.pointer (some ⟨g, 0, none⟩), .int .u8 44] W fun e w' => e = .returned (.bool false) ∧ IsS61 w0 w' g s (p : Int) op' c ∧ Below w0.heap.size w0 w' ∧ KeepBut W w' g none) := ⟨fun W h hb => datum_reader_is.calls g s _ _ _ 44 _ _ _ _ _ w0 W HG.out h hb (dis_er s (p : Int) op' c 44 HC0.out)⟩
     have HMU : Aside0 (∀ W, IsS61 w0 W g s (p : Int) op' c → Below w0.heap.size w0 W → Calls Tryz.prog 78 #[.pointer (some ⟨g, 0, none⟩), .int .u8 125] W fun e w' => e = .returned (.bool false) ∧ IsS61 w0 w' g s (p : Int) op' c ∧ Below w0.heap.size w0 w' ∧ KeepBut W w' g none) := ⟨fun W h hb => datum_reader_must.calls g s _ _ _ 125 _ _ _ _ _ w0 W HG.out h hb (dmust_er s (p : Int) op' c 125 HC0.out)⟩
     clear hi HP9 HS5
     go_wp2_with (first | (go_at_call 79; go_loud (with_reducible refine (HIS.out _ HI9.out HL9.out.bel).mono ?_); rintro e w6 ⟨rfl, hi, hb, hk⟩; have HI6 := Aside0.mk hi; have HL6 := Aside0.mk (HL9.out.step hgw hb hk); clear hi hb hk) | (go_at_call 78; go_loud (with_reducible refine (HMU.out _ HI6.out HL6.out.bel).mono ?_); rintro e w7 ⟨rfl, hi, hb, hk⟩; have HI7 := Aside0.mk hi; have HL7 := Aside0.mk (HL6.out.step hgw hb hk); obtain ⟨p0, p1, p2, p3, p4⟩ := HL7.out.cell; have hy := Lib.cell_of_heap HL7.out.res; have hz := Lib.frozen_of_heap HL7.out.res; clear hi hb hk))
     clear hy hz p0 p1 p2 p3 p4
     refine bodyPost_ret (results_cell_row rfl _ _ w.heap.size 25 _ (0, 0) _ rfl (set_blk (j := 4) (set_blk (j := 3) (set_blk (j := 2) (set_blk (j := 1) (set_blk (j := 0) HL7.out.res _) _) _) _) _) Tryz.underlying25 rfl (by kernel_rfl)) rfl ?_
     refine finQ (x := ⟨y.f0, y.f1, y.f2, y.f3, y.f4 ++ [d]⟩) (ok := fun k => w.heap.size + 1 < k) HL7.out.bel hww HL7.out.keep hgw (k25_mkM _ w.heap.size _ ⟨y.f0, y.f1, y.f2, y.f3, y.f4 ++ [d]⟩ (Kd.R_lower HL7.out.dl.r3 (by omega)) (Kd.R_mono (Kd.R_lower HL7.out.dl.r4 (by omega)) (fun k hk => hk.1))) (fun k hk => by omega) ?_
     rw [HRc.out]
     exact ⟨_, HI7.out⟩
    | ok d' a2 r =>
     obtain ⟨rfl, hi⟩ := HS5.out
     have HI9 := Aside0.mk (HP9.out _ _ _ hi)
     obtain ⟨ha2, hn2, h32, h42⟩ := HTI.out.ok d a2 r rfl
     clear hi HP9 HS5
     cases hx : nxt s a2 44 with
     | false =>
      have HRf := Aside0.mk (HRc.out.trans (show tailR n s deep true y (.ok d a2 r) = (if nxt s a2 (shutB true) = true then .ok ⟨kindB true, 0, em, y.f3, y.f4 ++ [d]⟩ (a2 + 1) ((B s).drop (a2 + 1)) else .err a2 2) from if_neg (by rw [hx]; decide)))
      have HIS : Aside0 (∀ W, IsS61 w0 W g s (a2 : Int) ((deep + 1 : Nat) : Int) 0 → Below w0.heap.size w0 W → Calls Tryz.prog 79 #[.pointer (some ⟨g, 0, none⟩), .int .u8 44] W fun e w' => e = .returned (.bool false) ∧ IsS61 w0 w' g s (a2 : Int) ((deep + 1 : Nat) : Int) 0 ∧ Below w0.heap.size w0 w' ∧ KeepBut W w' g none) := ⟨fun W h hb => datum_reader_is.calls g s _ _ _ 44 _ _ _ _ _ w0 W HG.out h hb (dis_no s a2 ((deep + 1 : Nat) : Int) 44 hx)⟩
      cases hy : nxt s a2 (shutB true) with
      | false =>
       have HRg := Aside0.mk (HRf.out.trans (if_neg (by rw [hy]; decide)))
       have HMU : Aside0 (∀ W, IsS61 w0 W g s (a2 : Int) ((deep + 1 : Nat) : Int) 0 → Below w0.heap.size w0 W → Calls Tryz.prog 78 #[.pointer (some ⟨g, 0, none⟩), .int .u8 125] W fun e w' => e = .returned (.bool false) ∧ IsS61 w0 w' g s (a2 : Int) ((deep + 1 : Nat) : Int) 2 ∧ Below w0.heap.size w0 w' ∧ KeepBut W w' g none) := ⟨fun W h hb => datum_reader_must.calls g s _ _ _ 125 _ _ _ _ _ w0 W HG.out h hb (dmust_no s a2 ((deep + 1 : Nat) : Int) (shutB true) hy ha2)⟩
       clear hx hy
       go_wp2_with (first | (go_at_call 79; go_loud (with_reducible refine (HIS.out _ HI9.out HL9.out.bel).mono ?_); rintro e w6 ⟨rfl, hi, hb, hk⟩; have HI6 := Aside0.mk hi; have HL6 := Aside0.mk (HL9.out.step hgw hb hk); clear hi hb hk) | (go_at_call 78; go_loud (with_reducible refine (HMU.out _ HI6.out HL6.out.bel).mono ?_); rintro e w7 ⟨rfl, hi, hb, hk⟩; have HI7 := Aside0.mk hi; have HL7 := Aside0.mk (HL6.out.step hgw hb hk); obtain ⟨p0, p1, p2, p3, p4⟩ := HL7.out.cell; have hy := Lib.cell_of_heap HL7.out.res; have hz := Lib.frozen_of_heap HL7.out.res; clear hi hb hk))
       clear hy hz p0 p1 p2 p3 p4
       refine bodyPost_ret (results_cell_row rfl _ _ w.heap.size 25 _ (0, 0) _ rfl (set_blk (j := 4) (set_blk (j := 3) (set_blk (j := 2) (set_blk (j := 1) (set_blk (j := 0) HL7.out.res _) _) _) _) _) Tryz.underlying25 rfl (by kernel_rfl)) rfl ?_
       refine finQ (x := ⟨y.f0, y.f1, y.f2, y.f3, y.f4 ++ [d]⟩) (ok := fun k => w.heap.size + 1 < k) HL7.out.bel hww HL7.out.keep hgw (k25_mkM _ w.heap.size _ ⟨y.f0, y.f1, y.f2, y.f3, y.f4 ++ [d]⟩ (Kd.R_lower HL7.out.dl.r3 (by omega)) (Kd.R_mono (Kd.R_lower HL7.out.dl.r4 (by omega)) (fun k hk => hk.1))) (fun k hk => by omega) ?_
       rw [HRg.out]
       exact ⟨_, HI7.out⟩
      | true =>
       have HRg := Aside0.mk (HRf.out.trans (if_pos hy))
       have HMU : Aside0 (∀ W, IsS61 w0 W g s (a2 : Int) ((deep + 1 : Nat) : Int) 0 → Below w0.heap.size w0 W → Calls Tryz.prog 78 #[.pointer (some ⟨g, 0, none⟩), .int .u8 125] W fun e w' => e = .returned (.bool true) ∧ IsS61 w0 w' g s ((a2 + 1 : Nat) : Int) ((deep + 1 : Nat) : Int) 0 ∧ Below w0.heap.size w0 w' ∧ KeepBut W w' g none) := ⟨fun W h hb => datum_reader_must.calls g s _ _ _ 125 _ _ _ _ _ w0 W HG.out h hb (dmust_ok s a2 ((deep + 1 : Nat) : Int) (shutB true) hy (by omega))⟩
       clear hx hy
       go_wp2_with (first | (go_at_call 79; go_loud (with_reducible refine (HIS.out _ HI9.out HL9.out.bel).mono ?_); rintro e w6 ⟨rfl, hi, hb, hk⟩; have HI6 := Aside0.mk hi; have HL6 := Aside0.mk (HL9.out.step hgw hb hk); clear hi hb hk) | (go_at_call 78; go_loud (with_reducible refine (HMU.out _ HI6.out HL6.out.bel).mono ?_); rintro e w7 ⟨rfl, hi, hb, hk⟩; have HI7 := Aside0.mk hi; have HL7 := Aside0.mk (HL6.out.step hgw hb hk); obtain ⟨p0, p1, p2, p3, p4⟩ := HL7.out.cell; have hy := Lib.cell_of_heap HL7.out.res; have hz := Lib.frozen_of_heap HL7.out.res; clear hi hb hk))
       clear hy hz p0 p1 p2 p3 p4
       refine bodyPost_ret (results_cell_row rfl _ _ w.heap.size 25 _ (0, 0) _ rfl (set_blk (j := 4) (set_blk (j := 3) (set_blk (j := 2) (set_blk (j := 1) (set_blk (j := 0) HL7.out.res _) _) _) _) _) Tryz.underlying25 rfl (by kernel_rfl)) rfl ?_
       refine finQ (x := ⟨y.f0, y.f1, y.f2, y.f3, y.f4 ++ [d]⟩) (ok := fun k => w.heap.size + 1 < k) HL7.out.bel hww HL7.out.keep hgw (k25_mkM _ w.heap.size _ ⟨y.f0, y.f1, y.f2, y.f3, y.f4 ++ [d]⟩ (Kd.R_lower HL7.out.dl.r3 (by omega)) (Kd.R_mono (Kd.R_lower HL7.out.dl.r4 (by omega)) (fun k hk => hk.1))) (fun k hk => by omega) ?_
       rw [HRg.out]
       exact ⟨by rw [HX.out.1, HX.out.2.1, HX.out.2.2], HI7.out⟩
     | true =>
      have HRt := Aside0.mk (HRc.out.trans (show tailR n s deep true y (.ok d a2 r) = membersS n ((B s).drop (a2 + 1)) (a2 + 1) (deep + 1) true y.f3 (y.f4 ++ [d]) from if_pos hx))
      have hlt : a2 < s.size := by
       rcases Nat.lt_or_ge a2 s.size with h | h
       ·exact h
       ·rw [nxt_end 44 h] at hx; cases hx
      have HIS : Aside0 (∀ W, IsS61 w0 W g s (a2 : Int) ((deep + 1 : Nat) : Int) 0 → Below w0.heap.size w0 W → Calls Tryz.prog 79 #[.pointer (some ⟨g, 0, none⟩), .int .u8 44] W fun e w' => e = .returned (.bool true) ∧ IsS61 w0 w' g s ((a2 + 1 : Nat) : Int) ((deep + 1 : Nat) : Int) 0 ∧ Below w0.heap.size w0 w' ∧ KeepBut W w' g none) := ⟨fun W h hb => datum_reader_is.calls g s _ _ _ 44 _ _ _ _ _ w0 W HG.out h hb (dis_ok s a2 ((deep + 1 : Nat) : Int) 44 hx (by omega))⟩
      clear hx
      go_wp2_with (go_at_call 79; go_loud (with_reducible refine (HIS.out _ HI9.out HL9.out.bel).mono ?_); rintro e w6 ⟨rfl, hi, hb, hk⟩; have HI6 := Aside0.mk hi; have HL6 := Aside0.mk (HL9.out.step hgw hb hk); clear hi hb hk)
      go_roundg n
      case measure => omega
      case rel => exact ⟨by omega, ⟨_, _, _, HL6.out, HX.out.1, HX.out.2.1, HX.out.2.2, a2 + 1, by omega, HI6.out, HRt.out, by omega, by show y.f3.length ≤ _; omega, by show (y.f4 ++ [d]).length ≤ _; simp; omega⟩⟩
end Go.Proofs.YtidcecpbihmloaaGreatDoorE

namespace Go.Proofs.YtidcecpbihmloaaGreatDoorE
open Go Go.RowKit Go.Proofs.YtidcecpbihmloaaGreatDoorW.PrintWords Go.Proofs.YtidcecpbihmloaaGreatDoorW.PrintMore Go.Proofs.YtidcecpbihmloaaGreatDoorW.PrintLast Go.Proofs.YtidcecpbihmloaaGreatDoorX Go.Proofs.YtidcecpbihmloaaGreatDoor.P16 Go.Proofs.YtidcecpbihmloaaGreatDoor.M02
set_option linter.unusedVariables false
set_option linter.unusedSimpArgs false
set_option maxRecDepth 100000
theorem ta_nil_word (w : World) : (Instr.typeAssert .nilIface 86 88 true).run Tryz.prog w = .ok (.tuple #[.string ⟨#[]⟩, .bool false]) w := rfl
theorem ta_word_word (v : Value) (w : World) : (Instr.typeAssert (.iface 88 v) 86 88 true).run Tryz.prog w = .ok (.tuple #[v, .bool true]) w := rfl
theorem ta_digits_word (v : Value) (w : World) : (Instr.typeAssert (.iface 90 v) 86 88 true).run Tryz.prog w = .ok (.tuple #[.string ⟨#[]⟩, .bool false]) w := rfl
theorem ta_quote_word (v : Value) (w : World) : (Instr.typeAssert (.iface 93 v) 86 88 true).run Tryz.prog w = .ok (.tuple #[.string ⟨#[]⟩, .bool false]) w := rfl
theorem ta_open_word (v : Value) (w : World) : (Instr.typeAssert (.iface 94 v) 86 88 true).run Tryz.prog w = .ok (.tuple #[.string ⟨#[]⟩, .bool false]) w := rfl
theorem ta_nil_digits (w : World) : (Instr.typeAssert .nilIface 86 90 true).run Tryz.prog w = .ok (.tuple #[.string ⟨#[]⟩, .bool false]) w := rfl
theorem ta_word_digits (v : Value) (w : World) : (Instr.typeAssert (.iface 88 v) 86 90 true).run Tryz.prog w = .ok (.tuple #[.string ⟨#[]⟩, .bool false]) w := rfl
theorem ta_digits_digits (v : Value) (w : World) : (Instr.typeAssert (.iface 90 v) 86 90 true).run Tryz.prog w = .ok (.tuple #[v, .bool true]) w := rfl
theorem ta_quote_digits (v : Value) (w : World) : (Instr.typeAssert (.iface 93 v) 86 90 true).run Tryz.prog w = .ok (.tuple #[.string ⟨#[]⟩, .bool false]) w := rfl
theorem ta_open_digits (v : Value) (w : World) : (Instr.typeAssert (.iface 94 v) 86 90 true).run Tryz.prog w = .ok (.tuple #[.string ⟨#[]⟩, .bool false]) w := rfl
theorem ta_nil_quote (w : World) : (Instr.typeAssert .nilIface 86 93 true).run Tryz.prog w = .ok (.tuple #[.agg #[], .bool false]) w := rfl
theorem ta_word_quote (v : Value) (w : World) : (Instr.typeAssert (.iface 88 v) 86 93 true).run Tryz.prog w = .ok (.tuple #[.agg #[], .bool false]) w := rfl
theorem ta_digits_quote (v : Value) (w : World) : (Instr.typeAssert (.iface 90 v) 86 93 true).run Tryz.prog w = .ok (.tuple #[.agg #[], .bool false]) w := rfl
theorem ta_quote_quote (v : Value) (w : World) : (Instr.typeAssert (.iface 93 v) 86 93 true).run Tryz.prog w = .ok (.tuple #[v, .bool true]) w := rfl
theorem ta_open_quote (v : Value) (w : World) : (Instr.typeAssert (.iface 94 v) 86 93 true).run Tryz.prog w = .ok (.tuple #[.agg #[], .bool false]) w := rfl
theorem ta_nil_open (w : World) : (Instr.typeAssert .nilIface 86 94 true).run Tryz.prog w = .ok (.tuple #[.int .u8 0, .bool false]) w := rfl
theorem ta_word_open (v : Value) (w : World) : (Instr.typeAssert (.iface 88 v) 86 94 true).run Tryz.prog w = .ok (.tuple #[.int .u8 0, .bool false]) w := rfl
theorem ta_digits_open (v : Value) (w : World) : (Instr.typeAssert (.iface 90 v) 86 94 true).run Tryz.prog w = .ok (.tuple #[.int .u8 0, .bool false]) w := rfl
theorem ta_quote_open (v : Value) (w : World) : (Instr.typeAssert (.iface 93 v) 86 94 true).run Tryz.prog w = .ok (.tuple #[.int .u8 0, .bool false]) w := rfl
theorem ta_open_open (v : Value) (w : World) : (Instr.typeAssert (.iface 94 v) 86 94 true).run Tryz.prog w = .ok (.tuple #[v, .bool true]) w := rfl
set_option maxHeartbeats 4000000 in
theorem qp_end (s : ByteArray) (hs : s.size ≤ 1000000000) (a deep : Nat) (ha : a ≤ s.size) (hd : deep ≤ 16) (n : Nat) (hl : s.size ≤ a) (g : Nat) (w0 w : World) (hgl : GL w0) (hI : IsS61 w0 w g s (a : Int) (deep : Int) 0) (hB : Below w0.heap.size w0 w) :
  Calls Tryz.prog 29 #[.pointer (some ⟨g, 0, none⟩)] w (pieceQ w0 w g s (deep : Int) (pieceS (n + 1) ((B s).drop a) a deep)) := by
 obtain ⟨R, hR⟩ : ∃ R : Res DT, R = pieceS (n + 1) ((B s).drop a) a deep := ⟨_, rfl⟩
 rw [← hR]
 have HRR := Aside0.mk (hR.trans (pieceS_end n s a deep hl))
 have HG := Aside0.mk hgl
 have hgw : g < w.heap.size := blk_lt hI.1
 have hg0 : w0.heap.size ≤ g := hI.2
 have hww : w0.heap.size ≤ w.heap.size := hB.size
 have HI1 := Aside0.mk (hI.alloc (.cells zCells 25))
 have HB1 := Aside0.mk (below_alloc hB (.cells zCells 25))
 have HK1 := Aside0.mk (KeepBut.of_below (below_alloc (Below.refl _ w) (.cells zCells 25)) g none)
 have HR1 := Aside0.mk (heap_alloc_new w (.cells zCells 25))
 clear hR hgl hI hB
 go_enter Tryz.func29, Tryz.ntmps29
 go_upto_region 1 with fail
 generalize hW : w.alloc (.cells zCells 25) = W1 at HI1 HB1 HK1 HR1 ⊢
 clear hW
 have q1 : W1.cell? ⟨g, 1, none⟩ = some (.int .i64 (a : Int)) := (blk_cell HI1.out.1 1).trans rfl
 have HF : Aside0 (∀ W, IsS61 w0 W g s ((a : Int)) (deep : Int) 0 → Below w0.heap.size w0 W → Calls Tryz.prog 30 #[.pointer (some ⟨g, 0, none⟩), .int .i64 (a : Int), .int .i64 2] W fun e w' => e = .returned (.tuple #[]) ∧ IsS61 w0 w' g s (a : Int) (deep : Int) 2 ∧ Below w0.heap.size w0 w' ∧ KeepBut W w' g none) := ⟨fun W h hb => datum_reader_fail.calls g s _ _ 0 (a : Int) 2 _ _ _ _ w0 W HG.out h hb (dfail_0 s _ _ _ 2)⟩
 have ta_word := ta_nil_word
 have ta_digits := ta_nil_digits
 have ta_quote := ta_nil_quote
 have ta_open := ta_nil_open
 have HNX := Aside0.mk (dn_end s hs a ha hl (deep : Int) 0 g w0 W1 HI1.out HB1.out)
 go_wp2_with (first | (go_at_call 52; go_loud (with_reducible refine HNX.out.mono ?_); rintro e w3 ⟨rfl, hi, hb, hk⟩; have HI3 := Aside0.mk hi; have HB3 := Aside0.mk hb; have HK3 := Aside0.mk (HK1.out.trans hk (.inl rfl)); have HR3 := Aside0.mk (hk.blk HR1.out (by omega) (by simp)); have hy := Lib.cell_of_heap HR3.out; have hz := Lib.frozen_of_heap HR3.out; clear hi hb hk) | (go_at_call 30; go_loud (with_reducible refine (HF.out _ HI3.out HB3.out).mono ?_); rintro e w6 ⟨rfl, hi, hb, hk⟩; have HI9 := Aside0.mk hi; have HB9 := Aside0.mk hb; have HK9 := Aside0.mk (HK3.out.trans hk (.inl rfl)); have HR9 := Aside0.mk (hk.blk HR3.out (by omega) (by simp)); have hy := Lib.cell_of_heap HR9.out; have hz := Lib.frozen_of_heap HR9.out; clear hi hb hk))
 refine bodyPost_ret (results_cell_row rfl _ _ w.heap.size 25 _ (0, 0) _ rfl (set_blk (j := 4) (set_blk (j := 3) (set_blk (j := 2) (set_blk (j := 1) (set_blk (j := 0) HR9.out _) _) _) _) _) Tryz.underlying25 rfl (by kernel_rfl)) rfl ?_
 refine finQ (x := ⟨0, 0, em, [], []⟩) (v3 := .slice none 0 0) (v4 := .slice none 0 0) (ok := fun k => w.heap.size < k) HB9.out hww HK9.out hgw (k25_mkM _ w.heap.size _ ⟨0, 0, em, [], []⟩ (Kd.R_nil _ _ _ _ _) (Kd.R_nil _ _ _ _ _)) (fun k hk => by omega) ?_
 rw [HRR.out]
 exact ⟨_, HI9.out⟩
set_option maxHeartbeats 4000000 in
theorem qp_bad (s : ByteArray) (hs : s.size ≤ 1000000000) (a deep : Nat) (ha : a ≤ s.size) (hd : deep ≤ 16) (n : Nat) (c : UInt8) (hl : a < s.size) (hc : (B s)[a]'(at_lt hl) = c) (h0 : isLet c = false) (h1 : isDig c = false) (h34 : c ≠ 34) (h91 : c ≠ 91) (h123 : c ≠ 123) (g : Nat) (w0 w : World) (hgl : GL w0) (hI : IsS61 w0 w g s (a : Int) (deep : Int) 0) (hB : Below w0.heap.size w0 w) :
  Calls Tryz.prog 29 #[.pointer (some ⟨g, 0, none⟩)] w (pieceQ w0 w g s (deep : Int) (pieceS (n + 1) ((B s).drop a) a deep)) := by
 obtain ⟨R, hR⟩ : ∃ R : Res DT, R = pieceS (n + 1) ((B s).drop a) a deep := ⟨_, rfl⟩
 rw [← hR]
 have HRR := Aside0.mk (hR.trans (pieceS_bad n s a deep hl (by rw [hc]; exact h0) (by rw [hc]; exact h1) (by rw [hc]; exact h34) (by rw [hc]; exact h91) (by rw [hc]; exact h123)))
 have HG := Aside0.mk hgl
 have hgw : g < w.heap.size := blk_lt hI.1
 have hg0 : w0.heap.size ≤ g := hI.2
 have hww : w0.heap.size ≤ w.heap.size := hB.size
 have HI1 := Aside0.mk (hI.alloc (.cells zCells 25))
 have HB1 := Aside0.mk (below_alloc hB (.cells zCells 25))
 have HK1 := Aside0.mk (KeepBut.of_below (below_alloc (Below.refl _ w) (.cells zCells 25)) g none)
 have HR1 := Aside0.mk (heap_alloc_new w (.cells zCells 25))
 clear hR hgl hI hB
 go_enter Tryz.func29, Tryz.ntmps29
 go_upto_region 1 with fail
 generalize hW : w.alloc (.cells zCells 25) = W1 at HI1 HB1 HK1 HR1 ⊢
 clear hW
 have q1 : W1.cell? ⟨g, 1, none⟩ = some (.int .i64 (a : Int)) := (blk_cell HI1.out.1 1).trans rfl
 have HF : Aside0 (∀ W, IsS61 w0 W g s ((a : Int)) (deep : Int) 0 → Below w0.heap.size w0 W → Calls Tryz.prog 30 #[.pointer (some ⟨g, 0, none⟩), .int .i64 (a : Int), .int .i64 2] W fun e w' => e = .returned (.tuple #[]) ∧ IsS61 w0 w' g s (a : Int) (deep : Int) 2 ∧ Below w0.heap.size w0 w' ∧ KeepBut W w' g none) := ⟨fun W h hb => datum_reader_fail.calls g s _ _ 0 (a : Int) 2 _ _ _ _ w0 W HG.out h hb (dfail_0 s _ _ _ 2)⟩
 have ta_word := ta_nil_word
 have ta_digits := ta_nil_digits
 have ta_quote := ta_nil_quote
 have ta_open := ta_nil_open
 have HNX := Aside0.mk (dn_bad s hs a ha c hl hc h0 h1 h34 h91 h123 (deep : Int) 0 g w0 W1 HI1.out HB1.out)
 clear hc h0 h1 h34 h91 h123
 go_wp2_with (first | (go_at_call 52; go_loud (with_reducible refine HNX.out.mono ?_); rintro e w3 ⟨rfl, hi, hb, hk⟩; have HI3 := Aside0.mk hi; have HB3 := Aside0.mk hb; have HK3 := Aside0.mk (HK1.out.trans hk (.inl rfl)); have HR3 := Aside0.mk (hk.blk HR1.out (by omega) (by simp)); have hy := Lib.cell_of_heap HR3.out; have hz := Lib.frozen_of_heap HR3.out; clear hi hb hk) | (go_at_call 30; go_loud (with_reducible refine (HF.out _ HI3.out HB3.out).mono ?_); rintro e w6 ⟨rfl, hi, hb, hk⟩; have HI9 := Aside0.mk hi; have HB9 := Aside0.mk hb; have HK9 := Aside0.mk (HK3.out.trans hk (.inl rfl)); have HR9 := Aside0.mk (hk.blk HR3.out (by omega) (by simp)); have hy := Lib.cell_of_heap HR9.out; have hz := Lib.frozen_of_heap HR9.out; clear hi hb hk))
 refine bodyPost_ret (results_cell_row rfl _ _ w.heap.size 25 _ (0, 0) _ rfl (set_blk (j := 4) (set_blk (j := 3) (set_blk (j := 2) (set_blk (j := 1) (set_blk (j := 0) HR9.out _) _) _) _) _) Tryz.underlying25 rfl (by kernel_rfl)) rfl ?_
 refine finQ (x := ⟨0, 0, em, [], []⟩) (v3 := .slice none 0 0) (v4 := .slice none 0 0) (ok := fun k => w.heap.size < k) HB9.out hww HK9.out hgw (k25_mkM _ w.heap.size _ ⟨0, 0, em, [], []⟩ (Kd.R_nil _ _ _ _ _) (Kd.R_nil _ _ _ _ _)) (fun k hk => by omega) ?_
 rw [HRR.out]
 exact ⟨_, HI9.out⟩
theorem named_made {w' W : World} {b : Nat} {A3 : Option Addr} {c3 : Nat} {A4 : Option Addr} {c4 : Nat} {k n : Int} {tx : ByteArray} (h3 : Kd.R Kd.string 9 w' W.heap.size (fun _ => True) (.slice A3 ([] : List ByteArray).length c3) []) (h4 : Kd.R k25 25 w' W.heap.size (fun k_ => some k_ ≠ (Value.slice A3 ([] : List ByteArray).length c3).ownBlock) (.slice A4 ([] : List DT).length c4) []) (hb : b ≤ W.heap.size) : k25.M w' b (fun k => W.heap.size ≤ k) ⟨k, n, tx, [], []⟩ (dCells ⟨k, n, tx, [], []⟩ (.slice A3 0 c3) (.slice A4 0 c4)) :=
 made_of (k25_mkM w' W.heap.size (fun _ => True) ⟨k, n, tx, [], []⟩ h3 (Kd.R_mono h4 (fun _ _ => trivial))) hb
set_option maxHeartbeats 4000000 in
theorem qp_num (s : ByteArray) (hs : s.size ≤ 1000000000) (a deep : Nat) (ha : a ≤ s.size) (hd : deep ≤ 16) (n : Nat) (c : UInt8) (hl : a < s.size) (hc : (B s)[a]'(at_lt hl) = c) (h0 : isLet c = false) (h1 : isDig c = true) (g : Nat) (w0 w : World) (hgl : GL w0) (hI : IsS61 w0 w g s (a : Int) (deep : Int) 0) (hB : Below w0.heap.size w0 w) :
  Calls Tryz.prog 29 #[.pointer (some ⟨g, 0, none⟩)] w (pieceQ w0 w g s (deep : Int) (pieceS (n + 1) ((B s).drop a) a deep)) := by
 obtain ⟨R, hR⟩ : ∃ R : Res DT, R = pieceS (n + 1) ((B s).drop a) a deep := ⟨_, rfl⟩
 rw [← hR]
 have HRR := Aside0.mk (hR.trans (pieceS_dig n s a deep hl (by rw [hc]; exact h0) (by rw [hc]; exact h1)))
 have HG := Aside0.mk hgl
 have hgw : g < w.heap.size := blk_lt hI.1
 have hg0 : w0.heap.size ≤ g := hI.2
 have hww : w0.heap.size ≤ w.heap.size := hB.size
 have HI1 := Aside0.mk (hI.alloc (.cells zCells 25))
 have HB1 := Aside0.mk (below_alloc hB (.cells zCells 25))
 have HK1 := Aside0.mk (KeepBut.of_below (below_alloc (Below.refl _ w) (.cells zCells 25)) g none)
 have HR1 := Aside0.mk (heap_alloc_new w (.cells zCells 25))
 clear hR hgl hI hB
 go_enter Tryz.func29, Tryz.ntmps29
 go_upto_region 1 with fail
 generalize hW : w.alloc (.cells zCells 25) = W1 at HI1 HB1 HK1 HR1 ⊢
 clear hW
 have q1 : W1.cell? ⟨g, 1, none⟩ = some (.int .i64 (a : Int)) := (blk_cell HI1.out.1 1).trans rfl
 have ta_word := ta_digits_word
 have ta_digits := ta_digits_digits
 have ta_quote := ta_digits_quote
 have ta_open := ta_digits_open
 have HNX := Aside0.mk (dn_dig s hs a ha c hl hc h0 h1 (deep : Int) 0 g w0 W1 HI1.out HB1.out)
 obtain ⟨T, hT⟩ : ∃ T, T = ((B s).drop a).takeWhile isDig := ⟨_, rfl⟩
 have hTl : a + T.length ≤ s.size := by
  have h := tw_le isDig ((B s).drop a)
  rw [← hT, List.length_drop, B_len] at h
  omega
 rw [← hT] at HRR HNX
 have HWH : Aside0 (∀ W, GL W → Calls Tryz.prog 54 #[.string (mkB T)] W fun e w' => e = .returned (.tuple #[.int .i64 (wholeS T).1, .bool (wholeS T).2]) ∧ Below W.heap.size W w') := ⟨fun W h => chars_Whole.calls (mkB T) _ _ W h (by unfold chars_Whole.f; rw [if_pos (by rw [mkB_size]; omega)]; rfl)⟩
 obtain ⟨V, hV⟩ : ∃ V, V = wholeS T := ⟨_, rfl⟩
 rw [← hV] at HRR HWH
 obtain ⟨vn, vb⟩ := V
 clear hT hV hc h0 h1
 have HF : Aside0 (∀ W, IsS61 w0 W g s (((a + T.length : Nat) : Int)) (deep : Int) 0 → Below w0.heap.size w0 W → Calls Tryz.prog 30 #[.pointer (some ⟨g, 0, none⟩), .int .i64 (a : Int), .int .i64 2] W fun e w' => e = .returned (.tuple #[]) ∧ IsS61 w0 w' g s (a : Int) (deep : Int) 2 ∧ Below w0.heap.size w0 w' ∧ KeepBut W w' g none) := ⟨fun W h hb => datum_reader_fail.calls g s _ _ 0 (a : Int) 2 _ _ _ _ w0 W HG.out h hb (dfail_0 s _ _ _ 2)⟩
 cases vb with
 | false =>
  have HRV := Aside0.mk (HRR.out.trans (if_neg (by simp)))
  go_wp2_with (first | (go_at_call 52; go_loud (with_reducible refine HNX.out.mono ?_); rintro e w3 ⟨rfl, hi, hb, hk⟩; have HI3 := Aside0.mk hi; have HB3 := Aside0.mk hb; have HK3 := Aside0.mk (HK1.out.trans hk (.inl rfl)); have HR3 := Aside0.mk (hk.blk HR1.out (by omega) (by simp)); have hy := Lib.cell_of_heap HR3.out; have hz := Lib.frozen_of_heap HR3.out; clear hi hb hk) | (go_at_call 54; go_loud (with_reducible refine (HWH.out _ (HG.out.below HB3.out)).mono ?_); rintro e w7 ⟨rfl, hd⟩; have HI6 := Aside0.mk (HI3.out.below hd); have HB6 := Aside0.mk (below_then HB3.out HB3.out.size hd); have HK6 := Aside0.mk (HK3.out.trans (KeepBut.of_below hd g none) (.inl rfl)); have HR6 := Aside0.mk ((hd.block _ (blk_lt HR3.out)).trans HR3.out); have hy := Lib.cell_of_heap HR6.out; have hz := Lib.frozen_of_heap HR6.out; clear hd) | (go_at_call 30; go_loud (with_reducible refine (HF.out _ HI6.out HB6.out).mono ?_); rintro e w8 ⟨rfl, hi, hb, hk⟩; have HI9 := Aside0.mk hi; have HB9 := Aside0.mk hb; have HK9 := Aside0.mk (HK6.out.trans hk (.inl rfl)); have HR9 := Aside0.mk (hk.blk HR6.out (by omega) (by simp)); have hy := Lib.cell_of_heap HR9.out; have hz := Lib.frozen_of_heap HR9.out; clear hi hb hk))
  refine bodyPost_ret (results_cell_row rfl _ _ w.heap.size 25 _ (0, 0) _ rfl (set_blk (j := 4) (set_blk (j := 3) (set_blk (j := 2) (set_blk (j := 1) (set_blk (j := 0) HR9.out _) _) _) _) _) Tryz.underlying25 rfl (by kernel_rfl)) rfl ?_
  refine finQ (x := ⟨2, vn, em, [], []⟩) (v3 := .slice none 0 0) (v4 := .slice none 0 0) (ok := fun k => w.heap.size < k) HB9.out hww HK9.out hgw (k25_mkM _ w.heap.size _ ⟨2, vn, em, [], []⟩ (Kd.R_nil _ _ _ _ _) (Kd.R_nil _ _ _ _ _)) (fun k hk => by omega) ?_
  rw [HRV.out]
  exact ⟨_, HI9.out⟩
 | true =>
  have HRV := Aside0.mk (HRR.out.trans (if_pos rfl))
  go_wp2_with (first | (go_at_call 52; go_loud (with_reducible refine HNX.out.mono ?_); rintro e w3 ⟨rfl, hi, hb, hk⟩; have HI3 := Aside0.mk hi; have HB3 := Aside0.mk hb; have HK3 := Aside0.mk (HK1.out.trans hk (.inl rfl)); have HR3 := Aside0.mk (hk.blk HR1.out (by omega) (by simp)); have hy := Lib.cell_of_heap HR3.out; have hz := Lib.frozen_of_heap HR3.out; clear hi hb hk) | (go_at_call 54; go_loud (with_reducible refine (HWH.out _ (HG.out.below HB3.out)).mono ?_); rintro e w7 ⟨rfl, hd⟩; have HI9 := Aside0.mk (HI3.out.below hd); have HB9 := Aside0.mk (below_then HB3.out HB3.out.size hd); have HK9 := Aside0.mk (HK3.out.trans (KeepBut.of_below hd g none) (.inl rfl)); have HR9 := Aside0.mk ((hd.block _ (blk_lt HR3.out)).trans HR3.out); have hy := Lib.cell_of_heap HR9.out; have hz := Lib.frozen_of_heap HR9.out; clear hd))
  refine bodyPost_ret (results_cell_row rfl _ _ w.heap.size 25 _ (0, 0) _ rfl (set_blk (j := 4) (set_blk (j := 3) (set_blk (j := 2) (set_blk (j := 1) (set_blk (j := 0) HR9.out _) _) _) _) _) Tryz.underlying25 rfl (by kernel_rfl)) rfl ?_
  refine finQ (x := ⟨2, vn, em, [], []⟩) (v3 := .slice none 0 0) (v4 := .slice none 0 0) (ok := fun k => w.heap.size < k) HB9.out hww HK9.out hgw (k25_mkM _ w.heap.size _ ⟨2, vn, em, [], []⟩ (Kd.R_nil _ _ _ _ _) (Kd.R_nil _ _ _ _ _)) (fun k hk => by omega) ?_
  rw [HRV.out]
  exact ⟨rfl, HI9.out⟩
set_option maxHeartbeats 4000000 in
theorem qp_word (s : ByteArray) (hs : s.size ≤ 1000000000) (a deep : Nat) (ha : a ≤ s.size) (hd : deep ≤ 16) (n : Nat) (c : UInt8) (hl : a < s.size) (hc : (B s)[a]'(at_lt hl) = c) (h0 : isLet c = true) (g : Nat) (w0 w : World) (hgl : GL w0) (hI : IsS61 w0 w g s (a : Int) (deep : Int) 0) (hB : Below w0.heap.size w0 w) :
  Calls Tryz.prog 29 #[.pointer (some ⟨g, 0, none⟩)] w (pieceQ w0 w g s (deep : Int) (pieceS (n + 1) ((B s).drop a) a deep)) := by
 obtain ⟨R, hR⟩ : ∃ R : Res DT, R = pieceS (n + 1) ((B s).drop a) a deep := ⟨_, rfl⟩
 rw [← hR]
 have HRR := Aside0.mk (hR.trans (pieceS_let n s a deep hl (by rw [hc]; exact h0)))
 have HG := Aside0.mk hgl
 have hgw : g < w.heap.size := blk_lt hI.1
 have hg0 : w0.heap.size ≤ g := hI.2
 have hww : w0.heap.size ≤ w.heap.size := hB.size
 have HI1 := Aside0.mk (hI.alloc (.cells zCells 25))
 have HB1 := Aside0.mk (below_alloc hB (.cells zCells 25))
 have HK1 := Aside0.mk (KeepBut.of_below (below_alloc (Below.refl _ w) (.cells zCells 25)) g none)
 have HR1 := Aside0.mk (heap_alloc_new w (.cells zCells 25))
 clear hR hgl hI hB
 go_enter Tryz.func29, Tryz.ntmps29
 go_upto_region 1 with fail
 generalize hW : w.alloc (.cells zCells 25) = W1 at HI1 HB1 HK1 HR1 ⊢
 clear hW
 have q1 : W1.cell? ⟨g, 1, none⟩ = some (.int .i64 (a : Int)) := (blk_cell HI1.out.1 1).trans rfl
 have ta_word := ta_word_word
 have ta_digits := ta_word_digits
 have ta_quote := ta_word_quote
 have ta_open := ta_word_open
 have HNX := Aside0.mk (dn_let s hs a ha c hl hc h0 (deep : Int) 0 g w0 W1 HI1.out HB1.out)
 obtain ⟨T, hT⟩ : ∃ T, T = ((B s).drop a).takeWhile isLet := ⟨_, rfl⟩
 have hTl : a + T.length ≤ s.size := by
  have h := tw_le isLet ((B s).drop a)
  rw [← hT, List.length_drop, B_len] at h
  omega
 rw [← hT] at HRR HNX
 have hTL : (mkB T).toList = T := by rw [toList_B]; rfl
 have HF : Aside0 (∀ W, IsS61 w0 W g s (((a + T.length : Nat) : Int)) (deep : Int) 0 → Below w0.heap.size w0 W → Calls Tryz.prog 30 #[.pointer (some ⟨g, 0, none⟩), .int .i64 (a : Int), .int .i64 2] W fun e w' => e = .returned (.tuple #[]) ∧ IsS61 w0 w' g s (a : Int) (deep : Int) 2 ∧ Below w0.heap.size w0 w' ∧ KeepBut W w' g none) := ⟨fun W h hb => datum_reader_fail.calls g s _ _ 0 (a : Int) 2 _ _ _ _ w0 W HG.out h hb (dfail_0 s _ _ _ 2)⟩
 clear hT hc h0
 by_cases hnone : T = [110, 111, 110, 101]
 ·have HV := Aside0.mk (show datum_named.f (mkB T) = some (0, 0, em, [], [], true) by unfold datum_named.f; rw [hTL, hnone]; rfl)
  have HRV := Aside0.mk (show R = .ok (⟨0, 0, em, [], []⟩ : DT) (a + T.length) ((B s).drop (a + T.length)) by have h := HRR.out; rw [show wordD T = some (⟨0, 0, em, [], []⟩ : DT) by rw [hnone]; rfl] at h; exact h)
  clear hTL hnone
  have HNM : Aside0 (∀ W, GL W → Calls Tryz.prog 53 #[.string (mkB T)] W fun e w' => ∃ v3_ v4_ : Value, e = .returned (.tuple #[.agg #[.int .i64 0, .int .i64 0, .string em, v3_, v4_], .bool true]) ∧ Kd.R Kd.string 9 w' W.heap.size (fun _ => True) v3_ [] ∧ Kd.R k25 25 w' W.heap.size (fun k_ => some k_ ≠ (v3_ : Value).ownBlock) v4_ [] ∧ Below W.heap.size W w') := ⟨fun W h => datum_named.calls (mkB T) _ _ _ _ _ _ W h HV.out⟩
  go_upto_region 6 with (first | (go_at_call 52; go_loud (with_reducible refine HNX.out.mono ?_); rintro e w3 ⟨rfl, hi, hb, hk⟩; have HI3 := Aside0.mk hi; have HB3 := Aside0.mk hb; have HK3 := Aside0.mk (HK1.out.trans hk (.inl rfl)); have HR3 := Aside0.mk (hk.blk HR1.out (by omega) (by simp)); have hy := Lib.cell_of_heap HR3.out; have hz := Lib.frozen_of_heap HR3.out; clear hi hb hk) | (go_at_call 53; go_loud (with_reducible refine (HNM.out _ (HG.out.below HB3.out)).mono ?_); rintro e w7 ⟨v3, v4, rfl, h3, h4, hd⟩; obtain ⟨A3, c3, rfl⟩ := Kd.R_slice h3; obtain ⟨A4, c4, rfl⟩ := Kd.R_slice h4; have HI7 := Aside0.mk (HI3.out.below hd); have HB7 := Aside0.mk (below_then HB3.out HB3.out.size hd); have HK7 := Aside0.mk (HK3.out.trans (KeepBut.of_below hd g none) (.inl rfl)); have HR7 := Aside0.mk ((hd.block _ (blk_lt HR3.out)).trans HR3.out); have HM7 := Aside0.mk (named_made (k := 0) (n := 0) (tx := em) h3 h4 (Nat.le_of_lt (blk_lt HR3.out))); have HWZ := Aside0.mk (blk_lt HR3.out); clear h3 h4 hd))
  have HI8 := Aside0.mk (HI7.out.alloc (.cells #[.int .i64 0, .int .i64 0, .string ⟨#[]⟩, .slice A3 0 c3, .slice A4 0 c4] 25))
  have HB8 := Aside0.mk (below_alloc HB7.out (.cells #[.int .i64 0, .int .i64 0, .string ⟨#[]⟩, .slice A3 0 c3, .slice A4 0 c4] 25))
  have HK8 := Aside0.mk (HK7.out.trans (KeepBut.of_below (below_alloc (Below.refl _ w7) (.cells #[.int .i64 0, .int .i64 0, .string ⟨#[]⟩, .slice A3 0 c3, .slice A4 0 c4] 25)) g none) (.inl rfl))
  have HR8 := Aside0.mk (((below_alloc (Below.refl _ w7) (.cells #[.int .i64 0, .int .i64 0, .string ⟨#[]⟩, .slice A3 0 c3, .slice A4 0 c4] 25)).block _ (blk_lt HR7.out)).trans HR7.out)
  have HM8 := Aside0.mk (Kd.M_below HM7.out (below_alloc (Below.refl _ w7) (.cells #[.int .i64 0, .int .i64 0, .string ⟨#[]⟩, .slice A3 0 c3, .slice A4 0 c4] 25)))
  have HD8 := Aside0.mk (heap_alloc_new w7 (.cells #[.int .i64 0, .int .i64 0, .string ⟨#[]⟩, .slice A3 0 c3, .slice A4 0 c4] 25))
  have hw7 : w.heap.size < w7.heap.size := blk_lt HR7.out
  generalize hW : w7.alloc (.cells #[.int .i64 0, .int .i64 0, .string ⟨#[]⟩, .slice A3 0 c3, .slice A4 0 c4] 25) = W8 at HI8 HB8 HK8 HR8 HM8 HD8 ⊢
  clear hW hy hz
  have d0 := (blk_cell HD8.out 0).trans rfl
  have d1 := (blk_cell HD8.out 1).trans rfl
  have d2 := (blk_cell HD8.out 2).trans rfl
  have d3 := (blk_cell HD8.out 3).trans rfl
  have d4 := (blk_cell HD8.out 4).trans rfl
  have hy := Lib.cell_of_heap HR8.out
  have hz := Lib.frozen_of_heap HR8.out
  go_wp2_with fail
  refine bodyPost_ret (results_cell_row rfl _ _ w.heap.size 25 _ (0, 0) _ rfl (set_blk (j := 4) (set_blk (j := 3) (set_blk (j := 2) (set_blk (j := 1) (set_blk (j := 0) HR8.out _) _) _) _) _) Tryz.underlying25 rfl (by kernel_rfl)) rfl ?_
  refine finQ (x := ⟨0, 0, em, [], []⟩) (v3 := .slice A3 0 c3) (v4 := .slice A4 0 c4) HB8.out hww HK8.out hgw HM8.out (fun k hk => by have := HWZ.out; omega) ?_
  rw [HRV.out]
  exact ⟨rfl, HI8.out⟩
 by_cases hno : T = [110, 111]
 ·have HV := Aside0.mk (show datum_named.f (mkB T) = some (1, 0, em, [], [], true) by unfold datum_named.f; rw [hTL, hno]; rfl)
  have HRV := Aside0.mk (show R = .ok (⟨1, 0, em, [], []⟩ : DT) (a + T.length) ((B s).drop (a + T.length)) by have h := HRR.out; rw [show wordD T = some (⟨1, 0, em, [], []⟩ : DT) by rw [hno]; rfl] at h; exact h)
  clear hTL hno hnone
  have HNM : Aside0 (∀ W, GL W → Calls Tryz.prog 53 #[.string (mkB T)] W fun e w' => ∃ v3_ v4_ : Value, e = .returned (.tuple #[.agg #[.int .i64 1, .int .i64 0, .string em, v3_, v4_], .bool true]) ∧ Kd.R Kd.string 9 w' W.heap.size (fun _ => True) v3_ [] ∧ Kd.R k25 25 w' W.heap.size (fun k_ => some k_ ≠ (v3_ : Value).ownBlock) v4_ [] ∧ Below W.heap.size W w') := ⟨fun W h => datum_named.calls (mkB T) _ _ _ _ _ _ W h HV.out⟩
  go_upto_region 6 with (first | (go_at_call 52; go_loud (with_reducible refine HNX.out.mono ?_); rintro e w3 ⟨rfl, hi, hb, hk⟩; have HI3 := Aside0.mk hi; have HB3 := Aside0.mk hb; have HK3 := Aside0.mk (HK1.out.trans hk (.inl rfl)); have HR3 := Aside0.mk (hk.blk HR1.out (by omega) (by simp)); have hy := Lib.cell_of_heap HR3.out; have hz := Lib.frozen_of_heap HR3.out; clear hi hb hk) | (go_at_call 53; go_loud (with_reducible refine (HNM.out _ (HG.out.below HB3.out)).mono ?_); rintro e w7 ⟨v3, v4, rfl, h3, h4, hd⟩; obtain ⟨A3, c3, rfl⟩ := Kd.R_slice h3; obtain ⟨A4, c4, rfl⟩ := Kd.R_slice h4; have HI7 := Aside0.mk (HI3.out.below hd); have HB7 := Aside0.mk (below_then HB3.out HB3.out.size hd); have HK7 := Aside0.mk (HK3.out.trans (KeepBut.of_below hd g none) (.inl rfl)); have HR7 := Aside0.mk ((hd.block _ (blk_lt HR3.out)).trans HR3.out); have HM7 := Aside0.mk (named_made (k := 1) (n := 0) (tx := em) h3 h4 (Nat.le_of_lt (blk_lt HR3.out))); have HWZ := Aside0.mk (blk_lt HR3.out); clear h3 h4 hd))
  have HI8 := Aside0.mk (HI7.out.alloc (.cells #[.int .i64 1, .int .i64 0, .string ⟨#[]⟩, .slice A3 0 c3, .slice A4 0 c4] 25))
  have HB8 := Aside0.mk (below_alloc HB7.out (.cells #[.int .i64 1, .int .i64 0, .string ⟨#[]⟩, .slice A3 0 c3, .slice A4 0 c4] 25))
  have HK8 := Aside0.mk (HK7.out.trans (KeepBut.of_below (below_alloc (Below.refl _ w7) (.cells #[.int .i64 1, .int .i64 0, .string ⟨#[]⟩, .slice A3 0 c3, .slice A4 0 c4] 25)) g none) (.inl rfl))
  have HR8 := Aside0.mk (((below_alloc (Below.refl _ w7) (.cells #[.int .i64 1, .int .i64 0, .string ⟨#[]⟩, .slice A3 0 c3, .slice A4 0 c4] 25)).block _ (blk_lt HR7.out)).trans HR7.out)
  have HM8 := Aside0.mk (Kd.M_below HM7.out (below_alloc (Below.refl _ w7) (.cells #[.int .i64 1, .int .i64 0, .string ⟨#[]⟩, .slice A3 0 c3, .slice A4 0 c4] 25)))
  have HD8 := Aside0.mk (heap_alloc_new w7 (.cells #[.int .i64 1, .int .i64 0, .string ⟨#[]⟩, .slice A3 0 c3, .slice A4 0 c4] 25))
  have hw7 : w.heap.size < w7.heap.size := blk_lt HR7.out
  generalize hW : w7.alloc (.cells #[.int .i64 1, .int .i64 0, .string ⟨#[]⟩, .slice A3 0 c3, .slice A4 0 c4] 25) = W8 at HI8 HB8 HK8 HR8 HM8 HD8 ⊢
  clear hW hy hz
  have d0 := (blk_cell HD8.out 0).trans rfl
  have d1 := (blk_cell HD8.out 1).trans rfl
  have d2 := (blk_cell HD8.out 2).trans rfl
  have d3 := (blk_cell HD8.out 3).trans rfl
  have d4 := (blk_cell HD8.out 4).trans rfl
  have hy := Lib.cell_of_heap HR8.out
  have hz := Lib.frozen_of_heap HR8.out
  go_wp2_with fail
  refine bodyPost_ret (results_cell_row rfl _ _ w.heap.size 25 _ (0, 0) _ rfl (set_blk (j := 4) (set_blk (j := 3) (set_blk (j := 2) (set_blk (j := 1) (set_blk (j := 0) HR8.out _) _) _) _) _) Tryz.underlying25 rfl (by kernel_rfl)) rfl ?_
  refine finQ (x := ⟨1, 0, em, [], []⟩) (v3 := .slice A3 0 c3) (v4 := .slice A4 0 c4) HB8.out hww HK8.out hgw HM8.out (fun k hk => by have := HWZ.out; omega) ?_
  rw [HRV.out]
  exact ⟨rfl, HI8.out⟩
 by_cases hyes : T = [121, 101, 115]
 ·have HV := Aside0.mk (show datum_named.f (mkB T) = some (1, 1, em, [], [], true) by unfold datum_named.f; rw [hTL, hyes]; rfl)
  have HRV := Aside0.mk (show R = .ok (⟨1, 1, em, [], []⟩ : DT) (a + T.length) ((B s).drop (a + T.length)) by have h := HRR.out; rw [show wordD T = some (⟨1, 1, em, [], []⟩ : DT) by rw [hyes]; rfl] at h; exact h)
  clear hTL hyes hnone hno
  have HNM : Aside0 (∀ W, GL W → Calls Tryz.prog 53 #[.string (mkB T)] W fun e w' => ∃ v3_ v4_ : Value, e = .returned (.tuple #[.agg #[.int .i64 1, .int .i64 1, .string em, v3_, v4_], .bool true]) ∧ Kd.R Kd.string 9 w' W.heap.size (fun _ => True) v3_ [] ∧ Kd.R k25 25 w' W.heap.size (fun k_ => some k_ ≠ (v3_ : Value).ownBlock) v4_ [] ∧ Below W.heap.size W w') := ⟨fun W h => datum_named.calls (mkB T) _ _ _ _ _ _ W h HV.out⟩
  go_upto_region 6 with (first | (go_at_call 52; go_loud (with_reducible refine HNX.out.mono ?_); rintro e w3 ⟨rfl, hi, hb, hk⟩; have HI3 := Aside0.mk hi; have HB3 := Aside0.mk hb; have HK3 := Aside0.mk (HK1.out.trans hk (.inl rfl)); have HR3 := Aside0.mk (hk.blk HR1.out (by omega) (by simp)); have hy := Lib.cell_of_heap HR3.out; have hz := Lib.frozen_of_heap HR3.out; clear hi hb hk) | (go_at_call 53; go_loud (with_reducible refine (HNM.out _ (HG.out.below HB3.out)).mono ?_); rintro e w7 ⟨v3, v4, rfl, h3, h4, hd⟩; obtain ⟨A3, c3, rfl⟩ := Kd.R_slice h3; obtain ⟨A4, c4, rfl⟩ := Kd.R_slice h4; have HI7 := Aside0.mk (HI3.out.below hd); have HB7 := Aside0.mk (below_then HB3.out HB3.out.size hd); have HK7 := Aside0.mk (HK3.out.trans (KeepBut.of_below hd g none) (.inl rfl)); have HR7 := Aside0.mk ((hd.block _ (blk_lt HR3.out)).trans HR3.out); have HM7 := Aside0.mk (named_made (k := 1) (n := 1) (tx := em) h3 h4 (Nat.le_of_lt (blk_lt HR3.out))); have HWZ := Aside0.mk (blk_lt HR3.out); clear h3 h4 hd))
  have HI8 := Aside0.mk (HI7.out.alloc (.cells #[.int .i64 1, .int .i64 1, .string ⟨#[]⟩, .slice A3 0 c3, .slice A4 0 c4] 25))
  have HB8 := Aside0.mk (below_alloc HB7.out (.cells #[.int .i64 1, .int .i64 1, .string ⟨#[]⟩, .slice A3 0 c3, .slice A4 0 c4] 25))
  have HK8 := Aside0.mk (HK7.out.trans (KeepBut.of_below (below_alloc (Below.refl _ w7) (.cells #[.int .i64 1, .int .i64 1, .string ⟨#[]⟩, .slice A3 0 c3, .slice A4 0 c4] 25)) g none) (.inl rfl))
  have HR8 := Aside0.mk (((below_alloc (Below.refl _ w7) (.cells #[.int .i64 1, .int .i64 1, .string ⟨#[]⟩, .slice A3 0 c3, .slice A4 0 c4] 25)).block _ (blk_lt HR7.out)).trans HR7.out)
  have HM8 := Aside0.mk (Kd.M_below HM7.out (below_alloc (Below.refl _ w7) (.cells #[.int .i64 1, .int .i64 1, .string ⟨#[]⟩, .slice A3 0 c3, .slice A4 0 c4] 25)))
  have HD8 := Aside0.mk (heap_alloc_new w7 (.cells #[.int .i64 1, .int .i64 1, .string ⟨#[]⟩, .slice A3 0 c3, .slice A4 0 c4] 25))
  have hw7 : w.heap.size < w7.heap.size := blk_lt HR7.out
  generalize hW : w7.alloc (.cells #[.int .i64 1, .int .i64 1, .string ⟨#[]⟩, .slice A3 0 c3, .slice A4 0 c4] 25) = W8 at HI8 HB8 HK8 HR8 HM8 HD8 ⊢
  clear hW hy hz
  have d0 := (blk_cell HD8.out 0).trans rfl
  have d1 := (blk_cell HD8.out 1).trans rfl
  have d2 := (blk_cell HD8.out 2).trans rfl
  have d3 := (blk_cell HD8.out 3).trans rfl
  have d4 := (blk_cell HD8.out 4).trans rfl
  have hy := Lib.cell_of_heap HR8.out
  have hz := Lib.frozen_of_heap HR8.out
  go_wp2_with fail
  refine bodyPost_ret (results_cell_row rfl _ _ w.heap.size 25 _ (0, 0) _ rfl (set_blk (j := 4) (set_blk (j := 3) (set_blk (j := 2) (set_blk (j := 1) (set_blk (j := 0) HR8.out _) _) _) _) _) Tryz.underlying25 rfl (by kernel_rfl)) rfl ?_
  refine finQ (x := ⟨1, 1, em, [], []⟩) (v3 := .slice A3 0 c3) (v4 := .slice A4 0 c4) HB8.out hww HK8.out hgw HM8.out (fun k hk => by have := HWZ.out; omega) ?_
  rw [HRV.out]
  exact ⟨rfl, HI8.out⟩
 have HV := Aside0.mk (show datum_named.f (mkB T) = some (0, 0, em, [], [], false) by unfold datum_named.f; rw [hTL, if_neg hnone, if_neg hno, if_neg hyes])
 have HRV := Aside0.mk (show R = .err a 2 by have h := HRR.out; rw [show (wordD T : Option DT) = none by unfold wordD; rw [if_neg hnone, if_neg hno, if_neg hyes]] at h; exact h)
 clear hTL hnone hno hyes
 have HNM : Aside0 (∀ W, GL W → Calls Tryz.prog 53 #[.string (mkB T)] W fun e w' => ∃ v3_ v4_ : Value, e = .returned (.tuple #[.agg #[.int .i64 0, .int .i64 0, .string em, v3_, v4_], .bool false]) ∧ Kd.R Kd.string 9 w' W.heap.size (fun _ => True) v3_ [] ∧ Kd.R k25 25 w' W.heap.size (fun k_ => some k_ ≠ (v3_ : Value).ownBlock) v4_ [] ∧ Below W.heap.size W w') := ⟨fun W h => datum_named.calls (mkB T) _ _ _ _ _ _ W h HV.out⟩
 go_upto_region 6 with (first | (go_at_call 52; go_loud (with_reducible refine HNX.out.mono ?_); rintro e w3 ⟨rfl, hi, hb, hk⟩; have HI3 := Aside0.mk hi; have HB3 := Aside0.mk hb; have HK3 := Aside0.mk (HK1.out.trans hk (.inl rfl)); have HR3 := Aside0.mk (hk.blk HR1.out (by omega) (by simp)); have hy := Lib.cell_of_heap HR3.out; have hz := Lib.frozen_of_heap HR3.out; clear hi hb hk) | (go_at_call 53; go_loud (with_reducible refine (HNM.out _ (HG.out.below HB3.out)).mono ?_); rintro e w7 ⟨v3, v4, rfl, h3, h4, hd⟩; obtain ⟨A3, c3, rfl⟩ := Kd.R_slice h3; obtain ⟨A4, c4, rfl⟩ := Kd.R_slice h4; have HI7 := Aside0.mk (HI3.out.below hd); have HB7 := Aside0.mk (below_then HB3.out HB3.out.size hd); have HK7 := Aside0.mk (HK3.out.trans (KeepBut.of_below hd g none) (.inl rfl)); have HR7 := Aside0.mk ((hd.block _ (blk_lt HR3.out)).trans HR3.out); have HM7 := Aside0.mk (named_made (k := 0) (n := 0) (tx := em) h3 h4 (Nat.le_of_lt (blk_lt HR3.out))); have HWZ := Aside0.mk (blk_lt HR3.out); clear h3 h4 hd))
 have HI8 := Aside0.mk (HI7.out.alloc (.cells #[.int .i64 0, .int .i64 0, .string ⟨#[]⟩, .slice A3 0 c3, .slice A4 0 c4] 25))
 have HB8 := Aside0.mk (below_alloc HB7.out (.cells #[.int .i64 0, .int .i64 0, .string ⟨#[]⟩, .slice A3 0 c3, .slice A4 0 c4] 25))
 have HK8 := Aside0.mk (HK7.out.trans (KeepBut.of_below (below_alloc (Below.refl _ w7) (.cells #[.int .i64 0, .int .i64 0, .string ⟨#[]⟩, .slice A3 0 c3, .slice A4 0 c4] 25)) g none) (.inl rfl))
 have HR8 := Aside0.mk (((below_alloc (Below.refl _ w7) (.cells #[.int .i64 0, .int .i64 0, .string ⟨#[]⟩, .slice A3 0 c3, .slice A4 0 c4] 25)).block _ (blk_lt HR7.out)).trans HR7.out)
 have HM8 := Aside0.mk (Kd.M_below HM7.out (below_alloc (Below.refl _ w7) (.cells #[.int .i64 0, .int .i64 0, .string ⟨#[]⟩, .slice A3 0 c3, .slice A4 0 c4] 25)))
 have HD8 := Aside0.mk (heap_alloc_new w7 (.cells #[.int .i64 0, .int .i64 0, .string ⟨#[]⟩, .slice A3 0 c3, .slice A4 0 c4] 25))
 have hw7 : w.heap.size < w7.heap.size := blk_lt HR7.out
 generalize hW : w7.alloc (.cells #[.int .i64 0, .int .i64 0, .string ⟨#[]⟩, .slice A3 0 c3, .slice A4 0 c4] 25) = W8 at HI8 HB8 HK8 HR8 HM8 HD8 ⊢
 clear hW hy hz
 go_wp2_with (go_at_call 30; go_loud (with_reducible refine (HF.out _ HI8.out HB8.out).mono ?_); rintro e w9 ⟨rfl, hi, hb, hk⟩; have HI9 := Aside0.mk hi; have HB9 := Aside0.mk hb; have HK9 := Aside0.mk (HK8.out.trans hk (.inl rfl)); have HR9 := Aside0.mk (hk.blk HR8.out (by omega) (by simp)); have HM9 := Aside0.mk (Kd.M_keep HM8.out hk (fun k hk => by have := HWZ.out; omega)); have HD9 := hk.blk HD8.out (by omega) (by simp); have d0 := (blk_cell HD9 0).trans rfl; have d1 := (blk_cell HD9 1).trans rfl; have d2 := (blk_cell HD9 2).trans rfl; have d3 := (blk_cell HD9 3).trans rfl; have d4 := (blk_cell HD9 4).trans rfl; have hy := Lib.cell_of_heap HR9.out; have hz := Lib.frozen_of_heap HR9.out; clear hi hb hk HD9)
 refine bodyPost_ret (results_cell_row rfl _ _ w.heap.size 25 _ (0, 0) _ rfl (set_blk (j := 4) (set_blk (j := 3) (set_blk (j := 2) (set_blk (j := 1) (set_blk (j := 0) HR9.out _) _) _) _) _) Tryz.underlying25 rfl (by kernel_rfl)) rfl ?_
 refine finQ (x := ⟨0, 0, em, [], []⟩) (v3 := .slice A3 0 c3) (v4 := .slice A4 0 c4) HB9.out hww HK9.out hgw HM9.out (fun k hk => by have := HWZ.out; omega) ?_
 rw [HRV.out]
 exact ⟨_, HI9.out⟩
set_option maxHeartbeats 4000000 in
theorem qp_quo (s : ByteArray) (hs : s.size ≤ 1000000000) (a deep : Nat) (ha : a ≤ s.size) (hd : deep ≤ 16) (n : Nat) (hl : a < s.size) (hc : (B s)[a]'(at_lt hl) = 34)  (g : Nat) (w0 w : World) (hgl : GL w0) (hI : IsS61 w0 w g s (a : Int) (deep : Int) 0) (hB : Below w0.heap.size w0 w) :
  Calls Tryz.prog 29 #[.pointer (some ⟨g, 0, none⟩)] w (pieceQ w0 w g s (deep : Int) (pieceS (n + 1) ((B s).drop a) a deep)) := by
 obtain ⟨R, hR⟩ : ∃ R : Res DT, R = pieceS (n + 1) ((B s).drop a) a deep := ⟨_, rfl⟩
 rw [← hR]
 have HRR := Aside0.mk (hR.trans (pieceS_quo n s a deep hl hc))
 have HG := Aside0.mk hgl
 have hgw : g < w.heap.size := blk_lt hI.1
 have hg0 : w0.heap.size ≤ g := hI.2
 have hww : w0.heap.size ≤ w.heap.size := hB.size
 have HI1 := Aside0.mk (hI.alloc (.cells zCells 25))
 have HB1 := Aside0.mk (below_alloc hB (.cells zCells 25))
 have HK1 := Aside0.mk (KeepBut.of_below (below_alloc (Below.refl _ w) (.cells zCells 25)) g none)
 have HR1 := Aside0.mk (heap_alloc_new w (.cells zCells 25))
 clear hR hgl hI hB
 go_enter Tryz.func29, Tryz.ntmps29
 go_upto_region 1 with fail
 generalize hW : w.alloc (.cells zCells 25) = W1 at HI1 HB1 HK1 HR1 ⊢
 clear hW
 have q1 : W1.cell? ⟨g, 1, none⟩ = some (.int .i64 (a : Int)) := (blk_cell HI1.out.1 1).trans rfl
 have ta_word := ta_quote_word
 have ta_digits := ta_quote_digits
 have ta_quote := ta_quote_quote
 have ta_open := ta_quote_open
 have HNX := Aside0.mk (dn_quo s hs a ha hl hc (deep : Int) 0 g w0 W1 HI1.out HB1.out)
 clear hc
 go_upto_region 17 with (go_at_call 52; go_loud (with_reducible refine HNX.out.mono ?_); rintro e w3 ⟨rfl, hi, hb, hk⟩; have HI3 := Aside0.mk hi; have HB3 := Aside0.mk hb; have HK3 := Aside0.mk (HK1.out.trans hk (.inl rfl)); have HR3 := Aside0.mk (hk.blk HR1.out (by omega) (by simp)); have hy := Lib.cell_of_heap HR3.out; have hz := Lib.frozen_of_heap HR3.out; clear hi hb hk)
 have HI5 := Aside0.mk (HI3.out.alloc (.cells #[] 93))
 have HB5 := Aside0.mk (below_alloc HB3.out (.cells #[] 93))
 have HK5 := Aside0.mk (HK3.out.trans (KeepBut.of_below (below_alloc (Below.refl _ w3) (.cells #[] 93)) g none) (.inl rfl))
 have HR5 := Aside0.mk (((below_alloc (Below.refl _ w3) (.cells #[] 93)).block _ (blk_lt HR3.out)).trans HR3.out)
 generalize hW : w3.alloc (.cells #[] 93) = W5 at HI5 HB5 HK5 HR5 ⊢
 clear hW hy hz
 have HX := Aside0.mk (qtext_c s hs (a + 1) (by omega) (deep : Int) g w0 W5 HG.out HI5.out HB5.out)
 go_wp2_with (go_at_call 55; go_loud (with_reducible refine HX.out.mono ?_); rintro e w6 ⟨hb, hk, x, v3, v4, rfl, hm, hst⟩; obtain ⟨A3, c3, A4, c4, rfl, rfl⟩ := made_slices hm; have HB9 := Aside0.mk hb; have HK9 := Aside0.mk (HK5.out.trans hk (.inl rfl)); have HR9 := Aside0.mk (hk.blk HR5.out (by omega) (by simp)); have hy := Lib.cell_of_heap HR9.out; have hz := Lib.frozen_of_heap HR9.out; have HM9 := Aside0.mk (made_of hm (Nat.le_of_lt (blk_lt HR5.out))); have HS9 := Aside0.mk hst; have HW9 := Aside0.mk (blk_lt HR5.out); clear hb hk hm hst)
 refine bodyPost_ret (results_cell_row rfl _ _ w.heap.size 25 _ (0, 0) _ rfl (set_blk (j := 4) (set_blk (j := 3) (set_blk (j := 2) (set_blk (j := 1) (set_blk (j := 0) HR9.out _) _) _) _) _) Tryz.underlying25 rfl (by kernel_rfl)) rfl ?_
 exact finQ HB9.out hww HK9.out hgw HM9.out (fun k hk => by have := HW9.out; omega) (by rw [HRR.out]; exact HS9.out)
set_option maxHeartbeats 4000000 in
theorem qp_list16 (s : ByteArray) (hs : s.size ≤ 1000000000) (a deep : Nat) (ha : a ≤ s.size) (hd : deep ≤ 16) (n : Nat) (hl : a < s.size) (hc : (B s)[a]'(at_lt hl) = 91) (h16 : deep = 16) (g : Nat) (w0 w : World) (hgl : GL w0) (hI : IsS61 w0 w g s (a : Int) (deep : Int) 0) (hB : Below w0.heap.size w0 w) :
  Calls Tryz.prog 29 #[.pointer (some ⟨g, 0, none⟩)] w (pieceQ w0 w g s (deep : Int) (pieceS (n + 1) ((B s).drop a) a deep)) := by
 obtain ⟨R, hR⟩ : ∃ R : Res DT, R = pieceS (n + 1) ((B s).drop a) a deep := ⟨_, rfl⟩
 rw [← hR]
 have HRR := Aside0.mk (hR.trans ((pieceS_open n s a deep hl false (by rw [hc]; rfl)).trans (if_pos (by omega))))
 have HG := Aside0.mk hgl
 have hgw : g < w.heap.size := blk_lt hI.1
 have hg0 : w0.heap.size ≤ g := hI.2
 have hww : w0.heap.size ≤ w.heap.size := hB.size
 have HI1 := Aside0.mk (hI.alloc (.cells zCells 25))
 have HB1 := Aside0.mk (below_alloc hB (.cells zCells 25))
 have HK1 := Aside0.mk (KeepBut.of_below (below_alloc (Below.refl _ w) (.cells zCells 25)) g none)
 have HR1 := Aside0.mk (heap_alloc_new w (.cells zCells 25))
 clear hR hgl hI hB
 go_enter Tryz.func29, Tryz.ntmps29
 go_upto_region 1 with fail
 generalize hW : w.alloc (.cells zCells 25) = W1 at HI1 HB1 HK1 HR1 ⊢
 clear hW
 have q1 : W1.cell? ⟨g, 1, none⟩ = some (.int .i64 (a : Int)) := (blk_cell HI1.out.1 1).trans rfl
 have ta_word := ta_open_word
 have ta_digits := ta_open_digits
 have ta_quote := ta_open_quote
 have ta_open := ta_open_open
 subst h16
 have HNX := Aside0.mk (dn_list s hs a ha hl hc ((16 : Nat) : Int) 0 g w0 W1 HI1.out HB1.out)
 rw [show ((16 : Nat) : Int) = 16 from rfl] at HNX
 clear hc
 have HF : Aside0 (∀ W, IsS61 w0 W g s ((a + 1 : Nat) : Int) 17 0 → Below w0.heap.size w0 W → Calls Tryz.prog 30 #[.pointer (some ⟨g, 0, none⟩), .int .i64 (a : Int), .int .i64 11] W fun e w' => e = .returned (.tuple #[]) ∧ IsS61 w0 w' g s (a : Int) 17 11 ∧ Below w0.heap.size w0 w' ∧ KeepBut W w' g none) := ⟨fun W h hb => datum_reader_fail.calls g s _ _ 0 (a : Int) 11 _ _ _ _ w0 W HG.out h hb (dfail_0 s _ _ _ 11)⟩
 go_wp2_with (first | (go_at_call 52; go_loud (with_reducible refine HNX.out.mono ?_); rintro e w3 ⟨rfl, hi, hb, hk⟩; have HI3 := Aside0.mk hi; have HB3 := Aside0.mk hb; have HK3 := Aside0.mk (HK1.out.trans hk (.inl rfl)); have HR3 := Aside0.mk (hk.blk HR1.out (by omega) (by simp)); have hy := Lib.cell_of_heap HR3.out; have hz := Lib.frozen_of_heap HR3.out; have q32 := (blk_cell HI3.out.1 2).trans (show _ = some (.int .i64 16) from rfl); have f32 := blk_frozen HI3.out.1 2; have HI5 := Aside0.mk (HI3.out.set_2 17); have HB5 := Aside0.mk (HB3.out.setCell (p := ⟨g, 2, none⟩) hg0 (.int .i64 17)); have HK5 := Aside0.mk (HK3.out.set_ 2 (.int .i64 17)); have HR5 := Aside0.mk (blk_far HR3.out (p := ⟨g, 2, none⟩) (by show w.heap.size ≠ g; omega) (.int .i64 17)); clear hi hb hk) | (go_at_call 30; go_loud (with_reducible refine (HF.out _ HI5.out HB5.out).mono ?_); rintro e w6 ⟨rfl, hi, hb, hk⟩; have HI9 := Aside0.mk hi; have HB9 := Aside0.mk hb; have HK9 := Aside0.mk (HK5.out.trans hk (.inl rfl)); have HR9 := Aside0.mk (hk.blk HR5.out (by omega) (by simp)); have hy := Lib.cell_of_heap HR9.out; have hz := Lib.frozen_of_heap HR9.out; clear hi hb hk))
 refine bodyPost_ret (results_cell_row rfl _ _ w.heap.size 25 _ (0, 0) _ rfl (set_blk (j := 4) (set_blk (j := 3) (set_blk (j := 2) (set_blk (j := 1) (set_blk (j := 0) HR9.out _) _) _) _) _) Tryz.underlying25 rfl (by kernel_rfl)) rfl ?_
 refine finQ (x := ⟨0, 0, em, [], []⟩) (v3 := .slice none 0 0) (v4 := .slice none 0 0) (ok := fun k => w.heap.size < k) HB9.out hww HK9.out hgw (k25_mkM _ w.heap.size _ ⟨0, 0, em, [], []⟩ (Kd.R_nil _ _ _ _ _) (Kd.R_nil _ _ _ _ _)) (fun k hk => by omega) ?_
 rw [HRR.out]
 exact ⟨_, HI9.out⟩
set_option maxHeartbeats 4000000 in
theorem qp_list (s : ByteArray) (hs : s.size ≤ 1000000000) (a deep : Nat) (ha : a ≤ s.size) (hd : deep ≤ 16) (n : Nat) (hl : a < s.size) (hc : (B s)[a]'(at_lt hl) = 91) (h16 : deep < 16) (hf : 3 * (s.size - a) ≤ n) (ih : ∀ k, k < n → PieceQ s k) (g : Nat) (w0 w : World) (hgl : GL w0) (hI : IsS61 w0 w g s (a : Int) (deep : Int) 0) (hB : Below w0.heap.size w0 w) :
  Calls Tryz.prog 29 #[.pointer (some ⟨g, 0, none⟩)] w (pieceQ w0 w g s (deep : Int) (pieceS (n + 1) ((B s).drop a) a deep)) := by
 obtain ⟨R, hR⟩ : ∃ R : Res DT, R = pieceS (n + 1) ((B s).drop a) a deep := ⟨_, rfl⟩
 rw [← hR]
 have HRR := Aside0.mk (hR.trans ((pieceS_open n s a deep hl false (by rw [hc]; rfl)).trans (if_neg (by omega))))
 have HG := Aside0.mk hgl
 have hgw : g < w.heap.size := blk_lt hI.1
 have hg0 : w0.heap.size ≤ g := hI.2
 have hww : w0.heap.size ≤ w.heap.size := hB.size
 have HI1 := Aside0.mk (hI.alloc (.cells zCells 25))
 have HB1 := Aside0.mk (below_alloc hB (.cells zCells 25))
 have HK1 := Aside0.mk (KeepBut.of_below (below_alloc (Below.refl _ w) (.cells zCells 25)) g none)
 have HR1 := Aside0.mk (heap_alloc_new w (.cells zCells 25))
 clear hR hgl hI hB
 go_enter Tryz.func29, Tryz.ntmps29
 go_upto_region 1 with fail
 generalize hW : w.alloc (.cells zCells 25) = W1 at HI1 HB1 HK1 HR1 ⊢
 clear hW
 have q1 : W1.cell? ⟨g, 1, none⟩ = some (.int .i64 (a : Int)) := (blk_cell HI1.out.1 1).trans rfl
 have ta_word := ta_open_word
 have ta_digits := ta_open_digits
 have ta_quote := ta_open_quote
 have ta_open := ta_open_open
 have HNX := Aside0.mk (dn_list s hs a ha hl hc (deep : Int) 0 g w0 W1 HI1.out HB1.out)
 have HX : Aside0 (∀ W, IsS61 w0 W g s ((a + 1 : Nat) : Int) ((deep : Int) + 1) 0 → Below w0.heap.size w0 W → Calls Tryz.prog 56 #[.pointer (some ⟨g, 0, none⟩), .bool false] W (pieceQ w0 W g s ((deep + 1 : Nat) : Int) (allS n s (a + 1) deep false))) := ⟨fun W h hb => qall_list s hs (a + 1) (by omega) deep h16 n (by omega) ih g w0 W HG.out (by rw [show ((deep + 1 : Nat) : Int) = (deep : Int) + 1 by omega]; exact h) hb⟩
 obtain ⟨R1, hR1⟩ : ∃ R1 : Res DT, R1 = allS n s (a + 1) deep false := ⟨_, rfl⟩
 rw [← hR1] at HX HRR
 clear hc ih hR1
 go_upto_region 24 with (go_at_call 52; go_loud (with_reducible refine HNX.out.mono ?_); rintro e w3 ⟨rfl, hi, hb, hk⟩; have HI3 := Aside0.mk hi; have HB3 := Aside0.mk hb; have HK3 := Aside0.mk (HK1.out.trans hk (.inl rfl)); have HR3 := Aside0.mk (hk.blk HR1.out (by omega) (by simp)); have hy := Lib.cell_of_heap HR3.out; have hz := Lib.frozen_of_heap HR3.out; have q32 := (blk_cell HI3.out.1 2).trans (show _ = some (.int .i64 (deep : Int)) from rfl); have f32 := blk_frozen HI3.out.1 2; have HI5 := Aside0.mk (HI3.out.set_2 ((deep : Int) + 1)); have HB5 := Aside0.mk (HB3.out.setCell (p := ⟨g, 2, none⟩) hg0 (.int .i64 ((deep : Int) + 1))); have HK5 := Aside0.mk (HK3.out.set_ 2 (.int .i64 ((deep : Int) + 1))); have HR5 := Aside0.mk (blk_far HR3.out (p := ⟨g, 2, none⟩) (by show w.heap.size ≠ g; omega) (.int .i64 ((deep : Int) + 1))); clear hi hb hk)
 go_upto_region 25 with (go_at_call 56; go_loud (with_reducible refine (HX.out _ HI5.out HB5.out).mono ?_); rintro e w6 ⟨hb, hk, x, v3, v4, rfl, hm, hst⟩; obtain ⟨A3, c3, A4, c4, rfl, rfl⟩ := made_slices hm; have HB9 := Aside0.mk hb; have HK9 := Aside0.mk (HK5.out.trans hk (.inl rfl)); have HR9 := Aside0.mk (hk.blk HR5.out (by omega) (by simp)); have hy := Lib.cell_of_heap HR9.out; have hz := Lib.frozen_of_heap HR9.out; have HM9 := Aside0.mk (made_of hm (Nat.le_of_lt (blk_lt HR5.out))); have HS9 := Aside0.mk hst; have HW9 := Aside0.mk (blk_lt HR5.out); clear hb hk hm hst)
 have hw6 : w.heap.size < w6.heap.size := blk_lt HR9.out
 have HB7 := Aside0.mk (below_alloc HB9.out (.cells #[.int .i64 x.f0, .int .i64 x.f1, .string x.f2, .slice A3 x.f3.length c3, .slice A4 x.f4.length c4] 25))
 have HK7 := Aside0.mk (HK9.out.trans (KeepBut.of_below (below_alloc (Below.refl _ w6) (.cells #[.int .i64 x.f0, .int .i64 x.f1, .string x.f2, .slice A3 x.f3.length c3, .slice A4 x.f4.length c4] 25)) g none) (.inl rfl))
 have HR7 := Aside0.mk (((below_alloc (Below.refl _ w6) (.cells #[.int .i64 x.f0, .int .i64 x.f1, .string x.f2, .slice A3 x.f3.length c3, .slice A4 x.f4.length c4] 25)).block _ (blk_lt HR9.out)).trans HR9.out)
 have HM7 := Aside0.mk (Kd.M_below HM9.out (below_alloc (Below.refl _ w6) (.cells #[.int .i64 x.f0, .int .i64 x.f1, .string x.f2, .slice A3 x.f3.length c3, .slice A4 x.f4.length c4] 25)))
 have HD7 := Aside0.mk (heap_alloc_new w6 (.cells #[.int .i64 x.f0, .int .i64 x.f1, .string x.f2, .slice A3 x.f3.length c3, .slice A4 x.f4.length c4] 25))
 have HZ7 := Aside0.mk (below_alloc (Below.refl _ w6) (.cells #[.int .i64 x.f0, .int .i64 x.f1, .string x.f2, .slice A3 x.f3.length c3, .slice A4 x.f4.length c4] 25))
 generalize hW : w6.alloc (.cells #[.int .i64 x.f0, .int .i64 x.f1, .string x.f2, .slice A3 x.f3.length c3, .slice A4 x.f4.length c4] 25) = W7 at HB7 HK7 HR7 HM7 HD7 HZ7 ⊢
 clear hW hy hz
 cases R1 with
 | err p c =>
  obtain ⟨op', hi⟩ := HS9.out
  have HI7 := Aside0.mk (hi.below HZ7.out)
  clear hi HS9
  have q2 := (blk_cell HI7.out.1 2).trans rfl
  have f2 := blk_frozen HI7.out.1 2
  have HI8 := Aside0.mk (HI7.out.set_2 (wrap64 (op' - 1)))
  have HB8 := Aside0.mk (HB7.out.setCell (p := ⟨g, 2, none⟩) hg0 (.int .i64 (wrap64 (op' - 1))))
  have HK8 := Aside0.mk (HK7.out.set_ 2 (.int .i64 (wrap64 (op' - 1))))
  have HR8 := Aside0.mk (blk_far HR7.out (p := ⟨g, 2, none⟩) (by show w.heap.size ≠ g; omega) (.int .i64 (wrap64 (op' - 1))))
  have HD8 := Aside0.mk (blk_far HD7.out (p := ⟨g, 2, none⟩) (by show w6.heap.size ≠ g; omega) (.int .i64 (wrap64 (op' - 1))))
  have HM8 := Aside0.mk (Kd.M_far HM7.out (p := ⟨g, 2, none⟩) (fun k hk => by have := HW9.out; show k ≠ g; omega) (.int .i64 (wrap64 (op' - 1))))
  have d0 := (blk_cell HD8.out 0).trans rfl
  have d1 := (blk_cell HD8.out 1).trans rfl
  have d2 := (blk_cell HD8.out 2).trans rfl
  have d3 := (blk_cell HD8.out 3).trans rfl
  have d4 := (blk_cell HD8.out 4).trans rfl
  have hy := Lib.cell_of_heap HR8.out
  have hz := Lib.frozen_of_heap HR8.out
  go_wp2_with fail
  refine bodyPost_ret (results_cell_row rfl _ _ w.heap.size 25 _ (0, 0) _ rfl (set_blk (j := 4) (set_blk (j := 3) (set_blk (j := 2) (set_blk (j := 1) (set_blk (j := 0) HR8.out _) _) _) _) _) Tryz.underlying25 rfl (by kernel_rfl)) rfl ?_
  exact finQ (x := x) HB8.out hww HK8.out hgw HM8.out (fun k hk => by have := HW9.out; omega) (by rw [HRR.out]; exact ⟨_, HI8.out⟩)
 | ok d a2 r =>
  obtain ⟨rfl, hi⟩ := HS9.out
  have HI7 := Aside0.mk (hi.below HZ7.out)
  rw [show ((deep + 1 : Nat) : Int) = (deep : Int) + 1 by omega] at HI7
  clear hi HS9
  have q2 := (blk_cell HI7.out.1 2).trans rfl
  have f2 := blk_frozen HI7.out.1 2
  have HI8 := Aside0.mk (HI7.out.set_2 (deep : Int))
  have HB8 := Aside0.mk (HB7.out.setCell (p := ⟨g, 2, none⟩) hg0 (.int .i64 (deep : Int)))
  have HK8 := Aside0.mk (HK7.out.set_ 2 (.int .i64 (deep : Int)))
  have HR8 := Aside0.mk (blk_far HR7.out (p := ⟨g, 2, none⟩) (by show w.heap.size ≠ g; omega) (.int .i64 (deep : Int)))
  have HD8 := Aside0.mk (blk_far HD7.out (p := ⟨g, 2, none⟩) (by show w6.heap.size ≠ g; omega) (.int .i64 (deep : Int)))
  have HM8 := Aside0.mk (Kd.M_far HM7.out (p := ⟨g, 2, none⟩) (fun k hk => by have := HW9.out; show k ≠ g; omega) (.int .i64 (deep : Int)))
  have d0 := (blk_cell HD8.out 0).trans rfl
  have d1 := (blk_cell HD8.out 1).trans rfl
  have d2 := (blk_cell HD8.out 2).trans rfl
  have d3 := (blk_cell HD8.out 3).trans rfl
  have d4 := (blk_cell HD8.out 4).trans rfl
  have hy := Lib.cell_of_heap HR8.out
  have hz := Lib.frozen_of_heap HR8.out
  go_wp2_with fail
  refine bodyPost_ret (results_cell_row rfl _ _ w.heap.size 25 _ (0, 0) _ rfl (set_blk (j := 4) (set_blk (j := 3) (set_blk (j := 2) (set_blk (j := 1) (set_blk (j := 0) HR8.out _) _) _) _) _) Tryz.underlying25 rfl (by kernel_rfl)) rfl ?_
  exact finQ (x := x) HB8.out hww HK8.out hgw HM8.out (fun k hk => by have := HW9.out; omega) (by rw [HRR.out]; exact ⟨rfl, HI8.out⟩)
set_option maxHeartbeats 4000000 in
theorem qp_rec16 (s : ByteArray) (hs : s.size ≤ 1000000000) (a deep : Nat) (ha : a ≤ s.size) (hd : deep ≤ 16) (n : Nat) (hl : a < s.size) (hc : (B s)[a]'(at_lt hl) = 123) (h16 : deep = 16) (g : Nat) (w0 w : World) (hgl : GL w0) (hI : IsS61 w0 w g s (a : Int) (deep : Int) 0) (hB : Below w0.heap.size w0 w) :
  Calls Tryz.prog 29 #[.pointer (some ⟨g, 0, none⟩)] w (pieceQ w0 w g s (deep : Int) (pieceS (n + 1) ((B s).drop a) a deep)) := by
 obtain ⟨R, hR⟩ : ∃ R : Res DT, R = pieceS (n + 1) ((B s).drop a) a deep := ⟨_, rfl⟩
 rw [← hR]
 have HRR := Aside0.mk (hR.trans ((pieceS_open n s a deep hl true (by rw [hc]; rfl)).trans (if_pos (by omega))))
 have HG := Aside0.mk hgl
 have hgw : g < w.heap.size := blk_lt hI.1
 have hg0 : w0.heap.size ≤ g := hI.2
 have hww : w0.heap.size ≤ w.heap.size := hB.size
 have HI1 := Aside0.mk (hI.alloc (.cells zCells 25))
 have HB1 := Aside0.mk (below_alloc hB (.cells zCells 25))
 have HK1 := Aside0.mk (KeepBut.of_below (below_alloc (Below.refl _ w) (.cells zCells 25)) g none)
 have HR1 := Aside0.mk (heap_alloc_new w (.cells zCells 25))
 clear hR hgl hI hB
 go_enter Tryz.func29, Tryz.ntmps29
 go_upto_region 1 with fail
 generalize hW : w.alloc (.cells zCells 25) = W1 at HI1 HB1 HK1 HR1 ⊢
 clear hW
 have q1 : W1.cell? ⟨g, 1, none⟩ = some (.int .i64 (a : Int)) := (blk_cell HI1.out.1 1).trans rfl
 have ta_word := ta_open_word
 have ta_digits := ta_open_digits
 have ta_quote := ta_open_quote
 have ta_open := ta_open_open
 subst h16
 have HNX := Aside0.mk (dn_rec s hs a ha hl hc ((16 : Nat) : Int) 0 g w0 W1 HI1.out HB1.out)
 rw [show ((16 : Nat) : Int) = 16 from rfl] at HNX
 clear hc
 have HF : Aside0 (∀ W, IsS61 w0 W g s ((a + 1 : Nat) : Int) 17 0 → Below w0.heap.size w0 W → Calls Tryz.prog 30 #[.pointer (some ⟨g, 0, none⟩), .int .i64 (a : Int), .int .i64 11] W fun e w' => e = .returned (.tuple #[]) ∧ IsS61 w0 w' g s (a : Int) 17 11 ∧ Below w0.heap.size w0 w' ∧ KeepBut W w' g none) := ⟨fun W h hb => datum_reader_fail.calls g s _ _ 0 (a : Int) 11 _ _ _ _ w0 W HG.out h hb (dfail_0 s _ _ _ 11)⟩
 go_wp2_with (first | (go_at_call 52; go_loud (with_reducible refine HNX.out.mono ?_); rintro e w3 ⟨rfl, hi, hb, hk⟩; have HI3 := Aside0.mk hi; have HB3 := Aside0.mk hb; have HK3 := Aside0.mk (HK1.out.trans hk (.inl rfl)); have HR3 := Aside0.mk (hk.blk HR1.out (by omega) (by simp)); have hy := Lib.cell_of_heap HR3.out; have hz := Lib.frozen_of_heap HR3.out; have q32 := (blk_cell HI3.out.1 2).trans (show _ = some (.int .i64 16) from rfl); have f32 := blk_frozen HI3.out.1 2; have HI5 := Aside0.mk (HI3.out.set_2 17); have HB5 := Aside0.mk (HB3.out.setCell (p := ⟨g, 2, none⟩) hg0 (.int .i64 17)); have HK5 := Aside0.mk (HK3.out.set_ 2 (.int .i64 17)); have HR5 := Aside0.mk (blk_far HR3.out (p := ⟨g, 2, none⟩) (by show w.heap.size ≠ g; omega) (.int .i64 17)); clear hi hb hk) | (go_at_call 30; go_loud (with_reducible refine (HF.out _ HI5.out HB5.out).mono ?_); rintro e w6 ⟨rfl, hi, hb, hk⟩; have HI9 := Aside0.mk hi; have HB9 := Aside0.mk hb; have HK9 := Aside0.mk (HK5.out.trans hk (.inl rfl)); have HR9 := Aside0.mk (hk.blk HR5.out (by omega) (by simp)); have hy := Lib.cell_of_heap HR9.out; have hz := Lib.frozen_of_heap HR9.out; clear hi hb hk))
 refine bodyPost_ret (results_cell_row rfl _ _ w.heap.size 25 _ (0, 0) _ rfl (set_blk (j := 4) (set_blk (j := 3) (set_blk (j := 2) (set_blk (j := 1) (set_blk (j := 0) HR9.out _) _) _) _) _) Tryz.underlying25 rfl (by kernel_rfl)) rfl ?_
 refine finQ (x := ⟨0, 0, em, [], []⟩) (v3 := .slice none 0 0) (v4 := .slice none 0 0) (ok := fun k => w.heap.size < k) HB9.out hww HK9.out hgw (k25_mkM _ w.heap.size _ ⟨0, 0, em, [], []⟩ (Kd.R_nil _ _ _ _ _) (Kd.R_nil _ _ _ _ _)) (fun k hk => by omega) ?_
 rw [HRR.out]
 exact ⟨_, HI9.out⟩
set_option maxHeartbeats 4000000 in
theorem qp_rec (s : ByteArray) (hs : s.size ≤ 1000000000) (a deep : Nat) (ha : a ≤ s.size) (hd : deep ≤ 16) (n : Nat) (hl : a < s.size) (hc : (B s)[a]'(at_lt hl) = 123) (h16 : deep < 16) (hf : 3 * (s.size - a) ≤ n) (ih : ∀ k, k < n → PieceQ s k) (g : Nat) (w0 w : World) (hgl : GL w0) (hI : IsS61 w0 w g s (a : Int) (deep : Int) 0) (hB : Below w0.heap.size w0 w) :
  Calls Tryz.prog 29 #[.pointer (some ⟨g, 0, none⟩)] w (pieceQ w0 w g s (deep : Int) (pieceS (n + 1) ((B s).drop a) a deep)) := by
 obtain ⟨R, hR⟩ : ∃ R : Res DT, R = pieceS (n + 1) ((B s).drop a) a deep := ⟨_, rfl⟩
 rw [← hR]
 have HRR := Aside0.mk (hR.trans ((pieceS_open n s a deep hl true (by rw [hc]; rfl)).trans (if_neg (by omega))))
 have HG := Aside0.mk hgl
 have hgw : g < w.heap.size := blk_lt hI.1
 have hg0 : w0.heap.size ≤ g := hI.2
 have hww : w0.heap.size ≤ w.heap.size := hB.size
 have HI1 := Aside0.mk (hI.alloc (.cells zCells 25))
 have HB1 := Aside0.mk (below_alloc hB (.cells zCells 25))
 have HK1 := Aside0.mk (KeepBut.of_below (below_alloc (Below.refl _ w) (.cells zCells 25)) g none)
 have HR1 := Aside0.mk (heap_alloc_new w (.cells zCells 25))
 clear hR hgl hI hB
 go_enter Tryz.func29, Tryz.ntmps29
 go_upto_region 1 with fail
 generalize hW : w.alloc (.cells zCells 25) = W1 at HI1 HB1 HK1 HR1 ⊢
 clear hW
 have q1 : W1.cell? ⟨g, 1, none⟩ = some (.int .i64 (a : Int)) := (blk_cell HI1.out.1 1).trans rfl
 have ta_word := ta_open_word
 have ta_digits := ta_open_digits
 have ta_quote := ta_open_quote
 have ta_open := ta_open_open
 have HNX := Aside0.mk (dn_rec s hs a ha hl hc (deep : Int) 0 g w0 W1 HI1.out HB1.out)
 have HX : Aside0 (∀ W, IsS61 w0 W g s ((a + 1 : Nat) : Int) ((deep : Int) + 1) 0 → Below w0.heap.size w0 W → Calls Tryz.prog 56 #[.pointer (some ⟨g, 0, none⟩), .bool true] W (pieceQ w0 W g s ((deep + 1 : Nat) : Int) (allS n s (a + 1) deep true))) := ⟨fun W h hb => qall_rec s hs (a + 1) (by omega) deep h16 n (by omega) ih g w0 W HG.out (by rw [show ((deep + 1 : Nat) : Int) = (deep : Int) + 1 by omega]; exact h) hb⟩
 obtain ⟨R1, hR1⟩ : ∃ R1 : Res DT, R1 = allS n s (a + 1) deep true := ⟨_, rfl⟩
 rw [← hR1] at HX HRR
 clear hc ih hR1
 go_upto_region 24 with (go_at_call 52; go_loud (with_reducible refine HNX.out.mono ?_); rintro e w3 ⟨rfl, hi, hb, hk⟩; have HI3 := Aside0.mk hi; have HB3 := Aside0.mk hb; have HK3 := Aside0.mk (HK1.out.trans hk (.inl rfl)); have HR3 := Aside0.mk (hk.blk HR1.out (by omega) (by simp)); have hy := Lib.cell_of_heap HR3.out; have hz := Lib.frozen_of_heap HR3.out; have q32 := (blk_cell HI3.out.1 2).trans (show _ = some (.int .i64 (deep : Int)) from rfl); have f32 := blk_frozen HI3.out.1 2; have HI5 := Aside0.mk (HI3.out.set_2 ((deep : Int) + 1)); have HB5 := Aside0.mk (HB3.out.setCell (p := ⟨g, 2, none⟩) hg0 (.int .i64 ((deep : Int) + 1))); have HK5 := Aside0.mk (HK3.out.set_ 2 (.int .i64 ((deep : Int) + 1))); have HR5 := Aside0.mk (blk_far HR3.out (p := ⟨g, 2, none⟩) (by show w.heap.size ≠ g; omega) (.int .i64 ((deep : Int) + 1))); clear hi hb hk)
 go_upto_region 25 with (go_at_call 56; go_loud (with_reducible refine (HX.out _ HI5.out HB5.out).mono ?_); rintro e w6 ⟨hb, hk, x, v3, v4, rfl, hm, hst⟩; obtain ⟨A3, c3, A4, c4, rfl, rfl⟩ := made_slices hm; have HB9 := Aside0.mk hb; have HK9 := Aside0.mk (HK5.out.trans hk (.inl rfl)); have HR9 := Aside0.mk (hk.blk HR5.out (by omega) (by simp)); have hy := Lib.cell_of_heap HR9.out; have hz := Lib.frozen_of_heap HR9.out; have HM9 := Aside0.mk (made_of hm (Nat.le_of_lt (blk_lt HR5.out))); have HS9 := Aside0.mk hst; have HW9 := Aside0.mk (blk_lt HR5.out); clear hb hk hm hst)
 have hw6 : w.heap.size < w6.heap.size := blk_lt HR9.out
 have HB7 := Aside0.mk (below_alloc HB9.out (.cells #[.int .i64 x.f0, .int .i64 x.f1, .string x.f2, .slice A3 x.f3.length c3, .slice A4 x.f4.length c4] 25))
 have HK7 := Aside0.mk (HK9.out.trans (KeepBut.of_below (below_alloc (Below.refl _ w6) (.cells #[.int .i64 x.f0, .int .i64 x.f1, .string x.f2, .slice A3 x.f3.length c3, .slice A4 x.f4.length c4] 25)) g none) (.inl rfl))
 have HR7 := Aside0.mk (((below_alloc (Below.refl _ w6) (.cells #[.int .i64 x.f0, .int .i64 x.f1, .string x.f2, .slice A3 x.f3.length c3, .slice A4 x.f4.length c4] 25)).block _ (blk_lt HR9.out)).trans HR9.out)
 have HM7 := Aside0.mk (Kd.M_below HM9.out (below_alloc (Below.refl _ w6) (.cells #[.int .i64 x.f0, .int .i64 x.f1, .string x.f2, .slice A3 x.f3.length c3, .slice A4 x.f4.length c4] 25)))
 have HD7 := Aside0.mk (heap_alloc_new w6 (.cells #[.int .i64 x.f0, .int .i64 x.f1, .string x.f2, .slice A3 x.f3.length c3, .slice A4 x.f4.length c4] 25))
 have HZ7 := Aside0.mk (below_alloc (Below.refl _ w6) (.cells #[.int .i64 x.f0, .int .i64 x.f1, .string x.f2, .slice A3 x.f3.length c3, .slice A4 x.f4.length c4] 25))
 generalize hW : w6.alloc (.cells #[.int .i64 x.f0, .int .i64 x.f1, .string x.f2, .slice A3 x.f3.length c3, .slice A4 x.f4.length c4] 25) = W7 at HB7 HK7 HR7 HM7 HD7 HZ7 ⊢
 clear hW hy hz
 cases R1 with
 | err p c =>
  obtain ⟨op', hi⟩ := HS9.out
  have HI7 := Aside0.mk (hi.below HZ7.out)
  clear hi HS9
  have q2 := (blk_cell HI7.out.1 2).trans rfl
  have f2 := blk_frozen HI7.out.1 2
  have HI8 := Aside0.mk (HI7.out.set_2 (wrap64 (op' - 1)))
  have HB8 := Aside0.mk (HB7.out.setCell (p := ⟨g, 2, none⟩) hg0 (.int .i64 (wrap64 (op' - 1))))
  have HK8 := Aside0.mk (HK7.out.set_ 2 (.int .i64 (wrap64 (op' - 1))))
  have HR8 := Aside0.mk (blk_far HR7.out (p := ⟨g, 2, none⟩) (by show w.heap.size ≠ g; omega) (.int .i64 (wrap64 (op' - 1))))
  have HD8 := Aside0.mk (blk_far HD7.out (p := ⟨g, 2, none⟩) (by show w6.heap.size ≠ g; omega) (.int .i64 (wrap64 (op' - 1))))
  have HM8 := Aside0.mk (Kd.M_far HM7.out (p := ⟨g, 2, none⟩) (fun k hk => by have := HW9.out; show k ≠ g; omega) (.int .i64 (wrap64 (op' - 1))))
  have d0 := (blk_cell HD8.out 0).trans rfl
  have d1 := (blk_cell HD8.out 1).trans rfl
  have d2 := (blk_cell HD8.out 2).trans rfl
  have d3 := (blk_cell HD8.out 3).trans rfl
  have d4 := (blk_cell HD8.out 4).trans rfl
  have hy := Lib.cell_of_heap HR8.out
  have hz := Lib.frozen_of_heap HR8.out
  go_wp2_with fail
  refine bodyPost_ret (results_cell_row rfl _ _ w.heap.size 25 _ (0, 0) _ rfl (set_blk (j := 4) (set_blk (j := 3) (set_blk (j := 2) (set_blk (j := 1) (set_blk (j := 0) HR8.out _) _) _) _) _) Tryz.underlying25 rfl (by kernel_rfl)) rfl ?_
  exact finQ (x := x) HB8.out hww HK8.out hgw HM8.out (fun k hk => by have := HW9.out; omega) (by rw [HRR.out]; exact ⟨_, HI8.out⟩)
 | ok d a2 r =>
  obtain ⟨rfl, hi⟩ := HS9.out
  have HI7 := Aside0.mk (hi.below HZ7.out)
  rw [show ((deep + 1 : Nat) : Int) = (deep : Int) + 1 by omega] at HI7
  clear hi HS9
  have q2 := (blk_cell HI7.out.1 2).trans rfl
  have f2 := blk_frozen HI7.out.1 2
  have HI8 := Aside0.mk (HI7.out.set_2 (deep : Int))
  have HB8 := Aside0.mk (HB7.out.setCell (p := ⟨g, 2, none⟩) hg0 (.int .i64 (deep : Int)))
  have HK8 := Aside0.mk (HK7.out.set_ 2 (.int .i64 (deep : Int)))
  have HR8 := Aside0.mk (blk_far HR7.out (p := ⟨g, 2, none⟩) (by show w.heap.size ≠ g; omega) (.int .i64 (deep : Int)))
  have HD8 := Aside0.mk (blk_far HD7.out (p := ⟨g, 2, none⟩) (by show w6.heap.size ≠ g; omega) (.int .i64 (deep : Int)))
  have HM8 := Aside0.mk (Kd.M_far HM7.out (p := ⟨g, 2, none⟩) (fun k hk => by have := HW9.out; show k ≠ g; omega) (.int .i64 (deep : Int)))
  have d0 := (blk_cell HD8.out 0).trans rfl
  have d1 := (blk_cell HD8.out 1).trans rfl
  have d2 := (blk_cell HD8.out 2).trans rfl
  have d3 := (blk_cell HD8.out 3).trans rfl
  have d4 := (blk_cell HD8.out 4).trans rfl
  have hy := Lib.cell_of_heap HR8.out
  have hz := Lib.frozen_of_heap HR8.out
  go_wp2_with fail
  refine bodyPost_ret (results_cell_row rfl _ _ w.heap.size 25 _ (0, 0) _ rfl (set_blk (j := 4) (set_blk (j := 3) (set_blk (j := 2) (set_blk (j := 1) (set_blk (j := 0) HR8.out _) _) _) _) _) Tryz.underlying25 rfl (by kernel_rfl)) rfl ?_
  exact finQ (x := x) HB8.out hww HK8.out hgw HM8.out (fun k hk => by have := HW9.out; omega) (by rw [HRR.out]; exact ⟨rfl, HI8.out⟩)
/-- The reader's piece. -/
theorem qpiece_c (s : ByteArray) (hs : s.size ≤ 1000000000) (n : Nat) : PieceQ s n := by
 induction n using Nat.strongRecOn with
 | _ n ih =>
  intro a deep ha hd hf g w0 w hgl hI hB
  obtain ⟨n, rfl⟩ : ∃ k, n = k + 1 := ⟨n - 1, by omega⟩
  by_cases hl : a < s.size
  rotate_left
  ·exact qp_end s hs a deep ha hd n (by omega) g w0 w hgl hI hB
  obtain ⟨c, hc⟩ : ∃ c, (B s)[a]'(at_lt hl) = c := ⟨_, rfl⟩
  by_cases h0 : isLet c = true
  ·exact qp_word s hs a deep ha hd n c hl hc h0 g w0 w hgl hI hB
  have h0' : isLet c = false := by simpa using h0
  by_cases h1 : isDig c = true
  ·exact qp_num s hs a deep ha hd n c hl hc h0' h1 g w0 w hgl hI hB
  have h1' : isDig c = false := by simpa using h1
  by_cases h34 : c = 34
  ·exact qp_quo s hs a deep ha hd n hl (by rw [hc, h34]) g w0 w hgl hI hB
  by_cases h91 : c = 91
  ·by_cases h16 : deep = 16
   ·exact qp_list16 s hs a deep ha hd n hl (by rw [hc, h91]) h16 g w0 w hgl hI hB
   ·exact qp_list s hs a deep ha hd n hl (by rw [hc, h91]) (by omega) (by omega) (fun k hk => ih k (by omega)) g w0 w hgl hI hB
  by_cases h123 : c = 123
  ·by_cases h16 : deep = 16
   ·exact qp_rec16 s hs a deep ha hd n hl (by rw [hc, h123]) h16 g w0 w hgl hI hB
   ·exact qp_rec s hs a deep ha hd n hl (by rw [hc, h123]) (by omega) (by omega) (fun k hk => ih k (by omega)) g w0 w hgl hI hB
  exact qp_bad s hs a deep ha hd n c hl hc h0' h1' h34 h91 h123 g w0 w hgl hI hB
end Go.Proofs.YtidcecpbihmloaaGreatDoorE

namespace Go.Proofs.YtidcecpbihmloaaGreatDoorE
open Go Go.RowKit Go.Proofs.YtidcecpbihmloaaGreatDoorW.PrintWords Go.Proofs.YtidcecpbihmloaaGreatDoorW.PrintMore Go.Proofs.YtidcecpbihmloaaGreatDoorW.PrintLast Go.Proofs.YtidcecpbihmloaaGreatDoorX Go.Proofs.YtidcecpbihmloaaGreatDoor.P16 Go.Proofs.YtidcecpbihmloaaGreatDoor.M02
set_option linter.unusedVariables false
set_option linter.unusedSimpArgs false
set_option maxRecDepth 100000
set_option maxHeartbeats 8000000 in
theorem qParse_c (s : ByteArray) (hs : s.size ≤ 1000000000) (w : World) (hgl : GL w) :
  Calls Tryz.prog 16 #[.string s] w (parseP w (parseS (B s))) := by
 have HG := Aside0.mk hgl
 have HI1 := Aside0.mk (IsS61.new w (w.alloc (.cells zCells 25)) s 0 0 0 (below_alloc (Below.refl _ _) _))
 have HB1 := Aside0.mk (below_alloc (below_alloc (Below.refl w.heap.size w) (.cells zCells 25)) (.cells #[.string s, .int .i64 0, .int .i64 0, .int .i64 0] 61))
 have HR1 := Aside0.mk (two_old_ w (.cells zCells 25) (.cells #[.string s, .int .i64 0, .int .i64 0, .int .i64 0] 61))
 rw [show (w.alloc (.cells zCells 25)).heap.size = w.heap.size + 1 by simp] at HI1
 have HP := Aside0.mk (qpiece_c s hs (3 * (B s).length + 1) 0 0 (Nat.zero_le _) (by omega) (by rw [B_len]; omega) (w.heap.size + 1) w _ hgl HI1.out HB1.out)
 rw [List.drop_zero, show ((0 : Nat) : Int) = 0 from rfl] at HP
 obtain ⟨R1, hR1⟩ : ∃ R1 : Res DT, R1 = pieceS (3 * (B s).length + 1) (B s) 0 0 := ⟨_, rfl⟩
 obtain ⟨PS, hPS⟩ : ∃ PS : DT × Nat × Int, PS = parseS (B s) := ⟨_, rfl⟩
 have HPS := Aside0.mk (hPS.trans (parseS_of (B s)))
 rw [← hPS]
 rw [← hR1] at HP HPS
 have HR := Aside0.mk hR1
 clear hPS hR1 hgl
 go_enter Tryz.func16, Tryz.ntmps16
 go_upto_region 3 with (go_at_call 29; go_loud (with_reducible refine HP.out.mono ?_); rintro e w3 ⟨hb, hk, x, v3, v4, rfl, hm, hst⟩; obtain ⟨A3, c3, A4, c4, rfl, rfl⟩ := made_slices hm; have HB3 := Aside0.mk hb; have HK3 := Aside0.mk hk; have HM3 := Aside0.mk hm; have HS3 := Aside0.mk hst; clear hb hk hm hst)
 have hsz3 : w.heap.size + 1 < w3.heap.size := by have h := HK3.out.1; simp at h; omega
 have HR4 := Aside0.mk (((below_alloc (Below.refl _ w3) (.cells #[.int .i64 x.f0, .int .i64 x.f1, .string x.f2, .slice A3 x.f3.length c3, .slice A4 x.f4.length c4] 25)).block w.heap.size (by omega)).trans (HK3.out.blk HR1.out (by omega) (by simp)))
 have HD4 := Aside0.mk (heap_alloc_new w3 (.cells #[.int .i64 x.f0, .int .i64 x.f1, .string x.f2, .slice A3 x.f3.length c3, .slice A4 x.f4.length c4] 25))
 have HB4 := Aside0.mk (below_alloc HB3.out (.cells #[.int .i64 x.f0, .int .i64 x.f1, .string x.f2, .slice A3 x.f3.length c3, .slice A4 x.f4.length c4] 25))
 have HM4 := Aside0.mk (Kd.M_below (made_of (b := w.heap.size + 1) HM3.out (by simp)) (below_alloc (Below.refl _ w3) (.cells #[.int .i64 x.f0, .int .i64 x.f1, .string x.f2, .slice A3 x.f3.length c3, .slice A4 x.f4.length c4] 25)))
 have HW4 := Aside0.mk (below_alloc (Below.refl _ w3) (.cells #[.int .i64 x.f0, .int .i64 x.f1, .string x.f2, .slice A3 x.f3.length c3, .slice A4 x.f4.length c4] 25))
 generalize hW : w3.alloc (.cells #[.int .i64 x.f0, .int .i64 x.f1, .string x.f2, .slice A3 x.f3.length c3, .slice A4 x.f4.length c4] 25) = W4 at HR4 HD4 HB4 HM4 HW4 ⊢
 clear hW HI1 HB1 HR1 HP HB3 HK3 HM3
 cases R1 with
 | err p c =>
  obtain ⟨op', hi⟩ := HS3.out
  have HI4 := Aside0.mk (hi.below HW4.out)
  have hc : c ≠ 0 := by rcases (err_code _).1 _ _ _ _ _ HR.out.symm with e | e <;> rw [e] <;> decide
  have hcb : (c != 0) = true := by simpa using hc
  have q1 : W4.cell? ⟨w.heap.size + 1, 1, none⟩ = some (.int .i64 (p : Int)) := (blk_cell HI4.out.1 1).trans rfl
  have HF : Aside0 (Calls Tryz.prog 30 #[.pointer (some ⟨w.heap.size + 1, 0, none⟩), .int .i64 (p : Int), .int .i64 2] W4 fun e w' => e = .returned (.tuple #[]) ∧ IsS61 w w' (w.heap.size + 1) s (p : Int) op' c ∧ Below w.heap.size w w' ∧ KeepBut W4 w' (w.heap.size + 1) none) := ⟨datum_reader_fail.calls (w.heap.size + 1) s (p : Int) op' c (p : Int) 2 _ _ _ _ w W4 HG.out HI4.out HB4.out (dfail_er s (p : Int) op' c _ _ hc)⟩
  clear hi hc HS3
  go_upto_if 18 with fail
  go_cut [] from 18 to 24 (fun wc => Aside0 (IsS61 w wc (w.heap.size + 1) s (p : Int) op' c ∧ Below w.heap.size w wc ∧ wc.heap[w.heap.size]? = some (.cells zCells 25 (0, 0))))
  case first =>
   by_cases hlt : p < s.size
   ·go_wp2_with (go_at_call 30; go_loud (with_reducible refine HF.out.mono ?_); rintro e w6 ⟨rfl, hi6, hb6, hk6⟩; have HI6 := Aside0.mk hi6; have HB6 := Aside0.mk hb6; have HR6 := Aside0.mk (hk6.blk HR4.out (by omega) (by simp)); clear hi6 hb6 hk6)
    go_meet
    exact ⟨HI6.out, HB6.out, HR6.out⟩
   ·have hlt2 : decide (p < s.size) = false := decide_eq_false hlt
    go_wp2_with fail
    go_meet
    exact ⟨HI4.out, HB4.out, HR4.out⟩
  have HI5 := Aside0.mk hcut.out.1
  have HB5 := Aside0.mk hcut.out.2.1
  have HR9 := Aside0.mk hcut.out.2.2
  clear hcut HI4 HB4 HR4 HD4 HM4 HW4 HF q1
  have q1 : wc.cell? ⟨w.heap.size + 1, 1, none⟩ = some (.int .i64 (p : Int)) := (blk_cell HI5.out.1 1).trans rfl
  have q3 : wc.cell? ⟨w.heap.size + 1, 3, none⟩ = some (.int .i64 c) := (blk_cell HI5.out.1 3).trans rfl
  have hy := Lib.cell_of_heap HR9.out
  have hz := Lib.frozen_of_heap HR9.out
  go_wp2_with fail
  go_region
  go_wp2_with fail
  refine bodyPost_ret (results_ctt rfl _ _ w.heap.size 25 _ (0, 0) _ rfl (drew_blk (set_blk (j := 4) (set_blk (j := 3) (set_blk (j := 2) (set_blk (j := 1) (set_blk (j := 0) HR9.out _) _) _) _) _)) Tryz.underlying25 rfl (by kernel_rfl)) rfl ?_
  rw [HPS.out]
  exact finPd (p := (zeroD, p, c)) (ok := fun k => w.heap.size < k) (base := w.heap.size) HB5.out (zeroM _ _ _) (fun k hk => by omega)
 | ok d a r =>
  obtain ⟨rfl, hi⟩ := HS3.out
  have hx := okD_piece (a := 0) (by omega) (show pieceS _ ((B s).drop 0) 0 0 = .ok x a r by rw [List.drop_zero]; exact HR.out.symm)
  obtain ⟨k, hk1, hk2, hk3⟩ := piece_at HR.out.symm
  rw [B_len] at hk1
  rw [Nat.zero_add] at hk2
  subst hk2
  have HI4 := Aside0.mk (hi.below HW4.out)
  have q1 : W4.cell? ⟨w.heap.size + 1, 1, none⟩ = some (.int .i64 (a : Int)) := (blk_cell HI4.out.1 1).trans rfl
  have HX := Aside0.mk hx
  have HK3 := Aside0.mk hk3
  clear hi hx HS3 hk3
  by_cases hlt : a < s.size
  ·have HF : Aside0 (Calls Tryz.prog 30 #[.pointer (some ⟨w.heap.size + 1, 0, none⟩), .int .i64 (a : Int), .int .i64 2] W4 fun e w' => e = .returned (.tuple #[]) ∧ IsS61 w w' (w.heap.size + 1) s (a : Int) 0 2 ∧ Below w.heap.size w w' ∧ KeepBut W4 w' (w.heap.size + 1) none) := ⟨datum_reader_fail.calls (w.heap.size + 1) s _ 0 0 (a : Int) 2 _ _ _ _ w W4 HG.out HI4.out HB4.out (dfail_0 s _ 0 _ 2)⟩
   have HV := Aside0.mk (show PS = (zeroD, a, 2) from HPS.out.trans (if_pos (by
    rw [HK3.out]
    intro e
    have := congrArg List.length e
    rw [List.length_drop, B_len, List.length_nil] at this
    omega)))
   go_wp2_with (go_at_call 30; go_loud (with_reducible refine HF.out.mono ?_); rintro e wc ⟨rfl, hi6, hb6, hk6⟩; have HI5 := Aside0.mk hi6; have HB5 := Aside0.mk hb6; have HR9 := Aside0.mk (hk6.blk HR4.out (by omega) (by simp)); have q1' : wc.cell? ⟨w.heap.size + 1, 1, none⟩ = some (.int .i64 (a : Int)) := (blk_cell HI5.out.1 1).trans rfl; have q3 : wc.cell? ⟨w.heap.size + 1, 3, none⟩ = some (.int .i64 2) := (blk_cell HI5.out.1 3).trans rfl; have hy := Lib.cell_of_heap HR9.out; have hz := Lib.frozen_of_heap HR9.out; clear hi6 hb6 hk6)
   go_region
   go_wp2_with fail
   refine bodyPost_ret (results_ctt rfl _ _ w.heap.size 25 _ (0, 0) _ rfl (drew_blk (set_blk (j := 4) (set_blk (j := 3) (set_blk (j := 2) (set_blk (j := 1) (set_blk (j := 0) HR9.out _) _) _) _) _)) Tryz.underlying25 rfl (by kernel_rfl)) rfl ?_
   rw [HV.out]
   exact finPd (p := (zeroD, a, 2)) (ok := fun k => w.heap.size < k) (base := w.heap.size) HB5.out (zeroM _ _ _) (fun k hk => by omega)
  ·have hv : PS = (if rightD x then (x, 0, 0) else (zeroD, 0, 24)) := HPS.out.trans (if_neg (by
    rw [HK3.out, List.drop_of_length_le (by rw [B_len]; omega)]
    exact fun h => h rfl))
   have q3 : W4.cell? ⟨w.heap.size + 1, 3, none⟩ = some (.int .i64 0) := (blk_cell HI4.out.1 3).trans rfl
   have d0 : W4.cell? ⟨w3.heap.size, 0, none⟩ = some (.int .i64 x.f0) := (blk_cell HD4.out 0).trans rfl
   have d1 : W4.cell? ⟨w3.heap.size, 1, none⟩ = some (.int .i64 x.f1) := (blk_cell HD4.out 1).trans rfl
   have d2 : W4.cell? ⟨w3.heap.size, 2, none⟩ = some (.string x.f2) := (blk_cell HD4.out 2).trans rfl
   have d3 : W4.cell? ⟨w3.heap.size, 3, none⟩ = some (.slice A3 x.f3.length c3) := (blk_cell HD4.out 3).trans rfl
   have d4 : W4.cell? ⟨w3.heap.size, 4, none⟩ = some (.slice A4 x.f4.length c4) := (blk_cell HD4.out 4).trans rfl
   obtain ⟨l3, g3, l4, g4⟩ := made_open HM4.out
   have HRT := Aside0.mk (Right_c x HX.out W4 (HG.out.below HB4.out) A3 c3 A4 c4 l3 g3 l4 g4)
   clear l3 g3 l4 g4
   have hlt2 : decide (a < s.size) = false := decide_eq_false hlt
   cases hr : rightD x with
   | true =>
    rw [hr] at HRT hv
    have HV := Aside0.mk (show PS = (x, 0, 0) from hv)
    clear hr hv
    go_wp2_with (go_at_call 15; go_loud (with_reducible refine HRT.out.mono ?_); rintro e wc ⟨rfl, hb6⟩; have HB5 := Aside0.mk (then_w HB4.out hb6); have HM5 := Aside0.mk (Kd.M_below HM4.out hb6); have HD5 := (hb6.block _ (blk_lt HD4.out)).trans HD4.out; have e0 := (blk_cell HD5 0).trans rfl; have e1 := (blk_cell HD5 1).trans rfl; have e2 := (blk_cell HD5 2).trans rfl; have e3 := (blk_cell HD5 3).trans rfl; have e4 := (blk_cell HD5 4).trans rfl; have HR9 := Aside0.mk ((hb6.block _ (blk_lt HR4.out)).trans HR4.out); have hy := Lib.cell_of_heap HR9.out; have hz := Lib.frozen_of_heap HR9.out; clear hb6 HD5)
    refine bodyPost_ret (results_ctt rfl _ _ w.heap.size 25 _ (0, 0) _ rfl (set_blk (j := 4) (set_blk (j := 3) (set_blk (j := 2) (set_blk (j := 1) (set_blk (j := 0) HR9.out _) _) _) _) _) Tryz.underlying25 rfl (by kernel_rfl)) rfl ?_
    rw [HV.out]
    exact finP (p := (x, 0, 0)) HB5.out HM5.out (fun k hk => by simp at hk; omega)
   | false =>
    rw [hr] at HRT hv
    have HV := Aside0.mk (show PS = (zeroD, 0, 24) from hv)
    clear hr hv
    go_wp2_with (go_at_call 15; go_loud (with_reducible refine HRT.out.mono ?_); rintro e wc ⟨rfl, hb6⟩; have HB5 := Aside0.mk (then_w HB4.out hb6); have HR9 := Aside0.mk ((hb6.block _ (blk_lt HR4.out)).trans HR4.out); have hy := Lib.cell_of_heap HR9.out; have hz := Lib.frozen_of_heap HR9.out; clear hb6)
    refine bodyPost_ret (results_ctt rfl _ _ w.heap.size 25 _ (0, 0) _ rfl (set_blk (j := 4) (set_blk (j := 3) (set_blk (j := 2) (set_blk (j := 1) (set_blk (j := 0) HR9.out _) _) _) _) _) Tryz.underlying25 rfl (by kernel_rfl)) rfl ?_
    rw [HV.out]
    exact finP (p := (zeroD, 0, 24)) (ok := fun k => w.heap.size < k) (base := w.heap.size) HB5.out (zeroM _ _ _) (fun k hk => by omega)
end Go.Proofs.YtidcecpbihmloaaGreatDoorE

namespace Go.Proofs.YtidcecpbihmloaaGreatDoorE
open Go Go.RowKit Go.Proofs.YtidcecpbihmloaaGreatDoorW.PrintWords Go.Proofs.YtidcecpbihmloaaGreatDoorW.PrintMore Go.Proofs.YtidcecpbihmloaaGreatDoorW.PrintLast Go.Proofs.YtidcecpbihmloaaGreatDoorX Go.Proofs.YtidcecpbihmloaaGreatDoor.P16 Go.Proofs.YtidcecpbihmloaaGreatDoor.M02
set_option linter.unusedVariables false
set_option linter.unusedSimpArgs false
set_option maxRecDepth 100000
def s0 : ByteArray := ⟨#[123, 97, 61, 49, 44, 98, 61, 91, 121, 101, 115, 44, 34, 120, 34, 93, 125]⟩
def s1 : ByteArray := ⟨#[91, 49, 44, 93]⟩
def d1 : DT := ⟨2, 1, em, [], []⟩
def d0 : DT := ⟨5, 0, em, [⟨#[97]⟩, ⟨#[98]⟩], [d1, ⟨4, 0, em, [], [⟨1, 1, em, [], []⟩, ⟨3, 0, ⟨#[120]⟩, [], []⟩]⟩]⟩
theorem d0_right : rightD d0 = true := by kernel_rfl
theorem d0_print : printD d0 = B s0 := by kernel_rfl
theorem d0_parse : parseS (B s0) = (d0, 0, 0) := by kernel_rfl
theorem s1_parse : parseS (B s1) = (zeroD, 3, 2) := by kernel_rfl
theorem d0_get : getS d0 ⟨#[97]⟩ = (d1, true) := by kernel_rfl
theorem d1_right : rightD d1 = true := by kernel_rfl
theorem okD_lf (k n : Int) (t : ByteArray) (h0 : -9223372036854775808 ≤ k ∧ k ≤ 9223372036854775807) (h1 : -9223372036854775808 ≤ n ∧ n ≤ 9223372036854775807) (h2 : t.size ≤ 140737488351232) : OkD (⟨k, n, t, [], []⟩ : DT) :=
 .mk _ h0 h1 h2 (Nat.zero_le _) (fun s hs => by cases hs) (Nat.zero_le _) (fun y hy => by cases hy)
theorem okD_d1 : OkD d1 := okD_lf 2 1 em (by decide) (by decide) (by decide)
theorem okD_d0 : OkD d0 := by
 refine .mk d0 (by decide) (by decide) (by decide) (by decide) (fun s hs => ?_) (by decide) (fun y hy => ?_)
 ·have hs : s ∈ [(⟨#[97]⟩ : ByteArray), ⟨#[98]⟩] := hs
  simp only [List.mem_cons, List.not_mem_nil, or_false] at hs
  rcases hs with rfl | rfl <;> decide
 ·have hy : y ∈ [d1, ⟨4, 0, em, [], [⟨1, 1, em, [], []⟩, ⟨3, 0, ⟨#[120]⟩, [], []⟩]⟩] := hy
  simp only [List.mem_cons, List.not_mem_nil, or_false] at hy
  rcases hy with rfl | rfl
  ·exact okD_d1
  ·refine .mk _ (by decide) (by decide) (by decide) (by decide) (fun s hs => by cases hs) (by decide) (fun y hy => ?_)
   have hy : y ∈ [(⟨1, 1, em, [], []⟩ : DT), ⟨3, 0, ⟨#[120]⟩, [], []⟩] := hy
   simp only [List.mem_cons, List.not_mem_nil, or_false] at hy
   rcases hy with rfl | rfl
   ·exact okD_lf 1 1 em (by decide) (by decide) (by decide)
   ·exact okD_lf 3 0 ⟨#[120]⟩ (by decide) (by decide) (by decide)
theorem mkB_B (s : ByteArray) : mkB (B s) = s := by
 rcases s with ⟨a⟩
 simp [mkB, B]
set_option maxHeartbeats 8000000 in
theorem same_c (w : World) (hgl : GL w) : Calls Tryz.prog 8 #[] w fun e w' => e = .returned (.bool true) ∧ Below w.heap.size w w' := by
 have HG := Aside0.mk hgl
 have HP0 := Aside0.mk (qParse_c s0 (by decide) w hgl)
 rw [d0_parse] at HP0
 have HP1 : Aside0 (∀ W, GL W → Calls Tryz.prog 16 #[.string s1] W (parseP W (zeroD, 3, 2))) := ⟨fun W h => s1_parse ▸ qParse_c s1 (by decide) W h⟩
 obtain ⟨x, hx⟩ : ∃ x, x = d0 := ⟨_, rfl⟩
 obtain ⟨y, hy⟩ : ∃ y, y = d1 := ⟨_, rfl⟩
 have HPR : Aside0 (∀ (w : World), GL w → ∀ (A3 : Option Addr) (c3 : Nat) (A4 : Option Addr) (c4 : Nat), x.f3.length ≤ c3 → Kd.string.C w A3 x.f3.length x.f3 → x.f4.length ≤ c4 → k25.C w A4 x.f4.length x.f4 → Calls Tryz.prog 14 #[aggD x A3 c3 A4 c4] w fun e w' => e = .returned (.tuple #[.string s0, .int .i64 0]) ∧ Below w.heap.size w w') := ⟨fun w hgl A3 c3 A4 c4 l3 g3 l4 g4 => by
  subst hx
  have h := Print_c d0 okD_d0 w hgl A3 c3 A4 c4 l3 g3 l4 g4
  unfold printP at h
  rw [if_pos d0_right, d0_print, mkB_B] at h
  exact h⟩
 have HGE : Aside0 (∀ (w : World), GL w → ∀ (A3 : Option Addr) (c3 : Nat) (A4 : Option Addr) (c4 : Nat), x.f3.length ≤ c3 → Kd.string.C w A3 x.f3.length x.f3 → x.f4.length ≤ c4 → k25.C w A4 x.f4.length x.f4 → Calls Tryz.prog 9 #[aggD x A3 c3 A4 c4, .string ⟨#[97]⟩] w (getP w (y, true))) := ⟨fun w hgl A3 c3 A4 c4 l3 g3 l4 g4 => by
  subst hx
  subst hy
  exact d0_get ▸ Get_c d0 okD_d0 ⟨#[97]⟩ w hgl A3 c3 A4 c4 l3 g3 l4 g4⟩
 have HRI : Aside0 (∀ (w : World), GL w → ∀ (A3 : Option Addr) (c3 : Nat) (A4 : Option Addr) (c4 : Nat), y.f3.length ≤ c3 → Kd.string.C w A3 y.f3.length y.f3 → y.f4.length ≤ c4 → k25.C w A4 y.f4.length y.f4 → Calls Tryz.prog 15 #[aggD y A3 c3 A4 c4] w fun e w' => e = .returned (.bool true) ∧ Below w.heap.size w w') := ⟨fun w hgl A3 c3 A4 c4 l3 g3 l4 g4 => by
  subst hy
  exact d1_right ▸ Right_c d1 okD_d1 w hgl A3 c3 A4 c4 l3 g3 l4 g4⟩
 have y1 : (y.f1 == 1) = true := by rw [hy]; rfl
 have ss : (s0.toList == [123, 97, 61, 49, 44, 98, 61, 91, 121, 101, 115, 44, 34, 120, 34, 93, 125]) = true := by kernel_rfl
 rw [← hx] at HP0
 clear hx hy hgl
 unfold s0 s1 at *
 go_enter Tryz.func8, Tryz.ntmps8
 go_upto_region 2 with (go_at_call 16; go_loud (with_reducible refine HP0.out.mono ?_); rintro e w1 ⟨hb, A3, c3, A4, c4, rfl, m1, m2, m3, m4⟩; have HB1 := Aside0.mk hb; have HM1 := Aside0.mk (And.intro (And.intro m1 m2) (And.intro m3 m4)); clear hb m1 m2 m3 m4)
 have HX1 := Aside0.mk (heap_alloc_new w1 (dBox x A3 c3 A4 c4))
 have HA1 := Aside0.mk (below_alloc (Below.refl w1.heap.size w1) (dBox x A3 c3 A4 c4))
 have HB2 := Aside0.mk (below_then HB1.out HB1.out.size HA1.out)
 have p0 := (blk_cell HX1.out 0).trans rfl
 have p1 := (blk_cell HX1.out 1).trans rfl
 have p2 := (blk_cell HX1.out 2).trans rfl
 have p3 := (blk_cell HX1.out 3).trans rfl
 have p4 := (blk_cell HX1.out 4).trans rfl
 go_upto_region 3 with (go_at_call 14; go_loud (with_reducible refine (HPR.out _ (HG.out.below HB2.out) A3 c3 A4 c4 HM1.out.1.1 (Kd.string.C_below HM1.out.1.2 HA1.out) HM1.out.2.1 (k25.C_below HM1.out.2.2 HA1.out)).mono ?_); rintro e w3 ⟨rfl, hb⟩; have HB3 := Aside0.mk (below_then HA1.out HA1.out.size hb); have hx3 := (hb.block w1.heap.size (by simp)).trans HX1.out; have HX3 := Aside0.mk hx3; clear hb hx3)
 clear p0 p1 p2 p3 p4
 have p0 := (blk_cell HX3.out 0).trans rfl
 have p1 := (blk_cell HX3.out 1).trans rfl
 have p2 := (blk_cell HX3.out 2).trans rfl
 have p3 := (blk_cell HX3.out 3).trans rfl
 have p4 := (blk_cell HX3.out 4).trans rfl
 have HB4 := Aside0.mk (below_then HB1.out HB1.out.size HB3.out)
 go_upto_region 4 with (go_at_call 9; go_loud (with_reducible refine (HGE.out w3 (HG.out.below HB4.out) A3 c3 A4 c4 HM1.out.1.1 (Kd.string.C_below HM1.out.1.2 HB3.out) HM1.out.2.1 (k25.C_below HM1.out.2.2 HB3.out)).mono ?_); rintro e w5 ⟨hb, A3y, c3y, A4y, c4y, rfl, m1, m2, m3, m4⟩; have HB5 := Aside0.mk (below_then HB4.out HB4.out.size hb); have HM5 := Aside0.mk (And.intro (And.intro m1 m2) (And.intro m3 m4)); clear hb m1 m2 m3 m4)
 clear p0 p1 p2 p3 p4
 have HX6 := Aside0.mk (heap_alloc_new w5 (dBox y A3y c3y A4y c4y))
 have HA6 := Aside0.mk (below_alloc (Below.refl w5.heap.size w5) (dBox y A3y c3y A4y c4y))
 have HB6 := Aside0.mk (below_then HB5.out HB5.out.size HA6.out)
 go_upto_region 5 with (go_at_call 16; go_loud (with_reducible refine (HP1.out _ (HG.out.below HB6.out)).mono ?_); rintro e w7 ⟨hb, A3z, c3z, A4z, c4z, rfl, -, -, -, -⟩; have HB7 := Aside0.mk (below_then HA6.out HA6.out.size hb); have hx7 := (hb.block w5.heap.size (by simp)).trans HX6.out; have HX7 := Aside0.mk hx7; clear hb hx7)
 have HA8 := Aside0.mk (below_alloc (Below.refl w7.heap.size w7) (dBox zeroD A3z c3z A4z c4z))
 have HX8 := Aside0.mk ((HA8.out.block w5.heap.size (blk_lt HX7.out)).trans HX7.out)
 have HB8 := Aside0.mk (below_then HB7.out HB7.out.size HA8.out)
 have HB9 := Aside0.mk (below_then HB5.out HB5.out.size HB8.out)
 have p0 := (blk_cell HX8.out 0).trans rfl
 have p1 := (blk_cell HX8.out 1).trans rfl
 have p2 := (blk_cell HX8.out 2).trans rfl
 have p3 := (blk_cell HX8.out 3).trans rfl
 have p4 := (blk_cell HX8.out 4).trans rfl
 go_wp2_with (go_at_call 15; go_loud (with_reducible refine (HRI.out _ (HG.out.below HB9.out) A3y c3y A4y c4y HM5.out.1.1 (Kd.string.C_below HM5.out.1.2 HB8.out) HM5.out.2.1 (k25.C_below HM5.out.2.2 HB8.out)).mono ?_); rintro e w9 ⟨rfl, hb⟩; have HBT := Aside0.mk (below_then HB9.out HB9.out.size hb); clear hb)
 go_ret
 exact ⟨rfl, HBT.out⟩
end Go.Proofs.YtidcecpbihmloaaGreatDoorE

namespace Go.Proofs.YtidcecpbihmloaaGreatDoorE
open Go Go.RowKit Go.Proofs.YtidcecpbihmloaaGreatDoorW.PrintWords Go.Proofs.YtidcecpbihmloaaGreatDoorW.PrintMore Go.Proofs.YtidcecpbihmloaaGreatDoorW.PrintLast Go.Proofs.YtidcecpbihmloaaGreatDoorX Go.Proofs.YtidcecpbihmloaaGreatDoor.P16 Go.Proofs.YtidcecpbihmloaaGreatDoor.M02
set_option linter.unusedVariables false
set_option linter.unusedSimpArgs false
set_option maxRecDepth 100000
theorem toList_iff (a b : ByteArray) : a.toList = b.toList ↔ a = b := by
 rw [toList_data, toList_data]
 exact ⟨fun h => B_inj h, fun h => by rw [h]⟩
theorem names_eq {ns ns' : List ByteArray} (hl : ns.length = ns'.length) (h : ∀ j, j < ns.length → ns.getD j em = ns'.getD j em) : ns = ns' := by
 refine List.ext_getElem hl (fun j h1 h2 => ?_)
 have := h j h1
 rw [List.getD_eq_getElem?_getD, List.getD_eq_getElem?_getD, List.getElem?_eq_getElem h1, List.getElem?_eq_getElem h2] at this
 exact this
abbrev zBox (a b : Int) (c : ByteArray) (ns : List ByteArray) (l : List DT) (A3 : Option Addr) (c3 : Nat) (A4 : Option Addr) (c4 : Nat) : Obj := .cells #[.int .i64 a, .int .i64 b, .string c, .slice A3 ns.length c3, .slice A4 l.length c4] 25
/-- What Same says of a piece and any other. -/
def sameC (x : DT) : Prop := ∀ (y : DT) (w : World) (A3 : Option Addr) (c3 : Nat) (A4 : Option Addr) (c4 : Nat) (B3 : Option Addr) (d3 : Nat) (B4 : Option Addr) (d4 : Nat), x.f3.length ≤ c3 → Kd.string.C w A3 x.f3.length x.f3 → x.f4.length ≤ c4 → k25.C w A4 x.f4.length x.f4 → y.f3.length ≤ d3 → Kd.string.C w B3 y.f3.length y.f3 → y.f4.length ≤ d4 → k25.C w B4 y.f4.length y.f4 →
 Calls Tryz.prog 11 #[aggD x A3 c3 A4 c4, aggD y B3 d3 B4 d4] w fun e w' => (∃ q : Bool, e = .returned (.bool q) ∧ (q = true ↔ x = y)) ∧ Below w.heap.size w w'
theorem rd_getElem (l : List DT) (k : Nat) (h : k < l.length) : rd_T25 l (k : Int) = l[k] := by
 unfold rd_T25
 rw [Int.toNat_natCast, List.getD_eq_getElem?_getD, List.getElem?_eq_getElem h]
 rfl
set_option maxHeartbeats 16000000 in
theorem same_step (a b : Int) (c : ByteArray) (ns : List ByteArray) (l : List DT) (hn3 : ns.length ≤ 140737488351232) (hn4 : l.length ≤ 140737488351232) (ih : ∀ z ∈ l, sameC z) (ns' : List ByteArray) (l' : List DT) (h3 : ns'.length = ns.length) (h4 : l'.length = l.length) (w : World) (A3 : Option Addr) (c3 : Nat) (A4 : Option Addr) (c4 : Nat) (B3 : Option Addr) (d3 : Nat) (B4 : Option Addr) (d4 : Nat) (lA3 : ns.length ≤ c3) (gA3 : Kd.string.C w A3 ns.length ns) (lA4 : l.length ≤ c4) (gA4 : k25.C w A4 l.length l) (lB3 : ns.length ≤ d3) (gB3 : Kd.string.C w B3 ns.length ns') (lB4 : l.length ≤ d4) (gB4 : k25.C w B4 l.length l') :
  Calls Tryz.prog 11 #[.agg #[.int .i64 a, .int .i64 b, .string c, .slice A3 ns.length c3, .slice A4 l.length c4], .agg #[.int .i64 a, .int .i64 b, .string c, .slice B3 ns.length d3, .slice B4 l.length d4]] w fun e w' => (∃ q : Bool, e = .returned (.bool q) ∧ (q = true ↔ (ns = ns' ∧ l = l'))) ∧ Below w.heap.size w w' := by
 have HB := Aside0.mk (below_alloc (below_alloc (Below.refl w.heap.size w) (zBox a b c ns l A3 c3 A4 c4)) (.cells #[.int .i64 a, .int .i64 b, .string c, .slice B3 ns.length d3, .slice B4 l.length d4] 25))
 have HX := Aside0.mk (two_old_ w (zBox a b c ns l A3 c3 A4 c4) (.cells #[.int .i64 a, .int .i64 b, .string c, .slice B3 ns.length d3, .slice B4 l.length d4] 25))
 have HY := Aside0.mk (two_new_ w (zBox a b c ns l A3 c3 A4 c4) (.cells #[.int .i64 a, .int .i64 b, .string c, .slice B3 ns.length d3, .slice B4 l.length d4] 25))
 have HA3 := Aside0.mk gA3
 have HA4 := Aside0.mk gA4
 have HB3 := Aside0.mk gB3
 have HB4 := Aside0.mk gB4
 have IH := Aside0.mk ih
 have H3 := Aside0.mk h3
 have H4 := Aside0.mk h4
 have hsz : ((w.alloc (zBox a b c ns l A3 c3 A4 c4)).alloc (.cells #[.int .i64 a, .int .i64 b, .string c, .slice B3 ns.length d3, .slice B4 l.length d4] 25)).heap.size = w.heap.size + 2 := by simp
 have HSZ := Aside0.mk hsz
 clear gA3 gA4 gB3 gB4 ih h3 h4 hsz
 go_enter Tryz.func11, Tryz.ntmps11
 go_upto_region 3 with fail
 generalize hW : ((w.alloc (.cells #[.int .i64 a, .int .i64 b, .string c, .slice A3 ns.length c3, .slice A4 l.length c4] 25)).alloc (.cells #[.int .i64 a, .int .i64 b, .string c, .slice B3 ns.length d3, .slice B4 l.length d4] 25)) = W2 at HB HX HY HSZ ⊢
 clear hW
 have p3 := (blk_cell HX.out 3).trans rfl
 have p4 := (blk_cell HX.out 4).trans rfl
 have r3 := (blk_cell HY.out 3).trans rfl
 have r4 := (blk_cell HY.out 4).trans rfl
 go_wp2_with fail
 go_loopg [47] ns.length (fun gk i wr => ∃ k : Nat, k ≤ ns.length ∧ i = .int .i64 k ∧ Aside0 (k + gk = ns.length ∧ Below W2.heap.size W2 wr ∧ ∀ j, j < k → ns.getD j em = ns'.getD j em))
 case atStart => exact ⟨0, by omega, rfl, ⟨by omega, Below.refl _ _, fun j hj => by omega⟩⟩
 case round =>
  clear p3 p4 r3 r4
  obtain ⟨k, hk, rfl, HV⟩ := hrel
  obtain ⟨hkg, hb, he⟩ := HV.out
  have HBW := Aside0.mk hb
  have HN := Aside0.mk hkg
  have HE := Aside0.mk he
  have HXr := Aside0.mk ((hb.block w.heap.size (by have := HSZ.out; omega)).trans HX.out)
  have HYr := Aside0.mk ((hb.block (w.heap.size + 1) (by have := HSZ.out; omega)).trans HY.out)
  have HBr := Aside0.mk (below_then HB.out HB.out.size hb)
  clear HV hkg hb he
  have p3 := (blk_cell HXr.out 3).trans rfl
  have p4 := (blk_cell HXr.out 4).trans rfl
  have r3 := (blk_cell HYr.out 3).trans rfl
  have r4 := (blk_cell HYr.out 4).trans rfl
  by_cases hlt : k < ns.length
  ·obtain ⟨ad, hade, n1⟩ := Kd.at_string (Kd.C_below HA3.out HBr.out) (k : Int) (by omega) (by omega)
   obtain ⟨bd, hbde, n2⟩ := Kd.at_string (Kd.C_below HB3.out HBr.out) (k : Int) (by omega) (by omega)
   rw [Int.toNat_natCast, get_rdOf] at n1 n2
   obtain ⟨s, hs⟩ : ∃ s, s = ns.getD k em := ⟨_, rfl⟩
   obtain ⟨s', hs'⟩ : ∃ s, s = ns'.getD k em := ⟨_, rfl⟩
   rw [← hs] at n1
   rw [← hs'] at n2
   have HS := Aside0.mk (And.intro hs hs')
   subst hade
   subst hbde
   clear hs hs'
   by_cases hq : s = s'
   ·subst hq
    go_upto_region 6 with fail
    go_quiet (fail)
    go_wp2_with fail
    go_roundg (gk - 1)
    case measure => have := HN.out; omega
    case rel => exact ⟨k + 1, by omega, by go_num, ⟨by have := HN.out; omega, pw_below_drewN HBW.out _, fun j hj => by
     by_cases hjk : j = k
     ·rw [hjk, ← HS.out.1, ← HS.out.2]
     ·exact HE.out j (by omega)⟩⟩
   ·have hne : (s.toList == s'.toList) = false := by
     rw [beq_eq_false_iff_ne]
     exact fun h => hq ((toList_iff _ _).1 h)
    have HNE := Aside0.mk hq
    clear hq
    go_upto_region 6 with fail
    go_quiet (fail)
    go_wp2_with fail
    go_ret
    refine ⟨⟨false, rfl, ⟨fun h => absurd h (by decide), fun h => ?_⟩⟩, below_then HB.out HB.out.size (pw_below_drewN HBW.out _)⟩
    exact absurd (HS.out.1.trans ((congrArg (fun z => z.getD k em) h.1).trans HS.out.2.symm)) HNE.out
  ·have HNS := Aside0.mk (names_eq H3.out.symm (fun j hj => HE.out j (by omega)))
   clear HN HE
   go_wp2_with fail
   generalize hW3 : wr = W3 at HBW HXr HYr HBr p3 p4 r3 r4 ⊢
   clear hW3
   go_loopg [65] l.length (fun gk i wq => ∃ k : Nat, k ≤ l.length ∧ i = .int .i64 k ∧ Aside0 (k + gk = l.length ∧ Below W3.heap.size W3 wq ∧ ∀ j, j < k → l[j]? = l'[j]?))
   case atStart => exact ⟨0, by omega, rfl, ⟨by omega, Below.refl _ _, fun j hj => by omega⟩⟩
   case round =>
    clear p3 p4 r3 r4
    obtain ⟨k, hk, rfl, HV⟩ := hrel
    obtain ⟨hkg, hb, he⟩ := HV.out
    have HBQ := Aside0.mk hb
    have HN := Aside0.mk hkg
    have HE := Aside0.mk he
    have HXq := Aside0.mk ((hb.block w.heap.size (blk_lt HXr.out)).trans HXr.out)
    have HYq := Aside0.mk ((hb.block (w.heap.size + 1) (blk_lt HYr.out)).trans HYr.out)
    have HBt := Aside0.mk (below_then HBr.out HBr.out.size hb)
    clear HV hkg hb he
    have p3 := (blk_cell HXq.out 3).trans rfl
    have p4 := (blk_cell HXq.out 4).trans rfl
    have r3 := (blk_cell HYq.out 3).trans rfl
    have r4 := (blk_cell HYq.out 4).trans rfl
    by_cases hlq : k < l.length
    ·obtain ⟨ad, A3q, c3q, A4q, c4q, hA, a0, a1, a2, a3, a4, hl3, hC3, hl4, hC4⟩ := at_T25 HA4.out (k : Int) (by omega) (by omega)
     obtain ⟨bd, B3q, d3q, B4q, d4q, hB, b0, b1, b2, b3, b4, ml3, mC3, ml4, mC4⟩ := at_T25 HB4.out (k : Int) (by omega) (by omega)
     have hk4 : k < l'.length := by have := H4.out; omega
     rw [rd_getElem l k hlq, Int.toNat_natCast] at *
     rw [rd_getElem l' k hk4] at *
     obtain ⟨y, hy⟩ : ∃ y, y = l[k] := ⟨_, rfl⟩
     obtain ⟨z, hz⟩ : ∃ z, z = l'[k] := ⟨_, rfl⟩
     have HYM := Aside0.mk (show y ∈ l from hy ▸ List.getElem_mem hlq)
     have HYZ := Aside0.mk (And.intro (show l[k]? = some y by rw [List.getElem?_eq_getElem hlq, hy]) (show l'[k]? = some z by rw [List.getElem?_eq_getElem hk4, hz]))
     rw [← hy] at a0 a1 a2 a3 a4 hl3 hC3 hl4 hC4
     rw [← hz] at b0 b1 b2 b3 b4 ml3 mC3 ml4 mC4
     subst hA
     subst hB
     clear hy hz
     replace a0 := pw_cell_below HBt.out a0
     replace a1 := pw_cell_below HBt.out a1
     replace a2 := pw_cell_below HBt.out a2
     replace a3 := pw_cell_below HBt.out a3
     replace a4 := pw_cell_below HBt.out a4
     replace b0 := pw_cell_below HBt.out b0
     replace b1 := pw_cell_below HBt.out b1
     replace b2 := pw_cell_below HBt.out b2
     replace b3 := pw_cell_below HBt.out b3
     replace b4 := pw_cell_below HBt.out b4
     have HCS := Aside0.mk (IH.out y HYM.out z wr.drew A3q c3q A4q c4q B3q d3q B4q d4q hl3 (Kd.string.C_below hC3 HBt.out.drew) hl4 (k25.C_below hC4 HBt.out.drew) ml3 (Kd.string.C_below mC3 HBt.out.drew) ml4 (k25.C_below mC4 HBt.out.drew))
     have hlt2 : (k : Int) < (l.length : Int) := by omega
     clear hl3 hC3 hl4 hC4 ml3 mC3 ml4 mC4 hk4
     go_upto_region 12 with fail
     refine start_ (n := 12) (S := fun w' => w'.cell? ⟨w.heap.size, 4, none⟩ = some (.slice (some ad) l.length c4) ∧ w'.cell? ⟨w.heap.size + 1, 4, none⟩ = some (.slice (some bd) l.length d4) ∧ w'.cell? (ad.add (k * 5)) = some (.int .i64 y.f0) ∧ w'.cell? ⟨(ad.add (k * 5)).block, (ad.add (k * 5)).off + 1, none⟩ = some (.int .i64 y.f1) ∧ w'.cell? ⟨(ad.add (k * 5)).block, (ad.add (k * 5)).off + 2, none⟩ = some (.string y.f2) ∧ w'.cell? ⟨(ad.add (k * 5)).block, (ad.add (k * 5)).off + 3, none⟩ = some (.slice A3q y.f3.length c3q) ∧ w'.cell? ⟨(ad.add (k * 5)).block, (ad.add (k * 5)).off + 4, none⟩ = some (.slice A4q y.f4.length c4q) ∧ w'.cell? (bd.add (k * 5)) = some (.int .i64 z.f0) ∧ w'.cell? ⟨(bd.add (k * 5)).block, (bd.add (k * 5)).off + 1, none⟩ = some (.int .i64 z.f1) ∧ w'.cell? ⟨(bd.add (k * 5)).block, (bd.add (k * 5)).off + 2, none⟩ = some (.string z.f2) ∧ w'.cell? ⟨(bd.add (k * 5)).block, (bd.add (k * 5)).off + 3, none⟩ = some (.slice B3q z.f3.length d3q) ∧ w'.cell? ⟨(bd.add (k * 5)).block, (bd.add (k * 5)).off + 4, none⟩ = some (.slice B4q z.f4.length d4q)) (ds := []) #[false, false, false, false, false, false, false, false, false, false, false, false] (by kernel_rfl) rfl rfl ⟨cell_drew p4, cell_drew r4, cell_drew a0, cell_drew a1, cell_drew a2, cell_drew a3, cell_drew a4, cell_drew b0, cell_drew b1, cell_drew b2, cell_drew b3, cell_drew b4⟩ (fun hHeld => ?_)
     refine pure_ (i := 0) (N := some 68) (v := ?_) (a' := ?_) #[true, false, false, false, false, false, false, false, false, false, false, false] rfl rfl (by kernel_rfl) (fun _ _ _ h => h) (Or.inl ⟨by rfl, ?_⟩) ?_ ?_
     rotate_left
     ·intro w'
      go_simp
      with_reducible rfl
     rotate_left
     ·simp only [Act.put, List.setIfInBounds_toArray, List.set_cons_zero, List.set_cons_succ, i64_w, i32_w]
      rfl
     refine pure_ (i := 2) (N := some 70) (v := ?_) (a' := ?_) #[true, false, true, false, false, false, false, false, false, false, false, false] rfl rfl (by kernel_rfl) (fun _ _ _ h => h) (Or.inl ⟨by rfl, ?_⟩) ?_ ?_
     rotate_left
     ·intro w'
      go_simp
      with_reducible rfl
     rotate_left
     ·simp only [Act.put, List.setIfInBounds_toArray, List.set_cons_zero, List.set_cons_succ, i64_w, i32_w]
      rfl
     refine pure_ (i := 5) (N := some 73) (v := ?_) (a' := ?_) #[true, false, true, false, false, true, false, false, false, false, false, false] rfl rfl (by kernel_rfl) (fun _ _ _ h => h) (Or.inl ⟨by rfl, ?_⟩) ?_ ?_
     rotate_left
     ·intro w'
      go_simp
      with_reducible rfl
     rotate_left
     ·simp only [Act.put, List.setIfInBounds_toArray, List.set_cons_zero, List.set_cons_succ, i64_w, i32_w]
      rfl
     refine pure_ (i := 7) (N := some 75) (v := ?_) (a' := ?_) #[true, false, true, false, false, true, false, true, false, false, false, false] rfl rfl (by kernel_rfl) (fun _ _ _ h => h) (Or.inl ⟨by rfl, ?_⟩) ?_ ?_
     rotate_left
     ·intro w'
      go_simp
      with_reducible rfl
     rotate_left
     ·simp only [Act.put, List.setIfInBounds_toArray, List.set_cons_zero, List.set_cons_succ, i64_w, i32_w]
      rfl
     refine take_ (i := 1) (N := some 69) (v := ?_) (a' := ?_) #[true, true, true, false, false, true, false, true, false, false, false, false] rfl rfl (by kernel_rfl) (fun _ _ _ h => h) (Or.inl ⟨by rfl, ?_⟩) hHeld ?_ ?_
     rotate_left
     ·intro w' s0
      go_split_ands
      go_simp
      with_reducible rfl
     rotate_left
     ·simp only [Act.put, List.setIfInBounds_toArray, List.set_cons_zero, List.set_cons_succ, i64_w, i32_w]
      rfl
     refine pure_ (i := 3) (N := some 71) (v := ?_) (a' := ?_) #[true, true, true, true, false, true, false, true, false, false, false, false] rfl rfl (by kernel_rfl) (fun _ _ _ h => h) (Or.inl ⟨by rfl, ?_⟩) ?_ ?_
     rotate_left
     ·intro w'
      go_simp
      with_reducible rfl
     rotate_left
     ·simp only [Act.put, List.setIfInBounds_toArray, List.set_cons_zero, List.set_cons_succ, i64_w, i32_w]
      rfl
     refine take_ (i := 4) (N := some 72) (v := ?_) (a' := ?_) #[true, true, true, true, true, true, false, true, false, false, false, false] rfl rfl (by kernel_rfl) (fun _ _ _ h => h) (Or.inl ⟨by rfl, ?_⟩) hHeld ?_ ?_
     rotate_left
     ·intro w' s0
      go_split_ands
      go_simp
      with_reducible rfl
     rotate_left
     ·simp only [Act.put, List.setIfInBounds_toArray, List.set_cons_zero, List.set_cons_succ, i64_w, i32_w]
      rfl
     refine take_ (i := 6) (N := some 74) (v := ?_) (a' := ?_) #[true, true, true, true, true, true, true, true, false, false, false, false] rfl rfl (by kernel_rfl) (fun _ _ _ h => h) (Or.inl ⟨by rfl, ?_⟩) hHeld ?_ ?_
     rotate_left
     ·intro w' s0
      go_split_ands
      go_simp
      with_reducible rfl
     rotate_left
     ·simp only [Act.put, List.setIfInBounds_toArray, List.set_cons_zero, List.set_cons_succ, i64_w, i32_w]
      rfl
     refine pure_ (i := 8) (N := some 76) (v := ?_) (a' := ?_) #[true, true, true, true, true, true, true, true, true, false, false, false] rfl rfl (by kernel_rfl) (fun _ _ _ h => h) (Or.inl ⟨by rfl, ?_⟩) ?_ ?_
     rotate_left
     ·intro w'
      go_simp
      with_reducible rfl
     rotate_left
     ·simp only [Act.put, List.setIfInBounds_toArray, List.set_cons_zero, List.set_cons_succ, i64_w, i32_w]
      rfl
     refine take_ (i := 9) (N := some 77) (v := ?_) (a' := ?_) #[true, true, true, true, true, true, true, true, true, true, false, false] rfl rfl (by kernel_rfl) (fun _ _ _ h => h) (Or.inl ⟨by rfl, ?_⟩) hHeld ?_ ?_
     rotate_left
     ·intro w' s0
      go_split_ands
      go_simp
      with_reducible rfl
     rotate_left
     ·simp only [Act.put, List.setIfInBounds_toArray, List.set_cons_zero, List.set_cons_succ, i64_w, i32_w]
      rfl
     refine one_ (i := 10) (N := some 78) #[true, true, true, true, true, true, true, true, true, true, true, false] rfl rfl (by kernel_rfl) (by decide) (fun K hK => ?_)
     refine goes_ Tryz.func11 (by kernel_rfl) rfl #[aggD y A3q c3q A4q c4q, aggD z B3q d3q B4q d4q] (by rfl) rfl rfl (by (try simp only [List.map_toArray, List.map_cons, List.map_nil]); first | done | rfl) ?_
     refine HCS.out.mono ?_
     rintro e w' ⟨⟨q, rfl, hq⟩, hb5⟩
     have HQ := Aside0.mk hq
     have HB5 := Aside0.mk hb5
     refine ⟨_, rfl, ?_⟩
     refine hK.out _ _ ⟨pw_cell_below hb5 (cell_drew p4), pw_cell_below hb5 (cell_drew r4), pw_cell_below hb5 (cell_drew a0), pw_cell_below hb5 (cell_drew a1), pw_cell_below hb5 (cell_drew a2), pw_cell_below hb5 (cell_drew a3), pw_cell_below hb5 (cell_drew a4), pw_cell_below hb5 (cell_drew b0), pw_cell_below hb5 (cell_drew b1), pw_cell_below hb5 (cell_drew b2), pw_cell_below hb5 (cell_drew b3), pw_cell_below hb5 (cell_drew b4)⟩ (fun hHeld => ?_)
     clear hK K hq hb5
     refine norm_ (a' := ?_) ?_ ?_
     rotate_left
     ·show Act.put _ (some 78) _ = _
      simp only [Act.put, List.setIfInBounds_toArray, List.set_cons_zero, List.set_cons_succ, i64_w, i32_w]
      rfl
     refine pure_ (i := 11) (N := some 79) (v := ?_) (a' := ?_) #[true, true, true, true, true, true, true, true, true, true, true, true] rfl rfl (by kernel_rfl) (fun _ _ _ h => h) (Or.inl ⟨by rfl, ?_⟩) ?_ ?_
     rotate_left
     ·intro w'
      go_simp
      with_reducible rfl
     rotate_left
     ·simp only [Act.put, List.setIfInBounds_toArray, List.set_cons_zero, List.set_cons_succ, i64_w, i32_w]
      rfl
     refine done_ (by kernel_rfl) ?_
     cases q with
     | false =>
      go_wp2_with fail
      go_ret
      refine ⟨⟨false, rfl, ⟨fun h => absurd h (by decide), fun h => ?_⟩⟩, below_then HBt.out.drew HBt.out.size HB5.out⟩
      have h2 := HYZ.out.1
      rw [h.2, HYZ.out.2] at h2
      injection h2 with h2
      exact HQ.out.2 h2.symm
     | true =>
      go_wp2_with fail
      go_roundg (gk - 1)
      case measure => have := HN.out; omega
      case rel => exact ⟨k + 1, by omega, by go_num, ⟨by have := HN.out; omega, below_then HBQ.out.drew HBQ.out.size HB5.out, fun j hj => by
       by_cases hjk : j = k
       ·rw [hjk, HYZ.out.1, HYZ.out.2, HQ.out.1 (by first | rfl | trivial)]
       ·exact HE.out j (by omega)⟩⟩
    ·have HLL := Aside0.mk (List.ext_getElem? (l₁ := l) (l₂ := l') (fun j => by
      rcases Nat.lt_or_ge j k with hj | hj
      ·exact HE.out j hj
      ·rw [List.getElem?_eq_none (by omega), List.getElem?_eq_none (by have := H4.out; omega)]))
     go_wp2_with fail
     go_ret
     exact ⟨⟨true, rfl, ⟨fun _ => ⟨HNS.out, HLL.out⟩, fun _ => rfl⟩⟩, HBt.out⟩
set_option maxHeartbeats 8000000 in
theorem same_c1 (x : DT) (hx : OkD x) : sameC x := by
 induction hx with
 | mk x h0 h1 h2 n3 h3 n4 h4 ih =>
  intro y w A3 c3 A4 c4 B3 d3 B4 d4 lA3 gA3 lA4 gA4 lB3 gB3 lB4 gB4
  rcases x with ⟨a, b, c, ns, l⟩
  rcases y with ⟨a', b', c', ns', l'⟩
  simp only at n3 n4 ih lA3 gA3 lA4 gA4 lB3 gB3 lB4 gB4
  simp only [aggD]
  by_cases h : a = a' ∧ b = b' ∧ c = c' ∧ ns'.length = ns.length ∧ l'.length = l.length
  ·obtain ⟨rfl, rfl, rfl, e3, e4⟩ := h
   rw [e3] at lB3 gB3 ⊢
   rw [e4] at lB4 gB4 ⊢
   refine (same_step a b c ns l n3 n4 ih ns' l' e3 e4 w A3 c3 A4 c4 B3 d3 B4 d4 lA3 gA3 lA4 gA4 lB3 gB3 lB4 gB4).mono ?_
   rintro e w' ⟨⟨q, rfl, hq⟩, hb⟩
   refine ⟨⟨q, rfl, hq.trans ⟨fun h => by rw [h.1, h.2], fun h => by injection h with _ _ _ h5 h6; exact ⟨h5, h6⟩⟩⟩, hb⟩
  ·have HN := Aside0.mk h
   have hc := toList_iff c c'
   have HC := Aside0.mk hc
   have HB := Aside0.mk (below_alloc (below_alloc (Below.refl w.heap.size w) (zBox a b c ns l A3 c3 A4 c4)) (zBox a' b' c' ns' l' B3 d3 B4 d4))
   have HX := Aside0.mk (two_old_ w (zBox a b c ns l A3 c3 A4 c4) (zBox a' b' c' ns' l' B3 d3 B4 d4))
   have HY := Aside0.mk (two_new_ w (zBox a b c ns l A3 c3 A4 c4) (zBox a' b' c' ns' l' B3 d3 B4 d4))
   clear h hc gA3 gA4 gB3 gB4 ih
   have HF : Calls Tryz.prog 11 #[.agg #[.int .i64 a, .int .i64 b, .string c, .slice A3 ns.length c3, .slice A4 l.length c4], .agg #[.int .i64 a', .int .i64 b', .string c', .slice B3 ns'.length d3, .slice B4 l'.length d4]] w fun e w' => e = .returned (.bool false) ∧ Below w.heap.size w w' := by
    go_enter Tryz.func11, Tryz.ntmps11
    go_upto_region 1 with fail
    go_wp2_with fail
    all_goals (try (go_ret; exact ⟨rfl, below_alloc (below_alloc (Below.refl _ _) _) _⟩; done))
    all_goals exfalso
    all_goals have e4 : (ns.length : Int) = (ns'.length : Int) := by assumption
    all_goals have e5 : ((l.length : Int) != (l'.length : Int)) = false := by assumption
    all_goals have e6 : (l.length : Int) = (l'.length : Int) := by simpa using e5
    all_goals exact HN.out ⟨by assumption, by assumption, HC.out.1 (by assumption), by omega, by omega⟩
   refine HF.mono ?_
   rintro e w' ⟨rfl, hb⟩
   refine ⟨⟨false, rfl, ⟨fun h => absurd h (by decide), fun h => ?_⟩⟩, hb⟩
   injection h with h1 h2 h3 h4 h5
   exact absurd ⟨h1, h2, h3, by rw [h4], by rw [h5]⟩ HN.out
end Go.Proofs.YtidcecpbihmloaaGreatDoorE

namespace Go.Proofs.YtidcecpbihmloaaGreatDoorE
open Go Go.RowKit Go.Proofs.YtidcecpbihmloaaGreatDoorW.PrintWords Go.Proofs.YtidcecpbihmloaaGreatDoorW.PrintMore Go.Proofs.YtidcecpbihmloaaGreatDoorW.PrintLast Go.Proofs.YtidcecpbihmloaaGreatDoorX Go.Proofs.YtidcecpbihmloaaGreatDoor.P16 Go.Proofs.YtidcecpbihmloaaGreatDoor.M02
set_option linter.unusedVariables false
set_option linter.unusedSimpArgs false
set_option maxRecDepth 100000
/-- Two pieces that lie in memory, compared. -/
theorem Same_c (x y : DT) (hx : OkD x) (q : Bool) (hq : q = true ↔ x = y) (w : World) (hgl : GL w) (A3 : Option Addr) (c3 : Nat) (A4 : Option Addr) (c4 : Nat) (l3 : x.f3.length ≤ c3) (g3 : Kd.string.C w A3 x.f3.length x.f3) (l4 : x.f4.length ≤ c4) (g4 : k25.C w A4 x.f4.length x.f4) (B3 : Option Addr) (e3 : Nat) (B4 : Option Addr) (e4 : Nat) (m3 : y.f3.length ≤ e3) (i3 : Kd.string.C w B3 y.f3.length y.f3) (m4 : y.f4.length ≤ e4) (i4 : k25.C w B4 y.f4.length y.f4) :
  Calls Tryz.prog 11 #[aggD x A3 c3 A4 c4, aggD y B3 e3 B4 e4] w fun e w' => e = .returned (.bool q) ∧ Below w.heap.size w w' := by
 refine (same_c1 x hx y w A3 c3 A4 c4 B3 e3 B4 e4 l3 g3 l4 g4 m3 i3 m4 i4).mono ?_
 rintro e w' ⟨⟨p, rfl, hp⟩, hb⟩
 obtain rfl : p = q := by
  cases p <;> cases q
  ·rfl
  ·exact absurd (hp.2 (hq.1 rfl)) (by decide)
  ·exact absurd (hq.2 (hp.1 rfl)) (by decide)
  ·rfl
 exact ⟨rfl, hb⟩
end Go.Proofs.YtidcecpbihmloaaGreatDoorE

namespace Go.Proofs.YtidcecpbihmloaaGreatDoorE
open Go Go.RowKit Go.Proofs.YtidcecpbihmloaaGreatDoorW.PrintWords Go.Proofs.YtidcecpbihmloaaGreatDoorW.PrintMore Go.Proofs.YtidcecpbihmloaaGreatDoorW.PrintLast Go.Proofs.YtidcecpbihmloaaGreatDoorX Go.Proofs.YtidcecpbihmloaaGreatDoor.P16 Go.Proofs.YtidcecpbihmloaaGreatDoor.M02
set_option linter.unusedVariables false
set_option linter.unusedSimpArgs false
set_option maxRecDepth 100000
def fewC (x : DT) : Prop := ∀ (L op : Int) (w : World) (A3 : Option Addr) (c3 : Nat) (A4 : Option Addr) (c4 : Nat), x.f4.length ≤ c4 → k25.C w A4 x.f4.length x.f4 →
 Calls Tryz.prog 19 #[aggD x A3 c3 A4 c4, .int .i64 L, .int .i64 op] w fun e w' => (∃ r : Int, e = .returned (.int .i64 r)) ∧ Below w.heap.size w w'
set_option maxHeartbeats 8000000 in
theorem few_step (x : DT) (n4 : x.f4.length ≤ 140737488351232) (ih : ∀ y ∈ x.f4, fewC y) : fewC x := by
 intro L op w A3 c3 A4 c4 l4 g4
 have HB := Aside0.mk (below_alloc (Below.refl w.heap.size w) (xBox x A3 c3 A4 c4))
 have HX := Aside0.mk (heap_alloc_new w (xBox x A3 c3 A4 c4))
 have H4 := Aside0.mk g4
 have IH := Aside0.mk ih
 have hn4 := n4
 clear g4 ih n4
 go_enter Tryz.func19, Tryz.ntmps19
 go_upto_region 1 with fail
 generalize hW : w.alloc (.cells #[.int .i64 x.f0, .int .i64 x.f1, .string x.f2, .slice A3 x.f3.length c3, .slice A4 x.f4.length c4] 25) = W at HB HX ⊢
 clear hW
 have p2 := (blk_cell HX.out 2).trans rfl
 have p3 := (blk_cell HX.out 3).trans rfl
 have p4 := (blk_cell HX.out 4).trans rfl
 go_wp2_with fail
 all_goals first | (go_ret; exact ⟨⟨_, rfl⟩, HB.out⟩) | skip
 go_loopg [1, 28] x.f4.length (fun gq v1 i wq => ∃ (q : Nat) (r : Int), q ≤ x.f4.length ∧ v1 = .int .i64 r ∧ i = .int .i64 q ∧ Aside0 (q + gq = x.f4.length ∧ Below W.heap.size W wq))
 case atStart => exact ⟨0, _, by omega, rfl, rfl, ⟨by omega, Below.refl _ _⟩⟩
 case round =>
  clear p2 p3 p4
  obtain ⟨q, r, hq, rfl, rfl, HQ⟩ := hrel
  obtain ⟨hqn, hb⟩ := HQ.out
  have HN := Aside0.mk hqn
  have HBQ := Aside0.mk hb
  have HBT := Aside0.mk (below_then HB.out HB.out.size hb)
  have HXq := Aside0.mk ((hb.block w.heap.size (blk_lt HX.out)).trans HX.out)
  have p4 := (blk_cell HXq.out 4).trans rfl
  clear HQ hqn hb
  by_cases hqlt : q < x.f4.length
  ·obtain ⟨ad, A3q, c3q, A4q, c4q, hA, a0, a1, a2, a3, a4, hl3, hC3, hl4, hC4⟩ := at_T25 H4.out (q : Int) (by omega) (by omega)
   subst hA
   rw [Int.toNat_natCast] at a0 a1 a2 a3 a4
   replace a0 := pw_cell_below HBT.out a0
   replace a1 := pw_cell_below HBT.out a1
   replace a2 := pw_cell_below HBT.out a2
   replace a3 := pw_cell_below HBT.out a3
   replace a4 := pw_cell_below HBT.out a4
   obtain ⟨y, hy⟩ : ∃ y, y = rd_T25 x.f4 (q : Int) := ⟨_, rfl⟩
   rw [← hy] at a0 a1 a2 a3 a4 hl3 hC3 hl4 hC4
   have HY := Aside0.mk (rd_take x.f4 q hqlt)
   rw [← hy] at HY
   clear hy
   have CY := Aside0.mk (IH.out y HY.out.1 r (wrap64 (op + 1)) wr A3q c3q A4q c4q hl4 (k25.C_below hC4 HBT.out))
   clear hl3 hC3 hl4 hC4
   go_wp2_with (go_at_call 19; go_loud (with_reducible refine CY.out.mono ?_); rintro e w4 ⟨⟨r', rfl⟩, hb4⟩; have HBZ := Aside0.mk hb4; clear hb4)
   all_goals first | (go_ret; exact ⟨⟨_, rfl⟩, below_then HBT.out HBT.out.size HBZ.out⟩) | skip
   go_roundg (gk - 1)
   case measure => have := HN.out; omega
   case rel => exact ⟨q + 1, _, by omega, rfl, by go_num, ⟨by have := HN.out; omega, below_then HBQ.out HBQ.out.size HBZ.out⟩⟩
  ·go_wp2_with fail
   go_ret
   exact ⟨⟨_, rfl⟩, HBT.out⟩
theorem few_c (x : DT) (hx : OkD x) : fewC x := by
 induction hx with
 | mk x h0 h1 h2 n3 h3 n4 h4 ih => exact few_step x n4 ih
set_option maxHeartbeats 4000000 in
theorem Few_c (x : DT) (hx : OkD x) (m : Int) (w : World) (A3 : Option Addr) (c3 : Nat) (A4 : Option Addr) (c4 : Nat) (l4 : x.f4.length ≤ c4) (g4 : k25.C w A4 x.f4.length x.f4) :
  Calls Tryz.prog 7 #[aggD x A3 c3 A4 c4, .int .i64 m] w fun e w' => (∃ q : Bool, e = .returned (.bool q)) ∧ Below w.heap.size w w' := by
 have HB := Aside0.mk (below_alloc (Below.refl w.heap.size w) (xBox x A3 c3 A4 c4))
 have CW := Aside0.mk (few_c x hx m 0 _ A3 c3 A4 c4 l4 (k25.C_below g4 HB.out))
 clear g4 hx
 go_enter Tryz.func7, Tryz.ntmps7
 go_wp2_with (go_at_call 19; go_loud (with_reducible refine CW.out.mono ?_); rintro e w1 ⟨⟨r, rfl⟩, hb⟩; have HB1 := Aside0.mk (below_then HB.out HB.out.size hb); clear hb)
 go_ret
 exact ⟨⟨_, rfl⟩, HB1.out⟩
end Go.Proofs.YtidcecpbihmloaaGreatDoorE

namespace Go.Proofs.YtidcecpbihmloaaGreatDoorE
open Go Go.RowKit Go.ChangeShapes Go.WideShapes Go.Proofs.YtidcecpbihmloaaGreatDoorW.PrintWords
set_option linter.unusedVariables false
set_option linter.unusedSimpArgs false
namespace Op
/-- The weights of a piece of data are in reach. -/
def Sz {H : Type} (P : Program) (t : TypeId) (d : DataW H) : Prop := ∀ n ∈ d.weights P t, n ≤ 140737488351232
def SzEach {H : Type} (P : Program) (ts : List TypeId) (ds : List (DataW H)) : Prop := ∀ n ∈ DataW.weightsEach P ts ds, n ≤ 140737488351232
/-- What reads at type t with so much fuel is a value of kind d, of which ok holds. -/
def At {α : Type} (P : Program) (fuel : Nat) (t : TypeId) (d : Kd α) (ok : α → Prop) : Prop :=
 ∀ (H : Type) (enc : TypeId × Value → H) (w : World) (base : Nat) (spare : Nat → Bool) (held : Bool) (cs : List Value) (x : DataW H × List MemPlace), DataW.trod enc P w base spare held fuel t cs = some x → Sz P t x.1 → ∃ a, d.K w a cs ∧ ok a
/-- Fields one behind the other. -/
def Fields {β : Type} (P : Program) (fuel : Nat) (ts : List TypeId) (d : Kd β) (ok : β → Prop) : Prop :=
 ∀ (H : Type) (enc : TypeId × Value → H) (w : World) (base : Nat) (spare : Nat → Bool) (held : Bool) (cs : List Value) (xs : List (DataW H × List MemPlace)), cs.length = (ts.map P.cellsOf).sum → xs.length = ts.length →
  (∀ (i : Nat) (t : TypeId), ts[i]? = some t → DataW.trod enc P w base spare held fuel t ((cs.drop ((ts.take i).map P.cellsOf).sum).take (P.cellsOf t)) = xs[i]?) → SzEach P ts (xs.map (·.1)) → ∃ a, d.K w a cs ∧ ok a
theorem string {P : Program} {fuel : Nat} {t : TypeId} (hu : P.underlying t = some .string) : At P fuel t Kd.string (fun s => s.size ≤ 140737488351232) := by
 intro H enc w base spare held cs x h hs
 obtain ⟨s, h1, rfl, -⟩ : ∃ s : ByteArray, x = (.lit (.string s.data.toList), []) ∧ cs = [.string s] ∧ True := by
  cases fuel with
  | zero => simp [DataW.trod] at h
  | succ n =>
   unfold DataW.trod at h
   rw [hu] at h
   split at h <;> simp_all
 subst h1
 refine ⟨s, rfl, ?_⟩
 have := hs s.data.toList.length (by simp [DataW.weights])
 rw [Array.length_toList] at this
 exact this
theorem int {P : Program} {fuel : Nat} {t : TypeId} {k : IntKind} (hu : P.underlying t = some (.int k)) : At P fuel t (Kd.int k) (fun a => (Lit.int k a).wf = true) := by
 intro H enc w base spare held cs x h hs
 obtain ⟨a, rfl, h1⟩ : ∃ a : Int, cs = [.int k a] ∧ (Lit.int k a).wf = true := by
  cases fuel with
  | zero => simp [DataW.trod] at h
  | succ n =>
   unfold DataW.trod at h
   rw [hu] at h
   split at h <;> simp_all
 exact ⟨a, rfl, h1⟩
theorem zero {α : Type} {P : Program} {t : TypeId} {d : Kd α} {ok : α → Prop} : At P 0 t d ok := by
 intro H enc w base spare held cs x h hs
 simp [DataW.trod] at h
theorem one {α : Type} {P : Program} {fuel : Nat} {t : TypeId} {d : Kd α} {ok : α → Prop} (h : At P fuel t d ok) : Fields P fuel [t] d ok := by
 intro H enc w base spare held cs xs hl hx hr hs
 have h0 := hr 0 t rfl
 simp only [List.map_cons, List.map_nil, List.sum_cons, List.sum_nil, Nat.add_zero] at hl
 simp only [List.take_zero, List.map_nil, List.sum_nil, List.drop_zero] at h0
 rw [← hl, List.take_length] at h0
 cases xs with
 | nil => simp at hx
 | cons x xs =>
  refine h H enc w base spare held cs x (by rw [h0]; rfl) (fun n hn => hs n ?_)
  simp [DataW.weightsEach]
  exact hn
theorem cons {α β : Type} {P : Program} {fuel : Nat} {t : TypeId} {ts : List TypeId} {d : Kd α} {ok : α → Prop} {d' : Kd β} {ok' : β → Prop} (h : At P fuel t d ok) (h' : Fields P fuel ts d' ok') :
  Fields P fuel (t :: ts) (Kd.pair d d') (fun x => ok x.1 ∧ ok' x.2) := by
 intro H enc w base spare held cs xs hl hx hr hs
 have h0 := hr 0 t rfl
 simp only [List.map_cons, List.sum_cons] at hl
 simp only [List.take_zero, List.map_nil, List.sum_nil, List.drop_zero] at h0
 cases xs with
 | nil => simp at hx
 | cons x xs =>
  obtain ⟨a, ha, oa⟩ := h H enc w base spare held (cs.take (P.cellsOf t)) x (by rw [h0]; rfl) (fun n hn => hs n (by simp [DataW.weightsEach]; exact Or.inl hn))
  obtain ⟨b, hb, ob⟩ := h' H enc w base spare held (cs.drop (P.cellsOf t)) xs (by rw [List.length_drop]; omega) (by simpa using hx) (fun i t' ht => by
   have := hr (i + 1) t' (by simpa using ht)
   rw [List.take_succ_cons, List.map_cons, List.sum_cons, ← List.drop_drop] at this
   rw [this]
   rfl) (fun n hn => hs n (by simp [DataW.weightsEach]; exact Or.inr hn))
  exact ⟨(a, b), ⟨_, _, (List.take_append_drop _ _).symm, ha, hb⟩, oa, ob⟩
theorem iso {α β : Type} {P : Program} {fuel : Nat} {ts : List TypeId} {d : Kd α} {ok : α → Prop} (f : β → α) (g : α → β) (hg : ∀ a, f (g a) = a) (h : Fields P fuel ts d ok) : Fields P fuel ts (Kd.iso d f) (fun b => ok (f b)) := by
 intro H enc w base spare held cs xs hl hx hr hs
 obtain ⟨a, ha, oa⟩ := h H enc w base spare held cs xs hl hx hr hs
 exact ⟨g a, show d.K w (f (g a)) cs by rw [hg]; exact ha, show ok (f (g a)) by rw [hg]; exact oa⟩
theorem struct {β : Type} {P : Program} {fuel : Nat} {t : TypeId} {fs : Array Field} {d : Kd β} {ok : β → Prop} (hu : P.underlying t = some (.struct fs)) (hc : P.cellsOf t = ((fs.toList.map (·.type)).map P.cellsOf).sum)
  (ho : ∀ i : Nat, ∀ f, fs[i]? = some f → f.offset = (((fs.toList.map (·.type)).take i).map P.cellsOf).sum) (h : Fields P fuel (fs.toList.map (·.type)) d ok) : At P (fuel + 1) t d ok := by
 intro H enc w base spare held cs x hr hs
 obtain ⟨xs, n, hn, rfl, hl, hx, hf⟩ := DataW.trod_struct hu hr
 obtain rfl : fuel = n := by omega
 refine h H enc w base spare held cs xs (by rw [hl, hc]) (by rw [hx, List.length_map, Array.length_toList]) (fun i t' ht => ?_) (fun n hn => hs n ?_)
 ·rw [List.getElem?_map] at ht
  obtain ⟨f, hf1, rfl⟩ := Option.map_eq_some_iff.1 ht
  rw [Array.getElem?_toList] at hf1
  rw [← hf i f hf1, ho i f hf1]
 ·show n ∈ DataW.weights P t (.agg (xs.map (·.1)))
  unfold DataW.weights
  simp only [hu]
  exact hn
theorem weightsAll_mem {H : Type} {P : Program} {e : TypeId} : ∀ {l : List (DataW H)} {d : DataW H}, d ∈ l → ∀ n ∈ d.weights P e, n ∈ DataW.weightsAll P e l
 | _ :: _, _, hd, n, hn => by
  rcases List.mem_cons.1 hd with rfl | hd
  ·simp [DataW.weightsAll]; exact Or.inl hn
  ·simp [DataW.weightsAll]; exact Or.inr (weightsAll_mem hd n hn)
theorem slice {α : Type} {P : Program} {fuel : Nat} {t e : TypeId} {d : Kd α} {ok : α → Prop} (hu : P.underlying t = some (.slice e)) (hz : d.sz = P.cellsOf e) (h : At P fuel e d ok) :
  At P (fuel + 1) t (Kd.slice e d) (fun xs => xs.length * P.bytesOf e ≤ 140737488351232 ∧ xs.length ≤ maxLen ∧ ∀ x ∈ xs, ok x) := by
 intro H enc w base spare held cs x hr hs
 rcases DataW.trod_slice hu hr with ⟨rfl, rfl⟩ | ⟨a, len, cap, elems, rest, n, hn, rfl, rfl, hb, hl, hm, hlen, hel, -, -⟩
 ·exact ⟨[], ⟨none, 0, rfl, Nat.le_refl _, Kd.C_nil d w⟩, by simp, by simp, fun x hx => by cases hx⟩
 ·obtain rfl : fuel = n := by omega
  have key : ∀ i, i < len → ∃ c y, w.cells? base (a.add (i * P.cellsOf e)) (P.cellsOf e) = some c ∧ d.K w y c ∧ ok y := by
   intro i hi
   have h1 := hel i hi
   rw [List.getElem?_eq_getElem (by omega)] at h1
   obtain ⟨c, hc1, hc2⟩ := Option.bind_eq_some_iff.1 h1
   obtain ⟨y, hy1, hy2⟩ := h H enc w base spare held c _ hc2 (fun n hn => hs n (by
    show n ∈ DataW.weights P t (.slice (elems.map (·.1)) (rest.map (·.1)))
    unfold DataW.weights
    simp only [hu]
    exact List.mem_cons_of_mem _ (List.mem_append.2 (Or.inl (weightsAll_mem (List.mem_map_of_mem (List.getElem_mem (by omega))) n hn)))))
   exact ⟨c, y, hc1, hy1, hy2⟩
  have build : ∀ m, m ≤ len → ∃ xs : List α, xs.length = m ∧ ∀ i y, xs[i]? = some y → ok y ∧ ∃ c, w.cells? base (a.add (i * P.cellsOf e)) (P.cellsOf e) = some c ∧ d.K w y c := by
   intro m
   induction m with
   | zero => exact fun _ => ⟨[], rfl, fun i y hy => by simp at hy⟩
   | succ m ih =>
    intro hm
    obtain ⟨xs, hx1, hx2⟩ := ih (by omega)
    obtain ⟨c, y, h1, h2, h3⟩ := key m (by omega)
    refine ⟨xs ++ [y], by simp [hx1], fun i z hz => ?_⟩
    rcases Nat.lt_or_ge i xs.length with hlt | hge
    ·rw [List.getElem?_append_left hlt] at hz
     exact hx2 i z hz
    ·have hi : i = m := by
      have := (List.getElem?_eq_some_iff.1 hz).1
      simp at this; omega
     subst hi
     rw [List.getElem?_append_right hge, hx1, Nat.sub_self] at hz
     obtain rfl : y = z := by simpa using hz
     exact ⟨h3, c, h1, h2⟩
  obtain ⟨xs, hx1, hx2⟩ := build len (Nat.le_refl _)
  have hw := hs ((elems.length + rest.length) * P.bytesOf e) (by
   show _ ∈ DataW.weights P t (.slice (elems.map (·.1)) (rest.map (·.1)))
   unfold DataW.weights
   simp only [hu]
   rw [List.length_map, List.length_map]
   exact List.mem_cons_self)
  refine ⟨xs, ⟨some a, cap, by rw [hx1], by omega, hx1.symm ▸ rfl, by unfold maxLen at hm; omega, fun _ => ⟨a, rfl, fun j p hp => ?_⟩⟩, ?_, by omega, fun x hx => ?_⟩
  ·obtain ⟨-, c, hc1, hc2⟩ := hx2 j p hp
   obtain ⟨-, hcl, hcc⟩ := World.cells?_some hc1
   refine ⟨c, by rw [hcl, hz], hc2, fun i u hu2 => ?_⟩
   have hi := (List.getElem?_eq_some_iff.1 hu2).1
   have := hcc i (by omega)
   rw [hu2, add_add] at this
   rw [hz]
   exact this
  ·exact Nat.le_trans (Nat.mul_le_mul_right _ (by omega)) hw
  ·obtain ⟨i, hi, rfl⟩ := List.getElem_of_mem hx
   exact (hx2 i _ (List.getElem?_eq_getElem hi)).1
theorem mono {α : Type} {P : Program} {fuel : Nat} {t : TypeId} {d d' : Kd α} {ok ok' : α → Prop} (h : At P fuel t d ok) (hk : ∀ w a cs, d.K w a cs → d'.K w a cs) (ho : ∀ a, ok a → ok' a) : At P fuel t d' ok' := by
 intro H enc w base spare held cs x hr hs
 obtain ⟨a, ha, oa⟩ := h H enc w base spare held cs x hr hs
 exact ⟨a, hk _ _ _ ha, ho a oa⟩
/-- A slice that came in, opened. -/
theorem arg {α : Type} {P : Program} {fuel : Nat} {t e : TypeId} {d : Kd α} {ok : List α → Prop} (h : At P fuel t (Kd.slice e d) ok) {H : Type} {enc : TypeId × Value → H} {w : World} {base : Nat} {spare : Nat → Bool} {held : Bool} {A : Option Addr} {n c : Nat} {x : DataW H × List MemPlace}
  (hr : DataW.trod enc P w base spare held fuel t (Value.slice A n c).cells.toList = some x) (hs : Sz P t x.1) : ∃ l : List α, n = l.length ∧ n ≤ c ∧ d.C w A l.length l ∧ ok l := by
 obtain ⟨l, ⟨A', c', he, hl, hC⟩, ho⟩ := h H enc w base spare held _ x hr hs
 have he' : [Value.slice A n c] = [Value.slice A' l.length c'] := he
 injection he' with he' _
 injection he' with h1 h2 h3
 subst h1 h3
 exact ⟨l, h2, by omega, hC, ho⟩
end Op
end Go.Proofs.YtidcecpbihmloaaGreatDoorE

namespace Go.Proofs.YtidcecpbihmloaaGreatDoorE
open Go Go.RowKit Go.ChangeShapes Go.WideShapes Go.Proofs.YtidcecpbihmloaaGreatDoorW.PrintWords Go.Proofs.YtidcecpbihmloaaGreatDoor.P16
set_option linter.unusedVariables false
set_option linter.unusedSimpArgs false
set_option maxRecDepth 100000
theorem wf_i64' {x : Int} (h : (Lit.int .i64 x).wf = true) : -9223372036854775808 ≤ x ∧ x ≤ 9223372036854775807 := by
 simp [Lit.wf, IntKind.min, IntKind.max, IntKind.bits, IntKind.signed] at h
 omega
theorem Op.slice_ {α : Type} {P : Program} {fuel : Nat} {t e : TypeId} {d : Kd α} {ok : α → Prop} (hu : P.underlying t = some (.slice e)) (hz : d.sz = P.cellsOf e) (hb : 0 < P.bytesOf e) (h : ∀ m, m + 1 = fuel → Op.At P m e d ok) :
  Op.At P fuel t (Kd.slice e d) (fun xs => xs.length ≤ 140737488351232 ∧ ∀ x ∈ xs, ok x) := by
 cases fuel with
 | zero => exact Op.zero
 | succ f => exact Op.mono (Op.slice hu hz (h f rfl)) (fun _ _ _ h => h) (fun a h => ⟨Nat.le_trans (Nat.le_mul_of_pos_right _ hb) h.1, h.2.2⟩)
theorem cellsO0 : Tryz.prog.cellsOf 9 = 1 := by kernel_rfl
theorem cellsO1 : Tryz.prog.cellsOf 3 = 1 := by kernel_rfl
theorem cellsO2 : Tryz.prog.cellsOf 22 = 1 := by kernel_rfl
theorem cellsO3 : Tryz.prog.cellsOf 23 = 1 := by kernel_rfl
theorem open_upto : ∀ n m : Nat, m ≤ n → Op.At Tryz.prog m 25 (Kd.upto F25 5 [9, 25] n) OkD
 | 0, m, h => by
  obtain rfl : m = 0 := by omega
  exact Op.zero
 | n + 1, 0, h => Op.zero
 | n + 1, m + 1, h => by
  have sS := Op.slice_ (fuel := m) Tryz.underlying22 (d := Kd.string) (ok := fun s => s.size ≤ 140737488351232) (by kernel_rfl) (of_decide_eq_true (by kernel_rfl)) (fun f _ => Op.string Tryz.underlying9)
  have sN := Op.slice_ (fuel := m) Tryz.underlying23 (d := Kd.upto F25 5 [9, 25] n) (ok := OkD) (by rw [sz25 n]; kernel_rfl) (of_decide_eq_true (by kernel_rfl)) (fun f hf => open_upto n f (by omega))
  refine Op.mono (d' := F25 (Kd.upto F25 5 [9, 25] n)) (Op.struct Tryz.underlying25 (by kernel_rfl) (fun i f hf => ?_) (Op.iso (fun x : DT => (x.f0, x.f1, x.f2, x.f3, x.f4)) (fun a => ⟨a.1, a.2.1, a.2.2.1, a.2.2.2.1, a.2.2.2.2⟩) (fun a => rfl) (Op.cons (Op.int Tryz.underlying3) (Op.cons (Op.int Tryz.underlying3) (Op.cons (Op.string Tryz.underlying9) (Op.cons sS (Op.one sN))))))) (fun w a cs h => h) (fun a h => OkD.mk a (wf_i64' h.1) (wf_i64' h.2.1) h.2.2.1 h.2.2.2.1.1 h.2.2.2.1.2 h.2.2.2.2.1 h.2.2.2.2.2)
  rcases i with _ | _ | _ | _ | _ | i <;> simp at hf <;> (subst hf; simp [cellsO0, cellsO1, cellsO2, cellsO3])
theorem open_datum (fuel : Nat) : Op.At Tryz.prog fuel 25 k25 OkD :=
 Op.mono (open_upto fuel fuel (Nat.le_refl _)) (fun w a cs h => (⟨fuel, h⟩ : ∃ n, (Kd.upto F25 5 [9, 25] n).K w a cs)) (fun _ h => h)
def openDatT (W : World) (v : Value) : Prop := ∃ (x : DT) (A3 : Option Addr) (c3 : Nat) (A4 : Option Addr) (c4 : Nat), v = aggD x A3 c3 A4 c4 ∧ OkD x ∧ x.f3.length ≤ c3 ∧ Kd.string.C W A3 x.f3.length x.f3 ∧ x.f4.length ≤ c4 ∧ k25.C W A4 x.f4.length x.f4
theorem openDat {H : Type} {enc : TypeId × Value → H} {W : World} {base : Nat} {spare : Nat → Bool} {held : Bool} {v : Value} {r : Reach} {b0 fuel : Nat} {d : DataW H} {ps : List MemPlace} (hv : Value.okWide Tryz.prog W r b0 25 v)
  (hf : DataW.trod enc Tryz.prog W base spare held fuel 25 v.cells.toList = some (d, ps)) (hs : ∀ m ∈ d.weights Tryz.prog 25, m ≤ 140737488351232) : openDatT W v := by
 obtain ⟨cs, rfl, hsz⟩ := okWide_struct Tryz.underlying25 hv
 obtain ⟨x, hK, hx⟩ := open_datum fuel H enc W base spare held _ _ hf hs
 obtain ⟨A3, c3, A4, c4, he, l3, g3, l4, g4⟩ := k25_open hK
 refine ⟨x, A3, c3, A4, c4, ?_, hx, l3, g3, l4, g4⟩
 congr 1
 apply Array.toList_inj.1
 exact he
end Go.Proofs.YtidcecpbihmloaaGreatDoorE

namespace Go.Proofs.YtidcecpbihmloaaGreatDoorE
open Go Go.RowKit Go.Proofs.YtidcecpbihmloaaGreatDoorW.PrintWords Go.Proofs.YtidcecpbihmloaaGreatDoorW.PrintMore Go.Proofs.YtidcecpbihmloaaGreatDoorW.PrintLast Go.Proofs.YtidcecpbihmloaaGreatDoorX Go.Proofs.YtidcecpbihmloaaGreatDoor.P16 Go.Proofs.YtidcecpbihmloaaGreatDoor.M02
set_option linter.unusedVariables false
set_option linter.unusedSimpArgs false
set_option maxRecDepth 100000
theorem cmpDs_lex : ∀ s t : List DT, cmpDs s t = lexL cmpD s t
 | [], [] => by simp [cmpDs, lexL]
 | [], _ :: _ => by simp [cmpDs, lexL]
 | _ :: _, [] => by simp [cmpDs, lexL]
 | a :: s, b :: t => by rw [cmpDs, lexL, cmpDs_lex s t]
theorem cmpD_ord : Ord3 (cmpD : DT → DT → Int) := ⟨cmpD_neg, cmpD_eq, cmpD_tr⟩
theorem lexL_skip {α : Type} {f : α → α → Int} (hf : Ord3 f) : ∀ (k : Nat) (s t : List α), k ≤ s.length → k ≤ t.length → (∀ j, j < k → s[j]? = t[j]?) → lexL f s t = lexL f (s.drop k) (t.drop k)
 | 0, s, t, _, _, _ => rfl
 | k + 1, [], t, h, _, _ => by simp at h
 | k + 1, a :: s, [], _, h, _ => by simp at h
 | k + 1, a :: s, b :: t, h1, h2, h => by
  have h0 := h 0 (by omega)
  simp only [List.getElem?_cons_zero, Option.some.injEq] at h0
  subst h0
  rw [lexL, (hf.eq a a).2 rfl]
  have := lexL_skip hf k s t (by simpa using h1) (by simpa using h2) (fun j hj => by simpa using h (j + 1) (by omega))
  simp only [List.drop_succ_cons]
  rw [← this]
  simp [orI]
/-- Agreed up to a place, where they differ. -/
theorem lexL_at {α : Type} {f : α → α → Int} (hf : Ord3 f) (k : Nat) (s t : List α) (h : ∀ j, j < k → s[j]? = t[j]?) (a b : α) (ha : s[k]? = some a) (hb : t[k]? = some b) (hn : f a b ≠ 0) : lexL f s t = f a b := by
 have h1 := (List.getElem?_eq_some_iff.1 ha).1
 have h2 := (List.getElem?_eq_some_iff.1 hb).1
 rw [lexL_skip hf k s t (by omega) (by omega) h, List.drop_eq_getElem_cons h1, List.drop_eq_getElem_cons h2, lexL]
 rw [(List.getElem?_eq_some_iff.1 ha).2, (List.getElem?_eq_some_iff.1 hb).2]
 unfold orI
 rw [if_pos hn]
/-- Agreed up to the end of one. -/
theorem lexL_end {α : Type} {f : α → α → Int} (hf : Ord3 f) (k : Nat) (s t : List α) (h1 : k ≤ s.length) (h2 : k ≤ t.length) (he : s.length ≤ k ∨ t.length ≤ k) (h : ∀ j, j < k → s[j]? = t[j]?) : lexL f s t = if s.length = t.length then 0 else if s.length < t.length then -1 else 1 := by
 rw [lexL_skip hf k s t h1 h2 h]
 by_cases e : s.length = t.length
 ·rw [if_pos e, List.drop_of_length_le (by omega), List.drop_of_length_le (by omega)]
  rfl
 ·rw [if_neg e]
  by_cases l : s.length < t.length
  ·rw [if_pos l, List.drop_of_length_le (by omega : s.length ≤ k), List.drop_eq_getElem_cons (by omega : k < t.length)]
   rfl
  ·rw [if_neg l, List.drop_of_length_le (by omega : t.length ≤ k), List.drop_eq_getElem_cons (by omega : k < s.length)]
   rfl
theorem sign_w (b : Bool) (W : World) (h : GL W) : Calls Tryz.prog 24 #[.bool b] W fun e w' => e = .returned (.int .i64 (if b = true then -1 else 1)) ∧ ∃ m, w' = W.drewN m := by
 refine (tendrilref16_sign.calls b _ W h ?_).mono fun _ _ ⟨a, b⟩ => ⟨a, b.out⟩
 unfold tendrilref16_sign.f
 cases b <;> rfl
theorem cmpI_w (a b : Int) (W : World) (h : GL W) : Calls Tryz.prog 42 #[.int .i64 a, .int .i64 b] W fun e w' => e = .returned (.int .i64 (cmpI a b)) ∧ ∃ m, w' = W.drewN m := by
 refine (cmp_Compare_int.calls a b _ W h ?_).mono fun _ _ ⟨a, b⟩ => ⟨a, b.out⟩
 unfold cmp_Compare_int.f cmp_isNaN_int.f cmpI
 by_cases h1 : a < b
 ·simp [h1]
 ·by_cases h2 : b < a
  ·simp [h1, h2]
  ·simp [h1, h2]
theorem cmpB_f (a b : ByteArray) : cmp_Compare_string.f a b = some (cmpB a b) := by
 unfold cmp_Compare_string.f cmpB
 rw [toList_data, toList_data, ← less_cmpL]
theorem cmpB_w (a b : ByteArray) (W : World) (h : GL W) : Calls Tryz.prog 43 #[.string a, .string b] W fun e w' => e = .returned (.int .i64 (cmpB a b)) ∧ ∃ m, w' = W.drewN m :=
 (cmp_Compare_string.calls a b _ W h (cmpB_f a b)).mono fun _ _ ⟨a, b⟩ => ⟨a, b.out⟩
theorem orL_f (l : List Int) (hl : l.length ≤ 140737488351232) : ∀ (d i : Nat), i + d = l.length → cmp_Or_int.l0 (d + 1) 0 l (l.length : Int) (i : Int) = some ((l.drop i).foldr orI 0)
 | 0, i, h => by
  unfold cmp_Or_int.l0
  rw [if_neg (by omega), List.drop_of_length_le (by omega)]
  rfl
 | d + 1, i, h => by
  have hi : i < l.length := by omega
  unfold cmp_Or_int.l0
  rw [if_pos (by omega), if_pos (by omega), if_pos (by omega), w64 (by omega) (by omega)]
  rw [show ((i : Int) + 1) = ((i + 1 : Nat) : Int) by omega, orL_f l hl d (i + 1) (by omega), List.drop_eq_getElem_cons hi, List.foldr_cons]
  have e : rd l (i : Int) = l[i] := by
   unfold rd
   rw [Int.toNat_natCast]
   simp [List.getD_eq_getElem?_getD, List.getElem?_eq_getElem hi]
  rw [e]
  unfold orI
  by_cases z : l[i] = 0
  ·rw [if_pos z, if_neg (by simpa using z)]
  ·rw [if_neg z, if_pos z]
theorem or_w (l : List Int) (hl : l.length ≤ 140737488351232) (A : Option Addr) (c : Nat) (W : World) (h : GL W) (hr : Kd.C (Kd.int .i64) W A l.length l) (hc : l.length ≤ c) : Calls Tryz.prog 41 #[.slice A l.length c] W fun e w' => e = .returned (.int .i64 (l.foldr orI 0)) ∧ ∃ m, w' = W.drewN m := by
 refine (cmp_Or_int.calls (l.length + 1) A c l _ W h hr hc ?_).mono fun _ _ ⟨a, b⟩ => ⟨a, b.out⟩
 unfold cmp_Or_int.f
 have := orL_f l hl l.length 0 (by omega)
 rw [List.drop_zero] at this
 exact this
theorem orI_z (x : Int) : orI x 0 = x := by unfold orI; split <;> omega
theorem scmp_f (s t : List ByteArray) (hs : s.length ≤ 140737488351232) (ht : t.length ≤ 140737488351232) : ∀ (d i : Nat), i + d = s.length → i ≤ t.length → slices_Compare_string_string.l0 (d + 1) s t s (s.length : Int) (i : Int) = some (lexL cmpB (s.drop i) (t.drop i))
 | 0, i, h, h2 => by
  unfold slices_Compare_string_string.l0
  rw [if_neg (by omega), List.drop_of_length_le (by omega : s.length ≤ i)]
  by_cases e : s.length < t.length
  ·rw [if_pos (by omega), List.drop_eq_getElem_cons (by omega : i < t.length)]
   rfl
  ·rw [if_neg (by omega), List.drop_of_length_le (by omega : t.length ≤ i)]
   rfl
 | d + 1, i, h, h2 => by
  have hi : i < s.length := by omega
  unfold slices_Compare_string_string.l0
  rw [if_pos (by omega), if_pos (by omega), if_pos (by omega), List.drop_eq_getElem_cons hi]
  by_cases ht' : i < t.length
  ·rw [if_neg (by omega), if_pos (by omega), cmpB_f, Option.bind_some, List.drop_eq_getElem_cons ht', lexL]
   have e1 : rdOf ByteArray.empty s (i : Int) = s[i] := by
    unfold rdOf
    rw [Int.toNat_natCast]
    simp [List.getD_eq_getElem?_getD, List.getElem?_eq_getElem hi]
   have e2 : rdOf ByteArray.empty t (i : Int) = t[i] := by
    unfold rdOf
    rw [Int.toNat_natCast]
    simp [List.getD_eq_getElem?_getD, List.getElem?_eq_getElem ht']
   rw [e1, e2, w64 (by omega) (by omega), show ((i : Int) + 1) = ((i + 1 : Nat) : Int) by omega, scmp_f s t hs ht d (i + 1) (by omega) (by omega)]
   unfold orI
   by_cases z : cmpB s[i] t[i] = 0
   ·rw [if_pos z, if_neg (fun h => h z)]
   ·rw [if_neg z, if_pos z]
  ·rw [if_pos (by omega), List.drop_of_length_le (by omega : t.length ≤ i)]
   rfl
theorem scmp_w (s t : List ByteArray) (hs : s.length ≤ 140737488351232) (ht : t.length ≤ 140737488351232) (A : Option Addr) (c : Nat) (A' : Option Addr) (c' : Nat) (W : World) (h : GL W) (hr : Kd.C Kd.string W A s.length s) (hc : s.length ≤ c) (hr' : Kd.C Kd.string W A' t.length t) (hc' : t.length ≤ c') : Calls Tryz.prog 44 #[.slice A s.length c, .slice A' t.length c'] W fun e w' => e = .returned (.int .i64 (lexL cmpB s t)) ∧ ∃ m, w' = W.drewN m := by
 refine (slices_Compare_string_string.calls (s.length + 1) A c s A' c' t _ W h hr hc hr' hc' ?_).mono fun _ _ ⟨a, b⟩ => ⟨a, b.out⟩
 unfold slices_Compare_string_string.f
 have := scmp_f s t hs ht s.length 0 (by omega) (by omega)
 rw [List.drop_zero, List.drop_zero] at this
 exact this
end Go.Proofs.YtidcecpbihmloaaGreatDoorE

namespace Go.Proofs.YtidcecpbihmloaaGreatDoorE
open Go Go.RowKit Go.Proofs.YtidcecpbihmloaaGreatDoorW.PrintWords Go.Proofs.YtidcecpbihmloaaGreatDoorW.PrintMore Go.Proofs.YtidcecpbihmloaaGreatDoorW.PrintLast Go.Proofs.YtidcecpbihmloaaGreatDoorX Go.Proofs.YtidcecpbihmloaaGreatDoor.P16 Go.Proofs.YtidcecpbihmloaaGreatDoor.M02
set_option linter.unusedVariables false
set_option linter.unusedSimpArgs false
set_option maxRecDepth 100000
/-- What the reference's Compare says of a piece and any other. -/
def rcmpC (x : DT) : Prop := ∀ (y : DT), OkD y → ∀ (w : World), GL w → ∀ (A3 : Option Addr) (c3 : Nat) (A4 : Option Addr) (c4 : Nat) (B3 : Option Addr) (d3 : Nat) (B4 : Option Addr) (d4 : Nat), x.f3.length ≤ c3 → Kd.string.C w A3 x.f3.length x.f3 → x.f4.length ≤ c4 → k25.C w A4 x.f4.length x.f4 → y.f3.length ≤ d3 → Kd.string.C w B3 y.f3.length y.f3 → y.f4.length ≤ d4 → k25.C w B4 y.f4.length y.f4 →
 Calls Tryz.prog 13 #[aggD x A3 c3 A4 c4, aggD y B3 d3 B4 d4] w fun e w' => e = .returned (.int .i64 (cmpD x y)) ∧ Below w.heap.size w w'
theorem drewN_below {w w1 : World} (h : ∃ m, w1 = w.drewN m) : Below w.heap.size w w1 := by
 obtain ⟨m, rfl⟩ := h
 exact pw_below_drewN (Below.refl _ _) m
theorem sgn_cmpI {a b : Int} (h : a ≠ b) : (if decide (a < b) = true then (-1 : Int) else 1) = cmpI a b := by
 unfold cmpI
 by_cases h1 : a < b
 ·simp [h1]
 ·rw [if_neg (by simpa using h1), if_neg h1, if_pos (by omega)]
set_option maxHeartbeats 8000000 in
theorem rcmp_k (a b : Int) (c : ByteArray) (ns : List ByteArray) (l : List DT) (a' b' : Int) (c' : ByteArray) (ns' : List ByteArray) (l' : List DT) (hne : a ≠ a') (w : World) (hgl : GL w) (A3 : Option Addr) (c3 : Nat) (A4 : Option Addr) (c4 : Nat) (B3 : Option Addr) (d3 : Nat) (B4 : Option Addr) (d4 : Nat) :
  Calls Tryz.prog 13 #[.agg #[.int .i64 a, .int .i64 b, .string c, .slice A3 ns.length c3, .slice A4 l.length c4], .agg #[.int .i64 a', .int .i64 b', .string c', .slice B3 ns'.length d3, .slice B4 l'.length d4]] w fun e w' => e = .returned (.int .i64 (cmpI a a')) ∧ Below w.heap.size w w' := by
 have HB := Aside0.mk (below_alloc (below_alloc (Below.refl w.heap.size w) (zBox a b c ns l A3 c3 A4 c4)) (zBox a' b' c' ns' l' B3 d3 B4 d4))
 have HX := Aside0.mk (two_old_ w (zBox a b c ns l A3 c3 A4 c4) (zBox a' b' c' ns' l' B3 d3 B4 d4))
 have HY := Aside0.mk (two_new_ w (zBox a b c ns l A3 c3 A4 c4) (zBox a' b' c' ns' l' B3 d3 B4 d4))
 have HG := Aside0.mk hgl
 have hsz : ((w.alloc (zBox a b c ns l A3 c3 A4 c4)).alloc (zBox a' b' c' ns' l' B3 d3 B4 d4)).heap.size = w.heap.size + 2 := by simp
 have HSZ := Aside0.mk hsz
 clear hgl hsz
 have hn : (a != a') = true := by simpa using hne
 have HE := Aside0.mk (sgn_cmpI hne)
 clear hne
 go_enter Tryz.func13, Tryz.ntmps13
 go_upto_region 1 with fail
 generalize hW : ((w.alloc (.cells #[.int .i64 a, .int .i64 b, .string c, .slice A3 ns.length c3, .slice A4 l.length c4] 25)).alloc (.cells #[.int .i64 a', .int .i64 b', .string c', .slice B3 ns'.length d3, .slice B4 l'.length d4] 25)) = W2 at HB HX HY HSZ ⊢
 clear hW
 have p0 := (blk_cell HX.out 0).trans rfl
 have p1 := (blk_cell HX.out 1).trans rfl
 have p2 := (blk_cell HX.out 2).trans rfl
 have p3 := (blk_cell HX.out 3).trans rfl
 have p4 := (blk_cell HX.out 4).trans rfl
 have r0 := (blk_cell HY.out 0).trans rfl
 have r1 := (blk_cell HY.out 1).trans rfl
 have r2 := (blk_cell HY.out 2).trans rfl
 have r3 := (blk_cell HY.out 3).trans rfl
 have r4 := (blk_cell HY.out 4).trans rfl
 go_wp2_with (go_at_call 24; go_loud (with_reducible refine (sign_w _ _ (HG.out.below HB.out)).mono ?_); rintro e w1 ⟨he, hd⟩; rw [HE.out] at he; subst he; have HD := Aside0.mk (below_then HB.out HB.out.size (drewN_below hd)); clear hd)
 go_ret
 exact ⟨rfl, HD.out⟩
set_option maxHeartbeats 8000000 in
theorem rcmp_n (a b : Int) (c : ByteArray) (ns : List ByteArray) (l : List DT) (b' : Int) (c' : ByteArray) (ns' : List ByteArray) (l' : List DT) (hne : b ≠ b') (w : World) (hgl : GL w) (A3 : Option Addr) (c3 : Nat) (A4 : Option Addr) (c4 : Nat) (B3 : Option Addr) (d3 : Nat) (B4 : Option Addr) (d4 : Nat) :
  Calls Tryz.prog 13 #[.agg #[.int .i64 a, .int .i64 b, .string c, .slice A3 ns.length c3, .slice A4 l.length c4], .agg #[.int .i64 a, .int .i64 b', .string c', .slice B3 ns'.length d3, .slice B4 l'.length d4]] w fun e w' => e = .returned (.int .i64 (cmpI b b')) ∧ Below w.heap.size w w' := by
 have HB := Aside0.mk (below_alloc (below_alloc (Below.refl w.heap.size w) (zBox a b c ns l A3 c3 A4 c4)) (zBox a b' c' ns' l' B3 d3 B4 d4))
 have HX := Aside0.mk (two_old_ w (zBox a b c ns l A3 c3 A4 c4) (zBox a b' c' ns' l' B3 d3 B4 d4))
 have HY := Aside0.mk (two_new_ w (zBox a b c ns l A3 c3 A4 c4) (zBox a b' c' ns' l' B3 d3 B4 d4))
 have HG := Aside0.mk hgl
 have hsz : ((w.alloc (zBox a b c ns l A3 c3 A4 c4)).alloc (zBox a b' c' ns' l' B3 d3 B4 d4)).heap.size = w.heap.size + 2 := by simp
 have HSZ := Aside0.mk hsz
 clear hgl hsz
 have hn : (b != b') = true := by simpa using hne
 have HE := Aside0.mk (sgn_cmpI hne)
 clear hne
 go_enter Tryz.func13, Tryz.ntmps13
 go_upto_region 1 with fail
 generalize hW : ((w.alloc (.cells #[.int .i64 a, .int .i64 b, .string c, .slice A3 ns.length c3, .slice A4 l.length c4] 25)).alloc (.cells #[.int .i64 a, .int .i64 b', .string c', .slice B3 ns'.length d3, .slice B4 l'.length d4] 25)) = W2 at HB HX HY HSZ ⊢
 clear hW
 have p0 := (blk_cell HX.out 0).trans rfl
 have p1 := (blk_cell HX.out 1).trans rfl
 have p2 := (blk_cell HX.out 2).trans rfl
 have p3 := (blk_cell HX.out 3).trans rfl
 have p4 := (blk_cell HX.out 4).trans rfl
 have r0 := (blk_cell HY.out 0).trans rfl
 have r1 := (blk_cell HY.out 1).trans rfl
 have r2 := (blk_cell HY.out 2).trans rfl
 have r3 := (blk_cell HY.out 3).trans rfl
 have r4 := (blk_cell HY.out 4).trans rfl
 go_wp2_with (go_at_call 24; go_loud (with_reducible refine (sign_w _ _ (HG.out.below HB.out)).mono ?_); rintro e w1 ⟨he, hd⟩; rw [HE.out] at he; subst he; have HD := Aside0.mk (below_then HB.out HB.out.size (drewN_below hd)); clear hd)
 go_ret
 exact ⟨rfl, HD.out⟩
set_option maxHeartbeats 8000000 in
theorem rcmp_t (a b : Int) (c : ByteArray) (ns : List ByteArray) (l : List DT) (c' : ByteArray) (ns' : List ByteArray) (l' : List DT) (hne : c ≠ c') (hc : c.size ≤ 140737488351232) (hc' : c'.size ≤ 140737488351232) (w : World) (hgl : GL w) (A3 : Option Addr) (c3 : Nat) (A4 : Option Addr) (c4 : Nat) (B3 : Option Addr) (d3 : Nat) (B4 : Option Addr) (d4 : Nat) :
  Calls Tryz.prog 13 #[.agg #[.int .i64 a, .int .i64 b, .string c, .slice A3 ns.length c3, .slice A4 l.length c4], .agg #[.int .i64 a, .int .i64 b, .string c', .slice B3 ns'.length d3, .slice B4 l'.length d4]] w fun e w' => e = .returned (.int .i64 (cmpB c c')) ∧ Below w.heap.size w w' := by
 have HB := Aside0.mk (below_alloc (below_alloc (Below.refl w.heap.size w) (zBox a b c ns l A3 c3 A4 c4)) (zBox a b c' ns' l' B3 d3 B4 d4))
 have HX := Aside0.mk (two_old_ w (zBox a b c ns l A3 c3 A4 c4) (zBox a b c' ns' l' B3 d3 B4 d4))
 have HY := Aside0.mk (two_new_ w (zBox a b c ns l A3 c3 A4 c4) (zBox a b c' ns' l' B3 d3 B4 d4))
 have HG := Aside0.mk hgl
 have hsz : ((w.alloc (zBox a b c ns l A3 c3 A4 c4)).alloc (zBox a b c' ns' l' B3 d3 B4 d4)).heap.size = w.heap.size + 2 := by simp
 have HSZ := Aside0.mk hsz
 clear hgl hsz
 have hn : (c.toList == c'.toList) = false := by
  rw [beq_eq_false_iff_ne]
  exact fun h => hne ((toList_iff _ _).1 h)
 have HC := Aside0.mk (compare_w c c' hc hc')
 clear hne hc hc'
 go_enter Tryz.func13, Tryz.ntmps13
 go_upto_region 1 with fail
 generalize hW : ((w.alloc (.cells #[.int .i64 a, .int .i64 b, .string c, .slice A3 ns.length c3, .slice A4 l.length c4] 25)).alloc (.cells #[.int .i64 a, .int .i64 b, .string c', .slice B3 ns'.length d3, .slice B4 l'.length d4] 25)) = W2 at HB HX HY HSZ ⊢
 clear hW
 have p0 := (blk_cell HX.out 0).trans rfl
 have p1 := (blk_cell HX.out 1).trans rfl
 have p2 := (blk_cell HX.out 2).trans rfl
 have p3 := (blk_cell HX.out 3).trans rfl
 have p4 := (blk_cell HX.out 4).trans rfl
 have r0 := (blk_cell HY.out 0).trans rfl
 have r1 := (blk_cell HY.out 1).trans rfl
 have r2 := (blk_cell HY.out 2).trans rfl
 have r3 := (blk_cell HY.out 3).trans rfl
 have r4 := (blk_cell HY.out 4).trans rfl
 go_wp2_with (go_at_call 25; go_loud (with_reducible refine (HC.out _ (HG.out.below HB.out)).mono ?_); rintro e w1 ⟨rfl, hd⟩; have HD := Aside0.mk (below_then HB.out HB.out.size (drewN_below hd)); clear hd)
 go_ret
 exact ⟨rfl, HD.out⟩
theorem getD_some (ns : List ByteArray) (k : Nat) (h : k < ns.length) : ns[k]? = some (ns.getD k em) := by
 rw [List.getD_eq_getElem?_getD, List.getElem?_eq_getElem h]
 rfl
theorem orI_of {x y : Int} (h : x ≠ 0) : orI x y = x := by unfold orI; rw [if_pos h]
theorem orI_0 (y : Int) : orI 0 y = y := rfl
set_option maxHeartbeats 16000000 in
theorem rcmp_l (a b : Int) (c : ByteArray) (ns : List ByteArray) (l : List DT) (ns' : List ByteArray) (l' : List DT) (hs : ∀ s ∈ ns, s.size ≤ 140737488351232) (hs' : ∀ s ∈ ns', s.size ≤ 140737488351232) (hn3 : ns.length ≤ 140737488351232) (hn4 : l.length ≤ 140737488351232) (hm3 : ns'.length ≤ 140737488351232) (hm4 : l'.length ≤ 140737488351232) (ho : ∀ z ∈ l', OkD z) (ih : ∀ z ∈ l, rcmpC z) (w : World) (hgl : GL w) (A3 : Option Addr) (c3 : Nat) (A4 : Option Addr) (c4 : Nat) (B3 : Option Addr) (d3 : Nat) (B4 : Option Addr) (d4 : Nat) (lA3 : ns.length ≤ c3) (gA3 : Kd.string.C w A3 ns.length ns) (lA4 : l.length ≤ c4) (gA4 : k25.C w A4 l.length l) (lB3 : ns'.length ≤ d3) (gB3 : Kd.string.C w B3 ns'.length ns') (lB4 : l'.length ≤ d4) (gB4 : k25.C w B4 l'.length l') :
  Calls Tryz.prog 13 #[.agg #[.int .i64 a, .int .i64 b, .string c, .slice A3 ns.length c3, .slice A4 l.length c4], .agg #[.int .i64 a, .int .i64 b, .string c, .slice B3 ns'.length d3, .slice B4 l'.length d4]] w fun e w' => e = .returned (.int .i64 (orI (lexL cmpB ns ns') (cmpDs l l'))) ∧ Below w.heap.size w w' := by
 have HB := Aside0.mk (below_alloc (below_alloc (Below.refl w.heap.size w) (zBox a b c ns l A3 c3 A4 c4)) (zBox a b c ns' l' B3 d3 B4 d4))
 have HX := Aside0.mk (two_old_ w (zBox a b c ns l A3 c3 A4 c4) (zBox a b c ns' l' B3 d3 B4 d4))
 have HY := Aside0.mk (two_new_ w (zBox a b c ns l A3 c3 A4 c4) (zBox a b c ns' l' B3 d3 B4 d4))
 have HG := Aside0.mk hgl
 have hsz : ((w.alloc (zBox a b c ns l A3 c3 A4 c4)).alloc (zBox a b c ns' l' B3 d3 B4 d4)).heap.size = w.heap.size + 2 := by simp
 have HSZ := Aside0.mk hsz
 clear hgl hsz
 have HA3 := Aside0.mk gA3
 have HA4 := Aside0.mk gA4
 have HB3 := Aside0.mk gB3
 have HB4 := Aside0.mk gB4
 have IH := Aside0.mk ih
 have HO := Aside0.mk ho
 have HSS := Aside0.mk hs
 have HSS' := Aside0.mk hs'
 rw [cmpDs_lex]
 obtain ⟨R, hR⟩ : ∃ R, R = orI (lexL cmpB ns ns') (lexL cmpD l l') := ⟨_, rfl⟩
 rw [← hR]
 have HR := Aside0.mk hR
 clear gA3 gA4 gB3 gB4 ih ho hs hs' hR
 go_enter Tryz.func13, Tryz.ntmps13
 go_upto_region 7 with fail
 generalize hW : ((w.alloc (.cells #[.int .i64 a, .int .i64 b, .string c, .slice A3 ns.length c3, .slice A4 l.length c4] 25)).alloc (.cells #[.int .i64 a, .int .i64 b, .string c, .slice B3 ns'.length d3, .slice B4 l'.length d4] 25)) = W2 at HB HX HY HSZ ⊢
 clear hW
 have p0 := (blk_cell HX.out 0).trans rfl
 have p1 := (blk_cell HX.out 1).trans rfl
 have p2 := (blk_cell HX.out 2).trans rfl
 have p3 := (blk_cell HX.out 3).trans rfl
 have p4 := (blk_cell HX.out 4).trans rfl
 have r0 := (blk_cell HY.out 0).trans rfl
 have r1 := (blk_cell HY.out 1).trans rfl
 have r2 := (blk_cell HY.out 2).trans rfl
 have r3 := (blk_cell HY.out 3).trans rfl
 have r4 := (blk_cell HY.out 4).trans rfl
 go_wp2_with fail
 go_loopg [5] ns.length (fun gk i wr => ∃ k : Nat, k ≤ ns.length ∧ k ≤ ns'.length ∧ i = .int .i64 k ∧ Aside0 (k + gk = ns.length ∧ Below W2.heap.size W2 wr ∧ ∀ j, j < k → ns[j]? = ns'[j]?))
 case atStart => exact ⟨0, by omega, by omega, rfl, ⟨by omega, Below.refl _ _, fun j hj => by omega⟩⟩
 case round =>
  clear p0 p1 p2 p3 p4 r0 r1 r2 r3 r4
  obtain ⟨k, hk, hk', rfl, HV⟩ := hrel
  obtain ⟨hkg, hb, he⟩ := HV.out
  have HBW := Aside0.mk hb
  have HN := Aside0.mk hkg
  have HE := Aside0.mk he
  have HXr := Aside0.mk ((hb.block w.heap.size (by have := HSZ.out; omega)).trans HX.out)
  have HYr := Aside0.mk ((hb.block (w.heap.size + 1) (by have := HSZ.out; omega)).trans HY.out)
  have HBr := Aside0.mk (below_then HB.out HB.out.size hb)
  clear HV hkg hb he
  have p3 := (blk_cell HXr.out 3).trans rfl
  have p4 := (blk_cell HXr.out 4).trans rfl
  have r3 := (blk_cell HYr.out 3).trans rfl
  have r4 := (blk_cell HYr.out 4).trans rfl
  by_cases hlt : k < ns.length ∧ k < ns'.length
  ·obtain ⟨hlt, hlt'⟩ := hlt
   obtain ⟨ad, hade, n1⟩ := Kd.at_string (Kd.C_below HA3.out HBr.out) (k : Int) (by omega) (by omega)
   obtain ⟨bd, hbde, n2⟩ := Kd.at_string (Kd.C_below HB3.out HBr.out) (k : Int) (by omega) (by omega)
   rw [Int.toNat_natCast, get_rdOf] at n1 n2
   have hG1 := getD_some ns k hlt
   have hG2 := getD_some ns' k hlt'
   have hZ1 := getD_size HSS.out k
   have hZ2 := getD_size HSS'.out k
   obtain ⟨s, hs⟩ : ∃ s, s = ns.getD k em := ⟨_, rfl⟩
   obtain ⟨s', hs'⟩ : ∃ s, s = ns'.getD k em := ⟨_, rfl⟩
   rw [← hs] at n1 hG1 hZ1
   rw [← hs'] at n2 hG2 hZ2
   have HS := Aside0.mk (And.intro hG1 hG2)
   have HC := Aside0.mk (compare_w s s' hZ1 hZ2)
   subst hade
   subst hbde
   clear hs hs' hG1 hG2 hZ1 hZ2
   by_cases hq : s = s'
   ·subst hq
    go_upto_region 10 with fail
    go_quiet (fail)
    go_wp2_with fail
    go_roundg (gk - 1)
    case measure => have := HN.out; omega
    case rel => exact ⟨k + 1, by omega, by omega, by go_num, ⟨by have := HN.out; omega, pw_below_drewN HBW.out _, fun j hj => by
     by_cases hjk : j = k
     ·rw [hjk, HS.out.1, HS.out.2]
     ·exact HE.out j (by omega)⟩⟩
   ·have hne : (s.toList == s'.toList) = false := by
     rw [beq_eq_false_iff_ne]
     exact fun h => hq ((toList_iff _ _).1 h)
    have HNE := Aside0.mk (show cmpB s s' ≠ 0 from fun h => hq ((cmpB_ord.eq _ _).1 h))
    clear hq
    go_upto_region 10 with fail
    go_quiet (fail)
    go_upto_region 11 with fail
    go_quiet ((go_at_call 25; go_loud (refine (HC.out _ (HG.out.below ?_)).mono ?_; (exact pw_below_drewN HBr.out _); rintro e w'' ⟨rfl, m, rfl⟩; refine ⟨rfl, ?_⟩; rw [World.drewN_drewN, Nat.add_assoc]; exact ⟨_, rfl⟩)))
    go_wp2_with fail
    go_ret
    refine ⟨?_, by first | exact pw_below_drewN HBr.out _ | exact pw_below_drewN (pw_below_drewN HBr.out _) _⟩
    rw [HR.out, lexL_at cmpB_ord k ns ns' HE.out s s' HS.out.1 HS.out.2 HNE.out, orI_of HNE.out]
    rfl
  ·have hout : ns.length ≤ k ∨ ns'.length ≤ k := by omega
   have HND := Aside0.mk (lexL_end cmpB_ord k ns ns' hk hk' hout HE.out)
   clear HN HE
   have hstop : ∀ b1 b2 : Bool, decide (k < ns.length) = b1 → decide (k < ns'.length) = b2 → (b1 && b2) = false := by
    intro b1 b2 e1 e2
    subst e1
    subst e2
    simpa using hlt
   clear hlt
   by_cases hL : ns.length = ns'.length
   ·have hlt1 : ¬ k < ns.length := by omega
    have HNQ := Aside0.mk (show lexL cmpB ns ns' = 0 from by rw [HND.out, if_pos hL])
    have hLn : ((ns.length : Int) != (ns'.length : Int)) = false := by rw [hL]; simp
    clear hout hL HND hstop
    go_wp2_with fail
    clear p3 p4 r3 r4
    generalize hW3 : wr = W3 at HBW HXr HYr HBr ⊢
    clear hW3
    go_loopg [6] l.length (fun gk i wq => ∃ k : Nat, k ≤ l.length ∧ k ≤ l'.length ∧ i = .int .i64 k ∧ Aside0 (k + gk = l.length ∧ Below W3.heap.size W3 wq ∧ ∀ j, j < k → l[j]? = l'[j]?))
    case atStart => exact ⟨0, by omega, by omega, rfl, ⟨by omega, Below.refl _ _, fun j hj => by omega⟩⟩
    case round =>
     obtain ⟨k, hk, hk', rfl, HV⟩ := hrel
     obtain ⟨hkg, hb, he⟩ := HV.out
     have HBQ := Aside0.mk hb
     have HN := Aside0.mk hkg
     have HE := Aside0.mk he
     have HXq := Aside0.mk ((hb.block w.heap.size (blk_lt HXr.out)).trans HXr.out)
     have HYq := Aside0.mk ((hb.block (w.heap.size + 1) (blk_lt HYr.out)).trans HYr.out)
     have HBt := Aside0.mk (below_then HBr.out HBr.out.size hb)
     clear HV hkg hb he
     have p3 := (blk_cell HXq.out 3).trans rfl
     have p4 := (blk_cell HXq.out 4).trans rfl
     have r3 := (blk_cell HYq.out 3).trans rfl
     have r4 := (blk_cell HYq.out 4).trans rfl
     by_cases hlt : k < l.length ∧ k < l'.length
     ·obtain ⟨hlq, hk4⟩ := hlt
      obtain ⟨ad, A3q, c3q, A4q, c4q, hA, a0, a1, a2, a3, a4, hl3, hC3, hl4, hC4⟩ := at_T25 HA4.out (k : Int) (by omega) (by omega)
      obtain ⟨bd, B3q, d3q, B4q, d4q, hB, b0, b1, b2, b3, b4, ml3, mC3, ml4, mC4⟩ := at_T25 HB4.out (k : Int) (by omega) (by omega)
      rw [rd_getElem l k hlq, Int.toNat_natCast] at *
      rw [rd_getElem l' k hk4] at *
      obtain ⟨y, hy⟩ : ∃ y, y = l[k] := ⟨_, rfl⟩
      obtain ⟨z, hz⟩ : ∃ z, z = l'[k] := ⟨_, rfl⟩
      have HYM := Aside0.mk (show y ∈ l from hy ▸ List.getElem_mem hlq)
      have HZM := Aside0.mk (show z ∈ l' from hz ▸ List.getElem_mem hk4)
      have HYZ := Aside0.mk (And.intro (show l[k]? = some y by rw [List.getElem?_eq_getElem hlq, hy]) (show l'[k]? = some z by rw [List.getElem?_eq_getElem hk4, hz]))
      rw [← hy] at a0 a1 a2 a3 a4 hl3 hC3 hl4 hC4
      rw [← hz] at b0 b1 b2 b3 b4 ml3 mC3 ml4 mC4
      subst hA
      subst hB
      clear hy hz
      replace a0 := pw_cell_below HBt.out a0
      replace a1 := pw_cell_below HBt.out a1
      replace a2 := pw_cell_below HBt.out a2
      replace a3 := pw_cell_below HBt.out a3
      replace a4 := pw_cell_below HBt.out a4
      replace b0 := pw_cell_below HBt.out b0
      replace b1 := pw_cell_below HBt.out b1
      replace b2 := pw_cell_below HBt.out b2
      replace b3 := pw_cell_below HBt.out b3
      replace b4 := pw_cell_below HBt.out b4
      have HCS := Aside0.mk (IH.out y HYM.out z (HO.out z HZM.out) wr.drew (HG.out.below HBt.out.drew) A3q c3q A4q c4q B3q d3q B4q d4q hl3 (Kd.string.C_below hC3 HBt.out.drew) hl4 (k25.C_below hC4 HBt.out.drew) ml3 (Kd.string.C_below mC3 HBt.out.drew) ml4 (k25.C_below mC4 HBt.out.drew))
      obtain ⟨cv, hcv⟩ : ∃ v, cmpD y z = v := ⟨_, rfl⟩
      have HCV := Aside0.mk hcv
      have hlt2 : (k : Int) < (l.length : Int) := by omega
      have hlt3 : (k : Int) < (l'.length : Int) := by omega
      clear hl3 hC3 hl4 hC4 ml3 mC3 ml4 mC4 hcv
      go_upto_region 17 with fail
      refine start_ (n := 12) (S := fun w' => w'.cell? ⟨w.heap.size, 4, none⟩ = some (.slice (some ad) l.length c4) ∧ w'.cell? ⟨w.heap.size + 1, 4, none⟩ = some (.slice (some bd) l'.length d4) ∧ w'.cell? (ad.add (k * 5)) = some (.int .i64 y.f0) ∧ w'.cell? ⟨(ad.add (k * 5)).block, (ad.add (k * 5)).off + 1, none⟩ = some (.int .i64 y.f1) ∧ w'.cell? ⟨(ad.add (k * 5)).block, (ad.add (k * 5)).off + 2, none⟩ = some (.string y.f2) ∧ w'.cell? ⟨(ad.add (k * 5)).block, (ad.add (k * 5)).off + 3, none⟩ = some (.slice A3q y.f3.length c3q) ∧ w'.cell? ⟨(ad.add (k * 5)).block, (ad.add (k * 5)).off + 4, none⟩ = some (.slice A4q y.f4.length c4q) ∧ w'.cell? (bd.add (k * 5)) = some (.int .i64 z.f0) ∧ w'.cell? ⟨(bd.add (k * 5)).block, (bd.add (k * 5)).off + 1, none⟩ = some (.int .i64 z.f1) ∧ w'.cell? ⟨(bd.add (k * 5)).block, (bd.add (k * 5)).off + 2, none⟩ = some (.string z.f2) ∧ w'.cell? ⟨(bd.add (k * 5)).block, (bd.add (k * 5)).off + 3, none⟩ = some (.slice B3q z.f3.length d3q) ∧ w'.cell? ⟨(bd.add (k * 5)).block, (bd.add (k * 5)).off + 4, none⟩ = some (.slice B4q z.f4.length d4q)) (ds := []) #[false, false, false, false, false, false, false, false, false, false, false, false] (by kernel_rfl) rfl rfl ⟨cell_drew p4, cell_drew r4, cell_drew a0, cell_drew a1, cell_drew a2, cell_drew a3, cell_drew a4, cell_drew b0, cell_drew b1, cell_drew b2, cell_drew b3, cell_drew b4⟩ (fun hHeld => ?_)
      refine pure_ (i := 0) (N := some 105) (v := ?_) (a' := ?_) #[true, false, false, false, false, false, false, false, false, false, false, false] rfl rfl (by kernel_rfl) (fun _ _ _ h => h) (Or.inl ⟨by rfl, ?_⟩) ?_ ?_
      rotate_left
      ·intro w'
       go_simp
       with_reducible rfl
      rotate_left
      ·simp only [Act.put, List.setIfInBounds_toArray, List.set_cons_zero, List.set_cons_succ, i64_w, i32_w]
       rfl
      refine pure_ (i := 2) (N := some 107) (v := ?_) (a' := ?_) #[true, false, true, false, false, false, false, false, false, false, false, false] rfl rfl (by kernel_rfl) (fun _ _ _ h => h) (Or.inl ⟨by rfl, ?_⟩) ?_ ?_
      rotate_left
      ·intro w'
       go_simp
       with_reducible rfl
      rotate_left
      ·simp only [Act.put, List.setIfInBounds_toArray, List.set_cons_zero, List.set_cons_succ, i64_w, i32_w]
       rfl
      refine pure_ (i := 5) (N := some 110) (v := ?_) (a' := ?_) #[true, false, true, false, false, true, false, false, false, false, false, false] rfl rfl (by kernel_rfl) (fun _ _ _ h => h) (Or.inl ⟨by rfl, ?_⟩) ?_ ?_
      rotate_left
      ·intro w'
       go_simp
       with_reducible rfl
      rotate_left
      ·simp only [Act.put, List.setIfInBounds_toArray, List.set_cons_zero, List.set_cons_succ, i64_w, i32_w]
       rfl
      refine pure_ (i := 7) (N := some 112) (v := ?_) (a' := ?_) #[true, false, true, false, false, true, false, true, false, false, false, false] rfl rfl (by kernel_rfl) (fun _ _ _ h => h) (Or.inl ⟨by rfl, ?_⟩) ?_ ?_
      rotate_left
      ·intro w'
       go_simp
       with_reducible rfl
      rotate_left
      ·simp only [Act.put, List.setIfInBounds_toArray, List.set_cons_zero, List.set_cons_succ, i64_w, i32_w]
       rfl
      refine take_ (i := 1) (N := some 106) (v := ?_) (a' := ?_) #[true, true, true, false, false, true, false, true, false, false, false, false] rfl rfl (by kernel_rfl) (fun _ _ _ h => h) (Or.inl ⟨by rfl, ?_⟩) hHeld ?_ ?_
      rotate_left
      ·intro w' s0
       go_split_ands
       go_simp
       with_reducible rfl
      rotate_left
      ·simp only [Act.put, List.setIfInBounds_toArray, List.set_cons_zero, List.set_cons_succ, i64_w, i32_w]
       rfl
      refine pure_ (i := 3) (N := some 108) (v := ?_) (a' := ?_) #[true, true, true, true, false, true, false, true, false, false, false, false] rfl rfl (by kernel_rfl) (fun _ _ _ h => h) (Or.inl ⟨by rfl, ?_⟩) ?_ ?_
      rotate_left
      ·intro w'
       go_simp
       with_reducible rfl
      rotate_left
      ·simp only [Act.put, List.setIfInBounds_toArray, List.set_cons_zero, List.set_cons_succ, i64_w, i32_w]
       rfl
      refine take_ (i := 4) (N := some 109) (v := ?_) (a' := ?_) #[true, true, true, true, true, true, false, true, false, false, false, false] rfl rfl (by kernel_rfl) (fun _ _ _ h => h) (Or.inl ⟨by rfl, ?_⟩) hHeld ?_ ?_
      rotate_left
      ·intro w' s0
       go_split_ands
       go_simp
       with_reducible rfl
      rotate_left
      ·simp only [Act.put, List.setIfInBounds_toArray, List.set_cons_zero, List.set_cons_succ, i64_w, i32_w]
       rfl
      refine take_ (i := 6) (N := some 111) (v := ?_) (a' := ?_) #[true, true, true, true, true, true, true, true, false, false, false, false] rfl rfl (by kernel_rfl) (fun _ _ _ h => h) (Or.inl ⟨by rfl, ?_⟩) hHeld ?_ ?_
      rotate_left
      ·intro w' s0
       go_split_ands
       go_simp
       with_reducible rfl
      rotate_left
      ·simp only [Act.put, List.setIfInBounds_toArray, List.set_cons_zero, List.set_cons_succ, i64_w, i32_w]
       rfl
      refine pure_ (i := 8) (N := some 113) (v := ?_) (a' := ?_) #[true, true, true, true, true, true, true, true, true, false, false, false] rfl rfl (by kernel_rfl) (fun _ _ _ h => h) (Or.inl ⟨by rfl, ?_⟩) ?_ ?_
      rotate_left
      ·intro w'
       go_simp
       with_reducible rfl
      rotate_left
      ·simp only [Act.put, List.setIfInBounds_toArray, List.set_cons_zero, List.set_cons_succ, i64_w, i32_w]
       rfl
      refine take_ (i := 9) (N := some 114) (v := ?_) (a' := ?_) #[true, true, true, true, true, true, true, true, true, true, false, false] rfl rfl (by kernel_rfl) (fun _ _ _ h => h) (Or.inl ⟨by rfl, ?_⟩) hHeld ?_ ?_
      rotate_left
      ·intro w' s0
       go_split_ands
       go_simp
       with_reducible rfl
      rotate_left
      ·simp only [Act.put, List.setIfInBounds_toArray, List.set_cons_zero, List.set_cons_succ, i64_w, i32_w]
       rfl
      refine one_ (i := 10) (N := some 115) #[true, true, true, true, true, true, true, true, true, true, true, false] rfl rfl (by kernel_rfl) (by decide) (fun K hK => ?_)
      refine goes_ Tryz.func13 (by kernel_rfl) rfl #[aggD y A3q c3q A4q c4q, aggD z B3q d3q B4q d4q] (by rfl) rfl rfl (by (try simp only [List.map_toArray, List.map_cons, List.map_nil]); first | done | rfl) ?_
      refine HCS.out.mono ?_
      rintro e w' ⟨he5, hb5⟩
      rw [HCV.out] at he5
      subst he5
      have HB5 := Aside0.mk hb5
      refine ⟨_, rfl, ?_⟩
      refine hK.out _ _ ⟨pw_cell_below hb5 (cell_drew p4), pw_cell_below hb5 (cell_drew r4), pw_cell_below hb5 (cell_drew a0), pw_cell_below hb5 (cell_drew a1), pw_cell_below hb5 (cell_drew a2), pw_cell_below hb5 (cell_drew a3), pw_cell_below hb5 (cell_drew a4), pw_cell_below hb5 (cell_drew b0), pw_cell_below hb5 (cell_drew b1), pw_cell_below hb5 (cell_drew b2), pw_cell_below hb5 (cell_drew b3), pw_cell_below hb5 (cell_drew b4)⟩ (fun hHeld => ?_)
      clear hK K hb5
      refine norm_ (a' := ?_) ?_ ?_
      rotate_left
      ·show Act.put _ (some 115) _ = _
       simp only [Act.put, List.setIfInBounds_toArray, List.set_cons_zero, List.set_cons_succ, i64_w, i32_w]
       rfl
      refine pure_ (i := 11) (N := some 7) (v := ?_) (a' := ?_) #[true, true, true, true, true, true, true, true, true, true, true, true] rfl rfl (by kernel_rfl) (fun _ _ _ h => h) (Or.inl ⟨by rfl, ?_⟩) ?_ ?_
      rotate_left
      ·intro w'
       go_simp
       with_reducible rfl
      rotate_left
      ·simp only [Act.put, List.setIfInBounds_toArray, List.set_cons_zero, List.set_cons_succ, i64_w, i32_w]
       rfl
      refine done_ (by kernel_rfl) ?_
      by_cases hc0 : cv = 0
      ·subst hc0
       go_wp2_with fail
       go_roundg (gk - 1)
       case measure => have := HN.out; omega
       case rel => exact ⟨k + 1, by omega, by omega, by go_num, ⟨by have := HN.out; omega, below_then HBQ.out.drew HBQ.out.size HB5.out, fun j hj => by
        by_cases hjk : j = k
        ·rw [hjk, HYZ.out.1, HYZ.out.2, (cmpD_eq y z).1 HCV.out]
        ·exact HE.out j (by omega)⟩⟩
      ·have hcb : (cv != 0) = true := by simpa using hc0
       have HNZ := Aside0.mk hc0
       clear hc0
       go_wp2_with fail
       go_ret
       refine ⟨?_, below_then HBt.out.drew HBt.out.size HB5.out⟩
       rw [HR.out, HNQ.out, orI_0, lexL_at cmpD_ord k l l' HE.out y z HYZ.out.1 HYZ.out.2 (HCV.out ▸ HNZ.out), HCV.out]
       rfl
     ·have hout : l.length ≤ k ∨ l'.length ≤ k := by omega
      have HLD := Aside0.mk (lexL_end cmpD_ord k l l' hk hk' hout HE.out)
      clear HN HE
      by_cases hL : l.length = l'.length
      ·have hLn : ((l.length : Int) != (l'.length : Int)) = false := by rw [hL]; simp
       have hlt1 : ¬ k < l.length := by omega
       have HLQ := Aside0.mk (show lexL cmpD l l' = 0 from by rw [HLD.out, if_pos hL])
       clear hout hL HLD hlt
       go_wp2_with fail
       go_ret
       refine ⟨?_, HBt.out⟩
       rw [HR.out, HNQ.out, orI_0, HLQ.out]
       rfl
      ·have hLn : ((l.length : Int) != (l'.length : Int)) = true := by
        rw [bne_iff_ne]; omega
       have HLQ := Aside0.mk (show lexL cmpD l l' = (if decide (l.length < l'.length) = true then -1 else 1) from by
        rw [HLD.out, if_neg hL]
        by_cases h : l.length < l'.length <;> simp [h])
       clear hL HLD hlt
       obtain ⟨v, hv⟩ : ∃ v : Int, (if decide (l.length < l'.length) = true then -1 else 1) = v := ⟨_, rfl⟩
       rw [hv] at HLQ
       have HSG := Aside0.mk (sign_w (decide (l.length < l'.length)) _ (HG.out.below HBt.out))
       rw [hv] at HSG
       clear hv
       by_cases hk1 : k < l.length
       ·have hk2 : ¬ k < l'.length := by omega
        clear hout
        go_wp2_with (go_at_call 24; go_loud (with_reducible refine HSG.out.mono ?_); rintro e w1 ⟨rfl, hd⟩; have HD := Aside0.mk (below_then HBt.out HBt.out.size (drewN_below hd)); clear hd)
        go_ret
        refine ⟨?_, HD.out⟩
        rw [HR.out, HNQ.out, orI_0, HLQ.out]
        rfl
       ·clear hout
        go_wp2_with (go_at_call 24; go_loud (with_reducible refine HSG.out.mono ?_); rintro e w1 ⟨rfl, hd⟩; have HD := Aside0.mk (below_then HBt.out HBt.out.size (drewN_below hd)); clear hd)
        go_ret
        refine ⟨?_, HD.out⟩
        rw [HR.out, HNQ.out, orI_0, HLQ.out]
        rfl
   ·have hLn : ((ns.length : Int) != (ns'.length : Int)) = true := by
     rw [bne_iff_ne]; omega
    have HLQ := Aside0.mk (show orI (lexL cmpB ns ns') (lexL cmpD l l') = (if decide (ns.length < ns'.length) = true then -1 else 1) from by
     rw [HND.out, if_neg hL]
     by_cases h : ns.length < ns'.length <;> simp [h, orI])
    clear hL HND hstop
    obtain ⟨v, hv⟩ : ∃ v : Int, (if decide (ns.length < ns'.length) = true then -1 else 1) = v := ⟨_, rfl⟩
    rw [hv] at HLQ
    have HSG := Aside0.mk (sign_w (decide (ns.length < ns'.length)) _ (HG.out.below HBr.out))
    rw [hv] at HSG
    clear hv
    by_cases hk1 : k < ns.length
    ·have hk2 : ¬ k < ns'.length := by omega
     clear hout
     go_wp2_with (go_at_call 24; go_loud (with_reducible refine HSG.out.mono ?_); rintro e w1 ⟨rfl, hd⟩; have HD := Aside0.mk (below_then HBr.out HBr.out.size (drewN_below hd)); clear hd)
     go_ret
     refine ⟨?_, HD.out⟩
     rw [HR.out, HLQ.out]
     rfl
    ·clear hout
     go_wp2_with (go_at_call 24; go_loud (with_reducible refine HSG.out.mono ?_); rintro e w1 ⟨rfl, hd⟩; have HD := Aside0.mk (below_then HBr.out HBr.out.size (drewN_below hd)); clear hd)
     go_ret
     refine ⟨?_, HD.out⟩
     rw [HR.out, HLQ.out]
     rfl
theorem rcmp_c (x : DT) (hx : OkD x) : rcmpC x := by
 induction hx with
 | mk x h0 h1 h2 n3 h3 n4 h4 ih =>
  intro y hy w hgl A3 c3 A4 c4 B3 d3 B4 d4 lA3 gA3 lA4 gA4 lB3 gB3 lB4 gB4
  rcases x with ⟨a, b, c, ns, l⟩
  rcases y with ⟨a', b', c', ns', l'⟩
  obtain ⟨_, _, y2, y3, y3', y4, y4'⟩ := hy.out
  simp only at h2 n3 h3 n4 ih lA3 gA3 lA4 gA4 lB3 gB3 lB4 gB4 y2 y3 y3' y4 y4'
  simp only [aggD]
  rw [cmpD]
  by_cases ha : a = a'
  ·subst ha
   rw [(cmpI_ord.eq a a).2 rfl, orI_0]
   by_cases hb : b = b'
   ·subst hb
    rw [(cmpI_ord.eq b b).2 rfl, orI_0]
    by_cases hc : c = c'
    ·subst hc
     rw [(cmpB_ord.eq c c).2 rfl, orI_0]
     exact rcmp_l a b c ns l ns' l' h3 y3' n3 n4 y3 y4 y4' ih w hgl A3 c3 A4 c4 B3 d3 B4 d4 lA3 gA3 lA4 gA4 lB3 gB3 lB4 gB4
    ·rw [orI_of (fun h => hc ((cmpB_ord.eq _ _).1 h))]
     exact rcmp_t a b c ns l c' ns' l' hc h2 y2 w hgl A3 c3 A4 c4 B3 d3 B4 d4
   ·rw [orI_of (fun h => hb ((cmpI_ord.eq _ _).1 h))]
    exact rcmp_n a b c ns l b' c' ns' l' hb w hgl A3 c3 A4 c4 B3 d3 B4 d4
  ·rw [orI_of (fun h => ha ((cmpI_ord.eq _ _).1 h))]
   exact rcmp_k a b c ns l a' b' c' ns' l' ha w hgl A3 c3 A4 c4 B3 d3 B4 d4
end Go.Proofs.YtidcecpbihmloaaGreatDoorE

namespace Go.Proofs.YtidcecpbihmloaaGreatDoorE
open Go Go.RowKit Go.Proofs.YtidcecpbihmloaaGreatDoorW.PrintWords Go.Proofs.YtidcecpbihmloaaGreatDoorW.PrintMore Go.Proofs.YtidcecpbihmloaaGreatDoorW.PrintLast Go.Proofs.YtidcecpbihmloaaGreatDoorX Go.Proofs.YtidcecpbihmloaaGreatDoor.P16 Go.Proofs.YtidcecpbihmloaaGreatDoor.M02
set_option linter.unusedVariables false
set_option linter.unusedSimpArgs false
set_option maxRecDepth 100000
/-- What datum.compare says of a piece and any other. -/
def cmpC (x : DT) : Prop := ∀ (y : DT), OkD y → ∀ (w : World), GL w → ∀ (A3 : Option Addr) (c3 : Nat) (A4 : Option Addr) (c4 : Nat) (B3 : Option Addr) (d3 : Nat) (B4 : Option Addr) (d4 : Nat), x.f3.length ≤ c3 → Kd.string.C w A3 x.f3.length x.f3 → x.f4.length ≤ c4 → k25.C w A4 x.f4.length x.f4 → y.f3.length ≤ d3 → Kd.string.C w B3 y.f3.length y.f3 → y.f4.length ≤ d4 → k25.C w B4 y.f4.length y.f4 →
 Calls Tryz.prog 23 #[aggD x A3 c3 A4 c4, aggD y B3 d3 B4 d4] w fun e w' => e = .returned (.int .i64 (cmpD x y)) ∧ Below w.heap.size w w'
set_option maxHeartbeats 16000000 in
theorem cfunc_c (l l' : List DT) (hn4 : l.length ≤ 140737488351232) (hm4 : l'.length ≤ 140737488351232) (ho : ∀ z ∈ l', OkD z) (ih : ∀ z ∈ l, cmpC z) (w : World) (hgl : GL w) (A : Option Addr) (c : Nat) (A' : Option Addr) (c' : Nat) (lA : l.length ≤ c) (gA : k25.C w A l.length l) (lB : l'.length ≤ c') (gB : k25.C w A' l'.length l') :
  Calls Tryz.prog 45 #[.slice A l.length c, .slice A' l'.length c', .func (.func 23) #[] #[]] w fun e w' => e = .returned (.int .i64 (lexL cmpD l l')) ∧ Below w.heap.size w w' := by
 have HA4 := Aside0.mk gA
 have HB4 := Aside0.mk gB
 have IH := Aside0.mk ih
 have HO := Aside0.mk ho
 have HG := Aside0.mk hgl
 obtain ⟨R, hR⟩ : ∃ R, R = lexL cmpD l l' := ⟨_, rfl⟩
 rw [← hR]
 have HR := Aside0.mk hR
 clear gA gB ih ho hgl hR
 go_enter Tryz.func45, Tryz.ntmps45
 go_wp2_with fail
 go_loopg [13] l.length (fun gk i wr => ∃ k : Nat, k ≤ l.length ∧ k ≤ l'.length ∧ i = .int .i64 k ∧ Aside0 (k + gk = l.length ∧ Below w.heap.size w wr ∧ ∀ j, j < k → l[j]? = l'[j]?))
 case atStart => exact ⟨0, by omega, by omega, rfl, ⟨by omega, Below.refl _ _, fun j hj => by omega⟩⟩
 case round =>
  obtain ⟨k, hk, hk', rfl, HV⟩ := hrel
  obtain ⟨hkg, hb, he⟩ := HV.out
  have HBt := Aside0.mk hb
  have HN := Aside0.mk hkg
  have HE := Aside0.mk he
  clear HV hkg hb he
  by_cases hlq : k < l.length
  ·obtain ⟨ad, A3q, c3q, A4q, c4q, hA, a0, a1, a2, a3, a4, hl3, hC3, hl4, hC4⟩ := at_T25 HA4.out (k : Int) (by omega) (by omega)
   rw [rd_getElem l k hlq, Int.toNat_natCast] at *
   obtain ⟨y, hy⟩ : ∃ y, y = l[k] := ⟨_, rfl⟩
   have HYM := Aside0.mk (show y ∈ l from hy ▸ List.getElem_mem hlq)
   have HYL := Aside0.mk (show l[k]? = some y by rw [List.getElem?_eq_getElem hlq, hy])
   rw [← hy] at a0 a1 a2 a3 a4 hl3 hC3 hl4 hC4
   subst hA
   clear hy
   replace a0 := pw_cell_below HBt.out a0
   replace a1 := pw_cell_below HBt.out a1
   replace a2 := pw_cell_below HBt.out a2
   replace a3 := pw_cell_below HBt.out a3
   replace a4 := pw_cell_below HBt.out a4
   have HYC := Aside0.mk (And.intro (And.intro hl3 hC3) (And.intro hl4 hC4))
   have HBA := Aside0.mk (below_then HBt.out HBt.out.size (below_alloc (Below.refl wr.heap.size wr) (xBox y A3q c3q A4q c4q)))
   have HXA := Aside0.mk (heap_alloc_new wr (xBox y A3q c3q A4q c4q))
   clear hl3 hC3 hl4 hC4
   by_cases hk4 : k < l'.length
   ·have hlt2 : (k : Int) < (l.length : Int) := by omega
    have hlt3 : (k : Int) < (l'.length : Int) := by omega
    go_upto_region 6 with fail
    generalize hWA : wr.alloc (.cells #[.int .i64 y.f0, .int .i64 y.f1, .string y.f2, .slice A3q y.f3.length c3q, .slice A4q y.f4.length c4q] 25) = wa at HBA HXA ⊢
    clear hWA a0 a1 a2 a3 a4
    obtain ⟨bd, B3q, d3q, B4q, d4q, hB, b0, b1, b2, b3, b4, ml3, mC3, ml4, mC4⟩ := at_T25 HB4.out (k : Int) (by omega) (by omega)
    rw [rd_getElem l' k hk4, Int.toNat_natCast] at *
    obtain ⟨z, hz⟩ : ∃ z, z = l'[k] := ⟨_, rfl⟩
    have HZM := Aside0.mk (show z ∈ l' from hz ▸ List.getElem_mem hk4)
    have HZL := Aside0.mk (show l'[k]? = some z by rw [List.getElem?_eq_getElem hk4, hz])
    rw [← hz] at b0 b1 b2 b3 b4 ml3 mC3 ml4 mC4
    subst hB
    clear hz
    replace b0 := pw_cell_below HBA.out b0
    replace b1 := pw_cell_below HBA.out b1
    replace b2 := pw_cell_below HBA.out b2
    replace b3 := pw_cell_below HBA.out b3
    replace b4 := pw_cell_below HBA.out b4
    have HZC := Aside0.mk (And.intro (And.intro ml3 mC3) (And.intro ml4 mC4))
    have HAB := Aside0.mk (below_alloc (Below.refl wa.heap.size wa) (xBox z B3q d3q B4q d4q))
    have HXB := Aside0.mk (heap_alloc_new wa (xBox z B3q d3q B4q d4q))
    clear ml3 mC3 ml4 mC4
    go_upto_region 7 with fail
    generalize hWB : wa.alloc (.cells #[.int .i64 z.f0, .int .i64 z.f1, .string z.f2, .slice B3q z.f3.length d3q, .slice B4q z.f4.length d4q] 25) = wb at HAB HXB ⊢
    clear hWB b0 b1 b2 b3 b4
    have HBB := Aside0.mk (below_then HBA.out HBA.out.size HAB.out)
    have HXC := Aside0.mk ((HAB.out.block wr.heap.size (blk_lt HXA.out)).trans HXA.out)
    have p0 := (blk_cell HXC.out 0).trans rfl
    have p1 := (blk_cell HXC.out 1).trans rfl
    have p2 := (blk_cell HXC.out 2).trans rfl
    have p3 := (blk_cell HXC.out 3).trans rfl
    have p4 := (blk_cell HXC.out 4).trans rfl
    have r0 := (blk_cell HXB.out 0).trans rfl
    have r1 := (blk_cell HXB.out 1).trans rfl
    have r2 := (blk_cell HXB.out 2).trans rfl
    have r3 := (blk_cell HXB.out 3).trans rfl
    have r4 := (blk_cell HXB.out 4).trans rfl
    have HCS := Aside0.mk (IH.out y HYM.out z (HO.out z HZM.out) wb (HG.out.below HBB.out) A3q c3q A4q c4q B3q d3q B4q d4q HYC.out.1.1 (Kd.string.C_below HYC.out.1.2 HBB.out) HYC.out.2.1 (k25.C_below HYC.out.2.2 HBB.out) HZC.out.1.1 (Kd.string.C_below HZC.out.1.2 HBB.out) HZC.out.2.1 (k25.C_below HZC.out.2.2 HBB.out))
    obtain ⟨cv, hcv⟩ : ∃ v, cmpD y z = v := ⟨_, rfl⟩
    have HCV := Aside0.mk hcv
    rw [hcv] at HCS
    clear hcv
    by_cases hc0 : cv = 0
    ·subst hc0
     go_wp2_with (go_at_call 23; go_loud (with_reducible refine HCS.out.mono ?_); rintro e w4 ⟨rfl, hb4⟩; have HB5 := Aside0.mk (below_then HBB.out HBB.out.size hb4); clear hb4)
     go_roundg (gk - 1)
     case measure => have := HN.out; omega
     case rel => exact ⟨k + 1, by omega, by omega, by go_num, ⟨by have := HN.out; omega, HB5.out, fun j hj => by
      by_cases hjk : j = k
      ·rw [hjk, HYL.out, HZL.out, (cmpD_eq y z).1 HCV.out]
      ·exact HE.out j (by omega)⟩⟩
    ·have hcb : (cv != 0) = true := by simpa using hc0
     have HNZ := Aside0.mk hc0
     clear hc0
     go_wp2_with (go_at_call 23; go_loud (with_reducible refine HCS.out.mono ?_); rintro e w4 ⟨rfl, hb4⟩; have HB5 := Aside0.mk (below_then HBB.out HBB.out.size hb4); clear hb4)
     go_ret
     refine ⟨?_, HB5.out⟩
     rw [HR.out, lexL_at cmpD_ord k l l' HE.out y z HYL.out HZL.out (HCV.out ▸ HNZ.out), HCV.out]
     rfl
   ·have HRV := Aside0.mk (HR.out.trans ((lexL_end cmpD_ord k l l' hk hk' (.inr (by omega)) HE.out).trans (show _ = (1 : Int) by rw [if_neg (by omega), if_neg (by omega)])))
    clear HE HN
    go_wp2_with fail
    go_ret
    refine ⟨?_, HBA.out⟩
    rw [HRV.out]
    rfl
  ·have HND := Aside0.mk (HR.out.trans (lexL_end cmpD_ord k l l' hk hk' (.inl (by omega)) HE.out))
   clear HE HN
   by_cases hL : l.length < l'.length
   ·have HRV := Aside0.mk (HND.out.trans (show _ = (-1 : Int) by rw [if_neg (by omega), if_pos hL]))
    clear HND
    go_wp2_with fail
    go_ret
    refine ⟨?_, HBt.out⟩
    rw [HRV.out]
    rfl
   ·have HRV := Aside0.mk (HND.out.trans (show _ = (0 : Int) by rw [if_pos (by omega)]))
    clear HND
    go_wp2_with fail
    go_ret
    refine ⟨?_, HBt.out⟩
    rw [HRV.out]
    rfl
theorem C_ints (w : World) (b : Nat) (l : List Int) (T : TypeId) (fz : Nat × Nat) (hl : l.length ≤ 1000) (h : w.heap[b]? = some (.cells (l.map (Value.int .i64)).toArray T fz)) : Kd.C (Kd.int .i64) w (some ⟨b, 0, none⟩) l.length l := by
 refine ⟨rfl, by show l.length ≤ 9223372036854775807; omega, fun _ => ⟨_, rfl, fun j p hp => ⟨[.int .i64 p], rfl, rfl, fun i u hu => ?_⟩⟩⟩
 rcases i with _ | i
 ·simp only [List.getElem?_cons_zero, Option.some.injEq] at hu
  subst hu
  have : w.cell? ⟨b, j, none⟩ = some (.int .i64 p) := cell_blk h (by simp [hp])
  show w.cell? ((⟨b, 0, none⟩ : Addr).add (j * 1 + 0)) = _
  rw [Nat.mul_one, Nat.add_zero, show (⟨b, 0, none⟩ : Addr).add j = ⟨b, j, none⟩ by rcases j with _ | j <;> simp [Addr.add]]
  exact this
 ·simp at hu
set_option maxHeartbeats 16000000 in
theorem cmp_step (x : DT) (hn3 : x.f3.length ≤ 140737488351232) (hn4 : x.f4.length ≤ 140737488351232) (ih : ∀ z ∈ x.f4, cmpC z) (y : DT) (hy : OkD y) (v1 v2 : Int) (hv1 : [cmpI x.f0 y.f0, cmpI x.f1 y.f1, cmpB x.f2 y.f2].foldr orI 0 = v1) (hv2 : [lexL cmpB x.f3 y.f3, lexL cmpD x.f4 y.f4].foldr orI 0 = v2) (w : World) (hgl : GL w) (A3 : Option Addr) (c3 : Nat) (A4 : Option Addr) (c4 : Nat) (B3 : Option Addr) (d3 : Nat) (B4 : Option Addr) (d4 : Nat) (lA3 : x.f3.length ≤ c3) (gA3 : Kd.string.C w A3 x.f3.length x.f3) (lA4 : x.f4.length ≤ c4) (gA4 : k25.C w A4 x.f4.length x.f4) (lB3 : y.f3.length ≤ d3) (gB3 : Kd.string.C w B3 y.f3.length y.f3) (lB4 : y.f4.length ≤ d4) (gB4 : k25.C w B4 y.f4.length y.f4) :
  Calls Tryz.prog 23 #[aggD x A3 c3 A4 c4, aggD y B3 d3 B4 d4] w fun e w' => e = .returned (.int .i64 (orI v1 v2)) ∧ Below w.heap.size w w' := by
 have HB := Aside0.mk (below_alloc (below_alloc (Below.refl w.heap.size w) (xBox x A3 c3 A4 c4)) (xBox y B3 d3 B4 d4))
 have HX := Aside0.mk (two_old_ w (xBox x A3 c3 A4 c4) (xBox y B3 d3 B4 d4))
 have HY := Aside0.mk (two_new_ w (xBox x A3 c3 A4 c4) (xBox y B3 d3 B4 d4))
 have HG := Aside0.mk hgl
 have HA3 := Aside0.mk gA3
 have HA4 := Aside0.mk gA4
 have HB3q := Aside0.mk gB3
 have HB4q := Aside0.mk gB4
 have IH := Aside0.mk ih
 obtain ⟨_, _, _, hm3, _, hm4, hoo⟩ := hy.out
 have HO := Aside0.mk hoo
 have HO3 : Aside0 (∀ (A : Option Addr) (c : Nat) (W : World), GL W → Kd.C (Kd.int .i64) W A 3 [cmpI x.f0 y.f0, cmpI x.f1 y.f1, cmpB x.f2 y.f2] → 3 ≤ c → Calls Tryz.prog 41 #[.slice A 3 c] W fun e w' => e = .returned (.int .i64 v1) ∧ ∃ m, w' = W.drewN m) := ⟨fun A c W h1 h2 h3 => hv1 ▸ or_w [cmpI x.f0 y.f0, cmpI x.f1 y.f1, cmpB x.f2 y.f2] (by simp) A c W h1 h2 h3⟩
 have HO2 : Aside0 (∀ (A : Option Addr) (c : Nat) (W : World), GL W → Kd.C (Kd.int .i64) W A 2 [lexL cmpB x.f3 y.f3, lexL cmpD x.f4 y.f4] → 2 ≤ c → Calls Tryz.prog 41 #[.slice A 2 c] W fun e w' => e = .returned (.int .i64 v2) ∧ ∃ m, w' = W.drewN m) := ⟨fun A c W h1 h2 h3 => hv2 ▸ or_w [lexL cmpB x.f3 y.f3, lexL cmpD x.f4 y.f4] (by simp) A c W h1 h2 h3⟩
 clear hv1 hv2
 clear gA3 gA4 gB3 gB4 ih hy hgl hoo
 go_enter Tryz.func23, Tryz.ntmps23
 go_upto_region 1 with fail
 generalize hW : ((w.alloc (.cells #[.int .i64 x.f0, .int .i64 x.f1, .string x.f2, .slice A3 x.f3.length c3, .slice A4 x.f4.length c4] 25)).alloc (.cells #[.int .i64 y.f0, .int .i64 y.f1, .string y.f2, .slice B3 y.f3.length d3, .slice B4 y.f4.length d4] 25)) = W2 at HB HX HY ⊢
 clear hW
 have p0 := (blk_cell HX.out 0).trans rfl
 have p1 := (blk_cell HX.out 1).trans rfl
 have p2 := (blk_cell HX.out 2).trans rfl
 have r0 := (blk_cell HY.out 0).trans rfl
 have r1 := (blk_cell HY.out 1).trans rfl
 have r2 := (blk_cell HY.out 2).trans rfl
 replace HG := Aside0.mk (HG.out.below HB.out)
 replace HA3 := Aside0.mk (Kd.string.C_below HA3.out HB.out)
 replace HA4 := Aside0.mk (k25.C_below HA4.out HB.out)
 replace HB3q := Aside0.mk (Kd.string.C_below HB3q.out HB.out)
 replace HB4q := Aside0.mk (k25.C_below HB4q.out HB.out)
 have HB0 := Aside0.mk (Below.refl W2.heap.size W2).drew
 refine start_ (n := 18) (S := fun w' => w'.cell? ⟨w.heap.size, 0, none⟩ = some (.int .i64 x.f0) ∧ w'.cell? ⟨w.heap.size, 1, none⟩ = some (.int .i64 x.f1) ∧ w'.cell? ⟨w.heap.size, 2, none⟩ = some (.string x.f2) ∧ w'.cell? ⟨w.heap.size + 1, 0, none⟩ = some (.int .i64 y.f0) ∧ w'.cell? ⟨w.heap.size + 1, 1, none⟩ = some (.int .i64 y.f1) ∧ w'.cell? ⟨w.heap.size + 1, 2, none⟩ = some (.string y.f2)) (ds := []) #[false, false, false, false, false, false, false, false, false, false, false, false, false, false, false, false, false, false] (by kernel_rfl) rfl rfl ⟨cell_drew p0, cell_drew p1, cell_drew p2, cell_drew r0, cell_drew r1, cell_drew r2⟩ (fun hHeld => ?_)
 refine pure_ (i := 0) (N := some 6) (v := ?_) (a' := ?_) #[true, false, false, false, false, false, false, false, false, false, false, false, false, false, false, false, false, false] rfl rfl (by kernel_rfl) (fun _ _ _ h => h) (Or.inl ⟨by rfl, ?_⟩) ?_ ?_
 rotate_left
 ·intro w'
  go_simp
  with_reducible rfl
 rotate_left
 ·simp only [Act.put, List.setIfInBounds_toArray, List.set_cons_zero, List.set_cons_succ, i64_w, i32_w]
  rfl
 refine pure_ (i := 2) (N := some 8) (v := ?_) (a' := ?_) #[true, false, true, false, false, false, false, false, false, false, false, false, false, false, false, false, false, false] rfl rfl (by kernel_rfl) (fun _ _ _ h => h) (Or.inl ⟨by rfl, ?_⟩) ?_ ?_
 rotate_left
 ·intro w'
  go_simp
  with_reducible rfl
 rotate_left
 ·simp only [Act.put, List.setIfInBounds_toArray, List.set_cons_zero, List.set_cons_succ, i64_w, i32_w]
  rfl
 refine pure_ (i := 5) (N := some 11) (v := ?_) (a' := ?_) #[true, false, true, false, false, true, false, false, false, false, false, false, false, false, false, false, false, false] rfl rfl (by kernel_rfl) (fun _ _ _ h => h) (Or.inl ⟨by rfl, ?_⟩) ?_ ?_
 rotate_left
 ·intro w'
  go_simp
  with_reducible rfl
 rotate_left
 ·simp only [Act.put, List.setIfInBounds_toArray, List.set_cons_zero, List.set_cons_succ, i64_w, i32_w]
  rfl
 refine pure_ (i := 7) (N := some 13) (v := ?_) (a' := ?_) #[true, false, true, false, false, true, false, true, false, false, false, false, false, false, false, false, false, false] rfl rfl (by kernel_rfl) (fun _ _ _ h => h) (Or.inl ⟨by rfl, ?_⟩) ?_ ?_
 rotate_left
 ·intro w'
  go_simp
  with_reducible rfl
 rotate_left
 ·simp only [Act.put, List.setIfInBounds_toArray, List.set_cons_zero, List.set_cons_succ, i64_w, i32_w]
  rfl
 refine pure_ (i := 10) (N := some 16) (v := ?_) (a' := ?_) #[true, false, true, false, false, true, false, true, false, false, true, false, false, false, false, false, false, false] rfl rfl (by kernel_rfl) (fun _ _ _ h => h) (Or.inl ⟨by rfl, ?_⟩) ?_ ?_
 rotate_left
 ·intro w'
  go_simp
  with_reducible rfl
 rotate_left
 ·simp only [Act.put, List.setIfInBounds_toArray, List.set_cons_zero, List.set_cons_succ, i64_w, i32_w]
  rfl
 refine pure_ (i := 12) (N := some 18) (v := ?_) (a' := ?_) #[true, false, true, false, false, true, false, true, false, false, true, false, true, false, false, false, false, false] rfl rfl (by kernel_rfl) (fun _ _ _ h => h) (Or.inl ⟨by rfl, ?_⟩) ?_ ?_
 rotate_left
 ·intro w'
  go_simp
  with_reducible rfl
 rotate_left
 ·simp only [Act.put, List.setIfInBounds_toArray, List.set_cons_zero, List.set_cons_succ, i64_w, i32_w]
  rfl
 refine take_ (i := 1) (N := some 7) (v := ?_) (a' := ?_) #[true, true, true, false, false, true, false, true, false, false, true, false, true, false, false, false, false, false] rfl rfl (by kernel_rfl) (fun _ _ _ h => h) (Or.inl ⟨by rfl, ?_⟩) hHeld ?_ ?_
 rotate_left
 ·intro w' s0
  go_split_ands
  go_simp
  with_reducible rfl
 rotate_left
 ·simp only [Act.put, List.setIfInBounds_toArray, List.set_cons_zero, List.set_cons_succ, i64_w, i32_w]
  rfl
 refine take_ (i := 3) (N := some 9) (v := ?_) (a' := ?_) #[true, true, true, true, false, true, false, true, false, false, true, false, true, false, false, false, false, false] rfl rfl (by kernel_rfl) (fun _ _ _ h => h) (Or.inl ⟨by rfl, ?_⟩) hHeld ?_ ?_
 rotate_left
 ·intro w' s0
  go_split_ands
  go_simp
  with_reducible rfl
 rotate_left
 ·simp only [Act.put, List.setIfInBounds_toArray, List.set_cons_zero, List.set_cons_succ, i64_w, i32_w]
  rfl
 refine take_ (i := 6) (N := some 12) (v := ?_) (a' := ?_) #[true, true, true, true, false, true, true, true, false, false, true, false, true, false, false, false, false, false] rfl rfl (by kernel_rfl) (fun _ _ _ h => h) (Or.inl ⟨by rfl, ?_⟩) hHeld ?_ ?_
 rotate_left
 ·intro w' s0
  go_split_ands
  go_simp
  with_reducible rfl
 rotate_left
 ·simp only [Act.put, List.setIfInBounds_toArray, List.set_cons_zero, List.set_cons_succ, i64_w, i32_w]
  rfl
 refine take_ (i := 8) (N := some 14) (v := ?_) (a' := ?_) #[true, true, true, true, false, true, true, true, true, false, true, false, true, false, false, false, false, false] rfl rfl (by kernel_rfl) (fun _ _ _ h => h) (Or.inl ⟨by rfl, ?_⟩) hHeld ?_ ?_
 rotate_left
 ·intro w' s0
  go_split_ands
  go_simp
  with_reducible rfl
 rotate_left
 ·simp only [Act.put, List.setIfInBounds_toArray, List.set_cons_zero, List.set_cons_succ, i64_w, i32_w]
  rfl
 refine take_ (i := 11) (N := some 17) (v := ?_) (a' := ?_) #[true, true, true, true, false, true, true, true, true, false, true, true, true, false, false, false, false, false] rfl rfl (by kernel_rfl) (fun _ _ _ h => h) (Or.inl ⟨by rfl, ?_⟩) hHeld ?_ ?_
 rotate_left
 ·intro w' s0
  go_split_ands
  go_simp
  with_reducible rfl
 rotate_left
 ·simp only [Act.put, List.setIfInBounds_toArray, List.set_cons_zero, List.set_cons_succ, i64_w, i32_w]
  rfl
 refine take_ (i := 13) (N := some 19) (v := ?_) (a' := ?_) #[true, true, true, true, false, true, true, true, true, false, true, true, true, true, false, false, false, false] rfl rfl (by kernel_rfl) (fun _ _ _ h => h) (Or.inl ⟨by rfl, ?_⟩) hHeld ?_ ?_
 rotate_left
 ·intro w' s0
  go_split_ands
  go_simp
  with_reducible rfl
 rotate_left
 ·simp only [Act.put, List.setIfInBounds_toArray, List.set_cons_zero, List.set_cons_succ, i64_w, i32_w]
  rfl
 refine one_ (i := 4) (N := some 10) #[true, true, true, true, true, true, true, true, true, false, true, true, true, true, false, false, false, false] rfl rfl (by kernel_rfl) (by decide) (fun K hK => ?_)
 refine goes_ Tryz.func42 (by kernel_rfl) rfl #[.int .i64 x.f0, .int .i64 y.f0] (by rfl) rfl rfl (by (try simp only [List.map_toArray, List.map_cons, List.map_nil]); first | done | rfl) ?_
 refine (cmpI_w x.f0 y.f0 _ (HG.out.below HB0.out)).mono ?_
 rintro e w' ⟨rfl, hd⟩
 have hb := drewN_below hd
 have HB1 := Aside0.mk (below_then HB0.out HB0.out.size hb)
 replace p0 := pw_cell_below hb p0
 replace p1 := pw_cell_below hb p1
 replace p2 := pw_cell_below hb p2
 replace r0 := pw_cell_below hb r0
 replace r1 := pw_cell_below hb r1
 replace r2 := pw_cell_below hb r2
 clear hd
 refine ⟨_, rfl, ?_⟩
 refine hK.out _ _ ⟨p0, p1, p2, r0, r1, r2⟩ (fun hHeld => ?_)
 clear hK K hb
 refine norm_ (a' := ?_) ?_ ?_
 rotate_left
 ·show Act.put _ (some 10) _ = _
  simp only [Act.put, List.setIfInBounds_toArray, List.set_cons_zero, List.set_cons_succ, i64_w, i32_w]
  rfl
 refine one_ (i := 9) (N := some 15) #[true, true, true, true, true, true, true, true, true, true, true, true, true, true, false, false, false, false] rfl rfl (by kernel_rfl) (by decide) (fun K hK => ?_)
 refine goes_ Tryz.func42 (by kernel_rfl) rfl #[.int .i64 x.f1, .int .i64 y.f1] (by rfl) rfl rfl (by (try simp only [List.map_toArray, List.map_cons, List.map_nil]); first | done | rfl) ?_
 refine (cmpI_w x.f1 y.f1 _ (HG.out.below HB1.out)).mono ?_
 rintro e w' ⟨rfl, hd⟩
 have hb := drewN_below hd
 have HB2 := Aside0.mk (below_then HB1.out HB1.out.size hb)
 replace p0 := pw_cell_below hb p0
 replace p1 := pw_cell_below hb p1
 replace p2 := pw_cell_below hb p2
 replace r0 := pw_cell_below hb r0
 replace r1 := pw_cell_below hb r1
 replace r2 := pw_cell_below hb r2
 clear hd
 refine ⟨_, rfl, ?_⟩
 refine hK.out _ _ ⟨p0, p1, p2, r0, r1, r2⟩ (fun hHeld => ?_)
 clear hK K hb
 refine norm_ (a' := ?_) ?_ ?_
 rotate_left
 ·show Act.put _ (some 15) _ = _
  simp only [Act.put, List.setIfInBounds_toArray, List.set_cons_zero, List.set_cons_succ, i64_w, i32_w]
  rfl
 refine one_ (i := 14) (N := some 20) #[true, true, true, true, true, true, true, true, true, true, true, true, true, true, true, false, false, false] rfl rfl (by kernel_rfl) (by decide) (fun K hK => ?_)
 refine goes_ Tryz.func43 (by kernel_rfl) rfl #[.string x.f2, .string y.f2] (by rfl) rfl rfl (by (try simp only [List.map_toArray, List.map_cons, List.map_nil]); first | done | rfl) ?_
 refine (cmpB_w x.f2 y.f2 _ (HG.out.below HB2.out)).mono ?_
 rintro e w' ⟨rfl, hd⟩
 have hb := drewN_below hd
 have HB3 := Aside0.mk (below_then HB2.out HB2.out.size hb)
 replace p0 := pw_cell_below hb p0
 replace p1 := pw_cell_below hb p1
 replace p2 := pw_cell_below hb p2
 replace r0 := pw_cell_below hb r0
 replace r1 := pw_cell_below hb r1
 replace r2 := pw_cell_below hb r2
 clear hd
 refine ⟨_, rfl, ?_⟩
 refine hK.out _ _ ⟨p0, p1, p2, r0, r1, r2⟩ (fun hHeld => ?_)
 clear hK K hb
 refine norm_ (a' := ?_) ?_ ?_
 rotate_left
 ·show Act.put _ (some 20) _ = _
  simp only [Act.put, List.setIfInBounds_toArray, List.set_cons_zero, List.set_cons_succ, i64_w, i32_w]
  rfl
 have HN3 := Aside0.mk (heap_alloc_new w' (.cells #[.int .i64 (cmpI x.f0 y.f0), .int .i64 (cmpI x.f1 y.f1), .int .i64 (cmpB x.f2 y.f2)] 3 (0, 0)))
 have hb := below_alloc (Below.refl w'.heap.size w') (.cells #[.int .i64 (cmpI x.f0 y.f0), .int .i64 (cmpI x.f1 y.f1), .int .i64 (cmpB x.f2 y.f2)] 3 (0, 0))
 have HB4 := Aside0.mk (below_then HB3.out HB3.out.size hb)
 replace p0 := pw_cell_below hb p0
 replace p1 := pw_cell_below hb p1
 replace p2 := pw_cell_below hb p2
 replace r0 := pw_cell_below hb r0
 replace r1 := pw_cell_below hb r1
 replace r2 := pw_cell_below hb r2
 refine one_ (i := 15) (N := some 21) #[true, true, true, true, true, true, true, true, true, true, true, true, true, true, true, true, false, false] rfl rfl (by kernel_rfl) (by decide) (fun K hK => ?_)
 refine value_ (w1 := w'.alloc (.cells #[.int .i64 (cmpI x.f0 y.f0), .int .i64 (cmpI x.f1 y.f1), .int .i64 (cmpB x.f2 y.f2)] 3 (0, 0))) (v := .slice (some ⟨w'.heap.size, 0, none⟩) 3 3) (by rfl) rfl (by go_simp) ?_
 refine hK.out _ _ ⟨p0, p1, p2, r0, r1, r2⟩ (fun hHeld => ?_)
 clear hK K hb
 refine norm_ (a' := ?_) ?_ ?_
 rotate_left
 ·show Act.put _ (some 21) _ = _
  simp only [Act.put, List.setIfInBounds_toArray, List.set_cons_zero, List.set_cons_succ, i64_w, i32_w]
  rfl
 refine one_ (i := 16) (N := some 22) #[true, true, true, true, true, true, true, true, true, true, true, true, true, true, true, true, true, false] rfl rfl (by kernel_rfl) (by decide) (fun K hK => ?_)
 refine goes_ Tryz.func41 (by kernel_rfl) rfl #[.slice (some ⟨w'.heap.size, 0, none⟩) 3 3] (by rfl) rfl rfl (by (try simp only [List.map_toArray, List.map_cons, List.map_nil]); first | done | rfl) ?_
 refine (HO3.out _ 3 _ (HG.out.below HB4.out) (C_ints _ _ [cmpI x.f0 y.f0, cmpI x.f1 y.f1, cmpB x.f2 y.f2] _ _ (by simp) HN3.out) (by omega)).mono ?_
 rintro e w' ⟨rfl, hd⟩
 have hb := drewN_below hd
 have HB5 := Aside0.mk (below_then HB4.out HB4.out.size hb)
 replace p0 := pw_cell_below hb p0
 replace p1 := pw_cell_below hb p1
 replace p2 := pw_cell_below hb p2
 replace r0 := pw_cell_below hb r0
 replace r1 := pw_cell_below hb r1
 replace r2 := pw_cell_below hb r2
 clear hd
 refine ⟨_, rfl, ?_⟩
 refine hK.out _ _ ⟨p0, p1, p2, r0, r1, r2⟩ (fun hHeld => ?_)
 clear hK K hb
 refine norm_ (a' := ?_) ?_ ?_
 rotate_left
 ·show Act.put _ (some 22) _ = _
  simp only [Act.put, List.setIfInBounds_toArray, List.set_cons_zero, List.set_cons_succ, i64_w, i32_w]
  rfl
 refine pure_ (i := 17) (N := some 5) (v := ?_) (a' := ?_) #[true, true, true, true, true, true, true, true, true, true, true, true, true, true, true, true, true, true] rfl rfl (by kernel_rfl) (fun _ _ _ h => h) (Or.inl ⟨by rfl, ?_⟩) ?_ ?_
 rotate_left
 ·intro w'
  go_simp
  with_reducible rfl
 rotate_left
 ·simp only [Act.put, List.setIfInBounds_toArray, List.set_cons_zero, List.set_cons_succ, i64_w, i32_w]
  rfl
 refine done_ (by kernel_rfl) ?_
 clear p0 p1 p2 r0 r1 r2 hHeld
 have HXr := Aside0.mk ((HB5.out.block w.heap.size (blk_lt HX.out)).trans HX.out)
 have HYr := Aside0.mk ((HB5.out.block (w.heap.size + 1) (blk_lt HY.out)).trans HY.out)
 by_cases hv : v1 = 0
 ·subst hv
  go_upto_region 4 with fail
  have p3 := (blk_cell HXr.out 3).trans rfl
  have p4 := (blk_cell HXr.out 4).trans rfl
  have r3 := (blk_cell HYr.out 3).trans rfl
  have r4 := (blk_cell HYr.out 4).trans rfl
  have HB6 := Aside0.mk HB5.out.drew
  refine start_ (n := 13) (S := fun w' => w'.cell? ⟨w.heap.size, 3, none⟩ = some (.slice A3 x.f3.length c3) ∧ w'.cell? ⟨w.heap.size, 4, none⟩ = some (.slice A4 x.f4.length c4) ∧ w'.cell? ⟨w.heap.size + 1, 3, none⟩ = some (.slice B3 y.f3.length d3) ∧ w'.cell? ⟨w.heap.size + 1, 4, none⟩ = some (.slice B4 y.f4.length d4)) (ds := []) #[false, false, false, false, false, false, false, false, false, false, false, false, false] (by kernel_rfl) rfl rfl ⟨cell_drew p3, cell_drew p4, cell_drew r3, cell_drew r4⟩ (fun hHeld => ?_)
  refine pure_ (i := 0) (N := some 26) (v := ?_) (a' := ?_) #[true, false, false, false, false, false, false, false, false, false, false, false, false] rfl rfl (by kernel_rfl) (fun _ _ _ h => h) (Or.inl ⟨by rfl, ?_⟩) ?_ ?_
  rotate_left
  ·intro w'
   go_simp
   with_reducible rfl
  rotate_left
  ·simp only [Act.put, List.setIfInBounds_toArray, List.set_cons_zero, List.set_cons_succ, i64_w, i32_w]
   rfl
  refine pure_ (i := 2) (N := some 28) (v := ?_) (a' := ?_) #[true, false, true, false, false, false, false, false, false, false, false, false, false] rfl rfl (by kernel_rfl) (fun _ _ _ h => h) (Or.inl ⟨by rfl, ?_⟩) ?_ ?_
  rotate_left
  ·intro w'
   go_simp
   with_reducible rfl
  rotate_left
  ·simp only [Act.put, List.setIfInBounds_toArray, List.set_cons_zero, List.set_cons_succ, i64_w, i32_w]
   rfl
  refine pure_ (i := 5) (N := some 31) (v := ?_) (a' := ?_) #[true, false, true, false, false, true, false, false, false, false, false, false, false] rfl rfl (by kernel_rfl) (fun _ _ _ h => h) (Or.inl ⟨by rfl, ?_⟩) ?_ ?_
  rotate_left
  ·intro w'
   go_simp
   with_reducible rfl
  rotate_left
  ·simp only [Act.put, List.setIfInBounds_toArray, List.set_cons_zero, List.set_cons_succ, i64_w, i32_w]
   rfl
  refine pure_ (i := 7) (N := some 33) (v := ?_) (a' := ?_) #[true, false, true, false, false, true, false, true, false, false, false, false, false] rfl rfl (by kernel_rfl) (fun _ _ _ h => h) (Or.inl ⟨by rfl, ?_⟩) ?_ ?_
  rotate_left
  ·intro w'
   go_simp
   with_reducible rfl
  rotate_left
  ·simp only [Act.put, List.setIfInBounds_toArray, List.set_cons_zero, List.set_cons_succ, i64_w, i32_w]
   rfl
  refine take_ (i := 1) (N := some 27) (v := ?_) (a' := ?_) #[true, true, true, false, false, true, false, true, false, false, false, false, false] rfl rfl (by kernel_rfl) (fun _ _ _ h => h) (Or.inl ⟨by rfl, ?_⟩) hHeld ?_ ?_
  rotate_left
  ·intro w' s0
   go_split_ands
   go_simp
   with_reducible rfl
  rotate_left
  ·simp only [Act.put, List.setIfInBounds_toArray, List.set_cons_zero, List.set_cons_succ, i64_w, i32_w]
   rfl
  refine take_ (i := 3) (N := some 29) (v := ?_) (a' := ?_) #[true, true, true, true, false, true, false, true, false, false, false, false, false] rfl rfl (by kernel_rfl) (fun _ _ _ h => h) (Or.inl ⟨by rfl, ?_⟩) hHeld ?_ ?_
  rotate_left
  ·intro w' s0
   go_split_ands
   go_simp
   with_reducible rfl
  rotate_left
  ·simp only [Act.put, List.setIfInBounds_toArray, List.set_cons_zero, List.set_cons_succ, i64_w, i32_w]
   rfl
  refine take_ (i := 6) (N := some 32) (v := ?_) (a' := ?_) #[true, true, true, true, false, true, true, true, false, false, false, false, false] rfl rfl (by kernel_rfl) (fun _ _ _ h => h) (Or.inl ⟨by rfl, ?_⟩) hHeld ?_ ?_
  rotate_left
  ·intro w' s0
   go_split_ands
   go_simp
   with_reducible rfl
  rotate_left
  ·simp only [Act.put, List.setIfInBounds_toArray, List.set_cons_zero, List.set_cons_succ, i64_w, i32_w]
   rfl
  refine take_ (i := 8) (N := some 34) (v := ?_) (a' := ?_) #[true, true, true, true, false, true, true, true, true, false, false, false, false] rfl rfl (by kernel_rfl) (fun _ _ _ h => h) (Or.inl ⟨by rfl, ?_⟩) hHeld ?_ ?_
  rotate_left
  ·intro w' s0
   go_split_ands
   go_simp
   with_reducible rfl
  rotate_left
  ·simp only [Act.put, List.setIfInBounds_toArray, List.set_cons_zero, List.set_cons_succ, i64_w, i32_w]
   rfl
  refine one_ (i := 4) (N := some 30) #[true, true, true, true, true, true, true, true, true, false, false, false, false] rfl rfl (by kernel_rfl) (by decide) (fun K hK => ?_)
  refine goes_ Tryz.func44 (by kernel_rfl) rfl #[.slice A3 x.f3.length c3, .slice B3 y.f3.length d3] (by rfl) rfl rfl (by (try simp only [List.map_toArray, List.map_cons, List.map_nil]); first | done | rfl) ?_
  refine (scmp_w x.f3 y.f3 hn3 hm3 A3 c3 B3 d3 _ (HG.out.below HB6.out) (Kd.string.C_below HA3.out HB6.out) lA3 (Kd.string.C_below HB3q.out HB6.out) lB3).mono ?_
  rintro e w' ⟨rfl, hd⟩
  have hb := drewN_below hd
  have HB7 := Aside0.mk (below_then HB6.out HB6.out.size hb)
  replace p3 := pw_cell_below hb p3
  replace p4 := pw_cell_below hb p4
  replace r3 := pw_cell_below hb r3
  replace r4 := pw_cell_below hb r4
  clear hd
  refine ⟨_, rfl, ?_⟩
  refine hK.out _ _ ⟨p3, p4, r3, r4⟩ (fun hHeld => ?_)
  clear hK K hb
  refine norm_ (a' := ?_) ?_ ?_
  rotate_left
  ·show Act.put _ (some 30) _ = _
   simp only [Act.put, List.setIfInBounds_toArray, List.set_cons_zero, List.set_cons_succ, i64_w, i32_w]
   rfl
  refine one_ (i := 9) (N := some 35) #[true, true, true, true, true, true, true, true, true, true, false, false, false] rfl rfl (by kernel_rfl) (by decide) (fun K hK => ?_)
  refine goes_ Tryz.func45 (by kernel_rfl) rfl #[.slice A4 x.f4.length c4, .slice B4 y.f4.length d4, .func (.func 23) #[] #[]] (by rfl) rfl rfl (by (try simp only [List.map_toArray, List.map_cons, List.map_nil]); first | done | rfl) ?_
  refine (cfunc_c x.f4 y.f4 hn4 hm4 HO.out IH.out _ (HG.out.below HB7.out) A4 c4 B4 d4 lA4 (k25.C_below HA4.out HB7.out) lB4 (k25.C_below HB4q.out HB7.out)).mono ?_
  rintro e w' ⟨rfl, hd⟩
  have hb := hd
  have HB8 := Aside0.mk (below_then HB7.out HB7.out.size hb)
  replace p3 := pw_cell_below hb p3
  replace p4 := pw_cell_below hb p4
  replace r3 := pw_cell_below hb r3
  replace r4 := pw_cell_below hb r4
  clear hd
  refine ⟨_, rfl, ?_⟩
  refine hK.out _ _ ⟨p3, p4, r3, r4⟩ (fun hHeld => ?_)
  clear hK K hb
  refine norm_ (a' := ?_) ?_ ?_
  rotate_left
  ·show Act.put _ (some 35) _ = _
   simp only [Act.put, List.setIfInBounds_toArray, List.set_cons_zero, List.set_cons_succ, i64_w, i32_w]
   rfl
  have HN8 := Aside0.mk (heap_alloc_new w' (.cells #[.int .i64 (lexL cmpB x.f3 y.f3), .int .i64 (lexL cmpD x.f4 y.f4)] 3 (0, 0)))
  have hb := below_alloc (Below.refl w'.heap.size w') (.cells #[.int .i64 (lexL cmpB x.f3 y.f3), .int .i64 (lexL cmpD x.f4 y.f4)] 3 (0, 0))
  have HB9 := Aside0.mk (below_then HB8.out HB8.out.size hb)
  replace p3 := pw_cell_below hb p3
  replace p4 := pw_cell_below hb p4
  replace r3 := pw_cell_below hb r3
  replace r4 := pw_cell_below hb r4
  refine one_ (i := 10) (N := some 36) #[true, true, true, true, true, true, true, true, true, true, true, false, false] rfl rfl (by kernel_rfl) (by decide) (fun K hK => ?_)
  refine value_ (w1 := w'.alloc (.cells #[.int .i64 (lexL cmpB x.f3 y.f3), .int .i64 (lexL cmpD x.f4 y.f4)] 3 (0, 0))) (v := .slice (some ⟨w'.heap.size, 0, none⟩) 2 2) (by rfl) rfl (by go_simp) ?_
  refine hK.out _ _ ⟨p3, p4, r3, r4⟩ (fun hHeld => ?_)
  clear hK K hb
  refine norm_ (a' := ?_) ?_ ?_
  rotate_left
  ·show Act.put _ (some 36) _ = _
   simp only [Act.put, List.setIfInBounds_toArray, List.set_cons_zero, List.set_cons_succ, i64_w, i32_w]
   rfl
  refine one_ (i := 11) (N := some 37) #[true, true, true, true, true, true, true, true, true, true, true, true, false] rfl rfl (by kernel_rfl) (by decide) (fun K hK => ?_)
  refine goes_ Tryz.func41 (by kernel_rfl) rfl #[.slice (some ⟨w'.heap.size, 0, none⟩) 2 2] (by rfl) rfl rfl (by (try simp only [List.map_toArray, List.map_cons, List.map_nil]); first | done | rfl) ?_
  refine (HO2.out _ 2 _ (HG.out.below HB9.out) (C_ints _ _ [lexL cmpB x.f3 y.f3, lexL cmpD x.f4 y.f4] _ _ (by simp) HN8.out) (by omega)).mono ?_
  rintro e w' ⟨rfl, hd⟩
  have hb := drewN_below hd
  have HB10 := Aside0.mk (below_then HB9.out HB9.out.size hb)
  replace p3 := pw_cell_below hb p3
  replace p4 := pw_cell_below hb p4
  replace r3 := pw_cell_below hb r3
  replace r4 := pw_cell_below hb r4
  clear hd
  refine ⟨_, rfl, ?_⟩
  refine hK.out _ _ ⟨p3, p4, r3, r4⟩ (fun hHeld => ?_)
  clear hK K hb
  refine norm_ (a' := ?_) ?_ ?_
  rotate_left
  ·show Act.put _ (some 37) _ = _
   simp only [Act.put, List.setIfInBounds_toArray, List.set_cons_zero, List.set_cons_succ, i64_w, i32_w]
   rfl
  refine pure_ (i := 12) (N := some 4) (v := ?_) (a' := ?_) #[true, true, true, true, true, true, true, true, true, true, true, true, true] rfl rfl (by kernel_rfl) (fun _ _ _ h => h) (Or.inl ⟨by rfl, ?_⟩) ?_ ?_
  rotate_left
  ·intro w'
   go_simp
   with_reducible rfl
  rotate_left
  ·simp only [Act.put, List.setIfInBounds_toArray, List.set_cons_zero, List.set_cons_succ, i64_w, i32_w]
   rfl
  refine done_ (by kernel_rfl) ?_
  go_wp2_with fail
  go_ret
  refine ⟨?_, below_then HB.out HB.out.size HB10.out⟩
  rw [orI_0]
  rfl
 ·have hvb : (v1 != 0) = true := by simpa using hv
  have HV := Aside0.mk hv
  clear hv
  go_wp2_with fail
  go_ret
  refine ⟨?_, below_then HB.out HB.out.size HB5.out⟩
  rw [orI_of HV.out]
  rfl
theorem cmp_c (x : DT) (hx : OkD x) : cmpC x := by
 induction hx with
 | mk x h0 h1 h2 n3 h3 n4 h4 ih =>
  intro y hy w hgl A3 c3 A4 c4 B3 d3 B4 d4 lA3 gA3 lA4 gA4 lB3 gB3 lB4 gB4
  have := cmp_step x n3 n4 ih y hy _ _ rfl rfl w hgl A3 c3 A4 c4 B3 d3 B4 d4 lA3 gA3 lA4 gA4 lB3 gB3 lB4 gB4
  rcases x with ⟨a, b, c, ns, l⟩
  rcases y with ⟨a', b', c', ns', l'⟩
  rw [show cmpD (⟨a, b, c, ns, l⟩ : DT) ⟨a', b', c', ns', l'⟩ = orI ([cmpI a a', cmpI b b', cmpB c c'].foldr orI 0) ([lexL cmpB ns ns', lexL cmpD l l'].foldr orI 0) from ?_]
  ·exact this
  ·rw [cmpD, cmpDs_lex]
   simp only [List.foldr_cons, List.foldr_nil, orI_z]
   unfold orI
   split <;> (try rfl) <;> split <;> (try rfl) <;> split <;> (try rfl) <;> simp_all
set_option maxHeartbeats 8000000 in
/-- datum.Compare. -/
theorem Compare_c (x y : DT) (hx : OkD x) (hy : OkD y) (w : World) (hgl : GL w) (A3 : Option Addr) (c3 : Nat) (A4 : Option Addr) (c4 : Nat) (B3 : Option Addr) (d3 : Nat) (B4 : Option Addr) (d4 : Nat) (lA3 : x.f3.length ≤ c3) (gA3 : Kd.string.C w A3 x.f3.length x.f3) (lA4 : x.f4.length ≤ c4) (gA4 : k25.C w A4 x.f4.length x.f4) (lB3 : y.f3.length ≤ d3) (gB3 : Kd.string.C w B3 y.f3.length y.f3) (lB4 : y.f4.length ≤ d4) (gB4 : k25.C w B4 y.f4.length y.f4) :
  Calls Tryz.prog 12 #[aggD x A3 c3 A4 c4, aggD y B3 d3 B4 d4] w fun e w' => e = .returned (.int .i64 (if (rightD x && rightD y) = true then cmpD x y else 0)) ∧ Below w.heap.size w w' := by
 have HB := Aside0.mk (below_alloc (below_alloc (Below.refl w.heap.size w) (xBox x A3 c3 A4 c4)) (xBox y B3 d3 B4 d4))
 have HX := Aside0.mk (two_old_ w (xBox x A3 c3 A4 c4) (xBox y B3 d3 B4 d4))
 have HY := Aside0.mk (two_new_ w (xBox x A3 c3 A4 c4) (xBox y B3 d3 B4 d4))
 have HRX : Aside0 (∀ W, GL W → Below w.heap.size w W → Calls Tryz.prog 15 #[aggD x A3 c3 A4 c4] W fun e w' => e = .returned (.bool (rightD x)) ∧ Below W.heap.size W w') := ⟨fun W h hb => Right_c x hx W h A3 c3 A4 c4 lA3 (Kd.string.C_below gA3 hb) lA4 (k25.C_below gA4 hb)⟩
 have HRY : Aside0 (∀ W, GL W → Below w.heap.size w W → Calls Tryz.prog 15 #[aggD y B3 d3 B4 d4] W fun e w' => e = .returned (.bool (rightD y)) ∧ Below W.heap.size W w') := ⟨fun W h hb => Right_c y hy W h B3 d3 B4 d4 lB3 (Kd.string.C_below gB3 hb) lB4 (k25.C_below gB4 hb)⟩
 obtain ⟨cv, hcv⟩ : ∃ v, cmpD x y = v := ⟨_, rfl⟩
 have HCC : Aside0 (∀ W, GL W → Below w.heap.size w W → Calls Tryz.prog 23 #[aggD x A3 c3 A4 c4, aggD y B3 d3 B4 d4] W fun e w' => e = .returned (.int .i64 cv) ∧ Below W.heap.size W w') := ⟨fun W h hb => hcv ▸ cmp_c x hx y hy W h A3 c3 A4 c4 B3 d3 B4 d4 lA3 (Kd.string.C_below gA3 hb) lA4 (k25.C_below gA4 hb) lB3 (Kd.string.C_below gB3 hb) lB4 (k25.C_below gB4 hb)⟩
 rw [hcv]
 have HG := Aside0.mk hgl
 obtain ⟨bx, hbx⟩ : ∃ b, rightD x = b := ⟨_, rfl⟩
 obtain ⟨by', hby⟩ : ∃ b, rightD y = b := ⟨_, rfl⟩
 rw [hbx] at HRX ⊢
 rw [hby] at HRY ⊢
 clear gA3 gA4 gB3 gB4 hx hy hgl hcv hbx hby
 go_enter Tryz.func12, Tryz.ntmps12
 go_upto_region 1 with fail
 generalize hW : ((w.alloc (.cells #[.int .i64 x.f0, .int .i64 x.f1, .string x.f2, .slice A3 x.f3.length c3, .slice A4 x.f4.length c4] 25)).alloc (.cells #[.int .i64 y.f0, .int .i64 y.f1, .string y.f2, .slice B3 y.f3.length d3, .slice B4 y.f4.length d4] 25)) = W2 at HB HX HY ⊢
 clear hW
 have p0 := (blk_cell HX.out 0).trans rfl
 have p1 := (blk_cell HX.out 1).trans rfl
 have p2 := (blk_cell HX.out 2).trans rfl
 have p3 := (blk_cell HX.out 3).trans rfl
 have p4 := (blk_cell HX.out 4).trans rfl
 cases bx with
 | false =>
  go_wp2_with (go_at_call 15; go_loud (with_reducible refine (HRX.out _ (HG.out.below HB.out) HB.out).mono ?_); rintro e w1 ⟨rfl, hb⟩; have HB1 := Aside0.mk (below_then HB.out HB.out.size hb); clear hb)
  go_ret
  exact ⟨rfl, HB1.out⟩
 | true =>
  have HB1 : Aside0 (∀ w1, Below W2.heap.size W2 w1 → Below w.heap.size w w1) := ⟨fun w1 hb => below_then HB.out HB.out.size hb⟩
  cases by' with
  | false =>
   go_wp2_with (first | (go_at_call 15; (with_reducible refine (HRX.out W2 (HG.out.below HB.out) HB.out).mono ?_); rintro e w1 ⟨rfl, hb⟩; have HBX := Aside0.mk (HB1.out _ hb); have hyr := (hb.block (w.heap.size + 1) (blk_lt HY.out)).trans HY.out; have HYR := Aside0.mk hyr; clear hb hyr; have r0 := (blk_cell HYR.out 0).trans rfl; have r1 := (blk_cell HYR.out 1).trans rfl; have r2 := (blk_cell HYR.out 2).trans rfl; have r3 := (blk_cell HYR.out 3).trans rfl; have r4 := (blk_cell HYR.out 4).trans rfl) | (go_at_call 15; go_loud (with_reducible refine (HRY.out w1 (HG.out.below HBX.out) HBX.out).mono ?_); rintro e w2 ⟨rfl, hb⟩; have HB2 := Aside0.mk (below_then HBX.out HBX.out.size hb); clear hb))
   go_ret
   exact ⟨rfl, HB2.out⟩
  | true =>
   go_wp2_with (first | (go_at_call 15; (with_reducible refine (HRX.out W2 (HG.out.below HB.out) HB.out).mono ?_); rintro e w1 ⟨rfl, hb⟩; have HBX := Aside0.mk (HB1.out _ hb); have hyr := (hb.block (w.heap.size + 1) (blk_lt HY.out)).trans HY.out; have HYR := Aside0.mk hyr; have HXR := Aside0.mk ((hb.block w.heap.size (blk_lt HX.out)).trans HX.out); clear hb hyr; have r0 := (blk_cell HYR.out 0).trans rfl; have r1 := (blk_cell HYR.out 1).trans rfl; have r2 := (blk_cell HYR.out 2).trans rfl; have r3 := (blk_cell HYR.out 3).trans rfl; have r4 := (blk_cell HYR.out 4).trans rfl) | (go_at_call 15; go_loud (with_reducible refine (HRY.out w1 (HG.out.below HBX.out) HBX.out).mono ?_); rintro e w2 ⟨rfl, hb⟩; have HB2 := Aside0.mk (below_then HBX.out HBX.out.size hb); have HYZ := Aside0.mk ((hb.block (w.heap.size + 1) (blk_lt HYR.out)).trans HYR.out); have HXZ := Aside0.mk ((hb.block w.heap.size (blk_lt HXR.out)).trans HXR.out); clear hb; have s0 := (blk_cell HXZ.out 0).trans rfl; have s1 := (blk_cell HXZ.out 1).trans rfl; have s2 := (blk_cell HXZ.out 2).trans rfl; have s3 := (blk_cell HXZ.out 3).trans rfl; have s4 := (blk_cell HXZ.out 4).trans rfl; have t0 := (blk_cell HYZ.out 0).trans rfl; have t1 := (blk_cell HYZ.out 1).trans rfl; have t2 := (blk_cell HYZ.out 2).trans rfl; have t3 := (blk_cell HYZ.out 3).trans rfl; have t4 := (blk_cell HYZ.out 4).trans rfl) | (go_at_call 23; go_loud (with_reducible refine (HCC.out w2 (HG.out.below HB2.out) HB2.out).mono ?_); rintro e w3 ⟨rfl, hb⟩; have HB3 := Aside0.mk (below_then HB2.out HB2.out.size hb); clear hb))
   go_ret
   exact ⟨rfl, HB3.out⟩
end Go.Proofs.YtidcecpbihmloaaGreatDoorE

namespace Go.Proofs.YtidcecpbihmloaaGreatDoorE
open Go Go.RowKit Go.Proofs.YtidcecpbihmloaaGreatDoorW.PrintWords Go.Proofs.YtidcecpbihmloaaGreatDoorW.PrintMore Go.Proofs.YtidcecpbihmloaaGreatDoorW.PrintLast Go.Proofs.YtidcecpbihmloaaGreatDoorX Go.Proofs.YtidcecpbihmloaaGreatDoor.P16 Go.Proofs.YtidcecpbihmloaaGreatDoor.M02
set_option linter.unusedVariables false
set_option linter.unusedSimpArgs false
set_option maxRecDepth 100000
def Sg (x : Int) : Prop := x = -1 ∨ x = 0 ∨ x = 1
theorem sg_orI {x y : Int} (h : Sg x) (k : Sg y) : Sg (orI x y) := by unfold orI; split <;> assumption
theorem sg_cmpI (a b : Int) : Sg (cmpI a b) := by unfold cmpI Sg; split <;> (try split) <;> simp
theorem sg_lexL {α : Type} {f : α → α → Int} (hf : ∀ a b, Sg (f a b)) : ∀ s t : List α, Sg (lexL f s t)
 | [], [] => .inr (.inl rfl)
 | [], _ :: _ => .inl rfl
 | _ :: _, [] => .inr (.inr rfl)
 | a :: s, b :: t => by rw [lexL]; exact sg_orI (hf a b) (sg_lexL hf s t)
mutual
theorem sg_cmpD : ∀ a b : DT, Sg (cmpD a b)
 | ⟨k, n, t, ns, l⟩, ⟨k', n', t', ns', l'⟩ => by
  rw [cmpD]
  exact sg_orI (sg_cmpI _ _) (sg_orI (sg_cmpI _ _) (sg_orI (cmpL_range _ _) (sg_orI (sg_lexL (fun a b => cmpL_range _ _) _ _) (sg_cmpDs l l'))))
theorem sg_cmpDs : ∀ a b : List DT, Sg (cmpDs a b)
 | [], [] => .inr (.inl (by simp [cmpDs]))
 | [], _ :: _ => .inl (by simp [cmpDs])
 | _ :: _, [] => .inr (.inr (by simp [cmpDs]))
 | a :: s, b :: t => by rw [cmpDs]; exact sg_orI (sg_cmpD a b) (sg_cmpDs s t)
end
theorem three_ (w : World) (a b c : Obj) : (((w.alloc a).alloc b).alloc c).heap[w.heap.size]? = some a ∧ (((w.alloc a).alloc b).alloc c).heap[w.heap.size + 1]? = some b ∧ (((w.alloc a).alloc b).alloc c).heap[w.heap.size + 2]? = some c := by
 have hb := below_alloc (Below.refl ((w.alloc a).alloc b).heap.size ((w.alloc a).alloc b)) c
 refine ⟨(hb.block w.heap.size (by simp; omega)).trans (two_old_ w a b), (hb.block (w.heap.size + 1) (by simp)).trans (two_new_ w a b), ?_⟩
 have := heap_alloc_new ((w.alloc a).alloc b) c
 simpa using this
set_option maxHeartbeats 16000000 in
theorem order_bad (a b c : DT) (oa : OkD a) (ob : OkD b) (oc : OkD c) (ra rb : Bool) (hra : rightD a = ra) (hrb : rightD b = rb) (hn : (ra && rb) = false) (w : World) (hgl : GL w) (A3 : Option Addr) (c3 : Nat) (A4 : Option Addr) (c4 : Nat) (la3 : a.f3.length ≤ c3) (ga3 : Kd.string.C w A3 a.f3.length a.f3) (la4 : a.f4.length ≤ c4) (ga4 : k25.C w A4 a.f4.length a.f4) (B3 : Option Addr) (d3 : Nat) (B4 : Option Addr) (d4 : Nat) (lb3 : b.f3.length ≤ d3) (gb3 : Kd.string.C w B3 b.f3.length b.f3) (lb4 : b.f4.length ≤ d4) (gb4 : k25.C w B4 b.f4.length b.f4) (C3 : Option Addr) (e3 : Nat) (C4 : Option Addr) (e4 : Nat) (lc3 : c.f3.length ≤ e3) (gc3 : Kd.string.C w C3 c.f3.length c.f3) (lc4 : c.f4.length ≤ e4) (gc4 : k25.C w C4 c.f4.length c.f4) : Calls Tryz.prog 4 #[aggD a A3 c3 A4 c4, aggD b B3 d3 B4 d4, aggD c C3 e3 C4 e4] w fun e w' => e = .returned (.bool true) ∧ Below w.heap.size w w' := by
 have HS : Aside0 (∀ W, GL W → Calls Tryz.prog 8 #[] W fun e w' => e = .returned (.bool true) ∧ Below W.heap.size W w') := ⟨same_c⟩
 have HG := Aside0.mk hgl
 have HB0 := Aside0.mk (below_alloc (below_alloc (below_alloc (Below.refl w.heap.size w) (xBox a A3 c3 A4 c4)) (xBox b B3 d3 B4 d4)) (xBox c C3 e3 C4 e4))
 have HX := Aside0.mk (three_ w (xBox a A3 c3 A4 c4) (xBox b B3 d3 B4 d4) (xBox c C3 e3 C4 e4))
 have HFa : Aside0 (∀ W, Below w.heap.size w W → Calls Tryz.prog 7 #[aggD a A3 c3 A4 c4, .int .i64 300] W fun e w' => (∃ q : Bool, e = .returned (.bool q)) ∧ Below W.heap.size W w') := ⟨fun W hb => Few_c a oa 300 W A3 c3 A4 c4 la4 (k25.C_below ga4 hb)⟩
 have HFb : Aside0 (∀ W, Below w.heap.size w W → Calls Tryz.prog 7 #[aggD b B3 d3 B4 d4, .int .i64 300] W fun e w' => (∃ q : Bool, e = .returned (.bool q)) ∧ Below W.heap.size W w') := ⟨fun W hb => Few_c b ob 300 W B3 d3 B4 d4 lb4 (k25.C_below gb4 hb)⟩
 have HFc : Aside0 (∀ W, Below w.heap.size w W → Calls Tryz.prog 7 #[aggD c C3 e3 C4 e4, .int .i64 300] W fun e w' => (∃ q : Bool, e = .returned (.bool q)) ∧ Below W.heap.size W w') := ⟨fun W hb => Few_c c oc 300 W C3 e3 C4 e4 lc4 (k25.C_below gc4 hb)⟩
 have hn0 : (if (rightD a && rightD b) = true then cmpD a b else 0) = (0 : Int) := by rw [hra, hrb, hn]; rfl
 have HRa : Aside0 (∀ W, Below w.heap.size w W → Calls Tryz.prog 10 #[aggD a A3 c3 A4 c4] W fun e w' => e = .returned (.bool ra) ∧ Below W.heap.size W w') := ⟨fun W hb => hra ▸ rRight_c a oa W (hgl.below hb) A3 c3 A4 c4 la3 (Kd.string.C_below ga3 hb) la4 (k25.C_below ga4 hb)⟩
 have HRb : Aside0 (∀ W, Below w.heap.size w W → Calls Tryz.prog 10 #[aggD b B3 d3 B4 d4] W fun e w' => e = .returned (.bool rb) ∧ Below W.heap.size W w') := ⟨fun W hb => hrb ▸ rRight_c b ob W (hgl.below hb) B3 d3 B4 d4 lb3 (Kd.string.C_below gb3 hb) lb4 (k25.C_below gb4 hb)⟩
 have HCab : Aside0 (∀ W, Below w.heap.size w W → Calls Tryz.prog 12 #[aggD a A3 c3 A4 c4, aggD b B3 d3 B4 d4] W fun e w' => e = .returned (.int .i64 (0 : Int)) ∧ Below W.heap.size W w') := ⟨fun W hb => (hn0 : (if (rightD a && rightD b) = true then cmpD a b else 0) = (0 : Int)) ▸ Compare_c a b oa ob W (hgl.below hb) A3 c3 A4 c4 B3 d3 B4 d4 la3 (Kd.string.C_below ga3 hb) la4 (k25.C_below ga4 hb) lb3 (Kd.string.C_below gb3 hb) lb4 (k25.C_below gb4 hb)⟩
 clear hra hrb hn0
 clear hgl ga3 ga4 gb3 gb4 gc3 gc4 oa ob oc
 go_enter Tryz.func4, Tryz.ntmps4
 go_upto_region 1 with fail
 generalize hW : ((w.alloc (.cells #[.int .i64 a.f0, .int .i64 a.f1, .string a.f2, .slice A3 a.f3.length c3, .slice A4 a.f4.length c4] 25)).alloc (.cells #[.int .i64 b.f0, .int .i64 b.f1, .string b.f2, .slice B3 b.f3.length d3, .slice B4 b.f4.length d4] 25)).alloc (.cells #[.int .i64 c.f0, .int .i64 c.f1, .string c.f2, .slice C3 c.f3.length e3, .slice C4 c.f4.length e4] 25) = W at HB0 HX ⊢
 have HBc := HB0
 clear hW HB0
 have p0 := (blk_cell HX.out.1 0).trans rfl
 have p1 := (blk_cell HX.out.1 1).trans rfl
 have p2 := (blk_cell HX.out.1 2).trans rfl
 have p3 := (blk_cell HX.out.1 3).trans rfl
 have p4 := (blk_cell HX.out.1 4).trans rfl
 have q0 := (blk_cell HX.out.2.1 0).trans rfl
 have q1 := (blk_cell HX.out.2.1 1).trans rfl
 have q2 := (blk_cell HX.out.2.1 2).trans rfl
 have q3 := (blk_cell HX.out.2.1 3).trans rfl
 have q4 := (blk_cell HX.out.2.1 4).trans rfl
 have r0 := (blk_cell HX.out.2.2 0).trans rfl
 have r1 := (blk_cell HX.out.2.2 1).trans rfl
 have r2 := (blk_cell HX.out.2.2 2).trans rfl
 have r3 := (blk_cell HX.out.2.2 3).trans rfl
 have r4 := (blk_cell HX.out.2.2 4).trans rfl
 go_upto_region 3 with (first | (go_at_call 7; (with_reducible refine (HFa.out _ HBc.out).mono ?_); rintro e wn ⟨⟨q, rfl⟩, hb⟩; have HBc := Aside0.mk (below_then HBc.out HBc.out.size hb); replace p0 := pw_cell_below hb p0; replace p1 := pw_cell_below hb p1; replace p2 := pw_cell_below hb p2; replace p3 := pw_cell_below hb p3; replace p4 := pw_cell_below hb p4; replace q0 := pw_cell_below hb q0; replace q1 := pw_cell_below hb q1; replace q2 := pw_cell_below hb q2; replace q3 := pw_cell_below hb q3; replace q4 := pw_cell_below hb q4; replace r0 := pw_cell_below hb r0; replace r1 := pw_cell_below hb r1; replace r2 := pw_cell_below hb r2; replace r3 := pw_cell_below hb r3; replace r4 := pw_cell_below hb r4; clear hb) | (go_at_call 7; (with_reducible refine (HFb.out _ HBc.out).mono ?_); rintro e wn ⟨⟨q, rfl⟩, hb⟩; have HBc := Aside0.mk (below_then HBc.out HBc.out.size hb); replace p0 := pw_cell_below hb p0; replace p1 := pw_cell_below hb p1; replace p2 := pw_cell_below hb p2; replace p3 := pw_cell_below hb p3; replace p4 := pw_cell_below hb p4; replace q0 := pw_cell_below hb q0; replace q1 := pw_cell_below hb q1; replace q2 := pw_cell_below hb q2; replace q3 := pw_cell_below hb q3; replace q4 := pw_cell_below hb q4; replace r0 := pw_cell_below hb r0; replace r1 := pw_cell_below hb r1; replace r2 := pw_cell_below hb r2; replace r3 := pw_cell_below hb r3; replace r4 := pw_cell_below hb r4; clear hb) | (go_at_call 7; (with_reducible refine (HFc.out _ HBc.out).mono ?_); rintro e wn ⟨⟨q, rfl⟩, hb⟩; have HBc := Aside0.mk (below_then HBc.out HBc.out.size hb); replace p0 := pw_cell_below hb p0; replace p1 := pw_cell_below hb p1; replace p2 := pw_cell_below hb p2; replace p3 := pw_cell_below hb p3; replace p4 := pw_cell_below hb p4; replace q0 := pw_cell_below hb q0; replace q1 := pw_cell_below hb q1; replace q2 := pw_cell_below hb q2; replace q3 := pw_cell_below hb q3; replace q4 := pw_cell_below hb q4; replace r0 := pw_cell_below hb r0; replace r1 := pw_cell_below hb r1; replace r2 := pw_cell_below hb r2; replace r3 := pw_cell_below hb r3; replace r4 := pw_cell_below hb r4; clear hb) | (go_at_call 8; (with_reducible refine (HS.out _ (HG.out.below HBc.out)).mono ?_); rintro e wn ⟨rfl, hb⟩; have HBc := Aside0.mk (below_then HBc.out HBc.out.size hb); clear hb))
 all_goals first | (go_ret; exact ⟨rfl, HBc.out⟩) | skip
 go_upto_region 4 with (go_at_call 12; (with_reducible refine (HCab.out _ HBc.out).mono ?_); rintro e wn ⟨rfl, hb⟩; have HBc := Aside0.mk (below_then HBc.out HBc.out.size hb); replace p0 := pw_cell_below hb p0; replace p1 := pw_cell_below hb p1; replace p2 := pw_cell_below hb p2; replace p3 := pw_cell_below hb p3; replace p4 := pw_cell_below hb p4; replace q0 := pw_cell_below hb q0; replace q1 := pw_cell_below hb q1; replace q2 := pw_cell_below hb q2; replace q3 := pw_cell_below hb q3; replace q4 := pw_cell_below hb q4; replace r0 := pw_cell_below hb r0; replace r1 := pw_cell_below hb r1; replace r2 := pw_cell_below hb r2; replace r3 := pw_cell_below hb r3; replace r4 := pw_cell_below hb r4; clear hb)
 cases ra with
 | false =>
  clear hn
  go_wp2_with (first | (go_at_call 10; (with_reducible refine (HRa.out _ HBc.out).mono ?_); rintro e wn ⟨rfl, hb⟩; have HBc := Aside0.mk (below_then HBc.out HBc.out.size hb); replace p0 := pw_cell_below hb p0; replace p1 := pw_cell_below hb p1; replace p2 := pw_cell_below hb p2; replace p3 := pw_cell_below hb p3; replace p4 := pw_cell_below hb p4; replace q0 := pw_cell_below hb q0; replace q1 := pw_cell_below hb q1; replace q2 := pw_cell_below hb q2; replace q3 := pw_cell_below hb q3; replace q4 := pw_cell_below hb q4; replace r0 := pw_cell_below hb r0; replace r1 := pw_cell_below hb r1; replace r2 := pw_cell_below hb r2; replace r3 := pw_cell_below hb r3; replace r4 := pw_cell_below hb r4; clear hb) | (go_at_call 8; (with_reducible refine (HS.out _ (HG.out.below HBc.out)).mono ?_); rintro e wn ⟨rfl, hb⟩; have HBc := Aside0.mk (below_then HBc.out HBc.out.size hb); clear hb))
  go_ret
  exact ⟨rfl, HBc.out⟩
 | true =>
  obtain rfl : rb = false := by simpa using hn
  clear hn
  go_wp2_with (first | (go_at_call 10; (with_reducible refine (HRa.out _ HBc.out).mono ?_); rintro e wn ⟨rfl, hb⟩; have HBc := Aside0.mk (below_then HBc.out HBc.out.size hb); replace p0 := pw_cell_below hb p0; replace p1 := pw_cell_below hb p1; replace p2 := pw_cell_below hb p2; replace p3 := pw_cell_below hb p3; replace p4 := pw_cell_below hb p4; replace q0 := pw_cell_below hb q0; replace q1 := pw_cell_below hb q1; replace q2 := pw_cell_below hb q2; replace q3 := pw_cell_below hb q3; replace q4 := pw_cell_below hb q4; replace r0 := pw_cell_below hb r0; replace r1 := pw_cell_below hb r1; replace r2 := pw_cell_below hb r2; replace r3 := pw_cell_below hb r3; replace r4 := pw_cell_below hb r4; clear hb) | (go_at_call 10; (with_reducible refine (HRb.out _ HBc.out).mono ?_); rintro e wn ⟨rfl, hb⟩; have HBc := Aside0.mk (below_then HBc.out HBc.out.size hb); replace p0 := pw_cell_below hb p0; replace p1 := pw_cell_below hb p1; replace p2 := pw_cell_below hb p2; replace p3 := pw_cell_below hb p3; replace p4 := pw_cell_below hb p4; replace q0 := pw_cell_below hb q0; replace q1 := pw_cell_below hb q1; replace q2 := pw_cell_below hb q2; replace q3 := pw_cell_below hb q3; replace q4 := pw_cell_below hb q4; replace r0 := pw_cell_below hb r0; replace r1 := pw_cell_below hb r1; replace r2 := pw_cell_below hb r2; replace r3 := pw_cell_below hb r3; replace r4 := pw_cell_below hb r4; clear hb) | (go_at_call 8; (with_reducible refine (HS.out _ (HG.out.below HBc.out)).mono ?_); rintro e wn ⟨rfl, hb⟩; have HBc := Aside0.mk (below_then HBc.out HBc.out.size hb); clear hb))
  go_ret
  exact ⟨rfl, HBc.out⟩
set_option maxHeartbeats 16000000 in
theorem order_ok (a b c : DT) (oa : OkD a) (ob : OkD b) (oc : OkD c) (rc : Bool) (n : Int) (hra : rightD a = true) (hrb : rightD b = true) (hrc : rightD c = rc) (hnv : cmpD a b = n) (w : World) (hgl : GL w) (A3 : Option Addr) (c3 : Nat) (A4 : Option Addr) (c4 : Nat) (la3 : a.f3.length ≤ c3) (ga3 : Kd.string.C w A3 a.f3.length a.f3) (la4 : a.f4.length ≤ c4) (ga4 : k25.C w A4 a.f4.length a.f4) (B3 : Option Addr) (d3 : Nat) (B4 : Option Addr) (d4 : Nat) (lb3 : b.f3.length ≤ d3) (gb3 : Kd.string.C w B3 b.f3.length b.f3) (lb4 : b.f4.length ≤ d4) (gb4 : k25.C w B4 b.f4.length b.f4) (C3 : Option Addr) (e3 : Nat) (C4 : Option Addr) (e4 : Nat) (lc3 : c.f3.length ≤ e3) (gc3 : Kd.string.C w C3 c.f3.length c.f3) (lc4 : c.f4.length ≤ e4) (gc4 : k25.C w C4 c.f4.length c.f4) : Calls Tryz.prog 4 #[aggD a A3 c3 A4 c4, aggD b B3 d3 B4 d4, aggD c C3 e3 C4 e4] w fun e w' => e = .returned (.bool true) ∧ Below w.heap.size w w' := by
 have HS : Aside0 (∀ W, GL W → Calls Tryz.prog 8 #[] W fun e w' => e = .returned (.bool true) ∧ Below W.heap.size W w') := ⟨same_c⟩
 have HG := Aside0.mk hgl
 have HB0 := Aside0.mk (below_alloc (below_alloc (below_alloc (Below.refl w.heap.size w) (xBox a A3 c3 A4 c4)) (xBox b B3 d3 B4 d4)) (xBox c C3 e3 C4 e4))
 have HX := Aside0.mk (three_ w (xBox a A3 c3 A4 c4) (xBox b B3 d3 B4 d4) (xBox c C3 e3 C4 e4))
 have HFa : Aside0 (∀ W, Below w.heap.size w W → Calls Tryz.prog 7 #[aggD a A3 c3 A4 c4, .int .i64 300] W fun e w' => (∃ q : Bool, e = .returned (.bool q)) ∧ Below W.heap.size W w') := ⟨fun W hb => Few_c a oa 300 W A3 c3 A4 c4 la4 (k25.C_below ga4 hb)⟩
 have HFb : Aside0 (∀ W, Below w.heap.size w W → Calls Tryz.prog 7 #[aggD b B3 d3 B4 d4, .int .i64 300] W fun e w' => (∃ q : Bool, e = .returned (.bool q)) ∧ Below W.heap.size W w') := ⟨fun W hb => Few_c b ob 300 W B3 d3 B4 d4 lb4 (k25.C_below gb4 hb)⟩
 have HFc : Aside0 (∀ W, Below w.heap.size w W → Calls Tryz.prog 7 #[aggD c C3 e3 C4 e4, .int .i64 300] W fun e w' => (∃ q : Bool, e = .returned (.bool q)) ∧ Below W.heap.size W w') := ⟨fun W hb => Few_c c oc 300 W C3 e3 C4 e4 lc4 (k25.C_below gc4 hb)⟩
 obtain ⟨m, hm⟩ : ∃ m, m = -n := ⟨_, rfl⟩
 have hnn : (if (rightD a && rightD b) = true then cmpD a b else 0) = n := by rw [hra, hrb]; exact hnv
 have hmm : (if (rightD b && rightD a) = true then cmpD b a else 0) = m := by rw [hra, hrb, hm, ← hnv]; exact cmpD_neg a b
 have HRa : Aside0 (∀ W, Below w.heap.size w W → Calls Tryz.prog 10 #[aggD a A3 c3 A4 c4] W fun e w' => e = .returned (.bool true) ∧ Below W.heap.size W w') := ⟨fun W hb => hra ▸ rRight_c a oa W (hgl.below hb) A3 c3 A4 c4 la3 (Kd.string.C_below ga3 hb) la4 (k25.C_below ga4 hb)⟩
 have HRb : Aside0 (∀ W, Below w.heap.size w W → Calls Tryz.prog 10 #[aggD b B3 d3 B4 d4] W fun e w' => e = .returned (.bool true) ∧ Below W.heap.size W w') := ⟨fun W hb => hrb ▸ rRight_c b ob W (hgl.below hb) B3 d3 B4 d4 lb3 (Kd.string.C_below gb3 hb) lb4 (k25.C_below gb4 hb)⟩
 have HRc : Aside0 (∀ W, Below w.heap.size w W → Calls Tryz.prog 10 #[aggD c C3 e3 C4 e4] W fun e w' => e = .returned (.bool rc) ∧ Below W.heap.size W w') := ⟨fun W hb => hrc ▸ rRight_c c oc W (hgl.below hb) C3 e3 C4 e4 lc3 (Kd.string.C_below gc3 hb) lc4 (k25.C_below gc4 hb)⟩
 have HCab : Aside0 (∀ W, Below w.heap.size w W → Calls Tryz.prog 12 #[aggD a A3 c3 A4 c4, aggD b B3 d3 B4 d4] W fun e w' => e = .returned (.int .i64 n) ∧ Below W.heap.size W w') := ⟨fun W hb => (hnn : (if (rightD a && rightD b) = true then cmpD a b else 0) = n) ▸ Compare_c a b oa ob W (hgl.below hb) A3 c3 A4 c4 B3 d3 B4 d4 la3 (Kd.string.C_below ga3 hb) la4 (k25.C_below ga4 hb) lb3 (Kd.string.C_below gb3 hb) lb4 (k25.C_below gb4 hb)⟩
 have HCba : Aside0 (∀ W, Below w.heap.size w W → Calls Tryz.prog 12 #[aggD b B3 d3 B4 d4, aggD a A3 c3 A4 c4] W fun e w' => e = .returned (.int .i64 m) ∧ Below W.heap.size W w') := ⟨fun W hb => (hmm : (if (rightD b && rightD a) = true then cmpD b a else 0) = m) ▸ Compare_c b a ob oa W (hgl.below hb) B3 d3 B4 d4 A3 c3 A4 c4 lb3 (Kd.string.C_below gb3 hb) lb4 (k25.C_below gb4 hb) la3 (Kd.string.C_below ga3 hb) la4 (k25.C_below ga4 hb)⟩
 have HQab : Aside0 (∀ W, Below w.heap.size w W → Calls Tryz.prog 13 #[aggD a A3 c3 A4 c4, aggD b B3 d3 B4 d4] W fun e w' => e = .returned (.int .i64 n) ∧ Below W.heap.size W w') := ⟨fun W hb' => hnv ▸ rcmp_c a oa b ob W (hgl.below hb') A3 c3 A4 c4 B3 d3 B4 d4 la3 (Kd.string.C_below ga3 hb') la4 (k25.C_below ga4 hb') lb3 (Kd.string.C_below gb3 hb') lb4 (k25.C_below gb4 hb')⟩
 have HSab : Aside0 (∀ W, Below w.heap.size w W → Calls Tryz.prog 11 #[aggD a A3 c3 A4 c4, aggD b B3 d3 B4 d4] W fun e w' => e = .returned (.bool (n == 0)) ∧ Below W.heap.size W w') := ⟨fun W hb' => Same_c a b oa (n == 0) (by rw [beq_iff_eq, ← hnv]; exact cmpD_eq a b) W (hgl.below hb') A3 c3 A4 c4 la3 (Kd.string.C_below ga3 hb') la4 (k25.C_below ga4 hb') B3 d3 B4 d4 lb3 (Kd.string.C_below gb3 hb') lb4 (k25.C_below gb4 hb')⟩
 obtain ⟨u, hu⟩ : ∃ u, (if (rightD b && rightD c) = true then cmpD b c else 0) = u := ⟨_, rfl⟩
 obtain ⟨v, hv⟩ : ∃ v, (if (rightD a && rightD c) = true then cmpD a c else 0) = v := ⟨_, rfl⟩
 have HCbc : Aside0 (∀ W, Below w.heap.size w W → Calls Tryz.prog 12 #[aggD b B3 d3 B4 d4, aggD c C3 e3 C4 e4] W fun e w' => e = .returned (.int .i64 u) ∧ Below W.heap.size W w') := ⟨fun W hb => (hu : (if (rightD b && rightD c) = true then cmpD b c else 0) = u) ▸ Compare_c b c ob oc W (hgl.below hb) B3 d3 B4 d4 C3 e3 C4 e4 lb3 (Kd.string.C_below gb3 hb) lb4 (k25.C_below gb4 hb) lc3 (Kd.string.C_below gc3 hb) lc4 (k25.C_below gc4 hb)⟩
 have HCac : Aside0 (∀ W, Below w.heap.size w W → Calls Tryz.prog 12 #[aggD a A3 c3 A4 c4, aggD c C3 e3 C4 e4] W fun e w' => e = .returned (.int .i64 v) ∧ Below W.heap.size W w') := ⟨fun W hb => (hv : (if (rightD a && rightD c) = true then cmpD a c else 0) = v) ▸ Compare_c a c oa oc W (hgl.below hb) A3 c3 A4 c4 C3 e3 C4 e4 la3 (Kd.string.C_below ga3 hb) la4 (k25.C_below ga4 hb) lc3 (Kd.string.C_below gc3 hb) lc4 (k25.C_below gc4 hb)⟩
 have hn : Sg n := hnv ▸ sg_cmpD a b
 have htr : rc = true → n ≤ 0 → u ≤ 0 → v ≤ 0 := fun h h1 h2 => by
  subst h
  have hu' : cmpD b c = u := by rw [hrb, hrc] at hu; exact hu
  have hv' : cmpD a c = v := by rw [hra, hrc] at hv; exact hv
  rw [← hv']
  exact cmpD_tr a b c (by rw [hnv]; exact h1) (by rw [hu']; exact h2)
 have HTR := Aside0.mk htr
 have hw0 : wrap64 (0 - n) = m := by unfold Sg at hn; rw [w64 (by omega) (by omega)]; omega
 have hw1 : wrap64 (-n) = m := by unfold Sg at hn; rw [w64 (by omega) (by omega)]; omega
 clear hra hrb hrc hnn hmm hu hv hnv htr hn hm
 clear hgl ga3 ga4 gb3 gb4 gc3 gc4 oa ob oc
 go_enter Tryz.func4, Tryz.ntmps4
 go_upto_region 1 with fail
 generalize hW : ((w.alloc (.cells #[.int .i64 a.f0, .int .i64 a.f1, .string a.f2, .slice A3 a.f3.length c3, .slice A4 a.f4.length c4] 25)).alloc (.cells #[.int .i64 b.f0, .int .i64 b.f1, .string b.f2, .slice B3 b.f3.length d3, .slice B4 b.f4.length d4] 25)).alloc (.cells #[.int .i64 c.f0, .int .i64 c.f1, .string c.f2, .slice C3 c.f3.length e3, .slice C4 c.f4.length e4] 25) = W at HB0 HX ⊢
 have HBc := HB0
 clear hW HB0
 have p0 := (blk_cell HX.out.1 0).trans rfl
 have p1 := (blk_cell HX.out.1 1).trans rfl
 have p2 := (blk_cell HX.out.1 2).trans rfl
 have p3 := (blk_cell HX.out.1 3).trans rfl
 have p4 := (blk_cell HX.out.1 4).trans rfl
 have q0 := (blk_cell HX.out.2.1 0).trans rfl
 have q1 := (blk_cell HX.out.2.1 1).trans rfl
 have q2 := (blk_cell HX.out.2.1 2).trans rfl
 have q3 := (blk_cell HX.out.2.1 3).trans rfl
 have q4 := (blk_cell HX.out.2.1 4).trans rfl
 have r0 := (blk_cell HX.out.2.2 0).trans rfl
 have r1 := (blk_cell HX.out.2.2 1).trans rfl
 have r2 := (blk_cell HX.out.2.2 2).trans rfl
 have r3 := (blk_cell HX.out.2.2 3).trans rfl
 have r4 := (blk_cell HX.out.2.2 4).trans rfl
 go_upto_region 3 with (first | (go_at_call 7; (with_reducible refine (HFa.out _ HBc.out).mono ?_); rintro e wn ⟨⟨q, rfl⟩, hb⟩; have HBc := Aside0.mk (below_then HBc.out HBc.out.size hb); replace p0 := pw_cell_below hb p0; replace p1 := pw_cell_below hb p1; replace p2 := pw_cell_below hb p2; replace p3 := pw_cell_below hb p3; replace p4 := pw_cell_below hb p4; replace q0 := pw_cell_below hb q0; replace q1 := pw_cell_below hb q1; replace q2 := pw_cell_below hb q2; replace q3 := pw_cell_below hb q3; replace q4 := pw_cell_below hb q4; replace r0 := pw_cell_below hb r0; replace r1 := pw_cell_below hb r1; replace r2 := pw_cell_below hb r2; replace r3 := pw_cell_below hb r3; replace r4 := pw_cell_below hb r4; clear hb) | (go_at_call 7; (with_reducible refine (HFb.out _ HBc.out).mono ?_); rintro e wn ⟨⟨q, rfl⟩, hb⟩; have HBc := Aside0.mk (below_then HBc.out HBc.out.size hb); replace p0 := pw_cell_below hb p0; replace p1 := pw_cell_below hb p1; replace p2 := pw_cell_below hb p2; replace p3 := pw_cell_below hb p3; replace p4 := pw_cell_below hb p4; replace q0 := pw_cell_below hb q0; replace q1 := pw_cell_below hb q1; replace q2 := pw_cell_below hb q2; replace q3 := pw_cell_below hb q3; replace q4 := pw_cell_below hb q4; replace r0 := pw_cell_below hb r0; replace r1 := pw_cell_below hb r1; replace r2 := pw_cell_below hb r2; replace r3 := pw_cell_below hb r3; replace r4 := pw_cell_below hb r4; clear hb) | (go_at_call 7; (with_reducible refine (HFc.out _ HBc.out).mono ?_); rintro e wn ⟨⟨q, rfl⟩, hb⟩; have HBc := Aside0.mk (below_then HBc.out HBc.out.size hb); replace p0 := pw_cell_below hb p0; replace p1 := pw_cell_below hb p1; replace p2 := pw_cell_below hb p2; replace p3 := pw_cell_below hb p3; replace p4 := pw_cell_below hb p4; replace q0 := pw_cell_below hb q0; replace q1 := pw_cell_below hb q1; replace q2 := pw_cell_below hb q2; replace q3 := pw_cell_below hb q3; replace q4 := pw_cell_below hb q4; replace r0 := pw_cell_below hb r0; replace r1 := pw_cell_below hb r1; replace r2 := pw_cell_below hb r2; replace r3 := pw_cell_below hb r3; replace r4 := pw_cell_below hb r4; clear hb) | (go_at_call 8; (with_reducible refine (HS.out _ (HG.out.below HBc.out)).mono ?_); rintro e wn ⟨rfl, hb⟩; have HBc := Aside0.mk (below_then HBc.out HBc.out.size hb); clear hb))
 all_goals first | (go_ret; exact ⟨rfl, HBc.out⟩) | skip
 go_upto_region 4 with (go_at_call 12; (with_reducible refine (HCab.out _ HBc.out).mono ?_); rintro e wn ⟨rfl, hb⟩; have HBc := Aside0.mk (below_then HBc.out HBc.out.size hb); replace p0 := pw_cell_below hb p0; replace p1 := pw_cell_below hb p1; replace p2 := pw_cell_below hb p2; replace p3 := pw_cell_below hb p3; replace p4 := pw_cell_below hb p4; replace q0 := pw_cell_below hb q0; replace q1 := pw_cell_below hb q1; replace q2 := pw_cell_below hb q2; replace q3 := pw_cell_below hb q3; replace q4 := pw_cell_below hb q4; replace r0 := pw_cell_below hb r0; replace r1 := pw_cell_below hb r1; replace r2 := pw_cell_below hb r2; replace r3 := pw_cell_below hb r3; replace r4 := pw_cell_below hb r4; clear hb)
 go_upto_region 6 with (first | (go_at_call 10; (with_reducible refine (HRa.out _ HBc.out).mono ?_); rintro e wn ⟨rfl, hb⟩; have HBc := Aside0.mk (below_then HBc.out HBc.out.size hb); replace p0 := pw_cell_below hb p0; replace p1 := pw_cell_below hb p1; replace p2 := pw_cell_below hb p2; replace p3 := pw_cell_below hb p3; replace p4 := pw_cell_below hb p4; replace q0 := pw_cell_below hb q0; replace q1 := pw_cell_below hb q1; replace q2 := pw_cell_below hb q2; replace q3 := pw_cell_below hb q3; replace q4 := pw_cell_below hb q4; replace r0 := pw_cell_below hb r0; replace r1 := pw_cell_below hb r1; replace r2 := pw_cell_below hb r2; replace r3 := pw_cell_below hb r3; replace r4 := pw_cell_below hb r4; clear hb) | (go_at_call 10; (with_reducible refine (HRb.out _ HBc.out).mono ?_); rintro e wn ⟨rfl, hb⟩; have HBc := Aside0.mk (below_then HBc.out HBc.out.size hb); replace p0 := pw_cell_below hb p0; replace p1 := pw_cell_below hb p1; replace p2 := pw_cell_below hb p2; replace p3 := pw_cell_below hb p3; replace p4 := pw_cell_below hb p4; replace q0 := pw_cell_below hb q0; replace q1 := pw_cell_below hb q1; replace q2 := pw_cell_below hb q2; replace q3 := pw_cell_below hb q3; replace q4 := pw_cell_below hb q4; replace r0 := pw_cell_below hb r0; replace r1 := pw_cell_below hb r1; replace r2 := pw_cell_below hb r2; replace r3 := pw_cell_below hb r3; replace r4 := pw_cell_below hb r4; clear hb))
 go_upto_region 8 with (first | (go_at_call 13; (with_reducible refine (HQab.out _ HBc.out).mono ?_); rintro e wn ⟨rfl, hb⟩; have HBc := Aside0.mk (below_then HBc.out HBc.out.size hb); replace p0 := pw_cell_below hb p0; replace p1 := pw_cell_below hb p1; replace p2 := pw_cell_below hb p2; replace p3 := pw_cell_below hb p3; replace p4 := pw_cell_below hb p4; replace q0 := pw_cell_below hb q0; replace q1 := pw_cell_below hb q1; replace q2 := pw_cell_below hb q2; replace q3 := pw_cell_below hb q3; replace q4 := pw_cell_below hb q4; replace r0 := pw_cell_below hb r0; replace r1 := pw_cell_below hb r1; replace r2 := pw_cell_below hb r2; replace r3 := pw_cell_below hb r3; replace r4 := pw_cell_below hb r4; clear hb) | (go_at_call 12; (with_reducible refine (HCab.out _ HBc.out).mono ?_); rintro e wn ⟨rfl, hb⟩; have HBc := Aside0.mk (below_then HBc.out HBc.out.size hb); replace p0 := pw_cell_below hb p0; replace p1 := pw_cell_below hb p1; replace p2 := pw_cell_below hb p2; replace p3 := pw_cell_below hb p3; replace p4 := pw_cell_below hb p4; replace q0 := pw_cell_below hb q0; replace q1 := pw_cell_below hb q1; replace q2 := pw_cell_below hb q2; replace q3 := pw_cell_below hb q3; replace q4 := pw_cell_below hb q4; replace r0 := pw_cell_below hb r0; replace r1 := pw_cell_below hb r1; replace r2 := pw_cell_below hb r2; replace r3 := pw_cell_below hb r3; replace r4 := pw_cell_below hb r4; clear hb) | (go_at_call 12; (with_reducible refine (HCba.out _ HBc.out).mono ?_); rintro e wn ⟨rfl, hb⟩; have HBc := Aside0.mk (below_then HBc.out HBc.out.size hb); replace p0 := pw_cell_below hb p0; replace p1 := pw_cell_below hb p1; replace p2 := pw_cell_below hb p2; replace p3 := pw_cell_below hb p3; replace p4 := pw_cell_below hb p4; replace q0 := pw_cell_below hb q0; replace q1 := pw_cell_below hb q1; replace q2 := pw_cell_below hb q2; replace q3 := pw_cell_below hb q3; replace q4 := pw_cell_below hb q4; replace r0 := pw_cell_below hb r0; replace r1 := pw_cell_below hb r1; replace r2 := pw_cell_below hb r2; replace r3 := pw_cell_below hb r3; replace r4 := pw_cell_below hb r4; clear hb) | (go_at_call 12; (with_reducible refine (HCbc.out _ HBc.out).mono ?_); rintro e wn ⟨rfl, hb⟩; have HBc := Aside0.mk (below_then HBc.out HBc.out.size hb); replace p0 := pw_cell_below hb p0; replace p1 := pw_cell_below hb p1; replace p2 := pw_cell_below hb p2; replace p3 := pw_cell_below hb p3; replace p4 := pw_cell_below hb p4; replace q0 := pw_cell_below hb q0; replace q1 := pw_cell_below hb q1; replace q2 := pw_cell_below hb q2; replace q3 := pw_cell_below hb q3; replace q4 := pw_cell_below hb q4; replace r0 := pw_cell_below hb r0; replace r1 := pw_cell_below hb r1; replace r2 := pw_cell_below hb r2; replace r3 := pw_cell_below hb r3; replace r4 := pw_cell_below hb r4; clear hb) | (go_at_call 12; (with_reducible refine (HCac.out _ HBc.out).mono ?_); rintro e wn ⟨rfl, hb⟩; have HBc := Aside0.mk (below_then HBc.out HBc.out.size hb); replace p0 := pw_cell_below hb p0; replace p1 := pw_cell_below hb p1; replace p2 := pw_cell_below hb p2; replace p3 := pw_cell_below hb p3; replace p4 := pw_cell_below hb p4; replace q0 := pw_cell_below hb q0; replace q1 := pw_cell_below hb q1; replace q2 := pw_cell_below hb q2; replace q3 := pw_cell_below hb q3; replace q4 := pw_cell_below hb q4; replace r0 := pw_cell_below hb r0; replace r1 := pw_cell_below hb r1; replace r2 := pw_cell_below hb r2; replace r3 := pw_cell_below hb r3; replace r4 := pw_cell_below hb r4; clear hb) | (go_at_call 11; (with_reducible refine (HSab.out _ HBc.out).mono ?_); rintro e wn ⟨rfl, hb⟩; have HBc := Aside0.mk (below_then HBc.out HBc.out.size hb); replace p0 := pw_cell_below hb p0; replace p1 := pw_cell_below hb p1; replace p2 := pw_cell_below hb p2; replace p3 := pw_cell_below hb p3; replace p4 := pw_cell_below hb p4; replace q0 := pw_cell_below hb q0; replace q1 := pw_cell_below hb q1; replace q2 := pw_cell_below hb q2; replace q3 := pw_cell_below hb q3; replace q4 := pw_cell_below hb q4; replace r0 := pw_cell_below hb r0; replace r1 := pw_cell_below hb r1; replace r2 := pw_cell_below hb r2; replace r3 := pw_cell_below hb r3; replace r4 := pw_cell_below hb r4; clear hb))
 cases rc with
 | false =>
  clear hw0 hw1
  go_wp2_with (first | (go_at_call 10; (with_reducible refine (HRc.out _ HBc.out).mono ?_); rintro e wn ⟨rfl, hb⟩; have HBc := Aside0.mk (below_then HBc.out HBc.out.size hb); replace p0 := pw_cell_below hb p0; replace p1 := pw_cell_below hb p1; replace p2 := pw_cell_below hb p2; replace p3 := pw_cell_below hb p3; replace p4 := pw_cell_below hb p4; replace q0 := pw_cell_below hb q0; replace q1 := pw_cell_below hb q1; replace q2 := pw_cell_below hb q2; replace q3 := pw_cell_below hb q3; replace q4 := pw_cell_below hb q4; replace r0 := pw_cell_below hb r0; replace r1 := pw_cell_below hb r1; replace r2 := pw_cell_below hb r2; replace r3 := pw_cell_below hb r3; replace r4 := pw_cell_below hb r4; clear hb) | (go_at_call 8; (with_reducible refine (HS.out _ (HG.out.below HBc.out)).mono ?_); rintro e wn ⟨rfl, hb⟩; have HBc := Aside0.mk (below_then HBc.out HBc.out.size hb); clear hb))
  go_ret
  exact ⟨rfl, HBc.out⟩
 | true =>
  clear hw0 hw1
  by_cases hn : 0 < n
  ·have dn : decide (0 < n) = true := decide_eq_true hn
   go_wp2_with (first | (go_at_call 10; (with_reducible refine (HRc.out _ HBc.out).mono ?_); rintro e wn ⟨rfl, hb⟩; have HBc := Aside0.mk (below_then HBc.out HBc.out.size hb); replace p0 := pw_cell_below hb p0; replace p1 := pw_cell_below hb p1; replace p2 := pw_cell_below hb p2; replace p3 := pw_cell_below hb p3; replace p4 := pw_cell_below hb p4; replace q0 := pw_cell_below hb q0; replace q1 := pw_cell_below hb q1; replace q2 := pw_cell_below hb q2; replace q3 := pw_cell_below hb q3; replace q4 := pw_cell_below hb q4; replace r0 := pw_cell_below hb r0; replace r1 := pw_cell_below hb r1; replace r2 := pw_cell_below hb r2; replace r3 := pw_cell_below hb r3; replace r4 := pw_cell_below hb r4; clear hb) | (go_at_call 8; (with_reducible refine (HS.out _ (HG.out.below HBc.out)).mono ?_); rintro e wn ⟨rfl, hb⟩; have HBc := Aside0.mk (below_then HBc.out HBc.out.size hb); clear hb))
   go_ret
   exact ⟨rfl, HBc.out⟩
  ·have dn : decide (0 < n) = false := decide_eq_false hn
   by_cases hu : 0 < u
   ·have du : decide (0 < u) = true := decide_eq_true hu
    go_wp2_with (first | (go_at_call 10; (with_reducible refine (HRc.out _ HBc.out).mono ?_); rintro e wn ⟨rfl, hb⟩; have HBc := Aside0.mk (below_then HBc.out HBc.out.size hb); replace p0 := pw_cell_below hb p0; replace p1 := pw_cell_below hb p1; replace p2 := pw_cell_below hb p2; replace p3 := pw_cell_below hb p3; replace p4 := pw_cell_below hb p4; replace q0 := pw_cell_below hb q0; replace q1 := pw_cell_below hb q1; replace q2 := pw_cell_below hb q2; replace q3 := pw_cell_below hb q3; replace q4 := pw_cell_below hb q4; replace r0 := pw_cell_below hb r0; replace r1 := pw_cell_below hb r1; replace r2 := pw_cell_below hb r2; replace r3 := pw_cell_below hb r3; replace r4 := pw_cell_below hb r4; clear hb) | (go_at_call 8; (with_reducible refine (HS.out _ (HG.out.below HBc.out)).mono ?_); rintro e wn ⟨rfl, hb⟩; have HBc := Aside0.mk (below_then HBc.out HBc.out.size hb); clear hb) | (go_at_call 12; (with_reducible refine (HCab.out _ HBc.out).mono ?_); rintro e wn ⟨rfl, hb⟩; have HBc := Aside0.mk (below_then HBc.out HBc.out.size hb); replace p0 := pw_cell_below hb p0; replace p1 := pw_cell_below hb p1; replace p2 := pw_cell_below hb p2; replace p3 := pw_cell_below hb p3; replace p4 := pw_cell_below hb p4; replace q0 := pw_cell_below hb q0; replace q1 := pw_cell_below hb q1; replace q2 := pw_cell_below hb q2; replace q3 := pw_cell_below hb q3; replace q4 := pw_cell_below hb q4; replace r0 := pw_cell_below hb r0; replace r1 := pw_cell_below hb r1; replace r2 := pw_cell_below hb r2; replace r3 := pw_cell_below hb r3; replace r4 := pw_cell_below hb r4; clear hb) | (go_at_call 12; (with_reducible refine (HCba.out _ HBc.out).mono ?_); rintro e wn ⟨rfl, hb⟩; have HBc := Aside0.mk (below_then HBc.out HBc.out.size hb); replace p0 := pw_cell_below hb p0; replace p1 := pw_cell_below hb p1; replace p2 := pw_cell_below hb p2; replace p3 := pw_cell_below hb p3; replace p4 := pw_cell_below hb p4; replace q0 := pw_cell_below hb q0; replace q1 := pw_cell_below hb q1; replace q2 := pw_cell_below hb q2; replace q3 := pw_cell_below hb q3; replace q4 := pw_cell_below hb q4; replace r0 := pw_cell_below hb r0; replace r1 := pw_cell_below hb r1; replace r2 := pw_cell_below hb r2; replace r3 := pw_cell_below hb r3; replace r4 := pw_cell_below hb r4; clear hb) | (go_at_call 12; (with_reducible refine (HCbc.out _ HBc.out).mono ?_); rintro e wn ⟨rfl, hb⟩; have HBc := Aside0.mk (below_then HBc.out HBc.out.size hb); replace p0 := pw_cell_below hb p0; replace p1 := pw_cell_below hb p1; replace p2 := pw_cell_below hb p2; replace p3 := pw_cell_below hb p3; replace p4 := pw_cell_below hb p4; replace q0 := pw_cell_below hb q0; replace q1 := pw_cell_below hb q1; replace q2 := pw_cell_below hb q2; replace q3 := pw_cell_below hb q3; replace q4 := pw_cell_below hb q4; replace r0 := pw_cell_below hb r0; replace r1 := pw_cell_below hb r1; replace r2 := pw_cell_below hb r2; replace r3 := pw_cell_below hb r3; replace r4 := pw_cell_below hb r4; clear hb) | (go_at_call 12; (with_reducible refine (HCac.out _ HBc.out).mono ?_); rintro e wn ⟨rfl, hb⟩; have HBc := Aside0.mk (below_then HBc.out HBc.out.size hb); replace p0 := pw_cell_below hb p0; replace p1 := pw_cell_below hb p1; replace p2 := pw_cell_below hb p2; replace p3 := pw_cell_below hb p3; replace p4 := pw_cell_below hb p4; replace q0 := pw_cell_below hb q0; replace q1 := pw_cell_below hb q1; replace q2 := pw_cell_below hb q2; replace q3 := pw_cell_below hb q3; replace q4 := pw_cell_below hb q4; replace r0 := pw_cell_below hb r0; replace r1 := pw_cell_below hb r1; replace r2 := pw_cell_below hb r2; replace r3 := pw_cell_below hb r3; replace r4 := pw_cell_below hb r4; clear hb))
    go_ret
    exact ⟨rfl, HBc.out⟩
   ·have du : decide (0 < u) = false := decide_eq_false hu
    have hv := HTR.out rfl (by omega) (by omega)
    have dv : decide (v ≤ 0) = true := decide_eq_true hv
    go_wp2_with (first | (go_at_call 10; (with_reducible refine (HRc.out _ HBc.out).mono ?_); rintro e wn ⟨rfl, hb⟩; have HBc := Aside0.mk (below_then HBc.out HBc.out.size hb); replace p0 := pw_cell_below hb p0; replace p1 := pw_cell_below hb p1; replace p2 := pw_cell_below hb p2; replace p3 := pw_cell_below hb p3; replace p4 := pw_cell_below hb p4; replace q0 := pw_cell_below hb q0; replace q1 := pw_cell_below hb q1; replace q2 := pw_cell_below hb q2; replace q3 := pw_cell_below hb q3; replace q4 := pw_cell_below hb q4; replace r0 := pw_cell_below hb r0; replace r1 := pw_cell_below hb r1; replace r2 := pw_cell_below hb r2; replace r3 := pw_cell_below hb r3; replace r4 := pw_cell_below hb r4; clear hb) | (go_at_call 8; (with_reducible refine (HS.out _ (HG.out.below HBc.out)).mono ?_); rintro e wn ⟨rfl, hb⟩; have HBc := Aside0.mk (below_then HBc.out HBc.out.size hb); clear hb) | (go_at_call 12; (with_reducible refine (HCab.out _ HBc.out).mono ?_); rintro e wn ⟨rfl, hb⟩; have HBc := Aside0.mk (below_then HBc.out HBc.out.size hb); replace p0 := pw_cell_below hb p0; replace p1 := pw_cell_below hb p1; replace p2 := pw_cell_below hb p2; replace p3 := pw_cell_below hb p3; replace p4 := pw_cell_below hb p4; replace q0 := pw_cell_below hb q0; replace q1 := pw_cell_below hb q1; replace q2 := pw_cell_below hb q2; replace q3 := pw_cell_below hb q3; replace q4 := pw_cell_below hb q4; replace r0 := pw_cell_below hb r0; replace r1 := pw_cell_below hb r1; replace r2 := pw_cell_below hb r2; replace r3 := pw_cell_below hb r3; replace r4 := pw_cell_below hb r4; clear hb) | (go_at_call 12; (with_reducible refine (HCba.out _ HBc.out).mono ?_); rintro e wn ⟨rfl, hb⟩; have HBc := Aside0.mk (below_then HBc.out HBc.out.size hb); replace p0 := pw_cell_below hb p0; replace p1 := pw_cell_below hb p1; replace p2 := pw_cell_below hb p2; replace p3 := pw_cell_below hb p3; replace p4 := pw_cell_below hb p4; replace q0 := pw_cell_below hb q0; replace q1 := pw_cell_below hb q1; replace q2 := pw_cell_below hb q2; replace q3 := pw_cell_below hb q3; replace q4 := pw_cell_below hb q4; replace r0 := pw_cell_below hb r0; replace r1 := pw_cell_below hb r1; replace r2 := pw_cell_below hb r2; replace r3 := pw_cell_below hb r3; replace r4 := pw_cell_below hb r4; clear hb) | (go_at_call 12; (with_reducible refine (HCbc.out _ HBc.out).mono ?_); rintro e wn ⟨rfl, hb⟩; have HBc := Aside0.mk (below_then HBc.out HBc.out.size hb); replace p0 := pw_cell_below hb p0; replace p1 := pw_cell_below hb p1; replace p2 := pw_cell_below hb p2; replace p3 := pw_cell_below hb p3; replace p4 := pw_cell_below hb p4; replace q0 := pw_cell_below hb q0; replace q1 := pw_cell_below hb q1; replace q2 := pw_cell_below hb q2; replace q3 := pw_cell_below hb q3; replace q4 := pw_cell_below hb q4; replace r0 := pw_cell_below hb r0; replace r1 := pw_cell_below hb r1; replace r2 := pw_cell_below hb r2; replace r3 := pw_cell_below hb r3; replace r4 := pw_cell_below hb r4; clear hb) | (go_at_call 12; (with_reducible refine (HCac.out _ HBc.out).mono ?_); rintro e wn ⟨rfl, hb⟩; have HBc := Aside0.mk (below_then HBc.out HBc.out.size hb); replace p0 := pw_cell_below hb p0; replace p1 := pw_cell_below hb p1; replace p2 := pw_cell_below hb p2; replace p3 := pw_cell_below hb p3; replace p4 := pw_cell_below hb p4; replace q0 := pw_cell_below hb q0; replace q1 := pw_cell_below hb q1; replace q2 := pw_cell_below hb q2; replace q3 := pw_cell_below hb q3; replace q4 := pw_cell_below hb q4; replace r0 := pw_cell_below hb r0; replace r1 := pw_cell_below hb r1; replace r2 := pw_cell_below hb r2; replace r3 := pw_cell_below hb r3; replace r4 := pw_cell_below hb r4; clear hb))
    go_ret
    exact ⟨rfl, HBc.out⟩
theorem datumOrder_h (v0 v1 v2 : Value) (W : World) (hg : GL W) (h0 : openDatT W v0) (h1 : openDatT W v1) (h2 : openDatT W v2) : Calls Tryz.prog 4 #[v0, v1, v2] W fun e w' => e = .returned (.bool true) ∧ Below W.heap.size W w' := by
 obtain ⟨a, A3, c3, A4, c4, rfl, ha, la3, ga3, la4, ga4⟩ := h0
 obtain ⟨b, B3, d3, B4, d4, rfl, hb, lb3, gb3, lb4, gb4⟩ := h1
 obtain ⟨c, C3, e3, C4, e4, rfl, hc, lc3, gc3, lc4, gc4⟩ := h2
 cases hn : (rightD a && rightD b) with
 | false => exact order_bad a b c ha hb hc _ _ rfl rfl hn W hg A3 c3 A4 c4 la3 ga3 la4 ga4 B3 d3 B4 d4 lb3 gb3 lb4 gb4 C3 e3 C4 e4 lc3 gc3 lc4 gc4
 | true =>
  obtain ⟨h1, h2⟩ := Bool.and_eq_true_iff.1 hn
  exact order_ok a b c ha hb hc _ _ h1 h2 rfl rfl W hg A3 c3 A4 c4 la3 ga3 la4 ga4 B3 d3 B4 d4 lb3 gb3 lb4 gb4 C3 e3 C4 e4 lc3 gc3 lc4 gc4
end Go.Proofs.YtidcecpbihmloaaGreatDoorE
