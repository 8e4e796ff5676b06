/- Merged by this claim's own program (merge.py) out of the texts ED7, ED8, K06, EDS1, EDS0, K05, EDS2, EDS3, EDR2, EDW1, EDH4, EDH5, EDS3b, EDS5, EDS6, EDP1, EDS8, EDW2, EDW3, EDG1, EDG2, EDG3, EDG4, EDG5, EDT1, EDT1b, EDT2, EDT3, EDT4; the W texts among them began as the kit's print. -/
import Derived.Test.YtidcecpbihmloaaGreatDoorDO3
import Derived.Deep.QuietTactic
import Derived.BigQuiet
import Derived.Deep.RegionHeld3

namespace Go.Proofs.YtidcecpbihmloaaGreatDoorE
open Go Go.RowKit Go.Proofs.YtidcecpbihmloaaGreatDoorW.PrintWords Go.Proofs.YtidcecpbihmloaaGreatDoorX Go.Proofs.YtidcecpbihmloaaGreatDoor.P16 Go.Proofs.YtidcecpbihmloaaGreatDoor.M02
set_option linter.unusedVariables false
set_option linter.unusedSimpArgs false
/-- What right says of a piece, wherever it is called. -/
def rightC (x : DT) : Prop := ∀ (L op : Nat), L ≤ 2000 → op ≤ 16 → ∀ (g : Nat) (w0 w : World), GL w0 → ∀ (A3 : Option Addr) (c3 : Nat) (A4 : Option Addr) (c4 : Nat), x.f3.length ≤ c3 → Kd.string.C w0 A3 x.f3.length x.f3 → x.f4.length ≤ c4 → k25.C w0 A4 x.f4.length x.f4 → IsC w0 w g (L : Nat) → Below w0.heap.size w0 w →
 Calls Tryz.prog 28 #[.pointer (some ⟨g, 0, none⟩), aggD x A3 c3 A4 c4, .int .i64 op] w (rightP w0 w g (weighD x L op))
theorem rd_take (l : List DT) (q : Nat) (h : q < l.length) : rd_T25 l (q : Int) ∈ l ∧ l.take (q + 1) = l.take q ++ [rd_T25 l (q : Int)] ∧ l = l.take q ++ rd_T25 l (q : Int) :: l.drop (q + 1) := by
 have e : rd_T25 l (q : Int) = l[q] := by
  unfold rd_T25
  rw [Int.toNat_natCast, List.getD_eq_getElem?_getD, List.getElem?_eq_getElem h]
  rfl
 rw [e]
 refine ⟨List.getElem_mem h, List.take_succ_eq_append_getElem h, ?_⟩
 rw [← List.drop_eq_getElem_cons h, List.take_append_drop]
set_option maxHeartbeats 4000000 in
set_option maxRecDepth 100000 in
theorem right_kids (x : DT) (hx : OkD x) (hp : plainD x = true) (hk : ¬ x.f0 < 4) (L op : Nat) (hL : L ≤ 2000) (ho : op < 16) (hmu : x.f4.length ≤ L) (hgood : ∀ j, j < x.f3.length → goodN x.f3 j) (ih : ∀ y ∈ x.f4, rightC y) (g : Nat) (w0 w : World) (hgl : GL w0) (A3 : Option Addr) (c3 : Nat) (A4 : Option Addr) (c4 : Nat) (l3 : x.f3.length ≤ c3) (g3 : Kd.string.C w0 A3 x.f3.length x.f3) (l4 : x.f4.length ≤ c4) (g4 : k25.C w0 A4 x.f4.length x.f4) (hI : IsC w0 w g (L + 1 : Nat)) (hB : Below w0.heap.size w0 w) :
  Calls Tryz.prog 28 #[.pointer (some ⟨g, 0, none⟩), .agg #[.int .i64 x.f0, .int .i64 x.f1, .string x.f2, .slice A3 x.f3.length c3, .slice A4 x.f4.length c4], .int .i64 op] w (rightP w0 w g (weighL x.f4 L (op + 1))) := by
 have HI := Aside0.mk hI
 have HB := Aside0.mk hB
 have HG := Aside0.mk hgl
 have H3 := Aside0.mk g3
 have H4 := Aside0.mk g4
 have HP := Aside0.mk (show plainD (⟨x.f0, x.f1, x.f2, x.f3, x.f4⟩ : DT) = true ∧ x.f3.length ≤ 140737488351232 ∧ x.f4.length ≤ 140737488351232 from ⟨hp, hx.out.2.2.2.1, hx.out.2.2.2.2.2.1⟩)
 have HXS := Aside0.mk hx.out.2.2.2.2.1
 have HGOOD := Aside0.mk hgood
 have IH := Aside0.mk ih
 have hN4 : x.f4.length ≤ 140737488351232 := hx.out.2.2.2.2.2.1
 clear hgood ih
 have hN3 : x.f3.length ≤ 140737488351232 := hx.out.2.2.2.1
 clear hI hB hgl g3 g4 hx hp
 go_enter Tryz.func28, Tryz.ntmps28
 go_upto_region 1 with (first | ((with_reducible refine gate_dst (N := 4) rfl ?_); refine box_event ?hg (N := 4) ?hd (cs := #[.int .i64 x.f0, .int .i64 x.f1, .string x.f2, .slice A3 x.f3.length c3, .slice A4 x.f4.length c4]) (t := 25) ?hr ?_; (case hd => rfl); (case hg => rfl); (case hr => first | (go_simp; done) | (go_simp; rfl)); intro gb hg w5 hbox hb; have BK := Aside0.mk hbox; have HW := Aside0.mk hb; have HGB := Aside0.mk hg; clear hbox hb hg))
 (try simp only [Act.put, List.setIfInBounds_toArray, List.set_cons_zero, List.set_cons_succ])
 have hgw : g < w.heap.size := blk_lt HI.out.1
 have hne : gb ≠ g := by rw [HGB.out]; omega
 have hi5 : w5.heap[g]? = some (.cells #[.int .i64 (L + 1 : Nat)] 58 (0, 0)) := (HW.out.block g hgw).trans HI.out.1
 have c0 : w5.cell? ⟨g, 0, none⟩ = some (.int .i64 ((L + 1 : Nat) : Int)) := (blk_cell hi5 0).trans rfl
 have f0 := blk_frozen hi5 0
 have HI5 := Aside0.mk hi5
 clear hi5
 have b0 : w5.cell? ⟨gb, 0, none⟩ = some (.int .i64 x.f0) := (blk_cell BK.out 0).trans rfl
 have b1 : w5.cell? ⟨gb, 1, none⟩ = some (.int .i64 x.f1) := (blk_cell BK.out 1).trans rfl
 have b2 : w5.cell? ⟨gb, 2, none⟩ = some (.string x.f2) := (blk_cell BK.out 2).trans rfl
 have b3 : w5.cell? ⟨gb, 3, none⟩ = some (.slice A3 x.f3.length c3) := (blk_cell BK.out 3).trans rfl
 have b4 : w5.cell? ⟨gb, 4, none⟩ = some (.slice A4 x.f4.length c4) := (blk_cell BK.out 4).trans rfl
 have e1 : wrap64 (((L + 1 : Nat) : Int) - 1) = (L : Int) := by rw [w64 (by omega) (by omega)]; omega
 have HW1 := Aside0.mk (show Below w0.heap.size w0 (w5.setCell ⟨g, 0, none⟩ (.int .i64 (L : Int))) from (below_then HB.out HB.out.size HW.out).setCell HI.out.2 _)
 have HK1 := Aside0.mk (show KeepBut w (w5.setCell ⟨g, 0, none⟩ (.int .i64 (L : Int))) g none from (KeepBut.of_below HW.out g none).set_ 0 _)
 have bg : (w5.setCell ⟨g, 0, none⟩ (.int .i64 (L : Int))).heap[gb]? = some (.cells #[.int .i64 x.f0, .int .i64 x.f1, .string x.f2, .slice A3 x.f3.length c3, .slice A4 x.f4.length c4] 25 (0, 0)) := (KeepBut.set_ (KeepBut.refl w5 g none) 0 _).blk BK.out hne (by simp)
 have BG := Aside0.mk bg
 have HIL := Aside0.mk (show IsC w0 (w5.setCell ⟨g, 0, none⟩ (.int .i64 (L : Int))) g (L : Int) from ⟨by rw [blk_set HI5.out 0 _]; rfl, HI.out.2⟩)
 clear bg
 have ho2 : ((op : Int) == 16) = false := by simp; omega
 have hmm : decide (L < x.f4.length) = false := decide_eq_false (by omega)
 have hmm2 : decide ((L : Int) < (x.f4.length : Int)) = false := decide_eq_false (by omega)
 go_wp2_with (go_at_call 50; go_loud (with_reducible refine (qplain_is x.f0 x.f1 x.f2 _ _ x.f3 _ _ x.f4 true _ (HG.out.below HW1.out) HP.out).mono ?_); rintro e w2 ⟨rfl, hb⟩; have d0 : w2.cell? ⟨gb, 0, none⟩ = some (.int .i64 x.f0) := (blk_cell ((hb.block gb (blk_lt BG.out)).trans BG.out) 0).trans rfl; have d3 : w2.cell? ⟨gb, 3, none⟩ = some (.slice A3 x.f3.length c3) := (blk_cell ((hb.block gb (blk_lt BG.out)).trans BG.out) 3).trans rfl; have d4 : w2.cell? ⟨gb, 4, none⟩ = some (.slice A4 x.f4.length c4) := (blk_cell ((hb.block gb (blk_lt BG.out)).trans BG.out) 4).trans rfl; have p0 : w2.cell? ⟨g, 0, none⟩ = some (.int .i64 (L : Int)) := (blk_cell ((hb.block g (blk_lt HIL.out.1)).trans HIL.out.1) 0).trans rfl; have HW2 := Aside0.mk hb; clear hb)
 go_quiet (fail)
 go_wp2_with fail
 go_loopg [46] x.f3.length (fun gk i wr => ∃ k : Nat, k ≤ x.f3.length ∧ i = .int .i64 k ∧ Aside0 (Below w2.heap.size w2 wr ∧ (∀ j, j < k → goodN x.f3 j) ∧ k + gk = x.f3.length))
 case atStart => exact ⟨0, by omega, rfl, ⟨pw_below_drewN (Below.refl _ _) _, fun j hj => by omega, by omega⟩⟩
 case round =>
  obtain ⟨k, hk, rfl, HXD⟩ := hrel
  by_cases hlt : k < x.f3.length
  ·have HZ := Aside0.mk (show Below w0.heap.size w0 wr from below_then (below_then HW1.out HW1.out.size HW2.out) (below_then HW1.out HW1.out.size HW2.out).size HXD.out.1)
   have d3r : wr.cell? ⟨gb, 3, none⟩ = some (.slice A3 x.f3.length c3) := (blk_cell ((HXD.out.1.block gb (blk_lt ((HW2.out.block gb (blk_lt BG.out)).trans BG.out))).trans ((HW2.out.block gb (blk_lt BG.out)).trans BG.out)) 3).trans rfl
   obtain ⟨ad, rfl, q0⟩ := Kd.at_string (Kd.C_below H3.out HZ.out) (k : Int) (by omega) (by omega)
   rw [Int.toNat_natCast] at q0
   obtain ⟨s, hs⟩ : ∃ s, s = rdOf ByteArray.empty x.f3 (k : Int) := ⟨_, rfl⟩
   rw [← hs] at q0
   have hsz : s.size ≤ 140737488351232 := by
    rw [hs]
    unfold rdOf
    rw [Int.toNat_natCast, List.getD_eq_getElem?_getD, List.getElem?_eq_getElem hlt]
    exact HXS.out _ (List.getElem_mem hlt)
   obtain ⟨K, hK⟩ := name_ev s hsz
   have HNK := Aside0.mk (hK K (Nat.le_refl _))
   have HS := Aside0.mk hs
   clear hs hK hsz
   obtain ⟨bn, hbn⟩ : ∃ b, b = namedS true (B s) := ⟨_, rfl⟩
   have HNK := Aside0.mk (show chars_Name.f K s = some bn by rw [hbn]; exact HNK.out)
   have HBN := Aside0.mk hbn
   clear hbn
   cases bn with
   | false =>
    exfalso
    have h := HBN.out
    rw [HS.out, get_rdOf] at h
    exact absurd (h.trans (HGOOD.out k hlt).1) (by decide)
   | true =>
    have HNM := Aside0.mk (show namedS true (x.f3.getD k em).data.toList = true by have h := HBN.out; rw [HS.out] at h; exact h.symm)
    by_cases hk0 : k = 0
    ·subst hk0
     rw [Addr.add_zero'] at q0
     go_wp2_with (go_at_call 51; go_loud (with_reducible refine (chars_Name.calls K s true _ (HG.out.below HZ.out) HNK.out).mono ?_); rintro e w3 ⟨rfl, hd⟩; have HD3 := Aside0.mk hd.below; clear hd)
     go_roundg (x.f3.length - 1)
     case measure => have := HXD.out.2.2; omega
     case rel => exact ⟨1, by omega, by go_num, ⟨below_then HXD.out.1 HXD.out.1.size HD3.out, fun j hj => by
      obtain rfl : j = 0 := by omega
      exact ⟨HNM.out, fun h => absurd h (by omega)⟩, by omega⟩⟩
    ·have hk1 : 0 < k := by omega
     have hk2 : k ≤ 140737488351232 := by omega
     obtain ⟨ad', hade, q1⟩ := Kd.at_string (Kd.C_below H3.out HZ.out) ((k - 1 : Nat) : Int) (by omega) (by omega)
     injection hade with hade
     subst hade
     rw [Int.toNat_natCast] at q1
     obtain ⟨s', hs'⟩ : ∃ s', s' = rdOf ByteArray.empty x.f3 ((k - 1 : Nat) : Int) := ⟨_, rfl⟩
     rw [← hs'] at q1
     have HS' := Aside0.mk hs'
     clear hs'
     go_wp2_with (go_at_call 51; go_loud (with_reducible refine (chars_Name.calls K s true _ (HG.out.below HZ.out) HNK.out).mono ?_); rintro e w3 ⟨rfl, hd⟩; have q2 := pw_cell_below hd.below q1; have d3s := pw_cell_below hd.below d3r; have HD3 := Aside0.mk hd.below; clear hd)
     ·exfalso
      have hq : (!Op.bytesLess s'.toList s.toList) = true := by assumption
      have h := (HGOOD.out k hlt).2 hk1
      rw [toList_B, toList_B, HS.out, HS'.out, get_rdOf, get_rdOf] at hq
      rw [show Op.bytesLess (B (x.f3.getD (k - 1) em)) (B (x.f3.getD k em)) = true from h] at hq
      exact absurd hq (by decide)
     ·have hq : (!Op.bytesLess s'.toList s.toList) = false := by assumption
      have HQ := Aside0.mk hq
      clear hq
      go_roundg (gk - 1)
      case measure => have := HXD.out.2.2; omega
      case rel => exact ⟨k + 1, by omega, by go_num, ⟨below_then HXD.out.1 HXD.out.1.size HD3.out, fun j hj => by
       by_cases hjk : j = k
       ·subst hjk
        have h := HQ.out
        rw [toList_B, toList_B, HS.out, HS'.out, get_rdOf, get_rdOf] at h
        exact ⟨HNM.out, fun _ => by simpa using h⟩
       ·exact HXD.out.2.1 j (by omega), by have := HXD.out.2.2; omega⟩⟩
  ·have HZ := Aside0.mk (show Below w0.heap.size w0 wr from below_then (below_then HW1.out HW1.out.size HW2.out) (below_then HW1.out HW1.out.size HW2.out).size HXD.out.1)
   have d4r : wr.cell? ⟨gb, 4, none⟩ = some (.slice A4 x.f4.length c4) := (blk_cell ((HXD.out.1.block gb (blk_lt ((HW2.out.block gb (blk_lt BG.out)).trans BG.out))).trans ((HW2.out.block gb (blk_lt BG.out)).trans BG.out)) 4).trans rfl
   have HK3 := Aside0.mk (HK1.out.trans (KeepBut.of_below (below_then HW2.out HW2.out.size HXD.out.1) g none) (.inl rfl))
   have HI3 := Aside0.mk (show IsC w0 wr g (L : Int) from ⟨(HXD.out.1.block g (blk_lt ((HW2.out.block g (blk_lt HIL.out.1)).trans HIL.out.1))).trans ((HW2.out.block g (blk_lt HIL.out.1)).trans HIL.out.1), HIL.out.2⟩)
   go_wp2_with fail
   go_loopg [72] x.f4.length (fun gq i wq => ∃ q : Nat, q ≤ x.f4.length ∧ i = .int .i64 q ∧ Aside0 (q + gq = x.f4.length ∧ ∃ r : Nat, weighL (x.f4.take q) L (op + 1) = some r ∧ r ≤ 2000 ∧ IsC w0 wq g r ∧ Below w0.heap.size w0 wq ∧ KeepBut w wq g none))
   case atStart => exact ⟨0, by omega, rfl, ⟨by omega, L, by rw [List.take_zero, weighL], by omega, HI3.out, HZ.out, HK3.out⟩⟩
   case round =>
    obtain ⟨q, hq, rfl, HQ⟩ := hrel
    obtain ⟨hqn, r, hr⟩ := HQ.out
    have HR := Aside0.mk hr
    have HN := Aside0.mk hqn
    clear HQ hqn hr
    by_cases hqlt : q < x.f4.length
    ·obtain ⟨ad, A3q, c3q, A4q, c4q, rfl, a0, a1, a2, a3, a4, hl3, hC3, hl4, hC4⟩ := at_T25 H4.out (q : Int) (by omega) (by omega)
     rw [Int.toNat_natCast] at a0 a1 a2 a3 a4
     replace a0 := pw_cell_below HR.out.2.2.2.1 a0
     replace a1 := pw_cell_below HR.out.2.2.2.1 a1
     replace a2 := pw_cell_below HR.out.2.2.2.1 a2
     replace a3 := pw_cell_below HR.out.2.2.2.1 a3
     replace a4 := pw_cell_below HR.out.2.2.2.1 a4
     obtain ⟨y, hy⟩ : ∃ y, y = rd_T25 x.f4 (q : Int) := ⟨_, rfl⟩
     rw [← hy] at a0 a1 a2 a3 a4 hl3 hC3 hl4 hC4
     have HY := Aside0.mk (rd_take x.f4 q hqlt)
     rw [← hy] at HY
     clear hy
     have HB4 := Aside0.mk (below_alloc HR.out.2.2.2.1 (.cells #[.int .i64 y.f0, .int .i64 y.f1, .string y.f2, .slice A3q y.f3.length c3q, .slice A4q y.f4.length c4q] 25))
     have HI4 := Aside0.mk (show IsC w0 (wr.alloc (.cells #[.int .i64 y.f0, .int .i64 y.f1, .string y.f2, .slice A3q y.f3.length c3q, .slice A4q y.f4.length c4q] 25)) g r from ⟨((below_alloc (Below.refl _ _) _).block g (blk_lt HR.out.2.2.1.1)).trans HR.out.2.2.1.1, HR.out.2.2.1.2⟩)
     have HK4 := Aside0.mk (HR.out.2.2.2.2.trans (KeepBut.of_below (below_alloc (Below.refl _ _) (.cells #[.int .i64 y.f0, .int .i64 y.f1, .string y.f2, .slice A3q y.f3.length c3q, .slice A4q y.f4.length c4q] 25)) g none) (.inl rfl))
     have CY := Aside0.mk (IH.out y HY.out.1 r (op + 1) HR.out.2.1 (by omega) g w0 _ HG.out A3q c3q A4q c4q hl3 hC3 hl4 hC4 HI4.out HB4.out)
     clear hl3 hC3 hl4 hC4
     have hop : ((op + 1 : Nat) : Int) = (op : Int) + 1 := by omega
     rw [hop] at CY
     clear hop
     have HWL := Aside0.mk (show weighL x.f4 L (op + 1) = (match weighD y r (op + 1) with | none => none | some r' => weighL (x.f4.drop (q + 1)) r' (op + 1)) by
      conv => lhs; rw [HY.out.2.2]
      rw [weighL_append, HR.out.1]
      show weighL (y :: x.f4.drop (q + 1)) r (op + 1) = _
      rw [weighL]
      try (cases weighD y r (op + 1) <;> rfl))
     have HWT := Aside0.mk (show weighL (x.f4.take (q + 1)) L (op + 1) = weighD y r (op + 1) by
      rw [HY.out.2.1, weighL_append, HR.out.1]
      show weighL [y] r (op + 1) = _
      rw [weighL]
      try (cases weighD y r (op + 1) <;> simp [weighL]))
     have HLE := Aside0.mk (fun q' (h : weighD y r (op + 1) = some q') => weighD_le y r (op + 1) q' h)
     cases hwd : weighD y r (op + 1) with
     | none =>
      rw [hwd] at CY HWL
      clear hwd
      have HWN := Aside0.mk (show weighL x.f4 L (op + 1) = none from HWL.out)
      rw [HWN.out]
      go_wp2_with (go_at_call 28; go_loud (with_reducible refine CY.out.mono ?_); rintro e w4 ⟨hb4, hk4, rfl⟩; have HBZ := Aside0.mk hb4; have HKZ := Aside0.mk hk4; clear hb4 hk4)
      go_ret
      exact ⟨HBZ.out, HK4.out.trans HKZ.out (.inl rfl), rfl⟩
     | some r' =>
      rw [hwd] at CY HWT
      have HLE' := Aside0.mk (HLE.out r' hwd)
      clear hwd
      go_wp2_with (go_at_call 28; go_loud (with_reducible refine CY.out.mono ?_); rintro e w4 ⟨hb4, hk4, rfl, hi4⟩; have HBZ := Aside0.mk hb4; have HKZ := Aside0.mk hk4; have HIZ := Aside0.mk hi4; clear hb4 hk4 hi4)
      go_roundg (gk - 1)
      case measure => have := HN.out; omega
      case rel => exact ⟨q + 1, by omega, by go_num, ⟨by have := HN.out; omega, r', HWT.out, by have := HLE'.out; have := HR.out.2.1; omega, HIZ.out, HBZ.out, HK4.out.trans HKZ.out (.inl rfl)⟩⟩
    ·go_wp2_with fail
     go_ret
     have hx2 : x.f4.take q = x.f4 := List.take_of_length_le (by omega)
     have h := HR.out
     rw [hx2] at h
     rw [h.1]
     exact ⟨h.2.2.2.1, h.2.2.2.2, rfl, h.2.2.1⟩
end Go.Proofs.YtidcecpbihmloaaGreatDoorE

namespace Go.Proofs.YtidcecpbihmloaaGreatDoorE
open Go Go.RowKit Go.Proofs.YtidcecpbihmloaaGreatDoorW.PrintWords Go.Proofs.YtidcecpbihmloaaGreatDoorX Go.Proofs.YtidcecpbihmloaaGreatDoor.P16 Go.Proofs.YtidcecpbihmloaaGreatDoor.M02
set_option linter.unusedVariables false
set_option linter.unusedSimpArgs false
theorem weighD_eq (x : DT) (L op : Nat) : weighD x (L + 1) op = if plainD x = false ∨ (x.f0 > 3 ∧ op = 16) ∨ namesD x.f3 = false then none else weighL x.f4 L (op + 1) := by
 rcases x with ⟨a, b, c, ns, l⟩
 rw [weighD]
 simp only [Nat.add_sub_cancel, Nat.succ_ne_zero, false_or]
theorem right_c (x : DT) (hx : OkD x) : rightC x := by
 induction hx with
 | mk x h0 h1 h2 n3 h3 n4 h4 ih =>
  have hx : OkD x := .mk x h0 h1 h2 n3 h3 n4 h4
  intro L op hL ho g w0 w hgl A3 c3 A4 c4 l3 g3 l4 g4 hI hB
  cases L with
  | zero =>
   have e : weighD x 0 op = none := by rcases x with ⟨a, b, c, ns, l⟩; rw [weighD, if_pos (.inl rfl)]
   rw [e]
   exact right_zero x op g w0 w A3 c3 A4 c4 hI hB
  | succ L =>
   rw [weighD_eq]
   by_cases hp : plainD x = true
   ·by_cases hk : x.f0 < 4
    ·have hl : x.f3 = [] ∧ x.f4 = [] := by
      rcases x with ⟨a, b, c, ns, l⟩
      rcases plain_cases hp with ⟨_, _, _, h3, h4⟩ | ⟨_, _, _, h3, h4⟩ | ⟨_, _, h3, h4⟩ | ⟨_, _, h3, h4, _⟩ | ⟨ha, _⟩ | ⟨ha, _⟩
      ·exact ⟨h3, h4⟩
      ·exact ⟨h3, h4⟩
      ·exact ⟨h3, h4⟩
      ·exact ⟨h3, h4⟩
      ·exact absurd hk (by simp only [ha]; decide)
      ·exact absurd hk (by simp only [ha]; decide)
     rw [if_neg (by rw [hp, hl.1]; simp [namesD]; omega), hl.2, weighL]
     exact right_leaf x hx hp hk L op (by omega) g w0 w hgl A3 c3 A4 c4 l3 g3 l4 g4 hI hB
    ·by_cases hm : op = 16 ∨ L < x.f4.length
     ·have e : (if plainD x = false ∨ (x.f0 > 3 ∧ op = 16) ∨ namesD x.f3 = false then none else weighL x.f4 L (op + 1)) = none := by
       rcases hm with h | h
       ·rw [if_pos (.inr (.inl ⟨by omega, h⟩))]
       ·rw [weighL_many h]; split <;> rfl
      rw [e]
      exact right_much x hx hp hk L op (by omega) hm g w0 w hgl A3 c3 A4 c4 l3 g3 l4 g4 hI hB
     ·by_cases hn : namesD x.f3 = true
      ·rw [if_neg (by rw [hp, hn]; simp; omega)]
       exact right_kids x hx hp hk L op (by omega) (by omega) (by omega) ((namesD_good x.f3).1 hn) ih g w0 w hgl A3 c3 A4 c4 l3 g3 l4 g4 hI hB
      ·rw [if_pos (.inr (.inr (by simpa using hn)))]
       refine right_names x hx hp hk L op (by omega) (by omega) (by omega) ?_ g w0 w hgl A3 c3 A4 c4 l3 g3 l4 g4 hI hB
       have h := mt (namesD_good x.f3).2 hn
       simp only [Classical.not_forall] at h
       obtain ⟨j, hj, hb⟩ := h
       exact ⟨j, hj, hb⟩
   ·rw [if_pos (.inl (by simpa using hp))]
    exact right_bad x hx (by simpa using hp) L op (by omega) g w0 w hgl A3 c3 A4 c4 l3 g3 l4 g4 hI hB
set_option maxHeartbeats 4000000 in
set_option maxRecDepth 100000 in
theorem Right_c (x : DT) (hx : OkD x) (w : World) (hgl : GL w) (A3 : Option Addr) (c3 : Nat) (A4 : Option Addr) (c4 : Nat) (l3 : x.f3.length ≤ c3) (g3 : Kd.string.C w A3 x.f3.length x.f3) (l4 : x.f4.length ≤ c4) (g4 : k25.C w A4 x.f4.length x.f4) :
  Calls Tryz.prog 15 #[aggD x A3 c3 A4 c4] w fun e w' => e = .returned (.bool (rightD x)) ∧ Below w.heap.size w w' := by
 have HC := Aside0.mk (right_c x hx 2000 0 (by omega) (by omega))
 have HG := Aside0.mk hgl
 have H3 := Aside0.mk g3
 have H4 := Aside0.mk g4
 clear hgl g3 g4 hx
 have HB := Aside0.mk (below_alloc (below_alloc (Below.refl w.heap.size w) (.cells #[.int .i64 x.f0, .int .i64 x.f1, .string x.f2, .slice A3 x.f3.length c3, .slice A4 x.f4.length c4] 25)) (.cells #[.int .i64 2000] 58))
 have HI := Aside0.mk (show IsC w ((w.alloc (.cells #[.int .i64 x.f0, .int .i64 x.f1, .string x.f2, .slice A3 x.f3.length c3, .slice A4 x.f4.length c4] 25)).alloc (.cells #[.int .i64 2000] 58)) (w.heap.size + 1) ((2000 : Nat) : Int) from ⟨by
  have h := heap_alloc_new (w.alloc (.cells #[.int .i64 x.f0, .int .i64 x.f1, .string x.f2, .slice A3 x.f3.length c3, .slice A4 x.f4.length c4] 25)) (.cells #[.int .i64 2000] 58)
  rw [show (w.alloc (.cells #[.int .i64 x.f0, .int .i64 x.f1, .string x.f2, .slice A3 x.f3.length c3, .slice A4 x.f4.length c4] 25)).heap.size = w.heap.size + 1 by simp] at h
  exact h, by omega⟩)
 have CR := Aside0.mk (HC.out (w.heap.size + 1) w _ HG.out A3 c3 A4 c4 l3 H3.out l4 H4.out HI.out HB.out)
 rw [show ((0 : Nat) : Int) = 0 from rfl] at CR
 unfold rightD
 cases hwd : weighD x 2000 0 with
 | none =>
  rw [hwd] at CR
  clear hwd
  go_enter Tryz.func15, Tryz.ntmps15
  go_wp2_with (go_at_call 28; go_loud (with_reducible refine CR.out.mono ?_); rintro e w4 ⟨hb4, hk4, rfl⟩; have HBZ := Aside0.mk hb4; clear hb4 hk4)
  go_ret
  exact ⟨rfl, HBZ.out⟩
 | some r =>
  rw [hwd] at CR
  clear hwd
  go_enter Tryz.func15, Tryz.ntmps15
  go_wp2_with (go_at_call 28; go_loud (with_reducible refine CR.out.mono ?_); rintro e w4 ⟨hb4, hk4, rfl, hi4⟩; have HBZ := Aside0.mk hb4; clear hb4 hk4 hi4)
  go_ret
  exact ⟨rfl, HBZ.out⟩
end Go.Proofs.YtidcecpbihmloaaGreatDoorE

namespace Go.Proofs.YtidcecpbihmloaaGreatDoor.K06
open Go Go.RowKit Go.Proofs.YtidcecpbihmloaaGreatDoor.P16 Go.Proofs.YtidcecpbihmloaaGreatDoorE Go.Proofs.YtidcecpbihmloaaGreatDoor.M02 Go.Proofs.YtidcecpbihmloaaGreatDoorW.PrintWords Go.Proofs.YtidcecpbihmloaaGreatDoorW.PrintLast Go.Proofs.YtidcecpbihmloaaGreatDoorW.PrintMore
set_option linter.unusedVariables false
set_option linter.unusedSimpArgs false
theorem B_extract (s : ByteArray) (i j : Nat) : B (s.extract i j) = ((B s).drop i).take (j - i) := by
 simp [B, List.take_drop, ByteArray.data_extract]
def isDig (c : UInt8) : Bool := decide (48 ≤ c.toNat ∧ c.toNat ≤ 57)
def dv (v : Nat) : List UInt8 → Nat
 | [] => v
 | c :: t => dv (v * 10 + (c.toNat - 48)) t
section
variable (s t : ByteArray) (below : Bool)
end

theorem decimal_f (n : Int) (h0 : -9223372036854775808 ≤ n) (h1 : n ≤ 9223372036854775807) : chars_Decimal.f n = some (mkS (Lib.itoa n)) := by
 unfold chars_Decimal.f strconv_Itoa.f; rw [if_pos ⟨h0, h1⟩]; rfl
end Go.Proofs.YtidcecpbihmloaaGreatDoor.K06

namespace Go.Proofs.YtidcecpbihmloaaGreatDoorE
open Go Go.RowKit Go.Proofs.YtidcecpbihmloaaGreatDoorW.PrintWords Go.Proofs.YtidcecpbihmloaaGreatDoorX Go.Proofs.YtidcecpbihmloaaGreatDoor.P16 Go.Proofs.YtidcecpbihmloaaGreatDoor.M02
set_option linter.unusedVariables false
set_option linter.unusedSimpArgs false
/-- A byte comes at a place. -/
def nxt (s : ByteArray) (a : Nat) (c : UInt8) : Bool := ((B s).drop a).head? == some c
theorem nxt_end {s : ByteArray} {a : Nat} (c : UInt8) (h : s.size ≤ a) : nxt s a c = false := by
 unfold nxt
 rw [List.drop_of_length_le (by rw [B_len]; exact h)]
 rfl
theorem bt_nxt {s : ByteArray} {a : Nat} (c : UInt8) (h : a < s.size) : (bt s (a : Int) == (c.toNat : Int)) = nxt s a c := by
 have hl : a < (B s).length := by rw [B_len]; exact h
 unfold nxt
 rw [bt_nat hl, List.drop_eq_getElem_cons hl, List.head?_cons, Bool.eq_iff_iff, beq_iff_eq, beq_iff_eq]
 constructor
 ·intro e
  have h2 : (B s)[a] = c := UInt8.toNat_inj.1 (by omega)
  rw [h2]
 ·intro e
  injection e with e
  rw [e]
theorem bt_nxt' {s : ByteArray} {a : Nat} (c : UInt8) (h : a < s.size) : (bt s (a : Int) = (c.toNat : Int)) ↔ nxt s a c = true := by
 rw [← bt_nxt c h, beq_iff_eq]
theorem take_len {α : Type} (p : α → Bool) (l : List α) : l.takeWhile p = l.take (l.takeWhile p).length := by
 conv => rhs; arg 2; rw [← List.takeWhile_append_dropWhile (p := p) (l := l)]
 rw [List.take_left]
theorem drop_len {α : Type} (p : α → Bool) (l : List α) : l.dropWhile p = l.drop (l.takeWhile p).length := by
 conv => rhs; arg 2; rw [← List.takeWhile_append_dropWhile (p := p) (l := l)]
 rw [List.drop_left]
theorem tw_le {α : Type} (p : α → Bool) (l : List α) : (l.takeWhile p).length ≤ l.length := (List.takeWhile_sublist p).length_le
end Go.Proofs.YtidcecpbihmloaaGreatDoorE

namespace Go.Proofs.YtidcecpbihmloaaGreatDoorE
open Go Go.RowKit Go.Proofs.YtidcecpbihmloaaGreatDoorW.PrintWords Go.Proofs.YtidcecpbihmloaaGreatDoorW.PrintMore Go.Proofs.YtidcecpbihmloaaGreatDoorW.PrintLast Go.Proofs.YtidcecpbihmloaaGreatDoorX Go.Proofs.YtidcecpbihmloaaGreatDoor.P16 Go.Proofs.YtidcecpbihmloaaGreatDoor.M02
set_option linter.unusedVariables false
set_option linter.unusedSimpArgs false
theorem cell_blk {w : World} {b j : Nat} {cs : Array Value} {T : TypeId} {fz : Nat × Nat} {v : Value} (h : w.heap[b]? = some (.cells cs T fz)) (hv : cs[j]? = some v) : w.cell? ⟨b, j, none⟩ = some v := by
 rw [Lib.cell_of_heap h]; exact hv
theorem two_old_ (w : World) (a b : Obj) : ((w.alloc a).alloc b).heap[w.heap.size]? = some a := by
 rw [(below_alloc (Below.refl (w.alloc a).heap.size (w.alloc a)) b).block _ (by simp)]
 exact heap_alloc_new w a
theorem two_new_ (w : World) (a b : Obj) : ((w.alloc a).alloc b).heap[w.heap.size + 1]? = some b := by
 have := heap_alloc_new (w.alloc a) b
 simpa using this
theorem then_w {w w1 w2 : World} (h : Below w.heap.size w w1) (k : Below w1.heap.size w1 w2) : Below w.heap.size w w2 := below_then h h.size k
theorem cell_drew {w : World} {a : Addr} {v : Value} (h : w.cell? a = some v) : w.drew.cell? a = some v := h
theorem set_blk {w : World} {p j : Nat} {cs : Array Value} {T : TypeId} {fz : Nat × Nat} (h : w.heap[p]? = some (.cells cs T fz)) (v : Value) : (w.setCell ⟨p, j, none⟩ v).heap[p]? = some (.cells (cs.setIfInBounds j v) T fz) := by
 simp [World.setCell, Array.getElem?_modify, h]
theorem w_wrap (x : Int) : IntKind.i64.wrap x = wrap64 x := Go.Proofs.YtidcecpbihmloaaGreatDoorW.PrintLast.i64_w x
theorem wrap_in {x : Int} (h0 : -9223372036854775808 ≤ x) (h1 : x ≤ 9223372036854775807) : IntKind.i64.wrap x = x := by rw [w_wrap, w64 h0 h1]
abbrev zCells : Array Value := #[.int .i64 0, .int .i64 0, .string ⟨#[]⟩, .slice none 0 0, .slice none 0 0]
abbrev dCells (x : DT) (v3 v4 : Value) : List Value := [.int .i64 x.f0, .int .i64 x.f1, .string x.f2, v3, v4]
/-- A piece that is being made: its fields in block b, its rows made behind it, apart from one another. -/
structure DL (b : Nat) (x : DT) (v3 v4 : Value) (w : World) : Prop where
 blk : w.heap[b]? = some (.cells #[.int .i64 x.f0, .int .i64 x.f1, .string x.f2, v3, v4] 25 (0, 0))
 r3 : Kd.string.R 9 w (b + 1) (fun k => b < k) v3 x.f3
 r4 : k25.R 25 w (b + 1) (fun k => b < k ∧ some k ≠ v3.ownBlock) v4 x.f4
namespace DL
variable {b : Nat} {x : DT} {v3 v4 : Value} {w w1 : World}
theorem lt (h : DL b x v3 v4 w) : b < w.heap.size := blk_lt h.blk
theorem keep (h : DL b x v3 v4 w) {g : Nat} (hk : KeepBut w w1 g none) (hg : g < b) : DL b x v3 v4 w1 :=
 ⟨hk.blk h.blk (by omega) (by simp), Kd.R_keep h.r3 hk (fun k hk => by omega), Kd.R_keep h.r4 hk (fun k hk => by have := hk.1; omega)⟩
theorem below (h : DL b x v3 v4 w) (hb : Below w.heap.size w w1) : DL b x v3 v4 w1 :=
 ⟨(hb.block b h.lt).trans h.blk, Kd.R_below h.r3 hb, Kd.R_below h.r4 hb⟩
theorem far (h : DL b x v3 v4 w) {p : Addr} (hp : p.block < b) (u : Value) : DL b x v3 v4 (w.setCell p u) :=
 ⟨blk_far h.blk (by omega) u, Kd.R_far h.r3 (fun k hk => by omega) u, Kd.R_far h.r4 (fun k hk => by have := hk.1; omega) u⟩
/-- A name has been appended, and stored. -/
theorem name (h : DL b x v3 v4 w) {n : ByteArray} {u : Value} (hr : Kd.string.R 9 w1 (b + 1) (fun k => b < k) u (x.f3 ++ [n])) (hg : w.grownBy w1 v3.ownBlock) (hat : u.ownBlock = v3.ownBlock ∨ ∃ q, u.ownBlock = some q ∧ w.heap.size ≤ q) :
  DL b ⟨x.f0, x.f1, x.f2, x.f3 ++ [n], x.f4⟩ u v4 (w1.setCell ⟨b, 3, none⟩ u) := by
 have hb : w1.heap[b]? = some (.cells #[.int .i64 x.f0, .int .i64 x.f1, .string x.f2, v3, v4] 25 (0, 0)) := by
  refine blk_grown h.blk hg (fun e => ?_)
  have := h.r3.1 b e.symm
  omega
 have h4 := Kd.R_after (v := v3) (v1 := u) h.r4 hg hat
 exact ⟨by rw [set_blk hb]; rfl, Kd.R_far hr (p := ⟨b, 3, none⟩) (fun k hk => by show k ≠ b; omega) u, Kd.R_far h4 (p := ⟨b, 3, none⟩) (fun k hk => by show k ≠ b; have := hk.1; omega) u⟩
/-- A piece has been appended, and stored. -/
theorem piece (h : DL b x v3 v4 w) {d : DT} {u : Value} (hr : k25.R 25 w1 (b + 1) (fun k => b < k ∧ some k ≠ v3.ownBlock) u (x.f4 ++ [d])) (hg : w.grownBy w1 v4.ownBlock) :
  DL b ⟨x.f0, x.f1, x.f2, x.f3, x.f4 ++ [d]⟩ v3 u (w1.setCell ⟨b, 4, none⟩ u) := by
 have hb : w1.heap[b]? = some (.cells #[.int .i64 x.f0, .int .i64 x.f1, .string x.f2, v3, v4] 25 (0, 0)) := by
  refine blk_grown h.blk hg (fun e => ?_)
  have := (h.r4.1 b e.symm).1
  omega
 have h3 : Kd.string.R 9 w1 (b + 1) (fun k => b < k ∧ some k = v3.ownBlock) v3 x.f3 := by
  refine Kd.R_grown (Kd.R_mono (ok := fun k => b < k ∧ some k = v3.ownBlock) ?_ (fun _ h => h)) hg (fun k hk e => ?_)
  ·exact ⟨fun k hk => ⟨h.r3.1 k hk, hk.symm⟩, h.r3.2.imp_ (fun _ _ hp => hp)⟩
  ·exact (h.r4.1 k e.symm).2 hk.2
 exact ⟨by rw [set_blk hb]; rfl, Kd.R_far (Kd.R_mono h3 (fun _ h => h.1)) (p := ⟨b, 4, none⟩) (fun k hk => by show k ≠ b; omega) u, Kd.R_far hr (p := ⟨b, 4, none⟩) (fun k hk => by show k ≠ b; have := hk.1; omega) u⟩
/-- What has been made reads as a piece of one's own. -/
theorem made (h : DL b x v3 v4 w) {base : Nat} (hb : base ≤ b + 1) : k25.M w base (fun _ => True) x (dCells x v3 v4) :=
 k25_mkM w base _ x (Kd.R_mono (Kd.R_lower h.r3 hb) (fun _ _ => trivial)) (Kd.R_mono (Kd.R_lower h.r4 hb) (fun _ _ => trivial))
theorem new (w : World) (k n : Int) (t : ByteArray) (hb : w.heap[b]? = some (.cells #[.int .i64 k, .int .i64 n, .string t, .slice none 0 0, .slice none 0 0] 25 (0, 0))) : DL b ⟨k, n, t, [], []⟩ (.slice none 0 0) (.slice none 0 0) w :=
 ⟨hb, Kd.R_nil _ _ _ _ _, Kd.R_nil _ _ _ _ _⟩
end DL
end Go.Proofs.YtidcecpbihmloaaGreatDoorE

namespace Go.Proofs.YtidcecpbihmloaaGreatDoor.K05
open Go Go.RowKit Go.Proofs.YtidcecpbihmloaaGreatDoor.P16 Go.Proofs.YtidcecpbihmloaaGreatDoorE Go.Proofs.YtidcecpbihmloaaGreatDoor.L03 Go.Proofs.YtidcecpbihmloaaGreatDoor.K03 Go.Proofs.YtidcecpbihmloaaGreatDoor.K04 Go.Proofs.YtidcecpbihmloaaGreatDoorW.PrintWords Go.Proofs.YtidcecpbihmloaaGreatDoorW.PrintLast Go.Proofs.YtidcecpbihmloaaGreatDoorW.PrintMore
set_option linter.unusedVariables false
set_option linter.unusedSimpArgs false
theorem bt_at (s : ByteArray) (i : Nat) (h : i < s.data.toList.length) : bt s (i : Int) = ((s.data.toList[i]'h).toNat : Int) := by
 have hs : i < s.size := by rw [← dlen]; exact h
 unfold bt
 rw [dif_pos (by simpa using hs)]
 simp only [Int.toNat_natCast]
 rfl
theorem stop_le (l : List UInt8) : stopS l ≤ l.length := List.findIdx_le_length
theorem stop_no (l : List UInt8) : Lib.NoAny l Go.Proofs.YtidcecpbihmloaaGreatDoorE.sgn (stopS l) := by
 intro j b hj hb
 obtain ⟨hlt, rfl⟩ := List.getElem?_eq_some_iff.1 hb
 have := List.not_of_lt_findIdx hj
 simpa using this
theorem stop_hit (l : List UInt8) (h : stopS l < l.length) : Go.Proofs.YtidcecpbihmloaaGreatDoorE.sgn.contains (l[stopS l]'h) = true := List.findIdx_getElem (w := h)
theorem any_stop (l : List UInt8) : Lib.indexAny l Go.Proofs.YtidcecpbihmloaaGreatDoorE.sgn = if stopS l < l.length then (stopS l : Int) else -1 := by
 split
 ·rename_i h
  exact Lib.indexAny_hit (stop_no l) (List.getElem?_eq_getElem h) (stop_hit l h)
 ·rename_i h
  exact Lib.indexAny_none (by rw [show l.length = stopS l by have := stop_le l; omega]; exact stop_no l)
theorem any_f (s : ByteArray) (h : s.size ≤ 1000000000) : strings_IndexAny.f s ⟨#[60, 62, 34]⟩ = some (if stopS s.data.toList < s.data.toList.length then (stopS s.data.toList : Int) else -1) := by
 unfold strings_IndexAny.f
 rw [if_pos ⟨by omega, by decide, by decide, by decide⟩]
 congr 1
 exact any_stop _
def spanS (s : ByteArray) (at_ : Int) : Int := if at_ < 0 ∨ at_ ≥ (s.size : Int) then 0 else (stopS (s.data.toList.drop at_.toNat) : Int)
theorem span_ev (s : ByteArray) (h : s.size ≤ 1000000000) (at_ : Int) : Ev (fun k => escape_Span.f k s at_) (spanS s at_) := by
 unfold spanS
 by_cases h0 : at_ < 0
 ·rw [if_pos (.inl h0)]
  refine Ev.congr (f := fun k => escape_Span.j0 k s at_ true) (fun k => by unfold escape_Span.f; rw [if_pos h0]) ?_
  refine Ev.step (f := fun _ => some 0) (fun k => ?_) (Ev.now _)
  simp only [escape_Span.j0, if_true]
 ·by_cases h1 : at_ ≥ (s.size : Int)
  ·rw [if_pos (.inr h1)]
   refine Ev.congr (f := fun k => escape_Span.j0 k s at_ true) (fun k => by unfold escape_Span.f; rw [if_neg h0, decide_eq_true h1]) ?_
   refine Ev.step (f := fun _ => some 0) (fun k => ?_) (Ev.now _)
   simp only [escape_Span.j0, if_true]
  ·rw [if_neg (by omega)]
   obtain ⟨p, rfl⟩ := Int.eq_ofNat_of_zero_le (show 0 ≤ at_ by omega)
   have hx : (s.extract p s.size).data.toList = s.data.toList.drop p := by
    rw [ext_list, List.take_of_length_le (by rw [List.length_drop, dlen]; omega)]
   have hl : (s.data.toList.drop p).length = s.size - p := by rw [List.length_drop, dlen]
   have hxs : (s.extract p s.size).size = s.size - p := by rw [← dlen, hx, hl]
   have hst := stop_le (s.data.toList.drop p)
   refine Ev.congr (f := fun k => escape_Span.j0 k s (p : Int) false) (fun k => by unfold escape_Span.f; rw [if_neg h0, decide_eq_false h1]) ?_
   refine Ev.step (f := fun _ => some (stopS (s.data.toList.drop p) : Int)) (fun k => ?_) (Ev.now _)
   simp only [escape_Span.j0]
   rw [if_neg (by decide), if_pos (by omega), if_pos (by omega), Int.toNat_natCast, any_f _ (by omega), Option.bind_some, hx]
   by_cases h2 : stopS (s.data.toList.drop p) < (s.data.toList.drop p).length
   ·rw [if_pos h2, if_pos (by omega)]
   ·rw [if_neg h2, if_neg (by decide), Go.Proofs.YtidcecpbihmloaaGreatDoor.L03.w64 (by omega) (by omega)]
    congr 1
    omega
theorem cat_str (a b : List UInt8) : (⟨a.toArray⟩ : ByteArray) ++ ⟨b.toArray⟩ = ⟨(a ++ b).toArray⟩ := by
 apply ByteArray.ext
 rw [ByteArray.data_append]
 simp
end Go.Proofs.YtidcecpbihmloaaGreatDoor.K05

namespace Go.Proofs.YtidcecpbihmloaaGreatDoorE
open Go Go.RowKit Go.Proofs.YtidcecpbihmloaaGreatDoorW.PrintWords Go.Proofs.YtidcecpbihmloaaGreatDoorW.PrintMore Go.Proofs.YtidcecpbihmloaaGreatDoorW.PrintLast Go.Proofs.YtidcecpbihmloaaGreatDoorX Go.Proofs.YtidcecpbihmloaaGreatDoor.P16 Go.Proofs.YtidcecpbihmloaaGreatDoor.M02
set_option linter.unusedVariables false
set_option linter.unusedSimpArgs false
set_option maxRecDepth 100000
/-- A piece stored into the block of a call's result. -/
abbrev set5 (W : World) (b : Nat) (v0 v1 v2 v3 v4 : Value) : World := ((((W.setCell ⟨b, 0, none⟩ v0).setCell ⟨b, 1, none⟩ v1).setCell ⟨b, 2, none⟩ v2).setCell ⟨b, 3, none⟩ v3).setCell ⟨b, 4, none⟩ v4
theorem KeepBut.far {w W : World} {g : Nat} (h : KeepBut w W g none) {p : Addr} (hp : w.heap.size ≤ p.block) (u : Value) : KeepBut w (W.setCell p u) g none :=
 ⟨Nat.le_trans h.1 (by simp [World.setCell]), fun i hi hg hr => (Below.heap_setCell W p u i (by omega)).trans (h.2 i hi hg hr)⟩
theorem keep5 {w W : World} {g b : Nat} (h : KeepBut w W g none) (hb : w.heap.size ≤ b) (v0 v1 v2 v3 v4 : Value) : KeepBut w (set5 W b v0 v1 v2 v3 v4) g none :=
 KeepBut.far (KeepBut.far (KeepBut.far (KeepBut.far (KeepBut.far h (p := ⟨b, 0, none⟩) hb v0) (p := ⟨b, 1, none⟩) hb v1) (p := ⟨b, 2, none⟩) hb v2) (p := ⟨b, 3, none⟩) hb v3) (p := ⟨b, 4, none⟩) hb v4
theorem below5 {w W : World} {b : Nat} (h : Below w.heap.size w W) (hb : w.heap.size ≤ b) (v0 v1 v2 v3 v4 : Value) : Below w.heap.size w (set5 W b v0 v1 v2 v3 v4) :=
 ((((h.setCell hb v0).setCell hb v1).setCell hb v2).setCell hb v3).setCell hb v4
theorem made5 {base : Nat} {ok : Nat → Prop} {x : DT} {cs : List Value} {W : World} {b : Nat} (h : k25.M W base ok x cs) (hok : ∀ k, ok k → k ≠ b) (v0 v1 v2 v3 v4 : Value) : k25.M (set5 W b v0 v1 v2 v3 v4) base ok x cs :=
 Kd.M_far (Kd.M_far (Kd.M_far (Kd.M_far (Kd.M_far h (p := ⟨b, 0, none⟩) hok v0) (p := ⟨b, 1, none⟩) hok v1) (p := ⟨b, 2, none⟩) hok v2) (p := ⟨b, 3, none⟩) hok v3) (p := ⟨b, 4, none⟩) hok v4
theorem stop_lt {s : ByteArray} {a : Nat} (h : a ≤ s.size) : a + stopS ((B s).drop a) ≤ s.size := by
 have h1 := Go.Proofs.YtidcecpbihmloaaGreatDoor.K05.stop_le ((B s).drop a)
 rw [List.length_drop, B_len] at h1
 omega
theorem span_nat (s : ByteArray) (a : Nat) : Go.Proofs.YtidcecpbihmloaaGreatDoor.K05.spanS s (a : Int) = (stopS ((B s).drop a) : Int) := by
 unfold Go.Proofs.YtidcecpbihmloaaGreatDoor.K05.spanS
 by_cases h : a < s.size
 ·rw [if_neg (by omega), Int.toNat_natCast]
 ·rw [if_pos (by omega), List.drop_of_length_le (by rw [B_len]; omega)]
  rfl
theorem ext_take (s : ByteArray) (a n : Nat) : (s.extract a (a + n)).data.toList = ((B s).drop a).take n := by
 rw [Go.Proofs.YtidcecpbihmloaaGreatDoor.L03.ext_list, Nat.add_sub_cancel_left]
end Go.Proofs.YtidcecpbihmloaaGreatDoorE

namespace Go.Proofs.YtidcecpbihmloaaGreatDoorE
open Go Go.RowKit Go.Proofs.YtidcecpbihmloaaGreatDoorW.PrintWords Go.Proofs.YtidcecpbihmloaaGreatDoorW.PrintMore Go.Proofs.YtidcecpbihmloaaGreatDoorW.PrintLast Go.Proofs.YtidcecpbihmloaaGreatDoorX Go.Proofs.YtidcecpbihmloaaGreatDoor.P16 Go.Proofs.YtidcecpbihmloaaGreatDoor.M02
set_option linter.unusedVariables false
set_option linter.unusedSimpArgs false
set_option maxRecDepth 100000
def shutB (b : Bool) : UInt8 := if b then 125 else 93
def kindB (b : Bool) : Int := if b then 5 else 4
/-- A list or record behind what opens it. -/
def allS (m : Nat) (s : ByteArray) (a deep : Nat) (b : Bool) : Res DT :=
 if nxt s a (shutB b) = true then .ok ⟨kindB b, 0, em, [], []⟩ (a + 1) ((B s).drop (a + 1)) else membersS m ((B s).drop a) a (deep + 1) b [] []
/-- What stands in memory while a list or record is read. -/
structure LR (w0 w : World) (g : Nat) (x : DT) (v3 v4 : Value) (wr : World) : Prop where
 dl : DL (w.heap.size + 1) x v3 v4 wr
 bel : Below w0.heap.size w0 wr
 keep : KeepBut w wr g none
 res : wr.heap[w.heap.size]? = some (.cells zCells 25 (0, 0))
namespace LR
variable {w0 w : World} {g : Nat} {x : DT} {v3 v4 : Value} {wr w1 : World}
theorem step (h : LR w0 w g x v3 v4 wr) (hg : g < w.heap.size) (hb : Below w0.heap.size w0 w1) (hk : KeepBut wr w1 g none) : LR w0 w g x v3 v4 w1 :=
 ⟨h.dl.keep hk (by omega), hb, h.keep.trans hk (.inl rfl), hk.blk h.res (by omega) (by simp)⟩
theorem below (h : LR w0 w g x v3 v4 wr) (hb : Below wr.heap.size wr w1) : LR w0 w g x v3 v4 w1 :=
 ⟨h.dl.below hb, below_then h.bel h.bel.size hb, h.keep.trans (KeepBut.of_below hb g none) (.inl rfl), (hb.block _ (blk_lt h.res)).trans h.res⟩
theorem set (h : LR w0 w g x v3 v4 wr) (hg : g < w.heap.size) (hg0 : w0.heap.size ≤ g) (j : Nat) (u : Value) : LR w0 w g x v3 v4 (wr.setCell ⟨g, j, none⟩ u) :=
 ⟨h.dl.far (p := ⟨g, j, none⟩) (by show g < _; omega) u, h.bel.setCell (p := ⟨g, j, none⟩) hg0 u, h.keep.set_ j u, blk_far h.res (p := ⟨g, j, none⟩) (by show w.heap.size ≠ g; omega) u⟩
theorem cell (h : LR w0 w g x v3 v4 wr) : wr.cell? ⟨w.heap.size + 1, 0, none⟩ = some (.int .i64 x.f0) ∧ wr.cell? ⟨w.heap.size + 1, 1, none⟩ = some (.int .i64 x.f1) ∧ wr.cell? ⟨w.heap.size + 1, 2, none⟩ = some (.string x.f2) ∧ wr.cell? ⟨w.heap.size + 1, 3, none⟩ = some v3 ∧ wr.cell? ⟨w.heap.size + 1, 4, none⟩ = some v4 :=
 ⟨(blk_cell h.dl.blk 0).trans rfl, (blk_cell h.dl.blk 1).trans rfl, (blk_cell h.dl.blk 2).trans rfl, (blk_cell h.dl.blk 3).trans rfl, (blk_cell h.dl.blk 4).trans rfl⟩
/-- A name appended and stored. -/
theorem name (h : LR w0 w g x v3 v4 wr) (hw : w0.heap.size ≤ w.heap.size) {n : ByteArray} {u : Value} (hr : Kd.string.R 9 w1 (w.heap.size + 1 + 1) (fun k => w.heap.size + 1 < k) u (x.f3 ++ [n])) (hg : wr.grownBy w1 v3.ownBlock) (hat : u.ownBlock = v3.ownBlock ∨ ∃ q, u.ownBlock = some q ∧ wr.heap.size ≤ q) :
  LR w0 w g ⟨x.f0, x.f1, x.f2, x.f3 ++ [n], x.f4⟩ u v4 (w1.setCell ⟨w.heap.size + 1, 3, none⟩ u) := by
 have hne : ∀ k, v3.ownBlock = some k → w.heap.size + 1 < k := fun k hk => h.dl.r3.1 k hk
 refine ⟨h.dl.name hr hg hat, (pw_below_grown h.bel _ h.bel.size hg (fun k hk => by have := hne k hk; omega)).setCell (p := ⟨w.heap.size + 1, 3, none⟩) (by show w0.heap.size ≤ w.heap.size + 1; omega) u, ?_, ?_⟩
 ·have hk1 : KeepBut w w1 g none := ⟨Nat.le_trans h.keep.1 hg.size, fun i hi hgi _ => (hg.block i (Nat.lt_of_lt_of_le hi h.keep.1) (fun e => by have := hne i e.symm; omega)).trans (h.keep.2 i hi hgi (by simp))⟩
  exact KeepBut.far hk1 (p := ⟨w.heap.size + 1, 3, none⟩) (by show w.heap.size ≤ w.heap.size + 1; omega) u
 ·exact blk_far (blk_grown h.res hg (fun e => by have := hne _ e.symm; omega)) (p := ⟨w.heap.size + 1, 3, none⟩) (by show w.heap.size ≠ w.heap.size + 1; omega) u
/-- A piece appended and stored. -/
theorem piece (h : LR w0 w g x v3 v4 wr) (hw : w0.heap.size ≤ w.heap.size) {d : DT} {u : Value} (hr : k25.R 25 w1 (w.heap.size + 1 + 1) (fun k => w.heap.size + 1 < k ∧ some k ≠ v3.ownBlock) u (x.f4 ++ [d])) (hg : wr.grownBy w1 v4.ownBlock) :
  LR w0 w g ⟨x.f0, x.f1, x.f2, x.f3, x.f4 ++ [d]⟩ v3 u (w1.setCell ⟨w.heap.size + 1, 4, none⟩ u) := by
 have hne : ∀ k, v4.ownBlock = some k → w.heap.size + 1 < k := fun k hk => (h.dl.r4.1 k hk).1
 refine ⟨h.dl.piece hr hg, (pw_below_grown h.bel _ h.bel.size hg (fun k hk => by have := hne k hk; omega)).setCell (p := ⟨w.heap.size + 1, 4, none⟩) (by show w0.heap.size ≤ w.heap.size + 1; omega) u, ?_, ?_⟩
 ·have hk1 : KeepBut w w1 g none := ⟨Nat.le_trans h.keep.1 hg.size, fun i hi hgi _ => (hg.block i (Nat.lt_of_lt_of_le hi h.keep.1) (fun e => by have := hne i e.symm; omega)).trans (h.keep.2 i hi hgi (by simp))⟩
  exact KeepBut.far hk1 (p := ⟨w.heap.size + 1, 4, none⟩) (by show w.heap.size ≤ w.heap.size + 1; omega) u
 ·exact blk_far (blk_grown h.res hg (fun e => by have := hne _ e.symm; omega)) (p := ⟨w.heap.size + 1, 4, none⟩) (by show w.heap.size ≠ w.heap.size + 1; omega) u
end LR
/-- An error that stands: Piece hands back an empty piece. -/
theorem info_d : (Tryz.prog.info? 25).map (fun i => (i.zero, i.size, i.bytes)) = some (some (.agg zCells), 5, 80) := by kernel_rfl
theorem info_s : (Tryz.prog.info? 9).map (fun i => (i.zero, i.size, i.bytes)) = some (some (.string ⟨#[]⟩), 1, 16) := by kernel_rfl
end Go.Proofs.YtidcecpbihmloaaGreatDoorE

namespace Go.Proofs.YtidcecpbihmloaaGreatDoorE
open Go Go.RowKit Go.Proofs.YtidcecpbihmloaaGreatDoorW.PrintWords Go.Proofs.YtidcecpbihmloaaGreatDoorX Go.Proofs.YtidcecpbihmloaaGreatDoor.P16 Go.Proofs.YtidcecpbihmloaaGreatDoor.M02
set_option linter.unusedVariables false
set_option linter.unusedSimpArgs false
theorem catB (a b : List UInt8) : mkB a ++ mkB b = mkB (a ++ b) := Go.Proofs.YtidcecpbihmloaaGreatDoor.K05.cat_str a b
/-- What stands in a list or record from a member on. -/
def restS (b : Bool) (i : Nat) (ns : List ByteArray) (l : List DT) : List UInt8 := if i = 0 then printL b ns l else moreL b ns l
theorem restS_cons (b : Bool) (i : Nat) (ns : List ByteArray) (d : DT) (l : List DT) : restS b i ns (d :: l) = ((if i = 0 then [] else [44]) ++ (if b then (ns.headD em).data.toList ++ [61] else [])) ++ (printD d ++ restS b (i + 1) ns.tail l) := by
 have e : restS b (i + 1) ns.tail l = moreL b ns.tail l := if_neg (by omega)
 rw [e]
 unfold restS
 by_cases h : i = 0
 ·rw [if_pos h, if_pos h, printL_cons]; simp
 ·rw [if_neg h, if_neg h]
  show 44 :: printL b ns (d :: l) = _
  rw [printL_cons]; simp
theorem restS_nil (b : Bool) (i : Nat) (ns : List ByteArray) : restS b i ns ([] : List DT) = [] := by
 unfold restS
 split <;> simp [printL, moreL]
theorem head_drop (ns : List ByteArray) (i : Nat) : (ns.drop i).headD em = ns.getD i em := by
 rw [List.headD_eq_head?_getD, List.head?_drop, List.getD_eq_getElem?_getD]
theorem tail_drop (ns : List ByteArray) (i : Nat) : (ns.drop i).tail = ns.drop (i + 1) := by rw [List.tail_drop]
end Go.Proofs.YtidcecpbihmloaaGreatDoorE

namespace Go.Proofs.YtidcecpbihmloaaGreatDoorE
open Go Go.RowKit Go.Proofs.YtidcecpbihmloaaGreatDoorW.PrintWords Go.Proofs.YtidcecpbihmloaaGreatDoorW.PrintMore Go.Proofs.YtidcecpbihmloaaGreatDoorW.PrintLast Go.Proofs.YtidcecpbihmloaaGreatDoorX Go.Proofs.YtidcecpbihmloaaGreatDoor.P16 Go.Proofs.YtidcecpbihmloaaGreatDoor.M02
set_option linter.unusedVariables false
set_option linter.unusedSimpArgs false
set_option maxRecDepth 100000
abbrev IsW (B b : Nat) (out : List UInt8) (w : World) : Prop := Lib.IsBuilderF 53 5 B b (Lib.byteCells out) w
/-- What write says. -/
def writeP (w0 w : World) (b : Nat) (out : List UInt8) (e : Ending) (w' : World) : Prop :=
 e = .returned (.tuple #[]) ∧ IsW w0.heap.size b out w' ∧ Below w0.heap.size w0 w' ∧ Lib.OthersKept 5 (some b) w w'
/-- Where write is called. -/
structure WAt (w0 w : World) (b : Nat) (out : List UInt8) : Prop where
 bld : IsW w0.heap.size b out w
 bel : Below w0.heap.size w0 w
def writeC (x : DT) : Prop := ∀ (left op r : Nat), weighD x left op = some r → ∀ (b : Nat) (out : List UInt8) (w0 w : World), GL w0 → ∀ (A3 : Option Addr) (c3 : Nat) (A4 : Option Addr) (c4 : Nat), x.f3.length ≤ c3 → Kd.string.C w0 A3 x.f3.length x.f3 → x.f4.length ≤ c4 → k25.C w0 A4 x.f4.length x.f4 → out.length + (printD x).length ≤ 2000000000 → WAt w0 w b out →
 Calls Tryz.prog 26 #[.pointer (some ⟨b, 0, none⟩), aggD x A3 c3 A4 c4] w (writeP w0 w b (out ++ printD x))
theorem WAt.below {w0 w w1 : World} {b : Nat} {out : List UInt8} (h : WAt w0 w b out) (hb : Below w.heap.size w w1) : WAt w0 w1 b out := ⟨b_below h.bld hb, below_then h.bel h.bel.size hb⟩
theorem kept_of_below {e : TypeId} {b : Option Nat} {w w1 : World} (hb : Below w.heap.size w w1) : Lib.OthersKept e b w w1 := fun k o hk _ _ => (hb.block k (blk_lt hk)).trans hk
/-- One text, written. -/
theorem wstr_c (w0 w : World) (b : Nat) (out : List UInt8) (t : ByteArray) (h : WAt w0 w b out) (hl : out.length + t.size ≤ 2000000000) :
  Calls Tryz.prog 46 #[.pointer (some ⟨b, 0, none⟩), .string t] w fun e w' => e = .returned (.tuple #[.int .i64 t.size, .nilIface]) ∧ WAt w0 w' b (out ++ t.data.toList) ∧ Lib.OthersKept 5 (some b) w w' := by
 refine (b_string w0.heap.size b out t w h.bld (by omega) h.bel.size).mono ?_
 rintro e w' ⟨rfl, h1, h2, h3⟩
 exact ⟨rfl, ⟨h1, h.bel.trans h2⟩, h3⟩
theorem wbyte_c (w0 w : World) (b : Nat) (out : List UInt8) (c : UInt8) (h : WAt w0 w b out) (hl : out.length + 1 ≤ 2000000000) :
  Calls Tryz.prog 69 #[.pointer (some ⟨b, 0, none⟩), .int .u8 c.toNat] w fun e w' => e = .returned .nilIface ∧ WAt w0 w' b (out ++ [c]) ∧ Lib.OthersKept 5 (some b) w w' := by
 refine (b_byte w0.heap.size b out c w h.bld (by omega) h.bel.size).mono ?_
 rintro e w' ⟨rfl, h1, h2, h3⟩
 exact ⟨rfl, ⟨h1, h.bel.trans h2⟩, h3⟩
abbrev dBox (x : DT) (A3 : Option Addr) (c3 : Nat) (A4 : Option Addr) (c4 : Nat) : Obj := .cells #[.int .i64 x.f0, .int .i64 x.f1, .string x.f2, .slice A3 x.f3.length c3, .slice A4 x.f4.length c4] 25
set_option maxHeartbeats 4000000 in
theorem write_none (x : DT) (hk : x.f0 = 0) (b : Nat) (out : List UInt8) (w0 w : World) (hgl : GL w0) (A3 : Option Addr) (c3 : Nat) (A4 : Option Addr) (c4 : Nat) (hl : out.length + 4 ≤ 2000000000) (h : WAt w0 w b out) :
  Calls Tryz.prog 26 #[.pointer (some ⟨b, 0, none⟩), aggD x A3 c3 A4 c4] w (writeP w0 w b (out ++ [110, 111, 110, 101])) := by
 have HA := Aside0.mk (h.below (below_alloc (Below.refl _ w) (dBox x A3 c3 A4 c4)))
 have HK := Aside0.mk (kept_of_below (e := 5) (b := some b) (below_alloc (Below.refl _ w) (dBox x A3 c3 A4 c4)))
 have HG := Aside0.mk hgl
 clear h hgl
 have HC : Aside0 (Calls Tryz.prog 46 #[.pointer (some ⟨b, 0, none⟩), .string ⟨#[110, 111, 110, 101]⟩] (w.alloc (dBox x A3 c3 A4 c4)) fun e w' => e = .returned (.tuple #[.int .i64 4, .nilIface]) ∧ WAt w0 w' b (out ++ [110, 111, 110, 101]) ∧ Lib.OthersKept 5 (some b) (w.alloc (dBox x A3 c3 A4 c4)) w') := ⟨wstr_c w0 _ b out ⟨#[110, 111, 110, 101]⟩ HA.out hl⟩
 have k0 : (x.f0 == 0) = true := by rw [hk]; rfl
 have k1 : (x.f0 == 1) = false := by rw [hk]; rfl
 have k2 : (x.f0 == 2) = false := by rw [hk]; rfl
 have k3 : (x.f0 == 3) = false := by rw [hk]; rfl
 have k4 : (x.f0 == 4) = false := by rw [hk]; rfl
 have k5 : (x.f0 == 5) = false := by rw [hk]; rfl
 clear hk
 go_enter Tryz.func26, Tryz.ntmps26
 go_wp2_with (go_at_call 46; go_loud (with_reducible refine HC.out.mono ?_); rintro e w5 ⟨rfl, h5, hk5⟩; have H5 := Aside0.mk h5; have HK5 := Aside0.mk hk5; clear h5 hk5)
 (try simp only [Exit.inBlock, Exit.then])
 refine bodyPost_ret (results_none rfl _ _ _) rfl ?_
 exact ⟨rfl, H5.out.bld, H5.out.bel, HK.out.trans HK5.out⟩
set_option maxHeartbeats 4000000 in
theorem write_truth0 (x : DT) (hk : x.f0 = 1) (hn : x.f1 = 0) (b : Nat) (out : List UInt8) (w0 w : World) (hgl : GL w0) (A3 : Option Addr) (c3 : Nat) (A4 : Option Addr) (c4 : Nat) (hl : out.length + 2 ≤ 2000000000) (h : WAt w0 w b out) :
  Calls Tryz.prog 26 #[.pointer (some ⟨b, 0, none⟩), aggD x A3 c3 A4 c4] w (writeP w0 w b (out ++ [110, 111])) := by
 have HA := Aside0.mk (h.below (below_alloc (Below.refl _ w) (dBox x A3 c3 A4 c4)))
 have HK := Aside0.mk (kept_of_below (e := 5) (b := some b) (below_alloc (Below.refl _ w) (dBox x A3 c3 A4 c4)))
 have HG := Aside0.mk hgl
 clear h hgl
 simp only [dBox, hn] at HA HK
 have HC : Aside0 (Calls Tryz.prog 46 #[.pointer (some ⟨b, 0, none⟩), .string ⟨#[110, 111]⟩] (w.alloc (.cells #[.int .i64 x.f0, .int .i64 0, .string x.f2, .slice A3 x.f3.length c3, .slice A4 x.f4.length c4] 25)) fun e w' => e = .returned (.tuple #[.int .i64 2, .nilIface]) ∧ WAt w0 w' b (out ++ [110, 111]) ∧ Lib.OthersKept 5 (some b) (w.alloc (.cells #[.int .i64 x.f0, .int .i64 0, .string x.f2, .slice A3 x.f3.length c3, .slice A4 x.f4.length c4] 25)) w') := ⟨wstr_c w0 _ b out ⟨#[110, 111]⟩ HA.out hl⟩
 have hix : ∀ w : World, (Instr.index 83 (.agg #[.string ⟨#[110, 111]⟩, .string ⟨#[121, 101, 115]⟩]) (.int .i64 0)).run Tryz.prog w = .ok (.string ⟨#[110, 111]⟩) w := fun _ => rfl
 have k0 : (x.f0 == 0) = false := by rw [hk]; rfl
 have k1 : (x.f0 == 1) = true := by rw [hk]; rfl
 have k2 : (x.f0 == 2) = false := by rw [hk]; rfl
 have k3 : (x.f0 == 3) = false := by rw [hk]; rfl
 have k4 : (x.f0 == 4) = false := by rw [hk]; rfl
 have k5 : (x.f0 == 5) = false := by rw [hk]; rfl
 clear hk
 go_enter Tryz.func26, Tryz.ntmps26
 go_wp2_with (go_at_call 46; go_loud (with_reducible refine HC.out.mono ?_); rintro e w5 ⟨rfl, h5, hk5⟩; have H5 := Aside0.mk h5; have HK5 := Aside0.mk hk5; clear h5 hk5)
 (try simp only [Exit.inBlock, Exit.then])
 refine bodyPost_ret (results_none rfl _ _ _) rfl ?_
 exact ⟨rfl, H5.out.bld, H5.out.bel, HK.out.trans HK5.out⟩
set_option maxHeartbeats 4000000 in
theorem write_truth1 (x : DT) (hk : x.f0 = 1) (hn : x.f1 = 1) (b : Nat) (out : List UInt8) (w0 w : World) (hgl : GL w0) (A3 : Option Addr) (c3 : Nat) (A4 : Option Addr) (c4 : Nat) (hl : out.length + 3 ≤ 2000000000) (h : WAt w0 w b out) :
  Calls Tryz.prog 26 #[.pointer (some ⟨b, 0, none⟩), aggD x A3 c3 A4 c4] w (writeP w0 w b (out ++ [121, 101, 115])) := by
 have HA := Aside0.mk (h.below (below_alloc (Below.refl _ w) (dBox x A3 c3 A4 c4)))
 have HK := Aside0.mk (kept_of_below (e := 5) (b := some b) (below_alloc (Below.refl _ w) (dBox x A3 c3 A4 c4)))
 have HG := Aside0.mk hgl
 clear h hgl
 simp only [dBox, hn] at HA HK
 have HC : Aside0 (Calls Tryz.prog 46 #[.pointer (some ⟨b, 0, none⟩), .string ⟨#[121, 101, 115]⟩] (w.alloc (.cells #[.int .i64 x.f0, .int .i64 1, .string x.f2, .slice A3 x.f3.length c3, .slice A4 x.f4.length c4] 25)) fun e w' => e = .returned (.tuple #[.int .i64 3, .nilIface]) ∧ WAt w0 w' b (out ++ [121, 101, 115]) ∧ Lib.OthersKept 5 (some b) (w.alloc (.cells #[.int .i64 x.f0, .int .i64 1, .string x.f2, .slice A3 x.f3.length c3, .slice A4 x.f4.length c4] 25)) w') := ⟨wstr_c w0 _ b out ⟨#[121, 101, 115]⟩ HA.out hl⟩
 have hix : ∀ w : World, (Instr.index 83 (.agg #[.string ⟨#[110, 111]⟩, .string ⟨#[121, 101, 115]⟩]) (.int .i64 1)).run Tryz.prog w = .ok (.string ⟨#[121, 101, 115]⟩) w := fun _ => rfl
 have k0 : (x.f0 == 0) = false := by rw [hk]; rfl
 have k1 : (x.f0 == 1) = true := by rw [hk]; rfl
 have k2 : (x.f0 == 2) = false := by rw [hk]; rfl
 have k3 : (x.f0 == 3) = false := by rw [hk]; rfl
 have k4 : (x.f0 == 4) = false := by rw [hk]; rfl
 have k5 : (x.f0 == 5) = false := by rw [hk]; rfl
 clear hk
 go_enter Tryz.func26, Tryz.ntmps26
 go_wp2_with (go_at_call 46; go_loud (with_reducible refine HC.out.mono ?_); rintro e w5 ⟨rfl, h5, hk5⟩; have H5 := Aside0.mk h5; have HK5 := Aside0.mk hk5; clear h5 hk5)
 (try simp only [Exit.inBlock, Exit.then])
 refine bodyPost_ret (results_none rfl _ _ _) rfl ?_
 exact ⟨rfl, H5.out.bld, H5.out.bel, HK.out.trans HK5.out⟩
set_option maxHeartbeats 4000000 in
theorem write_num (x : DT) (hk : x.f0 = 2) (h1 : -9223372036854775808 ≤ x.f1 ∧ x.f1 ≤ 9223372036854775807) (b : Nat) (out : List UInt8) (w0 w : World) (hgl : GL w0) (A3 : Option Addr) (c3 : Nat) (A4 : Option Addr) (c4 : Nat) (hl : out.length + (Lib.itoa x.f1).length ≤ 2000000000) (h : WAt w0 w b out) :
  Calls Tryz.prog 26 #[.pointer (some ⟨b, 0, none⟩), aggD x A3 c3 A4 c4] w (writeP w0 w b (out ++ Lib.itoa x.f1)) := by
 have HA := Aside0.mk (h.below (below_alloc (Below.refl _ w) (dBox x A3 c3 A4 c4)))
 have HK := Aside0.mk (kept_of_below (e := 5) (b := some b) (below_alloc (Below.refl _ w) (dBox x A3 c3 A4 c4)))
 have HG := Aside0.mk hgl
 clear h hgl
 have HDE : Aside0 (Calls Tryz.prog 47 #[.int .i64 x.f1] (w.alloc (dBox x A3 c3 A4 c4)) fun e w' => e = .returned (.string (mkB (Lib.itoa x.f1))) ∧ Below (w.alloc (dBox x A3 c3 A4 c4)).heap.size (w.alloc (dBox x A3 c3 A4 c4)) w') := ⟨chars_Decimal.calls x.f1 _ _ (HG.out.below HA.out.bel) (Go.Proofs.YtidcecpbihmloaaGreatDoor.K06.decimal_f x.f1 h1.1 h1.2)⟩
 have k0 : (x.f0 == 0) = false := by rw [hk]; rfl
 have k1 : (x.f0 == 1) = false := by rw [hk]; rfl
 have k2 : (x.f0 == 2) = true := by rw [hk]; rfl
 have k3 : (x.f0 == 3) = false := by rw [hk]; rfl
 have k4 : (x.f0 == 4) = false := by rw [hk]; rfl
 have k5 : (x.f0 == 5) = false := by rw [hk]; rfl
 clear hk
 go_enter Tryz.func26, Tryz.ntmps26
 go_wp2_with (first | (go_at_call 47; go_loud (with_reducible refine HDE.out.mono ?_); rintro e w4 ⟨rfl, hb4⟩; have HA4 := Aside0.mk (HA.out.below hb4); have HK4 := Aside0.mk (HK.out.trans (kept_of_below hb4)); clear hb4) | (go_at_call 46; go_loud (refine (wstr_c w0 w4 b out (mkB (Lib.itoa x.f1)) HA4.out (by rw [mkB_size]; omega)).mono ?_); rintro e w5 ⟨rfl, h5, hk5⟩; have H5 := Aside0.mk h5; have HK5 := Aside0.mk hk5; clear h5 hk5))
 (try simp only [Exit.inBlock, Exit.then])
 refine bodyPost_ret (results_none rfl _ _ _) rfl ?_
 exact ⟨rfl, H5.out.bld, H5.out.bel, HK4.out.trans HK5.out⟩
set_option maxHeartbeats 4000000 in
theorem write_text (x : DT) (hk : x.f0 = 3) (h2 : x.f2.size ≤ 65536) (b : Nat) (out : List UInt8) (w0 w : World) (hgl : GL w0) (A3 : Option Addr) (c3 : Nat) (A4 : Option Addr) (c4 : Nat) (hl : out.length + ((escS x.f2.data.toList).length + 2) ≤ 2000000000) (h : WAt w0 w b out) :
  Calls Tryz.prog 26 #[.pointer (some ⟨b, 0, none⟩), aggD x A3 c3 A4 c4] w (writeP w0 w b (out ++ (34 :: (escS x.f2.data.toList ++ [34])))) := by
 have HA := Aside0.mk (h.below (below_alloc (Below.refl _ w) (dBox x A3 c3 A4 c4)))
 have HK := Aside0.mk (kept_of_below (e := 5) (b := some b) (below_alloc (Below.refl _ w) (dBox x A3 c3 A4 c4)))
 have HG := Aside0.mk hgl
 clear h hgl
 have h6 := escS_len x.f2.data.toList
 have h7 : x.f2.data.toList.length = x.f2.size := by rw [Array.length_toList]; rfl
 have HES : Aside0 (Calls Tryz.prog 48 #[.string x.f2] (w.alloc (dBox x A3 c3 A4 c4)) fun e w' => e = .returned (.string (mkB (escS x.f2.data.toList))) ∧ Below (w.alloc (dBox x A3 c3 A4 c4)).heap.size (w.alloc (dBox x A3 c3 A4 c4)) w') := ⟨escape_Escape.calls x.f2 _ _ (HG.out.below HA.out.bel) (by unfold escape_Escape.f; rw [if_pos (by omega)]; rfl)⟩
 obtain ⟨E, hE⟩ : ∃ E, E = escS x.f2.data.toList := ⟨_, rfl⟩
 rw [← hE] at HES hl h6 ⊢
 clear hE
 have z1 : (mkB E).size = E.length := mkB_size E
 have HZ := Aside0.mk z1
 have s1 : ((⟨#[34]⟩ : ByteArray) ++ mkB E) = mkB (34 :: E) := catB [34] E
 have s2 : (mkB (34 :: E) ++ (⟨#[34]⟩ : ByteArray)) = mkB (34 :: (E ++ [34])) := catB (34 :: E) [34]
 have HS := Aside0.mk (And.intro s1 s2)
 have l1 : (mkB E).size ≤ 1000000 := by rw [z1]; omega
 have HWS : Aside0 (∀ W, WAt w0 W b out → Calls Tryz.prog 46 #[.pointer (some ⟨b, 0, none⟩), .string ((⟨#[34]⟩ : ByteArray) ++ mkB E ++ (⟨#[34]⟩ : ByteArray))] W fun e w' => e = .returned (.tuple #[.int .i64 ((mkB (34 :: (E ++ [34]))).size : Int), .nilIface]) ∧ WAt w0 w' b (out ++ (34 :: (E ++ [34]))) ∧ Lib.OthersKept 5 (some b) W w') := ⟨fun W hW => by
  rw [s1, s2]
  exact wstr_c w0 W b out (mkB (34 :: (E ++ [34]))) hW (by rw [mkB_size]; simp; omega)⟩
 clear z1 s1 s2
 have k0 : (x.f0 == 0) = false := by rw [hk]; rfl
 have k1 : (x.f0 == 1) = false := by rw [hk]; rfl
 have k2 : (x.f0 == 2) = false := by rw [hk]; rfl
 have k3 : (x.f0 == 3) = true := by rw [hk]; rfl
 have k4 : (x.f0 == 4) = false := by rw [hk]; rfl
 have k5 : (x.f0 == 5) = false := by rw [hk]; rfl
 clear hk
 go_enter Tryz.func26, Tryz.ntmps26
 go_wp2_with (first | (go_at_call 48; go_loud (with_reducible refine HES.out.mono ?_); rintro e w4 ⟨rfl, hb4⟩; have HA4 := Aside0.mk (HA.out.below hb4); have HK4 := Aside0.mk (HK.out.trans (kept_of_below hb4)); clear hb4) | (go_at_call 46; go_loud (with_reducible refine (HWS.out w4 HA4.out).mono ?_); rintro e w5 ⟨rfl, h5, hk5⟩; have H5 := Aside0.mk h5; have HK5 := Aside0.mk hk5; clear h5 hk5))
 (try simp only [Exit.inBlock, Exit.then])
 refine bodyPost_ret (results_none rfl _ _ _) rfl ?_
 exact ⟨rfl, H5.out.bld, H5.out.bel, HK4.out.trans HK5.out⟩
end Go.Proofs.YtidcecpbihmloaaGreatDoorE

namespace Go.Proofs.YtidcecpbihmloaaGreatDoorE
open Go Go.RowKit Go.Proofs.YtidcecpbihmloaaGreatDoorW.PrintWords Go.Proofs.YtidcecpbihmloaaGreatDoorX Go.Proofs.YtidcecpbihmloaaGreatDoor.P16 Go.Proofs.YtidcecpbihmloaaGreatDoor.M02
set_option linter.unusedVariables false
set_option linter.unusedSimpArgs false
set_option maxRecDepth 100000
theorem emp_size (t : ByteArray) (h : t.toList = []) : (t.size : Int) ≤ 65536 := by
 rw [toList_data] at h
 have e : t.data.toList.length = t.size := Array.length_toList
 rw [h] at e
 simp at e
 omega
set_option maxHeartbeats 8000000 in
theorem rplain_0 (n : Int) (t : ByteArray) (ns : List ByteArray) (l : List DT) (h3 : ns.length ≤ 140737488351232) (h4 : l.length ≤ 140737488351232) (A3 : Option Addr) (c3 : Nat) (A4 : Option Addr) (c4 : Nat) (w : World) (hgl : GL w) : Calls Tryz.prog 39 #[.agg #[.int .i64 0, .int .i64 n, .string t, .slice A3 ns.length c3, .slice A4 l.length c4]] w fun e w' => e = .returned (.bool (plainD (⟨0, n, t, ns, l⟩ : DT))) ∧ Below w.heap.size w w' := by
 have HG := Aside0.mk hgl
 have HE := Aside0.mk (emp_size t)
 have HT := Aside0.mk (toList_data t)
 clear hgl
 rw [show plainD (⟨0, n, t, ns, l⟩ : DT) = (decide (n = 0) && t.data.toList.isEmpty && ns.isEmpty && l.isEmpty) by rfl]
 rcases ns with _ | ⟨a, ns⟩
 all_goals
  (go_enter Tryz.func39, Tryz.ntmps39
   go_wp2_with fail)
 all_goals go_ret
 all_goals (refine ⟨?_, below_alloc (Below.refl _ _) _⟩)
 all_goals
  (have HE := HE.out
   have HT := HT.out
   clear HG
   cases l <;> simp_all <;> omega)
set_option maxHeartbeats 8000000 in
theorem rplain_1 (n : Int) (t : ByteArray) (ns : List ByteArray) (l : List DT) (h3 : ns.length ≤ 140737488351232) (h4 : l.length ≤ 140737488351232) (A3 : Option Addr) (c3 : Nat) (A4 : Option Addr) (c4 : Nat) (w : World) (hgl : GL w) : Calls Tryz.prog 39 #[.agg #[.int .i64 1, .int .i64 n, .string t, .slice A3 ns.length c3, .slice A4 l.length c4]] w fun e w' => e = .returned (.bool (plainD (⟨1, n, t, ns, l⟩ : DT))) ∧ Below w.heap.size w w' := by
 have HG := Aside0.mk hgl
 have HE := Aside0.mk (emp_size t)
 have HT := Aside0.mk (toList_data t)
 clear hgl
 rw [show plainD (⟨1, n, t, ns, l⟩ : DT) = ((decide (n = 0) || decide (n = 1)) && t.data.toList.isEmpty && ns.isEmpty && l.isEmpty) by rfl]
 rcases ns with _ | ⟨a, ns⟩
 all_goals
  (go_enter Tryz.func39, Tryz.ntmps39
   go_wp2_with fail)
 all_goals go_ret
 all_goals (refine ⟨?_, below_alloc (Below.refl _ _) _⟩)
 all_goals
  (have HE := HE.out
   have HT := HT.out
   clear HG
   cases l <;> simp_all <;> omega)
set_option maxHeartbeats 8000000 in
theorem rplain_2 (n : Int) (t : ByteArray) (ns : List ByteArray) (l : List DT) (h3 : ns.length ≤ 140737488351232) (h4 : l.length ≤ 140737488351232) (A3 : Option Addr) (c3 : Nat) (A4 : Option Addr) (c4 : Nat) (w : World) (hgl : GL w) : Calls Tryz.prog 39 #[.agg #[.int .i64 2, .int .i64 n, .string t, .slice A3 ns.length c3, .slice A4 l.length c4]] w fun e w' => e = .returned (.bool (plainD (⟨2, n, t, ns, l⟩ : DT))) ∧ Below w.heap.size w w' := by
 have HG := Aside0.mk hgl
 have HE := Aside0.mk (emp_size t)
 have HT := Aside0.mk (toList_data t)
 clear hgl
 rw [show plainD (⟨2, n, t, ns, l⟩ : DT) = (t.data.toList.isEmpty && ns.isEmpty && l.isEmpty) by rfl]
 rcases ns with _ | ⟨a, ns⟩
 all_goals
  (go_enter Tryz.func39, Tryz.ntmps39
   go_wp2_with fail)
 all_goals go_ret
 all_goals (refine ⟨?_, below_alloc (Below.refl _ _) _⟩)
 all_goals
  (have HE := HE.out
   have HT := HT.out
   clear HG
   cases l <;> simp_all <;> omega)
set_option maxHeartbeats 8000000 in
theorem rplain_3 (n : Int) (t : ByteArray) (ns : List ByteArray) (l : List DT) (h3 : ns.length ≤ 140737488351232) (h4 : l.length ≤ 140737488351232) (A3 : Option Addr) (c3 : Nat) (A4 : Option Addr) (c4 : Nat) (w : World) (hgl : GL w) : Calls Tryz.prog 39 #[.agg #[.int .i64 3, .int .i64 n, .string t, .slice A3 ns.length c3, .slice A4 l.length c4]] w fun e w' => e = .returned (.bool (plainD (⟨3, n, t, ns, l⟩ : DT))) ∧ Below w.heap.size w w' := by
 have HG := Aside0.mk hgl
 have HE := Aside0.mk (emp_size t)
 have HT := Aside0.mk (toList_data t)
 clear hgl
 rw [show plainD (⟨3, n, t, ns, l⟩ : DT) = (decide (n = 0) && ns.isEmpty && l.isEmpty && decide ((t.size : Int) ≤ 65536)) by rw [show decide ((t.size : Int) ≤ 65536) = decide (t.size ≤ 65536) from decide_eq_decide.2 (by omega)]; rfl]
 rcases ns with _ | ⟨a, ns⟩
 all_goals
  (go_enter Tryz.func39, Tryz.ntmps39
   go_wp2_with fail)
 all_goals go_ret
 all_goals (refine ⟨?_, below_alloc (Below.refl _ _) _⟩)
 all_goals
  (have HE := HE.out
   have HT := HT.out
   clear HG
   cases l <;> simp_all <;> omega)
set_option maxHeartbeats 8000000 in
theorem rplain_4 (n : Int) (t : ByteArray) (ns : List ByteArray) (l : List DT) (h3 : ns.length ≤ 140737488351232) (h4 : l.length ≤ 140737488351232) (A3 : Option Addr) (c3 : Nat) (A4 : Option Addr) (c4 : Nat) (w : World) (hgl : GL w) : Calls Tryz.prog 39 #[.agg #[.int .i64 4, .int .i64 n, .string t, .slice A3 ns.length c3, .slice A4 l.length c4]] w fun e w' => e = .returned (.bool (plainD (⟨4, n, t, ns, l⟩ : DT))) ∧ Below w.heap.size w w' := by
 have HG := Aside0.mk hgl
 have HE := Aside0.mk (emp_size t)
 have HT := Aside0.mk (toList_data t)
 clear hgl
 rw [show plainD (⟨4, n, t, ns, l⟩ : DT) = (decide (n = 0) && t.data.toList.isEmpty && ns.isEmpty) by rfl]
 rcases ns with _ | ⟨a, ns⟩
 all_goals
  (go_enter Tryz.func39, Tryz.ntmps39
   go_wp2_with fail)
 all_goals go_ret
 all_goals (refine ⟨?_, below_alloc (Below.refl _ _) _⟩)
 all_goals
  (have HE := HE.out
   have HT := HT.out
   clear HG
   cases l <;> simp_all <;> omega)
set_option maxHeartbeats 8000000 in
theorem rplain_5 (n : Int) (t : ByteArray) (ns : List ByteArray) (l : List DT) (h3 : ns.length ≤ 140737488351232) (h4 : l.length ≤ 140737488351232) (A3 : Option Addr) (c3 : Nat) (A4 : Option Addr) (c4 : Nat) (w : World) (hgl : GL w) : Calls Tryz.prog 39 #[.agg #[.int .i64 5, .int .i64 n, .string t, .slice A3 ns.length c3, .slice A4 l.length c4]] w fun e w' => e = .returned (.bool (plainD (⟨5, n, t, ns, l⟩ : DT))) ∧ Below w.heap.size w w' := by
 have HG := Aside0.mk hgl
 have HE := Aside0.mk (emp_size t)
 have HT := Aside0.mk (toList_data t)
 clear hgl
 rw [show plainD (⟨5, n, t, ns, l⟩ : DT) = (decide (n = 0) && t.data.toList.isEmpty && ((ns.length : Int) == (l.length : Int))) by rw [show ((ns.length : Int) == (l.length : Int)) = decide (ns.length = l.length) by rw [Bool.eq_iff_iff]; simp; omega]; rfl]
 rcases ns with _ | ⟨a, ns⟩
 all_goals
  (go_enter Tryz.func39, Tryz.ntmps39
   go_wp2_with fail)
 all_goals go_ret
 all_goals (refine ⟨?_, below_alloc (Below.refl _ _) _⟩)
 all_goals
  (have HE := HE.out
   have HT := HT.out
   clear HG
   cases l <;> simp_all <;> omega)
theorem rplain_c (kd : Int) (n : Int) (t : ByteArray) (ns : List ByteArray) (l : List DT) (h3 : ns.length ≤ 140737488351232) (h4 : l.length ≤ 140737488351232) (A3 : Option Addr) (c3 : Nat) (A4 : Option Addr) (c4 : Nat) (w : World) (hgl : GL w) : Calls Tryz.prog 39 #[.agg #[.int .i64 kd, .int .i64 n, .string t, .slice A3 ns.length c3, .slice A4 l.length c4]] w fun e w' => e = .returned (.bool (plainD (⟨kd, n, t, ns, l⟩ : DT))) ∧ Below w.heap.size w w' := by
 by_cases hk : 0 ≤ kd ∧ kd ≤ 5
 ·have hk : kd = 0 ∨ kd = 1 ∨ kd = 2 ∨ kd = 3 ∨ kd = 4 ∨ kd = 5 := by omega
  rcases hk with rfl | rfl | rfl | rfl | rfl | rfl
  ·exact rplain_0 n t ns l h3 h4 A3 c3 A4 c4 w hgl
  ·exact rplain_1 n t ns l h3 h4 A3 c3 A4 c4 w hgl
  ·exact rplain_2 n t ns l h3 h4 A3 c3 A4 c4 w hgl
  ·exact rplain_3 n t ns l h3 h4 A3 c3 A4 c4 w hgl
  ·exact rplain_4 n t ns l h3 h4 A3 c3 A4 c4 w hgl
  ·exact rplain_5 n t ns l h3 h4 A3 c3 A4 c4 w hgl
 ·rw [plain_out hk]
  by_cases h0 : kd < 0
  ·have k0 : decide (kd < 0) = true := decide_eq_true h0
   clear hk h0
   go_enter Tryz.func39, Tryz.ntmps39
   go_wp2_with fail
   go_ret
   exact ⟨rfl, below_alloc (Below.refl _ _) _⟩
  ·have k0 : decide (kd < 0) = false := decide_eq_false h0
   have k5 : decide (5 < kd) = true := decide_eq_true (by omega)
   clear hk h0
   go_enter Tryz.func39, Tryz.ntmps39
   go_wp2_with fail
   go_ret
   exact ⟨rfl, below_alloc (Below.refl _ _) _⟩
end Go.Proofs.YtidcecpbihmloaaGreatDoorE

namespace Go.Proofs.YtidcecpbihmloaaGreatDoorE
open Go Go.RowKit Go.Proofs.YtidcecpbihmloaaGreatDoorW.PrintWords Go.Proofs.YtidcecpbihmloaaGreatDoorW.PrintMore Go.Proofs.YtidcecpbihmloaaGreatDoorW.PrintLast Go.Proofs.YtidcecpbihmloaaGreatDoorX Go.Proofs.YtidcecpbihmloaaGreatDoor.P16 Go.Proofs.YtidcecpbihmloaaGreatDoor.M02
set_option linter.unusedVariables false
set_option linter.unusedSimpArgs false
set_option maxRecDepth 100000
abbrev xBox (x : DT) (A3 : Option Addr) (c3 : Nat) (A4 : Option Addr) (c4 : Nat) : Obj := .cells #[.int .i64 x.f0, .int .i64 x.f1, .string x.f2, .slice A3 x.f3.length c3, .slice A4 x.f4.length c4] 25
def weighC (x : DT) : Prop := ∀ (L op : Nat), L ≤ 2000 → op ≤ 16 → ∀ (w : World), GL w → ∀ (A3 : Option Addr) (c3 : Nat) (A4 : Option Addr) (c4 : Nat), x.f3.length ≤ c3 → Kd.string.C w A3 x.f3.length x.f3 → x.f4.length ≤ c4 → k25.C w A4 x.f4.length x.f4 →
 Calls Tryz.prog 22 #[aggD x A3 c3 A4 c4, .int .i64 L, .int .i64 op] w fun e w' => e = .returned (.int .i64 (optI (weighD x L op))) ∧ Below w.heap.size w w'
theorem named_w (s : ByteArray) (hs : s.size ≤ 140737488351232) (W : World) (h : GL W) : Calls Tryz.prog 40 #[.string s, .bool true] W fun e w' => e = .returned (.bool (namedS true (B s))) ∧ ∃ m, w' = W.drewN m := by
 obtain ⟨k, hk⟩ := rnamed_ev s true hs
 exact (tendrilref02_Named.calls k s true _ W h (hk k (Nat.le_refl _))).mono fun _ _ ⟨a, b⟩ => ⟨a, b.out⟩
theorem compare_w (s t : ByteArray) (hs : s.size ≤ 140737488351232) (ht : t.size ≤ 140737488351232) (W : World) (h : GL W) : Calls Tryz.prog 25 #[.string s, .string t] W fun e w' => e = .returned (.int .i64 (cmpL (B s) (B t))) ∧ ∃ m, w' = W.drewN m := by
 obtain ⟨k, hk⟩ := rcompare_ev s t hs ht
 exact (tendrilref02_Compare.calls k s t _ W h (hk k (Nat.le_refl _))).mono fun _ _ ⟨a, b⟩ => ⟨a, b.out⟩
set_option maxHeartbeats 16000000 in
theorem weigh_kids (x : DT) (hx : OkD x) (hp : plainD x = true) (L op : Nat) (hL : L ≤ 1999) (ho : op ≤ 16) (hk16 : ¬ (x.f0 > 3 ∧ op = 16)) (hop : x.f4 ≠ [] → op + 1 ≤ 16) (R : Int) (hR : (∀ j, j < x.f3.length → goodN x.f3 j) → R = optI (weighL x.f4 L (op + 1))) (hbad : ¬ (x.f3.length ≤ L ∧ ∀ j, j < x.f3.length → goodN x.f3 j) → R = -1) (ih : ∀ y ∈ x.f4, weighC y) (w : World) (hgl : GL w) (A3 : Option Addr) (c3 : Nat) (A4 : Option Addr) (c4 : Nat) (l3 : x.f3.length ≤ c3) (g3 : Kd.string.C w A3 x.f3.length x.f3) (l4 : x.f4.length ≤ c4) (g4 : k25.C w A4 x.f4.length x.f4) :
  Calls Tryz.prog 22 #[aggD x A3 c3 A4 c4, .int .i64 ((L : Int) + 1), .int .i64 op] w fun e w' => e = .returned (.int .i64 R) ∧ Below w.heap.size w w' := by
 have HB := Aside0.mk (below_alloc (Below.refl w.heap.size w) (xBox x A3 c3 A4 c4))
 have HX := Aside0.mk (heap_alloc_new w (xBox x A3 c3 A4 c4))
 have HG := Aside0.mk hgl
 have H3 := Aside0.mk g3
 have H4 := Aside0.mk g4
 have IH := Aside0.mk ih
 have HR := Aside0.mk hR
 have HBAD := Aside0.mk hbad
 have HOP := Aside0.mk hop
 have HXS := Aside0.mk hx.out.2.2.2.2.1
 have hn3 : x.f3.length ≤ 140737488351232 := hx.out.2.2.2.1
 have hn4 : x.f4.length ≤ 140737488351232 := hx.out.2.2.2.2.2.1
 have HPC := Aside0.mk (rplain_c x.f0 x.f1 x.f2 x.f3 x.f4 hn3 hn4 A3 c3 A4 c4 _ (hgl.below HB.out))
 rw [show plainD (⟨x.f0, x.f1, x.f2, x.f3, x.f4⟩ : DT) = true from hp] at HPC
 have d0 : decide ((L : Int) + 1 < 1) = false := decide_eq_false (by omega)
 have hk6 : (decide (3 < x.f0) && ((op : Int) == 16)) = false := by
  rw [Bool.and_eq_false_iff]
  by_cases h : x.f0 > 3
  ·right; rw [beq_eq_false_iff_ne]; intro e; exact hk16 ⟨h, by omega⟩
  ·left; exact decide_eq_false (by omega)
 have e1 : wrap64 ((L : Int) + 1 - 1) = (L : Int) := by rw [w64 (by omega) (by omega)]; omega
 have HOQ := Aside0.mk ho
 clear hgl g3 g4 ih hR hbad hop hx hp hk16 ho
 have walk : ∀ b1 b2 : Bool, decide (3 < x.f0) = b1 → ((op : Int) == 16) = b2 → (b1 && b2) = false → Calls Tryz.prog 22 #[aggD x A3 c3 A4 c4, .int .i64 ((L : Int) + 1), .int .i64 op] w fun e w' => e = .returned (.int .i64 R) ∧ Below w.heap.size w w' := by
  intro b1 b2 hb1 hb2 hb12
  go_enter Tryz.func22, Tryz.ntmps22
  go_upto_region 1 with fail
  go_cut [24] from 9 to 23 (fun v24 wc => v24 = .bool false ∧ Aside0 (Below w.heap.size w wc ∧ wc.heap[w.heap.size]? = some (xBox x A3 c3 A4 c4)))
  case first =>
   have p0 := (blk_cell HX.out 0).trans rfl
   have p1 := (blk_cell HX.out 1).trans rfl
   have p2 := (blk_cell HX.out 2).trans rfl
   have p3 := (blk_cell HX.out 3).trans rfl
   have p4 := (blk_cell HX.out 4).trans rfl
   cases b1 with
   | false =>
    go_wp2_with (go_at_call 39; go_loud (with_reducible refine HPC.out.mono ?_); rintro e w1 ⟨rfl, hb⟩; have HB1 := Aside0.mk (below_then HB.out HB.out.size hb); have hx1 := (hb.block w.heap.size (blk_lt HX.out)).trans HX.out; have HX1 := Aside0.mk hx1; have q0 := (blk_cell hx1 0).trans rfl; clear hb hx1)
    go_meet
    exact ⟨rfl, ⟨HB1.out, HX1.out⟩⟩
   | true =>
    have hb2' : b2 = false := by simpa using hb12
    rw [hb2'] at hb2
    go_wp2_with (go_at_call 39; go_loud (with_reducible refine HPC.out.mono ?_); rintro e w1 ⟨rfl, hb⟩; have HB1 := Aside0.mk (below_then HB.out HB.out.size hb); have hx1 := (hb.block w.heap.size (blk_lt HX.out)).trans HX.out; have HX1 := Aside0.mk hx1; have q0 := (blk_cell hx1 0).trans rfl; clear hb hx1)
    go_meet
    exact ⟨rfl, ⟨HB1.out, HX1.out⟩⟩
  obtain ⟨rfl, hcut⟩ := hcut
  have HB1 := Aside0.mk hcut.out.1
  have HX1 := Aside0.mk hcut.out.2
  clear hcut hb1 hb2 hb12
  have p0 := (blk_cell HX1.out 0).trans rfl
  have p1 := (blk_cell HX1.out 1).trans rfl
  have p2 := (blk_cell HX1.out 2).trans rfl
  have p3 := (blk_cell HX1.out 3).trans rfl
  have p4 := (blk_cell HX1.out 4).trans rfl
  go_wp2_with fail
  go_loopg [30] x.f3.length (fun gk i wr => ∃ k : Nat, k ≤ x.f3.length ∧ i = .int .i64 k ∧ Aside0 (k + gk = x.f3.length ∧ Below wc.heap.size wc wr ∧ k ≤ L ∧ ∀ j, j < k → goodN x.f3 j))
  case atStart => exact ⟨0, by omega, rfl, ⟨by omega, Below.refl _ _, by omega, fun j hj => by omega⟩⟩
  case round =>
   clear p0 p1 p2 p3 p4
   obtain ⟨k, hk, rfl, HV⟩ := hrel
   obtain ⟨hkg, hb, hkL, he⟩ := HV.out
   have HN := Aside0.mk hkg
   have HBR := Aside0.mk (below_then HB1.out HB1.out.size hb)
   have HBW := Aside0.mk hb
   have HXr := Aside0.mk ((hb.block w.heap.size (blk_lt HX1.out)).trans HX1.out)
   have HE := Aside0.mk he
   have p3 := (blk_cell HXr.out 3).trans rfl
   have p4 := (blk_cell HXr.out 4).trans rfl
   clear HV hkg hb he
   by_cases hlt : k < x.f3.length
   ·by_cases hkl : L ≤ k
    ·have HRv := Aside0.mk (HBAD.out (fun h => by omega))
     have d1 : decide (L ≤ k) = true := decide_eq_true hkl
     go_upto_region 7 with fail
     go_quiet (fail)
     go_wp2_with fail
     go_ret
     exact ⟨by rw [HRv.out]; rfl, pw_below_drewN HBR.out _⟩
    ·have d1 : decide (L ≤ k) = false := decide_eq_false hkl
     obtain ⟨ad, hade, n1⟩ := Kd.at_string (Kd.C_below H3.out HBR.out) (k : Int) (by omega) (by omega)
     rw [Int.toNat_natCast, get_rdOf] at n1
     obtain ⟨s, hs⟩ : ∃ s, s = x.f3.getD k em := ⟨_, rfl⟩
     have HNM := Aside0.mk (named_w (x.f3.getD k em) (getD_size HXS.out k))
     rw [← hs] at n1 HNM
     obtain ⟨bn, hbn⟩ : ∃ b, b = namedS true (B s) := ⟨_, rfl⟩
     rw [← hbn] at HNM
     have HBN := Aside0.mk hbn
     have HS := Aside0.mk hs
     subst hade
     clear hs hbn
     cases bn with
     | false =>
      have HRv := Aside0.mk (HBAD.out (fun h => by
       have h2 := (h.2 k hlt).1
       rw [← HS.out] at h2
       have h3 := HBN.out
       rw [show namedS true (B s) = true from h2] at h3
       cases h3))
      go_upto_region 7 with fail
      go_quiet ((go_at_call 40; go_loud (refine Calls.quiet_of (HNM.out _ (HG.out.below ?_)); exact pw_below_drewN HBR.out _)))
      go_wp2_with fail
      go_ret
      exact ⟨by rw [HRv.out]; rfl, pw_below_drewN HBR.out _⟩
     | true =>
      have hkL2 : k < L := by omega
      by_cases hk0 : k = 0
      ·subst hk0
       rw [Addr.add_zero'] at n1
       have hl0 : L ≠ 0 := by omega
       have d2 : decide (L = 0) = false := decide_eq_false hl0
       have d3 : decide ((L : Int) ≤ 0) = false := decide_eq_false (by omega)
       have d4 : decide (L ≤ 0) = false := decide_eq_false (by omega)
       go_upto_region 7 with fail
       go_quiet ((go_at_call 40; go_loud (refine Calls.quiet_of (HNM.out _ (HG.out.below ?_)); exact pw_below_drewN HBR.out _)))
       go_wp2_with fail
       go_roundg (gk - 1)
       case measure => have := HN.out; omega
       case rel => exact ⟨1, by omega, by go_num, ⟨by have := HN.out; omega, pw_below_drewN HBW.out _, by omega, fun j hj => by
        obtain rfl : j = 0 := by omega
        exact ⟨by rw [← HS.out]; exact HBN.out.symm, fun h => absurd h (by omega)⟩⟩⟩
      ·have hk1 : 0 < k := by omega
       have hkp : decide (0 < k) = true := decide_eq_true hk1
       obtain ⟨ad', hade, n0⟩ := Kd.at_string (Kd.C_below H3.out HBR.out) ((k - 1 : Nat) : Int) (by omega) (by omega)
       injection hade with hade
       subst hade
       rw [Int.toNat_natCast, get_rdOf] at n0
       obtain ⟨s', hs'⟩ : ∃ s, s = x.f3.getD (k - 1) em := ⟨_, rfl⟩
       have HCM := Aside0.mk (compare_w (x.f3.getD (k - 1) em) (x.f3.getD k em) (getD_size HXS.out _) (getD_size HXS.out _))
       rw [← hs'] at n0
       rw [← hs', ← HS.out] at HCM
       obtain ⟨cc, hcc⟩ : ∃ c, c = cmpL (B s') (B s) := ⟨_, rfl⟩
       rw [← hcc] at HCM
       have HCC := Aside0.mk hcc
       have HS' := Aside0.mk hs'
       have ek : wrap64 ((k : Int) - 1) = ((k - 1 : Nat) : Int) := by rw [w64 (by omega) (by omega)]; omega
       clear hs' hcc
       by_cases hc0 : 0 ≤ cc
       ·have hcd : decide (0 ≤ cc) = true := decide_eq_true hc0
        have HRv := Aside0.mk (HBAD.out (fun h => by
         have h2 := (h.2 k hlt).2 hk1
         rw [← HS.out, ← HS'.out] at h2
         have h3 := (less_cmpB s' s).1 h2
         have h4 := HCC.out
         have h5 : cmpB s' s = cmpL (B s') (B s) := rfl
         omega))
        go_upto_region 7 with fail
        go_quiet (first | (go_at_call 40; go_loud (refine Calls.quiet_of (HNM.out _ (HG.out.below ?_)); exact pw_below_drewN HBR.out _)) | (go_at_call 25; go_loud (refine Calls.quiet_of (HCM.out _ (HG.out.below ?_)); exact pw_below_drewN HBR.out _)))
        go_wp2_with fail
        go_ret
        exact ⟨by rw [HRv.out]; rfl, pw_below_drewN HBR.out _⟩
       ·have hcd : decide (0 ≤ cc) = false := decide_eq_false hc0
        have HLT := Aside0.mk (show Op.bytesLess s'.data.toList s.data.toList = true from (less_cmpB s' s).2 (by
         have h4 := HCC.out
         have h5 : cmpB s' s = cmpL (B s') (B s) := rfl
         omega))
        go_upto_region 7 with fail
        go_quiet (first | (go_at_call 40; go_loud (refine Calls.quiet_of (HNM.out _ (HG.out.below ?_)); exact pw_below_drewN HBR.out _)) | (go_at_call 25; go_loud (refine Calls.quiet_of (HCM.out _ (HG.out.below ?_)); exact pw_below_drewN HBR.out _)))
        go_wp2_with fail
        go_roundg (gk - 1)
        case measure => have := HN.out; omega
        case rel => exact ⟨k + 1, by omega, by go_num, ⟨by have := HN.out; omega, pw_below_drewN HBW.out _, by omega, fun j hj => by
         by_cases hjk : j = k
         ·rw [hjk]
          exact ⟨by rw [← HS.out]; exact HBN.out.symm, fun _ => by rw [← HS.out, ← HS'.out]; exact HLT.out⟩
         ·exact HE.out j (by omega)⟩⟩
   ·have HRv := Aside0.mk (HR.out (fun j hj => HE.out j (by omega)))
    clear HE HN HBAD HR
    go_wp2_with fail
    generalize hW3 : wr = W3 at HBR HBW HXr p3 p4 ⊢
    clear hW3
    go_loopg [1, 68] x.f4.length (fun gq v1 i wq => ∃ q r : Nat, q ≤ x.f4.length ∧ v1 = .int .i64 r ∧ i = .int .i64 q ∧ Aside0 (q + gq = x.f4.length ∧ Below W3.heap.size W3 wq ∧ r ≤ 1999 ∧ weighL (x.f4.take q) L (op + 1) = some r))
    case atStart => exact ⟨0, L, by omega, rfl, rfl, ⟨by omega, Below.refl _ _, hL, by rw [List.take_zero, weighL]⟩⟩
    case round =>
     clear p3 p4
     obtain ⟨q, r, hq, rfl, rfl, HQ⟩ := hrel
     obtain ⟨hqn, hb, hr9, hr⟩ := HQ.out
     have HN := Aside0.mk hqn
     have HBQ := Aside0.mk hb
     have HBT := Aside0.mk (below_then HBR.out HBR.out.size hb)
     have HXq := Aside0.mk ((hb.block w.heap.size (blk_lt HXr.out)).trans HXr.out)
     have HRR := Aside0.mk hr
     have p4 := (blk_cell HXq.out 4).trans rfl
     clear HQ hqn hb hr
     by_cases hqlt : q < x.f4.length
     ·obtain ⟨ad, A3q, c3q, A4q, c4q, hA, a0, a1, a2, a3, a4, hl3, hC3, hl4, hC4⟩ := at_T25 H4.out (q : Int) (by omega) (by omega)
      subst hA
      rw [Int.toNat_natCast] at a0 a1 a2 a3 a4
      replace a0 := pw_cell_below HBT.out a0
      replace a1 := pw_cell_below HBT.out a1
      replace a2 := pw_cell_below HBT.out a2
      replace a3 := pw_cell_below HBT.out a3
      replace a4 := pw_cell_below HBT.out a4
      obtain ⟨y, hy⟩ : ∃ y, y = rd_T25 x.f4 (q : Int) := ⟨_, rfl⟩
      rw [← hy] at a0 a1 a2 a3 a4 hl3 hC3 hl4 hC4
      have HY := Aside0.mk (rd_take x.f4 q hqlt)
      rw [← hy] at HY
      clear hy
      have hop1 : op + 1 ≤ 16 := HOP.out (fun h => by rw [h] at hqlt; cases hqlt)
      have CY := Aside0.mk (IH.out y HY.out.1 r (op + 1) (by omega) hop1 wr (HG.out.below HBT.out) A3q c3q A4q c4q hl3 (Kd.string.C_below hC3 HBT.out) hl4 (k25.C_below hC4 HBT.out))
      clear hl3 hC3 hl4 hC4
      rw [show ((op + 1 : Nat) : Int) = (op : Int) + 1 by omega] at CY
      have e2 : wrap64 ((op : Int) + 1) = (op : Int) + 1 := w64 (by omega) (by omega)
      have HWL := Aside0.mk (show weighL x.f4 L (op + 1) = (match weighD y r (op + 1) with | none => none | some r' => weighL (x.f4.drop (q + 1)) r' (op + 1)) by
       conv => lhs; rw [HY.out.2.2]
       rw [weighL_append, HRR.out]
       show weighL (y :: x.f4.drop (q + 1)) r (op + 1) = _
       rw [weighL]
       try (cases weighD y r (op + 1) <;> rfl))
      have HWT := Aside0.mk (show weighL (x.f4.take (q + 1)) L (op + 1) = weighD y r (op + 1) by
       rw [HY.out.2.1, weighL_append, HRR.out]
       show weighL [y] r (op + 1) = _
       rw [weighL]
       try (cases weighD y r (op + 1) <;> simp [weighL]))
      have HLE := Aside0.mk (fun q' (h : weighD y r (op + 1) = some q') => weighD_le y r (op + 1) q' h)
      clear hop1
      cases hwd : weighD y r (op + 1) with
      | none =>
       rw [hwd] at CY HWL
       clear hwd
       have HRn := Aside0.mk (HRv.out.trans (congrArg optI (show weighL x.f4 L (op + 1) = none from HWL.out)))
       rw [show optI none = -1 from rfl] at CY HRn
       go_wp2_with (go_at_call 22; go_loud (with_reducible refine CY.out.mono ?_); rintro e w4 ⟨rfl, hb4⟩; have HBZ := Aside0.mk hb4; clear hb4)
       go_ret
       exact ⟨by rw [HRn.out]; rfl, below_then HBT.out HBT.out.size HBZ.out⟩
      | some r' =>
       rw [hwd] at CY HWT
       have HLE' := Aside0.mk (HLE.out r' hwd)
       clear hwd
       rw [show optI (some r') = (r' : Int) from rfl] at CY
       go_wp2_with (go_at_call 22; go_loud (with_reducible refine CY.out.mono ?_); rintro e w4 ⟨rfl, hb4⟩; have HBZ := Aside0.mk hb4; clear hb4)
       go_roundg (gk - 1)
       case measure => have := HN.out; omega
       case rel => exact ⟨q + 1, r', by omega, rfl, by go_num, ⟨by have := HN.out; omega, below_then HBQ.out HBQ.out.size HBZ.out, by have := HLE'.out; omega, HWT.out⟩⟩
     ·have hx2 : x.f4.take q = x.f4 := List.take_of_length_le (by omega)
      have h := HRR.out
      rw [hx2] at h
      have HRn := Aside0.mk (HRv.out.trans (congrArg optI h))
      clear h hx2
      go_wp2_with fail
      go_ret
      exact ⟨by rw [HRn.out]; rfl, HBT.out⟩
 exact walk _ _ rfl rfl hk6
set_option maxHeartbeats 8000000 in
theorem weigh_zero (x : DT) (op : Nat) (w : World) (A3 : Option Addr) (c3 : Nat) (A4 : Option Addr) (c4 : Nat) :
  Calls Tryz.prog 22 #[aggD x A3 c3 A4 c4, .int .i64 0, .int .i64 op] w fun e w' => e = .returned (.int .i64 (-1)) ∧ Below w.heap.size w w' := by
 have HX := Aside0.mk (heap_alloc_new w (xBox x A3 c3 A4 c4))
 have p0 := (blk_cell HX.out 0).trans rfl
 go_enter Tryz.func22, Tryz.ntmps22
 go_wp2_with fail
 go_ret
 exact ⟨rfl, below_alloc (Below.refl _ _) _⟩
set_option maxHeartbeats 8000000 in
theorem weigh_bad (x : DT) (hx : OkD x) (L op : Nat) (hL : L ≤ 1999) (hb : plainD x = false ∨ (x.f0 > 3 ∧ op = 16)) (w : World) (hgl : GL w) (A3 : Option Addr) (c3 : Nat) (A4 : Option Addr) (c4 : Nat) :
  Calls Tryz.prog 22 #[aggD x A3 c3 A4 c4, .int .i64 ((L : Int) + 1), .int .i64 op] w fun e w' => e = .returned (.int .i64 (-1)) ∧ Below w.heap.size w w' := by
 have HB := Aside0.mk (below_alloc (Below.refl w.heap.size w) (xBox x A3 c3 A4 c4))
 have HX := Aside0.mk (heap_alloc_new w (xBox x A3 c3 A4 c4))
 have HPC := Aside0.mk (rplain_c x.f0 x.f1 x.f2 x.f3 x.f4 hx.out.2.2.2.1 hx.out.2.2.2.2.2.1 A3 c3 A4 c4 _ (hgl.below HB.out))
 have d0 : decide ((L : Int) + 1 < 1) = false := decide_eq_false (by omega)
 obtain ⟨bp, hbp⟩ : ∃ b, b = plainD (⟨x.f0, x.f1, x.f2, x.f3, x.f4⟩ : DT) := ⟨_, rfl⟩
 rw [← hbp] at HPC
 have hb' : bp = false ∨ (x.f0 > 3 ∧ op = 16) := by rw [hbp]; exact hb
 have p0 := (blk_cell HX.out 0).trans rfl
 have p1 := (blk_cell HX.out 1).trans rfl
 have p2 := (blk_cell HX.out 2).trans rfl
 have p3 := (blk_cell HX.out 3).trans rfl
 have p4 := (blk_cell HX.out 4).trans rfl
 clear hx hgl hb hbp
 cases bp with
 | false =>
  clear hb'
  go_enter Tryz.func22, Tryz.ntmps22
  go_wp2_with (go_at_call 39; go_loud (with_reducible refine HPC.out.mono ?_); rintro e w1 ⟨rfl, hb⟩; have HB1 := Aside0.mk (below_then HB.out HB.out.size hb); clear hb)
  go_ret
  exact ⟨rfl, HB1.out⟩
 | true =>
  obtain ⟨h3, h16⟩ := hb'.resolve_left (by decide)
  have k3 : decide (3 < x.f0) = true := decide_eq_true h3
  subst h16
  clear hb' h3
  go_enter Tryz.func22, Tryz.ntmps22
  go_wp2_with (go_at_call 39; go_loud (with_reducible refine HPC.out.mono ?_); rintro e w1 ⟨rfl, hb⟩; have HB1 := Aside0.mk (below_then HB.out HB.out.size hb); have hx1 := (hb.block w.heap.size (blk_lt HX.out)).trans HX.out; have q0 := (blk_cell hx1 0).trans rfl; clear hb hx1)
  go_ret
  exact ⟨rfl, HB1.out⟩
theorem weigh_c (x : DT) (hx : OkD x) : weighC x := by
 induction hx with
 | mk x h0 h1 h2 n3 h3 n4 h4 ih =>
  have hx : OkD x := .mk x h0 h1 h2 n3 h3 n4 h4
  intro L op hL ho w hgl A3 c3 A4 c4 l3 g3 l4 g4
  cases L with
  | zero =>
   have e : weighD x 0 op = none := by rcases x with ⟨a, b, c, ns, l⟩; rw [weighD, if_pos (.inl rfl)]
   rw [e]
   exact weigh_zero x op w A3 c3 A4 c4
  | succ L =>
   rw [show ((L + 1 : Nat) : Int) = (L : Int) + 1 by omega]
   by_cases hb : plainD x = false ∨ (x.f0 > 3 ∧ op = 16)
   ·rw [weighD_eq, if_pos (by rcases hb with h | h; exact .inl h; exact .inr (.inl h))]
    exact weigh_bad x hx L op (by omega) hb w hgl A3 c3 A4 c4
   ·have hp : plainD x = true := by
     cases h : plainD x with
     | true => rfl
     | false => exact absurd (.inl h) hb
    have hk16 : ¬ (x.f0 > 3 ∧ op = 16) := fun h => hb (.inr h)
    have hpl : plainD ⟨x.f0, x.f1, x.f2, x.f3, x.f4⟩ = true := hp
    refine weigh_kids x hx hp L op (by omega) ho hk16 (fun hne => ?_) (optI (weighD x (L + 1) op)) (fun hg => ?_) (fun hn => ?_) ih w hgl A3 c3 A4 c4 l3 g3 l4 g4
    ·have h4 : x.f0 > 3 := by
      rcases plain_cases hpl with ⟨_, _, _, _, e⟩ | ⟨_, _, _, _, e⟩ | ⟨_, _, _, e⟩ | ⟨_, _, _, e, _⟩ | ⟨e, _⟩ | ⟨e, _⟩
      ·exact absurd e hne
      ·exact absurd e hne
      ·exact absurd e hne
      ·exact absurd e hne
      ·rw [e]; decide
      ·rw [e]; decide
     have : op ≠ 16 := fun h => hk16 ⟨h4, h⟩
     omega
    ·rw [weighD_eq, if_neg (by rw [hp, (namesD_good x.f3).2 hg]; simp; omega)]
    ·rw [weighD_eq]
     by_cases hnm : namesD x.f3 = true
     ·have hlt : L < x.f3.length := Nat.lt_of_not_le (fun hle => hn ⟨hle, (namesD_good x.f3).1 hnm⟩)
      have hl4 : x.f3.length = x.f4.length := by
       rcases plain_cases hpl with ⟨_, _, _, e, _⟩ | ⟨_, _, _, e, _⟩ | ⟨_, _, e, _⟩ | ⟨_, _, e, _⟩ | ⟨_, _, _, e⟩ | ⟨_, _, _, e⟩
       ·rw [e] at hlt; cases hlt
       ·rw [e] at hlt; cases hlt
       ·rw [e] at hlt; cases hlt
       ·rw [e] at hlt; cases hlt
       ·rw [e] at hlt; cases hlt
       ·exact e
      rw [weighL_many (by omega)]
      split <;> rfl
     ·rw [if_pos (.inr (.inr (by simpa using hnm)))]
      rfl
set_option maxHeartbeats 4000000 in
/-- The reference's Right. -/
theorem rRight_c (x : DT) (hx : OkD x) (w : World) (hgl : GL w) (A3 : Option Addr) (c3 : Nat) (A4 : Option Addr) (c4 : Nat) (l3 : x.f3.length ≤ c3) (g3 : Kd.string.C w A3 x.f3.length x.f3) (l4 : x.f4.length ≤ c4) (g4 : k25.C w A4 x.f4.length x.f4) :
  Calls Tryz.prog 10 #[aggD x A3 c3 A4 c4] w fun e w' => e = .returned (.bool (rightD x)) ∧ Below w.heap.size w w' := by
 have HB := Aside0.mk (below_alloc (Below.refl w.heap.size w) (xBox x A3 c3 A4 c4))
 have CW := Aside0.mk (weigh_c x hx 2000 0 (by omega) (by omega) _ (hgl.below HB.out) A3 c3 A4 c4 l3 (Kd.string.C_below g3 HB.out) l4 (k25.C_below g4 HB.out))
 rw [show ((2000 : Nat) : Int) = 2000 from rfl, show ((0 : Nat) : Int) = 0 from rfl] at CW
 unfold rightD
 clear hgl g3 g4 hx
 cases hwd : weighD x 2000 0 with
 | none =>
  rw [hwd, show optI none = -1 from rfl] at CW
  clear hwd
  go_enter Tryz.func10, Tryz.ntmps10
  go_wp2_with (go_at_call 22; go_loud (with_reducible refine CW.out.mono ?_); rintro e w1 ⟨rfl, hb⟩; have HB1 := Aside0.mk (below_then HB.out HB.out.size hb); clear hb)
  go_ret
  exact ⟨rfl, HB1.out⟩
 | some r =>
  rw [hwd, show optI (some r) = (r : Int) from rfl] at CW
  clear hwd
  have hr : decide (0 ≤ (r : Int)) = true := decide_eq_true (by omega)
  go_enter Tryz.func10, Tryz.ntmps10
  go_wp2_with (go_at_call 22; go_loud (with_reducible refine CW.out.mono ?_); rintro e w1 ⟨rfl, hb⟩; have HB1 := Aside0.mk (below_then HB.out HB.out.size hb); clear hb)
  go_ret
  exact ⟨rfl, HB1.out⟩
end Go.Proofs.YtidcecpbihmloaaGreatDoorE

namespace Go.Proofs.YtidcecpbihmloaaGreatDoorE
open Go Go.RowKit Go.Proofs.YtidcecpbihmloaaGreatDoorW.PrintWords Go.Proofs.YtidcecpbihmloaaGreatDoorW.PrintMore Go.Proofs.YtidcecpbihmloaaGreatDoorW.PrintLast Go.Proofs.YtidcecpbihmloaaGreatDoorX Go.Proofs.YtidcecpbihmloaaGreatDoor.P16 Go.Proofs.YtidcecpbihmloaaGreatDoor.M02
set_option linter.unusedVariables false
set_option linter.unusedSimpArgs false
set_option maxRecDepth 100000
/-- What a member's piece makes of what is read. -/
def tailR (n : Nat) (s : ByteArray) (deep : Nat) (b : Bool) (x : DT) (R1 : Res DT) : Res DT := match R1 with
 | .err p c => .err p c
 | .ok d a r => if nxt s a 44 = true then membersS n ((B s).drop (a + 1)) (a + 1) (deep + 1) b x.f3 (x.f4 ++ [d]) else if nxt s a (shutB b) = true then .ok ⟨kindB b, 0, em, x.f3, x.f4 ++ [d]⟩ (a + 1) ((B s).drop (a + 1)) else .err a 2
theorem tailS_eq (n : Nat) (s : ByteArray) (a deep : Nat) (b : Bool) (x : DT) : tailS (n + 1) ((B s).drop a) a (deep + 1) b x.f3 x.f4 = tailR n s deep b x (pieceS n ((B s).drop a) a (deep + 1)) := by
 rw [tailS]
 unfold tailR
 cases hp : (pieceS n ((B s).drop a) a (deep + 1) : Res DT) with
 | err p c => rfl
 | ok d a2 r =>
  obtain ⟨k, _, h2, h3⟩ := piece_at hp
  rw [List.drop_drop] at h3
  have e : r = (B s).drop a2 := by rw [h3, h2]
  have e44 : (((B s).drop a2).head? = some 44) ↔ nxt s a2 44 = true := by unfold nxt; rw [beq_iff_eq]
  have esh : (((B s).drop a2).head? = some (if b then 125 else 93)) ↔ nxt s a2 (shutB b) = true := by unfold nxt shutB; rw [beq_iff_eq]
  simp only [e, e44, esh, List.drop_drop]
  rfl
/-- What is known where a member's piece is read. -/
structure TailI (s : ByteArray) (n : Nat) (x : DT) (R1 : Res DT) : Prop where
 len : x.f4.length ≤ 1000000000
 ok : ∀ d a r, R1 = .ok d a r → a ≤ s.size ∧ 3 * (s.size - a) ≤ n ∧ x.f3.length ≤ a + 1 ∧ x.f4.length ≤ a
 err : ∀ p c, R1 = .err p c → c ≠ 0
theorem tail_of (s : ByteArray) (n a deep : Nat) (b : Bool) (x : DT) (ha : a ≤ s.size) (hs : s.size ≤ 1000000000) (hn : 3 * (s.size - a) ≤ n) (h3 : x.f3.length ≤ a) (h4 : x.f4.length ≤ a) : TailI s n x (pieceS n ((B s).drop a) a (deep + 1)) := by
 refine ⟨by omega, fun d a2 r h => ?_, fun p c h => ?_⟩
 ·obtain ⟨k, h1, h2, _⟩ := piece_at h
  rw [List.length_drop, B_len] at h1
  refine ⟨by omega, by omega, by omega, by omega⟩
 ·rcases (err_code _).1 _ _ _ _ _ h with e | e <;> rw [e] <;> decide
/-- What a call has made is of its own. -/
theorem made_low {w' W : World} {b : Nat} {d : DT} {cs : List Value} (h : k25.M w' W.drew.heap.size (fun _ => True) d cs) (hb : b < W.heap.size) : k25.M w' (b + 1) (fun k => W.heap.size ≤ k) d cs :=
 k25.M_lower (show b + 1 ≤ W.heap.size by omega) (k25.M_mono (fun k hk => hk.2.1) (k25.M_bound (show k25.M w' W.heap.size (fun _ => True) d cs from h)))
theorem new_ok {b k : Nat} {x : DT} {v3 v4 : Value} {W : World} (h : DL b x v3 v4 W) (hk : W.heap.size ≤ k) : (b < k ∧ some k ≠ v3.ownBlock) ∧ some k ≠ v4.ownBlock := by
 have := h.lt
 refine ⟨⟨by omega, fun e => ?_⟩, fun e => ?_⟩
 ·have := Kd.R_lt h.r3 k e.symm; omega
 ·have := Kd.R_lt h.r4 k e.symm; omega
end Go.Proofs.YtidcecpbihmloaaGreatDoorE

namespace Go.Proofs.YtidcecpbihmloaaGreatDoorE
open Go Go.RowKit Go.Proofs.YtidcecpbihmloaaGreatDoorW.PrintWords Go.Proofs.YtidcecpbihmloaaGreatDoorW.PrintMore Go.Proofs.YtidcecpbihmloaaGreatDoorW.PrintLast Go.Proofs.YtidcecpbihmloaaGreatDoorX Go.Proofs.YtidcecpbihmloaaGreatDoor.P16 Go.Proofs.YtidcecpbihmloaaGreatDoor.M02
set_option linter.unusedVariables false
set_option linter.unusedSimpArgs false
set_option maxRecDepth 100000
theorem members_rec (n : Nat) (s : ByteArray) (a deep : Nat) (x : DT) : membersS (n + 2) ((B s).drop a) a (deep + 1) true x.f3 x.f4 = (if namedS true (((B s).drop a).takeWhile isNam) = true then (if nxt s (a + (((B s).drop a).takeWhile isNam).length) 61 = true then tailS (n + 1) ((B s).drop (a + (((B s).drop a).takeWhile isNam).length + 1)) (a + (((B s).drop a).takeWhile isNam).length + 1) (deep + 1) true (x.f3 ++ [mkB (((B s).drop a).takeWhile isNam)]) x.f4 else .err (a + (((B s).drop a).takeWhile isNam).length) 2) else .err a 2) := by
 rw [membersS, if_pos rfl, drop_len, List.drop_drop, List.drop_drop]
 have e : (((B s).drop (a + (((B s).drop a).takeWhile isNam).length)).head? = some 61) ↔ nxt s (a + (((B s).drop a).takeWhile isNam).length) 61 = true := by unfold nxt; rw [beq_iff_eq]
 simp only [e]
end Go.Proofs.YtidcecpbihmloaaGreatDoorE

namespace Go.Proofs.YtidcecpbihmloaaGreatDoorE
open Go Go.RowKit Go.Proofs.YtidcecpbihmloaaGreatDoorW.PrintWords Go.Proofs.YtidcecpbihmloaaGreatDoorW.PrintMore Go.Proofs.YtidcecpbihmloaaGreatDoorW.PrintLast Go.Proofs.YtidcecpbihmloaaGreatDoorX Go.Proofs.YtidcecpbihmloaaGreatDoor.P16 Go.Proofs.YtidcecpbihmloaaGreatDoor.M02
set_option linter.unusedVariables false
set_option linter.unusedSimpArgs false
set_option maxRecDepth 100000
theorem pieceS_end (n : Nat) (s : ByteArray) (a deep : Nat) (h : s.size ≤ a) : (pieceS (n + 1) ((B s).drop a) a deep : Res DT) = .err a 2 := by
 rw [List.drop_of_length_le (by rw [B_len]; exact h), pieceS]
theorem at_lt {s : ByteArray} {a : Nat} (h : a < s.size) : a < (B s).length := by rw [B_len]; exact h
theorem pieceS_let (n : Nat) (s : ByteArray) (a deep : Nat) (h : a < s.size) (hc : isLet ((B s)[a]'(at_lt h)) = true) :
  (pieceS (n + 1) ((B s).drop a) a deep : Res DT) = match wordD (((B s).drop a).takeWhile isLet) with
   | some d => .ok d (a + (((B s).drop a).takeWhile isLet).length) ((B s).drop (a + (((B s).drop a).takeWhile isLet).length))
   | none => .err a 2 := by
 rw [← List.drop_drop, ← drop_len]
 conv => lhs; rw [List.drop_eq_getElem_cons (at_lt h)]
 rw [pieceS, if_pos hc, ← List.drop_eq_getElem_cons (at_lt h)]
 try (cases (wordD (((B s).drop a).takeWhile isLet) : Option DT) <;> rfl)
theorem pieceS_dig (n : Nat) (s : ByteArray) (a deep : Nat) (h : a < s.size) (hl : isLet ((B s)[a]'(at_lt h)) = false) (hc : isDig ((B s)[a]'(at_lt h)) = true) :
  (pieceS (n + 1) ((B s).drop a) a deep : Res DT) = if (wholeS (((B s).drop a).takeWhile isDig)).2 = true then .ok ⟨2, (wholeS (((B s).drop a).takeWhile isDig)).1, em, [], []⟩ (a + (((B s).drop a).takeWhile isDig).length) ((B s).drop (a + (((B s).drop a).takeWhile isDig).length)) else .err a 2 := by
 rw [← List.drop_drop, ← drop_len]
 conv => lhs; rw [List.drop_eq_getElem_cons (at_lt h)]
 rw [pieceS, if_neg (by rw [hl]; decide), if_pos hc, ← List.drop_eq_getElem_cons (at_lt h)]
theorem pieceS_quo (n : Nat) (s : ByteArray) (a deep : Nat) (h : a < s.size) (hc : (B s)[a]'(at_lt h) = 34) :
  (pieceS (n + 1) ((B s).drop a) a deep : Res DT) = textD ((B s).drop (a + 1)) (a + 1) := by
 rw [List.drop_eq_getElem_cons (at_lt h), pieceS, hc, if_neg (by decide), if_neg (by decide), if_pos rfl]
theorem pieceS_open (n : Nat) (s : ByteArray) (a deep : Nat) (h : a < s.size) (b : Bool) (hc : (B s)[a]'(at_lt h) = if b then 123 else 91) :
  (pieceS (n + 1) ((B s).drop a) a deep : Res DT) = if 16 ≤ deep then .err a 11 else allS n s (a + 1) deep b := by
 have e : ∀ c : UInt8, (((B s).drop (a + 1)).head? = some c) ↔ nxt s (a + 1) c = true := fun c => by unfold nxt; rw [beq_iff_eq]
 unfold allS
 cases b with
 | true =>
  have hc' : (B s)[a]'(at_lt h) = 123 := hc
  rw [List.drop_eq_getElem_cons (at_lt h), pieceS, hc', if_neg (by decide), if_neg (by decide), if_neg (by decide), if_pos (.inr rfl)]
  simp only [e, shutB, kindB, List.drop_drop]
  rfl
 | false =>
  have hc' : (B s)[a]'(at_lt h) = 91 := hc
  rw [List.drop_eq_getElem_cons (at_lt h), pieceS, hc', if_neg (by decide), if_neg (by decide), if_neg (by decide), if_pos (.inl rfl)]
  simp only [e, shutB, kindB, List.drop_drop]
  rfl
theorem pieceS_bad (n : Nat) (s : ByteArray) (a deep : Nat) (h : a < s.size) (hl : isLet ((B s)[a]'(at_lt h)) = false) (hd : isDig ((B s)[a]'(at_lt h)) = false) (h34 : (B s)[a]'(at_lt h) ≠ 34) (h91 : (B s)[a]'(at_lt h) ≠ 91) (h123 : (B s)[a]'(at_lt h) ≠ 123) :
  (pieceS (n + 1) ((B s).drop a) a deep : Res DT) = .err a 2 := by
 rw [List.drop_eq_getElem_cons (at_lt h), pieceS, if_neg (by rw [hl]; decide), if_neg (by rw [hd]; decide), if_neg h34, if_neg (fun e => e.elim h91 h123)]
/-- The slices of what has been made. -/
theorem made_slices {w : World} {base : Nat} {ok : Nat → Prop} {x : DT} {v3 v4 : Value} (h : k25.M w base ok x [.int .i64 x.f0, .int .i64 x.f1, .string x.f2, v3, v4]) : ∃ A3 c3 A4 c4, v3 = .slice A3 x.f3.length c3 ∧ v4 = .slice A4 x.f4.length c4 := by
 obtain ⟨u3, u4, he, h3, h4⟩ := k25_openM h
 injection he with _ he
 injection he with _ he
 injection he with _ he
 injection he with e3 he
 injection he with e4 _
 obtain ⟨A3, c3, r3⟩ := Kd.R_slice h3
 obtain ⟨A4, c4, r4⟩ := Kd.R_slice h4
 exact ⟨A3, c3, A4, c4, e3.trans r3, e4.trans r4⟩
theorem made_of {w' W : World} {b : Nat} {d : DT} {cs : List Value} (h : k25.M w' W.heap.size (fun _ => True) d cs) (hb : b ≤ W.heap.size) : k25.M w' b (fun k => W.heap.size ≤ k) d cs :=
 k25.M_lower hb (k25.M_mono (fun k hk => hk.2.1) (k25.M_bound h))
end Go.Proofs.YtidcecpbihmloaaGreatDoorE

namespace Go.Proofs.YtidcecpbihmloaaGreatDoorE
open Go Go.RowKit Go.Proofs.YtidcecpbihmloaaGreatDoorW.PrintWords Go.Proofs.YtidcecpbihmloaaGreatDoorX Go.Proofs.YtidcecpbihmloaaGreatDoor.P16 Go.Proofs.YtidcecpbihmloaaGreatDoor.M02
set_option linter.unusedVariables false
set_option linter.unusedSimpArgs false
theorem okD_leaf {k n : Int} {t : ByteArray} (h0 : 0 ≤ k ∧ k ≤ 5) (h1 : -9223372036854775808 ≤ n ∧ n ≤ 9223372036854775807) (h2 : t.size ≤ 140737488351232) : OkD (⟨k, n, t, [], []⟩ : DT) :=
 .mk _ ⟨by show -9223372036854775808 ≤ k; omega, by show k ≤ 9223372036854775807; omega⟩ h1 h2 (Nat.zero_le _) (fun s hs => by cases hs) (Nat.zero_le _) (fun y hy => by cases hy)
theorem hd_len {l : List UInt8} {c : UInt8} (h : l.head? = some c) : (l.drop 1).length + 1 = l.length := by
 cases l with
 | nil => simp at h
 | cons c t => simp
theorem tw_le' {α : Type} (p : α → Bool) (l : List α) : (l.takeWhile p).length ≤ l.length := (List.takeWhile_sublist p).length_le
theorem dw_le {α : Type} (p : α → Bool) (l : List α) : (l.dropWhile p).length ≤ l.length := (List.dropWhile_sublist p).length_le
theorem textD_ok {t : List UInt8} {a a' : Nat} {d : DT} {r : List UInt8} (hl : t.length ≤ 1000000000) (h : textD t a = .ok d a' r) : OkD d ∧ r.length ≤ t.length := by
 unfold textD at h
 by_cases he : (unS (t.take (stopS t)) 0 []).2.2 ≠ 0
 ·rw [if_pos he] at h; cases h
 rw [if_neg he] at h
 by_cases hq : (t.drop (stopS t)).head? = some 34
 ·rw [if_pos hq] at h
  injection h with h1 h2 h3
  refine ⟨?_, by rw [← h3, List.length_drop]; omega⟩
  rw [← h1]
  refine okD_leaf (by decide) (by decide) ?_
  rw [mkB_size]
  have hb := un_back (t.take (stopS t)) (by simpa using he)
  have hg := Go.Proofs.YtidcecpbihmloaaGreatDoor.K04.escS_ge (unS (t.take (stopS t)) 0 []).1
  rw [hb, List.length_take] at hg
  omega
 ·rw [if_neg hq] at h; cases h
theorem okD_read (n : Nat) :
  (∀ (l : List UInt8) (a deep : Nat) (d : DT) (a' : Nat) (r : List UInt8), l.length ≤ 1000000000 → pieceS n l a deep = .ok d a' r → OkD d ∧ r.length ≤ l.length)
  ∧ (∀ (l : List UInt8) (a deep : Nat) (b : Bool) (ns0 : List ByteArray) (ds0 : List DT) (d : DT) (a' : Nat) (r : List UInt8), ns0.length + l.length ≤ 1000000000 → (∀ s ∈ ns0, s.size ≤ 1000000000) → ds0.length + l.length ≤ 1000000000 → (∀ y ∈ ds0, OkD y) → membersS n l a deep b ns0 ds0 = .ok d a' r → OkD d ∧ r.length ≤ l.length)
  ∧ (∀ (l : List UInt8) (a deep : Nat) (b : Bool) (ns0 : List ByteArray) (ds0 : List DT) (d : DT) (a' : Nat) (r : List UInt8), ns0.length + l.length ≤ 1000000000 → (∀ s ∈ ns0, s.size ≤ 1000000000) → ds0.length + l.length ≤ 1000000000 → (∀ y ∈ ds0, OkD y) → tailS n l a deep b ns0 ds0 = .ok d a' r → OkD d ∧ r.length ≤ l.length) := by
 induction n with
 | zero =>
  refine ⟨?_, ?_, ?_⟩
  ·intro l a deep d a' r _ h; simp [pieceS] at h
  ·intro l a deep b ns0 ds0 d a' r _ _ _ _ h; simp [membersS] at h
  ·intro l a deep b ns0 ds0 d a' r _ _ _ _ h; simp [tailS] at h
 | succ n ih =>
  obtain ⟨ihP, ihM, ihT⟩ := ih
  refine ⟨?_, ?_, ?_⟩
  ·intro l a deep d a' r hl h
   cases l with
   | nil => simp [pieceS] at h
   | cons c t =>
    rw [List.length_cons] at hl
    rw [pieceS] at h
    split at h
    ·split at h
     ·rename_i x hw
      injection h with h1 h2 h3
      refine ⟨?_, by rw [← h3]; exact dw_le _ _⟩
      rw [← h1]
      unfold wordD at hw
      split at hw
      ·injection hw with hw; rw [← hw]; exact okD_leaf (by decide) (by decide) (by decide)
      split at hw
      ·injection hw with hw; rw [← hw]; exact okD_leaf (by decide) (by decide) (by decide)
      split at hw
      ·injection hw with hw; rw [← hw]; exact okD_leaf (by decide) (by decide) (by decide)
      ·cases hw
     ·cases h
    split at h
    ·split at h
     ·rename_i hw
      injection h with h1 h2 h3
      refine ⟨?_, by rw [← h3]; exact dw_le _ _⟩
      rw [← h1]
      exact okD_leaf (by decide) (whole_of hw).1 (by decide)
     ·cases h
    split at h
    ·have := textD_ok (by omega) h
     exact ⟨this.1, by rw [List.length_cons]; omega⟩
    by_cases hc : c = 91 ∨ c = 123
    ·rw [if_pos hc] at h
     by_cases hd : 16 ≤ deep
     ·rw [if_pos hd] at h; cases h
     ·rw [if_neg hd] at h
      by_cases ht : t.head? = some (if c = 123 then 125 else 93)
      ·rw [if_pos ht] at h
       injection h with h1 h2 h3
       refine ⟨?_, by rw [← h3, List.length_drop, List.length_cons]; omega⟩
       rw [← h1]
       exact okD_leaf (by split <;> decide) (by decide) (by decide)
      ·rw [if_neg ht] at h
       have := ihM _ _ _ _ _ _ _ _ _ (by simp; omega) (fun s hs => by cases hs) (by simp; omega) (fun y hy => by cases hy) h
       exact ⟨this.1, by rw [List.length_cons]; omega⟩
    ·rw [if_neg hc] at h; cases h
  ·intro l a deep b ns0 ds0 d a' r hn hns hdl hds h
   rw [membersS] at h
   cases b with
   | false => rw [if_neg (by simp)] at h; exact ihT _ _ _ _ _ _ _ _ _ hn hns hdl hds h
   | true =>
    rw [if_pos rfl] at h
    split at h
    ·split at h
     ·rename_i h61
      have h1 := hd_len h61
      have h2 := dw_le isNam l
      have h3 := tw_le' isNam l
      have := ihT _ _ _ _ _ _ _ _ _ (by rw [List.length_append, List.length_singleton]; omega) (fun s hs => by
       rcases List.mem_append.1 hs with hs | hs
       ·exact hns s hs
       ·rw [List.mem_singleton.1 hs, mkB_size]; omega) (by omega) hds h
      exact ⟨this.1, by omega⟩
     ·cases h
    ·cases h
  ·intro l a deep b ns0 ds0 d a' r hn hns hdl hds h
   rw [tailS] at h
   cases hp : (pieceS n l a deep : Res DT) with
   | err u v => rw [hp] at h; cases h
   | ok e a1 r1 =>
    rw [hp] at h
    obtain ⟨he, hr1⟩ := ihP _ _ _ _ _ _ (by omega) hp
    have hds' : ∀ y ∈ ds0 ++ [e], OkD y := fun y hy => by
     rcases List.mem_append.1 hy with hy | hy
     ·exact hds y hy
     ·rw [List.mem_singleton.1 hy]; exact he
    simp only at h
    split at h
    ·rename_i h44
     have h1 := hd_len h44
     have := ihM _ _ _ _ _ _ _ _ _ (by omega) hns (by rw [List.length_append, List.length_singleton]; omega) hds' h
     exact ⟨this.1, by omega⟩
    by_cases hsh : r1.head? = some (if b then 125 else 93)
    ·rw [if_pos hsh] at h
     injection h with h1 h2 h3
     have h4 := hd_len hsh
     refine ⟨?_, by rw [← h3]; omega⟩
     rw [← h1]
     refine .mk _ (by show -9223372036854775808 ≤ (if b then (5 : Int) else 4) ∧ (if b then (5 : Int) else 4) ≤ 9223372036854775807; split <;> decide) (by show (-9223372036854775808 : Int) ≤ 0 ∧ (0 : Int) ≤ 9223372036854775807; decide) (by show (em : ByteArray).size ≤ _; decide) (by show ns0.length ≤ _; omega) (fun s hs => Nat.le_trans (hns s hs) (by decide)) (by show (ds0 ++ [e]).length ≤ _; rw [List.length_append, List.length_singleton]; omega) hds'
    ·rw [if_neg hsh] at h; cases h
theorem okD_piece {n : Nat} {s : ByteArray} {a deep : Nat} {d : DT} {a' : Nat} {r : List UInt8} (hs : s.size ≤ 1000000000) (h : pieceS n ((B s).drop a) a deep = .ok d a' r) : OkD d :=
 ((okD_read n).1 _ _ _ _ _ _ (by rw [List.length_drop, B_len]; omega) h).1
end Go.Proofs.YtidcecpbihmloaaGreatDoorE

namespace Go.Proofs.YtidcecpbihmloaaGreatDoorE
open Go Go.RowKit Go.Proofs.YtidcecpbihmloaaGreatDoorW.PrintWords Go.Proofs.YtidcecpbihmloaaGreatDoorW.PrintMore Go.Proofs.YtidcecpbihmloaaGreatDoorW.PrintLast Go.Proofs.YtidcecpbihmloaaGreatDoorX Go.Proofs.YtidcecpbihmloaaGreatDoor.P16 Go.Proofs.YtidcecpbihmloaaGreatDoor.M02
set_option linter.unusedVariables false
set_option linter.unusedSimpArgs false
set_option maxRecDepth 100000
/-- What Parse hands back. -/
def parseP (w : World) (p : DT × Nat × Int) (e : Ending) (w' : World) : Prop :=
 Below w.heap.size w w' ∧ ∃ A3 c3 A4 c4, e = .returned (.tuple #[aggD p.1 A3 c3 A4 c4, .int .i64 (p.2.1 : Int), .int .i64 p.2.2]) ∧ p.1.f3.length ≤ c3 ∧ Kd.string.C w' A3 p.1.f3.length p.1.f3 ∧ p.1.f4.length ≤ c4 ∧ k25.C w' A4 p.1.f4.length p.1.f4
theorem made_open {w : World} {base : Nat} {ok : Nat → Prop} {x : DT} {A3 : Option Addr} {c3 : Nat} {A4 : Option Addr} {c4 : Nat} (h : k25.M w base ok x (dCells x (.slice A3 x.f3.length c3) (.slice A4 x.f4.length c4))) : x.f3.length ≤ c3 ∧ Kd.string.C w A3 x.f3.length x.f3 ∧ x.f4.length ≤ c4 ∧ k25.C w A4 x.f4.length x.f4 := by
 obtain ⟨B3, d3, B4, d4, he, l3, g3, l4, g4⟩ := k25_open (k25.K_of_M h)
 injection he with _ he
 injection he with _ he
 injection he with _ he
 injection he with e3 he
 injection he with e4 _
 injection e3 with a3 _ b3
 injection e4 with a4 _ b4
 rw [a3, b3, a4, b4]
 exact ⟨l3, g3, l4, g4⟩
theorem finP {w W : World} {p : DT × Nat × Int} {A3 : Option Addr} {c3 : Nat} {A4 : Option Addr} {c4 : Nat} {base : Nat} {ok : Nat → Prop} (hB : Below w.heap.size w W) (hM : k25.M W base ok p.1 (dCells p.1 (.slice A3 p.1.f3.length c3) (.slice A4 p.1.f4.length c4))) (hok : ∀ k, ok k → k ≠ w.heap.size) :
  parseP w p (.returned (.tuple #[aggD p.1 A3 c3 A4 c4, .int .i64 (p.2.1 : Int), .int .i64 p.2.2])) (set5 W w.heap.size (.int .i64 p.1.f0) (.int .i64 p.1.f1) (.string p.1.f2) (.slice A3 p.1.f3.length c3) (.slice A4 p.1.f4.length c4)) :=
 ⟨below5 hB (Nat.le_refl _) _ _ _ _ _, A3, c3, A4, c4, rfl, made_open (made5 hM hok _ _ _ _ _)⟩
/-- What a reading makes of all of a text. -/
def pOf : Res DT → DT × Nat × Int
 | .err a e => (zeroD, a, e)
 | .ok d a r => if r ≠ [] then (zeroD, a, 2) else if rightD d then (d, 0, 0) else (zeroD, 0, 24)
theorem parseS_of (l : List UInt8) : parseS l = pOf (pieceS (3 * l.length + 1) l 0 0) := by
 unfold parseS pOf
 cases (pieceS (3 * l.length + 1) l 0 0 : Res DT) <;> rfl
theorem zeroM (W : World) (base : Nat) (ok : Nat → Prop) : k25.M W base ok zeroD (dCells zeroD (.slice none zeroD.f3.length 0) (.slice none zeroD.f4.length 0)) := k25_mkM W base ok zeroD (Kd.R_nil _ _ _ _ _) (Kd.R_nil _ _ _ _ _)
theorem drew_blk {W : World} {p : Nat} {o : Obj} (h : W.heap[p]? = some o) : W.drew.heap[p]? = some o := h
theorem finPd {w W : World} {p : DT × Nat × Int} {A3 : Option Addr} {c3 : Nat} {A4 : Option Addr} {c4 : Nat} {base : Nat} {ok : Nat → Prop} (hB : Below w.heap.size w W) (hM : k25.M W base ok p.1 (dCells p.1 (.slice A3 p.1.f3.length c3) (.slice A4 p.1.f4.length c4))) (hok : ∀ k, ok k → k ≠ w.heap.size) :
  parseP w p (.returned (.tuple #[aggD p.1 A3 c3 A4 c4, .int .i64 (p.2.1 : Int), .int .i64 p.2.2])) (set5 W w.heap.size (.int .i64 p.1.f0) (.int .i64 p.1.f1) (.string p.1.f2) (.slice A3 p.1.f3.length c3) (.slice A4 p.1.f4.length c4)).drew :=
 ⟨below_drew (below5 hB (Nat.le_refl _) _ _ _ _ _), A3, c3, A4, c4, rfl, made_open (Kd.M_below (made5 hM hok _ _ _ _ _) (below_drew (Below.refl _ _)))⟩
end Go.Proofs.YtidcecpbihmloaaGreatDoorE

namespace Go.Proofs.YtidcecpbihmloaaGreatDoorE
open Go Go.RowKit Go.Proofs.YtidcecpbihmloaaGreatDoorW.PrintWords Go.Proofs.YtidcecpbihmloaaGreatDoorW.PrintMore Go.Proofs.YtidcecpbihmloaaGreatDoorW.PrintLast Go.Proofs.YtidcecpbihmloaaGreatDoorX Go.Proofs.YtidcecpbihmloaaGreatDoor.P16 Go.Proofs.YtidcecpbihmloaaGreatDoor.M02
set_option linter.unusedVariables false
set_option linter.unusedSimpArgs false
set_option maxRecDepth 100000
theorem kept_blk {w w' : World} {b q : Nat} {cs : Array Value} (h : Lib.OthersKept 5 (some b) w w') (hb : w.heap[q]? = some (.cells cs 25 (0, 0))) (hne : q ≠ b) : w'.heap[q]? = some (.cells cs 25 (0, 0)) :=
 h q _ hb (by simp; exact hne) (fun c fz e => by injection e with _ e; exact absurd e (by decide))
theorem WAt.lt {w0 w : World} {b : Nat} {out : List UInt8} (h : WAt w0 w b out) : b < w.heap.size := h.bld.elim (fun x => x.lt) (fun x => x.lt)
theorem weigh_mem : ∀ {l : List DT} {left op r : Nat}, weighL l left op = some r → ∀ x ∈ l, ∃ left' op' r', weighD x left' op' = some r'
 | [], _, _, _, _, x, hx => by cases hx
 | d :: l, left, op, r, h, x, hx => by
  rw [weighL] at h
  cases hd : weighD d left op with
  | none => rw [hd] at h; cases h
  | some q =>
   rw [hd] at h
   rcases List.mem_cons.1 hx with rfl | hx
   ·exact ⟨left, op, q, hd⟩
   ·exact weigh_mem h x hx
set_option maxHeartbeats 8000000 in
theorem writeAll_list (x : DT) (hx : OkD x) (hk : x.f0 = 4) (left op r : Nat) (hw : weighL x.f4 left op = some r) (hns : ∀ s ∈ x.f3, namedS true s.data.toList = true) (hnl : True) (ih : ∀ y ∈ x.f4, writeC y) (b : Nat) (out : List UInt8) (w0 w : World) (hgl : GL w0) (A3 : Option Addr) (c3 : Nat) (A4 : Option Addr) (c4 : Nat) (l3 : x.f3.length ≤ c3) (g3 : Kd.string.C w0 A3 x.f3.length x.f3) (l4 : x.f4.length ≤ c4) (g4 : k25.C w0 A4 x.f4.length x.f4) (hl : out.length + (printL false x.f3 x.f4).length + 2 ≤ 2000000000) (h : WAt w0 w b out) :
  Calls Tryz.prog 49 #[.pointer (some ⟨b, 0, none⟩), aggD x A3 c3 A4 c4, .string ⟨#[91]⟩, .string ⟨#[93]⟩] w (writeP w0 w b (out ++ (91 :: (printL false x.f3 x.f4 ++ [93])))) := by
 have HA := Aside0.mk (h.below (below_alloc (Below.refl _ w) (dBox x A3 c3 A4 c4)))
 have HK := Aside0.mk (kept_of_below (e := 5) (b := some b) (below_alloc (Below.refl _ w) (dBox x A3 c3 A4 c4)))
 have HBX := Aside0.mk (heap_alloc_new w (dBox x A3 c3 A4 c4))
 have hbw : b < w.heap.size := h.lt
 have HG := Aside0.mk hgl
 have H3 := Aside0.mk g3
 have H4 := Aside0.mk g4
 have IH := Aside0.mk ih
 have HW := Aside0.mk hw
 have HNS := Aside0.mk hns
 have HNL := Aside0.mk hnl
 have hN3 : x.f3.length ≤ 140737488351232 := hx.out.2.2.2.1
 have hN4 : x.f4.length ≤ 140737488351232 := hx.out.2.2.2.2.2.1
 have HC : Aside0 (Calls Tryz.prog 46 #[.pointer (some ⟨b, 0, none⟩), .string ⟨#[91]⟩] (w.alloc (dBox x A3 c3 A4 c4)) fun e w' => e = .returned (.tuple #[.int .i64 1, .nilIface]) ∧ WAt w0 w' b (out ++ [91]) ∧ Lib.OthersKept 5 (some b) (w.alloc (dBox x A3 c3 A4 c4)) w') := ⟨wstr_c w0 _ b out ⟨#[91]⟩ HA.out (by show out.length + 1 ≤ _; omega)⟩
 have HKD := Aside0.mk hk
 have hkb : (x.f0 == 5) = false := by rw [hk]; rfl
 have HL := Aside0.mk hl
 clear h hgl g3 g4 ih hw hns hnl hk hx
 go_enter Tryz.func49, Tryz.ntmps49
 go_wp2_with (go_at_call 46; go_loud (with_reducible refine HC.out.mono ?_); rintro e w1 ⟨rfl, h5, hk5⟩; have H1 := Aside0.mk h5; have HK1 := Aside0.mk hk5; have HBX1 := kept_blk hk5 HBX.out (by omega); have b4 := (blk_cell HBX1 4).trans rfl; clear h5 hk5 HBX1)
 go_loopg [16] x.f4.length (fun gk i wr => ∃ k : Nat, k ≤ x.f4.length ∧ i = .int .i64 k ∧ Aside0 (k + gk = x.f4.length ∧ ∃ acc : List UInt8, WAt w0 wr b acc ∧ acc ++ restS false k (x.f3.drop k) (x.f4.drop k) = out ++ (91 :: printL false x.f3 x.f4) ∧ Lib.OthersKept 5 (some b) (w.alloc (dBox x A3 c3 A4 c4)) wr))
 case atStart => exact ⟨0, by omega, rfl, ⟨by omega, _, H1.out, by rw [List.drop_zero, List.drop_zero]; show out ++ [91] ++ printL false x.f3 x.f4 = _; simp, HK1.out⟩⟩
 case round =>
  clear b4 HC H1 HK1
  obtain ⟨k, hk, rfl, HV⟩ := hrel
  obtain ⟨hkg, acc, hA, hE, hK⟩ := HV.out
  have HAT := Aside0.mk hA
  have HE := Aside0.mk hE
  have HKK := Aside0.mk hK
  have HN := Aside0.mk hkg
  have hBR := kept_blk hK HBX.out (by omega)
  have HBR := Aside0.mk hBR
  have hbl := hA.lt
  clear HV hkg hA hE hK hBR
  by_cases hlt : k < x.f4.length
  ·obtain ⟨ad, A3q, c3q, A4q, c4q, hA4, a0, a1, a2, a3, a4, hl3, hC3, hl4, hC4⟩ := at_T25 H4.out (k : Int) (by omega) (by omega)
   obtain ⟨y, hy⟩ : ∃ y, y = rd_T25 x.f4 (k : Int) := ⟨_, rfl⟩
   have HTK := Aside0.mk (rd_take x.f4 k hlt)
   rw [← hy] at a0 a1 a2 a3 a4 hl3 hC3 hl4 hC4 HTK
   have HDR := Aside0.mk (show x.f4.drop k = y :: x.f4.drop (k + 1) by
    rw [List.drop_eq_getElem_cons hlt]
    congr 1
    rw [hy]
    unfold rd_T25
    rw [Int.toNat_natCast, List.getD_eq_getElem?_getD, List.getElem?_eq_getElem hlt]
    rfl)
   clear hy
   subst hA4
   rw [Int.toNat_natCast] at a0 a1 a2 a3 a4
   replace a0 := pw_cell_below HAT.out.bel a0
   replace a1 := pw_cell_below HAT.out.bel a1
   replace a2 := pw_cell_below HAT.out.bel a2
   replace a3 := pw_cell_below HAT.out.bel a3
   replace a4 := pw_cell_below HAT.out.bel a4
   obtain ⟨l', o', r', hwy⟩ := weigh_mem HW.out y HTK.out.1
   have HYC := Aside0.mk (IH.out y HTK.out.1 l' o' r' hwy b)
   have HD3 := Aside0.mk (And.intro (And.intro hl3 hC3) (And.intro hl4 hC4))
   clear hl3 hC3 hl4 hC4 hwy
   have HEQ := Aside0.mk (show acc ++ (((if k = 0 then [] else [44]) ++ (if false then (x.f3.getD k em).data.toList ++ [61] else [])) ++ (printD y ++ restS false (k + 1) (x.f3.drop (k + 1)) (x.f4.drop (k + 1)))) = out ++ (91 :: printL false x.f3 x.f4) by
    have h := HE.out
    rw [HDR.out, restS_cons, head_drop, tail_drop] at h
    exact h)
   have HWA := Aside0.mk (HAT.out.below (below_alloc (Below.refl _ wr) (dBox y A3q c3q A4q c4q)))
   have HKA := Aside0.mk (kept_of_below (e := 5) (b := some b) (below_alloc (Below.refl _ wr) (dBox y A3q c3q A4q c4q)))
   have HXA := Aside0.mk (heap_alloc_new wr (dBox y A3q c3q A4q c4q))
   have HBA := Aside0.mk (((below_alloc (Below.refl _ wr) (dBox y A3q c3q A4q c4q)).block _ (blk_lt HBR.out)).trans HBR.out)
   have hlen : acc.length + (((if k = 0 then ([] : List UInt8) else [44]) ++ (if false then (x.f3.getD k em).data.toList ++ [61] else ([] : List UInt8))).length + (printD y).length) ≤ 2000000000 := by
    have h2 := HL.out
    have h := HEQ.out
    revert h
    generalize ((if k = 0 then ([] : List UInt8) else [44]) ++ (if false then (x.f3.getD k em).data.toList ++ [61] else ([] : List UInt8))) = pre
    intro h
    have h := congrArg List.length h
    simp only [List.length_append, List.length_cons] at h
    omega
   by_cases hk0 : k = 0
   ·subst hk0
    rw [Nat.zero_mul, Addr.add_zero'] at a0
    simp only [Nat.zero_mul, Addr.add_zero'] at a1 a2 a3 a4
    rw [if_pos rfl] at HEQ hlen
    rw [if_neg (by decide)] at HEQ hlen
    simp only [List.length_nil, List.length_cons, List.length_append] at hlen
    have HNM := HBA.out
    have g0 := (blk_cell HNM 0).trans rfl
    have g3 := (blk_cell HNM 3).trans rfl
    clear HNM
    go_wp2_with (first | (go_at_call 26; go_loud (with_reducible refine (HYC.out _ w0 _ HG.out A3q c3q A4q c4q HD3.out.1.1 HD3.out.1.2 HD3.out.2.1 HD3.out.2.2 (by omega) HWA.out).mono ?_); rintro e w8 ⟨rfl, h8, h8b, h8k⟩; have H8 := Aside0.mk (WAt.mk h8 h8b); have HK8 := Aside0.mk (HKA.out.trans h8k); clear h8 h8b h8k))
    go_roundg (gk - 1)
    case measure => have := HN.out; omega
    case rel => exact ⟨1, by omega, by go_num, ⟨by have := HN.out; omega, _, H8.out, by have h := HEQ.out; simp only [List.append_assoc, List.nil_append, List.append_nil] at h ⊢; exact h, HKK.out.trans HK8.out⟩⟩
   ·have hk1 : 0 < k := by omega
    rw [if_neg hk0] at HEQ hlen
    rw [if_neg (by decide)] at HEQ hlen
    simp only [List.length_nil, List.length_cons, List.length_append] at hlen
    have HWB : Aside0 (Calls Tryz.prog 69 #[.pointer (some ⟨b, 0, none⟩), .int .u8 44] (wr.alloc (dBox y A3q c3q A4q c4q)) fun e w' => e = .returned .nilIface ∧ WAt w0 w' b (acc ++ [44]) ∧ Lib.OthersKept 5 (some b) (wr.alloc (dBox y A3q c3q A4q c4q)) w') := ⟨wbyte_c w0 _ b acc 44 HWA.out (by omega)⟩
    go_wp2_with (first | (go_at_call 69; go_loud (with_reducible refine HWB.out.mono ?_); rintro e w5 ⟨rfl, h5, hk5⟩; have H5 := Aside0.mk h5; have HK5 := Aside0.mk (HKA.out.trans hk5); have HX5 := kept_blk hk5 HXA.out (by omega); have HB5 := kept_blk hk5 HBA.out (by omega); have HXX := Aside0.mk HX5; have HBB := Aside0.mk HB5; have g0 := (blk_cell HB5 0).trans rfl; have g3 := (blk_cell HB5 3).trans rfl; have x0 := (blk_cell HX5 0).trans rfl; have x1 := (blk_cell HX5 1).trans rfl; have x2 := (blk_cell HX5 2).trans rfl; have x3 := (blk_cell HX5 3).trans rfl; have x4 := (blk_cell HX5 4).trans rfl; clear h5 hk5 HX5 HB5) | (go_at_call 26; go_loud (with_reducible refine (HYC.out _ w0 w5 HG.out A3q c3q A4q c4q HD3.out.1.1 HD3.out.1.2 HD3.out.2.1 HD3.out.2.2 (by (try simp only [List.length_append, List.length_cons, List.length_nil]); omega) H5.out).mono ?_); rintro e w8 ⟨rfl, h8, h8b, h8k⟩; have H8 := Aside0.mk (WAt.mk h8 h8b); have HK8 := Aside0.mk (HK5.out.trans h8k); clear h8 h8b h8k))
    go_roundg (gk - 1)
    case measure => have := HN.out; omega
    case rel => exact ⟨k + 1, by omega, by go_num, ⟨by have := HN.out; omega, _, H8.out, by have h := HEQ.out; simp only [List.append_assoc, List.nil_append, List.append_nil] at h ⊢; exact h, HKK.out.trans HK8.out⟩⟩
  ·have hacc : acc = out ++ (91 :: printL false x.f3 x.f4) := by
    have h := HE.out
    rw [List.drop_of_length_le (by omega : x.f4.length ≤ k), restS_nil, List.append_nil] at h
    exact h
   have HAC := Aside0.mk hacc
   have HC2 : Aside0 (Calls Tryz.prog 46 #[.pointer (some ⟨b, 0, none⟩), .string ⟨#[93]⟩] wr fun e w' => e = .returned (.tuple #[.int .i64 1, .nilIface]) ∧ WAt w0 w' b (acc ++ [93]) ∧ Lib.OthersKept 5 (some b) wr w') := ⟨wstr_c w0 _ b acc ⟨#[93]⟩ HAT.out (by rw [hacc]; have := HL.out; show (out ++ (91 :: printL false x.f3 x.f4)).length + 1 ≤ _; simp only [List.length_append, List.length_cons]; omega)⟩
   clear hacc
   go_wp2_with (go_at_call 46; go_loud (with_reducible refine HC2.out.mono ?_); rintro e w9 ⟨rfl, h9, hk9⟩; have H9 := Aside0.mk h9; have HK9 := Aside0.mk hk9; clear h9 hk9)
   (try simp only [Exit.inBlock, Exit.then])
   refine bodyPost_ret (results_none rfl _ _ _) rfl ?_
   have h9 := H9.out
   rw [HAC.out] at h9
   rw [show out ++ (91 :: (printL false x.f3 x.f4 ++ [93])) = out ++ (91 :: printL false x.f3 x.f4) ++ [93] by simp]
   exact ⟨rfl, h9.bld, h9.bel, (HK.out.trans HKK.out).trans HK9.out⟩
set_option maxHeartbeats 8000000 in
theorem writeAll_rec (x : DT) (hx : OkD x) (hk : x.f0 = 5) (left op r : Nat) (hw : weighL x.f4 left op = some r) (hns : ∀ s ∈ x.f3, namedS true s.data.toList = true) (hnl : x.f3.length = x.f4.length) (ih : ∀ y ∈ x.f4, writeC y) (b : Nat) (out : List UInt8) (w0 w : World) (hgl : GL w0) (A3 : Option Addr) (c3 : Nat) (A4 : Option Addr) (c4 : Nat) (l3 : x.f3.length ≤ c3) (g3 : Kd.string.C w0 A3 x.f3.length x.f3) (l4 : x.f4.length ≤ c4) (g4 : k25.C w0 A4 x.f4.length x.f4) (hl : out.length + (printL true x.f3 x.f4).length + 2 ≤ 2000000000) (h : WAt w0 w b out) :
  Calls Tryz.prog 49 #[.pointer (some ⟨b, 0, none⟩), aggD x A3 c3 A4 c4, .string ⟨#[123]⟩, .string ⟨#[125]⟩] w (writeP w0 w b (out ++ (123 :: (printL true x.f3 x.f4 ++ [125])))) := by
 have HA := Aside0.mk (h.below (below_alloc (Below.refl _ w) (dBox x A3 c3 A4 c4)))
 have HK := Aside0.mk (kept_of_below (e := 5) (b := some b) (below_alloc (Below.refl _ w) (dBox x A3 c3 A4 c4)))
 have HBX := Aside0.mk (heap_alloc_new w (dBox x A3 c3 A4 c4))
 have hbw : b < w.heap.size := h.lt
 have HG := Aside0.mk hgl
 have H3 := Aside0.mk g3
 have H4 := Aside0.mk g4
 have IH := Aside0.mk ih
 have HW := Aside0.mk hw
 have HNS := Aside0.mk hns
 have HNL := Aside0.mk hnl
 have hN3 : x.f3.length ≤ 140737488351232 := hx.out.2.2.2.1
 have hN4 : x.f4.length ≤ 140737488351232 := hx.out.2.2.2.2.2.1
 have HC : Aside0 (Calls Tryz.prog 46 #[.pointer (some ⟨b, 0, none⟩), .string ⟨#[123]⟩] (w.alloc (dBox x A3 c3 A4 c4)) fun e w' => e = .returned (.tuple #[.int .i64 1, .nilIface]) ∧ WAt w0 w' b (out ++ [123]) ∧ Lib.OthersKept 5 (some b) (w.alloc (dBox x A3 c3 A4 c4)) w') := ⟨wstr_c w0 _ b out ⟨#[123]⟩ HA.out (by show out.length + 1 ≤ _; omega)⟩
 have HKD := Aside0.mk hk
 have hkb : (x.f0 == 5) = true := by rw [hk]; rfl
 have HL := Aside0.mk hl
 clear h hgl g3 g4 ih hw hns hnl hk hx
 go_enter Tryz.func49, Tryz.ntmps49
 go_wp2_with (go_at_call 46; go_loud (with_reducible refine HC.out.mono ?_); rintro e w1 ⟨rfl, h5, hk5⟩; have H1 := Aside0.mk h5; have HK1 := Aside0.mk hk5; have HBX1 := kept_blk hk5 HBX.out (by omega); have b4 := (blk_cell HBX1 4).trans rfl; clear h5 hk5 HBX1)
 go_loopg [16] x.f4.length (fun gk i wr => ∃ k : Nat, k ≤ x.f4.length ∧ i = .int .i64 k ∧ Aside0 (k + gk = x.f4.length ∧ ∃ acc : List UInt8, WAt w0 wr b acc ∧ acc ++ restS true k (x.f3.drop k) (x.f4.drop k) = out ++ (123 :: printL true x.f3 x.f4) ∧ Lib.OthersKept 5 (some b) (w.alloc (dBox x A3 c3 A4 c4)) wr))
 case atStart => exact ⟨0, by omega, rfl, ⟨by omega, _, H1.out, by rw [List.drop_zero, List.drop_zero]; show out ++ [123] ++ printL true x.f3 x.f4 = _; simp, HK1.out⟩⟩
 case round =>
  clear b4 HC H1 HK1
  obtain ⟨k, hk, rfl, HV⟩ := hrel
  obtain ⟨hkg, acc, hA, hE, hK⟩ := HV.out
  have HAT := Aside0.mk hA
  have HE := Aside0.mk hE
  have HKK := Aside0.mk hK
  have HN := Aside0.mk hkg
  have hBR := kept_blk hK HBX.out (by omega)
  have HBR := Aside0.mk hBR
  have hbl := hA.lt
  clear HV hkg hA hE hK hBR
  by_cases hlt : k < x.f4.length
  ·obtain ⟨ad, A3q, c3q, A4q, c4q, hA4, a0, a1, a2, a3, a4, hl3, hC3, hl4, hC4⟩ := at_T25 H4.out (k : Int) (by omega) (by omega)
   obtain ⟨y, hy⟩ : ∃ y, y = rd_T25 x.f4 (k : Int) := ⟨_, rfl⟩
   have HTK := Aside0.mk (rd_take x.f4 k hlt)
   rw [← hy] at a0 a1 a2 a3 a4 hl3 hC3 hl4 hC4 HTK
   have HDR := Aside0.mk (show x.f4.drop k = y :: x.f4.drop (k + 1) by
    rw [List.drop_eq_getElem_cons hlt]
    congr 1
    rw [hy]
    unfold rd_T25
    rw [Int.toNat_natCast, List.getD_eq_getElem?_getD, List.getElem?_eq_getElem hlt]
    rfl)
   clear hy
   subst hA4
   rw [Int.toNat_natCast] at a0 a1 a2 a3 a4
   replace a0 := pw_cell_below HAT.out.bel a0
   replace a1 := pw_cell_below HAT.out.bel a1
   replace a2 := pw_cell_below HAT.out.bel a2
   replace a3 := pw_cell_below HAT.out.bel a3
   replace a4 := pw_cell_below HAT.out.bel a4
   obtain ⟨l', o', r', hwy⟩ := weigh_mem HW.out y HTK.out.1
   have HYC := Aside0.mk (IH.out y HTK.out.1 l' o' r' hwy b)
   have HD3 := Aside0.mk (And.intro (And.intro hl3 hC3) (And.intro hl4 hC4))
   clear hl3 hC3 hl4 hC4 hwy
   have HEQ := Aside0.mk (show acc ++ (((if k = 0 then [] else [44]) ++ (if true then (x.f3.getD k em).data.toList ++ [61] else [])) ++ (printD y ++ restS true (k + 1) (x.f3.drop (k + 1)) (x.f4.drop (k + 1)))) = out ++ (123 :: printL true x.f3 x.f4) by
    have h := HE.out
    rw [HDR.out, restS_cons, head_drop, tail_drop] at h
    exact h)
   have HWA := Aside0.mk (HAT.out.below (below_alloc (Below.refl _ wr) (dBox y A3q c3q A4q c4q)))
   have HKA := Aside0.mk (kept_of_below (e := 5) (b := some b) (below_alloc (Below.refl _ wr) (dBox y A3q c3q A4q c4q)))
   have HXA := Aside0.mk (heap_alloc_new wr (dBox y A3q c3q A4q c4q))
   have HBA := Aside0.mk (((below_alloc (Below.refl _ wr) (dBox y A3q c3q A4q c4q)).block _ (blk_lt HBR.out)).trans HBR.out)
   have hlen : acc.length + (((if k = 0 then ([] : List UInt8) else [44]) ++ (if true then (x.f3.getD k em).data.toList ++ [61] else ([] : List UInt8))).length + (printD y).length) ≤ 2000000000 := by
    have h2 := HL.out
    have h := HEQ.out
    revert h
    generalize ((if k = 0 then ([] : List UInt8) else [44]) ++ (if true then (x.f3.getD k em).data.toList ++ [61] else ([] : List UInt8))) = pre
    intro h
    have h := congrArg List.length h
    simp only [List.length_append, List.length_cons] at h
    omega
   obtain ⟨adn, hadn, qn⟩ := Kd.at_string H3.out (k : Int) (by omega) (by have := HNL.out; omega)
   rw [Int.toNat_natCast, get_rdOf] at qn
   obtain ⟨nm, hnm⟩ : ∃ nm, nm = x.f3.getD k em := ⟨_, rfl⟩
   rw [← hnm] at qn HEQ hlen
   have hnl32 : nm.size ≤ 32 := by
    have hm : nm ∈ x.f3 := by
     rw [hnm, List.getD_eq_getElem?_getD, List.getElem?_eq_getElem (by have := HNL.out; omega)]
     exact List.getElem_mem _
    have := named_len (HNS.out nm hm)
    rw [Array.length_toList] at this
    exact this
   subst hadn
   have HQN := Aside0.mk qn
   have hk3 : k < x.f3.length := by have := HNL.out; omega
   have s1 : nm ++ (⟨#[61]⟩ : ByteArray) = mkB (nm.data.toList ++ [61]) := catB nm.data.toList [61]
   have HWS : Aside0 (∀ W a2, a2.length + (nm.data.toList.length + 1) ≤ 2000000000 → WAt w0 W b a2 → Calls Tryz.prog 46 #[.pointer (some ⟨b, 0, none⟩), .string (nm ++ (⟨#[61]⟩ : ByteArray))] W fun e w' => e = .returned (.tuple #[.int .i64 ((mkB (nm.data.toList ++ [61])).size : Int), .nilIface]) ∧ WAt w0 w' b (a2 ++ (nm.data.toList ++ [61])) ∧ Lib.OthersKept 5 (some b) W w') := ⟨fun W a2 hq hW => by
    rw [s1]
    exact wstr_c w0 W b a2 (mkB (nm.data.toList ++ [61])) hW (by rw [mkB_size]; simp only [List.length_append, List.length_singleton]; omega)⟩
   clear hnm qn s1
   by_cases hk0 : k = 0
   ·subst hk0
    rw [Nat.zero_mul, Addr.add_zero'] at a0
    simp only [Nat.zero_mul, Addr.add_zero'] at a1 a2 a3 a4
    rw [if_pos rfl] at HEQ hlen
    rw [Addr.add_zero'] at HQN
    rw [if_pos rfl] at HEQ hlen
    simp only [List.length_nil, List.length_cons, List.length_append] at hlen
    have HNM := HBA.out
    have g0 := (blk_cell HNM 0).trans rfl
    have g3 := (blk_cell HNM 3).trans rfl
    have qn5 := pw_cell_below HWA.out.bel HQN.out
    clear HNM
    go_wp2_with (first | (go_at_call 46; go_loud (with_reducible refine (HWS.out _ (acc) (by (try simp only [List.length_append, List.length_cons, List.length_nil]); omega) HWA.out).mono ?_); rintro e w6 ⟨rfl, h6, hk6⟩; have H6 := Aside0.mk h6; have HK6 := Aside0.mk (HKA.out.trans hk6); have HX6 := kept_blk hk6 HXA.out (by omega); have x0 := (blk_cell HX6 0).trans rfl; have x1 := (blk_cell HX6 1).trans rfl; have x2 := (blk_cell HX6 2).trans rfl; have x3 := (blk_cell HX6 3).trans rfl; have x4 := (blk_cell HX6 4).trans rfl; clear h6 hk6 HX6) | (go_at_call 26; go_loud (with_reducible refine (HYC.out _ w0 w6 HG.out A3q c3q A4q c4q HD3.out.1.1 HD3.out.1.2 HD3.out.2.1 HD3.out.2.2 (by (try simp only [List.length_append, List.length_cons, List.length_nil]); omega) H6.out).mono ?_); rintro e w8 ⟨rfl, h8, h8b, h8k⟩; have H8 := Aside0.mk (WAt.mk h8 h8b); have HK8 := Aside0.mk (HK6.out.trans h8k); clear h8 h8b h8k))
    go_roundg (gk - 1)
    case measure => have := HN.out; omega
    case rel => exact ⟨1, by omega, by go_num, ⟨by have := HN.out; omega, _, H8.out, by have h := HEQ.out; simp only [List.append_assoc, List.nil_append, List.append_nil] at h ⊢; exact h, HKK.out.trans HK8.out⟩⟩
   ·have hk1 : 0 < k := by omega
    rw [if_neg hk0] at HEQ hlen
    rw [if_pos rfl] at HEQ hlen
    simp only [List.length_nil, List.length_cons, List.length_append] at hlen
    have HWB : Aside0 (Calls Tryz.prog 69 #[.pointer (some ⟨b, 0, none⟩), .int .u8 44] (wr.alloc (dBox y A3q c3q A4q c4q)) fun e w' => e = .returned .nilIface ∧ WAt w0 w' b (acc ++ [44]) ∧ Lib.OthersKept 5 (some b) (wr.alloc (dBox y A3q c3q A4q c4q)) w') := ⟨wbyte_c w0 _ b acc 44 HWA.out (by omega)⟩
    go_wp2_with (first | (go_at_call 69; go_loud (with_reducible refine HWB.out.mono ?_); rintro e w5 ⟨rfl, h5, hk5⟩; have H5 := Aside0.mk h5; have HK5 := Aside0.mk (HKA.out.trans hk5); have HX5 := kept_blk hk5 HXA.out (by omega); have HB5 := kept_blk hk5 HBA.out (by omega); have HXX := Aside0.mk HX5; have HBB := Aside0.mk HB5; have g0 := (blk_cell HB5 0).trans rfl; have g3 := (blk_cell HB5 3).trans rfl; have qn5 := pw_cell_below h5.bel HQN.out; clear h5 hk5 HX5 HB5) | (go_at_call 46; go_loud (with_reducible refine (HWS.out _ (acc ++ [44]) (by (try simp only [List.length_append, List.length_cons, List.length_nil]); omega) H5.out).mono ?_); rintro e w6 ⟨rfl, h6, hk6⟩; have H6 := Aside0.mk h6; have HK6 := Aside0.mk (HK5.out.trans hk6); have HX6 := kept_blk hk6 HXX.out (by omega); have x0 := (blk_cell HX6 0).trans rfl; have x1 := (blk_cell HX6 1).trans rfl; have x2 := (blk_cell HX6 2).trans rfl; have x3 := (blk_cell HX6 3).trans rfl; have x4 := (blk_cell HX6 4).trans rfl; clear h6 hk6 HX6) | (go_at_call 26; go_loud (with_reducible refine (HYC.out _ w0 w6 HG.out A3q c3q A4q c4q HD3.out.1.1 HD3.out.1.2 HD3.out.2.1 HD3.out.2.2 (by (try simp only [List.length_append, List.length_cons, List.length_nil]); omega) H6.out).mono ?_); rintro e w8 ⟨rfl, h8, h8b, h8k⟩; have H8 := Aside0.mk (WAt.mk h8 h8b); have HK8 := Aside0.mk (HK6.out.trans h8k); clear h8 h8b h8k))
    go_roundg (gk - 1)
    case measure => have := HN.out; omega
    case rel => exact ⟨k + 1, by omega, by go_num, ⟨by have := HN.out; omega, _, H8.out, by have h := HEQ.out; simp only [List.append_assoc, List.nil_append, List.append_nil] at h ⊢; exact h, HKK.out.trans HK8.out⟩⟩
  ·have hacc : acc = out ++ (123 :: printL true x.f3 x.f4) := by
    have h := HE.out
    rw [List.drop_of_length_le (by omega : x.f4.length ≤ k), restS_nil, List.append_nil] at h
    exact h
   have HAC := Aside0.mk hacc
   have HC2 : Aside0 (Calls Tryz.prog 46 #[.pointer (some ⟨b, 0, none⟩), .string ⟨#[125]⟩] wr fun e w' => e = .returned (.tuple #[.int .i64 1, .nilIface]) ∧ WAt w0 w' b (acc ++ [125]) ∧ Lib.OthersKept 5 (some b) wr w') := ⟨wstr_c w0 _ b acc ⟨#[125]⟩ HAT.out (by rw [hacc]; have := HL.out; show (out ++ (123 :: printL true x.f3 x.f4)).length + 1 ≤ _; simp only [List.length_append, List.length_cons]; omega)⟩
   clear hacc
   go_wp2_with (go_at_call 46; go_loud (with_reducible refine HC2.out.mono ?_); rintro e w9 ⟨rfl, h9, hk9⟩; have H9 := Aside0.mk h9; have HK9 := Aside0.mk hk9; clear h9 hk9)
   (try simp only [Exit.inBlock, Exit.then])
   refine bodyPost_ret (results_none rfl _ _ _) rfl ?_
   have h9 := H9.out
   rw [HAC.out] at h9
   rw [show out ++ (123 :: (printL true x.f3 x.f4 ++ [125])) = out ++ (123 :: printL true x.f3 x.f4) ++ [125] by simp]
   exact ⟨rfl, h9.bld, h9.bel, (HK.out.trans HKK.out).trans HK9.out⟩
end Go.Proofs.YtidcecpbihmloaaGreatDoorE

namespace Go.Proofs.YtidcecpbihmloaaGreatDoorE
open Go Go.RowKit Go.Proofs.YtidcecpbihmloaaGreatDoorW.PrintWords Go.Proofs.YtidcecpbihmloaaGreatDoorW.PrintMore Go.Proofs.YtidcecpbihmloaaGreatDoorW.PrintLast Go.Proofs.YtidcecpbihmloaaGreatDoorX Go.Proofs.YtidcecpbihmloaaGreatDoor.P16 Go.Proofs.YtidcecpbihmloaaGreatDoor.M02
set_option linter.unusedVariables false
set_option linter.unusedSimpArgs false
set_option maxRecDepth 100000
set_option maxHeartbeats 4000000 in
theorem write_list (x : DT) (hx : OkD x) (hk : x.f0 = 4) (left op r : Nat) (hw : weighL x.f4 left op = some r) (hns : ∀ s ∈ x.f3, namedS true s.data.toList = true) (hnl : True) (ih : ∀ y ∈ x.f4, writeC y) (b : Nat) (out : List UInt8) (w0 w : World) (hgl : GL w0) (A3 : Option Addr) (c3 : Nat) (A4 : Option Addr) (c4 : Nat) (l3 : x.f3.length ≤ c3) (g3 : Kd.string.C w0 A3 x.f3.length x.f3) (l4 : x.f4.length ≤ c4) (g4 : k25.C w0 A4 x.f4.length x.f4) (hl : out.length + (printL false x.f3 x.f4).length + 2 ≤ 2000000000) (h : WAt w0 w b out) :
  Calls Tryz.prog 26 #[.pointer (some ⟨b, 0, none⟩), aggD x A3 c3 A4 c4] w (writeP w0 w b (out ++ (91 :: (printL false x.f3 x.f4 ++ [93])))) := by
 have HA := Aside0.mk (h.below (below_alloc (Below.refl _ w) (dBox x A3 c3 A4 c4)))
 have HK := Aside0.mk (kept_of_below (e := 5) (b := some b) (below_alloc (Below.refl _ w) (dBox x A3 c3 A4 c4)))
 have HC := Aside0.mk (writeAll_list x hx hk left op r hw hns hnl ih b out w0 _ hgl A3 c3 A4 c4 l3 g3 l4 g4 hl HA.out)
 clear h hgl hx ih hw hns hnl g3 g4
 have k0 : (x.f0 == 0) = false := by rw [hk]; rfl
 have k1 : (x.f0 == 1) = false := by rw [hk]; rfl
 have k2 : (x.f0 == 2) = false := by rw [hk]; rfl
 have k3 : (x.f0 == 3) = false := by rw [hk]; rfl
 have k4 : (x.f0 == 4) = true := by rw [hk]; rfl
 have k5 : (x.f0 == 5) = false := by rw [hk]; rfl
 clear hk
 go_enter Tryz.func26, Tryz.ntmps26
 go_wp2_with (go_at_call 49; go_loud (with_reducible refine HC.out.mono ?_); rintro e w5 ⟨rfl, h5, hb5, hk5⟩; have H5 := Aside0.mk h5; have HB5 := Aside0.mk hb5; have HK5 := Aside0.mk hk5; clear h5 hb5 hk5)
 (try simp only [Exit.inBlock, Exit.then])
 refine bodyPost_ret (results_none rfl _ _ _) rfl ?_
 exact ⟨rfl, H5.out, HB5.out, HK.out.trans HK5.out⟩
set_option maxHeartbeats 4000000 in
theorem write_rec (x : DT) (hx : OkD x) (hk : x.f0 = 5) (left op r : Nat) (hw : weighL x.f4 left op = some r) (hns : ∀ s ∈ x.f3, namedS true s.data.toList = true) (hnl : x.f3.length = x.f4.length) (ih : ∀ y ∈ x.f4, writeC y) (b : Nat) (out : List UInt8) (w0 w : World) (hgl : GL w0) (A3 : Option Addr) (c3 : Nat) (A4 : Option Addr) (c4 : Nat) (l3 : x.f3.length ≤ c3) (g3 : Kd.string.C w0 A3 x.f3.length x.f3) (l4 : x.f4.length ≤ c4) (g4 : k25.C w0 A4 x.f4.length x.f4) (hl : out.length + (printL true x.f3 x.f4).length + 2 ≤ 2000000000) (h : WAt w0 w b out) :
  Calls Tryz.prog 26 #[.pointer (some ⟨b, 0, none⟩), aggD x A3 c3 A4 c4] w (writeP w0 w b (out ++ (123 :: (printL true x.f3 x.f4 ++ [125])))) := by
 have HA := Aside0.mk (h.below (below_alloc (Below.refl _ w) (dBox x A3 c3 A4 c4)))
 have HK := Aside0.mk (kept_of_below (e := 5) (b := some b) (below_alloc (Below.refl _ w) (dBox x A3 c3 A4 c4)))
 have HC := Aside0.mk (writeAll_rec x hx hk left op r hw hns hnl ih b out w0 _ hgl A3 c3 A4 c4 l3 g3 l4 g4 hl HA.out)
 clear h hgl hx ih hw hns hnl g3 g4
 have k0 : (x.f0 == 0) = false := by rw [hk]; rfl
 have k1 : (x.f0 == 1) = false := by rw [hk]; rfl
 have k2 : (x.f0 == 2) = false := by rw [hk]; rfl
 have k3 : (x.f0 == 3) = false := by rw [hk]; rfl
 have k4 : (x.f0 == 4) = false := by rw [hk]; rfl
 have k5 : (x.f0 == 5) = true := by rw [hk]; rfl
 clear hk
 go_enter Tryz.func26, Tryz.ntmps26
 go_wp2_with (go_at_call 49; go_loud (with_reducible refine HC.out.mono ?_); rintro e w5 ⟨rfl, h5, hb5, hk5⟩; have H5 := Aside0.mk h5; have HB5 := Aside0.mk hb5; have HK5 := Aside0.mk hk5; clear h5 hb5 hk5)
 (try simp only [Exit.inBlock, Exit.then])
 refine bodyPost_ret (results_none rfl _ _ _) rfl ?_
 exact ⟨rfl, H5.out, HB5.out, HK.out.trans HK5.out⟩
theorem write_c (x : DT) (hx : OkD x) : writeC x := by
 induction hx with
 | mk x h0 h1 h2 n3 h3 n4 h4 ih =>
  have hx : OkD x := .mk x h0 h1 h2 n3 h3 n4 h4
  intro left op r hw b out w0 w hgl A3 c3 A4 c4 l3 g3 l4 g4 hl h
  obtain ⟨hL, hp, -, hnm, hwl⟩ := weigh_plain hw
  have hns := names_all hnm
  have hpc : printD x = if x.f0 = 0 then [110, 111, 110, 101] else if x.f0 = 1 then (if x.f1 = 1 then [121, 101, 115] else [110, 111]) else if x.f0 = 2 then Lib.itoa x.f1
    else if x.f0 = 3 then 34 :: (escS x.f2.data.toList ++ [34])
    else if x.f0 = 4 then 91 :: (printL false [] x.f4 ++ [93]) else 123 :: (printL true x.f3 x.f4 ++ [125]) := by
   rcases x with ⟨_, _, _, _, _⟩
   rw [printD]
  have hpl : plainD ⟨x.f0, x.f1, x.f2, x.f3, x.f4⟩ = true := hp
  rcases plain_cases hpl with ⟨e0, _, _, _, _⟩ | ⟨e0, e1, _, _, _⟩ | ⟨e0, _, _, _⟩ | ⟨e0, _, _, _, hs⟩ | ⟨e0, _, _, e3⟩ | ⟨e0, _, _, e3⟩
  ·have e : printD x = [110, 111, 110, 101] := by rw [hpc, if_pos e0]
   rw [e] at hl ⊢
   exact write_none x e0 b out w0 w hgl A3 c3 A4 c4 (by simpa using hl) h
  ·rcases e1 with e1 | e1
   ·have e : printD x = [110, 111] := by rw [hpc, e0, e1]; rfl
    rw [e] at hl ⊢
    exact write_truth0 x e0 e1 b out w0 w hgl A3 c3 A4 c4 (by simpa using hl) h
   ·have e : printD x = [121, 101, 115] := by rw [hpc, e0, e1]; rfl
    rw [e] at hl ⊢
    exact write_truth1 x e0 e1 b out w0 w hgl A3 c3 A4 c4 (by simpa using hl) h
  ·have e : printD x = Lib.itoa x.f1 := by rw [hpc, e0]; rfl
   rw [e] at hl ⊢
   exact write_num x e0 h1 b out w0 w hgl A3 c3 A4 c4 hl h
  ·have e : printD x = 34 :: (escS x.f2.data.toList ++ [34]) := by rw [hpc, e0]; rfl
   rw [e] at hl ⊢
   exact write_text x e0 hs b out w0 w hgl A3 c3 A4 c4 (by simp only [List.length_cons, List.length_append, List.length_nil] at hl; omega) h
  ·have e : printD x = 91 :: (printL false x.f3 x.f4 ++ [93]) := by rw [hpc, e0, e3]; rfl
   rw [e] at hl ⊢
   exact write_list x hx e0 _ _ r hwl hns trivial ih b out w0 w hgl A3 c3 A4 c4 l3 g3 l4 g4 (by simp only [List.length_cons, List.length_append, List.length_nil] at hl; omega) h
  ·have e : printD x = 123 :: (printL true x.f3 x.f4 ++ [125]) := by rw [hpc, e0]; rfl
   rw [e] at hl ⊢
   exact write_rec x hx e0 _ _ r hwl hns e3 ih b out w0 w hgl A3 c3 A4 c4 l3 g3 l4 g4 (by simp only [List.length_cons, List.length_append, List.length_nil] at hl; omega) h
/-- What Print says of a piece. -/
def printP (w : World) (x : DT) (e : Ending) (w' : World) : Prop :=
 e = .returned (.tuple (if rightD x = true then #[.string (mkB (printD x)), .int .i64 0] else #[.string ⟨#[]⟩, .int .i64 24])) ∧ Below w.heap.size w w'
set_option maxHeartbeats 4000000 in
theorem Print_c (x : DT) (hx : OkD x) (w : World) (hgl : GL w) (A3 : Option Addr) (c3 : Nat) (A4 : Option Addr) (c4 : Nat) (l3 : x.f3.length ≤ c3) (g3 : Kd.string.C w A3 x.f3.length x.f3) (l4 : x.f4.length ≤ c4) (g4 : k25.C w A4 x.f4.length x.f4) :
  Calls Tryz.prog 14 #[aggD x A3 c3 A4 c4] w (printP w x) := by
 have HB := Aside0.mk (below_alloc (Below.refl w.heap.size w) (dBox x A3 c3 A4 c4))
 have HD := Aside0.mk (heap_alloc_new w (dBox x A3 c3 A4 c4))
 have HR := Aside0.mk (Right_c x hx _ (hgl.below HB.out) A3 c3 A4 c4 l3 ((Kd.string.C_below g3 HB.out)) l4 (k25.C_below g4 HB.out))
 have HWC := Aside0.mk (write_c x hx)
 have HG := Aside0.mk hgl
 have H3 := Aside0.mk g3
 have H4 := Aside0.mk g4
 have HX := Aside0.mk hx
 clear hgl g3 g4 hx
 unfold printP
 by_cases hr : rightD x = true
 ·simp only [if_pos hr]
  rw [hr] at HR
  obtain ⟨r, hwr⟩ := Option.isSome_iff_exists.1 hr
  have HWR := Aside0.mk hwr
  have hlen := right_len (okD_nums x HX.out) hr
  have HLEN := Aside0.mk hlen
  clear hr hwr hlen
  go_enter Tryz.func14, Tryz.ntmps14
  go_upto_region 3 with (go_at_call 15; go_loud (with_reducible refine HR.out.mono ?_); rintro e w1 ⟨rfl, hb⟩; have HB1 := Aside0.mk hb; clear hb)
  have d := (Below.block HB1.out w.heap.size (by simp)).trans HD.out
  have HB2 := Aside0.mk (below_then HB.out HB.out.size HB1.out)
  have HI := Aside0.mk (Lib.IsBuilderF.of (Lib.fresh_isBuilder 53 5 w1))
  have HB3 := Aside0.mk (below_alloc (Below.refl w1.heap.size w1) (.cells #[.pointer none, .slice none 0 0] 53))
  have d3 := (HB3.out.block w.heap.size (by have := HB2.out.size; have := blk_lt d; omega)).trans d
  have b0 := (blk_cell d3 0).trans rfl
  have b1 := (blk_cell d3 1).trans rfl
  have b2 := (blk_cell d3 2).trans rfl
  have b3 := (blk_cell d3 3).trans rfl
  have b4 := (blk_cell d3 4).trans rfl
  have HWC1 := Aside0.mk (HWC.out 2000 0 _ HWR.out w1.heap.size [] w1 _ (HG.out.below HB2.out) A3 c3 A4 c4 l3 (Kd.string.C_below H3.out HB2.out) l4 (k25.C_below H4.out HB2.out) (by have := HLEN.out; simp; omega) ⟨HI.out, HB3.out⟩)
  clear d d3
  go_wp2_with (first | (go_at_call 26; go_loud (with_reducible refine HWC1.out.mono ?_); rintro e w5 ⟨rfl, h5, hb5, hk5⟩; have H5 := Aside0.mk h5; have HB5 := Aside0.mk hb5; clear h5 hb5 hk5) | (go_at_call 27; go_loud (with_reducible refine (Tryz.Builder_String_any_f w1.heap.size w1.heap.size _ _ H5.out HB5.out.size).mono ?_); rintro e w6 ⟨rfl, -, hb6⟩; have HB6 := Aside0.mk hb6; clear hb6))
  (try simp only [Exit.inBlock, Exit.then])
  refine bodyPost_ret (results_tmp2 rfl _ _ _) rfl ?_
  exact ⟨rfl, below_then HB2.out HB2.out.size (HB5.out.trans HB6.out)⟩
 ·simp only [if_neg hr]
  rw [show rightD x = false by simpa using hr] at HR
  clear hr
  go_enter Tryz.func14, Tryz.ntmps14
  go_wp2_with (go_at_call 15; go_loud (with_reducible refine HR.out.mono ?_); rintro e w1 ⟨rfl, hb⟩; have HB1 := Aside0.mk hb; clear hb)
  (try simp only [Exit.inBlock, Exit.then])
  refine bodyPost_ret (results_tmp2 rfl _ _ _) rfl ?_
  exact ⟨rfl, below_then HB.out HB.out.size HB1.out⟩
end Go.Proofs.YtidcecpbihmloaaGreatDoorE

namespace Go.Proofs.YtidcecpbihmloaaGreatDoorE
open Go Go.RowKit Go.Proofs.YtidcecpbihmloaaGreatDoorW.PrintWords Go.Proofs.YtidcecpbihmloaaGreatDoorW.PrintMore Go.Proofs.YtidcecpbihmloaaGreatDoorW.PrintLast Go.Proofs.YtidcecpbihmloaaGreatDoorX Go.Proofs.YtidcecpbihmloaaGreatDoor.P16 Go.Proofs.YtidcecpbihmloaaGreatDoor.M02
set_option linter.unusedVariables false
set_option linter.unusedSimpArgs false
set_option maxRecDepth 100000
/-- Pieces with a mark: a marked one is made, another one is as it stood in w0. -/
def twoK (w0 : World) : Kd (DT × Bool) where
 sz := k25.sz
 E := k25.E
 K := fun w p cs => if p.2 = true then k25.K w p.1 cs else k25.K w0 p.1 cs
 M := fun w base ok p cs => if p.2 = true then k25.M w base ok p.1 cs else k25.K w0 p.1 cs
 K_len := fun {w p cs} h => by split at h <;> exact k25.K_len h
 K_one := fun {w p cs} h => by split at h <;> exact k25.K_one h
 K_below := fun {w w1 p cs} hb h => by
  split at h <;> rename_i hp
  ·rw [if_pos hp]; exact k25.K_below hb h
  ·rw [if_neg hp]; exact h
 K_of_M := fun {w base ok p cs} h => by
  split at h <;> rename_i hp
  ·rw [if_pos hp]; exact k25.K_of_M h
  ·rw [if_neg hp]; exact h
 M_mono := fun {w base ok ok' p cs} hok h => by
  split at h <;> rename_i hp
  ·rw [if_pos hp]; exact k25.M_mono hok h
  ·rw [if_neg hp]; exact h
 M_bound := fun {w base ok p cs} h => by
  split at h <;> rename_i hp
  ·rw [if_pos hp]; exact k25.M_bound h
  ·rw [if_neg hp]; exact h
 M_move := fun {w w1 base ok p cs} hm h => by
  split at h <;> rename_i hp
  ·rw [if_pos hp]; exact k25.M_move hm h
  ·rw [if_neg hp]; exact h
 M_lower := fun {w base base' ok p cs} hb h => by
  split at h <;> rename_i hp
  ·rw [if_pos hp]; exact k25.M_lower hb h
  ·rw [if_neg hp]; exact h
theorem two_came {w0 w : World} {base : Nat} {ok : Nat → Prop} {x : DT} {cs : List Value} (h : k25.K w0 x cs) : (twoK w0).M w base ok (x, false) cs := by
 show (if false = true then k25.M w base ok x cs else k25.K w0 x cs)
 rw [if_neg (by decide)]; exact h
theorem two_made {w0 w : World} {base : Nat} {ok : Nat → Prop} {x : DT} {cs : List Value} (h : k25.M w base ok x cs) : (twoK w0).M w base ok (x, true) cs := by
 show (if true = true then k25.M w base ok x cs else k25.K w0 x cs)
 rw [if_pos rfl]; exact h
theorem two_came' {w0 w : World} {x : DT} {cs : List Value} (h : (twoK w0).K w (x, false) cs) : k25.K w0 x cs := by
 have h : (if false = true then k25.K w x cs else k25.K w0 x cs) := h
 rw [if_neg (by decide)] at h; exact h
/-- A row all of which is made. -/
theorem two_all {w0 w : World} {e base : Nat} {ok : Nat → Prop} {v : Value} {l : List DT} (h : (twoK w0).R e w base ok v (l.map (·, true))) : k25.R e w base ok v l := by
 obtain ⟨h1, inner, ho, hr⟩ := h
 rw [List.length_map] at ho
 refine ⟨h1, inner, ho, by have := hr.1; rw [List.length_map] at this; exact this, fun j p hj => ?_⟩
 have h := hr.2 j (p, true) (by rw [List.getElem?_map, hj]; rfl)
 have h : (if true = true then k25.M w base (fun k => ok k ∧ some k ≠ v.ownBlock) p ((inner.drop (j * k25.sz)).take k25.sz) else k25.K w0 p ((inner.drop (j * k25.sz)).take k25.sz)) := h
 rw [if_pos rfl] at h
 exact h
theorem reads_false {w0 w : World} {A : Option Addr} {n : Nat} {l : List DT} (h : ReadsRow (k25.K w0) k25.sz w A n l) : ReadsRow (fun p c => p.2 = false ∧ k25.K w0 p.1 c) k25.sz w A n (l.map (·, false)) := by
 refine ⟨by rw [List.length_map]; exact h.1, h.2.1, fun hn => ?_⟩
 obtain ⟨ad, e, hc⟩ := h.2.2 hn
 refine ⟨ad, e, fun j p hj => ?_⟩
 rw [List.getElem?_map] at hj
 obtain ⟨q, hq, rfl⟩ := Option.map_eq_some_iff.1 hj
 obtain ⟨c, h1, h2, h3⟩ := hc j q hq
 exact ⟨c, h1, ⟨rfl, h2⟩, h3⟩
set_option maxHeartbeats 4000000 in
theorem clone_str (A : Option Addr) (c : Nat) (l : List ByteArray) (w : World) (hC : Kd.string.C w A l.length l) (hlen : l.length ≤ 1000000) :
  Calls Tryz.prog 37 #[.slice A l.length c] w fun e w' => (∃ v, e = .returned v ∧ Kd.string.R 9 w' w.heap.size (fun _ => True) v l) ∧ Below w.heap.size w w' := by
 have HC := Aside0.mk hC
 clear hC
 rcases A with _ | ad
 ·have h0 : l = [] := by
   by_cases h : 0 < l.length
   ·obtain ⟨ad, h, _⟩ := HC.out.2.2 h; cases h
   ·exact List.eq_nil_of_length_eq_zero (by omega)
  subst h0
  have he : ∀ w : World, (binOp .eql 22 (.slice none 0 c) (.slice none 0 0)).run Tryz.prog w = .ok (.bool true) w := fun _ => rfl
  go_enter Tryz.func37, Tryz.ntmps37
  go_wp2_with fail
  go_ret
  exact ⟨⟨_, rfl, Kd.R_nil _ _ _ _ _⟩, Below.refl _ _⟩
 ·have he : ∀ w : World, (binOp .eql 22 (.slice (some ad) l.length c) (.slice none 0 0)).run Tryz.prog w = .ok (.bool false) w := fun _ => rfl
  go_enter Tryz.func37, Tryz.ntmps37
  have hO : Kd.string.R 9 (w.alloc (.cells #[] 9)) w.heap.size (fun _ => True) (.slice (some ⟨w.heap.size, 0, none⟩) 0 0) [] := Kd.R_of_own (enc := Value.string) (h1 := fun _ => rfl) (World.ownsRow_made w #[] 0 (Nat.le_refl _) (by decide) (by decide)) (fun _ _ => trivial)
  have HO := Aside0.mk hO
  clear hO
  go_wp2_with (at_builtin; refine Kd.R_append_row (w0 := w) Value.string em (h1 := fun _ => rfl) w.heap.size rfl _ _ 22 9 (.string ⟨#[]⟩) 16 rfl Tryz.underlying22 info_s rfl (by decide) _ [] l (some ad) l.length c (fun _ => True) rfl rfl (fun _ _ => trivial) HO.out (Kd.C_alloc HC.out _) (below_alloc (Below.refl _ _) _) ?_ ?_ ?_)
  ·simp
  ·simp; omega
  intro v' w' hown hbel hgr hhat
  have H1 := Aside0.mk hown
  have H2 := Aside0.mk hbel
  clear hown hbel hgr hhat
  go_wp2_with fail
  go_ret
  exact ⟨⟨_, rfl, H1.out⟩, H2.out⟩
set_option maxHeartbeats 4000000 in
theorem clone_d (A : Option Addr) (c : Nat) (l : List DT) (w0 w : World) (hC : ReadsRow (k25.K w0) k25.sz w A l.length l) (hlen : l.length ≤ 1000000) :
  Calls Tryz.prog 38 #[.slice A l.length c] w fun e w' => (∃ v, e = .returned v ∧ (twoK w0).R 25 w' w.heap.size (fun _ => True) v (l.map (·, false))) ∧ Below w.heap.size w w' := by
 have HC := Aside0.mk hC
 clear hC
 rcases A with _ | ad
 ·have h0 : l = [] := by
   by_cases h : 0 < l.length
   ·obtain ⟨ad, h, _⟩ := HC.out.2.2 h; cases h
   ·exact List.eq_nil_of_length_eq_zero (by omega)
  subst h0
  have he : ∀ w : World, (binOp .eql 23 (.slice none 0 c) (.slice none 0 0)).run Tryz.prog w = .ok (.bool true) w := fun _ => rfl
  go_enter Tryz.func38, Tryz.ntmps38
  go_wp2_with fail
  go_ret
  exact ⟨⟨_, rfl, Kd.R_nil _ _ _ _ _⟩, Below.refl _ _⟩
 ·have he : ∀ w : World, (binOp .eql 23 (.slice (some ad) l.length c) (.slice none 0 0)).run Tryz.prog w = .ok (.bool false) w := fun _ => rfl
  go_enter Tryz.func38, Tryz.ntmps38
  have hO : (twoK w0).R 25 (w.alloc (.cells #[] 25)) w.heap.size (fun _ => True) (.slice (some ⟨w.heap.size, 0, none⟩) 0 0) [] := ⟨fun _ _ => trivial, [], World.ownsRow_made w #[] 0 (Nat.le_refl _) (by decide) (by rfl), rfl, fun j p hj => by simp at hj⟩
  have HO := Aside0.mk hO
  clear hO
  have HR := Aside0.mk (ReadsRow.imp_ (reads_false HC.out) (below_alloc (Below.refl _ w) (.cells #[] 25)) (fun _ _ hp => hp))
  have HKM : Aside0 (∀ (p : DT × Bool) (cs : List Value), (p.2 = false ∧ k25.K w0 p.1 cs) → (twoK w0).M (w.alloc (.cells #[] 25)) w.heap.size (fun _ => False) p cs) := ⟨fun p cs hp => by
   obtain ⟨x, b⟩ := p
   obtain ⟨hb, hp⟩ := hp
   have hb : b = false := hb
   subst hb
   exact two_came hp⟩
  go_wp2_with (at_builtin; (refine Kd.R_append_rows (w0 := w) (twoK w0) w.heap.size rfl _ _ 23 25 (.agg zCells) 80 rfl Tryz.underlying23 info_d rfl (show 0 < 5 by decide) (by decide) _ [] (l.map (·, false)) (some ad) l.length c (fun _ => True) (fun _ => False) rfl rfl HO.out HR.out HKM.out (fun k hk => hk.elim) (fun _ _ => trivial) (below_alloc (Below.refl _ _) _) ?_ ?_ ?_))
  ·simp
  ·simp; omega
  intro v' w' hown hbel hgr hhat
  have H1 := Aside0.mk hown
  have H2 := Aside0.mk hbel
  clear hown hbel hgr hhat
  go_wp2_with fail
  go_ret
  exact ⟨⟨_, rfl, H1.out⟩, H2.out⟩
end Go.Proofs.YtidcecpbihmloaaGreatDoorE

namespace Go.Proofs.YtidcecpbihmloaaGreatDoorE
open Go Go.RowKit Go.Proofs.YtidcecpbihmloaaGreatDoorW.PrintWords Go.Proofs.YtidcecpbihmloaaGreatDoorW.PrintMore Go.Proofs.YtidcecpbihmloaaGreatDoorW.PrintLast Go.Proofs.YtidcecpbihmloaaGreatDoorX Go.Proofs.YtidcecpbihmloaaGreatDoor.P16 Go.Proofs.YtidcecpbihmloaaGreatDoor.M02
set_option linter.unusedVariables false
set_option linter.unusedSimpArgs false
set_option maxRecDepth 100000
/-- The first k are marked. -/
def mixL (k : Nat) (l : List DT) : List (DT × Bool) := (l.take k).map (·, true) ++ (l.drop k).map (·, false)
theorem mixL_zero (l : List DT) : mixL 0 l = l.map (·, false) := by simp [mixL]
theorem mixL_all (k : Nat) (l : List DT) (h : l.length ≤ k) : mixL k l = l.map (·, true) := by
 simp [mixL, List.take_of_length_le h, List.drop_of_length_le h]
theorem mixL_len (k : Nat) (l : List DT) : (mixL k l).length = l.length := by simp [mixL]; omega
theorem mixL_at (k : Nat) (l : List DT) (h : k < l.length) : (mixL k l)[k]? = some (l[k], false) := by
 unfold mixL
 rw [List.getElem?_append_right (by simp; omega)]
 simp [Nat.min_eq_left (Nat.le_of_lt h), List.getElem?_eq_getElem h]
theorem mixL_set (k : Nat) (l : List DT) (h : k < l.length) : (mixL k l).set k (l[k], true) = mixL (k + 1) l := by
 unfold mixL
 rw [List.set_append_right _ _ (by simp; omega)]
 simp only [List.length_map, List.length_take, Nat.min_eq_left (Nat.le_of_lt h), Nat.sub_self]
 rw [List.drop_eq_getElem_cons h, List.map_cons, List.set_cons_zero, List.take_succ_eq_append_getElem h, List.map_append, List.append_assoc]
 rfl
theorem add0 (g i : Nat) : (⟨g, 0, none⟩ : Addr).add i = ⟨g, i, none⟩ := by unfold Addr.add; split <;> simp_all
section
variable {P : Program} {ops : Array Oper} {o : Oper} {a : Act} {Q : Exit → Act → World → Prop} {K : Act → World → Prop} {α : Type}
/-- A whole element of a row of one's own is written, as a step of a region that draws. -/
theorem put_step (d : Kd α) {W : World} (base : Nat) (hw : Region.wanted o (yielded ops a.tmps) = true) (hN : o.dst = none) (t : TypeId) (p x : Operand) (ho : o.op = .store t p x) (e : TypeId) {ad : Addr} {n cap : Nat} (i : Nat) (xs : List α) (x' : α) (u : Value) (seg : List Value) (ok okp : Nat → Prop)
  (haddr : a.eval p = .pointer (some (ad.add (i * d.sz)))) (hx : a.eval x = u) (hu : u.cells.toList = seg) (ht : (P.info? t).map (·.size) = some seg.length) (h1 : ∀ q ∈ seg, q.oneCell' = true)
  (HO : d.R e W base ok (.slice (some ad) n cap) xs) (hi : i < n) (hsz : seg.length = d.sz) (hM : d.M W base okp x' seg) (hokp : ∀ k, okp k → ok k ∧ k ≠ ad.block)
  (h : ∀ w1, d.R e w1 base ok (.slice (some ad) n cap) (xs.set i x') → W.grownBy w1 (some ad.block) → K a w1) : if Region.wanted o (yielded ops a.tmps) = true then Oper.wp P o a W K Q else K (a.put none undef) W := by
 obtain ⟨g, rfl⟩ := Kd.R_head HO
 have hnx : n = xs.length := (Kd.R_reads' HO).1
 obtain ⟨z⟩ : Nonempty α := ⟨x'⟩
 obtain ⟨c, hcl, -, hcc⟩ := Kd.R_getA HO z (i : Int) (by omega) (by omega)
 have hcc' : ∀ j u, c[j]? = some u → W.cell? ⟨g, ((i : Int)).toNat * d.sz + j, none⟩ = some u := fun j u hj => by
  have := hcc j u hj
  rw [add0] at this
  exact this
 have hMM : d.M W base okp x' (c.take 0 ++ seg ++ c.drop (0 + seg.length)) := by
  rw [List.take_zero, List.nil_append, List.drop_of_length_le (by omega), List.append_nil]; exact hM
 obtain ⟨hrow, hg⟩ := Kd.R_seg HO (i : Int) (by omega) (by omega) hcl hcc' (by omega) hMM hokp
 obtain ⟨_, inner, hown, hr⟩ := HO
 have hrun : (Instr.storeAt t (.pointer (some ⟨g, i * d.sz, none⟩)) u).run P W = .ok () (W.setCells g (i * d.sz) seg) := by
  rcases hown.2 with ⟨hv, _⟩ | ⟨g', cap', cur, hv, hb, hh, hnc, hcm, hcs, _⟩
  ·cases hv
  injection hv with ha _ hc
  injection ha with ha
  injection ha with hg'
  subst hg'; subst hc
  refine run_store_run t u seg hh hu ht ?_ h1
  have h2 : i * d.sz + d.sz ≤ n * d.sz := by rw [← Nat.succ_mul]; exact Nat.mul_le_mul_right _ hi
  have h3 : n * d.sz ≤ cap * d.sz := Nat.mul_le_mul_right _ (by omega)
  omega
 rw [add0] at haddr
 refine skip_ (w1 := W.setCells g (i * d.sz) seg) hw hN ?_ (h _ (by simpa using hrow) (by simpa using hg))
 unfold execOp
 simp only [ho, haddr, hx, Sem.run_bind, Sem.run_pure, Result.andThen_ok, hrun]
end
/-- Element k of a row of one's own, not yet marked. -/
theorem at_two {w0 w : World} {base : Nat} {ok : Nat → Prop} {ad : Addr} {n c k : Nat} {l : List DT} (h : (twoK w0).R 25 w base ok (.slice (some ad) n c) (mixL k l)) (hk : k < l.length) :
  ∃ A3 c3 A4 c4, w.cell? (ad.add (k * 5)) = some (.int .i64 l[k].f0) ∧ w.cell? ⟨(ad.add (k * 5)).block, (ad.add (k * 5)).off + 1, none⟩ = some (.int .i64 l[k].f1) ∧ w.cell? ⟨(ad.add (k * 5)).block, (ad.add (k * 5)).off + 2, none⟩ = some (.string l[k].f2) ∧ w.cell? ⟨(ad.add (k * 5)).block, (ad.add (k * 5)).off + 3, none⟩ = some (.slice A3 l[k].f3.length c3) ∧ w.cell? ⟨(ad.add (k * 5)).block, (ad.add (k * 5)).off + 4, none⟩ = some (.slice A4 l[k].f4.length c4) ∧ l[k].f3.length ≤ c3 ∧ Kd.string.C w0 A3 l[k].f3.length l[k].f3 ∧ l[k].f4.length ≤ c4 ∧ k25.C w0 A4 l[k].f4.length l[k].f4 := by
 obtain ⟨g, rfl⟩ := Kd.R_head h
 have hn : n = l.length := by have := (Kd.R_reads' h).1; rw [mixL_len] at this; exact this
 obtain ⟨cs, hcl, hM, hc0⟩ := Kd.R_getA h (l[k], false) (k : Int) (by omega) (by omega)
 rw [Int.toNat_natCast, List.getD_eq_getElem?_getD, mixL_at k l hk] at hM
 have hK : k25.K w0 l[k] cs := two_came' ((twoK w0).K_of_M hM)
 have hc : ∀ j u, cs[j]? = some u → w.cell? ⟨g, k * 5 + j, none⟩ = some u := fun j u hj => by
  have := hc0 j u hj
  rw [add0] at this
  exact this
 obtain ⟨A3, c3, A4, c4, rfl, l3, g3, l4, g4⟩ := k25_open hK
 rw [add0]
 exact ⟨A3, c3, A4, c4, hc 0 _ rfl, hc 1 _ rfl, hc 2 _ rfl, hc 3 _ rfl, hc 4 _ rfl, l3, g3, l4, g4⟩
/-- What double says of a piece. -/
def doubleC (x : DT) : Prop := ∀ (left op r : Nat), left ≤ 2000 → weighD x left op = some r → ∀ (w : World) (A3 : Option Addr) (c3 : Nat) (A4 : Option Addr) (c4 : Nat), x.f3.length ≤ c3 → Kd.string.C w A3 x.f3.length x.f3 → x.f4.length ≤ c4 → k25.C w A4 x.f4.length x.f4 →
 Calls Tryz.prog 21 #[aggD x A3 c3 A4 c4] w fun e w' => Below w.heap.size w w' ∧ ∃ v3 v4, e = .returned (.agg #[.int .i64 x.f0, .int .i64 x.f1, .string x.f2, v3, v4]) ∧ k25.M w' w.heap.size (fun _ => True) x (dCells x v3 v4)
/-- double's own block, its result, and its rows, k pieces doubled. -/
structure DInv (w wr : World) (x : DT) (m : Nat) (v3 v4 : Value) (k : Nat) : Prop where
 bel : Below w.heap.size w wr
 blk : wr.heap[w.heap.size]? = some (.cells #[.int .i64 x.f0, .int .i64 x.f1, .string x.f2, v3, v4] 25 (0, 0))
 res : wr.heap[w.heap.size + 1]? = some (.cells zCells 25 (0, 0))
 m0 : w.heap.size + 1 < m
 mw : m ≤ wr.heap.size
 r3 : Kd.string.R 9 wr (w.heap.size + 2) (fun k => k < m) v3 x.f3
 r4 : (twoK w).R 25 wr (w.heap.size + 2) (fun k => m ≤ k) v4 (mixL k x.f4)
namespace DInv
variable {w wr w1 : World} {x : DT} {m : Nat} {v3 v4 : Value} {k : Nat}
theorem below (h : DInv w wr x m v3 v4 k) (hb : Below wr.heap.size wr w1) : DInv w w1 x m v3 v4 k :=
 ⟨below_then h.bel h.bel.size hb, (hb.block _ (blk_lt h.blk)).trans h.blk, (hb.block _ (blk_lt h.res)).trans h.res, h.m0, Nat.le_trans h.mw hb.size, Kd.R_below h.r3 hb, Kd.R_below h.r4 hb⟩
theorem made (h : DInv w wr x m v3 v4 k) (hk : x.f4.length ≤ k) : k25.M wr (w.heap.size + 2) (fun _ => True) x (dCells x v3 v4) := by
 have h4 := h.r4
 rw [mixL_all k _ hk] at h4
 exact k25_mkM wr (w.heap.size + 2) _ x (Kd.R_mono h.r3 (fun _ _ => trivial)) (Kd.R_mono (two_all h4) (fun _ _ => trivial))
theorem put (h : DInv w wr x m v3 v4 k) {g : Nat} (hg : v4.ownBlock = some g) {j : Nat} (hr : (twoK w).R 25 w1 (w.heap.size + 2) (fun k => m ≤ k) v4 (mixL j x.f4)) (hw : wr.grownBy w1 (some g)) : DInv w w1 x m v3 v4 j := by
 have hm := h.r4.1 g hg
 have hm0 := h.m0
 refine ⟨?_, blk_grown h.blk hw (by simp; omega), blk_grown h.res hw (by simp; omega), h.m0, Nat.le_trans h.mw hw.size, Kd.R_grown h.r3 hw (fun k hk => by simp; omega), hr⟩
 exact h.bel.grown hw h.bel.size (fun k hk => by injection hk with hk; omega)
theorem fin (h : DInv w wr x m v3 v4 k) (hk : x.f4.length ≤ k) : Below w.heap.size w (set5 wr (w.heap.size + 1) (.int .i64 x.f0) (.int .i64 x.f1) (.string x.f2) v3 v4) ∧ ∃ u3 u4, Ending.returned (.agg #[.int .i64 x.f0, .int .i64 x.f1, .string x.f2, v3, v4]) = Ending.returned (.agg #[.int .i64 x.f0, .int .i64 x.f1, .string x.f2, u3, u4]) ∧ k25.M (set5 wr (w.heap.size + 1) (.int .i64 x.f0) (.int .i64 x.f1) (.string x.f2) v3 v4) w.heap.size (fun _ => True) x (dCells x u3 u4) := by
 refine ⟨below5 h.bel (by omega) _ _ _ _ _, v3, v4, rfl, ?_⟩
 have h1 := k25.M_mono (ok' := fun j => w.heap.size + 2 ≤ j) (fun j hj => hj.2.1) (k25.M_bound (h.made hk))
 exact k25.M_mono (fun _ _ => trivial) (made5 (k25.M_lower (by omega) h1) (fun j hj => by omega) _ _ _ _ _)
end DInv
end Go.Proofs.YtidcecpbihmloaaGreatDoorE

namespace Go.Proofs.YtidcecpbihmloaaGreatDoorE
open Go Go.RowKit Go.Proofs.YtidcecpbihmloaaGreatDoorW.PrintWords Go.Proofs.YtidcecpbihmloaaGreatDoorW.PrintMore Go.Proofs.YtidcecpbihmloaaGreatDoorW.PrintLast Go.Proofs.YtidcecpbihmloaaGreatDoorX Go.Proofs.YtidcecpbihmloaaGreatDoor.P16 Go.Proofs.YtidcecpbihmloaaGreatDoor.M02
set_option linter.unusedVariables false
set_option linter.unusedSimpArgs false
set_option maxRecDepth 100000
theorem weigh_mem2 : ∀ {l : List DT} {left op r : Nat}, weighL l left op = some r → ∀ x ∈ l, ∃ left' op' r', left' ≤ left ∧ weighD x left' op' = some r'
 | [], _, _, _, _, x, hx => by cases hx
 | d :: l, left, op, r, h, x, hx => by
  rw [weighL] at h
  cases hd : weighD d left op with
  | none => rw [hd] at h; cases h
  | some q =>
   rw [hd] at h
   rcases List.mem_cons.1 hx with rfl | hx
   ·exact ⟨left, op, q, Nat.le_refl _, hd⟩
   ·obtain ⟨l', o', r', h1, h2⟩ := weigh_mem2 h x hx
    have := weighD_le _ _ _ _ hd
    exact ⟨l', o', r', by omega, h2⟩
set_option maxHeartbeats 8000000 in
theorem double_step (x : DT) (hx : OkD x) (ih : ∀ y ∈ x.f4, doubleC y) : doubleC x := by
 intro left op r hl hw w A3 c3 A4 c4 l3 g3 l4 g4
 obtain ⟨hL, hp, -, hnm, hwl⟩ := weigh_plain hw
 have hn4 : x.f4.length ≤ 2000 := by
  have := weighL_le _ _ _ _ hwl
  omega
 have hn3 : x.f3.length ≤ 2000 := by
  have hpl : plainD ⟨x.f0, x.f1, x.f2, x.f3, x.f4⟩ = true := hp
  rcases plain_cases hpl with ⟨_, _, _, h3, _⟩ | ⟨_, _, _, h3, _⟩ | ⟨_, _, h3, _⟩ | ⟨_, _, h3, _, _⟩ | ⟨_, _, _, h3⟩ | ⟨_, _, _, h3⟩
  all_goals first | (rw [h3]; exact Nat.zero_le _) | omega
 have HW := Aside0.mk hwl
 have IH := Aside0.mk ih
 have HL := Aside0.mk (show left - 1 ≤ 2000 by omega)
 have HB1 := Aside0.mk (below_alloc (below_alloc (Below.refl w.heap.size w) (dBox x A3 c3 A4 c4)) (.cells zCells 25))
 have HD1 := Aside0.mk (two_old_ w (dBox x A3 c3 A4 c4) (.cells zCells 25))
 have HZ1 := Aside0.mk (two_new_ w (dBox x A3 c3 A4 c4) (.cells zCells 25))
 have HC3 := Aside0.mk (clone_str A3 c3 x.f3 _ (Kd.string.C_below g3 HB1.out) (by omega))
 have H4 := Aside0.mk g4
 clear hx hp hw hnm hwl ih hl g3 g4
 have hsz : ((w.alloc (dBox x A3 c3 A4 c4)).alloc (.cells zCells 25)).heap.size = w.heap.size + 2 := by simp
 go_enter Tryz.func21, Tryz.ntmps21
 go_upto_region 2 with (go_at_call 37; go_loud (with_reducible refine HC3.out.mono ?_); rintro e w1 ⟨⟨v3, rfl, hr3⟩, hb1⟩; obtain ⟨A3n, c3n, rfl⟩ := Kd.R_slice hr3; have HR3 := Aside0.mk hr3; have HK1 := Aside0.mk hb1; have hd1 := (hb1.block w.heap.size (by simp; omega)).trans HD1.out; have HD2 := Aside0.mk hd1; have y3 := (blk_cell hd1 3).trans rfl; have z3 := blk_frozen hd1 3; clear hr3 hb1 hd1)
 have HB2 := Aside0.mk (below_then HB1.out HB1.out.size HK1.out)
 have HZ2 := Aside0.mk ((HK1.out.block (w.heap.size + 1) (by omega)).trans HZ1.out)
 have hs1 : w.heap.size + 2 ≤ w1.heap.size := by have := HK1.out.size; omega
 have HD3 := Aside0.mk (set_blk (j := 3) HD2.out (.slice A3n x.f3.length c3n))
 have HZ3 := Aside0.mk (blk_far HZ2.out (p := ⟨w.heap.size, 3, none⟩) (by simp) (.slice A3n x.f3.length c3n))
 have HB3 := Aside0.mk (below_set (j := 3) (v := .slice A3n x.f3.length c3n) HB2.out (Nat.le_refl w.heap.size))
 rw [hsz] at HR3
 have HR4 := Aside0.mk (Kd.R_far (p := ⟨w.heap.size, 3, none⟩) (Kd.R_mono (ok' := fun k => w.heap.size + 2 ≤ k ∧ k < w1.heap.size) (Kd.R_bound HR3.out) (fun k hk => ⟨hk.2.1, hk.2.2.1⟩)) (fun k hk => by have := hk.1; show k ≠ w.heap.size; omega) (.slice A3n x.f3.length c3n))
 have hs3 : (w1.setCell ⟨w.heap.size, 3, none⟩ (.slice A3n x.f3.length c3n)).heap.size = w1.heap.size := by simp
 simp only [List.setIfInBounds_toArray, List.set_cons_zero, List.set_cons_succ] at HD3
 generalize hW : w1.setCell ⟨w.heap.size, 3, none⟩ (.slice A3n x.f3.length c3n) = W2 at HD3 HZ3 HB3 HR4 hs3 ⊢
 clear hW y3 z3 HB1 HD1 HZ1 HC3 HB2 HD2 HZ2 HR3 HK1
 have HC4 := Aside0.mk (clone_d A4 c4 x.f4 w W2 (ReadsRow.imp_ H4.out HB3.out (fun _ _ hp => hp)) (by omega))
 have p4 := (blk_cell HD3.out 4).trans rfl
 go_upto_region 3 with (go_at_call 38; go_loud (with_reducible refine HC4.out.mono ?_); rintro e w3 ⟨⟨v4, rfl, hr4⟩, hb3⟩; obtain ⟨A4n, c4n, rfl⟩ := Kd.R_slice hr4; have HR5 := Aside0.mk hr4; have HK3 := Aside0.mk hb3; have hd3 := (hb3.block w.heap.size (blk_lt HD3.out)).trans HD3.out; have HD5 := Aside0.mk hd3; have y4 := (blk_cell hd3 4).trans rfl; have z4 := blk_frozen hd3 4; clear hr4 hb3 hd3)
 rw [List.length_map] at HR5
 have HV := Aside0.mk (show DInv w (w3.setCell ⟨w.heap.size, 4, none⟩ (.slice A4n x.f4.length c4n)) x W2.heap.size (.slice A3n x.f3.length c3n) (.slice A4n x.f4.length c4n) 0 from by
  have hm : w.heap.size + 2 ≤ W2.heap.size := by omega
  refine ⟨below_set (j := 4) (v := .slice A4n x.f4.length c4n) (below_then HB3.out HB3.out.size HK3.out) (Nat.le_refl w.heap.size), ?_, ?_, by omega, ?_, ?_, ?_⟩
  ·exact set_blk (j := 4) HD5.out (.slice A4n x.f4.length c4n)
  ·exact blk_far ((HK3.out.block _ (blk_lt HZ3.out)).trans HZ3.out) (p := ⟨w.heap.size, 4, none⟩) (by simp) _
  ·have := HK3.out.size; simp; omega
  ·exact Kd.R_mono (Kd.R_far (p := ⟨w.heap.size, 4, none⟩) (Kd.R_below HR4.out HK3.out) (fun k hk => by have := hk.1; show k ≠ w.heap.size; omega) _) (fun k hk => by have := hk.2; omega)
  ·rw [mixL_zero]
   exact Kd.R_far (p := ⟨w.heap.size, 4, none⟩) (Kd.R_mono (Kd.R_lower (Kd.R_bound HR5.out) (base' := w.heap.size + 2) hm) (fun k hk => hk.2.1)) (fun k hk => by show k ≠ w.heap.size; omega) _)
 obtain ⟨m, hm⟩ : ∃ m, m = W2.heap.size := ⟨_, rfl⟩
 (try rw [List.length_map])
 generalize hW : w3.setCell ⟨w.heap.size, 4, none⟩ (.slice A4n x.f4.length c4n) = W4 at HV ⊢
 rw [← hm] at HV
 clear hW hm hs3 HR5 HD5 HK3 y4 z4 HC4 p4 HD3 HZ3 HB3 HR4
 have p4 := (blk_cell HV.out.blk 4).trans rfl
 go_wp2_with fail
 go_loopg [16] x.f4.length (fun gk i wr => ∃ k : Nat, k ≤ x.f4.length ∧ i = .int .i64 k ∧ Aside0 (k + gk = x.f4.length ∧ DInv w wr x m (.slice A3n x.f3.length c3n) (.slice A4n x.f4.length c4n) k))
 case atStart => exact ⟨0, by omega, rfl, ⟨by omega, HV.out⟩⟩
 case round =>
  clear p4 HV
  obtain ⟨k, hk, rfl, HVV⟩ := hrel
  obtain ⟨hkg, hV⟩ := HVV.out
  have HV := Aside0.mk hV
  have HN := Aside0.mk hkg
  clear HVV hkg hV
  by_cases hlt : k < x.f4.length
  ·rcases A4n with _ | ad
   ·exact absurd (Kd.R_reads' HV.out.r4).2.2.2.2 (fun h => by obtain ⟨ad, h, _⟩ := h (by rw [mixL_len]; omega); cases h)
   obtain ⟨A3q, c3q, A4q, c4q, a0, a1, a2, a3, a4, hl3, hC3, hl4, hC4⟩ := at_two HV.out.r4 hlt
   obtain ⟨y, hy⟩ : ∃ y, y = x.f4[k] := ⟨_, rfl⟩
   have hym : y ∈ x.f4 := hy ▸ List.getElem_mem hlt
   have HY := Aside0.mk hy
   rw [← hy] at a0 a1 a2 a3 a4 hl3 hC3 hl4 hC4
   obtain ⟨l', o', r', hlw, hwy⟩ := weigh_mem2 HW.out y hym
   have HB5 := Aside0.mk ((below_alloc (Below.refl wr.heap.size wr) (dBox y A3q c3q A4q c4q)).drew)
   have HVw := Aside0.mk (HV.out.below HB5.out)
   have HT5 := Aside0.mk (show (wr.alloc (dBox y A3q c3q A4q c4q)).drew.heap[wr.heap.size]? = some (dBox y A3q c3q A4q c4q) from heap_alloc_new wr (dBox y A3q c3q A4q c4q))
   have HYC := Aside0.mk (IH.out y hym l' o' r' (by have := HL.out; omega) hwy (wr.alloc (dBox y A3q c3q A4q c4q)).drew A3q c3q A4q c4q hl3 (Kd.string.C_below hC3 HVw.out.bel) hl4 (k25.C_below hC4 HVw.out.bel))
   have hlt2 : (k : Int) < (x.f4.length : Int) := by omega
   clear hwy hlw hC3 hC4 hy
   go_upto_region 6 with fail
   clear a0 a1 a2 a3 a4
   refine start_ (n := 7) (S := fun w' => w'.cell? ⟨w.heap.size, 4, none⟩ = some (.slice (some ad) x.f4.length c4n) ∧ w'.cell? ⟨wr.heap.size, 0, none⟩ = some (.int .i64 y.f0) ∧ w'.cell? ⟨wr.heap.size, 1, none⟩ = some (.int .i64 y.f1) ∧ w'.cell? ⟨wr.heap.size, 2, none⟩ = some (.string y.f2) ∧ w'.cell? ⟨wr.heap.size, 3, none⟩ = some (.slice A3q y.f3.length c3q) ∧ w'.cell? ⟨wr.heap.size, 4, none⟩ = some (.slice A4q y.f4.length c4q)) (ds := [6]) #[false, false, false, false, false, false, false] (by kernel_rfl) rfl rfl ⟨(blk_cell HVw.out.blk 4).trans rfl, (blk_cell HT5.out 0).trans rfl, (blk_cell HT5.out 1).trans rfl, (blk_cell HT5.out 2).trans rfl, (blk_cell HT5.out 3).trans rfl, (blk_cell HT5.out 4).trans rfl⟩ (fun hHeld => ?_)
   refine pure_ (i := 0) (N := some 21) (v := ?_) (a' := ?_) #[true, false, false, false, false, false, false] rfl rfl (by kernel_rfl) (fun _ _ _ h => h) (Or.inl ⟨by rfl, ?_⟩) ?_ ?_
   rotate_left
   ·intro w'
    go_simp
    with_reducible rfl
   rotate_left
   ·simp only [Act.put, List.setIfInBounds_toArray, List.set_cons_zero, List.set_cons_succ, i64_w, i32_w]
    rfl
   refine pure_ (i := 2) (N := some 23) (v := ?_) (a' := ?_) #[true, false, true, false, false, false, false] rfl rfl (by kernel_rfl) (fun _ _ _ h => h) (Or.inl ⟨by rfl, ?_⟩) ?_ ?_
   rotate_left
   ·intro w'
    go_simp
    with_reducible rfl
   rotate_left
   ·simp only [Act.put, List.setIfInBounds_toArray, List.set_cons_zero, List.set_cons_succ, i64_w, i32_w]
    rfl
   refine take_ (i := 1) (N := some 22) (v := ?_) (a' := ?_) #[true, true, true, false, false, false, false] rfl rfl (by kernel_rfl) (fun _ _ _ h => h) (Or.inl ⟨by rfl, ?_⟩) hHeld ?_ ?_
   rotate_left
   ·intro w' s0
    go_split_ands
    go_simp
    with_reducible rfl
   rotate_left
   ·simp only [Act.put, List.setIfInBounds_toArray, List.set_cons_zero, List.set_cons_succ, i64_w, i32_w]
    rfl
   refine take_ (i := 3) (N := some 24) (v := ?_) (a' := ?_) #[true, true, true, true, false, false, false] rfl rfl (by kernel_rfl) (fun _ _ _ h => h) (Or.inl ⟨by rfl, ?_⟩) hHeld ?_ ?_
   rotate_left
   ·intro w' s0
    go_split_ands
    go_simp
    with_reducible rfl
   rotate_left
   ·simp only [Act.put, List.setIfInBounds_toArray, List.set_cons_zero, List.set_cons_succ, i64_w, i32_w]
    rfl
   refine one_ (i := 4) (N := some 25) #[true, true, true, true, true, false, false] rfl rfl (by kernel_rfl) (by decide) (fun K hK => ?_)
   refine goes_ Tryz.func21 (by kernel_rfl) rfl #[aggD y A3q c3q A4q c4q] (by rfl) rfl rfl (by (try simp only [List.map_toArray, List.map_cons, List.map_nil]); first | done | rfl) ?_
   refine HYC.out.mono ?_
   rintro e w' ⟨hb5, u3', u4', rfl, hm5⟩
   obtain ⟨B3, d3, B4, d4, rfl, rfl⟩ := made_slices hm5
   have HM5 := Aside0.mk hm5
   have HV6 := Aside0.mk (HVw.out.below hb5)
   have HT6 := Aside0.mk ((hb5.block wr.heap.size (blk_lt HT5.out)).trans HT5.out)
   clear hb5 hm5
   refine ⟨_, rfl, ?_⟩
   refine hK.out _ _ ⟨(blk_cell HV6.out.blk 4).trans rfl, (blk_cell HT6.out 0).trans rfl, (blk_cell HT6.out 1).trans rfl, (blk_cell HT6.out 2).trans rfl, (blk_cell HT6.out 3).trans rfl, (blk_cell HT6.out 4).trans rfl⟩ (fun hHeld => ?_)
   clear hK K
   refine norm_ (a' := ?_) ?_ ?_
   rotate_left
   ·show Act.put _ (some 25) _ = _
    simp only [Act.put, List.setIfInBounds_toArray, List.set_cons_zero, List.set_cons_succ, i64_w, i32_w]
    rfl
   refine pure_ (i := 5) (N := some 26) (v := ?_) (a' := ?_) #[true, true, true, true, true, true, false] rfl rfl (by kernel_rfl) (fun _ _ _ h => h) (Or.inl ⟨by rfl, ?_⟩) ?_ ?_
   rotate_left
   ·intro w'
    go_simp
    with_reducible rfl
   rotate_left
   ·simp only [Act.put, List.setIfInBounds_toArray, List.set_cons_zero, List.set_cons_succ, i64_w, i32_w]
    rfl
   refine last_ (i := 6) (N := none) #[true, true, true, true, true, true, true] rfl rfl (by kernel_rfl) (by decide) (fun K hK => ?_)
   refine put_step (twoK w) (w.heap.size + 2) (by rfl) rfl 25 (.tmp 26) (.tmp 25) rfl 25 k (mixL k x.f4) (y, true) _ (dCells y (.slice B3 y.f3.length d3) (.slice B4 y.f4.length d4)) (fun j => m ≤ j) (fun j => wr.heap.size + 1 ≤ j) rfl rfl rfl (by rfl) ?_ HV6.out.r4 hlt rfl ?_ ?_ ?_
   ·intro q hq
    simp only [List.mem_cons, List.not_mem_nil, or_false] at hq
    rcases hq with rfl | rfl | rfl | rfl | rfl <;> rfl
   ·have h := k25.M_mono (ok' := fun j => wr.heap.size + 1 ≤ j) (fun j hj => by have h2 := hj.2.1; simp at h2; exact h2) (k25.M_bound HM5.out)
    exact two_made (k25.M_lower (by have := HV.out.bel.size; have := HV.out.m0; have := HV.out.mw; simp; omega) h)
   ·intro j hj
    have h1 := HV.out.mw
    have h2 := Kd.R_lt HV.out.r4 ad.block rfl
    omega
   intro w6 hr1 hg1
   rw [HY.out, mixL_set k x.f4 hlt] at hr1
   refine hK.out _ _ ?_
   clear hK K
   refine done_ (by kernel_rfl) ?_
   have HVf := Aside0.mk (HV6.out.put (g := ad.block) rfl hr1 hg1)
   go_wp2_with fail
   go_roundg (gk - 1)
   case measure => have := HN.out; omega
   case rel => exact ⟨k + 1, by omega, by go_num, ⟨by have := HN.out; omega, HVf.out⟩⟩
  ·have q0 := (blk_cell HV.out.blk 0).trans rfl
   have q1 := (blk_cell HV.out.blk 1).trans rfl
   have q2 := (blk_cell HV.out.blk 2).trans rfl
   have q3 := (blk_cell HV.out.blk 3).trans rfl
   have q4 := (blk_cell HV.out.blk 4).trans rfl
   have hy := Lib.cell_of_heap HV.out.res
   have hz := Lib.frozen_of_heap HV.out.res
   have HM := Aside0.mk (HV.out.made (by omega))
   have HVV := Aside0.mk HV.out
   go_wp2_with fail
   refine bodyPost_ret (results_cell_row rfl _ _ (w.heap.size + 1) 25 _ (0, 0) _ rfl (set_blk (j := 4) (set_blk (j := 3) (set_blk (j := 2) (set_blk (j := 1) (set_blk (j := 0) HV.out.res _) _) _) _) _) Tryz.underlying25 rfl (by kernel_rfl)) rfl ?_
   exact HVV.out.fin (by omega)
theorem double_c (x : DT) (hx : OkD x) : doubleC x := by
 induction hx with
 | mk x h0 h1 h2 n3 h3 n4 h4 ih => exact double_step x (.mk x h0 h1 h2 n3 h3 n4 h4) ih
end Go.Proofs.YtidcecpbihmloaaGreatDoorE

namespace Go.Proofs.YtidcecpbihmloaaGreatDoorE
open Go Go.RowKit Go.Proofs.YtidcecpbihmloaaGreatDoorW.PrintWords Go.Proofs.YtidcecpbihmloaaGreatDoorW.PrintMore Go.Proofs.YtidcecpbihmloaaGreatDoorW.PrintLast Go.Proofs.YtidcecpbihmloaaGreatDoorX Go.Proofs.YtidcecpbihmloaaGreatDoor.P16 Go.Proofs.YtidcecpbihmloaaGreatDoor.M02
set_option linter.unusedVariables false
set_option linter.unusedSimpArgs false
theorem bs_mid (i j : Nat) (hij : i < j) (hj : j ≤ 2000) : wrap64 ((IntKind.u64.wrap (wrap64 ((i : Int) + (j : Int)))) / 2) = (((i + j) / 2 : Nat) : Int) := by
 rw [w64 (n := (i : Int) + (j : Int)) (by omega) (by omega), show IntKind.u64.wrap ((i : Int) + (j : Int)) = ((i : Int) + (j : Int)) % 18446744073709551616 from rfl]
 rw [w64 (by omega) (by omega)]
 omega
theorem less_f (a b : ByteArray) : cmp_Less_string.f a b = some (decide (cmpB a b < 0)) := by
 have h : Op.bytesLess a.toList b.toList = decide (cmpB a b < 0) := by
  rw [toList_data, toList_data]
  have := less_cmpB a b
  cases hb : Op.bytesLess a.data.toList b.data.toList with
  | true => exact (decide_eq_true (this.1 hb)).symm
  | false => exact (decide_eq_false (fun h => by rw [this.2 h] at hb; cases hb)).symm
 unfold cmp_Less_string.f cmp_isNaN_string.f
 simp [h]
theorem nan_f (a : ByteArray) : slices_isNaN_string.f a = some false := by
 unfold slices_isNaN_string.f
 simp
theorem lt_getD {ns : List ByteArray} (hn : namesD ns = true) (i j : Nat) (h : i < j) (hj : j < ns.length) : cmpB (ns.getD i em) (ns.getD j em) < 0 := by
 have := names_lt hn i j h hj
 rw [List.getD_eq_getElem?_getD, List.getD_eq_getElem?_getD, List.getElem?_eq_getElem hj, List.getElem?_eq_getElem (by omega : i < ns.length)]
 exact this
theorem bs_l0 (ns : List ByteArray) (name : ByteArray) (hn : namesD ns = true) (hl : ns.length ≤ 2000) : ∀ (d i j : Nat), i ≤ j → j ≤ ns.length → j - i ≤ d → (i = 0 ∨ cmpB (ns.getD (i - 1) em) name < 0) → (j = ns.length ∨ ¬ cmpB (ns.getD j em) name < 0) →
  ∃ (p : Nat) (b : Bool), Ev (fun k => slices_BinarySearch_string_string.l0 k ns name (ns.length : Int) (i : Int) (j : Int)) ((p : Int), b) ∧ (b = true → p < ns.length ∧ ns.getD p em = name) ∧ (b = false → name ∉ ns) := by
 intro d
 induction d with
 | zero =>
  intro i j hij hj hd h1 h2
  obtain rfl : i = j := by omega
  have fin : ¬ (i < ns.length ∧ ns.getD i em = name) → name ∉ ns := by
   intro hne hmem
   obtain ⟨q, hq, he⟩ := List.getElem_of_mem hmem
   have he : ns.getD q em = name := by rw [List.getD_eq_getElem?_getD, List.getElem?_eq_getElem hq]; exact he
   have self : cmpB name name = 0 := (cmpB_ord.eq _ _).2 rfl
   rcases Nat.lt_trichotomy q i with hlt | rfl | hgt
   ·rcases h1 with h1 | h1
    ·omega
    ·rcases Nat.lt_or_ge q (i - 1) with hlt2 | hge
     ·have := lt_getD hn q (i - 1) hlt2 (by omega)
      rw [he] at this
      have hneg := cmpB_ord.neg name (ns.getD (i - 1) em)
      omega
     ·obtain rfl : q = i - 1 := by omega
      rw [he] at h1
      omega
   ·exact hne ⟨hq, he⟩
   ·rcases h2 with h2 | h2
    ·omega
    ·have := lt_getD hn i q hgt hq
     rw [he] at this
     exact h2 this
  by_cases hi : i < ns.length
  ·by_cases he : ns.getD i em = name
   ·refine ⟨i, true, Ev.step (f := fun _ => some ((i : Int), true)) (fun k => ?_) (Ev.now _), fun _ => ⟨hi, he⟩, (fun h => by cases h)⟩
    simp only [slices_BinarySearch_string_string.l0]
    rw [if_neg (by omega), if_pos (by omega), if_pos (by omega), if_pos (by omega), get_rdOf, he, if_pos rfl]
   ·refine ⟨i, false, Ev.step (f := fun _ => some ((i : Int), false)) (fun k => ?_) (Ev.now _), (fun h => by cases h), fun _ => fin (fun h => he h.2)⟩
    simp only [slices_BinarySearch_string_string.l0]
    rw [if_neg (by omega), if_pos (by omega), if_pos (by omega), if_pos (by omega), get_rdOf, if_neg (fun h => he (B_inj (by rw [toList_data, toList_data] at h; exact h))), nan_f]
    rfl
  ·refine ⟨i, false, Ev.step (f := fun _ => some ((i : Int), false)) (fun k => ?_) (Ev.now _), (fun h => by cases h), fun _ => fin (fun h => hi h.1)⟩
   simp only [slices_BinarySearch_string_string.l0]
   rw [if_neg (by omega), if_neg (by omega)]
 | succ d ih =>
  intro i j hij hj hd h1 h2
  rcases Nat.lt_or_ge i j with hlt | hge
  ·have hm := bs_mid i j hlt (by omega)
   by_cases hc : cmpB (ns.getD ((i + j) / 2) em) name < 0
   ·obtain ⟨p, b, hev, hs⟩ := ih ((i + j) / 2 + 1) j (by omega) hj (by omega) (.inr (by simpa using hc)) h2
    refine ⟨p, b, Ev.step (fun k => ?_) hev, hs⟩
    simp only [slices_BinarySearch_string_string.l0, hm, less_f, get_rdOf]
    rw [if_pos (by omega), if_pos (by omega), if_pos (by omega), Option.bind_some, if_pos (decide_eq_true hc), w64 (by omega) (by omega)]
    rfl
   ·obtain ⟨p, b, hev, hs⟩ := ih i ((i + j) / 2) (by omega) (by omega) (by omega) h1 (.inr hc)
    refine ⟨p, b, Ev.step (fun k => ?_) hev, hs⟩
    simp only [slices_BinarySearch_string_string.l0, hm, less_f, get_rdOf]
    rw [if_pos (by omega), if_pos (by omega), if_pos (by omega), Option.bind_some, if_neg (by rw [decide_eq_true_eq]; exact hc)]
  ·exact ih i j hij hj (by omega) h1 h2
/-- Where a name is. -/
theorem bs_c (ns : List ByteArray) (name : ByteArray) (hn : namesD ns = true) (hl : ns.length ≤ 2000) : ∃ (p : Nat) (b : Bool), ((b = true → p < ns.length ∧ ns.getD p em = name) ∧ (b = false → name ∉ ns)) ∧ ∀ (w : World) (A : Option Addr) (c : Nat), GL w → Kd.string.C w A ns.length ns → ns.length ≤ c → Calls Tryz.prog 20 #[.slice A ns.length c, .string name] w fun e w' => e = .returned (.tuple #[.int .i64 p, .bool b]) ∧ Drawn0 w w' := by
 obtain ⟨p, b, ⟨k, hk⟩, hs⟩ := bs_l0 ns name hn hl ns.length 0 ns.length (Nat.zero_le _) (Nat.le_refl _) (by omega) (.inl rfl) (.inl rfl)
 exact ⟨p, b, hs, fun w A c hgl hC hc => slices_BinarySearch_string_string.calls k A c ns name p b w hgl hC hc (hk k (Nat.le_refl _))⟩
end Go.Proofs.YtidcecpbihmloaaGreatDoorE

namespace Go.Proofs.YtidcecpbihmloaaGreatDoorE
open Go Go.RowKit Go.Proofs.YtidcecpbihmloaaGreatDoorW.PrintWords Go.Proofs.YtidcecpbihmloaaGreatDoorW.PrintMore Go.Proofs.YtidcecpbihmloaaGreatDoorW.PrintLast Go.Proofs.YtidcecpbihmloaaGreatDoorX Go.Proofs.YtidcecpbihmloaaGreatDoor.P16 Go.Proofs.YtidcecpbihmloaaGreatDoor.M02
set_option linter.unusedVariables false
set_option linter.unusedSimpArgs false
set_option maxRecDepth 100000
theorem getS_none (x : DT) (name : ByteArray) (h : ¬ (x.f0 = 5 ∧ rightD x = true)) : getS x name = (zeroD, false) := by unfold getS; rw [if_neg h]
theorem getS_out (x : DT) (name : ByteArray) (h : name ∉ x.f3) : getS x name = (zeroD, false) := by
 unfold getS
 split
 ·rw [List.findIdx?_eq_none_iff.2]
  intro s hs
  simp only [beq_eq_false_iff_ne]
  intro e
  exact h (B_inj e ▸ hs)
 ·rfl
theorem getS_in (x : DT) (name : ByteArray) (h5 : x.f0 = 5) (hr : rightD x = true) (p : Nat) (hp : p < x.f3.length) (he : x.f3.getD p em = name) (hn : namesD x.f3 = true) : getS x name = (x.f4.getD p zeroD, true) := by
 unfold getS
 rw [if_pos ⟨h5, hr⟩, (List.findIdx?_eq_some_iff_getElem).2 ⟨hp, ?_, ?_⟩]
 ·rw [List.getD_eq_getElem?_getD, List.getElem?_eq_getElem hp] at he
  simp only [Option.getD_some] at he
  rw [he]
  simp
 ·intro j hj
  simp only [beq_iff_eq]
  intro e
  have h1 := lt_getD hn j p hj hp
  have h2 : x.f3.getD j em = name := by
   rw [List.getD_eq_getElem?_getD, List.getElem?_eq_getElem (by omega : j < x.f3.length)]
   exact B_inj e
  rw [h2, he] at h1
  have : cmpB name name = 0 := (cmpB_ord.eq _ _).2 rfl
  omega
/-- What Get says. -/
def getP (w : World) (z : DT × Bool) (e : Ending) (w' : World) : Prop :=
 Below w.heap.size w w' ∧ ∃ A3 c3 A4 c4, e = .returned (.tuple #[aggD z.1 A3 c3 A4 c4, .bool z.2]) ∧ z.1.f3.length ≤ c3 ∧ Kd.string.C w' A3 z.1.f3.length z.1.f3 ∧ z.1.f4.length ≤ c4 ∧ k25.C w' A4 z.1.f4.length z.1.f4
theorem getP_zero {w w' : World} (h : Below w.heap.size w w') : getP w (zeroD, false) (.returned (.tuple #[.agg zCells, .bool false])) w' :=
 ⟨h, none, 0, none, 0, rfl, Nat.le_refl _, Kd.C_nil _ _, Nat.le_refl _, Kd.C_nil _ _⟩
set_option maxHeartbeats 8000000 in
theorem Get_c (x : DT) (hx : OkD x) (name : ByteArray) (w : World) (hgl : GL w) (A3 : Option Addr) (c3 : Nat) (A4 : Option Addr) (c4 : Nat) (l3 : x.f3.length ≤ c3) (g3 : Kd.string.C w A3 x.f3.length x.f3) (l4 : x.f4.length ≤ c4) (g4 : k25.C w A4 x.f4.length x.f4) :
  Calls Tryz.prog 9 #[aggD x A3 c3 A4 c4, .string name] w (getP w (getS x name)) := by
 have HB := Aside0.mk (below_alloc (below_alloc (Below.refl w.heap.size w) (dBox x A3 c3 A4 c4)) (.cells zCells 25))
 have HD := Aside0.mk (two_old_ w (dBox x A3 c3 A4 c4) (.cells zCells 25))
 have HZ := Aside0.mk (two_new_ w (dBox x A3 c3 A4 c4) (.cells zCells 25))
 have HG := Aside0.mk hgl
 have H3 := Aside0.mk g3
 have H4 := Aside0.mk g4
 have HX := Aside0.mk hx
 have hsz : ((w.alloc (dBox x A3 c3 A4 c4)).alloc (.cells zCells 25)).heap.size = w.heap.size + 2 := by simp
 have HR := Aside0.mk (Right_c x hx _ (HG.out.below HB.out) A3 c3 A4 c4 l3 (Kd.string.C_below g3 HB.out) l4 (k25.C_below g4 HB.out))
 clear hgl g3 g4 hx
 by_cases h5 : x.f0 = 5
 ·have k5 : (x.f0 != 5) = false := by rw [h5]; rfl
  cases hr : rightD x with
  | false =>
   rw [getS_none x name (fun h => by rw [hr] at h; cases h.2)]
   rw [hr] at HR
   clear hr h5
   go_enter Tryz.func9, Tryz.ntmps9
   go_wp2_with (go_at_call 15; go_loud (with_reducible refine HR.out.mono ?_); rintro e w1 ⟨rfl, hb⟩; have HB1 := Aside0.mk hb; have hz1 := (hb.block (w.heap.size + 1) (by omega)).trans HZ.out; have HZ1 := Aside0.mk hz1; have hy := Lib.cell_of_heap hz1; have hz := Lib.frozen_of_heap hz1; clear hb hz1)
   refine bodyPost_ret (results_ct rfl _ _ (w.heap.size + 1) 25 _ (0, 0) _ rfl (set_blk (j := 4) (set_blk (j := 3) (set_blk (j := 2) (set_blk (j := 1) (set_blk (j := 0) HZ1.out _) _) _) _) _) Tryz.underlying25 rfl (by kernel_rfl)) rfl ?_
   exact getP_zero (below5 (below_then HB.out HB.out.size HB1.out) (by omega) _ _ _ _ _)
  | true =>
   rw [hr] at HR
   have HR5 := Aside0.mk (And.intro h5 hr)
   obtain ⟨r, hwr⟩ := Option.isSome_iff_exists.1 hr
   obtain ⟨hL, hp, -, hnm, hwl⟩ := weigh_plain hwr
   have hn4 : x.f4.length ≤ 2000 := by have := weighL_le _ _ _ _ hwl; omega
   have hn34 : x.f3.length = x.f4.length := by
    have hpl : plainD ⟨x.f0, x.f1, x.f2, x.f3, x.f4⟩ = true := hp
    rcases plain_cases hpl with ⟨e0, _⟩ | ⟨e0, _⟩ | ⟨e0, _⟩ | ⟨e0, _⟩ | ⟨e0, _⟩ | ⟨_, _, _, h3⟩
    all_goals first | exact h3 | (rw [h5] at e0; cases e0)
   obtain ⟨p, b, hs, hbs⟩ := bs_c x.f3 name hnm (by omega)
   have HW := Aside0.mk hwl
   have HNM := Aside0.mk hnm
   have HN34 := Aside0.mk hn34
   have HS := Aside0.mk hs
   have HBS := Aside0.mk hbs
   clear hr h5 hwr hL hp hnm hwl hs hbs hn34
   cases b with
   | false =>
    rw [getS_out x name (HS.out.2 rfl)]
    go_enter Tryz.func9, Tryz.ntmps9
    go_wp2_with (first | (go_at_call 15; go_loud (with_reducible refine HR.out.mono ?_); rintro e w1 ⟨rfl, hb⟩; have HB1 := Aside0.mk hb; have HB2 := Aside0.mk (below_then HB.out HB.out.size hb); have hd1 := (hb.block w.heap.size (by omega)).trans HD.out; have q3 := (blk_cell hd1 3).trans rfl; have hz1 := (hb.block (w.heap.size + 1) (by omega)).trans HZ.out; have HZ1 := Aside0.mk hz1; have HD1 := Aside0.mk hd1; clear hb hz1 hd1) | (go_at_call 20; go_loud (with_reducible refine (HBS.out w1 A3 c3 (HG.out.below HB2.out) (Kd.string.C_below H3.out HB2.out) l3).mono ?_); rintro e w2 ⟨rfl, hd2⟩; have HB3 := Aside0.mk hd2.below; have hz2 := (hd2.below.block (w.heap.size + 1) (blk_lt HZ1.out)).trans HZ1.out; have HZ2 := Aside0.mk hz2; have hy := Lib.cell_of_heap hz2; have hz := Lib.frozen_of_heap hz2; clear hd2 hz2))
    refine bodyPost_ret (results_ct rfl _ _ (w.heap.size + 1) 25 _ (0, 0) _ rfl (set_blk (j := 4) (set_blk (j := 3) (set_blk (j := 2) (set_blk (j := 1) (set_blk (j := 0) HZ2.out _) _) _) _) _) Tryz.underlying25 rfl (by kernel_rfl)) rfl ?_
    exact getP_zero (below5 (below_then HB2.out HB2.out.size HB3.out) (by omega) _ _ _ _ _)
   | true =>
    obtain ⟨hp3, hpe⟩ := HS.out.1 rfl
    have hp4 : p < x.f4.length := by have := HN34.out; omega
    rw [getS_in x name HR5.out.1 HR5.out.2 p hp3 hpe HNM.out]
    clear hpe
    obtain ⟨ad, A3q, c3q, A4q, c4q, hA4, a0, a1, a2, a3, a4, hl3, hC3, hl4, hC4⟩ := at_T25 H4.out (p : Int) (by omega) (by omega)
    obtain ⟨y, hy⟩ : ∃ y, y = rd_T25 x.f4 (p : Int) := ⟨_, rfl⟩
    have HTK := Aside0.mk (rd_take x.f4 p (by omega)).1
    have HYP := Aside0.mk (show x.f4.getD p zeroD = y from by
     rw [hy]
     unfold rd_T25
     rw [Int.toNat_natCast, List.getD_eq_getElem?_getD, List.getD_eq_getElem?_getD, List.getElem?_eq_getElem (by omega : p < x.f4.length)]
     rfl)
    rw [← hy] at a0 a1 a2 a3 a4 hl3 hC3 hl4 hC4 HTK
    clear hy
    subst hA4
    rw [Int.toNat_natCast] at a0 a1 a2 a3 a4
    obtain ⟨l', o', r', hlw, hwy⟩ := weigh_mem2 HW.out y HTK.out
    have HYC := Aside0.mk (double_c y (HX.out.out.2.2.2.2.2.2 y HTK.out) l' o' r' (by omega) hwy)
    have HC := Aside0.mk (And.intro (And.intro hl3 hC3) (And.intro hl4 hC4))
    have HA0 := Aside0.mk a0
    have HA1 := Aside0.mk a1
    have HA2 := Aside0.mk a2
    have HA3 := Aside0.mk a3
    have HA4 := Aside0.mk a4
    have hlt2 : (p : Int) < (x.f4.length : Int) := by omega
    have hlt3 : p < x.f4.length := by omega
    clear hlw hwy hl3 hC3 hl4 hC4 a0 a1 a2 a3 a4
    rw [HYP.out]
    go_enter Tryz.func9, Tryz.ntmps9
    go_wp2_with (first | (go_at_call 15; go_loud (with_reducible refine HR.out.mono ?_); rintro e w1 ⟨rfl, hb⟩; have HB1 := Aside0.mk hb; have HB2 := Aside0.mk (below_then HB.out HB.out.size hb); have hd1 := (hb.block w.heap.size (by omega)).trans HD.out; have q3 := (blk_cell hd1 3).trans rfl; have hz1 := (hb.block (w.heap.size + 1) (by omega)).trans HZ.out; have HZ1 := Aside0.mk hz1; have HD1 := Aside0.mk hd1; clear hb hz1 hd1) | (go_at_call 20; go_loud (with_reducible refine (HBS.out w1 A3 c3 (HG.out.below HB2.out) (Kd.string.C_below H3.out HB2.out) l3).mono ?_); rintro e w2 ⟨rfl, hd2⟩; have HB3 := Aside0.mk (below_then HB2.out HB2.out.size hd2.below); have hz2 := (hd2.below.block (w.heap.size + 1) (blk_lt HZ1.out)).trans HZ1.out; have HZ2 := Aside0.mk hz2; have hd2' := (hd2.below.block w.heap.size (blk_lt HD1.out)).trans HD1.out; have r4 := (blk_cell hd2' 4).trans rfl; have a0 := pw_cell_below HB3.out HA0.out; have a1 := pw_cell_below HB3.out HA1.out; have a2 := pw_cell_below HB3.out HA2.out; have a3 := pw_cell_below HB3.out HA3.out; have a4 := pw_cell_below HB3.out HA4.out; clear hd2 hz2 hd2') | (go_at_call 21; go_loud (with_reducible refine (HYC.out w2 A3q c3q A4q c4q HC.out.1.1 (Kd.string.C_below HC.out.1.2 HB3.out) HC.out.2.1 (k25.C_below HC.out.2.2 HB3.out)).mono ?_); rintro e w4 ⟨hb4, u3, u4, rfl, hm4⟩; obtain ⟨A3z, c3z, A4z, c4z, rfl, rfl⟩ := made_slices hm4; have HB4 := Aside0.mk hb4; have HM4 := Aside0.mk hm4; have hz4 := (hb4.block (w.heap.size + 1) (blk_lt HZ2.out)).trans HZ2.out; have HZ4 := Aside0.mk hz4; have hy := Lib.cell_of_heap hz4; have hz := Lib.frozen_of_heap hz4; clear hb4 hm4 hz4))
    refine bodyPost_ret (results_ct rfl _ _ (w.heap.size + 1) 25 _ (0, 0) _ rfl (set_blk (j := 4) (set_blk (j := 3) (set_blk (j := 2) (set_blk (j := 1) (set_blk (j := 0) HZ4.out _) _) _) _) _) Tryz.underlying25 rfl (by kernel_rfl)) rfl ?_
    have hz2 := blk_lt HZ2.out
    have hm := made5 (b := w.heap.size + 1) (k25.M_mono (ok' := fun j => w2.heap.size ≤ j) (fun j hj => hj.2.1) (k25.M_bound HM4.out)) (fun j hj => by omega) (.int .i64 y.f0) (.int .i64 y.f1) (.string y.f2) (.slice A3z y.f3.length c3z) (.slice A4z y.f4.length c4z)
    obtain ⟨m1, m2, m3, m4⟩ := made_open hm
    exact ⟨below5 (below_then HB3.out HB3.out.size HB4.out) (by omega) _ _ _ _ _, A3z, c3z, A4z, c4z, rfl, m1, m2, m3, m4⟩
 ·have k5 : (x.f0 != 5) = true := by simpa using h5
  rw [getS_none x name (fun h => h5 h.1)]
  clear h5 HR
  have hy := Lib.cell_of_heap HZ.out
  have hz := Lib.frozen_of_heap HZ.out
  go_enter Tryz.func9, Tryz.ntmps9
  go_wp2_with fail
  refine bodyPost_ret (results_ct rfl _ _ (w.heap.size + 1) 25 zCells (0, 0) _ rfl HZ.out Tryz.underlying25 rfl (by kernel_rfl)) rfl ?_
  exact getP_zero HB.out
end Go.Proofs.YtidcecpbihmloaaGreatDoorE

namespace Go.Proofs.YtidcecpbihmloaaGreatDoorE
open Go Go.RowKit Go.Proofs.YtidcecpbihmloaaGreatDoorW.PrintWords Go.Proofs.YtidcecpbihmloaaGreatDoorW.PrintMore Go.Proofs.YtidcecpbihmloaaGreatDoorW.PrintLast Go.Proofs.YtidcecpbihmloaaGreatDoorX Go.Proofs.YtidcecpbihmloaaGreatDoor.P16 Go.Proofs.YtidcecpbihmloaaGreatDoor.M02
set_option linter.unusedVariables false
set_option linter.unusedSimpArgs false
set_option maxRecDepth 100000
theorem ret_bool {a b : Bool} (h : a = b) : Ending.returned (.bool a) = .returned (.bool b) := by rw [h]
theorem ret_str {a b : ByteArray} (h : a = b) : Ending.returned (.string a) = .returned (.string b) := by rw [h]
theorem letter_c (c : UInt8) (w : World) : Calls Tryz.prog 72 #[.int .u8 (c.toNat : Int)] w fun e w' => e = .returned (.bool (isLet c)) ∧ w' = w := by
 have hc := u8_lt c
 obtain ⟨r, hr⟩ : ∃ r, r = isLet c := ⟨_, rfl⟩
 rw [← hr]
 have HR := Aside0.mk hr
 clear hr
 by_cases h1 : 97 ≤ c.toNat
 ·by_cases h2 : c.toNat ≤ 122
  ·have HV := Aside0.mk (show r = true by rw [HR.out]; unfold isLet; simp [h1, h2])
   go_enter Tryz.func72, Tryz.ntmps72
   go_wp2_with fail
   go_ret
   exact ⟨ret_bool (by have h := HV.out; first | exact h.symm | exact (decide_eq_true (by omega)).trans h.symm | exact (decide_eq_false (by omega)).trans h.symm), rfl⟩
  ·have HV := Aside0.mk (show r = false by rw [HR.out]; unfold isLet; simp; omega)
   go_enter Tryz.func72, Tryz.ntmps72
   go_wp2_with fail
   go_ret
   exact ⟨ret_bool (by have h := HV.out; first | exact h.symm | exact (decide_eq_true (by omega)).trans h.symm | exact (decide_eq_false (by omega)).trans h.symm), rfl⟩
 ·have HV := Aside0.mk (show r = false by rw [HR.out]; unfold isLet; simp; omega)
  go_enter Tryz.func72, Tryz.ntmps72
  go_wp2_with fail
  go_ret
  exact ⟨ret_bool (by have h := HV.out; first | exact h.symm | exact (decide_eq_true (by omega)).trans h.symm | exact (decide_eq_false (by omega)).trans h.symm), rfl⟩
theorem digit_c (c : UInt8) (w : World) : Calls Tryz.prog 74 #[.int .u8 (c.toNat : Int)] w fun e w' => e = .returned (.bool (isDig c)) ∧ w' = w := by
 have hc := u8_lt c
 obtain ⟨r, hr⟩ : ∃ r, r = isDig c := ⟨_, rfl⟩
 rw [← hr]
 have HR := Aside0.mk hr
 clear hr
 by_cases h0 : c.toNat = 45
 ·have HV := Aside0.mk (show r = true by rw [HR.out]; unfold isDig; simp [h0])
  have h0' : ((c.toNat : Int) == 45) = true := by rw [h0]; rfl
  clear h0
  go_enter Tryz.func74, Tryz.ntmps74
  go_wp2_with fail
  go_ret
  exact ⟨ret_bool (by have h := HV.out; first | exact h.symm | exact (decide_eq_true (by omega)).trans h.symm | exact (decide_eq_false (by omega)).trans h.symm), rfl⟩
 have h0' : ((c.toNat : Int) == 45) = false := by rw [beq_eq_false_iff_ne]; omega
 by_cases h1 : 48 ≤ c.toNat
 ·by_cases h2 : c.toNat ≤ 57
  ·have HV := Aside0.mk (show r = true by rw [HR.out]; unfold isDig; simp [h1, h2])
   clear h0
   go_enter Tryz.func74, Tryz.ntmps74
   go_wp2_with fail
   go_ret
   exact ⟨ret_bool (by have h := HV.out; first | exact h.symm | exact (decide_eq_true (by omega)).trans h.symm | exact (decide_eq_false (by omega)).trans h.symm), rfl⟩
  ·have HV := Aside0.mk (show r = false by rw [HR.out]; unfold isDig; simp [h0]; omega)
   clear h0
   go_enter Tryz.func74, Tryz.ntmps74
   go_wp2_with fail
   go_ret
   exact ⟨ret_bool (by have h := HV.out; first | exact h.symm | exact (decide_eq_true (by omega)).trans h.symm | exact (decide_eq_false (by omega)).trans h.symm), rfl⟩
 ·have HV := Aside0.mk (show r = false by rw [HR.out]; unfold isDig; simp [h0]; omega)
  clear h0
  go_enter Tryz.func74, Tryz.ntmps74
  go_wp2_with fail
  go_ret
  exact ⟨ret_bool (by have h := HV.out; first | exact h.symm | exact (decide_eq_true (by omega)).trans h.symm | exact (decide_eq_false (by omega)).trans h.symm), rfl⟩
set_option maxHeartbeats 1000000 in
theorem nam_c (c : UInt8) (w : World) : Calls Tryz.prog 94 #[.int .u8 (c.toNat : Int)] w fun e w' => e = .returned (.bool (isNam c)) ∧ w' = w := by
 have hc := u8_lt c
 obtain ⟨r, hr⟩ : ∃ r, r = isNam c := ⟨_, rfl⟩
 rw [← hr]
 obtain ⟨a, ha⟩ : ∃ a, a = isLet c := ⟨_, rfl⟩
 obtain ⟨b, hb⟩ : ∃ b, b = isDig c := ⟨_, rfl⟩
 have HR := Aside0.mk (show r = (a || b || decide (c.toNat = 58) || decide (c.toNat = 46)) by rw [hr, ha, hb]; rfl)
 have HA : Aside0 (∀ W, Calls Tryz.prog 72 #[.int .u8 (c.toNat : Int)] W fun e w' => e = .returned (.bool a) ∧ w' = W) := ⟨fun W => by rw [ha]; exact letter_c c W⟩
 have HD : Aside0 (∀ W, Calls Tryz.prog 74 #[.int .u8 (c.toNat : Int)] W fun e w' => e = .returned (.bool b) ∧ w' = W) := ⟨fun W => by rw [hb]; exact digit_c c W⟩
 clear hr ha hb
 cases a with
 | true =>
  go_enter Tryz.func94, Tryz.ntmps94
  go_wp2_with (go_at_call 72; refine (HA.out _).mono ?_; rintro e w' ⟨rfl, rfl⟩)
  go_ret
  exact ⟨ret_bool (by have h := HR.out; exact h.symm), rfl⟩
 | false =>
  cases b with
  | true =>
   go_enter Tryz.func94, Tryz.ntmps94
   go_wp2_with (first | (go_at_call 72; refine (HA.out _).mono ?_; rintro e w' ⟨rfl, rfl⟩) | (go_at_call 74; refine (HD.out _).mono ?_; rintro e w' ⟨rfl, rfl⟩))
   go_ret
   exact ⟨ret_bool (by have h := HR.out; exact h.symm), rfl⟩
  | false =>
   by_cases h58 : c.toNat = 58
   ·have h0' : ((c.toNat : Int) == 58) = true := by rw [h58]; rfl
    have HV := Aside0.mk (show r = true by rw [HR.out, h58]; rfl)
    clear h58
    go_enter Tryz.func94, Tryz.ntmps94
    go_wp2_with (first | (go_at_call 72; refine (HA.out _).mono ?_; rintro e w' ⟨rfl, rfl⟩) | (go_at_call 74; refine (HD.out _).mono ?_; rintro e w' ⟨rfl, rfl⟩))
    go_ret
    exact ⟨ret_bool (by have h := HV.out; first | exact h.symm | exact (decide_eq_true (by omega)).trans h.symm | exact (decide_eq_false (by omega)).trans h.symm), rfl⟩
   ·have h0' : ((c.toNat : Int) == 58) = false := by rw [beq_eq_false_iff_ne]; omega
    have h46 : ((c.toNat : Int) == 46) = decide (c.toNat = 46) := by rw [Bool.eq_iff_iff, beq_iff_eq, decide_eq_true_eq]; omega
    have HV := Aside0.mk (show r = ((c.toNat : Int) == 46) by rw [HR.out, h46, decide_eq_false h58]; rfl)
    clear h58 h46
    go_enter Tryz.func94, Tryz.ntmps94
    go_wp2_with (first | (go_at_call 72; refine (HA.out _).mono ?_; rintro e w' ⟨rfl, rfl⟩) | (go_at_call 74; refine (HD.out _).mono ?_; rintro e w' ⟨rfl, rfl⟩))
    go_ret
    exact ⟨ret_bool (by have h := HV.out; first | exact h.symm | exact (decide_eq_true (by omega)).trans h.symm | exact (decide_eq_false (by omega)).trans h.symm), rfl⟩
theorem tw_yes {α : Type} (p : α → Bool) : ∀ (l : List α) (k : Nat) (h : k < (l.takeWhile p).length) (h' : k < l.length), p l[k] = true
 | [], k, h, _ => by simp at h
 | x :: l, k, h, h' => by
  rw [List.takeWhile_cons] at h
  by_cases hp : p x = true
  ·rw [if_pos hp] at h
   cases k with
   | zero => exact hp
   | succ k => exact tw_yes p l k (by simpa using h) (by simpa using h')
  ·rw [if_neg hp] at h; simp at h
theorem tw_no {α : Type} (p : α → Bool) : ∀ (l : List α) (h : (l.takeWhile p).length < l.length), p l[(l.takeWhile p).length] = false
 | [], h => by simp at h
 | x :: l, h => by
  by_cases hp : p x = true
  ·have e : ((x :: l).takeWhile p).length = (l.takeWhile p).length + 1 := by rw [List.takeWhile_cons, if_pos hp]; rfl
   have h2 : (l.takeWhile p).length < l.length := by rw [e] at h; simpa using h
   have := tw_no p l h2
   simp only [e, List.getElem_cons_succ]
   exact this
  ·have e : ((x :: l).takeWhile p).length = 0 := by rw [List.takeWhile_cons, if_neg hp]; rfl
   simp only [e, List.getElem_cons_zero]
   simpa using hp
/-- The state of the reader, at a place. -/
abbrev SQ (w0 W : World) (g : Nat) (s : ByteArray) (a : Int) (deep er : Int) : Prop := IsS61 w0 W g s a deep er
end Go.Proofs.YtidcecpbihmloaaGreatDoorE

namespace Go.Proofs.YtidcecpbihmloaaGreatDoorE
open Go Go.RowKit Go.Proofs.YtidcecpbihmloaaGreatDoorW.PrintWords Go.Proofs.YtidcecpbihmloaaGreatDoorW.PrintMore Go.Proofs.YtidcecpbihmloaaGreatDoorW.PrintLast Go.Proofs.YtidcecpbihmloaaGreatDoorX Go.Proofs.YtidcecpbihmloaaGreatDoor.P16 Go.Proofs.YtidcecpbihmloaaGreatDoor.M02
set_option linter.unusedVariables false
set_option linter.unusedSimpArgs false
set_option maxRecDepth 100000
set_option maxHeartbeats 4000000 in
theorem drun_let (s : ByteArray) (hs : s.size ≤ 1000000000) (a : Nat) (ha : a ≤ s.size) (deep er : Int) (g : Nat) (w0 w : World) (hI : SQ w0 w g s (a : Int) deep er) (hB : Below w0.heap.size w0 w) :
  Calls Tryz.prog 73 #[.pointer (some ⟨g, 0, none⟩), .func (.func 72) #[] #[]] w fun e w' => e = .returned (.string (mkB (((B s).drop a).takeWhile isLet))) ∧ SQ w0 w' g s ((a + (((B s).drop a).takeWhile isLet).length : Nat) : Int) deep er ∧ Below w0.heap.size w0 w' ∧ KeepBut w w' g none := by
 have HI := Aside0.mk hI
 have HB := Aside0.mk hB
 obtain ⟨T, hT⟩ : ∃ T, T = ((B s).drop a).takeWhile isLet := ⟨_, rfl⟩
 rw [← hT]
 have hTl : a + T.length ≤ s.size := by
  have h := tw_le isLet ((B s).drop a)
  rw [← hT, List.length_drop, B_len] at h
  omega
 have HT := Aside0.mk hT
 have HEX := Aside0.mk (show s.extract a (a + T.length) = mkB T by
  have h1 : B (s.extract a (a + T.length)) = T := by
   rw [Go.Proofs.YtidcecpbihmloaaGreatDoor.K06.B_extract, Nat.add_sub_cancel_left, hT, ← take_len]
  exact B_inj (h1.trans (mkB_list _).symm))
 have q1 : w.cell? ⟨g, 1, none⟩ = some (.int .i64 (a : Int)) := (blk_cell hI.1 1).trans rfl
 clear hI hB hT
 go_enter Tryz.func73, Tryz.ntmps73
 go_wp2_with fail
 go_loopg [] T.length (fun gk wr => ∃ k : Nat, Aside0 (k + gk = T.length ∧ SQ w0 wr g s ((a + k : Nat) : Int) deep er ∧ Below w0.heap.size w0 wr ∧ KeepBut w wr g none))
 case atStart => exact ⟨0, by omega, HI.out, HB.out, KeepBut.refl _ _ _⟩
 case round =>
  obtain ⟨k, HL⟩ := hrel
  have hkg : k + gk ≤ T.length ∧ T.length ≤ k + gk := by have := HL.out.1; omega
  obtain ⟨n, hn⟩ : ∃ n, n = a + k := ⟨_, rfl⟩
  rw [← hn] at HL
  have HN := Aside0.mk hn
  have hnk : a + k ≤ n ∧ n ≤ a + k := by omega
  clear hn
  have r0 : wr.cell? ⟨g, 0, none⟩ = some (.string s) := (blk_cell HL.out.2.1.1 0).trans rfl
  have r1 : wr.cell? ⟨g, 1, none⟩ = some (.int .i64 (n : Int)) := (blk_cell HL.out.2.1.1 1).trans rfl
  have f1 := blk_frozen HL.out.2.1.1 1
  have b1 : (0 : Int) ≤ (a : Int) := by omega
  have b2 : (a : Int) ≤ (n : Int) := by omega
  have b3 : (n : Int) ≤ (s.size : Int) := by omega
  by_cases hlt : n < s.size
  ·have hel : (s[n]'hlt) = ((B s).drop a)[k]'(by rw [List.length_drop, B_len]; omega) := by
    rw [List.getElem_drop]
    simp only [← HN.out]
    simp [B, ByteArray.getElem_eq_getElem_data]
   by_cases hk : k < T.length
   ·have hp : isLet (s[n]'hlt) = true := by
     rw [hel]
     exact tw_yes isLet _ k (by rw [← HT.out]; exact hk) _
    have HFC := Aside0.mk (letter_c (s[n]'hlt))
    rw [hp] at HFC
    clear hel hp
    go_wp2_with fail
    go_quiet ((go_at_call 72; refine Calls.quiet_of_same (HFC.out _)))
    go_wp2_with fail
    go_roundg (gk - 1)
    case measure => omega
    case rel => exact ⟨k + 1, by omega, by
     have h := (IsS61.drewN HL.out.2.1 nq).set_1 ((n : Int) + 1)
     rw [show ((a + (k + 1) : Nat) : Int) = (n : Int) + 1 by have := HN.out; omega]
     exact h, (pw_below_drewN HL.out.2.2.1 nq).setCell (p := ⟨g, 1, none⟩) HL.out.2.1.2 _, (HL.out.2.2.2.trans (KeepBut.of_below (pw_below_drewN (Below.refl _ _) nq) g none) (.inl rfl)).set_ 1 _⟩
   ·have hp : isLet (s[n]'hlt) = false := by
     have hkT : k = (((B s).drop a).takeWhile isLet).length := by rw [← HT.out]; omega
     rw [hel]
     have h := tw_no isLet ((B s).drop a) (by rw [← hkT, List.length_drop, B_len]; omega)
     simp only [← hkT] at h
     exact h
    have HFC := Aside0.mk (letter_c (s[n]'hlt))
    rw [hp] at HFC
    have HE := Aside0.mk (show n = a + T.length by omega)
    clear hel hp
    go_wp2_with fail
    go_quiet ((go_at_call 72; refine Calls.quiet_of_same (HFC.out _)))
    go_wp2_with fail
    go_quiet (fail)
    go_wp2_with fail
    go_ret
    exact ⟨ret_str (show s.extract a n = mkB T by rw [HE.out]; exact HEX.out), by have h := HL.out.2.1; rw [HE.out] at h; exact IsS61.drewN (IsS61.drewN h _) _, pw_below_drewN (pw_below_drewN HL.out.2.2.1 _) _, HL.out.2.2.2.trans (KeepBut.of_below (pw_below_drewN (pw_below_drewN (Below.refl _ _) _) _) g none) (.inl rfl)⟩
  ·have HE := Aside0.mk (show n = a + T.length by omega)
   go_wp2_with fail
   go_quiet (fail)
   go_wp2_with fail
   go_quiet (fail)
   go_wp2_with fail
   go_ret
   exact ⟨ret_str (show s.extract a n = mkB T by rw [HE.out]; exact HEX.out), by have h := HL.out.2.1; rw [HE.out] at h; exact IsS61.drewN (IsS61.drewN h _) _, pw_below_drewN (pw_below_drewN HL.out.2.2.1 _) _, HL.out.2.2.2.trans (KeepBut.of_below (pw_below_drewN (pw_below_drewN (Below.refl _ _) _) _) g none) (.inl rfl)⟩
set_option maxHeartbeats 4000000 in
theorem drun_dig (s : ByteArray) (hs : s.size ≤ 1000000000) (a : Nat) (ha : a ≤ s.size) (deep er : Int) (g : Nat) (w0 w : World) (hI : SQ w0 w g s (a : Int) deep er) (hB : Below w0.heap.size w0 w) :
  Calls Tryz.prog 73 #[.pointer (some ⟨g, 0, none⟩), .func (.func 74) #[] #[]] w fun e w' => e = .returned (.string (mkB (((B s).drop a).takeWhile isDig))) ∧ SQ w0 w' g s ((a + (((B s).drop a).takeWhile isDig).length : Nat) : Int) deep er ∧ Below w0.heap.size w0 w' ∧ KeepBut w w' g none := by
 have HI := Aside0.mk hI
 have HB := Aside0.mk hB
 obtain ⟨T, hT⟩ : ∃ T, T = ((B s).drop a).takeWhile isDig := ⟨_, rfl⟩
 rw [← hT]
 have hTl : a + T.length ≤ s.size := by
  have h := tw_le isDig ((B s).drop a)
  rw [← hT, List.length_drop, B_len] at h
  omega
 have HT := Aside0.mk hT
 have HEX := Aside0.mk (show s.extract a (a + T.length) = mkB T by
  have h1 : B (s.extract a (a + T.length)) = T := by
   rw [Go.Proofs.YtidcecpbihmloaaGreatDoor.K06.B_extract, Nat.add_sub_cancel_left, hT, ← take_len]
  exact B_inj (h1.trans (mkB_list _).symm))
 have q1 : w.cell? ⟨g, 1, none⟩ = some (.int .i64 (a : Int)) := (blk_cell hI.1 1).trans rfl
 clear hI hB hT
 go_enter Tryz.func73, Tryz.ntmps73
 go_wp2_with fail
 go_loopg [] T.length (fun gk wr => ∃ k : Nat, Aside0 (k + gk = T.length ∧ SQ w0 wr g s ((a + k : Nat) : Int) deep er ∧ Below w0.heap.size w0 wr ∧ KeepBut w wr g none))
 case atStart => exact ⟨0, by omega, HI.out, HB.out, KeepBut.refl _ _ _⟩
 case round =>
  obtain ⟨k, HL⟩ := hrel
  have hkg : k + gk ≤ T.length ∧ T.length ≤ k + gk := by have := HL.out.1; omega
  obtain ⟨n, hn⟩ : ∃ n, n = a + k := ⟨_, rfl⟩
  rw [← hn] at HL
  have HN := Aside0.mk hn
  have hnk : a + k ≤ n ∧ n ≤ a + k := by omega
  clear hn
  have r0 : wr.cell? ⟨g, 0, none⟩ = some (.string s) := (blk_cell HL.out.2.1.1 0).trans rfl
  have r1 : wr.cell? ⟨g, 1, none⟩ = some (.int .i64 (n : Int)) := (blk_cell HL.out.2.1.1 1).trans rfl
  have f1 := blk_frozen HL.out.2.1.1 1
  have b1 : (0 : Int) ≤ (a : Int) := by omega
  have b2 : (a : Int) ≤ (n : Int) := by omega
  have b3 : (n : Int) ≤ (s.size : Int) := by omega
  by_cases hlt : n < s.size
  ·have hel : (s[n]'hlt) = ((B s).drop a)[k]'(by rw [List.length_drop, B_len]; omega) := by
    rw [List.getElem_drop]
    simp only [← HN.out]
    simp [B, ByteArray.getElem_eq_getElem_data]
   by_cases hk : k < T.length
   ·have hp : isDig (s[n]'hlt) = true := by
     rw [hel]
     exact tw_yes isDig _ k (by rw [← HT.out]; exact hk) _
    have HFC := Aside0.mk (digit_c (s[n]'hlt))
    rw [hp] at HFC
    clear hel hp
    go_wp2_with fail
    go_quiet ((go_at_call 74; refine Calls.quiet_of_same (HFC.out _)))
    go_wp2_with fail
    go_roundg (gk - 1)
    case measure => omega
    case rel => exact ⟨k + 1, by omega, by
     have h := (IsS61.drewN HL.out.2.1 nq).set_1 ((n : Int) + 1)
     rw [show ((a + (k + 1) : Nat) : Int) = (n : Int) + 1 by have := HN.out; omega]
     exact h, (pw_below_drewN HL.out.2.2.1 nq).setCell (p := ⟨g, 1, none⟩) HL.out.2.1.2 _, (HL.out.2.2.2.trans (KeepBut.of_below (pw_below_drewN (Below.refl _ _) nq) g none) (.inl rfl)).set_ 1 _⟩
   ·have hp : isDig (s[n]'hlt) = false := by
     have hkT : k = (((B s).drop a).takeWhile isDig).length := by rw [← HT.out]; omega
     rw [hel]
     have h := tw_no isDig ((B s).drop a) (by rw [← hkT, List.length_drop, B_len]; omega)
     simp only [← hkT] at h
     exact h
    have HFC := Aside0.mk (digit_c (s[n]'hlt))
    rw [hp] at HFC
    have HE := Aside0.mk (show n = a + T.length by omega)
    clear hel hp
    go_wp2_with fail
    go_quiet ((go_at_call 74; refine Calls.quiet_of_same (HFC.out _)))
    go_wp2_with fail
    go_quiet (fail)
    go_wp2_with fail
    go_ret
    exact ⟨ret_str (show s.extract a n = mkB T by rw [HE.out]; exact HEX.out), by have h := HL.out.2.1; rw [HE.out] at h; exact IsS61.drewN (IsS61.drewN h _) _, pw_below_drewN (pw_below_drewN HL.out.2.2.1 _) _, HL.out.2.2.2.trans (KeepBut.of_below (pw_below_drewN (pw_below_drewN (Below.refl _ _) _) _) g none) (.inl rfl)⟩
  ·have HE := Aside0.mk (show n = a + T.length by omega)
   go_wp2_with fail
   go_quiet (fail)
   go_wp2_with fail
   go_quiet (fail)
   go_wp2_with fail
   go_ret
   exact ⟨ret_str (show s.extract a n = mkB T by rw [HE.out]; exact HEX.out), by have h := HL.out.2.1; rw [HE.out] at h; exact IsS61.drewN (IsS61.drewN h _) _, pw_below_drewN (pw_below_drewN HL.out.2.2.1 _) _, HL.out.2.2.2.trans (KeepBut.of_below (pw_below_drewN (pw_below_drewN (Below.refl _ _) _) _) g none) (.inl rfl)⟩
set_option maxHeartbeats 4000000 in
theorem drun_nam (s : ByteArray) (hs : s.size ≤ 1000000000) (a : Nat) (ha : a ≤ s.size) (deep er : Int) (g : Nat) (w0 w : World) (hI : SQ w0 w g s (a : Int) deep er) (hB : Below w0.heap.size w0 w) :
  Calls Tryz.prog 73 #[.pointer (some ⟨g, 0, none⟩), .func (.func 94) #[] #[]] w fun e w' => e = .returned (.string (mkB (((B s).drop a).takeWhile isNam))) ∧ SQ w0 w' g s ((a + (((B s).drop a).takeWhile isNam).length : Nat) : Int) deep er ∧ Below w0.heap.size w0 w' ∧ KeepBut w w' g none := by
 have HI := Aside0.mk hI
 have HB := Aside0.mk hB
 obtain ⟨T, hT⟩ : ∃ T, T = ((B s).drop a).takeWhile isNam := ⟨_, rfl⟩
 rw [← hT]
 have hTl : a + T.length ≤ s.size := by
  have h := tw_le isNam ((B s).drop a)
  rw [← hT, List.length_drop, B_len] at h
  omega
 have HT := Aside0.mk hT
 have HEX := Aside0.mk (show s.extract a (a + T.length) = mkB T by
  have h1 : B (s.extract a (a + T.length)) = T := by
   rw [Go.Proofs.YtidcecpbihmloaaGreatDoor.K06.B_extract, Nat.add_sub_cancel_left, hT, ← take_len]
  exact B_inj (h1.trans (mkB_list _).symm))
 have q1 : w.cell? ⟨g, 1, none⟩ = some (.int .i64 (a : Int)) := (blk_cell hI.1 1).trans rfl
 clear hI hB hT
 go_enter Tryz.func73, Tryz.ntmps73
 go_wp2_with fail
 go_loopg [] T.length (fun gk wr => ∃ k : Nat, Aside0 (k + gk = T.length ∧ SQ w0 wr g s ((a + k : Nat) : Int) deep er ∧ Below w0.heap.size w0 wr ∧ KeepBut w wr g none))
 case atStart => exact ⟨0, by omega, HI.out, HB.out, KeepBut.refl _ _ _⟩
 case round =>
  obtain ⟨k, HL⟩ := hrel
  have hkg : k + gk ≤ T.length ∧ T.length ≤ k + gk := by have := HL.out.1; omega
  obtain ⟨n, hn⟩ : ∃ n, n = a + k := ⟨_, rfl⟩
  rw [← hn] at HL
  have HN := Aside0.mk hn
  have hnk : a + k ≤ n ∧ n ≤ a + k := by omega
  clear hn
  have r0 : wr.cell? ⟨g, 0, none⟩ = some (.string s) := (blk_cell HL.out.2.1.1 0).trans rfl
  have r1 : wr.cell? ⟨g, 1, none⟩ = some (.int .i64 (n : Int)) := (blk_cell HL.out.2.1.1 1).trans rfl
  have f1 := blk_frozen HL.out.2.1.1 1
  have b1 : (0 : Int) ≤ (a : Int) := by omega
  have b2 : (a : Int) ≤ (n : Int) := by omega
  have b3 : (n : Int) ≤ (s.size : Int) := by omega
  by_cases hlt : n < s.size
  ·have hel : (s[n]'hlt) = ((B s).drop a)[k]'(by rw [List.length_drop, B_len]; omega) := by
    rw [List.getElem_drop]
    simp only [← HN.out]
    simp [B, ByteArray.getElem_eq_getElem_data]
   by_cases hk : k < T.length
   ·have hp : isNam (s[n]'hlt) = true := by
     rw [hel]
     exact tw_yes isNam _ k (by rw [← HT.out]; exact hk) _
    have HFC := Aside0.mk (nam_c (s[n]'hlt))
    rw [hp] at HFC
    clear hel hp
    go_wp2_with fail
    go_quiet ((go_at_call 94; refine Calls.quiet_of_same (HFC.out _)))
    go_wp2_with fail
    go_roundg (gk - 1)
    case measure => omega
    case rel => exact ⟨k + 1, by omega, by
     have h := (IsS61.drewN HL.out.2.1 nq).set_1 ((n : Int) + 1)
     rw [show ((a + (k + 1) : Nat) : Int) = (n : Int) + 1 by have := HN.out; omega]
     exact h, (pw_below_drewN HL.out.2.2.1 nq).setCell (p := ⟨g, 1, none⟩) HL.out.2.1.2 _, (HL.out.2.2.2.trans (KeepBut.of_below (pw_below_drewN (Below.refl _ _) nq) g none) (.inl rfl)).set_ 1 _⟩
   ·have hp : isNam (s[n]'hlt) = false := by
     have hkT : k = (((B s).drop a).takeWhile isNam).length := by rw [← HT.out]; omega
     rw [hel]
     have h := tw_no isNam ((B s).drop a) (by rw [← hkT, List.length_drop, B_len]; omega)
     simp only [← hkT] at h
     exact h
    have HFC := Aside0.mk (nam_c (s[n]'hlt))
    rw [hp] at HFC
    have HE := Aside0.mk (show n = a + T.length by omega)
    clear hel hp
    go_wp2_with fail
    go_quiet ((go_at_call 94; refine Calls.quiet_of_same (HFC.out _)))
    go_wp2_with fail
    go_quiet (fail)
    go_wp2_with fail
    go_ret
    exact ⟨ret_str (show s.extract a n = mkB T by rw [HE.out]; exact HEX.out), by have h := HL.out.2.1; rw [HE.out] at h; exact IsS61.drewN (IsS61.drewN h _) _, pw_below_drewN (pw_below_drewN HL.out.2.2.1 _) _, HL.out.2.2.2.trans (KeepBut.of_below (pw_below_drewN (pw_below_drewN (Below.refl _ _) _) _) g none) (.inl rfl)⟩
  ·have HE := Aside0.mk (show n = a + T.length by omega)
   go_wp2_with fail
   go_quiet (fail)
   go_wp2_with fail
   go_quiet (fail)
   go_wp2_with fail
   go_ret
   exact ⟨ret_str (show s.extract a n = mkB T by rw [HE.out]; exact HEX.out), by have h := HL.out.2.1; rw [HE.out] at h; exact IsS61.drewN (IsS61.drewN h _) _, pw_below_drewN (pw_below_drewN HL.out.2.2.1 _) _, HL.out.2.2.2.trans (KeepBut.of_below (pw_below_drewN (pw_below_drewN (Below.refl _ _) _) _) g none) (.inl rfl)⟩
end Go.Proofs.YtidcecpbihmloaaGreatDoorE

namespace Go.Proofs.YtidcecpbihmloaaGreatDoorE
open Go Go.RowKit Go.Proofs.YtidcecpbihmloaaGreatDoorW.PrintWords Go.Proofs.YtidcecpbihmloaaGreatDoorW.PrintMore Go.Proofs.YtidcecpbihmloaaGreatDoorW.PrintLast Go.Proofs.YtidcecpbihmloaaGreatDoorX Go.Proofs.YtidcecpbihmloaaGreatDoor.P16 Go.Proofs.YtidcecpbihmloaaGreatDoor.M02
set_option linter.unusedVariables false
set_option linter.unusedSimpArgs false
set_option maxRecDepth 100000
/-- The state behind a reading. -/
def stQ (w0 w' : World) (g : Nat) (s : ByteArray) (deep : Int) (res : Res DT) (x : DT) : Prop := match res with
 | .ok d a _ => x = d ∧ IsS61 w0 w' g s (a : Int) deep 0
 | .err a c => ∃ op' : Int, IsS61 w0 w' g s (a : Int) op' c
/-- What the reader hands back of a piece. -/
def pieceQ (w0 w : World) (g : Nat) (s : ByteArray) (deep : Int) (res : Res DT) (e : Ending) (w' : World) : Prop :=
 Below w0.heap.size w0 w' ∧ KeepBut w w' g none ∧ ∃ (x : DT) (v3 v4 : Value), e = .returned (.agg #[.int .i64 x.f0, .int .i64 x.f1, .string x.f2, v3, v4]) ∧ k25.M w' w.heap.size (fun _ => True) x [.int .i64 x.f0, .int .i64 x.f1, .string x.f2, v3, v4] ∧ stQ w0 w' g s deep res x
theorem state5Q {w0 W : World} {g b : Nat} {s : ByteArray} {i1 i2 i3 : Int} (h : IsS61 w0 W g s i1 i2 i3) (hb : g ≠ b) (v0 v1 v2 v3 v4 : Value) : IsS61 w0 (set5 W b v0 v1 v2 v3 v4) g s i1 i2 i3 :=
 ((((h.far (p := ⟨b, 0, none⟩) hb v0).far (p := ⟨b, 1, none⟩) hb v1).far (p := ⟨b, 2, none⟩) hb v2).far (p := ⟨b, 3, none⟩) hb v3).far (p := ⟨b, 4, none⟩) hb v4
theorem stQ5 {w0 W : World} {g b : Nat} {s : ByteArray} {deep : Int} {res : Res DT} {x : DT} (h : stQ w0 W g s deep res x) (hb : g ≠ b) (v0 v1 v2 v3 v4 : Value) : stQ w0 (set5 W b v0 v1 v2 v3 v4) g s deep res x := by
 unfold stQ at h ⊢
 cases res with
 | ok d a r => exact ⟨h.1, state5Q h.2 hb _ _ _ _ _⟩
 | err a c => obtain ⟨op', h⟩ := h; exact ⟨op', state5Q h hb _ _ _ _ _⟩
theorem finQ {w0 w W : World} {g : Nat} {s : ByteArray} {deep : Int} {res : Res DT} {x : DT} {v3 v4 : Value} {ok : Nat → Prop} (hB : Below w0.heap.size w0 W) (hw : w0.heap.size ≤ w.heap.size) (hK : KeepBut w W g none) (hg : g < w.heap.size) (hM : k25.M W w.heap.size ok x (dCells x v3 v4)) (hok : ∀ k, ok k → k ≠ w.heap.size) (hS : stQ w0 W g s deep res x) :
  pieceQ w0 w g s deep res (.returned (.agg #[.int .i64 x.f0, .int .i64 x.f1, .string x.f2, v3, v4])) (set5 W w.heap.size (.int .i64 x.f0) (.int .i64 x.f1) (.string x.f2) v3 v4) :=
 ⟨below5 hB hw _ _ _ _ _, keep5 hK (Nat.le_refl _) _ _ _ _ _, x, v3, v4, rfl, k25.M_mono (fun _ _ => trivial) (made5 hM hok _ _ _ _ _), stQ5 hS (by omega) _ _ _ _ _⟩
theorem dfail_0 (s : ByteArray) (a deep p c : Int) : datum_reader_fail.f s a deep 0 p c = some (s, p, deep, c) := by unfold datum_reader_fail.f; rw [if_pos rfl]
theorem dfail_er (s : ByteArray) (a deep er p c : Int) (h : er ≠ 0) : datum_reader_fail.f s a deep er p c = some (s, a, deep, er) := by unfold datum_reader_fail.f; rw [if_neg h]
theorem dmust_er (s : ByteArray) (a deep er ci : Int) (h : er ≠ 0) : datum_reader_must.f s a deep er ci = some (false, s, a, deep, er) := by
 unfold datum_reader_must.f
 rw [if_neg h, dfail_er s a deep er a 2 h, Option.bind_some]
theorem dmust_ok (s : ByteArray) (a : Nat) (deep : Int) (c : UInt8) (h : nxt s a c = true) (ha : a ≤ 140737488351232) : datum_reader_must.f s a deep 0 c.toNat = some (true, s, ((a + 1 : Nat) : Int), deep, 0) := by
 have hlt : a < s.size := by
  rcases Nat.lt_or_ge a s.size with h1 | h1
  ·exact h1
  ·rw [nxt_end c h1] at h; cases h
 unfold datum_reader_must.f
 rw [if_pos rfl, if_neg (by omega), if_pos (by omega), if_pos (by omega), if_pos ((bt_nxt' c hlt).2 h), w64 (by omega) (by omega)]
 rfl
theorem dmust_no (s : ByteArray) (a : Nat) (deep : Int) (c : UInt8) (h : nxt s a c = false) (ha : a ≤ s.size) : datum_reader_must.f s a deep 0 c.toNat = some (false, s, (a : Int), deep, 2) := by
 unfold datum_reader_must.f
 rw [if_pos rfl, dfail_0, Option.bind_some]
 by_cases hl : a < s.size
 ·rw [if_neg (by omega), if_pos (by omega), if_pos (by omega), if_neg (fun e => by rw [(bt_nxt' c hl).1 e] at h; cases h)]
 ·rw [if_pos (by omega)]
theorem dis_er (s : ByteArray) (a deep er ci : Int) (h : er ≠ 0) : datum_reader_is.f s a deep er ci = some (false, s, a, deep, er) := by
 unfold datum_reader_is.f
 rw [if_neg h]
theorem dis_ok (s : ByteArray) (a : Nat) (deep : Int) (c : UInt8) (h : nxt s a c = true) (ha : a ≤ 140737488351232) : datum_reader_is.f s a deep 0 c.toNat = some (true, s, ((a + 1 : Nat) : Int), deep, 0) := by
 have hlt : a < s.size := by
  rcases Nat.lt_or_ge a s.size with h1 | h1
  ·exact h1
  ·rw [nxt_end c h1] at h; cases h
 unfold datum_reader_is.f
 rw [if_pos rfl, if_pos (by omega), if_pos (by omega), if_pos ((bt_nxt' c hlt).2 h), w64 (by omega) (by omega)]
 rfl
theorem dis_no (s : ByteArray) (a : Nat) (deep : Int) (c : UInt8) (h : nxt s a c = false) : datum_reader_is.f s a deep 0 c.toNat = some (false, s, (a : Int), deep, 0) := by
 unfold datum_reader_is.f
 rw [if_pos rfl]
 by_cases hl : a < s.size
 ·rw [if_pos (by omega), if_pos (by omega), if_neg (fun e => by rw [(bt_nxt' c hl).1 e] at h; cases h)]
 ·rw [if_neg (by omega)]
theorem dspan_c (s : ByteArray) (hs : s.size ≤ 1000000000) (a : Nat) (w : World) (hgl : GL w) :
  Calls Tryz.prog 76 #[.string s, .int .i64 (a : Int)] w fun e w' => e = .returned (.int .i64 (stopS ((B s).drop a) : Int)) ∧ Below w.heap.size w w' := by
 obtain ⟨k, hk⟩ := Go.Proofs.YtidcecpbihmloaaGreatDoor.K05.span_ev s hs (a : Int)
 have h := hk k (Nat.le_refl _)
 rw [span_nat] at h
 exact escape_Span.calls k s (a : Int) _ w hgl h
theorem dun_c (s : ByteArray) (hs : s.size ≤ 1000000000) (w : World) (hgl : GL w) :
  Calls Tryz.prog 77 #[.string s] w fun e w' => e = .returned (.tuple #[.string (mkB (unS s.data.toList 0 []).1), .int .i64 (unS s.data.toList 0 []).2.1, .int .i64 (unS s.data.toList 0 []).2.2]) ∧ Below w.heap.size w w' :=
 escape_Unescape.calls s _ _ _ w hgl (by unfold escape_Unescape.f; rw [if_pos (by omega)]; rfl)
set_option maxHeartbeats 4000000 in
theorem qtext_c (s : ByteArray) (hs : s.size ≤ 1000000000) (a : Nat) (ha : a ≤ s.size) (op : Int) (g : Nat) (w0 w : World) (hgl : GL w0) (hI : IsS61 w0 w g s (a : Int) op 0) (hB : Below w0.heap.size w0 w) :
  Calls Tryz.prog 55 #[.pointer (some ⟨g, 0, none⟩)] w (pieceQ w0 w g s op (textD ((B s).drop a) a)) := by
 have hsl := stop_lt ha
 have hex := ext_take s a (stopS ((B s).drop a))
 have HSP : Aside0 (∀ W, GL W → Calls Tryz.prog 76 #[.string s, .int .i64 (a : Int)] W fun e w' => e = .returned (.int .i64 (stopS ((B s).drop a) : Int)) ∧ Below W.heap.size W w') := ⟨fun W h => dspan_c s hs a W h⟩
 have HUN : Aside0 (∀ W, GL W → Calls Tryz.prog 77 #[.string (s.extract a (a + stopS ((B s).drop a)))] W fun e w' => e = .returned (.tuple #[.string (mkB (unS (((B s).drop a).take (stopS ((B s).drop a))) 0 []).1), .int .i64 (unS (((B s).drop a).take (stopS ((B s).drop a))) 0 []).2.1, .int .i64 (unS (((B s).drop a).take (stopS ((B s).drop a))) 0 []).2.2]) ∧ Below W.heap.size W w') := ⟨fun W h => by
  have h1 := dun_c (s.extract a (a + stopS ((B s).drop a))) (by rw [ByteArray.size_extract]; omega) W h
  rw [hex] at h1
  exact h1⟩
 obtain ⟨U, hU⟩ : ∃ U, U = unS (((B s).drop a).take (stopS ((B s).drop a))) 0 [] := ⟨_, rfl⟩
 obtain ⟨n, hn⟩ : ∃ n, n = stopS ((B s).drop a) := ⟨_, rfl⟩
 have HTD := Aside0.mk (show textD ((B s).drop a) a = (if U.2.2 ≠ 0 then .err (a + U.2.1.toNat) 2 else if nxt s (a + n) 34 = true then .ok ⟨3, 0, mkB U.1, [], []⟩ (a + n + 1) ((B s).drop (a + n + 1)) else .err (a + n) 2 : Res DT) by
  have e : (List.drop (a + n) (B s)).head? = some 34 ↔ nxt s (a + n) 34 = true := by unfold nxt; rw [beq_iff_eq]
  unfold textD
  rw [← hn] at hU ⊢
  simp only [← hU, List.drop_drop, e, ← Nat.add_assoc])
 rw [← hU, ← hn] at HUN
 rw [← hn] at HSP hsl
 have hUr : 0 ≤ U.2.1 ∧ U.2.1 ≤ 1000000000 ∨ U.2.2 = 0 := by
  rcases Go.Proofs.YtidcecpbihmloaaGreatDoor.K04.un_esc _ (((B s).drop a).take (stopS ((B s).drop a))) 0 [] (Nat.le_refl _) with h | h
  ·exact .inr (by rw [hU]; exact h.1)
  ·refine .inl ?_
   have h1 : (((B s).drop a).take (stopS ((B s).drop a))).length ≤ s.size := by
    rw [List.length_take, List.length_drop, B_len]; omega
   rw [← hU] at h
   omega
 clear hex hU hn
 obtain ⟨R, hR⟩ : ∃ R : Res DT, R = textD ((B s).drop a) a := ⟨_, rfl⟩
 rw [← hR]
 have HTD := Aside0.mk (hR.trans HTD.out)
 clear hR
 have hgw0 : g < w.heap.size := blk_lt hI.1
 have hww : w0.heap.size ≤ w.heap.size := hB.size
 have HG := Aside0.mk hgl
 have HI0 := Aside0.mk (hI.alloc (.cells zCells 25))
 have HB0 := Aside0.mk (below_alloc hB (.cells zCells 25))
 have HRZ := Aside0.mk (heap_alloc_new w (.cells zCells 25))
 clear hgl hI hB
 go_enter Tryz.func55, Tryz.ntmps55
 go_wp2_with fail
 have HKZ := Aside0.mk (below_alloc (Below.refl _ w) (.cells zCells 25))
 generalize hW : w.alloc (.cells zCells 25) = W0 at HI0 HB0 HRZ HKZ ⊢
 clear hW
 have z0 : W0.cell? ⟨g, 0, none⟩ = some (.string s) := (blk_cell HI0.out.1 0).trans rfl
 have z1 : W0.cell? ⟨g, 1, none⟩ = some (.int .i64 (a : Int)) := (blk_cell HI0.out.1 1).trans rfl
 have HS0 : (W0.drew.cell? ⟨g, 0, none⟩ = some (.string s) ∧ W0.drew.cell? ⟨g, 1, none⟩ = some (.int .i64 (a : Int))) ∧ Below W0.heap.size W0 W0.drew := ⟨⟨cell_drew z0, cell_drew z1⟩, below_drew (Below.refl _ _)⟩
 clear z0 z1
 go_region_held3 (fun w' => (w'.cell? ⟨g, 0, none⟩ = some (.string s) ∧ w'.cell? ⟨g, 1, none⟩ = some (.int .i64 (a : Int))) ∧ Below W0.heap.size W0 w')
  (first
   | with_reducible exact HS0
   |(go_split_ands
     with_reducible exact ⟨⟨pw_cell_below hbf (by with_reducible assumption), pw_cell_below hbf (by with_reducible assumption)⟩, then_w (by with_reducible assumption) hbf⟩))
  (first
   |(go_at_call 76
     go_loud (
     refine (HSP.out _ (HG.out.below (below_then HB0.out HB0.out.size ?hb))).mono ?_
     case hb => first | with_reducible assumption | (go_split_ands; with_reducible assumption)
     rintro e W1 ⟨rfl, hbf⟩)))
 have HX1 := Aside0.mk (then_w (below_drew (Below.refl _ W0)) hbf)
 have HI1 := Aside0.mk (HI0.out.below HX1.out)
 have HB1 := Aside0.mk (below_then HB0.out HB0.out.size HX1.out)
 have HK1 := Aside0.mk (then_w HKZ.out HX1.out)
 have HR1 := Aside0.mk ((HX1.out.block w.heap.size (blk_lt HRZ.out)).trans HRZ.out)
 clear hbf HI0 HB0 HKZ HRZ HX1 HS0
 rename_i hHeld0
 clear hHeld0
 have hgw : g < W1.heap.size := blk_lt HI1.out.1
 have q0 : W1.cell? ⟨g, 0, none⟩ = some (.string s) := (blk_cell HI1.out.1 0).trans rfl
 have q1 : W1.cell? ⟨g, 1, none⟩ = some (.int .i64 (a : Int)) := (blk_cell HI1.out.1 1).trans rfl
 have HS : (W1.drew.cell? ⟨g, 0, none⟩ = some (.string s) ∧ W1.drew.cell? ⟨g, 1, none⟩ = some (.int .i64 (a : Int))) ∧ Below W1.heap.size W1 W1.drew := ⟨⟨cell_drew q0, cell_drew q1⟩, below_drew (Below.refl _ _)⟩
 clear q0 q1
 have hsum : IntKind.i64.wrap ((a : Int) + (n : Int)) = (a : Int) + (n : Int) := wrap_in (by omega) (by omega)
 have hnn : ((a : Int) + (n : Int)).toNat = a + n := by omega
 have hb1 : (0 : Int) ≤ (a : Int) := by omega
 have hb2 : (a : Int) ≤ (a : Int) + (n : Int) := by omega
 have hb3 : (a : Int) + (n : Int) ≤ (s.size : Int) := by omega
 go_wp2_with fail
 go_region_held3 (fun w' => (w'.cell? ⟨g, 0, none⟩ = some (.string s) ∧ w'.cell? ⟨g, 1, none⟩ = some (.int .i64 (a : Int))) ∧ Below W1.heap.size W1 w')
  (first
   | with_reducible exact HS
   |(go_split_ands
     with_reducible exact ⟨⟨pw_cell_below hbf (by with_reducible assumption), pw_cell_below hbf (by with_reducible assumption)⟩, then_w (by with_reducible assumption) hbf⟩))
  (first
   |(go_at_call 77
     go_loud (
     refine (HUN.out _ (HG.out.below (below_then HB1.out HB1.out.size ?hb))).mono ?_
     case hb => first | with_reducible assumption | (go_split_ands; with_reducible assumption)
     rintro e w5 ⟨rfl, hbf⟩)))
 have HB5 := Aside0.mk (then_w (below_drew (Below.refl _ _)) hbf)
 have HI5 := Aside0.mk (HI1.out.below HB5.out)
 have HBW5 := Aside0.mk (below_then HB1.out HB1.out.size HB5.out)
 have HK5 := Aside0.mk (KeepBut.of_below (then_w HK1.out HB5.out) g none)
 have HR5 := Aside0.mk ((HB5.out.block w.heap.size (blk_lt HR1.out)).trans HR1.out)
 clear hbf
 rename_i hHeld
 have q0 := hHeld.1.1
 have q1 := hHeld.1.2
 clear hHeld HSP HUN HI1 HB1 HB5
 have f5 := blk_frozen HI5.out.1
 by_cases hE : U.2.2 = 0
 ·have HRa := Aside0.mk (HTD.out.trans (if_neg (show ¬ U.2.2 ≠ 0 from fun h => h hE)))
  have heq : (U.2.2 != 0) = false := by simp [hE]
  have HSET := Aside0.mk (HI5.out.set_1 ((a : Int) + (n : Int)))
  have HBS := Aside0.mk (HBW5.out.setCell (p := ⟨g, 1, none⟩) HI5.out.2 (.int .i64 ((a : Int) + (n : Int))))
  have HKS := Aside0.mk (HK5.out.set_ 1 (.int .i64 ((a : Int) + (n : Int))))
  have HRS := Aside0.mk (show (w5.setCell ⟨g, 1, none⟩ (.int .i64 ((a : Int) + (n : Int)))).heap[w.heap.size]? = some (.cells zCells 25 (0, 0)) from blk_far HR5.out (by show w.heap.size ≠ g; omega) _)
  by_cases hx : nxt s (a + n) 34 = true
  ·have HRb := Aside0.mk (HRa.out.trans (if_pos hx))
   have HM : Aside0 (Calls Tryz.prog 78 #[.pointer (some ⟨g, 0, none⟩), .int .u8 34] (w5.setCell ⟨g, 1, none⟩ (.int .i64 ((a : Int) + (n : Int)))) fun e w' => e = .returned (.bool true) ∧ IsS61 w0 w' g s ((a + n + 1 : Nat) : Int) op 0 ∧ Below w0.heap.size w0 w' ∧ KeepBut (w5.setCell ⟨g, 1, none⟩ (.int .i64 ((a : Int) + (n : Int)))) w' g none) := ⟨datum_reader_must.calls g s ((a + n : Nat) : Int) op 0 34 _ _ _ _ _ w0 _ HG.out HSET.out HBS.out (dmust_ok s (a + n) op 34 hx (by omega))⟩
   clear hx hE
   go_wp2_with (go_at_call 78; go_loud (with_reducible refine HM.out.mono ?_); rintro e w6 ⟨rfl, hi6, hb6, hk6⟩; have HI6 := Aside0.mk hi6; have HB6 := Aside0.mk hb6; have HR6 := Aside0.mk (hk6.blk HRS.out (by omega) (by simp)); have HK6 := Aside0.mk (HKS.out.trans hk6 (.inl rfl)); have hy := Lib.cell_of_heap HR6.out; have hz := Lib.frozen_of_heap HR6.out; clear hi6 hb6 hk6)
   refine bodyPost_ret (results_cell_row rfl _ _ w.heap.size 25 _ (0, 0) _ rfl (set_blk (j := 4) (set_blk (j := 3) (set_blk (j := 2) (set_blk (j := 1) (set_blk (j := 0) HR6.out _) _) _) _) _) Tryz.underlying25 rfl (by kernel_rfl)) rfl ?_
   refine finQ (x := ⟨3, 0, mkB U.1, [], []⟩) (v3 := .slice none 0 0) (v4 := .slice none 0 0) (ok := fun k => w.heap.size < k) HB6.out hww HK6.out hgw0 (k25_mkM w6 w.heap.size _ ⟨3, 0, mkB U.1, [], []⟩ (Kd.R_nil _ _ _ _ _) (Kd.R_nil _ _ _ _ _)) (fun k hk => by omega) ?_
   rw [HRb.out]
   exact ⟨rfl, HI6.out⟩
  ·have HRb := Aside0.mk (HRa.out.trans (if_neg hx))
   have hx' : nxt s (a + n) 34 = false := by simpa using hx
   have HM : Aside0 (Calls Tryz.prog 78 #[.pointer (some ⟨g, 0, none⟩), .int .u8 34] (w5.setCell ⟨g, 1, none⟩ (.int .i64 ((a : Int) + (n : Int)))) fun e w' => e = .returned (.bool false) ∧ IsS61 w0 w' g s ((a + n : Nat) : Int) op 2 ∧ Below w0.heap.size w0 w' ∧ KeepBut (w5.setCell ⟨g, 1, none⟩ (.int .i64 ((a : Int) + (n : Int)))) w' g none) := ⟨datum_reader_must.calls g s ((a + n : Nat) : Int) op 0 34 _ _ _ _ _ w0 _ HG.out HSET.out HBS.out (dmust_no s (a + n) op 34 hx' (by omega))⟩
   clear hx hx' hE
   go_wp2_with (go_at_call 78; go_loud (with_reducible refine HM.out.mono ?_); rintro e w6 ⟨rfl, hi6, hb6, hk6⟩; have HI6 := Aside0.mk hi6; have HB6 := Aside0.mk hb6; have HR6 := Aside0.mk (hk6.blk HRS.out (by omega) (by simp)); have HK6 := Aside0.mk (HKS.out.trans hk6 (.inl rfl)); have hy := Lib.cell_of_heap HR6.out; have hz := Lib.frozen_of_heap HR6.out; clear hi6 hb6 hk6)
   refine bodyPost_ret (results_cell_row rfl _ _ w.heap.size 25 _ (0, 0) _ rfl (set_blk (j := 4) (set_blk (j := 3) (set_blk (j := 2) (set_blk (j := 1) (set_blk (j := 0) HR6.out _) _) _) _) _) Tryz.underlying25 rfl (by kernel_rfl)) rfl ?_
   refine finQ (x := ⟨3, 0, mkB U.1, [], []⟩) (v3 := .slice none 0 0) (v4 := .slice none 0 0) (ok := fun k => w.heap.size < k) HB6.out hww HK6.out hgw0 (k25_mkM w6 w.heap.size _ ⟨3, 0, mkB U.1, [], []⟩ (Kd.R_nil _ _ _ _ _) (Kd.R_nil _ _ _ _ _)) (fun k hk => by omega) ?_
   rw [HRb.out]
   exact ⟨_, HI6.out⟩
 ·have HRb := Aside0.mk (HTD.out.trans (if_pos hE))
  have hU1 : 0 ≤ U.2.1 ∧ U.2.1 ≤ 1000000000 := hUr.resolve_right hE
  have hnat : (a : Int) + U.2.1 = ((a + U.2.1.toNat : Nat) : Int) := by omega
  have hneq : (U.2.2 != 0) = true := by simpa using hE
  have HF : Aside0 (Calls Tryz.prog 30 #[.pointer (some ⟨g, 0, none⟩), .int .i64 ((a : Int) + U.2.1), .int .i64 2] w5 fun e w' => e = .returned (.tuple #[]) ∧ IsS61 w0 w' g s ((a : Int) + U.2.1) op 2 ∧ Below w0.heap.size w0 w' ∧ KeepBut w5 w' g none) := ⟨datum_reader_fail.calls g s a op 0 _ 2 _ _ _ _ w0 w5 HG.out HI5.out HBW5.out (dfail_0 s a op _ 2)⟩
  have HN := Aside0.mk hnat
  clear hnat hE
  go_wp2_with (go_at_call 30; go_loud (with_reducible refine HF.out.mono ?_); rintro e w6 ⟨rfl, hi6, hb6, hk6⟩; have HI6 := Aside0.mk hi6; have HB6 := Aside0.mk hb6; have HR6 := Aside0.mk (hk6.blk HR5.out (by omega) (by simp)); have HK6 := Aside0.mk (HK5.out.trans hk6 (.inl rfl)); have hy := Lib.cell_of_heap HR6.out; have hz := Lib.frozen_of_heap HR6.out; clear hi6 hb6 hk6)
  refine bodyPost_ret (results_cell_row rfl _ _ w.heap.size 25 _ (0, 0) _ rfl (set_blk (j := 4) (set_blk (j := 3) (set_blk (j := 2) (set_blk (j := 1) (set_blk (j := 0) HR6.out _) _) _) _) _) Tryz.underlying25 rfl (by kernel_rfl)) rfl ?_
  refine finQ (x := ⟨0, 0, em, [], []⟩) (v3 := .slice none 0 0) (v4 := .slice none 0 0) (ok := fun k => w.heap.size < k) HB6.out hww HK6.out hgw0 (k25_mkM w6 w.heap.size _ ⟨0, 0, em, [], []⟩ (Kd.R_nil _ _ _ _ _) (Kd.R_nil _ _ _ _ _)) (fun k hk => by omega) ?_
  rw [HRb.out]
  exact ⟨_, by rw [← HN.out]; exact HI6.out⟩
end Go.Proofs.YtidcecpbihmloaaGreatDoorE

namespace Go.Proofs.YtidcecpbihmloaaGreatDoorE
open Go Go.RowKit Go.Proofs.YtidcecpbihmloaaGreatDoorW.PrintWords Go.Proofs.YtidcecpbihmloaaGreatDoorW.PrintMore Go.Proofs.YtidcecpbihmloaaGreatDoorW.PrintLast Go.Proofs.YtidcecpbihmloaaGreatDoorX Go.Proofs.YtidcecpbihmloaaGreatDoor.P16 Go.Proofs.YtidcecpbihmloaaGreatDoor.M02
set_option linter.unusedVariables false
set_option linter.unusedSimpArgs false
set_option maxRecDepth 100000
theorem sgetB {s : ByteArray} {a : Nat} {c : UInt8} (hl : a < s.size) (hc : (B s)[a]'(at_lt hl) = c) : s[a]'hl = c := by rw [← hc]; simp [B, ByteArray.getElem_eq_getElem_data]
set_option maxHeartbeats 4000000 in
theorem dn_end (s : ByteArray) (hs : s.size ≤ 1000000000) (a : Nat) (ha : a ≤ s.size) (hl : s.size ≤ a) (deep er : Int) (g : Nat) (w0 w : World) (hI : IsS61 w0 w g s (a : Int) deep er) (hB : Below w0.heap.size w0 w) :
  Calls Tryz.prog 52 #[.pointer (some ⟨g, 0, none⟩)] w fun e w' => e = .returned (.nilIface) ∧ IsS61 w0 w' g s ((a : Int)) deep er ∧ Below w0.heap.size w0 w' ∧ KeepBut w w' g none := by
 have HI := Aside0.mk hI
 have HB := Aside0.mk hB
 have hg0 : w0.heap.size ≤ g := hI.2
 have q0 : w.cell? ⟨g, 0, none⟩ = some (.string s) := (blk_cell hI.1 0).trans rfl
 have q1 : w.cell? ⟨g, 1, none⟩ = some (.int .i64 (a : Int)) := (blk_cell hI.1 1).trans rfl
 have f1 := blk_frozen hI.1 1
 clear hI hB
 have he : ((a : Int) == (s.size : Int)) = true := by rw [beq_iff_eq]; omega
 go_enter Tryz.func52, Tryz.ntmps52
 go_wp2_with fail
 go_quiet (fail)
 go_wp2_with fail
 go_ret
 exact ⟨rfl, HI.out.drewN _, pw_below_drewN HB.out _, KeepBut.of_below (pw_below_drewN (Below.refl _ _) _) g none⟩
set_option maxHeartbeats 4000000 in
theorem dn_let (s : ByteArray) (hs : s.size ≤ 1000000000) (a : Nat) (ha : a ≤ s.size) (c : UInt8) (hl : a < s.size) (hc : (B s)[a]'(at_lt hl) = c) (h0 : isLet c = true) (deep er : Int) (g : Nat) (w0 w : World) (hI : IsS61 w0 w g s (a : Int) deep er) (hB : Below w0.heap.size w0 w) :
  Calls Tryz.prog 52 #[.pointer (some ⟨g, 0, none⟩)] w fun e w' => e = .returned (.iface 88 (.string (mkB (((B s).drop a).takeWhile isLet)))) ∧ IsS61 w0 w' g s (((a + (((B s).drop a).takeWhile isLet).length : Nat) : Int)) deep er ∧ Below w0.heap.size w0 w' ∧ KeepBut w w' g none := by
 have HI := Aside0.mk hI
 have HB := Aside0.mk hB
 have hg0 : w0.heap.size ≤ g := hI.2
 have q0 : w.cell? ⟨g, 0, none⟩ = some (.string s) := (blk_cell hI.1 0).trans rfl
 have q1 : w.cell? ⟨g, 1, none⟩ = some (.int .i64 (a : Int)) := (blk_cell hI.1 1).trans rfl
 have f1 := blk_frozen hI.1 1
 clear hI hB
 have he : ((a : Int) == (s.size : Int)) = false := by rw [beq_eq_false_iff_ne]; omega
 have b1 : (0 : Int) ≤ (a : Int) := by omega
 have b2 : (a : Int) < (s.size : Int) := by omega
 go_enter Tryz.func52, Tryz.ntmps52
 go_wp2_with fail
 go_quiet (fail)
 revert nq
 intro n1
 go_wp2_with fail
 go_quiet (fail)
 have hsc := sgetB hl hc
 generalize s[a]'hl = c1 at hsc ⊢
 subst hsc
 clear hc
 have HI2 := Aside0.mk ((HI.out.drewN n1).drewN nq)
 have HB2 := Aside0.mk (pw_below_drewN (pw_below_drewN HB.out n1) nq)
 have HK2 := Aside0.mk (KeepBut.of_below (pw_below_drewN (pw_below_drewN (Below.refl w.heap.size w) n1) nq) g none)
 generalize hW2 : (w.drewN n1).drewN nq = W2 at HI2 HB2 HK2 ⊢
 clear hW2
 clear q0 q1 f1 HI HB
 have q1 : W2.cell? ⟨g, 1, none⟩ = some (.int .i64 (a : Int)) := (blk_cell HI2.out.1 1).trans rfl
 have f1 := blk_frozen HI2.out.1 1
 have HLE : Aside0 (∀ W, Calls Tryz.prog 72 #[.int .u8 (c1.toNat : Int)] W fun e w' => e = .returned (.bool true) ∧ W = w') := ⟨fun W => by have h := letter_c c1 W; rw [h0] at h; exact h.mono (fun e w' hh => ⟨hh.1, hh.2.symm⟩)⟩
 clear h0
 go_wp2_with (first | (go_at_call 72; refine (HLE.out _).mono ?_; rintro e w' ⟨rfl, rfl⟩) | (go_at_call 73; go_loud (with_reducible refine (drun_let s hs a ha deep er g w0 W2 HI2.out HB2.out).mono ?_); rintro e w4 ⟨rfl, hi, hb, hk⟩; have HI4 := Aside0.mk hi; have HB4 := Aside0.mk hb; have HK4 := Aside0.mk (HK2.out.trans hk (.inl rfl)); clear hi hb hk))
 go_ret
 exact ⟨rfl, HI4.out, HB4.out, HK4.out⟩
set_option maxHeartbeats 4000000 in
theorem dn_dig (s : ByteArray) (hs : s.size ≤ 1000000000) (a : Nat) (ha : a ≤ s.size) (c : UInt8) (hl : a < s.size) (hc : (B s)[a]'(at_lt hl) = c) (h0 : isLet c = false) (h1 : isDig c = true) (deep er : Int) (g : Nat) (w0 w : World) (hI : IsS61 w0 w g s (a : Int) deep er) (hB : Below w0.heap.size w0 w) :
  Calls Tryz.prog 52 #[.pointer (some ⟨g, 0, none⟩)] w fun e w' => e = .returned (.iface 90 (.string (mkB (((B s).drop a).takeWhile isDig)))) ∧ IsS61 w0 w' g s (((a + (((B s).drop a).takeWhile isDig).length : Nat) : Int)) deep er ∧ Below w0.heap.size w0 w' ∧ KeepBut w w' g none := by
 have HI := Aside0.mk hI
 have HB := Aside0.mk hB
 have hg0 : w0.heap.size ≤ g := hI.2
 have q0 : w.cell? ⟨g, 0, none⟩ = some (.string s) := (blk_cell hI.1 0).trans rfl
 have q1 : w.cell? ⟨g, 1, none⟩ = some (.int .i64 (a : Int)) := (blk_cell hI.1 1).trans rfl
 have f1 := blk_frozen hI.1 1
 clear hI hB
 have he : ((a : Int) == (s.size : Int)) = false := by rw [beq_eq_false_iff_ne]; omega
 have b1 : (0 : Int) ≤ (a : Int) := by omega
 have b2 : (a : Int) < (s.size : Int) := by omega
 go_enter Tryz.func52, Tryz.ntmps52
 go_wp2_with fail
 go_quiet (fail)
 revert nq
 intro n1
 go_wp2_with fail
 go_quiet (fail)
 have hsc := sgetB hl hc
 generalize s[a]'hl = c1 at hsc ⊢
 subst hsc
 clear hc
 have HI2 := Aside0.mk ((HI.out.drewN n1).drewN nq)
 have HB2 := Aside0.mk (pw_below_drewN (pw_below_drewN HB.out n1) nq)
 have HK2 := Aside0.mk (KeepBut.of_below (pw_below_drewN (pw_below_drewN (Below.refl w.heap.size w) n1) nq) g none)
 generalize hW2 : (w.drewN n1).drewN nq = W2 at HI2 HB2 HK2 ⊢
 clear hW2
 clear q0 q1 f1 HI HB
 have q1 : W2.cell? ⟨g, 1, none⟩ = some (.int .i64 (a : Int)) := (blk_cell HI2.out.1 1).trans rfl
 have f1 := blk_frozen HI2.out.1 1
 have HLE : Aside0 (∀ W, Calls Tryz.prog 72 #[.int .u8 (c1.toNat : Int)] W fun e w' => e = .returned (.bool false) ∧ W = w') := ⟨fun W => by have h := letter_c c1 W; rw [h0] at h; exact h.mono (fun e w' hh => ⟨hh.1, hh.2.symm⟩)⟩
 have HDI : Aside0 (∀ W, Calls Tryz.prog 74 #[.int .u8 (c1.toNat : Int)] W fun e w' => e = .returned (.bool true) ∧ W = w') := ⟨fun W => by have h := digit_c c1 W; rw [h1] at h; exact h.mono (fun e w' hh => ⟨hh.1, hh.2.symm⟩)⟩
 clear h0 h1
 go_wp2_with (first | (go_at_call 72; refine (HLE.out _).mono ?_; rintro e w' ⟨rfl, rfl⟩) | (go_at_call 74; refine (HDI.out _).mono ?_; rintro e w' ⟨rfl, rfl⟩) | (go_at_call 73; go_loud (with_reducible refine (drun_dig s hs a ha deep er g w0 W2 HI2.out HB2.out).mono ?_); rintro e w4 ⟨rfl, hi, hb, hk⟩; have HI4 := Aside0.mk hi; have HB4 := Aside0.mk hb; have HK4 := Aside0.mk (HK2.out.trans hk (.inl rfl)); clear hi hb hk))
 go_ret
 exact ⟨rfl, HI4.out, HB4.out, HK4.out⟩
set_option maxHeartbeats 4000000 in
theorem dn_quo (s : ByteArray) (hs : s.size ≤ 1000000000) (a : Nat) (ha : a ≤ s.size) (hl : a < s.size) (hc : (B s)[a]'(at_lt hl) = 34)  (deep er : Int) (g : Nat) (w0 w : World) (hI : IsS61 w0 w g s (a : Int) deep er) (hB : Below w0.heap.size w0 w) :
  Calls Tryz.prog 52 #[.pointer (some ⟨g, 0, none⟩)] w fun e w' => e = .returned (.iface 93 (.agg #[])) ∧ IsS61 w0 w' g s (((a + 1 : Nat) : Int)) deep er ∧ Below w0.heap.size w0 w' ∧ KeepBut w w' g none := by
 have HI := Aside0.mk hI
 have HB := Aside0.mk hB
 have hg0 : w0.heap.size ≤ g := hI.2
 have q0 : w.cell? ⟨g, 0, none⟩ = some (.string s) := (blk_cell hI.1 0).trans rfl
 have q1 : w.cell? ⟨g, 1, none⟩ = some (.int .i64 (a : Int)) := (blk_cell hI.1 1).trans rfl
 have f1 := blk_frozen hI.1 1
 clear hI hB
 have he : ((a : Int) == (s.size : Int)) = false := by rw [beq_eq_false_iff_ne]; omega
 have b1 : (0 : Int) ≤ (a : Int) := by omega
 have b2 : (a : Int) < (s.size : Int) := by omega
 go_enter Tryz.func52, Tryz.ntmps52
 go_wp2_with fail
 go_quiet (fail)
 revert nq
 intro n1
 go_wp2_with fail
 go_quiet (fail)
 have hsc := sgetB hl hc
 generalize s[a]'hl = c1 at hsc ⊢
 have h0 : isLet c1 = false := by rw [hsc]; rfl
 have h1 : isDig c1 = false := by rw [hsc]; rfl
 have c34 : ((c1.toNat : Int) == 34) = true := by rw [hsc]; rfl
 clear hsc
 clear hc
 have HI2 := Aside0.mk ((HI.out.drewN n1).drewN nq)
 have HB2 := Aside0.mk (pw_below_drewN (pw_below_drewN HB.out n1) nq)
 have HK2 := Aside0.mk (KeepBut.of_below (pw_below_drewN (pw_below_drewN (Below.refl w.heap.size w) n1) nq) g none)
 generalize hW2 : (w.drewN n1).drewN nq = W2 at HI2 HB2 HK2 ⊢
 clear hW2
 clear q0 q1 f1 HI HB
 have q1 : W2.cell? ⟨g, 1, none⟩ = some (.int .i64 (a : Int)) := (blk_cell HI2.out.1 1).trans rfl
 have f1 := blk_frozen HI2.out.1 1
 have HLE : Aside0 (∀ W, Calls Tryz.prog 72 #[.int .u8 (c1.toNat : Int)] W fun e w' => e = .returned (.bool false) ∧ W = w') := ⟨fun W => by have h := letter_c c1 W; rw [h0] at h; exact h.mono (fun e w' hh => ⟨hh.1, hh.2.symm⟩)⟩
 have HDI : Aside0 (∀ W, Calls Tryz.prog 74 #[.int .u8 (c1.toNat : Int)] W fun e w' => e = .returned (.bool false) ∧ W = w') := ⟨fun W => by have h := digit_c c1 W; rw [h1] at h; exact h.mono (fun e w' hh => ⟨hh.1, hh.2.symm⟩)⟩
 clear h0 h1
 go_wp2_with (first | (go_at_call 72; refine (HLE.out _).mono ?_; rintro e w' ⟨rfl, rfl⟩) | (go_at_call 74; refine (HDI.out _).mono ?_; rintro e w' ⟨rfl, rfl⟩))
 go_ret
 exact ⟨rfl, by rw [show ((a + 1 : Nat) : Int) = (a : Int) + 1 by omega]; exact HI2.out.set_1 _, HB2.out.setCell (p := ⟨g, 1, none⟩) hg0 _, HK2.out.set_ 1 _⟩
set_option maxHeartbeats 4000000 in
theorem dn_list (s : ByteArray) (hs : s.size ≤ 1000000000) (a : Nat) (ha : a ≤ s.size) (hl : a < s.size) (hc : (B s)[a]'(at_lt hl) = 91)  (deep er : Int) (g : Nat) (w0 w : World) (hI : IsS61 w0 w g s (a : Int) deep er) (hB : Below w0.heap.size w0 w) :
  Calls Tryz.prog 52 #[.pointer (some ⟨g, 0, none⟩)] w fun e w' => e = .returned (.iface 94 (.int .u8 91)) ∧ IsS61 w0 w' g s (((a + 1 : Nat) : Int)) deep er ∧ Below w0.heap.size w0 w' ∧ KeepBut w w' g none := by
 have HI := Aside0.mk hI
 have HB := Aside0.mk hB
 have hg0 : w0.heap.size ≤ g := hI.2
 have q0 : w.cell? ⟨g, 0, none⟩ = some (.string s) := (blk_cell hI.1 0).trans rfl
 have q1 : w.cell? ⟨g, 1, none⟩ = some (.int .i64 (a : Int)) := (blk_cell hI.1 1).trans rfl
 have f1 := blk_frozen hI.1 1
 clear hI hB
 have he : ((a : Int) == (s.size : Int)) = false := by rw [beq_eq_false_iff_ne]; omega
 have b1 : (0 : Int) ≤ (a : Int) := by omega
 have b2 : (a : Int) < (s.size : Int) := by omega
 go_enter Tryz.func52, Tryz.ntmps52
 go_wp2_with fail
 go_quiet (fail)
 revert nq
 intro n1
 go_wp2_with fail
 go_quiet (fail)
 have hsc := sgetB hl hc
 generalize s[a]'hl = c1 at hsc ⊢
 have h0 : isLet c1 = false := by rw [hsc]; rfl
 have h1 : isDig c1 = false := by rw [hsc]; rfl
 have c34 : ((c1.toNat : Int) == 34) = false := by rw [hsc]; rfl
 have c91 : ((c1.toNat : Int) == 91) = true := by rw [hsc]; rfl
 have c123 : ((c1.toNat : Int) == 123) = false := by rw [hsc]; rfl
 have HV := Aside0.mk (show (c1.toNat : Int) = 91 by rw [hsc]; rfl)
 clear hsc
 clear hc
 have HI2 := Aside0.mk ((HI.out.drewN n1).drewN nq)
 have HB2 := Aside0.mk (pw_below_drewN (pw_below_drewN HB.out n1) nq)
 have HK2 := Aside0.mk (KeepBut.of_below (pw_below_drewN (pw_below_drewN (Below.refl w.heap.size w) n1) nq) g none)
 generalize hW2 : (w.drewN n1).drewN nq = W2 at HI2 HB2 HK2 ⊢
 clear hW2
 clear q0 q1 f1 HI HB
 have q1 : W2.cell? ⟨g, 1, none⟩ = some (.int .i64 (a : Int)) := (blk_cell HI2.out.1 1).trans rfl
 have f1 := blk_frozen HI2.out.1 1
 have HLE : Aside0 (∀ W, Calls Tryz.prog 72 #[.int .u8 (c1.toNat : Int)] W fun e w' => e = .returned (.bool false) ∧ W = w') := ⟨fun W => by have h := letter_c c1 W; rw [h0] at h; exact h.mono (fun e w' hh => ⟨hh.1, hh.2.symm⟩)⟩
 have HDI : Aside0 (∀ W, Calls Tryz.prog 74 #[.int .u8 (c1.toNat : Int)] W fun e w' => e = .returned (.bool false) ∧ W = w') := ⟨fun W => by have h := digit_c c1 W; rw [h1] at h; exact h.mono (fun e w' hh => ⟨hh.1, hh.2.symm⟩)⟩
 clear h0 h1
 go_wp2_with (first | (go_at_call 72; refine (HLE.out _).mono ?_; rintro e w' ⟨rfl, rfl⟩) | (go_at_call 74; refine (HDI.out _).mono ?_; rintro e w' ⟨rfl, rfl⟩))
 go_ret
 exact ⟨by rw [← HV.out]; rfl, by rw [show ((a + 1 : Nat) : Int) = (a : Int) + 1 by omega]; exact HI2.out.set_1 _, HB2.out.setCell (p := ⟨g, 1, none⟩) hg0 _, HK2.out.set_ 1 _⟩
set_option maxHeartbeats 4000000 in
theorem dn_rec (s : ByteArray) (hs : s.size ≤ 1000000000) (a : Nat) (ha : a ≤ s.size) (hl : a < s.size) (hc : (B s)[a]'(at_lt hl) = 123)  (deep er : Int) (g : Nat) (w0 w : World) (hI : IsS61 w0 w g s (a : Int) deep er) (hB : Below w0.heap.size w0 w) :
  Calls Tryz.prog 52 #[.pointer (some ⟨g, 0, none⟩)] w fun e w' => e = .returned (.iface 94 (.int .u8 123)) ∧ IsS61 w0 w' g s (((a + 1 : Nat) : Int)) deep er ∧ Below w0.heap.size w0 w' ∧ KeepBut w w' g none := by
 have HI := Aside0.mk hI
 have HB := Aside0.mk hB
 have hg0 : w0.heap.size ≤ g := hI.2
 have q0 : w.cell? ⟨g, 0, none⟩ = some (.string s) := (blk_cell hI.1 0).trans rfl
 have q1 : w.cell? ⟨g, 1, none⟩ = some (.int .i64 (a : Int)) := (blk_cell hI.1 1).trans rfl
 have f1 := blk_frozen hI.1 1
 clear hI hB
 have he : ((a : Int) == (s.size : Int)) = false := by rw [beq_eq_false_iff_ne]; omega
 have b1 : (0 : Int) ≤ (a : Int) := by omega
 have b2 : (a : Int) < (s.size : Int) := by omega
 go_enter Tryz.func52, Tryz.ntmps52
 go_wp2_with fail
 go_quiet (fail)
 revert nq
 intro n1
 go_wp2_with fail
 go_quiet (fail)
 have hsc := sgetB hl hc
 generalize s[a]'hl = c1 at hsc ⊢
 have h0 : isLet c1 = false := by rw [hsc]; rfl
 have h1 : isDig c1 = false := by rw [hsc]; rfl
 have c34 : ((c1.toNat : Int) == 34) = false := by rw [hsc]; rfl
 have c91 : ((c1.toNat : Int) == 91) = false := by rw [hsc]; rfl
 have c123 : ((c1.toNat : Int) == 123) = true := by rw [hsc]; rfl
 have HV := Aside0.mk (show (c1.toNat : Int) = 123 by rw [hsc]; rfl)
 clear hsc
 clear hc
 have HI2 := Aside0.mk ((HI.out.drewN n1).drewN nq)
 have HB2 := Aside0.mk (pw_below_drewN (pw_below_drewN HB.out n1) nq)
 have HK2 := Aside0.mk (KeepBut.of_below (pw_below_drewN (pw_below_drewN (Below.refl w.heap.size w) n1) nq) g none)
 generalize hW2 : (w.drewN n1).drewN nq = W2 at HI2 HB2 HK2 ⊢
 clear hW2
 clear q0 q1 f1 HI HB
 have q1 : W2.cell? ⟨g, 1, none⟩ = some (.int .i64 (a : Int)) := (blk_cell HI2.out.1 1).trans rfl
 have f1 := blk_frozen HI2.out.1 1
 have HLE : Aside0 (∀ W, Calls Tryz.prog 72 #[.int .u8 (c1.toNat : Int)] W fun e w' => e = .returned (.bool false) ∧ W = w') := ⟨fun W => by have h := letter_c c1 W; rw [h0] at h; exact h.mono (fun e w' hh => ⟨hh.1, hh.2.symm⟩)⟩
 have HDI : Aside0 (∀ W, Calls Tryz.prog 74 #[.int .u8 (c1.toNat : Int)] W fun e w' => e = .returned (.bool false) ∧ W = w') := ⟨fun W => by have h := digit_c c1 W; rw [h1] at h; exact h.mono (fun e w' hh => ⟨hh.1, hh.2.symm⟩)⟩
 clear h0 h1
 go_wp2_with (first | (go_at_call 72; refine (HLE.out _).mono ?_; rintro e w' ⟨rfl, rfl⟩) | (go_at_call 74; refine (HDI.out _).mono ?_; rintro e w' ⟨rfl, rfl⟩))
 go_ret
 exact ⟨by rw [← HV.out]; rfl, by rw [show ((a + 1 : Nat) : Int) = (a : Int) + 1 by omega]; exact HI2.out.set_1 _, HB2.out.setCell (p := ⟨g, 1, none⟩) hg0 _, HK2.out.set_ 1 _⟩
set_option maxHeartbeats 4000000 in
theorem dn_bad (s : ByteArray) (hs : s.size ≤ 1000000000) (a : Nat) (ha : a ≤ s.size) (c : UInt8) (hl : a < s.size) (hc : (B s)[a]'(at_lt hl) = c) (h0 : isLet c = false) (h1 : isDig c = false) (h34 : c ≠ 34) (h91 : c ≠ 91) (h123 : c ≠ 123) (deep er : Int) (g : Nat) (w0 w : World) (hI : IsS61 w0 w g s (a : Int) deep er) (hB : Below w0.heap.size w0 w) :
  Calls Tryz.prog 52 #[.pointer (some ⟨g, 0, none⟩)] w fun e w' => e = .returned (.nilIface) ∧ IsS61 w0 w' g s ((a : Int)) deep er ∧ Below w0.heap.size w0 w' ∧ KeepBut w w' g none := by
 have HI := Aside0.mk hI
 have HB := Aside0.mk hB
 have hg0 : w0.heap.size ≤ g := hI.2
 have q0 : w.cell? ⟨g, 0, none⟩ = some (.string s) := (blk_cell hI.1 0).trans rfl
 have q1 : w.cell? ⟨g, 1, none⟩ = some (.int .i64 (a : Int)) := (blk_cell hI.1 1).trans rfl
 have f1 := blk_frozen hI.1 1
 clear hI hB
 have he : ((a : Int) == (s.size : Int)) = false := by rw [beq_eq_false_iff_ne]; omega
 have b1 : (0 : Int) ≤ (a : Int) := by omega
 have b2 : (a : Int) < (s.size : Int) := by omega
 go_enter Tryz.func52, Tryz.ntmps52
 go_wp2_with fail
 go_quiet (fail)
 revert nq
 intro n1
 go_wp2_with fail
 go_quiet (fail)
 have hsc := sgetB hl hc
 generalize s[a]'hl = c1 at hsc ⊢
 subst hsc
 clear hc
 have HI2 := Aside0.mk ((HI.out.drewN n1).drewN nq)
 have HB2 := Aside0.mk (pw_below_drewN (pw_below_drewN HB.out n1) nq)
 have HK2 := Aside0.mk (KeepBut.of_below (pw_below_drewN (pw_below_drewN (Below.refl w.heap.size w) n1) nq) g none)
 generalize hW2 : (w.drewN n1).drewN nq = W2 at HI2 HB2 HK2 ⊢
 clear hW2
 clear q0 q1 f1 HI HB
 have q1 : W2.cell? ⟨g, 1, none⟩ = some (.int .i64 (a : Int)) := (blk_cell HI2.out.1 1).trans rfl
 have f1 := blk_frozen HI2.out.1 1
 have HLE : Aside0 (∀ W, Calls Tryz.prog 72 #[.int .u8 (c1.toNat : Int)] W fun e w' => e = .returned (.bool false) ∧ W = w') := ⟨fun W => by have h := letter_c c1 W; rw [h0] at h; exact h.mono (fun e w' hh => ⟨hh.1, hh.2.symm⟩)⟩
 have HDI : Aside0 (∀ W, Calls Tryz.prog 74 #[.int .u8 (c1.toNat : Int)] W fun e w' => e = .returned (.bool false) ∧ W = w') := ⟨fun W => by have h := digit_c c1 W; rw [h1] at h; exact h.mono (fun e w' hh => ⟨hh.1, hh.2.symm⟩)⟩
 have c34 : ((c1.toNat : Int) == 34) = false := by rw [beq_eq_false_iff_ne]; exact fun e => h34 (UInt8.toNat_inj.1 (show c1.toNat = 34 by omega))
 have c91 : ((c1.toNat : Int) == 91) = false := by rw [beq_eq_false_iff_ne]; exact fun e => h91 (UInt8.toNat_inj.1 (show c1.toNat = 91 by omega))
 have c123 : ((c1.toNat : Int) == 123) = false := by rw [beq_eq_false_iff_ne]; exact fun e => h123 (UInt8.toNat_inj.1 (show c1.toNat = 123 by omega))
 clear h0 h1 h34 h91 h123
 go_wp2_with (first | (go_at_call 72; refine (HLE.out _).mono ?_; rintro e w' ⟨rfl, rfl⟩) | (go_at_call 74; refine (HDI.out _).mono ?_; rintro e w' ⟨rfl, rfl⟩))
 go_ret
 exact ⟨rfl, HI2.out, HB2.out, HK2.out⟩
set_option maxHeartbeats 4000000 in
theorem dname_c (s : ByteArray) (hs : s.size ≤ 1000000000) (a : Nat) (ha : a ≤ s.size) (deep : Int) (g : Nat) (w0 w : World) (hgl : GL w0) (hI : IsS61 w0 w g s (a : Int) deep 0) (hB : Below w0.heap.size w0 w) :
  Calls Tryz.prog 80 #[.pointer (some ⟨g, 0, none⟩)] w fun e w' => e = .returned (.string (mkB (((B s).drop a).takeWhile isNam))) ∧ (if namedS true (((B s).drop a).takeWhile isNam) = true then IsS61 w0 w' g s ((a + (((B s).drop a).takeWhile isNam).length : Nat) : Int) deep 0 else IsS61 w0 w' g s (a : Int) deep 2) ∧ Below w0.heap.size w0 w' ∧ KeepBut w w' g none := by
 have HG := Aside0.mk hgl
 have q1 : w.cell? ⟨g, 1, none⟩ = some (.int .i64 (a : Int)) := (blk_cell hI.1 1).trans rfl
 have HRUN := Aside0.mk (drun_nam s hs a ha deep 0 g w0 w hI hB)
 obtain ⟨T, hT⟩ : ∃ T, T = ((B s).drop a).takeWhile isNam := ⟨_, rfl⟩
 have hTl : a + T.length ≤ s.size := by
  have h := tw_le isNam ((B s).drop a)
  rw [← hT, List.length_drop, B_len] at h
  omega
 rw [← hT] at HRUN
 rw [← hT]
 obtain ⟨bn, hbn⟩ : ∃ bn, bn = namedS true T := ⟨_, rfl⟩
 rw [← hbn]
 have HNAM : Aside0 (∀ W, Below w0.heap.size w0 W → Calls Tryz.prog 51 #[.string (mkB T)] W fun e w' => e = .returned (.bool bn) ∧ Drawn0 W w') := ⟨fun W hW => by
  obtain ⟨k, hk⟩ := name_ev (mkB T) (by rw [mkB_size]; omega)
  have h := hk k (Nat.le_refl _)
  rw [show namedS true (B (mkB T)) = bn from hbn.symm] at h
  exact chars_Name.calls k (mkB T) bn W (HG.out.below hW) h⟩
 clear hT hbn hI hB hgl
 cases bn with
 | true =>
  simp only [reduceIte]
  go_enter Tryz.func80, Tryz.ntmps80
  go_wp2_with (first | (go_at_call 73; go_loud (with_reducible refine HRUN.out.mono ?_); rintro e w4 ⟨rfl, hi, hb, hk⟩; have HI4 := Aside0.mk hi; have HB4 := Aside0.mk hb; have HK4 := Aside0.mk hk; clear hi hb hk) | (go_at_call 51; go_loud (with_reducible refine (HNAM.out _ HB4.out).mono ?_); rintro e w5 ⟨rfl, hd⟩; have HD := Aside0.mk hd.below; clear hd))
  go_ret
  exact ⟨rfl, HI4.out.below HD.out, below_then HB4.out HB4.out.size HD.out, HK4.out.trans (KeepBut.of_below HD.out g none) (.inl rfl)⟩
 | false =>
  simp only [Bool.false_eq_true, reduceIte]
  go_enter Tryz.func80, Tryz.ntmps80
  go_wp2_with (first | (go_at_call 73; go_loud (with_reducible refine HRUN.out.mono ?_); rintro e w4 ⟨rfl, hi, hb, hk⟩; have HI4 := Aside0.mk hi; have HB4 := Aside0.mk hb; have HK4 := Aside0.mk hk; clear hi hb hk) | (go_at_call 51; go_loud (with_reducible refine (HNAM.out _ HB4.out).mono ?_); rintro e w5 ⟨rfl, hd⟩; have HI5 := Aside0.mk (HI4.out.below hd.below); have HB5 := Aside0.mk (below_then HB4.out HB4.out.size hd.below); have HK5 := Aside0.mk (HK4.out.trans (KeepBut.of_below hd.below g none) (.inl rfl)); clear hd) | (go_at_call 30; go_loud (with_reducible refine (datum_reader_fail.calls g s _ deep 0 (a : Int) 2 _ _ _ _ w0 w5 HG.out HI5.out HB5.out (dfail_0 s _ deep _ 2)).mono ?_); rintro e w6 ⟨rfl, hi, hb, hk⟩; have HI6 := Aside0.mk hi; have HB6 := Aside0.mk hb; have HK6 := Aside0.mk (HK5.out.trans hk (.inl rfl)); clear hi hb hk))
  go_ret
  exact ⟨rfl, HI6.out, HB6.out, HK6.out⟩
end Go.Proofs.YtidcecpbihmloaaGreatDoorE

namespace Go.Proofs.YtidcecpbihmloaaGreatDoorE
open Go Go.RowKit Go.Proofs.YtidcecpbihmloaaGreatDoorW.PrintWords Go.Proofs.YtidcecpbihmloaaGreatDoorW.PrintMore Go.Proofs.YtidcecpbihmloaaGreatDoorW.PrintLast Go.Proofs.YtidcecpbihmloaaGreatDoorX Go.Proofs.YtidcecpbihmloaaGreatDoor.P16 Go.Proofs.YtidcecpbihmloaaGreatDoor.M02
set_option linter.unusedVariables false
set_option linter.unusedSimpArgs false
set_option maxRecDepth 100000
/-- The contract of the reader's piece at a fuel. -/
def PieceQ (s : ByteArray) (n : Nat) : Prop := ∀ (a deep : Nat), a ≤ s.size → deep ≤ 16 → 3 * (s.size - a) + 1 ≤ n → ∀ (g : Nat) (w0 w : World), GL w0 → IsS61 w0 w g s (a : Int) (deep : Int) 0 → Below w0.heap.size w0 w →
 Calls Tryz.prog 29 #[.pointer (some ⟨g, 0, none⟩)] w (pieceQ w0 w g s (deep : Int) (pieceS n ((B s).drop a) a deep))
theorem state_grownQ {w0 W W1 : World} {g : Nat} {s : ByteArray} {i1 i2 i3 : Int} {v : Value} {b : Nat} (h : IsS61 w0 W g s i1 i2 i3) (hg : W.grownBy W1 v.ownBlock) (hne : ∀ k, v.ownBlock = some k → b < k) (hb : g < b) (j : Nat) (u : Value) : IsS61 w0 (W1.setCell ⟨b, j, none⟩ u) g s i1 i2 i3 :=
 (h.grown hg (fun e => by have := hne g e.symm; omega)).far (p := ⟨b, j, none⟩) (by show g ≠ b; omega) u
/-- What holds at the head of the loop over the members. -/
def QInv (w0 w : World) (g : Nat) (s : ByteArray) (deep : Nat) (b : Bool) (R : Res DT) (gk : Nat) (wr : World) : Prop :=
 ∃ (x : DT) (v3 v4 : Value), LR w0 w g x v3 v4 wr ∧ x.f0 = kindB b ∧ x.f1 = 0 ∧ x.f2 = em ∧
  ∃ a : Nat, a ≤ s.size ∧ IsS61 w0 wr g s (a : Int) ((deep + 1 : Nat) : Int) 0 ∧ R = membersS gk ((B s).drop a) a (deep + 1) b x.f3 x.f4 ∧ 3 * (s.size - a) + 3 ≤ gk ∧ x.f3.length ≤ a ∧ x.f4.length ≤ a
set_option maxHeartbeats 20000000 in
theorem qall_list (s : ByteArray) (hs : s.size ≤ 1000000000) (a : Nat) (ha : a ≤ s.size) (deep : Nat) (hd : deep < 16) (m : Nat) (hm : 3 * (s.size - a) + 3 ≤ m) (ih : ∀ n, n < m → PieceQ s n) (g : Nat) (w0 w : World) (hgl : GL w0) (hI : IsS61 w0 w g s (a : Int) ((deep + 1 : Nat) : Int) 0) (hB : Below w0.heap.size w0 w) :
  Calls Tryz.prog 56 #[.pointer (some ⟨g, 0, none⟩), .bool false] w (pieceQ w0 w g s ((deep + 1 : Nat) : Int) (allS m s a deep false)) := by
 obtain ⟨R, hR⟩ : ∃ R : Res DT, R = allS m s a deep false := ⟨_, rfl⟩
 rw [← hR]
 have HRA := Aside0.mk hR
 have IH := Aside0.mk ih
 have HG := Aside0.mk hgl
 have hgw : g < w.heap.size := blk_lt hI.1
 have hg0 : w0.heap.size ≤ g := hI.2
 have hww : w0.heap.size ≤ w.heap.size := hB.size
 have HI1 := Aside0.mk ((hI.alloc (.cells zCells 25)).alloc (.cells #[.int .i64 4, .int .i64 0, .string ⟨#[]⟩, .slice none 0 0, .slice none 0 0] 25))
 have HL1 : Aside0 (LR w0 w g ⟨4, 0, em, [], []⟩ (.slice none 0 0) (.slice none 0 0) ((w.alloc (.cells zCells 25)).alloc (.cells #[.int .i64 4, .int .i64 0, .string ⟨#[]⟩, .slice none 0 0, .slice none 0 0] 25))) := ⟨⟨DL.new _ 4 0 em (two_new_ w _ _), below_alloc (below_alloc hB _) _, KeepBut.of_below (below_alloc (below_alloc (Below.refl _ w) _) _) g none, two_old_ w _ _⟩⟩
 clear hR ih hgl hI hB
 go_enter Tryz.func56, Tryz.ntmps56
 go_upto_region 4 with fail
 skip
 generalize hW : (w.alloc (.cells zCells 25)).alloc (.cells #[.int .i64 4, .int .i64 0, .string ⟨#[]⟩, .slice none 0 0, .slice none 0 0] 25) = W1 at HI1 HL1 ⊢
 clear hW
 cases hx : nxt s a (shutB false) with
 | true =>
  have HRt := Aside0.mk (HRA.out.trans (show allS m s a deep false = .ok ⟨4, 0, em, [], []⟩ (a + 1) ((B s).drop (a + 1)) from if_pos hx))
  have HIS : Aside0 (Calls Tryz.prog 79 #[.pointer (some ⟨g, 0, none⟩), .int .u8 93] W1 fun e w' => e = .returned (.bool true) ∧ IsS61 w0 w' g s ((a + 1 : Nat) : Int) ((deep + 1 : Nat) : Int) 0 ∧ Below w0.heap.size w0 w' ∧ KeepBut W1 w' g none) := ⟨datum_reader_is.calls g s _ _ _ 93 _ _ _ _ _ w0 W1 HG.out HI1.out HL1.out.bel (dis_ok s a ((deep + 1 : Nat) : Int) (shutB false) hx (by omega))⟩
  clear hx
  go_wp2_with (go_at_call 79; go_loud (with_reducible refine HIS.out.mono ?_); rintro e w7 ⟨rfl, hi, hb, hk⟩; have HI7 := Aside0.mk hi; have HL7 := Aside0.mk (HL1.out.step hgw hb hk); obtain ⟨p0, p1, p2, p3, p4⟩ := HL7.out.cell; have hy := Lib.cell_of_heap HL7.out.res; have hz := Lib.frozen_of_heap HL7.out.res; clear hi hb hk)
  clear hy hz p0 p1 p2 p3 p4
  refine bodyPost_ret (results_cell_row rfl _ _ w.heap.size 25 _ (0, 0) _ rfl (set_blk (j := 4) (set_blk (j := 3) (set_blk (j := 2) (set_blk (j := 1) (set_blk (j := 0) HL7.out.res _) _) _) _) _) Tryz.underlying25 rfl (by kernel_rfl)) rfl ?_
  refine finQ (x := ⟨4, 0, em, [], []⟩) (ok := fun k => w.heap.size + 1 < k) HL7.out.bel hww HL7.out.keep hgw (k25_mkM _ w.heap.size _ ⟨4, 0, em, [], []⟩ (Kd.R_lower HL7.out.dl.r3 (by omega)) (Kd.R_mono (Kd.R_lower HL7.out.dl.r4 (by omega)) (fun k hk => hk.1))) (fun k hk => by omega) ?_
  rw [HRt.out]
  exact ⟨rfl, HI7.out⟩
 | false =>
  have HRf := Aside0.mk (HRA.out.trans (show allS m s a deep false = membersS m ((B s).drop a) a (deep + 1) false [] [] from if_neg (by rw [hx]; decide)))
  have HIS : Aside0 (Calls Tryz.prog 79 #[.pointer (some ⟨g, 0, none⟩), .int .u8 93] W1 fun e w' => e = .returned (.bool false) ∧ IsS61 w0 w' g s (a : Int) ((deep + 1 : Nat) : Int) 0 ∧ Below w0.heap.size w0 w' ∧ KeepBut W1 w' g none) := ⟨datum_reader_is.calls g s _ _ _ 93 _ _ _ _ _ w0 W1 HG.out HI1.out HL1.out.bel (dis_no s a ((deep + 1 : Nat) : Int) (shutB false) hx)⟩
  clear hx
  go_wp2_with (go_at_call 79; go_loud (with_reducible refine HIS.out.mono ?_); rintro e w3 ⟨rfl, hi, hb, hk⟩; have HI3 := Aside0.mk hi; have HL3 := Aside0.mk (HL1.out.step hgw hb hk); clear hi hb hk)
  go_loopg [] m (fun gk wr => gk ≤ m ∧ Aside0 (QInv w0 w g s deep false R gk wr))
  case atStart => exact ⟨Nat.le_refl _, ⟨_, _, _, HL3.out, rfl, rfl, rfl, a, ha, HI3.out, HRf.out, hm, Nat.zero_le _, Nat.zero_le _⟩⟩
  case round =>
   clear HRA HI1 HL1 HIS HI3 HL3 HRf
   obtain ⟨hgm, HLV⟩ := hrel
   obtain ⟨x, v3, v4, hl, h0, h1, h2, a1, ha1, hi, hRm, hfu, hn3, hn4⟩ := HLV.out
   have HLR := Aside0.mk hl
   have HX := Aside0.mk (And.intro h0 (And.intro h1 h2))
   clear hl h0 h1 h2 HLV
   have HI := Aside0.mk hi
   have HRm := Aside0.mk hRm
   have q3 : wr.cell? ⟨g, 3, none⟩ = some (.int .i64 0) := (blk_cell hi.1 3).trans rfl
   obtain ⟨n, hn⟩ : ∃ n, gk = n + 2 := ⟨gk - 2, by omega⟩
   have HNG := Aside0.mk hn
   have hng : n + 2 ≤ gk := by omega
   have hgn : gk ≤ n + 2 := by omega
   obtain ⟨A3, c3, rfl⟩ := Kd.R_slice HLR.out.dl.r3
   obtain ⟨A4, c4, rfl⟩ := Kd.R_slice HLR.out.dl.r4
   clear hi hRm
   have HRc := Aside0.mk (show R = tailR n s deep false x (pieceS n ((B s).drop a1) a1 (deep + 1)) by
    rw [HRm.out, HNG.out, membersS, if_neg (by decide)]
    exact tailS_eq n s a1 deep false x)
   have HTI := Aside0.mk (tail_of s n a1 deep false x ha1 hs (by omega) hn3 hn4)
   have HLd := Aside0.mk (HLR.out.below (below_drew (Below.refl _ _)))
   have HPC := Aside0.mk (IH.out n (by omega) a1 (deep + 1) ha1 (by omega) (by omega) g w0 wr.drew HG.out HI.out.drew HLd.out.bel)
   obtain ⟨R1, hR1⟩ : ∃ R1 : Res DT, R1 = pieceS n ((B s).drop a1) a1 (deep + 1) := ⟨_, rfl⟩
   rw [← hR1] at HRc HTI HPC
   clear hn hR1 HRm
   have y4 := HLR.out.cell.2.2.2.2
   have HLc := Aside0.mk HLR.out
   go_upto_region 10 with fail
   refine start_ (n := 8) (S := fun w' => w'.cell? ⟨w.heap.size + 1, 4, none⟩ = some (.slice A4 x.f4.length c4)) (ds := [7]) #[false, false, false, false, false, false, false, false] (by kernel_rfl) rfl rfl (cell_drew y4) (fun hHeld => ?_)
   refine pure_ (i := 0) (N := some 30) (v := ?_) (a' := ?_) #[true, false, false, false, false, false, false, false] rfl rfl (by kernel_rfl) (fun _ _ _ h => h) (Or.inl ⟨by rfl, ?_⟩) ?_ ?_
   rotate_left
   ·intro w'
    go_simp
    with_reducible rfl
   rotate_left
   ·simp only [Act.put, List.setIfInBounds_toArray, List.set_cons_zero, List.set_cons_succ, i64_w, i32_w]
    rfl
   refine pure_ (i := 2) (N := some 32) (v := ?_) (a' := ?_) #[true, false, true, false, false, false, false, false] rfl rfl (by kernel_rfl) (fun _ _ _ h => h) (Or.inl ⟨by rfl, ?_⟩) ?_ ?_
   rotate_left
   ·intro w'
    go_simp
    with_reducible rfl
   rotate_left
   ·simp only [Act.put, List.setIfInBounds_toArray, List.set_cons_zero, List.set_cons_succ, i64_w, i32_w]
    rfl
   refine take_ (i := 1) (N := some 31) (v := ?_) (a' := ?_) #[true, true, true, false, false, false, false, false] rfl rfl (by kernel_rfl) (fun _ _ _ h => h) (Or.inl ⟨by rfl, ?_⟩) hHeld ?_ ?_
   rotate_left
   ·intro w' s0
    go_split_ands
    go_simp
    with_reducible rfl
   rotate_left
   ·simp only [Act.put, List.setIfInBounds_toArray, List.set_cons_zero, List.set_cons_succ, i64_w, i32_w]
    rfl
   refine one_ (i := 3) (N := some 33) #[true, true, true, true, false, false, false, false] rfl rfl (by kernel_rfl) (by decide) (fun K hK => ?_)
   refine goes_ Tryz.func29 (by kernel_rfl) rfl #[.pointer (some ⟨g, 0, none⟩)] (by rfl) rfl rfl (by (try simp only [List.map_toArray, List.map_cons, List.map_nil]); first | done | rfl) ?_
   refine HPC.out.mono ?_
   rintro e w' ⟨hb5, hk5, d, u3, u4, rfl, hm5, hs5⟩
   have HL5 := Aside0.mk (HLd.out.step hgw hb5 hk5)
   have HS5 := Aside0.mk hs5
   have HM5 := Aside0.mk hm5
   have y5 := HL5.out.cell.2.2.2.2
   clear hb5 hk5 hm5 hs5
   refine ⟨_, rfl, ?_⟩
   refine hK.out _ _ y5 (fun hHeld => ?_)
   clear hK K
   refine norm_ (a' := ?_) ?_ ?_
   rotate_left
   ·show Act.put _ (some 33) _ = _
    simp only [Act.put, List.setIfInBounds_toArray, List.set_cons_zero, List.set_cons_succ, i64_w, i32_w]
    rfl
   refine one_ (i := 4) (N := some 34) #[true, true, true, true, true, false, false, false] rfl rfl (by kernel_rfl) (by decide) (fun K hK => ?_)
   refine value_ (w1 := World.alloc w' (.cells #[.int .i64 d.f0, .int .i64 d.f1, .string d.f2, u3, u4] 25 (0, 0))) (v := .slice (some ⟨w'.heap.size, 0, none⟩) 1 1) (by rfl) rfl (by go_simp) ?_
   refine hK.out _ _ (pw_cell_below (below_alloc (Below.refl _ _) _) y5) (fun hHeld => ?_)
   clear hK K
   refine norm_ (a' := ?_) ?_ ?_
   rotate_left
   ·show Act.put _ (some 34) _ = _
    simp only [Act.put, List.setIfInBounds_toArray, List.set_cons_zero, List.set_cons_succ, i64_w, i32_w]
    rfl
   refine one_ (i := 5) (N := some 35) #[true, true, true, true, true, true, false, false] rfl rfl (by kernel_rfl) (by decide) (fun K hK => ?_)
   refine Kd.R_append_step (w0 := w') (W := w') k25 (w.heap.size + 1 + 1) (by rfl) (.tmp 31) (.tmp 34) 23 25 (.agg zCells) 80 rfl Tryz.underlying23 info_d rfl (by decide) (by decide) (.slice A4 x.f4.length c4) x.f4 d (dCells d u3 u4) (fun k => w.heap.size + 1 < k ∧ some k ≠ (Value.slice A3 x.f3.length c3).ownBlock) (fun k => wr.heap.size ≤ k) rfl rfl (made_low HM5.out HLc.out.dl.lt) (fun k hk => ?_) (fun k hk => ?_) HL5.out.dl.r4 (Below.refl _ _) HL5.out.dl.lt ?_ ?_
   ·exact new_ok HLc.out.dl hk
   ·exact new_ok HL5.out.dl hk |>.1
   ·have := HTI.out.len; show (x.f4.length + 1) * 80 ≤ _; omega
   intro v1 wa hR1 hb1 hg1 hat1
   obtain ⟨A9, c9, rfl⟩ := Kd.R_slice hR1
   have HL9 := Aside0.mk (HL5.out.piece hww hR1 hg1)
   have HG9 := Aside0.mk hg1
   have HB9 := Aside0.mk (blk_grown HL5.out.dl.blk hg1 (fun e => absurd (HL5.out.dl.r4.1 _ e.symm).1 (by omega)))
   clear hR1 hb1 hg1 hat1
   have y9 : wa.cell? ⟨w.heap.size + 1, 4, none⟩ = some (.slice A4 x.f4.length c4) := (blk_cell HB9.out 4).trans rfl
   have z9 := blk_frozen HB9.out 4
   refine hK.out _ _ y9 (fun hHeld => ?_)
   clear hK K
   refine norm_ (a' := ?_) ?_ ?_
   rotate_left
   ·show Act.put _ (some 35) _ = _
    simp only [Act.put, List.setIfInBounds_toArray, List.set_cons_zero, List.set_cons_succ, i64_w, i32_w]
    rfl
   refine pure_ (i := 6) (N := some 36) (v := ?_) (a' := ?_) #[true, true, true, true, true, true, true, false] rfl rfl (by kernel_rfl) (fun _ _ _ h => h) (Or.inl ⟨by rfl, ?_⟩) ?_ ?_
   rotate_left
   ·intro w'
    go_simp
    with_reducible rfl
   rotate_left
   ·simp only [Act.put, List.setIfInBounds_toArray, List.set_cons_zero, List.set_cons_succ, i64_w, i32_w]
    rfl
   refine last_ (i := 7) (N := none) #[true, true, true, true, true, true, true, true] rfl rfl (by kernel_rfl) (by decide) (fun K hK => ?_)
   refine skip_ (w1 := ?_) (by rfl) rfl ?_ ?_
   rotate_left
   ·go_simp
    rfl
   refine hK.out _ _ ?_
   clear hK K
   refine done_ (by kernel_rfl) ?_
   have HP9 := Aside0.mk (fun (i1 i2 i3 : Int) (h : IsS61 w0 w' g s i1 i2 i3) => state_grownQ (W1 := wa) (v := .slice A4 x.f4.length c4) (b := w.heap.size + 1) h HG9.out (fun k hk => (HL5.out.dl.r4.1 k hk).1) (by omega) 4 (.slice A9 (x.f4 ++ [d]).length c9))
   clear HG9 HB9 HM5 y9 z9
   rw [show (x.f4 ++ [d]).length = x.f4.length + 1 by simp] at HL9 HP9
   cases R1 with
   | err p c =>
    obtain ⟨op', hi⟩ := HS5.out
    have HI9 := Aside0.mk (HP9.out _ _ _ hi)
    have HC0 := Aside0.mk (HTI.out.err p c rfl)
    have HIS : Aside0 (∀ W, IsS61 w0 W g s (p : Int) op' c → Below w0.heap.size w0 W → Calls Tryz.prog 79 #[.pointer (some ⟨g, 0, none⟩), .int .u8 44] W fun e w' => e = .returned (.bool false) ∧ IsS61 w0 w' g s (p : Int) op' c ∧ Below w0.heap.size w0 w' ∧ KeepBut W w' g none) := ⟨fun W h hb => datum_reader_is.calls g s _ _ _ 44 _ _ _ _ _ w0 W HG.out h hb (dis_er s (p : Int) op' c 44 HC0.out)⟩
    have HMU : Aside0 (∀ W, IsS61 w0 W g s (p : Int) op' c → Below w0.heap.size w0 W → Calls Tryz.prog 78 #[.pointer (some ⟨g, 0, none⟩), .int .u8 93] W fun e w' => e = .returned (.bool false) ∧ IsS61 w0 w' g s (p : Int) op' c ∧ Below w0.heap.size w0 w' ∧ KeepBut W w' g none) := ⟨fun W h hb => datum_reader_must.calls g s _ _ _ 93 _ _ _ _ _ w0 W HG.out h hb (dmust_er s (p : Int) op' c 93 HC0.out)⟩
    clear hi HP9 HS5
    go_wp2_with (first | (go_at_call 79; go_loud (with_reducible refine (HIS.out _ HI9.out HL9.out.bel).mono ?_); rintro e w6 ⟨rfl, hi, hb, hk⟩; have HI6 := Aside0.mk hi; have HL6 := Aside0.mk (HL9.out.step hgw hb hk); clear hi hb hk) | (go_at_call 78; go_loud (with_reducible refine (HMU.out _ HI6.out HL6.out.bel).mono ?_); rintro e w7 ⟨rfl, hi, hb, hk⟩; have HI7 := Aside0.mk hi; have HL7 := Aside0.mk (HL6.out.step hgw hb hk); obtain ⟨p0, p1, p2, p3, p4⟩ := HL7.out.cell; have hy := Lib.cell_of_heap HL7.out.res; have hz := Lib.frozen_of_heap HL7.out.res; clear hi hb hk))
    clear hy hz p0 p1 p2 p3 p4
    refine bodyPost_ret (results_cell_row rfl _ _ w.heap.size 25 _ (0, 0) _ rfl (set_blk (j := 4) (set_blk (j := 3) (set_blk (j := 2) (set_blk (j := 1) (set_blk (j := 0) HL7.out.res _) _) _) _) _) Tryz.underlying25 rfl (by kernel_rfl)) rfl ?_
    refine finQ (x := ⟨x.f0, x.f1, x.f2, x.f3, x.f4 ++ [d]⟩) (ok := fun k => w.heap.size + 1 < k) HL7.out.bel hww HL7.out.keep hgw (k25_mkM _ w.heap.size _ ⟨x.f0, x.f1, x.f2, x.f3, x.f4 ++ [d]⟩ (Kd.R_lower HL7.out.dl.r3 (by omega)) (Kd.R_mono (Kd.R_lower HL7.out.dl.r4 (by omega)) (fun k hk => hk.1))) (fun k hk => by omega) ?_
    rw [HRc.out]
    exact ⟨_, HI7.out⟩
   | ok d' a2 r =>
    obtain ⟨rfl, hi⟩ := HS5.out
    have HI9 := Aside0.mk (HP9.out _ _ _ hi)
    obtain ⟨ha2, hn2, h32, h42⟩ := HTI.out.ok d a2 r rfl
    clear hi HP9 HS5
    cases hx : nxt s a2 44 with
    | false =>
     have HRf := Aside0.mk (HRc.out.trans (show tailR n s deep false x (.ok d a2 r) = (if nxt s a2 (shutB false) = true then .ok ⟨kindB false, 0, em, x.f3, x.f4 ++ [d]⟩ (a2 + 1) ((B s).drop (a2 + 1)) else .err a2 2) from if_neg (by rw [hx]; decide)))
     have HIS : Aside0 (∀ W, IsS61 w0 W g s (a2 : Int) ((deep + 1 : Nat) : Int) 0 → Below w0.heap.size w0 W → Calls Tryz.prog 79 #[.pointer (some ⟨g, 0, none⟩), .int .u8 44] W fun e w' => e = .returned (.bool false) ∧ IsS61 w0 w' g s (a2 : Int) ((deep + 1 : Nat) : Int) 0 ∧ Below w0.heap.size w0 w' ∧ KeepBut W w' g none) := ⟨fun W h hb => datum_reader_is.calls g s _ _ _ 44 _ _ _ _ _ w0 W HG.out h hb (dis_no s a2 ((deep + 1 : Nat) : Int) 44 hx)⟩
     cases hy : nxt s a2 (shutB false) with
     | false =>
      have HRg := Aside0.mk (HRf.out.trans (if_neg (by rw [hy]; decide)))
      have HMU : Aside0 (∀ W, IsS61 w0 W g s (a2 : Int) ((deep + 1 : Nat) : Int) 0 → Below w0.heap.size w0 W → Calls Tryz.prog 78 #[.pointer (some ⟨g, 0, none⟩), .int .u8 93] W fun e w' => e = .returned (.bool false) ∧ IsS61 w0 w' g s (a2 : Int) ((deep + 1 : Nat) : Int) 2 ∧ Below w0.heap.size w0 w' ∧ KeepBut W w' g none) := ⟨fun W h hb => datum_reader_must.calls g s _ _ _ 93 _ _ _ _ _ w0 W HG.out h hb (dmust_no s a2 ((deep + 1 : Nat) : Int) (shutB false) hy ha2)⟩
      clear hx hy
      go_wp2_with (first | (go_at_call 79; go_loud (with_reducible refine (HIS.out _ HI9.out HL9.out.bel).mono ?_); rintro e w6 ⟨rfl, hi, hb, hk⟩; have HI6 := Aside0.mk hi; have HL6 := Aside0.mk (HL9.out.step hgw hb hk); clear hi hb hk) | (go_at_call 78; go_loud (with_reducible refine (HMU.out _ HI6.out HL6.out.bel).mono ?_); rintro e w7 ⟨rfl, hi, hb, hk⟩; have HI7 := Aside0.mk hi; have HL7 := Aside0.mk (HL6.out.step hgw hb hk); obtain ⟨p0, p1, p2, p3, p4⟩ := HL7.out.cell; have hy := Lib.cell_of_heap HL7.out.res; have hz := Lib.frozen_of_heap HL7.out.res; clear hi hb hk))
      clear hy hz p0 p1 p2 p3 p4
      refine bodyPost_ret (results_cell_row rfl _ _ w.heap.size 25 _ (0, 0) _ rfl (set_blk (j := 4) (set_blk (j := 3) (set_blk (j := 2) (set_blk (j := 1) (set_blk (j := 0) HL7.out.res _) _) _) _) _) Tryz.underlying25 rfl (by kernel_rfl)) rfl ?_
      refine finQ (x := ⟨x.f0, x.f1, x.f2, x.f3, x.f4 ++ [d]⟩) (ok := fun k => w.heap.size + 1 < k) HL7.out.bel hww HL7.out.keep hgw (k25_mkM _ w.heap.size _ ⟨x.f0, x.f1, x.f2, x.f3, x.f4 ++ [d]⟩ (Kd.R_lower HL7.out.dl.r3 (by omega)) (Kd.R_mono (Kd.R_lower HL7.out.dl.r4 (by omega)) (fun k hk => hk.1))) (fun k hk => by omega) ?_
      rw [HRg.out]
      exact ⟨_, HI7.out⟩
     | true =>
      have HRg := Aside0.mk (HRf.out.trans (if_pos hy))
      have HMU : Aside0 (∀ W, IsS61 w0 W g s (a2 : Int) ((deep + 1 : Nat) : Int) 0 → Below w0.heap.size w0 W → Calls Tryz.prog 78 #[.pointer (some ⟨g, 0, none⟩), .int .u8 93] W fun e w' => e = .returned (.bool true) ∧ IsS61 w0 w' g s ((a2 + 1 : Nat) : Int) ((deep + 1 : Nat) : Int) 0 ∧ Below w0.heap.size w0 w' ∧ KeepBut W w' g none) := ⟨fun W h hb => datum_reader_must.calls g s _ _ _ 93 _ _ _ _ _ w0 W HG.out h hb (dmust_ok s a2 ((deep + 1 : Nat) : Int) (shutB false) hy (by omega))⟩
      clear hx hy
      go_wp2_with (first | (go_at_call 79; go_loud (with_reducible refine (HIS.out _ HI9.out HL9.out.bel).mono ?_); rintro e w6 ⟨rfl, hi, hb, hk⟩; have HI6 := Aside0.mk hi; have HL6 := Aside0.mk (HL9.out.step hgw hb hk); clear hi hb hk) | (go_at_call 78; go_loud (with_reducible refine (HMU.out _ HI6.out HL6.out.bel).mono ?_); rintro e w7 ⟨rfl, hi, hb, hk⟩; have HI7 := Aside0.mk hi; have HL7 := Aside0.mk (HL6.out.step hgw hb hk); obtain ⟨p0, p1, p2, p3, p4⟩ := HL7.out.cell; have hy := Lib.cell_of_heap HL7.out.res; have hz := Lib.frozen_of_heap HL7.out.res; clear hi hb hk))
      clear hy hz p0 p1 p2 p3 p4
      refine bodyPost_ret (results_cell_row rfl _ _ w.heap.size 25 _ (0, 0) _ rfl (set_blk (j := 4) (set_blk (j := 3) (set_blk (j := 2) (set_blk (j := 1) (set_blk (j := 0) HL7.out.res _) _) _) _) _) Tryz.underlying25 rfl (by kernel_rfl)) rfl ?_
      refine finQ (x := ⟨x.f0, x.f1, x.f2, x.f3, x.f4 ++ [d]⟩) (ok := fun k => w.heap.size + 1 < k) HL7.out.bel hww HL7.out.keep hgw (k25_mkM _ w.heap.size _ ⟨x.f0, x.f1, x.f2, x.f3, x.f4 ++ [d]⟩ (Kd.R_lower HL7.out.dl.r3 (by omega)) (Kd.R_mono (Kd.R_lower HL7.out.dl.r4 (by omega)) (fun k hk => hk.1))) (fun k hk => by omega) ?_
      rw [HRg.out]
      exact ⟨by rw [HX.out.1, HX.out.2.1, HX.out.2.2], HI7.out⟩
    | true =>
     have HRt := Aside0.mk (HRc.out.trans (show tailR n s deep false x (.ok d a2 r) = membersS n ((B s).drop (a2 + 1)) (a2 + 1) (deep + 1) false x.f3 (x.f4 ++ [d]) from if_pos hx))
     have hlt : a2 < s.size := by
      rcases Nat.lt_or_ge a2 s.size with h | h
      ·exact h
      ·rw [nxt_end 44 h] at hx; cases hx
     have HIS : Aside0 (∀ W, IsS61 w0 W g s (a2 : Int) ((deep + 1 : Nat) : Int) 0 → Below w0.heap.size w0 W → Calls Tryz.prog 79 #[.pointer (some ⟨g, 0, none⟩), .int .u8 44] W fun e w' => e = .returned (.bool true) ∧ IsS61 w0 w' g s ((a2 + 1 : Nat) : Int) ((deep + 1 : Nat) : Int) 0 ∧ Below w0.heap.size w0 w' ∧ KeepBut W w' g none) := ⟨fun W h hb => datum_reader_is.calls g s _ _ _ 44 _ _ _ _ _ w0 W HG.out h hb (dis_ok s a2 ((deep + 1 : Nat) : Int) 44 hx (by omega))⟩
     clear hx
     go_wp2_with (go_at_call 79; go_loud (with_reducible refine (HIS.out _ HI9.out HL9.out.bel).mono ?_); rintro e w6 ⟨rfl, hi, hb, hk⟩; have HI6 := Aside0.mk hi; have HL6 := Aside0.mk (HL9.out.step hgw hb hk); clear hi hb hk)
     go_roundg n
     case measure => omega
     case rel => exact ⟨by omega, ⟨_, _, _, HL6.out, HX.out.1, HX.out.2.1, HX.out.2.2, a2 + 1, by omega, HI6.out, HRt.out, by omega, by show x.f3.length ≤ _; omega, by show (x.f4 ++ [d]).length ≤ _; simp; omega⟩⟩
end Go.Proofs.YtidcecpbihmloaaGreatDoorE
