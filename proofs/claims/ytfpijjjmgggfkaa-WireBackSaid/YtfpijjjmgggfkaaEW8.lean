/- The law WireReads, walked: true whatever the input. -/
import Derived.Test.YtfpijjjmgggfkaaEW6
import Derived.Deep.QuietTactic
import Derived.BigQuiet
namespace Go.Proofs.YtfpijjjmgggfkaaE
open Go Go.RowKit Go.Proofs.YtfpijjjmgggfkaaW.PrintWords Go.Proofs.YtfpijjjmgggfkaaW.PrintMore Go.Proofs.Ytfpijjjmgggfkaa.P01 Go.Proofs.Ytfpijjjmgggfkaa.L01
set_option linter.unusedVariables false
theorem arg_F {w : World} {A : Option Addr} {n : Nat} {bs : List Int} (h : Kd.C (Kd.int .u8) w A n bs) : Kd.F (Kd.int .u8) w (fun k => k < w.heap.size) A n bs :=
  fun W' hm => Kd.Heap.C (Kd.heap_int .u8) (fun k hk => hm k hk hk) h
theorem numR_len (bs : List Int) (er most : Int) : (numR bs er most).2.1.length ≤ bs.length := by
  unfold numR
  split
  · exact Nat.le_refl _
  · split
    · exact Nat.le_refl _
    · split
      · exact Nat.le_refl _
      · simp only [List.length_drop]; omega
theorem textR_len (bs : List Int) (er most : Int) : (textR bs er most).2.1.length ≤ bs.length := by
  unfold textR
  split
  · exact Nat.le_refl _
  · split
    · exact Nat.le_refl _
    · split
      · exact Nat.le_refl _
      · split
        · exact Nat.le_refl _
        · simp only [List.length_drop]; omega
theorem AtR.drewN {T p : Nat} {ok : Nat → Prop} {bs : List Int} {er : Int} {w : World} (h : AtR T p ok bs er w) (n : Nat) : AtR T p ok bs er (w.drewN n) := h.but ((But.refl (fun _ => False) w).drewN n) (fun _ h => h.elim)
theorem add_field (a : Addr) (n j : Nat) : a.add (n + (j + 1)) = ⟨(a.add n).block, (a.add n).off + (j + 1), none⟩ := by
  unfold Addr.add
  rw [if_neg (by omega)]
  by_cases h : n = 0
  · subst h; simp
  · rw [if_neg h]; simp; omega
/-- What the asked rows hold: kinds, numbers, bounds. -/
def Asks (w : World) (A : Option Addr) (n : Nat) (K N M : Nat → Int) : Prop :=
  ∀ i : Nat, i < n → ∃ a, A = some a ∧ w.cell? (a.add (i * 3)) = some (.int .i64 (K i)) ∧ w.cell? (a.add (i * 3 + 1)) = some (.int .u64 (N i)) ∧ w.cell? (a.add (i * 3 + 2)) = some (.int .i64 (M i)) ∧ -9223372036854775808 ≤ M i ∧ M i ≤ 9223372036854775807
set_option maxHeartbeats 4000000 in
set_option maxRecDepth 100000 in
theorem wireReads_c (A0 : Option Addr) (c0 : Nat) (bs : List Int) (A1 : Option Addr) (n1 c1 : Nat) (K N M : Nat → Int) (w : World) (hC : Kd.C (Kd.int .u8) w A0 bs.length bs) (hc0 : bs.length ≤ c0) (hBs : Bytes bs) (hn1 : n1 ≤ 9223372036854775807) (hcell : Asks w A1 n1 K N M) :
    Calls Try.prog 7 #[.slice A0 bs.length c0, .slice A1 n1 c1] w fun e w' => e = .returned (.bool true) ∧ Below w.heap.size w w' := by
  have HC := Aside0.mk hC
  have HBs := Aside0.mk hBs
  have HCELL := Aside0.mk hcell
  have hl0 : bs.length ≤ 9223372036854775807 := hC.2.1
  clear hC hBs hcell
  go_enter Try.func7, Try.ntmps7
  go_wp2_with fail
  · refine (same_c w).mono ?_
    rintro e w1 ⟨rfl, hb⟩
    have HB := Aside0.mk hb
    clear hb
    go_wp2_with fail
    go_ret
    exact ⟨rfl, HB.out⟩
  rotate_left
  · refine (same_c w).mono ?_
    rintro e w1 ⟨rfl, hb⟩
    have HB := Aside0.mk hb
    clear hb
    go_wp2_with fail
    go_ret
    exact ⟨rfl, HB.out⟩
  · have h2000 : (bs.length : Int) ≤ 2000 := by assumption
    refine (read_c A0 c0 bs HBs.out w HC.out (by omega)).mono ?_
    rintro e w1 ⟨⟨p, rfl, hp, hR⟩, hb⟩
    have HR := Aside0.mk hR
    have HB := Aside0.mk hb
    clear hR hb
    go_wp2_with fail
    obtain ⟨w2, hw2⟩ : ∃ w2, w2 = w1.alloc (.cells #[.slice A0 bs.length c0, .int .i64 0] 63) := ⟨_, rfl⟩
    have hx : w2.heap[w1.heap.size]? = some (.cells #[.slice A0 bs.length c0, .int .i64 0] 63 (0, 0)) := by rw [hw2]; exact heap_alloc_new _ _
    have HX := Aside0.mk (show AtR 63 w1.heap.size (fun k => k < w.heap.size) bs 0 w2 from ⟨by have := HB.out.size; omega, HBs.out, A0, c0, hx, hc0, Kd.F_below (arg_F HC.out) (by rw [hw2]; exact below_alloc HB.out _)⟩)
    have hb12 : Below w1.heap.size w1 w2 := by rw [hw2]; exact below_alloc (Below.refl _ _) _
    have HR2 := Aside0.mk (HR.out.but (But.of_below (S := fun _ => False) hb12) (fun _ h => h.elim))
    have HB2 := Aside0.mk (show Below w.heap.size w w2 by rw [hw2]; exact below_alloc HB.out _)
    have hpx : p < w1.heap.size := blk_lt' HR.out.2.2.choose_spec.choose_spec.1
    obtain ⟨px, hpx2⟩ : ∃ px, px = w1.heap.size := ⟨_, rfl⟩
    rw [← hw2, ← hpx2]
    rw [← hpx2] at HX hpx
    clear hx HR HB hw2 hpx2 hb12
    go_loopw [32] (fun i wr => ∃ (k : Nat) (bs' : List Int) (er : Int), k ≤ n1 ∧ i = .int .i64 k ∧ AtR 83 p (fun k => w.heap.size ≤ k ∧ k < p) bs' er wr ∧ AtR 63 px (fun k => k < w.heap.size) bs' er wr ∧ bs'.length ≤ bs.length ∧ Below w.heap.size w wr) (fun i _ => n1 - (intOf i).toNat)
    case atStart => exact ⟨0, bs, 0, Nat.zero_le _, rfl, HR2.out, HX.out, Nat.le_refl _, HB2.out⟩
    case round =>
      obtain ⟨k, bs', er, hk, rfl, hr, hx, hlen, hb⟩ := hrel
      clear HX HR2 HB2
      have HR := Aside0.mk hr
      have HX := Aside0.mk hx
      have HB := Aside0.mk hb
      have HL := Aside0.mk hlen
      clear hr hx hb hlen
      by_cases hlt : k < n1
      · obtain ⟨a1, rfl, k0, k1, k2, m0, m1⟩ := HCELL.out k hlt
        rw [add_field] at k1 k2
        have e0 := pw_cell_below HB.out k0
        have e1 := pw_cell_below HB.out k1
        have e2 := pw_cell_below HB.out k2
        have K1 := Aside0.mk k1
        have K2 := Aside0.mk k2
        clear k0 k1 k2
        go_wp2_with fail
        · refine (r_num p _ bs' er (N k) wr HR.out).mono ?_
          rintro e wa ⟨rfl, hr, hb⟩
          have HXa := Aside0.mk (HX.out.but hb (fun j e => by subst e; omega))
          have HBa := Aside0.mk (HB.out.trans (hb.toBelow HB.out.size (fun j e => by omega)))
          have HRa := Aside0.mk hr
          have e1a := pw_cell_below HBa.out K1.out
          clear hr hb
          go_wp2_with fail
          refine (x_num px _ bs' er (N k) wa HXa.out).mono ?_
          rintro e wb ⟨rfl, hx, hb⟩
          have HRb := Aside0.mk (HRa.out.but hb (fun j e => by subst e; omega))
          have HBb := Aside0.mk (HBa.out.trans (hb.toBelow HBa.out.size (fun j e => by omega)))
          have HXb := Aside0.mk hx
          have HLb := Aside0.mk (Nat.le_trans (numR_len bs' er (N k)) HL.out)
          clear hx hb
          generalize numR bs' er (N k) = z at HRb HXb HLb ⊢
          obtain ⟨⟨z1, z2⟩, bs2, er2⟩ := z
          simp only at HRb HXb HLb ⊢
          go_wp2_with fail
          obtain ⟨-, -, Aq, cq, hq, -, -⟩ := HXb.out
          have eq0 : wb.cell? ⟨px, 0, none⟩ = some (.slice Aq bs2.length cq) := by rw [Lib.cell_of_heap hq]; rfl
          clear hq
          go_quiet (first
            | (go_at_call 28; refine Calls.quiet_of_same (r_end p _ bs2 er2 _ (HRb.out.drewN _)))
            | (go_at_call 33; refine Calls.quiet_of_same (x_end px _ bs2 er2 _ (HXb.out.drewN _)))
            | (go_at_call 27; refine Calls.quiet_of_same (r_left p _ bs2 er2 _ (HRb.out.drewN _))))
          go_wp2_with fail
          go_roundw
          case rel => exact ⟨k + 1, bs2, er2, by omega, by go_num, HRb.out.drewN _, HXb.out.drewN _, HLb.out, pw_below_drewN HBb.out _⟩
          case measure => simp [intOf]; omega
        · refine (r_text p _ bs' er (M k) m0 m1 (by have := HL.out; omega) wr HR.out).mono ?_
          rintro e wa ⟨rfl, hr, hb⟩
          have HXa := Aside0.mk (HX.out.but hb (fun j e => by subst e; omega))
          have HBa := Aside0.mk (HB.out.trans (hb.toBelow HB.out.size (fun j e => by omega)))
          have HRa := Aside0.mk hr
          have e2a := pw_cell_below HBa.out K2.out
          clear hr hb
          go_wp2_with fail
          refine (x_text px _ bs' er (M k) m0 m1 (by have := HL.out; omega) wa HXa.out).mono ?_
          rintro e wb ⟨rfl, hx, hb⟩
          have HRb := Aside0.mk (HRa.out.but hb (fun j e => by subst e; omega))
          have HBb := Aside0.mk (HBa.out.trans (hb.toBelow HBa.out.size (fun j e => by omega)))
          have HXb := Aside0.mk hx
          have HLb := Aside0.mk (Nat.le_trans (textR_len bs' er (M k)) HL.out)
          clear hx hb
          generalize textR bs' er (M k) = z at HRb HXb HLb ⊢
          obtain ⟨⟨z1, z2⟩, bs2, er2⟩ := z
          simp only at HRb HXb HLb ⊢
          go_wp2_with fail
          obtain ⟨-, -, Aq, cq, hq, -, -⟩ := HXb.out
          have eq0 : wb.cell? ⟨px, 0, none⟩ = some (.slice Aq bs2.length cq) := by rw [Lib.cell_of_heap hq]; rfl
          clear hq
          go_quiet (first
            | (go_at_call 28; refine Calls.quiet_of_same (r_end p _ bs2 er2 _ (HRb.out.drewN _)))
            | (go_at_call 33; refine Calls.quiet_of_same (x_end px _ bs2 er2 _ (HXb.out.drewN _)))
            | (go_at_call 27; refine Calls.quiet_of_same (r_left p _ bs2 er2 _ (HRb.out.drewN _))))
          go_wp2_with fail
          go_roundw
          case rel => exact ⟨k + 1, bs2, er2, by omega, by go_num, HRb.out.drewN _, HXb.out.drewN _, HLb.out, pw_below_drewN HBb.out _⟩
          case measure => simp [intOf]; omega
        · have HRb := HR
          have HXb := HX
          have HLb := HL
          have HBb := HB
          obtain ⟨wb, hwb⟩ : ∃ wb, wb = wr := ⟨_, rfl⟩
          obtain ⟨bs2, hbs2⟩ : ∃ b, b = bs' := ⟨_, rfl⟩
          obtain ⟨er2, her2⟩ : ∃ e, e = er := ⟨_, rfl⟩
          rw [← hwb, ← hbs2, ← her2] at HRb HXb
          rw [← hbs2] at HLb
          rw [← hwb] at HBb
          rw [← hwb]
          clear hwb hbs2 her2
          obtain ⟨-, -, Aq, cq, hq, -, -⟩ := HXb.out
          have eq0 : wb.cell? ⟨px, 0, none⟩ = some (.slice Aq bs2.length cq) := by rw [Lib.cell_of_heap hq]; rfl
          clear hq
          go_quiet (first
            | (go_at_call 28; refine Calls.quiet_of_same (r_end p _ bs2 er2 _ (HRb.out.drewN _)))
            | (go_at_call 33; refine Calls.quiet_of_same (x_end px _ bs2 er2 _ (HXb.out.drewN _)))
            | (go_at_call 27; refine Calls.quiet_of_same (r_left p _ bs2 er2 _ (HRb.out.drewN _))))
          go_wp2_with fail
          go_roundw
          case rel => exact ⟨k + 1, bs2, er2, by omega, by go_num, HRb.out.drewN _, HXb.out.drewN _, HLb.out, pw_below_drewN HBb.out _⟩
          case measure => simp [intOf]; omega
      · have hge : k = n1 := by omega
        subst hge
        go_wp2_with fail
        refine (same_c wr).mono ?_
        rintro e w3 ⟨rfl, hb⟩
        have HB3 := Aside0.mk (below_then HB.out HB.out.size hb)
        clear hb
        go_wp2_with fail
        go_ret
        exact ⟨rfl, HB3.out⟩
end Go.Proofs.YtfpijjjmgggfkaaE
