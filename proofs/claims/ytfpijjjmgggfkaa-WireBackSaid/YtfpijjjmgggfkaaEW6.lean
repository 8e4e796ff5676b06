/- wire: one number, one text; the law's 'same'. -/
import Derived.Test.YtfpijjjmgggfkaaEW5
namespace Go.Proofs.YtfpijjjmgggfkaaE
open Go Go.RowKit Go.Proofs.YtfpijjjmgggfkaaW.PrintWords Go.Proofs.YtfpijjjmgggfkaaW.PrintMore Go.Proofs.Ytfpijjjmgggfkaa.P01 Go.Proofs.Ytfpijjjmgggfkaa.L01
set_option linter.unusedVariables false
theorem w_num1 (B p g : Nat) (v : Value) (bs : List Int) (n : Int) (w : World) (hBw : B ≤ w.heap.size) (h : AtW B p g v bs w) (h0 : 0 ≤ n) (h1 : n < 18446744073709551616) (hlen : bs.length + 10 ≤ 140737488355328) :
    Calls Try.prog 22 #[.pointer (some ⟨p, 0, none⟩), .slice (some ⟨w.heap.size, 0, none⟩) 1 1] (w.alloc (.cells #[.int .u64 n] 24)) fun e w' => e = .returned (.tuple #[]) ∧ StepW B p g v (bs ++ enc n.toNat) w w' := by
  have hb : Below w.heap.size w (w.alloc (.cells #[.int .u64 n] 24)) := below_alloc (Below.refl _ _) _
  have hN : Nums [n] := by
    intro x hx
    simp at hx
    subst hx
    exact ⟨h0, h1⟩
  have he : (encs [n]).length ≤ 10 := encs_len hN
  refine (w_num B p g v bs [n] (some ⟨w.heap.size, 0, none⟩) 1 _ (Nat.le_trans hBw hb.size) (h.below hb) (box_C ?_) (Nat.le_refl _) hN (by show 1 ≤ _; omega) (by omega)).mono ?_
  · rw [Lib.cell_of_heap (heap_alloc_new w _)]; rfl
  · rintro e w' ⟨rfl, v', hW, hB, hh⟩
    rw [encs_one] at hW
    exact ⟨rfl, v', hW, ((But.refl _ w).below hb).then_ hB, hat_up hh hb.size⟩
theorem box_F {W : World} {b T : Nat} {s : ByteArray} {fz : Nat × Nat} {ok : Nat → Prop} (h : W.heap[b]? = some (.cells #[.string s] T fz)) (hb : ok b) : Kd.F Kd.string W ok (some ⟨b, 0, none⟩) [s].length [s] := by
  intro W' hW'
  have h' : W'.heap[b]? = some (.cells #[.string s] T fz) := (hW' b hb (blk_lt' h)).trans h
  refine ⟨rfl, by show 1 ≤ _; omega, fun _ => ⟨_, rfl, ?_⟩⟩
  intro j x hx
  match j, hx with
  | 0, hx =>
    simp at hx
    subst hx
    refine ⟨[.string s], rfl, rfl, ?_⟩
    intro i u hu
    match i, hu with
    | 0, hu =>
      simp at hu
      subst hu
      show W'.cell? ((⟨b, 0, none⟩ : Addr).add (0 * 1 + 0)) = _
      rw [add_plain, Lib.cell_of_heap h']
      rfl
theorem w_text1 (B p g : Nat) (v : Value) (bs : List Int) (s : ByteArray) (w : World) (hBw : B ≤ w.heap.size) (h : AtW B p g v bs w) (hlen : bs.length + (encT s).length ≤ 140737488355328) :
    Calls Try.prog 20 #[.pointer (some ⟨p, 0, none⟩), .slice (some ⟨w.heap.size, 0, none⟩) 1 1] (w.alloc (.cells #[.string s] 9)) fun e w' => e = .returned (.tuple #[]) ∧ StepW B p g v (bs ++ encT s) w w' := by
  have hb : Below w.heap.size w (w.alloc (.cells #[.string s] 9)) := below_alloc (Below.refl _ _) _
  have h1 : encTs [s] = encT s := by simp [encTs]
  refine (w_text B p g v bs [s] ⟨w.heap.size, 0, none⟩ 1 _ (Nat.le_trans hBw hb.size) (h.below hb) (box_F (heap_alloc_new w _) ⟨?_, ?_⟩) (Nat.le_refl _) (by show 1 ≤ _; omega) (by rw [h1]; exact hlen)).mono ?_
  · have := blk_lt' h.2.2.2.1; omega
  · intro e
    have := Kd.R_lt h.2.2.2.2 _ e.symm
    omega
  · rintro e w' ⟨rfl, v', hW, hB, hh⟩
    rw [h1] at hW
    exact ⟨rfl, v', hW, ((But.refl _ w).below hb).then_ hB, hat_up hh hb.size⟩
theorem own8_C {B : Nat} {A : Option Addr} {c : Nat} {xs : List Int} {w : World} (h : own8 B (.slice A xs.length c) xs w) : Kd.C (Kd.int .u8) w A xs.length xs := (Kd.R_reads' h).2.2
theorem encT_ab : encT ⟨#[97, 98]⟩ = [2, 97, 98] := by
  unfold encT
  rw [show enc (ByteArray.size ⟨#[97, 98]⟩) = enc 2 from rfl, enc_lt (by decide)]
  rfl
theorem bytes_same : Bytes [172, 2, 2, 97, 98] := by
  intro x hx
  simp at hx
  omega
theorem numR_same : numR [172, 2, 2, 97, 98] 0 300 = ((300, 0), [2, 97, 98], 0) := by decide +kernel
theorem textR_same : textR [2, 97, 98] 0 2 = ((⟨#[97, 98]⟩, 0), [], 0) := by decide +kernel
set_option maxHeartbeats 1000000 in
theorem same_c (w : World) : Calls Try.prog 18 #[] w fun e w' => e = .returned (.bool true) ∧ Below w.heap.size w w' := by
  go_enter Try.func18, Try.ntmps18
  go_wp2_with fail
  refine (new_c w).mono ?_
  rintro e w1 ⟨⟨p, g, rfl, hW⟩, hb⟩
  have H := Aside0.mk hW
  have HB := Aside0.mk hb
  clear hW hb
  go_wp2_with fail
  refine (w_num1 w.heap.size p g _ [] 300 w1 HB.out.size H.out (by decide) (by decide) (by decide)).mono ?_
  rintro e w2 ⟨rfl, v2, hW, hb, hh⟩
  rw [show ([] : List Int) ++ enc (300 : Int).toNat = [172, 2] from enc300] at hW
  have H2 := Aside0.mk hW
  have B2 := Aside0.mk (But.toBelow hb HB.out.size (fun k hk => hk.elim (fun e => e ▸ H.out.2.1) (fun e => by simp [Value.ownBlock] at e)))
  have HH2 := Aside0.mk hh
  clear hW hb hh
  go_wp2_with fail
  refine (w_text1 w.heap.size p g _ [172, 2] ⟨#[97, 98]⟩ w2 ?_ H2.out ?_).mono ?_
  · exact Nat.le_trans HB.out.size B2.out.size
  · rw [encT_ab]; decide
  rintro e w3 ⟨rfl, v3, hW, hb, hh⟩
  rw [encT_ab] at hW
  have H3 := Aside0.mk hW
  have B3 := Aside0.mk (But.toBelow hb (Nat.le_trans HB.out.size B2.out.size) (fun k hk => hk.elim (fun e => e ▸ H.out.2.1) (fun e => (Kd.R_base H2.out.2.2.2.2 k e.symm))))
  clear hW hb hh
  go_wp2_with fail
  refine (w_bytes w.heap.size p g v3 _ w3 H3.out (by decide)).mono ?_
  rintro e w4 ⟨⟨v4, rfl, hO⟩, hb⟩
  obtain ⟨A, c, rfl, hc, -⟩ := own8_reads hO
  have H4 := Aside0.mk (H3.out.below hb)
  have O4 := Aside0.mk hO
  have B4s := Aside0.mk (below_then B3.out (Nat.le_trans HB.out.size (Nat.le_trans B2.out.size B3.out.size)) hb)
  clear hO hb
  go_wp2_with fail
  refine (read_c A c [172, 2, 2, 97, 98] bytes_same w4 (own8_C O4.out) (by decide)).mono ?_
  rintro e w5 ⟨⟨p2, rfl, hp2, hR⟩, hb⟩
  have H5 := Aside0.mk hR
  have B5 := Aside0.mk hb
  clear hR hb
  go_wp2_with fail
  refine (r_num p2 _ _ 0 300 w5 H5.out).mono ?_
  rintro e w6 ⟨rfl, hR, hb⟩
  rw [numR_same] at hR ⊢
  have H6 := Aside0.mk hR
  have B6 := Aside0.mk (B5.out.trans (hb.toBelow B5.out.size (fun k e => e ▸ hp2)))
  clear hR hb
  go_wp2_with fail
  refine (r_text p2 _ _ 0 2 (by decide) (by decide) (by decide) w6 H6.out).mono ?_
  rintro e w7 ⟨rfl, hR, hb⟩
  rw [textR_same] at hR ⊢
  have H7 := Aside0.mk hR
  have B7 := Aside0.mk (B6.out.trans (hb.toBelow B6.out.size (fun k e => e ▸ hp2)))
  clear hR hb
  have hS : ∀ W, Kd.C (Kd.int .u8) W A 5 [172, 2, 2, 97, 98] → (convert 22 9 (.slice A 5 c)).run Try.prog W = .ok (.string ⟨#[172, 2, 2, 97, 98]⟩) W := fun W h => Kd.C_string Try.underlying22 Try.underlying5 Try.underlying9 h
  have hs7 := hS w7 (Kd.C_below (own8_C O4.out) B7.out)
  clear hS
  go_wp2_with fail
  refine (r_end p2 _ _ 0 w7 H7.out).mono ?_
  rintro e w8 ⟨rfl, rfl⟩
  rw [show endR [] 0 = 0 from rfl]
  go_wp2_with fail
  refine (w_len w.heap.size p g v3 _ _ (H4.out.below B7.out)).mono ?_
  rintro e w9 ⟨rfl, rfl⟩
  go_wp2_with fail
  go_ret
  exact ⟨rfl, (HB.out.trans B2.out).trans (B4s.out.trans (B7.out.mono (Nat.le_trans HB.out.size (Nat.le_trans B2.out.size B4s.out.size))))⟩
end Go.Proofs.YtfpijjjmgggfkaaE
