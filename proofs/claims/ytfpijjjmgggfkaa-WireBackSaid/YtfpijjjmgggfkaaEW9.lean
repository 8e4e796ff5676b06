/- The law WireReads over what its row opens. -/
import Derived.Test.YtfpijjjmgggfkaaEW8
import Derived.Test.YtfpijjjmgggfkaaEO
namespace Go.Proofs.YtfpijjjmgggfkaaE
open Go Go.RowKit Go.ChangeShapes Go.WideShapes Go.Proofs.YtfpijjjmgggfkaaW.PrintWords Go.Proofs.YtfpijjjmgggfkaaW.PrintMore Go.Proofs.Ytfpijjjmgggfkaa.P01 Go.Proofs.Ytfpijjjmgggfkaa.L01
set_option linter.unusedVariables false
theorem row_C {k : IntKind} {W : World} {x : Addr} {l c : Nat} {zs : List Int} (hl : l ≤ c) (hm : c ≤ maxLen) (hz : zs.length = c) (hcell : ∀ i, i < zs.length → W.cell? (x.add i) = some (.int k (zs.getD i 0))) (hwz : ∀ n ∈ zs, (Lit.int k n).wf = true) :
    ∃ zs', zs'.length = l ∧ l ≤ c ∧ Kd.C (Kd.int k) W (some x) l zs' ∧ ∀ n ∈ zs', (Lit.int k n).wf = true := by
  have h1 : (zs.take l).length = l := by rw [List.length_take]; omega
  refine ⟨zs.take l, h1, hl, ⟨h1, by unfold maxLen at hm; omega, fun _ => ⟨x, rfl, ?_⟩⟩, fun n hn => hwz n (List.mem_of_mem_take hn)⟩
  intro j p hj
  have hlt := (List.getElem?_eq_some_iff.1 hj).1
  refine ⟨[.int k p], rfl, rfl, ?_⟩
  intro i u hu
  match i, hu with
  | 0, hu =>
    simp at hu
    subst hu
    show W.cell? (x.add (j * 1 + 0)) = _
    rw [Nat.mul_one, Nat.add_zero, hcell j (by omega)]
    rw [List.getElem?_take_of_lt (by omega)] at hj
    rw [List.getD_eq_getElem?_getD, hj]
    rfl
theorem wf_i64 {x : Int} (h : (Lit.int .i64 x).wf = true) : -9223372036854775808 ≤ x ∧ x ≤ 9223372036854775807 := by
  simp [Lit.wf, IntKind.min, IntKind.max, IntKind.bits, IntKind.signed] at h
  omega
def asksT (W : World) (A : Option Addr) (n c : Nat) : Prop := ∃ b : (Nat → Int) × (Nat → Int) × (Nat → Int), n ≤ 9223372036854775807 ∧ Asks W A n b.1 b.2.1 b.2.2
open Classical in
theorem asks {H : Type} {enc : TypeId × Value → H} {W : World} {base : Nat} {spare : Nat → Bool} {held : Bool} {fuel : Nat} {x : DataW H × List MemPlace} {A : Option Addr} {n c : Nat} (hf : DataW.trod enc Try.prog W base spare held fuel 60 (Value.slice A n c).cells.toList = some x) : asksT W A n c := by
  rcases open_rows Try.underlying60 Try.underlying65 (by kernel_rfl) (by kernel_rfl) hf with hcs | ⟨a, len, cap, hcs, hl, hm, hall⟩
  · simp [Value.cells] at hcs
    obtain ⟨rfl, rfl, rfl⟩ := hcs
    exact ⟨(fun _ => 0, fun _ => 0, fun _ => 0), by omega, fun i hi => absurd hi (by omega)⟩
  · simp [Value.cells] at hcs
    obtain ⟨rfl, rfl, rfl⟩ := hcs
    have h0 : ∀ i, i < n → ∃ k, W.cell? (a.add (i * 3)) = some (.int .i64 k) := by
      intro i hi
      obtain ⟨v, y, m, hc, ht⟩ := hall i hi 0 _ rfl
      obtain ⟨k, hk, -, hw⟩ := DataW.trod_int Try.underlying3 ht
      injection hk with hk
      subst hk
      exact ⟨k, hc⟩
    have h1 : ∀ i, i < n → ∃ k, W.cell? (a.add (i * 3 + 1)) = some (.int .u64 k) := by
      intro i hi
      obtain ⟨v, y, m, hc, ht⟩ := hall i hi 1 _ rfl
      obtain ⟨k, hk, -, hw⟩ := DataW.trod_int Try.underlying24 ht
      injection hk with hk
      subst hk
      exact ⟨k, hc⟩
    have h2 : ∀ i, i < n → ∃ k, W.cell? (a.add (i * 3 + 2)) = some (.int .i64 k) ∧ -9223372036854775808 ≤ k ∧ k ≤ 9223372036854775807 := by
      intro i hi
      obtain ⟨v, y, m, hc, ht⟩ := hall i hi 2 _ rfl
      obtain ⟨k, hk, -, hw⟩ := DataW.trod_int Try.underlying3 ht
      injection hk with hk
      subst hk
      exact ⟨k, hc, wf_i64 hw⟩
    refine ⟨(fun i => if h : i < n then (h0 i h).choose else 0, fun i => if h : i < n then (h1 i h).choose else 0, fun i => if h : i < n then (h2 i h).choose else 0), by unfold maxLen at hm; omega, fun i hi => ⟨a, rfl, ?_, ?_, ?_⟩⟩
    · simp only [dif_pos hi]; exact (h0 i hi).choose_spec
    · simp only [dif_pos hi]; exact (h1 i hi).choose_spec
    · simp only [dif_pos hi]; exact (h2 i hi).choose_spec
theorem wf_u8B {zs : List Int} (h : ∀ n ∈ zs, (Lit.int .u8 n).wf = true) : Bytes zs := fun x hx => wf_u8 (h x hx)
theorem wireReads_w (A0 : Option Addr) (c0 n0 : Nat) (bs : List Int) (A1 : Option Addr) (n1 c1 : Nat) (b : (Nat → Int) × (Nat → Int) × (Nat → Int)) (W : World) (hn : bs.length = n0) (hc : n0 ≤ c0) (hC : Kd.C (Kd.int .u8) W A0 n0 bs) (hwf : ∀ n ∈ bs, (Lit.int .u8 n).wf = true) (hb : n1 ≤ 9223372036854775807 ∧ Asks W A1 n1 b.1 b.2.1 b.2.2) :
    Calls Try.prog 7 #[.slice A0 n0 c0, .slice A1 n1 c1] W fun e w' => e = .returned (.bool true) ∧ Below W.heap.size W w' := by
  subst hn
  exact wireReads_c A0 c0 bs A1 n1 c1 _ _ _ W hC hc (wf_u8B hwf) hb.1 hb.2
end Go.Proofs.YtfpijjjmgggfkaaE
