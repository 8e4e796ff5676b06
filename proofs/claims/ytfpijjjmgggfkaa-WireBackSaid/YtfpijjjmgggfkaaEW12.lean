/- The law WireBack over what its row opens. -/
import Derived.Test.YtfpijjjmgggfkaaEW11
import Derived.Test.YtfpijjjmgggfkaaEW9
namespace Go.Proofs.YtfpijjjmgggfkaaE
open Go Go.RowKit Go.ChangeShapes Go.WideShapes Go.Proofs.YtfpijjjmgggfkaaW.PrintWords Go.Proofs.YtfpijjjmgggfkaaW.PrintMore Go.Proofs.Ytfpijjjmgggfkaa.P01 Go.Proofs.Ytfpijjjmgggfkaa.L01
set_option linter.unusedVariables false
def itemsT (W : World) (A : Option Addr) (n c : Nat) : Prop := ∃ b : (Nat → Bool) × (Nat → Int) × (Nat → ByteArray), n ≤ 9223372036854775807 ∧ Items W A n b.1 b.2.1 b.2.2
open Classical in
theorem items {H : Type} {enc : TypeId × Value → H} {W : World} {base : Nat} {spare : Nat → Bool} {held : Bool} {fuel : Nat} {x : DataW H × List MemPlace} {A : Option Addr} {n c : Nat} (hf : DataW.trod enc Try.prog W base spare held fuel 41 (Value.slice A n c).cells.toList = some x) : itemsT W A n c := by
  rcases open_rows Try.underlying41 Try.underlying45 (by kernel_rfl) (by kernel_rfl) hf with hcs | ⟨a, len, cap, hcs, hl, hm, hall⟩
  · simp [Value.cells] at hcs
    obtain ⟨rfl, rfl, rfl⟩ := hcs
    exact ⟨(fun _ => false, fun _ => 0, fun _ => ⟨#[]⟩), by omega, fun i hi => absurd hi (by omega)⟩
  · simp [Value.cells] at hcs
    obtain ⟨rfl, rfl, rfl⟩ := hcs
    have h0 : ∀ i, i < n → ∃ k, W.cell? (a.add (i * 3)) = some (.bool k) := by
      intro i hi
      obtain ⟨v, y, m, hc, ht⟩ := hall i hi 0 _ rfl
      obtain ⟨k, hk, -⟩ := DataW.trod_bool Try.underlying4 ht
      injection hk with hk
      subst hk
      exact ⟨k, hc⟩
    have h1 : ∀ i, i < n → ∃ k, W.cell? (a.add (i * 3 + 1)) = some (.int .u64 k) ∧ 0 ≤ k ∧ k < 18446744073709551616 := by
      intro i hi
      obtain ⟨v, y, m, hc, ht⟩ := hall i hi 1 _ rfl
      obtain ⟨k, hk, -, hw⟩ := DataW.trod_int Try.underlying24 ht
      injection hk with hk
      subst hk
      exact ⟨k, hc, wf_u64 hw⟩
    have h2 : ∀ i, i < n → ∃ k, W.cell? (a.add (i * 3 + 2)) = some (.string k) := by
      intro i hi
      obtain ⟨v, y, m, hc, ht⟩ := hall i hi 2 _ rfl
      obtain ⟨k, hk, -, hw⟩ := DataW.trod_string Try.underlying9 ht
      injection hk with hk
      subst hk
      exact ⟨k, hc⟩
    refine ⟨(fun i => if h : i < n then (h0 i h).choose else false, fun i => if h : i < n then (h1 i h).choose else 0, fun i => if h : i < n then (h2 i h).choose else ⟨#[]⟩), by unfold maxLen at hm; omega, fun i hi => ⟨a, rfl, ?_, ?_, ?_, ?_⟩⟩
    · simp only [dif_pos hi]; exact (h0 i hi).choose_spec
    · simp only [dif_pos hi]; exact (h1 i hi).choose_spec.1
    · simp only [dif_pos hi]; exact (h2 i hi).choose_spec
    · simp only [dif_pos hi]; exact (h1 i hi).choose_spec.2
theorem wireBack_w (A1 : Option Addr) (n1 c1 : Nat) (b : (Nat → Bool) × (Nat → Int) × (Nat → ByteArray)) (W : World) (hb : n1 ≤ 9223372036854775807 ∧ Items W A1 n1 b.1 b.2.1 b.2.2) :
    Calls Try.prog 6 #[.slice A1 n1 c1] W fun e w' => e = .returned (.bool true) ∧ Below W.heap.size W w' :=
  wireBack_c A1 n1 c1 _ _ _ W hb.1 hb.2
end Go.Proofs.YtfpijjjmgggfkaaE
