/- Contracts of our own: escape.form and its closure. -/
import Derived.Test.YtpanmmpkdbhofaaDoorE1
namespace Go.Proofs.YtpanmmpkdbhofaaDoorE
open Go Go.RowKit Go.Proofs.YtpanmmpkdbhofaaDoorW.PrintWords Go.Proofs.YtpanmmpkdbhofaaDoorX
set_option linter.unusedVariables false
/-- What a byte is written as; empty: as it is. -/
def formL (n : Nat) : List UInt8 := if n = 38 then [38, 97, 109, 112, 59] else if n = 60 then [38, 108, 116, 59] else if n = 62 then [38, 103, 116, 59] else if n = 34 then [38, 113, 117, 111, 116, 59] else if n = 127 ∨ n < 32 then [38, 35] ++ Lib.itoa n ++ [59] else []
theorem e_dd_len : ∀ (k m : Nat), m < 10 ^ (k + 1) → (Lib.decDigits m).length ≤ k + 1
  | 0, m, h => by rw [Lib.decDigits, dif_pos (by simpa using h)]; simp
  | k + 1, m, h => by
    by_cases h1 : m < 10
    · rw [Lib.decDigits, dif_pos h1]; simp
    · have h2 : 10 ^ (k + 1 + 1) = 10 * 10 ^ (k + 1) := by rw [Nat.pow_succ, Nat.mul_comm]
      have := e_dd_len k (m / 10) (by omega)
      rw [Lib.decDigits, dif_neg h1, List.length_append, List.length_singleton]; omega
theorem e_itoa_len {n : Nat} (h : n ≤ 255) : (Lib.itoa n).length ≤ 3 := by
  have := e_dd_len 2 n (by omega)
  unfold Lib.itoa
  rw [if_neg (by omega), Int.toNat_natCast]; omega
theorem formL_len (n : Nat) : (formL n).length ≤ 6 := by
  unfold formL
  repeat' split
  all_goals first | simp | skip
  have := e_itoa_len (n := n) (by omega)
  omega
def escape_form.f (a0 : Int) : Option ByteArray := if 0 ≤ a0 ∧ a0 ≤ 255 then some ⟨(formL a0.toNat).toArray⟩ else none
theorem form_number (n : Nat) (hn : n ≤ 255) (p : Addr) (w : World) (hgl : GL w) (hp : w.cell? p = some (.int .u8 n)) :
    Calls Tryd.prog 74 #[.pointer (some p)] w fun e w' => e = .returned (.string ⟨([38, 35] ++ Lib.itoa n ++ [59]).toArray⟩) ∧ Below w.heap.size w w' := by
  have HGL := Aside0.mk hgl
  have hlen := e_itoa_len hn
  have itoa : ∀ W, GL W → Calls Tryd.prog 53 #[.int .i64 n] W fun e w' => e = .returned (.string ⟨(Lib.itoa n).toArray⟩) ∧ Below W.heap.size W w' := fun W hW =>
    strconv_Itoa.calls n _ W hW (by unfold strconv_Itoa.f; rw [if_pos (by omega)])
  clear hgl
  go_enter Tryd.func74, Tryd.ntmps74
  go_wp2_with fail
  refine (itoa _ HGL.out).mono ?_
  rintro e w1 ⟨rfl, hb⟩
  have HB := Aside0.mk hb; clear hb
  go_wp2_with fail
  go_ret
  exact ⟨by congr 2, HB.out⟩
theorem escape_form.calls (a0 : Int) (r : ByteArray) (w : World) (hgl : GL w) (h : escape_form.f a0 = some r) :
    Calls Tryd.prog 58 #[.int .u8 a0] w fun e w' => e = .returned (.string r) ∧ Below w.heap.size w w' := by
  unfold escape_form.f at h
  by_cases hr : 0 ≤ a0 ∧ a0 ≤ 255
  rotate_left
  · rw [if_neg hr] at h; cases h
  rw [if_pos hr] at h
  obtain ⟨n, rfl⟩ := Int.eq_ofNat_of_zero_le hr.1
  have hn : n ≤ 255 := by omega
  rw [Int.toNat_natCast] at h
  injection h with h
  have HGL := Aside0.mk hgl
  clear hr hgl
  have hmf : ∀ (fn : Fn) (first cap : Array Value) (w : World), (Instr.makeFunc fn first cap).run Tryd.prog w = .ok (.func fn first cap) w := fun _ _ _ _ => rfl
  have key : ∀ k : Nat, k < 256 → n ≠ k → ((n : Int) == (k : Int)) = false := by
    intro k hk hne
    rw [beq_eq_false_iff_ne]; omega
  unfold formL at h
  have BA : ∀ x : Value, Below w.heap.size w (w.alloc (.cells #[x] 5)) := fun x => (Below.refl _ _).alloc (Nat.le_refl _) _
  by_cases h38 : n = 38
  · subst h38
    rw [if_pos rfl] at h
    subst h
    go_enter Tryd.func58, Tryd.ntmps58
    go_wp2_with fail
    go_ret
    exact ⟨rfl, BA _⟩
  rw [if_neg h38] at h
  by_cases h60 : n = 60
  · subst h60
    rw [if_pos rfl] at h
    subst h
    go_enter Tryd.func58, Tryd.ntmps58
    go_wp2_with fail
    go_ret
    exact ⟨rfl, BA _⟩
  rw [if_neg h60] at h
  by_cases h62 : n = 62
  · subst h62
    rw [if_pos rfl] at h
    subst h
    go_enter Tryd.func58, Tryd.ntmps58
    go_wp2_with fail
    go_ret
    exact ⟨rfl, BA _⟩
  rw [if_neg h62] at h
  by_cases h34 : n = 34
  · subst h34
    rw [if_pos rfl] at h
    subst h
    go_enter Tryd.func58, Tryd.ntmps58
    go_wp2_with fail
    go_ret
    exact ⟨rfl, BA _⟩
  rw [if_neg h34] at h
  have k38 := key 38 (by omega) h38
  have k60 := key 60 (by omega) h60
  have k62 := key 62 (by omega) h62
  have k34 := key 34 (by omega) h34
  by_cases h127 : n = 127
  · subst h127
    rw [if_pos (.inl rfl)] at h
    subst h
    clear k38 k60 k62 k34 key
    go_enter Tryd.func58, Tryd.ntmps58
    go_wp2_with fail
    refine (form_number 127 (by omega) _ _ (HGL.out.below (BA _)) (by rw [World.cell?_alloc_new]; rfl)).mono ?_
    rintro e w1 ⟨rfl, hb⟩
    have HB := Aside0.mk (below_step (BA _) hb); clear hb
    go_wp2_with fail
    go_ret
    exact ⟨rfl, HB.out⟩
  have k127 := key 127 (by omega) h127
  by_cases h32 : n < 32
  · rw [if_pos (.inr h32)] at h
    subst h
    have k32 : (n : Int) < 32 := by omega
    have hnA := Aside0.mk hn
    clear h38 h60 h62 h34 h127 h32 key hn
    go_enter Tryd.func58, Tryd.ntmps58
    go_wp2_with fail
    refine (form_number n hnA.out _ _ (HGL.out.below (BA _)) (by rw [World.cell?_alloc_new]; rfl)).mono ?_
    rintro e w1 ⟨rfl, hb⟩
    have HB := Aside0.mk (below_step (BA _) hb); clear hb
    go_wp2_with fail
    go_ret
    exact ⟨rfl, HB.out⟩
  · rw [if_neg (by omega)] at h
    subst h
    have k32 : ¬ (n : Int) < 32 := by omega
    clear h38 h60 h62 h34 h127 h32 key hn
    go_enter Tryd.func58, Tryd.ntmps58
    go_wp2_with fail
    go_ret
    exact ⟨rfl, BA _⟩
end Go.Proofs.YtpanmmpkdbhofaaDoorE
