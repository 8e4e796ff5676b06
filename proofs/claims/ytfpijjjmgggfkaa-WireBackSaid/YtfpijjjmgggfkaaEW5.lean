/- wire: New, Read, Bytes, and what a writer or a reader that is none tells. -/
import Derived.Test.YtfpijjjmgggfkaaEW4
namespace Go.Proofs.YtfpijjjmgggfkaaE
open Go Go.RowKit Go.Proofs.YtfpijjjmgggfkaaW.PrintWords Go.Proofs.YtfpijjjmgggfkaaW.PrintMore Go.Proofs.Ytfpijjjmgggfkaa.P01 Go.Proofs.Ytfpijjjmgggfkaa.L01
set_option linter.unusedVariables false
theorem clone_c (A : Option Addr) (c : Nat) (xs : List Int) (w : World) (hC : Kd.C (Kd.int .u8) w A xs.length xs) (hlen : xs.length ≤ 140737488355328) :
    Calls Try.prog 37 #[.slice A xs.length c] w fun e w' => (∃ v, e = .returned v ∧ own8 w.heap.size v xs w') ∧ Below w.heap.size w w' := by
  have HC := Aside0.mk hC
  clear hC
  rcases A with _ | ad
  · have h0 : xs = [] := by
      by_cases h : 0 < xs.length
      · obtain ⟨ad, h, _⟩ := HC.out.2.2 h; cases h
      · exact List.eq_nil_of_length_eq_zero (by omega)
    subst h0
    have he : ∀ w : World, (binOp .eql 22 (.slice none 0 c) (.slice none 0 0)).run Try.prog w = .ok (.bool true) w := fun _ => rfl
    go_enter Try.func37, Try.ntmps37
    go_wp2_with fail
    go_ret
    exact ⟨⟨_, rfl, Kd.R_nil _ _ _ _ _⟩, Below.refl _ _⟩
  · have he : ∀ w : World, (binOp .eql 22 (.slice (some ad) xs.length c) (.slice none 0 0)).run Try.prog w = .ok (.bool false) w := fun _ => rfl
    go_enter Try.func37, Try.ntmps37
    have hO : own8 w.heap.size (.slice (some ⟨w.heap.size, 0, none⟩) 0 0) [] (w.alloc (.cells #[] 5)) := Kd.R_of_own (enc := Value.int .u8) (h1 := fun _ => rfl) (World.ownsRow_made w #[] 0 (Nat.le_refl _) (by decide) (by decide)) (fun _ _ => trivial)
    have HO := Aside0.mk hO
    clear hO
    go_wp2_with (at_builtin; refine Kd.R_append_row (w0 := w) (Value.int .u8) (0 : Int) (h1 := fun _ => rfl) w.heap.size rfl _ _ 22 5 (.int .u8 0) 1 rfl Try.underlying22 info_byte rfl (by decide) _ [] xs (some ad) xs.length c (fun _ => True) rfl rfl (fun _ _ => trivial) HO.out (Kd.C_alloc HC.out _) (below_alloc (Below.refl _ _) _) ?_ ?_ ?_)
    · simp
    · simpa using hlen
    intro v' w' hown hbel hgr hhat
    have H1 := Aside0.mk hown
    have H2 := Aside0.mk hbel
    clear hown hbel hgr hhat
    go_wp2_with fail
    go_ret
    exact ⟨⟨_, rfl, H1.out⟩, H2.out⟩
theorem own8_reads {B : Nat} {v : Value} {xs : List Int} {w : World} (h : own8 B v xs w) : ∃ A c, v = .slice A xs.length c ∧ xs.length ≤ c ∧ Kd.C (Kd.int .u8) w A xs.length xs := Kd.R_reads h
theorem w_bytes (B p g : Nat) (v : Value) (bs : List Int) (w : World) (h : AtW B p g v bs w) (hlen : bs.length ≤ 140737488355328) :
    Calls Try.prog 24 #[.pointer (some ⟨p, 0, none⟩)] w fun e w' => (∃ v', e = .returned v' ∧ own8 w.heap.size v' bs w') ∧ Below w.heap.size w w' := by
  obtain ⟨h1, h2, hp, hg, HR⟩ := h
  obtain ⟨A, c, rfl, hc, hC⟩ := own8_reads HR
  have c0 : w.cell? ⟨p, 0, none⟩ = some (.pointer (some ⟨g, 0, none⟩)) := by rw [Lib.cell_of_heap hp]; rfl
  have d0 : w.cell? ⟨g, 0, none⟩ = some (.slice A bs.length c) := by rw [Lib.cell_of_heap hg]; rfl
  have HC := Aside0.mk hC
  clear HR hC
  go_enter Try.func24, Try.ntmps24
  go_wp2_with fail
  refine (ready_c p g w hp).mono ?_
  rintro e w1 ⟨rfl, rfl⟩
  go_wp2_with fail
  refine (clone_c A c bs _ HC.out hlen).mono ?_
  rintro e w2 ⟨⟨v', rfl, hO⟩, hb⟩
  have H1 := Aside0.mk hO
  have H2 := Aside0.mk hb
  clear hO hb
  go_wp2_with fail
  go_ret
  exact ⟨⟨_, rfl, H1.out⟩, H2.out⟩
theorem own8_F {B : Nat} {A : Option Addr} {c : Nat} {xs : List Int} {W : World} (h : own8 B (.slice A xs.length c) xs W) : Kd.F (Kd.int .u8) W (fun k => B ≤ k ∧ k < W.heap.size) A xs.length xs :=
  fun W' hm => (Kd.R_reads' (Kd.R_step (Kd.R_bound (Kd.R_tight rfl h)) (fun k hk hlt => hm k ⟨hk.2.1, hk.2.2.1⟩ hlt))).2.2
/-- A reader of bytes: its row is its own. -/
theorem read_c (A : Option Addr) (c : Nat) (xs : List Int) (hB : Bytes xs) (w : World) (hC : Kd.C (Kd.int .u8) w A xs.length xs) (hlen : xs.length ≤ 140737488355328) :
    Calls Try.prog 26 #[.slice A xs.length c] w fun e w' => (∃ p, e = .returned (.pointer (some ⟨p, 0, none⟩)) ∧ w.heap.size ≤ p ∧ AtR 83 p (fun k => w.heap.size ≤ k ∧ k < p) xs 0 w') ∧ Below w.heap.size w w' := by
  have HC := Aside0.mk hC
  clear hC
  go_enter Try.func26, Try.ntmps26
  go_wp2_with fail
  refine (clone_c A c xs _ HC.out hlen).mono ?_
  rintro e w2 ⟨⟨v', rfl, hO⟩, hb⟩
  obtain ⟨A', c', rfl, hc', hC'⟩ := own8_reads hO
  have H1 := Aside0.mk hO
  have H2 := Aside0.mk hb
  have H3 := Aside0.mk hC'
  clear hO hb hC'
  go_wp2_with fail
  go_ret
  refine ⟨⟨_, rfl, H2.out.size, fun h => Nat.lt_irrefl _ h.2, hB, A', c', heap_alloc_new _ _, hc', Kd.F_alloc ?_ _⟩, below_alloc H2.out _⟩
  exact own8_F H1.out
theorem new_c (w : World) : Calls Try.prog 19 #[] w fun e w' => (∃ p g, e = .returned (.pointer (some ⟨p, 0, none⟩)) ∧ AtW w.heap.size p g (.slice none 0 0) [] w') ∧ Below w.heap.size w w' := by
  go_enter Try.func19, Try.ntmps19
  go_wp2_with fail
  go_ret
  refine ⟨⟨_, _, rfl, Nat.le_succ _, Nat.le_refl _, ?_, ?_, Kd.R_nil _ _ _ _ _⟩, below_alloc (below_alloc (Below.refl _ _) _) _⟩
  · have := heap_alloc_new (w.alloc (.cells #[.slice none 0 0] 76)) (.cells #[.pointer (some ⟨w.heap.size, 0, none⟩)] 78)
    simpa using this
  · have := heap_alloc_new w (.cells #[.slice none 0 0] 76)
    rw [(below_alloc (Below.refl (w.alloc (.cells #[.slice none 0 0] 76)).heap.size (w.alloc (.cells #[.slice none 0 0] 76))) _).block _ (by simp)]
    exact this
theorem n_num (A : Option Addr) (n c : Nat) (w : World) : Calls Try.prog 22 #[.pointer none, .slice A n c] w fun e w' => e = .returned (.tuple #[]) ∧ w' = w := by
  go_enter Try.func22, Try.ntmps22
  go_wp2_with fail
  refine (not_ready w).mono ?_
  rintro e w1 ⟨rfl, rfl⟩
  go_wp2_with fail
  go_end0
  exact ⟨rfl, rfl⟩
theorem n_text (A : Option Addr) (n c : Nat) (w : World) : Calls Try.prog 20 #[.pointer none, .slice A n c] w fun e w' => e = .returned (.tuple #[]) ∧ w' = w := by
  go_enter Try.func20, Try.ntmps20
  go_wp2_with fail
  refine (not_ready w).mono ?_
  rintro e w1 ⟨rfl, rfl⟩
  go_wp2_with fail
  (try simp only [Exit.inBlock, Exit.then]); refine bodyPost_ret (results_none rfl _ _ _) rfl ?_
  exact ⟨rfl, rfl⟩
theorem n_len (w : World) : Calls Try.prog 25 #[.pointer none] w fun e w' => e = .returned (.int .i64 0) ∧ w' = w := by
  go_enter Try.func25, Try.ntmps25
  go_wp2_with fail
  refine (not_ready w).mono ?_
  rintro e w1 ⟨rfl, rfl⟩
  go_wp2_with fail
  go_ret
  exact ⟨rfl, rfl⟩
theorem n_bytes (w : World) : Calls Try.prog 24 #[.pointer none] w fun e w' => e = .returned (.slice none 0 0) ∧ w' = w := by
  go_enter Try.func24, Try.ntmps24
  go_wp2_with fail
  refine (not_ready w).mono ?_
  rintro e w1 ⟨rfl, rfl⟩
  go_wp2_with fail
  go_ret
  exact ⟨rfl, rfl⟩
theorem n_rnum (most : Int) (w : World) : Calls Try.prog 30 #[.pointer none, .int .u64 most] w fun e w' => e = .returned (.tuple #[.int .u64 0, .int .i64 1]) ∧ w' = w := by
  go_enter Try.func30, Try.ntmps30
  go_wp2_with fail
  go_ret2
  exact ⟨rfl, rfl⟩
theorem n_rtext (most : Int) (w : World) : Calls Try.prog 29 #[.pointer none, .int .i64 most] w fun e w' => e = .returned (.tuple #[.string ⟨#[]⟩, .int .i64 1]) ∧ w' = w := by
  go_enter Try.func29, Try.ntmps29
  go_wp2_with fail
  go_ret2
  exact ⟨rfl, rfl⟩
theorem n_end (w : World) : Calls Try.prog 28 #[.pointer none] w fun e w' => e = .returned (.int .i64 1) ∧ w' = w := by
  go_enter Try.func28, Try.ntmps28
  go_wp2_with fail
  go_ret
  exact ⟨rfl, rfl⟩
theorem n_left (w : World) : Calls Try.prog 27 #[.pointer none] w fun e w' => e = .returned (.int .i64 0) ∧ w' = w := by
  go_enter Try.func27, Try.ntmps27
  go_wp2_with fail
  go_ret
  exact ⟨rfl, rfl⟩
end Go.Proofs.YtfpijjjmgggfkaaE
