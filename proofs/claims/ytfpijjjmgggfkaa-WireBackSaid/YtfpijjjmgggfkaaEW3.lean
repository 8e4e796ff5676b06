/- wire: the writer. -/
import Derived.Test.YtfpijjjmgggfkaaEW2
import Derived.Deep.RegionWith
namespace Go.Proofs.YtfpijjjmgggfkaaE
open Go Go.RowKit Go.Proofs.YtfpijjjmgggfkaaW.PrintWords Go.Proofs.YtfpijjjmgggfkaaW.PrintMore Go.Proofs.Ytfpijjjmgggfkaa.P01 Go.Proofs.Ytfpijjjmgggfkaa.L01
set_option linter.unusedVariables false
abbrev own8 (B : Nat) (v : Value) (bs : List Int) (w : World) : Prop := Kd.R (Kd.int .u8) 5 w B (fun _ => True) v bs
/-- What was v's block is still it, or a new one. -/
def hat (w : World) (v v' : Value) : Prop := v'.ownBlock = v.ownBlock ∨ ∃ b, v'.ownBlock = some b ∧ w.heap.size ≤ b
/-- A writer at p, its gathered bytes in the slice v that lies at g. -/
def AtW (B p g : Nat) (v : Value) (bs : List Int) (w : World) : Prop :=
  B ≤ p ∧ B ≤ g ∧ w.heap[p]? = some (.cells #[.pointer (some ⟨g, 0, none⟩)] 78 (0, 0)) ∧ w.heap[g]? = some (.cells #[v] 76 (0, 0)) ∧ own8 B v bs w
theorem own8_set {B g : Nat} {v u : Value} {bs : List Int} {w : World} {cs : Array Value} {T : TypeId} (h : own8 B v bs w) (hg : w.heap[g]? = some (.cells cs T (0, 0))) (hT : 5 ≠ T) (j : Nat) : own8 B v bs (w.setCell ⟨g, j, none⟩ u) := by
  have hne : some g ≠ v.ownBlock := Kd.R_ne h hg hT
  exact Kd.R_mono (Kd.R_far (Kd.R_far1 h rfl hne) (fun k hk => hk.2) u) (fun _ _ => trivial)
/-- What is apart from what changed lives on. -/
theorem own8_but {B : Nat} {S : Nat → Prop} {v : Value} {bs : List Int} {w w' : World} (h : own8 B v bs w) (hb : But S w w') (hs : ∀ k, v.ownBlock = some k → ¬ S k) : own8 B v bs w' :=
  Kd.R_mono (Kd.R_step (Kd.R_tight rfl h) (fun k hk hlt => hb.block k hlt (hs k hk.symm))) (fun _ _ => trivial)
theorem put_c (B g : Nat) (v : Value) (bs xs : List Int) (A : Option Addr) (c : Nat) (w : World) (hB : B ≤ g) (hBw : B ≤ w.heap.size) (hg : w.heap[g]? = some (.cells #[v] 76 (0, 0))) (HR : own8 B v bs w) (hC : Kd.C (Kd.int .u8) w A xs.length xs) (hlen : bs.length + xs.length ≤ 140737488355328) :
    Calls Try.prog 36 #[.pointer (some ⟨g, 0, none⟩), .slice A xs.length c] w fun e w' => e = .returned (.tuple #[]) ∧ ∃ v', w'.heap[g]? = some (.cells #[v'] 76 (0, 0)) ∧ own8 B v' (bs ++ xs) w' ∧ But (fun k => k = g ∨ some k = v.ownBlock) w w' ∧ hat w v v' := by
  have c0 : w.cell? ⟨g, 0, none⟩ = some v := by rw [Lib.cell_of_heap hg]; rfl
  have hlt := blk_lt' hg
  have hne : some g ≠ v.ownBlock := Kd.R_ne HR hg (by decide)
  have H := Aside0.mk HR
  have HC := Aside0.mk hC
  clear HR hC
  go_enter Try.func36, Try.ntmps36
  go_wp2_with (at_builtin; refine Kd.R_append_row (w0 := w) (Value.int .u8) (0 : Int) (h1 := fun _ => rfl) B rfl _ _ 22 5 (.int .u8 0) 1 rfl Try.underlying22 info_byte rfl (by decide) v bs xs A xs.length c (fun _ => True) rfl rfl (fun _ _ => trivial) H.out HC.out (Below.refl _ _) hBw (by omega) ?_)
  intro v' w' hown hbel hgr hhat
  obtain ⟨A', c', rfl⟩ := Kd.R_slice hown
  have hl : (bs ++ xs).length = bs.length + xs.length := List.length_append
  rw [hl] at hown hhat
  have hg' : w'.heap[g]? = some (.cells #[v] 76 (0, 0)) := by rw [hgr.block g hlt hne]; exact hg
  have d0 : w'.cell? ⟨g, 0, none⟩ = some v := by rw [Lib.cell_of_heap hg']; rfl
  have f0 : w'.frozen? ⟨g, 0, none⟩ = false := Lib.frozen_of_heap hg' 0
  have H2 := Aside0.mk hown
  have H3 := Aside0.mk hgr
  have H4 := Aside0.mk hhat
  clear hown hbel hgr hhat
  go_wp2_with fail
  go_end0
  exact ⟨rfl, _, set_blk hg' _, own8_set H2.out hg' (by decide) _, ((But.refl _ w).grown H3.out (fun k hk => .inl (.inr hk.symm))).put (.inl rfl) _, H4.out⟩
theorem ready_c (p g : Nat) (w : World) (hp : w.heap[p]? = some (.cells #[.pointer (some ⟨g, 0, none⟩)] 78 (0, 0))) :
    Calls Try.prog 35 #[.pointer (some ⟨p, 0, none⟩)] w fun e w' => e = .returned (.bool true) ∧ w' = w := by
  have c0 : w.cell? ⟨p, 0, none⟩ = some (.pointer (some ⟨g, 0, none⟩)) := by rw [Lib.cell_of_heap hp]; rfl
  go_enter Try.func35, Try.ntmps35
  go_wp2_with fail
  go_ret
  exact ⟨rfl, rfl⟩
theorem not_ready (w : World) : Calls Try.prog 35 #[.pointer none] w fun e w' => e = .returned (.bool false) ∧ w' = w := by
  go_enter Try.func35, Try.ntmps35
  go_wp2_with fail
  go_ret
  exact ⟨rfl, rfl⟩
theorem glen_c (B g : Nat) (v : Value) (bs : List Int) (w : World) (hg : w.heap[g]? = some (.cells #[v] 76 (0, 0))) (HR : own8 B v bs w) :
    Calls Try.prog 38 #[.pointer (some ⟨g, 0, none⟩)] w fun e w' => e = .returned (.int .i64 bs.length) ∧ w' = w := by
  obtain ⟨A, c, rfl⟩ := Kd.R_slice HR
  have c0 : w.cell? ⟨g, 0, none⟩ = some (.slice A bs.length c) := by rw [Lib.cell_of_heap hg]; rfl
  clear HR
  go_enter Try.func38, Try.ntmps38
  go_wp2_with fail
  go_ret
  exact ⟨rfl, rfl⟩
theorem w_len (B p g : Nat) (v : Value) (bs : List Int) (w : World) (h : AtW B p g v bs w) :
    Calls Try.prog 25 #[.pointer (some ⟨p, 0, none⟩)] w fun e w' => e = .returned (.int .i64 bs.length) ∧ w' = w := by
  obtain ⟨h1, h2, hp, hg, HR⟩ := h
  have c0 : w.cell? ⟨p, 0, none⟩ = some (.pointer (some ⟨g, 0, none⟩)) := by rw [Lib.cell_of_heap hp]; rfl
  have H := Aside0.mk HR
  clear HR
  go_enter Try.func25, Try.ntmps25
  go_wp2_with fail
  refine (ready_c p g w hp).mono ?_
  rintro e w1 ⟨rfl, rfl⟩
  go_wp2_with fail
  refine (glen_c B g v bs _ hg H.out).mono ?_
  rintro e w1 ⟨rfl, rfl⟩
  go_wp2_with fail
  go_ret
  exact ⟨rfl, rfl⟩
theorem oput_c (xs : List Int) (A : Option Addr) (c : Nat) (w : World) (hC : Kd.C (Kd.int .u64) w A xs.length xs) (hc : xs.length ≤ c) (hN : Nums xs) (hl : xs.length ≤ 1000000000000) :
    Calls Try.prog 11 #[.slice A xs.length c] w fun e w' => ∃ A' c', e = .returned (.slice A' (encs xs).length c') ∧ Kd.C (Kd.int .u8) w' A' (encs xs).length (encs xs) ∧ Below w.heap.size w w' := by
  obtain ⟨k, hk⟩ := put_ev xs hN hl
  refine (octet_Put.calls k A c xs _ w hC hc (hk k (Nat.le_refl _))).mono ?_
  rintro e w' ⟨v, rfl, hR, hb⟩
  obtain ⟨A', c', rfl, _, hC'⟩ := Kd.R_reads hR
  exact ⟨A', c', rfl, hC', hb⟩
theorem AtW.put {B p g : Nat} {v v' : Value} {bs bs' : List Int} {w w' : World} (h : AtW B p g v bs w) (hg : w'.heap[g]? = some (.cells #[v'] 76 (0, 0))) (HR : own8 B v' bs' w') (hb : But (fun k => k = g ∨ some k = v.ownBlock) w w') : AtW B p g v' bs' w' := by
  obtain ⟨h1, h2, hp, hg0, HR0⟩ := h
  refine ⟨h1, h2, (hb.block p (blk_lt' hp) ?_).trans hp, hg, HR⟩
  rintro (rfl | e)
  · rw [hp] at hg0; injection hg0 with hg0; injection hg0 with _ ht; exact absurd ht (by decide)
  · exact Kd.R_ne HR0 hp (by decide) e
theorem AtW.below {B p g : Nat} {v : Value} {bs : List Int} {w w' : World} (h : AtW B p g v bs w) (hb : Below w.heap.size w w') : AtW B p g v bs w' := by
  obtain ⟨h1, h2, hp, hg0, HR0⟩ := h
  exact ⟨h1, h2, (hb.block p (blk_lt' hp)).trans hp, (hb.block g (blk_lt' hg0)).trans hg0, Kd.R_below HR0 hb⟩
/-- What a call at a writer does to the world. -/
def StepW (B p g : Nat) (v : Value) (bs' : List Int) (w w' : World) : Prop := ∃ v', AtW B p g v' bs' w' ∧ But (fun k => k = g ∨ some k = v.ownBlock) w w' ∧ hat w v v'
theorem hat_up {w w1 : World} {v v' : Value} (h : hat w1 v v') (hs : w.heap.size ≤ w1.heap.size) : hat w v v' := h.imp id (fun ⟨b, h1, h2⟩ => ⟨b, h1, Nat.le_trans hs h2⟩)
theorem hat_trans {w w1 : World} {v v1 v2 : Value} (h : hat w v v1) (k : hat w1 v1 v2) (hs : w.heap.size ≤ w1.heap.size) : hat w v v2 := by
  rcases k with k | ⟨b, k1, k2⟩
  · rcases h with h | ⟨b, h1, h2⟩
    · exact .inl (k.trans h)
    · exact .inr ⟨b, k.trans h1, h2⟩
  · exact .inr ⟨b, k1, Nat.le_trans hs k2⟩
theorem w_num (B p g : Nat) (v : Value) (bs xs : List Int) (A : Option Addr) (c : Nat) (w : World) (hBw : B ≤ w.heap.size) (h : AtW B p g v bs w) (hC : Kd.C (Kd.int .u64) w A xs.length xs) (hc : xs.length ≤ c) (hN : Nums xs) (hl : xs.length ≤ 1000000000000) (hlen : bs.length + (encs xs).length ≤ 140737488355328) :
    Calls Try.prog 22 #[.pointer (some ⟨p, 0, none⟩), .slice A xs.length c] w fun e w' => e = .returned (.tuple #[]) ∧ StepW B p g v (bs ++ encs xs) w w' := by
  have hW := h
  obtain ⟨h1, h2, hp, hg, HR⟩ := h
  have c0 : w.cell? ⟨p, 0, none⟩ = some (.pointer (some ⟨g, 0, none⟩)) := by rw [Lib.cell_of_heap hp]; rfl
  have H := Aside0.mk hW
  have HC := Aside0.mk hC
  have HN := Aside0.mk hN
  clear HR hC hN hW
  go_enter Try.func22, Try.ntmps22
  go_wp2_with fail
  refine (ready_c p g w hp).mono ?_
  rintro e w1 ⟨rfl, rfl⟩
  go_wp2_with fail
  go_region_with (first
    | (go_at_call 11
       refine (oput_c xs A c _ ?_ hc HN.out hl).mono ?_
       · exact Kd.C_drew HC.out
       rintro e w2 ⟨A', c', rfl, hC', hb⟩
       have HW := Aside0.mk (AtW.below (AtW.below H.out (below_drew (Below.refl _ _))) hb)
       have HC' := Aside0.mk hC'
       have HB := Aside0.mk (below_then (below_drew (Below.refl _ _)) (Nat.le_refl _) hb)
       have d0 : w2.cell? ⟨p, 0, none⟩ = some (.pointer (some ⟨g, 0, none⟩)) := by rw [Lib.cell_of_heap HW.out.2.2.1]; rfl
       clear hC' hb)
    | (go_at_call 36
       refine (put_c B g v bs (encs xs) _ _ _ h2 ?_ HW.out.2.2.2.1 HW.out.2.2.2.2 HC'.out hlen).mono ?_
       · exact Nat.le_trans hBw HB.out.size
       rintro e w3 ⟨rfl, v', hg3, hR3, hb3, hh3⟩
       have HX := Aside0.mk (And.intro (AtW.put HW.out hg3 hR3 hb3) (And.intro hb3 hh3))
       clear hg3 hR3 hb3 hh3))
  all_goals
    go_end0
    exact ⟨rfl, _, HX.out.1, ((But.refl _ w1).below HB.out).then_ HX.out.2.1, hat_up HX.out.2.2 HB.out.size⟩
end Go.Proofs.YtfpijjjmgggfkaaE
