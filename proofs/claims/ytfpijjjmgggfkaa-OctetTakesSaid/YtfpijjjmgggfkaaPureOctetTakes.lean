/- Take and All decode any bytes as the reference does, or tell the same error: the law OctetTakes answers true at every input. No condition. -/
import Derived.Test.YtfpijjjmgggfkaaL01b
namespace Go.Proofs.Ytfpijjjmgggfkaa.Pure
open Go Go.RowKit Go.Proofs.Ytfpijjjmgggfkaa.P01 Go.Proofs.Ytfpijjjmgggfkaa.L01 Go.Proofs.YtfpijjjmgggfkaaW.PrintWords Go.Proofs.YtfpijjjmgggfkaaW.PrintLast
theorem allS_len (d : Nat) : ∀ (t acc : List Int) (r : List Int × Int), Bytes t → t.length = d → Ev (fun k => octet_All.l0 k t acc) r → r.1.length ≤ acc.length + t.length := by
  induction d using Nat.strongRecOn with
  | _ d ih =>
    intro t acc r hb hd h
    obtain ⟨K, h⟩ := h
    obtain ⟨K2, ht⟩ := take_ev t hb
    have h1 : octet_All.l0 (max K K2 + 1) t acc = some r := h (max K K2 + 1) (by omega)
    have h2 : octet_Take.f (max K K2) t = some (takeS 0 t) := ht (max K K2) (by omega)
    simp only [octet_All.l0] at h1
    by_cases h0 : (t.length : Int) > 0
    · rw [if_pos h0, h2, Option.bind_some] at h1
      by_cases hz : (takeS 0 t).2.2 = 0
      · obtain ⟨n, j, e, _, _, _, hj0, hj1⟩ := takeS_only t 0 hb (by omega) hz
        rw [if_pos hz] at h1
        have h3 : acc.length < 17592186044416 := by
          rcases Nat.lt_or_ge acc.length 17592186044416 with h3 | h3
          · exact h3
          · rw [if_neg (by omega)] at h1; cases h1
        rw [if_pos h3, e] at h1
        rw [if_pos (by show 0 ≤ (j : Int); omega), if_pos (by show (j : Int) ≤ _; omega)] at h1
        have := ih (t.length - j) (by omega) (t.drop j) (acc ++ [(n : Int)]) r (hb.drop j) (by rw [List.length_drop]) (Ev.of (g := fun k => octet_All.l0 k (t.drop j) (acc ++ [(n : Int)])) (fun k => octet_All.mono_l k _ _) h1)
        simp only [List.length_append, List.length_singleton, List.length_drop] at this
        omega
      · rw [if_neg hz] at h1
        cases h1
        simp
    · rw [if_neg h0] at h1
      cases h1
      simp
theorem OctetTakes : tendrillaw01_OctetTakes.Pure := by
  intro l hm _ hw
  refine Ev.rounds (g := fun k => tendrillaw01_OctetTakes.f k l) ?_
  have hl : Bytes l := fun x hx => wf_u8 (hw x hx)
  have tail : Ev (fun k => (tendrillaw01_same.f k).bind fun t => some t) true := Ev.bind law_same (Ev.now true)
  unfold tendrillaw01_OctetTakes.f
  by_cases h : (l.length : Int) > 2000
  · exact Ev.congr (fun k => by rw [if_pos h]) tail
  · obtain ⟨r, h1, h2⟩ := all_both l hl (by omega) l.length 0 [] (by omega) (by simp; omega)
    rw [List.drop_zero] at h1
    have hlen := allS_len l.length l [] r hl rfl h1
    refine Ev.congr (fun k => by rw [if_neg h]) (Ev.bind (take_ev l hl) (Ev.bind (rtake_ev l hl) (Ev.bind (g := fun k => octet_All.f k l) h1 (Ev.bind (g := fun k => tendrilref01_All.f k l) h2 ?_))))
    refine Ev.congr (f := fun k => (tendrilref01_Same.f k r.1 r.1).bind fun t => if t = true then (tendrillaw01_same.f k).bind (fun t => some t) else some false) (fun k => ?_) (Ev.bind (same_ev r.1 (by simp at hlen; omega)) (Ev.congr (fun k => by rw [if_pos rfl]) tail))
    rw [if_pos rfl, if_pos rfl, if_pos rfl, if_pos rfl]
end Go.Proofs.Ytfpijjjmgggfkaa.Pure
