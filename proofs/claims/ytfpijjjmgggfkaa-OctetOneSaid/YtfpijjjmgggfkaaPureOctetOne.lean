/- Only the encoding that Put produces is accepted for a number: the law OctetOne answers true at every input. No condition. -/
import Derived.Test.YtfpijjjmgggfkaaL01b
namespace Go.Proofs.Ytfpijjjmgggfkaa.Pure
open Go Go.RowKit Go.Proofs.Ytfpijjjmgggfkaa.P01 Go.Proofs.Ytfpijjjmgggfkaa.L01 Go.Proofs.YtfpijjjmgggfkaaW.PrintWords Go.Proofs.YtfpijjjmgggfkaaW.PrintLast
theorem OctetOne : tendrillaw01_OctetOne.Pure := by
  intro l hm _ hw
  refine Ev.rounds (g := fun k => tendrillaw01_OctetOne.f k l) ?_
  have hl : Bytes l := fun x hx => wf_u8 (hw x hx)
  have tail : Ev (fun k => (tendrillaw01_same.f k).bind fun t => some t) true := Ev.bind law_same (Ev.now true)
  unfold tendrillaw01_OctetOne.f
  by_cases h : (l.length : Int) > 2000
  · exact Ev.congr (fun k => by rw [if_pos h]) tail
  · refine Ev.congr (fun k => by rw [if_neg h]) (Ev.bind (take_ev l hl) ?_)
    by_cases hz : (takeS 0 l).2.2 = 0
    · obtain ⟨n, j, e, hn, _, he, hj0, hj1⟩ := takeS_only l 0 hl (by omega) hz
      have hp := put1_ev (n : Int) (by omega) (by simp at hn; omega)
      rw [Int.toNat_natCast, he] at hp
      rw [e]
      refine Ev.congr (f := fun k => (octet_Put.f k [(n : Int)]).bind fun t => if 0 ≤ (j : Int) then (if (strOfNums t).toList = (strOfNums (l.take (j : Int).toNat)).toList then (tendrillaw01_same.f k).bind (fun t => some t) else some false) else none) (fun k => ?_) (Ev.bind hp ?_)
      · rw [if_pos rfl, if_pos (by show (j : Int) > 0; omega), if_pos (by show (j : Int) ≤ _; omega)]
      · refine Ev.congr (fun k => ?_) tail
        rw [if_pos (by omega), if_pos (by rw [Int.toNat_natCast])]
    · rw [takeS_err 0 l hz]
      refine Ev.congr (fun k => ?_) tail
      rw [if_neg hz, if_pos rfl, if_pos rfl]
end Go.Proofs.Ytfpijjjmgggfkaa.Pure
