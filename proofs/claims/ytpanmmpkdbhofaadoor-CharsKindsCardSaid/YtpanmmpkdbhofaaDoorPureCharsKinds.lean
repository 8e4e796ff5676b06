/- Tag, Name and Fits answer as the papers say: the law CharsKinds answers true at every text of a size that fits a machine. No other condition. -/
import Derived.Test.YtpanmmpkdbhofaaDoorL02f
namespace Go.Proofs.YtpanmmpkdbhofaaDoor.Pure
open Go Go.RowKit Go.Proofs.YtpanmmpkdbhofaaDoor.P02 Go.Proofs.YtpanmmpkdbhofaaDoorE Go.Proofs.YtpanmmpkdbhofaaDoor.L02 Go.Proofs.YtpanmmpkdbhofaaDoorW.PrintWords Go.Proofs.YtpanmmpkdbhofaaDoorW.PrintLast
theorem CharsKinds : tendrillaw02_CharsKinds.Pure := by
  intro a0 h0
  have fin : Ev (fun k => (tendrillaw02_same.f k).bind fun t => some t) true := Ev.bind law_same (Ev.now true)
  refine Ev.rounds ?_
  unfold tendrillaw02_CharsKinds.f
  by_cases hs : (a0.size : Int) > 100000
  · exact Ev.congr (fun k => by rw [if_pos hs]) fin
  · have hf : chars_Fits.f a0 = some (decide ((a0.size : Int) ≤ 65536)) := by
      unfold chars_Fits.f; simp
    refine Ev.congr (fun k => by rw [if_neg hs]) (Ev.bind (tag_ev a0 h0) (Ev.bind (rnamed_ev a0 false h0) ?_))
    refine Ev.congr (f := fun k => (chars_Name.f k a0).bind fun t => (tendrilref02_Named.f k a0 true).bind fun u => if (t == u) = true then (tendrillaw02_same.f k).bind (fun t => some t) else some false) (fun k => ?_) (Ev.bind (name_ev a0 h0) (Ev.bind (rnamed_ev a0 true h0) (Ev.congr (fun k => ?_) fin)))
    · rw [if_pos (beq_self_eq_true _), hf]
      congr 1; funext t; congr 1; funext u
      rw [Option.bind_some, if_pos (beq_self_eq_true _)]
    · rw [if_pos (beq_self_eq_true _)]
end Go.Proofs.YtpanmmpkdbhofaaDoor.Pure
