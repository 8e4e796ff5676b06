/- What any bytes are written of, or at which place they are none, and how far they may reach: the law EscapeReads answers true at every text of a size that fits a machine and every place. No other condition. -/
import Derived.Test.YtpanmmpkdbhofaaDoorL03c
namespace Go.Proofs.YtpanmmpkdbhofaaDoor.Pure
open Go Go.RowKit Go.Proofs.YtpanmmpkdbhofaaDoor.P03b Go.Proofs.YtpanmmpkdbhofaaDoorE Go.Proofs.YtpanmmpkdbhofaaDoor.L03 Go.Proofs.YtpanmmpkdbhofaaDoor.L03b Go.Proofs.YtpanmmpkdbhofaaDoorW.PrintWords
theorem EscapeReads : tendrillaw03_EscapeReads.Pure := by
  intro s at_ _ _
  refine Ev.rounds ?_
  by_cases hs : (s.size : Int) > 2000
  · refine Ev.congr (f := fun _ => some true) (fun k => ?_) (Ev.now _)
    unfold tendrillaw03_EscapeReads.f
    rw [if_pos hs, L03b.law_same, Option.bind_some]
  · refine Ev.congr (f := fun k => (tendrilref03_Unescape.f k s).bind fun bt131 => (if (⟨(unS s.data.toList 0 []).1.toArray⟩ : ByteArray).toList = bt131.1.toList then (if (unS s.data.toList 0 []).2.1 = bt131.2.1 then (if (unS s.data.toList 0 []).2.2 = bt131.2.2 then ((escape_Span.f k s at_).bind fun t134 => ((tendrilref03_Span.f k s at_).bind fun t135 => (if t134 = t135 then some true else (some false)))) else (some false)) else (some false)) else (some false))) (fun k => ?_) ?_
    · unfold tendrillaw03_EscapeReads.f
      rw [if_neg hs, un_f s (by omega), Option.bind_some, L03b.law_same]
      rfl
    · refine Ev.bind (run_ev s (by omega)) ?_
      simp only [if_true]
      refine Ev.bind (span_ev s (by omega) at_) ?_
      refine Ev.bind (rspan_ev s (by omega) at_) ?_
      simp only [if_true]
      exact Ev.now _
end Go.Proofs.YtpanmmpkdbhofaaDoor.Pure
