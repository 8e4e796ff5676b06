/- Whole and Decimal answer as the papers say, and undo each other: the law CharsNumbers answers true at every number of 64 bits and every text of a size that fits a machine. No other condition. -/
import Derived.Test.YtpanmmpkdbhofaaDoorL02f
namespace Go.Proofs.YtpanmmpkdbhofaaDoor.Pure
open Go Go.RowKit Go.Proofs.YtpanmmpkdbhofaaDoor.P02 Go.Proofs.YtpanmmpkdbhofaaDoorE Go.Proofs.YtpanmmpkdbhofaaDoor.L02 Go.Proofs.YtpanmmpkdbhofaaDoorW.PrintWords Go.Proofs.YtpanmmpkdbhofaaDoorW.PrintLast
theorem whole_fits {l : List UInt8} (h : l.length ≤ 1000) (s : ByteArray) (e : B s = l) : chars_Whole.f s = some (wholeS l) := by
  have := B_len s
  rw [e] at this
  unfold chars_Whole.f
  rw [if_pos (by omega)]
  show some (wholeS (B s)) = _
  rw [e]
theorem CharsNumbers : tendrillaw02_CharsNumbers.Pure := by
  intro n s hw _
  obtain ⟨h0, h1⟩ : -9223372036854775808 ≤ n ∧ n ≤ 9223372036854775807 := by
    have e0 : IntKind.i64.min = -9223372036854775808 := by decide
    have e1 : IntKind.i64.max = 9223372036854775807 := by decide
    simp [Lit.wf, e0, e1] at hw; omega
  have fin : Ev (fun k => (tendrillaw02_same.f k).bind fun t => some t) true := Ev.bind law_same (Ev.now true)
  refine Ev.rounds ?_
  unfold tendrillaw02_CharsNumbers.f
  by_cases hs : (s.size : Int) > 500
  · exact Ev.congr (fun k => by rw [if_pos hs]) fin
  · have hL := B_len s
    have hi : (Lib.itoa n).length ≤ 1000 := by
      have := dd_len 18 n.natAbs
      have h2 := dd_len 18 n.toNat
      unfold Lib.itoa
      split
      · rw [List.length_cons]; have := dd_len 19 n.natAbs (by omega); omega
      · have := dd_len 19 n.toNat (by omega); omega
    have w1 := whole_fits (l := B s) (by omega) s rfl
    have w2 := whole_fits hi (mkS (Lib.itoa n)) (B_mkS _)
    rw [whole_itoa h0 h1] at w2
    have d := decimal_f n h0 h1
    refine Ev.congr (f := fun k => (tendrilref02_Whole.f k s).bind fun u => (tendrilref02_Decimal.f k n).bind fun v => if (mkS (Lib.itoa n)).toList = v.toList then (if (wholeS (B s)).1 = u.1 then (if ((wholeS (B s)).2 == u.2) = true then (tendrillaw02_same.f k).bind (fun t => some t) else some false) else some false) else some false) (fun k => ?_) ?_
    · rw [if_neg hs, w1, Option.bind_some]
      congr 1; funext u
      rw [d, Option.bind_some, w2, Option.bind_some, Option.bind_some]
      congr 1; funext v
      rw [if_pos rfl, if_pos rfl]
    · refine Ev.bind (rwhole_ev s (by omega)) (Ev.bind (rdec_ev n h0 h1) (Ev.congr (fun k => ?_) fin))
      rw [if_pos rfl, if_pos rfl, if_pos (beq_self_eq_true _)]
end Go.Proofs.YtpanmmpkdbhofaaDoor.Pure
