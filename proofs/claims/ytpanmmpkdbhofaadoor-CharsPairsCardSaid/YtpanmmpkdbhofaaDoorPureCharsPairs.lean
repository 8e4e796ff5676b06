/- Compare and Common answer as the papers say, and Compare turned round is its own opposite: the law CharsPairs answers true at every pair of texts. No condition. -/
import Derived.Test.YtpanmmpkdbhofaaDoorL02f
namespace Go.Proofs.YtpanmmpkdbhofaaDoor.Pure
open Go Go.RowKit Go.Proofs.YtpanmmpkdbhofaaDoor.P02 Go.Proofs.YtpanmmpkdbhofaaDoorE Go.Proofs.YtpanmmpkdbhofaaDoor.L02 Go.Proofs.YtpanmmpkdbhofaaDoorW.PrintWords Go.Proofs.YtpanmmpkdbhofaaDoorW.PrintLast
theorem CharsPairs : tendrillaw02_CharsPairs.Pure := by
  intro a b _ _
  have fin : Ev (fun k => (tendrillaw02_same.f k).bind fun t => some t) true := Ev.bind law_same (Ev.now true)
  have main : a.size ≤ 5000 → b.size ≤ 5000 → Ev (fun k => tendrillaw02_CharsPairs.j0 k a b false) true := by
    intro ha hb
    obtain ⟨r, c1, c2⟩ := common_both a b (by omega) (by omega)
    have hw : cmpL (B b) (B a) = wrap64 (-cmpL (B a) (B b)) := by
      rw [cmpL_neg]
      rcases cmpL_range (B a) (B b) with h | h | h <;> rw [h, w64 (by decide) (by decide)]
    refine Ev.step (f := fun k => (chars_Common.f k a b).bind fun bt186 => ((tendrilref02_Common.f k a b).bind fun bt188 => ((chars_Compare.f a b).bind fun t190 => ((tendrilref02_Compare.f k a b).bind fun t191 => (if t190 = t191 then (if bt186.1 = bt188.1 then (if bt186.2 = bt188.2 then ((chars_Compare.f b a).bind fun t192 => ((chars_Compare.f a b).bind fun t193 => (if t192 = (wrap64 (-t193)) then ((tendrillaw02_same.f k).bind fun t194 => (some t194)) else (some false)))) else (some false)) else (some false)) else (some false)))))) (fun k => by simp only [tendrillaw02_CharsPairs.j0]; rw [if_neg (by decide)]) ?_
    refine Ev.bind c1 (Ev.bind c2 ?_)
    refine Ev.congr (f := fun k => (tendrilref02_Compare.f k a b).bind fun t191 => (if cmpL (B a) (B b) = t191 then ((tendrillaw02_same.f k).bind fun t194 => (some t194)) else (some false))) (fun k => ?_) (Ev.bind (rcompare_ev a b (by omega) (by omega)) (Ev.congr (fun k => by rw [if_pos rfl]) fin))
    rw [compare_f, compare_f, Option.bind_some, if_pos rfl, if_pos rfl]
    congr 1; funext t191
    rw [Option.bind_some, Option.bind_some, if_pos hw]
  refine Ev.rounds ?_
  unfold tendrillaw02_CharsPairs.f
  have big : Ev (fun k => tendrillaw02_CharsPairs.j0 k a b true) true := Ev.step (fun k => by simp only [tendrillaw02_CharsPairs.j0]; rw [if_pos trivial]) fin
  by_cases ha : (a.size : Int) > 5000
  · exact Ev.congr (fun k => by rw [if_pos ha]) big
  · by_cases hb : (b.size : Int) > 5000
    · exact Ev.congr (fun k => by rw [if_neg ha, decide_eq_true hb]) big
    · exact Ev.congr (fun k => by rw [if_neg ha, decide_eq_false hb]) (main (by omega) (by omega))
end Go.Proofs.YtpanmmpkdbhofaaDoor.Pure
