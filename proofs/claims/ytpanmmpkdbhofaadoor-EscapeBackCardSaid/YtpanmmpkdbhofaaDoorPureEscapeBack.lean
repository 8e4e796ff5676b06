/- What was written is read, and two texts are written one behind the other as they are together: the law EscapeBack answers true at every two texts of sizes that fit a machine. No other condition. -/
import Derived.Test.YtpanmmpkdbhofaaDoorL03c
namespace Go.Proofs.YtpanmmpkdbhofaaDoor.Pure
open Go Go.RowKit Go.Proofs.YtpanmmpkdbhofaaDoor.P03b Go.Proofs.YtpanmmpkdbhofaaDoorE Go.Proofs.YtpanmmpkdbhofaaDoor.L03 Go.Proofs.YtpanmmpkdbhofaaDoor.L03b Go.Proofs.YtpanmmpkdbhofaaDoorW.PrintWords
theorem EscapeBack : tendrillaw03_EscapeBack.Pure := by
  intro s t _ _
  refine Ev.rounds ?_
  by_cases hs : (s.size : Int) > 2000
  · refine Ev.congr (f := fun k => tendrillaw03_EscapeBack.j0 k s t true) (fun k => by unfold tendrillaw03_EscapeBack.f; rw [if_pos hs]) ?_
    refine Ev.step (f := fun _ => some true) (fun k => ?_) (Ev.now _)
    simp only [tendrillaw03_EscapeBack.j0]
    rw [if_pos trivial, L03b.law_same, Option.bind_some]
  · by_cases ht : (t.size : Int) > 2000
    · refine Ev.congr (f := fun k => tendrillaw03_EscapeBack.j0 k s t true) (fun k => by unfold tendrillaw03_EscapeBack.f; rw [if_neg hs, decide_eq_true ht]) ?_
      refine Ev.step (f := fun _ => some true) (fun k => ?_) (Ev.now _)
      simp only [tendrillaw03_EscapeBack.j0]
      rw [if_pos trivial, L03b.law_same, Option.bind_some]
    · refine Ev.congr (f := fun k => tendrillaw03_EscapeBack.j0 k s t false) (fun k => by unfold tendrillaw03_EscapeBack.f; rw [if_neg hs, decide_eq_false ht]) ?_
      have hl := escS_len s.data.toList
      have hl2 := escS_len t.data.toList
      rw [dlen] at hl hl2
      have hX : (⟨(escS s.data.toList).toArray⟩ : ByteArray).size = (escS s.data.toList).length := sizeL _
      have hun : escape_Unescape.f ⟨(escS s.data.toList).toArray⟩ = some (s, 0, 0) := by
        rw [un_f _ (by rw [hX]; omega)]
        simp only [un_escS, List.nil_append]
      refine Ev.step (f := fun k => (tendrilref03_Escape.f k s).bind fun t144 => (if (⟨(escS s.data.toList).toArray⟩ : ByteArray).toList = t144.toList then ((escape_Length.f k s).bind fun t145 => (if t145 = ((escS s.data.toList).length : Int) then tendrillaw03_EscapeBack.j1 k s t ⟨(escS s.data.toList).toArray⟩ false else (tendrillaw03_EscapeBack.j1 k s t ⟨(escS s.data.toList).toArray⟩ true))) else (tendrillaw03_EscapeBack.j1 k s t ⟨(escS s.data.toList).toArray⟩ true))) (fun k => ?_) ?_
      · simp only [tendrillaw03_EscapeBack.j0]
        rw [if_neg (by decide), esc_f s (by omega), Option.bind_some, hun, Option.bind_some, hX]
        simp only [if_true, show ((0 : Int) != 0) = false from rfl]
      · refine Ev.bind (resc_run s (by omega)) ?_
        simp only [if_true]
        refine Ev.bind (len_run s (by omega)) ?_
        simp only [if_true]
        have hst : (s ++ t).size = s.size + t.size := ByteArray.size_append
        have hsd : (s ++ t).data.toList = s.data.toList ++ t.data.toList := by rw [ByteArray.data_append, Array.toList_append]
        have hcat : (⟨(escS s.data.toList).toArray⟩ : ByteArray) ++ ⟨(escS t.data.toList).toArray⟩ = ⟨(escS (s.data.toList ++ t.data.toList)).toArray⟩ := by rw [cat_str, escS_append]
        have hsp := span_ev ⟨(escS s.data.toList).toArray⟩ (by rw [hX]; omega) 0
        have hv : spanS ⟨(escS s.data.toList).toArray⟩ 0 = ((escS s.data.toList).length : Int) := by
          unfold spanS
          split
          · rename_i h
            rw [hX] at h
            omega
          · show (stopS ((escS s.data.toList).drop 0) : Int) = _
            rw [List.drop_zero, escS_stop]
        rw [hv] at hsp
        refine Ev.step (f := fun k => (escape_Span.f k ⟨(escS s.data.toList).toArray⟩ 0).bind fun t148 => (if t148 = ((escS s.data.toList).length : Int) then some true else (some false))) (fun k => ?_) ?_
        · simp only [tendrillaw03_EscapeBack.j1]
          rw [if_neg (by decide), if_pos (by omega), esc_f (s ++ t) (by omega), Option.bind_some, esc_f t (by omega), Option.bind_some, if_pos (by rw [hX, sizeL]; omega), hcat, hsd, if_pos rfl, L03b.law_same, hX]
          rfl
        · refine Ev.bind hsp ?_
          simp only [if_true]
          exact Ev.now _
end Go.Proofs.YtpanmmpkdbhofaaDoor.Pure
