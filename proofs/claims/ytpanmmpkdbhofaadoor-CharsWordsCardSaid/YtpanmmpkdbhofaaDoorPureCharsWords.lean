/- Words answers as the papers say, and the words put together with blanks are the text: the law CharsWords answers true at every text of a size that fits a machine. No other condition. -/
import Derived.Test.YtpanmmpkdbhofaaDoorL02f
namespace Go.Proofs.YtpanmmpkdbhofaaDoor.Pure
open Go Go.RowKit Go.Proofs.YtpanmmpkdbhofaaDoor.P02 Go.Proofs.YtpanmmpkdbhofaaDoorE Go.Proofs.YtpanmmpkdbhofaaDoor.L02 Go.Proofs.YtpanmmpkdbhofaaDoorW.PrintWords Go.Proofs.YtpanmmpkdbhofaaDoorW.PrintLast
theorem B_mk0 : (⟨#[]⟩ : ByteArray) = mkS [] := B_inj (B_mkS []).symm
theorem mkS_app (l m : List UInt8) : mkS l ++ mkS m = mkS (l ++ m) := B_inj (by rw [B_append, B_mkS, B_mkS, B_mkS])
theorem mkS_size (l : List UInt8) : (mkS l).size = l.length := by rw [← B_len, B_mkS]
theorem join_l0 (s : ByteArray) (ws : List (List UInt8)) (hw : ws.length ≤ 1000) (hj : (jn ws).length ≤ 1000) (good : Bool) (hg : good = true → jn ws = B s) (d : Nat) : ∀ i : Nat, i + d = ws.length →
    Ev (fun k => tendrillaw02_CharsWords.l0 k s (ws.map mkS) good (mkS (jn (ws.take i))) (ws.length : Int) (i : Int)) true := by
  have fin : Ev (fun k => (tendrillaw02_same.f k).bind fun t => some t) true := Ev.bind law_same (Ev.now true)
  have hm : (ws.map mkS).length = ws.length := List.length_map ..
  induction d with
  | zero =>
    intro i hi
    rw [List.take_of_length_le (by omega)]
    by_cases h : good = true
    · refine Ev.step (fun k => ?_) fin
      simp only [tendrillaw02_CharsWords.l0]
      rw [if_neg (by omega), if_pos h, toList_B, toList_B, B_mkS, if_pos (hg h)]
    · refine Ev.step (fun k => ?_) fin
      simp only [tendrillaw02_CharsWords.l0]
      rw [if_neg (by omega), if_neg h]
  | succ d ih =>
    intro i hi
    have hlt : i < ws.length := by omega
    have ei : wrap64 ((i : Int) + 1) = ((i + 1 : Nat) : Int) := by rw [w64 (by omega) (by omega)]; omega
    have hx : rdOf ByteArray.empty (ws.map mkS) (i : Int) = mkS ws[i] := by
      rw [rdOf_nat (by omega), List.getElem_map]
    have e1 : ws.take (i + 1) = ws.take i ++ [ws[i]] := by rw [List.take_succ_eq_append_getElem hlt]
    have hle := jn_le (ws.take (i + 1)) (ws.drop (i + 1))
    rw [List.take_append_drop, e1] at hle
    refine Ev.step (fun k => ?_) (ih (i + 1) (by omega))
    simp only [tendrillaw02_CharsWords.l0]
    rw [e1]
    by_cases h : i = 0
    · subst h
      rw [List.take_zero, List.nil_append] at hle ⊢
      have hjj : jn [ws[0]] = ws[0] := rfl
      rw [hjj] at hle ⊢
      rw [if_pos (by omega), if_neg (by omega), if_pos (by omega), if_pos (by omega), hx, if_pos (by rw [mkS_size, mkS_size]; simp [jn]; omega), ei, mkS_app]
      rfl
    · have hne : ws.take i ≠ [] := by
        intro h0
        have := congrArg List.length h0
        rw [List.length_take, List.length_nil] at this; omega
      rw [jn_snoc _ _ hne] at hle ⊢
      rw [List.length_append, List.length_cons] at hle
      have e32 : (⟨#[32]⟩ : ByteArray) = mkS [32] := B_inj (B_mkS [32]).symm
      rw [if_pos (by omega), if_pos (by omega), if_pos (by rw [mkS_size]; omega), if_pos (by omega), if_pos (by omega), hx, e32, mkS_app, if_pos (by rw [mkS_size, mkS_size, List.length_append, List.length_singleton]; omega), ei, mkS_app, List.append_assoc, List.singleton_append]
theorem sp_len : ∀ l : List UInt8, (sp l).length ≤ l.length + 1
  | [] => Nat.le_refl _
  | c :: t => by
    have ih := sp_len t
    obtain ⟨h, r, e⟩ := List.exists_cons_of_ne_nil (sp_ne t)
    simp only [sp]
    rw [e] at ih ⊢
    split <;> simp only [List.length_cons] at ih ⊢ <;> omega
theorem CharsWords : tendrillaw02_CharsWords.Pure := by
  intro s _
  have fin : Ev (fun k => (tendrillaw02_same.f k).bind fun t => some t) true := Ev.bind law_same (Ev.now true)
  refine Ev.rounds ?_
  unfold tendrillaw02_CharsWords.f
  by_cases hs : (s.size : Int) > 500
  · exact Ev.congr (fun k => by rw [if_pos hs]) fin
  · have hL := B_len s
    have hsl := sp_len (B s)
    obtain ⟨ws, good, e, hg, hl, hj⟩ : ∃ ws good, wordsR (B s) = (ws.map mkS, good) ∧ (good = true → jn ws = B s) ∧ ws.length ≤ 1000 ∧ (jn ws).length ≤ 1000 := by
      unfold wordsR wres
      split
      · exact ⟨[], true, rfl, fun _ => by simp [jn, *], by decide, by decide⟩
      · split
        · exact ⟨sp (B s), true, rfl, fun _ => jn_sp _, by omega, by rw [jn_sp]; omega⟩
        · exact ⟨[], false, rfl, fun h => absurd h (by decide), by decide, by decide⟩
    refine Ev.congr (fun k => by rw [if_neg hs]) (Ev.bind (words_ev s (by omega)) (Ev.bind (rwords_ev s (by omega)) ?_))
    rw [e]
    have hm : (ws.map mkS).length = ws.length := List.length_map ..
    refine Ev.congr (fun k => by rw [if_neg (by simp)]) (Ev.bind (texts_ev (ws.map mkS) (by omega)) (Ev.step (fun k => ?_) (join_l0 s ws hl hj good hg ws.length 0 (by omega))))
    simp only [tendrillaw02_CharsWords.j0]
    rw [if_neg (by decide), B_mk0, hm]; rfl
end Go.Proofs.YtpanmmpkdbhofaaDoor.Pure
