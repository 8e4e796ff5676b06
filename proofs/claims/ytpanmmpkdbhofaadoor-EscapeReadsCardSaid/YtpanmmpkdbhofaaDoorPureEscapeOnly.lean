/- No text is written as two, and what is read is written as it stood: the law EscapeOnly answers true at every text of a size that fits a machine. No other condition. -/
import Derived.Test.YtpanmmpkdbhofaaDoorX03ox1
namespace Go.Proofs.YtpanmmpkdbhofaaDoor.L03
open Go Go.RowKit Go.Proofs.YtpanmmpkdbhofaaDoorE Go.Proofs.YtpanmmpkdbhofaaDoorW.PrintWords
theorem escB_of {n : Nat} (hn : n ≤ 255) (h : formL n ≠ []) : escB ((n : Int).toNat.toUInt8) = formL n := by
  have e : ((n : Int).toNat.toUInt8).toNat = n := by simp; omega
  unfold escB
  rw [e, if_neg h]
theorem ref_esc (l : List UInt8) (h : (refS l).2.toNat ≠ 0) : escB ((refS l).1.toNat.toUInt8) = l.take (refS l).2.toNat := by
  revert h
  unfold refS
  split
  · rename_i c hc
    intro h
    have h1 := List.find?_some hc
    have h2 := List.mem_of_find?_eq_some hc
    have h3 : c ≤ 255 := by
      have := List.mem_of_mem_take h2
      simp [signs] at this
      omega
    have h4 := List.prefix_iff_eq_take.1 (List.isPrefixOf_iff_prefix.1 h1)
    have h5 : formL c ≠ [] := by intro e; rw [e] at h; simp at h
    rw [escB_of h3 h5]
    simpa using h4
  · split
    · rename_i hp
      have hix := index_num _ hp
      unfold numS
      split
      · intro h; simp at h
      · split
        · split
          · rename_i n _ hn
            intro h
            obtain ⟨n0, n1, he⟩ := hn
            obtain ⟨m, rfl⟩ := Int.eq_ofNat_of_zero_le n0
            have hne : formL m ≠ [] := by
              intro e
              rw [Int.toNat_natCast, e] at he
              have := congrArg List.length he
              rw [List.length_take, List.length_nil] at this
              omega
            simp only
            rw [escB_of (by omega) hne, ← show (m : Int).toNat = m from rfl, he]
            congr 1
            omega
          · intro h; simp at h
        · intro h; simp at h
    · intro h; simp at h
theorem step_esc (l : List UInt8) (h : (stepU l).2 ≠ 0) : (stepU l).2 ≤ l.length ∧ escB (stepU l).1 = l.take (stepU l).2 := by
  cases l with
  | nil => simp [stepU] at h
  | cons c t =>
    simp only [stepU] at h ⊢
    split
    · rename_i hc
      rw [if_pos hc] at h
      have hr := refS_range (c :: t)
      exact ⟨by simp only; omega, ref_esc _ h⟩
    · rename_i hc
      rw [if_neg hc] at h
      split
      · rename_i hf
        refine ⟨by simp, ?_⟩
        unfold escB
        rw [if_pos hf]; rfl
      · rename_i hf
        rw [if_neg hf] at h
        exact absurd rfl h
theorem escS_append (a b : List UInt8) : escS (a ++ b) = escS a ++ escS b := by simp [escS]
theorem escS_one (c : UInt8) : escS [c] = escB c := by simp [escS]
theorem un_esc (d : Nat) : ∀ (l : List UInt8) (pos : Nat) (out : List UInt8), l.length ≤ d →
    ((unS l pos out).2.2 = 0 ∧ escS (unS l pos out).1 = escS out ++ l) ∨ ((unS l pos out).2.2 = 2 ∧ (unS l pos out).1 = [] ∧ (pos : Int) ≤ (unS l pos out).2.1 ∧ (unS l pos out).2.1 < pos + l.length) := by
  induction d with
  | zero =>
    intro l pos out hl
    obtain rfl : l = [] := List.length_eq_zero_iff.1 (by omega)
    rw [unS_nil]; left; simp
  | succ d ih =>
    intro l pos out hl
    by_cases hn : l = []
    · subst hn; rw [unS_nil]; left; simp
    · have hp := List.length_pos_iff.2 hn
      rw [unS_cons l hn]
      by_cases h0 : (stepU l).2 = 0
      · rw [if_pos h0]; right
        refine ⟨rfl, rfl, Int.le_refl _, ?_⟩
        simp only; omega
      · rw [if_neg h0]
        obtain ⟨h1, h2⟩ := step_esc l h0
        have hd : (l.drop (stepU l).2).length = l.length - (stepU l).2 := List.length_drop ..
        rcases ih (l.drop (stepU l).2) (pos + (stepU l).2) (out ++ [(stepU l).1]) (by omega) with ⟨a, b⟩ | ⟨a, b, c, e⟩
        · left
          refine ⟨a, ?_⟩
          rw [b, escS_append, escS_one, h2, List.append_assoc, List.take_append_drop]
        · right
          exact ⟨a, b, by omega, by omega⟩
theorem escS_ge : ∀ l : List UInt8, l.length ≤ (escS l).length
  | [] => Nat.zero_le _
  | c :: t => by
    have h := escS_ge t
    have h2 : 1 ≤ (escB c).length := by
      unfold escB
      split
      · simp
      · rename_i hf
        exact List.length_pos_iff.2 hf
    unfold escS at h ⊢
    rw [List.flatMap_cons, List.length_append, List.length_cons]; omega
theorem un_same1 : unS [97, 38, 108, 116, 59, 98, 38, 35, 49, 48, 59] 0 [] = ([97, 60, 98, 10], 0, 0) := by decide +kernel
theorem un_same2 : unS [120, 38, 108, 116] 0 [] = ([], 1, 2) := by decide +kernel
theorem esc_same : escS [97, 60, 98, 10] = [97, 38, 108, 116, 59, 98, 38, 35, 49, 48, 59] := by decide +kernel
end Go.Proofs.YtpanmmpkdbhofaaDoor.L03
namespace Go.Proofs.YtpanmmpkdbhofaaDoor.Pure
open Go Go.RowKit Go.Proofs.YtpanmmpkdbhofaaDoor.P03o Go.Proofs.YtpanmmpkdbhofaaDoorE Go.Proofs.YtpanmmpkdbhofaaDoor.L03 Go.Proofs.YtpanmmpkdbhofaaDoorW.PrintWords
theorem un_f (s : ByteArray) (h : s.size ≤ 1000000000000) : escape_Unescape.f s = some (⟨(unS s.data.toList 0 []).1.toArray⟩, (unS s.data.toList 0 []).2.1, (unS s.data.toList 0 []).2.2) := by unfold escape_Unescape.f; rw [if_pos h]
theorem esc_f (s : ByteArray) (h : s.size ≤ 1000000000000) : escape_Escape.f s = some ⟨(escS s.data.toList).toArray⟩ := by unfold escape_Escape.f; rw [if_pos h]
theorem law_same : tendrillaw03_same.f = some true := by
  unfold tendrillaw03_same.f
  rw [un_f _ (by decide), un_f _ (by decide), esc_f _ (by decide)]
  simp only [un_same1, un_same2, esc_same, Option.bind_some]
  rw [tl, tl, if_pos rfl, if_pos rfl, if_pos trivial, if_pos trivial, if_pos trivial]; rfl
theorem EscapeOnly : tendrillaw03_EscapeOnly.Pure := by
  intro s _
  have hL := dlen s
  unfold tendrillaw03_EscapeOnly.f
  rw [law_same, Option.bind_some]
  by_cases hs : (s.size : Int) > 2000
  · rw [if_pos hs]
  · rw [if_neg hs, un_f s (by omega), Option.bind_some]
    have hu := un_esc s.data.toList.length s.data.toList 0 [] (Nat.le_refl _)
    generalize unS s.data.toList 0 [] = u at hu ⊢
    obtain ⟨o, at_, e⟩ := u
    simp only at hu ⊢
    rcases hu with ⟨rfl, b⟩ | ⟨rfl, rfl, c, d⟩
    · rw [if_pos rfl]
      have b2 : escS o = s.data.toList := by rw [b]; rfl
      have h1 := escS_ge o
      rw [b2] at h1
      rw [esc_f _ (by rw [sizeL]; omega), Option.bind_some, tl, tl, if_pos (by simpa using b2)]
    · rw [if_neg (by decide), if_pos (by rw [tl]), if_pos (by omega), if_pos (by omega)]
end Go.Proofs.YtpanmmpkdbhofaaDoor.Pure
