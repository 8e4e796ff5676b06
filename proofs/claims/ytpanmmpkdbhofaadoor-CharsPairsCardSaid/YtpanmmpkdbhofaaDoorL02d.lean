/- Plain laws of layer 2, fourth part: the reference's words, and words put together. -/
import Derived.Test.YtpanmmpkdbhofaaDoorL02c
namespace Go.Proofs.YtpanmmpkdbhofaaDoor.L02
open Go Go.RowKit Go.Proofs.YtpanmmpkdbhofaaDoor.P02 Go.Proofs.YtpanmmpkdbhofaaDoorE Go.Proofs.YtpanmmpkdbhofaaDoorW.PrintWords Go.Proofs.YtpanmmpkdbhofaaDoorW.PrintLast Go.Proofs.YtpanmmpkdbhofaaDoorW.PrintMore

theorem B_append (s t : ByteArray) : B (s ++ t) = B s ++ B t := by simp [B, ByteArray.data_append]
theorem rdOf_nat {xs : List ByteArray} {i : Nat} (h : i < xs.length) : rdOf ByteArray.empty xs (i : Int) = xs[i] := by
  unfold rdOf; rw [Int.toNat_natCast]; simp [List.getD_eq_getElem?_getD, List.getElem?_eq_getElem h]
/-- The check for empty words. -/
theorem rwords_l1 (ws : List ByteArray) (hl : ws.length ≤ 1000000000000) (d : Nat) : ∀ i : Nat, i + d = ws.length →
    Ev (fun k => tendrilref02_Words.l1 k ws (ws.length : Int) (i : Int)) (if (ws.drop i).all (fun w => !(B w).isEmpty) then (ws, true) else ([], false)) := by
  induction d with
  | zero =>
    intro i hi
    rw [List.drop_eq_nil_of_le (by omega)]
    refine Ev.step (f := fun _ => some (ws, true)) (fun k => ?_) (Ev.now _)
    simp only [tendrilref02_Words.l1]; rw [if_neg (by omega)]
  | succ d ih =>
    intro i hi
    have hlt : i < ws.length := by omega
    rw [List.drop_eq_getElem_cons hlt, List.all_cons]
    have ei : wrap64 ((i : Int) + 1) = ((i + 1 : Nat) : Int) := by rw [w64 (by omega) (by omega)]; omega
    by_cases h : B ws[i] = []
    · rw [h]
      refine Ev.step (f := fun _ => some (([] : List ByteArray), false)) (fun k => ?_) (by simpa using Ev.now _)
      simp only [tendrilref02_Words.l1]
      rw [if_pos (by omega), if_pos (by omega), if_pos (by omega), rdOf_nat hlt, toList_B, if_pos h]
    · have : (B ws[i]).isEmpty = false := by simpa using h
      rw [this, Bool.not_false, Bool.true_and]
      refine Ev.step (fun k => ?_) (ih (i + 1) (by omega))
      simp only [tendrilref02_Words.l1]
      rw [if_pos (by omega), if_pos (by omega), if_pos (by omega), rdOf_nat hlt, toList_B, if_neg h, ei]
theorem rwords_l0 (s : ByteArray) (hs : s.size ≤ 1000000000) (R : List ByteArray × Bool) (F : List ByteArray)
    (hF : Ev (fun k => tendrilref02_Words.l1 k F (F.length : Int) 0) R) (d : Nat) : ∀ (i : Nat) (out : List ByteArray) (cur : ByteArray) (h : List UInt8) (r : List (List UInt8)), i + d = s.size → out.length + d ≤ 2000000000 → cur.size + d ≤ 2000000000 →
    sp ((B s).drop i) = h :: r → F = out ++ (cur ++ mkS h) :: r.map mkS →
    Ev (fun k => tendrilref02_Words.l0 k s (out ++ [cur]) (s.size : Int) (i : Int)) R := by
  have hL := B_len s
  induction d with
  | zero =>
    intro i out cur h r hi _ _ hsp hFe
    rw [List.drop_eq_nil_of_le (by omega)] at hsp
    simp only [sp, List.cons.injEq] at hsp
    obtain ⟨rfl, rfl⟩ := hsp
    have : F = out ++ [cur] := by
      rw [hFe]
      have : cur ++ mkS [] = cur := B_inj (by rw [B_append, B_mkS, List.append_nil])
      rw [this]; rfl
    rw [← this]
    refine Ev.step (fun k => ?_) hF
    simp only [tendrilref02_Words.l0]; rw [if_neg (by omega)]
  | succ d ih =>
    intro i out cur h r hi ho hcur hsp hFe
    have hlt : i < (B s).length := by omega
    have ei : wrap64 ((i : Int) + 1) = ((i + 1 : Nat) : Int) := by rw [w64 (by omega) (by omega)]; omega
    rw [List.drop_eq_getElem_cons hlt] at hsp
    simp only [sp] at hsp
    have hlen : (out ++ [cur]).length = out.length + 1 := by simp
    by_cases hc : (B s)[i].toNat = 32
    · rw [if_pos hc] at hsp
      injection hsp with h1 h2
      subst h1
      obtain ⟨h', r', e⟩ := List.exists_cons_of_ne_nil (sp_ne ((B s).drop (i + 1)))
      rw [e] at h2
      subst h2
      have hem : (⟨#[]⟩ : ByteArray) = mkS [] := rfl
      have hn := ih (i + 1) (out ++ [cur]) ⟨#[]⟩ h' r' (by omega) (by simp; omega) (by show 0 + d ≤ _; omega) e (by
        rw [hFe]
        have e1 : cur ++ mkS [] = cur := B_inj (by rw [B_append, B_mkS, List.append_nil])
        have e2 : (⟨#[]⟩ : ByteArray) ++ mkS h' = mkS h' := B_inj (by rw [B_append, B_mkS]; rfl)
        rw [e1, e2]; simp)
      refine Ev.step (fun k => ?_) hn
      simp only [tendrilref02_Words.l0]
      rw [if_pos (by omega), if_pos (by omega), if_pos (by omega), bt_nat hlt, if_pos (by omega), if_pos (by omega), ei]
    · rw [if_neg hc] at hsp
      obtain ⟨h', r', e⟩ := List.exists_cons_of_ne_nil (sp_ne ((B s).drop (i + 1)))
      rw [e] at hsp
      simp only [List.cons.injEq] at hsp
      obtain ⟨rfl, rfl⟩ := hsp
      have ey : s.extract i (i + 1) = mkS [(B s)[i]] := by
        rw [extract_mk, List.drop_eq_getElem_cons hlt]; simp
      have hn := ih (i + 1) out (cur ++ mkS [(B s)[i]]) h' r' (by omega) (by omega) (by rw [ByteArray.size_append]; show cur.size + 1 + d ≤ _; omega) e (by
        rw [hFe]
        have : cur ++ mkS ((B s)[i] :: h') = cur ++ mkS [(B s)[i]] ++ mkS h' := B_inj (by rw [B_append, B_append, B_append, B_mkS, B_mkS, B_mkS]; simp)
        rw [this])
      have elast : wrap64 (((out ++ [cur]).length : Int) - 1) = (out.length : Int) := by rw [hlen, w64 (by omega) (by omega)]; omega
      have erd : rdOf ByteArray.empty (out ++ [cur]) (out.length : Int) = cur := by rw [rdOf_nat (by omega)]; simp
      have eset : (out ++ [cur]).set out.length (cur ++ mkS [(B s)[i]]) = out ++ [cur ++ mkS [(B s)[i]]] := by simp
      refine Ev.step (fun k => ?_) hn
      simp only [tendrilref02_Words.l0]
      rw [if_pos (by omega), if_pos (by omega), if_pos (by omega), bt_nat hlt, if_neg (by omega), elast, if_pos (by omega), if_pos (by omega), ei, if_pos (by omega), if_pos (by omega), Option.bind_some, Int.toNat_natCast, Int.toNat_natCast, ey, erd, Int.toNat_natCast, eset]
      rw [if_pos (by show cur.size + 1 ≤ _; omega)]
theorem rwords_ev (s : ByteArray) (hs : s.size ≤ 1000000000) : Ev (fun k => tendrilref02_Words.f k s) (wordsR (B s)) := by
  have hL := B_len s
  unfold tendrilref02_Words.f wordsR
  rw [toList_B]
  by_cases h0 : B s = []
  · rw [if_pos h0]; exact Ev.congr (fun k => by rw [if_pos h0]) (Ev.now _)
  · rw [if_neg h0]
    obtain ⟨h, r, e⟩ := List.exists_cons_of_ne_nil (sp_ne (B s))
    have eF : (⟨#[]⟩ : ByteArray) ++ mkS h = mkS h := B_inj (by rw [B_append, B_mkS]; rfl)
    have hlen : (sp (B s)).length ≤ s.size + 1 := by
      have key : ∀ l : List UInt8, (sp l).length ≤ l.length + 1 := by
        intro l
        induction l with
        | nil => simp [sp]
        | cons c t ih =>
          simp only [sp]
          split
          · simp; omega
          · split
            · simp
            · rename_i h r e; rw [e] at ih; simp at ih ⊢; omega
      have := key (B s); omega
    have hmap : ((sp (B s)).map mkS).all (fun w => !(B w).isEmpty) = (sp (B s)).all (fun w => !w.isEmpty) := by
      rw [List.all_map]; congr 1
    have h1 := rwords_l1 ((sp (B s)).map mkS) (by simp; omega) ((sp (B s)).map mkS).length 0 (by omega)
    rw [List.drop_zero, hmap] at h1
    have h2 := rwords_l0 s hs _ ((sp (B s)).map mkS) h1 s.size 0 [] ⟨#[]⟩ h r (by omega) (by simp; omega) (by show 0 + s.size ≤ _; omega) (by rw [List.drop_zero]; exact e) (by rw [e, eF]; rfl)
    refine Ev.congr (f := fun k => tendrilref02_Words.l0 k s [⟨#[]⟩] (s.size : Int) 0) (fun k => by rw [if_neg h0]) ?_
    unfold wres
    rw [List.nil_append]
    exact h2
/-! Lists of texts. -/
theorem texts_l0 (l : List ByteArray) (hn : l.length ≤ 1000000000000) (d : Nat) : ∀ i : Nat, i + d = l.length → Ev (fun k => tendrilplain_Texts.l0 k l l (l.length : Int) (i : Int)) true := by
  induction d with
  | zero =>
    intro i hi
    refine Ev.step (f := fun _ => some true) (fun k => ?_) (Ev.now _)
    simp only [tendrilplain_Texts.l0]; rw [if_neg (by omega)]
  | succ d ih =>
    intro i hi
    refine Ev.step (fun k => ?_) (ih (i + 1) (by omega))
    simp only [tendrilplain_Texts.l0]
    rw [if_pos (by omega), if_pos (by omega), if_pos (by omega), if_pos (by omega), if_pos trivial, w64 (by omega) (by omega)]; rfl
theorem texts_ev (l : List ByteArray) (hn : l.length ≤ 1000000000000) : Ev (fun k => tendrilplain_Texts.f k l l) true := by
  refine Ev.congr (fun k => ?_) (texts_l0 l hn l.length 0 (by omega))
  unfold tendrilplain_Texts.f; rw [if_pos rfl]; rfl
/-! Words put together. -/
def jn : List (List UInt8) → List UInt8
  | [] => []
  | [w] => w
  | w :: x :: r => w ++ 32 :: jn (x :: r)
theorem jn_sp : ∀ l : List UInt8, jn (sp l) = l
  | [] => rfl
  | c :: t => by
    have ih := jn_sp t
    obtain ⟨h, r, e⟩ := List.exists_cons_of_ne_nil (sp_ne t)
    simp only [sp]
    rw [e] at ih ⊢
    by_cases hc : c.toNat = 32
    · rw [if_pos hc]
      simp only [jn]
      rw [ih]
      have : c = 32 := UInt8.toNat_inj.1 hc
      simp [this]
    · rw [if_neg hc]
      cases r with
      | nil => simp only [jn] at ih ⊢; rw [ih]
      | cons x r => simp only [jn] at ih ⊢; rw [List.cons_append, ih]
theorem jn_snoc : ∀ (ws : List (List UInt8)) (w : List UInt8), ws ≠ [] → jn (ws ++ [w]) = jn ws ++ 32 :: w
  | [], _, h => absurd rfl h
  | [v], w, _ => rfl
  | v :: x :: r, w, _ => by
    have ih := jn_snoc (x :: r) w (by simp)
    simp only [List.cons_append, jn] at ih ⊢
    rw [ih]; simp
theorem jn_le (xs ys : List (List UInt8)) : (jn xs).length ≤ (jn (xs ++ ys)).length := by
  induction xs with
  | nil => simp [jn]
  | cons v r ih =>
    cases r with
    | nil => cases ys with
      | nil => simp [jn]
      | cons y ys => simp [jn]
    | cons x r => simp only [List.cons_append, jn, List.length_append, List.length_cons] at ih ⊢; omega
end Go.Proofs.YtpanmmpkdbhofaaDoor.L02
