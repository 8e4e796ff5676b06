/- Plain laws of layer 2, third part: words. -/
import Derived.Test.YtpanmmpkdbhofaaDoorL02b
namespace Go.Proofs.YtpanmmpkdbhofaaDoor.L02
open Go Go.RowKit Go.Proofs.YtpanmmpkdbhofaaDoor.P02 Go.Proofs.YtpanmmpkdbhofaaDoorE Go.Proofs.YtpanmmpkdbhofaaDoorW.PrintWords Go.Proofs.YtpanmmpkdbhofaaDoorW.PrintLast Go.Proofs.YtpanmmpkdbhofaaDoorW.PrintMore

/-- A text cut at each blank. -/
def sp : List UInt8 → List (List UInt8)
  | [] => [[]]
  | c :: t => if c.toNat = 32 then [] :: sp t else match sp t with
    | [] => [[c]]
    | h :: r => (c :: h) :: r
theorem sp_ne (l : List UInt8) : sp l ≠ [] := by
  cases l with
  | nil => simp [sp]
  | cons c t =>
    simp only [sp]
    split
    · simp
    · split <;> simp
/-- No blank in front. -/
def noBlank (l : List UInt8) : Prop := ∀ c ∈ l, c.toNat ≠ 32
theorem sp_pre : ∀ (p l : List UInt8), noBlank p → sp (p ++ l) = match sp l with
    | [] => [p]
    | h :: r => (p ++ h) :: r
  | [], l, _ => by
    obtain ⟨h, r, e⟩ := List.exists_cons_of_ne_nil (sp_ne l)
    rw [List.nil_append, e]; rfl
  | c :: p, l, hp => by
    have ih := sp_pre p l (fun x hx => hp x (List.mem_cons_of_mem _ hx))
    obtain ⟨h, r, e⟩ := List.exists_cons_of_ne_nil (sp_ne l)
    rw [e] at ih ⊢
    simp only [List.cons_append, sp]
    rw [if_neg (hp c (List.mem_cons_self ..)), ih]
theorem sp_word (p : List UInt8) (hp : noBlank p) : sp p = [p] := by
  have := sp_pre p [] hp
  rw [List.append_nil] at this
  rw [this]; simp [sp]
theorem sp_cut (p : List UInt8) (c : UInt8) (l : List UInt8) (hp : noBlank p) (hc : c.toNat = 32) : sp (p ++ c :: l) = p :: sp l := by
  rw [sp_pre p (c :: l) hp]
  simp only [sp]
  rw [if_pos hc]
  simp
/-- The words of a text that is not empty, if it is cut by single blanks. -/
def wordsS (l : List UInt8) : Option (List (List UInt8)) := if l = [] then some [] else if (sp l).all (fun w => !w.isEmpty) then some (sp l) else none
def mkS (l : List UInt8) : ByteArray := ⟨l.toArray⟩
theorem B_mkS (l : List UInt8) : B (mkS l) = l := by simp [B, mkS]
theorem mkS_B (s : ByteArray) : mkS (B s) = s := B_inj (B_mkS _)
theorem extract_mk (s : ByteArray) (i j : Nat) : s.extract i j = mkS (((B s).drop i).take (j - i)) := B_inj (by rw [B_extract, B_mkS])

/-- From a word's begin on. -/
def wres (out : List ByteArray) (l : List UInt8) : List ByteArray × Bool := if (sp l).all (fun w => !w.isEmpty) then (out ++ (sp l).map mkS, true) else ([], false)
theorem words_l0 (s : ByteArray) (hs : s.size ≤ 1000000000) (d : Nat) : ∀ (i : Nat) (out : List ByteArray), i + d = s.size → 0 < d → out.length + d ≤ 2000000000 →
    Ev (fun k => chars_Words.l0 k s out (i : Int)) (wres out ((B s).drop i)) := by
  induction d using Nat.strongRecOn with
  | _ d ih =>
    intro i out hi hd hlen
    have hL := B_len s
    -- the scan
    have scan : ∀ e j : Nat, j + e = s.size → i ≤ j → noBlank (((B s).drop i).take (j - i)) → Ev (fun k => chars_Words.l1 k s out (i : Int) (j : Int)) (wres out ((B s).drop i)) := by
      intro e
      induction e with
      | zero =>
        intro j hj hij hnb
        have hw : ((B s).drop i).take (j - i) = (B s).drop i := List.take_of_length_le (by rw [List.length_drop]; omega)
        rw [hw] at hnb
        have hres : wres out ((B s).drop i) = (out ++ [s.extract i s.size], true) := by
          unfold wres
          rw [sp_word _ hnb]
          have hne : (B s).drop i ≠ [] := by intro h; have := congrArg List.length h; rw [List.length_drop] at this; simp at this; omega
          rw [extract_mk, List.take_of_length_le (by rw [List.length_drop]; omega)]
          simp [hne]
        rw [hres]
        refine Ev.step (f := fun _ => some (out ++ [s.extract i s.size], true)) (fun k => ?_) (Ev.now _)
        simp only [chars_Words.l1]
        rw [if_neg (by omega), if_pos (by omega), if_pos (by omega), if_pos (by omega), Int.toNat_natCast]
      | succ e ihe =>
        intro j hj hij hnb
        have hlt : j < (B s).length := by omega
        have ej : wrap64 ((j : Int) + 1) = ((j + 1 : Nat) : Int) := by rw [w64 (by omega) (by omega)]; omega
        have edrop : (B s).drop i = ((B s).drop i).take (j - i) ++ (B s)[j] :: (B s).drop (j + 1) := by
          conv => lhs; rw [← List.take_append_drop (j - i) ((B s).drop i)]
          rw [List.drop_drop, show i + (j - i) = j by omega, List.drop_eq_getElem_cons hlt]
        by_cases hc : (B s)[j].toNat = 32
        · have hsp : sp ((B s).drop i) = ((B s).drop i).take (j - i) :: sp ((B s).drop (j + 1)) := by
            conv => lhs; rw [edrop]
            exact sp_cut _ _ _ hnb hc
          by_cases h1 : j = i
          · subst h1
            have hres : wres out ((B s).drop j) = ([], false) := by
              unfold wres; rw [hsp]; simp
            rw [hres]
            refine Ev.step (f := fun _ => some (([] : List ByteArray), false)) (fun k => ?_) (Ev.now _)
            simp only [chars_Words.l1]
            rw [if_pos (by omega), if_pos (by omega), bt_nat hlt, if_pos (by omega), if_pos trivial]
          · by_cases h2 : j + 1 = s.size
            · have hres : wres out ((B s).drop i) = ([], false) := by
                unfold wres; rw [hsp, show (B s).drop (j + 1) = [] from List.drop_eq_nil_of_le (by omega)]; simp [sp]
              rw [hres]
              refine Ev.step (f := fun _ => some (([] : List ByteArray), false)) (fun k => ?_) (Ev.now _)
              simp only [chars_Words.l1]
              rw [if_pos (by omega), if_pos (by omega), bt_nat hlt, if_pos (by omega), if_neg (by omega), w64 (by omega) (by omega), if_pos (by omega)]
            · have hn := ih (s.size - (j + 1)) (by omega) (j + 1) (out ++ [s.extract i j]) (by omega) (by omega) (by simp; omega)
              have hres : wres out ((B s).drop i) = wres (out ++ [s.extract i j]) ((B s).drop (j + 1)) := by
                unfold wres
                have hne : ((B s).drop i).take (j - i) ≠ [] := by intro h; have := congrArg List.length h; rw [List.length_take, List.length_drop] at this; simp at this; omega
                rw [hsp, List.all_cons, extract_mk]
                simp [hne]
              rw [hres]
              refine Ev.step (fun k => ?_) hn
              simp only [chars_Words.l1]
              rw [if_pos (by omega), if_pos (by omega), bt_nat hlt, if_pos (by omega), if_neg (by omega), w64 (n := (s.size : Int) - 1) (by omega) (by omega), if_neg (by omega), if_pos (by omega), if_pos (by omega), if_pos (by omega), if_pos (by omega), ej, Int.toNat_natCast, Int.toNat_natCast]
        · have hnb' : noBlank (((B s).drop i).take (j + 1 - i)) := by
            have : ((B s).drop i).take (j + 1 - i) = ((B s).drop i).take (j - i) ++ [(B s)[j]] := by
              rw [show j + 1 - i = (j - i) + 1 by omega, List.take_succ_eq_append_getElem (by rw [List.length_drop]; omega)]
              simp only [List.getElem_drop]
              congr 2
              simp only [show i + (j - i) = j by omega]
            rw [this]
            intro c hcm
            rcases List.mem_append.1 hcm with h | h
            · exact hnb c h
            · rw [List.mem_singleton.1 h]; exact hc
          refine Ev.step (fun k => ?_) (ihe (j + 1) (by omega) (by omega) hnb')
          simp only [chars_Words.l1]
          rw [if_pos (by omega), if_pos (by omega), bt_nat hlt, if_neg (by omega), ej]
    refine Ev.step (fun k => ?_) (scan d i hi (Nat.le_refl _) (by rw [Nat.sub_self, List.take_zero]; intro c hc; cases hc))
    simp only [chars_Words.l0]
    rw [if_pos (by omega)]
/-- What Words answers. -/
def wordsR (l : List UInt8) : List ByteArray × Bool := if l = [] then ([], true) else wres [] l
theorem words_ev (s : ByteArray) (hs : s.size ≤ 1000000000) : Ev (fun k => chars_Words.f k s) (wordsR (B s)) := by
  have hL := B_len s
  by_cases h : s.size = 0
  · have : B s = [] := List.eq_nil_of_length_eq_zero (by omega)
    unfold wordsR
    rw [if_pos this]
    refine Ev.step (f := fun _ => some (([] : List ByteArray), true)) (fun k => ?_) (Ev.now _)
    unfold chars_Words.f
    simp only [chars_Words.l0]
    rw [if_neg (by omega)]
  · have hne : B s ≠ [] := by intro h2; rw [h2] at hL; simp at hL; omega
    have := words_l0 s hs s.size 0 [] (by omega) (by omega) (by simp; omega)
    rw [List.drop_zero] at this
    unfold wordsR
    rw [if_neg hne]
    exact this
end Go.Proofs.YtpanmmpkdbhofaaDoor.L02
