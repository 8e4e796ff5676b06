/- Plain laws of layer 3, second part: what is written is read; the reference's answers. -/
import Derived.Test.YtpanmmpkdbhofaaDoorX03bx3
import Derived.Test.YtpanmmpkdbhofaaDoorPureEscapeOnly
namespace Go.Proofs.YtpanmmpkdbhofaaDoor.L03b
open Go Go.RowKit Go.Proofs.YtpanmmpkdbhofaaDoor.P03b Go.Proofs.YtpanmmpkdbhofaaDoorE Go.Proofs.YtpanmmpkdbhofaaDoor.L03 Go.Proofs.YtpanmmpkdbhofaaDoorW.PrintWords Go.Proofs.YtpanmmpkdbhofaaDoorW.PrintLast Go.Proofs.YtpanmmpkdbhofaaDoorW.PrintMore
theorem ref_form (c : Nat) (hc : c = 38 ∨ c = 60 ∨ c = 62 ∨ c = 34 ∨ c = 127 ∨ c < 32) (rest : List UInt8) : refS (formL c ++ rest) = ((c : Int), ((formL c).length : Int)) := by
  have h : c = 0 ∨ c = 1 ∨ c = 2 ∨ c = 3 ∨ c = 4 ∨ c = 5 ∨ c = 6 ∨ c = 7 ∨ c = 8 ∨ c = 9 ∨ c = 10 ∨ c = 11 ∨ c = 12 ∨ c = 13 ∨ c = 14 ∨ c = 15 ∨ c = 16 ∨ c = 17 ∨ c = 18 ∨ c = 19 ∨ c = 20 ∨ c = 21 ∨ c = 22 ∨ c = 23 ∨ c = 24 ∨ c = 25 ∨ c = 26 ∨ c = 27 ∨ c = 28 ∨ c = 29 ∨ c = 30 ∨ c = 31 ∨ c = 34 ∨ c = 38 ∨ c = 60 ∨ c = 62 ∨ c = 127 := by omega
  rcases h with rfl | rfl | rfl | rfl | rfl | rfl | rfl | rfl | rfl | rfl | rfl | rfl | rfl | rfl | rfl | rfl | rfl | rfl | rfl | rfl | rfl | rfl | rfl | rfl | rfl | rfl | rfl | rfl | rfl | rfl | rfl | rfl | rfl | rfl | rfl | rfl | rfl
  · have h : refS (formL 0 ++ rest) = (((0 : Nat) : Int), ((formL 0).length : Int)) := by kernel_rfl
    exact h
  · have h : refS (formL 1 ++ rest) = (((1 : Nat) : Int), ((formL 1).length : Int)) := by kernel_rfl
    exact h
  · have h : refS (formL 2 ++ rest) = (((2 : Nat) : Int), ((formL 2).length : Int)) := by kernel_rfl
    exact h
  · have h : refS (formL 3 ++ rest) = (((3 : Nat) : Int), ((formL 3).length : Int)) := by kernel_rfl
    exact h
  · have h : refS (formL 4 ++ rest) = (((4 : Nat) : Int), ((formL 4).length : Int)) := by kernel_rfl
    exact h
  · have h : refS (formL 5 ++ rest) = (((5 : Nat) : Int), ((formL 5).length : Int)) := by kernel_rfl
    exact h
  · have h : refS (formL 6 ++ rest) = (((6 : Nat) : Int), ((formL 6).length : Int)) := by kernel_rfl
    exact h
  · have h : refS (formL 7 ++ rest) = (((7 : Nat) : Int), ((formL 7).length : Int)) := by kernel_rfl
    exact h
  · have h : refS (formL 8 ++ rest) = (((8 : Nat) : Int), ((formL 8).length : Int)) := by kernel_rfl
    exact h
  · have h : refS (formL 9 ++ rest) = (((9 : Nat) : Int), ((formL 9).length : Int)) := by kernel_rfl
    exact h
  · have h : refS (formL 10 ++ rest) = (((10 : Nat) : Int), ((formL 10).length : Int)) := by kernel_rfl
    exact h
  · have h : refS (formL 11 ++ rest) = (((11 : Nat) : Int), ((formL 11).length : Int)) := by kernel_rfl
    exact h
  · have h : refS (formL 12 ++ rest) = (((12 : Nat) : Int), ((formL 12).length : Int)) := by kernel_rfl
    exact h
  · have h : refS (formL 13 ++ rest) = (((13 : Nat) : Int), ((formL 13).length : Int)) := by kernel_rfl
    exact h
  · have h : refS (formL 14 ++ rest) = (((14 : Nat) : Int), ((formL 14).length : Int)) := by kernel_rfl
    exact h
  · have h : refS (formL 15 ++ rest) = (((15 : Nat) : Int), ((formL 15).length : Int)) := by kernel_rfl
    exact h
  · have h : refS (formL 16 ++ rest) = (((16 : Nat) : Int), ((formL 16).length : Int)) := by kernel_rfl
    exact h
  · have h : refS (formL 17 ++ rest) = (((17 : Nat) : Int), ((formL 17).length : Int)) := by kernel_rfl
    exact h
  · have h : refS (formL 18 ++ rest) = (((18 : Nat) : Int), ((formL 18).length : Int)) := by kernel_rfl
    exact h
  · have h : refS (formL 19 ++ rest) = (((19 : Nat) : Int), ((formL 19).length : Int)) := by kernel_rfl
    exact h
  · have h : refS (formL 20 ++ rest) = (((20 : Nat) : Int), ((formL 20).length : Int)) := by kernel_rfl
    exact h
  · have h : refS (formL 21 ++ rest) = (((21 : Nat) : Int), ((formL 21).length : Int)) := by kernel_rfl
    exact h
  · have h : refS (formL 22 ++ rest) = (((22 : Nat) : Int), ((formL 22).length : Int)) := by kernel_rfl
    exact h
  · have h : refS (formL 23 ++ rest) = (((23 : Nat) : Int), ((formL 23).length : Int)) := by kernel_rfl
    exact h
  · have h : refS (formL 24 ++ rest) = (((24 : Nat) : Int), ((formL 24).length : Int)) := by kernel_rfl
    exact h
  · have h : refS (formL 25 ++ rest) = (((25 : Nat) : Int), ((formL 25).length : Int)) := by kernel_rfl
    exact h
  · have h : refS (formL 26 ++ rest) = (((26 : Nat) : Int), ((formL 26).length : Int)) := by kernel_rfl
    exact h
  · have h : refS (formL 27 ++ rest) = (((27 : Nat) : Int), ((formL 27).length : Int)) := by kernel_rfl
    exact h
  · have h : refS (formL 28 ++ rest) = (((28 : Nat) : Int), ((formL 28).length : Int)) := by kernel_rfl
    exact h
  · have h : refS (formL 29 ++ rest) = (((29 : Nat) : Int), ((formL 29).length : Int)) := by kernel_rfl
    exact h
  · have h : refS (formL 30 ++ rest) = (((30 : Nat) : Int), ((formL 30).length : Int)) := by kernel_rfl
    exact h
  · have h : refS (formL 31 ++ rest) = (((31 : Nat) : Int), ((formL 31).length : Int)) := by kernel_rfl
    exact h
  · have h : refS (formL 34 ++ rest) = (((34 : Nat) : Int), ((formL 34).length : Int)) := by kernel_rfl
    exact h
  · have h : refS (formL 38 ++ rest) = (((38 : Nat) : Int), ((formL 38).length : Int)) := by kernel_rfl
    exact h
  · have h : refS (formL 60 ++ rest) = (((60 : Nat) : Int), ((formL 60).length : Int)) := by kernel_rfl
    exact h
  · have h : refS (formL 62 ++ rest) = (((62 : Nat) : Int), ((formL 62).length : Int)) := by kernel_rfl
    exact h
  · have h : refS (formL 127 ++ rest) = (((127 : Nat) : Int), ((formL 127).length : Int)) := by kernel_rfl
    exact h
theorem step_form (c : UInt8) (rest : List UInt8) : stepU (escB c ++ rest) = (c, (escB c).length) := by
  unfold escB
  by_cases hf : formL c.toNat = []
  · rw [if_pos hf]
    have hn : c.toNat ≠ 38 := by intro e; rw [e] at hf; exact absurd hf (by decide)
    simp only [List.cons_append, List.nil_append, stepU]
    rw [if_neg hn, if_pos hf]
    rfl
  · rw [if_neg hf]
    have hc : c.toNat = 38 ∨ c.toNat = 60 ∨ c.toNat = 62 ∨ c.toNat = 34 ∨ c.toNat = 127 ∨ c.toNat < 32 := by
      unfold formL at hf
      by_cases h1 : c.toNat = 38
      · exact .inl h1
      · rw [if_neg h1] at hf
        by_cases h2 : c.toNat = 60
        · exact .inr (.inl h2)
        · rw [if_neg h2] at hf
          by_cases h3 : c.toNat = 62
          · exact .inr (.inr (.inl h3))
          · rw [if_neg h3] at hf
            by_cases h4 : c.toNat = 34
            · exact .inr (.inr (.inr (.inl h4)))
            · rw [if_neg h4] at hf
              by_cases h5 : c.toNat = 127 ∨ c.toNat < 32
              · exact .inr (.inr (.inr (.inr h5)))
              · rw [if_neg h5] at hf
                exact absurd rfl hf
    have hr := ref_form c.toNat hc rest
    obtain ⟨t, ht⟩ : ∃ t, formL c.toNat = 38 :: t := by
      unfold formL
      rcases hc with h | h | h | h | h | h
      · rw [if_pos h]; exact ⟨_, rfl⟩
      · rw [if_neg (by omega), if_pos h]; exact ⟨_, rfl⟩
      · rw [if_neg (by omega), if_neg (by omega), if_pos h]; exact ⟨_, rfl⟩
      · rw [if_neg (by omega), if_neg (by omega), if_neg (by omega), if_pos h]; exact ⟨_, rfl⟩
      · rw [if_neg (by omega), if_neg (by omega), if_neg (by omega), if_neg (by omega), if_pos (.inl h)]; exact ⟨_, rfl⟩
      · rw [if_neg (by omega), if_neg (by omega), if_neg (by omega), if_neg (by omega), if_pos (.inr h)]; exact ⟨_, rfl⟩
    rw [ht] at hr ⊢
    simp only [List.cons_append, stepU]
    rw [List.cons_append] at hr
    rw [if_pos (by decide), hr]
    simp
/-- What is written is read, whatever follows. -/
theorem un_escS : ∀ (l : List UInt8) (pos : Nat) (out : List UInt8), unS (escS l) pos out = (out ++ l, 0, 0)
  | [], pos, out => by
    rw [show escS [] = [] from rfl, unS_nil, List.append_nil]
  | c :: t, pos, out => by
    have he : escS (c :: t) = escB c ++ escS t := by simp [escS]
    have hp : escB c ≠ [] := by
      unfold escB
      split
      · simp
      · assumption
    have hl : 0 < (escB c).length := List.length_pos_iff.2 hp
    rw [he, unS_cons _ (by intro e; exact hp (List.append_eq_nil_iff.1 e).1), step_form, if_neg (by simp only; omega)]
    simp only
    rw [List.drop_left, un_escS t]
    simp
theorem form_all : ∀ c : Fin 256, tendrilref03_Form.f 8 (c.val : Int) = some ⟨(escB (UInt8.ofNat c.val)).toArray⟩ := by decide +kernel
theorem form_ev (c : UInt8) : Ev (fun k => tendrilref03_Form.f k (c.toNat : Int)) ⟨(escB c).toArray⟩ := by
  have h := form_all ⟨c.toNat, c.toNat_lt⟩
  simp only [UInt8.ofNat_toNat] at h
  exact Ev.of (fun k => tendrilref03_Form.mono _ k) h
theorem starts_f (s t : ByteArray) : tendrilref03_starts.f s t = some (t.data.toList.isPrefixOf s.data.toList) := by
  have h1 := dlen s
  have h2 := dlen t
  unfold tendrilref03_starts.f
  by_cases h : (s.size : Int) ≥ (t.size : Int)
  · rw [if_pos h, if_pos (by omega), if_pos (by omega), tl, tl, ext_list, List.drop_zero, Nat.sub_zero, Int.toNat_natCast]
    congr 1
    rw [Bool.eq_iff_iff, beq_iff_eq, List.isPrefixOf_iff_prefix, List.prefix_iff_eq_take, h2]
    exact eq_comm
  · rw [if_neg h]
    congr 1
    symm
    rw [Bool.eq_false_iff, ne_eq, List.isPrefixOf_iff_prefix]
    intro hp
    have := hp.length_le
    omega
theorem one_step (s : ByteArray) (n : Nat) (hn : n < 256) (R : Int) (h : Ev (fun k => if (escB (UInt8.ofNat n)).isPrefixOf s.data.toList = true then some (n : Int) else tendrilref03_one.l0 k s ((n + 1 : Nat) : Int)) R) : Ev (fun k => tendrilref03_one.l0 k s (n : Int)) R := by
  refine Ev.step (f := fun k => (tendrilref03_Form.f k (n : Int)).bind fun t119 => ((tendrilref03_starts.f s t119).bind fun t120 => (if t120 = true then (some (n : Int)) else (tendrilref03_one.l0 k s ((n + 1 : Nat) : Int))))) (fun k => ?_) ?_
  · simp only [tendrilref03_one.l0]
    rw [if_pos (by omega), show (n : Int) % 256 = (n : Int) by omega, L03.w64 (by omega) (by omega)]
    rfl
  · have hf := form_ev (UInt8.ofNat n)
    rw [show ((UInt8.ofNat n).toNat : Int) = (n : Int) by simp; omega] at hf
    refine Ev.bind hf ?_
    simp only [starts_f, Option.bind_some]
    exact h
theorem one_run (s : ByteArray) (R : Int) : ∀ n : Nat, n ≤ 256 → (∀ c : Nat, c < n → (escB (UInt8.ofNat c)).isPrefixOf s.data.toList = false) → Ev (fun k => tendrilref03_one.l0 k s (n : Int)) R → Ev (fun k => tendrilref03_one.l0 k s 0) R
  | 0, _, _, h => h
  | n + 1, hn, hno, h => by
    refine one_run s R n (by omega) (fun c hc => hno c (by omega)) (one_step s n (by omega) R ?_)
    rw [hno n (by omega)]
    simpa using h
/-- At most one form begins a text, and the reading finds it. -/
theorem pre_step (l : List UInt8) (c : UInt8) (h : (escB c).isPrefixOf l = true) : stepU l = (c, (escB c).length) := by
  obtain ⟨rest, rfl⟩ := List.isPrefixOf_iff_prefix.1 h
  exact step_form c rest
theorem one_hit (s : ByteArray) (hs : (stepU s.data.toList).2 ≠ 0) : Ev (fun k => tendrilref03_one.f k s) ((stepU s.data.toList).1.toNat : Int) := by
  obtain ⟨h1, h2⟩ := step_esc s.data.toList hs
  generalize hst : stepU s.data.toList = st at hs h1 h2 ⊢
  obtain ⟨c, n⟩ := st
  simp only at hs h1 h2 ⊢
  have hp : (escB c).isPrefixOf s.data.toList = true := by
    rw [List.isPrefixOf_iff_prefix, h2]
    exact List.take_prefix _ _
  refine one_run s _ c.toNat (Nat.le_of_lt c.toNat_lt) (fun b hb => ?_) (one_step s c.toNat c.toNat_lt _ ?_)
  · rw [Bool.eq_false_iff]
    intro hq
    have := pre_step _ _ hq
    rw [hst] at this
    injection this with this
    have h3 := congrArg UInt8.toNat this
    have hcl := c.toNat_lt
    simp at h3
    omega
  · rw [UInt8.ofNat_toNat]
    simp only [hp, if_true]
    exact Ev.now _
theorem one_miss (s : ByteArray) (hs : (stepU s.data.toList).2 = 0) : Ev (fun k => tendrilref03_one.f k s) (-1) := by
  refine one_run s _ 256 (Nat.le_refl _) (fun b hb => ?_) ?_
  · rw [Bool.eq_false_iff]
    intro hq
    have := pre_step _ _ hq
    rw [this] at hs
    have hp : escB (UInt8.ofNat b) ≠ [] := by
      unfold escB
      split
      · simp
      · assumption
    have := List.length_pos_iff.2 hp
    simp only at hs
    omega
  · refine Ev.step (f := fun _ => some (-1)) (fun k => ?_) (Ev.now _)
    simp only [tendrilref03_one.l0]
    rw [if_neg (by decide)]
/-- Bytes as numbers. -/
def ints (l : List UInt8) : List Int := l.map fun b => (b.toNat : Int)
theorem str_ints (l : List UInt8) : strOfNums (ints l) = ⟨l.toArray⟩ := by
  unfold strOfNums ints
  rw [List.map_map]
  have : l.map ((fun n : Int => UInt8.ofNat n.toNat) ∘ fun b : UInt8 => (b.toNat : Int)) = l := by
    conv => rhs; rw [← List.map_id l]
    refine List.map_congr_left fun b _ => ?_
    simp
  rw [this]
theorem un_ev (s : ByteArray) (hs : s.size ≤ 1000000) (d : Nat) : ∀ (pos : Nat) (o : List UInt8), s.size - pos ≤ d → pos ≤ s.size → o.length ≤ pos →
    Ev (fun k => tendrilref03_Unescape.l0 k s (ints o) (pos : Int)) (⟨(unS (s.data.toList.drop pos) pos o).1.toArray⟩, (unS (s.data.toList.drop pos) pos o).2.1, (unS (s.data.toList.drop pos) pos o).2.2) := by
  induction d with
  | zero =>
    intro pos o hd hp ho
    rw [List.drop_of_length_le (by rw [dlen]; omega), unS_nil]
    refine Ev.step (f := fun _ => some (⟨o.toArray⟩, 0, 0)) (fun k => ?_) (Ev.now _)
    simp only [tendrilref03_Unescape.l0]
    rw [if_neg (by omega), str_ints]
  | succ d ih =>
    intro pos o hd hp ho
    by_cases hlt : pos < s.size
    · have hne : s.data.toList.drop pos ≠ [] := by
        intro e
        have := congrArg List.length e
        rw [List.length_drop, dlen, List.length_nil] at this
        omega
      have hx : (s.extract pos s.size).data.toList = s.data.toList.drop pos := by
        rw [ext_list, List.take_of_length_le (by rw [List.length_drop, dlen]; omega)]
      have hlen : (s.data.toList.drop pos).length = s.size - pos := by rw [List.length_drop, dlen]
      rw [unS_cons _ hne]
      refine Ev.step (f := fun k => (tendrilref03_one.f k (s.extract pos s.size)).bind fun t121 => (if t121 < 0 then (some ((⟨#[]⟩ : ByteArray), (pos : Int), 2)) else ((tendrilref03_Form.f k (t121 % 256)).bind fun t125 => (tendrilref03_Unescape.l0 k s (ints o ++ [t121 % 256]) (wrap64 ((pos : Int) + (t125.size : Int))))))) (fun k => ?_) ?_
      · simp only [tendrilref03_Unescape.l0]
        rw [if_pos (by omega), if_pos (by omega), if_pos (by omega), Int.toNat_natCast]
        congr 1
        funext t
        split
        · rfl
        · rw [if_pos (by unfold ints; rw [List.length_map]; omega)]
      · by_cases h0 : (stepU (s.data.toList.drop pos)).2 = 0
        · rw [if_pos h0]
          refine Ev.bind (one_miss _ (by rw [hx]; exact h0)) ?_
          simp only [show ((-1 : Int) < 0) = True from eq_true (by decide), if_true]
          exact Ev.now _
        · rw [if_neg h0]
          obtain ⟨h1, h2⟩ := step_esc _ h0
          have hq := one_hit (s.extract pos s.size) (by rw [hx]; exact h0)
          rw [hx] at hq
          generalize stepU (s.data.toList.drop pos) = st at h0 h1 h2 hq ⊢
          obtain ⟨c, n⟩ := st
          simp only at h0 h1 h2 hq ⊢
          have hc := c.toNat_lt
          have hm : ((c.toNat : Int)) % 256 = (c.toNat : Int) := by omega
          refine Ev.bind hq ?_
          simp only [show ((c.toNat : Int) < 0) = False from eq_false (by omega), if_false, hm]
          refine Ev.bind (form_ev c) ?_
          have hsz : (⟨(escB c).toArray⟩ : ByteArray).size = n := by
            rw [sizeL, h2, List.length_take]; omega
          simp only [hsz]
          rw [L03.w64 (by omega) (by omega), show (pos : Int) + (n : Int) = ((pos + n : Nat) : Int) by omega, show ints o ++ [(c.toNat : Int)] = ints (o ++ [c]) by simp [ints], List.drop_drop]
          exact ih (pos + n) (o ++ [c]) (by omega) (by omega) (by rw [List.length_append, List.length_singleton]; omega)
    · have : pos = s.size := by omega
      subst this
      rw [List.drop_of_length_le (by rw [dlen]; omega), unS_nil]
      refine Ev.step (f := fun _ => some (⟨o.toArray⟩, 0, 0)) (fun k => ?_) (Ev.now _)
      simp only [tendrilref03_Unescape.l0]
      rw [if_neg (by omega), str_ints]
theorem run_ev (s : ByteArray) (hs : s.size ≤ 1000000) : Ev (fun k => tendrilref03_Unescape.f k s) (⟨(unS s.data.toList 0 []).1.toArray⟩, (unS s.data.toList 0 []).2.1, (unS s.data.toList 0 []).2.2) := un_ev s hs s.size 0 [] (by omega) (by omega) (by simp)
end Go.Proofs.YtpanmmpkdbhofaaDoor.L03b
