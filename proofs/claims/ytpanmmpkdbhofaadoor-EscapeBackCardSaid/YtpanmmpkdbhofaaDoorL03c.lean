/- Plain laws of layer 3, third part: spans, written texts, their lengths. -/
import Derived.Test.YtpanmmpkdbhofaaDoorL03b
namespace Go.Proofs.YtpanmmpkdbhofaaDoor.L03b
open Go Go.RowKit Go.Proofs.YtpanmmpkdbhofaaDoor.P03b Go.Proofs.YtpanmmpkdbhofaaDoorE Go.Proofs.YtpanmmpkdbhofaaDoor.L03 Go.Proofs.YtpanmmpkdbhofaaDoorW.PrintWords Go.Proofs.YtpanmmpkdbhofaaDoorW.PrintLast Go.Proofs.YtpanmmpkdbhofaaDoorW.PrintMore
theorem bt_at (s : ByteArray) (i : Nat) (h : i < s.data.toList.length) : bt s (i : Int) = ((s.data.toList[i]'h).toNat : Int) := by
  have hs : i < s.size := by rw [← dlen]; exact h
  unfold bt
  rw [dif_pos (by simpa using hs)]
  simp only [Int.toNat_natCast]
  rfl
def sgn : List UInt8 := [60, 62, 34]
def stopS (l : List UInt8) : Nat := l.findIdx fun b => sgn.contains b
theorem stop_le (l : List UInt8) : stopS l ≤ l.length := List.findIdx_le_length
theorem stop_no (l : List UInt8) : Lib.NoAny l sgn (stopS l) := by
  intro j b hj hb
  obtain ⟨hlt, rfl⟩ := List.getElem?_eq_some_iff.1 hb
  have := List.not_of_lt_findIdx hj
  simpa using this
theorem stop_hit (l : List UInt8) (h : stopS l < l.length) : sgn.contains (l[stopS l]'h) = true := List.findIdx_getElem (w := h)
theorem any_stop (l : List UInt8) : Lib.indexAny l sgn = if stopS l < l.length then (stopS l : Int) else -1 := by
  split
  · rename_i h
    exact Lib.indexAny_hit (stop_no l) (List.getElem?_eq_getElem h) (stop_hit l h)
  · rename_i h
    exact Lib.indexAny_none (by rw [show l.length = stopS l by have := stop_le l; omega]; exact stop_no l)
theorem any_f (s : ByteArray) (h : s.size ≤ 1000000) : strings_IndexAny.f s ⟨#[60, 62, 34]⟩ = some (if stopS s.data.toList < s.data.toList.length then (stopS s.data.toList : Int) else -1) := by
  unfold strings_IndexAny.f
  rw [if_pos ⟨by omega, by decide, by decide, by decide⟩]
  congr 1
  exact any_stop _
def spanS (s : ByteArray) (at_ : Int) : Int := if at_ < 0 ∨ at_ ≥ (s.size : Int) then 0 else (stopS (s.data.toList.drop at_.toNat) : Int)
theorem span_ev (s : ByteArray) (h : s.size ≤ 1000000) (at_ : Int) : Ev (fun k => escape_Span.f k s at_) (spanS s at_) := by
  unfold spanS
  by_cases h0 : at_ < 0
  · rw [if_pos (.inl h0)]
    refine Ev.congr (f := fun k => escape_Span.j0 k s at_ true) (fun k => by unfold escape_Span.f; rw [if_pos h0]) ?_
    refine Ev.step (f := fun _ => some 0) (fun k => ?_) (Ev.now _)
    simp only [escape_Span.j0, if_true]
  · by_cases h1 : at_ ≥ (s.size : Int)
    · rw [if_pos (.inr h1)]
      refine Ev.congr (f := fun k => escape_Span.j0 k s at_ true) (fun k => by unfold escape_Span.f; rw [if_neg h0, decide_eq_true h1]) ?_
      refine Ev.step (f := fun _ => some 0) (fun k => ?_) (Ev.now _)
      simp only [escape_Span.j0, if_true]
    · rw [if_neg (by omega)]
      obtain ⟨p, rfl⟩ := Int.eq_ofNat_of_zero_le (show 0 ≤ at_ by omega)
      have hx : (s.extract p s.size).data.toList = s.data.toList.drop p := by
        rw [ext_list, List.take_of_length_le (by rw [List.length_drop, dlen]; omega)]
      have hl : (s.data.toList.drop p).length = s.size - p := by rw [List.length_drop, dlen]
      have hxs : (s.extract p s.size).size = s.size - p := by rw [← dlen, hx, hl]
      have hst := stop_le (s.data.toList.drop p)
      refine Ev.congr (f := fun k => escape_Span.j0 k s (p : Int) false) (fun k => by unfold escape_Span.f; rw [if_neg h0, decide_eq_false h1]) ?_
      refine Ev.step (f := fun _ => some (stopS (s.data.toList.drop p) : Int)) (fun k => ?_) (Ev.now _)
      simp only [escape_Span.j0]
      rw [if_neg (by decide), if_pos (by omega), if_pos (by omega), Int.toNat_natCast, any_f _ (by omega), Option.bind_some, hx]
      by_cases h2 : stopS (s.data.toList.drop p) < (s.data.toList.drop p).length
      · rw [if_pos h2, if_pos (by omega)]
      · rw [if_neg h2, if_neg (by decide), L03.w64 (by omega) (by omega)]
        congr 1
        omega
theorem rspan_l0 (s : ByteArray) (h : s.size ≤ 1000000) (p : Nat) (hp : p < s.size) (d : Nat) : ∀ n : Nat, n + d = stopS (s.data.toList.drop p) → Ev (fun k => tendrilref03_Span.l0 k s (p : Int) (n : Int)) (stopS (s.data.toList.drop p) : Int) := by
  have hl : (s.data.toList.drop p).length = s.size - p := by rw [List.length_drop, dlen]
  have hst := stop_le (s.data.toList.drop p)
  have hat : ∀ n : Nat, (hn : n < (s.data.toList.drop p).length) → bt s ((p + n : Nat) : Int) = (((s.data.toList.drop p)[n]'hn).toNat : Int) := by
    intro n hn
    rw [bt_at s (p + n) (by rw [dlen]; omega)]
    simp
  induction d with
  | zero =>
    intro n hn
    obtain rfl : n = stopS (s.data.toList.drop p) := by omega
    refine Ev.step (f := fun _ => some (stopS (s.data.toList.drop p) : Int)) (fun k => ?_) (Ev.now _)
    simp only [tendrilref03_Span.l0]
    rw [L03.w64 (by omega) (by omega), show (p : Int) + (stopS (s.data.toList.drop p) : Int) = ((p + stopS (s.data.toList.drop p) : Nat) : Int) by omega]
    by_cases h2 : stopS (s.data.toList.drop p) < (s.data.toList.drop p).length
    · have hh := stop_hit _ h2
      rw [if_pos (by omega), if_pos (by omega), hat _ h2]
      generalize (s.data.toList.drop p)[stopS (s.data.toList.drop p)] = b at hh ⊢
      simp only [sgn, List.contains_cons, List.contains_nil, Bool.or_false, Bool.or_eq_true, beq_iff_eq] at hh
      rcases hh with rfl | rfl | rfl
      · rw [if_pos (by decide)]
      · rw [if_neg (by decide), if_pos (by decide)]
      · rw [if_neg (by decide), if_neg (by decide), if_pos (by decide)]
    · rw [if_neg (by omega)]
  | succ d ih =>
    intro n hn
    have h2 : n < (s.data.toList.drop p).length := by omega
    have hno := stop_no (s.data.toList.drop p) n _ (by omega) (List.getElem?_eq_getElem h2)
    refine Ev.step (f := fun k => tendrilref03_Span.l0 k s (p : Int) ((n + 1 : Nat) : Int)) (fun k => ?_) (ih (n + 1) (by omega))
    simp only [tendrilref03_Span.l0]
    rw [L03.w64 (n := (p : Int) + (n : Int)) (by omega) (by omega), show (p : Int) + (n : Int) = ((p + n : Nat) : Int) by omega, if_pos (by omega), if_pos (by omega), hat _ h2, L03.w64 (n := (n : Int) + 1) (by omega) (by omega)]
    generalize (s.data.toList.drop p)[n] = b at hno ⊢
    have hb : ∀ q : UInt8, q ∈ sgn → (b.toNat : Int) ≠ (q.toNat : Int) := by
      intro q hq e
      have : b = q := UInt8.toNat_inj.1 (by omega)
      rw [this] at hno
      rw [List.contains_iff_mem.2 hq] at hno
      exact absurd hno (by decide)
    rw [if_neg (show ¬ ((b.toNat : Int) = 60) from hb 60 (by decide)), if_neg (show ¬ ((b.toNat : Int) = 62) from hb 62 (by decide)), if_neg (show ¬ ((b.toNat : Int) = 34) from hb 34 (by decide))]
    rfl
theorem rspan_ev (s : ByteArray) (h : s.size ≤ 1000000) (at_ : Int) : Ev (fun k => tendrilref03_Span.f k s at_) (spanS s at_) := by
  unfold spanS
  by_cases h0 : at_ < 0
  · rw [if_pos (.inl h0)]
    refine Ev.congr (f := fun k => tendrilref03_Span.j0 k s at_ true) (fun k => by unfold tendrilref03_Span.f; rw [if_pos h0]) ?_
    refine Ev.step (f := fun _ => some 0) (fun k => ?_) (Ev.now _)
    simp only [tendrilref03_Span.j0, if_true]
  · by_cases h1 : at_ ≥ (s.size : Int)
    · rw [if_pos (.inr h1)]
      refine Ev.congr (f := fun k => tendrilref03_Span.j0 k s at_ true) (fun k => by unfold tendrilref03_Span.f; rw [if_neg h0, decide_eq_true h1]) ?_
      refine Ev.step (f := fun _ => some 0) (fun k => ?_) (Ev.now _)
      simp only [tendrilref03_Span.j0, if_true]
    · rw [if_neg (by omega)]
      obtain ⟨p, rfl⟩ := Int.eq_ofNat_of_zero_le (show 0 ≤ at_ by omega)
      refine Ev.congr (f := fun k => tendrilref03_Span.j0 k s (p : Int) false) (fun k => by unfold tendrilref03_Span.f; rw [if_neg h0, decide_eq_false h1]) ?_
      refine Ev.step (f := fun k => tendrilref03_Span.l0 k s (p : Int) 0) (fun k => ?_) (rspan_l0 s h p (by omega) _ 0 (Nat.zero_add _))
      simp only [tendrilref03_Span.j0]
      rw [if_neg (by decide)]
theorem cat_str (a b : List UInt8) : (⟨a.toArray⟩ : ByteArray) ++ ⟨b.toArray⟩ = ⟨(a ++ b).toArray⟩ := by
  apply ByteArray.ext
  rw [ByteArray.data_append]
  simp
theorem resc_ev (s : ByteArray) (h : s.size ≤ 1000000) (d : Nat) : ∀ i : Nat, i + d = s.size → Ev (fun k => tendrilref03_Escape.l0 k s ⟨(escS (s.data.toList.take i)).toArray⟩ (s.size : Int) (i : Int)) ⟨(escS s.data.toList).toArray⟩ := by
  induction d with
  | zero =>
    intro i hi
    obtain rfl : i = s.size := by omega
    refine Ev.step (f := fun _ => some ⟨(escS s.data.toList).toArray⟩) (fun k => ?_) (Ev.now _)
    simp only [tendrilref03_Escape.l0]
    rw [if_neg (by omega), List.take_of_length_le (by rw [dlen]; omega)]
  | succ d ih =>
    intro i hi
    have hlt : i < s.data.toList.length := by rw [dlen]; omega
    have hll := escS_take_len s i
    refine Ev.step (f := fun k => (tendrilref03_Form.f k ((s.data.toList[i]'hlt).toNat : Int)).bind fun t137 => (if (escS (s.data.toList.take i)).length + t137.size ≤ 9223372036854775807 then (tendrilref03_Escape.l0 k s (⟨(escS (s.data.toList.take i)).toArray⟩ ++ t137) (s.size : Int) ((i + 1 : Nat) : Int)) else none)) (fun k => ?_) ?_
    · simp only [tendrilref03_Escape.l0]
      rw [if_pos (by omega), if_pos (by omega), if_pos (by omega), bt_at s i hlt, sizeL, L03.w64 (by omega) (by omega)]
      rfl
    · refine Ev.bind (form_ev _) ?_
      have h6 := escB_len (s.data.toList[i]'hlt)
      simp only [sizeL, cat_str]
      exact Ev.congr (f := fun k => tendrilref03_Escape.l0 k s ⟨(escS (s.data.toList.take (i + 1))).toArray⟩ (s.size : Int) ((i + 1 : Nat) : Int)) (fun k => by rw [if_pos (by omega), ← escS_take s i hlt]) (ih (i + 1) (by omega))
theorem resc_run (s : ByteArray) (h : s.size ≤ 1000000) : Ev (fun k => tendrilref03_Escape.f k s) ⟨(escS s.data.toList).toArray⟩ := resc_ev s h s.size 0 (by omega)
theorem escB_pos (c : UInt8) : 0 < (escB c).length := by
  unfold escB
  split
  · simp
  · rename_i hf
    exact List.length_pos_iff.2 hf
theorem len_ev (s : ByteArray) (h : s.size ≤ 1000000) (d : Nat) : ∀ i : Nat, i + d = s.size → Ev (fun k => escape_Length.l0 k s (((escS (s.data.toList.take i)).length + d : Nat) : Int) (s.size : Int) (i : Int)) ((escS s.data.toList).length : Int) := by
  induction d with
  | zero =>
    intro i hi
    obtain rfl : i = s.size := by omega
    refine Ev.step (f := fun _ => some ((escS s.data.toList).length : Int)) (fun k => ?_) (Ev.now _)
    simp only [escape_Length.l0]
    rw [if_neg (by omega), List.take_of_length_le (by rw [dlen]; omega)]
    rfl
  | succ d ih =>
    intro i hi
    have hlt : i < s.data.toList.length := by rw [dlen]; omega
    have hll := escS_take_len s i
    have hE := escS_take s i hlt
    have h6 := escB_len (s.data.toList[i]'hlt)
    have h7 := escB_pos (s.data.toList[i]'hlt)
    have hc := (s.data.toList[i]'hlt).toNat_lt
    refine Ev.step (f := fun k => escape_Length.l0 k s (((escS (s.data.toList.take (i + 1))).length + d : Nat) : Int) (s.size : Int) ((i + 1 : Nat) : Int)) (fun k => ?_) (ih (i + 1) (by omega))
    simp only [escape_Length.l0]
    rw [if_pos (by omega), if_pos (by omega), if_pos (by omega), bt_at s i hlt, form_f _ (by omega), Option.bind_some, tl, hE, List.length_append, L03.w64 (n := (i : Int) + 1) (by omega) (by omega)]
    generalize hg : s.data.toList[i] = c at *
    by_cases hf : formL c.toNat = []
    · have : escB c = [c] := by unfold escB; rw [if_pos hf]
      rw [if_pos (by simpa using hf), this, List.length_singleton]
      congr 1
      omega
    · have : escB c = formL c.toNat := by unfold escB; rw [if_neg hf]
      rw [this] at h6 h7 ⊢
      rw [if_neg (by simpa using hf), sizeL, L03.w64 (n := ((formL c.toNat).length : Int) - 1) (by omega) (by omega), L03.w64 (by omega) (by omega)]
      congr 1
      omega
theorem len_run (s : ByteArray) (h : s.size ≤ 1000000) : Ev (fun k => escape_Length.f k s) ((escS s.data.toList).length : Int) := by
  have := len_ev s h s.size 0 (by omega)
  simpa [escS, escape_Length.f] using this
/-- No sign of markup stands in a written text. -/
theorem escB_clean : ∀ c : Fin 256, (escB (UInt8.ofNat c.val)).all (fun b => !sgn.contains b) = true := by decide +kernel
theorem escS_clean (l : List UInt8) : ∀ b ∈ escS l, sgn.contains b = false := by
  intro b hb
  obtain ⟨c, -, h⟩ := List.mem_flatMap.1 hb
  have := escB_clean ⟨c.toNat, c.toNat_lt⟩
  simp only [UInt8.ofNat_toNat] at this
  simpa using List.all_eq_true.1 this b h
theorem escS_stop (l : List UInt8) : stopS (escS l) = (escS l).length := by
  have h1 := stop_le (escS l)
  rcases Nat.lt_or_ge (stopS (escS l)) (escS l).length with h | h
  · have h2 := stop_hit _ h
    rw [escS_clean l _ (List.getElem_mem h)] at h2
    cases h2
  · omega
theorem law_same : P03b.tendrillaw03_same.f = some true := by
  unfold P03b.tendrillaw03_same.f
  rw [Pure.un_f _ (by decide), Pure.un_f _ (by decide), Pure.esc_f _ (by decide)]
  simp only [un_same1, un_same2, esc_same, Option.bind_some]
  rw [tl, tl, if_pos rfl, if_pos rfl, if_pos trivial, if_pos trivial, if_pos trivial]; rfl
end Go.Proofs.YtpanmmpkdbhofaaDoor.L03b
