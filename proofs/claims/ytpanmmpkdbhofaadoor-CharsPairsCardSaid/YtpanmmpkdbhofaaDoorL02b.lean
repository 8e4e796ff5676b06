/- Plain laws of layer 2, second part: which text is ahead, what two texts share, words. -/
import Derived.Test.YtpanmmpkdbhofaaDoorL02
namespace Go.Proofs.YtpanmmpkdbhofaaDoor.L02
open Go Go.RowKit Go.Proofs.YtpanmmpkdbhofaaDoor.P02 Go.Proofs.YtpanmmpkdbhofaaDoorE Go.Proofs.YtpanmmpkdbhofaaDoorW.PrintWords Go.Proofs.YtpanmmpkdbhofaaDoorW.PrintLast Go.Proofs.YtpanmmpkdbhofaaDoorW.PrintMore

/-! Compare. -/
def cmpL : List UInt8 → List UInt8 → Int
  | [], [] => 0
  | [], _ :: _ => -1
  | _ :: _, [] => 1
  | a :: s, b :: t => if a.toNat < b.toNat then -1 else if b.toNat < a.toNat then 1 else cmpL s t
theorem cmpL_neg : ∀ s t : List UInt8, cmpL t s = - cmpL s t
  | [], [] => rfl
  | [], _ :: _ => rfl
  | _ :: _, [] => rfl
  | a :: s, b :: t => by
    simp only [cmpL]
    by_cases h1 : a.toNat < b.toNat
    · rw [if_pos h1, if_neg (by omega), if_pos h1]; rfl
    · by_cases h2 : b.toNat < a.toNat
      · rw [if_pos h2, if_neg h1, if_pos h2]
      · rw [if_neg h1, if_neg h2, if_neg h2, if_neg h1]; exact cmpL_neg s t
theorem cmpL_eq : ∀ s t : List UInt8, cmpL s t = 0 ↔ s = t
  | [], [] => by simp [cmpL]
  | [], _ :: _ => by simp [cmpL]
  | _ :: _, [] => by simp [cmpL]
  | a :: s, b :: t => by
    simp only [cmpL]
    by_cases h1 : a.toNat < b.toNat
    · rw [if_pos h1]; simp; intro h; subst h; omega
    · by_cases h2 : b.toNat < a.toNat
      · rw [if_neg h1, if_pos h2]; simp; intro h; subst h; omega
      · rw [if_neg h1, if_neg h2, cmpL_eq s t]
        have : a = b := UInt8.toNat_inj.1 (by omega)
        simp [this]
theorem cmpL_range (s t : List UInt8) : cmpL s t = -1 ∨ cmpL s t = 0 ∨ cmpL s t = 1 := by
  induction s generalizing t with
  | nil => cases t <;> simp [cmpL]
  | cons a s ih =>
    cases t with
    | nil => simp [cmpL]
    | cons b t =>
      simp only [cmpL]
      split
      · simp
      · split
        · simp
        · exact ih t
theorem less_cmpL : ∀ s t : List UInt8, (if Op.bytesLess s t = true then (-1 : Int) else if s = t then 0 else 1) = cmpL s t
  | [], [] => by simp [Op.bytesLess, cmpL]
  | [], _ :: _ => by simp [Op.bytesLess, cmpL]
  | _ :: _, [] => by simp [Op.bytesLess, cmpL]
  | a :: s, b :: t => by
    have ih := less_cmpL s t
    simp only [Op.bytesLess, cmpL]
    by_cases h1 : a.toNat < b.toNat
    · have : a < b := UInt8.lt_iff_toNat_lt.2 h1
      simp [this, h1]
    · have h1' : ¬ a < b := fun h => h1 (UInt8.lt_iff_toNat_lt.1 h)
      by_cases h2 : b.toNat < a.toNat
      · have hne : ¬ a = b := fun h => by subst h; omega
        simp [h1', hne, h1, h2]
      · have he : a = b := UInt8.toNat_inj.1 (by omega)
        subst he
        simp only [Nat.lt_irrefl, if_false]
        rw [← ih]
        simp
theorem compare_f (a b : ByteArray) : chars_Compare.f a b = some (cmpL (B a) (B b)) := by
  unfold chars_Compare.f cmp_Compare_string.f
  rw [Option.bind_some, toList_B, toList_B, less_cmpL]
theorem rcompare_l0 (a b : ByteArray) (_ha : a.size ≤ 1000000000000) (_hb : b.size ≤ 1000000000000) (d : Nat) : ∀ i : Nat, i + d = a.size → i ≤ b.size →
    Ev (fun k => tendrilref02_Compare.l0 k a b (i : Int)) (cmpL ((B a).drop i) ((B b).drop i)) := by
  have stop : ∀ i : Nat, i ≥ a.size ∨ i ≥ b.size → (i ≤ a.size ∧ i ≤ b.size) → Ev (fun k => tendrilref02_Compare.j1 k a b (i : Int) false) (cmpL ((B a).drop i) ((B b).drop i)) := by
    intro i h hle
    have l1 := B_len a
    have l2 := B_len b
    refine Ev.step (f := fun _ => some (cmpL ((B a).drop i) ((B b).drop i))) (fun k => ?_) (Ev.now _)
    simp only [tendrilref02_Compare.j1]
    rw [if_neg (by decide)]
    by_cases h1 : a.size ≤ i
    · rw [show (B a).drop i = [] from List.drop_eq_nil_of_le (by omega)]
      by_cases h2 : b.size ≤ i
      · rw [show (B b).drop i = [] from List.drop_eq_nil_of_le (by omega)]
        by_cases h3 : a.size < b.size
        · exfalso; omega
        · by_cases h4 : b.size < a.size
          · exfalso; omega
          · rw [if_neg (by omega), if_neg (by omega)]; rfl
      · obtain ⟨x, t, e⟩ := List.exists_cons_of_ne_nil (l := (B b).drop i) (by intro hh; have := congrArg List.length hh; simp at this; omega)
        rw [e, if_pos (by omega)]; rfl
    · have h2 : b.size ≤ i := by omega
      rw [show (B b).drop i = [] from List.drop_eq_nil_of_le (by omega)]
      obtain ⟨x, t, e⟩ := List.exists_cons_of_ne_nil (l := (B a).drop i) (by intro hh; have := congrArg List.length hh; simp at this; omega)
      rw [e, if_neg (by omega), if_pos (by omega)]; rfl
  induction d with
  | zero =>
    intro i hi hib
    refine Ev.step (f := fun k => tendrilref02_Compare.j1 k a b (i : Int) false) (fun k => ?_) (stop i (.inl (by omega)) ⟨by omega, hib⟩)
    simp only [tendrilref02_Compare.l0]; rw [if_neg (by omega)]
  | succ d ih =>
    intro i hi hib
    refine Ev.step (f := fun k => tendrilref02_Compare.j1 k a b (i : Int) (decide ((i : Int) < (b.size : Int)))) (fun k => ?_) ?_
    · simp only [tendrilref02_Compare.l0]; rw [if_pos (by omega)]
    · by_cases h2 : (i : Int) < (b.size : Int)
      · rw [decide_eq_true h2]
        have hla : i < (B a).length := by rw [B_len]; omega
        have hlb : i < (B b).length := by rw [B_len]; omega
        have hn := ih (i + 1) (by omega) (by omega)
        rw [List.drop_eq_getElem_cons hla, List.drop_eq_getElem_cons hlb]
        simp only [cmpL]
        have e2 : wrap64 ((i : Int) + 1) = ((i + 1 : Nat) : Int) := by rw [w64 (by omega) (by omega)]; omega
        refine Ev.step (f := fun k => if (B a)[i].toNat < (B b)[i].toNat then some (-1) else if (B b)[i].toNat < (B a)[i].toNat then some 1 else tendrilref02_Compare.l0 k a b ((i + 1 : Nat) : Int)) (fun k => ?_) ?_
        · simp only [tendrilref02_Compare.j1]
          rw [if_pos trivial, if_pos (by omega), if_pos (by omega), if_pos h2, bt_nat hla, bt_nat hlb, e2]
          by_cases h3 : (B a)[i].toNat < (B b)[i].toNat
          · rw [if_pos h3, if_pos (by omega)]
          · by_cases h4 : (B b)[i].toNat < (B a)[i].toNat
            · rw [if_neg h3, if_pos h4, if_neg (by omega), if_pos (by omega)]
            · rw [if_neg h3, if_neg h4, if_neg (by omega), if_neg (by omega)]
        · by_cases h3 : (B a)[i].toNat < (B b)[i].toNat
          · rw [if_pos h3]; exact Ev.congr (fun k => by rw [if_pos h3]) (Ev.now _)
          · by_cases h4 : (B b)[i].toNat < (B a)[i].toNat
            · rw [if_neg h3, if_pos h4]; exact Ev.congr (fun k => by rw [if_neg h3, if_pos h4]) (Ev.now _)
            · rw [if_neg h3, if_neg h4]; exact Ev.congr (fun k => by rw [if_neg h3, if_neg h4]) hn
      · rw [decide_eq_false h2]; exact stop i (.inr (by omega)) ⟨by omega, hib⟩
theorem rcompare_ev (a b : ByteArray) (ha : a.size ≤ 1000000000000) (hb : b.size ≤ 1000000000000) : Ev (fun k => tendrilref02_Compare.f k a b) (cmpL (B a) (B b)) := by
  have := rcompare_l0 a b ha hb a.size 0 (by omega) (by omega)
  rw [List.drop_zero, List.drop_zero] at this
  exact this

/-! Common. -/
theorem B_extract (s : ByteArray) (i j : Nat) : B (s.extract i j) = ((B s).drop i).take (j - i) := by
  simp [B, List.take_drop, ByteArray.data_extract]
theorem bt_extract (s : ByteArray) {n i : Nat} (h : n + i < s.size) : bt (s.extract n s.size) (i : Int) = bt s ((n + i : Nat) : Int) := by
  rw [bt_nat' h, bt_nat' (by rw [ByteArray.size_extract]; omega)]
  congr 2
  simp only [B_extract, List.getElem_take, List.getElem_drop]
theorem wrap_back {z p k : Nat} (hz : z ≤ 1000000000000) (h : p + k + 1 = z) : wrap64 (wrap64 ((z : Int) - 1) - (k : Int)) = (p : Int) := by
  rw [w64 (n := (z : Int) - 1) (by omega) (by omega), w64 (by omega) (by omega)]; omega
theorem back_p (a b : ByteArray) (m n k p q : Nat) (ha : a.size ≤ 1000000000000) (hb : b.size ≤ 1000000000000) (hp : p + k + 1 = a.size) (hq : q + k + 1 = b.size) (hk : k + n < m) (hm : m ≤ 1000000000000) (j : Nat) :
    chars_Common.l1 (j + 1) a b (m : Int) (n : Int) (k : Int) = if bt a (p : Int) = bt b (q : Int) then chars_Common.l1 j a b (m : Int) (n : Int) ((k + 1 : Nat) : Int) else some ((n : Int), (k : Int)) := by
  have ek : wrap64 ((k : Int) + 1) = ((k + 1 : Nat) : Int) := by rw [w64 (by omega) (by omega)]; omega
  simp only [chars_Common.l1]
  rw [wrap_back ha hp, wrap_back hb hq, ek, w64 (n := (m : Int) - (n : Int)) (by omega) (by omega), if_pos (show (k : Int) < (m : Int) - (n : Int) by omega), if_pos (show (0 : Int) ≤ (p : Int) by omega), if_pos (show (p : Int) < (a.size : Int) by omega), if_pos (show (0 : Int) ≤ (q : Int) by omega), if_pos (show (q : Int) < (b.size : Int) by omega)]
theorem back_r (a b : ByteArray) (n k p q : Nat) (ha : a.size ≤ 1000000000000) (hb : b.size ≤ 1000000000000) (hp : p + k + 1 = a.size) (hq : q + k + 1 = b.size) (j : Nat) :
    tendrilref02_Common.l1 (j + 1) a b (n : Int) (k : Int) = if bt a (p : Int) = bt b (q : Int) then tendrilref02_Common.l1 j a b (n : Int) ((k + 1 : Nat) : Int) else some ((n : Int), (k : Int)) := by
  have ek : wrap64 ((k : Int) + 1) = ((k + 1 : Nat) : Int) := by rw [w64 (by omega) (by omega)]; omega
  simp only [tendrilref02_Common.l1]
  rw [wrap_back ha hp, wrap_back hb hq, ek, if_pos (show (k : Int) < (a.size : Int) by omega), if_pos (show (k : Int) < (b.size : Int) by omega), if_pos (show (0 : Int) ≤ (p : Int) by omega), if_pos (show (p : Int) < (a.size : Int) by omega), if_pos (show (0 : Int) ≤ (q : Int) by omega), if_pos (show (q : Int) < (b.size : Int) by omega)]
theorem back_both (a b : ByteArray) (ha : a.size ≤ 1000000000000) (hb : b.size ≤ 1000000000000) (m n : Nat) (hm : m = min a.size b.size) (hn : n ≤ m) (d : Nat) : ∀ k : Nat, k + d = m - n →
    ∃ r, Ev (fun q => chars_Common.l1 q a b (m : Int) (n : Int) (k : Int)) r ∧ Ev (fun q => tendrilref02_Common.l1 q (a.extract n a.size) (b.extract n b.size) (n : Int) (k : Int)) r := by
  have sa : (a.extract n a.size).size = a.size - n := by rw [ByteArray.size_extract]; omega
  have sb : (b.extract n b.size).size = b.size - n := by rw [ByteArray.size_extract]; omega
  induction d with
  | zero =>
    intro k hk
    refine ⟨((n : Int), (k : Int)), Ev.step (f := fun _ => some ((n : Int), (k : Int))) (fun q => ?_) (Ev.now _), Ev.step (f := fun _ => some ((n : Int), (k : Int))) (fun q => ?_) (Ev.now _)⟩
    · simp only [chars_Common.l1]; rw [w64 (by omega) (by omega), if_neg (by omega)]
    · simp only [tendrilref02_Common.l1, sa, sb]
      by_cases h : (k : Int) < ((a.size - n : Nat) : Int)
      · rw [if_pos h, if_neg (by omega)]
      · rw [if_neg h]
  | succ d ih =>
    intro k hk
    obtain ⟨r, h1, h2⟩ := ih (k + 1) (by omega)
    obtain ⟨p', hp'⟩ : ∃ p', p' + k + 1 + n = a.size := ⟨a.size - n - k - 1, by omega⟩
    obtain ⟨q', hq'⟩ : ∃ q', q' + k + 1 + n = b.size := ⟨b.size - n - k - 1, by omega⟩
    have ba := bt_extract a (n := n) (i := p') (by omega)
    have bb := bt_extract b (n := n) (i := q') (by omega)
    have c1 := back_p a b m n k (n + p') (n + q') ha hb (by omega) (by omega) (by omega) (by omega)
    have c2 := back_r (a.extract n a.size) (b.extract n b.size) n k p' q' (by omega) (by omega) (by omega) (by omega)
    rw [ba, bb] at c2
    by_cases he : bt a ((n + p' : Nat) : Int) = bt b ((n + q' : Nat) : Int)
    · exact ⟨r, Ev.step (fun q => by rw [c1, if_pos he]) h1, Ev.step (fun q => by rw [c2, if_pos he]) h2⟩
    · exact ⟨((n : Int), (k : Int)), Ev.step (f := fun _ => some ((n : Int), (k : Int))) (fun q => by rw [c1, if_neg he]) (Ev.now _), Ev.step (f := fun _ => some ((n : Int), (k : Int))) (fun q => by rw [c2, if_neg he]) (Ev.now _)⟩
theorem common_both (a b : ByteArray) (ha : a.size ≤ 1000000000000) (hb : b.size ≤ 1000000000000) : ∃ r, Ev (fun k => chars_Common.f k a b) r ∧ Ev (fun k => tendrilref02_Common.f k a b) r := by
  obtain ⟨m, hm⟩ : ∃ m, m = min a.size b.size := ⟨_, rfl⟩
  have em : mn (a.size : Int) (b.size : Int) = (m : Int) := by unfold mn; split <;> omega
  have stop : ∀ i : Nat, i ≤ m → ∃ r, Ev (fun q => chars_Common.j1 q a b (m : Int) (i : Int)) r ∧ Ev (fun q => tendrilref02_Common.j1 q a b (i : Int)) r := by
    intro i hi
    obtain ⟨r, h1, h2⟩ := back_both a b ha hb m i hm hi (m - i) 0 (by omega)
    refine ⟨r, Ev.step (fun q => ?_) h1, Ev.step (fun q => ?_) h2⟩
    · simp only [chars_Common.j1]; rfl
    · simp only [tendrilref02_Common.j1]
      rw [if_pos (by omega), if_pos (by omega), if_pos (by omega), Int.toNat_natCast]; rfl
  have main : ∀ d i : Nat, i + d = m → ∃ r, Ev (fun q => chars_Common.l0 q a b (m : Int) (i : Int)) r ∧ Ev (fun q => tendrilref02_Common.l0 q a b (i : Int)) r := by
    intro d
    induction d with
    | zero =>
      intro i hi
      obtain ⟨r, h1, h2⟩ := stop i (by omega)
      refine ⟨r, Ev.step (fun q => ?_) h1, Ev.step (fun q => ?_) h2⟩
      · simp only [chars_Common.l0]; rw [if_neg (by omega)]
      · simp only [tendrilref02_Common.l0]
        by_cases h : (i : Int) < (a.size : Int)
        · rw [if_pos h, if_neg (by omega)]
        · rw [if_neg h]
    | succ d ih =>
      intro i hi
      have ek : wrap64 ((i : Int) + 1) = ((i + 1 : Nat) : Int) := by rw [w64 (by omega) (by omega)]; omega
      by_cases he : bt a (i : Int) = bt b (i : Int)
      · obtain ⟨r, h1, h2⟩ := ih (i + 1) (by omega)
        refine ⟨r, Ev.step (fun q => ?_) h1, Ev.step (fun q => ?_) h2⟩
        · simp only [chars_Common.l0]; rw [if_pos (by omega), if_pos (by omega), if_pos (by omega), if_pos (by omega), if_pos he, ek]
        · simp only [tendrilref02_Common.l0]; rw [if_pos (by omega), if_pos (by omega), if_pos (by omega), if_pos he, ek]
      · obtain ⟨r, h1, h2⟩ := stop i (by omega)
        refine ⟨r, Ev.step (fun q => ?_) h1, Ev.step (fun q => ?_) h2⟩
        · simp only [chars_Common.l0]; rw [if_pos (by omega), if_pos (by omega), if_pos (by omega), if_pos (by omega), if_neg he]
        · simp only [tendrilref02_Common.l0]; rw [if_pos (by omega), if_pos (by omega), if_pos (by omega), if_neg he]
  obtain ⟨r, h1, h2⟩ := main m 0 (by omega)
  refine ⟨r, ?_, h2⟩
  refine Ev.congr (fun q => ?_) h1
  unfold chars_Common.f
  rw [em]; rfl
end Go.Proofs.YtpanmmpkdbhofaaDoor.L02
