/- Plain laws of layer 2, sixth part: the reference's Whole, and the laws' own example. -/
import Derived.Test.YtpanmmpkdbhofaaDoorL02e
namespace Go.Proofs.YtpanmmpkdbhofaaDoor.L02
open Go Go.RowKit Go.Proofs.YtpanmmpkdbhofaaDoor.P02 Go.Proofs.YtpanmmpkdbhofaaDoorE Go.Proofs.YtpanmmpkdbhofaaDoorW.PrintWords Go.Proofs.YtpanmmpkdbhofaaDoorW.PrintLast Go.Proofs.YtpanmmpkdbhofaaDoorW.PrintMore

def isDig (c : UInt8) : Bool := decide (48 ≤ c.toNat ∧ c.toNat ≤ 57)
def dv (v : Nat) : List UInt8 → Nat
  | [] => v
  | c :: t => dv (v * 10 + (c.toNat - 48)) t
theorem dv_mono : ∀ (t : List UInt8) (v : Nat), v ≤ dv v t
  | [], _ => Nat.le_refl _
  | c :: t, v => Nat.le_trans (by omega) (dv_mono t (v * 10 + (c.toNat - 48)))
theorem dv_dd (m : Nat) : ∀ rest, dv 0 (Lib.decDigits m ++ rest) = dv m rest := by
  induction m using Nat.strongRecOn with
  | _ m ih =>
    intro rest
    by_cases h : m < 10
    · rw [dd_lt h, List.singleton_append]
      show dv (0 * 10 + ((UInt8.ofNat (48 + m)).toNat - 48)) rest = _
      rw [dig_nat h, show 0 * 10 + (48 + m - 48) = m by omega]
    · rw [dd_ge (by omega), List.append_assoc, ih (m / 10) (by omega), List.singleton_append]
      show dv (m / 10 * 10 + ((UInt8.ofNat (48 + m % 10)).toNat - 48)) rest = _
      rw [dig_nat (show m % 10 < 10 by omega), show m / 10 * 10 + (48 + m % 10 - 48) = m by omega]
theorem isDig_iff (c : UInt8) : isDig c = true ↔ 48 ≤ c.toNat ∧ c.toNat ≤ 57 := by simp [isDig]
section
variable (s t : ByteArray) (below : Bool)
theorem rw_bad_j4 (v : Int) (p q : Int) : Ev (fun k => tendrilref02_Whole.j4 k s t below v p q p true) (0, false) :=
  Ev.step (f := fun _ => some (0, false)) (fun k => by simp only [tendrilref02_Whole.j4]; rw [if_pos trivial]) (Ev.now _)
/-- One round: a byte that is no digit, a number that is too great, or on. -/
theorem rw_round (ht : t.size ≤ 1000) {i v : Nat} (hi : i < (B t).length) (hv : v ≤ 9223372036854775808) (k : Nat) :
    tendrilref02_Whole.l0 (k + 2) s t below (-(v : Int)) (t.size : Int) (i : Int) =
      if isDig (B t)[i] = true then (if v * 10 + ((B t)[i].toNat - 48) ≤ 9223372036854775808 then tendrilref02_Whole.l0 k s t below (-((v * 10 + ((B t)[i].toNat - 48) : Nat) : Int)) (t.size : Int) ((i + 1 : Nat) : Int) else some (0, false)) else some (0, false) := by
  have hL := B_len t
  have hc := u8_lt (B t)[i]
  have ei : wrap64 ((i : Int) + 1) = ((i + 1 : Nat) : Int) := by rw [w64 (by omega) (by omega)]; omega
  have j4f : ∀ b : Bool, (b = true ↔ ¬ isDig (B t)[i] = true) → tendrilref02_Whole.j4 (k + 1) s t below (-(v : Int)) (i : Int) (t.size : Int) (i : Int) b = if isDig (B t)[i] = true then (if v * 10 + ((B t)[i].toNat - 48) ≤ 9223372036854775808 then tendrilref02_Whole.l0 k s t below (-((v * 10 + ((B t)[i].toNat - 48) : Nat) : Int)) (t.size : Int) ((i + 1 : Nat) : Int) else some (0, false)) else some (0, false) := by
    intro b hb
    simp only [tendrilref02_Whole.j4]
    by_cases hd : isDig (B t)[i] = true
    · have hbf : ¬ b = true := fun h => (hb.1 h) hd
      have hdd : 48 ≤ (B t)[i].toNat ∧ (B t)[i].toNat ≤ 57 := by simpa [isDig] using hd
      rw [if_neg hbf, if_pos (by omega), if_pos (by omega), if_pos hd, bt_nat hi, w64 (n := ((B t)[i].toNat : Int)) (by omega) (by omega), w64 (n := ((B t)[i].toNat : Int) - 48) (by omega) (by omega), ei]
      by_cases h1 : -(v : Int) < -922337203685477580
      · rw [if_pos h1, if_neg (by omega)]
      · rw [if_neg h1]
        by_cases h2 : -(v : Int) = -922337203685477580
        · rw [if_pos h2]
          by_cases h3 : ((B t)[i].toNat : Int) - 48 > 8
          · rw [if_pos h3, if_neg (by omega)]
          · rw [if_neg h3, if_pos (by omega), w64 (n := 10 * -(v : Int)) (by omega) (by omega), w64 (by omega) (by omega)]
            congr 1; omega
        · rw [if_neg h2, if_pos (by omega), w64 (n := 10 * -(v : Int)) (by omega) (by omega), w64 (by omega) (by omega)]
          congr 1; omega
    · rw [if_pos (hb.2 hd), if_neg hd]
  have e1 : k + 2 = (k + 1) + 1 := rfl
  rw [e1]
  simp only [tendrilref02_Whole.l0]
  rw [if_pos (by omega), if_pos (by omega), if_pos (by omega), bt_nat hi]
  by_cases h1 : ((B t)[i].toNat : Int) < 48
  · rw [if_pos h1]; exact j4f true (by rw [isDig_iff]; constructor <;> intro _ <;> first | rfl | omega)
  · rw [if_neg h1]; exact j4f (decide (((B t)[i].toNat : Int) > 57)) (by rw [decide_eq_true_eq, isDig_iff]; omega)
theorem Ev.two {α : Type} {g f : Nat → Option α} {r : α} (h : ∀ k, g (k + 2) = f k) (k : Ev f r) : Ev g r := by
  obtain ⟨K, k⟩ := k
  refine ⟨K + 2, fun n hn => ?_⟩
  obtain ⟨m, rfl⟩ : ∃ m, n = m + 2 := ⟨n - 2, by omega⟩
  rw [h]; exact k m (by omega)
/-- If no number has this text, it is refused, wherever the reading stands. -/
theorem rw_none (hno : ¬ ∃ n : Int, -9223372036854775808 ≤ n ∧ n ≤ 9223372036854775807 ∧ Lib.itoa n = B s) (ht : t.size ≤ 1000) (d : Nat) : ∀ i v : Nat, i + d = t.size → v ≤ 9223372036854775808 →
    Ev (fun k => tendrilref02_Whole.l0 k s t below (-(v : Int)) (t.size : Int) (i : Int)) (0, false) := by
  have hL := B_len t
  have fin : ∀ n : Int, -9223372036854775808 ≤ n → n ≤ 9223372036854775807 → Ev (fun k => (tendrilref02_Decimal.f k n).bind fun u => if u.toList = s.toList then some (n, true) else some (0, false)) (0, false) := by
    intro n h0 h1
    refine Ev.bind (rdec_ev n h0 h1) (Ev.congr (f := fun _ => some (0, false)) (fun k => ?_) (Ev.now _))
    rw [toList_B, toList_B, B_mkS, if_neg (fun e => hno ⟨n, h0, h1, e⟩)]
  have j5 : ∀ v : Nat, v ≤ 9223372036854775808 → ∀ b : Bool, (b = true ↔ (below = false ∧ v = 9223372036854775808)) → Ev (fun k => tendrilref02_Whole.j5 k s below (-(v : Int)) b) (0, false) := by
    intro v hv b hb
    by_cases h : b = true
    · exact Ev.step (f := fun _ => some (0, false)) (fun k => by simp only [tendrilref02_Whole.j5]; rw [if_pos h]) (Ev.now _)
    · have hb2 : ¬ (below = false ∧ v = 9223372036854775808) := fun h2 => h (hb.2 h2)
      by_cases hbl : below = true
      · refine Ev.step (fun k => ?_) (fin (-(v : Int)) (by omega) (by omega))
        simp only [tendrilref02_Whole.j5]; rw [if_neg h, if_pos hbl]
      · have hv2 : v ≠ 9223372036854775808 := fun h2 => hb2 ⟨by simpa using hbl, h2⟩
        refine Ev.step (fun k => ?_) (fin (v : Int) (by omega) (by omega))
        simp only [tendrilref02_Whole.j5]; rw [if_neg h, if_neg hbl, Int.neg_neg, w64 (by omega) (by omega)]
  induction d with
  | zero =>
    intro i v hi hv
    by_cases hbl : below = true
    · refine Ev.step (fun k => ?_) (j5 v hv false (by rw [hbl]; simp))
      simp only [tendrilref02_Whole.l0]; rw [if_neg (by omega), if_pos hbl]
    · refine Ev.step (fun k => ?_) (j5 v hv (-(v : Int) == -9223372036854775808) (by rw [beq_iff_eq]; simp at hbl; simp [hbl]; omega))
      simp only [tendrilref02_Whole.l0]; rw [if_neg (by omega), if_neg hbl]
  | succ d ih =>
    intro i v hi hv
    have hlt : i < (B t).length := by omega
    have hr := rw_round s t below ht hlt hv
    by_cases hd : isDig (B t)[i] = true
    · by_cases hm : v * 10 + ((B t)[i].toNat - 48) ≤ 9223372036854775808
      · exact Ev.two (fun k => by rw [hr, if_pos hd, if_pos hm]) (ih (i + 1) _ (by omega) hm)
      · exact Ev.two (f := fun _ => some (0, false)) (fun k => by rw [hr, if_pos hd, if_neg hm]) (Ev.now _)
    · exact Ev.two (f := fun _ => some (0, false)) (fun k => by rw [hr, if_neg hd]) (Ev.now _)
set_option maxHeartbeats 1000000 in
/-- If it is a number's text, it is read. -/
theorem rw_some (n : Int) (h0 : -9223372036854775808 ≤ n) (h1 : n ≤ 9223372036854775807) (he : B s = Lib.itoa n) (hbl : below = decide (n < 0)) (ht : t.size ≤ 1000) (hdg : ∀ c ∈ B t, 48 ≤ c.toNat ∧ c.toNat ≤ 57) (d : Nat) :
    ∀ i v : Nat, i + d = t.size → dv v ((B t).drop i) = n.natAbs → Ev (fun k => tendrilref02_Whole.l0 k s t below (-(v : Int)) (t.size : Int) (i : Int)) (n, true) := by
  have hL := B_len t
  have fin : Ev (fun k => (tendrilref02_Decimal.f k n).bind fun u => if u.toList = s.toList then some (n, true) else some (0, false)) (n, true) := by
    refine Ev.bind (rdec_ev n h0 h1) (Ev.congr (f := fun _ => some (n, true)) (fun k => ?_) (Ev.now _))
    rw [toList_B, toList_B, B_mkS, if_pos he.symm]
  induction d with
  | zero =>
    intro i v hi hv
    obtain rfl : v = n.natAbs := by
      rw [List.drop_eq_nil_of_le (by omega)] at hv
      exact hv
    by_cases hn : n < 0
    · have hbt : below = true := by rw [hbl]; exact decide_eq_true hn
      refine Ev.step (f := fun k => tendrilref02_Whole.j5 k s below (-(n.natAbs : Int)) false) (fun k => ?_) (Ev.step (fun k => ?_) fin)
      · simp only [tendrilref02_Whole.l0]; rw [if_neg (by omega), if_pos hbt]
      · simp only [tendrilref02_Whole.j5]; rw [if_neg (by decide), if_pos hbt, show -(n.natAbs : Int) = n by omega]
    · have hbt : ¬ below = true := by rw [hbl]; simpa using hn
      have hb : (-(n.natAbs : Int) == -9223372036854775808) = false := by rw [beq_eq_false_iff_ne]; omega
      refine Ev.step (f := fun k => tendrilref02_Whole.j5 k s below (-(n.natAbs : Int)) false) (fun k => ?_) (Ev.step (fun k => ?_) fin)
      · simp only [tendrilref02_Whole.l0]; rw [if_neg (by omega), if_neg hbt, hb]
      · simp only [tendrilref02_Whole.j5]; rw [if_neg (by decide), if_neg hbt, Int.neg_neg, show (n.natAbs : Int) = n by omega, w64 (by omega) (by omega)]
  | succ d ih =>
    intro i v hi hv
    have hlt : i < (B t).length := by omega
    rw [List.drop_eq_getElem_cons hlt] at hv
    replace hv : dv (v * 10 + ((B t)[i].toNat - 48)) ((B t).drop (i + 1)) = n.natAbs := hv
    have hm := dv_mono ((B t).drop (i + 1)) (v * 10 + ((B t)[i].toNat - 48))
    have hr := rw_round s t below ht hlt (v := v) (by omega)
    have hc := hdg (B t)[i] (List.getElem_mem hlt)
    exact Ev.two (fun k => by rw [hr, if_pos (by unfold isDig; rw [decide_eq_true_eq]; exact hc), if_pos (by omega)]) (ih (i + 1) _ (by omega) hv)
end
theorem rwhole_ev (s : ByteArray) (hs : s.size ≤ 1000) : Ev (fun k => tendrilref02_Whole.f k s) (wholeS (B s)) := by
  have hL := B_len s
  have base : ∀ (t : ByteArray) (below : Bool), t.size ≤ 1000 → Ev (fun k => tendrilref02_Whole.l0 k s t below (-((0 : Nat) : Int)) (t.size : Int) ((0 : Nat) : Int)) (wholeS (B s)) → (t.size < 1 ∨ t.size > 19 → wholeS (B s) = (0, false)) → Ev (fun k => tendrilref02_Whole.j1 k s t below) (wholeS (B s)) := by
    intro t below ht h hno
    have j2 : ∀ b : Bool, (b = true ↔ (t.size < 1 ∨ t.size > 19)) → Ev (fun k => tendrilref02_Whole.j2 k s t below b) (wholeS (B s)) := by
      intro b hb
      by_cases h1 : b = true
      · rw [hno (hb.1 h1)]
        exact Ev.step (f := fun _ => some (0, false)) (fun k => by simp only [tendrilref02_Whole.j2]; rw [if_pos h1]) (Ev.now _)
      · refine Ev.step (fun k => ?_) h
        simp only [tendrilref02_Whole.j2]; rw [if_neg h1]; rfl
    by_cases h1 : (t.size : Int) < 1
    · exact Ev.step (fun k => by simp only [tendrilref02_Whole.j1]; rw [if_pos h1]) (j2 true ⟨fun _ => .inl (by omega), fun _ => rfl⟩)
    · exact Ev.step (fun k => by simp only [tendrilref02_Whole.j1]; rw [if_neg h1]) (j2 (decide ((t.size : Int) > 19)) (by simp only [decide_eq_true_eq]; omega))
  have goj0 : ∀ b : Bool, (b = true ↔ ∃ r, B s = 45 :: r ∧ r ≠ []) → Ev (fun k => tendrilref02_Whole.j0 k s s b) (wholeS (B s)) := by
    intro b hb
    obtain ⟨t, hte, htb⟩ : ∃ t : ByteArray, t = (if b = true then s.extract 1 s.size else s) ∧ B t = (if b = true then (B s).drop 1 else B s) := by
      refine ⟨_, rfl, ?_⟩
      split
      · rw [B_extract, List.take_of_length_le (by rw [List.length_drop]; omega)]
      · rfl
    have hts : t.size ≤ 1000 := by
      have := B_len t
      rw [htb] at this
      split at this
      · rw [List.length_drop] at this; omega
      · omega
    have step : ∀ k, tendrilref02_Whole.j0 (k + 1) s s b = tendrilref02_Whole.j1 k s t b := by
      intro k
      simp only [tendrilref02_Whole.j0]
      rw [hte]
      by_cases h : b = true
      · obtain ⟨r, e, _⟩ := hb.1 h
        rw [e] at hL
        simp only [List.length_cons] at hL
        rw [if_pos h, if_pos h, if_pos (by omega)]
      · rw [if_neg h, if_neg h]
    refine Ev.step step (base t b hts ?_ ?_)
    · by_cases hex : ∃ n : Int, -9223372036854775808 ≤ n ∧ n ≤ 9223372036854775807 ∧ Lib.itoa n = B s
      · obtain ⟨n, h0, h1, he⟩ := hex
        rw [← he, whole_itoa h0 h1]
        have hbt : b = decide (n < 0) ∧ B t = Lib.decDigits n.natAbs := by
          by_cases hn : n < 0
          · have e1 : B s = 45 :: Lib.decDigits n.natAbs := by rw [← he]; unfold Lib.itoa; rw [if_pos hn]
            have hbb : b = true := hb.2 ⟨_, e1, dd_ne _⟩
            refine ⟨by rw [hbb, decide_eq_true hn], ?_⟩
            rw [htb, if_pos hbb, e1]; rfl
          · have e1 : B s = Lib.decDigits n.natAbs := by rw [← he]; unfold Lib.itoa; rw [if_neg hn, show n.toNat = n.natAbs by omega]
            have hbb : ¬ b = true := by
              intro hbt
              obtain ⟨r, e2, _⟩ := hb.1 hbt
              have := dd_digit n.natAbs 45 (by rw [← e1, e2]; exact List.mem_cons_self ..)
              revert this; decide
            refine ⟨by rw [Bool.eq_false_iff.2 hbb, decide_eq_false hn], ?_⟩
            rw [htb, if_neg hbb, e1]
        exact rw_some s t b n h0 h1 he.symm hbt.1 hts (by rw [hbt.2]; exact dd_digit _) t.size 0 0 (by omega) (by
          rw [List.drop_zero, hbt.2]
          have := dv_dd n.natAbs []
          rw [List.append_nil] at this
          rw [this]; rfl)
      · rw [whole_not hex]
        exact rw_none s t b hex hts t.size 0 0 (by omega) (by omega)
    · intro hsz
      apply whole_not
      rintro ⟨n, h0, h1, he⟩
      have ht2 := B_len t
      by_cases hn : n < 0
      · have e1 : B s = 45 :: Lib.decDigits n.natAbs := by rw [← he]; unfold Lib.itoa; rw [if_pos hn]
        have hbb : b = true := hb.2 ⟨_, e1, dd_ne _⟩
        rw [htb, if_pos hbb, e1, List.drop_succ_cons, List.drop_zero] at ht2
        have := dd_len 18 n.natAbs (by omega)
        have h2 := List.length_pos_iff.2 (dd_ne n.natAbs)
        omega
      · have e1 : B s = Lib.decDigits n.natAbs := by rw [← he]; unfold Lib.itoa; rw [if_neg hn, show n.toNat = n.natAbs by omega]
        have hbb : ¬ b = true := by
          intro hbt
          obtain ⟨r, e2, _⟩ := hb.1 hbt
          have := dd_digit n.natAbs 45 (by rw [← e1, e2]; exact List.mem_cons_self ..)
          revert this; decide
        rw [htb, if_neg hbb, e1] at ht2
        have := dd_len 18 n.natAbs (by omega)
        have h2 := List.length_pos_iff.2 (dd_ne n.natAbs)
        omega
  unfold tendrilref02_Whole.f
  by_cases h : (s.size : Int) > 1
  · have hlt : 0 < (B s).length := by omega
    have hb0 := bt_nat (s := s) (i := 0) hlt
    refine Ev.congr (fun k => by rw [if_pos h, if_pos (by omega)]) (goj0 (bt s 0 == 45) ?_)
    rw [beq_iff_eq, show (0 : Int) = ((0 : Nat) : Int) from rfl, hb0]
    obtain ⟨c, r, e⟩ := List.exists_cons_of_ne_nil (l := B s) (by intro h2; rw [h2] at hlt; simp at hlt)
    simp only [e, List.getElem_cons_zero, List.cons.injEq]
    constructor
    · intro hc
      refine ⟨r, ⟨UInt8.toNat_inj.1 (by rw [show (45 : UInt8).toNat = 45 from rfl]; omega), rfl⟩, ?_⟩
      intro hr; rw [e, hr] at hL; simp at hL; omega
    · rintro ⟨r', ⟨rfl, rfl⟩, _⟩; rfl
  · refine Ev.congr (fun k => by rw [if_neg h]) (goj0 false ?_)
    simp only [Bool.false_eq_true, false_iff]
    rintro ⟨r, e, hr⟩
    rw [e] at hL
    have := List.length_pos_iff.2 hr
    simp only [List.length_cons] at hL; omega
/-! The laws' own example. -/
theorem same_common : Ev (fun k => chars_Common.f k ⟨#[97, 98, 99, 100]⟩ ⟨#[97, 98, 120, 100]⟩) (2, 1) := by
  refine Ev.of (g := fun k => chars_Common.f k ⟨#[97, 98, 99, 100]⟩ ⟨#[97, 98, 120, 100]⟩) (fun k => chars_Common.mono _ _ k) (k := 20) ?_
  decide +kernel
theorem law_same : Ev (fun k => tendrillaw02_same.f k) true := by
  have h2 := words_ev ⟨#[97, 32, 98, 99]⟩ (by decide)
  have e2 : wordsR (B ⟨#[97, 32, 98, 99]⟩) = ([⟨#[97]⟩, ⟨#[98, 99]⟩], true) := by decide +kernel
  rw [e2] at h2
  have h3 : chars_Whole.f ⟨#[48, 48, 55]⟩ = some (0, false) := by
    unfold chars_Whole.f
    rw [if_pos (by decide)]
    congr 1
    have ha : Lib.atoiAll (B ⟨#[48, 48, 55]⟩) = .ok 7 := by decide +kernel
    unfold wholeS
    show (match Lib.atoiAll (B ⟨#[48, 48, 55]⟩) with | .ok n => if Lib.itoa n = B ⟨#[48, 48, 55]⟩ then (n, true) else (0, false) | _ => (0, false)) = _
    rw [ha]
    have : Lib.itoa 7 = [55] := by unfold Lib.itoa; rw [if_neg (by decide), show (7 : Int).toNat = 7 from rfl, dd_lt (by decide)]; rfl
    simp only
    rw [this, if_neg (by decide)]
  have h4 := texts_ev [⟨#[97]⟩, ⟨#[98, 99]⟩] (by decide)
  have h5 := tag_ev ⟨#[104, 49]⟩ (by decide)
  have e5 : namedS false (B ⟨#[104, 49]⟩) = true := by decide +kernel
  rw [e5] at h5
  have h6 := tag_ev ⟨#[49]⟩ (by decide)
  have e6 : namedS false (B ⟨#[49]⟩) = false := by decide +kernel
  rw [e6] at h6
  have h7 := decimal_f (-70) (by decide) (by decide)
  have e7 : Lib.itoa (-70) = [45, 55, 48] := by unfold Lib.itoa; rw [if_pos (by decide), show (-70 : Int).natAbs = 70 from rfl, dd_ge (by decide), dd_lt (by decide)]; rfl
  unfold tendrillaw02_same.f
  refine Ev.bind same_common (Ev.bind h2 ?_)
  refine Ev.congr (f := fun k => (tendrilplain_Texts.f k [⟨#[97]⟩, ⟨#[98, 99]⟩] [⟨#[97]⟩, ⟨#[98, 99]⟩]).bind fun t => if t = true then (chars_Tag.f k ⟨#[104, 49]⟩).bind (fun u => if u = true then (chars_Tag.f k ⟨#[49]⟩).bind (fun v => if v = true then some false else (chars_Decimal.f (-70)).bind fun z => some (z.toList == [45, 55, 48])) else some false) else some false) (fun k => ?_) (Ev.bind h4 ?_)
  · rw [h3]; rfl
  · refine Ev.congr (fun k => by rw [if_pos rfl]) (Ev.bind h5 (Ev.congr (fun k => by rw [if_pos rfl]) (Ev.bind h6 (Ev.congr (f := fun _ => some true) (fun k => ?_) (Ev.now _)))))
    rw [if_neg (by decide), h7, Option.bind_some, toList_B, B_mkS, e7]; rfl
end Go.Proofs.YtpanmmpkdbhofaaDoor.L02
