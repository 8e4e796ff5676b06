/- Plain laws of layer 2, fifth part: numbers in tens. -/
import Derived.Test.YtpanmmpkdbhofaaDoorL02d
namespace Go.Proofs.YtpanmmpkdbhofaaDoor.L02
open Go Go.RowKit Go.Proofs.YtpanmmpkdbhofaaDoor.P02 Go.Proofs.YtpanmmpkdbhofaaDoorE Go.Proofs.YtpanmmpkdbhofaaDoorW.PrintWords Go.Proofs.YtpanmmpkdbhofaaDoorW.PrintLast Go.Proofs.YtpanmmpkdbhofaaDoorW.PrintMore

theorem dd_lt {m : Nat} (h : m < 10) : Lib.decDigits m = [UInt8.ofNat (48 + m)] := by rw [Lib.decDigits, dif_pos h]
theorem dd_ge {m : Nat} (h : 10 ≤ m) : Lib.decDigits m = Lib.decDigits (m / 10) ++ [UInt8.ofNat (48 + m % 10)] := by rw [Lib.decDigits, dif_neg (by omega)]
theorem dig_nat {d : Nat} (h : d < 10) : (UInt8.ofNat (48 + d)).toNat = 48 + d := by simp; omega
theorem dd_digit : ∀ (m : Nat), ∀ c ∈ Lib.decDigits m, 48 ≤ c.toNat ∧ c.toNat ≤ 57 := by
  intro m
  induction m using Nat.strongRecOn with
  | _ m ih =>
    intro c hc
    by_cases h : m < 10
    · rw [dd_lt h, List.mem_singleton] at hc
      rw [hc, dig_nat h]; omega
    · rw [dd_ge (by omega)] at hc
      rcases List.mem_append.1 hc with h1 | h1
      · exact ih (m / 10) (by omega) c h1
      · rw [List.mem_singleton] at h1
        rw [h1, dig_nat (by omega)]; omega
theorem dd_ne (m : Nat) : Lib.decDigits m ≠ [] := by
  by_cases h : m < 10
  · rw [dd_lt h]; simp
  · rw [dd_ge (by omega)]; simp
theorem dd_len : ∀ (k m : Nat), m < 10 ^ (k + 1) → (Lib.decDigits m).length ≤ k + 1
  | 0, m, h => by rw [dd_lt (by simpa using h)]; simp
  | k + 1, m, h => by
    by_cases h1 : m < 10
    · rw [dd_lt h1]; simp
    · have h2 : 10 ^ (k + 1 + 1) = 10 * 10 ^ (k + 1) := by rw [Nat.pow_succ, Nat.mul_comm]
      have := dd_len k (m / 10) (by omega)
      rw [dd_ge (by omega), List.length_append, List.length_singleton]; omega
theorem parse_dd (m : Nat) : ∀ (rest : List UInt8), m < 18446744073709551616 → Lib.parseUint10 0 (Lib.decDigits m ++ rest) = Lib.parseUint10 m rest := by
  induction m using Nat.strongRecOn with
  | _ m ih =>
    intro rest hm
    by_cases h : m < 10
    · rw [dd_lt h, List.singleton_append]
      simp only [Lib.parseUint10, dig_nat h]
      rw [if_pos (by omega), if_neg (by omega), if_neg (by omega)]
      congr 1; omega
    · rw [dd_ge (by omega), List.append_assoc, ih (m / 10) (by omega) _ (by omega), List.singleton_append]
      simp only [Lib.parseUint10, dig_nat (show m % 10 < 10 by omega)]
      rw [if_pos (by omega), if_neg (by omega), if_neg (by omega)]
      congr 1; omega
theorem atoi_itoa {n : Int} (h0 : -9223372036854775808 ≤ n) (h1 : n ≤ 9223372036854775807) : Lib.atoiAll (Lib.itoa n) = .ok n := by
  have pm : ∀ m : Nat, m < 18446744073709551616 → Lib.parseMag (Lib.decDigits m) = .ok m := by
    intro m hm
    unfold Lib.parseMag
    rw [if_neg (dd_ne m)]
    have := parse_dd m [] hm
    rw [List.append_nil] at this
    rw [this]; rfl
  unfold Lib.itoa
  by_cases hn : n < 0
  · rw [if_pos hn]
    unfold Lib.atoiAll
    simp only
    rw [if_pos (by decide), pm n.natAbs (by omega)]
    simp only
    have h45 : (45 : UInt8).toNat = 45 := rfl
    rw [if_neg (by rw [h45]; simp), if_neg (by omega), if_pos (by rw [h45])]
    congr 1; omega
  · rw [if_neg hn]
    obtain ⟨c, r, e⟩ := List.exists_cons_of_ne_nil (dd_ne n.toNat)
    have hc := dd_digit n.toNat c (by rw [e]; exact List.mem_cons_self ..)
    have hp := pm n.toNat (by omega)
    rw [e] at hp ⊢
    unfold Lib.atoiAll
    simp only
    rw [if_neg (by omega), hp]
    simp only
    rw [if_neg (by omega), if_neg (by omega), if_neg (by omega)]
    congr 1; omega
theorem whole_itoa {n : Int} (h0 : -9223372036854775808 ≤ n) (h1 : n ≤ 9223372036854775807) : wholeS (Lib.itoa n) = (n, true) := by
  unfold wholeS; rw [atoi_itoa h0 h1]; simp
theorem whole_not {l : List UInt8} (h : ¬ ∃ n : Int, -9223372036854775808 ≤ n ∧ n ≤ 9223372036854775807 ∧ Lib.itoa n = l) : wholeS l = (0, false) := by
  unfold wholeS
  cases ha : Lib.atoiAll l with
  | ok n =>
    have hn := atoi_range ha
    simp only
    rw [if_neg (fun e => h ⟨n, hn.1, hn.2, e⟩)]
  | range => rfl
  | _ => rfl

/-! The reference's Decimal. -/
theorem strOf_one (v : Int) : strOfNums [v] = mkS [UInt8.ofNat v.toNat] := by
  apply B_inj; rw [B_mkS]; simp [strOfNums, B]
theorem rdec_l0 (below : Bool) (sg : Int) (hsg : sg = 1 ∨ sg = -1) (m : Nat) : ∀ (x3 : ByteArray), 0 < m → m ≤ 9223372036854775808 → 2 * x3.size + m ≤ 9223372036854775808 + 1000 →
    Ev (fun k => tendrilref02_Decimal.l0 k (sg * (m : Int)) x3 below) (mkS ((if below = true then [45] else []) ++ Lib.decDigits m ++ B x3)) := by
  induction m using Nat.strongRecOn with
  | _ m ih =>
    intro x3 hm hmx hsz
    have et : Int.tmod (sg * (m : Int)) 10 = sg * ((m % 10 : Nat) : Int) := by
      rcases hsg with rfl | rfl
      · rw [Int.one_mul, Int.one_mul, show (10 : Int) = ((10 : Nat) : Int) from rfl, ← Int.ofNat_tmod]
      · rw [show (-1 : Int) * (m : Int) = -(m : Int) by omega, Int.neg_tmod, show (10 : Int) = ((10 : Nat) : Int) from rfl, ← Int.ofNat_tmod]; omega
    have ed : Int.tdiv (sg * (m : Int)) 10 = sg * ((m / 10 : Nat) : Int) := by
      rcases hsg with rfl | rfl
      · rw [Int.one_mul, Int.one_mul, show (10 : Int) = ((10 : Nat) : Int) from rfl, ← Int.ofNat_tdiv]
      · rw [show (-1 : Int) * (m : Int) = -(m : Int) by omega, Int.neg_tdiv, show (10 : Int) = ((10 : Nat) : Int) from rfl, ← Int.ofNat_tdiv]; omega
    have ew : wrap64 (sg * ((m / 10 : Nat) : Int)) = sg * ((m / 10 : Nat) : Int) := by rcases hsg with rfl | rfl <;> (rw [w64 (by omega) (by omega)])
    have e10 : m % 10 < 10 := Nat.mod_lt _ (by decide)
    have sz1 : (mkS [UInt8.ofNat (48 + m % 10)]).size = 1 := rfl
    have step : ∀ k, tendrilref02_Decimal.l0 (k + 1) (sg * (m : Int)) x3 below = tendrilref02_Decimal.l0 k (sg * ((m / 10 : Nat) : Int)) (mkS [UInt8.ofNat (48 + m % 10)] ++ x3) below := by
      intro k
      simp only [tendrilref02_Decimal.l0]
      rw [et, ed, ew, if_neg (by rcases hsg with rfl | rfl <;> omega)]
      have hb : (48 + ((m % 10 : Nat) : Int)) % 256 = ((48 + m % 10 : Nat) : Int) := by omega
      by_cases hneg : sg * ((m % 10 : Nat) : Int) < 0
      · rw [if_pos hneg]
        have : -(sg * ((m % 10 : Nat) : Int)) = ((m % 10 : Nat) : Int) := by rcases hsg with rfl | rfl <;> omega
        rw [this, w64 (n := ((m % 10 : Nat) : Int)) (by omega) (by omega), w64 (n := 48 + ((m % 10 : Nat) : Int)) (by omega) (by omega), hb, Option.bind_some, strOf_one, Int.toNat_natCast, if_pos (by rw [sz1]; omega)]
      · rw [if_neg hneg]
        have : sg * ((m % 10 : Nat) : Int) = ((m % 10 : Nat) : Int) := by rcases hsg with rfl | rfl <;> omega
        rw [this, w64 (n := 48 + ((m % 10 : Nat) : Int)) (by omega) (by omega), hb, Option.bind_some, strOf_one, Int.toNat_natCast, if_pos (by rw [sz1]; omega)]
    by_cases h : m < 10
    · have h0 : m / 10 = 0 := by omega
      rw [dd_lt h]
      rw [h0, show m % 10 = m by omega] at step
      refine Ev.step step (Ev.step (f := fun _ => some (mkS ((if below = true then [45] else []) ++ [UInt8.ofNat (48 + m)] ++ B x3))) (fun k => ?_) (Ev.now _))
      simp only [tendrilref02_Decimal.l0]
      rw [if_pos (by rcases hsg with rfl | rfl <;> omega)]
      by_cases hb : below = true
      · rw [if_pos hb, if_pos (by rw [ByteArray.size_append]; show 1 + (1 + x3.size) ≤ _; omega), if_pos hb]
        congr 1
      · rw [if_neg hb, if_neg hb]
        congr 1
    · have hn := ih (m / 10) (by omega) (mkS [UInt8.ofNat (48 + m % 10)] ++ x3) (by omega) (by omega) (by rw [ByteArray.size_append, sz1]; omega)
      have er : mkS ((if below = true then [45] else []) ++ Lib.decDigits m ++ B x3) = mkS ((if below = true then [45] else []) ++ Lib.decDigits (m / 10) ++ B (mkS [UInt8.ofNat (48 + m % 10)] ++ x3)) := by
        rw [dd_ge (by omega), B_append, B_mkS]; simp
      rw [er]
      exact Ev.step step hn
theorem rdec_ev (n : Int) (h0 : -9223372036854775808 ≤ n) (h1 : n ≤ 9223372036854775807) : Ev (fun k => tendrilref02_Decimal.f k n) (mkS (Lib.itoa n)) := by
  unfold tendrilref02_Decimal.f Lib.itoa
  by_cases hz : n = 0
  · subst hz
    exact Ev.congr (fun k => by rw [if_pos rfl]) (by rw [if_neg (by omega), show (0 : Int).toNat = 0 from rfl, dd_lt (by decide)]; exact Ev.now _)
  · by_cases hn : n < 0
    · have := rdec_l0 true (-1) (.inr rfl) n.natAbs ⟨#[]⟩ (by omega) (by omega) (by show 2 * 0 + _ ≤ _; omega)
      rw [if_pos hn]
      refine Ev.congr (f := fun k => tendrilref02_Decimal.l0 k (-1 * (n.natAbs : Int)) ⟨#[]⟩ true) (fun k => ?_) (by simpa [B] using this)
      rw [if_neg hz, decide_eq_true hn, show -1 * (n.natAbs : Int) = n by omega]
    · have := rdec_l0 false 1 (.inl rfl) n.toNat ⟨#[]⟩ (by omega) (by omega) (by show 2 * 0 + _ ≤ _; omega)
      rw [if_neg hn]
      refine Ev.congr (f := fun k => tendrilref02_Decimal.l0 k (1 * (n.toNat : Int)) ⟨#[]⟩ false) (fun k => ?_) (by simpa [B] using this)
      rw [if_neg hz, decide_eq_false hn, show 1 * (n.toNat : Int) = n by omega]
theorem decimal_f (n : Int) (h0 : -9223372036854775808 ≤ n) (h1 : n ≤ 9223372036854775807) : chars_Decimal.f n = some (mkS (Lib.itoa n)) := by
  unfold chars_Decimal.f strconv_Itoa.f; rw [if_pos ⟨h0, h1⟩]; rfl
end Go.Proofs.YtpanmmpkdbhofaaDoor.L02
