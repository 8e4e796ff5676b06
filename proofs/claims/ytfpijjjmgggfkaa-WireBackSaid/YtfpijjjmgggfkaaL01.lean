/- Plain laws of layer 1: what octet's functions and their reference come to, over numbers and lists alone. -/
import Derived.Test.YtfpijjjmgggfkaaX01x
namespace Go.Proofs.Ytfpijjjmgggfkaa.L01
open Go Go.RowKit Go.Proofs.Ytfpijjjmgggfkaa.P01 Go.Proofs.YtfpijjjmgggfkaaW.PrintWords Go.Proofs.YtfpijjjmgggfkaaW.PrintLast Go.Proofs.YtfpijjjmgggfkaaW.PrintMore

theorem w64 {n : Int} (h0 : -9223372036854775808 ≤ n) (h1 : n ≤ 9223372036854775807) : wrap64 n = n := by unfold wrap64; omega
theorem wrap_u64 (n : Int) : IntKind.u64.wrap n = n % 18446744073709551616 := by simp [IntKind.wrap, IntKind.bits, IntKind.signed]
theorem wu64 {n : Int} (h0 : 0 ≤ n) (h1 : n < 18446744073709551616) : IntKind.u64.wrap n = n := by rw [wrap_u64]; omega
theorem wf_u8 {x : Int} (h : (Lit.int .u8 x).wf = true) : 0 ≤ x ∧ x ≤ 255 := by
  have h1 : IntKind.u8.min = 0 := rfl
  have h2 : IntKind.u8.max = 255 := rfl
  simp [Lit.wf] at h; omega
theorem wf_u64 {x : Int} (h : (Lit.int .u64 x).wf = true) : 0 ≤ x ∧ x < 18446744073709551616 := by
  have h1 : IntKind.u64.min = 0 := rfl
  have h2 : IntKind.u64.max = 18446744073709551615 := rfl
  simp [Lit.wf] at h; omega
theorem or128 : ∀ a : Nat, a < 256 → (a ||| 128) = a % 128 + 128 := by decide +kernel
theorem or_u8 {x : Int} (h : 0 ≤ x) : Go.bits .or .u8 (x % 256) 128 = x % 128 + 128 := by
  obtain ⟨a, rfl⟩ := Int.eq_ofNat_of_zero_le h
  have h1 : ((a : Int) % 256) = ((a % 256 : Nat) : Int) := by omega
  rw [h1, show (128 : Int) = ((128 : Nat) : Int) from rfl, (bits_nat .u8 8 (by decide) wraps_u8 (a % 256) 128 (by omega) (by omega)).2, or128 _ (by omega)]
  omega
theorem wraps_u64 (n : Int) (h0 : 0 ≤ n) (h1 : n < 2 ^ 64) : IntKind.u64.wrap n = n := wu64 h0 (by simpa using h1)
theorem or_shl {i : Nat} (hi : i ≤ 9) {acc c : Int} (h0 : 0 ≤ acc) (h1 : acc < 2 ^ (7 * i)) (hc0 : 0 ≤ c) (hc1 : c * 2 ^ (7 * i) < 18446744073709551616) :
    Go.bits .or .u64 acc (shl .u64 c ((7 * i : Nat) : Int)) = acc + c * 2 ^ (7 * i) := by
  obtain ⟨a, rfl⟩ := Int.eq_ofNat_of_zero_le h0
  obtain ⟨b, rfl⟩ := Int.eq_ofNat_of_zero_le hc0
  have ha : a < 2 ^ (7 * i) := by exact_mod_cast h1
  have hb : b * 2 ^ (7 * i) < 2 ^ 64 := by
    have : ((b * 2 ^ (7 * i) : Nat) : Int) < 18446744073709551616 := by simpa using hc1
    have h2 : (2 ^ 64 : Nat) = 18446744073709551616 := by decide
    omega
  have hp : (2 : Nat) ^ (7 * i) ≤ 2 ^ 64 := Nat.pow_le_pow_right (by decide) (by omega)
  have hs : shl .u64 ((b : Nat) : Int) ((7 * i : Nat) : Int) = ((b * 2 ^ (7 * i) : Nat) : Int) := by
    unfold shl
    rw [show min (((7 * i : Nat) : Int).toNat) (IntKind.u64.bits) = 7 * i from by rw [Int.toNat_natCast]; exact Nat.min_eq_left (by show 7 * i ≤ 64; omega)]
    rw [wu64 (by exact Int.mul_nonneg (by omega) (Int.pow_nonneg (by decide))) hc1]
    simp
  rw [hs, (bits_nat .u64 64 (by decide) wraps_u64 a (b * 2 ^ (7 * i)) (by omega) hb).2, Nat.or_comm, Nat.mul_comm b, ← Nat.two_pow_add_eq_or_of_lt ha]
  simp
  rw [Int.mul_comm, Int.add_comm]

/-- The number with which bytes begin, from index i on: the number, its bytes, the error. -/
def takeS (i : Nat) : List Int → Int × Int × Int
  | [] => if i = 10 then (0, 0, 3) else (0, 0, 4)
  | c :: t => if i = 10 then (0, 0, 3) else if c ≥ 128 then (if (takeS (i + 1) t).2.2 = 0 then (c - 128 + 128 * (takeS (i + 1) t).1, (takeS (i + 1) t).2.1 + 1, 0) else (0, 0, (takeS (i + 1) t).2.2))
    else if i = 9 ∧ c > 1 then (0, 0, 5) else if i > 0 ∧ c = 0 then (0, 0, 2) else (c, 1, 0)
/-- A number's bytes. -/
def enc (n : Nat) : List Int := if n < 128 then [(n : Int)] else ((n % 128 + 128 : Nat) : Int) :: enc (n / 128)
termination_by n
decreasing_by omega

def Bytes (l : List Int) : Prop := ∀ x ∈ l, 0 ≤ x ∧ x ≤ 255
theorem Bytes.drop {l : List Int} (h : Bytes l) (n : Nat) : Bytes (l.drop n) := fun x hx => h x (List.mem_of_mem_drop hx)
theorem Bytes.at {l : List Int} (h : Bytes l) {i : Nat} (hi : i < l.length) : 0 ≤ l[i] ∧ l[i] ≤ 255 := h _ (List.getElem_mem hi)
theorem rd_nat {l : List Int} {i : Nat} (hi : i < l.length) : rd l (i : Int) = l[i] := by
  unfold rd; rw [Int.toNat_natCast]; simp [List.getD_eq_getElem?_getD, List.getElem?_eq_getElem hi]
theorem takeS10 (l : List Int) : takeS 10 l = (0, 0, 3) := by cases l <;> simp [takeS]
theorem pow7 (i : Nat) : (2 : Int) ^ (7 * (i + 1)) = 128 * 2 ^ (7 * i) := by
  rw [Nat.mul_add, Int.pow_add]; simp [Int.mul_comm]
theorem pow_pos7 (i : Nat) : (0 : Int) < 2 ^ (7 * i) := Int.pow_pos (by decide)
theorem p7le {i : Nat} (hi : i ≤ 8) : (2 : Int) ^ (7 * i) ≤ 72057594037927936 := by
  have : (2 : Nat) ^ (7 * i) ≤ 2 ^ 56 := Nat.pow_le_pow_right (by decide) (by omega)
  have h2 : (((2 : Nat) ^ (7 * i) : Nat) : Int) ≤ ((2 ^ 56 : Nat) : Int) := by exact_mod_cast this
  simpa using h2

/-- What a reading that began ahead comes to. -/
def fin (i : Nat) (acc : Int) (r : Int × Int × Int) : Int × Int × Int := if r.2.2 = 0 then (acc + r.1 * 2 ^ (7 * i), r.2.1 + i, 0) else (0, 0, r.2.2)

theorem take_l0 (l : List Int) (hl : Bytes l) (d : Nat) : ∀ (i : Nat) (acc : Int), i + d = 10 → i ≤ l.length → 0 ≤ acc → (i ≤ 9 → acc < 2 ^ (7 * i)) →
    Ev (fun k => octet_Take.l0 k l acc (i : Int)) (fin i acc (takeS i (l.drop i))) := by
  induction d with
  | zero =>
    intro i acc hi _ _ _
    obtain rfl : i = 10 := by omega
    rw [takeS10]
    refine Ev.step (f := fun _ => some (0, 0, 3)) (fun k => ?_) (Ev.now _)
    simp only [octet_Take.l0]; rw [if_neg (by omega)]
  | succ d ih =>
    intro i acc hi hil h0 h1
    have h1 := h1 (by omega)
    by_cases he : i = l.length
    · subst he
      rw [List.drop_length]
      refine Ev.step (f := fun _ => some (0, 0, 4)) (fun k => ?_) ?_
      · simp only [octet_Take.l0]; rw [if_pos (by omega), if_pos trivial]
      · simp only [takeS]; rw [if_neg (by omega)]; exact Ev.now _
    · have hlt : i < l.length := by omega
      have hb := hl.at hlt
      rw [List.drop_eq_getElem_cons hlt]
      have e1 : wrap64 (7 * (i : Int)) = ((7 * i : Nat) : Int) := by rw [w64 (by omega) (by omega)]; omega
      have e2 : wrap64 ((i : Int) + 1) = ((i + 1 : Nat) : Int) := by rw [w64 (by omega) (by omega)]; omega
      by_cases hc : l[i] ≥ 128
      · have e3 : (l[i] - 128) % 256 = l[i] - 128 := by omega
        refine Ev.step (f := fun k => octet_Take.l0 k l (Go.bits .or .u64 acc (shl .u64 (l[i] - 128) ((7 * i : Nat) : Int))) ((i + 1 : Nat) : Int)) (fun k => ?_) ?_
        · simp only [octet_Take.l0]
          rw [if_pos (by omega), if_neg (by omega), if_pos (by omega), if_pos (by omega), rd_nat hlt, if_pos hc, e1, if_pos (by omega), e2, e3]
        · have key : ∀ acc', 0 ≤ acc' → (i + 1 ≤ 9 → acc' = acc + (l[i] - 128) * 2 ^ (7 * i)) → Ev (fun k => octet_Take.l0 k l acc' ((i + 1 : Nat) : Int)) (fin i acc (takeS i (l[i] :: l.drop (i + 1)))) := by
            intro acc' ha0 ha
            have := ih (i + 1) acc' (by omega) (by omega) ha0 (fun h9 => by
              rw [ha h9, pow7]
              have : (l[i] - 128) * 2 ^ (7 * i) ≤ 127 * 2 ^ (7 * i) := Int.mul_le_mul_of_nonneg_right (by omega) (Int.le_of_lt (pow_pos7 i))
              omega)
            have hr : fin (i + 1) acc' (takeS (i + 1) (l.drop (i + 1))) = fin i acc (takeS i (l[i] :: l.drop (i + 1))) := by
              simp only [takeS]
              rw [if_neg (show ¬ i = 10 by omega), if_pos hc]
              by_cases h9 : i + 1 ≤ 9
              · rw [ha h9]
                unfold fin
                by_cases hz : (takeS (i + 1) (l.drop (i + 1))).2.2 = 0
                · rw [if_pos hz, if_pos hz, if_pos rfl, pow7]
                  refine Prod.ext ?_ (Prod.ext ?_ rfl)
                  · simp only; grind
                  · simp only; omega
                · rw [if_neg hz, if_neg hz, if_neg hz]
              · obtain rfl : i = 9 := by omega
                rw [takeS10]; simp [fin]
            rw [← hr]; exact this
          by_cases h9 : i + 1 ≤ 9
          · rw [or_shl (by omega) h0 h1 (by omega) (by
              have h2 := p7le (show i ≤ 8 by omega)
              have h3 : (l[i] - 128) * 2 ^ (7 * i) ≤ 127 * 2 ^ (7 * i) := Int.mul_le_mul_of_nonneg_right (by omega) (Int.le_of_lt (pow_pos7 i))
              omega)]
            refine key _ ?_ (fun _ => rfl)
            have := Int.mul_nonneg (show 0 ≤ l[i] - 128 by omega) (Int.le_of_lt (pow_pos7 i))
            omega
          · refine key _ ?_ (fun h => absurd h h9)
            unfold Go.bits
            simp only [wrap_u64]
            omega
      · have hlow : l[i] < 128 := by omega
        have e4 : IntKind.u64.wrap l[i] = l[i] := wu64 (by omega) (by omega)
        have htk : takeS i (l[i] :: l.drop (i + 1)) = if i = 9 ∧ l[i] > 1 then (0, 0, 5) else if i > 0 ∧ l[i] = 0 then (0, 0, 2) else (l[i], 1, 0) := by
          simp only [takeS]; rw [if_neg (show ¬ i = 10 by omega), if_neg hc]
        rw [htk]
        have hj : ∀ b : Bool, (b = true ↔ i = 9 ∧ l[i] > 1) → Ev (fun k => octet_Take.j1 k acc (i : Int) l[i] b) (fin i acc (if i = 9 ∧ l[i] > 1 then (0, 0, 5) else if i > 0 ∧ l[i] = 0 then (0, 0, 2) else (l[i], 1, 0))) := by
          intro b hb'
          by_cases h5 : i = 9 ∧ l[i] > 1
          · rw [if_pos h5]
            refine Ev.step (f := fun _ => some (0, 0, 5)) (fun k => ?_) (Ev.now _)
            simp only [octet_Take.j1]; rw [if_pos (hb'.2 h5)]
          · rw [if_neg h5]
            have hbf : ¬ b = true := fun h => h5 (hb'.1 h)
            by_cases h2 : i > 0 ∧ l[i] = 0
            · rw [if_pos h2]
              refine Ev.step (f := fun _ => some (0, 0, 2)) (fun k => ?_) (Ev.now _)
              simp only [octet_Take.j1]; rw [if_neg hbf, if_pos (by omega), if_pos h2.2]
            · rw [if_neg h2]
              have hv : Go.bits .or .u64 acc (shl .u64 l[i] ((7 * i : Nat) : Int)) = acc + l[i] * 2 ^ (7 * i) := by
                refine or_shl (by omega) h0 h1 (by omega) ?_
                by_cases h9 : i = 9
                · subst h9
                  have : l[9] ≤ 1 := by omega
                  have : l[9] = 0 ∨ l[9] = 1 := by omega
                  rcases this with h | h <;> rw [h] <;> decide
                · have h2 := p7le (show i ≤ 8 by omega)
                  have h3 : l[i] * 2 ^ (7 * i) ≤ 127 * 2 ^ (7 * i) := Int.mul_le_mul_of_nonneg_right (by omega) (Int.le_of_lt (pow_pos7 i))
                  omega
              refine Ev.step (f := fun _ => some (acc + l[i] * 2 ^ (7 * i), 1 + (i : Int), 0)) (fun k => ?_) (by simpa [fin] using Ev.now _)
              simp only [octet_Take.j1]; rw [if_neg hbf, e1, e2, e4, hv]
              have e5 : ((i + 1 : Nat) : Int) = 1 + (i : Int) := by omega
              rw [e5]
              by_cases hi0 : (i : Int) > 0
              · rw [if_pos hi0, if_neg (by omega), if_pos (by omega)]
              · rw [if_neg hi0, if_pos (by omega)]
        by_cases h9 : i = 9
        · refine Ev.step (f := fun k => octet_Take.j1 k acc (i : Int) l[i] (decide (l[i] > 1))) (fun k => ?_) (hj (decide (l[i] > 1)) (by simp only [decide_eq_true_eq]; omega))
          simp only [octet_Take.l0]
          rw [if_pos (by omega), if_neg (by omega), if_pos (by omega), if_pos (by omega), rd_nat hlt, if_neg hc, if_pos (by omega)]
        · refine Ev.step (f := fun k => octet_Take.j1 k acc (i : Int) l[i] false) (fun k => ?_) (hj false (by simp [h9]))
          simp only [octet_Take.l0]
          rw [if_pos (by omega), if_neg (by omega), if_pos (by omega), if_pos (by omega), rd_nat hlt, if_neg hc, if_neg (by omega)]

theorem fin0 (r : Int × Int × Int) (h : r.2.2 ≠ 0 → r = (0, 0, r.2.2)) : fin 0 0 r = r := by
  unfold fin
  by_cases hz : r.2.2 = 0
  · rw [if_pos hz]; refine Prod.ext ?_ (Prod.ext ?_ ?_) <;> simp [hz]
  · rw [if_neg hz, ← h hz]
theorem takeS_err (i : Nat) (l : List Int) (h : (takeS i l).2.2 ≠ 0) : takeS i l = (0, 0, (takeS i l).2.2) := by
  cases l with
  | nil => simp only [takeS] at *; split <;> rfl
  | cons c t =>
    simp only [takeS] at *
    repeat' split
    all_goals first | rfl | (exfalso; simp_all; done)
/-- What Take comes to. -/
theorem take_ev (l : List Int) (hl : Bytes l) : Ev (fun k => octet_Take.f k l) (takeS 0 l) := by
  have := take_l0 l hl 10 0 0 (by omega) (by omega) (by omega) (by simp)
  rw [List.drop_zero, fin0 _ (takeS_err 0 l)] at this
  exact this

/-! Numbers' bytes. -/
theorem enc_lt {n : Nat} (h : n < 128) : enc n = [(n : Int)] := by rw [enc, if_pos h]
theorem enc_ge {n : Nat} (h : 128 ≤ n) : enc n = ((n % 128 + 128 : Nat) : Int) :: enc (n / 128) := by rw [enc, if_neg (by omega)]
theorem enc_pos (n : Nat) : 0 < (enc n).length := by
  by_cases h : n < 128
  · rw [enc_lt h]; simp
  · rw [enc_ge (by omega)]; simp
theorem enc_len : ∀ (m n : Nat), n < 128 ^ m → (m = 1 ∨ 128 ^ (m - 1) ≤ n) → 0 < m → (enc n).length = m
  | 0, _, _, _, h => by omega
  | 1, n, h, _, _ => by rw [enc_lt (by simpa using h)]; rfl
  | m + 2, n, h, h1, _ => by
    have hp : 0 < 128 ^ m := Nat.pow_pos (by decide)
    have h1 : 128 ^ (m + 1) ≤ n := by rcases h1 with h1 | h1 <;> simp at h1 ⊢; exact h1
    have h2 : 128 ^ (m + 1) = 128 * 128 ^ m := by rw [Nat.pow_succ, Nat.mul_comm]
    have h3 : 128 ^ (m + 2) = 128 * 128 ^ (m + 1) := by rw [Nat.pow_succ, Nat.mul_comm]
    rw [enc_ge (by omega), List.length_cons, enc_len (m + 1) (n / 128) (by omega) (.inr (by simp; omega)) (by omega)]
theorem enc_bytes (n : Nat) : Bytes (enc n) := by
  induction n using Nat.strongRecOn with
  | _ n ih =>
    by_cases h : n < 128
    · rw [enc_lt h]; intro x hx; simp at hx; omega
    · rw [enc_ge (by omega)]
      intro x hx
      rcases List.mem_cons.1 hx with rfl | hx
      · omega
      · exact ih _ (by omega) x hx
theorem enc_le10 {n : Nat} (h : n < 18446744073709551616) : (enc n).length ≤ 10 := by
  have key : ∀ (m n : Nat), n < 128 ^ (m + 1) → (enc n).length ≤ m + 1 := by
    intro m
    induction m with
    | zero => intro n h; rw [enc_lt (by simpa using h)]; simp
    | succ m ih =>
      intro n h
      by_cases h1 : n < 128
      · rw [enc_lt h1]; simp
      · rw [enc_ge (by omega), List.length_cons]
        have h3 : 128 ^ (m + 1 + 1) = 128 * 128 ^ (m + 1) := by rw [Nat.pow_succ, Nat.mul_comm]
        have := ih (n / 128) (by omega)
        omega
  exact key 9 n (Nat.lt_of_lt_of_le h (by decide))
/-- What was put is taken, whatever stands behind. -/
theorem takeS_enc (rest : List Int) : ∀ (m i n : Nat), i + m = 10 → n < 2 ^ (64 - 7 * i) → (0 < i → 0 < n) → 0 < m → takeS i (enc n ++ rest) = ((n : Int), ((enc n).length : Int), 0)
  | 0, _, _, _, _, _, h => by omega
  | m + 1, i, n, him, h, h0, _ => by
    by_cases h1 : n < 128
    · rw [enc_lt h1]
      simp only [List.singleton_append, takeS, List.length_singleton]
      rw [if_neg (by omega), if_neg (by omega), if_neg, if_neg (by omega)]
      · rfl
      · rintro ⟨rfl, h2⟩
        have : n < 2 := by simpa using h
        omega
    · rw [enc_ge (by omega)]
      have hi : i ≤ 8 := by
        rcases Nat.lt_or_ge i 9 with h9 | h9
        · omega
        · have h10 : (2 : Nat) ^ (64 - 7 * i) ≤ 2 ^ 1 := Nat.pow_le_pow_right (by decide) (by omega)
          omega
      have hp : (2 : Nat) ^ (64 - 7 * i) = 128 * 2 ^ (64 - 7 * (i + 1)) := by
        rw [show 64 - 7 * i = 7 + (64 - 7 * (i + 1)) by omega, Nat.pow_add]
      have ih := takeS_enc rest m (i + 1) (n / 128) (by omega) (by omega) (fun _ => by omega) (by omega)
      simp only [List.cons_append, takeS]
      rw [if_neg (by omega), if_pos (by omega), ih, if_pos rfl]
      refine Prod.ext ?_ (Prod.ext ?_ rfl)
      · simp only; omega
      · simp only [List.length_cons]; omega
theorem takeS_put {n : Nat} (h : n < 18446744073709551616) (rest : List Int) : takeS 0 (enc n ++ rest) = ((n : Int), ((enc n).length : Int), 0) :=
  takeS_enc rest 10 0 n rfl (by simpa using h) (by omega) (by omega)
/-- No other bytes are taken. -/
theorem takeS_only : ∀ (l : List Int) (i : Nat), Bytes l → i ≤ 10 → (takeS i l).2.2 = 0 → ∃ n j : Nat, takeS i l = ((n : Int), (j : Int), 0) ∧ n < 2 ^ (64 - 7 * i) ∧ (0 < i → 0 < n) ∧ enc n = l.take j ∧ 0 < j ∧ j ≤ l.length
  | [], i, _, _, h => by simp only [takeS] at h; split at h <;> simp at h
  | c :: t, i, hb, hi, h => by
    have hc := hb c (List.mem_cons_self ..)
    have ht : Bytes t := fun x hx => hb x (List.mem_cons_of_mem _ hx)
    simp only [takeS] at h ⊢
    by_cases h10 : i = 10
    · rw [if_pos h10] at h; simp at h
    rw [if_neg h10] at h ⊢
    by_cases h1 : c ≥ 128
    · rw [if_pos h1] at h ⊢
      by_cases hz : (takeS (i + 1) t).2.2 = 0
      · rw [if_pos hz]
        obtain ⟨n, j, e, hn, hp, he, hj0, hj1⟩ := takeS_only t (i + 1) ht (by omega) hz
        have hi9 : i ≤ 8 := by
          rcases Nat.lt_or_ge i 9 with h9 | h9
          · omega
          · obtain rfl : i = 9 := by omega
            rw [takeS10] at hz; simp at hz
        have hpw : (2 : Nat) ^ (64 - 7 * i) = 128 * 2 ^ (64 - 7 * (i + 1)) := by
          rw [show 64 - 7 * i = 7 + (64 - 7 * (i + 1)) by omega, Nat.pow_add]
        obtain ⟨q, rfl⟩ := Int.eq_ofNat_of_zero_le hc.1
        rw [e]
        refine ⟨q - 128 + 128 * n, j + 1, ?_, by omega, fun _ => by have := hp (by omega); omega, ?_, by omega, by simp; omega⟩
        · refine Prod.ext ?_ (Prod.ext ?_ rfl)
          · simp only; omega
          · simp only; omega
        · have := hp (by omega)
          rw [enc_ge (by omega), List.take_succ_cons, ← he, show (q - 128 + 128 * n) / 128 = n by omega, show (q - 128 + 128 * n) % 128 + 128 = q by omega]
      · rw [if_neg hz] at h; exact absurd h hz
    · rw [if_neg h1] at h ⊢
      by_cases h5 : i = 9 ∧ c > 1
      · rw [if_pos h5] at h; simp at h
      rw [if_neg h5] at h ⊢
      by_cases h2 : i > 0 ∧ c = 0
      · rw [if_pos h2] at h; simp at h
      rw [if_neg h2]
      obtain ⟨q, rfl⟩ := Int.eq_ofNat_of_zero_le hc.1
      refine ⟨q, 1, rfl, ?_, by omega, ?_, by omega, by simp⟩
      · rcases Nat.lt_or_ge i 9 with h9 | h9
        · have h10 : (2 : Nat) ^ 8 ≤ 2 ^ (64 - 7 * i) := Nat.pow_le_pow_right (by decide) (by omega)
          omega
        · obtain rfl : i = 9 := by omega
          simp; omega
      · rw [enc_lt (by omega)]; simp

/-! Put. -/
theorem put_l1 (x9 : List Int) (x10 x11 : Int) (r : List Int) (n : Nat) : ∀ (acc : List Int), acc.length + (enc n).length ≤ 140737488355328 → n < 18446744073709551616 →
    Ev (fun k => octet_Put.l0 k (acc ++ enc n) x9 x10 (wrap64 (x11 + 1))) r → Ev (fun k => octet_Put.l1 k acc (n : Int) x9 x10 x11) r := by
  induction n using Nat.strongRecOn with
  | _ n ih =>
    intro acc hlen hn h
    by_cases h1 : n < 128
    · rw [enc_lt h1] at h hlen
      simp only [List.length_singleton] at hlen
      refine Ev.step (fun k => ?_) h
      simp only [octet_Put.l1]
      rw [if_neg (by omega), if_pos (by omega), show (n : Int) % 256 = n by omega]
    · rw [enc_ge (by omega)] at h hlen
      simp only [List.length_cons] at hlen
      refine Ev.step (f := fun k => octet_Put.l1 k (acc ++ [((n % 128 + 128 : Nat) : Int)]) ((n / 128 : Nat) : Int) x9 x10 x11) (fun k => ?_) (ih (n / 128) (by omega) _ (by simp; omega) (by omega) (by simpa using h))
      simp only [octet_Put.l1]
      rw [if_pos (by omega), if_pos (by have := enc_pos (n / 128); omega), or_u8 (by omega), show (n : Int) / 128 = ((n / 128 : Nat) : Int) by omega, show (n : Int) % 128 + 128 = ((n % 128 + 128 : Nat) : Int) by omega]
def Nums (l : List Int) : Prop := ∀ x ∈ l, 0 ≤ x ∧ x < 18446744073709551616
def encs (l : List Int) : List Int := l.flatMap (fun x => enc x.toNat)
theorem Nums.at {l : List Int} (h : Nums l) {i : Nat} (hi : i < l.length) : 0 ≤ l[i] ∧ l[i] < 18446744073709551616 := h _ (List.getElem_mem hi)
theorem encs_cons (x : Int) (t : List Int) : encs (x :: t) = enc x.toNat ++ encs t := by simp [encs]
theorem encs_bytes (l : List Int) : Bytes (encs l) := by
  intro x hx
  obtain ⟨y, _, hy⟩ := List.mem_flatMap.1 hx
  exact enc_bytes _ x hy
theorem encs_len {l : List Int} (h : Nums l) : (encs l).length ≤ 10 * l.length := by
  induction l with
  | nil => simp [encs]
  | cons x t ih =>
    have h1 := enc_le10 (n := x.toNat) (by have := h x (List.mem_cons_self ..); omega)
    have h2 := ih (fun y hy => h y (List.mem_cons_of_mem _ hy))
    simp only [encs, List.flatMap_cons, List.length_append, List.length_cons] at *
    omega
theorem put_l0 (l : List Int) (hl : Nums l) (hn : l.length ≤ 1000000000000) (d : Nat) : ∀ (i : Nat) (acc : List Int), i + d = l.length → acc.length + 10 * d ≤ 140737488355328 →
    Ev (fun k => octet_Put.l0 k acc l (l.length : Int) (i : Int)) (acc ++ encs (l.drop i)) := by
  induction d with
  | zero =>
    intro i acc hi _
    obtain rfl : i = l.length := by omega
    rw [List.drop_length]
    refine Ev.step (f := fun _ => some acc) (fun k => ?_) (by simpa [encs] using Ev.now acc)
    simp only [octet_Put.l0]; rw [if_neg (by omega)]
  | succ d ih =>
    intro i acc hi hb
    have hlt : i < l.length := by omega
    have hx := hl.at hlt
    have h10 := enc_le10 (n := l[i].toNat) (by omega)
    have e2 : wrap64 ((i : Int) + 1) = ((i + 1 : Nat) : Int) := by rw [w64 (by omega) (by omega)]; omega
    have := ih (i + 1) (acc ++ enc l[i].toNat) (by omega) (by simp; omega)
    refine Ev.step (f := fun k => octet_Put.l1 k acc ((l[i].toNat : Nat) : Int) l (l.length : Int) (i : Int)) (fun k => ?_) (put_l1 l _ _ _ l[i].toNat acc (by omega) (by omega) ?_)
    · simp only [octet_Put.l0]
      rw [if_pos (by omega), if_pos (by omega), if_pos (by omega), rd_nat hlt, Int.toNat_of_nonneg hx.1]
    · rw [e2, List.drop_eq_getElem_cons hlt, encs_cons, ← List.append_assoc]
      exact this
/-! Size. -/
def T8 : ByteArray := ⟨#[0, 1, 2, 2, 3, 3, 3, 3, 4, 4, 4, 4, 4, 4, 4, 4, 5, 5, 5, 5, 5, 5, 5, 5, 5, 5, 5, 5, 5, 5, 5, 5, 6, 6, 6, 6, 6, 6, 6, 6, 6, 6, 6, 6, 6, 6, 6, 6, 6, 6, 6, 6, 6, 6, 6, 6, 6, 6, 6, 6, 6, 6, 6, 6, 7, 7, 7, 7, 7, 7, 7, 7, 7, 7, 7, 7, 7, 7, 7, 7, 7, 7, 7, 7, 7, 7, 7, 7, 7, 7, 7, 7, 7, 7, 7, 7, 7, 7, 7, 7, 7, 7, 7, 7, 7, 7, 7, 7, 7, 7, 7, 7, 7, 7, 7, 7, 7, 7, 7, 7, 7, 7, 7, 7, 7, 7, 7, 7, 8, 8, 8, 8, 8, 8, 8, 8, 8, 8, 8, 8, 8, 8, 8, 8, 8, 8, 8, 8, 8, 8, 8, 8, 8, 8, 8, 8, 8, 8, 8, 8, 8, 8, 8, 8, 8, 8, 8, 8, 8, 8, 8, 8, 8, 8, 8, 8, 8, 8, 8, 8, 8, 8, 8, 8, 8, 8, 8, 8, 8, 8, 8, 8, 8, 8, 8, 8, 8, 8, 8, 8, 8, 8, 8, 8, 8, 8, 8, 8, 8, 8, 8, 8, 8, 8, 8, 8, 8, 8, 8, 8, 8, 8, 8, 8, 8, 8, 8, 8, 8, 8, 8, 8, 8, 8, 8, 8, 8, 8, 8, 8, 8, 8, 8, 8, 8, 8, 8, 8, 8, 8, 8, 8, 8, 8, 8, 8]⟩
theorem t8 : ∀ i : Nat, i < 256 → (i = 0 ∧ bt T8 i = 0) ∨ ∃ L : Nat, bt T8 i = L ∧ 1 ≤ L ∧ L ≤ 8 ∧ 2 ^ (L - 1) ≤ i ∧ i < 2 ^ L := by
  intro i hi
  have key : ∀ i : Fin 256, (i.val = 0 ∧ bt T8 i.val = 0) ∨ ∃ L : Fin 9, bt T8 i.val = L.val ∧ 1 ≤ L.val ∧ L.val ≤ 8 ∧ 2 ^ (L.val - 1) ≤ i.val ∧ i.val < 2 ^ L.val := by decide +kernel
  rcases key ⟨i, hi⟩ with h | ⟨L, h⟩
  · exact .inl h
  · exact .inr ⟨L.val, h⟩
/-- L is how many binary digits n has. -/
def IsLen (n L : Nat) : Prop := (n = 0 ∧ L = 0) ∨ (1 ≤ L ∧ 2 ^ (L - 1) ≤ n ∧ n < 2 ^ L)
theorem isLen_up {n s L : Nat} (h : 1 ≤ L) (h1 : 2 ^ (L - 1) ≤ n / 2 ^ s) (h2 : n / 2 ^ s < 2 ^ L) : IsLen n (s + L) := by
  refine .inr ⟨by omega, ?_, ?_⟩
  · have := (Nat.le_div_iff_mul_le (Nat.pow_pos (by decide))).1 h1
    rw [← Nat.pow_add] at this
    rwa [show s + L - 1 = L - 1 + s by omega]
  · have := (Nat.div_lt_iff_lt_mul (Nat.pow_pos (by decide))).1 h2
    rw [← Nat.pow_add] at this
    rwa [Nat.add_comm]
set_option maxRecDepth 100000 in
theorem len_j0 (n : Nat) (hn : n < 4294967296) (b : Nat) (hb : b ≤ 32) : ∃ L : Nat, L ≤ 32 ∧ IsLen n L ∧ Ev (fun k => bits_Len64.j0 k (n : Int) (b : Int)) ((b + L : Nat) : Int) := by
  by_cases h1 : n ≥ 65536
  · by_cases h2 : n / 65536 ≥ 256
    · have e : ((((n : Int) / 65536) / 256) % 256) = ((n / 2 ^ 24 : Nat) : Int) := by omega
      rcases t8 (n / 2 ^ 24) (by omega) with h | ⟨L, hb8, hL, hL8, h3, h4⟩
      · omega
      · refine ⟨24 + L, by omega, isLen_up hL h3 h4, Ev.step (f := fun _ => some ((b + (24 + L) : Nat) : Int)) (fun k => ?_) (Ev.now _)⟩
        rw [bits_Len64.j0.eq_2]
        rw [if_pos (by omega), if_pos (by omega), if_pos (by omega), if_pos (by omega), e]
        show some (wrap64 (wrap64 (wrap64 ((b : Int) + 16) + 8) + wrap64 (bt T8 ((n / 2 ^ 24 : Nat) : Int)))) = _
        rw [hb8, w64 (n := (b : Int) + 16) (by omega) (by omega), w64 (n := (b : Int) + 16 + 8) (by omega) (by omega), w64 (n := (L : Int)) (by omega) (by omega), w64 (by omega) (by omega)]
        congr 1; omega
    · have e : (((n : Int) / 65536) % 256) = ((n / 2 ^ 16 : Nat) : Int) := by omega
      rcases t8 (n / 2 ^ 16) (by omega) with h | ⟨L, hb8, hL, hL8, h3, h4⟩
      · omega
      · refine ⟨16 + L, by omega, isLen_up hL h3 h4, Ev.step (f := fun _ => some ((b + (16 + L) : Nat) : Int)) (fun k => ?_) (Ev.now _)⟩
        rw [bits_Len64.j0.eq_2]
        rw [if_pos (by omega), if_neg (by omega), if_pos (by omega), if_pos (by omega), e]
        show some (wrap64 (wrap64 ((b : Int) + 16) + wrap64 (bt T8 ((n / 2 ^ 16 : Nat) : Int)))) = _
        rw [hb8, w64 (n := (b : Int) + 16) (by omega) (by omega), w64 (n := (L : Int)) (by omega) (by omega), w64 (by omega) (by omega)]
        congr 1; omega
  · by_cases h2 : n ≥ 256
    · have e : (((n : Int) / 256) % 256) = ((n / 2 ^ 8 : Nat) : Int) := by omega
      rcases t8 (n / 2 ^ 8) (by omega) with h | ⟨L, hb8, hL, hL8, h3, h4⟩
      · omega
      · refine ⟨8 + L, by omega, isLen_up hL h3 h4, Ev.step (f := fun _ => some ((b + (8 + L) : Nat) : Int)) (fun k => ?_) (Ev.now _)⟩
        rw [bits_Len64.j0.eq_2]
        rw [if_neg (by omega), if_pos (by omega), if_pos (by omega), if_pos (by omega), e]
        show some (wrap64 (wrap64 ((b : Int) + 8) + wrap64 (bt T8 ((n / 2 ^ 8 : Nat) : Int)))) = _
        rw [hb8, w64 (n := (b : Int) + 8) (by omega) (by omega), w64 (n := (L : Int)) (by omega) (by omega), w64 (by omega) (by omega)]
        congr 1; omega
    · have e : ((n : Int) % 256) = ((n : Nat) : Int) := by omega
      have step : ∀ L : Nat, bt T8 ((n : Nat) : Int) = L → L ≤ 8 → Ev (fun k => bits_Len64.j0 k (n : Int) (b : Int)) ((b + L : Nat) : Int) := by
        intro L hL hL8
        refine Ev.step (f := fun _ => some ((b + L : Nat) : Int)) (fun k => ?_) (Ev.now _)
        rw [bits_Len64.j0.eq_2]
        rw [if_neg (by omega), if_neg (by omega), if_pos (by omega), if_pos (by omega), e]
        show some (wrap64 ((b : Int) + wrap64 (bt T8 ((n : Nat) : Int)))) = _
        rw [hL, w64 (n := (L : Int)) (by omega) (by omega), w64 (by omega) (by omega)]
        congr 1
      rcases t8 n (by omega) with ⟨h, h0⟩ | ⟨L, hb8, hL, hL8, h3, h4⟩
      · exact ⟨0, by omega, .inl ⟨h, rfl⟩, step 0 h0 (by omega)⟩
      · exact ⟨L, by omega, .inr ⟨hL, h3, h4⟩, step L hb8 hL8⟩
theorem len_ev (n : Nat) (hn : n < 18446744073709551616) : ∃ L : Nat, L ≤ 64 ∧ IsLen n L ∧ Ev (fun k => bits_Len64.f k (n : Int)) (L : Int) := by
  by_cases h : n ≥ 4294967296
  · obtain ⟨L, hL, h1, h2⟩ := len_j0 (n / 2 ^ 32) (by omega) 32 (by omega)
    refine ⟨32 + L, by omega, ?_, ?_⟩
    · rcases h1 with h1 | ⟨h1, h3, h4⟩
      · omega
      · exact isLen_up h1 h3 h4
    · refine Ev.congr (f := fun k => bits_Len64.j0 k ((n / 2 ^ 32 : Nat) : Int) ((32 : Nat) : Int)) (fun k => ?_) h2
      unfold bits_Len64.f
      rw [if_pos (by omega), show (n : Int) / 4294967296 = ((n / 2 ^ 32 : Nat) : Int) by omega]; rfl
  · obtain ⟨L, hL, h1, h2⟩ := len_j0 n (by omega) 0 (by omega)
    refine ⟨L, by omega, h1, ?_⟩
    rw [Nat.zero_add] at h2
    refine Ev.congr (f := fun k => bits_Len64.j0 k (n : Int) ((0 : Nat) : Int)) (fun k => ?_) h2
    unfold bits_Len64.f
    rw [if_neg (by omega)]; rfl
theorem len_enc {n L : Nat} (h : IsLen n L) (hL : L ≤ 64) : (Int.tdiv (wrap64 (mx (L : Int) 1 + 6)) 7) = ((enc n).length : Int) := by
  rcases h with ⟨rfl, rfl⟩ | ⟨h0, h1, h2⟩
  · rw [enc_lt (by decide)]; simp [mx, wrap64]
  · have e1 : mx (L : Int) 1 = L := by unfold mx; split <;> omega
    rw [e1, w64 (by omega) (by omega), show (L : Int) + 6 = ((L + 6 : Nat) : Int) from rfl, show (7 : Int) = ((7 : Nat) : Int) from rfl, ← Int.ofNat_tdiv]
    congr 1
    refine (enc_len ((L + 6) / 7) n ?_ ?_ (by omega)).symm
    · rw [show 128 = 2 ^ 7 from rfl, ← Nat.pow_mul]
      exact Nat.lt_of_lt_of_le h2 (Nat.pow_le_pow_right (by decide) (by omega))
    · rcases Nat.lt_or_ge L 8 with h8 | h8
      · left; omega
      · right
        rw [show 128 = 2 ^ 7 from rfl, ← Nat.pow_mul]
        exact Nat.le_trans (Nat.pow_le_pow_right (by decide) (by omega)) h1
theorem size_l0 (l : List Int) (hl : Nums l) (hn : l.length ≤ 1000000000000) (d : Nat) : ∀ (i s : Nat), i + d = l.length → s + 10 * d ≤ 140737488355328 →
    Ev (fun k => octet_Size.l0 k (s : Int) l (l.length : Int) (i : Int)) ((s + (encs (l.drop i)).length : Nat) : Int) := by
  induction d with
  | zero =>
    intro i s hi _
    obtain rfl : i = l.length := by omega
    rw [List.drop_length]
    refine Ev.step (f := fun _ => some (s : Int)) (fun k => ?_) (by simpa [encs] using Ev.now (s : Int))
    simp only [octet_Size.l0]; rw [if_neg (by omega)]
  | succ d ih =>
    intro i s hi hb
    have hlt : i < l.length := by omega
    have hx := hl.at hlt
    have h10 := enc_le10 (n := l[i].toNat) (by omega)
    have e2 : wrap64 ((i : Int) + 1) = ((i + 1 : Nat) : Int) := by rw [w64 (by omega) (by omega)]; omega
    obtain ⟨L, hL, h1, h2⟩ := len_ev l[i].toNat (by omega)
    refine Ev.step (f := fun k => (bits_Len64.f k ((l[i].toNat : Nat) : Int)).bind fun t => octet_Size.l0 k (wrap64 ((s : Int) + wrap64 (Int.tdiv (wrap64 (mx t 1 + 6)) 7))) l (l.length : Int) ((i + 1 : Nat) : Int)) (fun k => ?_) (Ev.bind h2 ?_)
    · simp only [octet_Size.l0]
      rw [if_pos (by omega), if_pos (by omega), if_pos (by omega), rd_nat hlt, e2, Int.toNat_of_nonneg hx.1]
    · rw [len_enc h1 hL, w64 (n := ((enc l[i].toNat).length : Int)) (by omega) (by omega), w64 (by omega) (by omega)]
      have := ih (i + 1) (s + (enc l[i].toNat).length) (by omega) (by omega)
      rw [List.drop_eq_getElem_cons hlt]
      have e3 : s + (encs (l[i] :: l.drop (i + 1))).length = s + (enc l[i].toNat).length + (encs (l.drop (i + 1))).length := by rw [encs_cons, List.length_append]; omega
      rw [e3]
      exact this
theorem size_ev (l : List Int) (hl : Nums l) (hn : l.length ≤ 1000000000000) : Ev (fun k => octet_Size.f k l) ((encs l).length : Int) := by
  have := size_l0 l hl hn l.length 0 0 (by omega) (by omega)
  simpa [octet_Size.f] using this
theorem put_ev (l : List Int) (hl : Nums l) (hn : l.length ≤ 1000000000000) : Ev (fun k => octet_Put.f k l) (encs l) := by
  have h1 := encs_len hl
  refine Ev.bind (size_ev l hl hn) ?_
  refine Ev.congr (f := fun k => octet_Put.l0 k [] l (l.length : Int) ((0 : Nat) : Int)) (fun k => ?_) (by simpa using put_l0 l hl hn l.length 0 [] (by omega) (by simp; omega))
  rw [if_pos (by omega), if_pos (by omega)]; rfl
theorem encs_one (n : Int) : encs [n] = enc n.toNat := by simp [encs]
theorem put1_ev (n : Int) (h0 : 0 ≤ n) (h1 : n < 18446744073709551616) : Ev (fun k => octet_Put.f k [n]) (enc n.toNat) := by
  rw [← encs_one]; exact put_ev [n] (by intro x hx; simp at hx; omega) (by simp)
end Go.Proofs.Ytfpijjjmgggfkaa.L01
