/- Plain laws of layer 1, second part: the reference's functions, and all numbers of some bytes. -/
import Derived.Test.YtfpijjjmgggfkaaL01
namespace Go.Proofs.Ytfpijjjmgggfkaa.L01
open Go Go.RowKit Go.Proofs.Ytfpijjjmgggfkaa.P01 Go.Proofs.YtfpijjjmgggfkaaW.PrintWords Go.Proofs.YtfpijjjmgggfkaaW.PrintLast Go.Proofs.YtfpijjjmgggfkaaW.PrintMore

def foldv (p : List Int) (v : Int) : Int := p.foldr (fun c n => 128 * n + (c - 128)) v
theorem takeS_pre : ∀ (m i : Nat) (l : List Int), i + m ≤ 10 → m ≤ l.length → (∀ j, (h : j < l.length) → j < m → l[j] ≥ 128) →
    takeS i l = if (takeS (i + m) (l.drop m)).2.2 = 0 then (foldv (l.take m) (takeS (i + m) (l.drop m)).1, (takeS (i + m) (l.drop m)).2.1 + m, 0) else (0, 0, (takeS (i + m) (l.drop m)).2.2)
  | 0, i, l, _, _, _ => by
    simp only [Nat.add_zero, List.drop_zero, List.take_zero, foldv, List.foldr_nil]
    by_cases h : (takeS i l).2.2 = 0
    · rw [if_pos h]; refine Prod.ext rfl (Prod.ext ?_ h); simp
    · rw [if_neg h]; exact takeS_err i l h
  | m + 1, i, [], _, h, _ => by simp at h
  | m + 1, i, c :: t, hi, hm, hp => by
    have hc : c ≥ 128 := hp 0 (by simp) (by omega)
    have ih := takeS_pre m (i + 1) t (by omega) (by simpa using hm) (fun j h hj => hp (j + 1) (by simpa using h) (by omega))
    rw [show i + 1 + m = i + (m + 1) by omega] at ih
    simp only [takeS, List.drop_succ_cons, List.take_succ_cons]
    rw [if_neg (by omega), if_pos hc, ih]
    by_cases h : (takeS (i + (m + 1)) (t.drop m)).2.2 = 0
    · rw [if_pos h, if_pos rfl, if_pos h]
      refine Prod.ext ?_ (Prod.ext ?_ rfl)
      · simp only [foldv, List.foldr_cons]; omega
      · simp only; omega
    · rw [if_neg h, if_neg h, if_neg h]
theorem rtake_l1 (l : List Int) (hl : Bytes l) (k5 : Nat) (hk : k5 < l.length) (hk9 : k5 ≤ 9) : ∀ (j : Nat) (v : Int), j ≤ k5 → (∀ q, (h : q < l.length) → q < j → l[q] ≥ 128) → 0 ≤ v → v < 2 ^ (64 - 7 * j) →
    Ev (fun k => tendrilref01_Take.l1 k l (k5 : Int) v ((j : Int) - 1)) (foldv (l.take j) v, 1 + (k5 : Int), 0)
  | 0, v, _, _, _, _ => by
    refine Ev.step (f := fun _ => some (v, 1 + (k5 : Int), 0)) (fun k => ?_) (by simpa [foldv] using Ev.now _)
    simp only [tendrilref01_Take.l1]
    rw [if_neg (by omega), w64 (by omega) (by omega), Int.add_comm]
  | j + 1, v, hj, hp, h0, h1 => by
    have hlt : j < l.length := by omega
    have hb := hl.at hlt
    have hc := hp j hlt (by omega)
    have hpw : (2 : Int) ^ (64 - 7 * j) = 128 * 2 ^ (64 - 7 * (j + 1)) := by
      rw [show 64 - 7 * j = 7 + (64 - 7 * (j + 1)) by omega, Int.pow_add]; rfl
    have hle : (2 : Int) ^ (64 - 7 * j) ≤ 18446744073709551616 := by
      have : (2 : Nat) ^ (64 - 7 * j) ≤ 2 ^ 64 := Nat.pow_le_pow_right (by decide) (by omega)
      have h2 : (((2 : Nat) ^ (64 - 7 * j) : Nat) : Int) ≤ ((2 ^ 64 : Nat) : Int) := by exact_mod_cast this
      simpa using h2
    have ih := rtake_l1 l hl k5 hk hk9 j (128 * v + (l[j] - 128)) (by omega) (fun q h hq => hp q h (by omega)) (by omega) (by omega)
    have ef : foldv (l.take (j + 1)) v = foldv (l.take j) (128 * v + (l[j] - 128)) := by
      rw [List.take_succ_eq_append_getElem hlt]; unfold foldv; rw [List.foldr_append]; rfl
    rw [ef]
    refine Ev.step (fun k => ?_) ih
    simp only [tendrilref01_Take.l1]
    have e0 : ((j + 1 : Nat) : Int) - 1 = (j : Int) := by omega
    rw [e0, if_pos (by omega), if_pos (by omega), if_pos (by omega), rd_nat hlt, show (l[j] - 128) % 256 = l[j] - 128 by omega, wu64 (n := 128 * v) (by omega) (by omega), wu64 (by omega) (by omega), w64 (by omega) (by omega)]
theorem rtake_l0 (l : List Int) (hl : Bytes l) (d : Nat) : ∀ (i : Nat), i + d = 10 → i ≤ l.length → (∀ q, (h : q < l.length) → q < i → l[q] ≥ 128) →
    Ev (fun k => tendrilref01_Take.l0 k l (i : Int)) (takeS 0 l) := by
  have key : ∀ i : Nat, i ≤ 10 → i ≤ l.length → (∀ q, (h : q < l.length) → q < i → l[q] ≥ 128) → (i = 10 ∨ i = l.length ∨ ∃ h : i < l.length, l[i] < 128) → Ev (fun k => tendrilref01_Take.j1 k l (i : Int)) (takeS 0 l) := by
    intro i hi hil hp hend
    have ht := takeS_pre i 0 l (by omega) hil hp
    rw [Nat.zero_add] at ht
    rw [ht]
    by_cases h10 : i = 10
    · subst h10
      rw [takeS10]
      refine Ev.step (f := fun _ => some (0, 0, 3)) (fun k => ?_) (by simpa using Ev.now _)
      simp only [tendrilref01_Take.j1]; rw [if_pos (by omega)]
    · by_cases hle : i = l.length
      · subst hle
        have ed : takeS l.length (l.drop l.length) = (0, 0, 4) := by rw [List.drop_length]; simp only [takeS]; rw [if_neg h10]
        rw [ed]
        refine Ev.step (f := fun _ => some (0, 0, 4)) (fun k => ?_) (by simpa using Ev.now _)
        simp only [tendrilref01_Take.j1]; rw [if_neg (by omega), if_pos trivial]
      · have hlt : i < l.length := by omega
        have hb := hl.at hlt
        have hlow : l[i] < 128 := by
          rcases hend with h | h | ⟨_, h⟩
          · omega
          · omega
          · exact h
        have ed : takeS i (l.drop i) = if i = 9 ∧ l[i] > 1 then (0, 0, 5) else if i > 0 ∧ l[i] = 0 then (0, 0, 2) else (l[i], 1, 0) := by
          rw [List.drop_eq_getElem_cons hlt]; simp only [takeS]; rw [if_neg h10, if_neg (by omega)]
        rw [ed]
        have j3 : ∀ b : Bool, (b = true ↔ (i > 0 ∧ l[i] = 0)) → ¬ (i = 9 ∧ l[i] > 1) → Ev (fun k => tendrilref01_Take.j3 k l (i : Int) b) (if i > 0 ∧ l[i] = 0 then (0, 0, 2) else (foldv (l.take i) l[i], 1 + (i : Int), 0)) := by
          intro b hb' h5
          by_cases h2 : i > 0 ∧ l[i] = 0
          · rw [if_pos h2]
            refine Ev.step (f := fun _ => some (0, 0, 2)) (fun k => ?_) (Ev.now _)
            simp only [tendrilref01_Take.j3]; rw [if_pos (hb'.2 h2)]
          · rw [if_neg h2]
            refine Ev.step (f := fun k => tendrilref01_Take.l1 k l (i : Int) l[i] ((i : Int) - 1)) (fun k => ?_) (rtake_l1 l hl i hlt (by omega) i l[i] (Nat.le_refl _) hp hb.1 ?_)
            · simp only [tendrilref01_Take.j3]
              rw [if_neg (fun h => h2 (hb'.1 h)), if_pos (by omega), if_pos (by omega), rd_nat hlt, wu64 (by omega) (by omega), w64 (by omega) (by omega)]
            · rcases Nat.lt_or_ge i 9 with h9 | h9
              · have : (2 : Nat) ^ 8 ≤ 2 ^ (64 - 7 * i) := Nat.pow_le_pow_right (by decide) (by omega)
                have h2 : ((2 ^ 8 : Nat) : Int) ≤ (((2 : Nat) ^ (64 - 7 * i) : Nat) : Int) := by exact_mod_cast this
                have h3 : (((2 : Nat) ^ (64 - 7 * i) : Nat) : Int) = (2 : Int) ^ (64 - 7 * i) := by simp
                omega
              · obtain rfl : i = 9 := by omega
                simp; omega
        have j2 : ∀ b : Bool, (b = true ↔ (i = 9 ∧ l[i] > 1)) → Ev (fun k => tendrilref01_Take.j2 k l (i : Int) b) (if i = 9 ∧ l[i] > 1 then (0, 0, 5) else if i > 0 ∧ l[i] = 0 then (0, 0, 2) else (foldv (l.take i) l[i], 1 + (i : Int), 0)) := by
          intro b hb'
          by_cases h5 : i = 9 ∧ l[i] > 1
          · rw [if_pos h5]
            refine Ev.step (f := fun _ => some (0, 0, 5)) (fun k => ?_) (Ev.now _)
            simp only [tendrilref01_Take.j2]; rw [if_pos (hb'.2 h5)]
          · rw [if_neg h5]
            have hbf : ¬ b = true := fun h => h5 (hb'.1 h)
            by_cases hi0 : i > 0
            · refine Ev.step (f := fun k => tendrilref01_Take.j3 k l (i : Int) (l[i] == 0)) (fun k => ?_) (j3 (l[i] == 0) (by rw [beq_iff_eq]; omega) h5)
              simp only [tendrilref01_Take.j2]
              rw [if_neg hbf, if_pos (by omega), if_pos (by omega), if_pos (by omega), rd_nat hlt]
            · refine Ev.step (f := fun k => tendrilref01_Take.j3 k l (i : Int) false) (fun k => ?_) (j3 false (by simp; omega) h5)
              simp only [tendrilref01_Take.j2]
              rw [if_neg hbf, if_neg (by omega)]
        have eres : (if (if i = 9 ∧ l[i] > 1 then ((0 : Int), (0 : Int), (5 : Int)) else if i > 0 ∧ l[i] = 0 then (0, 0, 2) else (l[i], 1, 0)).2.2 = 0 then (foldv (l.take i) (if i = 9 ∧ l[i] > 1 then ((0 : Int), (0 : Int), (5 : Int)) else if i > 0 ∧ l[i] = 0 then (0, 0, 2) else (l[i], 1, 0)).1, (if i = 9 ∧ l[i] > 1 then ((0 : Int), (0 : Int), (5 : Int)) else if i > 0 ∧ l[i] = 0 then (0, 0, 2) else (l[i], 1, 0)).2.1 + (i : Int), 0) else (0, 0, (if i = 9 ∧ l[i] > 1 then ((0 : Int), (0 : Int), (5 : Int)) else if i > 0 ∧ l[i] = 0 then (0, 0, 2) else (l[i], 1, 0)).2.2)) = (if i = 9 ∧ l[i] > 1 then (0, 0, 5) else if i > 0 ∧ l[i] = 0 then (0, 0, 2) else (foldv (l.take i) l[i], 1 + (i : Int), 0)) := by
          by_cases h5 : i = 9 ∧ l[i] > 1
          · simp only [if_pos h5]; rfl
          · simp only [if_neg h5]
            by_cases h2 : i > 0 ∧ l[i] = 0
            · simp only [if_pos h2]; rfl
            · simp only [if_neg h2]; rfl
        rw [eres]
        by_cases h9 : i = 9
        · refine Ev.step (f := fun k => tendrilref01_Take.j2 k l (i : Int) (decide (l[i] > 1))) (fun k => ?_) (j2 (decide (l[i] > 1)) (by simp only [decide_eq_true_eq]; omega))
          simp only [tendrilref01_Take.j1]
          rw [if_neg (by omega), if_neg (by omega), if_pos (by omega), if_pos (by omega)]
          subst h9
          rw [show (9 : Int) = ((9 : Nat) : Int) from rfl, rd_nat hlt]
        · refine Ev.step (f := fun k => tendrilref01_Take.j2 k l (i : Int) false) (fun k => ?_) (j2 false (by simp; omega))
          simp only [tendrilref01_Take.j1]
          rw [if_neg (by omega), if_neg (by omega), if_neg (by omega)]
  induction d with
  | zero =>
    intro i hi hil hp
    refine Ev.step (f := fun k => tendrilref01_Take.j1 k l (i : Int)) (fun k => ?_) (key i (by omega) hil hp (.inl (by omega)))
    simp only [tendrilref01_Take.l0]
    rw [if_neg (show ¬ (i : Int) < 10 by omega)]; split <;> rfl
  | succ d ih =>
    intro i hi hil hp
    by_cases he : i = l.length
    · refine Ev.step (f := fun k => tendrilref01_Take.j1 k l (i : Int)) (fun k => ?_) (key i (by omega) hil hp (.inr (.inl he)))
      simp only [tendrilref01_Take.l0]
      rw [if_neg (by omega)]
    · have hlt : i < l.length := by omega
      have hb := hl.at hlt
      by_cases hc : l[i] > 127
      · have := ih (i + 1) (by omega) (by omega) (fun q h hq => by
          rcases Nat.lt_or_ge q i with h1 | h1
          · exact hp q h h1
          · obtain rfl : q = i := by omega
            omega)
        refine Ev.step (fun k => ?_) this
        simp only [tendrilref01_Take.l0]
        rw [if_pos (by omega), if_pos (by omega), if_pos (by omega), rd_nat hlt, if_pos hc, w64 (by omega) (by omega)]; rfl
      · refine Ev.step (f := fun k => tendrilref01_Take.j1 k l (i : Int)) (fun k => ?_) (key i (by omega) hil hp (.inr (.inr ⟨hlt, by omega⟩)))
        simp only [tendrilref01_Take.l0]
        rw [if_pos (by omega), if_pos (by omega), if_pos (by omega), rd_nat hlt, if_neg hc]
theorem rtake_ev (l : List Int) (hl : Bytes l) : Ev (fun k => tendrilref01_Take.f k l) (takeS 0 l) :=
  rtake_l0 l hl 10 0 (by omega) (by omega) (fun _ _ h => by omega)

/-! The reference's Put. -/
theorem rput_l1 (x0 : List Int) (x7 x8 : Int) (r : List Int) (n : Nat) : ∀ (acc : List Int), acc.length + (enc n).length ≤ 140737488355328 → n < 18446744073709551616 →
    Ev (fun k => tendrilref01_Put.l0 k x0 (acc ++ enc n) x7 (wrap64 (x8 + 1))) r → Ev (fun k => tendrilref01_Put.l1 k x0 acc (n : Int) x7 x8) r := by
  induction n using Nat.strongRecOn with
  | _ n ih =>
    intro acc hlen hn h
    by_cases h1 : n < 128
    · rw [enc_lt h1] at h hlen
      simp only [List.length_singleton] at hlen
      refine Ev.step (fun k => ?_) h
      simp only [tendrilref01_Put.l1]
      rw [if_neg (by omega), if_pos (by omega), show (n : Int) % 256 = n by omega]
    · rw [enc_ge (by omega)] at h hlen
      simp only [List.length_cons] at hlen
      refine Ev.step (f := fun k => tendrilref01_Put.l1 k x0 (acc ++ [((n % 128 + 128 : Nat) : Int)]) ((n / 128 : Nat) : Int) x7 x8) (fun k => ?_) (ih (n / 128) (by omega) _ (by simp; omega) (by omega) (by simpa using h))
      simp only [tendrilref01_Put.l1]
      have e1 : Int.tmod (n : Int) 128 = ((n % 128 : Nat) : Int) := by rw [show (128 : Int) = ((128 : Nat) : Int) from rfl, ← Int.ofNat_tmod]
      have e2 : Int.tdiv (n : Int) 128 = ((n / 128 : Nat) : Int) := by rw [show (128 : Int) = ((128 : Nat) : Int) from rfl, ← Int.ofNat_tdiv]
      rw [if_pos (by omega), if_pos (by have := enc_pos (n / 128); omega), e1, e2, wu64 (by omega) (by omega), wu64 (by omega) (by omega), show (((n % 128 : Nat) : Int) + 128) % 256 = ((n % 128 + 128 : Nat) : Int) by omega]
theorem rput_l0 (l : List Int) (hl : Nums l) (hn : l.length ≤ 1000000000000) (d : Nat) : ∀ (i : Nat) (acc : List Int), i + d = l.length → acc.length + 10 * d ≤ 140737488355328 →
    Ev (fun k => tendrilref01_Put.l0 k l acc (l.length : Int) (i : Int)) (acc ++ encs (l.drop i)) := by
  induction d with
  | zero =>
    intro i acc hi _
    obtain rfl : i = l.length := by omega
    rw [List.drop_length]
    refine Ev.step (f := fun _ => some acc) (fun k => ?_) (by simpa [encs] using Ev.now acc)
    simp only [tendrilref01_Put.l0]; rw [if_neg (by omega)]
  | succ d ih =>
    intro i acc hi hb
    have hlt : i < l.length := by omega
    have hx := hl.at hlt
    have h10 := enc_le10 (n := l[i].toNat) (by omega)
    have e2 : wrap64 ((i : Int) + 1) = ((i + 1 : Nat) : Int) := by rw [w64 (by omega) (by omega)]; omega
    have := ih (i + 1) (acc ++ enc l[i].toNat) (by omega) (by simp; omega)
    refine Ev.step (f := fun k => tendrilref01_Put.l1 k l acc ((l[i].toNat : Nat) : Int) (l.length : Int) (i : Int)) (fun k => ?_) (rput_l1 l _ _ _ l[i].toNat acc (by omega) (by omega) ?_)
    · simp only [tendrilref01_Put.l0]
      rw [if_pos (by omega), if_pos (by omega), if_pos (by omega), rd_nat hlt, Int.toNat_of_nonneg hx.1]
    · rw [e2, List.drop_eq_getElem_cons hlt, encs_cons, ← List.append_assoc]
      exact this
theorem rput_ev (l : List Int) (hl : Nums l) (hn : l.length ≤ 1000000000000) : Ev (fun k => tendrilref01_Put.f k l) (encs l) := by
  have h1 := encs_len hl
  exact Ev.congr (f := fun k => tendrilref01_Put.l0 k l [] (l.length : Int) ((0 : Nat) : Int)) (fun k => rfl) (by simpa using rput_l0 l hl hn l.length 0 [] (by omega) (by simp; omega))

/-! All. -/
theorem all_both (l : List Int) (hl : Bytes l) (hn : l.length ≤ 1000000000000) (d : Nat) : ∀ (i : Nat) (acc : List Int), i + d = l.length → acc.length + d < 17592186044416 →
    ∃ r, Ev (fun k => octet_All.l0 k (l.drop i) acc) r ∧ Ev (fun k => tendrilref01_All.l0 k l acc (i : Int)) r := by
  induction d using Nat.strongRecOn with
  | _ d ih =>
    intro i acc hi hb
    by_cases h0 : d = 0
    · obtain rfl : i = l.length := by omega
      refine ⟨(acc, 0), Ev.step (f := fun _ => some (acc, 0)) (fun k => ?_) (Ev.now _), Ev.step (f := fun _ => some (acc, 0)) (fun k => ?_) (Ev.now _)⟩
      · simp only [octet_All.l0]; rw [if_neg (by simp)]
      · simp only [tendrilref01_All.l0]; rw [if_neg (by omega)]
    · have hd : (l.drop i).length = d := by rw [List.length_drop]; omega
      have ht := take_ev (l.drop i) (hl.drop i)
      have hr := rtake_ev (l.drop i) (hl.drop i)
      by_cases hz : (takeS 0 (l.drop i)).2.2 = 0
      · obtain ⟨n, j, e, _, _, _, hj0, hj1⟩ := takeS_only (l.drop i) 0 (hl.drop i) (by omega) hz
        rw [e] at ht hr
        obtain ⟨r, h1, h2⟩ := ih (d - j) (by omega) (i + j) (acc ++ [(n : Int)]) (by omega) (by simp; omega)
        refine ⟨r, Ev.step (f := fun k => (octet_Take.f k (l.drop i)).bind fun t => if t.2.2 = 0 then (if acc.length < 17592186044416 then (if 0 ≤ t.2.1 then (if t.2.1 ≤ ((l.drop i).length : Int) then octet_All.l0 k ((l.drop i).drop (t.2.1 : Int).toNat) (acc ++ [t.1]) else none) else none) else none) else some (([] : List Int), t.2.2)) (fun k => ?_) (Ev.bind ht ?_), Ev.step (f := fun k => (tendrilref01_Take.f k (l.drop i)).bind fun t => if t.2.2 = 0 then (if acc.length < 17592186044416 then tendrilref01_All.l0 k l (acc ++ [t.1]) (wrap64 ((i : Int) + t.2.1)) else none) else some (([] : List Int), t.2.2)) (fun k => ?_) (Ev.bind hr ?_)⟩
        · simp only [octet_All.l0]; rw [if_pos (by omega)]
        · refine Ev.congr (fun k => ?_) h1
          rw [if_pos rfl, if_pos (by omega), if_pos (by show (0 : Int) ≤ (j : Int); omega), if_pos (by show (j : Int) ≤ _; omega), List.drop_drop]; rfl
        · simp only [tendrilref01_All.l0]; rw [if_pos (by omega), if_pos (by omega), if_pos (by omega)]; rfl
        · refine Ev.congr (fun k => ?_) h2
          rw [if_pos rfl, if_pos (by omega), w64 (by show _ ≤ (i : Int) + (j : Int); omega) (by show (i : Int) + (j : Int) ≤ _; omega)]; rfl
      · refine ⟨([], (takeS 0 (l.drop i)).2.2), Ev.step (f := fun k => (octet_Take.f k (l.drop i)).bind fun t => if t.2.2 = 0 then (if acc.length < 17592186044416 then (if 0 ≤ t.2.1 then (if t.2.1 ≤ ((l.drop i).length : Int) then octet_All.l0 k ((l.drop i).drop (t.2.1 : Int).toNat) (acc ++ [t.1]) else none) else none) else none) else some (([] : List Int), t.2.2)) (fun k => ?_) (Ev.bind ht ?_), Ev.step (f := fun k => (tendrilref01_Take.f k (l.drop i)).bind fun t => if t.2.2 = 0 then (if acc.length < 17592186044416 then tendrilref01_All.l0 k l (acc ++ [t.1]) (wrap64 ((i : Int) + t.2.1)) else none) else some (([] : List Int), t.2.2)) (fun k => ?_) (Ev.bind hr ?_)⟩
        · simp only [octet_All.l0]; rw [if_pos (by omega)]
        · refine Ev.congr (fun k => ?_) (Ev.now _)
          rw [if_neg hz]
        · simp only [tendrilref01_All.l0]; rw [if_pos (by omega), if_pos (by omega), if_pos (by omega)]; rfl
        · refine Ev.congr (fun k => ?_) (Ev.now _)
          rw [if_neg hz]
theorem all_encs : ∀ (t acc : List Int), Nums t → acc.length + t.length < 17592186044416 → Ev (fun k => octet_All.l0 k (encs t) acc) (acc ++ t, 0)
  | [], acc, _, _ => by
    refine Ev.step (f := fun _ => some (acc, 0)) (fun k => ?_) (by simpa using Ev.now (acc, (0 : Int)))
    simp only [octet_All.l0, encs, List.flatMap_nil]; rw [if_neg (by simp)]
  | x :: t, acc, hn, hb => by
    simp only [List.length_cons] at hb
    have hx := hn x (List.mem_cons_self ..)
    have ih := all_encs t (acc ++ [x]) (fun y hy => hn y (List.mem_cons_of_mem _ hy)) (by simp; omega)
    have ht := take_ev (encs (x :: t)) (encs_bytes _)
    rw [encs_cons, takeS_put (n := x.toNat) (by omega)] at ht
    have hp := enc_pos x.toNat
    refine Ev.step (f := fun k => (octet_Take.f k (enc x.toNat ++ encs t)).bind fun q => if q.2.2 = 0 then (if acc.length < 17592186044416 then (if 0 ≤ q.2.1 then (if q.2.1 ≤ ((enc x.toNat ++ encs t).length : Int) then octet_All.l0 k ((enc x.toNat ++ encs t).drop (q.2.1 : Int).toNat) (acc ++ [q.1]) else none) else none) else none) else some (([] : List Int), q.2.2)) (fun k => ?_) (Ev.bind ht ?_)
    · rw [encs_cons]; simp only [octet_All.l0]; rw [if_pos (by rw [List.length_append]; omega)]
    · have e : acc ++ x :: t = (acc ++ [x]) ++ t := by simp
      rw [e]
      refine Ev.congr (fun k => ?_) ih
      rw [if_pos rfl, if_pos (by omega), if_pos (by show (0 : Int) ≤ ((enc x.toNat).length : Int); omega), if_pos (by show ((enc x.toNat).length : Int) ≤ _; rw [List.length_append]; omega), Int.toNat_natCast, List.drop_left, Int.toNat_of_nonneg hx.1]
/-! Same. -/
theorem same_l0 (l : List Int) (hn : l.length ≤ 1000000000000) (d : Nat) : ∀ i : Nat, i + d = l.length → Ev (fun k => tendrilref01_Same.l0 k l l (l.length : Int) (i : Int)) true := by
  induction d with
  | zero =>
    intro i hi
    refine Ev.step (f := fun _ => some true) (fun k => ?_) (Ev.now _)
    simp only [tendrilref01_Same.l0]; rw [if_neg (by omega)]
  | succ d ih =>
    intro i hi
    refine Ev.step (fun k => ?_) (ih (i + 1) (by omega))
    simp only [tendrilref01_Same.l0]
    rw [if_pos (by omega), if_pos (by omega), if_pos (by omega), if_pos (by omega), if_pos trivial, w64 (by omega) (by omega)]; rfl
theorem same_ev (l : List Int) (hn : l.length ≤ 1000000000000) : Ev (fun k => tendrilref01_Same.f k l l) true := by
  refine Ev.congr (fun k => ?_) (same_l0 l hn l.length 0 (by omega))
  unfold tendrilref01_Same.f; rw [if_pos rfl]; rfl
/-! The law's own example. -/
theorem enc300 : enc 300 = [172, 2] := by rw [enc_ge (by decide), enc_lt (by decide)]; rfl
theorem law_same : Ev (fun k => tendrillaw01_same.f k) true := by
  have h1 := put1_ev 300 (by decide) (by decide)
  rw [show (300 : Int).toNat = 300 from rfl, enc300] at h1
  have h2 := take_ev [172, 2, 9] (by intro x hx; simp at hx; omega)
  have e2 : takeS 0 [172, 2, 9] = (300, 2, 0) := by decide
  rw [e2] at h2
  have h3 := size_ev [300, 1] (by intro x hx; simp at hx; omega) (by simp)
  have e3 : ((encs [300, 1]).length : Int) = 3 := by rw [encs_cons, encs_one, show (300 : Int).toNat = 300 from rfl, enc300, show (1 : Int).toNat = 1 from rfl, enc_lt (by decide)]; rfl
  rw [e3] at h3
  unfold tendrillaw01_same.f
  refine Ev.bind h1 (Ev.bind h2 ?_)
  refine Ev.congr (f := fun k => (octet_Size.f k [300, 1]).bind fun t => some (t == 3)) (fun k => by simp [rd]) (Ev.bind h3 (Ev.now _))
end Go.Proofs.Ytfpijjjmgggfkaa.L01
