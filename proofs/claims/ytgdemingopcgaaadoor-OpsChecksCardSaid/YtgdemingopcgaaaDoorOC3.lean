/- Merged by this claim's own program (merge.py) out of the texts K02, K02b, X26x5, K09, X26x3, X26x6; the W texts among them began as the kit's print. -/
import Derived.Test.YtgdemingopcgaaaDoorOC2

namespace Go.Proofs.YtgdemingopcgaaaDoor.M02
open Go Go.RowKit Go.Proofs.YtgdemingopcgaaaDoor.P26 Go.Proofs.YtgdemingopcgaaaDoorE Go.Proofs.YtgdemingopcgaaaDoorW.PrintWords Go.Proofs.YtgdemingopcgaaaDoorW.PrintLast Go.Proofs.YtgdemingopcgaaaDoorW.PrintMore

theorem w64 {n : Int} (h0 : -9223372036854775808 ≤ n) (h1 : n ≤ 9223372036854775807) : wrap64 n = n := by unfold wrap64; omega
/-- A string's bytes. -/
abbrev B (s : ByteArray) : List UInt8 := s.data.toList
theorem B_len (s : ByteArray) : (B s).length = s.size := data_length s
theorem toList_B (s : ByteArray) : s.toList = B s := ByteArray.toList_eq s
theorem B_inj {s t : ByteArray} (h : B s = B t) : s = t := by
  cases s; cases t; congr 1; exact Array.toList_inj.1 h
theorem bt_nat {s : ByteArray} {i : Nat} (h : i < (B s).length) : bt s (i : Int) = ((B s)[i].toNat : Int) := by
  have hs : i < s.size := by rw [← B_len]; exact h
  unfold bt
  rw [dif_pos (by simpa using hs)]
  simp only [Int.toNat_natCast]
  rfl
theorem u8_lt (c : UInt8) : c.toNat < 256 := c.toNat_lt
theorem toUInt8_toNat (c : UInt8) : ((c.toNat : Int).toNat.toUInt8) = c := by simp

def okb (more : Bool) (c : UInt8) : Bool := decide (97 ≤ c.toNat ∧ c.toNat ≤ 122) || decide (48 ≤ c.toNat ∧ c.toNat ≤ 57) || decide (c.toNat = 45) || (more && (decide (c.toNat = 58) || decide (c.toNat = 46)))
def small (c : UInt8) : Bool := decide (97 ≤ c.toNat ∧ c.toNat ≤ 122)
/-- A tag, or, with more, a name. -/
def namedS (more : Bool) (l : List UInt8) : Bool := match l with
  | [] => false
  | c :: t => decide (t.length < 32) && small c && (c :: t).all (okb more)
theorem namedS_cons (more : Bool) (c : UInt8) (t : List UInt8) : namedS more (c :: t) = (decide (t.length < 32) && small c && (c :: t).all (okb more)) := rfl
theorem small_ok (more : Bool) (c : UInt8) (h : small c = true) : okb more c = true := by
  unfold small at h; unfold okb; rw [h]; rfl
theorem small_f (c : UInt8) : chars_small.f (c.toNat : Int) = some (small c) := by
  unfold chars_small.f small
  by_cases h : (c.toNat : Int) ≥ 97
  · rw [if_pos h]; congr 1; rw [decide_eq_decide]; omega
  · rw [if_neg h]; congr 1; symm; rw [decide_eq_false_iff_not]; omega
theorem inner_f (c : UInt8) (more : Bool) : tendrilref02_inner.f (c.toNat : Int) more = some (okb more c) := by
  have hc := u8_lt c
  have key : ∀ n : Fin 256, ∀ more : Bool, tendrilref02_inner.f (n.val : Int) more = some (decide (97 ≤ n.val ∧ n.val ≤ 122) || decide (48 ≤ n.val ∧ n.val ≤ 57) || decide (n.val = 45) || (more && (decide (n.val = 58) || decide (n.val = 46)))) := by decide +kernel
  exact key ⟨c.toNat, hc⟩ more
/-- The bytes that a name may have besides. -/
def others (more : Bool) : ByteArray := if more then ⟨#[45, 58, 46]⟩ else ⟨#[45]⟩
theorem index_others (c : UInt8) (more : Bool) : (Lib.indexByte (B (others more)) c < 0) ↔ ¬ (c.toNat = 45 ∨ (more = true ∧ (c.toNat = 58 ∨ c.toNat = 46))) := by
  have key : ∀ n : Fin 256, ∀ more : Bool, (Lib.indexByte (B (others more)) n.val.toUInt8 < 0) ↔ ¬ (n.val = 45 ∨ (more = true ∧ (n.val = 58 ∨ n.val = 46))) := by decide +kernel
  have := key ⟨c.toNat, u8_lt c⟩ more
  simpa using this
theorem named_l0 (s : ByteArray) (more : Bool) (hs : s.size ≤ 1000) (d : Nat) : ∀ i : Nat, i + d = s.size →
    Ev (fun k => chars_named.l0 k s (others more) (s.size : Int) (i : Int)) (((B s).drop i).all (okb more)) := by
  induction d with
  | zero =>
    intro i hi
    rw [List.drop_eq_nil_of_le (by rw [B_len]; omega)]
    refine Ev.step (f := fun _ => some true) (fun k => ?_) (Ev.now _)
    simp only [chars_named.l0]; rw [if_neg (by omega)]
  | succ d ih =>
    intro i hi
    have hlt : i < (B s).length := by rw [B_len]; omega
    have hn := ih (i + 1) (by omega)
    rw [List.drop_eq_getElem_cons hlt, List.all_cons]
    have e2 : wrap64 ((i : Int) + 1) = ((i + 1 : Nat) : Int) := by rw [w64 (by omega) (by omega)]; omega
    have hsm := small_f (B s)[i]
    have hix := index_others (B s)[i] more
    refine Ev.step (f := fun k => if okb more (B s)[i] = true then chars_named.l0 k s (others more) (s.size : Int) ((i + 1 : Nat) : Int) else some false) (fun k => ?_) ?_
    · simp only [chars_named.l0]
      rw [if_pos (by omega), if_pos (by omega), if_pos (by omega), bt_nat hlt, hsm, Option.bind_some, e2]
      by_cases h1 : small (B s)[i] = true
      · rw [if_pos h1, if_pos (small_ok more _ h1)]
      · rw [if_neg h1]
        have h1' : ¬ (97 ≤ (B s)[i].toNat ∧ (B s)[i].toNat ≤ 122) := by simpa [small] using h1
        have hrest : ((strings_IndexByte.f (others more) ((B s)[i].toNat : Int)).bind fun t => if t < 0 then some false else chars_named.l0 k s (others more) (s.size : Int) ((i + 1 : Nat) : Int)) = if ((B s)[i].toNat = 45 ∨ (more = true ∧ ((B s)[i].toNat = 58 ∨ (B s)[i].toNat = 46))) then chars_named.l0 k s (others more) (s.size : Int) ((i + 1 : Nat) : Int) else some false := by
          unfold strings_IndexByte.f
          rw [Option.bind_some, toUInt8_toNat]
          by_cases h2 : ((B s)[i].toNat = 45 ∨ (more = true ∧ ((B s)[i].toNat = 58 ∨ (B s)[i].toNat = 46)))
          · rw [if_neg (fun h => (hix.1 h) h2), if_pos h2]
          · rw [if_pos (hix.2 h2), if_neg h2]
        have hok : okb more (B s)[i] = true ↔ (48 ≤ (B s)[i].toNat ∧ (B s)[i].toNat ≤ 57) ∨ ((B s)[i].toNat = 45 ∨ (more = true ∧ ((B s)[i].toNat = 58 ∨ (B s)[i].toNat = 46))) := by
          have hq : ¬ (97 ≤ (B s)[i].toNat ∧ (B s)[i].toNat ≤ 122) := h1'
          unfold okb
          rw [decide_eq_false hq]
          generalize (B s)[i].toNat = q at *
          cases more <;> simp <;> omega
        by_cases h3 : ((B s)[i].toNat : Int) < 48
        · rw [if_pos h3, hrest]
          by_cases h2 : ((B s)[i].toNat = 45 ∨ (more = true ∧ ((B s)[i].toNat = 58 ∨ (B s)[i].toNat = 46)))
          · rw [if_pos h2, if_pos (hok.2 (.inr h2))]
          · rw [if_neg h2, if_neg (fun h => (hok.1 h).elim (fun h => by omega) h2)]
        · rw [if_neg h3]
          by_cases h4 : ((B s)[i].toNat : Int) > 57
          · rw [if_pos h4, hrest]
            by_cases h2 : ((B s)[i].toNat = 45 ∨ (more = true ∧ ((B s)[i].toNat = 58 ∨ (B s)[i].toNat = 46)))
            · rw [if_pos h2, if_pos (hok.2 (.inr h2))]
            · rw [if_neg h2, if_neg (fun h => (hok.1 h).elim (fun h => by omega) h2)]
          · rw [if_neg h4, if_pos (hok.2 (.inl (by omega)))]
    · by_cases h : okb more (B s)[i] = true
      · rw [h, Bool.true_and]; exact Ev.congr (fun k => by rw [if_pos rfl]) hn
      · rw [Bool.eq_false_iff.2 h, Bool.false_and]; exact Ev.congr (fun k => by rw [if_neg (by decide)]) (Ev.now _)
theorem named_ev (s : ByteArray) (more : Bool) (hs : s.size ≤ 140737488351232) : Ev (fun k => chars_named.f k s (others more)) (namedS more (B s)) := by
  have bad : Ev (fun k => chars_named.j0 k s (others more) true) false := Ev.step (f := fun _ => some false) (fun k => by simp only [chars_named.j0]; rw [if_pos trivial]) (Ev.now _)
  unfold chars_named.f
  rw [toList_B]
  by_cases h0 : B s = []
  · exact Ev.congr (f := fun k => chars_named.j0 k s (others more) true) (fun k => by rw [if_pos h0]) (by rw [h0]; exact bad)
  · obtain ⟨c, t, e⟩ := List.exists_cons_of_ne_nil h0
    have hl : s.size = t.length + 1 := by rw [← B_len, e]; rfl
    have hb0 : bt s 0 = (c.toNat : Int) := by
      have := bt_nat (s := s) (i := 0) (by rw [e]; simp)
      simp only [e] at this
      simpa using this
    by_cases h1 : (s.size : Int) > 32
    · have : namedS more (B s) = false := by rw [e]; rw [namedS_cons]; simp; omega
      rw [this]
      exact Ev.congr (f := fun k => chars_named.j0 k s (others more) true) (fun k => by rw [if_neg h0, if_pos h1]) bad
    · have hall := named_l0 s more (by omega) s.size 0 (by omega)
      rw [List.drop_zero] at hall
      refine Ev.congr (f := fun k => chars_named.j0 k s (others more) (!small c)) (fun k => by rw [if_neg h0, if_neg h1, if_pos (by omega), hb0, small_f, Option.bind_some]) ?_
      by_cases h2 : small c = true
      · have : namedS more (B s) = (B s).all (okb more) := by rw [e]; rw [namedS_cons, h2, decide_eq_true (by omega)]; simp
        rw [this, h2]
        refine Ev.step (fun k => ?_) hall
        simp only [chars_named.j0]; rw [if_neg (by decide)]; rfl
      · have : namedS more (B s) = false := by rw [e]; rw [namedS_cons, Bool.eq_false_iff.2 h2]; simp
        rw [this, Bool.eq_false_iff.2 h2]; exact bad
theorem rnamed_l0 (s : ByteArray) (more : Bool) (hs : s.size ≤ 1000) (d : Nat) : ∀ i : Nat, i + d = s.size →
    Ev (fun k => tendrilref02_Named.l0 k s more (i : Int)) (((B s).drop i).all (okb more)) := by
  induction d with
  | zero =>
    intro i hi
    rw [List.drop_eq_nil_of_le (by rw [B_len]; omega)]
    refine Ev.step (f := fun _ => some true) (fun k => ?_) (Ev.now _)
    simp only [tendrilref02_Named.l0]; rw [if_neg (by omega)]
  | succ d ih =>
    intro i hi
    have hlt : i < (B s).length := by rw [B_len]; omega
    have hn := ih (i + 1) (by omega)
    rw [List.drop_eq_getElem_cons hlt, List.all_cons]
    have e2 : wrap64 ((i : Int) + 1) = ((i + 1 : Nat) : Int) := by rw [w64 (by omega) (by omega)]; omega
    refine Ev.step (f := fun k => if okb more (B s)[i] = true then tendrilref02_Named.l0 k s more ((i + 1 : Nat) : Int) else some false) (fun k => ?_) ?_
    · simp only [tendrilref02_Named.l0]
      rw [if_pos (by omega), if_pos (by omega), bt_nat hlt, inner_f, Option.bind_some, e2]
    · by_cases h : okb more (B s)[i] = true
      · rw [h, Bool.true_and]; exact Ev.congr (fun k => by rw [if_pos rfl]) hn
      · rw [Bool.eq_false_iff.2 h, Bool.false_and]; exact Ev.congr (fun k => by rw [if_neg (by decide)]) (Ev.now _)
theorem rnamed_ev (s : ByteArray) (more : Bool) (hs : s.size ≤ 140737488351232) : Ev (fun k => tendrilref02_Named.f k s more) (namedS more (B s)) := by
  have bad : Ev (fun k => tendrilref02_Named.j0 k s more true) false := Ev.step (f := fun _ => some false) (fun k => by simp only [tendrilref02_Named.j0]; rw [if_pos trivial]) (Ev.now _)
  unfold tendrilref02_Named.f
  by_cases h0 : (s.size : Int) < 1
  · have e : B s = [] := List.eq_nil_of_length_eq_zero (by rw [B_len]; omega)
    exact Ev.congr (f := fun k => tendrilref02_Named.j0 k s more true) (fun k => by rw [if_pos h0]) (by rw [e]; exact bad)
  · obtain ⟨c, t, e⟩ := List.exists_cons_of_ne_nil (l := B s) (by intro h; have := B_len s; rw [h] at this; simp at this; omega)
    have hl : s.size = t.length + 1 := by rw [← B_len, e]; rfl
    have hb0 : bt s 0 = (c.toNat : Int) := by
      have := bt_nat (s := s) (i := 0) (by rw [e]; simp)
      simp only [e] at this
      simpa using this
    by_cases h1 : (s.size : Int) > 32
    · have : namedS more (B s) = false := by rw [e]; rw [namedS_cons]; simp; omega
      rw [this]
      exact Ev.congr (f := fun k => tendrilref02_Named.j0 k s more true) (fun k => by rw [if_neg h0, if_pos h1]) bad
    · have hall := rnamed_l0 s more (by omega) t.length 1 (by omega)
      rw [e, List.drop_succ_cons, List.drop_zero] at hall
      have gd : small c = true → Ev (fun k => tendrilref02_Named.j0 k s more false) (namedS more (B s)) := by
        intro h2
        have : namedS more (B s) = t.all (okb more) := by rw [e]; rw [namedS_cons, h2, decide_eq_true (by omega), List.all_cons, small_ok more c h2]; simp
        rw [this]
        refine Ev.step (fun k => ?_) hall
        simp only [tendrilref02_Named.j0]; rw [if_neg (by decide)]; rfl
      have bd : small c = false → namedS more (B s) = false := by intro h2; rw [e]; rw [namedS_cons, h2]; simp
      by_cases h2 : (c.toNat : Int) < 97
      · rw [bd (by unfold small; rw [decide_eq_false_iff_not]; omega)]
        exact Ev.congr (f := fun k => tendrilref02_Named.j0 k s more true) (fun k => by rw [if_neg h0, if_neg h1, if_pos (by omega), hb0, if_pos h2]) bad
      · refine Ev.congr (f := fun k => tendrilref02_Named.j0 k s more (decide ((c.toNat : Int) > 122))) (fun k => by rw [if_neg h0, if_neg h1, if_pos (by omega), hb0, if_neg h2]) ?_
        by_cases h3 : (c.toNat : Int) > 122
        · rw [bd (by unfold small; rw [decide_eq_false_iff_not]; omega), decide_eq_true h3]; exact bad
        · rw [decide_eq_false h3]; exact gd (by unfold small; rw [decide_eq_true_eq]; omega)
theorem tag_ev (s : ByteArray) (hs : s.size ≤ 140737488351232) : Ev (fun k => chars_Tag.f k s) (namedS false (B s)) := Ev.bind (named_ev s false hs) (Ev.now _)
theorem name_ev (s : ByteArray) (hs : s.size ≤ 140737488351232) : Ev (fun k => chars_Name.f k s) (namedS true (B s)) := Ev.bind (named_ev s true hs) (Ev.now _)
end Go.Proofs.YtgdemingopcgaaaDoor.M02

namespace Go.Proofs.YtgdemingopcgaaaDoor.M02
open Go Go.RowKit Go.Proofs.YtgdemingopcgaaaDoor.P26 Go.Proofs.YtgdemingopcgaaaDoorE Go.Proofs.YtgdemingopcgaaaDoorW.PrintWords Go.Proofs.YtgdemingopcgaaaDoorW.PrintLast Go.Proofs.YtgdemingopcgaaaDoorW.PrintMore

def cmpL : List UInt8 → List UInt8 → Int
  | [], [] => 0
  | [], _ :: _ => -1
  | _ :: _, [] => 1
  | a :: s, b :: t => if a.toNat < b.toNat then -1 else if b.toNat < a.toNat then 1 else cmpL s t
theorem less_cmpL : ∀ s t : List UInt8, (if Op.bytesLess s t = true then (-1 : Int) else if s = t then 0 else 1) = cmpL s t
  | [], [] => by simp [Op.bytesLess, cmpL]
  | [], _ :: _ => by simp [Op.bytesLess, cmpL]
  | _ :: _, [] => by simp [Op.bytesLess, cmpL]
  | a :: s, b :: t => by
    have ih := less_cmpL s t
    simp only [Op.bytesLess, cmpL]
    by_cases h1 : a.toNat < b.toNat
    · have : a < b := UInt8.lt_iff_toNat_lt.2 h1
      simp [this, h1]
    · have h1' : ¬ a < b := fun h => h1 (UInt8.lt_iff_toNat_lt.1 h)
      by_cases h2 : b.toNat < a.toNat
      · have hne : ¬ a = b := fun h => by subst h; omega
        simp [h1', hne, h1, h2]
      · have he : a = b := UInt8.toNat_inj.1 (by omega)
        subst he
        simp only [Nat.lt_irrefl, if_false]
        rw [← ih]
        simp
theorem rcompare_l0 (a b : ByteArray) (_ha : a.size ≤ 140737488351232) (_hb : b.size ≤ 140737488351232) (d : Nat) : ∀ i : Nat, i + d = a.size → i ≤ b.size →
    Ev (fun k => tendrilref02_Compare.l0 k a b (i : Int)) (cmpL ((B a).drop i) ((B b).drop i)) := by
  have stop : ∀ i : Nat, i ≥ a.size ∨ i ≥ b.size → (i ≤ a.size ∧ i ≤ b.size) → Ev (fun k => tendrilref02_Compare.j1 k a b (i : Int) false) (cmpL ((B a).drop i) ((B b).drop i)) := by
    intro i h hle
    have l1 := B_len a
    have l2 := B_len b
    refine Ev.step (f := fun _ => some (cmpL ((B a).drop i) ((B b).drop i))) (fun k => ?_) (Ev.now _)
    simp only [tendrilref02_Compare.j1]
    rw [if_neg (by decide)]
    by_cases h1 : a.size ≤ i
    · rw [show (B a).drop i = [] from List.drop_eq_nil_of_le (by omega)]
      by_cases h2 : b.size ≤ i
      · rw [show (B b).drop i = [] from List.drop_eq_nil_of_le (by omega)]
        by_cases h3 : a.size < b.size
        · exfalso; omega
        · by_cases h4 : b.size < a.size
          · exfalso; omega
          · rw [if_neg (by omega), if_neg (by omega)]; rfl
      · obtain ⟨x, t, e⟩ := List.exists_cons_of_ne_nil (l := (B b).drop i) (by intro hh; have := congrArg List.length hh; simp at this; omega)
        rw [e, if_pos (by omega)]; rfl
    · have h2 : b.size ≤ i := by omega
      rw [show (B b).drop i = [] from List.drop_eq_nil_of_le (by omega)]
      obtain ⟨x, t, e⟩ := List.exists_cons_of_ne_nil (l := (B a).drop i) (by intro hh; have := congrArg List.length hh; simp at this; omega)
      rw [e, if_neg (by omega), if_pos (by omega)]; rfl
  induction d with
  | zero =>
    intro i hi hib
    refine Ev.step (f := fun k => tendrilref02_Compare.j1 k a b (i : Int) false) (fun k => ?_) (stop i (.inl (by omega)) ⟨by omega, hib⟩)
    simp only [tendrilref02_Compare.l0]; rw [if_neg (by omega)]
  | succ d ih =>
    intro i hi hib
    refine Ev.step (f := fun k => tendrilref02_Compare.j1 k a b (i : Int) (decide ((i : Int) < (b.size : Int)))) (fun k => ?_) ?_
    · simp only [tendrilref02_Compare.l0]; rw [if_pos (by omega)]
    · by_cases h2 : (i : Int) < (b.size : Int)
      · rw [decide_eq_true h2]
        have hla : i < (B a).length := by rw [B_len]; omega
        have hlb : i < (B b).length := by rw [B_len]; omega
        have hn := ih (i + 1) (by omega) (by omega)
        rw [List.drop_eq_getElem_cons hla, List.drop_eq_getElem_cons hlb]
        simp only [cmpL]
        have e2 : wrap64 ((i : Int) + 1) = ((i + 1 : Nat) : Int) := by rw [w64 (by omega) (by omega)]; omega
        refine Ev.step (f := fun k => if (B a)[i].toNat < (B b)[i].toNat then some (-1) else if (B b)[i].toNat < (B a)[i].toNat then some 1 else tendrilref02_Compare.l0 k a b ((i + 1 : Nat) : Int)) (fun k => ?_) ?_
        · simp only [tendrilref02_Compare.j1]
          rw [if_pos trivial, if_pos (by omega), if_pos (by omega), if_pos h2, bt_nat hla, bt_nat hlb, e2]
          by_cases h3 : (B a)[i].toNat < (B b)[i].toNat
          · rw [if_pos h3, if_pos (by omega)]
          · by_cases h4 : (B b)[i].toNat < (B a)[i].toNat
            · rw [if_neg h3, if_pos h4, if_neg (by omega), if_pos (by omega)]
            · rw [if_neg h3, if_neg h4, if_neg (by omega), if_neg (by omega)]
        · by_cases h3 : (B a)[i].toNat < (B b)[i].toNat
          · rw [if_pos h3]; exact Ev.congr (fun k => by rw [if_pos h3]) (Ev.now _)
          · by_cases h4 : (B b)[i].toNat < (B a)[i].toNat
            · rw [if_neg h3, if_pos h4]; exact Ev.congr (fun k => by rw [if_neg h3, if_pos h4]) (Ev.now _)
            · rw [if_neg h3, if_neg h4]; exact Ev.congr (fun k => by rw [if_neg h3, if_neg h4]) hn
      · rw [decide_eq_false h2]; exact stop i (.inr (by omega)) ⟨by omega, hib⟩
theorem rcompare_ev (a b : ByteArray) (ha : a.size ≤ 140737488351232) (hb : b.size ≤ 140737488351232) : Ev (fun k => tendrilref02_Compare.f k a b) (cmpL (B a) (B b)) := by
  have := rcompare_l0 a b ha hb a.size 0 (by omega) (by omega)
  rw [List.drop_zero, List.drop_zero] at this
  exact this
end Go.Proofs.YtgdemingopcgaaaDoor.M02

namespace Go.Proofs.YtgdemingopcgaaaDoor.P26
open Go.RowKit Go.Proofs.YtgdemingopcgaaaDoorE Go.Proofs.YtgdemingopcgaaaDoorW.PrintWords Go.Proofs.YtgdemingopcgaaaDoorW.PrintLast Go.Proofs.YtgdemingopcgaaaDoorW.PrintMore
attribute [local go_sem] max2_int min2_int max_two min_two max_three min_three max_four min_four   -- for this text's walks alone
set_option linter.unusedVariables false
set_option linter.unusedSimpArgs false

mutual
def tendrilref09_Check.l0 : Nat → List (S51) → Int → Int → Option (Int × Int)
  | 0, _, _, _ => none
  | k + 1, x0, x6, x7 => if x7 < x6 then (if x7 = 64 then (some (x7, 12)) else (if 0 ≤ x7 then (if x7 < (x0.length : Int) then ((tendrilref02_Named.f k ((rd_T51 x0 x7).f0) true).bind fun t112 => (if t112 = true then (if (((rd_T51 x0 x7).f1).size : Int) > 65536 then (some (x7, 3)) else (if x7 > 0 then (if 0 ≤ (wrap64 (x7 - 1)) then (if (wrap64 (x7 - 1)) < (x0.length : Int) then (tendrilref09_Check.j1 k x0 x7 x6 x7 (((rd_T51 x0 (wrap64 (x7 - 1))).f0).toList == ((rd_T51 x0 x7).f0).toList)) else (none)) else (none)) else (tendrilref09_Check.j1 k x0 x7 x6 x7 false))) else (some (x7, 8)))) else (none)) else (none))) else (some (0, 0))
def tendrilref09_Check.j1 : Nat → List (S51) → Int → Int → Int → Bool → Option (Int × Int)
  | 0, _, _, _, _, _ => none
  | k + 1, x0, x4, x6, x7, x44 => if x44 = true then (some (x4, 10)) else (if x4 > 0 then (if 0 ≤ (wrap64 (x4 - 1)) then (if (wrap64 (x4 - 1)) < (x0.length : Int) then (if 0 ≤ x4 then (if x4 < (x0.length : Int) then ((tendrilref02_Compare.f k ((rd_T51 x0 (wrap64 (x4 - 1))).f0) ((rd_T51 x0 x4).f0)).bind fun t118 => (if t118 > 0 then (some (x4, 9)) else (tendrilref09_Check.l0 k x0 x6 (wrap64 (x7 + 1))))) else (none)) else (none)) else (none)) else (none)) else (tendrilref09_Check.l0 k x0 x6 (wrap64 (x7 + 1))))
end
def tendrilref09_Check.f (k : Nat) (l0 : List (S51)) : Option (Int × Int) := tendrilref09_Check.l0 k l0 (l0.length : Int) 0
theorem tendrilref09_Check.mono_l : ∀ k, (∀ y0 y1 y2, LeO (tendrilref09_Check.l0 k y0 y1 y2) (tendrilref09_Check.l0 (k + 1) y0 y1 y2)) ∧ (∀ y0 y1 y2 y3 y4, LeO (tendrilref09_Check.j1 k y0 y1 y2 y3 y4) (tendrilref09_Check.j1 (k + 1) y0 y1 y2 y3 y4))
  | 0 => ⟨fun _ _ _ r h => by simp [tendrilref09_Check.l0] at h, fun _ _ _ _ _ r h => by simp [tendrilref09_Check.j1] at h⟩
  | k + 1 => by
    obtain ⟨ih0, ih1⟩ := tendrilref09_Check.mono_l k
    refine ⟨?_, ?_⟩
    · intro y0 y1 y2
      unfold tendrilref09_Check.l0
      repeat' first
      | (with_reducible exact ih0 _ _ _)
      | (with_reducible exact ih1 _ _ _ _ _)
      | (with_reducible exact tendrilref02_Compare.mono _ _ _)
      | (with_reducible exact tendrilref02_Named.mono _ _ _)
      | (with_reducible exact LeO.refl _)
      | (with_reducible exact LeO.none _)
      | (with_reducible refine LeO.ite ?_ ?_)
      | (with_reducible refine LeO.bind ?_ (fun _ => ?_))
      | exact ih0 _ _ _
      | exact ih1 _ _ _ _ _
      | exact tendrilref02_Compare.mono _ _ _
      | exact tendrilref02_Named.mono _ _ _
      | exact LeO.none _
      | refine LeO.ite ?_ ?_
      | refine LeO.bind ?_ (fun _ => ?_)
    · intro y0 y1 y2 y3 y4
      unfold tendrilref09_Check.j1
      repeat' first
      | (with_reducible exact ih0 _ _ _)
      | (with_reducible exact ih1 _ _ _ _ _)
      | (with_reducible exact tendrilref02_Compare.mono _ _ _)
      | (with_reducible exact tendrilref02_Named.mono _ _ _)
      | (with_reducible exact LeO.refl _)
      | (with_reducible exact LeO.none _)
      | (with_reducible refine LeO.ite ?_ ?_)
      | (with_reducible refine LeO.bind ?_ (fun _ => ?_))
      | exact ih0 _ _ _
      | exact ih1 _ _ _ _ _
      | exact tendrilref02_Compare.mono _ _ _
      | exact tendrilref02_Named.mono _ _ _
      | exact LeO.none _
      | refine LeO.ite ?_ ?_
      | refine LeO.bind ?_ (fun _ => ?_)
theorem tendrilref09_Check.mono : ∀ a0 k, LeO (tendrilref09_Check.f k a0) (tendrilref09_Check.f (k + 1) a0) := by
  intro a0 k
  obtain ⟨ih0, ih1⟩ := tendrilref09_Check.mono_l k
  unfold tendrilref09_Check.f
  repeat' first
      | (with_reducible exact ih0 _ _ _)
      | (with_reducible exact ih1 _ _ _ _ _)
      | (with_reducible exact tendrilref02_Compare.mono _ _ _)
      | (with_reducible exact tendrilref02_Named.mono _ _ _)
      | (with_reducible exact LeO.refl _)
      | (with_reducible exact LeO.none _)
      | (with_reducible refine LeO.ite ?_ ?_)
      | (with_reducible refine LeO.bind ?_ (fun _ => ?_))
      | exact ih0 _ _ _
      | exact ih1 _ _ _ _ _
      | exact tendrilref02_Compare.mono _ _ _
      | exact tendrilref02_Named.mono _ _ _
      | exact LeO.none _
      | refine LeO.ite ?_ ?_
      | refine LeO.bind ?_ (fun _ => ?_)
set_option maxHeartbeats 8000000 in
set_option maxRecDepth 100000 in
theorem tendrilref09_Check.calls (k : Nat) (A0 : Option Addr) (c0 : Nat) (l0 : List (S51)) (r1 : Int) (r2 : Int) (w : World) (hgl : Go.Proofs.YtgdemingopcgaaaDoorX.GL w) (hr0 : Kd.C k51 w A0 l0.length l0) (hc0 : l0.length ≤ c0) (h : tendrilref09_Check.f k l0 = some (r1, r2)) :
    Calls Tryd.prog 24 #[.slice A0 l0.length c0] w fun e w' => e = .returned (.tuple #[.int .i64 r1, .int .i64 r2]) ∧ Drawn0 w w' := by
  have HR0 := Aside0.mk hr0
  have HC0 := Aside0.mk hc0
  clear hr0 hc0
  have HGL := Aside0.mk hgl
  clear hgl
  have H : (tendrilref09_Check.l0 k l0 (l0.length : Int) 0) = some (r1, r2) := h
  clear h
  have H' := Aside0.mk H
  clear H
  go_enter Tryd.func24, Tryd.ntmps24
  go_wp2
  repeat (go_quiet (fail); try go_wp2)
  go_loopg [7] k (fun kq v7 w' => ∃ (x7_1 : Int), v7 = .int .i64 x7_1 ∧ Aside0 (tendrilref09_Check.l0 kq l0 (l0.length : Int) x7_1 = some (r1, r2)) ∧ Aside0 (kq ≤ k) ∧ Drawn0 w w')
  case atStart => exact ⟨(0), (by first | rfl | (simp; done) | (simp [*]; done)), H', ⟨Nat.le_refl _⟩, by repeat (first | exact Drawn0.refl _ | apply Drawn0.step)⟩
  case round =>
    clear H'
    obtain ⟨x7_1, rfl, HA, HK1, ⟨m1, rfl⟩⟩ := hrel
    cases gk with
    | zero => exact absurd HA.out (by simp [tendrilref09_Check.l0])
    | succ k1 =>
      have H := HA.out
      clear HA
      simp only [tendrilref09_Check.l0] at H
      by_cases c2 : x7_1 < (l0.length : Int)
      · rw [if_pos c2] at H
        have c2b0 : decide (x7_1 < (l0.length : Int)) = true := decide_eq_true c2
        clear c2
        by_cases c3 : x7_1 = 64
        · rw [if_pos c3] at H
          have c3b0 : (x7_1 == 64) = true := beq_iff_eq.mpr c3
          have c3b1 : (x7_1 != 64) = false := bne_eq_false_iff_eq.mpr c3
          clear c3
          simp only [Option.some.injEq, Prod.mk.injEq] at H
          obtain ⟨rfl, rfl⟩ := H
          go_wp2
          repeat (go_quiet (fail); try go_wp2)
          go_ret2
          exact ⟨by first | rfl | (simp; done) | (simp [*]; done), by repeat (first | exact Drawn0.refl _ | apply Drawn0.step)⟩
        · rw [if_neg c3] at H
          have c3b0 : (x7_1 == 64) = false := beq_eq_false_iff_ne.mpr c3
          have c3b1 : (x7_1 != 64) = true := bne_iff_ne.mpr c3
          by_cases c4 : 0 ≤ x7_1
          · rw [if_pos c4] at H
            have c4b0 : decide (0 ≤ x7_1) = true := decide_eq_true c4
            clear c4
            by_cases c5 : x7_1 < (l0.length : Int)
            · rw [if_pos c5] at H
              have c5b0 : decide (x7_1 < (l0.length : Int)) = true := decide_eq_true c5
              clear c5
              replace H := Option.bind_eq_some_iff.mp H
              obtain ⟨t112, A60, H⟩ := H
              replace H : (if t112 = true then (if (((rd_T51 l0 x7_1).f1).size : Int) > 65536 then (some (x7_1, 3)) else (if x7_1 > 0 then (if 0 ≤ (wrap64 (x7_1 - 1)) then (if (wrap64 (x7_1 - 1)) < (l0.length : Int) then (tendrilref09_Check.j1 k1 l0 x7_1 (l0.length : Int) x7_1 (((rd_T51 l0 (wrap64 (x7_1 - 1))).f0).toList == ((rd_T51 l0 x7_1).f0).toList)) else (none)) else (none)) else (tendrilref09_Check.j1 k1 l0 x7_1 (l0.length : Int) x7_1 false))) else (some (x7_1, 8))) = some (r1, r2) := H
              have A6 := Aside0.mk A60
              clear A60
              by_cases c7 : t112 = true
              · subst c7
                have H1 : (if (((rd_T51 l0 x7_1).f1).size : Int) > 65536 then (some (x7_1, 3)) else (if x7_1 > 0 then (if 0 ≤ (wrap64 (x7_1 - 1)) then (if (wrap64 (x7_1 - 1)) < (l0.length : Int) then (tendrilref09_Check.j1 k1 l0 x7_1 (l0.length : Int) x7_1 (((rd_T51 l0 (wrap64 (x7_1 - 1))).f0).toList == ((rd_T51 l0 x7_1).f0).toList)) else (none)) else (none)) else (tendrilref09_Check.j1 k1 l0 x7_1 (l0.length : Int) x7_1 false))) = some (r1, r2) := by rw [if_pos rfl] at H; exact H
                clear H
                have H := H1
                clear H1
                by_cases c8 : (((rd_T51 l0 x7_1).f1).size : Int) > 65536
                · rw [if_pos c8] at H
                  have c8b0 : decide (65536 < (((rd_T51 l0 x7_1).f1).size : Int)) = true := decide_eq_true c8
                  have c8b1 : decide (65536 < ((rd_T51 l0 x7_1).f1).size) = true := decide_eq_true (by omega)
                  clear c8
                  simp only [Option.some.injEq, Prod.mk.injEq] at H
                  obtain ⟨rfl, rfl⟩ := H
                  have p111 : 0 ≤ (x7_1 : Int) := of_decide_eq_true (by first | (with_reducible assumption) | assumption)
                  have q111 : x7_1 < (l0.length : Int) := of_decide_eq_true (by first | (with_reducible assumption) | assumption)
                  obtain ⟨ad111, e111, hx111_0, hx111_1⟩ := at_T51 HR0.out x7_1 p111 q111
                  cases e111
                  replace p111 := eq_true p111
                  replace q111 := eq_true q111
                  go_wp2_with (first | (go_at_call 23; (with_reducible refine (tendrilref02_Named.calls k1 ((rd_T51 l0 x7_1).f0) true true _ ?side1 A6.out).mono ?_); (case side1 => first | exact HGL.out | (repeat (first | exact HGL.out | (with_reducible refine Go.Proofs.YtgdemingopcgaaaDoorX.GL.drewN ?_ _) | (with_reducible refine Go.Proofs.YtgdemingopcgaaaDoorX.GL.drew ?_)))); rintro e w' ⟨rfl, ⟨nd, rfl⟩⟩; (try first | exact ⟨rfl, _, World.drewN_drewN _ _ _⟩ | exact ⟨rfl, _, Eq.trans (World.drewN_drewN _ _ _) (congrArg (World.drewN _) (Nat.add_assoc _ _ _))⟩); have p113 : 0 ≤ (x7_1 : Int) := of_decide_eq_true (by first | (with_reducible assumption) | assumption); have q113 : x7_1 < (l0.length : Int) := of_decide_eq_true (by first | (with_reducible assumption) | assumption); obtain ⟨ad113, e113, hx113_0, hx113_1⟩ := at_T51 HR0.out x7_1 p113 q113; obtain rfl : ad111 = ad113 := (by injection e113); replace p113 := eq_true p113; replace q113 := eq_true q113))
                  repeat (go_quiet (first | (go_at_call 23; (with_reducible refine (tendrilref02_Named.calls k1 ((rd_T51 l0 x7_1).f0) true true _ ?side1 A6.out).mono ?_); (case side1 => first | exact HGL.out | (repeat (first | exact HGL.out | (with_reducible refine Go.Proofs.YtgdemingopcgaaaDoorX.GL.drewN ?_ _) | (with_reducible refine Go.Proofs.YtgdemingopcgaaaDoorX.GL.drew ?_)))); rintro e w' ⟨rfl, ⟨nd, rfl⟩⟩; (try first | exact ⟨rfl, _, World.drewN_drewN _ _ _⟩ | exact ⟨rfl, _, Eq.trans (World.drewN_drewN _ _ _) (congrArg (World.drewN _) (Nat.add_assoc _ _ _))⟩); have p113 : 0 ≤ (x7_1 : Int) := of_decide_eq_true (by first | (with_reducible assumption) | assumption); have q113 : x7_1 < (l0.length : Int) := of_decide_eq_true (by first | (with_reducible assumption) | assumption); obtain ⟨ad113, e113, hx113_0, hx113_1⟩ := at_T51 HR0.out x7_1 p113 q113; obtain rfl : ad111 = ad113 := (by injection e113); replace p113 := eq_true p113; replace q113 := eq_true q113)); try go_wp2_with (first | (go_at_call 23; (with_reducible refine (tendrilref02_Named.calls k1 ((rd_T51 l0 x7_1).f0) true true _ ?side1 A6.out).mono ?_); (case side1 => first | exact HGL.out | (repeat (first | exact HGL.out | (with_reducible refine Go.Proofs.YtgdemingopcgaaaDoorX.GL.drewN ?_ _) | (with_reducible refine Go.Proofs.YtgdemingopcgaaaDoorX.GL.drew ?_)))); rintro e w' ⟨rfl, ⟨nd, rfl⟩⟩; (try first | exact ⟨rfl, _, World.drewN_drewN _ _ _⟩ | exact ⟨rfl, _, Eq.trans (World.drewN_drewN _ _ _) (congrArg (World.drewN _) (Nat.add_assoc _ _ _))⟩); have p113 : 0 ≤ (x7_1 : Int) := of_decide_eq_true (by first | (with_reducible assumption) | assumption); have q113 : x7_1 < (l0.length : Int) := of_decide_eq_true (by first | (with_reducible assumption) | assumption); obtain ⟨ad113, e113, hx113_0, hx113_1⟩ := at_T51 HR0.out x7_1 p113 q113; obtain rfl : ad111 = ad113 := (by injection e113); replace p113 := eq_true p113; replace q113 := eq_true q113)))
                  go_ret2
                  exact ⟨by first | rfl | (simp; done) | (simp [*]; done), by repeat (first | exact Drawn0.refl _ | apply Drawn0.step)⟩
                · rw [if_neg c8] at H
                  have c8b0 : decide (65536 < (((rd_T51 l0 x7_1).f1).size : Int)) = false := decide_eq_false c8
                  have c8b1 : decide (65536 < ((rd_T51 l0 x7_1).f1).size) = false := decide_eq_false (by omega)
                  clear c8
                  have HC9 := Aside0.mk H
                  clear H
                  have p111 : 0 ≤ (x7_1 : Int) := of_decide_eq_true (by first | (with_reducible assumption) | assumption)
                  have q111 : x7_1 < (l0.length : Int) := of_decide_eq_true (by first | (with_reducible assumption) | assumption)
                  obtain ⟨ad111, e111, hx111_0, hx111_1⟩ := at_T51 HR0.out x7_1 p111 q111
                  cases e111
                  replace p111 := eq_true p111
                  replace q111 := eq_true q111
                  go_upto_region 10 with (first | (go_at_call 23; (with_reducible refine (tendrilref02_Named.calls k1 ((rd_T51 l0 x7_1).f0) true true _ ?side1 A6.out).mono ?_); (case side1 => first | exact HGL.out | (repeat (first | exact HGL.out | (with_reducible refine Go.Proofs.YtgdemingopcgaaaDoorX.GL.drewN ?_ _) | (with_reducible refine Go.Proofs.YtgdemingopcgaaaDoorX.GL.drew ?_)))); rintro e w' ⟨rfl, ⟨nd, rfl⟩⟩; (try first | exact ⟨rfl, _, World.drewN_drewN _ _ _⟩ | exact ⟨rfl, _, Eq.trans (World.drewN_drewN _ _ _) (congrArg (World.drewN _) (Nat.add_assoc _ _ _))⟩); have p113 : 0 ≤ (x7_1 : Int) := of_decide_eq_true (by first | (with_reducible assumption) | assumption); have q113 : x7_1 < (l0.length : Int) := of_decide_eq_true (by first | (with_reducible assumption) | assumption); obtain ⟨ad113, e113, hx113_0, hx113_1⟩ := at_T51 HR0.out x7_1 p113 q113; obtain rfl : ad111 = ad113 := (by injection e113); replace p113 := eq_true p113; replace q113 := eq_true q113))
                  repeat (go_quiet (first | (go_at_call 23; (with_reducible refine (tendrilref02_Named.calls k1 ((rd_T51 l0 x7_1).f0) true true _ ?side1 A6.out).mono ?_); (case side1 => first | exact HGL.out | (repeat (first | exact HGL.out | (with_reducible refine Go.Proofs.YtgdemingopcgaaaDoorX.GL.drewN ?_ _) | (with_reducible refine Go.Proofs.YtgdemingopcgaaaDoorX.GL.drew ?_)))); rintro e w' ⟨rfl, ⟨nd, rfl⟩⟩; (try first | exact ⟨rfl, _, World.drewN_drewN _ _ _⟩ | exact ⟨rfl, _, Eq.trans (World.drewN_drewN _ _ _) (congrArg (World.drewN _) (Nat.add_assoc _ _ _))⟩); have p113 : 0 ≤ (x7_1 : Int) := of_decide_eq_true (by first | (with_reducible assumption) | assumption); have q113 : x7_1 < (l0.length : Int) := of_decide_eq_true (by first | (with_reducible assumption) | assumption); obtain ⟨ad113, e113, hx113_0, hx113_1⟩ := at_T51 HR0.out x7_1 p113 q113; obtain rfl : ad111 = ad113 := (by injection e113); replace p113 := eq_true p113; replace q113 := eq_true q113)); go_upto_region 10 with (first | (go_at_call 23; (with_reducible refine (tendrilref02_Named.calls k1 ((rd_T51 l0 x7_1).f0) true true _ ?side1 A6.out).mono ?_); (case side1 => first | exact HGL.out | (repeat (first | exact HGL.out | (with_reducible refine Go.Proofs.YtgdemingopcgaaaDoorX.GL.drewN ?_ _) | (with_reducible refine Go.Proofs.YtgdemingopcgaaaDoorX.GL.drew ?_)))); rintro e w' ⟨rfl, ⟨nd, rfl⟩⟩; (try first | exact ⟨rfl, _, World.drewN_drewN _ _ _⟩ | exact ⟨rfl, _, Eq.trans (World.drewN_drewN _ _ _) (congrArg (World.drewN _) (Nat.add_assoc _ _ _))⟩); have p113 : 0 ≤ (x7_1 : Int) := of_decide_eq_true (by first | (with_reducible assumption) | assumption); have q113 : x7_1 < (l0.length : Int) := of_decide_eq_true (by first | (with_reducible assumption) | assumption); obtain ⟨ad113, e113, hx113_0, hx113_1⟩ := at_T51 HR0.out x7_1 p113 q113; obtain rfl : ad111 = ad113 := (by injection e113); replace p113 := eq_true p113; replace q113 := eq_true q113)))
                  (try simp only [Act.put, List.setIfInBounds_toArray, List.set_cons_zero, List.set_cons_succ])
                  go_cut [44] (fun v44 wc => ∃ (kq : Nat) (x44_8 : Bool), v44 = .bool x44_8 ∧ Aside0 (tendrilref09_Check.j1 kq l0 x7_1 (l0.length : Int) x7_1 x44_8 = some (r1, r2)) ∧ Aside0 (kq ≤ k1) ∧ Drawn0 w wc)
                  case first =>
                    have H := HC9.out
                    clear HC9
                    by_cases c10 : x7_1 > 0
                    · rw [if_pos c10] at H
                      have c10b0 : decide (0 < x7_1) = true := decide_eq_true c10
                      clear c10
                      (first | rw [c10b0] | (simp only [i64_w, i32_w]; rw [c10b0]) | skip)
                      obtain ⟨ji11, hji11⟩ : ∃ j_ : Int, (wrap64 (x7_1 - 1)) = j_ := ⟨_, rfl⟩
                      replace H : (if 0 ≤ (ji11) then (if (ji11) < (l0.length : Int) then (tendrilref09_Check.j1 k1 l0 x7_1 (l0.length : Int) x7_1 (((rd_T51 l0 (ji11)).f0).toList == ((rd_T51 l0 x7_1).f0).toList)) else (none)) else (none)) = some (r1, r2) := by first | (rw [hji11] at H; exact H) | (simp only [hji11] at H ⊢; exact H)
                      have hji11w : (IntKind.i64.wrap (x7_1 - 1)) = ji11 := (i64_w _).trans hji11
                      by_cases c12 : 0 ≤ (ji11)
                      · rw [if_pos c12] at H
                        have c12b0 : decide (0 ≤ (ji11)) = true := decide_eq_true c12
                        clear c12
                        by_cases c13 : (ji11) < (l0.length : Int)
                        · rw [if_pos c13] at H
                          have c13b0 : decide ((ji11) < (l0.length : Int)) = true := decide_eq_true c13
                          clear c13
                          have H' := Aside0.mk H
                          clear H
                          have p114 : 0 ≤ ((ji11) : Int) := of_decide_eq_true (by first | (with_reducible assumption) | assumption)
                          have q114 : (ji11) < (l0.length : Int) := of_decide_eq_true (by first | (with_reducible assumption) | assumption)
                          obtain ⟨ad114, e114, hx114_0, hx114_1⟩ := at_T51 HR0.out (ji11) p114 q114
                          obtain rfl : ad111 = ad114 := (by injection e114)
                          replace p114 := eq_true p114
                          replace q114 := eq_true q114
                          have p115 : 0 ≤ (x7_1 : Int) := of_decide_eq_true (by first | (with_reducible assumption) | assumption)
                          have q115 : x7_1 < (l0.length : Int) := of_decide_eq_true (by first | (with_reducible assumption) | assumption)
                          obtain ⟨ad115, e115, hx115_0, hx115_1⟩ := at_T51 HR0.out x7_1 p115 q115
                          obtain rfl : ad111 = ad115 := (by injection e115)
                          replace p115 := eq_true p115
                          replace q115 := eq_true q115
                          go_wp2
                          repeat (go_quiet (fail); try go_wp2)
                          go_meet
                          case rel => exact ⟨_, ((((rd_T51 l0 (ji11)).f0).toList == ((rd_T51 l0 x7_1).f0).toList)), (by first | rfl | (simp; done) | (simp only [← hji11] <;> (first | rfl | simp)) | (simp [*]; done)), H', ⟨by have := HK1.out; first | omega | exact Nat.le_refl _⟩, by repeat (first | exact Drawn0.refl _ | apply Drawn0.step)⟩
                        · rw [if_neg c13] at H
                          exact absurd H (by simp)
                      · rw [if_neg c12] at H
                        exact absurd H (by simp)
                    · rw [if_neg c10] at H
                      have c10b0 : decide (0 < x7_1) = false := decide_eq_false c10
                      clear c10
                      (first | rw [c10b0] | (simp only [i64_w, i32_w]; rw [c10b0]) | skip)
                      have H' := Aside0.mk H
                      clear H
                      go_wp2
                      repeat (go_quiet (fail); try go_wp2)
                      go_meet
                      case rel => exact ⟨_, (false), (by first | rfl | (simp; done) | (simp [*]; done)), H', ⟨by have := HK1.out; first | omega | exact Nat.le_refl _⟩, by repeat (first | exact Drawn0.refl _ | apply Drawn0.step)⟩
                  case rest =>
                    clear HC9
                    try clear c1
                    try clear p1
                    try clear q1
                    try clear hx1
                    try clear c2
                    try clear c2b0
                    try clear p2
                    try clear c3
                    try clear c3b0
                    try clear c3b1
                    try clear c4
                    try clear c4b0
                    try clear c5
                    try clear c5b0
                    try clear p6
                    try clear c7
                    try clear c8
                    try clear c8b0
                    try clear c8b1
                    try clear c10
                    try clear c10b0
                    try clear p11
                    try clear q11
                    try clear hx11
                    try clear c12
                    try clear c12b0
                    try clear c13
                    try clear c13b0
                    try clear hx111_0
                    try clear hx111_1
                    try clear hx113_0
                    try clear hx113_1
                    try clear hx114_0
                    try clear hx114_1
                    try clear hx115_0
                    try clear hx115_1
                    try clear p111
                    try clear p113
                    try clear p114
                    try clear p115
                    try clear q111
                    try clear q113
                    try clear q114
                    try clear q115
                    obtain ⟨kq, x44_8, rfl, HA, HJ8, ⟨mc8, rfl⟩⟩ := hcut
                    cases kq with
                    | zero => exact absurd HA.out (by simp [tendrilref09_Check.j1])
                    | succ kj8 =>
                      have H := HA.out
                      clear HA
                      simp only [tendrilref09_Check.j1] at H
                      by_cases c14 : x44_8 = true
                      · subst c14
                        have H1 : (some (x7_1, 10)) = some (r1, r2) := by rw [if_pos rfl] at H; exact H
                        clear H
                        have H := H1
                        clear H1
                        simp only [Option.some.injEq, Prod.mk.injEq] at H
                        obtain ⟨rfl, rfl⟩ := H
                        go_wp2
                        repeat (go_quiet (fail); try go_wp2)
                        go_ret2
                        exact ⟨by first | rfl | (simp; done) | (simp [*]; done), by repeat (first | exact Drawn0.refl _ | apply Drawn0.step)⟩
                      · replace c14 := Bool.eq_false_iff.mpr c14
                        subst c14
                        have H1 : (if x7_1 > 0 then (if 0 ≤ (wrap64 (x7_1 - 1)) then (if (wrap64 (x7_1 - 1)) < (l0.length : Int) then (if 0 ≤ x7_1 then (if x7_1 < (l0.length : Int) then ((tendrilref02_Compare.f kj8 ((rd_T51 l0 (wrap64 (x7_1 - 1))).f0) ((rd_T51 l0 x7_1).f0)).bind fun t118 => (if t118 > 0 then (some (x7_1, 9)) else (tendrilref09_Check.l0 kj8 l0 (l0.length : Int) (wrap64 (x7_1 + 1))))) else (none)) else (none)) else (none)) else (none)) else (tendrilref09_Check.l0 kj8 l0 (l0.length : Int) (wrap64 (x7_1 + 1)))) = some (r1, r2) := by rw [if_neg (show ¬ (false = true) by decide)] at H; exact H
                        clear H
                        have H := H1
                        clear H1
                        by_cases c15 : x7_1 > 0
                        · rw [if_pos c15] at H
                          have c15b0 : decide (0 < x7_1) = true := decide_eq_true c15
                          clear c15
                          obtain ⟨ji16, hji16⟩ : ∃ j_ : Int, (wrap64 (x7_1 - 1)) = j_ := ⟨_, rfl⟩
                          replace H : (if 0 ≤ (ji16) then (if (ji16) < (l0.length : Int) then (if 0 ≤ x7_1 then (if x7_1 < (l0.length : Int) then ((tendrilref02_Compare.f kj8 ((rd_T51 l0 (ji16)).f0) ((rd_T51 l0 x7_1).f0)).bind fun t118 => (if t118 > 0 then (some (x7_1, 9)) else (tendrilref09_Check.l0 kj8 l0 (l0.length : Int) (wrap64 (x7_1 + 1))))) else (none)) else (none)) else (none)) else (none)) = some (r1, r2) := by first | (rw [hji16] at H; exact H) | (simp only [hji16] at H ⊢; exact H)
                          have hji16w : (IntKind.i64.wrap (x7_1 - 1)) = ji16 := (i64_w _).trans hji16
                          by_cases c17 : 0 ≤ (ji16)
                          · rw [if_pos c17] at H
                            have c17b0 : decide (0 ≤ (ji16)) = true := decide_eq_true c17
                            clear c17
                            by_cases c18 : (ji16) < (l0.length : Int)
                            · rw [if_pos c18] at H
                              have c18b0 : decide ((ji16) < (l0.length : Int)) = true := decide_eq_true c18
                              clear c18
                              by_cases c19 : 0 ≤ x7_1
                              · rw [if_pos c19] at H
                                have c19b0 : decide (0 ≤ x7_1) = true := decide_eq_true c19
                                clear c19
                                by_cases c20 : x7_1 < (l0.length : Int)
                                · rw [if_pos c20] at H
                                  have c20b0 : decide (x7_1 < (l0.length : Int)) = true := decide_eq_true c20
                                  clear c20
                                  replace H := Option.bind_eq_some_iff.mp H
                                  obtain ⟨t118, A210, H⟩ := H
                                  replace H : (if t118 > 0 then (some (x7_1, 9)) else (tendrilref09_Check.l0 kj8 l0 (l0.length : Int) (wrap64 (x7_1 + 1)))) = some (r1, r2) := H
                                  have A21 := Aside0.mk A210
                                  clear A210
                                  by_cases c22 : t118 > 0
                                  · rw [if_pos c22] at H
                                    have c22b0 : decide (0 < t118) = true := decide_eq_true c22
                                    clear c22
                                    simp only [Option.some.injEq, Prod.mk.injEq] at H
                                    obtain ⟨rfl, rfl⟩ := H
                                    have p116 : 0 ≤ ((ji16) : Int) := of_decide_eq_true (by first | (with_reducible assumption) | assumption)
                                    have q116 : (ji16) < (l0.length : Int) := of_decide_eq_true (by first | (with_reducible assumption) | assumption)
                                    obtain ⟨ad116, e116, hx116_0, hx116_1⟩ := at_T51 HR0.out (ji16) p116 q116
                                    obtain rfl : ad111 = ad116 := (by injection e116)
                                    replace p116 := eq_true p116
                                    replace q116 := eq_true q116
                                    have p117 : 0 ≤ (x7_1 : Int) := of_decide_eq_true (by first | (with_reducible assumption) | assumption)
                                    have q117 : x7_1 < (l0.length : Int) := of_decide_eq_true (by first | (with_reducible assumption) | assumption)
                                    obtain ⟨ad117, e117, hx117_0, hx117_1⟩ := at_T51 HR0.out x7_1 p117 q117
                                    obtain rfl : ad111 = ad117 := (by injection e117)
                                    replace p117 := eq_true p117
                                    replace q117 := eq_true q117
                                    go_wp2_with (first | (go_at_call 45; (with_reducible refine (tendrilref02_Compare.calls kj8 ((rd_T51 l0 (ji16)).f0) ((rd_T51 l0 x7_1).f0) t118 _ ?side1 A21.out).mono ?_); (case side1 => first | exact HGL.out | (repeat (first | exact HGL.out | (with_reducible refine Go.Proofs.YtgdemingopcgaaaDoorX.GL.drewN ?_ _) | (with_reducible refine Go.Proofs.YtgdemingopcgaaaDoorX.GL.drew ?_)))); rintro e w' ⟨rfl, ⟨nd, rfl⟩⟩; (try first | exact ⟨rfl, _, World.drewN_drewN _ _ _⟩ | exact ⟨rfl, _, Eq.trans (World.drewN_drewN _ _ _) (congrArg (World.drewN _) (Nat.add_assoc _ _ _))⟩)))
                                    repeat (go_quiet (first | (go_at_call 45; (with_reducible refine (tendrilref02_Compare.calls kj8 ((rd_T51 l0 (ji16)).f0) ((rd_T51 l0 x7_1).f0) t118 _ ?side1 A21.out).mono ?_); (case side1 => first | exact HGL.out | (repeat (first | exact HGL.out | (with_reducible refine Go.Proofs.YtgdemingopcgaaaDoorX.GL.drewN ?_ _) | (with_reducible refine Go.Proofs.YtgdemingopcgaaaDoorX.GL.drew ?_)))); rintro e w' ⟨rfl, ⟨nd, rfl⟩⟩; (try first | exact ⟨rfl, _, World.drewN_drewN _ _ _⟩ | exact ⟨rfl, _, Eq.trans (World.drewN_drewN _ _ _) (congrArg (World.drewN _) (Nat.add_assoc _ _ _))⟩))); try go_wp2_with (first | (go_at_call 45; (with_reducible refine (tendrilref02_Compare.calls kj8 ((rd_T51 l0 (ji16)).f0) ((rd_T51 l0 x7_1).f0) t118 _ ?side1 A21.out).mono ?_); (case side1 => first | exact HGL.out | (repeat (first | exact HGL.out | (with_reducible refine Go.Proofs.YtgdemingopcgaaaDoorX.GL.drewN ?_ _) | (with_reducible refine Go.Proofs.YtgdemingopcgaaaDoorX.GL.drew ?_)))); rintro e w' ⟨rfl, ⟨nd, rfl⟩⟩; (try first | exact ⟨rfl, _, World.drewN_drewN _ _ _⟩ | exact ⟨rfl, _, Eq.trans (World.drewN_drewN _ _ _) (congrArg (World.drewN _) (Nat.add_assoc _ _ _))⟩))))
                                    go_ret2
                                    exact ⟨by first | rfl | (simp; done) | (simp only [← hji16] <;> (first | rfl | simp)) | (simp [*]; done), by repeat (first | exact Drawn0.refl _ | apply Drawn0.step)⟩
                                  · rw [if_neg c22] at H
                                    have c22b0 : decide (0 < t118) = false := decide_eq_false c22
                                    clear c22
                                    have H' := Aside0.mk H
                                    clear H
                                    have p116 : 0 ≤ ((ji16) : Int) := of_decide_eq_true (by first | (with_reducible assumption) | assumption)
                                    have q116 : (ji16) < (l0.length : Int) := of_decide_eq_true (by first | (with_reducible assumption) | assumption)
                                    obtain ⟨ad116, e116, hx116_0, hx116_1⟩ := at_T51 HR0.out (ji16) p116 q116
                                    obtain rfl : ad111 = ad116 := (by injection e116)
                                    replace p116 := eq_true p116
                                    replace q116 := eq_true q116
                                    have p117 : 0 ≤ (x7_1 : Int) := of_decide_eq_true (by first | (with_reducible assumption) | assumption)
                                    have q117 : x7_1 < (l0.length : Int) := of_decide_eq_true (by first | (with_reducible assumption) | assumption)
                                    obtain ⟨ad117, e117, hx117_0, hx117_1⟩ := at_T51 HR0.out x7_1 p117 q117
                                    obtain rfl : ad111 = ad117 := (by injection e117)
                                    replace p117 := eq_true p117
                                    replace q117 := eq_true q117
                                    go_wp2_with (first | (go_at_call 45; (with_reducible refine (tendrilref02_Compare.calls kj8 ((rd_T51 l0 (ji16)).f0) ((rd_T51 l0 x7_1).f0) t118 _ ?side1 A21.out).mono ?_); (case side1 => first | exact HGL.out | (repeat (first | exact HGL.out | (with_reducible refine Go.Proofs.YtgdemingopcgaaaDoorX.GL.drewN ?_ _) | (with_reducible refine Go.Proofs.YtgdemingopcgaaaDoorX.GL.drew ?_)))); rintro e w' ⟨rfl, ⟨nd, rfl⟩⟩; (try first | exact ⟨rfl, _, World.drewN_drewN _ _ _⟩ | exact ⟨rfl, _, Eq.trans (World.drewN_drewN _ _ _) (congrArg (World.drewN _) (Nat.add_assoc _ _ _))⟩)))
                                    repeat (go_quiet (first | (go_at_call 45; (with_reducible refine (tendrilref02_Compare.calls kj8 ((rd_T51 l0 (ji16)).f0) ((rd_T51 l0 x7_1).f0) t118 _ ?side1 A21.out).mono ?_); (case side1 => first | exact HGL.out | (repeat (first | exact HGL.out | (with_reducible refine Go.Proofs.YtgdemingopcgaaaDoorX.GL.drewN ?_ _) | (with_reducible refine Go.Proofs.YtgdemingopcgaaaDoorX.GL.drew ?_)))); rintro e w' ⟨rfl, ⟨nd, rfl⟩⟩; (try first | exact ⟨rfl, _, World.drewN_drewN _ _ _⟩ | exact ⟨rfl, _, Eq.trans (World.drewN_drewN _ _ _) (congrArg (World.drewN _) (Nat.add_assoc _ _ _))⟩))); try go_wp2_with (first | (go_at_call 45; (with_reducible refine (tendrilref02_Compare.calls kj8 ((rd_T51 l0 (ji16)).f0) ((rd_T51 l0 x7_1).f0) t118 _ ?side1 A21.out).mono ?_); (case side1 => first | exact HGL.out | (repeat (first | exact HGL.out | (with_reducible refine Go.Proofs.YtgdemingopcgaaaDoorX.GL.drewN ?_ _) | (with_reducible refine Go.Proofs.YtgdemingopcgaaaDoorX.GL.drew ?_)))); rintro e w' ⟨rfl, ⟨nd, rfl⟩⟩; (try first | exact ⟨rfl, _, World.drewN_drewN _ _ _⟩ | exact ⟨rfl, _, Eq.trans (World.drewN_drewN _ _ _) (congrArg (World.drewN _) (Nat.add_assoc _ _ _))⟩))))
                                    go_roundg kj8
                                    case measure => have := HK1.out; have := HJ8.out; omega
                                    case rel => exact ⟨(wrap64 (x7_1 + 1)), (by first | rfl | (simp; done) | (simp [*]; done)), H', ⟨by have := HK1.out; have := HJ8.out; omega⟩, by repeat (first | exact Drawn0.refl _ | apply Drawn0.step)⟩
                                · rw [if_neg c20] at H
                                  exact absurd H (by simp)
                              · rw [if_neg c19] at H
                                exact absurd H (by simp)
                            · rw [if_neg c18] at H
                              exact absurd H (by simp)
                          · rw [if_neg c17] at H
                            exact absurd H (by simp)
                        · rw [if_neg c15] at H
                          have c15b0 : decide (0 < x7_1) = false := decide_eq_false c15
                          clear c15
                          have H' := Aside0.mk H
                          clear H
                          go_wp2
                          repeat (go_quiet (fail); try go_wp2)
                          go_roundg kj8
                          case measure => have := HK1.out; have := HJ8.out; omega
                          case rel => exact ⟨(wrap64 (x7_1 + 1)), (by first | rfl | (simp; done) | (simp [*]; done)), H', ⟨by have := HK1.out; have := HJ8.out; omega⟩, by repeat (first | exact Drawn0.refl _ | apply Drawn0.step)⟩
              · replace c7 := Bool.eq_false_iff.mpr c7
                subst c7
                have H1 : (some (x7_1, 8)) = some (r1, r2) := by rw [if_neg (show ¬ (false = true) by decide)] at H; exact H
                clear H
                have H := H1
                clear H1
                simp only [Option.some.injEq, Prod.mk.injEq] at H
                obtain ⟨rfl, rfl⟩ := H
                have p111 : 0 ≤ (x7_1 : Int) := of_decide_eq_true (by first | (with_reducible assumption) | assumption)
                have q111 : x7_1 < (l0.length : Int) := of_decide_eq_true (by first | (with_reducible assumption) | assumption)
                obtain ⟨ad111, e111, hx111_0, hx111_1⟩ := at_T51 HR0.out x7_1 p111 q111
                cases e111
                replace p111 := eq_true p111
                replace q111 := eq_true q111
                go_wp2_with (first | (go_at_call 23; (with_reducible refine (tendrilref02_Named.calls k1 ((rd_T51 l0 x7_1).f0) true false _ ?side1 A6.out).mono ?_); (case side1 => first | exact HGL.out | (repeat (first | exact HGL.out | (with_reducible refine Go.Proofs.YtgdemingopcgaaaDoorX.GL.drewN ?_ _) | (with_reducible refine Go.Proofs.YtgdemingopcgaaaDoorX.GL.drew ?_)))); rintro e w' ⟨rfl, ⟨nd, rfl⟩⟩; (try first | exact ⟨rfl, _, World.drewN_drewN _ _ _⟩ | exact ⟨rfl, _, Eq.trans (World.drewN_drewN _ _ _) (congrArg (World.drewN _) (Nat.add_assoc _ _ _))⟩)))
                repeat (go_quiet (first | (go_at_call 23; (with_reducible refine (tendrilref02_Named.calls k1 ((rd_T51 l0 x7_1).f0) true false _ ?side1 A6.out).mono ?_); (case side1 => first | exact HGL.out | (repeat (first | exact HGL.out | (with_reducible refine Go.Proofs.YtgdemingopcgaaaDoorX.GL.drewN ?_ _) | (with_reducible refine Go.Proofs.YtgdemingopcgaaaDoorX.GL.drew ?_)))); rintro e w' ⟨rfl, ⟨nd, rfl⟩⟩; (try first | exact ⟨rfl, _, World.drewN_drewN _ _ _⟩ | exact ⟨rfl, _, Eq.trans (World.drewN_drewN _ _ _) (congrArg (World.drewN _) (Nat.add_assoc _ _ _))⟩))); try go_wp2_with (first | (go_at_call 23; (with_reducible refine (tendrilref02_Named.calls k1 ((rd_T51 l0 x7_1).f0) true false _ ?side1 A6.out).mono ?_); (case side1 => first | exact HGL.out | (repeat (first | exact HGL.out | (with_reducible refine Go.Proofs.YtgdemingopcgaaaDoorX.GL.drewN ?_ _) | (with_reducible refine Go.Proofs.YtgdemingopcgaaaDoorX.GL.drew ?_)))); rintro e w' ⟨rfl, ⟨nd, rfl⟩⟩; (try first | exact ⟨rfl, _, World.drewN_drewN _ _ _⟩ | exact ⟨rfl, _, Eq.trans (World.drewN_drewN _ _ _) (congrArg (World.drewN _) (Nat.add_assoc _ _ _))⟩))))
                go_ret2
                exact ⟨by first | rfl | (simp; done) | (simp [*]; done), by repeat (first | exact Drawn0.refl _ | apply Drawn0.step)⟩
            · rw [if_neg c5] at H
              exact absurd H (by simp)
          · rw [if_neg c4] at H
            exact absurd H (by simp)
      · rw [if_neg c2] at H
        have c2b0 : decide (x7_1 < (l0.length : Int)) = false := decide_eq_false c2
        clear c2
        simp only [Option.some.injEq, Prod.mk.injEq] at H
        obtain ⟨rfl, rfl⟩ := H
        go_wp2
        repeat (go_quiet (fail); try go_wp2)
        go_ret2
        exact ⟨by first | rfl | (simp; done) | (simp [*]; done), by repeat (first | exact Drawn0.refl _ | apply Drawn0.step)⟩

end Go.Proofs.YtgdemingopcgaaaDoor.P26

namespace Go.Proofs.YtgdemingopcgaaaDoor.M02
open Go Go.RowKit Go.Proofs.YtgdemingopcgaaaDoor.P26 Go.Proofs.YtgdemingopcgaaaDoorE Go.Proofs.YtgdemingopcgaaaDoorW.PrintWords Go.Proofs.YtgdemingopcgaaaDoorW.PrintLast Go.Proofs.YtgdemingopcgaaaDoorW.PrintMore
def okA (x : S51) : Prop := x.f0.size ≤ 140737488351232 ∧ x.f1.size ≤ 140737488351232
/-- tendrilref09.Check from the i-th on, d to go. -/
def attrsG (l : List S51) : Nat → Nat → Int × Int
  | 0, _ => (0, 0)
  | d + 1, i =>
    if i = 64 then ((i : Int), 12)
    else if namedS true (B (rd_T51 l i).f0) = true then
      (if (rd_T51 l i).f1.size > 65536 then ((i : Int), 3)
       else if i > 0 ∧ B (rd_T51 l (i - 1 : Nat)).f0 = B (rd_T51 l i).f0 then ((i : Int), 10)
       else if i > 0 ∧ cmpL (B (rd_T51 l (i - 1 : Nat)).f0) (B (rd_T51 l i).f0) > 0 then ((i : Int), 9)
       else attrsG l d (i + 1))
    else ((i : Int), 8)
theorem attrs_l0 (l : List S51) (ho : ∀ i : Nat, i < l.length → okA (rd_T51 l i)) : ∀ d i : Nat, i + d = l.length → i ≤ 64 → Ev (fun k => tendrilref09_Check.l0 k l (l.length : Int) (i : Int)) (attrsG l d i) := by
  intro d
  induction d with
  | zero =>
    intro i hi _
    refine Ev.step (f := fun _ => some ((0 : Int), (0 : Int))) (fun k => ?_) (Ev.now _)
    simp only [tendrilref09_Check.l0]; rw [if_neg (by omega)]
  | succ d ih =>
    intro i hi h64
    unfold attrsG
    by_cases h1 : i = 64
    · rw [if_pos h1]
      refine Ev.step (f := fun _ => some ((i : Int), (12 : Int))) (fun k => ?_) (Ev.now _)
      simp only [tendrilref09_Check.l0]; rw [if_pos (by omega), if_pos (by omega)]
    · rw [if_neg h1]
      have hn := rnamed_ev (rd_T51 l i).f0 true (ho i (by omega)).1
      have e1 : wrap64 ((i : Int) + 1) = ((i + 1 : Nat) : Int) := by rw [w64 (by omega) (by omega)]; omega
      have on : Ev (fun k => tendrilref09_Check.l0 k l (l.length : Int) (wrap64 ((i : Int) + 1))) (attrsG l d (i + 1)) := by rw [e1]; exact ih (i + 1) (by omega) (by omega)
      refine Ev.step (f := fun k => (tendrilref02_Named.f k (rd_T51 l (i : Int)).f0 true).bind fun t => if t = true then (if (((rd_T51 l (i : Int)).f1).size : Int) > 65536 then some ((i : Int), 3) else if (i : Int) > 0 then tendrilref09_Check.j1 k l (i : Int) (l.length : Int) (i : Int) ((rd_T51 l (wrap64 ((i : Int) - 1))).f0.toList == (rd_T51 l (i : Int)).f0.toList) else tendrilref09_Check.j1 k l (i : Int) (l.length : Int) (i : Int) false) else some ((i : Int), 8)) (fun k => ?_) (Ev.bind hn ?_)
      · simp only [tendrilref09_Check.l0]
        rw [if_pos (by omega), if_neg (by omega), if_pos (by omega), if_pos (by omega)]
        congr 1; funext t
        by_cases hp : (i : Int) > 0
        · have e2 : wrap64 ((i : Int) - 1) = (i : Int) - 1 := w64 (by omega) (by omega)
          simp only [e2, if_pos hp, if_pos (show (0 : Int) ≤ (i : Int) - 1 by omega), if_pos (show (i : Int) - 1 < (l.length : Int) by omega)]
        · simp only [if_neg hp]
      · by_cases hnm : namedS true (B (rd_T51 l (i : Int)).f0) = true
        · rw [hnm, if_pos rfl]
          simp only [if_pos]
          by_cases h3 : (rd_T51 l (i : Int)).f1.size > 65536
          · rw [if_pos h3]; exact Ev.congr (fun k => by rw [if_pos (by omega)]) (Ev.now _)
          · rw [if_neg h3]
            by_cases hp : i > 0
            · have e2 : wrap64 ((i : Int) - 1) = ((i - 1 : Nat) : Int) := by rw [w64 (by omega) (by omega)]; omega
              refine Ev.congr (f := fun k => tendrilref09_Check.j1 k l (i : Int) (l.length : Int) (i : Int) ((rd_T51 l (wrap64 ((i : Int) - 1))).f0.toList == (rd_T51 l (i : Int)).f0.toList)) (fun k => by rw [if_neg (by omega), if_pos (by omega)]) ?_
              rw [e2, toList_B, toList_B]
              by_cases he : B (rd_T51 l ((i - 1 : Nat) : Int)).f0 = B (rd_T51 l (i : Int)).f0
              · rw [if_pos ⟨hp, he⟩]
                refine Ev.step (f := fun _ => some ((i : Int), (10 : Int))) (fun k => ?_) (Ev.now _)
                simp only [tendrilref09_Check.j1]; rw [if_pos (by rw [he]; simp)]
              · rw [if_neg (fun h => he h.2)]
                have hc := rcompare_ev (rd_T51 l ((i - 1 : Nat) : Int)).f0 (rd_T51 l (i : Int)).f0 (ho (i - 1) (by omega)).1 (ho i (by omega)).1
                refine Ev.step (f := fun k => (tendrilref02_Compare.f k (rd_T51 l ((i - 1 : Nat) : Int)).f0 (rd_T51 l (i : Int)).f0).bind fun t => if t > 0 then some ((i : Int), 9) else tendrilref09_Check.l0 k l (l.length : Int) (wrap64 ((i : Int) + 1))) (fun k => ?_) (Ev.bind hc ?_)
                · simp only [tendrilref09_Check.j1]
                  rw [if_neg (by simpa using he), if_pos (by omega), e2, if_pos (by omega), if_pos (by omega), if_pos (by omega), if_pos (by omega)]
                · by_cases h9 : cmpL (B (rd_T51 l ((i - 1 : Nat) : Int)).f0) (B (rd_T51 l (i : Int)).f0) > 0
                  · rw [if_pos ⟨hp, h9⟩]; exact Ev.congr (fun k => by rw [if_pos h9]) (Ev.now _)
                  · rw [if_neg (fun h => h9 h.2)]; exact Ev.congr (fun k => by rw [if_neg h9]) on
            · rw [if_neg (fun h => hp h.1), if_neg (fun h => hp h.1)]
              refine Ev.congr (f := fun k => tendrilref09_Check.j1 k l (i : Int) (l.length : Int) (i : Int) false) (fun k => by rw [if_neg (by omega), if_neg (by omega)]) (Ev.step (fun k => ?_) on)
              simp only [tendrilref09_Check.j1]; rw [if_neg (by decide), if_neg (by omega)]
        · have hnf : namedS true (B (rd_T51 l (i : Int)).f0) = false := by simpa using hnm
          rw [hnf, if_neg (by decide)]
          exact Ev.congr (fun k => by rw [if_neg (by decide)]) (Ev.now _)
def attrsS (l : List S51) : Int × Int := attrsG l l.length 0
theorem attrs_ev (l : List S51) (ho : ∀ i : Nat, i < l.length → okA (rd_T51 l i)) : Ev (fun k => tendrilref09_Check.f k l) (attrsS l) := attrs_l0 l ho l.length 0 (by omega) (by omega)
end Go.Proofs.YtgdemingopcgaaaDoor.M02

namespace Go.Proofs.YtgdemingopcgaaaDoor.P26
open Go.RowKit Go.Proofs.YtgdemingopcgaaaDoorE Go.Proofs.YtgdemingopcgaaaDoorW.PrintWords Go.Proofs.YtgdemingopcgaaaDoorW.PrintLast Go.Proofs.YtgdemingopcgaaaDoorW.PrintMore
attribute [local go_sem] max2_int min2_int max_two min_two max_three min_three max_four min_four   -- for this text's walks alone
set_option linter.unusedVariables false
set_option linter.unusedSimpArgs false

def tendrilref25_none.j0 : Nat → Int → Bool → Int → Int → Int → Int → ByteArray → ByteArray → ByteArray → ByteArray → List (S51) → Option (Bool)
  | 0, _, _, _, _, _, _, _, _, _, _, _ => none
  | k + 1, x3, x23, x110000, x110001, x110002, x110003, x110004, x110005, x110006, x110007, x110008 => if x23 = true then (some true) else (if x3 = 1 then (if x110001 = 0 then (if x3 = 2 then (if x3 = 5 then (some false) else (if x3 = 6 then (some false) else (if x110006.toList = ([] : List UInt8) then (some false) else (some true)))) else (if x110002 = 0 then (if x3 = 3 then (if x3 = 5 then (some false) else (if x3 = 6 then (some false) else (if x110006.toList = ([] : List UInt8) then (some false) else (some true)))) else (if x110003 = 0 then (if x3 = 5 then (some false) else (if x3 = 6 then (some false) else (if x110006.toList = ([] : List UInt8) then (some false) else (some true)))) else (some true))) else (some true))) else (some true)) else (if x3 = 2 then (if x3 = 5 then (some false) else (if x3 = 6 then (if x3 = 7 then (some false) else (some (x110007.toList != ([] : List UInt8)))) else (if x110006.toList = ([] : List UInt8) then (if x3 = 7 then (some false) else (some (x110007.toList != ([] : List UInt8)))) else (some true)))) else (if x110002 = 0 then (if x3 = 3 then (if x3 = 5 then (some false) else (if x3 = 6 then (if x3 = 7 then (some false) else (some (x110007.toList != ([] : List UInt8)))) else (if x110006.toList = ([] : List UInt8) then (if x3 = 7 then (some false) else (some (x110007.toList != ([] : List UInt8)))) else (some true)))) else (if x110003 = 0 then (if x3 = 5 then (some false) else (if x3 = 6 then (if x3 = 7 then (some false) else (some (x110007.toList != ([] : List UInt8)))) else (if x110006.toList = ([] : List UInt8) then (if x3 = 7 then (some false) else (some (x110007.toList != ([] : List UInt8)))) else (some true)))) else (some true))) else (some true))))
def tendrilref25_none.f (k : Nat) (a0_0 : Int) (a0_1 : Int) (a0_2 : Int) (a0_3 : Int) (a0_4 : ByteArray) (a0_5 : ByteArray) (a0_6 : ByteArray) (a0_7 : ByteArray) (l0_8 : List (S51)) : Option (Bool) := if a0_0 = 1 then (tendrilref25_none.j0 k a0_0 false a0_0 a0_1 a0_2 a0_3 a0_4 a0_5 a0_6 a0_7 l0_8) else (if a0_4.toList = ([] : List UInt8) then (if a0_5.toList = ([] : List UInt8) then (tendrilref25_none.j0 k a0_0 (decide ((l0_8.length : Int) > 0)) a0_0 a0_1 a0_2 a0_3 a0_4 a0_5 a0_6 a0_7 l0_8) else (tendrilref25_none.j0 k a0_0 true a0_0 a0_1 a0_2 a0_3 a0_4 a0_5 a0_6 a0_7 l0_8)) else (tendrilref25_none.j0 k a0_0 true a0_0 a0_1 a0_2 a0_3 a0_4 a0_5 a0_6 a0_7 l0_8))
theorem tendrilref25_none.mono_l : ∀ k, (∀ y0 y1 y2 y3 y4 y5 y6 y7 y8 y9 y10, LeO (tendrilref25_none.j0 k y0 y1 y2 y3 y4 y5 y6 y7 y8 y9 y10) (tendrilref25_none.j0 (k + 1) y0 y1 y2 y3 y4 y5 y6 y7 y8 y9 y10))
  | 0 => fun _ _ _ _ _ _ _ _ _ _ _ r h => by simp [tendrilref25_none.j0] at h
  | k + 1 => by
    have ih0 := tendrilref25_none.mono_l k
    · intro y0 y1 y2 y3 y4 y5 y6 y7 y8 y9 y10
      unfold tendrilref25_none.j0
      repeat' first
      | (with_reducible exact ih0 _ _ _ _ _ _ _ _ _ _ _)
      | (with_reducible exact LeO.refl _)
      | (with_reducible exact LeO.none _)
      | (with_reducible refine LeO.ite ?_ ?_)
      | (with_reducible refine LeO.bind ?_ (fun _ => ?_))
      | exact ih0 _ _ _ _ _ _ _ _ _ _ _
      | exact LeO.none _
      | refine LeO.ite ?_ ?_
      | refine LeO.bind ?_ (fun _ => ?_)
theorem tendrilref25_none.mono : ∀ a0 a1 a2 a3 a4 a5 a6 a7 a8 k, LeO (tendrilref25_none.f k a0 a1 a2 a3 a4 a5 a6 a7 a8) (tendrilref25_none.f (k + 1) a0 a1 a2 a3 a4 a5 a6 a7 a8) := by
  intro a0 a1 a2 a3 a4 a5 a6 a7 a8 k
  have ih0 := tendrilref25_none.mono_l k
  unfold tendrilref25_none.f
  repeat' first
      | (with_reducible exact ih0 _ _ _ _ _ _ _ _ _ _ _)
      | (with_reducible exact LeO.refl _)
      | (with_reducible exact LeO.none _)
      | (with_reducible refine LeO.ite ?_ ?_)
      | (with_reducible refine LeO.bind ?_ (fun _ => ?_))
      | exact ih0 _ _ _ _ _ _ _ _ _ _ _
      | exact LeO.none _
      | refine LeO.ite ?_ ?_
      | refine LeO.bind ?_ (fun _ => ?_)
set_option maxHeartbeats 8000000 in
set_option maxRecDepth 100000 in
theorem tendrilref25_none.calls (k : Nat) (a0_0 : Int) (a0_1 : Int) (a0_2 : Int) (a0_3 : Int) (a0_4 : ByteArray) (a0_5 : ByteArray) (a0_6 : ByteArray) (a0_7 : ByteArray) (A0_8 : Option Addr) (c0_8 : Nat) (l0_8 : List (S51)) (r : Bool) (w : World) (hgl : Go.Proofs.YtgdemingopcgaaaDoorX.GL w) (hr0_8 : Kd.C k51 w A0_8 l0_8.length l0_8) (hc0_8 : l0_8.length ≤ c0_8) (h : tendrilref25_none.f k a0_0 a0_1 a0_2 a0_3 a0_4 a0_5 a0_6 a0_7 l0_8 = some r) :
    Calls Tryd.prog 22 #[.agg #[.int .i64 a0_0, .int .i64 a0_1, .int .i64 a0_2, .int .i64 a0_3, .string a0_4, .string a0_5, .string a0_6, .string a0_7, .slice A0_8 l0_8.length c0_8]] w fun e w' => e = .returned (.bool r) ∧ Below w.heap.size w w' := by
  have hu24 := Tryd.underlying24
  have HR0_8 := Aside0.mk hr0_8
  have HC0_8 := Aside0.mk hc0_8
  clear hr0_8 hc0_8
  have HGL := Aside0.mk hgl
  clear hgl
  have HB := Aside0.mk (Below.refl w.heap.size w)
  have H : (if a0_0 = 1 then (tendrilref25_none.j0 k a0_0 false a0_0 a0_1 a0_2 a0_3 a0_4 a0_5 a0_6 a0_7 l0_8) else (if a0_4.toList = ([] : List UInt8) then (if a0_5.toList = ([] : List UInt8) then (tendrilref25_none.j0 k a0_0 (decide ((l0_8.length : Int) > 0)) a0_0 a0_1 a0_2 a0_3 a0_4 a0_5 a0_6 a0_7 l0_8) else (tendrilref25_none.j0 k a0_0 true a0_0 a0_1 a0_2 a0_3 a0_4 a0_5 a0_6 a0_7 l0_8)) else (tendrilref25_none.j0 k a0_0 true a0_0 a0_1 a0_2 a0_3 a0_4 a0_5 a0_6 a0_7 l0_8))) = some r := h
  clear h
  have HC2 := Aside0.mk H
  clear H
  go_enter Tryd.func22, Tryd.ntmps22
  go_upto_region 2 with (first | ((with_reducible refine gate_dst (N := 1) rfl ?_); (try (refine gate_guard (by rfl) ?_; dsimp only)); refine box_event ?hg (N := 1) ?hd (cs := #[.int .i64 a0_0, .int .i64 a0_1, .int .i64 a0_2, .int .i64 a0_3, .string a0_4, .string a0_5, .string a0_6, .string a0_7, .slice A0_8 l0_8.length c0_8]) (t := 24) ?hr ?_; (case hd => rfl); (case hg => rfl); (case hr => first | (go_simp; done) | (go_simp; rfl)); intro gb109 hg w3 hbox hb; have n0_ := Aside0.mk (below_step (by repeat (first | (with_reducible first | exact HB.out | apply below_alloc | apply pw_below_drewN | apply below_drew1) | exact HB.out)) hb); have n1_ := Aside0.mk (hbox); have n2_ := Aside0.mk ((by rw [hg]; exact (below_size (by repeat (first | (with_reducible first | exact HB.out | apply below_alloc | apply pw_below_drewN | apply below_drew1) | exact HB.out))) : w.heap.size ≤ gb109)); have n3_ := Aside0.mk ((by rw [hg]; exact (below_size (by repeat (first | (with_reducible first | exact HB.out | apply below_alloc | apply pw_below_drewN | apply below_drew1) | exact HB.out))) : w.heap.size ≤ gb109)); clear HB; have HB := n0_; have BK109 := n1_; have GW109 := n2_; have GE109 := n3_; clear n0_ n1_ n2_ n3_; clear hb hbox hg; have hcz4_0 : w3.cell? ⟨gb109, 0, none⟩ = some (.int .i64 a0_0) := (blk_cell BK109.out 0).trans rfl; have hcz4_1 : w3.cell? ⟨gb109, 1, none⟩ = some (.int .i64 a0_1) := (blk_cell BK109.out 1).trans rfl; have hcz4_2 : w3.cell? ⟨gb109, 2, none⟩ = some (.int .i64 a0_2) := (blk_cell BK109.out 2).trans rfl; have hcz4_3 : w3.cell? ⟨gb109, 3, none⟩ = some (.int .i64 a0_3) := (blk_cell BK109.out 3).trans rfl; have hcz4_4 : w3.cell? ⟨gb109, 4, none⟩ = some (.string a0_4) := (blk_cell BK109.out 4).trans rfl; have hcz4_5 : w3.cell? ⟨gb109, 5, none⟩ = some (.string a0_5) := (blk_cell BK109.out 5).trans rfl; have hcz4_6 : w3.cell? ⟨gb109, 6, none⟩ = some (.string a0_6) := (blk_cell BK109.out 6).trans rfl; have hcz4_7 : w3.cell? ⟨gb109, 7, none⟩ = some (.string a0_7) := (blk_cell BK109.out 7).trans rfl; have hcz4_8 : w3.cell? ⟨gb109, 8, none⟩ = some (.slice A0_8 l0_8.length c0_8) := (blk_cell BK109.out 8).trans rfl; have hfz4_0 := blk_frozen BK109.out 0; have hfz4_1 := blk_frozen BK109.out 1; have hfz4_2 := blk_frozen BK109.out 2; have hfz4_3 := blk_frozen BK109.out 3; have hfz4_4 := blk_frozen BK109.out 4; have hfz4_5 := blk_frozen BK109.out 5; have hfz4_6 := blk_frozen BK109.out 6; have hfz4_7 := blk_frozen BK109.out 7; have hfz4_8 := blk_frozen BK109.out 8))
  (try simp only [Act.put, List.setIfInBounds_toArray, List.set_cons_zero, List.set_cons_succ])
  go_cut [23] (fun v23 wc => ∃ (kq : Nat) (x23_1 : Bool), v23 = .bool x23_1 ∧ Aside0 (tendrilref25_none.j0 kq a0_0 x23_1 a0_0 a0_1 a0_2 a0_3 a0_4 a0_5 a0_6 a0_7 l0_8 = some r) ∧ Aside0 (kq ≤ k) ∧ Aside0 (wc.heap[gb109]? = some (.cells #[.int .i64 a0_0, .int .i64 a0_1, .int .i64 a0_2, .int .i64 a0_3, .string a0_4, .string a0_5, .string a0_6, .string a0_7, (.slice A0_8 l0_8.length c0_8)] 24 (0, 0))) ∧ Aside0 (Below w.heap.size w wc))
  case first =>
    have H := HC2.out
    clear HC2
    by_cases c5 : a0_0 = 1
    · rw [if_pos c5] at H
      have c5b0 : (a0_0 == 1) = true := beq_iff_eq.mpr c5
      have c5b1 : (a0_0 != 1) = false := bne_eq_false_iff_eq.mpr c5
      clear c5
      (first | rw [c5b0] | (simp only [i64_w, i32_w]; rw [c5b0]) | skip)
      have H' := Aside0.mk H
      clear H
      go_wp2
      go_meet
      case rel => exact ⟨_, (false), (by first | rfl | (simp; done) | (simp [*]; done)), H', ⟨by first | omega | exact Nat.le_refl _⟩, ⟨by (with_reducible repeat (first | refine blk_drewN ?_ _ | refine blk_drew ?_ | refine blk_alloc ?_ _)); exact BK109.out⟩, ⟨by repeat (first | (with_reducible first | exact HB.out | apply below_alloc | apply pw_below_drewN | apply below_drew1 | refine below_set ?_ GE109.out) | exact HB.out)⟩⟩
    · rw [if_neg c5] at H
      have c5b0 : (a0_0 == 1) = false := beq_eq_false_iff_ne.mpr c5
      have c5b1 : (a0_0 != 1) = true := bne_iff_ne.mpr c5
      (first | rw [c5b0] | (simp only [i64_w, i32_w]; rw [c5b0]) | skip)
      by_cases c6 : a0_4.toList = ([] : List UInt8)
      · rw [if_pos c6] at H
        have c6b0 : (a0_4.toList == ([] : List UInt8)) = true := beq_iff_eq.mpr c6
        have c6b1 : (a0_4.toList != ([] : List UInt8)) = false := bne_eq_false_iff_eq.mpr c6
        clear c6
        by_cases c7 : a0_5.toList = ([] : List UInt8)
        · rw [if_pos c7] at H
          have c7b0 : (a0_5.toList == ([] : List UInt8)) = true := beq_iff_eq.mpr c7
          have c7b1 : (a0_5.toList != ([] : List UInt8)) = false := bne_eq_false_iff_eq.mpr c7
          clear c7
          have H' := Aside0.mk H
          clear H
          have hcz8_0 : w3.cell? ⟨gb109, 0, none⟩ = some (.int .i64 a0_0) := (blk_cell BK109.out 0).trans rfl
          have hcz8_1 : w3.cell? ⟨gb109, 1, none⟩ = some (.int .i64 a0_1) := (blk_cell BK109.out 1).trans rfl
          have hcz8_2 : w3.cell? ⟨gb109, 2, none⟩ = some (.int .i64 a0_2) := (blk_cell BK109.out 2).trans rfl
          have hcz8_3 : w3.cell? ⟨gb109, 3, none⟩ = some (.int .i64 a0_3) := (blk_cell BK109.out 3).trans rfl
          have hcz8_4 : w3.cell? ⟨gb109, 4, none⟩ = some (.string a0_4) := (blk_cell BK109.out 4).trans rfl
          have hcz8_5 : w3.cell? ⟨gb109, 5, none⟩ = some (.string a0_5) := (blk_cell BK109.out 5).trans rfl
          have hcz8_6 : w3.cell? ⟨gb109, 6, none⟩ = some (.string a0_6) := (blk_cell BK109.out 6).trans rfl
          have hcz8_7 : w3.cell? ⟨gb109, 7, none⟩ = some (.string a0_7) := (blk_cell BK109.out 7).trans rfl
          have hcz8_8 : w3.cell? ⟨gb109, 8, none⟩ = some (.slice A0_8 l0_8.length c0_8) := (blk_cell BK109.out 8).trans rfl
          have hfz8_0 := blk_frozen BK109.out 0
          have hfz8_1 := blk_frozen BK109.out 1
          have hfz8_2 := blk_frozen BK109.out 2
          have hfz8_3 := blk_frozen BK109.out 3
          have hfz8_4 := blk_frozen BK109.out 4
          have hfz8_5 := blk_frozen BK109.out 5
          have hfz8_6 := blk_frozen BK109.out 6
          have hfz8_7 := blk_frozen BK109.out 7
          have hfz8_8 := blk_frozen BK109.out 8
          go_wp2
          go_meet
          case rel => exact ⟨_, (decide ((l0_8.length : Int) > 0)), (by first | rfl | (simp; done) | (simp [*]; done)), H', ⟨by first | omega | exact Nat.le_refl _⟩, ⟨by (with_reducible repeat (first | refine blk_drewN ?_ _ | refine blk_drew ?_ | refine blk_alloc ?_ _)); exact BK109.out⟩, ⟨by repeat (first | (with_reducible first | exact HB.out | apply below_alloc | apply pw_below_drewN | apply below_drew1 | refine below_set ?_ GE109.out) | exact HB.out)⟩⟩
        · rw [if_neg c7] at H
          have c7b0 : (a0_5.toList == ([] : List UInt8)) = false := beq_eq_false_iff_ne.mpr c7
          have c7b1 : (a0_5.toList != ([] : List UInt8)) = true := bne_iff_ne.mpr c7
          have H' := Aside0.mk H
          clear H
          have hcz9_0 : w3.cell? ⟨gb109, 0, none⟩ = some (.int .i64 a0_0) := (blk_cell BK109.out 0).trans rfl
          have hcz9_1 : w3.cell? ⟨gb109, 1, none⟩ = some (.int .i64 a0_1) := (blk_cell BK109.out 1).trans rfl
          have hcz9_2 : w3.cell? ⟨gb109, 2, none⟩ = some (.int .i64 a0_2) := (blk_cell BK109.out 2).trans rfl
          have hcz9_3 : w3.cell? ⟨gb109, 3, none⟩ = some (.int .i64 a0_3) := (blk_cell BK109.out 3).trans rfl
          have hcz9_4 : w3.cell? ⟨gb109, 4, none⟩ = some (.string a0_4) := (blk_cell BK109.out 4).trans rfl
          have hcz9_5 : w3.cell? ⟨gb109, 5, none⟩ = some (.string a0_5) := (blk_cell BK109.out 5).trans rfl
          have hcz9_6 : w3.cell? ⟨gb109, 6, none⟩ = some (.string a0_6) := (blk_cell BK109.out 6).trans rfl
          have hcz9_7 : w3.cell? ⟨gb109, 7, none⟩ = some (.string a0_7) := (blk_cell BK109.out 7).trans rfl
          have hcz9_8 : w3.cell? ⟨gb109, 8, none⟩ = some (.slice A0_8 l0_8.length c0_8) := (blk_cell BK109.out 8).trans rfl
          have hfz9_0 := blk_frozen BK109.out 0
          have hfz9_1 := blk_frozen BK109.out 1
          have hfz9_2 := blk_frozen BK109.out 2
          have hfz9_3 := blk_frozen BK109.out 3
          have hfz9_4 := blk_frozen BK109.out 4
          have hfz9_5 := blk_frozen BK109.out 5
          have hfz9_6 := blk_frozen BK109.out 6
          have hfz9_7 := blk_frozen BK109.out 7
          have hfz9_8 := blk_frozen BK109.out 8
          go_wp2
          go_meet
          case rel => exact ⟨_, (true), (by first | rfl | (simp; done) | (simp [*]; done)), H', ⟨by first | omega | exact Nat.le_refl _⟩, ⟨by (with_reducible repeat (first | refine blk_drewN ?_ _ | refine blk_drew ?_ | refine blk_alloc ?_ _)); exact BK109.out⟩, ⟨by repeat (first | (with_reducible first | exact HB.out | apply below_alloc | apply pw_below_drewN | apply below_drew1 | refine below_set ?_ GE109.out) | exact HB.out)⟩⟩
      · rw [if_neg c6] at H
        have c6b0 : (a0_4.toList == ([] : List UInt8)) = false := beq_eq_false_iff_ne.mpr c6
        have c6b1 : (a0_4.toList != ([] : List UInt8)) = true := bne_iff_ne.mpr c6
        have H' := Aside0.mk H
        clear H
        have hcz10_0 : w3.cell? ⟨gb109, 0, none⟩ = some (.int .i64 a0_0) := (blk_cell BK109.out 0).trans rfl
        have hcz10_1 : w3.cell? ⟨gb109, 1, none⟩ = some (.int .i64 a0_1) := (blk_cell BK109.out 1).trans rfl
        have hcz10_2 : w3.cell? ⟨gb109, 2, none⟩ = some (.int .i64 a0_2) := (blk_cell BK109.out 2).trans rfl
        have hcz10_3 : w3.cell? ⟨gb109, 3, none⟩ = some (.int .i64 a0_3) := (blk_cell BK109.out 3).trans rfl
        have hcz10_4 : w3.cell? ⟨gb109, 4, none⟩ = some (.string a0_4) := (blk_cell BK109.out 4).trans rfl
        have hcz10_5 : w3.cell? ⟨gb109, 5, none⟩ = some (.string a0_5) := (blk_cell BK109.out 5).trans rfl
        have hcz10_6 : w3.cell? ⟨gb109, 6, none⟩ = some (.string a0_6) := (blk_cell BK109.out 6).trans rfl
        have hcz10_7 : w3.cell? ⟨gb109, 7, none⟩ = some (.string a0_7) := (blk_cell BK109.out 7).trans rfl
        have hcz10_8 : w3.cell? ⟨gb109, 8, none⟩ = some (.slice A0_8 l0_8.length c0_8) := (blk_cell BK109.out 8).trans rfl
        have hfz10_0 := blk_frozen BK109.out 0
        have hfz10_1 := blk_frozen BK109.out 1
        have hfz10_2 := blk_frozen BK109.out 2
        have hfz10_3 := blk_frozen BK109.out 3
        have hfz10_4 := blk_frozen BK109.out 4
        have hfz10_5 := blk_frozen BK109.out 5
        have hfz10_6 := blk_frozen BK109.out 6
        have hfz10_7 := blk_frozen BK109.out 7
        have hfz10_8 := blk_frozen BK109.out 8
        go_wp2
        go_meet
        case rel => exact ⟨_, (true), (by first | rfl | (simp; done) | (simp [*]; done)), H', ⟨by first | omega | exact Nat.le_refl _⟩, ⟨by (with_reducible repeat (first | refine blk_drewN ?_ _ | refine blk_drew ?_ | refine blk_alloc ?_ _)); exact BK109.out⟩, ⟨by repeat (first | (with_reducible first | exact HB.out | apply below_alloc | apply pw_below_drewN | apply below_drew1 | refine below_set ?_ GE109.out) | exact HB.out)⟩⟩
  case rest =>
    clear HC2
    try clear c2
    try clear p2
    try clear c5
    try clear c5b0
    try clear c5b1
    try clear c6
    try clear c6b0
    try clear c6b1
    try clear c7
    try clear c7b0
    try clear c7b1
    try clear hcz10_0
    try clear hcz10_1
    try clear hcz10_2
    try clear hcz10_3
    try clear hcz10_4
    try clear hcz10_5
    try clear hcz10_6
    try clear hcz10_7
    try clear hcz10_8
    try clear hcz4_0
    try clear hcz4_1
    try clear hcz4_2
    try clear hcz4_3
    try clear hcz4_4
    try clear hcz4_5
    try clear hcz4_6
    try clear hcz4_7
    try clear hcz4_8
    try clear hcz8_0
    try clear hcz8_1
    try clear hcz8_2
    try clear hcz8_3
    try clear hcz8_4
    try clear hcz8_5
    try clear hcz8_6
    try clear hcz8_7
    try clear hcz8_8
    try clear hcz9_0
    try clear hcz9_1
    try clear hcz9_2
    try clear hcz9_3
    try clear hcz9_4
    try clear hcz9_5
    try clear hcz9_6
    try clear hcz9_7
    try clear hcz9_8
    try clear hfz10_0
    try clear hfz10_1
    try clear hfz10_2
    try clear hfz10_3
    try clear hfz10_4
    try clear hfz10_5
    try clear hfz10_6
    try clear hfz10_7
    try clear hfz10_8
    try clear hfz4_0
    try clear hfz4_1
    try clear hfz4_2
    try clear hfz4_3
    try clear hfz4_4
    try clear hfz4_5
    try clear hfz4_6
    try clear hfz4_7
    try clear hfz4_8
    try clear hfz8_0
    try clear hfz8_1
    try clear hfz8_2
    try clear hfz8_3
    try clear hfz8_4
    try clear hfz8_5
    try clear hfz8_6
    try clear hfz8_7
    try clear hfz8_8
    try clear hfz9_0
    try clear hfz9_1
    try clear hfz9_2
    try clear hfz9_3
    try clear hfz9_4
    try clear hfz9_5
    try clear hfz9_6
    try clear hfz9_7
    try clear hfz9_8
    obtain ⟨kq, x23_1, rfl, HA, HJ1, BK109, HB⟩ := hcut
    cases kq with
    | zero => exact absurd HA.out (by simp [tendrilref25_none.j0])
    | succ kj1 =>
      have H := HA.out
      clear HA
      simp only [tendrilref25_none.j0] at H
      by_cases c11 : x23_1 = true
      · subst c11
        have H1 : (some true) = some r := by rw [if_pos rfl] at H; exact H
        clear H
        have H := H1
        clear H1
        obtain rfl := Option.some.inj H
        go_wp2
        go_ret
        exact ⟨by first | rfl | (simp [errW_none, errW_some] <;> first | rfl | exact emp_bne _ | exact (emp_bne _).symm | exact emp_bne' _ | exact (emp_bne' _).symm) | (simp [*, errW_none, errW_some] <;> rfl), by repeat (first | (with_reducible first | exact HB.out | apply below_alloc | apply pw_below_drewN | apply below_drew1 | refine below_set ?_ GE109.out) | exact HB.out)⟩
      · replace c11 := Bool.eq_false_iff.mpr c11
        subst c11
        have H1 : (if a0_0 = 1 then (if a0_1 = 0 then (if a0_0 = 2 then (if a0_0 = 5 then (some false) else (if a0_0 = 6 then (some false) else (if a0_6.toList = ([] : List UInt8) then (some false) else (some true)))) else (if a0_2 = 0 then (if a0_0 = 3 then (if a0_0 = 5 then (some false) else (if a0_0 = 6 then (some false) else (if a0_6.toList = ([] : List UInt8) then (some false) else (some true)))) else (if a0_3 = 0 then (if a0_0 = 5 then (some false) else (if a0_0 = 6 then (some false) else (if a0_6.toList = ([] : List UInt8) then (some false) else (some true)))) else (some true))) else (some true))) else (some true)) else (if a0_0 = 2 then (if a0_0 = 5 then (some false) else (if a0_0 = 6 then (if a0_0 = 7 then (some false) else (some (a0_7.toList != ([] : List UInt8)))) else (if a0_6.toList = ([] : List UInt8) then (if a0_0 = 7 then (some false) else (some (a0_7.toList != ([] : List UInt8)))) else (some true)))) else (if a0_2 = 0 then (if a0_0 = 3 then (if a0_0 = 5 then (some false) else (if a0_0 = 6 then (if a0_0 = 7 then (some false) else (some (a0_7.toList != ([] : List UInt8)))) else (if a0_6.toList = ([] : List UInt8) then (if a0_0 = 7 then (some false) else (some (a0_7.toList != ([] : List UInt8)))) else (some true)))) else (if a0_3 = 0 then (if a0_0 = 5 then (some false) else (if a0_0 = 6 then (if a0_0 = 7 then (some false) else (some (a0_7.toList != ([] : List UInt8)))) else (if a0_6.toList = ([] : List UInt8) then (if a0_0 = 7 then (some false) else (some (a0_7.toList != ([] : List UInt8)))) else (some true)))) else (some true))) else (some true)))) = some r := by rw [if_neg (show ¬ (false = true) by decide)] at H; exact H
        clear H
        have H := H1
        clear H1
        by_cases c12 : a0_0 = 1
        · rw [if_pos c12] at H
          have c12b0 : (a0_0 == 1) = true := beq_iff_eq.mpr c12
          have c12b1 : (a0_0 != 1) = false := bne_eq_false_iff_eq.mpr c12
          clear c12
          by_cases c13 : a0_1 = 0
          · rw [if_pos c13] at H
            have c13b0 : (a0_1 == 0) = true := beq_iff_eq.mpr c13
            have c13b1 : (a0_1 != 0) = false := bne_eq_false_iff_eq.mpr c13
            clear c13
            by_cases c14 : a0_0 = 2
            · rw [if_pos c14] at H
              have c14b0 : (a0_0 == 2) = true := beq_iff_eq.mpr c14
              have c14b1 : (a0_0 != 2) = false := bne_eq_false_iff_eq.mpr c14
              clear c14
              by_cases c15 : a0_0 = 5
              · rw [if_pos c15] at H
                have c15b0 : (a0_0 == 5) = true := beq_iff_eq.mpr c15
                have c15b1 : (a0_0 != 5) = false := bne_eq_false_iff_eq.mpr c15
                clear c15
                obtain rfl := Option.some.inj H
                have hcz16_0 : wc.cell? ⟨gb109, 0, none⟩ = some (.int .i64 a0_0) := (blk_cell BK109.out 0).trans rfl
                have hcz16_1 : wc.cell? ⟨gb109, 1, none⟩ = some (.int .i64 a0_1) := (blk_cell BK109.out 1).trans rfl
                have hcz16_2 : wc.cell? ⟨gb109, 2, none⟩ = some (.int .i64 a0_2) := (blk_cell BK109.out 2).trans rfl
                have hcz16_3 : wc.cell? ⟨gb109, 3, none⟩ = some (.int .i64 a0_3) := (blk_cell BK109.out 3).trans rfl
                have hcz16_4 : wc.cell? ⟨gb109, 4, none⟩ = some (.string a0_4) := (blk_cell BK109.out 4).trans rfl
                have hcz16_5 : wc.cell? ⟨gb109, 5, none⟩ = some (.string a0_5) := (blk_cell BK109.out 5).trans rfl
                have hcz16_6 : wc.cell? ⟨gb109, 6, none⟩ = some (.string a0_6) := (blk_cell BK109.out 6).trans rfl
                have hcz16_7 : wc.cell? ⟨gb109, 7, none⟩ = some (.string a0_7) := (blk_cell BK109.out 7).trans rfl
                have hcz16_8 : wc.cell? ⟨gb109, 8, none⟩ = some (.slice A0_8 l0_8.length c0_8) := (blk_cell BK109.out 8).trans rfl
                have hfz16_0 := blk_frozen BK109.out 0
                have hfz16_1 := blk_frozen BK109.out 1
                have hfz16_2 := blk_frozen BK109.out 2
                have hfz16_3 := blk_frozen BK109.out 3
                have hfz16_4 := blk_frozen BK109.out 4
                have hfz16_5 := blk_frozen BK109.out 5
                have hfz16_6 := blk_frozen BK109.out 6
                have hfz16_7 := blk_frozen BK109.out 7
                have hfz16_8 := blk_frozen BK109.out 8
                go_wp2
                go_ret
                exact ⟨by first | rfl | (simp [errW_none, errW_some] <;> first | rfl | exact emp_bne _ | exact (emp_bne _).symm | exact emp_bne' _ | exact (emp_bne' _).symm) | (simp [*, errW_none, errW_some] <;> rfl), by repeat (first | (with_reducible first | exact HB.out | apply below_alloc | apply pw_below_drewN | apply below_drew1 | refine below_set ?_ GE109.out) | exact HB.out)⟩
              · rw [if_neg c15] at H
                have c15b0 : (a0_0 == 5) = false := beq_eq_false_iff_ne.mpr c15
                have c15b1 : (a0_0 != 5) = true := bne_iff_ne.mpr c15
                by_cases c17 : a0_0 = 6
                · rw [if_pos c17] at H
                  have c17b0 : (a0_0 == 6) = true := beq_iff_eq.mpr c17
                  have c17b1 : (a0_0 != 6) = false := bne_eq_false_iff_eq.mpr c17
                  clear c17
                  obtain rfl := Option.some.inj H
                  have hcz18_0 : wc.cell? ⟨gb109, 0, none⟩ = some (.int .i64 a0_0) := (blk_cell BK109.out 0).trans rfl
                  have hcz18_1 : wc.cell? ⟨gb109, 1, none⟩ = some (.int .i64 a0_1) := (blk_cell BK109.out 1).trans rfl
                  have hcz18_2 : wc.cell? ⟨gb109, 2, none⟩ = some (.int .i64 a0_2) := (blk_cell BK109.out 2).trans rfl
                  have hcz18_3 : wc.cell? ⟨gb109, 3, none⟩ = some (.int .i64 a0_3) := (blk_cell BK109.out 3).trans rfl
                  have hcz18_4 : wc.cell? ⟨gb109, 4, none⟩ = some (.string a0_4) := (blk_cell BK109.out 4).trans rfl
                  have hcz18_5 : wc.cell? ⟨gb109, 5, none⟩ = some (.string a0_5) := (blk_cell BK109.out 5).trans rfl
                  have hcz18_6 : wc.cell? ⟨gb109, 6, none⟩ = some (.string a0_6) := (blk_cell BK109.out 6).trans rfl
                  have hcz18_7 : wc.cell? ⟨gb109, 7, none⟩ = some (.string a0_7) := (blk_cell BK109.out 7).trans rfl
                  have hcz18_8 : wc.cell? ⟨gb109, 8, none⟩ = some (.slice A0_8 l0_8.length c0_8) := (blk_cell BK109.out 8).trans rfl
                  have hfz18_0 := blk_frozen BK109.out 0
                  have hfz18_1 := blk_frozen BK109.out 1
                  have hfz18_2 := blk_frozen BK109.out 2
                  have hfz18_3 := blk_frozen BK109.out 3
                  have hfz18_4 := blk_frozen BK109.out 4
                  have hfz18_5 := blk_frozen BK109.out 5
                  have hfz18_6 := blk_frozen BK109.out 6
                  have hfz18_7 := blk_frozen BK109.out 7
                  have hfz18_8 := blk_frozen BK109.out 8
                  go_wp2
                  go_ret
                  exact ⟨by first | rfl | (simp [errW_none, errW_some] <;> first | rfl | exact emp_bne _ | exact (emp_bne _).symm | exact emp_bne' _ | exact (emp_bne' _).symm) | (simp [*, errW_none, errW_some] <;> rfl), by repeat (first | (with_reducible first | exact HB.out | apply below_alloc | apply pw_below_drewN | apply below_drew1 | refine below_set ?_ GE109.out) | exact HB.out)⟩
                · rw [if_neg c17] at H
                  have c17b0 : (a0_0 == 6) = false := beq_eq_false_iff_ne.mpr c17
                  have c17b1 : (a0_0 != 6) = true := bne_iff_ne.mpr c17
                  by_cases c19 : a0_6.toList = ([] : List UInt8)
                  · rw [if_pos c19] at H
                    have c19b0 : (a0_6.toList == ([] : List UInt8)) = true := beq_iff_eq.mpr c19
                    have c19b1 : (a0_6.toList != ([] : List UInt8)) = false := bne_eq_false_iff_eq.mpr c19
                    clear c19
                    obtain rfl := Option.some.inj H
                    have hcz20_0 : wc.cell? ⟨gb109, 0, none⟩ = some (.int .i64 a0_0) := (blk_cell BK109.out 0).trans rfl
                    have hcz20_1 : wc.cell? ⟨gb109, 1, none⟩ = some (.int .i64 a0_1) := (blk_cell BK109.out 1).trans rfl
                    have hcz20_2 : wc.cell? ⟨gb109, 2, none⟩ = some (.int .i64 a0_2) := (blk_cell BK109.out 2).trans rfl
                    have hcz20_3 : wc.cell? ⟨gb109, 3, none⟩ = some (.int .i64 a0_3) := (blk_cell BK109.out 3).trans rfl
                    have hcz20_4 : wc.cell? ⟨gb109, 4, none⟩ = some (.string a0_4) := (blk_cell BK109.out 4).trans rfl
                    have hcz20_5 : wc.cell? ⟨gb109, 5, none⟩ = some (.string a0_5) := (blk_cell BK109.out 5).trans rfl
                    have hcz20_6 : wc.cell? ⟨gb109, 6, none⟩ = some (.string a0_6) := (blk_cell BK109.out 6).trans rfl
                    have hcz20_7 : wc.cell? ⟨gb109, 7, none⟩ = some (.string a0_7) := (blk_cell BK109.out 7).trans rfl
                    have hcz20_8 : wc.cell? ⟨gb109, 8, none⟩ = some (.slice A0_8 l0_8.length c0_8) := (blk_cell BK109.out 8).trans rfl
                    have hfz20_0 := blk_frozen BK109.out 0
                    have hfz20_1 := blk_frozen BK109.out 1
                    have hfz20_2 := blk_frozen BK109.out 2
                    have hfz20_3 := blk_frozen BK109.out 3
                    have hfz20_4 := blk_frozen BK109.out 4
                    have hfz20_5 := blk_frozen BK109.out 5
                    have hfz20_6 := blk_frozen BK109.out 6
                    have hfz20_7 := blk_frozen BK109.out 7
                    have hfz20_8 := blk_frozen BK109.out 8
                    go_wp2
                    go_ret
                    exact ⟨by first | rfl | (simp [errW_none, errW_some] <;> first | rfl | exact emp_bne _ | exact (emp_bne _).symm | exact emp_bne' _ | exact (emp_bne' _).symm) | (simp [*, errW_none, errW_some] <;> rfl), by repeat (first | (with_reducible first | exact HB.out | apply below_alloc | apply pw_below_drewN | apply below_drew1 | refine below_set ?_ GE109.out) | exact HB.out)⟩
                  · rw [if_neg c19] at H
                    have c19b0 : (a0_6.toList == ([] : List UInt8)) = false := beq_eq_false_iff_ne.mpr c19
                    have c19b1 : (a0_6.toList != ([] : List UInt8)) = true := bne_iff_ne.mpr c19
                    obtain rfl := Option.some.inj H
                    have hcz21_0 : wc.cell? ⟨gb109, 0, none⟩ = some (.int .i64 a0_0) := (blk_cell BK109.out 0).trans rfl
                    have hcz21_1 : wc.cell? ⟨gb109, 1, none⟩ = some (.int .i64 a0_1) := (blk_cell BK109.out 1).trans rfl
                    have hcz21_2 : wc.cell? ⟨gb109, 2, none⟩ = some (.int .i64 a0_2) := (blk_cell BK109.out 2).trans rfl
                    have hcz21_3 : wc.cell? ⟨gb109, 3, none⟩ = some (.int .i64 a0_3) := (blk_cell BK109.out 3).trans rfl
                    have hcz21_4 : wc.cell? ⟨gb109, 4, none⟩ = some (.string a0_4) := (blk_cell BK109.out 4).trans rfl
                    have hcz21_5 : wc.cell? ⟨gb109, 5, none⟩ = some (.string a0_5) := (blk_cell BK109.out 5).trans rfl
                    have hcz21_6 : wc.cell? ⟨gb109, 6, none⟩ = some (.string a0_6) := (blk_cell BK109.out 6).trans rfl
                    have hcz21_7 : wc.cell? ⟨gb109, 7, none⟩ = some (.string a0_7) := (blk_cell BK109.out 7).trans rfl
                    have hcz21_8 : wc.cell? ⟨gb109, 8, none⟩ = some (.slice A0_8 l0_8.length c0_8) := (blk_cell BK109.out 8).trans rfl
                    have hfz21_0 := blk_frozen BK109.out 0
                    have hfz21_1 := blk_frozen BK109.out 1
                    have hfz21_2 := blk_frozen BK109.out 2
                    have hfz21_3 := blk_frozen BK109.out 3
                    have hfz21_4 := blk_frozen BK109.out 4
                    have hfz21_5 := blk_frozen BK109.out 5
                    have hfz21_6 := blk_frozen BK109.out 6
                    have hfz21_7 := blk_frozen BK109.out 7
                    have hfz21_8 := blk_frozen BK109.out 8
                    go_wp2
                    go_ret
                    exact ⟨by first | rfl | (simp [errW_none, errW_some] <;> first | rfl | exact emp_bne _ | exact (emp_bne _).symm | exact emp_bne' _ | exact (emp_bne' _).symm) | (simp [*, errW_none, errW_some] <;> rfl), by repeat (first | (with_reducible first | exact HB.out | apply below_alloc | apply pw_below_drewN | apply below_drew1 | refine below_set ?_ GE109.out) | exact HB.out)⟩
            · rw [if_neg c14] at H
              have c14b0 : (a0_0 == 2) = false := beq_eq_false_iff_ne.mpr c14
              have c14b1 : (a0_0 != 2) = true := bne_iff_ne.mpr c14
              by_cases c22 : a0_2 = 0
              · rw [if_pos c22] at H
                have c22b0 : (a0_2 == 0) = true := beq_iff_eq.mpr c22
                have c22b1 : (a0_2 != 0) = false := bne_eq_false_iff_eq.mpr c22
                clear c22
                by_cases c23 : a0_0 = 3
                · rw [if_pos c23] at H
                  have c23b0 : (a0_0 == 3) = true := beq_iff_eq.mpr c23
                  have c23b1 : (a0_0 != 3) = false := bne_eq_false_iff_eq.mpr c23
                  clear c23
                  by_cases c24 : a0_0 = 5
                  · rw [if_pos c24] at H
                    have c24b0 : (a0_0 == 5) = true := beq_iff_eq.mpr c24
                    have c24b1 : (a0_0 != 5) = false := bne_eq_false_iff_eq.mpr c24
                    clear c24
                    obtain rfl := Option.some.inj H
                    have hcz25_0 : wc.cell? ⟨gb109, 0, none⟩ = some (.int .i64 a0_0) := (blk_cell BK109.out 0).trans rfl
                    have hcz25_1 : wc.cell? ⟨gb109, 1, none⟩ = some (.int .i64 a0_1) := (blk_cell BK109.out 1).trans rfl
                    have hcz25_2 : wc.cell? ⟨gb109, 2, none⟩ = some (.int .i64 a0_2) := (blk_cell BK109.out 2).trans rfl
                    have hcz25_3 : wc.cell? ⟨gb109, 3, none⟩ = some (.int .i64 a0_3) := (blk_cell BK109.out 3).trans rfl
                    have hcz25_4 : wc.cell? ⟨gb109, 4, none⟩ = some (.string a0_4) := (blk_cell BK109.out 4).trans rfl
                    have hcz25_5 : wc.cell? ⟨gb109, 5, none⟩ = some (.string a0_5) := (blk_cell BK109.out 5).trans rfl
                    have hcz25_6 : wc.cell? ⟨gb109, 6, none⟩ = some (.string a0_6) := (blk_cell BK109.out 6).trans rfl
                    have hcz25_7 : wc.cell? ⟨gb109, 7, none⟩ = some (.string a0_7) := (blk_cell BK109.out 7).trans rfl
                    have hcz25_8 : wc.cell? ⟨gb109, 8, none⟩ = some (.slice A0_8 l0_8.length c0_8) := (blk_cell BK109.out 8).trans rfl
                    have hfz25_0 := blk_frozen BK109.out 0
                    have hfz25_1 := blk_frozen BK109.out 1
                    have hfz25_2 := blk_frozen BK109.out 2
                    have hfz25_3 := blk_frozen BK109.out 3
                    have hfz25_4 := blk_frozen BK109.out 4
                    have hfz25_5 := blk_frozen BK109.out 5
                    have hfz25_6 := blk_frozen BK109.out 6
                    have hfz25_7 := blk_frozen BK109.out 7
                    have hfz25_8 := blk_frozen BK109.out 8
                    go_wp2
                    go_ret
                    exact ⟨by first | rfl | (simp [errW_none, errW_some] <;> first | rfl | exact emp_bne _ | exact (emp_bne _).symm | exact emp_bne' _ | exact (emp_bne' _).symm) | (simp [*, errW_none, errW_some] <;> rfl), by repeat (first | (with_reducible first | exact HB.out | apply below_alloc | apply pw_below_drewN | apply below_drew1 | refine below_set ?_ GE109.out) | exact HB.out)⟩
                  · rw [if_neg c24] at H
                    have c24b0 : (a0_0 == 5) = false := beq_eq_false_iff_ne.mpr c24
                    have c24b1 : (a0_0 != 5) = true := bne_iff_ne.mpr c24
                    by_cases c26 : a0_0 = 6
                    · rw [if_pos c26] at H
                      have c26b0 : (a0_0 == 6) = true := beq_iff_eq.mpr c26
                      have c26b1 : (a0_0 != 6) = false := bne_eq_false_iff_eq.mpr c26
                      clear c26
                      obtain rfl := Option.some.inj H
                      have hcz27_0 : wc.cell? ⟨gb109, 0, none⟩ = some (.int .i64 a0_0) := (blk_cell BK109.out 0).trans rfl
                      have hcz27_1 : wc.cell? ⟨gb109, 1, none⟩ = some (.int .i64 a0_1) := (blk_cell BK109.out 1).trans rfl
                      have hcz27_2 : wc.cell? ⟨gb109, 2, none⟩ = some (.int .i64 a0_2) := (blk_cell BK109.out 2).trans rfl
                      have hcz27_3 : wc.cell? ⟨gb109, 3, none⟩ = some (.int .i64 a0_3) := (blk_cell BK109.out 3).trans rfl
                      have hcz27_4 : wc.cell? ⟨gb109, 4, none⟩ = some (.string a0_4) := (blk_cell BK109.out 4).trans rfl
                      have hcz27_5 : wc.cell? ⟨gb109, 5, none⟩ = some (.string a0_5) := (blk_cell BK109.out 5).trans rfl
                      have hcz27_6 : wc.cell? ⟨gb109, 6, none⟩ = some (.string a0_6) := (blk_cell BK109.out 6).trans rfl
                      have hcz27_7 : wc.cell? ⟨gb109, 7, none⟩ = some (.string a0_7) := (blk_cell BK109.out 7).trans rfl
                      have hcz27_8 : wc.cell? ⟨gb109, 8, none⟩ = some (.slice A0_8 l0_8.length c0_8) := (blk_cell BK109.out 8).trans rfl
                      have hfz27_0 := blk_frozen BK109.out 0
                      have hfz27_1 := blk_frozen BK109.out 1
                      have hfz27_2 := blk_frozen BK109.out 2
                      have hfz27_3 := blk_frozen BK109.out 3
                      have hfz27_4 := blk_frozen BK109.out 4
                      have hfz27_5 := blk_frozen BK109.out 5
                      have hfz27_6 := blk_frozen BK109.out 6
                      have hfz27_7 := blk_frozen BK109.out 7
                      have hfz27_8 := blk_frozen BK109.out 8
                      go_wp2
                      go_ret
                      exact ⟨by first | rfl | (simp [errW_none, errW_some] <;> first | rfl | exact emp_bne _ | exact (emp_bne _).symm | exact emp_bne' _ | exact (emp_bne' _).symm) | (simp [*, errW_none, errW_some] <;> rfl), by repeat (first | (with_reducible first | exact HB.out | apply below_alloc | apply pw_below_drewN | apply below_drew1 | refine below_set ?_ GE109.out) | exact HB.out)⟩
                    · rw [if_neg c26] at H
                      have c26b0 : (a0_0 == 6) = false := beq_eq_false_iff_ne.mpr c26
                      have c26b1 : (a0_0 != 6) = true := bne_iff_ne.mpr c26
                      by_cases c28 : a0_6.toList = ([] : List UInt8)
                      · rw [if_pos c28] at H
                        have c28b0 : (a0_6.toList == ([] : List UInt8)) = true := beq_iff_eq.mpr c28
                        have c28b1 : (a0_6.toList != ([] : List UInt8)) = false := bne_eq_false_iff_eq.mpr c28
                        clear c28
                        obtain rfl := Option.some.inj H
                        have hcz29_0 : wc.cell? ⟨gb109, 0, none⟩ = some (.int .i64 a0_0) := (blk_cell BK109.out 0).trans rfl
                        have hcz29_1 : wc.cell? ⟨gb109, 1, none⟩ = some (.int .i64 a0_1) := (blk_cell BK109.out 1).trans rfl
                        have hcz29_2 : wc.cell? ⟨gb109, 2, none⟩ = some (.int .i64 a0_2) := (blk_cell BK109.out 2).trans rfl
                        have hcz29_3 : wc.cell? ⟨gb109, 3, none⟩ = some (.int .i64 a0_3) := (blk_cell BK109.out 3).trans rfl
                        have hcz29_4 : wc.cell? ⟨gb109, 4, none⟩ = some (.string a0_4) := (blk_cell BK109.out 4).trans rfl
                        have hcz29_5 : wc.cell? ⟨gb109, 5, none⟩ = some (.string a0_5) := (blk_cell BK109.out 5).trans rfl
                        have hcz29_6 : wc.cell? ⟨gb109, 6, none⟩ = some (.string a0_6) := (blk_cell BK109.out 6).trans rfl
                        have hcz29_7 : wc.cell? ⟨gb109, 7, none⟩ = some (.string a0_7) := (blk_cell BK109.out 7).trans rfl
                        have hcz29_8 : wc.cell? ⟨gb109, 8, none⟩ = some (.slice A0_8 l0_8.length c0_8) := (blk_cell BK109.out 8).trans rfl
                        have hfz29_0 := blk_frozen BK109.out 0
                        have hfz29_1 := blk_frozen BK109.out 1
                        have hfz29_2 := blk_frozen BK109.out 2
                        have hfz29_3 := blk_frozen BK109.out 3
                        have hfz29_4 := blk_frozen BK109.out 4
                        have hfz29_5 := blk_frozen BK109.out 5
                        have hfz29_6 := blk_frozen BK109.out 6
                        have hfz29_7 := blk_frozen BK109.out 7
                        have hfz29_8 := blk_frozen BK109.out 8
                        go_wp2
                        go_ret
                        exact ⟨by first | rfl | (simp [errW_none, errW_some] <;> first | rfl | exact emp_bne _ | exact (emp_bne _).symm | exact emp_bne' _ | exact (emp_bne' _).symm) | (simp [*, errW_none, errW_some] <;> rfl), by repeat (first | (with_reducible first | exact HB.out | apply below_alloc | apply pw_below_drewN | apply below_drew1 | refine below_set ?_ GE109.out) | exact HB.out)⟩
                      · rw [if_neg c28] at H
                        have c28b0 : (a0_6.toList == ([] : List UInt8)) = false := beq_eq_false_iff_ne.mpr c28
                        have c28b1 : (a0_6.toList != ([] : List UInt8)) = true := bne_iff_ne.mpr c28
                        obtain rfl := Option.some.inj H
                        have hcz30_0 : wc.cell? ⟨gb109, 0, none⟩ = some (.int .i64 a0_0) := (blk_cell BK109.out 0).trans rfl
                        have hcz30_1 : wc.cell? ⟨gb109, 1, none⟩ = some (.int .i64 a0_1) := (blk_cell BK109.out 1).trans rfl
                        have hcz30_2 : wc.cell? ⟨gb109, 2, none⟩ = some (.int .i64 a0_2) := (blk_cell BK109.out 2).trans rfl
                        have hcz30_3 : wc.cell? ⟨gb109, 3, none⟩ = some (.int .i64 a0_3) := (blk_cell BK109.out 3).trans rfl
                        have hcz30_4 : wc.cell? ⟨gb109, 4, none⟩ = some (.string a0_4) := (blk_cell BK109.out 4).trans rfl
                        have hcz30_5 : wc.cell? ⟨gb109, 5, none⟩ = some (.string a0_5) := (blk_cell BK109.out 5).trans rfl
                        have hcz30_6 : wc.cell? ⟨gb109, 6, none⟩ = some (.string a0_6) := (blk_cell BK109.out 6).trans rfl
                        have hcz30_7 : wc.cell? ⟨gb109, 7, none⟩ = some (.string a0_7) := (blk_cell BK109.out 7).trans rfl
                        have hcz30_8 : wc.cell? ⟨gb109, 8, none⟩ = some (.slice A0_8 l0_8.length c0_8) := (blk_cell BK109.out 8).trans rfl
                        have hfz30_0 := blk_frozen BK109.out 0
                        have hfz30_1 := blk_frozen BK109.out 1
                        have hfz30_2 := blk_frozen BK109.out 2
                        have hfz30_3 := blk_frozen BK109.out 3
                        have hfz30_4 := blk_frozen BK109.out 4
                        have hfz30_5 := blk_frozen BK109.out 5
                        have hfz30_6 := blk_frozen BK109.out 6
                        have hfz30_7 := blk_frozen BK109.out 7
                        have hfz30_8 := blk_frozen BK109.out 8
                        go_wp2
                        go_ret
                        exact ⟨by first | rfl | (simp [errW_none, errW_some] <;> first | rfl | exact emp_bne _ | exact (emp_bne _).symm | exact emp_bne' _ | exact (emp_bne' _).symm) | (simp [*, errW_none, errW_some] <;> rfl), by repeat (first | (with_reducible first | exact HB.out | apply below_alloc | apply pw_below_drewN | apply below_drew1 | refine below_set ?_ GE109.out) | exact HB.out)⟩
                · rw [if_neg c23] at H
                  have c23b0 : (a0_0 == 3) = false := beq_eq_false_iff_ne.mpr c23
                  have c23b1 : (a0_0 != 3) = true := bne_iff_ne.mpr c23
                  by_cases c31 : a0_3 = 0
                  · rw [if_pos c31] at H
                    have c31b0 : (a0_3 == 0) = true := beq_iff_eq.mpr c31
                    have c31b1 : (a0_3 != 0) = false := bne_eq_false_iff_eq.mpr c31
                    clear c31
                    by_cases c32 : a0_0 = 5
                    · rw [if_pos c32] at H
                      have c32b0 : (a0_0 == 5) = true := beq_iff_eq.mpr c32
                      have c32b1 : (a0_0 != 5) = false := bne_eq_false_iff_eq.mpr c32
                      clear c32
                      obtain rfl := Option.some.inj H
                      have hcz33_0 : wc.cell? ⟨gb109, 0, none⟩ = some (.int .i64 a0_0) := (blk_cell BK109.out 0).trans rfl
                      have hcz33_1 : wc.cell? ⟨gb109, 1, none⟩ = some (.int .i64 a0_1) := (blk_cell BK109.out 1).trans rfl
                      have hcz33_2 : wc.cell? ⟨gb109, 2, none⟩ = some (.int .i64 a0_2) := (blk_cell BK109.out 2).trans rfl
                      have hcz33_3 : wc.cell? ⟨gb109, 3, none⟩ = some (.int .i64 a0_3) := (blk_cell BK109.out 3).trans rfl
                      have hcz33_4 : wc.cell? ⟨gb109, 4, none⟩ = some (.string a0_4) := (blk_cell BK109.out 4).trans rfl
                      have hcz33_5 : wc.cell? ⟨gb109, 5, none⟩ = some (.string a0_5) := (blk_cell BK109.out 5).trans rfl
                      have hcz33_6 : wc.cell? ⟨gb109, 6, none⟩ = some (.string a0_6) := (blk_cell BK109.out 6).trans rfl
                      have hcz33_7 : wc.cell? ⟨gb109, 7, none⟩ = some (.string a0_7) := (blk_cell BK109.out 7).trans rfl
                      have hcz33_8 : wc.cell? ⟨gb109, 8, none⟩ = some (.slice A0_8 l0_8.length c0_8) := (blk_cell BK109.out 8).trans rfl
                      have hfz33_0 := blk_frozen BK109.out 0
                      have hfz33_1 := blk_frozen BK109.out 1
                      have hfz33_2 := blk_frozen BK109.out 2
                      have hfz33_3 := blk_frozen BK109.out 3
                      have hfz33_4 := blk_frozen BK109.out 4
                      have hfz33_5 := blk_frozen BK109.out 5
                      have hfz33_6 := blk_frozen BK109.out 6
                      have hfz33_7 := blk_frozen BK109.out 7
                      have hfz33_8 := blk_frozen BK109.out 8
                      go_wp2
                      go_ret
                      exact ⟨by first | rfl | (simp [errW_none, errW_some] <;> first | rfl | exact emp_bne _ | exact (emp_bne _).symm | exact emp_bne' _ | exact (emp_bne' _).symm) | (simp [*, errW_none, errW_some] <;> rfl), by repeat (first | (with_reducible first | exact HB.out | apply below_alloc | apply pw_below_drewN | apply below_drew1 | refine below_set ?_ GE109.out) | exact HB.out)⟩
                    · rw [if_neg c32] at H
                      have c32b0 : (a0_0 == 5) = false := beq_eq_false_iff_ne.mpr c32
                      have c32b1 : (a0_0 != 5) = true := bne_iff_ne.mpr c32
                      by_cases c34 : a0_0 = 6
                      · rw [if_pos c34] at H
                        have c34b0 : (a0_0 == 6) = true := beq_iff_eq.mpr c34
                        have c34b1 : (a0_0 != 6) = false := bne_eq_false_iff_eq.mpr c34
                        clear c34
                        obtain rfl := Option.some.inj H
                        have hcz35_0 : wc.cell? ⟨gb109, 0, none⟩ = some (.int .i64 a0_0) := (blk_cell BK109.out 0).trans rfl
                        have hcz35_1 : wc.cell? ⟨gb109, 1, none⟩ = some (.int .i64 a0_1) := (blk_cell BK109.out 1).trans rfl
                        have hcz35_2 : wc.cell? ⟨gb109, 2, none⟩ = some (.int .i64 a0_2) := (blk_cell BK109.out 2).trans rfl
                        have hcz35_3 : wc.cell? ⟨gb109, 3, none⟩ = some (.int .i64 a0_3) := (blk_cell BK109.out 3).trans rfl
                        have hcz35_4 : wc.cell? ⟨gb109, 4, none⟩ = some (.string a0_4) := (blk_cell BK109.out 4).trans rfl
                        have hcz35_5 : wc.cell? ⟨gb109, 5, none⟩ = some (.string a0_5) := (blk_cell BK109.out 5).trans rfl
                        have hcz35_6 : wc.cell? ⟨gb109, 6, none⟩ = some (.string a0_6) := (blk_cell BK109.out 6).trans rfl
                        have hcz35_7 : wc.cell? ⟨gb109, 7, none⟩ = some (.string a0_7) := (blk_cell BK109.out 7).trans rfl
                        have hcz35_8 : wc.cell? ⟨gb109, 8, none⟩ = some (.slice A0_8 l0_8.length c0_8) := (blk_cell BK109.out 8).trans rfl
                        have hfz35_0 := blk_frozen BK109.out 0
                        have hfz35_1 := blk_frozen BK109.out 1
                        have hfz35_2 := blk_frozen BK109.out 2
                        have hfz35_3 := blk_frozen BK109.out 3
                        have hfz35_4 := blk_frozen BK109.out 4
                        have hfz35_5 := blk_frozen BK109.out 5
                        have hfz35_6 := blk_frozen BK109.out 6
                        have hfz35_7 := blk_frozen BK109.out 7
                        have hfz35_8 := blk_frozen BK109.out 8
                        go_wp2
                        go_ret
                        exact ⟨by first | rfl | (simp [errW_none, errW_some] <;> first | rfl | exact emp_bne _ | exact (emp_bne _).symm | exact emp_bne' _ | exact (emp_bne' _).symm) | (simp [*, errW_none, errW_some] <;> rfl), by repeat (first | (with_reducible first | exact HB.out | apply below_alloc | apply pw_below_drewN | apply below_drew1 | refine below_set ?_ GE109.out) | exact HB.out)⟩
                      · rw [if_neg c34] at H
                        have c34b0 : (a0_0 == 6) = false := beq_eq_false_iff_ne.mpr c34
                        have c34b1 : (a0_0 != 6) = true := bne_iff_ne.mpr c34
                        by_cases c36 : a0_6.toList = ([] : List UInt8)
                        · rw [if_pos c36] at H
                          have c36b0 : (a0_6.toList == ([] : List UInt8)) = true := beq_iff_eq.mpr c36
                          have c36b1 : (a0_6.toList != ([] : List UInt8)) = false := bne_eq_false_iff_eq.mpr c36
                          clear c36
                          obtain rfl := Option.some.inj H
                          have hcz37_0 : wc.cell? ⟨gb109, 0, none⟩ = some (.int .i64 a0_0) := (blk_cell BK109.out 0).trans rfl
                          have hcz37_1 : wc.cell? ⟨gb109, 1, none⟩ = some (.int .i64 a0_1) := (blk_cell BK109.out 1).trans rfl
                          have hcz37_2 : wc.cell? ⟨gb109, 2, none⟩ = some (.int .i64 a0_2) := (blk_cell BK109.out 2).trans rfl
                          have hcz37_3 : wc.cell? ⟨gb109, 3, none⟩ = some (.int .i64 a0_3) := (blk_cell BK109.out 3).trans rfl
                          have hcz37_4 : wc.cell? ⟨gb109, 4, none⟩ = some (.string a0_4) := (blk_cell BK109.out 4).trans rfl
                          have hcz37_5 : wc.cell? ⟨gb109, 5, none⟩ = some (.string a0_5) := (blk_cell BK109.out 5).trans rfl
                          have hcz37_6 : wc.cell? ⟨gb109, 6, none⟩ = some (.string a0_6) := (blk_cell BK109.out 6).trans rfl
                          have hcz37_7 : wc.cell? ⟨gb109, 7, none⟩ = some (.string a0_7) := (blk_cell BK109.out 7).trans rfl
                          have hcz37_8 : wc.cell? ⟨gb109, 8, none⟩ = some (.slice A0_8 l0_8.length c0_8) := (blk_cell BK109.out 8).trans rfl
                          have hfz37_0 := blk_frozen BK109.out 0
                          have hfz37_1 := blk_frozen BK109.out 1
                          have hfz37_2 := blk_frozen BK109.out 2
                          have hfz37_3 := blk_frozen BK109.out 3
                          have hfz37_4 := blk_frozen BK109.out 4
                          have hfz37_5 := blk_frozen BK109.out 5
                          have hfz37_6 := blk_frozen BK109.out 6
                          have hfz37_7 := blk_frozen BK109.out 7
                          have hfz37_8 := blk_frozen BK109.out 8
                          go_wp2
                          go_ret
                          exact ⟨by first | rfl | (simp [errW_none, errW_some] <;> first | rfl | exact emp_bne _ | exact (emp_bne _).symm | exact emp_bne' _ | exact (emp_bne' _).symm) | (simp [*, errW_none, errW_some] <;> rfl), by repeat (first | (with_reducible first | exact HB.out | apply below_alloc | apply pw_below_drewN | apply below_drew1 | refine below_set ?_ GE109.out) | exact HB.out)⟩
                        · rw [if_neg c36] at H
                          have c36b0 : (a0_6.toList == ([] : List UInt8)) = false := beq_eq_false_iff_ne.mpr c36
                          have c36b1 : (a0_6.toList != ([] : List UInt8)) = true := bne_iff_ne.mpr c36
                          obtain rfl := Option.some.inj H
                          have hcz38_0 : wc.cell? ⟨gb109, 0, none⟩ = some (.int .i64 a0_0) := (blk_cell BK109.out 0).trans rfl
                          have hcz38_1 : wc.cell? ⟨gb109, 1, none⟩ = some (.int .i64 a0_1) := (blk_cell BK109.out 1).trans rfl
                          have hcz38_2 : wc.cell? ⟨gb109, 2, none⟩ = some (.int .i64 a0_2) := (blk_cell BK109.out 2).trans rfl
                          have hcz38_3 : wc.cell? ⟨gb109, 3, none⟩ = some (.int .i64 a0_3) := (blk_cell BK109.out 3).trans rfl
                          have hcz38_4 : wc.cell? ⟨gb109, 4, none⟩ = some (.string a0_4) := (blk_cell BK109.out 4).trans rfl
                          have hcz38_5 : wc.cell? ⟨gb109, 5, none⟩ = some (.string a0_5) := (blk_cell BK109.out 5).trans rfl
                          have hcz38_6 : wc.cell? ⟨gb109, 6, none⟩ = some (.string a0_6) := (blk_cell BK109.out 6).trans rfl
                          have hcz38_7 : wc.cell? ⟨gb109, 7, none⟩ = some (.string a0_7) := (blk_cell BK109.out 7).trans rfl
                          have hcz38_8 : wc.cell? ⟨gb109, 8, none⟩ = some (.slice A0_8 l0_8.length c0_8) := (blk_cell BK109.out 8).trans rfl
                          have hfz38_0 := blk_frozen BK109.out 0
                          have hfz38_1 := blk_frozen BK109.out 1
                          have hfz38_2 := blk_frozen BK109.out 2
                          have hfz38_3 := blk_frozen BK109.out 3
                          have hfz38_4 := blk_frozen BK109.out 4
                          have hfz38_5 := blk_frozen BK109.out 5
                          have hfz38_6 := blk_frozen BK109.out 6
                          have hfz38_7 := blk_frozen BK109.out 7
                          have hfz38_8 := blk_frozen BK109.out 8
                          go_wp2
                          go_ret
                          exact ⟨by first | rfl | (simp [errW_none, errW_some] <;> first | rfl | exact emp_bne _ | exact (emp_bne _).symm | exact emp_bne' _ | exact (emp_bne' _).symm) | (simp [*, errW_none, errW_some] <;> rfl), by repeat (first | (with_reducible first | exact HB.out | apply below_alloc | apply pw_below_drewN | apply below_drew1 | refine below_set ?_ GE109.out) | exact HB.out)⟩
                  · rw [if_neg c31] at H
                    have c31b0 : (a0_3 == 0) = false := beq_eq_false_iff_ne.mpr c31
                    have c31b1 : (a0_3 != 0) = true := bne_iff_ne.mpr c31
                    obtain rfl := Option.some.inj H
                    have hcz39_0 : wc.cell? ⟨gb109, 0, none⟩ = some (.int .i64 a0_0) := (blk_cell BK109.out 0).trans rfl
                    have hcz39_1 : wc.cell? ⟨gb109, 1, none⟩ = some (.int .i64 a0_1) := (blk_cell BK109.out 1).trans rfl
                    have hcz39_2 : wc.cell? ⟨gb109, 2, none⟩ = some (.int .i64 a0_2) := (blk_cell BK109.out 2).trans rfl
                    have hcz39_3 : wc.cell? ⟨gb109, 3, none⟩ = some (.int .i64 a0_3) := (blk_cell BK109.out 3).trans rfl
                    have hcz39_4 : wc.cell? ⟨gb109, 4, none⟩ = some (.string a0_4) := (blk_cell BK109.out 4).trans rfl
                    have hcz39_5 : wc.cell? ⟨gb109, 5, none⟩ = some (.string a0_5) := (blk_cell BK109.out 5).trans rfl
                    have hcz39_6 : wc.cell? ⟨gb109, 6, none⟩ = some (.string a0_6) := (blk_cell BK109.out 6).trans rfl
                    have hcz39_7 : wc.cell? ⟨gb109, 7, none⟩ = some (.string a0_7) := (blk_cell BK109.out 7).trans rfl
                    have hcz39_8 : wc.cell? ⟨gb109, 8, none⟩ = some (.slice A0_8 l0_8.length c0_8) := (blk_cell BK109.out 8).trans rfl
                    have hfz39_0 := blk_frozen BK109.out 0
                    have hfz39_1 := blk_frozen BK109.out 1
                    have hfz39_2 := blk_frozen BK109.out 2
                    have hfz39_3 := blk_frozen BK109.out 3
                    have hfz39_4 := blk_frozen BK109.out 4
                    have hfz39_5 := blk_frozen BK109.out 5
                    have hfz39_6 := blk_frozen BK109.out 6
                    have hfz39_7 := blk_frozen BK109.out 7
                    have hfz39_8 := blk_frozen BK109.out 8
                    go_wp2
                    go_ret
                    exact ⟨by first | rfl | (simp [errW_none, errW_some] <;> first | rfl | exact emp_bne _ | exact (emp_bne _).symm | exact emp_bne' _ | exact (emp_bne' _).symm) | (simp [*, errW_none, errW_some] <;> rfl), by repeat (first | (with_reducible first | exact HB.out | apply below_alloc | apply pw_below_drewN | apply below_drew1 | refine below_set ?_ GE109.out) | exact HB.out)⟩
              · rw [if_neg c22] at H
                have c22b0 : (a0_2 == 0) = false := beq_eq_false_iff_ne.mpr c22
                have c22b1 : (a0_2 != 0) = true := bne_iff_ne.mpr c22
                obtain rfl := Option.some.inj H
                have hcz40_0 : wc.cell? ⟨gb109, 0, none⟩ = some (.int .i64 a0_0) := (blk_cell BK109.out 0).trans rfl
                have hcz40_1 : wc.cell? ⟨gb109, 1, none⟩ = some (.int .i64 a0_1) := (blk_cell BK109.out 1).trans rfl
                have hcz40_2 : wc.cell? ⟨gb109, 2, none⟩ = some (.int .i64 a0_2) := (blk_cell BK109.out 2).trans rfl
                have hcz40_3 : wc.cell? ⟨gb109, 3, none⟩ = some (.int .i64 a0_3) := (blk_cell BK109.out 3).trans rfl
                have hcz40_4 : wc.cell? ⟨gb109, 4, none⟩ = some (.string a0_4) := (blk_cell BK109.out 4).trans rfl
                have hcz40_5 : wc.cell? ⟨gb109, 5, none⟩ = some (.string a0_5) := (blk_cell BK109.out 5).trans rfl
                have hcz40_6 : wc.cell? ⟨gb109, 6, none⟩ = some (.string a0_6) := (blk_cell BK109.out 6).trans rfl
                have hcz40_7 : wc.cell? ⟨gb109, 7, none⟩ = some (.string a0_7) := (blk_cell BK109.out 7).trans rfl
                have hcz40_8 : wc.cell? ⟨gb109, 8, none⟩ = some (.slice A0_8 l0_8.length c0_8) := (blk_cell BK109.out 8).trans rfl
                have hfz40_0 := blk_frozen BK109.out 0
                have hfz40_1 := blk_frozen BK109.out 1
                have hfz40_2 := blk_frozen BK109.out 2
                have hfz40_3 := blk_frozen BK109.out 3
                have hfz40_4 := blk_frozen BK109.out 4
                have hfz40_5 := blk_frozen BK109.out 5
                have hfz40_6 := blk_frozen BK109.out 6
                have hfz40_7 := blk_frozen BK109.out 7
                have hfz40_8 := blk_frozen BK109.out 8
                go_wp2
                go_ret
                exact ⟨by first | rfl | (simp [errW_none, errW_some] <;> first | rfl | exact emp_bne _ | exact (emp_bne _).symm | exact emp_bne' _ | exact (emp_bne' _).symm) | (simp [*, errW_none, errW_some] <;> rfl), by repeat (first | (with_reducible first | exact HB.out | apply below_alloc | apply pw_below_drewN | apply below_drew1 | refine below_set ?_ GE109.out) | exact HB.out)⟩
          · rw [if_neg c13] at H
            have c13b0 : (a0_1 == 0) = false := beq_eq_false_iff_ne.mpr c13
            have c13b1 : (a0_1 != 0) = true := bne_iff_ne.mpr c13
            obtain rfl := Option.some.inj H
            have hcz41_0 : wc.cell? ⟨gb109, 0, none⟩ = some (.int .i64 a0_0) := (blk_cell BK109.out 0).trans rfl
            have hcz41_1 : wc.cell? ⟨gb109, 1, none⟩ = some (.int .i64 a0_1) := (blk_cell BK109.out 1).trans rfl
            have hcz41_2 : wc.cell? ⟨gb109, 2, none⟩ = some (.int .i64 a0_2) := (blk_cell BK109.out 2).trans rfl
            have hcz41_3 : wc.cell? ⟨gb109, 3, none⟩ = some (.int .i64 a0_3) := (blk_cell BK109.out 3).trans rfl
            have hcz41_4 : wc.cell? ⟨gb109, 4, none⟩ = some (.string a0_4) := (blk_cell BK109.out 4).trans rfl
            have hcz41_5 : wc.cell? ⟨gb109, 5, none⟩ = some (.string a0_5) := (blk_cell BK109.out 5).trans rfl
            have hcz41_6 : wc.cell? ⟨gb109, 6, none⟩ = some (.string a0_6) := (blk_cell BK109.out 6).trans rfl
            have hcz41_7 : wc.cell? ⟨gb109, 7, none⟩ = some (.string a0_7) := (blk_cell BK109.out 7).trans rfl
            have hcz41_8 : wc.cell? ⟨gb109, 8, none⟩ = some (.slice A0_8 l0_8.length c0_8) := (blk_cell BK109.out 8).trans rfl
            have hfz41_0 := blk_frozen BK109.out 0
            have hfz41_1 := blk_frozen BK109.out 1
            have hfz41_2 := blk_frozen BK109.out 2
            have hfz41_3 := blk_frozen BK109.out 3
            have hfz41_4 := blk_frozen BK109.out 4
            have hfz41_5 := blk_frozen BK109.out 5
            have hfz41_6 := blk_frozen BK109.out 6
            have hfz41_7 := blk_frozen BK109.out 7
            have hfz41_8 := blk_frozen BK109.out 8
            go_wp2
            go_ret
            exact ⟨by first | rfl | (simp [errW_none, errW_some] <;> first | rfl | exact emp_bne _ | exact (emp_bne _).symm | exact emp_bne' _ | exact (emp_bne' _).symm) | (simp [*, errW_none, errW_some] <;> rfl), by repeat (first | (with_reducible first | exact HB.out | apply below_alloc | apply pw_below_drewN | apply below_drew1 | refine below_set ?_ GE109.out) | exact HB.out)⟩
        · rw [if_neg c12] at H
          have c12b0 : (a0_0 == 1) = false := beq_eq_false_iff_ne.mpr c12
          have c12b1 : (a0_0 != 1) = true := bne_iff_ne.mpr c12
          by_cases c42 : a0_0 = 2
          · rw [if_pos c42] at H
            have c42b0 : (a0_0 == 2) = true := beq_iff_eq.mpr c42
            have c42b1 : (a0_0 != 2) = false := bne_eq_false_iff_eq.mpr c42
            clear c42
            by_cases c43 : a0_0 = 5
            · rw [if_pos c43] at H
              have c43b0 : (a0_0 == 5) = true := beq_iff_eq.mpr c43
              have c43b1 : (a0_0 != 5) = false := bne_eq_false_iff_eq.mpr c43
              clear c43
              obtain rfl := Option.some.inj H
              go_wp2
              go_ret
              exact ⟨by first | rfl | (simp [errW_none, errW_some] <;> first | rfl | exact emp_bne _ | exact (emp_bne _).symm | exact emp_bne' _ | exact (emp_bne' _).symm) | (simp [*, errW_none, errW_some] <;> rfl), by repeat (first | (with_reducible first | exact HB.out | apply below_alloc | apply pw_below_drewN | apply below_drew1 | refine below_set ?_ GE109.out) | exact HB.out)⟩
            · rw [if_neg c43] at H
              have c43b0 : (a0_0 == 5) = false := beq_eq_false_iff_ne.mpr c43
              have c43b1 : (a0_0 != 5) = true := bne_iff_ne.mpr c43
              by_cases c44 : a0_0 = 6
              · rw [if_pos c44] at H
                have c44b0 : (a0_0 == 6) = true := beq_iff_eq.mpr c44
                have c44b1 : (a0_0 != 6) = false := bne_eq_false_iff_eq.mpr c44
                clear c44
                by_cases c45 : a0_0 = 7
                · rw [if_pos c45] at H
                  have c45b0 : (a0_0 == 7) = true := beq_iff_eq.mpr c45
                  have c45b1 : (a0_0 != 7) = false := bne_eq_false_iff_eq.mpr c45
                  clear c45
                  obtain rfl := Option.some.inj H
                  go_wp2
                  go_ret
                  exact ⟨by first | rfl | (simp [errW_none, errW_some] <;> first | rfl | exact emp_bne _ | exact (emp_bne _).symm | exact emp_bne' _ | exact (emp_bne' _).symm) | (simp [*, errW_none, errW_some] <;> rfl), by repeat (first | (with_reducible first | exact HB.out | apply below_alloc | apply pw_below_drewN | apply below_drew1 | refine below_set ?_ GE109.out) | exact HB.out)⟩
                · rw [if_neg c45] at H
                  have c45b0 : (a0_0 == 7) = false := beq_eq_false_iff_ne.mpr c45
                  have c45b1 : (a0_0 != 7) = true := bne_iff_ne.mpr c45
                  obtain rfl := Option.some.inj H
                  have hcz46_0 : wc.cell? ⟨gb109, 0, none⟩ = some (.int .i64 a0_0) := (blk_cell BK109.out 0).trans rfl
                  have hcz46_1 : wc.cell? ⟨gb109, 1, none⟩ = some (.int .i64 a0_1) := (blk_cell BK109.out 1).trans rfl
                  have hcz46_2 : wc.cell? ⟨gb109, 2, none⟩ = some (.int .i64 a0_2) := (blk_cell BK109.out 2).trans rfl
                  have hcz46_3 : wc.cell? ⟨gb109, 3, none⟩ = some (.int .i64 a0_3) := (blk_cell BK109.out 3).trans rfl
                  have hcz46_4 : wc.cell? ⟨gb109, 4, none⟩ = some (.string a0_4) := (blk_cell BK109.out 4).trans rfl
                  have hcz46_5 : wc.cell? ⟨gb109, 5, none⟩ = some (.string a0_5) := (blk_cell BK109.out 5).trans rfl
                  have hcz46_6 : wc.cell? ⟨gb109, 6, none⟩ = some (.string a0_6) := (blk_cell BK109.out 6).trans rfl
                  have hcz46_7 : wc.cell? ⟨gb109, 7, none⟩ = some (.string a0_7) := (blk_cell BK109.out 7).trans rfl
                  have hcz46_8 : wc.cell? ⟨gb109, 8, none⟩ = some (.slice A0_8 l0_8.length c0_8) := (blk_cell BK109.out 8).trans rfl
                  have hfz46_0 := blk_frozen BK109.out 0
                  have hfz46_1 := blk_frozen BK109.out 1
                  have hfz46_2 := blk_frozen BK109.out 2
                  have hfz46_3 := blk_frozen BK109.out 3
                  have hfz46_4 := blk_frozen BK109.out 4
                  have hfz46_5 := blk_frozen BK109.out 5
                  have hfz46_6 := blk_frozen BK109.out 6
                  have hfz46_7 := blk_frozen BK109.out 7
                  have hfz46_8 := blk_frozen BK109.out 8
                  go_wp2
                  go_ret
                  exact ⟨by first | rfl | (simp [errW_none, errW_some] <;> first | rfl | exact emp_bne _ | exact (emp_bne _).symm | exact emp_bne' _ | exact (emp_bne' _).symm) | (simp [*, errW_none, errW_some] <;> rfl), by repeat (first | (with_reducible first | exact HB.out | apply below_alloc | apply pw_below_drewN | apply below_drew1 | refine below_set ?_ GE109.out) | exact HB.out)⟩
              · rw [if_neg c44] at H
                have c44b0 : (a0_0 == 6) = false := beq_eq_false_iff_ne.mpr c44
                have c44b1 : (a0_0 != 6) = true := bne_iff_ne.mpr c44
                by_cases c47 : a0_6.toList = ([] : List UInt8)
                · rw [if_pos c47] at H
                  have c47b0 : (a0_6.toList == ([] : List UInt8)) = true := beq_iff_eq.mpr c47
                  have c47b1 : (a0_6.toList != ([] : List UInt8)) = false := bne_eq_false_iff_eq.mpr c47
                  clear c47
                  by_cases c48 : a0_0 = 7
                  · rw [if_pos c48] at H
                    have c48b0 : (a0_0 == 7) = true := beq_iff_eq.mpr c48
                    have c48b1 : (a0_0 != 7) = false := bne_eq_false_iff_eq.mpr c48
                    clear c48
                    obtain rfl := Option.some.inj H
                    have hcz49_0 : wc.cell? ⟨gb109, 0, none⟩ = some (.int .i64 a0_0) := (blk_cell BK109.out 0).trans rfl
                    have hcz49_1 : wc.cell? ⟨gb109, 1, none⟩ = some (.int .i64 a0_1) := (blk_cell BK109.out 1).trans rfl
                    have hcz49_2 : wc.cell? ⟨gb109, 2, none⟩ = some (.int .i64 a0_2) := (blk_cell BK109.out 2).trans rfl
                    have hcz49_3 : wc.cell? ⟨gb109, 3, none⟩ = some (.int .i64 a0_3) := (blk_cell BK109.out 3).trans rfl
                    have hcz49_4 : wc.cell? ⟨gb109, 4, none⟩ = some (.string a0_4) := (blk_cell BK109.out 4).trans rfl
                    have hcz49_5 : wc.cell? ⟨gb109, 5, none⟩ = some (.string a0_5) := (blk_cell BK109.out 5).trans rfl
                    have hcz49_6 : wc.cell? ⟨gb109, 6, none⟩ = some (.string a0_6) := (blk_cell BK109.out 6).trans rfl
                    have hcz49_7 : wc.cell? ⟨gb109, 7, none⟩ = some (.string a0_7) := (blk_cell BK109.out 7).trans rfl
                    have hcz49_8 : wc.cell? ⟨gb109, 8, none⟩ = some (.slice A0_8 l0_8.length c0_8) := (blk_cell BK109.out 8).trans rfl
                    have hfz49_0 := blk_frozen BK109.out 0
                    have hfz49_1 := blk_frozen BK109.out 1
                    have hfz49_2 := blk_frozen BK109.out 2
                    have hfz49_3 := blk_frozen BK109.out 3
                    have hfz49_4 := blk_frozen BK109.out 4
                    have hfz49_5 := blk_frozen BK109.out 5
                    have hfz49_6 := blk_frozen BK109.out 6
                    have hfz49_7 := blk_frozen BK109.out 7
                    have hfz49_8 := blk_frozen BK109.out 8
                    go_wp2
                    go_ret
                    exact ⟨by first | rfl | (simp [errW_none, errW_some] <;> first | rfl | exact emp_bne _ | exact (emp_bne _).symm | exact emp_bne' _ | exact (emp_bne' _).symm) | (simp [*, errW_none, errW_some] <;> rfl), by repeat (first | (with_reducible first | exact HB.out | apply below_alloc | apply pw_below_drewN | apply below_drew1 | refine below_set ?_ GE109.out) | exact HB.out)⟩
                  · rw [if_neg c48] at H
                    have c48b0 : (a0_0 == 7) = false := beq_eq_false_iff_ne.mpr c48
                    have c48b1 : (a0_0 != 7) = true := bne_iff_ne.mpr c48
                    obtain rfl := Option.some.inj H
                    have hcz50_0 : wc.cell? ⟨gb109, 0, none⟩ = some (.int .i64 a0_0) := (blk_cell BK109.out 0).trans rfl
                    have hcz50_1 : wc.cell? ⟨gb109, 1, none⟩ = some (.int .i64 a0_1) := (blk_cell BK109.out 1).trans rfl
                    have hcz50_2 : wc.cell? ⟨gb109, 2, none⟩ = some (.int .i64 a0_2) := (blk_cell BK109.out 2).trans rfl
                    have hcz50_3 : wc.cell? ⟨gb109, 3, none⟩ = some (.int .i64 a0_3) := (blk_cell BK109.out 3).trans rfl
                    have hcz50_4 : wc.cell? ⟨gb109, 4, none⟩ = some (.string a0_4) := (blk_cell BK109.out 4).trans rfl
                    have hcz50_5 : wc.cell? ⟨gb109, 5, none⟩ = some (.string a0_5) := (blk_cell BK109.out 5).trans rfl
                    have hcz50_6 : wc.cell? ⟨gb109, 6, none⟩ = some (.string a0_6) := (blk_cell BK109.out 6).trans rfl
                    have hcz50_7 : wc.cell? ⟨gb109, 7, none⟩ = some (.string a0_7) := (blk_cell BK109.out 7).trans rfl
                    have hcz50_8 : wc.cell? ⟨gb109, 8, none⟩ = some (.slice A0_8 l0_8.length c0_8) := (blk_cell BK109.out 8).trans rfl
                    have hfz50_0 := blk_frozen BK109.out 0
                    have hfz50_1 := blk_frozen BK109.out 1
                    have hfz50_2 := blk_frozen BK109.out 2
                    have hfz50_3 := blk_frozen BK109.out 3
                    have hfz50_4 := blk_frozen BK109.out 4
                    have hfz50_5 := blk_frozen BK109.out 5
                    have hfz50_6 := blk_frozen BK109.out 6
                    have hfz50_7 := blk_frozen BK109.out 7
                    have hfz50_8 := blk_frozen BK109.out 8
                    go_wp2
                    go_ret
                    exact ⟨by first | rfl | (simp [errW_none, errW_some] <;> first | rfl | exact emp_bne _ | exact (emp_bne _).symm | exact emp_bne' _ | exact (emp_bne' _).symm) | (simp [*, errW_none, errW_some] <;> rfl), by repeat (first | (with_reducible first | exact HB.out | apply below_alloc | apply pw_below_drewN | apply below_drew1 | refine below_set ?_ GE109.out) | exact HB.out)⟩
                · rw [if_neg c47] at H
                  have c47b0 : (a0_6.toList == ([] : List UInt8)) = false := beq_eq_false_iff_ne.mpr c47
                  have c47b1 : (a0_6.toList != ([] : List UInt8)) = true := bne_iff_ne.mpr c47
                  obtain rfl := Option.some.inj H
                  have hcz51_0 : wc.cell? ⟨gb109, 0, none⟩ = some (.int .i64 a0_0) := (blk_cell BK109.out 0).trans rfl
                  have hcz51_1 : wc.cell? ⟨gb109, 1, none⟩ = some (.int .i64 a0_1) := (blk_cell BK109.out 1).trans rfl
                  have hcz51_2 : wc.cell? ⟨gb109, 2, none⟩ = some (.int .i64 a0_2) := (blk_cell BK109.out 2).trans rfl
                  have hcz51_3 : wc.cell? ⟨gb109, 3, none⟩ = some (.int .i64 a0_3) := (blk_cell BK109.out 3).trans rfl
                  have hcz51_4 : wc.cell? ⟨gb109, 4, none⟩ = some (.string a0_4) := (blk_cell BK109.out 4).trans rfl
                  have hcz51_5 : wc.cell? ⟨gb109, 5, none⟩ = some (.string a0_5) := (blk_cell BK109.out 5).trans rfl
                  have hcz51_6 : wc.cell? ⟨gb109, 6, none⟩ = some (.string a0_6) := (blk_cell BK109.out 6).trans rfl
                  have hcz51_7 : wc.cell? ⟨gb109, 7, none⟩ = some (.string a0_7) := (blk_cell BK109.out 7).trans rfl
                  have hcz51_8 : wc.cell? ⟨gb109, 8, none⟩ = some (.slice A0_8 l0_8.length c0_8) := (blk_cell BK109.out 8).trans rfl
                  have hfz51_0 := blk_frozen BK109.out 0
                  have hfz51_1 := blk_frozen BK109.out 1
                  have hfz51_2 := blk_frozen BK109.out 2
                  have hfz51_3 := blk_frozen BK109.out 3
                  have hfz51_4 := blk_frozen BK109.out 4
                  have hfz51_5 := blk_frozen BK109.out 5
                  have hfz51_6 := blk_frozen BK109.out 6
                  have hfz51_7 := blk_frozen BK109.out 7
                  have hfz51_8 := blk_frozen BK109.out 8
                  go_wp2
                  go_ret
                  exact ⟨by first | rfl | (simp [errW_none, errW_some] <;> first | rfl | exact emp_bne _ | exact (emp_bne _).symm | exact emp_bne' _ | exact (emp_bne' _).symm) | (simp [*, errW_none, errW_some] <;> rfl), by repeat (first | (with_reducible first | exact HB.out | apply below_alloc | apply pw_below_drewN | apply below_drew1 | refine below_set ?_ GE109.out) | exact HB.out)⟩
          · rw [if_neg c42] at H
            have c42b0 : (a0_0 == 2) = false := beq_eq_false_iff_ne.mpr c42
            have c42b1 : (a0_0 != 2) = true := bne_iff_ne.mpr c42
            by_cases c52 : a0_2 = 0
            · rw [if_pos c52] at H
              have c52b0 : (a0_2 == 0) = true := beq_iff_eq.mpr c52
              have c52b1 : (a0_2 != 0) = false := bne_eq_false_iff_eq.mpr c52
              clear c52
              by_cases c53 : a0_0 = 3
              · rw [if_pos c53] at H
                have c53b0 : (a0_0 == 3) = true := beq_iff_eq.mpr c53
                have c53b1 : (a0_0 != 3) = false := bne_eq_false_iff_eq.mpr c53
                clear c53
                by_cases c54 : a0_0 = 5
                · rw [if_pos c54] at H
                  have c54b0 : (a0_0 == 5) = true := beq_iff_eq.mpr c54
                  have c54b1 : (a0_0 != 5) = false := bne_eq_false_iff_eq.mpr c54
                  clear c54
                  obtain rfl := Option.some.inj H
                  have hcz55_0 : wc.cell? ⟨gb109, 0, none⟩ = some (.int .i64 a0_0) := (blk_cell BK109.out 0).trans rfl
                  have hcz55_1 : wc.cell? ⟨gb109, 1, none⟩ = some (.int .i64 a0_1) := (blk_cell BK109.out 1).trans rfl
                  have hcz55_2 : wc.cell? ⟨gb109, 2, none⟩ = some (.int .i64 a0_2) := (blk_cell BK109.out 2).trans rfl
                  have hcz55_3 : wc.cell? ⟨gb109, 3, none⟩ = some (.int .i64 a0_3) := (blk_cell BK109.out 3).trans rfl
                  have hcz55_4 : wc.cell? ⟨gb109, 4, none⟩ = some (.string a0_4) := (blk_cell BK109.out 4).trans rfl
                  have hcz55_5 : wc.cell? ⟨gb109, 5, none⟩ = some (.string a0_5) := (blk_cell BK109.out 5).trans rfl
                  have hcz55_6 : wc.cell? ⟨gb109, 6, none⟩ = some (.string a0_6) := (blk_cell BK109.out 6).trans rfl
                  have hcz55_7 : wc.cell? ⟨gb109, 7, none⟩ = some (.string a0_7) := (blk_cell BK109.out 7).trans rfl
                  have hcz55_8 : wc.cell? ⟨gb109, 8, none⟩ = some (.slice A0_8 l0_8.length c0_8) := (blk_cell BK109.out 8).trans rfl
                  have hfz55_0 := blk_frozen BK109.out 0
                  have hfz55_1 := blk_frozen BK109.out 1
                  have hfz55_2 := blk_frozen BK109.out 2
                  have hfz55_3 := blk_frozen BK109.out 3
                  have hfz55_4 := blk_frozen BK109.out 4
                  have hfz55_5 := blk_frozen BK109.out 5
                  have hfz55_6 := blk_frozen BK109.out 6
                  have hfz55_7 := blk_frozen BK109.out 7
                  have hfz55_8 := blk_frozen BK109.out 8
                  go_wp2
                  go_ret
                  exact ⟨by first | rfl | (simp [errW_none, errW_some] <;> first | rfl | exact emp_bne _ | exact (emp_bne _).symm | exact emp_bne' _ | exact (emp_bne' _).symm) | (simp [*, errW_none, errW_some] <;> rfl), by repeat (first | (with_reducible first | exact HB.out | apply below_alloc | apply pw_below_drewN | apply below_drew1 | refine below_set ?_ GE109.out) | exact HB.out)⟩
                · rw [if_neg c54] at H
                  have c54b0 : (a0_0 == 5) = false := beq_eq_false_iff_ne.mpr c54
                  have c54b1 : (a0_0 != 5) = true := bne_iff_ne.mpr c54
                  by_cases c56 : a0_0 = 6
                  · rw [if_pos c56] at H
                    have c56b0 : (a0_0 == 6) = true := beq_iff_eq.mpr c56
                    have c56b1 : (a0_0 != 6) = false := bne_eq_false_iff_eq.mpr c56
                    clear c56
                    by_cases c57 : a0_0 = 7
                    · rw [if_pos c57] at H
                      have c57b0 : (a0_0 == 7) = true := beq_iff_eq.mpr c57
                      have c57b1 : (a0_0 != 7) = false := bne_eq_false_iff_eq.mpr c57
                      clear c57
                      obtain rfl := Option.some.inj H
                      have hcz58_0 : wc.cell? ⟨gb109, 0, none⟩ = some (.int .i64 a0_0) := (blk_cell BK109.out 0).trans rfl
                      have hcz58_1 : wc.cell? ⟨gb109, 1, none⟩ = some (.int .i64 a0_1) := (blk_cell BK109.out 1).trans rfl
                      have hcz58_2 : wc.cell? ⟨gb109, 2, none⟩ = some (.int .i64 a0_2) := (blk_cell BK109.out 2).trans rfl
                      have hcz58_3 : wc.cell? ⟨gb109, 3, none⟩ = some (.int .i64 a0_3) := (blk_cell BK109.out 3).trans rfl
                      have hcz58_4 : wc.cell? ⟨gb109, 4, none⟩ = some (.string a0_4) := (blk_cell BK109.out 4).trans rfl
                      have hcz58_5 : wc.cell? ⟨gb109, 5, none⟩ = some (.string a0_5) := (blk_cell BK109.out 5).trans rfl
                      have hcz58_6 : wc.cell? ⟨gb109, 6, none⟩ = some (.string a0_6) := (blk_cell BK109.out 6).trans rfl
                      have hcz58_7 : wc.cell? ⟨gb109, 7, none⟩ = some (.string a0_7) := (blk_cell BK109.out 7).trans rfl
                      have hcz58_8 : wc.cell? ⟨gb109, 8, none⟩ = some (.slice A0_8 l0_8.length c0_8) := (blk_cell BK109.out 8).trans rfl
                      have hfz58_0 := blk_frozen BK109.out 0
                      have hfz58_1 := blk_frozen BK109.out 1
                      have hfz58_2 := blk_frozen BK109.out 2
                      have hfz58_3 := blk_frozen BK109.out 3
                      have hfz58_4 := blk_frozen BK109.out 4
                      have hfz58_5 := blk_frozen BK109.out 5
                      have hfz58_6 := blk_frozen BK109.out 6
                      have hfz58_7 := blk_frozen BK109.out 7
                      have hfz58_8 := blk_frozen BK109.out 8
                      go_wp2
                      go_ret
                      exact ⟨by first | rfl | (simp [errW_none, errW_some] <;> first | rfl | exact emp_bne _ | exact (emp_bne _).symm | exact emp_bne' _ | exact (emp_bne' _).symm) | (simp [*, errW_none, errW_some] <;> rfl), by repeat (first | (with_reducible first | exact HB.out | apply below_alloc | apply pw_below_drewN | apply below_drew1 | refine below_set ?_ GE109.out) | exact HB.out)⟩
                    · rw [if_neg c57] at H
                      have c57b0 : (a0_0 == 7) = false := beq_eq_false_iff_ne.mpr c57
                      have c57b1 : (a0_0 != 7) = true := bne_iff_ne.mpr c57
                      obtain rfl := Option.some.inj H
                      have hcz59_0 : wc.cell? ⟨gb109, 0, none⟩ = some (.int .i64 a0_0) := (blk_cell BK109.out 0).trans rfl
                      have hcz59_1 : wc.cell? ⟨gb109, 1, none⟩ = some (.int .i64 a0_1) := (blk_cell BK109.out 1).trans rfl
                      have hcz59_2 : wc.cell? ⟨gb109, 2, none⟩ = some (.int .i64 a0_2) := (blk_cell BK109.out 2).trans rfl
                      have hcz59_3 : wc.cell? ⟨gb109, 3, none⟩ = some (.int .i64 a0_3) := (blk_cell BK109.out 3).trans rfl
                      have hcz59_4 : wc.cell? ⟨gb109, 4, none⟩ = some (.string a0_4) := (blk_cell BK109.out 4).trans rfl
                      have hcz59_5 : wc.cell? ⟨gb109, 5, none⟩ = some (.string a0_5) := (blk_cell BK109.out 5).trans rfl
                      have hcz59_6 : wc.cell? ⟨gb109, 6, none⟩ = some (.string a0_6) := (blk_cell BK109.out 6).trans rfl
                      have hcz59_7 : wc.cell? ⟨gb109, 7, none⟩ = some (.string a0_7) := (blk_cell BK109.out 7).trans rfl
                      have hcz59_8 : wc.cell? ⟨gb109, 8, none⟩ = some (.slice A0_8 l0_8.length c0_8) := (blk_cell BK109.out 8).trans rfl
                      have hfz59_0 := blk_frozen BK109.out 0
                      have hfz59_1 := blk_frozen BK109.out 1
                      have hfz59_2 := blk_frozen BK109.out 2
                      have hfz59_3 := blk_frozen BK109.out 3
                      have hfz59_4 := blk_frozen BK109.out 4
                      have hfz59_5 := blk_frozen BK109.out 5
                      have hfz59_6 := blk_frozen BK109.out 6
                      have hfz59_7 := blk_frozen BK109.out 7
                      have hfz59_8 := blk_frozen BK109.out 8
                      go_wp2
                      go_ret
                      exact ⟨by first | rfl | (simp [errW_none, errW_some] <;> first | rfl | exact emp_bne _ | exact (emp_bne _).symm | exact emp_bne' _ | exact (emp_bne' _).symm) | (simp [*, errW_none, errW_some] <;> rfl), by repeat (first | (with_reducible first | exact HB.out | apply below_alloc | apply pw_below_drewN | apply below_drew1 | refine below_set ?_ GE109.out) | exact HB.out)⟩
                  · rw [if_neg c56] at H
                    have c56b0 : (a0_0 == 6) = false := beq_eq_false_iff_ne.mpr c56
                    have c56b1 : (a0_0 != 6) = true := bne_iff_ne.mpr c56
                    by_cases c60 : a0_6.toList = ([] : List UInt8)
                    · rw [if_pos c60] at H
                      have c60b0 : (a0_6.toList == ([] : List UInt8)) = true := beq_iff_eq.mpr c60
                      have c60b1 : (a0_6.toList != ([] : List UInt8)) = false := bne_eq_false_iff_eq.mpr c60
                      clear c60
                      by_cases c61 : a0_0 = 7
                      · rw [if_pos c61] at H
                        have c61b0 : (a0_0 == 7) = true := beq_iff_eq.mpr c61
                        have c61b1 : (a0_0 != 7) = false := bne_eq_false_iff_eq.mpr c61
                        clear c61
                        obtain rfl := Option.some.inj H
                        have hcz62_0 : wc.cell? ⟨gb109, 0, none⟩ = some (.int .i64 a0_0) := (blk_cell BK109.out 0).trans rfl
                        have hcz62_1 : wc.cell? ⟨gb109, 1, none⟩ = some (.int .i64 a0_1) := (blk_cell BK109.out 1).trans rfl
                        have hcz62_2 : wc.cell? ⟨gb109, 2, none⟩ = some (.int .i64 a0_2) := (blk_cell BK109.out 2).trans rfl
                        have hcz62_3 : wc.cell? ⟨gb109, 3, none⟩ = some (.int .i64 a0_3) := (blk_cell BK109.out 3).trans rfl
                        have hcz62_4 : wc.cell? ⟨gb109, 4, none⟩ = some (.string a0_4) := (blk_cell BK109.out 4).trans rfl
                        have hcz62_5 : wc.cell? ⟨gb109, 5, none⟩ = some (.string a0_5) := (blk_cell BK109.out 5).trans rfl
                        have hcz62_6 : wc.cell? ⟨gb109, 6, none⟩ = some (.string a0_6) := (blk_cell BK109.out 6).trans rfl
                        have hcz62_7 : wc.cell? ⟨gb109, 7, none⟩ = some (.string a0_7) := (blk_cell BK109.out 7).trans rfl
                        have hcz62_8 : wc.cell? ⟨gb109, 8, none⟩ = some (.slice A0_8 l0_8.length c0_8) := (blk_cell BK109.out 8).trans rfl
                        have hfz62_0 := blk_frozen BK109.out 0
                        have hfz62_1 := blk_frozen BK109.out 1
                        have hfz62_2 := blk_frozen BK109.out 2
                        have hfz62_3 := blk_frozen BK109.out 3
                        have hfz62_4 := blk_frozen BK109.out 4
                        have hfz62_5 := blk_frozen BK109.out 5
                        have hfz62_6 := blk_frozen BK109.out 6
                        have hfz62_7 := blk_frozen BK109.out 7
                        have hfz62_8 := blk_frozen BK109.out 8
                        go_wp2
                        go_ret
                        exact ⟨by first | rfl | (simp [errW_none, errW_some] <;> first | rfl | exact emp_bne _ | exact (emp_bne _).symm | exact emp_bne' _ | exact (emp_bne' _).symm) | (simp [*, errW_none, errW_some] <;> rfl), by repeat (first | (with_reducible first | exact HB.out | apply below_alloc | apply pw_below_drewN | apply below_drew1 | refine below_set ?_ GE109.out) | exact HB.out)⟩
                      · rw [if_neg c61] at H
                        have c61b0 : (a0_0 == 7) = false := beq_eq_false_iff_ne.mpr c61
                        have c61b1 : (a0_0 != 7) = true := bne_iff_ne.mpr c61
                        obtain rfl := Option.some.inj H
                        have hcz63_0 : wc.cell? ⟨gb109, 0, none⟩ = some (.int .i64 a0_0) := (blk_cell BK109.out 0).trans rfl
                        have hcz63_1 : wc.cell? ⟨gb109, 1, none⟩ = some (.int .i64 a0_1) := (blk_cell BK109.out 1).trans rfl
                        have hcz63_2 : wc.cell? ⟨gb109, 2, none⟩ = some (.int .i64 a0_2) := (blk_cell BK109.out 2).trans rfl
                        have hcz63_3 : wc.cell? ⟨gb109, 3, none⟩ = some (.int .i64 a0_3) := (blk_cell BK109.out 3).trans rfl
                        have hcz63_4 : wc.cell? ⟨gb109, 4, none⟩ = some (.string a0_4) := (blk_cell BK109.out 4).trans rfl
                        have hcz63_5 : wc.cell? ⟨gb109, 5, none⟩ = some (.string a0_5) := (blk_cell BK109.out 5).trans rfl
                        have hcz63_6 : wc.cell? ⟨gb109, 6, none⟩ = some (.string a0_6) := (blk_cell BK109.out 6).trans rfl
                        have hcz63_7 : wc.cell? ⟨gb109, 7, none⟩ = some (.string a0_7) := (blk_cell BK109.out 7).trans rfl
                        have hcz63_8 : wc.cell? ⟨gb109, 8, none⟩ = some (.slice A0_8 l0_8.length c0_8) := (blk_cell BK109.out 8).trans rfl
                        have hfz63_0 := blk_frozen BK109.out 0
                        have hfz63_1 := blk_frozen BK109.out 1
                        have hfz63_2 := blk_frozen BK109.out 2
                        have hfz63_3 := blk_frozen BK109.out 3
                        have hfz63_4 := blk_frozen BK109.out 4
                        have hfz63_5 := blk_frozen BK109.out 5
                        have hfz63_6 := blk_frozen BK109.out 6
                        have hfz63_7 := blk_frozen BK109.out 7
                        have hfz63_8 := blk_frozen BK109.out 8
                        go_wp2
                        go_ret
                        exact ⟨by first | rfl | (simp [errW_none, errW_some] <;> first | rfl | exact emp_bne _ | exact (emp_bne _).symm | exact emp_bne' _ | exact (emp_bne' _).symm) | (simp [*, errW_none, errW_some] <;> rfl), by repeat (first | (with_reducible first | exact HB.out | apply below_alloc | apply pw_below_drewN | apply below_drew1 | refine below_set ?_ GE109.out) | exact HB.out)⟩
                    · rw [if_neg c60] at H
                      have c60b0 : (a0_6.toList == ([] : List UInt8)) = false := beq_eq_false_iff_ne.mpr c60
                      have c60b1 : (a0_6.toList != ([] : List UInt8)) = true := bne_iff_ne.mpr c60
                      obtain rfl := Option.some.inj H
                      have hcz64_0 : wc.cell? ⟨gb109, 0, none⟩ = some (.int .i64 a0_0) := (blk_cell BK109.out 0).trans rfl
                      have hcz64_1 : wc.cell? ⟨gb109, 1, none⟩ = some (.int .i64 a0_1) := (blk_cell BK109.out 1).trans rfl
                      have hcz64_2 : wc.cell? ⟨gb109, 2, none⟩ = some (.int .i64 a0_2) := (blk_cell BK109.out 2).trans rfl
                      have hcz64_3 : wc.cell? ⟨gb109, 3, none⟩ = some (.int .i64 a0_3) := (blk_cell BK109.out 3).trans rfl
                      have hcz64_4 : wc.cell? ⟨gb109, 4, none⟩ = some (.string a0_4) := (blk_cell BK109.out 4).trans rfl
                      have hcz64_5 : wc.cell? ⟨gb109, 5, none⟩ = some (.string a0_5) := (blk_cell BK109.out 5).trans rfl
                      have hcz64_6 : wc.cell? ⟨gb109, 6, none⟩ = some (.string a0_6) := (blk_cell BK109.out 6).trans rfl
                      have hcz64_7 : wc.cell? ⟨gb109, 7, none⟩ = some (.string a0_7) := (blk_cell BK109.out 7).trans rfl
                      have hcz64_8 : wc.cell? ⟨gb109, 8, none⟩ = some (.slice A0_8 l0_8.length c0_8) := (blk_cell BK109.out 8).trans rfl
                      have hfz64_0 := blk_frozen BK109.out 0
                      have hfz64_1 := blk_frozen BK109.out 1
                      have hfz64_2 := blk_frozen BK109.out 2
                      have hfz64_3 := blk_frozen BK109.out 3
                      have hfz64_4 := blk_frozen BK109.out 4
                      have hfz64_5 := blk_frozen BK109.out 5
                      have hfz64_6 := blk_frozen BK109.out 6
                      have hfz64_7 := blk_frozen BK109.out 7
                      have hfz64_8 := blk_frozen BK109.out 8
                      go_wp2
                      go_ret
                      exact ⟨by first | rfl | (simp [errW_none, errW_some] <;> first | rfl | exact emp_bne _ | exact (emp_bne _).symm | exact emp_bne' _ | exact (emp_bne' _).symm) | (simp [*, errW_none, errW_some] <;> rfl), by repeat (first | (with_reducible first | exact HB.out | apply below_alloc | apply pw_below_drewN | apply below_drew1 | refine below_set ?_ GE109.out) | exact HB.out)⟩
              · rw [if_neg c53] at H
                have c53b0 : (a0_0 == 3) = false := beq_eq_false_iff_ne.mpr c53
                have c53b1 : (a0_0 != 3) = true := bne_iff_ne.mpr c53
                by_cases c65 : a0_3 = 0
                · rw [if_pos c65] at H
                  have c65b0 : (a0_3 == 0) = true := beq_iff_eq.mpr c65
                  have c65b1 : (a0_3 != 0) = false := bne_eq_false_iff_eq.mpr c65
                  clear c65
                  by_cases c66 : a0_0 = 5
                  · rw [if_pos c66] at H
                    have c66b0 : (a0_0 == 5) = true := beq_iff_eq.mpr c66
                    have c66b1 : (a0_0 != 5) = false := bne_eq_false_iff_eq.mpr c66
                    clear c66
                    obtain rfl := Option.some.inj H
                    have hcz67_0 : wc.cell? ⟨gb109, 0, none⟩ = some (.int .i64 a0_0) := (blk_cell BK109.out 0).trans rfl
                    have hcz67_1 : wc.cell? ⟨gb109, 1, none⟩ = some (.int .i64 a0_1) := (blk_cell BK109.out 1).trans rfl
                    have hcz67_2 : wc.cell? ⟨gb109, 2, none⟩ = some (.int .i64 a0_2) := (blk_cell BK109.out 2).trans rfl
                    have hcz67_3 : wc.cell? ⟨gb109, 3, none⟩ = some (.int .i64 a0_3) := (blk_cell BK109.out 3).trans rfl
                    have hcz67_4 : wc.cell? ⟨gb109, 4, none⟩ = some (.string a0_4) := (blk_cell BK109.out 4).trans rfl
                    have hcz67_5 : wc.cell? ⟨gb109, 5, none⟩ = some (.string a0_5) := (blk_cell BK109.out 5).trans rfl
                    have hcz67_6 : wc.cell? ⟨gb109, 6, none⟩ = some (.string a0_6) := (blk_cell BK109.out 6).trans rfl
                    have hcz67_7 : wc.cell? ⟨gb109, 7, none⟩ = some (.string a0_7) := (blk_cell BK109.out 7).trans rfl
                    have hcz67_8 : wc.cell? ⟨gb109, 8, none⟩ = some (.slice A0_8 l0_8.length c0_8) := (blk_cell BK109.out 8).trans rfl
                    have hfz67_0 := blk_frozen BK109.out 0
                    have hfz67_1 := blk_frozen BK109.out 1
                    have hfz67_2 := blk_frozen BK109.out 2
                    have hfz67_3 := blk_frozen BK109.out 3
                    have hfz67_4 := blk_frozen BK109.out 4
                    have hfz67_5 := blk_frozen BK109.out 5
                    have hfz67_6 := blk_frozen BK109.out 6
                    have hfz67_7 := blk_frozen BK109.out 7
                    have hfz67_8 := blk_frozen BK109.out 8
                    go_wp2
                    go_ret
                    exact ⟨by first | rfl | (simp [errW_none, errW_some] <;> first | rfl | exact emp_bne _ | exact (emp_bne _).symm | exact emp_bne' _ | exact (emp_bne' _).symm) | (simp [*, errW_none, errW_some] <;> rfl), by repeat (first | (with_reducible first | exact HB.out | apply below_alloc | apply pw_below_drewN | apply below_drew1 | refine below_set ?_ GE109.out) | exact HB.out)⟩
                  · rw [if_neg c66] at H
                    have c66b0 : (a0_0 == 5) = false := beq_eq_false_iff_ne.mpr c66
                    have c66b1 : (a0_0 != 5) = true := bne_iff_ne.mpr c66
                    by_cases c68 : a0_0 = 6
                    · rw [if_pos c68] at H
                      have c68b0 : (a0_0 == 6) = true := beq_iff_eq.mpr c68
                      have c68b1 : (a0_0 != 6) = false := bne_eq_false_iff_eq.mpr c68
                      clear c68
                      by_cases c69 : a0_0 = 7
                      · rw [if_pos c69] at H
                        have c69b0 : (a0_0 == 7) = true := beq_iff_eq.mpr c69
                        have c69b1 : (a0_0 != 7) = false := bne_eq_false_iff_eq.mpr c69
                        clear c69
                        obtain rfl := Option.some.inj H
                        have hcz70_0 : wc.cell? ⟨gb109, 0, none⟩ = some (.int .i64 a0_0) := (blk_cell BK109.out 0).trans rfl
                        have hcz70_1 : wc.cell? ⟨gb109, 1, none⟩ = some (.int .i64 a0_1) := (blk_cell BK109.out 1).trans rfl
                        have hcz70_2 : wc.cell? ⟨gb109, 2, none⟩ = some (.int .i64 a0_2) := (blk_cell BK109.out 2).trans rfl
                        have hcz70_3 : wc.cell? ⟨gb109, 3, none⟩ = some (.int .i64 a0_3) := (blk_cell BK109.out 3).trans rfl
                        have hcz70_4 : wc.cell? ⟨gb109, 4, none⟩ = some (.string a0_4) := (blk_cell BK109.out 4).trans rfl
                        have hcz70_5 : wc.cell? ⟨gb109, 5, none⟩ = some (.string a0_5) := (blk_cell BK109.out 5).trans rfl
                        have hcz70_6 : wc.cell? ⟨gb109, 6, none⟩ = some (.string a0_6) := (blk_cell BK109.out 6).trans rfl
                        have hcz70_7 : wc.cell? ⟨gb109, 7, none⟩ = some (.string a0_7) := (blk_cell BK109.out 7).trans rfl
                        have hcz70_8 : wc.cell? ⟨gb109, 8, none⟩ = some (.slice A0_8 l0_8.length c0_8) := (blk_cell BK109.out 8).trans rfl
                        have hfz70_0 := blk_frozen BK109.out 0
                        have hfz70_1 := blk_frozen BK109.out 1
                        have hfz70_2 := blk_frozen BK109.out 2
                        have hfz70_3 := blk_frozen BK109.out 3
                        have hfz70_4 := blk_frozen BK109.out 4
                        have hfz70_5 := blk_frozen BK109.out 5
                        have hfz70_6 := blk_frozen BK109.out 6
                        have hfz70_7 := blk_frozen BK109.out 7
                        have hfz70_8 := blk_frozen BK109.out 8
                        go_wp2
                        go_ret
                        exact ⟨by first | rfl | (simp [errW_none, errW_some] <;> first | rfl | exact emp_bne _ | exact (emp_bne _).symm | exact emp_bne' _ | exact (emp_bne' _).symm) | (simp [*, errW_none, errW_some] <;> rfl), by repeat (first | (with_reducible first | exact HB.out | apply below_alloc | apply pw_below_drewN | apply below_drew1 | refine below_set ?_ GE109.out) | exact HB.out)⟩
                      · rw [if_neg c69] at H
                        have c69b0 : (a0_0 == 7) = false := beq_eq_false_iff_ne.mpr c69
                        have c69b1 : (a0_0 != 7) = true := bne_iff_ne.mpr c69
                        obtain rfl := Option.some.inj H
                        have hcz71_0 : wc.cell? ⟨gb109, 0, none⟩ = some (.int .i64 a0_0) := (blk_cell BK109.out 0).trans rfl
                        have hcz71_1 : wc.cell? ⟨gb109, 1, none⟩ = some (.int .i64 a0_1) := (blk_cell BK109.out 1).trans rfl
                        have hcz71_2 : wc.cell? ⟨gb109, 2, none⟩ = some (.int .i64 a0_2) := (blk_cell BK109.out 2).trans rfl
                        have hcz71_3 : wc.cell? ⟨gb109, 3, none⟩ = some (.int .i64 a0_3) := (blk_cell BK109.out 3).trans rfl
                        have hcz71_4 : wc.cell? ⟨gb109, 4, none⟩ = some (.string a0_4) := (blk_cell BK109.out 4).trans rfl
                        have hcz71_5 : wc.cell? ⟨gb109, 5, none⟩ = some (.string a0_5) := (blk_cell BK109.out 5).trans rfl
                        have hcz71_6 : wc.cell? ⟨gb109, 6, none⟩ = some (.string a0_6) := (blk_cell BK109.out 6).trans rfl
                        have hcz71_7 : wc.cell? ⟨gb109, 7, none⟩ = some (.string a0_7) := (blk_cell BK109.out 7).trans rfl
                        have hcz71_8 : wc.cell? ⟨gb109, 8, none⟩ = some (.slice A0_8 l0_8.length c0_8) := (blk_cell BK109.out 8).trans rfl
                        have hfz71_0 := blk_frozen BK109.out 0
                        have hfz71_1 := blk_frozen BK109.out 1
                        have hfz71_2 := blk_frozen BK109.out 2
                        have hfz71_3 := blk_frozen BK109.out 3
                        have hfz71_4 := blk_frozen BK109.out 4
                        have hfz71_5 := blk_frozen BK109.out 5
                        have hfz71_6 := blk_frozen BK109.out 6
                        have hfz71_7 := blk_frozen BK109.out 7
                        have hfz71_8 := blk_frozen BK109.out 8
                        go_wp2
                        go_ret
                        exact ⟨by first | rfl | (simp [errW_none, errW_some] <;> first | rfl | exact emp_bne _ | exact (emp_bne _).symm | exact emp_bne' _ | exact (emp_bne' _).symm) | (simp [*, errW_none, errW_some] <;> rfl), by repeat (first | (with_reducible first | exact HB.out | apply below_alloc | apply pw_below_drewN | apply below_drew1 | refine below_set ?_ GE109.out) | exact HB.out)⟩
                    · rw [if_neg c68] at H
                      have c68b0 : (a0_0 == 6) = false := beq_eq_false_iff_ne.mpr c68
                      have c68b1 : (a0_0 != 6) = true := bne_iff_ne.mpr c68
                      by_cases c72 : a0_6.toList = ([] : List UInt8)
                      · rw [if_pos c72] at H
                        have c72b0 : (a0_6.toList == ([] : List UInt8)) = true := beq_iff_eq.mpr c72
                        have c72b1 : (a0_6.toList != ([] : List UInt8)) = false := bne_eq_false_iff_eq.mpr c72
                        clear c72
                        by_cases c73 : a0_0 = 7
                        · rw [if_pos c73] at H
                          have c73b0 : (a0_0 == 7) = true := beq_iff_eq.mpr c73
                          have c73b1 : (a0_0 != 7) = false := bne_eq_false_iff_eq.mpr c73
                          clear c73
                          obtain rfl := Option.some.inj H
                          have hcz74_0 : wc.cell? ⟨gb109, 0, none⟩ = some (.int .i64 a0_0) := (blk_cell BK109.out 0).trans rfl
                          have hcz74_1 : wc.cell? ⟨gb109, 1, none⟩ = some (.int .i64 a0_1) := (blk_cell BK109.out 1).trans rfl
                          have hcz74_2 : wc.cell? ⟨gb109, 2, none⟩ = some (.int .i64 a0_2) := (blk_cell BK109.out 2).trans rfl
                          have hcz74_3 : wc.cell? ⟨gb109, 3, none⟩ = some (.int .i64 a0_3) := (blk_cell BK109.out 3).trans rfl
                          have hcz74_4 : wc.cell? ⟨gb109, 4, none⟩ = some (.string a0_4) := (blk_cell BK109.out 4).trans rfl
                          have hcz74_5 : wc.cell? ⟨gb109, 5, none⟩ = some (.string a0_5) := (blk_cell BK109.out 5).trans rfl
                          have hcz74_6 : wc.cell? ⟨gb109, 6, none⟩ = some (.string a0_6) := (blk_cell BK109.out 6).trans rfl
                          have hcz74_7 : wc.cell? ⟨gb109, 7, none⟩ = some (.string a0_7) := (blk_cell BK109.out 7).trans rfl
                          have hcz74_8 : wc.cell? ⟨gb109, 8, none⟩ = some (.slice A0_8 l0_8.length c0_8) := (blk_cell BK109.out 8).trans rfl
                          have hfz74_0 := blk_frozen BK109.out 0
                          have hfz74_1 := blk_frozen BK109.out 1
                          have hfz74_2 := blk_frozen BK109.out 2
                          have hfz74_3 := blk_frozen BK109.out 3
                          have hfz74_4 := blk_frozen BK109.out 4
                          have hfz74_5 := blk_frozen BK109.out 5
                          have hfz74_6 := blk_frozen BK109.out 6
                          have hfz74_7 := blk_frozen BK109.out 7
                          have hfz74_8 := blk_frozen BK109.out 8
                          go_wp2
                          go_ret
                          exact ⟨by first | rfl | (simp [errW_none, errW_some] <;> first | rfl | exact emp_bne _ | exact (emp_bne _).symm | exact emp_bne' _ | exact (emp_bne' _).symm) | (simp [*, errW_none, errW_some] <;> rfl), by repeat (first | (with_reducible first | exact HB.out | apply below_alloc | apply pw_below_drewN | apply below_drew1 | refine below_set ?_ GE109.out) | exact HB.out)⟩
                        · rw [if_neg c73] at H
                          have c73b0 : (a0_0 == 7) = false := beq_eq_false_iff_ne.mpr c73
                          have c73b1 : (a0_0 != 7) = true := bne_iff_ne.mpr c73
                          obtain rfl := Option.some.inj H
                          have hcz75_0 : wc.cell? ⟨gb109, 0, none⟩ = some (.int .i64 a0_0) := (blk_cell BK109.out 0).trans rfl
                          have hcz75_1 : wc.cell? ⟨gb109, 1, none⟩ = some (.int .i64 a0_1) := (blk_cell BK109.out 1).trans rfl
                          have hcz75_2 : wc.cell? ⟨gb109, 2, none⟩ = some (.int .i64 a0_2) := (blk_cell BK109.out 2).trans rfl
                          have hcz75_3 : wc.cell? ⟨gb109, 3, none⟩ = some (.int .i64 a0_3) := (blk_cell BK109.out 3).trans rfl
                          have hcz75_4 : wc.cell? ⟨gb109, 4, none⟩ = some (.string a0_4) := (blk_cell BK109.out 4).trans rfl
                          have hcz75_5 : wc.cell? ⟨gb109, 5, none⟩ = some (.string a0_5) := (blk_cell BK109.out 5).trans rfl
                          have hcz75_6 : wc.cell? ⟨gb109, 6, none⟩ = some (.string a0_6) := (blk_cell BK109.out 6).trans rfl
                          have hcz75_7 : wc.cell? ⟨gb109, 7, none⟩ = some (.string a0_7) := (blk_cell BK109.out 7).trans rfl
                          have hcz75_8 : wc.cell? ⟨gb109, 8, none⟩ = some (.slice A0_8 l0_8.length c0_8) := (blk_cell BK109.out 8).trans rfl
                          have hfz75_0 := blk_frozen BK109.out 0
                          have hfz75_1 := blk_frozen BK109.out 1
                          have hfz75_2 := blk_frozen BK109.out 2
                          have hfz75_3 := blk_frozen BK109.out 3
                          have hfz75_4 := blk_frozen BK109.out 4
                          have hfz75_5 := blk_frozen BK109.out 5
                          have hfz75_6 := blk_frozen BK109.out 6
                          have hfz75_7 := blk_frozen BK109.out 7
                          have hfz75_8 := blk_frozen BK109.out 8
                          go_wp2
                          go_ret
                          exact ⟨by first | rfl | (simp [errW_none, errW_some] <;> first | rfl | exact emp_bne _ | exact (emp_bne _).symm | exact emp_bne' _ | exact (emp_bne' _).symm) | (simp [*, errW_none, errW_some] <;> rfl), by repeat (first | (with_reducible first | exact HB.out | apply below_alloc | apply pw_below_drewN | apply below_drew1 | refine below_set ?_ GE109.out) | exact HB.out)⟩
                      · rw [if_neg c72] at H
                        have c72b0 : (a0_6.toList == ([] : List UInt8)) = false := beq_eq_false_iff_ne.mpr c72
                        have c72b1 : (a0_6.toList != ([] : List UInt8)) = true := bne_iff_ne.mpr c72
                        obtain rfl := Option.some.inj H
                        have hcz76_0 : wc.cell? ⟨gb109, 0, none⟩ = some (.int .i64 a0_0) := (blk_cell BK109.out 0).trans rfl
                        have hcz76_1 : wc.cell? ⟨gb109, 1, none⟩ = some (.int .i64 a0_1) := (blk_cell BK109.out 1).trans rfl
                        have hcz76_2 : wc.cell? ⟨gb109, 2, none⟩ = some (.int .i64 a0_2) := (blk_cell BK109.out 2).trans rfl
                        have hcz76_3 : wc.cell? ⟨gb109, 3, none⟩ = some (.int .i64 a0_3) := (blk_cell BK109.out 3).trans rfl
                        have hcz76_4 : wc.cell? ⟨gb109, 4, none⟩ = some (.string a0_4) := (blk_cell BK109.out 4).trans rfl
                        have hcz76_5 : wc.cell? ⟨gb109, 5, none⟩ = some (.string a0_5) := (blk_cell BK109.out 5).trans rfl
                        have hcz76_6 : wc.cell? ⟨gb109, 6, none⟩ = some (.string a0_6) := (blk_cell BK109.out 6).trans rfl
                        have hcz76_7 : wc.cell? ⟨gb109, 7, none⟩ = some (.string a0_7) := (blk_cell BK109.out 7).trans rfl
                        have hcz76_8 : wc.cell? ⟨gb109, 8, none⟩ = some (.slice A0_8 l0_8.length c0_8) := (blk_cell BK109.out 8).trans rfl
                        have hfz76_0 := blk_frozen BK109.out 0
                        have hfz76_1 := blk_frozen BK109.out 1
                        have hfz76_2 := blk_frozen BK109.out 2
                        have hfz76_3 := blk_frozen BK109.out 3
                        have hfz76_4 := blk_frozen BK109.out 4
                        have hfz76_5 := blk_frozen BK109.out 5
                        have hfz76_6 := blk_frozen BK109.out 6
                        have hfz76_7 := blk_frozen BK109.out 7
                        have hfz76_8 := blk_frozen BK109.out 8
                        go_wp2
                        go_ret
                        exact ⟨by first | rfl | (simp [errW_none, errW_some] <;> first | rfl | exact emp_bne _ | exact (emp_bne _).symm | exact emp_bne' _ | exact (emp_bne' _).symm) | (simp [*, errW_none, errW_some] <;> rfl), by repeat (first | (with_reducible first | exact HB.out | apply below_alloc | apply pw_below_drewN | apply below_drew1 | refine below_set ?_ GE109.out) | exact HB.out)⟩
                · rw [if_neg c65] at H
                  have c65b0 : (a0_3 == 0) = false := beq_eq_false_iff_ne.mpr c65
                  have c65b1 : (a0_3 != 0) = true := bne_iff_ne.mpr c65
                  obtain rfl := Option.some.inj H
                  have hcz77_0 : wc.cell? ⟨gb109, 0, none⟩ = some (.int .i64 a0_0) := (blk_cell BK109.out 0).trans rfl
                  have hcz77_1 : wc.cell? ⟨gb109, 1, none⟩ = some (.int .i64 a0_1) := (blk_cell BK109.out 1).trans rfl
                  have hcz77_2 : wc.cell? ⟨gb109, 2, none⟩ = some (.int .i64 a0_2) := (blk_cell BK109.out 2).trans rfl
                  have hcz77_3 : wc.cell? ⟨gb109, 3, none⟩ = some (.int .i64 a0_3) := (blk_cell BK109.out 3).trans rfl
                  have hcz77_4 : wc.cell? ⟨gb109, 4, none⟩ = some (.string a0_4) := (blk_cell BK109.out 4).trans rfl
                  have hcz77_5 : wc.cell? ⟨gb109, 5, none⟩ = some (.string a0_5) := (blk_cell BK109.out 5).trans rfl
                  have hcz77_6 : wc.cell? ⟨gb109, 6, none⟩ = some (.string a0_6) := (blk_cell BK109.out 6).trans rfl
                  have hcz77_7 : wc.cell? ⟨gb109, 7, none⟩ = some (.string a0_7) := (blk_cell BK109.out 7).trans rfl
                  have hcz77_8 : wc.cell? ⟨gb109, 8, none⟩ = some (.slice A0_8 l0_8.length c0_8) := (blk_cell BK109.out 8).trans rfl
                  have hfz77_0 := blk_frozen BK109.out 0
                  have hfz77_1 := blk_frozen BK109.out 1
                  have hfz77_2 := blk_frozen BK109.out 2
                  have hfz77_3 := blk_frozen BK109.out 3
                  have hfz77_4 := blk_frozen BK109.out 4
                  have hfz77_5 := blk_frozen BK109.out 5
                  have hfz77_6 := blk_frozen BK109.out 6
                  have hfz77_7 := blk_frozen BK109.out 7
                  have hfz77_8 := blk_frozen BK109.out 8
                  go_wp2
                  go_ret
                  exact ⟨by first | rfl | (simp [errW_none, errW_some] <;> first | rfl | exact emp_bne _ | exact (emp_bne _).symm | exact emp_bne' _ | exact (emp_bne' _).symm) | (simp [*, errW_none, errW_some] <;> rfl), by repeat (first | (with_reducible first | exact HB.out | apply below_alloc | apply pw_below_drewN | apply below_drew1 | refine below_set ?_ GE109.out) | exact HB.out)⟩
            · rw [if_neg c52] at H
              have c52b0 : (a0_2 == 0) = false := beq_eq_false_iff_ne.mpr c52
              have c52b1 : (a0_2 != 0) = true := bne_iff_ne.mpr c52
              obtain rfl := Option.some.inj H
              have hcz78_0 : wc.cell? ⟨gb109, 0, none⟩ = some (.int .i64 a0_0) := (blk_cell BK109.out 0).trans rfl
              have hcz78_1 : wc.cell? ⟨gb109, 1, none⟩ = some (.int .i64 a0_1) := (blk_cell BK109.out 1).trans rfl
              have hcz78_2 : wc.cell? ⟨gb109, 2, none⟩ = some (.int .i64 a0_2) := (blk_cell BK109.out 2).trans rfl
              have hcz78_3 : wc.cell? ⟨gb109, 3, none⟩ = some (.int .i64 a0_3) := (blk_cell BK109.out 3).trans rfl
              have hcz78_4 : wc.cell? ⟨gb109, 4, none⟩ = some (.string a0_4) := (blk_cell BK109.out 4).trans rfl
              have hcz78_5 : wc.cell? ⟨gb109, 5, none⟩ = some (.string a0_5) := (blk_cell BK109.out 5).trans rfl
              have hcz78_6 : wc.cell? ⟨gb109, 6, none⟩ = some (.string a0_6) := (blk_cell BK109.out 6).trans rfl
              have hcz78_7 : wc.cell? ⟨gb109, 7, none⟩ = some (.string a0_7) := (blk_cell BK109.out 7).trans rfl
              have hcz78_8 : wc.cell? ⟨gb109, 8, none⟩ = some (.slice A0_8 l0_8.length c0_8) := (blk_cell BK109.out 8).trans rfl
              have hfz78_0 := blk_frozen BK109.out 0
              have hfz78_1 := blk_frozen BK109.out 1
              have hfz78_2 := blk_frozen BK109.out 2
              have hfz78_3 := blk_frozen BK109.out 3
              have hfz78_4 := blk_frozen BK109.out 4
              have hfz78_5 := blk_frozen BK109.out 5
              have hfz78_6 := blk_frozen BK109.out 6
              have hfz78_7 := blk_frozen BK109.out 7
              have hfz78_8 := blk_frozen BK109.out 8
              go_wp2
              go_ret
              exact ⟨by first | rfl | (simp [errW_none, errW_some] <;> first | rfl | exact emp_bne _ | exact (emp_bne _).symm | exact emp_bne' _ | exact (emp_bne' _).symm) | (simp [*, errW_none, errW_some] <;> rfl), by repeat (first | (with_reducible first | exact HB.out | apply below_alloc | apply pw_below_drewN | apply below_drew1 | refine below_set ?_ GE109.out) | exact HB.out)⟩

end Go.Proofs.YtgdemingopcgaaaDoor.P26

namespace Go.Proofs.YtgdemingopcgaaaDoor.P26
open Go.RowKit Go.Proofs.YtgdemingopcgaaaDoorE Go.Proofs.YtgdemingopcgaaaDoorW.PrintWords Go.Proofs.YtgdemingopcgaaaDoorW.PrintLast Go.Proofs.YtgdemingopcgaaaDoorW.PrintMore
attribute [local go_sem] max2_int min2_int max_two min_two max_three min_three max_four min_four   -- for this text's walks alone
set_option linter.unusedVariables false
set_option linter.unusedSimpArgs false

mutual
def tendrilref25_Check.j0 : Nat → Bool → Int → Int → Int → Int → ByteArray → ByteArray → ByteArray → ByteArray → List (S51) → Option (Int)
  | 0, _, _, _, _, _, _, _, _, _, _ => none
  | k + 1, x12, x120000, x120001, x120002, x120003, x120004, x120005, x120006, x120007, x120008 => if x12 = true then (some 6) else ((tendrilref25_over.f x120001).bind fun t120 => (if t120 = true then (tendrilref25_Check.j1 k true x120000 x120001 x120002 x120003 x120004 x120005 x120006 x120007 x120008) else ((tendrilref25_over.f x120002).bind fun t121 => (if t121 = true then (tendrilref25_Check.j1 k true x120000 x120001 x120002 x120003 x120004 x120005 x120006 x120007 x120008) else ((tendrilref25_over.f x120003).bind fun t122 => (tendrilref25_Check.j1 k t122 x120000 x120001 x120002 x120003 x120004 x120005 x120006 x120007 x120008))))))
def tendrilref25_Check.j1 : Nat → Bool → Int → Int → Int → Int → ByteArray → ByteArray → ByteArray → ByteArray → List (S51) → Option (Int)
  | 0, _, _, _, _, _, _, _, _, _, _ => none
  | k + 1, x25, x120000, x120001, x120002, x120003, x120004, x120005, x120006, x120007, x120008 => if x25 = true then (some 5) else ((tendrilref25_none.f k x120000 x120001 x120002 x120003 x120004 x120005 x120006 x120007 x120008).bind fun t123 => (if t123 = true then (some 2) else (if x120000 = 1 then ((tendrilref02_Named.f k x120004 false).bind fun t124 => (tendrilref25_Check.j2 k (!t124) x120000 x120001 x120002 x120003 x120004 x120005 x120006 x120007 x120008)) else (tendrilref25_Check.j2 k false x120000 x120001 x120002 x120003 x120004 x120005 x120006 x120007 x120008))))
def tendrilref25_Check.j2 : Nat → Bool → Int → Int → Int → Int → ByteArray → ByteArray → ByteArray → ByteArray → List (S51) → Option (Int)
  | 0, _, _, _, _, _, _, _, _, _, _ => none
  | k + 1, x36, x120000, x120001, x120002, x120003, x120004, x120005, x120006, x120007, x120008 => if x36 = true then (some 7) else (if x120000 = 5 then ((tendrilref02_Named.f k x120006 true).bind fun t125 => (tendrilref25_Check.j3 k (!t125) x120000 x120001 x120002 x120003 x120004 x120005 x120006 x120007 x120008)) else (if x120000 = 6 then ((tendrilref02_Named.f k x120006 true).bind fun t126 => (tendrilref25_Check.j3 k (!t126) x120000 x120001 x120002 x120003 x120004 x120005 x120006 x120007 x120008)) else (tendrilref25_Check.j3 k false x120000 x120001 x120002 x120003 x120004 x120005 x120006 x120007 x120008)))
def tendrilref25_Check.j3 : Nat → Bool → Int → Int → Int → Int → ByteArray → ByteArray → ByteArray → ByteArray → List (S51) → Option (Int)
  | 0, _, _, _, _, _, _, _, _, _, _ => none
  | k + 1, x50, x120000, x120001, x120002, x120003, x120004, x120005, x120006, x120007, x120008 => if x50 = true then (some 8) else (if (x120005.size : Int) > 65536 then (some 3) else (if (x120007.size : Int) > 65536 then (some 3) else ((tendrilref09_Check.f k x120008).bind fun bt127 => (some bt127.2))))
end
def tendrilref25_Check.f (k : Nat) (a0_0 : Int) (a0_1 : Int) (a0_2 : Int) (a0_3 : Int) (a0_4 : ByteArray) (a0_5 : ByteArray) (a0_6 : ByteArray) (a0_7 : ByteArray) (l0_8 : List (S51)) : Option (Int) := if a0_0 < 1 then (tendrilref25_Check.j0 k true a0_0 a0_1 a0_2 a0_3 a0_4 a0_5 a0_6 a0_7 l0_8) else (tendrilref25_Check.j0 k (decide (a0_0 > 7)) a0_0 a0_1 a0_2 a0_3 a0_4 a0_5 a0_6 a0_7 l0_8)
theorem tendrilref25_Check.mono_l : ∀ k, (∀ y0 y1 y2 y3 y4 y5 y6 y7 y8 y9, LeO (tendrilref25_Check.j0 k y0 y1 y2 y3 y4 y5 y6 y7 y8 y9) (tendrilref25_Check.j0 (k + 1) y0 y1 y2 y3 y4 y5 y6 y7 y8 y9)) ∧ (∀ y0 y1 y2 y3 y4 y5 y6 y7 y8 y9, LeO (tendrilref25_Check.j1 k y0 y1 y2 y3 y4 y5 y6 y7 y8 y9) (tendrilref25_Check.j1 (k + 1) y0 y1 y2 y3 y4 y5 y6 y7 y8 y9)) ∧ (∀ y0 y1 y2 y3 y4 y5 y6 y7 y8 y9, LeO (tendrilref25_Check.j2 k y0 y1 y2 y3 y4 y5 y6 y7 y8 y9) (tendrilref25_Check.j2 (k + 1) y0 y1 y2 y3 y4 y5 y6 y7 y8 y9)) ∧ (∀ y0 y1 y2 y3 y4 y5 y6 y7 y8 y9, LeO (tendrilref25_Check.j3 k y0 y1 y2 y3 y4 y5 y6 y7 y8 y9) (tendrilref25_Check.j3 (k + 1) y0 y1 y2 y3 y4 y5 y6 y7 y8 y9))
  | 0 => ⟨fun _ _ _ _ _ _ _ _ _ _ r h => by simp [tendrilref25_Check.j0] at h, fun _ _ _ _ _ _ _ _ _ _ r h => by simp [tendrilref25_Check.j1] at h, fun _ _ _ _ _ _ _ _ _ _ r h => by simp [tendrilref25_Check.j2] at h, fun _ _ _ _ _ _ _ _ _ _ r h => by simp [tendrilref25_Check.j3] at h⟩
  | k + 1 => by
    obtain ⟨ih0, ih1, ih2, ih3⟩ := tendrilref25_Check.mono_l k
    refine ⟨?_, ?_, ?_, ?_⟩
    · intro y0 y1 y2 y3 y4 y5 y6 y7 y8 y9
      unfold tendrilref25_Check.j0
      repeat' first
      | (with_reducible exact ih0 _ _ _ _ _ _ _ _ _ _)
      | (with_reducible exact ih1 _ _ _ _ _ _ _ _ _ _)
      | (with_reducible exact ih2 _ _ _ _ _ _ _ _ _ _)
      | (with_reducible exact ih3 _ _ _ _ _ _ _ _ _ _)
      | (with_reducible exact tendrilref02_Named.mono _ _ _)
      | (with_reducible exact tendrilref09_Check.mono _ _)
      | (with_reducible exact tendrilref25_none.mono _ _ _ _ _ _ _ _ _ _)
      | (with_reducible exact LeO.refl _)
      | (with_reducible exact LeO.none _)
      | (with_reducible refine LeO.ite ?_ ?_)
      | (with_reducible refine LeO.bind ?_ (fun _ => ?_))
      | exact ih0 _ _ _ _ _ _ _ _ _ _
      | exact ih1 _ _ _ _ _ _ _ _ _ _
      | exact ih2 _ _ _ _ _ _ _ _ _ _
      | exact ih3 _ _ _ _ _ _ _ _ _ _
      | exact tendrilref02_Named.mono _ _ _
      | exact tendrilref09_Check.mono _ _
      | exact tendrilref25_none.mono _ _ _ _ _ _ _ _ _ _
      | exact LeO.none _
      | refine LeO.ite ?_ ?_
      | refine LeO.bind ?_ (fun _ => ?_)
    · intro y0 y1 y2 y3 y4 y5 y6 y7 y8 y9
      unfold tendrilref25_Check.j1
      repeat' first
      | (with_reducible exact ih0 _ _ _ _ _ _ _ _ _ _)
      | (with_reducible exact ih1 _ _ _ _ _ _ _ _ _ _)
      | (with_reducible exact ih2 _ _ _ _ _ _ _ _ _ _)
      | (with_reducible exact ih3 _ _ _ _ _ _ _ _ _ _)
      | (with_reducible exact tendrilref02_Named.mono _ _ _)
      | (with_reducible exact tendrilref09_Check.mono _ _)
      | (with_reducible exact tendrilref25_none.mono _ _ _ _ _ _ _ _ _ _)
      | (with_reducible exact LeO.refl _)
      | (with_reducible exact LeO.none _)
      | (with_reducible refine LeO.ite ?_ ?_)
      | (with_reducible refine LeO.bind ?_ (fun _ => ?_))
      | exact ih0 _ _ _ _ _ _ _ _ _ _
      | exact ih1 _ _ _ _ _ _ _ _ _ _
      | exact ih2 _ _ _ _ _ _ _ _ _ _
      | exact ih3 _ _ _ _ _ _ _ _ _ _
      | exact tendrilref02_Named.mono _ _ _
      | exact tendrilref09_Check.mono _ _
      | exact tendrilref25_none.mono _ _ _ _ _ _ _ _ _ _
      | exact LeO.none _
      | refine LeO.ite ?_ ?_
      | refine LeO.bind ?_ (fun _ => ?_)
    · intro y0 y1 y2 y3 y4 y5 y6 y7 y8 y9
      unfold tendrilref25_Check.j2
      repeat' first
      | (with_reducible exact ih0 _ _ _ _ _ _ _ _ _ _)
      | (with_reducible exact ih1 _ _ _ _ _ _ _ _ _ _)
      | (with_reducible exact ih2 _ _ _ _ _ _ _ _ _ _)
      | (with_reducible exact ih3 _ _ _ _ _ _ _ _ _ _)
      | (with_reducible exact tendrilref02_Named.mono _ _ _)
      | (with_reducible exact tendrilref09_Check.mono _ _)
      | (with_reducible exact tendrilref25_none.mono _ _ _ _ _ _ _ _ _ _)
      | (with_reducible exact LeO.refl _)
      | (with_reducible exact LeO.none _)
      | (with_reducible refine LeO.ite ?_ ?_)
      | (with_reducible refine LeO.bind ?_ (fun _ => ?_))
      | exact ih0 _ _ _ _ _ _ _ _ _ _
      | exact ih1 _ _ _ _ _ _ _ _ _ _
      | exact ih2 _ _ _ _ _ _ _ _ _ _
      | exact ih3 _ _ _ _ _ _ _ _ _ _
      | exact tendrilref02_Named.mono _ _ _
      | exact tendrilref09_Check.mono _ _
      | exact tendrilref25_none.mono _ _ _ _ _ _ _ _ _ _
      | exact LeO.none _
      | refine LeO.ite ?_ ?_
      | refine LeO.bind ?_ (fun _ => ?_)
    · intro y0 y1 y2 y3 y4 y5 y6 y7 y8 y9
      unfold tendrilref25_Check.j3
      repeat' first
      | (with_reducible exact ih0 _ _ _ _ _ _ _ _ _ _)
      | (with_reducible exact ih1 _ _ _ _ _ _ _ _ _ _)
      | (with_reducible exact ih2 _ _ _ _ _ _ _ _ _ _)
      | (with_reducible exact ih3 _ _ _ _ _ _ _ _ _ _)
      | (with_reducible exact tendrilref02_Named.mono _ _ _)
      | (with_reducible exact tendrilref09_Check.mono _ _)
      | (with_reducible exact tendrilref25_none.mono _ _ _ _ _ _ _ _ _ _)
      | (with_reducible exact LeO.refl _)
      | (with_reducible exact LeO.none _)
      | (with_reducible refine LeO.ite ?_ ?_)
      | (with_reducible refine LeO.bind ?_ (fun _ => ?_))
      | exact ih0 _ _ _ _ _ _ _ _ _ _
      | exact ih1 _ _ _ _ _ _ _ _ _ _
      | exact ih2 _ _ _ _ _ _ _ _ _ _
      | exact ih3 _ _ _ _ _ _ _ _ _ _
      | exact tendrilref02_Named.mono _ _ _
      | exact tendrilref09_Check.mono _ _
      | exact tendrilref25_none.mono _ _ _ _ _ _ _ _ _ _
      | exact LeO.none _
      | refine LeO.ite ?_ ?_
      | refine LeO.bind ?_ (fun _ => ?_)
theorem tendrilref25_Check.mono : ∀ a0 a1 a2 a3 a4 a5 a6 a7 a8 k, LeO (tendrilref25_Check.f k a0 a1 a2 a3 a4 a5 a6 a7 a8) (tendrilref25_Check.f (k + 1) a0 a1 a2 a3 a4 a5 a6 a7 a8) := by
  intro a0 a1 a2 a3 a4 a5 a6 a7 a8 k
  obtain ⟨ih0, ih1, ih2, ih3⟩ := tendrilref25_Check.mono_l k
  unfold tendrilref25_Check.f
  repeat' first
      | (with_reducible exact ih0 _ _ _ _ _ _ _ _ _ _)
      | (with_reducible exact ih1 _ _ _ _ _ _ _ _ _ _)
      | (with_reducible exact ih2 _ _ _ _ _ _ _ _ _ _)
      | (with_reducible exact ih3 _ _ _ _ _ _ _ _ _ _)
      | (with_reducible exact tendrilref02_Named.mono _ _ _)
      | (with_reducible exact tendrilref09_Check.mono _ _)
      | (with_reducible exact tendrilref25_none.mono _ _ _ _ _ _ _ _ _ _)
      | (with_reducible exact LeO.refl _)
      | (with_reducible exact LeO.none _)
      | (with_reducible refine LeO.ite ?_ ?_)
      | (with_reducible refine LeO.bind ?_ (fun _ => ?_))
      | exact ih0 _ _ _ _ _ _ _ _ _ _
      | exact ih1 _ _ _ _ _ _ _ _ _ _
      | exact ih2 _ _ _ _ _ _ _ _ _ _
      | exact ih3 _ _ _ _ _ _ _ _ _ _
      | exact tendrilref02_Named.mono _ _ _
      | exact tendrilref09_Check.mono _ _
      | exact tendrilref25_none.mono _ _ _ _ _ _ _ _ _ _
      | exact LeO.none _
      | refine LeO.ite ?_ ?_
      | refine LeO.bind ?_ (fun _ => ?_)
set_option maxHeartbeats 8000000 in
set_option maxRecDepth 100000 in
theorem tendrilref25_Check.calls (k : Nat) (a0_0 : Int) (a0_1 : Int) (a0_2 : Int) (a0_3 : Int) (a0_4 : ByteArray) (a0_5 : ByteArray) (a0_6 : ByteArray) (a0_7 : ByteArray) (A0_8 : Option Addr) (c0_8 : Nat) (l0_8 : List (S51)) (r : Int) (w : World) (hgl : Go.Proofs.YtgdemingopcgaaaDoorX.GL w) (hr0_8 : Kd.C k51 w A0_8 l0_8.length l0_8) (hc0_8 : l0_8.length ≤ c0_8) (h : tendrilref25_Check.f k a0_0 a0_1 a0_2 a0_3 a0_4 a0_5 a0_6 a0_7 l0_8 = some r) :
    Calls Tryd.prog 9 #[.agg #[.int .i64 a0_0, .int .i64 a0_1, .int .i64 a0_2, .int .i64 a0_3, .string a0_4, .string a0_5, .string a0_6, .string a0_7, .slice A0_8 l0_8.length c0_8]] w fun e w' => e = .returned (.int .i64 r) ∧ Below w.heap.size w w' := by
  have hu24 := Tryd.underlying24
  have HR0_8 := Aside0.mk hr0_8
  have HC0_8 := Aside0.mk hc0_8
  clear hr0_8 hc0_8
  have HGL := Aside0.mk hgl
  clear hgl
  have HB := Aside0.mk (Below.refl w.heap.size w)
  have H : (if a0_0 < 1 then (tendrilref25_Check.j0 k true a0_0 a0_1 a0_2 a0_3 a0_4 a0_5 a0_6 a0_7 l0_8) else (tendrilref25_Check.j0 k (decide (a0_0 > 7)) a0_0 a0_1 a0_2 a0_3 a0_4 a0_5 a0_6 a0_7 l0_8)) = some r := h
  clear h
  have HC2 := Aside0.mk H
  clear H
  go_enter Tryd.func9, Tryd.ntmps9
  go_upto_region 1 with (first | ((with_reducible refine gate_dst (N := 1) rfl ?_); (try (refine gate_guard (by rfl) ?_; dsimp only)); refine box_event ?hg (N := 1) ?hd (cs := #[.int .i64 a0_0, .int .i64 a0_1, .int .i64 a0_2, .int .i64 a0_3, .string a0_4, .string a0_5, .string a0_6, .string a0_7, .slice A0_8 l0_8.length c0_8]) (t := 24) ?hr ?_; (case hd => rfl); (case hg => rfl); (case hr => first | (go_simp; done) | (go_simp; rfl)); intro gb119 hg w3 hbox hb; have n0_ := Aside0.mk (below_step (by repeat (first | (with_reducible first | exact HB.out | apply below_alloc | apply pw_below_drewN | apply below_drew1) | exact HB.out)) hb); have n1_ := Aside0.mk (hbox); have n2_ := Aside0.mk ((by rw [hg]; exact (below_size (by repeat (first | (with_reducible first | exact HB.out | apply below_alloc | apply pw_below_drewN | apply below_drew1) | exact HB.out))) : w.heap.size ≤ gb119)); have n3_ := Aside0.mk ((by rw [hg]; exact (below_size (by repeat (first | (with_reducible first | exact HB.out | apply below_alloc | apply pw_below_drewN | apply below_drew1) | exact HB.out))) : w.heap.size ≤ gb119)); clear HB; have HB := n0_; have BK119 := n1_; have GW119 := n2_; have GE119 := n3_; clear n0_ n1_ n2_ n3_; clear hb hbox hg))
  (try simp only [Act.put, List.setIfInBounds_toArray, List.set_cons_zero, List.set_cons_succ])
  go_cut [12] (fun v12 wc => ∃ (kq : Nat) (x12_1 : Bool), v12 = .bool x12_1 ∧ Aside0 (tendrilref25_Check.j0 kq x12_1 a0_0 a0_1 a0_2 a0_3 a0_4 a0_5 a0_6 a0_7 l0_8 = some r) ∧ Aside0 (kq ≤ k) ∧ Aside0 (wc.heap[gb119]? = some (.cells #[.int .i64 a0_0, .int .i64 a0_1, .int .i64 a0_2, .int .i64 a0_3, .string a0_4, .string a0_5, .string a0_6, .string a0_7, (.slice A0_8 l0_8.length c0_8)] 24 (0, 0))) ∧ Aside0 (Below w.heap.size w wc))
  case first =>
    have H := HC2.out
    clear HC2
    by_cases c4 : a0_0 < 1
    · rw [if_pos c4] at H
      have c4b0 : decide (a0_0 < 1) = true := decide_eq_true c4
      clear c4
      (first | rw [c4b0] | (simp only [i64_w, i32_w]; rw [c4b0]) | skip)
      have H' := Aside0.mk H
      clear H
      have hcz5_0 : w3.cell? ⟨gb119, 0, none⟩ = some (.int .i64 a0_0) := (blk_cell BK119.out 0).trans rfl
      have hcz5_1 : w3.cell? ⟨gb119, 1, none⟩ = some (.int .i64 a0_1) := (blk_cell BK119.out 1).trans rfl
      have hcz5_2 : w3.cell? ⟨gb119, 2, none⟩ = some (.int .i64 a0_2) := (blk_cell BK119.out 2).trans rfl
      have hcz5_3 : w3.cell? ⟨gb119, 3, none⟩ = some (.int .i64 a0_3) := (blk_cell BK119.out 3).trans rfl
      have hcz5_4 : w3.cell? ⟨gb119, 4, none⟩ = some (.string a0_4) := (blk_cell BK119.out 4).trans rfl
      have hcz5_5 : w3.cell? ⟨gb119, 5, none⟩ = some (.string a0_5) := (blk_cell BK119.out 5).trans rfl
      have hcz5_6 : w3.cell? ⟨gb119, 6, none⟩ = some (.string a0_6) := (blk_cell BK119.out 6).trans rfl
      have hcz5_7 : w3.cell? ⟨gb119, 7, none⟩ = some (.string a0_7) := (blk_cell BK119.out 7).trans rfl
      have hcz5_8 : w3.cell? ⟨gb119, 8, none⟩ = some (.slice A0_8 l0_8.length c0_8) := (blk_cell BK119.out 8).trans rfl
      have hfz5_0 := blk_frozen BK119.out 0
      have hfz5_1 := blk_frozen BK119.out 1
      have hfz5_2 := blk_frozen BK119.out 2
      have hfz5_3 := blk_frozen BK119.out 3
      have hfz5_4 := blk_frozen BK119.out 4
      have hfz5_5 := blk_frozen BK119.out 5
      have hfz5_6 := blk_frozen BK119.out 6
      have hfz5_7 := blk_frozen BK119.out 7
      have hfz5_8 := blk_frozen BK119.out 8
      go_wp2
      go_meet
      case rel => exact ⟨_, (true), (by first | rfl | (simp; done) | (simp [*]; done)), H', ⟨by first | omega | exact Nat.le_refl _⟩, ⟨by (with_reducible repeat (first | refine blk_drewN ?_ _ | refine blk_drew ?_ | refine blk_alloc ?_ _)); exact BK119.out⟩, ⟨by repeat (first | (with_reducible first | exact HB.out | apply below_alloc | apply pw_below_drewN | apply below_drew1 | refine below_set ?_ GE119.out) | exact HB.out)⟩⟩
    · rw [if_neg c4] at H
      have c4b0 : decide (a0_0 < 1) = false := decide_eq_false c4
      clear c4
      (first | rw [c4b0] | (simp only [i64_w, i32_w]; rw [c4b0]) | skip)
      have H' := Aside0.mk H
      clear H
      have hcz6_0 : w3.cell? ⟨gb119, 0, none⟩ = some (.int .i64 a0_0) := (blk_cell BK119.out 0).trans rfl
      have hcz6_1 : w3.cell? ⟨gb119, 1, none⟩ = some (.int .i64 a0_1) := (blk_cell BK119.out 1).trans rfl
      have hcz6_2 : w3.cell? ⟨gb119, 2, none⟩ = some (.int .i64 a0_2) := (blk_cell BK119.out 2).trans rfl
      have hcz6_3 : w3.cell? ⟨gb119, 3, none⟩ = some (.int .i64 a0_3) := (blk_cell BK119.out 3).trans rfl
      have hcz6_4 : w3.cell? ⟨gb119, 4, none⟩ = some (.string a0_4) := (blk_cell BK119.out 4).trans rfl
      have hcz6_5 : w3.cell? ⟨gb119, 5, none⟩ = some (.string a0_5) := (blk_cell BK119.out 5).trans rfl
      have hcz6_6 : w3.cell? ⟨gb119, 6, none⟩ = some (.string a0_6) := (blk_cell BK119.out 6).trans rfl
      have hcz6_7 : w3.cell? ⟨gb119, 7, none⟩ = some (.string a0_7) := (blk_cell BK119.out 7).trans rfl
      have hcz6_8 : w3.cell? ⟨gb119, 8, none⟩ = some (.slice A0_8 l0_8.length c0_8) := (blk_cell BK119.out 8).trans rfl
      have hfz6_0 := blk_frozen BK119.out 0
      have hfz6_1 := blk_frozen BK119.out 1
      have hfz6_2 := blk_frozen BK119.out 2
      have hfz6_3 := blk_frozen BK119.out 3
      have hfz6_4 := blk_frozen BK119.out 4
      have hfz6_5 := blk_frozen BK119.out 5
      have hfz6_6 := blk_frozen BK119.out 6
      have hfz6_7 := blk_frozen BK119.out 7
      have hfz6_8 := blk_frozen BK119.out 8
      go_wp2
      go_meet
      case rel => exact ⟨_, (decide (a0_0 > 7)), (by first | rfl | (simp; done) | (simp [*]; done)), H', ⟨by first | omega | exact Nat.le_refl _⟩, ⟨by (with_reducible repeat (first | refine blk_drewN ?_ _ | refine blk_drew ?_ | refine blk_alloc ?_ _)); exact BK119.out⟩, ⟨by repeat (first | (with_reducible first | exact HB.out | apply below_alloc | apply pw_below_drewN | apply below_drew1 | refine below_set ?_ GE119.out) | exact HB.out)⟩⟩
  case rest =>
    clear HC2
    try clear p2
    try clear c4
    try clear c4b0
    try clear hcz5_0
    try clear hcz5_1
    try clear hcz5_2
    try clear hcz5_3
    try clear hcz5_4
    try clear hcz5_5
    try clear hcz5_6
    try clear hcz5_7
    try clear hcz5_8
    try clear hcz6_0
    try clear hcz6_1
    try clear hcz6_2
    try clear hcz6_3
    try clear hcz6_4
    try clear hcz6_5
    try clear hcz6_6
    try clear hcz6_7
    try clear hcz6_8
    try clear hfz5_0
    try clear hfz5_1
    try clear hfz5_2
    try clear hfz5_3
    try clear hfz5_4
    try clear hfz5_5
    try clear hfz5_6
    try clear hfz5_7
    try clear hfz5_8
    try clear hfz6_0
    try clear hfz6_1
    try clear hfz6_2
    try clear hfz6_3
    try clear hfz6_4
    try clear hfz6_5
    try clear hfz6_6
    try clear hfz6_7
    try clear hfz6_8
    obtain ⟨kq, x12_1, rfl, HA, HJ1, BK119, HB⟩ := hcut
    cases kq with
    | zero => exact absurd HA.out (by simp [tendrilref25_Check.j0])
    | succ kj1 =>
      have H := HA.out
      clear HA
      simp only [tendrilref25_Check.j0] at H
      by_cases c7 : x12_1 = true
      · subst c7
        have H1 : (some 6) = some r := by rw [if_pos rfl] at H; exact H
        clear H
        have H := H1
        clear H1
        obtain rfl := Option.some.inj H
        go_wp2
        go_ret
        exact ⟨by first | rfl | (simp [errW_none, errW_some] <;> first | rfl | exact emp_bne _ | exact (emp_bne _).symm | exact emp_bne' _ | exact (emp_bne' _).symm) | (simp [*, errW_none, errW_some] <;> rfl), by repeat (first | (with_reducible first | exact HB.out | apply below_alloc | apply pw_below_drewN | apply below_drew1 | refine below_set ?_ GE119.out) | exact HB.out)⟩
      · replace c7 := Bool.eq_false_iff.mpr c7
        subst c7
        have H1 : ((tendrilref25_over.f a0_1).bind fun t120 => (if t120 = true then (tendrilref25_Check.j1 kj1 true a0_0 a0_1 a0_2 a0_3 a0_4 a0_5 a0_6 a0_7 l0_8) else ((tendrilref25_over.f a0_2).bind fun t121 => (if t121 = true then (tendrilref25_Check.j1 kj1 true a0_0 a0_1 a0_2 a0_3 a0_4 a0_5 a0_6 a0_7 l0_8) else ((tendrilref25_over.f a0_3).bind fun t122 => (tendrilref25_Check.j1 kj1 t122 a0_0 a0_1 a0_2 a0_3 a0_4 a0_5 a0_6 a0_7 l0_8)))))) = some r := by rw [if_neg (show ¬ (false = true) by decide)] at H; exact H
        clear H
        have H := H1
        clear H1
        have HC8 := Aside0.mk H
        clear H
        go_upto_region 3 with (fail)
        go_cut [25] (fun v25 wc => ∃ (kq : Nat) (x25_7 : Bool), v25 = .bool x25_7 ∧ Aside0 (tendrilref25_Check.j1 kq x25_7 a0_0 a0_1 a0_2 a0_3 a0_4 a0_5 a0_6 a0_7 l0_8 = some r) ∧ Aside0 (kq ≤ kj1) ∧ Aside0 (wc.heap[gb119]? = some (.cells #[.int .i64 a0_0, .int .i64 a0_1, .int .i64 a0_2, .int .i64 a0_3, .string a0_4, .string a0_5, .string a0_6, .string a0_7, (.slice A0_8 l0_8.length c0_8)] 24 (0, 0))) ∧ Aside0 (Below w.heap.size w wc))
        case first =>
          have H := HC8.out
          clear HC8
          replace H := Option.bind_eq_some_iff.mp H
          obtain ⟨t120, A90, H⟩ := H
          replace H : (if t120 = true then (tendrilref25_Check.j1 kj1 true a0_0 a0_1 a0_2 a0_3 a0_4 a0_5 a0_6 a0_7 l0_8) else ((tendrilref25_over.f a0_2).bind fun t121 => (if t121 = true then (tendrilref25_Check.j1 kj1 true a0_0 a0_1 a0_2 a0_3 a0_4 a0_5 a0_6 a0_7 l0_8) else ((tendrilref25_over.f a0_3).bind fun t122 => (tendrilref25_Check.j1 kj1 t122 a0_0 a0_1 a0_2 a0_3 a0_4 a0_5 a0_6 a0_7 l0_8))))) = some r := H
          have A9 := Aside0.mk A90
          clear A90
          by_cases c10 : t120 = true
          · subst c10
            have H1 : (tendrilref25_Check.j1 kj1 true a0_0 a0_1 a0_2 a0_3 a0_4 a0_5 a0_6 a0_7 l0_8) = some r := by rw [if_pos rfl] at H; exact H
            clear H
            have H := H1
            clear H1
            have H' := Aside0.mk H
            clear H
            have hcz11_0 : wc.cell? ⟨gb119, 0, none⟩ = some (.int .i64 a0_0) := (blk_cell BK119.out 0).trans rfl
            have hcz11_1 : wc.cell? ⟨gb119, 1, none⟩ = some (.int .i64 a0_1) := (blk_cell BK119.out 1).trans rfl
            have hcz11_2 : wc.cell? ⟨gb119, 2, none⟩ = some (.int .i64 a0_2) := (blk_cell BK119.out 2).trans rfl
            have hcz11_3 : wc.cell? ⟨gb119, 3, none⟩ = some (.int .i64 a0_3) := (blk_cell BK119.out 3).trans rfl
            have hcz11_4 : wc.cell? ⟨gb119, 4, none⟩ = some (.string a0_4) := (blk_cell BK119.out 4).trans rfl
            have hcz11_5 : wc.cell? ⟨gb119, 5, none⟩ = some (.string a0_5) := (blk_cell BK119.out 5).trans rfl
            have hcz11_6 : wc.cell? ⟨gb119, 6, none⟩ = some (.string a0_6) := (blk_cell BK119.out 6).trans rfl
            have hcz11_7 : wc.cell? ⟨gb119, 7, none⟩ = some (.string a0_7) := (blk_cell BK119.out 7).trans rfl
            have hcz11_8 : wc.cell? ⟨gb119, 8, none⟩ = some (.slice A0_8 l0_8.length c0_8) := (blk_cell BK119.out 8).trans rfl
            have hfz11_0 := blk_frozen BK119.out 0
            have hfz11_1 := blk_frozen BK119.out 1
            have hfz11_2 := blk_frozen BK119.out 2
            have hfz11_3 := blk_frozen BK119.out 3
            have hfz11_4 := blk_frozen BK119.out 4
            have hfz11_5 := blk_frozen BK119.out 5
            have hfz11_6 := blk_frozen BK119.out 6
            have hfz11_7 := blk_frozen BK119.out 7
            have hfz11_8 := blk_frozen BK119.out 8
            go_wp2_with (first | ((with_reducible refine gate_callee (f := 21) rfl ?_); refine goesL_ (some 15) rfl rfl Tryd.func21 (by kernel_rfl) rfl #[.int .i64 a0_1] rfl (by (try simp only [List.map_toArray, List.map_cons, List.map_nil]); first | done | rfl | (simp only [List.length_drop, List.length_take]; rfl)) ?_; (with_reducible refine (tendrilref25_over.calls a0_1 true _ ?side1 A9.out).mono ?_); (case side1 => first | exact HGL.out | exact (Go.Proofs.YtgdemingopcgaaaDoorX.GL.below HGL.out (by repeat (first | (with_reducible first | exact HB.out | apply below_alloc | apply pw_below_drewN | apply below_drew1 | refine below_set ?_ GE119.out) | exact HB.out))) | (repeat (first | exact HGL.out | (with_reducible refine Go.Proofs.YtgdemingopcgaaaDoorX.GL.drewN ?_ _) | (with_reducible refine Go.Proofs.YtgdemingopcgaaaDoorX.GL.drew ?_)))); rintro e w' ⟨rfl, ⟨nd, rfl⟩⟩; refine ⟨_, rfl, ?_⟩))
            go_meet
            case rel => exact ⟨_, (true), (by first | rfl | (simp; done) | (simp [*]; done)), H', ⟨by have := HJ1.out; first | omega | exact Nat.le_refl _⟩, ⟨by (with_reducible repeat (first | refine blk_drewN ?_ _ | refine blk_drew ?_ | refine blk_alloc ?_ _)); exact BK119.out⟩, ⟨by repeat (first | (with_reducible first | exact HB.out | apply below_alloc | apply pw_below_drewN | apply below_drew1 | refine below_set ?_ GE119.out) | exact HB.out)⟩⟩
          · replace c10 := Bool.eq_false_iff.mpr c10
            subst c10
            have H1 : ((tendrilref25_over.f a0_2).bind fun t121 => (if t121 = true then (tendrilref25_Check.j1 kj1 true a0_0 a0_1 a0_2 a0_3 a0_4 a0_5 a0_6 a0_7 l0_8) else ((tendrilref25_over.f a0_3).bind fun t122 => (tendrilref25_Check.j1 kj1 t122 a0_0 a0_1 a0_2 a0_3 a0_4 a0_5 a0_6 a0_7 l0_8)))) = some r := by rw [if_neg (show ¬ (false = true) by decide)] at H; exact H
            clear H
            have H := H1
            clear H1
            replace H := Option.bind_eq_some_iff.mp H
            obtain ⟨t121, A120, H⟩ := H
            replace H : (if t121 = true then (tendrilref25_Check.j1 kj1 true a0_0 a0_1 a0_2 a0_3 a0_4 a0_5 a0_6 a0_7 l0_8) else ((tendrilref25_over.f a0_3).bind fun t122 => (tendrilref25_Check.j1 kj1 t122 a0_0 a0_1 a0_2 a0_3 a0_4 a0_5 a0_6 a0_7 l0_8))) = some r := H
            have A12 := Aside0.mk A120
            clear A120
            by_cases c13 : t121 = true
            · subst c13
              have H1 : (tendrilref25_Check.j1 kj1 true a0_0 a0_1 a0_2 a0_3 a0_4 a0_5 a0_6 a0_7 l0_8) = some r := by rw [if_pos rfl] at H; exact H
              clear H
              have H := H1
              clear H1
              have H' := Aside0.mk H
              clear H
              have hcz14_0 : wc.cell? ⟨gb119, 0, none⟩ = some (.int .i64 a0_0) := (blk_cell BK119.out 0).trans rfl
              have hcz14_1 : wc.cell? ⟨gb119, 1, none⟩ = some (.int .i64 a0_1) := (blk_cell BK119.out 1).trans rfl
              have hcz14_2 : wc.cell? ⟨gb119, 2, none⟩ = some (.int .i64 a0_2) := (blk_cell BK119.out 2).trans rfl
              have hcz14_3 : wc.cell? ⟨gb119, 3, none⟩ = some (.int .i64 a0_3) := (blk_cell BK119.out 3).trans rfl
              have hcz14_4 : wc.cell? ⟨gb119, 4, none⟩ = some (.string a0_4) := (blk_cell BK119.out 4).trans rfl
              have hcz14_5 : wc.cell? ⟨gb119, 5, none⟩ = some (.string a0_5) := (blk_cell BK119.out 5).trans rfl
              have hcz14_6 : wc.cell? ⟨gb119, 6, none⟩ = some (.string a0_6) := (blk_cell BK119.out 6).trans rfl
              have hcz14_7 : wc.cell? ⟨gb119, 7, none⟩ = some (.string a0_7) := (blk_cell BK119.out 7).trans rfl
              have hcz14_8 : wc.cell? ⟨gb119, 8, none⟩ = some (.slice A0_8 l0_8.length c0_8) := (blk_cell BK119.out 8).trans rfl
              have hfz14_0 := blk_frozen BK119.out 0
              have hfz14_1 := blk_frozen BK119.out 1
              have hfz14_2 := blk_frozen BK119.out 2
              have hfz14_3 := blk_frozen BK119.out 3
              have hfz14_4 := blk_frozen BK119.out 4
              have hfz14_5 := blk_frozen BK119.out 5
              have hfz14_6 := blk_frozen BK119.out 6
              have hfz14_7 := blk_frozen BK119.out 7
              have hfz14_8 := blk_frozen BK119.out 8
              go_wp2_with (first | ((with_reducible refine gate_callee (f := 21) rfl ?_); refine goesL_ (some 15) rfl rfl Tryd.func21 (by kernel_rfl) rfl #[.int .i64 a0_1] rfl (by (try simp only [List.map_toArray, List.map_cons, List.map_nil]); first | done | rfl | (simp only [List.length_drop, List.length_take]; rfl)) ?_; (with_reducible refine (tendrilref25_over.calls a0_1 false _ ?side1 A9.out).mono ?_); (case side1 => first | exact HGL.out | exact (Go.Proofs.YtgdemingopcgaaaDoorX.GL.below HGL.out (by repeat (first | (with_reducible first | exact HB.out | apply below_alloc | apply pw_below_drewN | apply below_drew1 | refine below_set ?_ GE119.out) | exact HB.out))) | (repeat (first | exact HGL.out | (with_reducible refine Go.Proofs.YtgdemingopcgaaaDoorX.GL.drewN ?_ _) | (with_reducible refine Go.Proofs.YtgdemingopcgaaaDoorX.GL.drew ?_)))); rintro e w' ⟨rfl, ⟨nd, rfl⟩⟩; refine ⟨_, rfl, ?_⟩) | (go_at_call 21; (with_reducible refine (tendrilref25_over.calls a0_2 true _ ?side1 A12.out).mono ?_); (case side1 => first | exact HGL.out | exact (Go.Proofs.YtgdemingopcgaaaDoorX.GL.below HGL.out (by repeat (first | (with_reducible first | exact HB.out | apply below_alloc | apply pw_below_drewN | apply below_drew1 | refine below_set ?_ GE119.out) | exact HB.out))) | (repeat (first | exact HGL.out | (with_reducible refine Go.Proofs.YtgdemingopcgaaaDoorX.GL.drewN ?_ _) | (with_reducible refine Go.Proofs.YtgdemingopcgaaaDoorX.GL.drew ?_)))); rintro e w' ⟨rfl, ⟨nd, rfl⟩⟩))
              go_meet
              case rel => exact ⟨_, (true), (by first | rfl | (simp; done) | (simp [*]; done)), H', ⟨by have := HJ1.out; first | omega | exact Nat.le_refl _⟩, ⟨by (with_reducible repeat (first | refine blk_drewN ?_ _ | refine blk_drew ?_ | refine blk_alloc ?_ _)); exact BK119.out⟩, ⟨by repeat (first | (with_reducible first | exact HB.out | apply below_alloc | apply pw_below_drewN | apply below_drew1 | refine below_set ?_ GE119.out) | exact HB.out)⟩⟩
            · replace c13 := Bool.eq_false_iff.mpr c13
              subst c13
              have H1 : ((tendrilref25_over.f a0_3).bind fun t122 => (tendrilref25_Check.j1 kj1 t122 a0_0 a0_1 a0_2 a0_3 a0_4 a0_5 a0_6 a0_7 l0_8)) = some r := by rw [if_neg (show ¬ (false = true) by decide)] at H; exact H
              clear H
              have H := H1
              clear H1
              replace H := Option.bind_eq_some_iff.mp H
              obtain ⟨t122, A150, H⟩ := H
              replace H : (tendrilref25_Check.j1 kj1 t122 a0_0 a0_1 a0_2 a0_3 a0_4 a0_5 a0_6 a0_7 l0_8) = some r := H
              have A15 := Aside0.mk A150
              clear A150
              have H' := Aside0.mk H
              clear H
              have hcz16_0 : wc.cell? ⟨gb119, 0, none⟩ = some (.int .i64 a0_0) := (blk_cell BK119.out 0).trans rfl
              have hcz16_1 : wc.cell? ⟨gb119, 1, none⟩ = some (.int .i64 a0_1) := (blk_cell BK119.out 1).trans rfl
              have hcz16_2 : wc.cell? ⟨gb119, 2, none⟩ = some (.int .i64 a0_2) := (blk_cell BK119.out 2).trans rfl
              have hcz16_3 : wc.cell? ⟨gb119, 3, none⟩ = some (.int .i64 a0_3) := (blk_cell BK119.out 3).trans rfl
              have hcz16_4 : wc.cell? ⟨gb119, 4, none⟩ = some (.string a0_4) := (blk_cell BK119.out 4).trans rfl
              have hcz16_5 : wc.cell? ⟨gb119, 5, none⟩ = some (.string a0_5) := (blk_cell BK119.out 5).trans rfl
              have hcz16_6 : wc.cell? ⟨gb119, 6, none⟩ = some (.string a0_6) := (blk_cell BK119.out 6).trans rfl
              have hcz16_7 : wc.cell? ⟨gb119, 7, none⟩ = some (.string a0_7) := (blk_cell BK119.out 7).trans rfl
              have hcz16_8 : wc.cell? ⟨gb119, 8, none⟩ = some (.slice A0_8 l0_8.length c0_8) := (blk_cell BK119.out 8).trans rfl
              have hfz16_0 := blk_frozen BK119.out 0
              have hfz16_1 := blk_frozen BK119.out 1
              have hfz16_2 := blk_frozen BK119.out 2
              have hfz16_3 := blk_frozen BK119.out 3
              have hfz16_4 := blk_frozen BK119.out 4
              have hfz16_5 := blk_frozen BK119.out 5
              have hfz16_6 := blk_frozen BK119.out 6
              have hfz16_7 := blk_frozen BK119.out 7
              have hfz16_8 := blk_frozen BK119.out 8
              go_wp2_with (first | ((with_reducible refine gate_callee (f := 21) rfl ?_); refine goesL_ (some 15) rfl rfl Tryd.func21 (by kernel_rfl) rfl #[.int .i64 a0_1] rfl (by (try simp only [List.map_toArray, List.map_cons, List.map_nil]); first | done | rfl | (simp only [List.length_drop, List.length_take]; rfl)) ?_; (with_reducible refine (tendrilref25_over.calls a0_1 false _ ?side1 A9.out).mono ?_); (case side1 => first | exact HGL.out | exact (Go.Proofs.YtgdemingopcgaaaDoorX.GL.below HGL.out (by repeat (first | (with_reducible first | exact HB.out | apply below_alloc | apply pw_below_drewN | apply below_drew1 | refine below_set ?_ GE119.out) | exact HB.out))) | (repeat (first | exact HGL.out | (with_reducible refine Go.Proofs.YtgdemingopcgaaaDoorX.GL.drewN ?_ _) | (with_reducible refine Go.Proofs.YtgdemingopcgaaaDoorX.GL.drew ?_)))); rintro e w' ⟨rfl, ⟨nd, rfl⟩⟩; refine ⟨_, rfl, ?_⟩) | (go_at_call 21; (with_reducible refine (tendrilref25_over.calls a0_2 false _ ?side1 A12.out).mono ?_); (case side1 => first | exact HGL.out | exact (Go.Proofs.YtgdemingopcgaaaDoorX.GL.below HGL.out (by repeat (first | (with_reducible first | exact HB.out | apply below_alloc | apply pw_below_drewN | apply below_drew1 | refine below_set ?_ GE119.out) | exact HB.out))) | (repeat (first | exact HGL.out | (with_reducible refine Go.Proofs.YtgdemingopcgaaaDoorX.GL.drewN ?_ _) | (with_reducible refine Go.Proofs.YtgdemingopcgaaaDoorX.GL.drew ?_)))); rintro e w' ⟨rfl, ⟨nd, rfl⟩⟩) | (go_at_call 21; (with_reducible refine (tendrilref25_over.calls a0_3 t122 _ ?side1 A15.out).mono ?_); (case side1 => first | exact HGL.out | exact (Go.Proofs.YtgdemingopcgaaaDoorX.GL.below HGL.out (by repeat (first | (with_reducible first | exact HB.out | apply below_alloc | apply pw_below_drewN | apply below_drew1 | refine below_set ?_ GE119.out) | exact HB.out))) | (repeat (first | exact HGL.out | (with_reducible refine Go.Proofs.YtgdemingopcgaaaDoorX.GL.drewN ?_ _) | (with_reducible refine Go.Proofs.YtgdemingopcgaaaDoorX.GL.drew ?_)))); rintro e w' ⟨rfl, ⟨nd, rfl⟩⟩))
              go_meet
              case rel => exact ⟨_, (t122), (by first | rfl | (simp; done) | (simp [*]; done)), H', ⟨by have := HJ1.out; first | omega | exact Nat.le_refl _⟩, ⟨by (with_reducible repeat (first | refine blk_drewN ?_ _ | refine blk_drew ?_ | refine blk_alloc ?_ _)); exact BK119.out⟩, ⟨by repeat (first | (with_reducible first | exact HB.out | apply below_alloc | apply pw_below_drewN | apply below_drew1 | refine below_set ?_ GE119.out) | exact HB.out)⟩⟩
        case rest =>
          clear HC8
          try clear c1
          try clear c2
          try clear p2
          try clear c4
          try clear c4b0
          try clear c7
          try clear c9
          try clear c10
          try clear c13
          try clear hcz11_0
          try clear hcz11_1
          try clear hcz11_2
          try clear hcz11_3
          try clear hcz11_4
          try clear hcz11_5
          try clear hcz11_6
          try clear hcz11_7
          try clear hcz11_8
          try clear hcz14_0
          try clear hcz14_1
          try clear hcz14_2
          try clear hcz14_3
          try clear hcz14_4
          try clear hcz14_5
          try clear hcz14_6
          try clear hcz14_7
          try clear hcz14_8
          try clear hcz16_0
          try clear hcz16_1
          try clear hcz16_2
          try clear hcz16_3
          try clear hcz16_4
          try clear hcz16_5
          try clear hcz16_6
          try clear hcz16_7
          try clear hcz16_8
          try clear hcz5_0
          try clear hcz5_1
          try clear hcz5_2
          try clear hcz5_3
          try clear hcz5_4
          try clear hcz5_5
          try clear hcz5_6
          try clear hcz5_7
          try clear hcz5_8
          try clear hcz6_0
          try clear hcz6_1
          try clear hcz6_2
          try clear hcz6_3
          try clear hcz6_4
          try clear hcz6_5
          try clear hcz6_6
          try clear hcz6_7
          try clear hcz6_8
          try clear hfz11_0
          try clear hfz11_1
          try clear hfz11_2
          try clear hfz11_3
          try clear hfz11_4
          try clear hfz11_5
          try clear hfz11_6
          try clear hfz11_7
          try clear hfz11_8
          try clear hfz14_0
          try clear hfz14_1
          try clear hfz14_2
          try clear hfz14_3
          try clear hfz14_4
          try clear hfz14_5
          try clear hfz14_6
          try clear hfz14_7
          try clear hfz14_8
          try clear hfz16_0
          try clear hfz16_1
          try clear hfz16_2
          try clear hfz16_3
          try clear hfz16_4
          try clear hfz16_5
          try clear hfz16_6
          try clear hfz16_7
          try clear hfz16_8
          try clear hfz5_0
          try clear hfz5_1
          try clear hfz5_2
          try clear hfz5_3
          try clear hfz5_4
          try clear hfz5_5
          try clear hfz5_6
          try clear hfz5_7
          try clear hfz5_8
          try clear hfz6_0
          try clear hfz6_1
          try clear hfz6_2
          try clear hfz6_3
          try clear hfz6_4
          try clear hfz6_5
          try clear hfz6_6
          try clear hfz6_7
          try clear hfz6_8
          try clear p2
          obtain ⟨kq, x25_7, rfl, HA, HJ7, BK119, HB⟩ := hcut
          cases kq with
          | zero => exact absurd HA.out (by simp [tendrilref25_Check.j1])
          | succ kj7 =>
            have H := HA.out
            clear HA
            simp only [tendrilref25_Check.j1] at H
            by_cases c17 : x25_7 = true
            · subst c17
              have H1 : (some 5) = some r := by rw [if_pos rfl] at H; exact H
              clear H
              have H := H1
              clear H1
              obtain rfl := Option.some.inj H
              go_wp2
              go_ret
              exact ⟨by first | rfl | (simp [errW_none, errW_some] <;> first | rfl | exact emp_bne _ | exact (emp_bne _).symm | exact emp_bne' _ | exact (emp_bne' _).symm) | (simp [*, errW_none, errW_some] <;> rfl), by repeat (first | (with_reducible first | exact HB.out | apply below_alloc | apply pw_below_drewN | apply below_drew1 | refine below_set ?_ GE119.out) | exact HB.out)⟩
            · replace c17 := Bool.eq_false_iff.mpr c17
              subst c17
              have H1 : ((tendrilref25_none.f kj7 a0_0 a0_1 a0_2 a0_3 a0_4 a0_5 a0_6 a0_7 l0_8).bind fun t123 => (if t123 = true then (some 2) else (if a0_0 = 1 then ((tendrilref02_Named.f kj7 a0_4 false).bind fun t124 => (tendrilref25_Check.j2 kj7 (!t124) a0_0 a0_1 a0_2 a0_3 a0_4 a0_5 a0_6 a0_7 l0_8)) else (tendrilref25_Check.j2 kj7 false a0_0 a0_1 a0_2 a0_3 a0_4 a0_5 a0_6 a0_7 l0_8)))) = some r := by rw [if_neg (show ¬ (false = true) by decide)] at H; exact H
              clear H
              have H := H1
              clear H1
              replace H := Option.bind_eq_some_iff.mp H
              obtain ⟨t123, A180, H⟩ := H
              replace H : (if t123 = true then (some 2) else (if a0_0 = 1 then ((tendrilref02_Named.f kj7 a0_4 false).bind fun t124 => (tendrilref25_Check.j2 kj7 (!t124) a0_0 a0_1 a0_2 a0_3 a0_4 a0_5 a0_6 a0_7 l0_8)) else (tendrilref25_Check.j2 kj7 false a0_0 a0_1 a0_2 a0_3 a0_4 a0_5 a0_6 a0_7 l0_8))) = some r := H
              have A18 := Aside0.mk A180
              clear A180
              by_cases c19 : t123 = true
              · subst c19
                have H1 : (some 2) = some r := by rw [if_pos rfl] at H; exact H
                clear H
                have H := H1
                clear H1
                obtain rfl := Option.some.inj H
                have hcz20_0 : wc.cell? ⟨gb119, 0, none⟩ = some (.int .i64 a0_0) := (blk_cell BK119.out 0).trans rfl
                have hcz20_1 : wc.cell? ⟨gb119, 1, none⟩ = some (.int .i64 a0_1) := (blk_cell BK119.out 1).trans rfl
                have hcz20_2 : wc.cell? ⟨gb119, 2, none⟩ = some (.int .i64 a0_2) := (blk_cell BK119.out 2).trans rfl
                have hcz20_3 : wc.cell? ⟨gb119, 3, none⟩ = some (.int .i64 a0_3) := (blk_cell BK119.out 3).trans rfl
                have hcz20_4 : wc.cell? ⟨gb119, 4, none⟩ = some (.string a0_4) := (blk_cell BK119.out 4).trans rfl
                have hcz20_5 : wc.cell? ⟨gb119, 5, none⟩ = some (.string a0_5) := (blk_cell BK119.out 5).trans rfl
                have hcz20_6 : wc.cell? ⟨gb119, 6, none⟩ = some (.string a0_6) := (blk_cell BK119.out 6).trans rfl
                have hcz20_7 : wc.cell? ⟨gb119, 7, none⟩ = some (.string a0_7) := (blk_cell BK119.out 7).trans rfl
                have hcz20_8 : wc.cell? ⟨gb119, 8, none⟩ = some (.slice A0_8 l0_8.length c0_8) := (blk_cell BK119.out 8).trans rfl
                have hfz20_0 := blk_frozen BK119.out 0
                have hfz20_1 := blk_frozen BK119.out 1
                have hfz20_2 := blk_frozen BK119.out 2
                have hfz20_3 := blk_frozen BK119.out 3
                have hfz20_4 := blk_frozen BK119.out 4
                have hfz20_5 := blk_frozen BK119.out 5
                have hfz20_6 := blk_frozen BK119.out 6
                have hfz20_7 := blk_frozen BK119.out 7
                have hfz20_8 := blk_frozen BK119.out 8
                go_wp2_with (first | ((with_reducible refine gate_callee (f := 22) rfl ?_); refine goesL_ (some 27) rfl rfl Tryd.func22 (by kernel_rfl) rfl #[.agg #[.int .i64 a0_0, .int .i64 a0_1, .int .i64 a0_2, .int .i64 a0_3, .string a0_4, .string a0_5, .string a0_6, .string a0_7, .slice A0_8 l0_8.length c0_8]] rfl (by (try simp only [List.map_toArray, List.map_cons, List.map_nil]); first | done | rfl | (simp only [List.length_drop, List.length_take]; rfl)) ?_; (with_reducible refine (tendrilref25_none.calls kj7 a0_0 a0_1 a0_2 a0_3 a0_4 a0_5 a0_6 a0_7 _ _ l0_8 true _ ?side1 ?side2 ?side3 A18.out).mono ?_); (case side1 => first | exact HGL.out | exact (Go.Proofs.YtgdemingopcgaaaDoorX.GL.below HGL.out (by repeat (first | (with_reducible first | exact HB.out | apply below_alloc | apply pw_below_drewN | apply below_drew1 | refine below_set ?_ GE119.out) | exact HB.out))) | (repeat (first | exact HGL.out | (with_reducible refine Go.Proofs.YtgdemingopcgaaaDoorX.GL.drewN ?_ _) | (with_reducible refine Go.Proofs.YtgdemingopcgaaaDoorX.GL.drew ?_)))); (case side2 => repeat (first | exact (Kd.C_below HR0_8.out HB.out) | (with_reducible refine Kd.C_alloc ?_ _) | (with_reducible refine Kd.C_drewN ?_ _) | (with_reducible refine Kd.C_drew ?_))); (case side3 => exact HC0_8.out); rintro e w21 ⟨rfl, hb⟩; refine ⟨_, rfl, ?_⟩; have n0_ := Aside0.mk (blk_below (g := gb119) (o := .cells #[.int .i64 a0_0, .int .i64 a0_1, .int .i64 a0_2, .int .i64 a0_3, .string a0_4, .string a0_5, .string a0_6, .string a0_7, .slice A0_8 l0_8.length c0_8] 24 (0, 0)) (by (with_reducible repeat (first | refine blk_drewN ?_ _ | refine blk_drew ?_ | refine blk_alloc ?_ _)); exact BK119.out) hb); have n1_ := Aside0.mk (below_step (by repeat (first | (with_reducible first | exact HB.out | apply below_alloc | apply pw_below_drewN | apply below_drew1 | refine below_set ?_ GE119.out) | exact HB.out)) hb); clear BK119; clear HB; have BK119 := n0_; have HB := n1_; clear n0_ n1_; (try clear hb); (try clear hb2); (try clear hk); (try clear hi)))
                go_ret
                exact ⟨by first | rfl | (simp [errW_none, errW_some] <;> first | rfl | exact emp_bne _ | exact (emp_bne _).symm | exact emp_bne' _ | exact (emp_bne' _).symm) | (simp [*, errW_none, errW_some] <;> rfl), by repeat (first | (with_reducible first | exact HB.out | apply below_alloc | apply pw_below_drewN | apply below_drew1 | refine below_set ?_ GE119.out) | exact HB.out)⟩
              · replace c19 := Bool.eq_false_iff.mpr c19
                subst c19
                have H1 : (if a0_0 = 1 then ((tendrilref02_Named.f kj7 a0_4 false).bind fun t124 => (tendrilref25_Check.j2 kj7 (!t124) a0_0 a0_1 a0_2 a0_3 a0_4 a0_5 a0_6 a0_7 l0_8)) else (tendrilref25_Check.j2 kj7 false a0_0 a0_1 a0_2 a0_3 a0_4 a0_5 a0_6 a0_7 l0_8)) = some r := by rw [if_neg (show ¬ (false = true) by decide)] at H; exact H
                clear H
                have H := H1
                clear H1
                have HC22 := Aside0.mk H
                clear H
                have hcz23_0 : wc.cell? ⟨gb119, 0, none⟩ = some (.int .i64 a0_0) := (blk_cell BK119.out 0).trans rfl
                have hcz23_1 : wc.cell? ⟨gb119, 1, none⟩ = some (.int .i64 a0_1) := (blk_cell BK119.out 1).trans rfl
                have hcz23_2 : wc.cell? ⟨gb119, 2, none⟩ = some (.int .i64 a0_2) := (blk_cell BK119.out 2).trans rfl
                have hcz23_3 : wc.cell? ⟨gb119, 3, none⟩ = some (.int .i64 a0_3) := (blk_cell BK119.out 3).trans rfl
                have hcz23_4 : wc.cell? ⟨gb119, 4, none⟩ = some (.string a0_4) := (blk_cell BK119.out 4).trans rfl
                have hcz23_5 : wc.cell? ⟨gb119, 5, none⟩ = some (.string a0_5) := (blk_cell BK119.out 5).trans rfl
                have hcz23_6 : wc.cell? ⟨gb119, 6, none⟩ = some (.string a0_6) := (blk_cell BK119.out 6).trans rfl
                have hcz23_7 : wc.cell? ⟨gb119, 7, none⟩ = some (.string a0_7) := (blk_cell BK119.out 7).trans rfl
                have hcz23_8 : wc.cell? ⟨gb119, 8, none⟩ = some (.slice A0_8 l0_8.length c0_8) := (blk_cell BK119.out 8).trans rfl
                have hfz23_0 := blk_frozen BK119.out 0
                have hfz23_1 := blk_frozen BK119.out 1
                have hfz23_2 := blk_frozen BK119.out 2
                have hfz23_3 := blk_frozen BK119.out 3
                have hfz23_4 := blk_frozen BK119.out 4
                have hfz23_5 := blk_frozen BK119.out 5
                have hfz23_6 := blk_frozen BK119.out 6
                have hfz23_7 := blk_frozen BK119.out 7
                have hfz23_8 := blk_frozen BK119.out 8
                go_upto_region 7 with (first | ((with_reducible refine gate_callee (f := 22) rfl ?_); refine goesL_ (some 27) rfl rfl Tryd.func22 (by kernel_rfl) rfl #[.agg #[.int .i64 a0_0, .int .i64 a0_1, .int .i64 a0_2, .int .i64 a0_3, .string a0_4, .string a0_5, .string a0_6, .string a0_7, .slice A0_8 l0_8.length c0_8]] rfl (by (try simp only [List.map_toArray, List.map_cons, List.map_nil]); first | done | rfl | (simp only [List.length_drop, List.length_take]; rfl)) ?_; (with_reducible refine (tendrilref25_none.calls kj7 a0_0 a0_1 a0_2 a0_3 a0_4 a0_5 a0_6 a0_7 _ _ l0_8 false _ ?side1 ?side2 ?side3 A18.out).mono ?_); (case side1 => first | exact HGL.out | exact (Go.Proofs.YtgdemingopcgaaaDoorX.GL.below HGL.out (by repeat (first | (with_reducible first | exact HB.out | apply below_alloc | apply pw_below_drewN | apply below_drew1 | refine below_set ?_ GE119.out) | exact HB.out))) | (repeat (first | exact HGL.out | (with_reducible refine Go.Proofs.YtgdemingopcgaaaDoorX.GL.drewN ?_ _) | (with_reducible refine Go.Proofs.YtgdemingopcgaaaDoorX.GL.drew ?_)))); (case side2 => repeat (first | exact (Kd.C_below HR0_8.out HB.out) | (with_reducible refine Kd.C_alloc ?_ _) | (with_reducible refine Kd.C_drewN ?_ _) | (with_reducible refine Kd.C_drew ?_))); (case side3 => exact HC0_8.out); rintro e w24 ⟨rfl, hb⟩; refine ⟨_, rfl, ?_⟩; have n0_ := Aside0.mk (blk_below (g := gb119) (o := .cells #[.int .i64 a0_0, .int .i64 a0_1, .int .i64 a0_2, .int .i64 a0_3, .string a0_4, .string a0_5, .string a0_6, .string a0_7, .slice A0_8 l0_8.length c0_8] 24 (0, 0)) (by (with_reducible repeat (first | refine blk_drewN ?_ _ | refine blk_drew ?_ | refine blk_alloc ?_ _)); exact BK119.out) hb); have n1_ := Aside0.mk (below_step (by repeat (first | (with_reducible first | exact HB.out | apply below_alloc | apply pw_below_drewN | apply below_drew1 | refine below_set ?_ GE119.out) | exact HB.out)) hb); clear BK119; clear HB; have BK119 := n0_; have HB := n1_; clear n0_ n1_; (try clear hb); (try clear hb2); (try clear hk); (try clear hi)))
                (try simp only [Act.put, List.setIfInBounds_toArray, List.set_cons_zero, List.set_cons_succ])
                go_cut [36] (fun v36 wc => ∃ (kq : Nat) (x36_21 : Bool), v36 = .bool x36_21 ∧ Aside0 (tendrilref25_Check.j2 kq x36_21 a0_0 a0_1 a0_2 a0_3 a0_4 a0_5 a0_6 a0_7 l0_8 = some r) ∧ Aside0 (kq ≤ kj7) ∧ Aside0 (wc.heap[gb119]? = some (.cells #[.int .i64 a0_0, .int .i64 a0_1, .int .i64 a0_2, .int .i64 a0_3, .string a0_4, .string a0_5, .string a0_6, .string a0_7, (.slice A0_8 l0_8.length c0_8)] 24 (0, 0))) ∧ Aside0 (Below w.heap.size w wc))
                case first =>
                  have H := HC22.out
                  clear HC22
                  by_cases c25 : a0_0 = 1
                  · rw [if_pos c25] at H
                    have c25b0 : (a0_0 == 1) = true := beq_iff_eq.mpr c25
                    have c25b1 : (a0_0 != 1) = false := bne_eq_false_iff_eq.mpr c25
                    clear c25
                    (first | rw [c25b0] | (simp only [i64_w, i32_w]; rw [c25b0]) | skip)
                    replace H := Option.bind_eq_some_iff.mp H
                    obtain ⟨t124, A260, H⟩ := H
                    replace H : (tendrilref25_Check.j2 kj7 (!t124) a0_0 a0_1 a0_2 a0_3 a0_4 a0_5 a0_6 a0_7 l0_8) = some r := H
                    have A26 := Aside0.mk A260
                    clear A260
                    have H' := Aside0.mk H
                    clear H
                    have hcz27_0 : w24.cell? ⟨gb119, 0, none⟩ = some (.int .i64 a0_0) := (blk_cell BK119.out 0).trans rfl
                    have hcz27_1 : w24.cell? ⟨gb119, 1, none⟩ = some (.int .i64 a0_1) := (blk_cell BK119.out 1).trans rfl
                    have hcz27_2 : w24.cell? ⟨gb119, 2, none⟩ = some (.int .i64 a0_2) := (blk_cell BK119.out 2).trans rfl
                    have hcz27_3 : w24.cell? ⟨gb119, 3, none⟩ = some (.int .i64 a0_3) := (blk_cell BK119.out 3).trans rfl
                    have hcz27_4 : w24.cell? ⟨gb119, 4, none⟩ = some (.string a0_4) := (blk_cell BK119.out 4).trans rfl
                    have hcz27_5 : w24.cell? ⟨gb119, 5, none⟩ = some (.string a0_5) := (blk_cell BK119.out 5).trans rfl
                    have hcz27_6 : w24.cell? ⟨gb119, 6, none⟩ = some (.string a0_6) := (blk_cell BK119.out 6).trans rfl
                    have hcz27_7 : w24.cell? ⟨gb119, 7, none⟩ = some (.string a0_7) := (blk_cell BK119.out 7).trans rfl
                    have hcz27_8 : w24.cell? ⟨gb119, 8, none⟩ = some (.slice A0_8 l0_8.length c0_8) := (blk_cell BK119.out 8).trans rfl
                    have hfz27_0 := blk_frozen BK119.out 0
                    have hfz27_1 := blk_frozen BK119.out 1
                    have hfz27_2 := blk_frozen BK119.out 2
                    have hfz27_3 := blk_frozen BK119.out 3
                    have hfz27_4 := blk_frozen BK119.out 4
                    have hfz27_5 := blk_frozen BK119.out 5
                    have hfz27_6 := blk_frozen BK119.out 6
                    have hfz27_7 := blk_frozen BK119.out 7
                    have hfz27_8 := blk_frozen BK119.out 8
                    go_wp2_with (first | (go_at_call 23; (with_reducible refine (tendrilref02_Named.calls kj7 a0_4 false t124 _ ?side1 A26.out).mono ?_); (case side1 => first | exact HGL.out | exact (Go.Proofs.YtgdemingopcgaaaDoorX.GL.below HGL.out (by repeat (first | (with_reducible first | exact HB.out | apply below_alloc | apply pw_below_drewN | apply below_drew1 | refine below_set ?_ GE119.out) | exact HB.out))) | (repeat (first | exact HGL.out | (with_reducible refine Go.Proofs.YtgdemingopcgaaaDoorX.GL.drewN ?_ _) | (with_reducible refine Go.Proofs.YtgdemingopcgaaaDoorX.GL.drew ?_)))); rintro e w' ⟨rfl, ⟨nd, rfl⟩⟩))
                    go_meet
                    case rel => exact ⟨_, (!t124), (by first | rfl | (simp; done) | (simp [*]; done)), H', ⟨by have := HJ1.out; have := HJ7.out; first | omega | exact Nat.le_refl _⟩, ⟨by (with_reducible repeat (first | refine blk_drewN ?_ _ | refine blk_drew ?_ | refine blk_alloc ?_ _)); exact BK119.out⟩, ⟨by repeat (first | (with_reducible first | exact HB.out | apply below_alloc | apply pw_below_drewN | apply below_drew1 | refine below_set ?_ GE119.out) | exact HB.out)⟩⟩
                  · rw [if_neg c25] at H
                    have c25b0 : (a0_0 == 1) = false := beq_eq_false_iff_ne.mpr c25
                    have c25b1 : (a0_0 != 1) = true := bne_iff_ne.mpr c25
                    (first | rw [c25b0] | (simp only [i64_w, i32_w]; rw [c25b0]) | skip)
                    have H' := Aside0.mk H
                    clear H
                    have hcz28_0 : w24.cell? ⟨gb119, 0, none⟩ = some (.int .i64 a0_0) := (blk_cell BK119.out 0).trans rfl
                    have hcz28_1 : w24.cell? ⟨gb119, 1, none⟩ = some (.int .i64 a0_1) := (blk_cell BK119.out 1).trans rfl
                    have hcz28_2 : w24.cell? ⟨gb119, 2, none⟩ = some (.int .i64 a0_2) := (blk_cell BK119.out 2).trans rfl
                    have hcz28_3 : w24.cell? ⟨gb119, 3, none⟩ = some (.int .i64 a0_3) := (blk_cell BK119.out 3).trans rfl
                    have hcz28_4 : w24.cell? ⟨gb119, 4, none⟩ = some (.string a0_4) := (blk_cell BK119.out 4).trans rfl
                    have hcz28_5 : w24.cell? ⟨gb119, 5, none⟩ = some (.string a0_5) := (blk_cell BK119.out 5).trans rfl
                    have hcz28_6 : w24.cell? ⟨gb119, 6, none⟩ = some (.string a0_6) := (blk_cell BK119.out 6).trans rfl
                    have hcz28_7 : w24.cell? ⟨gb119, 7, none⟩ = some (.string a0_7) := (blk_cell BK119.out 7).trans rfl
                    have hcz28_8 : w24.cell? ⟨gb119, 8, none⟩ = some (.slice A0_8 l0_8.length c0_8) := (blk_cell BK119.out 8).trans rfl
                    have hfz28_0 := blk_frozen BK119.out 0
                    have hfz28_1 := blk_frozen BK119.out 1
                    have hfz28_2 := blk_frozen BK119.out 2
                    have hfz28_3 := blk_frozen BK119.out 3
                    have hfz28_4 := blk_frozen BK119.out 4
                    have hfz28_5 := blk_frozen BK119.out 5
                    have hfz28_6 := blk_frozen BK119.out 6
                    have hfz28_7 := blk_frozen BK119.out 7
                    have hfz28_8 := blk_frozen BK119.out 8
                    go_wp2
                    go_meet
                    case rel => exact ⟨_, (false), (by first | rfl | (simp; done) | (simp [*]; done)), H', ⟨by have := HJ1.out; have := HJ7.out; first | omega | exact Nat.le_refl _⟩, ⟨by (with_reducible repeat (first | refine blk_drewN ?_ _ | refine blk_drew ?_ | refine blk_alloc ?_ _)); exact BK119.out⟩, ⟨by repeat (first | (with_reducible first | exact HB.out | apply below_alloc | apply pw_below_drewN | apply below_drew1 | refine below_set ?_ GE119.out) | exact HB.out)⟩⟩
                case rest =>
                  clear HC22
                  try clear c1
                  try clear c2
                  try clear p2
                  try clear c4
                  try clear c4b0
                  try clear c7
                  try clear c9
                  try clear c10
                  try clear c13
                  try clear c17
                  try clear c19
                  try clear c21
                  try clear c22
                  try clear c25
                  try clear c25b0
                  try clear c25b1
                  try clear hcz11_0
                  try clear hcz11_1
                  try clear hcz11_2
                  try clear hcz11_3
                  try clear hcz11_4
                  try clear hcz11_5
                  try clear hcz11_6
                  try clear hcz11_7
                  try clear hcz11_8
                  try clear hcz14_0
                  try clear hcz14_1
                  try clear hcz14_2
                  try clear hcz14_3
                  try clear hcz14_4
                  try clear hcz14_5
                  try clear hcz14_6
                  try clear hcz14_7
                  try clear hcz14_8
                  try clear hcz16_0
                  try clear hcz16_1
                  try clear hcz16_2
                  try clear hcz16_3
                  try clear hcz16_4
                  try clear hcz16_5
                  try clear hcz16_6
                  try clear hcz16_7
                  try clear hcz16_8
                  try clear hcz20_0
                  try clear hcz20_1
                  try clear hcz20_2
                  try clear hcz20_3
                  try clear hcz20_4
                  try clear hcz20_5
                  try clear hcz20_6
                  try clear hcz20_7
                  try clear hcz20_8
                  try clear hcz23_0
                  try clear hcz23_1
                  try clear hcz23_2
                  try clear hcz23_3
                  try clear hcz23_4
                  try clear hcz23_5
                  try clear hcz23_6
                  try clear hcz23_7
                  try clear hcz23_8
                  try clear hcz27_0
                  try clear hcz27_1
                  try clear hcz27_2
                  try clear hcz27_3
                  try clear hcz27_4
                  try clear hcz27_5
                  try clear hcz27_6
                  try clear hcz27_7
                  try clear hcz27_8
                  try clear hcz28_0
                  try clear hcz28_1
                  try clear hcz28_2
                  try clear hcz28_3
                  try clear hcz28_4
                  try clear hcz28_5
                  try clear hcz28_6
                  try clear hcz28_7
                  try clear hcz28_8
                  try clear hcz5_0
                  try clear hcz5_1
                  try clear hcz5_2
                  try clear hcz5_3
                  try clear hcz5_4
                  try clear hcz5_5
                  try clear hcz5_6
                  try clear hcz5_7
                  try clear hcz5_8
                  try clear hcz6_0
                  try clear hcz6_1
                  try clear hcz6_2
                  try clear hcz6_3
                  try clear hcz6_4
                  try clear hcz6_5
                  try clear hcz6_6
                  try clear hcz6_7
                  try clear hcz6_8
                  try clear hfz11_0
                  try clear hfz11_1
                  try clear hfz11_2
                  try clear hfz11_3
                  try clear hfz11_4
                  try clear hfz11_5
                  try clear hfz11_6
                  try clear hfz11_7
                  try clear hfz11_8
                  try clear hfz14_0
                  try clear hfz14_1
                  try clear hfz14_2
                  try clear hfz14_3
                  try clear hfz14_4
                  try clear hfz14_5
                  try clear hfz14_6
                  try clear hfz14_7
                  try clear hfz14_8
                  try clear hfz16_0
                  try clear hfz16_1
                  try clear hfz16_2
                  try clear hfz16_3
                  try clear hfz16_4
                  try clear hfz16_5
                  try clear hfz16_6
                  try clear hfz16_7
                  try clear hfz16_8
                  try clear hfz20_0
                  try clear hfz20_1
                  try clear hfz20_2
                  try clear hfz20_3
                  try clear hfz20_4
                  try clear hfz20_5
                  try clear hfz20_6
                  try clear hfz20_7
                  try clear hfz20_8
                  try clear hfz23_0
                  try clear hfz23_1
                  try clear hfz23_2
                  try clear hfz23_3
                  try clear hfz23_4
                  try clear hfz23_5
                  try clear hfz23_6
                  try clear hfz23_7
                  try clear hfz23_8
                  try clear hfz27_0
                  try clear hfz27_1
                  try clear hfz27_2
                  try clear hfz27_3
                  try clear hfz27_4
                  try clear hfz27_5
                  try clear hfz27_6
                  try clear hfz27_7
                  try clear hfz27_8
                  try clear hfz28_0
                  try clear hfz28_1
                  try clear hfz28_2
                  try clear hfz28_3
                  try clear hfz28_4
                  try clear hfz28_5
                  try clear hfz28_6
                  try clear hfz28_7
                  try clear hfz28_8
                  try clear hfz5_0
                  try clear hfz5_1
                  try clear hfz5_2
                  try clear hfz5_3
                  try clear hfz5_4
                  try clear hfz5_5
                  try clear hfz5_6
                  try clear hfz5_7
                  try clear hfz5_8
                  try clear hfz6_0
                  try clear hfz6_1
                  try clear hfz6_2
                  try clear hfz6_3
                  try clear hfz6_4
                  try clear hfz6_5
                  try clear hfz6_6
                  try clear hfz6_7
                  try clear hfz6_8
                  try clear p2
                  obtain ⟨kq, x36_21, rfl, HA, HJ21, BK119, HB⟩ := hcut
                  cases kq with
                  | zero => exact absurd HA.out (by simp [tendrilref25_Check.j2])
                  | succ kj21 =>
                    have H := HA.out
                    clear HA
                    simp only [tendrilref25_Check.j2] at H
                    by_cases c29 : x36_21 = true
                    · subst c29
                      have H1 : (some 7) = some r := by rw [if_pos rfl] at H; exact H
                      clear H
                      have H := H1
                      clear H1
                      obtain rfl := Option.some.inj H
                      go_wp2
                      go_ret
                      exact ⟨by first | rfl | (simp [errW_none, errW_some] <;> first | rfl | exact emp_bne _ | exact (emp_bne _).symm | exact emp_bne' _ | exact (emp_bne' _).symm) | (simp [*, errW_none, errW_some] <;> rfl), by repeat (first | (with_reducible first | exact HB.out | apply below_alloc | apply pw_below_drewN | apply below_drew1 | refine below_set ?_ GE119.out) | exact HB.out)⟩
                    · replace c29 := Bool.eq_false_iff.mpr c29
                      subst c29
                      have H1 : (if a0_0 = 5 then ((tendrilref02_Named.f kj21 a0_6 true).bind fun t125 => (tendrilref25_Check.j3 kj21 (!t125) a0_0 a0_1 a0_2 a0_3 a0_4 a0_5 a0_6 a0_7 l0_8)) else (if a0_0 = 6 then ((tendrilref02_Named.f kj21 a0_6 true).bind fun t126 => (tendrilref25_Check.j3 kj21 (!t126) a0_0 a0_1 a0_2 a0_3 a0_4 a0_5 a0_6 a0_7 l0_8)) else (tendrilref25_Check.j3 kj21 false a0_0 a0_1 a0_2 a0_3 a0_4 a0_5 a0_6 a0_7 l0_8))) = some r := by rw [if_neg (show ¬ (false = true) by decide)] at H; exact H
                      clear H
                      have H := H1
                      clear H1
                      have HC30 := Aside0.mk H
                      clear H
                      go_upto_region 9 with (fail)
                      go_cut [50] (fun v50 wc => ∃ (kq : Nat) (x50_29 : Bool), v50 = .bool x50_29 ∧ Aside0 (tendrilref25_Check.j3 kq x50_29 a0_0 a0_1 a0_2 a0_3 a0_4 a0_5 a0_6 a0_7 l0_8 = some r) ∧ Aside0 (kq ≤ kj21) ∧ Aside0 (wc.heap[gb119]? = some (.cells #[.int .i64 a0_0, .int .i64 a0_1, .int .i64 a0_2, .int .i64 a0_3, .string a0_4, .string a0_5, .string a0_6, .string a0_7, (.slice A0_8 l0_8.length c0_8)] 24 (0, 0))) ∧ Aside0 (Below w.heap.size w wc))
                      case first =>
                        have H := HC30.out
                        clear HC30
                        by_cases c31 : a0_0 = 5
                        · rw [if_pos c31] at H
                          have c31b0 : (a0_0 == 5) = true := beq_iff_eq.mpr c31
                          have c31b1 : (a0_0 != 5) = false := bne_eq_false_iff_eq.mpr c31
                          clear c31
                          (first | rw [c31b0] | (simp only [i64_w, i32_w]; rw [c31b0]) | skip)
                          replace H := Option.bind_eq_some_iff.mp H
                          obtain ⟨t125, A320, H⟩ := H
                          replace H : (tendrilref25_Check.j3 kj21 (!t125) a0_0 a0_1 a0_2 a0_3 a0_4 a0_5 a0_6 a0_7 l0_8) = some r := H
                          have A32 := Aside0.mk A320
                          clear A320
                          have H' := Aside0.mk H
                          clear H
                          have hcz33_0 : wc.cell? ⟨gb119, 0, none⟩ = some (.int .i64 a0_0) := (blk_cell BK119.out 0).trans rfl
                          have hcz33_1 : wc.cell? ⟨gb119, 1, none⟩ = some (.int .i64 a0_1) := (blk_cell BK119.out 1).trans rfl
                          have hcz33_2 : wc.cell? ⟨gb119, 2, none⟩ = some (.int .i64 a0_2) := (blk_cell BK119.out 2).trans rfl
                          have hcz33_3 : wc.cell? ⟨gb119, 3, none⟩ = some (.int .i64 a0_3) := (blk_cell BK119.out 3).trans rfl
                          have hcz33_4 : wc.cell? ⟨gb119, 4, none⟩ = some (.string a0_4) := (blk_cell BK119.out 4).trans rfl
                          have hcz33_5 : wc.cell? ⟨gb119, 5, none⟩ = some (.string a0_5) := (blk_cell BK119.out 5).trans rfl
                          have hcz33_6 : wc.cell? ⟨gb119, 6, none⟩ = some (.string a0_6) := (blk_cell BK119.out 6).trans rfl
                          have hcz33_7 : wc.cell? ⟨gb119, 7, none⟩ = some (.string a0_7) := (blk_cell BK119.out 7).trans rfl
                          have hcz33_8 : wc.cell? ⟨gb119, 8, none⟩ = some (.slice A0_8 l0_8.length c0_8) := (blk_cell BK119.out 8).trans rfl
                          have hfz33_0 := blk_frozen BK119.out 0
                          have hfz33_1 := blk_frozen BK119.out 1
                          have hfz33_2 := blk_frozen BK119.out 2
                          have hfz33_3 := blk_frozen BK119.out 3
                          have hfz33_4 := blk_frozen BK119.out 4
                          have hfz33_5 := blk_frozen BK119.out 5
                          have hfz33_6 := blk_frozen BK119.out 6
                          have hfz33_7 := blk_frozen BK119.out 7
                          have hfz33_8 := blk_frozen BK119.out 8
                          go_wp2_with (first | (go_at_call 23; (with_reducible refine (tendrilref02_Named.calls kj21 a0_6 true t125 _ ?side1 A32.out).mono ?_); (case side1 => first | exact HGL.out | exact (Go.Proofs.YtgdemingopcgaaaDoorX.GL.below HGL.out (by repeat (first | (with_reducible first | exact HB.out | apply below_alloc | apply pw_below_drewN | apply below_drew1 | refine below_set ?_ GE119.out) | exact HB.out))) | (repeat (first | exact HGL.out | (with_reducible refine Go.Proofs.YtgdemingopcgaaaDoorX.GL.drewN ?_ _) | (with_reducible refine Go.Proofs.YtgdemingopcgaaaDoorX.GL.drew ?_)))); rintro e w' ⟨rfl, ⟨nd, rfl⟩⟩))
                          go_meet
                          case rel => exact ⟨_, (!t125), (by first | rfl | (simp; done) | (simp [*]; done)), H', ⟨by have := HJ1.out; have := HJ7.out; have := HJ21.out; first | omega | exact Nat.le_refl _⟩, ⟨by (with_reducible repeat (first | refine blk_drewN ?_ _ | refine blk_drew ?_ | refine blk_alloc ?_ _)); exact BK119.out⟩, ⟨by repeat (first | (with_reducible first | exact HB.out | apply below_alloc | apply pw_below_drewN | apply below_drew1 | refine below_set ?_ GE119.out) | exact HB.out)⟩⟩
                        · rw [if_neg c31] at H
                          have c31b0 : (a0_0 == 5) = false := beq_eq_false_iff_ne.mpr c31
                          have c31b1 : (a0_0 != 5) = true := bne_iff_ne.mpr c31
                          (first | rw [c31b0] | (simp only [i64_w, i32_w]; rw [c31b0]) | skip)
                          by_cases c34 : a0_0 = 6
                          · rw [if_pos c34] at H
                            have c34b0 : (a0_0 == 6) = true := beq_iff_eq.mpr c34
                            have c34b1 : (a0_0 != 6) = false := bne_eq_false_iff_eq.mpr c34
                            clear c34
                            replace H := Option.bind_eq_some_iff.mp H
                            obtain ⟨t126, A350, H⟩ := H
                            replace H : (tendrilref25_Check.j3 kj21 (!t126) a0_0 a0_1 a0_2 a0_3 a0_4 a0_5 a0_6 a0_7 l0_8) = some r := H
                            have A35 := Aside0.mk A350
                            clear A350
                            have H' := Aside0.mk H
                            clear H
                            have hcz36_0 : wc.cell? ⟨gb119, 0, none⟩ = some (.int .i64 a0_0) := (blk_cell BK119.out 0).trans rfl
                            have hcz36_1 : wc.cell? ⟨gb119, 1, none⟩ = some (.int .i64 a0_1) := (blk_cell BK119.out 1).trans rfl
                            have hcz36_2 : wc.cell? ⟨gb119, 2, none⟩ = some (.int .i64 a0_2) := (blk_cell BK119.out 2).trans rfl
                            have hcz36_3 : wc.cell? ⟨gb119, 3, none⟩ = some (.int .i64 a0_3) := (blk_cell BK119.out 3).trans rfl
                            have hcz36_4 : wc.cell? ⟨gb119, 4, none⟩ = some (.string a0_4) := (blk_cell BK119.out 4).trans rfl
                            have hcz36_5 : wc.cell? ⟨gb119, 5, none⟩ = some (.string a0_5) := (blk_cell BK119.out 5).trans rfl
                            have hcz36_6 : wc.cell? ⟨gb119, 6, none⟩ = some (.string a0_6) := (blk_cell BK119.out 6).trans rfl
                            have hcz36_7 : wc.cell? ⟨gb119, 7, none⟩ = some (.string a0_7) := (blk_cell BK119.out 7).trans rfl
                            have hcz36_8 : wc.cell? ⟨gb119, 8, none⟩ = some (.slice A0_8 l0_8.length c0_8) := (blk_cell BK119.out 8).trans rfl
                            have hfz36_0 := blk_frozen BK119.out 0
                            have hfz36_1 := blk_frozen BK119.out 1
                            have hfz36_2 := blk_frozen BK119.out 2
                            have hfz36_3 := blk_frozen BK119.out 3
                            have hfz36_4 := blk_frozen BK119.out 4
                            have hfz36_5 := blk_frozen BK119.out 5
                            have hfz36_6 := blk_frozen BK119.out 6
                            have hfz36_7 := blk_frozen BK119.out 7
                            have hfz36_8 := blk_frozen BK119.out 8
                            go_wp2_with (first | (go_at_call 23; (with_reducible refine (tendrilref02_Named.calls kj21 a0_6 true t126 _ ?side1 A35.out).mono ?_); (case side1 => first | exact HGL.out | exact (Go.Proofs.YtgdemingopcgaaaDoorX.GL.below HGL.out (by repeat (first | (with_reducible first | exact HB.out | apply below_alloc | apply pw_below_drewN | apply below_drew1 | refine below_set ?_ GE119.out) | exact HB.out))) | (repeat (first | exact HGL.out | (with_reducible refine Go.Proofs.YtgdemingopcgaaaDoorX.GL.drewN ?_ _) | (with_reducible refine Go.Proofs.YtgdemingopcgaaaDoorX.GL.drew ?_)))); rintro e w' ⟨rfl, ⟨nd, rfl⟩⟩))
                            go_meet
                            case rel => exact ⟨_, (!t126), (by first | rfl | (simp; done) | (simp [*]; done)), H', ⟨by have := HJ1.out; have := HJ7.out; have := HJ21.out; first | omega | exact Nat.le_refl _⟩, ⟨by (with_reducible repeat (first | refine blk_drewN ?_ _ | refine blk_drew ?_ | refine blk_alloc ?_ _)); exact BK119.out⟩, ⟨by repeat (first | (with_reducible first | exact HB.out | apply below_alloc | apply pw_below_drewN | apply below_drew1 | refine below_set ?_ GE119.out) | exact HB.out)⟩⟩
                          · rw [if_neg c34] at H
                            have c34b0 : (a0_0 == 6) = false := beq_eq_false_iff_ne.mpr c34
                            have c34b1 : (a0_0 != 6) = true := bne_iff_ne.mpr c34
                            have H' := Aside0.mk H
                            clear H
                            have hcz37_0 : wc.cell? ⟨gb119, 0, none⟩ = some (.int .i64 a0_0) := (blk_cell BK119.out 0).trans rfl
                            have hcz37_1 : wc.cell? ⟨gb119, 1, none⟩ = some (.int .i64 a0_1) := (blk_cell BK119.out 1).trans rfl
                            have hcz37_2 : wc.cell? ⟨gb119, 2, none⟩ = some (.int .i64 a0_2) := (blk_cell BK119.out 2).trans rfl
                            have hcz37_3 : wc.cell? ⟨gb119, 3, none⟩ = some (.int .i64 a0_3) := (blk_cell BK119.out 3).trans rfl
                            have hcz37_4 : wc.cell? ⟨gb119, 4, none⟩ = some (.string a0_4) := (blk_cell BK119.out 4).trans rfl
                            have hcz37_5 : wc.cell? ⟨gb119, 5, none⟩ = some (.string a0_5) := (blk_cell BK119.out 5).trans rfl
                            have hcz37_6 : wc.cell? ⟨gb119, 6, none⟩ = some (.string a0_6) := (blk_cell BK119.out 6).trans rfl
                            have hcz37_7 : wc.cell? ⟨gb119, 7, none⟩ = some (.string a0_7) := (blk_cell BK119.out 7).trans rfl
                            have hcz37_8 : wc.cell? ⟨gb119, 8, none⟩ = some (.slice A0_8 l0_8.length c0_8) := (blk_cell BK119.out 8).trans rfl
                            have hfz37_0 := blk_frozen BK119.out 0
                            have hfz37_1 := blk_frozen BK119.out 1
                            have hfz37_2 := blk_frozen BK119.out 2
                            have hfz37_3 := blk_frozen BK119.out 3
                            have hfz37_4 := blk_frozen BK119.out 4
                            have hfz37_5 := blk_frozen BK119.out 5
                            have hfz37_6 := blk_frozen BK119.out 6
                            have hfz37_7 := blk_frozen BK119.out 7
                            have hfz37_8 := blk_frozen BK119.out 8
                            go_wp2
                            go_meet
                            case rel => exact ⟨_, (false), (by first | rfl | (simp; done) | (simp [*]; done)), H', ⟨by have := HJ1.out; have := HJ7.out; have := HJ21.out; first | omega | exact Nat.le_refl _⟩, ⟨by (with_reducible repeat (first | refine blk_drewN ?_ _ | refine blk_drew ?_ | refine blk_alloc ?_ _)); exact BK119.out⟩, ⟨by repeat (first | (with_reducible first | exact HB.out | apply below_alloc | apply pw_below_drewN | apply below_drew1 | refine below_set ?_ GE119.out) | exact HB.out)⟩⟩
                      case rest =>
                        clear HC30
                        try clear c1
                        try clear c2
                        try clear p2
                        try clear c3
                        try clear c4
                        try clear c4b0
                        try clear c7
                        try clear c9
                        try clear c10
                        try clear c13
                        try clear c17
                        try clear c19
                        try clear c21
                        try clear c22
                        try clear c25
                        try clear c25b0
                        try clear c25b1
                        try clear c29
                        try clear c31
                        try clear c31b0
                        try clear c31b1
                        try clear c34
                        try clear c34b0
                        try clear c34b1
                        try clear hcz11_0
                        try clear hcz11_1
                        try clear hcz11_2
                        try clear hcz11_3
                        try clear hcz11_4
                        try clear hcz11_5
                        try clear hcz11_6
                        try clear hcz11_7
                        try clear hcz11_8
                        try clear hcz14_0
                        try clear hcz14_1
                        try clear hcz14_2
                        try clear hcz14_3
                        try clear hcz14_4
                        try clear hcz14_5
                        try clear hcz14_6
                        try clear hcz14_7
                        try clear hcz14_8
                        try clear hcz16_0
                        try clear hcz16_1
                        try clear hcz16_2
                        try clear hcz16_3
                        try clear hcz16_4
                        try clear hcz16_5
                        try clear hcz16_6
                        try clear hcz16_7
                        try clear hcz16_8
                        try clear hcz20_0
                        try clear hcz20_1
                        try clear hcz20_2
                        try clear hcz20_3
                        try clear hcz20_4
                        try clear hcz20_5
                        try clear hcz20_6
                        try clear hcz20_7
                        try clear hcz20_8
                        try clear hcz23_0
                        try clear hcz23_1
                        try clear hcz23_2
                        try clear hcz23_3
                        try clear hcz23_4
                        try clear hcz23_5
                        try clear hcz23_6
                        try clear hcz23_7
                        try clear hcz23_8
                        try clear hcz27_0
                        try clear hcz27_1
                        try clear hcz27_2
                        try clear hcz27_3
                        try clear hcz27_4
                        try clear hcz27_5
                        try clear hcz27_6
                        try clear hcz27_7
                        try clear hcz27_8
                        try clear hcz28_0
                        try clear hcz28_1
                        try clear hcz28_2
                        try clear hcz28_3
                        try clear hcz28_4
                        try clear hcz28_5
                        try clear hcz28_6
                        try clear hcz28_7
                        try clear hcz28_8
                        try clear hcz33_0
                        try clear hcz33_1
                        try clear hcz33_2
                        try clear hcz33_3
                        try clear hcz33_4
                        try clear hcz33_5
                        try clear hcz33_6
                        try clear hcz33_7
                        try clear hcz33_8
                        try clear hcz36_0
                        try clear hcz36_1
                        try clear hcz36_2
                        try clear hcz36_3
                        try clear hcz36_4
                        try clear hcz36_5
                        try clear hcz36_6
                        try clear hcz36_7
                        try clear hcz36_8
                        try clear hcz37_0
                        try clear hcz37_1
                        try clear hcz37_2
                        try clear hcz37_3
                        try clear hcz37_4
                        try clear hcz37_5
                        try clear hcz37_6
                        try clear hcz37_7
                        try clear hcz37_8
                        try clear hcz5_0
                        try clear hcz5_1
                        try clear hcz5_2
                        try clear hcz5_3
                        try clear hcz5_4
                        try clear hcz5_5
                        try clear hcz5_6
                        try clear hcz5_7
                        try clear hcz5_8
                        try clear hcz6_0
                        try clear hcz6_1
                        try clear hcz6_2
                        try clear hcz6_3
                        try clear hcz6_4
                        try clear hcz6_5
                        try clear hcz6_6
                        try clear hcz6_7
                        try clear hcz6_8
                        try clear hfz11_0
                        try clear hfz11_1
                        try clear hfz11_2
                        try clear hfz11_3
                        try clear hfz11_4
                        try clear hfz11_5
                        try clear hfz11_6
                        try clear hfz11_7
                        try clear hfz11_8
                        try clear hfz14_0
                        try clear hfz14_1
                        try clear hfz14_2
                        try clear hfz14_3
                        try clear hfz14_4
                        try clear hfz14_5
                        try clear hfz14_6
                        try clear hfz14_7
                        try clear hfz14_8
                        try clear hfz16_0
                        try clear hfz16_1
                        try clear hfz16_2
                        try clear hfz16_3
                        try clear hfz16_4
                        try clear hfz16_5
                        try clear hfz16_6
                        try clear hfz16_7
                        try clear hfz16_8
                        try clear hfz20_0
                        try clear hfz20_1
                        try clear hfz20_2
                        try clear hfz20_3
                        try clear hfz20_4
                        try clear hfz20_5
                        try clear hfz20_6
                        try clear hfz20_7
                        try clear hfz20_8
                        try clear hfz23_0
                        try clear hfz23_1
                        try clear hfz23_2
                        try clear hfz23_3
                        try clear hfz23_4
                        try clear hfz23_5
                        try clear hfz23_6
                        try clear hfz23_7
                        try clear hfz23_8
                        try clear hfz27_0
                        try clear hfz27_1
                        try clear hfz27_2
                        try clear hfz27_3
                        try clear hfz27_4
                        try clear hfz27_5
                        try clear hfz27_6
                        try clear hfz27_7
                        try clear hfz27_8
                        try clear hfz28_0
                        try clear hfz28_1
                        try clear hfz28_2
                        try clear hfz28_3
                        try clear hfz28_4
                        try clear hfz28_5
                        try clear hfz28_6
                        try clear hfz28_7
                        try clear hfz28_8
                        try clear hfz33_0
                        try clear hfz33_1
                        try clear hfz33_2
                        try clear hfz33_3
                        try clear hfz33_4
                        try clear hfz33_5
                        try clear hfz33_6
                        try clear hfz33_7
                        try clear hfz33_8
                        try clear hfz36_0
                        try clear hfz36_1
                        try clear hfz36_2
                        try clear hfz36_3
                        try clear hfz36_4
                        try clear hfz36_5
                        try clear hfz36_6
                        try clear hfz36_7
                        try clear hfz36_8
                        try clear hfz37_0
                        try clear hfz37_1
                        try clear hfz37_2
                        try clear hfz37_3
                        try clear hfz37_4
                        try clear hfz37_5
                        try clear hfz37_6
                        try clear hfz37_7
                        try clear hfz37_8
                        try clear hfz5_0
                        try clear hfz5_1
                        try clear hfz5_2
                        try clear hfz5_3
                        try clear hfz5_4
                        try clear hfz5_5
                        try clear hfz5_6
                        try clear hfz5_7
                        try clear hfz5_8
                        try clear hfz6_0
                        try clear hfz6_1
                        try clear hfz6_2
                        try clear hfz6_3
                        try clear hfz6_4
                        try clear hfz6_5
                        try clear hfz6_6
                        try clear hfz6_7
                        try clear hfz6_8
                        try clear p2
                        obtain ⟨kq, x50_29, rfl, HA, HJ29, BK119, HB⟩ := hcut
                        cases kq with
                        | zero => exact absurd HA.out (by simp [tendrilref25_Check.j3])
                        | succ kj29 =>
                          have H := HA.out
                          clear HA
                          simp only [tendrilref25_Check.j3] at H
                          by_cases c38 : x50_29 = true
                          · subst c38
                            have H1 : (some 8) = some r := by rw [if_pos rfl] at H; exact H
                            clear H
                            have H := H1
                            clear H1
                            obtain rfl := Option.some.inj H
                            go_wp2
                            go_ret
                            exact ⟨by first | rfl | (simp [errW_none, errW_some] <;> first | rfl | exact emp_bne _ | exact (emp_bne _).symm | exact emp_bne' _ | exact (emp_bne' _).symm) | (simp [*, errW_none, errW_some] <;> rfl), by repeat (first | (with_reducible first | exact HB.out | apply below_alloc | apply pw_below_drewN | apply below_drew1 | refine below_set ?_ GE119.out) | exact HB.out)⟩
                          · replace c38 := Bool.eq_false_iff.mpr c38
                            subst c38
                            have H1 : (if (a0_5.size : Int) > 65536 then (some 3) else (if (a0_7.size : Int) > 65536 then (some 3) else ((tendrilref09_Check.f kj29 l0_8).bind fun bt127 => (some bt127.2)))) = some r := by rw [if_neg (show ¬ (false = true) by decide)] at H; exact H
                            clear H
                            have H := H1
                            clear H1
                            by_cases c39 : (a0_5.size : Int) > 65536
                            · rw [if_pos c39] at H
                              have c39b0 : decide (65536 < (a0_5.size : Int)) = true := decide_eq_true c39
                              have c39b1 : decide (65536 < a0_5.size) = true := decide_eq_true (by omega)
                              clear c39
                              obtain rfl := Option.some.inj H
                              have hcz40_0 : wc.cell? ⟨gb119, 0, none⟩ = some (.int .i64 a0_0) := (blk_cell BK119.out 0).trans rfl
                              have hcz40_1 : wc.cell? ⟨gb119, 1, none⟩ = some (.int .i64 a0_1) := (blk_cell BK119.out 1).trans rfl
                              have hcz40_2 : wc.cell? ⟨gb119, 2, none⟩ = some (.int .i64 a0_2) := (blk_cell BK119.out 2).trans rfl
                              have hcz40_3 : wc.cell? ⟨gb119, 3, none⟩ = some (.int .i64 a0_3) := (blk_cell BK119.out 3).trans rfl
                              have hcz40_4 : wc.cell? ⟨gb119, 4, none⟩ = some (.string a0_4) := (blk_cell BK119.out 4).trans rfl
                              have hcz40_5 : wc.cell? ⟨gb119, 5, none⟩ = some (.string a0_5) := (blk_cell BK119.out 5).trans rfl
                              have hcz40_6 : wc.cell? ⟨gb119, 6, none⟩ = some (.string a0_6) := (blk_cell BK119.out 6).trans rfl
                              have hcz40_7 : wc.cell? ⟨gb119, 7, none⟩ = some (.string a0_7) := (blk_cell BK119.out 7).trans rfl
                              have hcz40_8 : wc.cell? ⟨gb119, 8, none⟩ = some (.slice A0_8 l0_8.length c0_8) := (blk_cell BK119.out 8).trans rfl
                              have hfz40_0 := blk_frozen BK119.out 0
                              have hfz40_1 := blk_frozen BK119.out 1
                              have hfz40_2 := blk_frozen BK119.out 2
                              have hfz40_3 := blk_frozen BK119.out 3
                              have hfz40_4 := blk_frozen BK119.out 4
                              have hfz40_5 := blk_frozen BK119.out 5
                              have hfz40_6 := blk_frozen BK119.out 6
                              have hfz40_7 := blk_frozen BK119.out 7
                              have hfz40_8 := blk_frozen BK119.out 8
                              go_wp2
                              go_ret
                              exact ⟨by first | rfl | (simp [errW_none, errW_some] <;> first | rfl | exact emp_bne _ | exact (emp_bne _).symm | exact emp_bne' _ | exact (emp_bne' _).symm) | (simp [*, errW_none, errW_some] <;> rfl), by repeat (first | (with_reducible first | exact HB.out | apply below_alloc | apply pw_below_drewN | apply below_drew1 | refine below_set ?_ GE119.out) | exact HB.out)⟩
                            · rw [if_neg c39] at H
                              have c39b0 : decide (65536 < (a0_5.size : Int)) = false := decide_eq_false c39
                              have c39b1 : decide (65536 < a0_5.size) = false := decide_eq_false (by omega)
                              clear c39
                              by_cases c41 : (a0_7.size : Int) > 65536
                              · rw [if_pos c41] at H
                                have c41b0 : decide (65536 < (a0_7.size : Int)) = true := decide_eq_true c41
                                have c41b1 : decide (65536 < a0_7.size) = true := decide_eq_true (by omega)
                                clear c41
                                obtain rfl := Option.some.inj H
                                have hcz42_0 : wc.cell? ⟨gb119, 0, none⟩ = some (.int .i64 a0_0) := (blk_cell BK119.out 0).trans rfl
                                have hcz42_1 : wc.cell? ⟨gb119, 1, none⟩ = some (.int .i64 a0_1) := (blk_cell BK119.out 1).trans rfl
                                have hcz42_2 : wc.cell? ⟨gb119, 2, none⟩ = some (.int .i64 a0_2) := (blk_cell BK119.out 2).trans rfl
                                have hcz42_3 : wc.cell? ⟨gb119, 3, none⟩ = some (.int .i64 a0_3) := (blk_cell BK119.out 3).trans rfl
                                have hcz42_4 : wc.cell? ⟨gb119, 4, none⟩ = some (.string a0_4) := (blk_cell BK119.out 4).trans rfl
                                have hcz42_5 : wc.cell? ⟨gb119, 5, none⟩ = some (.string a0_5) := (blk_cell BK119.out 5).trans rfl
                                have hcz42_6 : wc.cell? ⟨gb119, 6, none⟩ = some (.string a0_6) := (blk_cell BK119.out 6).trans rfl
                                have hcz42_7 : wc.cell? ⟨gb119, 7, none⟩ = some (.string a0_7) := (blk_cell BK119.out 7).trans rfl
                                have hcz42_8 : wc.cell? ⟨gb119, 8, none⟩ = some (.slice A0_8 l0_8.length c0_8) := (blk_cell BK119.out 8).trans rfl
                                have hfz42_0 := blk_frozen BK119.out 0
                                have hfz42_1 := blk_frozen BK119.out 1
                                have hfz42_2 := blk_frozen BK119.out 2
                                have hfz42_3 := blk_frozen BK119.out 3
                                have hfz42_4 := blk_frozen BK119.out 4
                                have hfz42_5 := blk_frozen BK119.out 5
                                have hfz42_6 := blk_frozen BK119.out 6
                                have hfz42_7 := blk_frozen BK119.out 7
                                have hfz42_8 := blk_frozen BK119.out 8
                                go_wp2
                                go_ret
                                exact ⟨by first | rfl | (simp [errW_none, errW_some] <;> first | rfl | exact emp_bne _ | exact (emp_bne _).symm | exact emp_bne' _ | exact (emp_bne' _).symm) | (simp [*, errW_none, errW_some] <;> rfl), by repeat (first | (with_reducible first | exact HB.out | apply below_alloc | apply pw_below_drewN | apply below_drew1 | refine below_set ?_ GE119.out) | exact HB.out)⟩
                              · rw [if_neg c41] at H
                                have c41b0 : decide (65536 < (a0_7.size : Int)) = false := decide_eq_false c41
                                have c41b1 : decide (65536 < a0_7.size) = false := decide_eq_false (by omega)
                                clear c41
                                replace H := Option.bind_eq_some_iff.mp H
                                obtain ⟨⟨t127, t128⟩, A430, H⟩ := H
                                replace H : (some t128) = some r := H
                                have A43 := Aside0.mk A430
                                clear A430
                                obtain rfl := Option.some.inj H
                                have hcz44_0 : wc.cell? ⟨gb119, 0, none⟩ = some (.int .i64 a0_0) := (blk_cell BK119.out 0).trans rfl
                                have hcz44_1 : wc.cell? ⟨gb119, 1, none⟩ = some (.int .i64 a0_1) := (blk_cell BK119.out 1).trans rfl
                                have hcz44_2 : wc.cell? ⟨gb119, 2, none⟩ = some (.int .i64 a0_2) := (blk_cell BK119.out 2).trans rfl
                                have hcz44_3 : wc.cell? ⟨gb119, 3, none⟩ = some (.int .i64 a0_3) := (blk_cell BK119.out 3).trans rfl
                                have hcz44_4 : wc.cell? ⟨gb119, 4, none⟩ = some (.string a0_4) := (blk_cell BK119.out 4).trans rfl
                                have hcz44_5 : wc.cell? ⟨gb119, 5, none⟩ = some (.string a0_5) := (blk_cell BK119.out 5).trans rfl
                                have hcz44_6 : wc.cell? ⟨gb119, 6, none⟩ = some (.string a0_6) := (blk_cell BK119.out 6).trans rfl
                                have hcz44_7 : wc.cell? ⟨gb119, 7, none⟩ = some (.string a0_7) := (blk_cell BK119.out 7).trans rfl
                                have hcz44_8 : wc.cell? ⟨gb119, 8, none⟩ = some (.slice A0_8 l0_8.length c0_8) := (blk_cell BK119.out 8).trans rfl
                                have hfz44_0 := blk_frozen BK119.out 0
                                have hfz44_1 := blk_frozen BK119.out 1
                                have hfz44_2 := blk_frozen BK119.out 2
                                have hfz44_3 := blk_frozen BK119.out 3
                                have hfz44_4 := blk_frozen BK119.out 4
                                have hfz44_5 := blk_frozen BK119.out 5
                                have hfz44_6 := blk_frozen BK119.out 6
                                have hfz44_7 := blk_frozen BK119.out 7
                                have hfz44_8 := blk_frozen BK119.out 8
                                go_wp2_with (first | ((with_reducible refine gate_callee (f := 24) rfl ?_); refine goesL_ (some 64) rfl rfl Tryd.func24 (by kernel_rfl) rfl #[.slice A0_8 l0_8.length c0_8] rfl (by (try simp only [List.map_toArray, List.map_cons, List.map_nil]); first | done | rfl | (simp only [List.length_drop, List.length_take]; rfl)) ?_; (with_reducible refine (tendrilref09_Check.calls kj29 _ _ l0_8 t127 t128 _ ?side1 ?side2 ?side3 A43.out).mono ?_); (case side1 => first | exact HGL.out | exact (Go.Proofs.YtgdemingopcgaaaDoorX.GL.below HGL.out (by repeat (first | (with_reducible first | exact HB.out | apply below_alloc | apply pw_below_drewN | apply below_drew1 | refine below_set ?_ GE119.out) | exact HB.out))) | (repeat (first | exact HGL.out | (with_reducible refine Go.Proofs.YtgdemingopcgaaaDoorX.GL.drewN ?_ _) | (with_reducible refine Go.Proofs.YtgdemingopcgaaaDoorX.GL.drew ?_)))); (case side2 => repeat (first | exact (Kd.C_below HR0_8.out HB.out) | (with_reducible refine Kd.C_alloc ?_ _) | (with_reducible refine Kd.C_drewN ?_ _) | (with_reducible refine Kd.C_drew ?_))); (case side3 => exact HC0_8.out); rintro e w' ⟨rfl, ⟨nd, rfl⟩⟩; refine ⟨_, rfl, ?_⟩))
                                go_ret
                                exact ⟨by first | rfl | (simp [errW_none, errW_some] <;> first | rfl | exact emp_bne _ | exact (emp_bne _).symm | exact emp_bne' _ | exact (emp_bne' _).symm) | (simp [*, errW_none, errW_some] <;> rfl), by repeat (first | (with_reducible first | exact HB.out | apply below_alloc | apply pw_below_drewN | apply below_drew1 | refine below_set ?_ GE119.out) | exact HB.out)⟩

end Go.Proofs.YtgdemingopcgaaaDoor.P26
