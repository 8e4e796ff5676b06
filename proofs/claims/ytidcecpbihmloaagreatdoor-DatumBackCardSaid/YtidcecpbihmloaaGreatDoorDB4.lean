/- Merged by this claim's own program (merge.py) out of the texts K02e, K03, K04, D00, D01, D02, D03, D04, D05, ED1, ED2, D06, D07, EDH3, ED3, ED4, ED5, EDR1, ED6, ED7, ED8, K06, EDS1, EDS0, K05, EDS2, EDS3, EDR2, EDW1, EDH4, EDH5, EDS3b, EDS5, EDS6, EDP1, EDS8, EDW2, EDW3, EDG1; the W texts among them began as the kit's print. -/
import Derived.Test.YtidcecpbihmloaaGreatDoorDB3
import Derived.Lib.ItoaLen
import Derived.Deep.QuietTactic
import Derived.BigQuiet
import Derived.Deep.RegionHeld3

namespace Go.Proofs.YtidcecpbihmloaaGreatDoor.M02
open Go Go.RowKit Go.Proofs.YtidcecpbihmloaaGreatDoor.P16 Go.Proofs.YtidcecpbihmloaaGreatDoorE Go.Proofs.YtidcecpbihmloaaGreatDoorW.PrintWords Go.Proofs.YtidcecpbihmloaaGreatDoorW.PrintLast Go.Proofs.YtidcecpbihmloaaGreatDoorW.PrintMore

def mkS (l : List UInt8) : ByteArray := ⟨l.toArray⟩
theorem B_mkS (l : List UInt8) : B (mkS l) = l := by simp [B, mkS]
theorem B_append (s t : ByteArray) : B (s ++ t) = B s ++ B t := by simp [B, ByteArray.data_append]
theorem dd_lt {m : Nat} (h : m < 10) : Lib.decDigits m = [UInt8.ofNat (48 + m)] := by rw [Lib.decDigits, dif_pos h]
theorem dd_ge {m : Nat} (h : 10 ≤ m) : Lib.decDigits m = Lib.decDigits (m / 10) ++ [UInt8.ofNat (48 + m % 10)] := by rw [Lib.decDigits, dif_neg (by omega)]
theorem dig_nat {d : Nat} (h : d < 10) : (UInt8.ofNat (48 + d)).toNat = 48 + d := by simp; omega
theorem dd_digit : ∀ (m : Nat), ∀ c ∈ Lib.decDigits m, 48 ≤ c.toNat ∧ c.toNat ≤ 57 := by
 intro m
 induction m using Nat.strongRecOn with
 | _ m ih =>
  intro c hc
  by_cases h : m < 10
  ·rw [dd_lt h, List.mem_singleton] at hc
   rw [hc, dig_nat h]; omega
  ·rw [dd_ge (by omega)] at hc
   rcases List.mem_append.1 hc with h1 | h1
   ·exact ih (m / 10) (by omega) c h1
   ·rw [List.mem_singleton] at h1
    rw [h1, dig_nat (by omega)]; omega
theorem dd_ne (m : Nat) : Lib.decDigits m ≠ [] := by
 by_cases h : m < 10
 ·rw [dd_lt h]; simp
 ·rw [dd_ge (by omega)]; simp
theorem parse_dd (m : Nat) : ∀ (rest : List UInt8), m < 18446744073709551616 → Lib.parseUint10 0 (Lib.decDigits m ++ rest) = Lib.parseUint10 m rest := by
 induction m using Nat.strongRecOn with
 | _ m ih =>
  intro rest hm
  by_cases h : m < 10
  ·rw [dd_lt h, List.singleton_append]
   simp only [Lib.parseUint10, dig_nat h]
   rw [if_pos (by omega), if_neg (by omega), if_neg (by omega)]
   congr 1; omega
  ·rw [dd_ge (by omega), List.append_assoc, ih (m / 10) (by omega) _ (by omega), List.singleton_append]
   simp only [Lib.parseUint10, dig_nat (show m % 10 < 10 by omega)]
   rw [if_pos (by omega), if_neg (by omega), if_neg (by omega)]
   congr 1; omega
theorem atoi_itoa {n : Int} (h0 : -9223372036854775808 ≤ n) (h1 : n ≤ 9223372036854775807) : Lib.atoiAll (Lib.itoa n) = .ok n := by
 have pm : ∀ m : Nat, m < 18446744073709551616 → Lib.parseMag (Lib.decDigits m) = .ok m := by
  intro m hm
  unfold Lib.parseMag
  rw [if_neg (dd_ne m)]
  have := parse_dd m [] hm
  rw [List.append_nil] at this
  rw [this]; rfl
 unfold Lib.itoa
 by_cases hn : n < 0
 ·rw [if_pos hn]
  unfold Lib.atoiAll
  simp only
  rw [if_pos (by decide), pm n.natAbs (by omega)]
  simp only
  have h45 : (45 : UInt8).toNat = 45 := rfl
  rw [if_neg (by rw [h45]; simp), if_neg (by omega), if_pos (by rw [h45])]
  congr 1; omega
 ·rw [if_neg hn]
  obtain ⟨c, r, e⟩ := List.exists_cons_of_ne_nil (dd_ne n.toNat)
  have hc := dd_digit n.toNat c (by rw [e]; exact List.mem_cons_self ..)
  have hp := pm n.toNat (by omega)
  rw [e] at hp ⊢
  unfold Lib.atoiAll
  simp only
  rw [if_neg (by omega), hp]
  simp only
  rw [if_neg (by omega), if_neg (by omega), if_neg (by omega)]
  congr 1; omega
theorem whole_itoa {n : Int} (h0 : -9223372036854775808 ≤ n) (h1 : n ≤ 9223372036854775807) : wholeS (Lib.itoa n) = (n, true) := by
 unfold wholeS; rw [atoi_itoa h0 h1]; simp
theorem whole_not {l : List UInt8} (h : ¬ ∃ n : Int, -9223372036854775808 ≤ n ∧ n ≤ 9223372036854775807 ∧ Lib.itoa n = l) : wholeS l = (0, false) := by
 unfold wholeS
 cases ha : Lib.atoiAll l with
 | ok n =>
  have hn := atoi_range ha
  simp only
  rw [if_neg (fun e => h ⟨n, hn.1, hn.2, e⟩)]
 | range => rfl
 | _ => rfl

theorem strOf_one (v : Int) : strOfNums [v] = mkS [UInt8.ofNat v.toNat] := by
 apply B_inj; rw [B_mkS]; simp [strOfNums, B]
theorem rdec_l0 (below : Bool) (sg : Int) (hsg : sg = 1 ∨ sg = -1) (m : Nat) : ∀ (x3 : ByteArray), 0 < m → m ≤ 9223372036854775808 → 2 * x3.size + m ≤ 9223372036854775808 + 1000 →
  Ev (fun k => tendrilref02_Decimal.l0 k (sg * (m : Int)) x3 below) (mkS ((if below = true then [45] else []) ++ Lib.decDigits m ++ B x3)) := by
 induction m using Nat.strongRecOn with
 | _ m ih =>
  intro x3 hm hmx hsz
  have et : Int.tmod (sg * (m : Int)) 10 = sg * ((m % 10 : Nat) : Int) := by
   rcases hsg with rfl | rfl
   ·rw [Int.one_mul, Int.one_mul, show (10 : Int) = ((10 : Nat) : Int) from rfl, ← Int.ofNat_tmod]
   ·rw [show (-1 : Int) * (m : Int) = -(m : Int) by omega, Int.neg_tmod, show (10 : Int) = ((10 : Nat) : Int) from rfl, ← Int.ofNat_tmod]; omega
  have ed : Int.tdiv (sg * (m : Int)) 10 = sg * ((m / 10 : Nat) : Int) := by
   rcases hsg with rfl | rfl
   ·rw [Int.one_mul, Int.one_mul, show (10 : Int) = ((10 : Nat) : Int) from rfl, ← Int.ofNat_tdiv]
   ·rw [show (-1 : Int) * (m : Int) = -(m : Int) by omega, Int.neg_tdiv, show (10 : Int) = ((10 : Nat) : Int) from rfl, ← Int.ofNat_tdiv]; omega
  have ew : wrap64 (sg * ((m / 10 : Nat) : Int)) = sg * ((m / 10 : Nat) : Int) := by rcases hsg with rfl | rfl <;> (rw [w64 (by omega) (by omega)])
  have e10 : m % 10 < 10 := Nat.mod_lt _ (by decide)
  have sz1 : (mkS [UInt8.ofNat (48 + m % 10)]).size = 1 := rfl
  have step : ∀ k, tendrilref02_Decimal.l0 (k + 1) (sg * (m : Int)) x3 below = tendrilref02_Decimal.l0 k (sg * ((m / 10 : Nat) : Int)) (mkS [UInt8.ofNat (48 + m % 10)] ++ x3) below := by
   intro k
   simp only [tendrilref02_Decimal.l0]
   rw [et, ed, ew, if_neg (by rcases hsg with rfl | rfl <;> omega)]
   have hb : (48 + ((m % 10 : Nat) : Int)) % 256 = ((48 + m % 10 : Nat) : Int) := by omega
   by_cases hneg : sg * ((m % 10 : Nat) : Int) < 0
   ·rw [if_pos hneg]
    have : -(sg * ((m % 10 : Nat) : Int)) = ((m % 10 : Nat) : Int) := by rcases hsg with rfl | rfl <;> omega
    rw [this, w64 (n := ((m % 10 : Nat) : Int)) (by omega) (by omega), w64 (n := 48 + ((m % 10 : Nat) : Int)) (by omega) (by omega), hb, Option.bind_some, strOf_one, Int.toNat_natCast, if_pos (by rw [sz1]; omega)]
   ·rw [if_neg hneg]
    have : sg * ((m % 10 : Nat) : Int) = ((m % 10 : Nat) : Int) := by rcases hsg with rfl | rfl <;> omega
    rw [this, w64 (n := 48 + ((m % 10 : Nat) : Int)) (by omega) (by omega), hb, Option.bind_some, strOf_one, Int.toNat_natCast, if_pos (by rw [sz1]; omega)]
  by_cases h : m < 10
  ·have h0 : m / 10 = 0 := by omega
   rw [dd_lt h]
   rw [h0, show m % 10 = m by omega] at step
   refine Ev.step step (Ev.step (f := fun _ => some (mkS ((if below = true then [45] else []) ++ [UInt8.ofNat (48 + m)] ++ B x3))) (fun k => ?_) (Ev.now _))
   simp only [tendrilref02_Decimal.l0]
   rw [if_pos (by rcases hsg with rfl | rfl <;> omega)]
   by_cases hb : below = true
   ·rw [if_pos hb, if_pos (by rw [ByteArray.size_append]; show 1 + (1 + x3.size) ≤ _; omega), if_pos hb]
    congr 1
   ·rw [if_neg hb, if_neg hb]
    congr 1
  ·have hn := ih (m / 10) (by omega) (mkS [UInt8.ofNat (48 + m % 10)] ++ x3) (by omega) (by omega) (by rw [ByteArray.size_append, sz1]; omega)
   have er : mkS ((if below = true then [45] else []) ++ Lib.decDigits m ++ B x3) = mkS ((if below = true then [45] else []) ++ Lib.decDigits (m / 10) ++ B (mkS [UInt8.ofNat (48 + m % 10)] ++ x3)) := by
    rw [dd_ge (by omega), B_append, B_mkS]; simp
   rw [er]
   exact Ev.step step hn
theorem rdec_ev (n : Int) (h0 : -9223372036854775808 ≤ n) (h1 : n ≤ 9223372036854775807) : Ev (fun k => tendrilref02_Decimal.f k n) (mkS (Lib.itoa n)) := by
 unfold tendrilref02_Decimal.f Lib.itoa
 by_cases hz : n = 0
 ·subst hz
  exact Ev.congr (fun k => by rw [if_pos rfl]) (by rw [if_neg (by omega), show (0 : Int).toNat = 0 from rfl, dd_lt (by decide)]; exact Ev.now _)
 ·by_cases hn : n < 0
  ·have := rdec_l0 true (-1) (.inr rfl) n.natAbs ⟨#[]⟩ (by omega) (by omega) (by show 2 * 0 + _ ≤ _; omega)
   rw [if_pos hn]
   refine Ev.congr (f := fun k => tendrilref02_Decimal.l0 k (-1 * (n.natAbs : Int)) ⟨#[]⟩ true) (fun k => ?_) (by simpa [B] using this)
   rw [if_neg hz, decide_eq_true hn, show -1 * (n.natAbs : Int) = n by omega]
  ·have := rdec_l0 false 1 (.inl rfl) n.toNat ⟨#[]⟩ (by omega) (by omega) (by show 2 * 0 + _ ≤ _; omega)
   rw [if_neg hn]
   refine Ev.congr (f := fun k => tendrilref02_Decimal.l0 k (1 * (n.toNat : Int)) ⟨#[]⟩ false) (fun k => ?_) (by simpa [B] using this)
   rw [if_neg hz, decide_eq_false hn, show 1 * (n.toNat : Int) = n by omega]
end Go.Proofs.YtidcecpbihmloaaGreatDoor.M02

namespace Go.Proofs.YtidcecpbihmloaaGreatDoor.K03
open Go Go.RowKit Go.Proofs.YtidcecpbihmloaaGreatDoorE Go.Proofs.YtidcecpbihmloaaGreatDoor.L03 Go.Proofs.YtidcecpbihmloaaGreatDoorW.PrintWords Go.Proofs.YtidcecpbihmloaaGreatDoorW.PrintLast Go.Proofs.YtidcecpbihmloaaGreatDoorW.PrintMore
theorem ref_form (c : Nat) (hc : c = 38 ∨ c = 60 ∨ c = 62 ∨ c = 34 ∨ c = 127 ∨ c < 32) (rest : List UInt8) : refS (formL c ++ rest) = ((c : Int), ((formL c).length : Int)) := by
 have h : c = 0 ∨ c = 1 ∨ c = 2 ∨ c = 3 ∨ c = 4 ∨ c = 5 ∨ c = 6 ∨ c = 7 ∨ c = 8 ∨ c = 9 ∨ c = 10 ∨ c = 11 ∨ c = 12 ∨ c = 13 ∨ c = 14 ∨ c = 15 ∨ c = 16 ∨ c = 17 ∨ c = 18 ∨ c = 19 ∨ c = 20 ∨ c = 21 ∨ c = 22 ∨ c = 23 ∨ c = 24 ∨ c = 25 ∨ c = 26 ∨ c = 27 ∨ c = 28 ∨ c = 29 ∨ c = 30 ∨ c = 31 ∨ c = 34 ∨ c = 38 ∨ c = 60 ∨ c = 62 ∨ c = 127 := by omega
 rcases h with rfl | rfl | rfl | rfl | rfl | rfl | rfl | rfl | rfl | rfl | rfl | rfl | rfl | rfl | rfl | rfl | rfl | rfl | rfl | rfl | rfl | rfl | rfl | rfl | rfl | rfl | rfl | rfl | rfl | rfl | rfl | rfl | rfl | rfl | rfl | rfl | rfl
 ·have h : refS (formL 0 ++ rest) = (((0 : Nat) : Int), ((formL 0).length : Int)) := by kernel_rfl
  exact h
 ·have h : refS (formL 1 ++ rest) = (((1 : Nat) : Int), ((formL 1).length : Int)) := by kernel_rfl
  exact h
 ·have h : refS (formL 2 ++ rest) = (((2 : Nat) : Int), ((formL 2).length : Int)) := by kernel_rfl
  exact h
 ·have h : refS (formL 3 ++ rest) = (((3 : Nat) : Int), ((formL 3).length : Int)) := by kernel_rfl
  exact h
 ·have h : refS (formL 4 ++ rest) = (((4 : Nat) : Int), ((formL 4).length : Int)) := by kernel_rfl
  exact h
 ·have h : refS (formL 5 ++ rest) = (((5 : Nat) : Int), ((formL 5).length : Int)) := by kernel_rfl
  exact h
 ·have h : refS (formL 6 ++ rest) = (((6 : Nat) : Int), ((formL 6).length : Int)) := by kernel_rfl
  exact h
 ·have h : refS (formL 7 ++ rest) = (((7 : Nat) : Int), ((formL 7).length : Int)) := by kernel_rfl
  exact h
 ·have h : refS (formL 8 ++ rest) = (((8 : Nat) : Int), ((formL 8).length : Int)) := by kernel_rfl
  exact h
 ·have h : refS (formL 9 ++ rest) = (((9 : Nat) : Int), ((formL 9).length : Int)) := by kernel_rfl
  exact h
 ·have h : refS (formL 10 ++ rest) = (((10 : Nat) : Int), ((formL 10).length : Int)) := by kernel_rfl
  exact h
 ·have h : refS (formL 11 ++ rest) = (((11 : Nat) : Int), ((formL 11).length : Int)) := by kernel_rfl
  exact h
 ·have h : refS (formL 12 ++ rest) = (((12 : Nat) : Int), ((formL 12).length : Int)) := by kernel_rfl
  exact h
 ·have h : refS (formL 13 ++ rest) = (((13 : Nat) : Int), ((formL 13).length : Int)) := by kernel_rfl
  exact h
 ·have h : refS (formL 14 ++ rest) = (((14 : Nat) : Int), ((formL 14).length : Int)) := by kernel_rfl
  exact h
 ·have h : refS (formL 15 ++ rest) = (((15 : Nat) : Int), ((formL 15).length : Int)) := by kernel_rfl
  exact h
 ·have h : refS (formL 16 ++ rest) = (((16 : Nat) : Int), ((formL 16).length : Int)) := by kernel_rfl
  exact h
 ·have h : refS (formL 17 ++ rest) = (((17 : Nat) : Int), ((formL 17).length : Int)) := by kernel_rfl
  exact h
 ·have h : refS (formL 18 ++ rest) = (((18 : Nat) : Int), ((formL 18).length : Int)) := by kernel_rfl
  exact h
 ·have h : refS (formL 19 ++ rest) = (((19 : Nat) : Int), ((formL 19).length : Int)) := by kernel_rfl
  exact h
 ·have h : refS (formL 20 ++ rest) = (((20 : Nat) : Int), ((formL 20).length : Int)) := by kernel_rfl
  exact h
 ·have h : refS (formL 21 ++ rest) = (((21 : Nat) : Int), ((formL 21).length : Int)) := by kernel_rfl
  exact h
 ·have h : refS (formL 22 ++ rest) = (((22 : Nat) : Int), ((formL 22).length : Int)) := by kernel_rfl
  exact h
 ·have h : refS (formL 23 ++ rest) = (((23 : Nat) : Int), ((formL 23).length : Int)) := by kernel_rfl
  exact h
 ·have h : refS (formL 24 ++ rest) = (((24 : Nat) : Int), ((formL 24).length : Int)) := by kernel_rfl
  exact h
 ·have h : refS (formL 25 ++ rest) = (((25 : Nat) : Int), ((formL 25).length : Int)) := by kernel_rfl
  exact h
 ·have h : refS (formL 26 ++ rest) = (((26 : Nat) : Int), ((formL 26).length : Int)) := by kernel_rfl
  exact h
 ·have h : refS (formL 27 ++ rest) = (((27 : Nat) : Int), ((formL 27).length : Int)) := by kernel_rfl
  exact h
 ·have h : refS (formL 28 ++ rest) = (((28 : Nat) : Int), ((formL 28).length : Int)) := by kernel_rfl
  exact h
 ·have h : refS (formL 29 ++ rest) = (((29 : Nat) : Int), ((formL 29).length : Int)) := by kernel_rfl
  exact h
 ·have h : refS (formL 30 ++ rest) = (((30 : Nat) : Int), ((formL 30).length : Int)) := by kernel_rfl
  exact h
 ·have h : refS (formL 31 ++ rest) = (((31 : Nat) : Int), ((formL 31).length : Int)) := by kernel_rfl
  exact h
 ·have h : refS (formL 34 ++ rest) = (((34 : Nat) : Int), ((formL 34).length : Int)) := by kernel_rfl
  exact h
 ·have h : refS (formL 38 ++ rest) = (((38 : Nat) : Int), ((formL 38).length : Int)) := by kernel_rfl
  exact h
 ·have h : refS (formL 60 ++ rest) = (((60 : Nat) : Int), ((formL 60).length : Int)) := by kernel_rfl
  exact h
 ·have h : refS (formL 62 ++ rest) = (((62 : Nat) : Int), ((formL 62).length : Int)) := by kernel_rfl
  exact h
 ·have h : refS (formL 127 ++ rest) = (((127 : Nat) : Int), ((formL 127).length : Int)) := by kernel_rfl
  exact h
theorem step_form (c : UInt8) (rest : List UInt8) : stepU (escB c ++ rest) = (c, (escB c).length) := by
 unfold escB
 by_cases hf : formL c.toNat = []
 ·rw [if_pos hf]
  have hn : c.toNat ≠ 38 := by intro e; rw [e] at hf; exact absurd hf (by decide)
  simp only [List.cons_append, List.nil_append, stepU]
  rw [if_neg hn, if_pos hf]
  rfl
 ·rw [if_neg hf]
  have hc : c.toNat = 38 ∨ c.toNat = 60 ∨ c.toNat = 62 ∨ c.toNat = 34 ∨ c.toNat = 127 ∨ c.toNat < 32 := by
   unfold formL at hf
   by_cases h1 : c.toNat = 38
   ·exact .inl h1
   ·rw [if_neg h1] at hf
    by_cases h2 : c.toNat = 60
    ·exact .inr (.inl h2)
    ·rw [if_neg h2] at hf
     by_cases h3 : c.toNat = 62
     ·exact .inr (.inr (.inl h3))
     ·rw [if_neg h3] at hf
      by_cases h4 : c.toNat = 34
      ·exact .inr (.inr (.inr (.inl h4)))
      ·rw [if_neg h4] at hf
       by_cases h5 : c.toNat = 127 ∨ c.toNat < 32
       ·exact .inr (.inr (.inr (.inr h5)))
       ·rw [if_neg h5] at hf
        exact absurd rfl hf
  have hr := ref_form c.toNat hc rest
  obtain ⟨t, ht⟩ : ∃ t, formL c.toNat = 38 :: t := by
   unfold formL
   rcases hc with h | h | h | h | h | h
   ·rw [if_pos h]; exact ⟨_, rfl⟩
   ·rw [if_neg (by omega), if_pos h]; exact ⟨_, rfl⟩
   ·rw [if_neg (by omega), if_neg (by omega), if_pos h]; exact ⟨_, rfl⟩
   ·rw [if_neg (by omega), if_neg (by omega), if_neg (by omega), if_pos h]; exact ⟨_, rfl⟩
   ·rw [if_neg (by omega), if_neg (by omega), if_neg (by omega), if_neg (by omega), if_pos (.inl h)]; exact ⟨_, rfl⟩
   ·rw [if_neg (by omega), if_neg (by omega), if_neg (by omega), if_neg (by omega), if_pos (.inr h)]; exact ⟨_, rfl⟩
  rw [ht] at hr ⊢
  simp only [List.cons_append, stepU]
  rw [List.cons_append] at hr
  rw [if_pos (by decide), hr]
  simp
/-- What is written is read, whatever follows. -/
theorem un_escS : ∀ (l : List UInt8) (pos : Nat) (out : List UInt8), unS (escS l) pos out = (out ++ l, 0, 0)
 | [], pos, out => by
  rw [show escS [] = [] from rfl, unS_nil, List.append_nil]
 | c :: t, pos, out => by
  have he : escS (c :: t) = escB c ++ escS t := by simp [escS]
  have hp : escB c ≠ [] := by
   unfold escB
   split
   ·simp
   ·assumption
  have hl : 0 < (escB c).length := List.length_pos_iff.2 hp
  rw [he, unS_cons _ (by intro e; exact hp (List.append_eq_nil_iff.1 e).1), step_form, if_neg (by simp only; omega)]
  simp only
  rw [List.drop_left, un_escS t]
  simp
def sgn : List UInt8 := [60, 62, 34]
theorem escB_clean : ∀ c : Fin 256, (escB (UInt8.ofNat c.val)).all (fun b => !sgn.contains b) = true := by decide +kernel
theorem escS_clean (l : List UInt8) : ∀ b ∈ escS l, sgn.contains b = false := by
 intro b hb
 obtain ⟨c, -, h⟩ := List.mem_flatMap.1 hb
 have := escB_clean ⟨c.toNat, c.toNat_lt⟩
 simp only [UInt8.ofNat_toNat] at this
 simpa using List.all_eq_true.1 this b h
end Go.Proofs.YtidcecpbihmloaaGreatDoor.K03

namespace Go.Proofs.YtidcecpbihmloaaGreatDoor.K04
open Go Go.Proofs.YtidcecpbihmloaaGreatDoor.L03 Go.RowKit Go.Proofs.YtidcecpbihmloaaGreatDoorE Go.Proofs.YtidcecpbihmloaaGreatDoorW.PrintWords
theorem escB_of {n : Nat} (hn : n ≤ 255) (h : formL n ≠ []) : escB ((n : Int).toNat.toUInt8) = formL n := by
 have e : ((n : Int).toNat.toUInt8).toNat = n := by simp; omega
 unfold escB
 rw [e, if_neg h]
theorem ref_esc (l : List UInt8) (h : (refS l).2.toNat ≠ 0) : escB ((refS l).1.toNat.toUInt8) = l.take (refS l).2.toNat := by
 revert h
 unfold refS
 split
 ·rename_i c hc
  intro h
  have h1 := List.find?_some hc
  have h2 := List.mem_of_find?_eq_some hc
  have h3 : c ≤ 255 := by
   have := List.mem_of_mem_take h2
   simp [signs] at this
   omega
  have h4 := List.prefix_iff_eq_take.1 (List.isPrefixOf_iff_prefix.1 h1)
  have h5 : formL c ≠ [] := by intro e; rw [e] at h; simp at h
  rw [escB_of h3 h5]
  simpa using h4
 ·split
  ·rename_i hp
   have hix := index_num _ hp
   unfold numS
   split
   ·intro h; simp at h
   ·split
    ·split
     ·rename_i n _ hn
      intro h
      obtain ⟨n0, n1, he⟩ := hn
      obtain ⟨m, rfl⟩ := Int.eq_ofNat_of_zero_le n0
      have hne : formL m ≠ [] := by
       intro e
       rw [Int.toNat_natCast, e] at he
       have := congrArg List.length he
       rw [List.length_take, List.length_nil] at this
       omega
      simp only
      rw [escB_of (by omega) hne, ← show (m : Int).toNat = m from rfl, he]
      congr 1
      omega
     ·intro h; simp at h
    ·intro h; simp at h
  ·intro h; simp at h
theorem step_esc (l : List UInt8) (h : (stepU l).2 ≠ 0) : (stepU l).2 ≤ l.length ∧ escB (stepU l).1 = l.take (stepU l).2 := by
 cases l with
 | nil => simp [stepU] at h
 | cons c t =>
  simp only [stepU] at h ⊢
  split
  ·rename_i hc
   rw [if_pos hc] at h
   have hr := refS_range (c :: t)
   exact ⟨by simp only; omega, ref_esc _ h⟩
  ·rename_i hc
   rw [if_neg hc] at h
   split
   ·rename_i hf
    refine ⟨by simp, ?_⟩
    unfold escB
    rw [if_pos hf]; rfl
   ·rename_i hf
    rw [if_neg hf] at h
    exact absurd rfl h
theorem escS_append (a b : List UInt8) : escS (a ++ b) = escS a ++ escS b := by simp [escS]
theorem escS_one (c : UInt8) : escS [c] = escB c := by simp [escS]
theorem un_esc (d : Nat) : ∀ (l : List UInt8) (pos : Nat) (out : List UInt8), l.length ≤ d →
  ((unS l pos out).2.2 = 0 ∧ escS (unS l pos out).1 = escS out ++ l) ∨ ((unS l pos out).2.2 = 2 ∧ (unS l pos out).1 = [] ∧ (pos : Int) ≤ (unS l pos out).2.1 ∧ (unS l pos out).2.1 < pos + l.length) := by
 induction d with
 | zero =>
  intro l pos out hl
  obtain rfl : l = [] := List.length_eq_zero_iff.1 (by omega)
  rw [unS_nil]; left; simp
 | succ d ih =>
  intro l pos out hl
  by_cases hn : l = []
  ·subst hn; rw [unS_nil]; left; simp
  ·have hp := List.length_pos_iff.2 hn
   rw [unS_cons l hn]
   by_cases h0 : (stepU l).2 = 0
   ·rw [if_pos h0]; right
    refine ⟨rfl, rfl, Int.le_refl _, ?_⟩
    simp only; omega
   ·rw [if_neg h0]
    obtain ⟨h1, h2⟩ := step_esc l h0
    have hd : (l.drop (stepU l).2).length = l.length - (stepU l).2 := List.length_drop ..
    rcases ih (l.drop (stepU l).2) (pos + (stepU l).2) (out ++ [(stepU l).1]) (by omega) with ⟨a, b⟩ | ⟨a, b, c, e⟩
    ·left
     refine ⟨a, ?_⟩
     rw [b, escS_append, escS_one, h2, List.append_assoc, List.take_append_drop]
    ·right
     exact ⟨a, b, by omega, by omega⟩
theorem escS_ge : ∀ l : List UInt8, l.length ≤ (escS l).length
 | [] => Nat.zero_le _
 | c :: t => by
  have h := escS_ge t
  have h2 : 1 ≤ (escB c).length := by
   unfold escB
   split
   ·simp
   ·rename_i hf
    exact List.length_pos_iff.2 hf
  unfold escS at h ⊢
  rw [List.flatMap_cons, List.length_append, List.length_cons]; omega
end Go.Proofs.YtidcecpbihmloaaGreatDoor.K04

namespace Go.Proofs.YtidcecpbihmloaaGreatDoorE
open Go Go.RowKit
abbrev em : ByteArray := ⟨#[]⟩
def sgn : List UInt8 := [60, 62, 34]
def stopS (l : List UInt8) : Nat := l.findIdx fun b => sgn.contains b
def mkB (l : List UInt8) : ByteArray := ⟨l.toArray⟩
theorem mkB_list (l : List UInt8) : (mkB l).data.toList = l := rfl
theorem mkB_size (l : List UInt8) : (mkB l).size = l.length := List.size_toArray
end Go.Proofs.YtidcecpbihmloaaGreatDoorE

namespace Go.Proofs.YtidcecpbihmloaaGreatDoorE
open Go Go.RowKit Go.Proofs.YtidcecpbihmloaaGreatDoor.M02 Go.Proofs.YtidcecpbihmloaaGreatDoor.P16
set_option linter.unusedVariables false
set_option linter.unusedSimpArgs false
def isLet (c : UInt8) : Bool := decide (97 ≤ c.toNat ∧ c.toNat ≤ 122)
def isDig (c : UInt8) : Bool := decide (c.toNat = 45) || decide (48 ≤ c.toNat ∧ c.toNat ≤ 57)
def isNam (c : UInt8) : Bool := isLet c || isDig c || decide (c.toNat = 58) || decide (c.toNat = 46)
/-- The fields that a kind does not name are zero. -/
def plainD (d : S25) : Bool :=
 if d.f0 = 0 then decide (d.f1 = 0) && d.f2.data.toList.isEmpty && d.f3.isEmpty && d.f4.isEmpty
 else if d.f0 = 1 then (decide (d.f1 = 0) || decide (d.f1 = 1)) && d.f2.data.toList.isEmpty && d.f3.isEmpty && d.f4.isEmpty
 else if d.f0 = 2 then d.f2.data.toList.isEmpty && d.f3.isEmpty && d.f4.isEmpty
 else if d.f0 = 3 then decide (d.f1 = 0) && d.f3.isEmpty && d.f4.isEmpty && decide (d.f2.size ≤ 65536)
 else if d.f0 = 4 then decide (d.f1 = 0) && d.f2.data.toList.isEmpty && d.f3.isEmpty
 else if d.f0 = 5 then decide (d.f1 = 0) && d.f2.data.toList.isEmpty && decide (d.f3.length = d.f4.length)
 else false
/-- Names, in ascending order. -/
def namesD : List ByteArray → Bool
 | [] => true
 | [n] => namedS true n.data.toList
 | n :: m :: l => namedS true n.data.toList && Op.bytesLess n.data.toList m.data.toList && namesD (m :: l)
mutual
/-- What is left of so many pieces, less those of a piece; none: it is not right. -/
def weighD : S25 → Nat → Nat → Option Nat
 | ⟨k, n, t, ns, l⟩, left, op => if left = 0 ∨ plainD ⟨k, n, t, ns, l⟩ = false ∨ (k > 3 ∧ op = 16) ∨ namesD ns = false then none else weighL l (left - 1) (op + 1)
def weighL : List S25 → Nat → Nat → Option Nat
 | [], left, _ => some left
 | d :: l, left, op => match weighD d left op with
  | none => none
  | some r => weighL l r op
end
def rightD (d : S25) : Bool := (weighD d 2000 0).isSome
mutual
def printD : S25 → List UInt8
 | ⟨k, n, t, ns, l⟩ =>
  if k = 0 then [110, 111, 110, 101] else if k = 1 then (if n = 1 then [121, 101, 115] else [110, 111]) else if k = 2 then Lib.itoa n
  else if k = 3 then 34 :: (escS t.data.toList ++ [34])
  else if k = 4 then 91 :: (printL false [] l ++ [93]) else 123 :: (printL true ns l ++ [125])
/-- The members, commas between. -/
def printL : Bool → List ByteArray → List S25 → List UInt8
 | _, _, [] => []
 | b, ns, d :: l => (if b then (ns.headD em).data.toList ++ [61] else []) ++ printD d ++ (match l with
  | [] => []
  | e :: r => 44 :: printL b ns.tail (e :: r))
end
/-- What a reading comes to: a thing, and where it stands then; or the place and the kind of what is wrong. -/
inductive Res (α : Type) where
 | ok (a : α) (at_ : Nat) (rest : List UInt8)
 | err (at_ : Nat) (code : Int)
def wordD (w : List UInt8) : Option S25 :=
 if w = [110, 111, 110, 101] then some ⟨0, 0, em, [], []⟩ else if w = [110, 111] then some ⟨1, 0, em, [], []⟩ else if w = [121, 101, 115] then some ⟨1, 1, em, [], []⟩ else none
/-- A text behind its quote. -/
def textD (t : List UInt8) (at_ : Nat) : Res S25 :=
 if (unS (t.take (stopS t)) 0 []).2.2 ≠ 0 then .err (at_ + (unS (t.take (stopS t)) 0 []).2.1.toNat) 2
 else if (t.drop (stopS t)).head? = some 34 then .ok ⟨3, 0, mkB (unS (t.take (stopS t)) 0 []).1, [], []⟩ (at_ + stopS t + 1) (t.drop (stopS t + 1)) else .err (at_ + stopS t) 2
mutual
/-- One piece; n: more than there are bytes. -/
def pieceS : Nat → List UInt8 → Nat → Nat → Res S25
 | 0, _, at_, _ => .err at_ 2
 | n + 1, l, at_, deep => match l with
  | [] => .err at_ 2
  | c :: t =>
   if isLet c then (match wordD ((c :: t).takeWhile isLet) with
    | some d => .ok d (at_ + ((c :: t).takeWhile isLet).length) ((c :: t).dropWhile isLet)
    | none => .err at_ 2)
   else if isDig c then (if (wholeS ((c :: t).takeWhile isDig)).2 then .ok ⟨2, (wholeS ((c :: t).takeWhile isDig)).1, em, [], []⟩ (at_ + ((c :: t).takeWhile isDig).length) ((c :: t).dropWhile isDig) else .err at_ 2)
   else if c = 34 then textD t (at_ + 1)
   else if c = 91 ∨ c = 123 then (if 16 ≤ deep then .err at_ 11 else
    if t.head? = some (if c = 123 then 125 else 93) then .ok ⟨if c = 123 then 5 else 4, 0, em, [], []⟩ (at_ + 2) (t.drop 1) else membersS n t (at_ + 1) (deep + 1) (decide (c = 123)) [] [])
   else .err at_ 2
/-- The members of a list or a record that is open. -/
def membersS : Nat → List UInt8 → Nat → Nat → Bool → List ByteArray → List S25 → Res S25
 | 0, _, at_, _, _, _, _ => .err at_ 2
 | n + 1, l, at_, deep, b, ns, ds =>
  if b then (if namedS true (l.takeWhile isNam) then (if (l.dropWhile isNam).head? = some 61 then tailS n ((l.dropWhile isNam).drop 1) (at_ + (l.takeWhile isNam).length + 1) deep b (ns ++ [mkB (l.takeWhile isNam)]) ds else .err (at_ + (l.takeWhile isNam).length) 2) else .err at_ 2)
  else tailS n l at_ deep b ns ds
/-- The piece of a member, and what stands behind it. -/
def tailS : Nat → List UInt8 → Nat → Nat → Bool → List ByteArray → List S25 → Res S25
 | 0, _, at_, _, _, _, _ => .err at_ 2
 | n + 1, l, at_, deep, b, ns, ds => match pieceS n l at_ deep with
  | .err a e => .err a e
  | .ok d a r =>
   if r.head? = some 44 then membersS n (r.drop 1) (a + 1) deep b ns (ds ++ [d])
   else if r.head? = some (if b then 125 else 93) then .ok ⟨if b then 5 else 4, 0, em, ns, ds ++ [d]⟩ (a + 1) (r.drop 1)
   else .err a 2
end
end Go.Proofs.YtidcecpbihmloaaGreatDoorE

namespace Go.Proofs.YtidcecpbihmloaaGreatDoorE
open Go Go.RowKit Go.Proofs.YtidcecpbihmloaaGreatDoor.M02 Go.Proofs.YtidcecpbihmloaaGreatDoor.P16
set_option linter.unusedVariables false
set_option linter.unusedSimpArgs false
theorem d_nil {t : ByteArray} (h : t.data.toList.isEmpty = true) : t = em := by
 cases t with
 | mk d =>
  cases d with
  | mk l =>
   cases l with
   | nil => rfl
   | cons c l => simp at h
theorem plain_cases {k n : Int} {t : ByteArray} {ns : List ByteArray} {l : List S25} (h : plainD ⟨k, n, t, ns, l⟩ = true) :
  (k = 0 ∧ n = 0 ∧ t = em ∧ ns = [] ∧ l = []) ∨ (k = 1 ∧ (n = 0 ∨ n = 1) ∧ t = em ∧ ns = [] ∧ l = []) ∨ (k = 2 ∧ t = em ∧ ns = [] ∧ l = [])
  ∨ (k = 3 ∧ n = 0 ∧ ns = [] ∧ l = [] ∧ t.size ≤ 65536) ∨ (k = 4 ∧ n = 0 ∧ t = em ∧ ns = []) ∨ (k = 5 ∧ n = 0 ∧ t = em ∧ ns.length = l.length) := by
 unfold plainD at h
 simp only at h
 split at h
 ·rename_i hk
  simp only [Bool.and_eq_true, decide_eq_true_eq, List.isEmpty_iff] at h
  exact Or.inl ⟨hk, h.1.1.1, d_nil (List.isEmpty_iff.2 h.1.1.2), h.1.2, h.2⟩
 split at h
 ·rename_i hk
  simp only [Bool.and_eq_true, Bool.or_eq_true, decide_eq_true_eq, List.isEmpty_iff] at h
  exact Or.inr (Or.inl ⟨hk, h.1.1.1, d_nil (List.isEmpty_iff.2 h.1.1.2), h.1.2, h.2⟩)
 split at h
 ·rename_i hk
  simp only [Bool.and_eq_true, decide_eq_true_eq, List.isEmpty_iff] at h
  exact Or.inr (Or.inr (Or.inl ⟨hk, d_nil (List.isEmpty_iff.2 h.1.1), h.1.2, h.2⟩))
 split at h
 ·rename_i hk
  simp only [Bool.and_eq_true, decide_eq_true_eq, List.isEmpty_iff] at h
  exact Or.inr (Or.inr (Or.inr (Or.inl ⟨hk, h.1.1.1, h.1.1.2, h.1.2, h.2⟩)))
 split at h
 ·rename_i hk
  simp only [Bool.and_eq_true, decide_eq_true_eq, List.isEmpty_iff] at h
  exact Or.inr (Or.inr (Or.inr (Or.inr (Or.inl ⟨hk, h.1.1, d_nil (List.isEmpty_iff.2 h.1.2), h.2⟩))))
 split at h
 ·rename_i hk
  simp only [Bool.and_eq_true, decide_eq_true_eq, List.isEmpty_iff] at h
  exact Or.inr (Or.inr (Or.inr (Or.inr (Or.inr ⟨hk, h.1.1, d_nil (List.isEmpty_iff.2 h.1.2), h.2⟩))))
 ·simp at h
/-- A text at whose head a word, a number and a name end. -/
def ends (l : List UInt8) : Prop := ∀ c, l.head? = some c → isNam c = false
theorem tw_app (p : UInt8 → Bool) (r : List UInt8) (hr : ∀ c, r.head? = some c → p c = false) : ∀ a : List UInt8, (∀ c ∈ a, p c = true) → (a ++ r).takeWhile p = a ∧ (a ++ r).dropWhile p = r
 | [], _ => by
  cases r with
  | nil => exact ⟨rfl, rfl⟩
  | cons c r =>
   have h := hr c rfl
   simp [List.takeWhile_cons, List.dropWhile_cons, h]
 | c :: a, ha => by
  have h := tw_app p r hr a (fun x hx => ha x (List.mem_cons_of_mem _ hx))
  have hc := ha c List.mem_cons_self
  rw [List.cons_append, List.takeWhile_cons, List.dropWhile_cons, if_pos hc, if_pos hc, h.1, h.2]
  exact ⟨rfl, rfl⟩
theorem ends_let {r : List UInt8} (h : ends r) : ∀ c, r.head? = some c → isLet c = false := by
 intro c hc; have := h c hc; unfold isNam at this; revert this; cases isLet c <;> simp
theorem ends_dig {r : List UInt8} (h : ends r) : ∀ c, r.head? = some c → isDig c = false := by
 intro c hc; have := h c hc; unfold isNam at this; revert this; cases isDig c <;> simp
theorem ends_at {c : UInt8} (r : List UInt8) (hc : isNam c = false) : ends (c :: r) := by
 intro x hx; injection hx with hx; rw [← hx]; exact hc
theorem itoa_dig (n : Int) : (∀ c ∈ Lib.itoa n, isDig c = true) ∧ Lib.itoa n ≠ [] := by
 have hd : ∀ m, ∀ c ∈ Lib.decDigits m, isDig c = true := by
  intro m c hc
  have := dd_digit m c hc
  unfold isDig
  simp only [Bool.or_eq_true, decide_eq_true_eq]
  exact Or.inr this
 unfold Lib.itoa
 split
 ·refine ⟨?_, by simp⟩
  intro c hc
  rcases List.mem_cons.1 hc with rfl | hc
  ·decide
  ·exact hd _ c hc
 ·exact ⟨hd _, dd_ne _⟩
theorem named_nam {l : List UInt8} (h : namedS true l = true) : (∀ c ∈ l, isNam c = true) ∧ ∃ c t, l = c :: t ∧ isLet c = true := by
 cases l with
 | nil => simp [namedS] at h
 | cons c t =>
  rw [namedS_cons] at h
  simp only [Bool.and_eq_true, decide_eq_true_eq, List.all_eq_true] at h
  refine ⟨?_, c, t, rfl, ?_⟩
  ·intro x hx
   have hk := h.2 x hx
   unfold okb at hk
   unfold isNam isLet isDig
   simp [small] at hk ⊢
   omega
  ·have := h.1.2
   unfold isLet
   simpa [small] using this
theorem names_all : ∀ {ns : List ByteArray}, namesD ns = true → ∀ x ∈ ns, namedS true x.data.toList = true
 | [], _, x, hx => by simp at hx
 | [n], h, x, hx => by
  rw [List.mem_singleton.1 hx]; exact h
 | n :: m :: l, h, x, hx => by
  simp only [namesD, Bool.and_eq_true] at h
  rcases List.mem_cons.1 hx with rfl | hx
  ·exact h.1.1
  ·exact names_all h.2 x hx
theorem stop_app (t rest : List UInt8) : stopS (escS t ++ 34 :: rest) = (escS t).length := by
 have hc := Go.Proofs.YtidcecpbihmloaaGreatDoor.K03.escS_clean t
 revert hc
 generalize escS t = l
 intro hc
 unfold stopS
 induction l with
 | nil => simp [List.findIdx_cons, sgn]
 | cons c l ih =>
  have h := hc c List.mem_cons_self
  rw [List.cons_append, List.findIdx_cons, show sgn.contains c = false from h]
  simp only [cond_false, List.length_cons, Nat.add_right_cancel_iff]
  exact ih fun x hx => hc x (List.mem_cons_of_mem _ hx)
theorem text_app (t : ByteArray) (rest : List UInt8) (a : Nat) : textD (escS t.data.toList ++ 34 :: rest) a = .ok (⟨3, 0, t, [], []⟩ : S25) (a + (escS t.data.toList).length + 1) rest := by
 unfold textD
 rw [stop_app, List.take_left, List.drop_left, Go.Proofs.YtidcecpbihmloaaGreatDoor.K03.un_escS]
 rw [if_neg (by simp), if_pos (by rfl)]
 have e : List.drop ((escS t.data.toList).length + 1) (escS t.data.toList ++ 34 :: rest) = rest := by
  rw [← List.drop_drop, List.drop_left]; rfl
 rw [e]; rfl
mutual
/-- The numbers within are numbers of the machine. -/
def numsD : S25 → Prop
 | ⟨k, n, t, ns, l⟩ => (-9223372036854775808 ≤ n ∧ n ≤ 9223372036854775807) ∧ numsL l
def numsL : List S25 → Prop
 | [] => True
 | d :: l => numsD d ∧ numsL l
end
theorem print_head (d : S25) (h : plainD d = true) : ∃ c t, printD d = c :: t ∧ c ≠ 93 ∧ c ≠ 125 := by
 rcases d with ⟨k, n, t, ns, l⟩
 rcases plain_cases h with ⟨rfl, rfl, rfl, rfl, rfl⟩ | ⟨rfl, hn, rfl, rfl, rfl⟩ | ⟨rfl, rfl, rfl, rfl⟩ | ⟨rfl, rfl, rfl, rfl, hs⟩ | ⟨rfl, rfl, rfl, rfl⟩ | ⟨rfl, rfl, rfl, hl⟩
 ·exact ⟨110, [111, 110, 101], rfl, by decide, by decide⟩
 ·rcases hn with rfl | rfl
  ·exact ⟨110, [111], rfl, by decide, by decide⟩
  ·exact ⟨121, [101, 115], rfl, by decide, by decide⟩
 ·have hi := itoa_dig n
  have hp : printD (⟨2, n, em, [], []⟩ : S25) = Lib.itoa n := rfl
  rw [hp]
  revert hi
  generalize Lib.itoa n = l
  intro hi
  cases l with
  | nil => exact absurd rfl hi.2
  | cons c t =>
   refine ⟨c, t, rfl, ?_, ?_⟩
   ·rintro rfl; have := hi.1 93 List.mem_cons_self; revert this; decide
   ·rintro rfl; have := hi.1 125 List.mem_cons_self; revert this; decide
 ·exact ⟨34, _, rfl, by decide, by decide⟩
 ·exact ⟨91, _, rfl, by decide, by decide⟩
 ·exact ⟨123, _, rfl, by decide, by decide⟩
theorem weigh_plain {d : S25} {left op r : Nat} (h : weighD d left op = some r) : left ≠ 0 ∧ plainD d = true ∧ ¬ (d.f0 > 3 ∧ op = 16) ∧ namesD d.f3 = true ∧ weighL d.f4 (left - 1) (op + 1) = some r := by
 rcases d with ⟨k, n, t, ns, l⟩
 rw [weighD] at h
 split at h
 ·simp at h
 ·rename_i hc
  rw [not_or, not_or, not_or] at hc
  refine ⟨hc.1, by simpa using hc.2.1, hc.2.2.1, by simpa using hc.2.2.2, h⟩
/-- What stands behind a member. -/
def moreL (b : Bool) (ns : List ByteArray) (l : List S25) : List UInt8 := match l with
 | [] => []
 | e :: r => 44 :: printL b ns (e :: r)
theorem printL_cons (b : Bool) (ns : List ByteArray) (d : S25) (l : List S25) : printL b ns (d :: l) = (if b then (ns.headD em).data.toList ++ [61] else []) ++ printD d ++ moreL b ns.tail l := by
 cases l <;> simp [printL, moreL]
theorem printL_head {b : Bool} {ns : List ByteArray} {d : S25} {l : List S25} (hp : plainD d = true) (hn : b = true → ∃ x r, ns = x :: r ∧ namedS true x.data.toList = true) : ∃ c t, printL b ns (d :: l) = c :: t ∧ c ≠ 93 ∧ c ≠ 125 := by
 obtain ⟨c, t, e, h1, h2⟩ := print_head d hp
 cases b with
 | false => exact ⟨c, t ++ _, by rw [printL_cons, e]; rfl, h1, h2⟩
 | true =>
  obtain ⟨x, r, rfl, hx⟩ := hn rfl
  obtain ⟨c, t, e, hc⟩ := (named_nam hx).2
  refine ⟨c, t ++ 61 :: (printD d ++ _), by rw [printL_cons]; simp [e]; rfl, ?_, ?_⟩
  ·rintro rfl; revert hc; decide
  ·rintro rfl; revert hc; decide
mutual
theorem read_print : ∀ (d : S25) (left op r n a : Nat) (rest : List UInt8), op ≤ 16 → numsD d → weighD d left op = some r → ends rest → 3 * (printD d ++ rest).length + 1 ≤ n → pieceS n (printD d ++ rest) a op = .ok d (a + (printD d).length) rest
 | ⟨k, m, t, ns, l⟩, left, op, r, n, a, rest, hop, hnum, hw, he, hlen => by
  obtain ⟨hl0, hp, hk, hns, hwl⟩ := weigh_plain hw
  simp only at hk hns hwl
  rw [numsD] at hnum
  obtain ⟨n, rfl⟩ : ∃ q, n = q + 1 := ⟨n - 1, by omega⟩
  rcases plain_cases hp with ⟨rfl, rfl, rfl, rfl, rfl⟩ | ⟨rfl, hn, rfl, rfl, rfl⟩ | ⟨rfl, rfl, rfl, rfl⟩ | ⟨rfl, rfl, rfl, rfl, hs⟩ | ⟨rfl, rfl, rfl, rfl⟩ | ⟨rfl, rfl, rfl, hl⟩
  ·have ht := tw_app isLet rest (ends_let he) [110, 111, 110, 101] (by decide)
   have hpr : printD (⟨0, 0, em, [], []⟩ : S25) = [110, 111, 110, 101] := rfl
   rw [hpr]
   rw [show ([110, 111, 110, 101] : List UInt8) ++ rest = 110 :: ([111, 110, 101] ++ rest) from rfl] at ht ⊢
   rw [pieceS]
   rw [if_pos (by decide), ht.1, ht.2]
   rfl
  ·rcases hn with rfl | rfl
   ·have ht := tw_app isLet rest (ends_let he) [110, 111] (by decide)
    have hpr : printD (⟨1, 0, em, [], []⟩ : S25) = [110, 111] := rfl
    rw [hpr]
    rw [show ([110, 111] : List UInt8) ++ rest = 110 :: ([111] ++ rest) from rfl] at ht ⊢
    rw [pieceS]
    rw [if_pos (by decide), ht.1, ht.2]
    rfl
   ·have ht := tw_app isLet rest (ends_let he) [121, 101, 115] (by decide)
    have hpr : printD (⟨1, 1, em, [], []⟩ : S25) = [121, 101, 115] := rfl
    rw [hpr]
    rw [show ([121, 101, 115] : List UInt8) ++ rest = 121 :: ([101, 115] ++ rest) from rfl] at ht ⊢
    rw [pieceS]
    rw [if_pos (by decide), ht.1, ht.2]
    rfl
  ·have hi := itoa_dig m
   have ht := tw_app isDig rest (ends_dig he) (Lib.itoa m) hi.1
   have hpr : printD (⟨2, m, em, [], []⟩ : S25) = Lib.itoa m := rfl
   have hwh := whole_itoa hnum.1.1 hnum.1.2
   rw [hpr]
   revert hi ht hwh
   generalize Lib.itoa m = q
   intro hi ht hwh
   cases q with
   | nil => exact absurd rfl hi.2
   | cons c q =>
    have hc := hi.1 c List.mem_cons_self
    have hcl : isLet c = false := by
     unfold isDig at hc; unfold isLet
     simp at hc ⊢
     omega
    rw [List.cons_append] at ht ⊢
    rw [pieceS]
    rw [if_neg (by rw [hcl]; simp), if_pos hc, ht.1, ht.2, hwh]
    rfl
  ·have hpr : printD (⟨3, 0, t, [], []⟩ : S25) = 34 :: (escS t.data.toList ++ [34]) := rfl
   rw [hpr]
   rw [List.cons_append, pieceS]
   rw [if_neg (by decide), if_neg (by decide), if_pos rfl, List.append_assoc, List.singleton_append, text_app]
   simp only [List.length_cons, List.length_append, List.length_nil]
   congr 1
   omega
  ·have hop' : op < 16 := by
    have : ¬ op = 16 := fun e => hk ⟨by decide, e⟩
    omega
   have hpr : printD (⟨4, 0, em, [], l⟩ : S25) = 91 :: (printL false [] l ++ [93]) := rfl
   rw [hpr] at hlen ⊢
   rw [List.cons_append, pieceS]
   rw [if_neg (by decide), if_neg (by decide), if_neg (by decide), if_pos (Or.inl rfl), if_neg (by omega)]
   cases l with
   | nil => rfl
   | cons d l =>
    have hwd : ∃ q, weighD d (left - 1) (op + 1) = some q := by
     rw [weighL] at hwl
     revert hwl
     cases weighD d (left - 1) (op + 1) with
     | none => intro h; simp at h
     | some q => intro _; exact ⟨q, rfl⟩
    obtain ⟨q, hq⟩ := hwd
    obtain ⟨c, u, e, h1, h2⟩ := printL_head (b := false) (ns := []) (l := l) (weigh_plain hq).2.1 (fun h => by cases h)
    rw [if_neg (by rw [e]; simpa using h1)]
    have := read_printL (d :: l) false [] [] [] (left - 1) (op + 1) r n (a + 1) rest (by omega) (by simp) hnum.2 hwl (fun _ => rfl) (fun h => by cases h) (by
     simp only [List.length_cons, List.length_append, List.length_nil, List.append_assoc, List.cons_append, List.nil_append] at hlen ⊢
     omega)
    simp only [Bool.false_eq_true, if_false, List.append_assoc, List.singleton_append, List.nil_append] at this ⊢
    rw [show decide ((91 : UInt8) = 123) = false from by decide, this]
    simp only [List.length_cons, List.length_append, List.length_nil]
    congr 1
    omega
  ·have hop' : op < 16 := by
    have : ¬ op = 16 := fun e => hk ⟨by decide, e⟩
    omega
   have hpr : printD (⟨5, 0, em, ns, l⟩ : S25) = 123 :: (printL true ns l ++ [125]) := rfl
   rw [hpr] at hlen ⊢
   rw [List.cons_append, pieceS]
   rw [if_neg (by decide), if_neg (by decide), if_neg (by decide), if_pos (Or.inr rfl), if_neg (by omega)]
   cases l with
   | nil =>
    have : ns = [] := List.length_eq_zero_iff.1 hl
    rw [this]; rfl
   | cons d l =>
    have hwd : ∃ q, weighD d (left - 1) (op + 1) = some q := by
     rw [weighL] at hwl
     revert hwl
     cases weighD d (left - 1) (op + 1) with
     | none => intro h; simp at h
     | some q => intro _; exact ⟨q, rfl⟩
    obtain ⟨q, hq⟩ := hwd
    obtain ⟨x, ns', rfl⟩ : ∃ x r, ns = x :: r := by
     cases ns with
     | nil => simp at hl
     | cons x r => exact ⟨x, r, rfl⟩
    have hall := names_all hns
    obtain ⟨c, u, e, h1, h2⟩ := printL_head (b := true) (ns := x :: ns') (l := l) (weigh_plain hq).2.1 (fun _ => ⟨x, ns', rfl, hall x List.mem_cons_self⟩)
    rw [if_neg (by rw [e]; simpa using h2)]
    have := read_printL (d :: l) true (x :: ns') [] [] (left - 1) (op + 1) r n (a + 1) rest (by omega) (by simp) hnum.2 hwl (fun h => by cases h) (fun _ => ⟨hl, hall⟩) (by
     simp only [List.length_cons, List.length_append, List.length_nil, List.append_assoc, List.cons_append, List.nil_append] at hlen ⊢
     omega)
    simp only [if_true, List.append_assoc, List.singleton_append, List.nil_append] at this ⊢
    rw [decide_true, this]
    simp only [List.length_cons, List.length_append, List.length_nil]
    congr 1
    omega
theorem read_printL : ∀ (ds : List S25) (b : Bool) (ns ns0 : List ByteArray) (ds0 : List S25) (left op r n a : Nat) (rest : List UInt8), op ≤ 16 → ds ≠ [] → numsL ds → weighL ds left op = some r → (b = false → ns = []) → (b = true → ns.length = ds.length ∧ ∀ x ∈ ns, namedS true x.data.toList = true) → 3 * (printL b ns ds ++ (if b then 125 else 93) :: rest).length + 3 ≤ n →
  membersS n (printL b ns ds ++ (if b then 125 else 93) :: rest) a op b ns0 ds0 = .ok ⟨if b then 5 else 4, 0, em, ns0 ++ ns, ds0 ++ ds⟩ (a + (printL b ns ds).length + 1) rest
 | [], b, ns, ns0, ds0, left, op, r, n, a, rest, hop, hne, hnum, hw, hb0, hb1, hlen => absurd rfl hne
 | d :: l, b, ns, ns0, ds0, left, op, r, n, a, rest, hop, hne, hnum, hw, hb0, hb1, hlen => by
  rw [numsL] at hnum
  rw [weighL] at hw
  obtain ⟨q, hq, hwl⟩ : ∃ q, weighD d left op = some q ∧ weighL l q op = some r := by
   revert hw
   cases weighD d left op with
   | none => intro h; simp at h
   | some q => intro h; exact ⟨q, rfl, h⟩
  obtain ⟨n, rfl⟩ : ∃ q, n = q + 2 := ⟨n - 2, by omega⟩
  -- what stands behind the piece
  have hT : ∀ (n a : Nat) (ns1 : List ByteArray) (tl : List UInt8), 3 * (printD d ++ tl).length + 2 ≤ n + 1 → tl = moreL b ns.tail l ++ (if b then 125 else 93) :: rest → ns1 = ns0 ++ ns.take 1 →
    tailS (n + 1) (printD d ++ tl) a op b ns1 ds0 = .ok ⟨if b then 5 else 4, 0, em, ns0 ++ ns, ds0 ++ d :: l⟩ (a + (printD d).length + (moreL b ns.tail l).length + 1) rest := by
   intro n a ns1 tl hn htl hns1
   have hends : ends tl := by
    rw [htl]
    cases l with
    | nil =>
     rw [moreL, List.nil_append]
     cases b
     ·exact ends_at rest (by decide)
     ·exact ends_at rest (by decide)
    | cons e r => exact ends_at _ (by decide)
   rw [tailS, read_print d left op q n a tl hop hnum.1 hq hends (by omega)]
   simp only
   cases l with
   | nil =>
    have hns : ns0 ++ ns = ns1 := by
     rw [hns1]
     congr 1
     cases b with
     | false => rw [hb0 rfl]; rfl
     | true => exact (List.take_of_length_le (by have := (hb1 rfl).1; simp at this; omega)).symm
    rw [moreL, List.nil_append] at htl
    rw [htl, hns]
    cases b
    ·rw [if_neg (by simp), if_pos (by rfl)]; rfl
    ·rw [if_neg (by simp), if_pos (by rfl)]; rfl
   | cons e r' =>
    rw [moreL, List.cons_append] at htl
    have hrec := read_printL (e :: r') b ns.tail ns1 (ds0 ++ [d]) q op r n (a + (printD d).length + 1) rest hop (by simp) hnum.2 hwl (fun h => by rw [hb0 h]; rfl) (fun h => by
     refine ⟨?_, fun x hx => (hb1 h).2 x (List.mem_of_mem_tail hx)⟩
     have := (hb1 h).1
     simp at this ⊢
     omega) (by
      rw [htl] at hn
      simp only [List.length_cons, List.length_append] at hn ⊢
      omega)
    rw [htl, if_pos (by rfl), List.drop_succ_cons, List.drop_zero, hrec]
    have hns : ns1 ++ ns.tail = ns0 ++ ns := by
     rw [hns1, List.append_assoc]
     congr 1
     cases ns with
     | nil => rfl
     | cons x s => rfl
    rw [hns, List.append_assoc, List.singleton_append]
    simp only [moreL, List.length_cons]
    congr 1
    omega
  cases b with
  | false =>
   have hn0 := hb0 rfl
   subst hn0
   rw [printL_cons] at hlen ⊢
   rw [membersS, if_neg (by simp)]
   simp only [Bool.false_eq_true, if_false, List.nil_append, List.append_assoc] at hlen hT ⊢
   refine (hT n a ns0 _ ?_ rfl (by simp)).trans ?_
   ·simp only [List.length_append] at hlen ⊢
    omega
   ·simp only [List.length_append]
    congr 1
    omega
  | true =>
   obtain ⟨x, ns, rfl⟩ : ∃ x s, ns = x :: s := by
    cases ns with
    | nil => have := (hb1 rfl).1; simp at this
    | cons x s => exact ⟨x, s, rfl⟩
   have hx := (hb1 rfl).2 x List.mem_cons_self
   have hxn := named_nam hx
   rw [printL_cons] at hlen ⊢
   simp only [if_true, List.headD_cons, List.append_assoc, List.singleton_append, List.cons_append, List.nil_append, List.tail_cons] at hlen hT ⊢
   have htw := fun r => tw_app isNam (61 :: r) (ends_at r (by decide)) x.data.toList hxn.1
   rw [membersS, if_pos rfl, (htw _).1, (htw _).2, if_pos hx, if_pos (by rfl), List.drop_succ_cons, List.drop_zero]
   refine (hT n _ (ns0 ++ [x]) _ ?_ rfl (by simp)).trans ?_
   ·simp only [List.length_append, List.length_cons] at hlen ⊢
    omega
   ·simp only [List.length_append, List.length_cons]
    congr 1
    omega
end
end Go.Proofs.YtidcecpbihmloaaGreatDoorE

namespace Go.Proofs.YtidcecpbihmloaaGreatDoorE
open Go Go.RowKit Go.Proofs.YtidcecpbihmloaaGreatDoor.M02 Go.Proofs.YtidcecpbihmloaaGreatDoor.P16
set_option linter.unusedVariables false
set_option linter.unusedSimpArgs false
theorem whole_of {l : List UInt8} (h : (wholeS l).2 = true) : (-9223372036854775808 ≤ (wholeS l).1 ∧ (wholeS l).1 ≤ 9223372036854775807) ∧ Lib.itoa (wholeS l).1 = l := by
 by_cases hc : ∃ n : Int, -9223372036854775808 ≤ n ∧ n ≤ 9223372036854775807 ∧ Lib.itoa n = l
 ·obtain ⟨n, h0, h1, rfl⟩ := hc
  rw [whole_itoa h0 h1]
  exact ⟨⟨h0, h1⟩, rfl⟩
 ·rw [whole_not hc] at h
  simp at h
theorem un_back (t : List UInt8) (h : (unS t 0 []).2.2 = 0) : escS (unS t 0 []).1 = t := by
 rcases Go.Proofs.YtidcecpbihmloaaGreatDoor.K04.un_esc t.length t 0 [] (Nat.le_refl _) with h' | h'
 ·rw [h'.2]; rfl
 ·rw [h] at h'; exact absurd h'.1 (by decide)
theorem head_at {l : List UInt8} {c : UInt8} (h : l.head? = some c) : l = c :: l.drop 1 := by
 cases l with
 | nil => simp at h
 | cons x l => simp at h; rw [h]; rfl
theorem word_back {w : List UInt8} {d : S25} (h : wordD w = some d) : printD d = w ∧ numsD d := by
 unfold wordD at h
 split at h
 ·rename_i hw; injection h with h; rw [← h, hw]; exact ⟨rfl, by simp [numsD, numsL]⟩
 split at h
 ·rename_i hw; injection h with h; rw [← h, hw]; exact ⟨rfl, by simp [numsD, numsL]⟩
 split at h
 ·rename_i hw; injection h with h; rw [← h, hw]; exact ⟨rfl, by simp [numsD, numsL]⟩
 ·simp at h
theorem text_back {t : List UInt8} {a a' : Nat} {d : S25} {r : List UInt8} (h : textD t a = .ok d a' r) : 34 :: t = printD d ++ r ∧ a' + 1 = a + (printD d).length ∧ numsD d := by
 unfold textD at h
 split at h
 ·simp at h
 rename_i h0
 split at h
 ·rename_i h1
  injection h with hd ha hr
  have hb := un_back _ (Decidable.not_not.1 h0)
  have hp : printD d = 34 :: (t.take (stopS t) ++ [34]) := by
   rw [← hd]
   have hpr : ∀ x : ByteArray, printD (⟨3, 0, x, [], []⟩ : S25) = 34 :: (escS x.data.toList ++ [34]) := fun _ => rfl
   rw [hpr, mkB_list, hb]
  have hd1 := head_at h1
  rw [List.drop_drop] at hd1
  have ht : t.take (stopS t) ++ 34 :: r = t := by
   rw [← hr, ← hd1, List.take_append_drop]
  have hlen : (t.take (stopS t)).length = stopS t := by
   rw [List.length_take]
   exact Nat.min_eq_left List.findIdx_le_length
  refine ⟨?_, ?_, ?_⟩
  ·rw [hp]; simp [ht]
  ·rw [hp, ← ha]
   simp only [List.length_cons, List.length_append, List.length_nil, hlen]
   omega
  ·rw [← hd]; simp [numsD, numsL]
 ·simp at h
theorem print_read (n : Nat) :
  (∀ (l : List UInt8) (a deep : Nat) (d : S25) (a' : Nat) (r : List UInt8), pieceS n l a deep = .ok d a' r → l = printD d ++ r ∧ a' = a + (printD d).length ∧ numsD d)
  ∧ (∀ (l : List UInt8) (a deep : Nat) (b : Bool) (ns0 : List ByteArray) (ds0 : List S25) (d : S25) (a' : Nat) (r : List UInt8), membersS n l a deep b ns0 ds0 = .ok d a' r →
   ∃ ns ds, d = ⟨if b then 5 else 4, 0, em, ns0 ++ ns, ds0 ++ ds⟩ ∧ ds ≠ [] ∧ (b = false → ns = []) ∧ (b = true → ns.length = ds.length) ∧ l = printL b ns ds ++ (if b then 125 else 93) :: r ∧ a' = a + (printL b ns ds).length + 1 ∧ numsL ds)
  ∧ (∀ (l : List UInt8) (a deep : Nat) (b : Bool) (ns0 : List ByteArray) (ds0 : List S25) (d : S25) (a' : Nat) (r : List UInt8), tailS n l a deep b ns0 ds0 = .ok d a' r →
   ∃ ns e ds, d = ⟨if b then 5 else 4, 0, em, ns0 ++ ns, ds0 ++ e :: ds⟩ ∧ (b = false → ns = []) ∧ (b = true → ns.length = ds.length) ∧ l = printD e ++ moreL b ns ds ++ (if b then 125 else 93) :: r ∧ a' = a + (printD e).length + (moreL b ns ds).length + 1 ∧ numsD e ∧ numsL ds) := by
 induction n with
 | zero =>
  refine ⟨?_, ?_, ?_⟩
  ·intro l a deep d a' r h; simp [pieceS] at h
  ·intro l a deep b ns0 ds0 d a' r h; simp [membersS] at h
  ·intro l a deep b ns0 ds0 d a' r h; simp [tailS] at h
 | succ n ih =>
  obtain ⟨ihP, ihM, ihT⟩ := ih
  refine ⟨?_, ?_, ?_⟩
  ·intro l a deep d a' r h
   cases l with
   | nil => simp [pieceS] at h
   | cons c t =>
    rw [pieceS] at h
    split at h
    ·rename_i hc
     split at h
     ·rename_i x hw
      injection h with h1 h2 h3
      have hp := word_back hw
      rw [h1] at hp
      rw [← h2, ← h3, hp.1, List.takeWhile_append_dropWhile]
      exact ⟨rfl, rfl, hp.2⟩
     ·simp at h
    split at h
    ·rename_i hc
     split at h
     ·rename_i hw
      injection h with h1 h2 h3
      have hp := whole_of hw
      have hpr : printD d = (c :: t).takeWhile isDig := by
       rw [← h1]
       exact hp.2
      rw [← h2, ← h3, hpr, List.takeWhile_append_dropWhile, ← h1]
      exact ⟨rfl, rfl, by rw [numsD]; exact ⟨hp.1, by simp [numsL]⟩⟩
     ·simp at h
    split at h
    ·rename_i hc
     have hb := text_back h
     rw [hc]
     exact ⟨hb.1, by omega, hb.2.2⟩
    split at h
    ·rename_i hc
     by_cases hdp : 16 ≤ deep
     ·rw [if_pos hdp] at h; simp at h
     rw [if_neg hdp] at h
     rcases hc with rfl | rfl
     ·rw [if_neg (show ¬ ((91 : UInt8) = 123) by decide), if_neg (show ¬ ((91 : UInt8) = 123) by decide)] at h
      by_cases ht : t.head? = some 93
      ·rw [if_pos ht] at h
       injection h with h1 h2 h3
       have hd1 := head_at ht
       rw [← h1, ← h2, ← h3]
       have hpr : printD (⟨4, 0, em, [], []⟩ : S25) = [91, 93] := rfl
       rw [hpr]
       exact ⟨by rw [hd1]; rfl, rfl, by simp [numsD, numsL]⟩
      ·rw [if_neg ht] at h
       obtain ⟨ns, ds, rfl, hne, hb0, hb1, hl, ha, hn⟩ := ihM _ _ _ _ _ _ _ _ _ h
       rw [show decide ((91 : UInt8) = 123) = false from by decide] at hl ha hb0 ⊢
       rw [List.nil_append, List.nil_append]
       have hpr : printD (⟨4, 0, em, ns, ds⟩ : S25) = 91 :: (printL false [] ds ++ [93]) := rfl
       have hn0 := hb0 rfl
       subst hn0
       simp only [Bool.false_eq_true, if_false] at hl ha ⊢
       rw [hpr, hl]
       refine ⟨by simp, ?_, ?_⟩
       ·rw [ha]; simp only [List.length_cons, List.length_append, List.length_nil]; omega
       ·rw [numsD]; exact ⟨by decide, hn⟩
     ·rw [if_pos (show ((123 : UInt8) = 123) by decide), if_pos (show ((123 : UInt8) = 123) by decide)] at h
      by_cases ht : t.head? = some 125
      ·rw [if_pos ht] at h
       injection h with h1 h2 h3
       have hd1 := head_at ht
       rw [← h1, ← h2, ← h3]
       have hpr : printD (⟨5, 0, em, [], []⟩ : S25) = [123, 125] := rfl
       rw [hpr]
       exact ⟨by rw [hd1]; rfl, rfl, by simp [numsD, numsL]⟩
      ·rw [if_neg ht] at h
       obtain ⟨ns, ds, rfl, hne, hb0, hb1, hl, ha, hn⟩ := ihM _ _ _ _ _ _ _ _ _ h
       rw [show decide ((123 : UInt8) = 123) = true from by decide] at hl ha hb1 ⊢
       rw [List.nil_append, List.nil_append]
       have hpr : printD (⟨5, 0, em, ns, ds⟩ : S25) = 123 :: (printL true ns ds ++ [125]) := rfl
       simp only [if_true] at hl ha ⊢
       rw [hpr, hl]
       refine ⟨by simp, ?_, ?_⟩
       ·rw [ha]; simp only [List.length_cons, List.length_append, List.length_nil]; omega
       ·rw [numsD]; exact ⟨by decide, hn⟩
    ·simp at h
  ·intro l a deep b ns0 ds0 d a' r h
   rw [membersS] at h
   cases b with
   | false =>
    rw [if_neg (by simp)] at h
    obtain ⟨ns, e, ds, rfl, hb0, hb1, hl, ha, hn⟩ := ihT _ _ _ _ _ _ _ _ _ h
    have hn0 := hb0 rfl
    subst hn0
    refine ⟨[], e :: ds, rfl, by simp, fun _ => rfl, fun h => (by cases h), ?_, ?_, by rw [numsL]; exact hn⟩
    ·rw [hl, printL_cons]; simp
    ·rw [ha, printL_cons]; simp [Nat.add_assoc]
   | true =>
    rw [if_pos rfl] at h
    split at h
    ·rename_i hnm
     split at h
     ·rename_i h61
      obtain ⟨ns, e, ds, rfl, hb0, hb1, hl, ha, hn⟩ := ihT _ _ _ _ _ _ _ _ _ h
      refine ⟨mkB (l.takeWhile isNam) :: ns, e :: ds, by simp, by simp, fun h => (by cases h), fun _ => by simp [hb1 rfl], ?_, ?_, by rw [numsL]; exact hn⟩
      ·have e1 : l = l.takeWhile isNam ++ 61 :: (printD e ++ moreL true ns ds ++ 125 :: r) := by
        have := head_at h61
        rw [hl] at this
        simp only [if_true] at this
        rw [← this, List.takeWhile_append_dropWhile]
       rw [printL_cons]
       simp only [if_true, List.headD_cons, List.tail_cons, mkB_list]
       simpa using e1
      ·rw [ha, printL_cons]
       simp only [if_true, List.headD_cons, List.tail_cons, mkB_list, List.length_append, List.length_cons, List.length_nil]
       omega
     ·simp at h
    ·simp at h
  ·intro l a deep b ns0 ds0 d a' r h
   rw [tailS] at h
   cases hp : pieceS n l a deep with
   | err x y => rw [hp] at h; simp at h
   | ok e a1 r1 =>
    rw [hp] at h
    obtain ⟨p1, p2, p3⟩ := ihP _ _ _ _ _ _ hp
    simp only at h
    split at h
    ·rename_i h44
     obtain ⟨ns, ds, rfl, hne, hb0, hb1, hl, ha, hn⟩ := ihM _ _ _ _ _ _ _ _ _ h
     obtain ⟨x, ds, rfl⟩ : ∃ x s, ds = x :: s := by
      cases ds with
      | nil => exact absurd rfl hne
      | cons x s => exact ⟨x, s, rfl⟩
     refine ⟨ns, e, x :: ds, by simp, hb0, hb1, ?_, ?_, p3, hn⟩
     ·have h1 := head_at h44
      rw [hl] at h1
      rw [p1, h1, moreL]; simp
     ·rw [ha, p2, moreL]; simp only [List.length_cons]; omega
    by_cases hsh : r1.head? = some (if b then 125 else 93)
    ·rw [if_pos hsh] at h
     injection h with h1 h2 h3
     refine ⟨[], e, [], ?_, fun _ => rfl, fun _ => rfl, ?_, ?_, p3, by simp [numsL]⟩
     ·rw [← h1]; simp
     ·have h4 := head_at hsh
      rw [h3] at h4
      rw [p1, h4, moreL]; simp
     ·rw [← h2, p2, moreL]; simp
    ·rw [if_neg hsh] at h; simp at h
end Go.Proofs.YtidcecpbihmloaaGreatDoorE

namespace Go.Proofs.YtidcecpbihmloaaGreatDoorE
open Go Go.RowKit Go.Proofs.YtidcecpbihmloaaGreatDoor.M02 Go.Proofs.YtidcecpbihmloaaGreatDoor.P16
set_option linter.unusedVariables false
set_option linter.unusedSimpArgs false
/-- An order, told by a number. -/
structure Ord3 {α : Type} (f : α → α → Int) : Prop where
 neg : ∀ a b, f b a = - f a b
 eq : ∀ a b, f a b = 0 ↔ a = b
 tr : ∀ a b c, f a b ≤ 0 → f b c ≤ 0 → f a c ≤ 0
/-- The first that is not zero. -/
def orI (x y : Int) : Int := if x ≠ 0 then x else y
theorem orI_tr {α : Type} {f : α → α → Int} (hf : Ord3 f) (a b c : α) {x y z : Int} (h : x ≤ 0 → y ≤ 0 → z ≤ 0) (h1 : orI (f a b) x ≤ 0) (h2 : orI (f b c) y ≤ 0) : orI (f a c) z ≤ 0 := by
 unfold orI at *
 by_cases e1 : f a b = 0
 ·obtain rfl := (hf.eq a b).1 e1
  rw [if_neg (by omega)] at h1
  by_cases e2 : f a c = 0
  ·rw [if_neg (by omega)] at h2 ⊢
   exact h h1 h2
  ·rw [if_pos e2] at h2 ⊢
   exact h2
 ·rw [if_pos e1] at h1
  by_cases e2 : f b c = 0
  ·obtain rfl := (hf.eq b c).1 e2
   rw [if_pos e1]; exact h1
  ·rw [if_pos e2] at h2
   have ht := hf.tr a b c h1 h2
   by_cases e3 : f a c = 0
   ·obtain rfl := (hf.eq a c).1 e3
    have := hf.neg b a
    omega
   ·rw [if_pos e3]; exact ht
/-- Of lists, the first that differs; of no differing, the shorter. -/
def lexL {α : Type} (f : α → α → Int) : List α → List α → Int
 | [], [] => 0
 | [], _ :: _ => -1
 | _ :: _, [] => 1
 | a :: s, b :: t => orI (f a b) (lexL f s t)
theorem lexL_tr {α : Type} {f : α → α → Int} (hf : Ord3 f) : ∀ s t u : List α, lexL f s t ≤ 0 → lexL f t u ≤ 0 → lexL f s u ≤ 0
 | [], t, [], _, _ => by simp [lexL]
 | [], t, _ :: _, _, _ => by simp [lexL]
 | _ :: _, [], u, h, _ => by simp [lexL] at h
 | _ :: _, _ :: _, [], _, h => by simp [lexL] at h
 | a :: s, b :: t, c :: u, h1, h2 => by
  rw [lexL] at *
  exact orI_tr hf a b c (lexL_tr hf s t u) h1 h2
def cmpU (a b : UInt8) : Int := if a.toNat < b.toNat then -1 else if b.toNat < a.toNat then 1 else 0
theorem cmpU_ord : Ord3 cmpU := ⟨fun a b => by unfold cmpU; split <;> split <;> omega, fun a b => by
 rw [← UInt8.toNat_inj]; unfold cmpU; split <;> (try split) <;> omega, fun a b c h1 h2 => by
 unfold cmpU at *
 split at h1 <;> split at h2 <;> split <;> (try split) <;> (try split at h1) <;> (try split at h2) <;> omega⟩
theorem cmpL_lex : ∀ s t : List UInt8, cmpL s t = lexL cmpU s t
 | [], [] => rfl
 | [], _ :: _ => rfl
 | _ :: _, [] => rfl
 | a :: s, b :: t => by
  rw [cmpL, lexL, cmpL_lex s t]
  unfold orI cmpU
  split
  ·rfl
  ·split <;> simp
def cmpB (a b : ByteArray) : Int := cmpL a.data.toList b.data.toList
theorem cmpB_ord : Ord3 cmpB := ⟨fun a b => cmpL_neg _ _, fun a b => by
 unfold cmpB; rw [cmpL_eq]; exact ⟨fun h => B_inj h, fun h => by rw [h]⟩, fun a b c h1 h2 => by
 unfold cmpB at *
 rw [cmpL_lex] at *
 exact lexL_tr cmpU_ord _ _ _ h1 h2⟩
/-- A name that is ahead is less. -/
theorem less_cmpB (a b : ByteArray) : Op.bytesLess a.data.toList b.data.toList = true ↔ cmpB a b < 0 := by
 unfold cmpB
 rw [← less_cmpL]
 split
 ·rename_i h; rw [h]; simp
 ·rename_i h; simp only [h]; simp; split <;> omega
theorem names_lt : ∀ {ns : List ByteArray}, namesD ns = true → ∀ (i j : Nat) (h : i < j) (hj : j < ns.length), cmpB (ns[i]'(by omega)) ns[j] < 0
 | [], _, i, j, h, hj => by simp at hj
 | [n], _, i, j, h, hj => by simp at hj; omega
 | n :: m :: l, hn, i, j, h, hj => by
  have hs := hn
  simp only [namesD, Bool.and_eq_true] at hs
  have h01 : cmpB n m < 0 := (less_cmpB n m).1 hs.1.2
  cases i with
  | succ i =>
   obtain ⟨j, rfl⟩ : ∃ q, j = q + 1 := ⟨j - 1, by omega⟩
   have := names_lt hs.2 i j (by omega) (by simpa using hj)
   simpa using this
  | zero =>
   obtain ⟨j, rfl⟩ : ∃ q, j = q + 1 := ⟨j - 1, by omega⟩
   cases j with
   | zero => simpa using h01
   | succ j =>
    have h2 := names_lt hs.2 0 (j + 1) (by omega) (by simpa using hj)
    have h3 := cmpB_ord.tr n m ((n :: m :: l)[j + 1 + 1]) (by omega) (by simpa using Int.le_of_lt h2)
    simp only [List.getElem_cons_zero]
    have h4 : cmpB n ((n :: m :: l)[j + 1 + 1]) ≠ 0 := by
     intro e
     have e := (cmpB_ord.eq _ _).1 e
     have h5 := cmpB_ord.neg m n
     simp only [List.getElem_cons_succ, List.getElem_cons_zero] at h2 e
     rw [← e] at h2
     omega
    omega
end Go.Proofs.YtidcecpbihmloaaGreatDoorE

namespace Go.Proofs.YtidcecpbihmloaaGreatDoorE
open Go Go.RowKit Go.Proofs.YtidcecpbihmloaaGreatDoor.M02 Go.Proofs.YtidcecpbihmloaaGreatDoor.P16
set_option linter.unusedVariables false
set_option linter.unusedSimpArgs false
def zeroD : S25 := ⟨0, 0, em, [], []⟩
/-- What Parse says of a text. -/
def parseS (l : List UInt8) : S25 × Nat × Int := match pieceS (3 * l.length + 1) l 0 0 with
 | .err a e => (zeroD, a, e)
 | .ok d a r => if r ≠ [] then (zeroD, a, 2) else if rightD d then (d, 0, 0) else (zeroD, 0, 24)
theorem parse_print (d : S25) (hn : numsD d) (h : rightD d = true) : parseS (printD d) = (d, 0, 0) := by
 obtain ⟨r, hr⟩ := Option.isSome_iff_exists.1 h
 have hp := read_print d 2000 0 r (3 * (printD d).length + 1) 0 [] (by omega) hn hr (by intro c hc; simp at hc) (by simp)
 rw [List.append_nil] at hp
 unfold parseS
 rw [hp]
 simp only
 rw [if_neg (by simp), if_pos h]
/-- An error is one of two. -/
theorem err_code (n : Nat) :
  (∀ (l : List UInt8) (a deep : Nat) (x : Nat) (y : Int), pieceS n l a deep = (.err x y : Res S25) → y = 2 ∨ y = 11)
  ∧ (∀ (l : List UInt8) (a deep : Nat) (b : Bool) (ns0 : List ByteArray) (ds0 : List S25) (x : Nat) (y : Int), membersS n l a deep b ns0 ds0 = .err x y → y = 2 ∨ y = 11)
  ∧ (∀ (l : List UInt8) (a deep : Nat) (b : Bool) (ns0 : List ByteArray) (ds0 : List S25) (x : Nat) (y : Int), tailS n l a deep b ns0 ds0 = .err x y → y = 2 ∨ y = 11) := by
 induction n with
 | zero =>
  refine ⟨?_, ?_, ?_⟩
  ·intro l a deep x y h; simp [pieceS] at h; exact Or.inl h.2.symm
  ·intro l a deep b ns0 ds0 x y h; simp [membersS] at h; exact Or.inl h.2.symm
  ·intro l a deep b ns0 ds0 x y h; simp [tailS] at h; exact Or.inl h.2.symm
 | succ n ih =>
  obtain ⟨ihP, ihM, ihT⟩ := ih
  have e2 : ∀ {u v : Nat} {y : Int}, (Res.err u 2 : Res S25) = .err v y → y = 2 ∨ y = 11 := by
   intro u v y h; injection h with _ h; exact Or.inl h.symm
  refine ⟨?_, ?_, ?_⟩
  ·intro l a deep x y h
   cases l with
   | nil => rw [pieceS] at h; exact e2 h
   | cons c t =>
    rw [pieceS] at h
    split at h
    ·split at h
     ·cases h
     ·exact e2 h
    split at h
    ·split at h
     ·cases h
     ·exact e2 h
    split at h
    ·unfold textD at h
     split at h
     ·exact e2 h
     split at h
     ·cases h
     ·exact e2 h
    by_cases hc : c = 91 ∨ c = 123
    ·rw [if_pos hc] at h
     by_cases hd : 16 ≤ deep
     ·rw [if_pos hd] at h; injection h with _ h; exact Or.inr h.symm
     ·rw [if_neg hd] at h
      by_cases ht : t.head? = some (if c = 123 then 125 else 93)
      ·rw [if_pos ht] at h; cases h
      ·rw [if_neg ht] at h; exact ihM _ _ _ _ _ _ _ _ h
    ·rw [if_neg hc] at h; exact e2 h
  ·intro l a deep b ns0 ds0 x y h
   rw [membersS] at h
   cases b with
   | false => rw [if_neg (by simp)] at h; exact ihT _ _ _ _ _ _ _ _ h
   | true =>
    rw [if_pos rfl] at h
    split at h
    ·split at h
     ·exact ihT _ _ _ _ _ _ _ _ h
     ·exact e2 h
    ·exact e2 h
  ·intro l a deep b ns0 ds0 x y h
   rw [tailS] at h
   cases hp : (pieceS n l a deep : Res S25) with
   | err u v =>
    rw [hp] at h
    injection h with h1 h2
    rw [← h2]
    exact ihP _ _ _ _ _ hp
   | ok e a1 r1 =>
    rw [hp] at h
    simp only at h
    split at h
    ·exact ihM _ _ _ _ _ _ _ _ h
    by_cases hsh : r1.head? = some (if b then 125 else 93)
    ·rw [if_pos hsh] at h; cases h
    ·rw [if_neg hsh] at h; exact e2 h
/-- The piece of a name. -/
def getS (d : S25) (name : ByteArray) : S25 × Bool :=
 if d.f0 = 5 ∧ rightD d = true then (match d.f3.findIdx? (fun n => n.data.toList == name.data.toList) with
  | some i => (d.f4.getD i zeroD, true)
  | none => (zeroD, false)) else (zeroD, false)
mutual
theorem weighD_le : ∀ (d : S25) (left op r : Nat), weighD d left op = some r → r + 1 ≤ left
 | ⟨k, n, t, ns, l⟩, left, op, r, h => by
  obtain ⟨h0, _, _, _, h4⟩ := weigh_plain h
  have := weighL_le l (left - 1) (op + 1) r h4
  omega
theorem weighL_le : ∀ (l : List S25) (left op r : Nat), weighL l left op = some r → r + l.length ≤ left
 | [], left, op, r, h => by rw [weighL] at h; injection h with h; simp; omega
 | d :: l, left, op, r, h => by
  rw [weighL] at h
  cases hd : weighD d left op with
  | none => rw [hd] at h; cases h
  | some q =>
   rw [hd] at h
   have h1 := weighD_le d left op q hd
   have h2 := weighL_le l q op r h
   simp only [List.length_cons]
   omega
end
theorem weighL_many {l : List S25} {left op : Nat} (h : left < l.length) : weighL l left op = none := by
 cases hw : weighL l left op with
 | none => rfl
 | some r => have := weighL_le l left op r hw; omega
theorem weighL_append : ∀ (a b : List S25) (left op : Nat), weighL (a ++ b) left op = (match weighL a left op with
  | none => none
  | some r => weighL b r op)
 | [], b, left, op => by rw [List.nil_append, weighL]
 | d :: a, b, left, op => by
  rw [List.cons_append, weighL, weighL]
  cases weighD d left op with
  | none => rfl
  | some q => exact weighL_append a b q op
end Go.Proofs.YtidcecpbihmloaaGreatDoorE

namespace Go.Proofs.YtidcecpbihmloaaGreatDoorE
open Go Go.RowKit Go.Proofs.YtidcecpbihmloaaGreatDoorW.PrintWords Go.Proofs.YtidcecpbihmloaaGreatDoorX Go.Proofs.YtidcecpbihmloaaGreatDoor.P16 Go.Proofs.YtidcecpbihmloaaGreatDoor.M02
set_option linter.unusedVariables false
set_option linter.unusedSimpArgs false
abbrev DT := S25
/-- A piece of a size that fits a machine, and all within it. -/
inductive OkD : DT → Prop
 | mk (x : DT) (h0 : -9223372036854775808 ≤ x.f0 ∧ x.f0 ≤ 9223372036854775807) (h1 : -9223372036854775808 ≤ x.f1 ∧ x.f1 ≤ 9223372036854775807) (h2 : x.f2.size ≤ 140737488351232) (n3 : x.f3.length ≤ 140737488351232) (h3 : ∀ s ∈ x.f3, s.size ≤ 140737488351232) (n4 : x.f4.length ≤ 140737488351232) (h4 : ∀ y ∈ x.f4, OkD y) : OkD x
theorem OkD.out {x : DT} (h : OkD x) : (-9223372036854775808 ≤ x.f0 ∧ x.f0 ≤ 9223372036854775807) ∧ (-9223372036854775808 ≤ x.f1 ∧ x.f1 ≤ 9223372036854775807) ∧ x.f2.size ≤ 140737488351232 ∧ x.f3.length ≤ 140737488351232 ∧ (∀ s ∈ x.f3, s.size ≤ 140737488351232) ∧ x.f4.length ≤ 140737488351232 ∧ ∀ y ∈ x.f4, OkD y := by
 cases h with
 | mk _ h0 h1 h2 n3 h3 n4 h4 => exact ⟨h0, h1, h2, n3, h3, n4, h4⟩
mutual
theorem okD_nums : ∀ x : DT, OkD x → numsD x
 | ⟨k, n, t, ns, l⟩, h => by
  rw [numsD]
  exact ⟨h.out.2.1, okD_numsL l h.out.2.2.2.2.2.2⟩
theorem okD_numsL : ∀ l : List DT, (∀ y ∈ l, OkD y) → numsL l
 | [], _ => by simp [numsL]
 | d :: l, h => by
  rw [numsL]
  exact ⟨okD_nums d (h d List.mem_cons_self), okD_numsL l fun y hy => h y (List.mem_cons_of_mem _ hy)⟩
end
end Go.Proofs.YtidcecpbihmloaaGreatDoorE

namespace Go.Proofs.YtidcecpbihmloaaGreatDoorE
open Go Go.RowKit Go.Proofs.YtidcecpbihmloaaGreatDoorW.PrintWords Go.Proofs.YtidcecpbihmloaaGreatDoorX Go.Proofs.YtidcecpbihmloaaGreatDoor.P16 Go.Proofs.YtidcecpbihmloaaGreatDoor.M02
set_option linter.unusedVariables false
set_option linter.unusedSimpArgs false
def IsC (w0 W : World) (g : Nat) (left : Int) : Prop := W.heap[g]? = some (.cells #[.int .i64 left] 58 (0, 0)) ∧ w0.heap.size ≤ g
/-- What right says of a piece. -/
def rightP (w0 w : World) (g : Nat) (o : Option Nat) (e : Ending) (w' : World) : Prop := Below w0.heap.size w0 w' ∧ KeepBut w w' g none ∧ (match o with
 | some r => e = .returned (.bool true) ∧ IsC w0 w' g r
 | none => e = .returned (.bool false))
abbrev aggD (x : DT) (A3 : Option Addr) (c3 : Nat) (A4 : Option Addr) (c4 : Nat) : Value := .agg #[.int .i64 x.f0, .int .i64 x.f1, .string x.f2, .slice A3 x.f3.length c3, .slice A4 x.f4.length c4]
set_option maxHeartbeats 4000000 in
set_option maxRecDepth 100000 in
theorem right_zero (x : DT) (op : Nat) (g : Nat) (w0 w : World) (A3 : Option Addr) (c3 : Nat) (A4 : Option Addr) (c4 : Nat) (hI : IsC w0 w g (0 : Nat)) (hB : Below w0.heap.size w0 w) :
  Calls Tryz.prog 28 #[.pointer (some ⟨g, 0, none⟩), .agg #[.int .i64 x.f0, .int .i64 x.f1, .string x.f2, .slice A3 x.f3.length c3, .slice A4 x.f4.length c4], .int .i64 op] w (rightP w0 w g none) := by
 have HI := Aside0.mk hI
 have HB := Aside0.mk hB
 clear hI hB
 go_enter Tryz.func28, Tryz.ntmps28
 go_upto_region 1 with (first | ((with_reducible refine gate_dst (N := 4) rfl ?_); refine box_event ?hg (N := 4) ?hd (cs := #[.int .i64 x.f0, .int .i64 x.f1, .string x.f2, .slice A3 x.f3.length c3, .slice A4 x.f4.length c4]) (t := 25) ?hr ?_; (case hd => rfl); (case hg => rfl); (case hr => first | (go_simp; done) | (go_simp; rfl)); intro gb hg w5 hbox hb; have BK := Aside0.mk hbox; have HW := Aside0.mk hb; have HGB := Aside0.mk hg; clear hbox hb hg))
 (try simp only [Act.put, List.setIfInBounds_toArray, List.set_cons_zero, List.set_cons_succ])
 have hgw : g < w.heap.size := blk_lt HI.out.1
 have hi5 : w5.heap[g]? = some (.cells #[.int .i64 (0 : Nat)] 58 (0, 0)) := (HW.out.block g hgw).trans HI.out.1
 have c0 : w5.cell? ⟨g, 0, none⟩ = some (.int .i64 0) := (blk_cell hi5 0).trans rfl
 have f0 := blk_frozen hi5 0
 have HI5 := Aside0.mk hi5
 clear hi5
 go_wp2_with fail
 go_ret
 exact ⟨(below_then HB.out HB.out.size HW.out).setCell HI.out.2 _, (KeepBut.of_below HW.out g none).set_ 0 _, rfl⟩
end Go.Proofs.YtidcecpbihmloaaGreatDoorE

namespace Go.Proofs.YtidcecpbihmloaaGreatDoorE
open Go Go.RowKit Go.Proofs.YtidcecpbihmloaaGreatDoor.M02 Go.Proofs.YtidcecpbihmloaaGreatDoor.P16
set_option linter.unusedVariables false
set_option linter.unusedSimpArgs false
/-- The name at a place is one, and the one ahead of it is less. -/
def goodN (ns : List ByteArray) (j : Nat) : Prop := namedS true (ns.getD j em).data.toList = true ∧ (0 < j → Op.bytesLess (ns.getD (j - 1) em).data.toList (ns.getD j em).data.toList = true)
theorem namesD_good : ∀ ns : List ByteArray, namesD ns = true ↔ ∀ j, j < ns.length → goodN ns j
 | [] => ⟨fun _ j h => by simp at h, fun _ => rfl⟩
 | [n] => ⟨fun h j hj => by
   obtain rfl : j = 0 := by simp at hj; omega
   exact ⟨h, fun h => absurd h (by omega)⟩, fun h => (h 0 (by simp)).1⟩
 | n :: m :: l => by
  have ih := namesD_good (m :: l)
  rw [namesD, Bool.and_eq_true, Bool.and_eq_true, ih]
  constructor
  ·rintro ⟨⟨h1, h2⟩, h3⟩ j hj
   cases j with
   | zero => exact ⟨h1, fun h => absurd h (by omega)⟩
   | succ j =>
    have := h3 j (by simp at hj ⊢; omega)
    refine ⟨this.1, fun _ => ?_⟩
    cases j with
    | zero => exact h2
    | succ j => exact this.2 (by omega)
  ·intro h
   refine ⟨⟨(h 0 (by simp)).1, (h 1 (by simp)).2 (by omega)⟩, fun j hj => ?_⟩
   have := h (j + 1) (by simp at hj ⊢; omega)
   refine ⟨this.1, fun h0 => ?_⟩
   obtain ⟨j, rfl⟩ : ∃ q, j = q + 1 := ⟨j - 1, by omega⟩
   exact this.2 (by omega)
end Go.Proofs.YtidcecpbihmloaaGreatDoorE

namespace Go.Proofs.YtidcecpbihmloaaGreatDoorE
open Go Go.RowKit Go.Proofs.YtidcecpbihmloaaGreatDoor.M02 Go.Proofs.YtidcecpbihmloaaGreatDoor.P16
set_option linter.unusedVariables false
set_option linter.unusedSimpArgs false
theorem named_len {l : List UInt8} (h : namedS true l = true) : l.length ≤ 32 := by
 cases l with
 | nil => simp
 | cons c t =>
  rw [namedS_cons] at h
  simp only [Bool.and_eq_true, decide_eq_true_eq] at h
  simp only [List.length_cons]; omega
theorem moreL_len (b : Bool) (ns : List ByteArray) (l : List S25) : (moreL b ns l).length ≤ (printL b ns l).length + 1 := by
 cases l with
 | nil => simp [moreL]
 | cons d l => simp [moreL]
theorem head_len {ns : List ByteArray} (h : ∀ x ∈ ns, namedS true x.data.toList = true) : (ns.headD em).data.toList.length ≤ 32 := by
 cases ns with
 | nil => simp
 | cons x r => exact named_len (h x List.mem_cons_self)
mutual
theorem printD_len : ∀ (d : S25) (left op r : Nat), numsD d → weighD d left op = some r → (printD d).length + 40 + 400000 * r ≤ 400000 * left
 | ⟨k, n, t, ns, l⟩, left, op, r, hn, h => by
  obtain ⟨h0, hp, _, hns, hw⟩ := weigh_plain h
  simp only at hns hw
  rw [numsD] at hn
  have hl := printL_len l (decide (k = 5)) ns (left - 1) (op + 1) r (names_all hns) hn.2 hw
  have hc : (printL (decide (k = 5)) ns l).length + 2 + 400000 * r ≤ 400000 * left - 400000 + 2 := by omega
  have hr : r + 1 ≤ left := by
   have := weighL_le l (left - 1) (op + 1) r hw
   omega
  rcases plain_cases hp with ⟨rfl, rfl, rfl, rfl, rfl⟩ | ⟨rfl, h1, rfl, rfl, rfl⟩ | ⟨rfl, rfl, rfl, rfl⟩ | ⟨rfl, rfl, rfl, rfl, hs⟩ | ⟨rfl, rfl, rfl, rfl⟩ | ⟨rfl, rfl, rfl, hl⟩
  ·have e : (printD (⟨0, 0, em, [], []⟩ : S25)).length = 4 := rfl
   omega
  ·rcases h1 with rfl | rfl
   ·have e : (printD (⟨1, 0, em, [], []⟩ : S25)).length = 2 := rfl
    omega
   ·have e : (printD (⟨1, 1, em, [], []⟩ : S25)).length = 3 := rfl
    omega
  ·have e : printD (⟨2, n, em, [], []⟩ : S25) = Lib.itoa n := rfl
   have := Lib.itoa_length_le n hn.1.1 hn.1.2
   rw [e]; omega
  ·have e : printD (⟨3, 0, t, [], []⟩ : S25) = 34 :: (escS t.data.toList ++ [34]) := rfl
   have h2 := escS_len t.data.toList
   have h3 : t.data.toList.length = t.size := by rw [Array.length_toList]; rfl
   rw [e]; simp only [List.length_cons, List.length_append, List.length_nil]; omega
  ·have e : printD (⟨4, 0, em, [], l⟩ : S25) = 91 :: (printL false [] l ++ [93]) := rfl
   have hc' : (printL false [] l).length + 2 + 400000 * r ≤ 400000 * left - 400000 + 2 := hc
   rw [e]; simp only [List.length_cons, List.length_append, List.length_nil]; omega
  ·have e : printD (⟨5, 0, em, ns, l⟩ : S25) = 123 :: (printL true ns l ++ [125]) := rfl
   have hc' : (printL true ns l).length + 2 + 400000 * r ≤ 400000 * left - 400000 + 2 := hc
   rw [e]; simp only [List.length_cons, List.length_append, List.length_nil]; omega
theorem printL_len : ∀ (l : List S25) (b : Bool) (ns : List ByteArray) (left op r : Nat), (∀ x ∈ ns, namedS true x.data.toList = true) → numsL l → weighL l left op = some r → (printL b ns l).length + 400000 * r ≤ 400000 * left
 | [], b, ns, left, op, r, hns, hn, h => by
  rw [weighL] at h
  injection h with h
  simp [printL]; omega
 | d :: l, b, ns, left, op, r, hns, hn, h => by
  rw [weighL] at h
  rw [numsL] at hn
  cases hd : weighD d left op with
  | none => rw [hd] at h; cases h
  | some q =>
   rw [hd] at h
   have h1 := printD_len d left op q hn.1 hd
   have h2 := printL_len l b ns.tail q op r (fun x hx => hns x (List.mem_of_mem_tail hx)) hn.2 h
   have h3 := moreL_len b ns.tail l
   have h4 := head_len hns
   rw [printL_cons, List.length_append, List.length_append]
   have h5 : (if b = true then (ns.headD em).data.toList ++ [61] else []).length ≤ 33 := by
    split
    ·rw [List.length_append]; simp only [List.length_cons, List.length_nil]; omega
    ·simp
   omega
end
theorem right_len {d : S25} (hn : numsD d) (h : rightD d = true) : (printD d).length ≤ 800000000 := by
 obtain ⟨r, hr⟩ := Option.isSome_iff_exists.1 h
 have := printD_len d 2000 0 r hn hr
 omega
/-- What a reading leaves is the text from the place that it tells. -/
theorem piece_at {n : Nat} {l : List UInt8} {a deep : Nat} {d : S25} {a' : Nat} {r : List UInt8} (h : pieceS n l a deep = .ok d a' r) : ∃ k, k ≤ l.length ∧ a' = a + k ∧ r = l.drop k := by
 obtain ⟨h1, h2, _⟩ := (print_read n).1 l a deep d a' r h
 refine ⟨(printD d).length, ?_, h2, ?_⟩
 ·rw [h1, List.length_append]; omega
 ·rw [h1, List.drop_left]
end Go.Proofs.YtidcecpbihmloaaGreatDoorE

namespace Go.Proofs.YtidcecpbihmloaaGreatDoorE
open Go Go.RowKit Go.Proofs.YtidcecpbihmloaaGreatDoorW.PrintWords Go.Proofs.YtidcecpbihmloaaGreatDoorX Go.Proofs.YtidcecpbihmloaaGreatDoor.P16 Go.Proofs.YtidcecpbihmloaaGreatDoor.M02
set_option linter.unusedVariables false
set_option linter.unusedSimpArgs false
set_option maxRecDepth 100000
theorem w64_0 : wrap64 0 = 0 := w64 (by decide) (by decide)
theorem sum_zero2 (ns : List ByteArray) (l : List DT) (h3 : ns.length ≤ 140737488351232) (h4 : l.length ≤ 140737488351232) : wrap64 ((ns.length : Int) + (l.length : Int)) = 0 ↔ ns = [] ∧ l = [] := by
 rw [w64 (by omega) (by omega)]
 cases ns <;> cases l <;> simp <;> omega
theorem plain_out {kd n : Int} {t : ByteArray} {ns : List ByteArray} {l : List DT} (h : ¬ (0 ≤ kd ∧ kd ≤ 5)) : plainD (⟨kd, n, t, ns, l⟩ : DT) = false := by
 unfold plainD
 rw [if_neg (by simp only; omega), if_neg (by simp only; omega), if_neg (by simp only; omega), if_neg (by simp only; omega), if_neg (by simp only; omega), if_neg (by simp only; omega)]
set_option maxHeartbeats 8000000 in
theorem qplain_0 (n : Int) (t : ByteArray) (ns : List ByteArray) (l : List DT) (h3 : ns.length ≤ 140737488351232) (h4 : l.length ≤ 140737488351232) (A3 : Option Addr) (c3 : Nat) (A4 : Option Addr) (c4 : Nat) (w : World) (hgl : GL w) : Calls Tryz.prog 50 #[.agg #[.int .i64 0, .int .i64 n, .string t, .slice A3 ns.length c3, .slice A4 l.length c4]] w fun e w' => e = .returned (.bool (plainD (⟨0, n, t, ns, l⟩ : DT))) ∧ Below w.heap.size w w' := by
 have HG := Aside0.mk hgl
 have HS := Aside0.mk (sum_zero2 ns l h3 h4)
 have HT := Aside0.mk (toList_data t)
 clear hgl
 obtain ⟨fb, hfb⟩ : ∃ fb, fb = decide (t.size ≤ 65536) := ⟨_, rfl⟩
 have HF := Aside0.mk (show chars_Fits.f t = some fb by rw [hfb]; unfold chars_Fits.f; exact congrArg some (decide_eq_decide.2 (by omega)))
 rw [show plainD (⟨0, n, t, ns, l⟩ : DT) = (decide (n = 0) && t.data.toList.isEmpty && ns.isEmpty && l.isEmpty) by rfl]
 clear hfb
 go_enter Tryz.func50, Tryz.ntmps50
 go_wp2_with (go_at_call 70; go_loud (with_reducible refine (chars_Fits.calls t fb _ (HG.out.below (below_alloc (Below.refl _ _) _)) HF.out).mono ?_); rintro e w5 ⟨rfl, hb5⟩; have HB5 := Aside0.mk hb5.below; clear hb5)
 all_goals go_ret
 all_goals (refine ⟨?_, ?_⟩; rotate_left; (first | exact below_alloc (Below.refl _ _) _ | exact below_then (below_alloc (Below.refl _ _) _) (by simp) HB5.out))
 all_goals
  (have HS := HS.out
   have HT := HT.out
   try clear HB5
   clear HG HF
   cases ns <;> cases l <;> simp_all [w64_0] <;> omega)
set_option maxHeartbeats 8000000 in
theorem qplain_1 (n : Int) (t : ByteArray) (ns : List ByteArray) (l : List DT) (h3 : ns.length ≤ 140737488351232) (h4 : l.length ≤ 140737488351232) (A3 : Option Addr) (c3 : Nat) (A4 : Option Addr) (c4 : Nat) (w : World) (hgl : GL w) : Calls Tryz.prog 50 #[.agg #[.int .i64 1, .int .i64 n, .string t, .slice A3 ns.length c3, .slice A4 l.length c4]] w fun e w' => e = .returned (.bool (plainD (⟨1, n, t, ns, l⟩ : DT))) ∧ Below w.heap.size w w' := by
 have HG := Aside0.mk hgl
 have HS := Aside0.mk (sum_zero2 ns l h3 h4)
 have HT := Aside0.mk (toList_data t)
 clear hgl
 obtain ⟨fb, hfb⟩ : ∃ fb, fb = decide (t.size ≤ 65536) := ⟨_, rfl⟩
 have HF := Aside0.mk (show chars_Fits.f t = some fb by rw [hfb]; unfold chars_Fits.f; exact congrArg some (decide_eq_decide.2 (by omega)))
 rw [show plainD (⟨1, n, t, ns, l⟩ : DT) = ((decide (n = 0) || decide (n = 1)) && t.data.toList.isEmpty && ns.isEmpty && l.isEmpty) by rfl]
 clear hfb
 go_enter Tryz.func50, Tryz.ntmps50
 go_wp2_with (go_at_call 70; go_loud (with_reducible refine (chars_Fits.calls t fb _ (HG.out.below (below_alloc (Below.refl _ _) _)) HF.out).mono ?_); rintro e w5 ⟨rfl, hb5⟩; have HB5 := Aside0.mk hb5.below; clear hb5)
 all_goals go_ret
 all_goals (refine ⟨?_, ?_⟩; rotate_left; (first | exact below_alloc (Below.refl _ _) _ | exact below_then (below_alloc (Below.refl _ _) _) (by simp) HB5.out))
 all_goals
  (have HS := HS.out
   have HT := HT.out
   try clear HB5
   clear HG HF
   cases ns <;> cases l <;> simp_all [w64_0] <;> omega)
set_option maxHeartbeats 8000000 in
theorem qplain_2 (n : Int) (t : ByteArray) (ns : List ByteArray) (l : List DT) (h3 : ns.length ≤ 140737488351232) (h4 : l.length ≤ 140737488351232) (A3 : Option Addr) (c3 : Nat) (A4 : Option Addr) (c4 : Nat) (w : World) (hgl : GL w) : Calls Tryz.prog 50 #[.agg #[.int .i64 2, .int .i64 n, .string t, .slice A3 ns.length c3, .slice A4 l.length c4]] w fun e w' => e = .returned (.bool (plainD (⟨2, n, t, ns, l⟩ : DT))) ∧ Below w.heap.size w w' := by
 have HG := Aside0.mk hgl
 have HS := Aside0.mk (sum_zero2 ns l h3 h4)
 have HT := Aside0.mk (toList_data t)
 clear hgl
 obtain ⟨fb, hfb⟩ : ∃ fb, fb = decide (t.size ≤ 65536) := ⟨_, rfl⟩
 have HF := Aside0.mk (show chars_Fits.f t = some fb by rw [hfb]; unfold chars_Fits.f; exact congrArg some (decide_eq_decide.2 (by omega)))
 rw [show plainD (⟨2, n, t, ns, l⟩ : DT) = (t.data.toList.isEmpty && ns.isEmpty && l.isEmpty) by rfl]
 clear hfb
 go_enter Tryz.func50, Tryz.ntmps50
 go_wp2_with (go_at_call 70; go_loud (with_reducible refine (chars_Fits.calls t fb _ (HG.out.below (below_alloc (Below.refl _ _) _)) HF.out).mono ?_); rintro e w5 ⟨rfl, hb5⟩; have HB5 := Aside0.mk hb5.below; clear hb5)
 all_goals go_ret
 all_goals (refine ⟨?_, ?_⟩; rotate_left; (first | exact below_alloc (Below.refl _ _) _ | exact below_then (below_alloc (Below.refl _ _) _) (by simp) HB5.out))
 all_goals
  (have HS := HS.out
   have HT := HT.out
   try clear HB5
   clear HG HF
   cases ns <;> cases l <;> simp_all [w64_0] <;> omega)
set_option maxHeartbeats 8000000 in
theorem qplain_3 (n : Int) (t : ByteArray) (ns : List ByteArray) (l : List DT) (h3 : ns.length ≤ 140737488351232) (h4 : l.length ≤ 140737488351232) (A3 : Option Addr) (c3 : Nat) (A4 : Option Addr) (c4 : Nat) (w : World) (hgl : GL w) : Calls Tryz.prog 50 #[.agg #[.int .i64 3, .int .i64 n, .string t, .slice A3 ns.length c3, .slice A4 l.length c4]] w fun e w' => e = .returned (.bool (plainD (⟨3, n, t, ns, l⟩ : DT))) ∧ Below w.heap.size w w' := by
 have HG := Aside0.mk hgl
 have HS := Aside0.mk (sum_zero2 ns l h3 h4)
 have HT := Aside0.mk (toList_data t)
 clear hgl
 obtain ⟨fb, hfb⟩ : ∃ fb, fb = decide (t.size ≤ 65536) := ⟨_, rfl⟩
 have HF := Aside0.mk (show chars_Fits.f t = some fb by rw [hfb]; unfold chars_Fits.f; exact congrArg some (decide_eq_decide.2 (by omega)))
 rw [show plainD (⟨3, n, t, ns, l⟩ : DT) = (decide (n = 0) && ns.isEmpty && l.isEmpty && fb) by rw [hfb]; rfl]
 clear hfb
 go_enter Tryz.func50, Tryz.ntmps50
 go_wp2_with (go_at_call 70; go_loud (with_reducible refine (chars_Fits.calls t fb _ (HG.out.below (below_alloc (Below.refl _ _) _)) HF.out).mono ?_); rintro e w5 ⟨rfl, hb5⟩; have HB5 := Aside0.mk hb5.below; clear hb5)
 all_goals go_ret
 all_goals (refine ⟨?_, ?_⟩; rotate_left; (first | exact below_alloc (Below.refl _ _) _ | exact below_then (below_alloc (Below.refl _ _) _) (by simp) HB5.out))
 all_goals
  (have HS := HS.out
   have HT := HT.out
   try clear HB5
   clear HG HF
   cases ns <;> cases l <;> simp_all [w64_0] <;> omega)
set_option maxHeartbeats 8000000 in
theorem qplain_4 (n : Int) (t : ByteArray) (ns : List ByteArray) (l : List DT) (h3 : ns.length ≤ 140737488351232) (h4 : l.length ≤ 140737488351232) (A3 : Option Addr) (c3 : Nat) (A4 : Option Addr) (c4 : Nat) (w : World) (hgl : GL w) : Calls Tryz.prog 50 #[.agg #[.int .i64 4, .int .i64 n, .string t, .slice A3 ns.length c3, .slice A4 l.length c4]] w fun e w' => e = .returned (.bool (plainD (⟨4, n, t, ns, l⟩ : DT))) ∧ Below w.heap.size w w' := by
 have HG := Aside0.mk hgl
 have HS := Aside0.mk (sum_zero2 ns l h3 h4)
 have HT := Aside0.mk (toList_data t)
 clear hgl
 obtain ⟨fb, hfb⟩ : ∃ fb, fb = decide (t.size ≤ 65536) := ⟨_, rfl⟩
 have HF := Aside0.mk (show chars_Fits.f t = some fb by rw [hfb]; unfold chars_Fits.f; exact congrArg some (decide_eq_decide.2 (by omega)))
 rw [show plainD (⟨4, n, t, ns, l⟩ : DT) = (decide (n = 0) && t.data.toList.isEmpty && ns.isEmpty) by rfl]
 clear hfb
 go_enter Tryz.func50, Tryz.ntmps50
 go_wp2_with (go_at_call 70; go_loud (with_reducible refine (chars_Fits.calls t fb _ (HG.out.below (below_alloc (Below.refl _ _) _)) HF.out).mono ?_); rintro e w5 ⟨rfl, hb5⟩; have HB5 := Aside0.mk hb5.below; clear hb5)
 all_goals go_ret
 all_goals (refine ⟨?_, ?_⟩; rotate_left; (first | exact below_alloc (Below.refl _ _) _ | exact below_then (below_alloc (Below.refl _ _) _) (by simp) HB5.out))
 all_goals
  (have HS := HS.out
   have HT := HT.out
   try clear HB5
   clear HG HF
   cases ns <;> cases l <;> simp_all [w64_0] <;> omega)
set_option maxHeartbeats 8000000 in
theorem qplain_5 (n : Int) (t : ByteArray) (ns : List ByteArray) (l : List DT) (h3 : ns.length ≤ 140737488351232) (h4 : l.length ≤ 140737488351232) (A3 : Option Addr) (c3 : Nat) (A4 : Option Addr) (c4 : Nat) (w : World) (hgl : GL w) : Calls Tryz.prog 50 #[.agg #[.int .i64 5, .int .i64 n, .string t, .slice A3 ns.length c3, .slice A4 l.length c4]] w fun e w' => e = .returned (.bool (plainD (⟨5, n, t, ns, l⟩ : DT))) ∧ Below w.heap.size w w' := by
 have HG := Aside0.mk hgl
 have HS := Aside0.mk (sum_zero2 ns l h3 h4)
 have HT := Aside0.mk (toList_data t)
 clear hgl
 obtain ⟨fb, hfb⟩ : ∃ fb, fb = decide (t.size ≤ 65536) := ⟨_, rfl⟩
 have HF := Aside0.mk (show chars_Fits.f t = some fb by rw [hfb]; unfold chars_Fits.f; exact congrArg some (decide_eq_decide.2 (by omega)))
 rw [show plainD (⟨5, n, t, ns, l⟩ : DT) = (decide (n = 0) && t.data.toList.isEmpty && ((ns.length : Int) == (l.length : Int))) by rw [show ((ns.length : Int) == (l.length : Int)) = decide (ns.length = l.length) by rw [Bool.eq_iff_iff]; simp; omega]; rfl]
 clear hfb
 go_enter Tryz.func50, Tryz.ntmps50
 go_wp2_with (go_at_call 70; go_loud (with_reducible refine (chars_Fits.calls t fb _ (HG.out.below (below_alloc (Below.refl _ _) _)) HF.out).mono ?_); rintro e w5 ⟨rfl, hb5⟩; have HB5 := Aside0.mk hb5.below; clear hb5)
 all_goals go_ret
 all_goals (refine ⟨?_, ?_⟩; rotate_left; (first | exact below_alloc (Below.refl _ _) _ | exact below_then (below_alloc (Below.refl _ _) _) (by simp) HB5.out))
 all_goals
  (have HS := HS.out
   have HT := HT.out
   try clear HB5
   clear HG HF
   simp_all)
theorem qplain_c (kd : Int) (n : Int) (t : ByteArray) (ns : List ByteArray) (l : List DT) (h3 : ns.length ≤ 140737488351232) (h4 : l.length ≤ 140737488351232) (A3 : Option Addr) (c3 : Nat) (A4 : Option Addr) (c4 : Nat) (w : World) (hgl : GL w) : Calls Tryz.prog 50 #[.agg #[.int .i64 kd, .int .i64 n, .string t, .slice A3 ns.length c3, .slice A4 l.length c4]] w fun e w' => e = .returned (.bool (plainD (⟨kd, n, t, ns, l⟩ : DT))) ∧ Below w.heap.size w w' := by
 by_cases hk : 0 ≤ kd ∧ kd ≤ 5
 ·have hk : kd = 0 ∨ kd = 1 ∨ kd = 2 ∨ kd = 3 ∨ kd = 4 ∨ kd = 5 := by omega
  rcases hk with rfl | rfl | rfl | rfl | rfl | rfl
  ·exact qplain_0 n t ns l h3 h4 A3 c3 A4 c4 w hgl
  ·exact qplain_1 n t ns l h3 h4 A3 c3 A4 c4 w hgl
  ·exact qplain_2 n t ns l h3 h4 A3 c3 A4 c4 w hgl
  ·exact qplain_3 n t ns l h3 h4 A3 c3 A4 c4 w hgl
  ·exact qplain_4 n t ns l h3 h4 A3 c3 A4 c4 w hgl
  ·exact qplain_5 n t ns l h3 h4 A3 c3 A4 c4 w hgl
 ·rw [plain_out hk]
  have k0 : (kd == 0) = false := by simp; omega
  have k1 : (kd == 1) = false := by simp; omega
  have k2 : (kd == 2) = false := by simp; omega
  have k3 : (kd == 3) = false := by simp; omega
  have k4 : (kd == 4) = false := by simp; omega
  have k5 : (kd == 5) = false := by simp; omega
  clear hk
  go_enter Tryz.func50, Tryz.ntmps50
  go_wp2_with fail
  go_ret
  exact ⟨rfl, below_alloc (Below.refl _ _) _⟩
theorem qplain_is (kd n : Int) (t : ByteArray) (A3 : Option Addr) (c3 : Nat) (ns : List ByteArray) (A4 : Option Addr) (c4 : Nat) (l : List DT) (r : Bool) (w : World) (hgl : GL w) (h : plainD (⟨kd, n, t, ns, l⟩ : DT) = r ∧ ns.length ≤ 140737488351232 ∧ l.length ≤ 140737488351232) : Calls Tryz.prog 50 #[.agg #[.int .i64 kd, .int .i64 n, .string t, .slice A3 ns.length c3, .slice A4 l.length c4]] w fun e w' => e = .returned (.bool r) ∧ Below w.heap.size w w' := h.1 ▸ qplain_c kd n t ns l h.2.1 h.2.2 A3 c3 A4 c4 w hgl
end Go.Proofs.YtidcecpbihmloaaGreatDoorE

namespace Go.Proofs.YtidcecpbihmloaaGreatDoorE
open Go Go.RowKit Go.Proofs.YtidcecpbihmloaaGreatDoorW.PrintWords Go.Proofs.YtidcecpbihmloaaGreatDoorX Go.Proofs.YtidcecpbihmloaaGreatDoor.P16 Go.Proofs.YtidcecpbihmloaaGreatDoor.M02
set_option linter.unusedVariables false
set_option linter.unusedSimpArgs false
set_option maxHeartbeats 4000000 in
set_option maxRecDepth 100000 in
theorem right_bad (x : DT) (hx : OkD x) (hp : plainD x = false) (L op : Nat) (hL : L ≤ 2000) (g : Nat) (w0 w : World) (hgl : GL w0) (A3 : Option Addr) (c3 : Nat) (A4 : Option Addr) (c4 : Nat) (l3 : x.f3.length ≤ c3) (g3 : Kd.string.C w0 A3 x.f3.length x.f3) (l4 : x.f4.length ≤ c4) (g4 : k25.C w0 A4 x.f4.length x.f4) (hI : IsC w0 w g (L + 1 : Nat)) (hB : Below w0.heap.size w0 w) :
  Calls Tryz.prog 28 #[.pointer (some ⟨g, 0, none⟩), .agg #[.int .i64 x.f0, .int .i64 x.f1, .string x.f2, .slice A3 x.f3.length c3, .slice A4 x.f4.length c4], .int .i64 op] w (rightP w0 w g none) := by
 have HI := Aside0.mk hI
 have HB := Aside0.mk hB
 have HG := Aside0.mk hgl
 have H3 := Aside0.mk g3
 have H4 := Aside0.mk g4
 have HP := Aside0.mk (show plainD (⟨x.f0, x.f1, x.f2, x.f3, x.f4⟩ : DT) = false ∧ x.f3.length ≤ 140737488351232 ∧ x.f4.length ≤ 140737488351232 from ⟨hp, hx.out.2.2.2.1, hx.out.2.2.2.2.2.1⟩)
 clear hI hB hgl g3 g4 hx hp
 go_enter Tryz.func28, Tryz.ntmps28
 go_upto_region 1 with (first | ((with_reducible refine gate_dst (N := 4) rfl ?_); refine box_event ?hg (N := 4) ?hd (cs := #[.int .i64 x.f0, .int .i64 x.f1, .string x.f2, .slice A3 x.f3.length c3, .slice A4 x.f4.length c4]) (t := 25) ?hr ?_; (case hd => rfl); (case hg => rfl); (case hr => first | (go_simp; done) | (go_simp; rfl)); intro gb hg w5 hbox hb; have BK := Aside0.mk hbox; have HW := Aside0.mk hb; have HGB := Aside0.mk hg; clear hbox hb hg))
 (try simp only [Act.put, List.setIfInBounds_toArray, List.set_cons_zero, List.set_cons_succ])
 have hgw : g < w.heap.size := blk_lt HI.out.1
 have hne : gb ≠ g := by rw [HGB.out]; omega
 have hi5 : w5.heap[g]? = some (.cells #[.int .i64 (L + 1 : Nat)] 58 (0, 0)) := (HW.out.block g hgw).trans HI.out.1
 have c0 : w5.cell? ⟨g, 0, none⟩ = some (.int .i64 ((L + 1 : Nat) : Int)) := (blk_cell hi5 0).trans rfl
 have f0 := blk_frozen hi5 0
 have HI5 := Aside0.mk hi5
 clear hi5
 have b0 : w5.cell? ⟨gb, 0, none⟩ = some (.int .i64 x.f0) := (blk_cell BK.out 0).trans rfl
 have b1 : w5.cell? ⟨gb, 1, none⟩ = some (.int .i64 x.f1) := (blk_cell BK.out 1).trans rfl
 have b2 : w5.cell? ⟨gb, 2, none⟩ = some (.string x.f2) := (blk_cell BK.out 2).trans rfl
 have b3 : w5.cell? ⟨gb, 3, none⟩ = some (.slice A3 x.f3.length c3) := (blk_cell BK.out 3).trans rfl
 have b4 : w5.cell? ⟨gb, 4, none⟩ = some (.slice A4 x.f4.length c4) := (blk_cell BK.out 4).trans rfl
 have e1 : wrap64 (((L + 1 : Nat) : Int) - 1) = (L : Int) := by rw [w64 (by omega) (by omega)]; omega
 have HW1 := Aside0.mk (show Below w0.heap.size w0 (w5.setCell ⟨g, 0, none⟩ (.int .i64 (L : Int))) from (below_then HB.out HB.out.size HW.out).setCell HI.out.2 _)
 have HK1 := Aside0.mk (show KeepBut w (w5.setCell ⟨g, 0, none⟩ (.int .i64 (L : Int))) g none from (KeepBut.of_below HW.out g none).set_ 0 _)
 go_wp2_with (go_at_call 50; go_loud (with_reducible refine (qplain_is x.f0 x.f1 x.f2 _ _ x.f3 _ _ x.f4 false _ (HG.out.below HW1.out) HP.out).mono ?_); rintro e w' ⟨rfl, hb⟩; have HW2 := Aside0.mk hb; clear hb)
 go_ret
 exact ⟨below_then HW1.out HW1.out.size HW2.out, HK1.out.trans (KeepBut.of_below HW2.out g none) (.inl rfl), rfl⟩
end Go.Proofs.YtidcecpbihmloaaGreatDoorE

namespace Go.Proofs.YtidcecpbihmloaaGreatDoorE
open Go Go.RowKit Go.Proofs.YtidcecpbihmloaaGreatDoorW.PrintWords Go.Proofs.YtidcecpbihmloaaGreatDoorX Go.Proofs.YtidcecpbihmloaaGreatDoor.P16 Go.Proofs.YtidcecpbihmloaaGreatDoor.M02
set_option linter.unusedVariables false
set_option linter.unusedSimpArgs false
set_option maxHeartbeats 4000000 in
set_option maxRecDepth 100000 in
theorem right_leaf (x : DT) (hx : OkD x) (hp : plainD x = true) (hk : x.f0 < 4) (L op : Nat) (hL : L ≤ 2000) (g : Nat) (w0 w : World) (hgl : GL w0) (A3 : Option Addr) (c3 : Nat) (A4 : Option Addr) (c4 : Nat) (l3 : x.f3.length ≤ c3) (g3 : Kd.string.C w0 A3 x.f3.length x.f3) (l4 : x.f4.length ≤ c4) (g4 : k25.C w0 A4 x.f4.length x.f4) (hI : IsC w0 w g (L + 1 : Nat)) (hB : Below w0.heap.size w0 w) :
  Calls Tryz.prog 28 #[.pointer (some ⟨g, 0, none⟩), .agg #[.int .i64 x.f0, .int .i64 x.f1, .string x.f2, .slice A3 x.f3.length c3, .slice A4 x.f4.length c4], .int .i64 op] w (rightP w0 w g (some L)) := by
 have HI := Aside0.mk hI
 have HB := Aside0.mk hB
 have HG := Aside0.mk hgl
 have H3 := Aside0.mk g3
 have H4 := Aside0.mk g4
 have HP := Aside0.mk (show plainD (⟨x.f0, x.f1, x.f2, x.f3, x.f4⟩ : DT) = true ∧ x.f3.length ≤ 140737488351232 ∧ x.f4.length ≤ 140737488351232 from ⟨hp, hx.out.2.2.2.1, hx.out.2.2.2.2.2.1⟩)
 clear hI hB hgl g3 g4 hx hp
 go_enter Tryz.func28, Tryz.ntmps28
 go_upto_region 1 with (first | ((with_reducible refine gate_dst (N := 4) rfl ?_); refine box_event ?hg (N := 4) ?hd (cs := #[.int .i64 x.f0, .int .i64 x.f1, .string x.f2, .slice A3 x.f3.length c3, .slice A4 x.f4.length c4]) (t := 25) ?hr ?_; (case hd => rfl); (case hg => rfl); (case hr => first | (go_simp; done) | (go_simp; rfl)); intro gb hg w5 hbox hb; have BK := Aside0.mk hbox; have HW := Aside0.mk hb; have HGB := Aside0.mk hg; clear hbox hb hg))
 (try simp only [Act.put, List.setIfInBounds_toArray, List.set_cons_zero, List.set_cons_succ])
 have hgw : g < w.heap.size := blk_lt HI.out.1
 have hne : gb ≠ g := by rw [HGB.out]; omega
 have hi5 : w5.heap[g]? = some (.cells #[.int .i64 (L + 1 : Nat)] 58 (0, 0)) := (HW.out.block g hgw).trans HI.out.1
 have c0 : w5.cell? ⟨g, 0, none⟩ = some (.int .i64 ((L + 1 : Nat) : Int)) := (blk_cell hi5 0).trans rfl
 have f0 := blk_frozen hi5 0
 have HI5 := Aside0.mk hi5
 clear hi5
 have b0 : w5.cell? ⟨gb, 0, none⟩ = some (.int .i64 x.f0) := (blk_cell BK.out 0).trans rfl
 have b1 : w5.cell? ⟨gb, 1, none⟩ = some (.int .i64 x.f1) := (blk_cell BK.out 1).trans rfl
 have b2 : w5.cell? ⟨gb, 2, none⟩ = some (.string x.f2) := (blk_cell BK.out 2).trans rfl
 have b3 : w5.cell? ⟨gb, 3, none⟩ = some (.slice A3 x.f3.length c3) := (blk_cell BK.out 3).trans rfl
 have b4 : w5.cell? ⟨gb, 4, none⟩ = some (.slice A4 x.f4.length c4) := (blk_cell BK.out 4).trans rfl
 have e1 : wrap64 (((L + 1 : Nat) : Int) - 1) = (L : Int) := by rw [w64 (by omega) (by omega)]; omega
 have HW1 := Aside0.mk (show Below w0.heap.size w0 (w5.setCell ⟨g, 0, none⟩ (.int .i64 (L : Int))) from (below_then HB.out HB.out.size HW.out).setCell HI.out.2 _)
 have HK1 := Aside0.mk (show KeepBut w (w5.setCell ⟨g, 0, none⟩ (.int .i64 (L : Int))) g none from (KeepBut.of_below HW.out g none).set_ 0 _)
 have bg : (w5.setCell ⟨g, 0, none⟩ (.int .i64 (L : Int))).heap[gb]? = some (.cells #[.int .i64 x.f0, .int .i64 x.f1, .string x.f2, .slice A3 x.f3.length c3, .slice A4 x.f4.length c4] 25 (0, 0)) := (KeepBut.set_ (KeepBut.refl w5 g none) 0 _).blk BK.out hne (by simp)
 have BG := Aside0.mk bg
 have HIL := Aside0.mk (show IsC w0 (w5.setCell ⟨g, 0, none⟩ (.int .i64 (L : Int))) g (L : Int) from ⟨by rw [blk_set HI5.out 0 _]; rfl, HI.out.2⟩)
 clear bg
 go_wp2_with (go_at_call 50; go_loud (with_reducible refine (qplain_is x.f0 x.f1 x.f2 _ _ x.f3 _ _ x.f4 true _ (HG.out.below HW1.out) HP.out).mono ?_); rintro e w' ⟨rfl, hb⟩; have d0 : w'.cell? ⟨gb, 0, none⟩ = some (.int .i64 x.f0) := (blk_cell ((hb.block gb (blk_lt BG.out)).trans BG.out) 0).trans rfl; have HW2 := Aside0.mk hb; clear hb)
 go_ret
 exact ⟨below_then HW1.out HW1.out.size HW2.out, HK1.out.trans (KeepBut.of_below HW2.out g none) (.inl rfl), rfl, (HW2.out.block g (blk_lt HIL.out.1)).trans HIL.out.1, HIL.out.2⟩
end Go.Proofs.YtidcecpbihmloaaGreatDoorE

namespace Go.Proofs.YtidcecpbihmloaaGreatDoorE
open Go Go.RowKit Go.Proofs.YtidcecpbihmloaaGreatDoorW.PrintWords Go.Proofs.YtidcecpbihmloaaGreatDoorX Go.Proofs.YtidcecpbihmloaaGreatDoor.P16 Go.Proofs.YtidcecpbihmloaaGreatDoor.M02
set_option linter.unusedVariables false
set_option linter.unusedSimpArgs false
set_option maxHeartbeats 4000000 in
set_option maxRecDepth 100000 in
theorem right_much (x : DT) (hx : OkD x) (hp : plainD x = true) (hk : ¬ x.f0 < 4) (L op : Nat) (hL : L ≤ 2000) (hmu : op = 16 ∨ L < x.f4.length) (g : Nat) (w0 w : World) (hgl : GL w0) (A3 : Option Addr) (c3 : Nat) (A4 : Option Addr) (c4 : Nat) (l3 : x.f3.length ≤ c3) (g3 : Kd.string.C w0 A3 x.f3.length x.f3) (l4 : x.f4.length ≤ c4) (g4 : k25.C w0 A4 x.f4.length x.f4) (hI : IsC w0 w g (L + 1 : Nat)) (hB : Below w0.heap.size w0 w) :
  Calls Tryz.prog 28 #[.pointer (some ⟨g, 0, none⟩), .agg #[.int .i64 x.f0, .int .i64 x.f1, .string x.f2, .slice A3 x.f3.length c3, .slice A4 x.f4.length c4], .int .i64 op] w (rightP w0 w g none) := by
 have HI := Aside0.mk hI
 have HB := Aside0.mk hB
 have HG := Aside0.mk hgl
 have H3 := Aside0.mk g3
 have H4 := Aside0.mk g4
 have HP := Aside0.mk (show plainD (⟨x.f0, x.f1, x.f2, x.f3, x.f4⟩ : DT) = true ∧ x.f3.length ≤ 140737488351232 ∧ x.f4.length ≤ 140737488351232 from ⟨hp, hx.out.2.2.2.1, hx.out.2.2.2.2.2.1⟩)
 clear hI hB hgl g3 g4 hx hp
 go_enter Tryz.func28, Tryz.ntmps28
 go_upto_region 1 with (first | ((with_reducible refine gate_dst (N := 4) rfl ?_); refine box_event ?hg (N := 4) ?hd (cs := #[.int .i64 x.f0, .int .i64 x.f1, .string x.f2, .slice A3 x.f3.length c3, .slice A4 x.f4.length c4]) (t := 25) ?hr ?_; (case hd => rfl); (case hg => rfl); (case hr => first | (go_simp; done) | (go_simp; rfl)); intro gb hg w5 hbox hb; have BK := Aside0.mk hbox; have HW := Aside0.mk hb; have HGB := Aside0.mk hg; clear hbox hb hg))
 (try simp only [Act.put, List.setIfInBounds_toArray, List.set_cons_zero, List.set_cons_succ])
 have hgw : g < w.heap.size := blk_lt HI.out.1
 have hne : gb ≠ g := by rw [HGB.out]; omega
 have hi5 : w5.heap[g]? = some (.cells #[.int .i64 (L + 1 : Nat)] 58 (0, 0)) := (HW.out.block g hgw).trans HI.out.1
 have c0 : w5.cell? ⟨g, 0, none⟩ = some (.int .i64 ((L + 1 : Nat) : Int)) := (blk_cell hi5 0).trans rfl
 have f0 := blk_frozen hi5 0
 have HI5 := Aside0.mk hi5
 clear hi5
 have b0 : w5.cell? ⟨gb, 0, none⟩ = some (.int .i64 x.f0) := (blk_cell BK.out 0).trans rfl
 have b1 : w5.cell? ⟨gb, 1, none⟩ = some (.int .i64 x.f1) := (blk_cell BK.out 1).trans rfl
 have b2 : w5.cell? ⟨gb, 2, none⟩ = some (.string x.f2) := (blk_cell BK.out 2).trans rfl
 have b3 : w5.cell? ⟨gb, 3, none⟩ = some (.slice A3 x.f3.length c3) := (blk_cell BK.out 3).trans rfl
 have b4 : w5.cell? ⟨gb, 4, none⟩ = some (.slice A4 x.f4.length c4) := (blk_cell BK.out 4).trans rfl
 have e1 : wrap64 (((L + 1 : Nat) : Int) - 1) = (L : Int) := by rw [w64 (by omega) (by omega)]; omega
 have HW1 := Aside0.mk (show Below w0.heap.size w0 (w5.setCell ⟨g, 0, none⟩ (.int .i64 (L : Int))) from (below_then HB.out HB.out.size HW.out).setCell HI.out.2 _)
 have HK1 := Aside0.mk (show KeepBut w (w5.setCell ⟨g, 0, none⟩ (.int .i64 (L : Int))) g none from (KeepBut.of_below HW.out g none).set_ 0 _)
 have bg : (w5.setCell ⟨g, 0, none⟩ (.int .i64 (L : Int))).heap[gb]? = some (.cells #[.int .i64 x.f0, .int .i64 x.f1, .string x.f2, .slice A3 x.f3.length c3, .slice A4 x.f4.length c4] 25 (0, 0)) := (KeepBut.set_ (KeepBut.refl w5 g none) 0 _).blk BK.out hne (by simp)
 have BG := Aside0.mk bg
 have HIL := Aside0.mk (show IsC w0 (w5.setCell ⟨g, 0, none⟩ (.int .i64 (L : Int))) g (L : Int) from ⟨by rw [blk_set HI5.out 0 _]; rfl, HI.out.2⟩)
 clear bg
 by_cases ho : op = 16
 ·subst ho
  go_wp2_with (go_at_call 50; go_loud (with_reducible refine (qplain_is x.f0 x.f1 x.f2 _ _ x.f3 _ _ x.f4 true _ (HG.out.below HW1.out) HP.out).mono ?_); rintro e w' ⟨rfl, hb⟩; have d0 : w'.cell? ⟨gb, 0, none⟩ = some (.int .i64 x.f0) := (blk_cell ((hb.block gb (blk_lt BG.out)).trans BG.out) 0).trans rfl; have d4 : w'.cell? ⟨gb, 4, none⟩ = some (.slice A4 x.f4.length c4) := (blk_cell ((hb.block gb (blk_lt BG.out)).trans BG.out) 4).trans rfl; have p0 : w'.cell? ⟨g, 0, none⟩ = some (.int .i64 (L : Int)) := (blk_cell ((hb.block g (blk_lt HIL.out.1)).trans HIL.out.1) 0).trans rfl; have HW2 := Aside0.mk hb; clear hb)
  go_quiet (fail)
  go_wp2_with fail
  go_ret
  exact ⟨pw_below_drewN (below_then HW1.out HW1.out.size HW2.out) _, HK1.out.trans (KeepBut.of_below (pw_below_drewN HW2.out _) g none) (.inl rfl), rfl⟩
 ·have ho2 : ((op : Int) == 16) = false := by simp; omega
  have hmm : (L : Int) < (x.f4.length : Int) := by omega
  go_wp2_with (go_at_call 50; go_loud (with_reducible refine (qplain_is x.f0 x.f1 x.f2 _ _ x.f3 _ _ x.f4 true _ (HG.out.below HW1.out) HP.out).mono ?_); rintro e w' ⟨rfl, hb⟩; have d0 : w'.cell? ⟨gb, 0, none⟩ = some (.int .i64 x.f0) := (blk_cell ((hb.block gb (blk_lt BG.out)).trans BG.out) 0).trans rfl; have d4 : w'.cell? ⟨gb, 4, none⟩ = some (.slice A4 x.f4.length c4) := (blk_cell ((hb.block gb (blk_lt BG.out)).trans BG.out) 4).trans rfl; have p0 : w'.cell? ⟨g, 0, none⟩ = some (.int .i64 (L : Int)) := (blk_cell ((hb.block g (blk_lt HIL.out.1)).trans HIL.out.1) 0).trans rfl; have HW2 := Aside0.mk hb; clear hb)
  go_quiet (fail)
  go_wp2_with fail
  go_ret
  exact ⟨pw_below_drewN (below_then HW1.out HW1.out.size HW2.out) _, HK1.out.trans (KeepBut.of_below (pw_below_drewN HW2.out _) g none) (.inl rfl), rfl⟩
end Go.Proofs.YtidcecpbihmloaaGreatDoorE

namespace Go.Proofs.YtidcecpbihmloaaGreatDoorE
open Go Go.RowKit Go.Proofs.YtidcecpbihmloaaGreatDoorW.PrintWords Go.Proofs.YtidcecpbihmloaaGreatDoorX Go.Proofs.YtidcecpbihmloaaGreatDoor.P16 Go.Proofs.YtidcecpbihmloaaGreatDoor.M02
set_option linter.unusedVariables false
set_option linter.unusedSimpArgs false
/-- What is left, or one below nothing. -/
def optI : Option Nat → Int
 | some r => r
 | none => -1
theorem get_rdOf (ns : List ByteArray) (i : Nat) : rdOf ByteArray.empty ns (i : Int) = ns.getD i em := by unfold rdOf; rw [Int.toNat_natCast]; rfl
theorem getD_size {ns : List ByteArray} (h : ∀ s ∈ ns, s.size ≤ 140737488351232) (i : Nat) : (ns.getD i em).size ≤ 140737488351232 := by
 rw [List.getD_eq_getElem?_getD]
 cases hq : ns[i]? with
 | none => exact Nat.zero_le _
 | some s => exact h s (List.mem_of_getElem? hq)
end Go.Proofs.YtidcecpbihmloaaGreatDoorE

namespace Go.Proofs.YtidcecpbihmloaaGreatDoorE
open Go Go.RowKit Go.Proofs.YtidcecpbihmloaaGreatDoorW.PrintWords Go.Proofs.YtidcecpbihmloaaGreatDoorX Go.Proofs.YtidcecpbihmloaaGreatDoor.P16 Go.Proofs.YtidcecpbihmloaaGreatDoor.M02
set_option linter.unusedVariables false
set_option linter.unusedSimpArgs false
set_option maxHeartbeats 4000000 in
set_option maxRecDepth 100000 in
theorem right_names (x : DT) (hx : OkD x) (hp : plainD x = true) (hk : ¬ x.f0 < 4) (L op : Nat) (hL : L ≤ 2000) (ho : op < 16) (hmu : x.f4.length ≤ L) (hbad : ∃ j, j < x.f3.length ∧ ¬ goodN x.f3 j) (g : Nat) (w0 w : World) (hgl : GL w0) (A3 : Option Addr) (c3 : Nat) (A4 : Option Addr) (c4 : Nat) (l3 : x.f3.length ≤ c3) (g3 : Kd.string.C w0 A3 x.f3.length x.f3) (l4 : x.f4.length ≤ c4) (g4 : k25.C w0 A4 x.f4.length x.f4) (hI : IsC w0 w g (L + 1 : Nat)) (hB : Below w0.heap.size w0 w) :
  Calls Tryz.prog 28 #[.pointer (some ⟨g, 0, none⟩), .agg #[.int .i64 x.f0, .int .i64 x.f1, .string x.f2, .slice A3 x.f3.length c3, .slice A4 x.f4.length c4], .int .i64 op] w (rightP w0 w g none) := by
 have HI := Aside0.mk hI
 have HB := Aside0.mk hB
 have HG := Aside0.mk hgl
 have H3 := Aside0.mk g3
 have H4 := Aside0.mk g4
 have HP := Aside0.mk (show plainD (⟨x.f0, x.f1, x.f2, x.f3, x.f4⟩ : DT) = true ∧ x.f3.length ≤ 140737488351232 ∧ x.f4.length ≤ 140737488351232 from ⟨hp, hx.out.2.2.2.1, hx.out.2.2.2.2.2.1⟩)
 have HXS := Aside0.mk hx.out.2.2.2.2.1
 have hN3 : x.f3.length ≤ 140737488351232 := hx.out.2.2.2.1
 clear hI hB hgl g3 g4 hx hp
 go_enter Tryz.func28, Tryz.ntmps28
 go_upto_region 1 with (first | ((with_reducible refine gate_dst (N := 4) rfl ?_); refine box_event ?hg (N := 4) ?hd (cs := #[.int .i64 x.f0, .int .i64 x.f1, .string x.f2, .slice A3 x.f3.length c3, .slice A4 x.f4.length c4]) (t := 25) ?hr ?_; (case hd => rfl); (case hg => rfl); (case hr => first | (go_simp; done) | (go_simp; rfl)); intro gb hg w5 hbox hb; have BK := Aside0.mk hbox; have HW := Aside0.mk hb; have HGB := Aside0.mk hg; clear hbox hb hg))
 (try simp only [Act.put, List.setIfInBounds_toArray, List.set_cons_zero, List.set_cons_succ])
 have hgw : g < w.heap.size := blk_lt HI.out.1
 have hne : gb ≠ g := by rw [HGB.out]; omega
 have hi5 : w5.heap[g]? = some (.cells #[.int .i64 (L + 1 : Nat)] 58 (0, 0)) := (HW.out.block g hgw).trans HI.out.1
 have c0 : w5.cell? ⟨g, 0, none⟩ = some (.int .i64 ((L + 1 : Nat) : Int)) := (blk_cell hi5 0).trans rfl
 have f0 := blk_frozen hi5 0
 have HI5 := Aside0.mk hi5
 clear hi5
 have b0 : w5.cell? ⟨gb, 0, none⟩ = some (.int .i64 x.f0) := (blk_cell BK.out 0).trans rfl
 have b1 : w5.cell? ⟨gb, 1, none⟩ = some (.int .i64 x.f1) := (blk_cell BK.out 1).trans rfl
 have b2 : w5.cell? ⟨gb, 2, none⟩ = some (.string x.f2) := (blk_cell BK.out 2).trans rfl
 have b3 : w5.cell? ⟨gb, 3, none⟩ = some (.slice A3 x.f3.length c3) := (blk_cell BK.out 3).trans rfl
 have b4 : w5.cell? ⟨gb, 4, none⟩ = some (.slice A4 x.f4.length c4) := (blk_cell BK.out 4).trans rfl
 have e1 : wrap64 (((L + 1 : Nat) : Int) - 1) = (L : Int) := by rw [w64 (by omega) (by omega)]; omega
 have HW1 := Aside0.mk (show Below w0.heap.size w0 (w5.setCell ⟨g, 0, none⟩ (.int .i64 (L : Int))) from (below_then HB.out HB.out.size HW.out).setCell HI.out.2 _)
 have HK1 := Aside0.mk (show KeepBut w (w5.setCell ⟨g, 0, none⟩ (.int .i64 (L : Int))) g none from (KeepBut.of_below HW.out g none).set_ 0 _)
 have bg : (w5.setCell ⟨g, 0, none⟩ (.int .i64 (L : Int))).heap[gb]? = some (.cells #[.int .i64 x.f0, .int .i64 x.f1, .string x.f2, .slice A3 x.f3.length c3, .slice A4 x.f4.length c4] 25 (0, 0)) := (KeepBut.set_ (KeepBut.refl w5 g none) 0 _).blk BK.out hne (by simp)
 have BG := Aside0.mk bg
 have HIL := Aside0.mk (show IsC w0 (w5.setCell ⟨g, 0, none⟩ (.int .i64 (L : Int))) g (L : Int) from ⟨by rw [blk_set HI5.out 0 _]; rfl, HI.out.2⟩)
 clear bg
 have ho2 : ((op : Int) == 16) = false := by simp; omega
 have hmm : decide (L < x.f4.length) = false := decide_eq_false (by omega)
 have hmm2 : decide ((L : Int) < (x.f4.length : Int)) = false := decide_eq_false (by omega)
 go_wp2_with (go_at_call 50; go_loud (with_reducible refine (qplain_is x.f0 x.f1 x.f2 _ _ x.f3 _ _ x.f4 true _ (HG.out.below HW1.out) HP.out).mono ?_); rintro e w2 ⟨rfl, hb⟩; have d0 : w2.cell? ⟨gb, 0, none⟩ = some (.int .i64 x.f0) := (blk_cell ((hb.block gb (blk_lt BG.out)).trans BG.out) 0).trans rfl; have d3 : w2.cell? ⟨gb, 3, none⟩ = some (.slice A3 x.f3.length c3) := (blk_cell ((hb.block gb (blk_lt BG.out)).trans BG.out) 3).trans rfl; have d4 : w2.cell? ⟨gb, 4, none⟩ = some (.slice A4 x.f4.length c4) := (blk_cell ((hb.block gb (blk_lt BG.out)).trans BG.out) 4).trans rfl; have p0 : w2.cell? ⟨g, 0, none⟩ = some (.int .i64 (L : Int)) := (blk_cell ((hb.block g (blk_lt HIL.out.1)).trans HIL.out.1) 0).trans rfl; have HW2 := Aside0.mk hb; clear hb)
 go_quiet (fail)
 have HBAD := Aside0.mk hbad
 clear hbad
 go_wp2_with fail
 go_loopg [46] x.f3.length (fun gk i wr => ∃ k : Nat, k ≤ x.f3.length ∧ i = .int .i64 k ∧ Aside0 (Below w2.heap.size w2 wr ∧ (∀ j, j < k → goodN x.f3 j) ∧ k + gk = x.f3.length))
 case atStart => exact ⟨0, by omega, rfl, ⟨pw_below_drewN (Below.refl _ _) _, fun j hj => by omega, by omega⟩⟩
 case round =>
  obtain ⟨k, hk, rfl, HXD⟩ := hrel
  by_cases hlt : k < x.f3.length
  ·have HZ := Aside0.mk (show Below w0.heap.size w0 wr from below_then (below_then HW1.out HW1.out.size HW2.out) (below_then HW1.out HW1.out.size HW2.out).size HXD.out.1)
   have d3r : wr.cell? ⟨gb, 3, none⟩ = some (.slice A3 x.f3.length c3) := (blk_cell ((HXD.out.1.block gb (blk_lt ((HW2.out.block gb (blk_lt BG.out)).trans BG.out))).trans ((HW2.out.block gb (blk_lt BG.out)).trans BG.out)) 3).trans rfl
   obtain ⟨ad, rfl, q0⟩ := Kd.at_string (Kd.C_below H3.out HZ.out) (k : Int) (by omega) (by omega)
   rw [Int.toNat_natCast] at q0
   obtain ⟨s, hs⟩ : ∃ s, s = rdOf ByteArray.empty x.f3 (k : Int) := ⟨_, rfl⟩
   rw [← hs] at q0
   have hsz : s.size ≤ 140737488351232 := by
    rw [hs]
    unfold rdOf
    rw [Int.toNat_natCast, List.getD_eq_getElem?_getD, List.getElem?_eq_getElem hlt]
    exact HXS.out _ (List.getElem_mem hlt)
   obtain ⟨K, hK⟩ := name_ev s hsz
   have HNK := Aside0.mk (hK K (Nat.le_refl _))
   have HS := Aside0.mk hs
   clear hs hK hsz
   obtain ⟨bn, hbn⟩ : ∃ b, b = namedS true (B s) := ⟨_, rfl⟩
   have HNK := Aside0.mk (show chars_Name.f K s = some bn by rw [hbn]; exact HNK.out)
   have HBN := Aside0.mk hbn
   clear hbn
   cases bn with
   | false =>
    go_wp2_with (go_at_call 51; go_loud (with_reducible refine (chars_Name.calls K s false _ (HG.out.below HZ.out) HNK.out).mono ?_); rintro e w3 ⟨rfl, hd⟩; have HD3 := Aside0.mk hd.below; clear hd)
    go_ret
    exact ⟨below_then HZ.out HZ.out.size HD3.out, (HK1.out.trans (KeepBut.of_below (below_then HW2.out HW2.out.size HXD.out.1) g none) (.inl rfl)).trans (KeepBut.of_below HD3.out g none) (.inl rfl), rfl⟩
   | true =>
    have HNM := Aside0.mk (show namedS true (x.f3.getD k em).data.toList = true by have h := HBN.out; rw [HS.out] at h; exact h.symm)
    by_cases hk0 : k = 0
    ·subst hk0
     rw [Addr.add_zero'] at q0
     go_wp2_with (go_at_call 51; go_loud (with_reducible refine (chars_Name.calls K s true _ (HG.out.below HZ.out) HNK.out).mono ?_); rintro e w3 ⟨rfl, hd⟩; have HD3 := Aside0.mk hd.below; clear hd)
     go_roundg (x.f3.length - 1)
     case measure => have := HXD.out.2.2; omega
     case rel => exact ⟨1, by omega, by go_num, ⟨below_then HXD.out.1 HXD.out.1.size HD3.out, fun j hj => by
      obtain rfl : j = 0 := by omega
      exact ⟨HNM.out, fun h => absurd h (by omega)⟩, by omega⟩⟩
    ·have hk1 : 0 < k := by omega
     have hk2 : k ≤ 140737488351232 := by omega
     obtain ⟨ad', hade, q1⟩ := Kd.at_string (Kd.C_below H3.out HZ.out) ((k - 1 : Nat) : Int) (by omega) (by omega)
     injection hade with hade
     subst hade
     rw [Int.toNat_natCast] at q1
     obtain ⟨s', hs'⟩ : ∃ s', s' = rdOf ByteArray.empty x.f3 ((k - 1 : Nat) : Int) := ⟨_, rfl⟩
     rw [← hs'] at q1
     have HS' := Aside0.mk hs'
     clear hs'
     go_wp2_with (go_at_call 51; go_loud (with_reducible refine (chars_Name.calls K s true _ (HG.out.below HZ.out) HNK.out).mono ?_); rintro e w3 ⟨rfl, hd⟩; have q2 := pw_cell_below hd.below q1; have d3s := pw_cell_below hd.below d3r; have HD3 := Aside0.mk hd.below; clear hd)
     ·go_ret
      exact ⟨below_then HZ.out HZ.out.size HD3.out, (HK1.out.trans (KeepBut.of_below (below_then HW2.out HW2.out.size HXD.out.1) g none) (.inl rfl)).trans (KeepBut.of_below HD3.out g none) (.inl rfl), rfl⟩
     ·have hq : (!Op.bytesLess s'.toList s.toList) = false := by assumption
      have HQ := Aside0.mk hq
      clear hq
      go_roundg (gk - 1)
      case measure => have := HXD.out.2.2; omega
      case rel => exact ⟨k + 1, by omega, by go_num, ⟨below_then HXD.out.1 HXD.out.1.size HD3.out, fun j hj => by
       by_cases hjk : j = k
       ·subst hjk
        have h := HQ.out
        rw [toList_B, toList_B, HS.out, HS'.out, get_rdOf, get_rdOf] at h
        exact ⟨HNM.out, fun _ => by simpa using h⟩
       ·exact HXD.out.2.1 j (by omega), by have := HXD.out.2.2; omega⟩⟩
  ·exfalso
   obtain ⟨j, hj, hn⟩ := HBAD.out
   exact hn (HXD.out.2.1 j (by omega))
end Go.Proofs.YtidcecpbihmloaaGreatDoorE

namespace Go.Proofs.YtidcecpbihmloaaGreatDoorE
open Go Go.RowKit Go.Proofs.YtidcecpbihmloaaGreatDoorW.PrintWords Go.Proofs.YtidcecpbihmloaaGreatDoorX Go.Proofs.YtidcecpbihmloaaGreatDoor.P16 Go.Proofs.YtidcecpbihmloaaGreatDoor.M02
set_option linter.unusedVariables false
set_option linter.unusedSimpArgs false
/-- What right says of a piece, wherever it is called. -/
def rightC (x : DT) : Prop := ∀ (L op : Nat), L ≤ 2000 → op ≤ 16 → ∀ (g : Nat) (w0 w : World), GL w0 → ∀ (A3 : Option Addr) (c3 : Nat) (A4 : Option Addr) (c4 : Nat), x.f3.length ≤ c3 → Kd.string.C w0 A3 x.f3.length x.f3 → x.f4.length ≤ c4 → k25.C w0 A4 x.f4.length x.f4 → IsC w0 w g (L : Nat) → Below w0.heap.size w0 w →
 Calls Tryz.prog 28 #[.pointer (some ⟨g, 0, none⟩), aggD x A3 c3 A4 c4, .int .i64 op] w (rightP w0 w g (weighD x L op))
theorem rd_take (l : List DT) (q : Nat) (h : q < l.length) : rd_T25 l (q : Int) ∈ l ∧ l.take (q + 1) = l.take q ++ [rd_T25 l (q : Int)] ∧ l = l.take q ++ rd_T25 l (q : Int) :: l.drop (q + 1) := by
 have e : rd_T25 l (q : Int) = l[q] := by
  unfold rd_T25
  rw [Int.toNat_natCast, List.getD_eq_getElem?_getD, List.getElem?_eq_getElem h]
  rfl
 rw [e]
 refine ⟨List.getElem_mem h, List.take_succ_eq_append_getElem h, ?_⟩
 rw [← List.drop_eq_getElem_cons h, List.take_append_drop]
set_option maxHeartbeats 4000000 in
set_option maxRecDepth 100000 in
theorem right_kids (x : DT) (hx : OkD x) (hp : plainD x = true) (hk : ¬ x.f0 < 4) (L op : Nat) (hL : L ≤ 2000) (ho : op < 16) (hmu : x.f4.length ≤ L) (hgood : ∀ j, j < x.f3.length → goodN x.f3 j) (ih : ∀ y ∈ x.f4, rightC y) (g : Nat) (w0 w : World) (hgl : GL w0) (A3 : Option Addr) (c3 : Nat) (A4 : Option Addr) (c4 : Nat) (l3 : x.f3.length ≤ c3) (g3 : Kd.string.C w0 A3 x.f3.length x.f3) (l4 : x.f4.length ≤ c4) (g4 : k25.C w0 A4 x.f4.length x.f4) (hI : IsC w0 w g (L + 1 : Nat)) (hB : Below w0.heap.size w0 w) :
  Calls Tryz.prog 28 #[.pointer (some ⟨g, 0, none⟩), .agg #[.int .i64 x.f0, .int .i64 x.f1, .string x.f2, .slice A3 x.f3.length c3, .slice A4 x.f4.length c4], .int .i64 op] w (rightP w0 w g (weighL x.f4 L (op + 1))) := by
 have HI := Aside0.mk hI
 have HB := Aside0.mk hB
 have HG := Aside0.mk hgl
 have H3 := Aside0.mk g3
 have H4 := Aside0.mk g4
 have HP := Aside0.mk (show plainD (⟨x.f0, x.f1, x.f2, x.f3, x.f4⟩ : DT) = true ∧ x.f3.length ≤ 140737488351232 ∧ x.f4.length ≤ 140737488351232 from ⟨hp, hx.out.2.2.2.1, hx.out.2.2.2.2.2.1⟩)
 have HXS := Aside0.mk hx.out.2.2.2.2.1
 have HGOOD := Aside0.mk hgood
 have IH := Aside0.mk ih
 have hN4 : x.f4.length ≤ 140737488351232 := hx.out.2.2.2.2.2.1
 clear hgood ih
 have hN3 : x.f3.length ≤ 140737488351232 := hx.out.2.2.2.1
 clear hI hB hgl g3 g4 hx hp
 go_enter Tryz.func28, Tryz.ntmps28
 go_upto_region 1 with (first | ((with_reducible refine gate_dst (N := 4) rfl ?_); refine box_event ?hg (N := 4) ?hd (cs := #[.int .i64 x.f0, .int .i64 x.f1, .string x.f2, .slice A3 x.f3.length c3, .slice A4 x.f4.length c4]) (t := 25) ?hr ?_; (case hd => rfl); (case hg => rfl); (case hr => first | (go_simp; done) | (go_simp; rfl)); intro gb hg w5 hbox hb; have BK := Aside0.mk hbox; have HW := Aside0.mk hb; have HGB := Aside0.mk hg; clear hbox hb hg))
 (try simp only [Act.put, List.setIfInBounds_toArray, List.set_cons_zero, List.set_cons_succ])
 have hgw : g < w.heap.size := blk_lt HI.out.1
 have hne : gb ≠ g := by rw [HGB.out]; omega
 have hi5 : w5.heap[g]? = some (.cells #[.int .i64 (L + 1 : Nat)] 58 (0, 0)) := (HW.out.block g hgw).trans HI.out.1
 have c0 : w5.cell? ⟨g, 0, none⟩ = some (.int .i64 ((L + 1 : Nat) : Int)) := (blk_cell hi5 0).trans rfl
 have f0 := blk_frozen hi5 0
 have HI5 := Aside0.mk hi5
 clear hi5
 have b0 : w5.cell? ⟨gb, 0, none⟩ = some (.int .i64 x.f0) := (blk_cell BK.out 0).trans rfl
 have b1 : w5.cell? ⟨gb, 1, none⟩ = some (.int .i64 x.f1) := (blk_cell BK.out 1).trans rfl
 have b2 : w5.cell? ⟨gb, 2, none⟩ = some (.string x.f2) := (blk_cell BK.out 2).trans rfl
 have b3 : w5.cell? ⟨gb, 3, none⟩ = some (.slice A3 x.f3.length c3) := (blk_cell BK.out 3).trans rfl
 have b4 : w5.cell? ⟨gb, 4, none⟩ = some (.slice A4 x.f4.length c4) := (blk_cell BK.out 4).trans rfl
 have e1 : wrap64 (((L + 1 : Nat) : Int) - 1) = (L : Int) := by rw [w64 (by omega) (by omega)]; omega
 have HW1 := Aside0.mk (show Below w0.heap.size w0 (w5.setCell ⟨g, 0, none⟩ (.int .i64 (L : Int))) from (below_then HB.out HB.out.size HW.out).setCell HI.out.2 _)
 have HK1 := Aside0.mk (show KeepBut w (w5.setCell ⟨g, 0, none⟩ (.int .i64 (L : Int))) g none from (KeepBut.of_below HW.out g none).set_ 0 _)
 have bg : (w5.setCell ⟨g, 0, none⟩ (.int .i64 (L : Int))).heap[gb]? = some (.cells #[.int .i64 x.f0, .int .i64 x.f1, .string x.f2, .slice A3 x.f3.length c3, .slice A4 x.f4.length c4] 25 (0, 0)) := (KeepBut.set_ (KeepBut.refl w5 g none) 0 _).blk BK.out hne (by simp)
 have BG := Aside0.mk bg
 have HIL := Aside0.mk (show IsC w0 (w5.setCell ⟨g, 0, none⟩ (.int .i64 (L : Int))) g (L : Int) from ⟨by rw [blk_set HI5.out 0 _]; rfl, HI.out.2⟩)
 clear bg
 have ho2 : ((op : Int) == 16) = false := by simp; omega
 have hmm : decide (L < x.f4.length) = false := decide_eq_false (by omega)
 have hmm2 : decide ((L : Int) < (x.f4.length : Int)) = false := decide_eq_false (by omega)
 go_wp2_with (go_at_call 50; go_loud (with_reducible refine (qplain_is x.f0 x.f1 x.f2 _ _ x.f3 _ _ x.f4 true _ (HG.out.below HW1.out) HP.out).mono ?_); rintro e w2 ⟨rfl, hb⟩; have d0 : w2.cell? ⟨gb, 0, none⟩ = some (.int .i64 x.f0) := (blk_cell ((hb.block gb (blk_lt BG.out)).trans BG.out) 0).trans rfl; have d3 : w2.cell? ⟨gb, 3, none⟩ = some (.slice A3 x.f3.length c3) := (blk_cell ((hb.block gb (blk_lt BG.out)).trans BG.out) 3).trans rfl; have d4 : w2.cell? ⟨gb, 4, none⟩ = some (.slice A4 x.f4.length c4) := (blk_cell ((hb.block gb (blk_lt BG.out)).trans BG.out) 4).trans rfl; have p0 : w2.cell? ⟨g, 0, none⟩ = some (.int .i64 (L : Int)) := (blk_cell ((hb.block g (blk_lt HIL.out.1)).trans HIL.out.1) 0).trans rfl; have HW2 := Aside0.mk hb; clear hb)
 go_quiet (fail)
 go_wp2_with fail
 go_loopg [46] x.f3.length (fun gk i wr => ∃ k : Nat, k ≤ x.f3.length ∧ i = .int .i64 k ∧ Aside0 (Below w2.heap.size w2 wr ∧ (∀ j, j < k → goodN x.f3 j) ∧ k + gk = x.f3.length))
 case atStart => exact ⟨0, by omega, rfl, ⟨pw_below_drewN (Below.refl _ _) _, fun j hj => by omega, by omega⟩⟩
 case round =>
  obtain ⟨k, hk, rfl, HXD⟩ := hrel
  by_cases hlt : k < x.f3.length
  ·have HZ := Aside0.mk (show Below w0.heap.size w0 wr from below_then (below_then HW1.out HW1.out.size HW2.out) (below_then HW1.out HW1.out.size HW2.out).size HXD.out.1)
   have d3r : wr.cell? ⟨gb, 3, none⟩ = some (.slice A3 x.f3.length c3) := (blk_cell ((HXD.out.1.block gb (blk_lt ((HW2.out.block gb (blk_lt BG.out)).trans BG.out))).trans ((HW2.out.block gb (blk_lt BG.out)).trans BG.out)) 3).trans rfl
   obtain ⟨ad, rfl, q0⟩ := Kd.at_string (Kd.C_below H3.out HZ.out) (k : Int) (by omega) (by omega)
   rw [Int.toNat_natCast] at q0
   obtain ⟨s, hs⟩ : ∃ s, s = rdOf ByteArray.empty x.f3 (k : Int) := ⟨_, rfl⟩
   rw [← hs] at q0
   have hsz : s.size ≤ 140737488351232 := by
    rw [hs]
    unfold rdOf
    rw [Int.toNat_natCast, List.getD_eq_getElem?_getD, List.getElem?_eq_getElem hlt]
    exact HXS.out _ (List.getElem_mem hlt)
   obtain ⟨K, hK⟩ := name_ev s hsz
   have HNK := Aside0.mk (hK K (Nat.le_refl _))
   have HS := Aside0.mk hs
   clear hs hK hsz
   obtain ⟨bn, hbn⟩ : ∃ b, b = namedS true (B s) := ⟨_, rfl⟩
   have HNK := Aside0.mk (show chars_Name.f K s = some bn by rw [hbn]; exact HNK.out)
   have HBN := Aside0.mk hbn
   clear hbn
   cases bn with
   | false =>
    exfalso
    have h := HBN.out
    rw [HS.out, get_rdOf] at h
    exact absurd (h.trans (HGOOD.out k hlt).1) (by decide)
   | true =>
    have HNM := Aside0.mk (show namedS true (x.f3.getD k em).data.toList = true by have h := HBN.out; rw [HS.out] at h; exact h.symm)
    by_cases hk0 : k = 0
    ·subst hk0
     rw [Addr.add_zero'] at q0
     go_wp2_with (go_at_call 51; go_loud (with_reducible refine (chars_Name.calls K s true _ (HG.out.below HZ.out) HNK.out).mono ?_); rintro e w3 ⟨rfl, hd⟩; have HD3 := Aside0.mk hd.below; clear hd)
     go_roundg (x.f3.length - 1)
     case measure => have := HXD.out.2.2; omega
     case rel => exact ⟨1, by omega, by go_num, ⟨below_then HXD.out.1 HXD.out.1.size HD3.out, fun j hj => by
      obtain rfl : j = 0 := by omega
      exact ⟨HNM.out, fun h => absurd h (by omega)⟩, by omega⟩⟩
    ·have hk1 : 0 < k := by omega
     have hk2 : k ≤ 140737488351232 := by omega
     obtain ⟨ad', hade, q1⟩ := Kd.at_string (Kd.C_below H3.out HZ.out) ((k - 1 : Nat) : Int) (by omega) (by omega)
     injection hade with hade
     subst hade
     rw [Int.toNat_natCast] at q1
     obtain ⟨s', hs'⟩ : ∃ s', s' = rdOf ByteArray.empty x.f3 ((k - 1 : Nat) : Int) := ⟨_, rfl⟩
     rw [← hs'] at q1
     have HS' := Aside0.mk hs'
     clear hs'
     go_wp2_with (go_at_call 51; go_loud (with_reducible refine (chars_Name.calls K s true _ (HG.out.below HZ.out) HNK.out).mono ?_); rintro e w3 ⟨rfl, hd⟩; have q2 := pw_cell_below hd.below q1; have d3s := pw_cell_below hd.below d3r; have HD3 := Aside0.mk hd.below; clear hd)
     ·exfalso
      have hq : (!Op.bytesLess s'.toList s.toList) = true := by assumption
      have h := (HGOOD.out k hlt).2 hk1
      rw [toList_B, toList_B, HS.out, HS'.out, get_rdOf, get_rdOf] at hq
      rw [show Op.bytesLess (B (x.f3.getD (k - 1) em)) (B (x.f3.getD k em)) = true from h] at hq
      exact absurd hq (by decide)
     ·have hq : (!Op.bytesLess s'.toList s.toList) = false := by assumption
      have HQ := Aside0.mk hq
      clear hq
      go_roundg (gk - 1)
      case measure => have := HXD.out.2.2; omega
      case rel => exact ⟨k + 1, by omega, by go_num, ⟨below_then HXD.out.1 HXD.out.1.size HD3.out, fun j hj => by
       by_cases hjk : j = k
       ·subst hjk
        have h := HQ.out
        rw [toList_B, toList_B, HS.out, HS'.out, get_rdOf, get_rdOf] at h
        exact ⟨HNM.out, fun _ => by simpa using h⟩
       ·exact HXD.out.2.1 j (by omega), by have := HXD.out.2.2; omega⟩⟩
  ·have HZ := Aside0.mk (show Below w0.heap.size w0 wr from below_then (below_then HW1.out HW1.out.size HW2.out) (below_then HW1.out HW1.out.size HW2.out).size HXD.out.1)
   have d4r : wr.cell? ⟨gb, 4, none⟩ = some (.slice A4 x.f4.length c4) := (blk_cell ((HXD.out.1.block gb (blk_lt ((HW2.out.block gb (blk_lt BG.out)).trans BG.out))).trans ((HW2.out.block gb (blk_lt BG.out)).trans BG.out)) 4).trans rfl
   have HK3 := Aside0.mk (HK1.out.trans (KeepBut.of_below (below_then HW2.out HW2.out.size HXD.out.1) g none) (.inl rfl))
   have HI3 := Aside0.mk (show IsC w0 wr g (L : Int) from ⟨(HXD.out.1.block g (blk_lt ((HW2.out.block g (blk_lt HIL.out.1)).trans HIL.out.1))).trans ((HW2.out.block g (blk_lt HIL.out.1)).trans HIL.out.1), HIL.out.2⟩)
   go_wp2_with fail
   go_loopg [72] x.f4.length (fun gq i wq => ∃ q : Nat, q ≤ x.f4.length ∧ i = .int .i64 q ∧ Aside0 (q + gq = x.f4.length ∧ ∃ r : Nat, weighL (x.f4.take q) L (op + 1) = some r ∧ r ≤ 2000 ∧ IsC w0 wq g r ∧ Below w0.heap.size w0 wq ∧ KeepBut w wq g none))
   case atStart => exact ⟨0, by omega, rfl, ⟨by omega, L, by rw [List.take_zero, weighL], by omega, HI3.out, HZ.out, HK3.out⟩⟩
   case round =>
    obtain ⟨q, hq, rfl, HQ⟩ := hrel
    obtain ⟨hqn, r, hr⟩ := HQ.out
    have HR := Aside0.mk hr
    have HN := Aside0.mk hqn
    clear HQ hqn hr
    by_cases hqlt : q < x.f4.length
    ·obtain ⟨ad, A3q, c3q, A4q, c4q, rfl, a0, a1, a2, a3, a4, hl3, hC3, hl4, hC4⟩ := at_T25 H4.out (q : Int) (by omega) (by omega)
     rw [Int.toNat_natCast] at a0 a1 a2 a3 a4
     replace a0 := pw_cell_below HR.out.2.2.2.1 a0
     replace a1 := pw_cell_below HR.out.2.2.2.1 a1
     replace a2 := pw_cell_below HR.out.2.2.2.1 a2
     replace a3 := pw_cell_below HR.out.2.2.2.1 a3
     replace a4 := pw_cell_below HR.out.2.2.2.1 a4
     obtain ⟨y, hy⟩ : ∃ y, y = rd_T25 x.f4 (q : Int) := ⟨_, rfl⟩
     rw [← hy] at a0 a1 a2 a3 a4 hl3 hC3 hl4 hC4
     have HY := Aside0.mk (rd_take x.f4 q hqlt)
     rw [← hy] at HY
     clear hy
     have HB4 := Aside0.mk (below_alloc HR.out.2.2.2.1 (.cells #[.int .i64 y.f0, .int .i64 y.f1, .string y.f2, .slice A3q y.f3.length c3q, .slice A4q y.f4.length c4q] 25))
     have HI4 := Aside0.mk (show IsC w0 (wr.alloc (.cells #[.int .i64 y.f0, .int .i64 y.f1, .string y.f2, .slice A3q y.f3.length c3q, .slice A4q y.f4.length c4q] 25)) g r from ⟨((below_alloc (Below.refl _ _) _).block g (blk_lt HR.out.2.2.1.1)).trans HR.out.2.2.1.1, HR.out.2.2.1.2⟩)
     have HK4 := Aside0.mk (HR.out.2.2.2.2.trans (KeepBut.of_below (below_alloc (Below.refl _ _) (.cells #[.int .i64 y.f0, .int .i64 y.f1, .string y.f2, .slice A3q y.f3.length c3q, .slice A4q y.f4.length c4q] 25)) g none) (.inl rfl))
     have CY := Aside0.mk (IH.out y HY.out.1 r (op + 1) HR.out.2.1 (by omega) g w0 _ HG.out A3q c3q A4q c4q hl3 hC3 hl4 hC4 HI4.out HB4.out)
     clear hl3 hC3 hl4 hC4
     have hop : ((op + 1 : Nat) : Int) = (op : Int) + 1 := by omega
     rw [hop] at CY
     clear hop
     have HWL := Aside0.mk (show weighL x.f4 L (op + 1) = (match weighD y r (op + 1) with | none => none | some r' => weighL (x.f4.drop (q + 1)) r' (op + 1)) by
      conv => lhs; rw [HY.out.2.2]
      rw [weighL_append, HR.out.1]
      show weighL (y :: x.f4.drop (q + 1)) r (op + 1) = _
      rw [weighL]
      try (cases weighD y r (op + 1) <;> rfl))
     have HWT := Aside0.mk (show weighL (x.f4.take (q + 1)) L (op + 1) = weighD y r (op + 1) by
      rw [HY.out.2.1, weighL_append, HR.out.1]
      show weighL [y] r (op + 1) = _
      rw [weighL]
      try (cases weighD y r (op + 1) <;> simp [weighL]))
     have HLE := Aside0.mk (fun q' (h : weighD y r (op + 1) = some q') => weighD_le y r (op + 1) q' h)
     cases hwd : weighD y r (op + 1) with
     | none =>
      rw [hwd] at CY HWL
      clear hwd
      have HWN := Aside0.mk (show weighL x.f4 L (op + 1) = none from HWL.out)
      rw [HWN.out]
      go_wp2_with (go_at_call 28; go_loud (with_reducible refine CY.out.mono ?_); rintro e w4 ⟨hb4, hk4, rfl⟩; have HBZ := Aside0.mk hb4; have HKZ := Aside0.mk hk4; clear hb4 hk4)
      go_ret
      exact ⟨HBZ.out, HK4.out.trans HKZ.out (.inl rfl), rfl⟩
     | some r' =>
      rw [hwd] at CY HWT
      have HLE' := Aside0.mk (HLE.out r' hwd)
      clear hwd
      go_wp2_with (go_at_call 28; go_loud (with_reducible refine CY.out.mono ?_); rintro e w4 ⟨hb4, hk4, rfl, hi4⟩; have HBZ := Aside0.mk hb4; have HKZ := Aside0.mk hk4; have HIZ := Aside0.mk hi4; clear hb4 hk4 hi4)
      go_roundg (gk - 1)
      case measure => have := HN.out; omega
      case rel => exact ⟨q + 1, by omega, by go_num, ⟨by have := HN.out; omega, r', HWT.out, by have := HLE'.out; have := HR.out.2.1; omega, HIZ.out, HBZ.out, HK4.out.trans HKZ.out (.inl rfl)⟩⟩
    ·go_wp2_with fail
     go_ret
     have hx2 : x.f4.take q = x.f4 := List.take_of_length_le (by omega)
     have h := HR.out
     rw [hx2] at h
     rw [h.1]
     exact ⟨h.2.2.2.1, h.2.2.2.2, rfl, h.2.2.1⟩
end Go.Proofs.YtidcecpbihmloaaGreatDoorE

namespace Go.Proofs.YtidcecpbihmloaaGreatDoorE
open Go Go.RowKit Go.Proofs.YtidcecpbihmloaaGreatDoorW.PrintWords Go.Proofs.YtidcecpbihmloaaGreatDoorX Go.Proofs.YtidcecpbihmloaaGreatDoor.P16 Go.Proofs.YtidcecpbihmloaaGreatDoor.M02
set_option linter.unusedVariables false
set_option linter.unusedSimpArgs false
theorem weighD_eq (x : DT) (L op : Nat) : weighD x (L + 1) op = if plainD x = false ∨ (x.f0 > 3 ∧ op = 16) ∨ namesD x.f3 = false then none else weighL x.f4 L (op + 1) := by
 rcases x with ⟨a, b, c, ns, l⟩
 rw [weighD]
 simp only [Nat.add_sub_cancel, Nat.succ_ne_zero, false_or]
theorem right_c (x : DT) (hx : OkD x) : rightC x := by
 induction hx with
 | mk x h0 h1 h2 n3 h3 n4 h4 ih =>
  have hx : OkD x := .mk x h0 h1 h2 n3 h3 n4 h4
  intro L op hL ho g w0 w hgl A3 c3 A4 c4 l3 g3 l4 g4 hI hB
  cases L with
  | zero =>
   have e : weighD x 0 op = none := by rcases x with ⟨a, b, c, ns, l⟩; rw [weighD, if_pos (.inl rfl)]
   rw [e]
   exact right_zero x op g w0 w A3 c3 A4 c4 hI hB
  | succ L =>
   rw [weighD_eq]
   by_cases hp : plainD x = true
   ·by_cases hk : x.f0 < 4
    ·have hl : x.f3 = [] ∧ x.f4 = [] := by
      rcases x with ⟨a, b, c, ns, l⟩
      rcases plain_cases hp with ⟨_, _, _, h3, h4⟩ | ⟨_, _, _, h3, h4⟩ | ⟨_, _, h3, h4⟩ | ⟨_, _, h3, h4, _⟩ | ⟨ha, _⟩ | ⟨ha, _⟩
      ·exact ⟨h3, h4⟩
      ·exact ⟨h3, h4⟩
      ·exact ⟨h3, h4⟩
      ·exact ⟨h3, h4⟩
      ·exact absurd hk (by simp only [ha]; decide)
      ·exact absurd hk (by simp only [ha]; decide)
     rw [if_neg (by rw [hp, hl.1]; simp [namesD]; omega), hl.2, weighL]
     exact right_leaf x hx hp hk L op (by omega) g w0 w hgl A3 c3 A4 c4 l3 g3 l4 g4 hI hB
    ·by_cases hm : op = 16 ∨ L < x.f4.length
     ·have e : (if plainD x = false ∨ (x.f0 > 3 ∧ op = 16) ∨ namesD x.f3 = false then none else weighL x.f4 L (op + 1)) = none := by
       rcases hm with h | h
       ·rw [if_pos (.inr (.inl ⟨by omega, h⟩))]
       ·rw [weighL_many h]; split <;> rfl
      rw [e]
      exact right_much x hx hp hk L op (by omega) hm g w0 w hgl A3 c3 A4 c4 l3 g3 l4 g4 hI hB
     ·by_cases hn : namesD x.f3 = true
      ·rw [if_neg (by rw [hp, hn]; simp; omega)]
       exact right_kids x hx hp hk L op (by omega) (by omega) (by omega) ((namesD_good x.f3).1 hn) ih g w0 w hgl A3 c3 A4 c4 l3 g3 l4 g4 hI hB
      ·rw [if_pos (.inr (.inr (by simpa using hn)))]
       refine right_names x hx hp hk L op (by omega) (by omega) (by omega) ?_ g w0 w hgl A3 c3 A4 c4 l3 g3 l4 g4 hI hB
       have h := mt (namesD_good x.f3).2 hn
       simp only [Classical.not_forall] at h
       obtain ⟨j, hj, hb⟩ := h
       exact ⟨j, hj, hb⟩
   ·rw [if_pos (.inl (by simpa using hp))]
    exact right_bad x hx (by simpa using hp) L op (by omega) g w0 w hgl A3 c3 A4 c4 l3 g3 l4 g4 hI hB
set_option maxHeartbeats 4000000 in
set_option maxRecDepth 100000 in
theorem Right_c (x : DT) (hx : OkD x) (w : World) (hgl : GL w) (A3 : Option Addr) (c3 : Nat) (A4 : Option Addr) (c4 : Nat) (l3 : x.f3.length ≤ c3) (g3 : Kd.string.C w A3 x.f3.length x.f3) (l4 : x.f4.length ≤ c4) (g4 : k25.C w A4 x.f4.length x.f4) :
  Calls Tryz.prog 15 #[aggD x A3 c3 A4 c4] w fun e w' => e = .returned (.bool (rightD x)) ∧ Below w.heap.size w w' := by
 have HC := Aside0.mk (right_c x hx 2000 0 (by omega) (by omega))
 have HG := Aside0.mk hgl
 have H3 := Aside0.mk g3
 have H4 := Aside0.mk g4
 clear hgl g3 g4 hx
 have HB := Aside0.mk (below_alloc (below_alloc (Below.refl w.heap.size w) (.cells #[.int .i64 x.f0, .int .i64 x.f1, .string x.f2, .slice A3 x.f3.length c3, .slice A4 x.f4.length c4] 25)) (.cells #[.int .i64 2000] 58))
 have HI := Aside0.mk (show IsC w ((w.alloc (.cells #[.int .i64 x.f0, .int .i64 x.f1, .string x.f2, .slice A3 x.f3.length c3, .slice A4 x.f4.length c4] 25)).alloc (.cells #[.int .i64 2000] 58)) (w.heap.size + 1) ((2000 : Nat) : Int) from ⟨by
  have h := heap_alloc_new (w.alloc (.cells #[.int .i64 x.f0, .int .i64 x.f1, .string x.f2, .slice A3 x.f3.length c3, .slice A4 x.f4.length c4] 25)) (.cells #[.int .i64 2000] 58)
  rw [show (w.alloc (.cells #[.int .i64 x.f0, .int .i64 x.f1, .string x.f2, .slice A3 x.f3.length c3, .slice A4 x.f4.length c4] 25)).heap.size = w.heap.size + 1 by simp] at h
  exact h, by omega⟩)
 have CR := Aside0.mk (HC.out (w.heap.size + 1) w _ HG.out A3 c3 A4 c4 l3 H3.out l4 H4.out HI.out HB.out)
 rw [show ((0 : Nat) : Int) = 0 from rfl] at CR
 unfold rightD
 cases hwd : weighD x 2000 0 with
 | none =>
  rw [hwd] at CR
  clear hwd
  go_enter Tryz.func15, Tryz.ntmps15
  go_wp2_with (go_at_call 28; go_loud (with_reducible refine CR.out.mono ?_); rintro e w4 ⟨hb4, hk4, rfl⟩; have HBZ := Aside0.mk hb4; clear hb4 hk4)
  go_ret
  exact ⟨rfl, HBZ.out⟩
 | some r =>
  rw [hwd] at CR
  clear hwd
  go_enter Tryz.func15, Tryz.ntmps15
  go_wp2_with (go_at_call 28; go_loud (with_reducible refine CR.out.mono ?_); rintro e w4 ⟨hb4, hk4, rfl, hi4⟩; have HBZ := Aside0.mk hb4; clear hb4 hk4 hi4)
  go_ret
  exact ⟨rfl, HBZ.out⟩
end Go.Proofs.YtidcecpbihmloaaGreatDoorE

namespace Go.Proofs.YtidcecpbihmloaaGreatDoor.K06
open Go Go.RowKit Go.Proofs.YtidcecpbihmloaaGreatDoor.P16 Go.Proofs.YtidcecpbihmloaaGreatDoorE Go.Proofs.YtidcecpbihmloaaGreatDoor.M02 Go.Proofs.YtidcecpbihmloaaGreatDoorW.PrintWords Go.Proofs.YtidcecpbihmloaaGreatDoorW.PrintLast Go.Proofs.YtidcecpbihmloaaGreatDoorW.PrintMore
set_option linter.unusedVariables false
set_option linter.unusedSimpArgs false
theorem B_extract (s : ByteArray) (i j : Nat) : B (s.extract i j) = ((B s).drop i).take (j - i) := by
 simp [B, List.take_drop, ByteArray.data_extract]
def isDig (c : UInt8) : Bool := decide (48 ≤ c.toNat ∧ c.toNat ≤ 57)
section
variable (s t : ByteArray) (below : Bool)
end

theorem decimal_f (n : Int) (h0 : -9223372036854775808 ≤ n) (h1 : n ≤ 9223372036854775807) : chars_Decimal.f n = some (mkS (Lib.itoa n)) := by
 unfold chars_Decimal.f strconv_Itoa.f; rw [if_pos ⟨h0, h1⟩]; rfl
end Go.Proofs.YtidcecpbihmloaaGreatDoor.K06

namespace Go.Proofs.YtidcecpbihmloaaGreatDoorE
open Go Go.RowKit Go.Proofs.YtidcecpbihmloaaGreatDoorW.PrintWords Go.Proofs.YtidcecpbihmloaaGreatDoorX Go.Proofs.YtidcecpbihmloaaGreatDoor.P16 Go.Proofs.YtidcecpbihmloaaGreatDoor.M02
set_option linter.unusedVariables false
set_option linter.unusedSimpArgs false
/-- A byte comes at a place. -/
def nxt (s : ByteArray) (a : Nat) (c : UInt8) : Bool := ((B s).drop a).head? == some c
theorem nxt_end {s : ByteArray} {a : Nat} (c : UInt8) (h : s.size ≤ a) : nxt s a c = false := by
 unfold nxt
 rw [List.drop_of_length_le (by rw [B_len]; exact h)]
 rfl
theorem bt_nxt {s : ByteArray} {a : Nat} (c : UInt8) (h : a < s.size) : (bt s (a : Int) == (c.toNat : Int)) = nxt s a c := by
 have hl : a < (B s).length := by rw [B_len]; exact h
 unfold nxt
 rw [bt_nat hl, List.drop_eq_getElem_cons hl, List.head?_cons, Bool.eq_iff_iff, beq_iff_eq, beq_iff_eq]
 constructor
 ·intro e
  have h2 : (B s)[a] = c := UInt8.toNat_inj.1 (by omega)
  rw [h2]
 ·intro e
  injection e with e
  rw [e]
theorem bt_nxt' {s : ByteArray} {a : Nat} (c : UInt8) (h : a < s.size) : (bt s (a : Int) = (c.toNat : Int)) ↔ nxt s a c = true := by
 rw [← bt_nxt c h, beq_iff_eq]
theorem take_len {α : Type} (p : α → Bool) (l : List α) : l.takeWhile p = l.take (l.takeWhile p).length := by
 conv => rhs; arg 2; rw [← List.takeWhile_append_dropWhile (p := p) (l := l)]
 rw [List.take_left]
theorem drop_len {α : Type} (p : α → Bool) (l : List α) : l.dropWhile p = l.drop (l.takeWhile p).length := by
 conv => rhs; arg 2; rw [← List.takeWhile_append_dropWhile (p := p) (l := l)]
 rw [List.drop_left]
theorem tw_le {α : Type} (p : α → Bool) (l : List α) : (l.takeWhile p).length ≤ l.length := (List.takeWhile_sublist p).length_le
end Go.Proofs.YtidcecpbihmloaaGreatDoorE

namespace Go.Proofs.YtidcecpbihmloaaGreatDoorE
open Go Go.RowKit Go.Proofs.YtidcecpbihmloaaGreatDoorW.PrintWords Go.Proofs.YtidcecpbihmloaaGreatDoorW.PrintMore Go.Proofs.YtidcecpbihmloaaGreatDoorW.PrintLast Go.Proofs.YtidcecpbihmloaaGreatDoorX Go.Proofs.YtidcecpbihmloaaGreatDoor.P16 Go.Proofs.YtidcecpbihmloaaGreatDoor.M02
set_option linter.unusedVariables false
set_option linter.unusedSimpArgs false
theorem two_old_ (w : World) (a b : Obj) : ((w.alloc a).alloc b).heap[w.heap.size]? = some a := by
 rw [(below_alloc (Below.refl (w.alloc a).heap.size (w.alloc a)) b).block _ (by simp)]
 exact heap_alloc_new w a
theorem two_new_ (w : World) (a b : Obj) : ((w.alloc a).alloc b).heap[w.heap.size + 1]? = some b := by
 have := heap_alloc_new (w.alloc a) b
 simpa using this
theorem then_w {w w1 w2 : World} (h : Below w.heap.size w w1) (k : Below w1.heap.size w1 w2) : Below w.heap.size w w2 := below_then h h.size k
theorem cell_drew {w : World} {a : Addr} {v : Value} (h : w.cell? a = some v) : w.drew.cell? a = some v := h
theorem set_blk {w : World} {p j : Nat} {cs : Array Value} {T : TypeId} {fz : Nat × Nat} (h : w.heap[p]? = some (.cells cs T fz)) (v : Value) : (w.setCell ⟨p, j, none⟩ v).heap[p]? = some (.cells (cs.setIfInBounds j v) T fz) := by
 simp [World.setCell, Array.getElem?_modify, h]
theorem w_wrap (x : Int) : IntKind.i64.wrap x = wrap64 x := Go.Proofs.YtidcecpbihmloaaGreatDoorW.PrintLast.i64_w x
theorem wrap_in {x : Int} (h0 : -9223372036854775808 ≤ x) (h1 : x ≤ 9223372036854775807) : IntKind.i64.wrap x = x := by rw [w_wrap, w64 h0 h1]
abbrev zCells : Array Value := #[.int .i64 0, .int .i64 0, .string ⟨#[]⟩, .slice none 0 0, .slice none 0 0]
abbrev dCells (x : DT) (v3 v4 : Value) : List Value := [.int .i64 x.f0, .int .i64 x.f1, .string x.f2, v3, v4]
/-- A piece that is being made: its fields in block b, its rows made behind it, apart from one another. -/
structure DL (b : Nat) (x : DT) (v3 v4 : Value) (w : World) : Prop where
 blk : w.heap[b]? = some (.cells #[.int .i64 x.f0, .int .i64 x.f1, .string x.f2, v3, v4] 25 (0, 0))
 r3 : Kd.string.R 9 w (b + 1) (fun k => b < k) v3 x.f3
 r4 : k25.R 25 w (b + 1) (fun k => b < k ∧ some k ≠ v3.ownBlock) v4 x.f4
namespace DL
variable {b : Nat} {x : DT} {v3 v4 : Value} {w w1 : World}
theorem lt (h : DL b x v3 v4 w) : b < w.heap.size := blk_lt h.blk
theorem keep (h : DL b x v3 v4 w) {g : Nat} (hk : KeepBut w w1 g none) (hg : g < b) : DL b x v3 v4 w1 :=
 ⟨hk.blk h.blk (by omega) (by simp), Kd.R_keep h.r3 hk (fun k hk => by omega), Kd.R_keep h.r4 hk (fun k hk => by have := hk.1; omega)⟩
theorem below (h : DL b x v3 v4 w) (hb : Below w.heap.size w w1) : DL b x v3 v4 w1 :=
 ⟨(hb.block b h.lt).trans h.blk, Kd.R_below h.r3 hb, Kd.R_below h.r4 hb⟩
theorem far (h : DL b x v3 v4 w) {p : Addr} (hp : p.block < b) (u : Value) : DL b x v3 v4 (w.setCell p u) :=
 ⟨blk_far h.blk (by omega) u, Kd.R_far h.r3 (fun k hk => by omega) u, Kd.R_far h.r4 (fun k hk => by have := hk.1; omega) u⟩
/-- A name has been appended, and stored. -/
theorem name (h : DL b x v3 v4 w) {n : ByteArray} {u : Value} (hr : Kd.string.R 9 w1 (b + 1) (fun k => b < k) u (x.f3 ++ [n])) (hg : w.grownBy w1 v3.ownBlock) (hat : u.ownBlock = v3.ownBlock ∨ ∃ q, u.ownBlock = some q ∧ w.heap.size ≤ q) :
  DL b ⟨x.f0, x.f1, x.f2, x.f3 ++ [n], x.f4⟩ u v4 (w1.setCell ⟨b, 3, none⟩ u) := by
 have hb : w1.heap[b]? = some (.cells #[.int .i64 x.f0, .int .i64 x.f1, .string x.f2, v3, v4] 25 (0, 0)) := by
  refine blk_grown h.blk hg (fun e => ?_)
  have := h.r3.1 b e.symm
  omega
 have h4 := Kd.R_after (v := v3) (v1 := u) h.r4 hg hat
 exact ⟨by rw [set_blk hb]; rfl, Kd.R_far hr (p := ⟨b, 3, none⟩) (fun k hk => by show k ≠ b; omega) u, Kd.R_far h4 (p := ⟨b, 3, none⟩) (fun k hk => by show k ≠ b; have := hk.1; omega) u⟩
/-- A piece has been appended, and stored. -/
theorem piece (h : DL b x v3 v4 w) {d : DT} {u : Value} (hr : k25.R 25 w1 (b + 1) (fun k => b < k ∧ some k ≠ v3.ownBlock) u (x.f4 ++ [d])) (hg : w.grownBy w1 v4.ownBlock) :
  DL b ⟨x.f0, x.f1, x.f2, x.f3, x.f4 ++ [d]⟩ v3 u (w1.setCell ⟨b, 4, none⟩ u) := by
 have hb : w1.heap[b]? = some (.cells #[.int .i64 x.f0, .int .i64 x.f1, .string x.f2, v3, v4] 25 (0, 0)) := by
  refine blk_grown h.blk hg (fun e => ?_)
  have := (h.r4.1 b e.symm).1
  omega
 have h3 : Kd.string.R 9 w1 (b + 1) (fun k => b < k ∧ some k = v3.ownBlock) v3 x.f3 := by
  refine Kd.R_grown (Kd.R_mono (ok := fun k => b < k ∧ some k = v3.ownBlock) ?_ (fun _ h => h)) hg (fun k hk e => ?_)
  ·exact ⟨fun k hk => ⟨h.r3.1 k hk, hk.symm⟩, h.r3.2.imp_ (fun _ _ hp => hp)⟩
  ·exact (h.r4.1 k e.symm).2 hk.2
 exact ⟨by rw [set_blk hb]; rfl, Kd.R_far (Kd.R_mono h3 (fun _ h => h.1)) (p := ⟨b, 4, none⟩) (fun k hk => by show k ≠ b; omega) u, Kd.R_far hr (p := ⟨b, 4, none⟩) (fun k hk => by show k ≠ b; have := hk.1; omega) u⟩
/-- What has been made reads as a piece of one's own. -/
theorem made (h : DL b x v3 v4 w) {base : Nat} (hb : base ≤ b + 1) : k25.M w base (fun _ => True) x (dCells x v3 v4) :=
 k25_mkM w base _ x (Kd.R_mono (Kd.R_lower h.r3 hb) (fun _ _ => trivial)) (Kd.R_mono (Kd.R_lower h.r4 hb) (fun _ _ => trivial))
theorem new (w : World) (k n : Int) (t : ByteArray) (hb : w.heap[b]? = some (.cells #[.int .i64 k, .int .i64 n, .string t, .slice none 0 0, .slice none 0 0] 25 (0, 0))) : DL b ⟨k, n, t, [], []⟩ (.slice none 0 0) (.slice none 0 0) w :=
 ⟨hb, Kd.R_nil _ _ _ _ _, Kd.R_nil _ _ _ _ _⟩
end DL
end Go.Proofs.YtidcecpbihmloaaGreatDoorE

namespace Go.Proofs.YtidcecpbihmloaaGreatDoor.K05
open Go Go.RowKit Go.Proofs.YtidcecpbihmloaaGreatDoor.P16 Go.Proofs.YtidcecpbihmloaaGreatDoorE Go.Proofs.YtidcecpbihmloaaGreatDoor.L03 Go.Proofs.YtidcecpbihmloaaGreatDoor.K03 Go.Proofs.YtidcecpbihmloaaGreatDoor.K04 Go.Proofs.YtidcecpbihmloaaGreatDoorW.PrintWords Go.Proofs.YtidcecpbihmloaaGreatDoorW.PrintLast Go.Proofs.YtidcecpbihmloaaGreatDoorW.PrintMore
set_option linter.unusedVariables false
set_option linter.unusedSimpArgs false
theorem form_all : ∀ c : Fin 256, tendrilref03_Form.f 8 (c.val : Int) = some ⟨(escB (UInt8.ofNat c.val)).toArray⟩ := by decide +kernel
theorem form_ev (c : UInt8) : Ev (fun k => tendrilref03_Form.f k (c.toNat : Int)) ⟨(escB c).toArray⟩ := by
 have h := form_all ⟨c.toNat, c.toNat_lt⟩
 simp only [UInt8.ofNat_toNat] at h
 exact Ev.of (fun k => tendrilref03_Form.mono _ k) h
theorem bt_at (s : ByteArray) (i : Nat) (h : i < s.data.toList.length) : bt s (i : Int) = ((s.data.toList[i]'h).toNat : Int) := by
 have hs : i < s.size := by rw [← dlen]; exact h
 unfold bt
 rw [dif_pos (by simpa using hs)]
 simp only [Int.toNat_natCast]
 rfl
theorem stop_le (l : List UInt8) : stopS l ≤ l.length := List.findIdx_le_length
theorem stop_no (l : List UInt8) : Lib.NoAny l Go.Proofs.YtidcecpbihmloaaGreatDoorE.sgn (stopS l) := by
 intro j b hj hb
 obtain ⟨hlt, rfl⟩ := List.getElem?_eq_some_iff.1 hb
 have := List.not_of_lt_findIdx hj
 simpa using this
theorem stop_hit (l : List UInt8) (h : stopS l < l.length) : Go.Proofs.YtidcecpbihmloaaGreatDoorE.sgn.contains (l[stopS l]'h) = true := List.findIdx_getElem (w := h)
theorem any_stop (l : List UInt8) : Lib.indexAny l Go.Proofs.YtidcecpbihmloaaGreatDoorE.sgn = if stopS l < l.length then (stopS l : Int) else -1 := by
 split
 ·rename_i h
  exact Lib.indexAny_hit (stop_no l) (List.getElem?_eq_getElem h) (stop_hit l h)
 ·rename_i h
  exact Lib.indexAny_none (by rw [show l.length = stopS l by have := stop_le l; omega]; exact stop_no l)
theorem any_f (s : ByteArray) (h : s.size ≤ 1000000000) : strings_IndexAny.f s ⟨#[60, 62, 34]⟩ = some (if stopS s.data.toList < s.data.toList.length then (stopS s.data.toList : Int) else -1) := by
 unfold strings_IndexAny.f
 rw [if_pos ⟨by omega, by decide, by decide, by decide⟩]
 congr 1
 exact any_stop _
def spanS (s : ByteArray) (at_ : Int) : Int := if at_ < 0 ∨ at_ ≥ (s.size : Int) then 0 else (stopS (s.data.toList.drop at_.toNat) : Int)
theorem span_ev (s : ByteArray) (h : s.size ≤ 1000000000) (at_ : Int) : Ev (fun k => escape_Span.f k s at_) (spanS s at_) := by
 unfold spanS
 by_cases h0 : at_ < 0
 ·rw [if_pos (.inl h0)]
  refine Ev.congr (f := fun k => escape_Span.j0 k s at_ true) (fun k => by unfold escape_Span.f; rw [if_pos h0]) ?_
  refine Ev.step (f := fun _ => some 0) (fun k => ?_) (Ev.now _)
  simp only [escape_Span.j0, if_true]
 ·by_cases h1 : at_ ≥ (s.size : Int)
  ·rw [if_pos (.inr h1)]
   refine Ev.congr (f := fun k => escape_Span.j0 k s at_ true) (fun k => by unfold escape_Span.f; rw [if_neg h0, decide_eq_true h1]) ?_
   refine Ev.step (f := fun _ => some 0) (fun k => ?_) (Ev.now _)
   simp only [escape_Span.j0, if_true]
  ·rw [if_neg (by omega)]
   obtain ⟨p, rfl⟩ := Int.eq_ofNat_of_zero_le (show 0 ≤ at_ by omega)
   have hx : (s.extract p s.size).data.toList = s.data.toList.drop p := by
    rw [ext_list, List.take_of_length_le (by rw [List.length_drop, dlen]; omega)]
   have hl : (s.data.toList.drop p).length = s.size - p := by rw [List.length_drop, dlen]
   have hxs : (s.extract p s.size).size = s.size - p := by rw [← dlen, hx, hl]
   have hst := stop_le (s.data.toList.drop p)
   refine Ev.congr (f := fun k => escape_Span.j0 k s (p : Int) false) (fun k => by unfold escape_Span.f; rw [if_neg h0, decide_eq_false h1]) ?_
   refine Ev.step (f := fun _ => some (stopS (s.data.toList.drop p) : Int)) (fun k => ?_) (Ev.now _)
   simp only [escape_Span.j0]
   rw [if_neg (by decide), if_pos (by omega), if_pos (by omega), Int.toNat_natCast, any_f _ (by omega), Option.bind_some, hx]
   by_cases h2 : stopS (s.data.toList.drop p) < (s.data.toList.drop p).length
   ·rw [if_pos h2, if_pos (by omega)]
   ·rw [if_neg h2, if_neg (by decide), Go.Proofs.YtidcecpbihmloaaGreatDoor.L03.w64 (by omega) (by omega)]
    congr 1
    omega
theorem cat_str (a b : List UInt8) : (⟨a.toArray⟩ : ByteArray) ++ ⟨b.toArray⟩ = ⟨(a ++ b).toArray⟩ := by
 apply ByteArray.ext
 rw [ByteArray.data_append]
 simp
theorem resc_ev (s : ByteArray) (h : s.size ≤ 1000000000) (d : Nat) : ∀ i : Nat, i + d = s.size → Ev (fun k => tendrilref03_Escape.l0 k s ⟨(escS (s.data.toList.take i)).toArray⟩ (s.size : Int) (i : Int)) ⟨(escS s.data.toList).toArray⟩ := by
 induction d with
 | zero =>
  intro i hi
  obtain rfl : i = s.size := by omega
  refine Ev.step (f := fun _ => some ⟨(escS s.data.toList).toArray⟩) (fun k => ?_) (Ev.now _)
  simp only [tendrilref03_Escape.l0]
  rw [if_neg (by omega), List.take_of_length_le (by rw [dlen]; omega)]
 | succ d ih =>
  intro i hi
  have hlt : i < s.data.toList.length := by rw [dlen]; omega
  have hll := escS_take_len s i
  refine Ev.step (f := fun k => (tendrilref03_Form.f k ((s.data.toList[i]'hlt).toNat : Int)).bind fun t137 => (if (escS (s.data.toList.take i)).length + t137.size ≤ 9223372036854775807 then (tendrilref03_Escape.l0 k s (⟨(escS (s.data.toList.take i)).toArray⟩ ++ t137) (s.size : Int) ((i + 1 : Nat) : Int)) else none)) (fun k => ?_) ?_
  ·simp only [tendrilref03_Escape.l0]
   rw [if_pos (by omega), if_pos (by omega), if_pos (by omega), bt_at s i hlt, sizeL, Go.Proofs.YtidcecpbihmloaaGreatDoor.L03.w64 (by omega) (by omega)]
   rfl
  ·refine Ev.bind (form_ev _) ?_
   have h6 := escB_len (s.data.toList[i]'hlt)
   simp only [sizeL, cat_str]
   exact Ev.congr (f := fun k => tendrilref03_Escape.l0 k s ⟨(escS (s.data.toList.take (i + 1))).toArray⟩ (s.size : Int) ((i + 1 : Nat) : Int)) (fun k => by rw [if_pos (by omega), ← escS_take s i hlt]) (ih (i + 1) (by omega))
theorem resc_run (s : ByteArray) (h : s.size ≤ 1000000000) : Ev (fun k => tendrilref03_Escape.f k s) ⟨(escS s.data.toList).toArray⟩ := resc_ev s h s.size 0 (by omega)
end Go.Proofs.YtidcecpbihmloaaGreatDoor.K05

namespace Go.Proofs.YtidcecpbihmloaaGreatDoorE
open Go Go.RowKit Go.Proofs.YtidcecpbihmloaaGreatDoorW.PrintWords Go.Proofs.YtidcecpbihmloaaGreatDoorW.PrintMore Go.Proofs.YtidcecpbihmloaaGreatDoorW.PrintLast Go.Proofs.YtidcecpbihmloaaGreatDoorX Go.Proofs.YtidcecpbihmloaaGreatDoor.P16 Go.Proofs.YtidcecpbihmloaaGreatDoor.M02
set_option linter.unusedVariables false
set_option linter.unusedSimpArgs false
set_option maxRecDepth 100000
/-- A piece stored into the block of a call's result. -/
abbrev set5 (W : World) (b : Nat) (v0 v1 v2 v3 v4 : Value) : World := ((((W.setCell ⟨b, 0, none⟩ v0).setCell ⟨b, 1, none⟩ v1).setCell ⟨b, 2, none⟩ v2).setCell ⟨b, 3, none⟩ v3).setCell ⟨b, 4, none⟩ v4
theorem KeepBut.far {w W : World} {g : Nat} (h : KeepBut w W g none) {p : Addr} (hp : w.heap.size ≤ p.block) (u : Value) : KeepBut w (W.setCell p u) g none :=
 ⟨Nat.le_trans h.1 (by simp [World.setCell]), fun i hi hg hr => (Below.heap_setCell W p u i (by omega)).trans (h.2 i hi hg hr)⟩
theorem keep5 {w W : World} {g b : Nat} (h : KeepBut w W g none) (hb : w.heap.size ≤ b) (v0 v1 v2 v3 v4 : Value) : KeepBut w (set5 W b v0 v1 v2 v3 v4) g none :=
 KeepBut.far (KeepBut.far (KeepBut.far (KeepBut.far (KeepBut.far h (p := ⟨b, 0, none⟩) hb v0) (p := ⟨b, 1, none⟩) hb v1) (p := ⟨b, 2, none⟩) hb v2) (p := ⟨b, 3, none⟩) hb v3) (p := ⟨b, 4, none⟩) hb v4
theorem below5 {w W : World} {b : Nat} (h : Below w.heap.size w W) (hb : w.heap.size ≤ b) (v0 v1 v2 v3 v4 : Value) : Below w.heap.size w (set5 W b v0 v1 v2 v3 v4) :=
 ((((h.setCell hb v0).setCell hb v1).setCell hb v2).setCell hb v3).setCell hb v4
theorem made5 {base : Nat} {ok : Nat → Prop} {x : DT} {cs : List Value} {W : World} {b : Nat} (h : k25.M W base ok x cs) (hok : ∀ k, ok k → k ≠ b) (v0 v1 v2 v3 v4 : Value) : k25.M (set5 W b v0 v1 v2 v3 v4) base ok x cs :=
 Kd.M_far (Kd.M_far (Kd.M_far (Kd.M_far (Kd.M_far h (p := ⟨b, 0, none⟩) hok v0) (p := ⟨b, 1, none⟩) hok v1) (p := ⟨b, 2, none⟩) hok v2) (p := ⟨b, 3, none⟩) hok v3) (p := ⟨b, 4, none⟩) hok v4
theorem stop_lt {s : ByteArray} {a : Nat} (h : a ≤ s.size) : a + stopS ((B s).drop a) ≤ s.size := by
 have h1 := Go.Proofs.YtidcecpbihmloaaGreatDoor.K05.stop_le ((B s).drop a)
 rw [List.length_drop, B_len] at h1
 omega
theorem span_nat (s : ByteArray) (a : Nat) : Go.Proofs.YtidcecpbihmloaaGreatDoor.K05.spanS s (a : Int) = (stopS ((B s).drop a) : Int) := by
 unfold Go.Proofs.YtidcecpbihmloaaGreatDoor.K05.spanS
 by_cases h : a < s.size
 ·rw [if_neg (by omega), Int.toNat_natCast]
 ·rw [if_pos (by omega), List.drop_of_length_le (by rw [B_len]; omega)]
  rfl
theorem ext_take (s : ByteArray) (a n : Nat) : (s.extract a (a + n)).data.toList = ((B s).drop a).take n := by
 rw [Go.Proofs.YtidcecpbihmloaaGreatDoor.L03.ext_list, Nat.add_sub_cancel_left]
end Go.Proofs.YtidcecpbihmloaaGreatDoorE

namespace Go.Proofs.YtidcecpbihmloaaGreatDoorE
open Go Go.RowKit Go.Proofs.YtidcecpbihmloaaGreatDoorW.PrintWords Go.Proofs.YtidcecpbihmloaaGreatDoorW.PrintMore Go.Proofs.YtidcecpbihmloaaGreatDoorW.PrintLast Go.Proofs.YtidcecpbihmloaaGreatDoorX Go.Proofs.YtidcecpbihmloaaGreatDoor.P16 Go.Proofs.YtidcecpbihmloaaGreatDoor.M02
set_option linter.unusedVariables false
set_option linter.unusedSimpArgs false
set_option maxRecDepth 100000
def shutB (b : Bool) : UInt8 := if b then 125 else 93
def kindB (b : Bool) : Int := if b then 5 else 4
/-- A list or record behind what opens it. -/
def allS (m : Nat) (s : ByteArray) (a deep : Nat) (b : Bool) : Res DT :=
 if nxt s a (shutB b) = true then .ok ⟨kindB b, 0, em, [], []⟩ (a + 1) ((B s).drop (a + 1)) else membersS m ((B s).drop a) a (deep + 1) b [] []
/-- What stands in memory while a list or record is read. -/
structure LR (w0 w : World) (g : Nat) (x : DT) (v3 v4 : Value) (wr : World) : Prop where
 dl : DL (w.heap.size + 1) x v3 v4 wr
 bel : Below w0.heap.size w0 wr
 keep : KeepBut w wr g none
 res : wr.heap[w.heap.size]? = some (.cells zCells 25 (0, 0))
namespace LR
variable {w0 w : World} {g : Nat} {x : DT} {v3 v4 : Value} {wr w1 : World}
theorem step (h : LR w0 w g x v3 v4 wr) (hg : g < w.heap.size) (hb : Below w0.heap.size w0 w1) (hk : KeepBut wr w1 g none) : LR w0 w g x v3 v4 w1 :=
 ⟨h.dl.keep hk (by omega), hb, h.keep.trans hk (.inl rfl), hk.blk h.res (by omega) (by simp)⟩
theorem below (h : LR w0 w g x v3 v4 wr) (hb : Below wr.heap.size wr w1) : LR w0 w g x v3 v4 w1 :=
 ⟨h.dl.below hb, below_then h.bel h.bel.size hb, h.keep.trans (KeepBut.of_below hb g none) (.inl rfl), (hb.block _ (blk_lt h.res)).trans h.res⟩
theorem set (h : LR w0 w g x v3 v4 wr) (hg : g < w.heap.size) (hg0 : w0.heap.size ≤ g) (j : Nat) (u : Value) : LR w0 w g x v3 v4 (wr.setCell ⟨g, j, none⟩ u) :=
 ⟨h.dl.far (p := ⟨g, j, none⟩) (by show g < _; omega) u, h.bel.setCell (p := ⟨g, j, none⟩) hg0 u, h.keep.set_ j u, blk_far h.res (p := ⟨g, j, none⟩) (by show w.heap.size ≠ g; omega) u⟩
theorem cell (h : LR w0 w g x v3 v4 wr) : wr.cell? ⟨w.heap.size + 1, 0, none⟩ = some (.int .i64 x.f0) ∧ wr.cell? ⟨w.heap.size + 1, 1, none⟩ = some (.int .i64 x.f1) ∧ wr.cell? ⟨w.heap.size + 1, 2, none⟩ = some (.string x.f2) ∧ wr.cell? ⟨w.heap.size + 1, 3, none⟩ = some v3 ∧ wr.cell? ⟨w.heap.size + 1, 4, none⟩ = some v4 :=
 ⟨(blk_cell h.dl.blk 0).trans rfl, (blk_cell h.dl.blk 1).trans rfl, (blk_cell h.dl.blk 2).trans rfl, (blk_cell h.dl.blk 3).trans rfl, (blk_cell h.dl.blk 4).trans rfl⟩
/-- A name appended and stored. -/
theorem name (h : LR w0 w g x v3 v4 wr) (hw : w0.heap.size ≤ w.heap.size) {n : ByteArray} {u : Value} (hr : Kd.string.R 9 w1 (w.heap.size + 1 + 1) (fun k => w.heap.size + 1 < k) u (x.f3 ++ [n])) (hg : wr.grownBy w1 v3.ownBlock) (hat : u.ownBlock = v3.ownBlock ∨ ∃ q, u.ownBlock = some q ∧ wr.heap.size ≤ q) :
  LR w0 w g ⟨x.f0, x.f1, x.f2, x.f3 ++ [n], x.f4⟩ u v4 (w1.setCell ⟨w.heap.size + 1, 3, none⟩ u) := by
 have hne : ∀ k, v3.ownBlock = some k → w.heap.size + 1 < k := fun k hk => h.dl.r3.1 k hk
 refine ⟨h.dl.name hr hg hat, (pw_below_grown h.bel _ h.bel.size hg (fun k hk => by have := hne k hk; omega)).setCell (p := ⟨w.heap.size + 1, 3, none⟩) (by show w0.heap.size ≤ w.heap.size + 1; omega) u, ?_, ?_⟩
 ·have hk1 : KeepBut w w1 g none := ⟨Nat.le_trans h.keep.1 hg.size, fun i hi hgi _ => (hg.block i (Nat.lt_of_lt_of_le hi h.keep.1) (fun e => by have := hne i e.symm; omega)).trans (h.keep.2 i hi hgi (by simp))⟩
  exact KeepBut.far hk1 (p := ⟨w.heap.size + 1, 3, none⟩) (by show w.heap.size ≤ w.heap.size + 1; omega) u
 ·exact blk_far (blk_grown h.res hg (fun e => by have := hne _ e.symm; omega)) (p := ⟨w.heap.size + 1, 3, none⟩) (by show w.heap.size ≠ w.heap.size + 1; omega) u
/-- A piece appended and stored. -/
theorem piece (h : LR w0 w g x v3 v4 wr) (hw : w0.heap.size ≤ w.heap.size) {d : DT} {u : Value} (hr : k25.R 25 w1 (w.heap.size + 1 + 1) (fun k => w.heap.size + 1 < k ∧ some k ≠ v3.ownBlock) u (x.f4 ++ [d])) (hg : wr.grownBy w1 v4.ownBlock) :
  LR w0 w g ⟨x.f0, x.f1, x.f2, x.f3, x.f4 ++ [d]⟩ v3 u (w1.setCell ⟨w.heap.size + 1, 4, none⟩ u) := by
 have hne : ∀ k, v4.ownBlock = some k → w.heap.size + 1 < k := fun k hk => (h.dl.r4.1 k hk).1
 refine ⟨h.dl.piece hr hg, (pw_below_grown h.bel _ h.bel.size hg (fun k hk => by have := hne k hk; omega)).setCell (p := ⟨w.heap.size + 1, 4, none⟩) (by show w0.heap.size ≤ w.heap.size + 1; omega) u, ?_, ?_⟩
 ·have hk1 : KeepBut w w1 g none := ⟨Nat.le_trans h.keep.1 hg.size, fun i hi hgi _ => (hg.block i (Nat.lt_of_lt_of_le hi h.keep.1) (fun e => by have := hne i e.symm; omega)).trans (h.keep.2 i hi hgi (by simp))⟩
  exact KeepBut.far hk1 (p := ⟨w.heap.size + 1, 4, none⟩) (by show w.heap.size ≤ w.heap.size + 1; omega) u
 ·exact blk_far (blk_grown h.res hg (fun e => by have := hne _ e.symm; omega)) (p := ⟨w.heap.size + 1, 4, none⟩) (by show w.heap.size ≠ w.heap.size + 1; omega) u
end LR
/-- An error that stands: Piece hands back an empty piece. -/
theorem info_d : (Tryz.prog.info? 25).map (fun i => (i.zero, i.size, i.bytes)) = some (some (.agg zCells), 5, 80) := by kernel_rfl
theorem info_s : (Tryz.prog.info? 9).map (fun i => (i.zero, i.size, i.bytes)) = some (some (.string ⟨#[]⟩), 1, 16) := by kernel_rfl
end Go.Proofs.YtidcecpbihmloaaGreatDoorE

namespace Go.Proofs.YtidcecpbihmloaaGreatDoorE
open Go Go.RowKit Go.Proofs.YtidcecpbihmloaaGreatDoorW.PrintWords Go.Proofs.YtidcecpbihmloaaGreatDoorX Go.Proofs.YtidcecpbihmloaaGreatDoor.P16 Go.Proofs.YtidcecpbihmloaaGreatDoor.M02
set_option linter.unusedVariables false
set_option linter.unusedSimpArgs false
theorem catB (a b : List UInt8) : mkB a ++ mkB b = mkB (a ++ b) := Go.Proofs.YtidcecpbihmloaaGreatDoor.K05.cat_str a b
theorem s44 : (⟨#[44]⟩ : ByteArray).size = 1 := rfl
theorem s91 : (⟨#[91]⟩ : ByteArray).size = 1 := rfl
theorem s123 : (⟨#[123]⟩ : ByteArray).size = 1 := rfl
theorem s34 : (⟨#[34]⟩ : ByteArray).size = 1 := rfl
/-- What stands in a list or record from a member on. -/
def restS (b : Bool) (i : Nat) (ns : List ByteArray) (l : List DT) : List UInt8 := if i = 0 then printL b ns l else moreL b ns l
theorem restS_cons (b : Bool) (i : Nat) (ns : List ByteArray) (d : DT) (l : List DT) : restS b i ns (d :: l) = ((if i = 0 then [] else [44]) ++ (if b then (ns.headD em).data.toList ++ [61] else [])) ++ (printD d ++ restS b (i + 1) ns.tail l) := by
 have e : restS b (i + 1) ns.tail l = moreL b ns.tail l := if_neg (by omega)
 rw [e]
 unfold restS
 by_cases h : i = 0
 ·rw [if_pos h, if_pos h, printL_cons]; simp
 ·rw [if_neg h, if_neg h]
  show 44 :: printL b ns (d :: l) = _
  rw [printL_cons]; simp
theorem restS_nil (b : Bool) (i : Nat) (ns : List ByteArray) : restS b i ns ([] : List DT) = [] := by
 unfold restS
 split <;> simp [printL, moreL]
/-- A list's or record's text around what stands in it. -/
def shutS (a : Int) (acc : List UInt8) : List UInt8 := if a = 5 then 123 :: (acc ++ [125]) else 91 :: (acc ++ [93])
theorem rd_drop {l : List DT} {i : Nat} {y : DT} {r : List DT} (hd : l.drop i = y :: r) : i < l.length ∧ rd_T25 l (i : Int) = y ∧ l.drop (i + 1) = r ∧ y ∈ l := by
 have hi : i < l.length := by
  rcases Nat.lt_or_ge i l.length with h | h
  ·exact h
  ·rw [List.drop_of_length_le h] at hd; cases hd
 rw [List.drop_eq_getElem_cons hi] at hd
 injection hd with h1 h2
 refine ⟨hi, ?_, h2, ?_⟩
 ·unfold rd_T25
  rw [Int.toNat_natCast, List.getD_eq_getElem?_getD, List.getElem?_eq_getElem hi, ← h1]
  rfl
 ·rw [← h1]; exact List.getElem_mem hi
theorem head_drop (ns : List ByteArray) (i : Nat) : (ns.drop i).headD em = ns.getD i em := by
 rw [List.headD_eq_head?_getD, List.head?_drop, List.getD_eq_getElem?_getD]
theorem tail_drop (ns : List ByteArray) (i : Nat) : (ns.drop i).tail = ns.drop (i + 1) := by rw [List.tail_drop]
theorem print_l0_end (a b : Int) (c : ByteArray) (ns : List ByteArray) (l : List DT) (acc : List UInt8) (hs : acc.length ≤ 1000000000) (i : Nat) (hi : l.length ≤ i) : Ev (fun k => tendrilref16_Print.l0 k (mkB acc) (l.length : Int) (i : Int) a b c ns l) (mkB (shutS a acc)) := by
 refine Ev.step (f := fun _ => some (mkB (shutS a acc))) (fun k => ?_) (Ev.now _)
 simp only [tendrilref16_Print.l0]
 rw [if_neg (by omega)]
 unfold shutS
 by_cases ha : a = 5
 ·rw [if_pos ha, if_pos ha, if_pos (by simp only [mkB_size]; omega), if_pos (by simp only [ByteArray.size_append, mkB_size, s123]; omega)]
  rw [show (⟨#[123]⟩ : ByteArray) = mkB [123] from rfl, show (⟨#[125]⟩ : ByteArray) = mkB [125] from rfl, catB, catB]; rfl
 ·rw [if_neg ha, if_neg ha, if_pos (by simp only [mkB_size]; omega), if_pos (by simp only [ByteArray.size_append, mkB_size, s91]; omega)]
  rw [show (⟨#[91]⟩ : ByteArray) = mkB [91] from rfl, show (⟨#[93]⟩ : ByteArray) = mkB [93] from rfl, catB, catB]; rfl
theorem print_l0_step (a b : Int) (c : ByteArray) (ns : List ByteArray) (l : List DT) (acc : List UInt8) (i : Nat) (y : DT) (r : List DT) (hd : l.drop i = y :: r) (hn : l.length ≤ 140737488351232) (hns : a = 5 → ns.length = l.length) (hsz : acc.length + (ns.getD i em).size ≤ 9000000000) (k : Nat) :
  tendrilref16_Print.l0 (k + 1) (mkB acc) (l.length : Int) (i : Int) a b c ns l = ((tendrilref16_Print.f k y.f0 y.f1 y.f2 y.f3 y.f4).bind fun t => if (mkB (acc ++ ((if i = 0 then [] else [44]) ++ (if decide (a = 5) then (ns.getD i em).data.toList ++ [61] else [])))).size + t.size ≤ 9223372036854775807 then tendrilref16_Print.l0 k (mkB (acc ++ ((if i = 0 then [] else [44]) ++ (if decide (a = 5) then (ns.getD i em).data.toList ++ [61] else []))) ++ t) (l.length : Int) ((i + 1 : Nat) : Int) a b c ns l else none) := by
 obtain ⟨hi, e0, _, _⟩ := rd_drop hd
 have e1 : wrap64 ((i : Int) + 1) = ((i + 1 : Nat) : Int) := by rw [w64 (by omega) (by omega)]; omega
 simp only [tendrilref16_Print.l0]
 rw [if_pos (show (i : Int) < (l.length : Int) by omega), get_rdOf]
 generalize hnm : ns.getD i em = nm at hsz ⊢
 have eN : nm = mkB nm.data.toList := rfl
 by_cases hi0 : i = 0
 ·rw [if_neg (show ¬ (i : Int) > 0 by omega), if_pos hi0]
  by_cases ha : a = 5
  ·have hl := hns ha
   rw [if_pos ha, if_pos (by omega), if_pos (by omega), if_pos (by simp only [mkB_size]; omega), if_pos (by simp only [ByteArray.size_append, mkB_size]; omega), if_pos (by omega), e0, e1, if_pos (by simpa using ha)]
   rw [show mkB acc ++ nm ++ (⟨#[61]⟩ : ByteArray) = mkB (acc ++ ([] ++ (nm.data.toList ++ [61]))) by (conv => lhs; rw [eN, show (⟨#[61]⟩ : ByteArray) = mkB [61] from rfl, catB, catB, List.append_assoc]); rw [List.nil_append]]
  ·rw [if_neg ha, if_pos (by omega), if_pos (by omega), e0, e1, if_neg (by simpa using ha)]
   simp only [List.append_nil]
 ·rw [if_pos (show (i : Int) > 0 by omega), if_neg hi0, if_pos (by simp only [mkB_size]; omega)]
  by_cases ha : a = 5
  ·have hl := hns ha
   rw [if_pos ha, if_pos (by omega), if_pos (by omega), if_pos (by simp only [ByteArray.size_append, mkB_size, s44]; omega), if_pos (by simp only [ByteArray.size_append, mkB_size, s44]; omega), if_pos (by omega), e0, e1, if_pos (by simpa using ha)]
   rw [show mkB acc ++ (⟨#[44]⟩ : ByteArray) ++ nm ++ (⟨#[61]⟩ : ByteArray) = mkB (acc ++ ([44] ++ (nm.data.toList ++ [61]))) by conv => lhs; rw [eN, show (⟨#[61]⟩ : ByteArray) = mkB [61] from rfl, show (⟨#[44]⟩ : ByteArray) = mkB [44] from rfl, catB, catB, catB, List.append_assoc, List.append_assoc]]
  ·rw [if_neg ha, if_pos (by omega), if_pos (by omega), e0, e1, if_neg (by simpa using ha)]
   rw [show mkB acc ++ (⟨#[44]⟩ : ByteArray) = mkB (acc ++ ([44] ++ [])) by (conv => lhs; rw [show (⟨#[44]⟩ : ByteArray) = mkB [44] from rfl, catB]); rw [List.append_nil]]
mutual
theorem print_ev : ∀ (x : DT), OkD x → ∀ (left op r : Nat), left ≤ 2000 → weighD x left op = some r → Ev (fun k => tendrilref16_Print.f k x.f0 x.f1 x.f2 x.f3 x.f4) (mkB (printD x))
 | ⟨a, b, c, ns, l⟩, hx, left, op, r, hL, hw => by
  have hlen := printD_len _ _ _ _ (okD_nums _ hx) hw
  obtain ⟨h0, hp, _, hg, hwl⟩ := weigh_plain hw
  obtain ⟨_, hb, _, hn3, hs3, hn4, hs4⟩ := hx.out
  simp only at hn3 hs3 hn4 hs4 hg hwl hb
  simp only
  have step : ∀ R, Ev (fun k => tendrilref16_Print.j0 k (decide (a = 1 ∧ b = 1)) a b c ns l) R → a ≠ 0 → Ev (fun k => tendrilref16_Print.f k a b c ns l) R := fun R h ha => by
   refine Ev.step (f := fun k => tendrilref16_Print.j0 k (decide (a = 1 ∧ b = 1)) a b c ns l) (fun k => ?_) h
   simp only [tendrilref16_Print.f]
   rw [if_neg ha]
   by_cases h1 : a = 1
   ·rw [if_pos h1]
    congr 1
    by_cases hb1 : b = 1 <;> simp [h1, hb1]
   ·rw [if_neg h1]
    congr 1
    simp [h1]
  have loop : a = 4 ∨ a = 5 → (a = 5 → ns.length = l.length) → (a = 4 → ns = []) → Ev (fun k => tendrilref16_Print.f k a b c ns l) (mkB (shutS a (printL (decide (a = 5)) ns l))) := fun ha hnl hn4' => by
   refine step _ ?_ (by omega)
   refine Ev.step (f := fun k => tendrilref16_Print.l0 k (mkB []) (l.length : Int) ((0 : Nat) : Int) a b c ns l) (fun k => ?_) ?_
   ·simp only [tendrilref16_Print.j0]
    rw [if_neg (by simp; omega), if_neg (by omega), if_neg (by omega), if_neg (by omega)]
    rfl
   ·have hpl := printL_len l (decide (a = 5)) ns (left - 1) (op + 1) r (names_all hg) (okD_numsL l hs4) hwl
    have h := printL_ev l hs4 a b c ns l 0 rfl [] (left - 1) (op + 1) r (by omega) hwl hn4 hnl (names_all hg) (by
     rw [show restS (decide (a = 5)) 0 (ns.drop 0) l = printL (decide (a = 5)) ns l from rfl]; simp only [List.length_nil]; omega)
    exact h
  rcases plain_cases hp with ⟨rfl, rfl, rfl, rfl, rfl⟩ | ⟨rfl, h1, rfl, rfl, rfl⟩ | ⟨rfl, rfl, rfl, rfl⟩ | ⟨rfl, rfl, rfl, rfl, hs⟩ | ⟨rfl, rfl, rfl, rfl⟩ | ⟨rfl, rfl, rfl, hl⟩
  ·exact Ev.step (f := fun _ => some _) (fun k => by simp only [tendrilref16_Print.f]; rw [if_pos trivial]; rfl) (Ev.now _)
  ·rcases h1 with rfl | rfl
   ·exact step _ (Ev.step (f := fun _ => some _) (fun k => by simp only [tendrilref16_Print.j0]; rw [if_neg (by decide), if_pos trivial]; rfl) (Ev.now _)) (by decide)
   ·exact step _ (Ev.step (f := fun _ => some _) (fun k => by simp only [tendrilref16_Print.j0]; rw [if_pos (by decide)]; rfl) (Ev.now _)) (by decide)
  ·refine step _ (Ev.step (f := fun k => (tendrilref02_Decimal.f k b).bind fun t => some t) (fun k => by simp only [tendrilref16_Print.j0]; rw [if_neg (by simp), if_neg (by decide), if_pos trivial]) ?_) (by decide)
   exact Ev.bind (rdec_ev b hb.1 hb.2) (Ev.now _)
  ·refine step _ (Ev.step (f := fun k => (tendrilref03_Escape.f k c).bind fun t137 => (if 1 + t137.size ≤ 9223372036854775807 then (if ((⟨#[34]⟩ : ByteArray) ++ t137).size + 1 ≤ 9223372036854775807 then (some (((⟨#[34]⟩ : ByteArray) ++ t137) ++ (⟨#[34]⟩ : ByteArray))) else (none)) else (none))) (fun k => by simp only [tendrilref16_Print.j0]; rw [if_neg (by simp), if_neg (by decide), if_neg (by decide), if_pos trivial]) ?_) (by decide)
   refine Ev.bind (Go.Proofs.YtidcecpbihmloaaGreatDoor.K05.resc_run c (by omega)) ?_
   have h6 := escS_len c.data.toList
   have h7 : c.data.toList.length = c.size := by rw [Array.length_toList]; rfl
   refine Ev.congr (f := fun _ => some (mkB (34 :: (escS c.data.toList ++ [34])))) (fun k => ?_) (Ev.now _)
   show (if 1 + (mkB (escS c.data.toList)).size ≤ 9223372036854775807 then (if ((⟨#[34]⟩ : ByteArray) ++ mkB (escS c.data.toList)).size + 1 ≤ 9223372036854775807 then (some (((⟨#[34]⟩ : ByteArray) ++ mkB (escS c.data.toList)) ++ (⟨#[34]⟩ : ByteArray))) else (none)) else (none)) = _
   rw [if_pos (by simp only [mkB_size]; omega), if_pos (by simp only [ByteArray.size_append, mkB_size, s34]; omega), show (⟨#[34]⟩ : ByteArray) = mkB [34] from rfl, catB, catB]
   rfl
  ·exact loop (.inl rfl) (fun h => absurd h (by decide)) (fun _ => rfl)
  ·exact loop (.inr rfl) (fun _ => hl) (fun h => absurd h (by decide))
theorem printL_ev : ∀ (r : List DT), (∀ y ∈ r, OkD y) → ∀ (a b : Int) (c : ByteArray) (ns : List ByteArray) (l : List DT) (i : Nat), l.drop i = r → ∀ (acc : List UInt8) (left op q : Nat), left ≤ 2000 → weighL r left op = some q → l.length ≤ 140737488351232 → (a = 5 → ns.length = l.length) → (∀ x ∈ ns, namedS true x.data.toList = true) →
  acc.length + (restS (decide (a = 5)) i (ns.drop i) r).length ≤ 900000000 → Ev (fun k => tendrilref16_Print.l0 k (mkB acc) (l.length : Int) (i : Int) a b c ns l) (mkB (shutS a (acc ++ restS (decide (a = 5)) i (ns.drop i) r)))
 | [], _, a, b, c, ns, l, i, hd, acc, left, op, q, hL, hw, hn, hnl, hg, hs => by
  rw [restS_nil, List.append_nil]
  rw [restS_nil] at hs
  exact print_l0_end a b c ns l acc (by simp only [List.length_nil] at hs; omega) i (List.drop_eq_nil_iff.1 hd)
 | y :: r, hx, a, b, c, ns, l, i, hd, acc, left, op, q, hL, hw, hn, hnl, hg, hs => by
  obtain ⟨hi, e0, hr, _⟩ := rd_drop hd
  rw [weighL] at hw
  have h32 : (ns.getD i em).size ≤ 32 := by
   rw [List.getD_eq_getElem?_getD]
   cases hq : ns[i]? with
   | none => exact Nat.zero_le _
   | some s =>
    have := named_len (hg s (List.mem_of_getElem? hq))
    rw [Array.length_toList] at this
    exact this
  rw [restS_cons, head_drop, tail_drop] at hs ⊢
  cases hwy : weighD y left op with
  | none => rw [hwy] at hw; cases hw
  | some q1 =>
   rw [hwy] at hw
   have hq1 := weighD_le y left op q1 hwy
   generalize hpre : ((if i = 0 then ([] : List UInt8) else [44]) ++ (if decide (a = 5) = true then (ns.getD i em).data.toList ++ [61] else [])) = pre at hs ⊢
   rw [List.length_append, List.length_append] at hs
   refine Ev.step (fun k => print_l0_step a b c ns l acc i y r hd hn hnl (by omega) k) ?_
   rw [hpre]
   refine Ev.bind (print_ev y (hx y List.mem_cons_self) left op q1 hL hwy) ?_
   have h := printL_ev r (fun z hz => hx z (List.mem_cons_of_mem _ hz)) a b c ns l (i + 1) hr (acc ++ pre ++ printD y) q1 op q (by omega) hw hn hnl hg (by rw [List.length_append, List.length_append]; omega)
   rw [show acc ++ (pre ++ (printD y ++ restS (decide (a = 5)) (i + 1) (ns.drop (i + 1)) r)) = acc ++ pre ++ printD y ++ restS (decide (a = 5)) (i + 1) (ns.drop (i + 1)) r by simp only [List.append_assoc]]
   exact Ev.congr (fun k => by rw [if_pos (by simp only [mkB_size, List.length_append]; omega), catB]) h
end
theorem rprint_ev (x : DT) (hx : OkD x) (h : rightD x = true) : Ev (fun k => tendrilref16_Print.f k x.f0 x.f1 x.f2 x.f3 x.f4) (mkB (printD x)) := by
 obtain ⟨r, hr⟩ := Option.isSome_iff_exists.1 h
 exact print_ev x hx 2000 0 r (by omega) hr
end Go.Proofs.YtidcecpbihmloaaGreatDoorE

namespace Go.Proofs.YtidcecpbihmloaaGreatDoorE
open Go Go.RowKit Go.Proofs.YtidcecpbihmloaaGreatDoorW.PrintWords Go.Proofs.YtidcecpbihmloaaGreatDoorW.PrintMore Go.Proofs.YtidcecpbihmloaaGreatDoorW.PrintLast Go.Proofs.YtidcecpbihmloaaGreatDoorX Go.Proofs.YtidcecpbihmloaaGreatDoor.P16 Go.Proofs.YtidcecpbihmloaaGreatDoor.M02
set_option linter.unusedVariables false
set_option linter.unusedSimpArgs false
set_option maxRecDepth 100000
abbrev IsW (B b : Nat) (out : List UInt8) (w : World) : Prop := Lib.IsBuilderF 53 5 B b (Lib.byteCells out) w
/-- What write says. -/
def writeP (w0 w : World) (b : Nat) (out : List UInt8) (e : Ending) (w' : World) : Prop :=
 e = .returned (.tuple #[]) ∧ IsW w0.heap.size b out w' ∧ Below w0.heap.size w0 w' ∧ Lib.OthersKept 5 (some b) w w'
/-- Where write is called. -/
structure WAt (w0 w : World) (b : Nat) (out : List UInt8) : Prop where
 bld : IsW w0.heap.size b out w
 bel : Below w0.heap.size w0 w
def writeC (x : DT) : Prop := ∀ (left op r : Nat), weighD x left op = some r → ∀ (b : Nat) (out : List UInt8) (w0 w : World), GL w0 → ∀ (A3 : Option Addr) (c3 : Nat) (A4 : Option Addr) (c4 : Nat), x.f3.length ≤ c3 → Kd.string.C w0 A3 x.f3.length x.f3 → x.f4.length ≤ c4 → k25.C w0 A4 x.f4.length x.f4 → out.length + (printD x).length ≤ 2000000000 → WAt w0 w b out →
 Calls Tryz.prog 26 #[.pointer (some ⟨b, 0, none⟩), aggD x A3 c3 A4 c4] w (writeP w0 w b (out ++ printD x))
theorem WAt.below {w0 w w1 : World} {b : Nat} {out : List UInt8} (h : WAt w0 w b out) (hb : Below w.heap.size w w1) : WAt w0 w1 b out := ⟨b_below h.bld hb, below_then h.bel h.bel.size hb⟩
theorem kept_of_below {e : TypeId} {b : Option Nat} {w w1 : World} (hb : Below w.heap.size w w1) : Lib.OthersKept e b w w1 := fun k o hk _ _ => (hb.block k (blk_lt hk)).trans hk
/-- One text, written. -/
theorem wstr_c (w0 w : World) (b : Nat) (out : List UInt8) (t : ByteArray) (h : WAt w0 w b out) (hl : out.length + t.size ≤ 2000000000) :
  Calls Tryz.prog 46 #[.pointer (some ⟨b, 0, none⟩), .string t] w fun e w' => e = .returned (.tuple #[.int .i64 t.size, .nilIface]) ∧ WAt w0 w' b (out ++ t.data.toList) ∧ Lib.OthersKept 5 (some b) w w' := by
 refine (b_string w0.heap.size b out t w h.bld (by omega) h.bel.size).mono ?_
 rintro e w' ⟨rfl, h1, h2, h3⟩
 exact ⟨rfl, ⟨h1, h.bel.trans h2⟩, h3⟩
theorem wbyte_c (w0 w : World) (b : Nat) (out : List UInt8) (c : UInt8) (h : WAt w0 w b out) (hl : out.length + 1 ≤ 2000000000) :
  Calls Tryz.prog 69 #[.pointer (some ⟨b, 0, none⟩), .int .u8 c.toNat] w fun e w' => e = .returned .nilIface ∧ WAt w0 w' b (out ++ [c]) ∧ Lib.OthersKept 5 (some b) w w' := by
 refine (b_byte w0.heap.size b out c w h.bld (by omega) h.bel.size).mono ?_
 rintro e w' ⟨rfl, h1, h2, h3⟩
 exact ⟨rfl, ⟨h1, h.bel.trans h2⟩, h3⟩
abbrev dBox (x : DT) (A3 : Option Addr) (c3 : Nat) (A4 : Option Addr) (c4 : Nat) : Obj := .cells #[.int .i64 x.f0, .int .i64 x.f1, .string x.f2, .slice A3 x.f3.length c3, .slice A4 x.f4.length c4] 25
set_option maxHeartbeats 4000000 in
theorem write_none (x : DT) (hk : x.f0 = 0) (b : Nat) (out : List UInt8) (w0 w : World) (hgl : GL w0) (A3 : Option Addr) (c3 : Nat) (A4 : Option Addr) (c4 : Nat) (hl : out.length + 4 ≤ 2000000000) (h : WAt w0 w b out) :
  Calls Tryz.prog 26 #[.pointer (some ⟨b, 0, none⟩), aggD x A3 c3 A4 c4] w (writeP w0 w b (out ++ [110, 111, 110, 101])) := by
 have HA := Aside0.mk (h.below (below_alloc (Below.refl _ w) (dBox x A3 c3 A4 c4)))
 have HK := Aside0.mk (kept_of_below (e := 5) (b := some b) (below_alloc (Below.refl _ w) (dBox x A3 c3 A4 c4)))
 have HG := Aside0.mk hgl
 clear h hgl
 have HC : Aside0 (Calls Tryz.prog 46 #[.pointer (some ⟨b, 0, none⟩), .string ⟨#[110, 111, 110, 101]⟩] (w.alloc (dBox x A3 c3 A4 c4)) fun e w' => e = .returned (.tuple #[.int .i64 4, .nilIface]) ∧ WAt w0 w' b (out ++ [110, 111, 110, 101]) ∧ Lib.OthersKept 5 (some b) (w.alloc (dBox x A3 c3 A4 c4)) w') := ⟨wstr_c w0 _ b out ⟨#[110, 111, 110, 101]⟩ HA.out hl⟩
 have k0 : (x.f0 == 0) = true := by rw [hk]; rfl
 have k1 : (x.f0 == 1) = false := by rw [hk]; rfl
 have k2 : (x.f0 == 2) = false := by rw [hk]; rfl
 have k3 : (x.f0 == 3) = false := by rw [hk]; rfl
 have k4 : (x.f0 == 4) = false := by rw [hk]; rfl
 have k5 : (x.f0 == 5) = false := by rw [hk]; rfl
 clear hk
 go_enter Tryz.func26, Tryz.ntmps26
 go_wp2_with (go_at_call 46; go_loud (with_reducible refine HC.out.mono ?_); rintro e w5 ⟨rfl, h5, hk5⟩; have H5 := Aside0.mk h5; have HK5 := Aside0.mk hk5; clear h5 hk5)
 (try simp only [Exit.inBlock, Exit.then])
 refine bodyPost_ret (results_none rfl _ _ _) rfl ?_
 exact ⟨rfl, H5.out.bld, H5.out.bel, HK.out.trans HK5.out⟩
set_option maxHeartbeats 4000000 in
theorem write_truth0 (x : DT) (hk : x.f0 = 1) (hn : x.f1 = 0) (b : Nat) (out : List UInt8) (w0 w : World) (hgl : GL w0) (A3 : Option Addr) (c3 : Nat) (A4 : Option Addr) (c4 : Nat) (hl : out.length + 2 ≤ 2000000000) (h : WAt w0 w b out) :
  Calls Tryz.prog 26 #[.pointer (some ⟨b, 0, none⟩), aggD x A3 c3 A4 c4] w (writeP w0 w b (out ++ [110, 111])) := by
 have HA := Aside0.mk (h.below (below_alloc (Below.refl _ w) (dBox x A3 c3 A4 c4)))
 have HK := Aside0.mk (kept_of_below (e := 5) (b := some b) (below_alloc (Below.refl _ w) (dBox x A3 c3 A4 c4)))
 have HG := Aside0.mk hgl
 clear h hgl
 simp only [dBox, hn] at HA HK
 have HC : Aside0 (Calls Tryz.prog 46 #[.pointer (some ⟨b, 0, none⟩), .string ⟨#[110, 111]⟩] (w.alloc (.cells #[.int .i64 x.f0, .int .i64 0, .string x.f2, .slice A3 x.f3.length c3, .slice A4 x.f4.length c4] 25)) fun e w' => e = .returned (.tuple #[.int .i64 2, .nilIface]) ∧ WAt w0 w' b (out ++ [110, 111]) ∧ Lib.OthersKept 5 (some b) (w.alloc (.cells #[.int .i64 x.f0, .int .i64 0, .string x.f2, .slice A3 x.f3.length c3, .slice A4 x.f4.length c4] 25)) w') := ⟨wstr_c w0 _ b out ⟨#[110, 111]⟩ HA.out hl⟩
 have hix : ∀ w : World, (Instr.index 83 (.agg #[.string ⟨#[110, 111]⟩, .string ⟨#[121, 101, 115]⟩]) (.int .i64 0)).run Tryz.prog w = .ok (.string ⟨#[110, 111]⟩) w := fun _ => rfl
 have k0 : (x.f0 == 0) = false := by rw [hk]; rfl
 have k1 : (x.f0 == 1) = true := by rw [hk]; rfl
 have k2 : (x.f0 == 2) = false := by rw [hk]; rfl
 have k3 : (x.f0 == 3) = false := by rw [hk]; rfl
 have k4 : (x.f0 == 4) = false := by rw [hk]; rfl
 have k5 : (x.f0 == 5) = false := by rw [hk]; rfl
 clear hk
 go_enter Tryz.func26, Tryz.ntmps26
 go_wp2_with (go_at_call 46; go_loud (with_reducible refine HC.out.mono ?_); rintro e w5 ⟨rfl, h5, hk5⟩; have H5 := Aside0.mk h5; have HK5 := Aside0.mk hk5; clear h5 hk5)
 (try simp only [Exit.inBlock, Exit.then])
 refine bodyPost_ret (results_none rfl _ _ _) rfl ?_
 exact ⟨rfl, H5.out.bld, H5.out.bel, HK.out.trans HK5.out⟩
set_option maxHeartbeats 4000000 in
theorem write_truth1 (x : DT) (hk : x.f0 = 1) (hn : x.f1 = 1) (b : Nat) (out : List UInt8) (w0 w : World) (hgl : GL w0) (A3 : Option Addr) (c3 : Nat) (A4 : Option Addr) (c4 : Nat) (hl : out.length + 3 ≤ 2000000000) (h : WAt w0 w b out) :
  Calls Tryz.prog 26 #[.pointer (some ⟨b, 0, none⟩), aggD x A3 c3 A4 c4] w (writeP w0 w b (out ++ [121, 101, 115])) := by
 have HA := Aside0.mk (h.below (below_alloc (Below.refl _ w) (dBox x A3 c3 A4 c4)))
 have HK := Aside0.mk (kept_of_below (e := 5) (b := some b) (below_alloc (Below.refl _ w) (dBox x A3 c3 A4 c4)))
 have HG := Aside0.mk hgl
 clear h hgl
 simp only [dBox, hn] at HA HK
 have HC : Aside0 (Calls Tryz.prog 46 #[.pointer (some ⟨b, 0, none⟩), .string ⟨#[121, 101, 115]⟩] (w.alloc (.cells #[.int .i64 x.f0, .int .i64 1, .string x.f2, .slice A3 x.f3.length c3, .slice A4 x.f4.length c4] 25)) fun e w' => e = .returned (.tuple #[.int .i64 3, .nilIface]) ∧ WAt w0 w' b (out ++ [121, 101, 115]) ∧ Lib.OthersKept 5 (some b) (w.alloc (.cells #[.int .i64 x.f0, .int .i64 1, .string x.f2, .slice A3 x.f3.length c3, .slice A4 x.f4.length c4] 25)) w') := ⟨wstr_c w0 _ b out ⟨#[121, 101, 115]⟩ HA.out hl⟩
 have hix : ∀ w : World, (Instr.index 83 (.agg #[.string ⟨#[110, 111]⟩, .string ⟨#[121, 101, 115]⟩]) (.int .i64 1)).run Tryz.prog w = .ok (.string ⟨#[121, 101, 115]⟩) w := fun _ => rfl
 have k0 : (x.f0 == 0) = false := by rw [hk]; rfl
 have k1 : (x.f0 == 1) = true := by rw [hk]; rfl
 have k2 : (x.f0 == 2) = false := by rw [hk]; rfl
 have k3 : (x.f0 == 3) = false := by rw [hk]; rfl
 have k4 : (x.f0 == 4) = false := by rw [hk]; rfl
 have k5 : (x.f0 == 5) = false := by rw [hk]; rfl
 clear hk
 go_enter Tryz.func26, Tryz.ntmps26
 go_wp2_with (go_at_call 46; go_loud (with_reducible refine HC.out.mono ?_); rintro e w5 ⟨rfl, h5, hk5⟩; have H5 := Aside0.mk h5; have HK5 := Aside0.mk hk5; clear h5 hk5)
 (try simp only [Exit.inBlock, Exit.then])
 refine bodyPost_ret (results_none rfl _ _ _) rfl ?_
 exact ⟨rfl, H5.out.bld, H5.out.bel, HK.out.trans HK5.out⟩
set_option maxHeartbeats 4000000 in
theorem write_num (x : DT) (hk : x.f0 = 2) (h1 : -9223372036854775808 ≤ x.f1 ∧ x.f1 ≤ 9223372036854775807) (b : Nat) (out : List UInt8) (w0 w : World) (hgl : GL w0) (A3 : Option Addr) (c3 : Nat) (A4 : Option Addr) (c4 : Nat) (hl : out.length + (Lib.itoa x.f1).length ≤ 2000000000) (h : WAt w0 w b out) :
  Calls Tryz.prog 26 #[.pointer (some ⟨b, 0, none⟩), aggD x A3 c3 A4 c4] w (writeP w0 w b (out ++ Lib.itoa x.f1)) := by
 have HA := Aside0.mk (h.below (below_alloc (Below.refl _ w) (dBox x A3 c3 A4 c4)))
 have HK := Aside0.mk (kept_of_below (e := 5) (b := some b) (below_alloc (Below.refl _ w) (dBox x A3 c3 A4 c4)))
 have HG := Aside0.mk hgl
 clear h hgl
 have HDE : Aside0 (Calls Tryz.prog 47 #[.int .i64 x.f1] (w.alloc (dBox x A3 c3 A4 c4)) fun e w' => e = .returned (.string (mkB (Lib.itoa x.f1))) ∧ Below (w.alloc (dBox x A3 c3 A4 c4)).heap.size (w.alloc (dBox x A3 c3 A4 c4)) w') := ⟨chars_Decimal.calls x.f1 _ _ (HG.out.below HA.out.bel) (Go.Proofs.YtidcecpbihmloaaGreatDoor.K06.decimal_f x.f1 h1.1 h1.2)⟩
 have k0 : (x.f0 == 0) = false := by rw [hk]; rfl
 have k1 : (x.f0 == 1) = false := by rw [hk]; rfl
 have k2 : (x.f0 == 2) = true := by rw [hk]; rfl
 have k3 : (x.f0 == 3) = false := by rw [hk]; rfl
 have k4 : (x.f0 == 4) = false := by rw [hk]; rfl
 have k5 : (x.f0 == 5) = false := by rw [hk]; rfl
 clear hk
 go_enter Tryz.func26, Tryz.ntmps26
 go_wp2_with (first | (go_at_call 47; go_loud (with_reducible refine HDE.out.mono ?_); rintro e w4 ⟨rfl, hb4⟩; have HA4 := Aside0.mk (HA.out.below hb4); have HK4 := Aside0.mk (HK.out.trans (kept_of_below hb4)); clear hb4) | (go_at_call 46; go_loud (refine (wstr_c w0 w4 b out (mkB (Lib.itoa x.f1)) HA4.out (by rw [mkB_size]; omega)).mono ?_); rintro e w5 ⟨rfl, h5, hk5⟩; have H5 := Aside0.mk h5; have HK5 := Aside0.mk hk5; clear h5 hk5))
 (try simp only [Exit.inBlock, Exit.then])
 refine bodyPost_ret (results_none rfl _ _ _) rfl ?_
 exact ⟨rfl, H5.out.bld, H5.out.bel, HK4.out.trans HK5.out⟩
set_option maxHeartbeats 4000000 in
theorem write_text (x : DT) (hk : x.f0 = 3) (h2 : x.f2.size ≤ 65536) (b : Nat) (out : List UInt8) (w0 w : World) (hgl : GL w0) (A3 : Option Addr) (c3 : Nat) (A4 : Option Addr) (c4 : Nat) (hl : out.length + ((escS x.f2.data.toList).length + 2) ≤ 2000000000) (h : WAt w0 w b out) :
  Calls Tryz.prog 26 #[.pointer (some ⟨b, 0, none⟩), aggD x A3 c3 A4 c4] w (writeP w0 w b (out ++ (34 :: (escS x.f2.data.toList ++ [34])))) := by
 have HA := Aside0.mk (h.below (below_alloc (Below.refl _ w) (dBox x A3 c3 A4 c4)))
 have HK := Aside0.mk (kept_of_below (e := 5) (b := some b) (below_alloc (Below.refl _ w) (dBox x A3 c3 A4 c4)))
 have HG := Aside0.mk hgl
 clear h hgl
 have h6 := escS_len x.f2.data.toList
 have h7 : x.f2.data.toList.length = x.f2.size := by rw [Array.length_toList]; rfl
 have HES : Aside0 (Calls Tryz.prog 48 #[.string x.f2] (w.alloc (dBox x A3 c3 A4 c4)) fun e w' => e = .returned (.string (mkB (escS x.f2.data.toList))) ∧ Below (w.alloc (dBox x A3 c3 A4 c4)).heap.size (w.alloc (dBox x A3 c3 A4 c4)) w') := ⟨escape_Escape.calls x.f2 _ _ (HG.out.below HA.out.bel) (by unfold escape_Escape.f; rw [if_pos (by omega)]; rfl)⟩
 obtain ⟨E, hE⟩ : ∃ E, E = escS x.f2.data.toList := ⟨_, rfl⟩
 rw [← hE] at HES hl h6 ⊢
 clear hE
 have z1 : (mkB E).size = E.length := mkB_size E
 have HZ := Aside0.mk z1
 have s1 : ((⟨#[34]⟩ : ByteArray) ++ mkB E) = mkB (34 :: E) := catB [34] E
 have s2 : (mkB (34 :: E) ++ (⟨#[34]⟩ : ByteArray)) = mkB (34 :: (E ++ [34])) := catB (34 :: E) [34]
 have HS := Aside0.mk (And.intro s1 s2)
 have l1 : (mkB E).size ≤ 1000000 := by rw [z1]; omega
 have HWS : Aside0 (∀ W, WAt w0 W b out → Calls Tryz.prog 46 #[.pointer (some ⟨b, 0, none⟩), .string ((⟨#[34]⟩ : ByteArray) ++ mkB E ++ (⟨#[34]⟩ : ByteArray))] W fun e w' => e = .returned (.tuple #[.int .i64 ((mkB (34 :: (E ++ [34]))).size : Int), .nilIface]) ∧ WAt w0 w' b (out ++ (34 :: (E ++ [34]))) ∧ Lib.OthersKept 5 (some b) W w') := ⟨fun W hW => by
  rw [s1, s2]
  exact wstr_c w0 W b out (mkB (34 :: (E ++ [34]))) hW (by rw [mkB_size]; simp; omega)⟩
 clear z1 s1 s2
 have k0 : (x.f0 == 0) = false := by rw [hk]; rfl
 have k1 : (x.f0 == 1) = false := by rw [hk]; rfl
 have k2 : (x.f0 == 2) = false := by rw [hk]; rfl
 have k3 : (x.f0 == 3) = true := by rw [hk]; rfl
 have k4 : (x.f0 == 4) = false := by rw [hk]; rfl
 have k5 : (x.f0 == 5) = false := by rw [hk]; rfl
 clear hk
 go_enter Tryz.func26, Tryz.ntmps26
 go_wp2_with (first | (go_at_call 48; go_loud (with_reducible refine HES.out.mono ?_); rintro e w4 ⟨rfl, hb4⟩; have HA4 := Aside0.mk (HA.out.below hb4); have HK4 := Aside0.mk (HK.out.trans (kept_of_below hb4)); clear hb4) | (go_at_call 46; go_loud (with_reducible refine (HWS.out w4 HA4.out).mono ?_); rintro e w5 ⟨rfl, h5, hk5⟩; have H5 := Aside0.mk h5; have HK5 := Aside0.mk hk5; clear h5 hk5))
 (try simp only [Exit.inBlock, Exit.then])
 refine bodyPost_ret (results_none rfl _ _ _) rfl ?_
 exact ⟨rfl, H5.out.bld, H5.out.bel, HK4.out.trans HK5.out⟩
end Go.Proofs.YtidcecpbihmloaaGreatDoorE

namespace Go.Proofs.YtidcecpbihmloaaGreatDoorE
open Go Go.RowKit Go.Proofs.YtidcecpbihmloaaGreatDoorW.PrintWords Go.Proofs.YtidcecpbihmloaaGreatDoorX Go.Proofs.YtidcecpbihmloaaGreatDoor.P16 Go.Proofs.YtidcecpbihmloaaGreatDoor.M02
set_option linter.unusedVariables false
set_option linter.unusedSimpArgs false
set_option maxRecDepth 100000
theorem emp_size (t : ByteArray) (h : t.toList = []) : (t.size : Int) ≤ 65536 := by
 rw [toList_data] at h
 have e : t.data.toList.length = t.size := Array.length_toList
 rw [h] at e
 simp at e
 omega
set_option maxHeartbeats 8000000 in
theorem rplain_0 (n : Int) (t : ByteArray) (ns : List ByteArray) (l : List DT) (h3 : ns.length ≤ 140737488351232) (h4 : l.length ≤ 140737488351232) (A3 : Option Addr) (c3 : Nat) (A4 : Option Addr) (c4 : Nat) (w : World) (hgl : GL w) : Calls Tryz.prog 39 #[.agg #[.int .i64 0, .int .i64 n, .string t, .slice A3 ns.length c3, .slice A4 l.length c4]] w fun e w' => e = .returned (.bool (plainD (⟨0, n, t, ns, l⟩ : DT))) ∧ Below w.heap.size w w' := by
 have HG := Aside0.mk hgl
 have HE := Aside0.mk (emp_size t)
 have HT := Aside0.mk (toList_data t)
 clear hgl
 rw [show plainD (⟨0, n, t, ns, l⟩ : DT) = (decide (n = 0) && t.data.toList.isEmpty && ns.isEmpty && l.isEmpty) by rfl]
 rcases ns with _ | ⟨a, ns⟩
 all_goals
  (go_enter Tryz.func39, Tryz.ntmps39
   go_wp2_with fail)
 all_goals go_ret
 all_goals (refine ⟨?_, below_alloc (Below.refl _ _) _⟩)
 all_goals
  (have HE := HE.out
   have HT := HT.out
   clear HG
   cases l <;> simp_all <;> omega)
set_option maxHeartbeats 8000000 in
theorem rplain_1 (n : Int) (t : ByteArray) (ns : List ByteArray) (l : List DT) (h3 : ns.length ≤ 140737488351232) (h4 : l.length ≤ 140737488351232) (A3 : Option Addr) (c3 : Nat) (A4 : Option Addr) (c4 : Nat) (w : World) (hgl : GL w) : Calls Tryz.prog 39 #[.agg #[.int .i64 1, .int .i64 n, .string t, .slice A3 ns.length c3, .slice A4 l.length c4]] w fun e w' => e = .returned (.bool (plainD (⟨1, n, t, ns, l⟩ : DT))) ∧ Below w.heap.size w w' := by
 have HG := Aside0.mk hgl
 have HE := Aside0.mk (emp_size t)
 have HT := Aside0.mk (toList_data t)
 clear hgl
 rw [show plainD (⟨1, n, t, ns, l⟩ : DT) = ((decide (n = 0) || decide (n = 1)) && t.data.toList.isEmpty && ns.isEmpty && l.isEmpty) by rfl]
 rcases ns with _ | ⟨a, ns⟩
 all_goals
  (go_enter Tryz.func39, Tryz.ntmps39
   go_wp2_with fail)
 all_goals go_ret
 all_goals (refine ⟨?_, below_alloc (Below.refl _ _) _⟩)
 all_goals
  (have HE := HE.out
   have HT := HT.out
   clear HG
   cases l <;> simp_all <;> omega)
set_option maxHeartbeats 8000000 in
theorem rplain_2 (n : Int) (t : ByteArray) (ns : List ByteArray) (l : List DT) (h3 : ns.length ≤ 140737488351232) (h4 : l.length ≤ 140737488351232) (A3 : Option Addr) (c3 : Nat) (A4 : Option Addr) (c4 : Nat) (w : World) (hgl : GL w) : Calls Tryz.prog 39 #[.agg #[.int .i64 2, .int .i64 n, .string t, .slice A3 ns.length c3, .slice A4 l.length c4]] w fun e w' => e = .returned (.bool (plainD (⟨2, n, t, ns, l⟩ : DT))) ∧ Below w.heap.size w w' := by
 have HG := Aside0.mk hgl
 have HE := Aside0.mk (emp_size t)
 have HT := Aside0.mk (toList_data t)
 clear hgl
 rw [show plainD (⟨2, n, t, ns, l⟩ : DT) = (t.data.toList.isEmpty && ns.isEmpty && l.isEmpty) by rfl]
 rcases ns with _ | ⟨a, ns⟩
 all_goals
  (go_enter Tryz.func39, Tryz.ntmps39
   go_wp2_with fail)
 all_goals go_ret
 all_goals (refine ⟨?_, below_alloc (Below.refl _ _) _⟩)
 all_goals
  (have HE := HE.out
   have HT := HT.out
   clear HG
   cases l <;> simp_all <;> omega)
set_option maxHeartbeats 8000000 in
theorem rplain_3 (n : Int) (t : ByteArray) (ns : List ByteArray) (l : List DT) (h3 : ns.length ≤ 140737488351232) (h4 : l.length ≤ 140737488351232) (A3 : Option Addr) (c3 : Nat) (A4 : Option Addr) (c4 : Nat) (w : World) (hgl : GL w) : Calls Tryz.prog 39 #[.agg #[.int .i64 3, .int .i64 n, .string t, .slice A3 ns.length c3, .slice A4 l.length c4]] w fun e w' => e = .returned (.bool (plainD (⟨3, n, t, ns, l⟩ : DT))) ∧ Below w.heap.size w w' := by
 have HG := Aside0.mk hgl
 have HE := Aside0.mk (emp_size t)
 have HT := Aside0.mk (toList_data t)
 clear hgl
 rw [show plainD (⟨3, n, t, ns, l⟩ : DT) = (decide (n = 0) && ns.isEmpty && l.isEmpty && decide ((t.size : Int) ≤ 65536)) by rw [show decide ((t.size : Int) ≤ 65536) = decide (t.size ≤ 65536) from decide_eq_decide.2 (by omega)]; rfl]
 rcases ns with _ | ⟨a, ns⟩
 all_goals
  (go_enter Tryz.func39, Tryz.ntmps39
   go_wp2_with fail)
 all_goals go_ret
 all_goals (refine ⟨?_, below_alloc (Below.refl _ _) _⟩)
 all_goals
  (have HE := HE.out
   have HT := HT.out
   clear HG
   cases l <;> simp_all <;> omega)
set_option maxHeartbeats 8000000 in
theorem rplain_4 (n : Int) (t : ByteArray) (ns : List ByteArray) (l : List DT) (h3 : ns.length ≤ 140737488351232) (h4 : l.length ≤ 140737488351232) (A3 : Option Addr) (c3 : Nat) (A4 : Option Addr) (c4 : Nat) (w : World) (hgl : GL w) : Calls Tryz.prog 39 #[.agg #[.int .i64 4, .int .i64 n, .string t, .slice A3 ns.length c3, .slice A4 l.length c4]] w fun e w' => e = .returned (.bool (plainD (⟨4, n, t, ns, l⟩ : DT))) ∧ Below w.heap.size w w' := by
 have HG := Aside0.mk hgl
 have HE := Aside0.mk (emp_size t)
 have HT := Aside0.mk (toList_data t)
 clear hgl
 rw [show plainD (⟨4, n, t, ns, l⟩ : DT) = (decide (n = 0) && t.data.toList.isEmpty && ns.isEmpty) by rfl]
 rcases ns with _ | ⟨a, ns⟩
 all_goals
  (go_enter Tryz.func39, Tryz.ntmps39
   go_wp2_with fail)
 all_goals go_ret
 all_goals (refine ⟨?_, below_alloc (Below.refl _ _) _⟩)
 all_goals
  (have HE := HE.out
   have HT := HT.out
   clear HG
   cases l <;> simp_all <;> omega)
set_option maxHeartbeats 8000000 in
theorem rplain_5 (n : Int) (t : ByteArray) (ns : List ByteArray) (l : List DT) (h3 : ns.length ≤ 140737488351232) (h4 : l.length ≤ 140737488351232) (A3 : Option Addr) (c3 : Nat) (A4 : Option Addr) (c4 : Nat) (w : World) (hgl : GL w) : Calls Tryz.prog 39 #[.agg #[.int .i64 5, .int .i64 n, .string t, .slice A3 ns.length c3, .slice A4 l.length c4]] w fun e w' => e = .returned (.bool (plainD (⟨5, n, t, ns, l⟩ : DT))) ∧ Below w.heap.size w w' := by
 have HG := Aside0.mk hgl
 have HE := Aside0.mk (emp_size t)
 have HT := Aside0.mk (toList_data t)
 clear hgl
 rw [show plainD (⟨5, n, t, ns, l⟩ : DT) = (decide (n = 0) && t.data.toList.isEmpty && ((ns.length : Int) == (l.length : Int))) by rw [show ((ns.length : Int) == (l.length : Int)) = decide (ns.length = l.length) by rw [Bool.eq_iff_iff]; simp; omega]; rfl]
 rcases ns with _ | ⟨a, ns⟩
 all_goals
  (go_enter Tryz.func39, Tryz.ntmps39
   go_wp2_with fail)
 all_goals go_ret
 all_goals (refine ⟨?_, below_alloc (Below.refl _ _) _⟩)
 all_goals
  (have HE := HE.out
   have HT := HT.out
   clear HG
   cases l <;> simp_all <;> omega)
theorem rplain_c (kd : Int) (n : Int) (t : ByteArray) (ns : List ByteArray) (l : List DT) (h3 : ns.length ≤ 140737488351232) (h4 : l.length ≤ 140737488351232) (A3 : Option Addr) (c3 : Nat) (A4 : Option Addr) (c4 : Nat) (w : World) (hgl : GL w) : Calls Tryz.prog 39 #[.agg #[.int .i64 kd, .int .i64 n, .string t, .slice A3 ns.length c3, .slice A4 l.length c4]] w fun e w' => e = .returned (.bool (plainD (⟨kd, n, t, ns, l⟩ : DT))) ∧ Below w.heap.size w w' := by
 by_cases hk : 0 ≤ kd ∧ kd ≤ 5
 ·have hk : kd = 0 ∨ kd = 1 ∨ kd = 2 ∨ kd = 3 ∨ kd = 4 ∨ kd = 5 := by omega
  rcases hk with rfl | rfl | rfl | rfl | rfl | rfl
  ·exact rplain_0 n t ns l h3 h4 A3 c3 A4 c4 w hgl
  ·exact rplain_1 n t ns l h3 h4 A3 c3 A4 c4 w hgl
  ·exact rplain_2 n t ns l h3 h4 A3 c3 A4 c4 w hgl
  ·exact rplain_3 n t ns l h3 h4 A3 c3 A4 c4 w hgl
  ·exact rplain_4 n t ns l h3 h4 A3 c3 A4 c4 w hgl
  ·exact rplain_5 n t ns l h3 h4 A3 c3 A4 c4 w hgl
 ·rw [plain_out hk]
  by_cases h0 : kd < 0
  ·have k0 : decide (kd < 0) = true := decide_eq_true h0
   clear hk h0
   go_enter Tryz.func39, Tryz.ntmps39
   go_wp2_with fail
   go_ret
   exact ⟨rfl, below_alloc (Below.refl _ _) _⟩
  ·have k0 : decide (kd < 0) = false := decide_eq_false h0
   have k5 : decide (5 < kd) = true := decide_eq_true (by omega)
   clear hk h0
   go_enter Tryz.func39, Tryz.ntmps39
   go_wp2_with fail
   go_ret
   exact ⟨rfl, below_alloc (Below.refl _ _) _⟩
end Go.Proofs.YtidcecpbihmloaaGreatDoorE

namespace Go.Proofs.YtidcecpbihmloaaGreatDoorE
open Go Go.RowKit Go.Proofs.YtidcecpbihmloaaGreatDoorW.PrintWords Go.Proofs.YtidcecpbihmloaaGreatDoorW.PrintMore Go.Proofs.YtidcecpbihmloaaGreatDoorW.PrintLast Go.Proofs.YtidcecpbihmloaaGreatDoorX Go.Proofs.YtidcecpbihmloaaGreatDoor.P16 Go.Proofs.YtidcecpbihmloaaGreatDoor.M02
set_option linter.unusedVariables false
set_option linter.unusedSimpArgs false
set_option maxRecDepth 100000
abbrev xBox (x : DT) (A3 : Option Addr) (c3 : Nat) (A4 : Option Addr) (c4 : Nat) : Obj := .cells #[.int .i64 x.f0, .int .i64 x.f1, .string x.f2, .slice A3 x.f3.length c3, .slice A4 x.f4.length c4] 25
def weighC (x : DT) : Prop := ∀ (L op : Nat), L ≤ 2000 → op ≤ 16 → ∀ (w : World), GL w → ∀ (A3 : Option Addr) (c3 : Nat) (A4 : Option Addr) (c4 : Nat), x.f3.length ≤ c3 → Kd.string.C w A3 x.f3.length x.f3 → x.f4.length ≤ c4 → k25.C w A4 x.f4.length x.f4 →
 Calls Tryz.prog 22 #[aggD x A3 c3 A4 c4, .int .i64 L, .int .i64 op] w fun e w' => e = .returned (.int .i64 (optI (weighD x L op))) ∧ Below w.heap.size w w'
theorem named_w (s : ByteArray) (hs : s.size ≤ 140737488351232) (W : World) (h : GL W) : Calls Tryz.prog 40 #[.string s, .bool true] W fun e w' => e = .returned (.bool (namedS true (B s))) ∧ ∃ m, w' = W.drewN m := by
 obtain ⟨k, hk⟩ := rnamed_ev s true hs
 exact (tendrilref02_Named.calls k s true _ W h (hk k (Nat.le_refl _))).mono fun _ _ ⟨a, b⟩ => ⟨a, b.out⟩
theorem compare_w (s t : ByteArray) (hs : s.size ≤ 140737488351232) (ht : t.size ≤ 140737488351232) (W : World) (h : GL W) : Calls Tryz.prog 25 #[.string s, .string t] W fun e w' => e = .returned (.int .i64 (cmpL (B s) (B t))) ∧ ∃ m, w' = W.drewN m := by
 obtain ⟨k, hk⟩ := rcompare_ev s t hs ht
 exact (tendrilref02_Compare.calls k s t _ W h (hk k (Nat.le_refl _))).mono fun _ _ ⟨a, b⟩ => ⟨a, b.out⟩
set_option maxHeartbeats 16000000 in
theorem weigh_kids (x : DT) (hx : OkD x) (hp : plainD x = true) (L op : Nat) (hL : L ≤ 1999) (ho : op ≤ 16) (hk16 : ¬ (x.f0 > 3 ∧ op = 16)) (hop : x.f4 ≠ [] → op + 1 ≤ 16) (R : Int) (hR : (∀ j, j < x.f3.length → goodN x.f3 j) → R = optI (weighL x.f4 L (op + 1))) (hbad : ¬ (x.f3.length ≤ L ∧ ∀ j, j < x.f3.length → goodN x.f3 j) → R = -1) (ih : ∀ y ∈ x.f4, weighC y) (w : World) (hgl : GL w) (A3 : Option Addr) (c3 : Nat) (A4 : Option Addr) (c4 : Nat) (l3 : x.f3.length ≤ c3) (g3 : Kd.string.C w A3 x.f3.length x.f3) (l4 : x.f4.length ≤ c4) (g4 : k25.C w A4 x.f4.length x.f4) :
  Calls Tryz.prog 22 #[aggD x A3 c3 A4 c4, .int .i64 ((L : Int) + 1), .int .i64 op] w fun e w' => e = .returned (.int .i64 R) ∧ Below w.heap.size w w' := by
 have HB := Aside0.mk (below_alloc (Below.refl w.heap.size w) (xBox x A3 c3 A4 c4))
 have HX := Aside0.mk (heap_alloc_new w (xBox x A3 c3 A4 c4))
 have HG := Aside0.mk hgl
 have H3 := Aside0.mk g3
 have H4 := Aside0.mk g4
 have IH := Aside0.mk ih
 have HR := Aside0.mk hR
 have HBAD := Aside0.mk hbad
 have HOP := Aside0.mk hop
 have HXS := Aside0.mk hx.out.2.2.2.2.1
 have hn3 : x.f3.length ≤ 140737488351232 := hx.out.2.2.2.1
 have hn4 : x.f4.length ≤ 140737488351232 := hx.out.2.2.2.2.2.1
 have HPC := Aside0.mk (rplain_c x.f0 x.f1 x.f2 x.f3 x.f4 hn3 hn4 A3 c3 A4 c4 _ (hgl.below HB.out))
 rw [show plainD (⟨x.f0, x.f1, x.f2, x.f3, x.f4⟩ : DT) = true from hp] at HPC
 have d0 : decide ((L : Int) + 1 < 1) = false := decide_eq_false (by omega)
 have hk6 : (decide (3 < x.f0) && ((op : Int) == 16)) = false := by
  rw [Bool.and_eq_false_iff]
  by_cases h : x.f0 > 3
  ·right; rw [beq_eq_false_iff_ne]; intro e; exact hk16 ⟨h, by omega⟩
  ·left; exact decide_eq_false (by omega)
 have e1 : wrap64 ((L : Int) + 1 - 1) = (L : Int) := by rw [w64 (by omega) (by omega)]; omega
 have HOQ := Aside0.mk ho
 clear hgl g3 g4 ih hR hbad hop hx hp hk16 ho
 have walk : ∀ b1 b2 : Bool, decide (3 < x.f0) = b1 → ((op : Int) == 16) = b2 → (b1 && b2) = false → Calls Tryz.prog 22 #[aggD x A3 c3 A4 c4, .int .i64 ((L : Int) + 1), .int .i64 op] w fun e w' => e = .returned (.int .i64 R) ∧ Below w.heap.size w w' := by
  intro b1 b2 hb1 hb2 hb12
  go_enter Tryz.func22, Tryz.ntmps22
  go_upto_region 1 with fail
  go_cut [24] from 9 to 23 (fun v24 wc => v24 = .bool false ∧ Aside0 (Below w.heap.size w wc ∧ wc.heap[w.heap.size]? = some (xBox x A3 c3 A4 c4)))
  case first =>
   have p0 := (blk_cell HX.out 0).trans rfl
   have p1 := (blk_cell HX.out 1).trans rfl
   have p2 := (blk_cell HX.out 2).trans rfl
   have p3 := (blk_cell HX.out 3).trans rfl
   have p4 := (blk_cell HX.out 4).trans rfl
   cases b1 with
   | false =>
    go_wp2_with (go_at_call 39; go_loud (with_reducible refine HPC.out.mono ?_); rintro e w1 ⟨rfl, hb⟩; have HB1 := Aside0.mk (below_then HB.out HB.out.size hb); have hx1 := (hb.block w.heap.size (blk_lt HX.out)).trans HX.out; have HX1 := Aside0.mk hx1; have q0 := (blk_cell hx1 0).trans rfl; clear hb hx1)
    go_meet
    exact ⟨rfl, ⟨HB1.out, HX1.out⟩⟩
   | true =>
    have hb2' : b2 = false := by simpa using hb12
    rw [hb2'] at hb2
    go_wp2_with (go_at_call 39; go_loud (with_reducible refine HPC.out.mono ?_); rintro e w1 ⟨rfl, hb⟩; have HB1 := Aside0.mk (below_then HB.out HB.out.size hb); have hx1 := (hb.block w.heap.size (blk_lt HX.out)).trans HX.out; have HX1 := Aside0.mk hx1; have q0 := (blk_cell hx1 0).trans rfl; clear hb hx1)
    go_meet
    exact ⟨rfl, ⟨HB1.out, HX1.out⟩⟩
  obtain ⟨rfl, hcut⟩ := hcut
  have HB1 := Aside0.mk hcut.out.1
  have HX1 := Aside0.mk hcut.out.2
  clear hcut hb1 hb2 hb12
  have p0 := (blk_cell HX1.out 0).trans rfl
  have p1 := (blk_cell HX1.out 1).trans rfl
  have p2 := (blk_cell HX1.out 2).trans rfl
  have p3 := (blk_cell HX1.out 3).trans rfl
  have p4 := (blk_cell HX1.out 4).trans rfl
  go_wp2_with fail
  go_loopg [30] x.f3.length (fun gk i wr => ∃ k : Nat, k ≤ x.f3.length ∧ i = .int .i64 k ∧ Aside0 (k + gk = x.f3.length ∧ Below wc.heap.size wc wr ∧ k ≤ L ∧ ∀ j, j < k → goodN x.f3 j))
  case atStart => exact ⟨0, by omega, rfl, ⟨by omega, Below.refl _ _, by omega, fun j hj => by omega⟩⟩
  case round =>
   clear p0 p1 p2 p3 p4
   obtain ⟨k, hk, rfl, HV⟩ := hrel
   obtain ⟨hkg, hb, hkL, he⟩ := HV.out
   have HN := Aside0.mk hkg
   have HBR := Aside0.mk (below_then HB1.out HB1.out.size hb)
   have HBW := Aside0.mk hb
   have HXr := Aside0.mk ((hb.block w.heap.size (blk_lt HX1.out)).trans HX1.out)
   have HE := Aside0.mk he
   have p3 := (blk_cell HXr.out 3).trans rfl
   have p4 := (blk_cell HXr.out 4).trans rfl
   clear HV hkg hb he
   by_cases hlt : k < x.f3.length
   ·by_cases hkl : L ≤ k
    ·have HRv := Aside0.mk (HBAD.out (fun h => by omega))
     have d1 : decide (L ≤ k) = true := decide_eq_true hkl
     go_upto_region 7 with fail
     go_quiet (fail)
     go_wp2_with fail
     go_ret
     exact ⟨by rw [HRv.out]; rfl, pw_below_drewN HBR.out _⟩
    ·have d1 : decide (L ≤ k) = false := decide_eq_false hkl
     obtain ⟨ad, hade, n1⟩ := Kd.at_string (Kd.C_below H3.out HBR.out) (k : Int) (by omega) (by omega)
     rw [Int.toNat_natCast, get_rdOf] at n1
     obtain ⟨s, hs⟩ : ∃ s, s = x.f3.getD k em := ⟨_, rfl⟩
     have HNM := Aside0.mk (named_w (x.f3.getD k em) (getD_size HXS.out k))
     rw [← hs] at n1 HNM
     obtain ⟨bn, hbn⟩ : ∃ b, b = namedS true (B s) := ⟨_, rfl⟩
     rw [← hbn] at HNM
     have HBN := Aside0.mk hbn
     have HS := Aside0.mk hs
     subst hade
     clear hs hbn
     cases bn with
     | false =>
      have HRv := Aside0.mk (HBAD.out (fun h => by
       have h2 := (h.2 k hlt).1
       rw [← HS.out] at h2
       have h3 := HBN.out
       rw [show namedS true (B s) = true from h2] at h3
       cases h3))
      go_upto_region 7 with fail
      go_quiet ((go_at_call 40; go_loud (refine Calls.quiet_of (HNM.out _ (HG.out.below ?_)); exact pw_below_drewN HBR.out _)))
      go_wp2_with fail
      go_ret
      exact ⟨by rw [HRv.out]; rfl, pw_below_drewN HBR.out _⟩
     | true =>
      have hkL2 : k < L := by omega
      by_cases hk0 : k = 0
      ·subst hk0
       rw [Addr.add_zero'] at n1
       have hl0 : L ≠ 0 := by omega
       have d2 : decide (L = 0) = false := decide_eq_false hl0
       have d3 : decide ((L : Int) ≤ 0) = false := decide_eq_false (by omega)
       have d4 : decide (L ≤ 0) = false := decide_eq_false (by omega)
       go_upto_region 7 with fail
       go_quiet ((go_at_call 40; go_loud (refine Calls.quiet_of (HNM.out _ (HG.out.below ?_)); exact pw_below_drewN HBR.out _)))
       go_wp2_with fail
       go_roundg (gk - 1)
       case measure => have := HN.out; omega
       case rel => exact ⟨1, by omega, by go_num, ⟨by have := HN.out; omega, pw_below_drewN HBW.out _, by omega, fun j hj => by
        obtain rfl : j = 0 := by omega
        exact ⟨by rw [← HS.out]; exact HBN.out.symm, fun h => absurd h (by omega)⟩⟩⟩
      ·have hk1 : 0 < k := by omega
       have hkp : decide (0 < k) = true := decide_eq_true hk1
       obtain ⟨ad', hade, n0⟩ := Kd.at_string (Kd.C_below H3.out HBR.out) ((k - 1 : Nat) : Int) (by omega) (by omega)
       injection hade with hade
       subst hade
       rw [Int.toNat_natCast, get_rdOf] at n0
       obtain ⟨s', hs'⟩ : ∃ s, s = x.f3.getD (k - 1) em := ⟨_, rfl⟩
       have HCM := Aside0.mk (compare_w (x.f3.getD (k - 1) em) (x.f3.getD k em) (getD_size HXS.out _) (getD_size HXS.out _))
       rw [← hs'] at n0
       rw [← hs', ← HS.out] at HCM
       obtain ⟨cc, hcc⟩ : ∃ c, c = cmpL (B s') (B s) := ⟨_, rfl⟩
       rw [← hcc] at HCM
       have HCC := Aside0.mk hcc
       have HS' := Aside0.mk hs'
       have ek : wrap64 ((k : Int) - 1) = ((k - 1 : Nat) : Int) := by rw [w64 (by omega) (by omega)]; omega
       clear hs' hcc
       by_cases hc0 : 0 ≤ cc
       ·have hcd : decide (0 ≤ cc) = true := decide_eq_true hc0
        have HRv := Aside0.mk (HBAD.out (fun h => by
         have h2 := (h.2 k hlt).2 hk1
         rw [← HS.out, ← HS'.out] at h2
         have h3 := (less_cmpB s' s).1 h2
         have h4 := HCC.out
         have h5 : cmpB s' s = cmpL (B s') (B s) := rfl
         omega))
        go_upto_region 7 with fail
        go_quiet (first | (go_at_call 40; go_loud (refine Calls.quiet_of (HNM.out _ (HG.out.below ?_)); exact pw_below_drewN HBR.out _)) | (go_at_call 25; go_loud (refine Calls.quiet_of (HCM.out _ (HG.out.below ?_)); exact pw_below_drewN HBR.out _)))
        go_wp2_with fail
        go_ret
        exact ⟨by rw [HRv.out]; rfl, pw_below_drewN HBR.out _⟩
       ·have hcd : decide (0 ≤ cc) = false := decide_eq_false hc0
        have HLT := Aside0.mk (show Op.bytesLess s'.data.toList s.data.toList = true from (less_cmpB s' s).2 (by
         have h4 := HCC.out
         have h5 : cmpB s' s = cmpL (B s') (B s) := rfl
         omega))
        go_upto_region 7 with fail
        go_quiet (first | (go_at_call 40; go_loud (refine Calls.quiet_of (HNM.out _ (HG.out.below ?_)); exact pw_below_drewN HBR.out _)) | (go_at_call 25; go_loud (refine Calls.quiet_of (HCM.out _ (HG.out.below ?_)); exact pw_below_drewN HBR.out _)))
        go_wp2_with fail
        go_roundg (gk - 1)
        case measure => have := HN.out; omega
        case rel => exact ⟨k + 1, by omega, by go_num, ⟨by have := HN.out; omega, pw_below_drewN HBW.out _, by omega, fun j hj => by
         by_cases hjk : j = k
         ·rw [hjk]
          exact ⟨by rw [← HS.out]; exact HBN.out.symm, fun _ => by rw [← HS.out, ← HS'.out]; exact HLT.out⟩
         ·exact HE.out j (by omega)⟩⟩
   ·have HRv := Aside0.mk (HR.out (fun j hj => HE.out j (by omega)))
    clear HE HN HBAD HR
    go_wp2_with fail
    generalize hW3 : wr = W3 at HBR HBW HXr p3 p4 ⊢
    clear hW3
    go_loopg [1, 68] x.f4.length (fun gq v1 i wq => ∃ q r : Nat, q ≤ x.f4.length ∧ v1 = .int .i64 r ∧ i = .int .i64 q ∧ Aside0 (q + gq = x.f4.length ∧ Below W3.heap.size W3 wq ∧ r ≤ 1999 ∧ weighL (x.f4.take q) L (op + 1) = some r))
    case atStart => exact ⟨0, L, by omega, rfl, rfl, ⟨by omega, Below.refl _ _, hL, by rw [List.take_zero, weighL]⟩⟩
    case round =>
     clear p3 p4
     obtain ⟨q, r, hq, rfl, rfl, HQ⟩ := hrel
     obtain ⟨hqn, hb, hr9, hr⟩ := HQ.out
     have HN := Aside0.mk hqn
     have HBQ := Aside0.mk hb
     have HBT := Aside0.mk (below_then HBR.out HBR.out.size hb)
     have HXq := Aside0.mk ((hb.block w.heap.size (blk_lt HXr.out)).trans HXr.out)
     have HRR := Aside0.mk hr
     have p4 := (blk_cell HXq.out 4).trans rfl
     clear HQ hqn hb hr
     by_cases hqlt : q < x.f4.length
     ·obtain ⟨ad, A3q, c3q, A4q, c4q, hA, a0, a1, a2, a3, a4, hl3, hC3, hl4, hC4⟩ := at_T25 H4.out (q : Int) (by omega) (by omega)
      subst hA
      rw [Int.toNat_natCast] at a0 a1 a2 a3 a4
      replace a0 := pw_cell_below HBT.out a0
      replace a1 := pw_cell_below HBT.out a1
      replace a2 := pw_cell_below HBT.out a2
      replace a3 := pw_cell_below HBT.out a3
      replace a4 := pw_cell_below HBT.out a4
      obtain ⟨y, hy⟩ : ∃ y, y = rd_T25 x.f4 (q : Int) := ⟨_, rfl⟩
      rw [← hy] at a0 a1 a2 a3 a4 hl3 hC3 hl4 hC4
      have HY := Aside0.mk (rd_take x.f4 q hqlt)
      rw [← hy] at HY
      clear hy
      have hop1 : op + 1 ≤ 16 := HOP.out (fun h => by rw [h] at hqlt; cases hqlt)
      have CY := Aside0.mk (IH.out y HY.out.1 r (op + 1) (by omega) hop1 wr (HG.out.below HBT.out) A3q c3q A4q c4q hl3 (Kd.string.C_below hC3 HBT.out) hl4 (k25.C_below hC4 HBT.out))
      clear hl3 hC3 hl4 hC4
      rw [show ((op + 1 : Nat) : Int) = (op : Int) + 1 by omega] at CY
      have e2 : wrap64 ((op : Int) + 1) = (op : Int) + 1 := w64 (by omega) (by omega)
      have HWL := Aside0.mk (show weighL x.f4 L (op + 1) = (match weighD y r (op + 1) with | none => none | some r' => weighL (x.f4.drop (q + 1)) r' (op + 1)) by
       conv => lhs; rw [HY.out.2.2]
       rw [weighL_append, HRR.out]
       show weighL (y :: x.f4.drop (q + 1)) r (op + 1) = _
       rw [weighL]
       try (cases weighD y r (op + 1) <;> rfl))
      have HWT := Aside0.mk (show weighL (x.f4.take (q + 1)) L (op + 1) = weighD y r (op + 1) by
       rw [HY.out.2.1, weighL_append, HRR.out]
       show weighL [y] r (op + 1) = _
       rw [weighL]
       try (cases weighD y r (op + 1) <;> simp [weighL]))
      have HLE := Aside0.mk (fun q' (h : weighD y r (op + 1) = some q') => weighD_le y r (op + 1) q' h)
      clear hop1
      cases hwd : weighD y r (op + 1) with
      | none =>
       rw [hwd] at CY HWL
       clear hwd
       have HRn := Aside0.mk (HRv.out.trans (congrArg optI (show weighL x.f4 L (op + 1) = none from HWL.out)))
       rw [show optI none = -1 from rfl] at CY HRn
       go_wp2_with (go_at_call 22; go_loud (with_reducible refine CY.out.mono ?_); rintro e w4 ⟨rfl, hb4⟩; have HBZ := Aside0.mk hb4; clear hb4)
       go_ret
       exact ⟨by rw [HRn.out]; rfl, below_then HBT.out HBT.out.size HBZ.out⟩
      | some r' =>
       rw [hwd] at CY HWT
       have HLE' := Aside0.mk (HLE.out r' hwd)
       clear hwd
       rw [show optI (some r') = (r' : Int) from rfl] at CY
       go_wp2_with (go_at_call 22; go_loud (with_reducible refine CY.out.mono ?_); rintro e w4 ⟨rfl, hb4⟩; have HBZ := Aside0.mk hb4; clear hb4)
       go_roundg (gk - 1)
       case measure => have := HN.out; omega
       case rel => exact ⟨q + 1, r', by omega, rfl, by go_num, ⟨by have := HN.out; omega, below_then HBQ.out HBQ.out.size HBZ.out, by have := HLE'.out; omega, HWT.out⟩⟩
     ·have hx2 : x.f4.take q = x.f4 := List.take_of_length_le (by omega)
      have h := HRR.out
      rw [hx2] at h
      have HRn := Aside0.mk (HRv.out.trans (congrArg optI h))
      clear h hx2
      go_wp2_with fail
      go_ret
      exact ⟨by rw [HRn.out]; rfl, HBT.out⟩
 exact walk _ _ rfl rfl hk6
set_option maxHeartbeats 8000000 in
theorem weigh_zero (x : DT) (op : Nat) (w : World) (A3 : Option Addr) (c3 : Nat) (A4 : Option Addr) (c4 : Nat) :
  Calls Tryz.prog 22 #[aggD x A3 c3 A4 c4, .int .i64 0, .int .i64 op] w fun e w' => e = .returned (.int .i64 (-1)) ∧ Below w.heap.size w w' := by
 have HX := Aside0.mk (heap_alloc_new w (xBox x A3 c3 A4 c4))
 have p0 := (blk_cell HX.out 0).trans rfl
 go_enter Tryz.func22, Tryz.ntmps22
 go_wp2_with fail
 go_ret
 exact ⟨rfl, below_alloc (Below.refl _ _) _⟩
set_option maxHeartbeats 8000000 in
theorem weigh_bad (x : DT) (hx : OkD x) (L op : Nat) (hL : L ≤ 1999) (hb : plainD x = false ∨ (x.f0 > 3 ∧ op = 16)) (w : World) (hgl : GL w) (A3 : Option Addr) (c3 : Nat) (A4 : Option Addr) (c4 : Nat) :
  Calls Tryz.prog 22 #[aggD x A3 c3 A4 c4, .int .i64 ((L : Int) + 1), .int .i64 op] w fun e w' => e = .returned (.int .i64 (-1)) ∧ Below w.heap.size w w' := by
 have HB := Aside0.mk (below_alloc (Below.refl w.heap.size w) (xBox x A3 c3 A4 c4))
 have HX := Aside0.mk (heap_alloc_new w (xBox x A3 c3 A4 c4))
 have HPC := Aside0.mk (rplain_c x.f0 x.f1 x.f2 x.f3 x.f4 hx.out.2.2.2.1 hx.out.2.2.2.2.2.1 A3 c3 A4 c4 _ (hgl.below HB.out))
 have d0 : decide ((L : Int) + 1 < 1) = false := decide_eq_false (by omega)
 obtain ⟨bp, hbp⟩ : ∃ b, b = plainD (⟨x.f0, x.f1, x.f2, x.f3, x.f4⟩ : DT) := ⟨_, rfl⟩
 rw [← hbp] at HPC
 have hb' : bp = false ∨ (x.f0 > 3 ∧ op = 16) := by rw [hbp]; exact hb
 have p0 := (blk_cell HX.out 0).trans rfl
 have p1 := (blk_cell HX.out 1).trans rfl
 have p2 := (blk_cell HX.out 2).trans rfl
 have p3 := (blk_cell HX.out 3).trans rfl
 have p4 := (blk_cell HX.out 4).trans rfl
 clear hx hgl hb hbp
 cases bp with
 | false =>
  clear hb'
  go_enter Tryz.func22, Tryz.ntmps22
  go_wp2_with (go_at_call 39; go_loud (with_reducible refine HPC.out.mono ?_); rintro e w1 ⟨rfl, hb⟩; have HB1 := Aside0.mk (below_then HB.out HB.out.size hb); clear hb)
  go_ret
  exact ⟨rfl, HB1.out⟩
 | true =>
  obtain ⟨h3, h16⟩ := hb'.resolve_left (by decide)
  have k3 : decide (3 < x.f0) = true := decide_eq_true h3
  subst h16
  clear hb' h3
  go_enter Tryz.func22, Tryz.ntmps22
  go_wp2_with (go_at_call 39; go_loud (with_reducible refine HPC.out.mono ?_); rintro e w1 ⟨rfl, hb⟩; have HB1 := Aside0.mk (below_then HB.out HB.out.size hb); have hx1 := (hb.block w.heap.size (blk_lt HX.out)).trans HX.out; have q0 := (blk_cell hx1 0).trans rfl; clear hb hx1)
  go_ret
  exact ⟨rfl, HB1.out⟩
theorem weigh_c (x : DT) (hx : OkD x) : weighC x := by
 induction hx with
 | mk x h0 h1 h2 n3 h3 n4 h4 ih =>
  have hx : OkD x := .mk x h0 h1 h2 n3 h3 n4 h4
  intro L op hL ho w hgl A3 c3 A4 c4 l3 g3 l4 g4
  cases L with
  | zero =>
   have e : weighD x 0 op = none := by rcases x with ⟨a, b, c, ns, l⟩; rw [weighD, if_pos (.inl rfl)]
   rw [e]
   exact weigh_zero x op w A3 c3 A4 c4
  | succ L =>
   rw [show ((L + 1 : Nat) : Int) = (L : Int) + 1 by omega]
   by_cases hb : plainD x = false ∨ (x.f0 > 3 ∧ op = 16)
   ·rw [weighD_eq, if_pos (by rcases hb with h | h; exact .inl h; exact .inr (.inl h))]
    exact weigh_bad x hx L op (by omega) hb w hgl A3 c3 A4 c4
   ·have hp : plainD x = true := by
     cases h : plainD x with
     | true => rfl
     | false => exact absurd (.inl h) hb
    have hk16 : ¬ (x.f0 > 3 ∧ op = 16) := fun h => hb (.inr h)
    have hpl : plainD ⟨x.f0, x.f1, x.f2, x.f3, x.f4⟩ = true := hp
    refine weigh_kids x hx hp L op (by omega) ho hk16 (fun hne => ?_) (optI (weighD x (L + 1) op)) (fun hg => ?_) (fun hn => ?_) ih w hgl A3 c3 A4 c4 l3 g3 l4 g4
    ·have h4 : x.f0 > 3 := by
      rcases plain_cases hpl with ⟨_, _, _, _, e⟩ | ⟨_, _, _, _, e⟩ | ⟨_, _, _, e⟩ | ⟨_, _, _, e, _⟩ | ⟨e, _⟩ | ⟨e, _⟩
      ·exact absurd e hne
      ·exact absurd e hne
      ·exact absurd e hne
      ·exact absurd e hne
      ·rw [e]; decide
      ·rw [e]; decide
     have : op ≠ 16 := fun h => hk16 ⟨h4, h⟩
     omega
    ·rw [weighD_eq, if_neg (by rw [hp, (namesD_good x.f3).2 hg]; simp; omega)]
    ·rw [weighD_eq]
     by_cases hnm : namesD x.f3 = true
     ·have hlt : L < x.f3.length := Nat.lt_of_not_le (fun hle => hn ⟨hle, (namesD_good x.f3).1 hnm⟩)
      have hl4 : x.f3.length = x.f4.length := by
       rcases plain_cases hpl with ⟨_, _, _, e, _⟩ | ⟨_, _, _, e, _⟩ | ⟨_, _, e, _⟩ | ⟨_, _, e, _⟩ | ⟨_, _, _, e⟩ | ⟨_, _, _, e⟩
       ·rw [e] at hlt; cases hlt
       ·rw [e] at hlt; cases hlt
       ·rw [e] at hlt; cases hlt
       ·rw [e] at hlt; cases hlt
       ·rw [e] at hlt; cases hlt
       ·exact e
      rw [weighL_many (by omega)]
      split <;> rfl
     ·rw [if_pos (.inr (.inr (by simpa using hnm)))]
      rfl
set_option maxHeartbeats 4000000 in
/-- The reference's Right. -/
theorem rRight_c (x : DT) (hx : OkD x) (w : World) (hgl : GL w) (A3 : Option Addr) (c3 : Nat) (A4 : Option Addr) (c4 : Nat) (l3 : x.f3.length ≤ c3) (g3 : Kd.string.C w A3 x.f3.length x.f3) (l4 : x.f4.length ≤ c4) (g4 : k25.C w A4 x.f4.length x.f4) :
  Calls Tryz.prog 10 #[aggD x A3 c3 A4 c4] w fun e w' => e = .returned (.bool (rightD x)) ∧ Below w.heap.size w w' := by
 have HB := Aside0.mk (below_alloc (Below.refl w.heap.size w) (xBox x A3 c3 A4 c4))
 have CW := Aside0.mk (weigh_c x hx 2000 0 (by omega) (by omega) _ (hgl.below HB.out) A3 c3 A4 c4 l3 (Kd.string.C_below g3 HB.out) l4 (k25.C_below g4 HB.out))
 rw [show ((2000 : Nat) : Int) = 2000 from rfl, show ((0 : Nat) : Int) = 0 from rfl] at CW
 unfold rightD
 clear hgl g3 g4 hx
 cases hwd : weighD x 2000 0 with
 | none =>
  rw [hwd, show optI none = -1 from rfl] at CW
  clear hwd
  go_enter Tryz.func10, Tryz.ntmps10
  go_wp2_with (go_at_call 22; go_loud (with_reducible refine CW.out.mono ?_); rintro e w1 ⟨rfl, hb⟩; have HB1 := Aside0.mk (below_then HB.out HB.out.size hb); clear hb)
  go_ret
  exact ⟨rfl, HB1.out⟩
 | some r =>
  rw [hwd, show optI (some r) = (r : Int) from rfl] at CW
  clear hwd
  have hr : decide (0 ≤ (r : Int)) = true := decide_eq_true (by omega)
  go_enter Tryz.func10, Tryz.ntmps10
  go_wp2_with (go_at_call 22; go_loud (with_reducible refine CW.out.mono ?_); rintro e w1 ⟨rfl, hb⟩; have HB1 := Aside0.mk (below_then HB.out HB.out.size hb); clear hb)
  go_ret
  exact ⟨rfl, HB1.out⟩
end Go.Proofs.YtidcecpbihmloaaGreatDoorE

namespace Go.Proofs.YtidcecpbihmloaaGreatDoorE
open Go Go.RowKit Go.Proofs.YtidcecpbihmloaaGreatDoorW.PrintWords Go.Proofs.YtidcecpbihmloaaGreatDoorW.PrintMore Go.Proofs.YtidcecpbihmloaaGreatDoorW.PrintLast Go.Proofs.YtidcecpbihmloaaGreatDoorX Go.Proofs.YtidcecpbihmloaaGreatDoor.P16 Go.Proofs.YtidcecpbihmloaaGreatDoor.M02
set_option linter.unusedVariables false
set_option linter.unusedSimpArgs false
set_option maxRecDepth 100000
/-- What a member's piece makes of what is read. -/
def tailR (n : Nat) (s : ByteArray) (deep : Nat) (b : Bool) (x : DT) (R1 : Res DT) : Res DT := match R1 with
 | .err p c => .err p c
 | .ok d a r => if nxt s a 44 = true then membersS n ((B s).drop (a + 1)) (a + 1) (deep + 1) b x.f3 (x.f4 ++ [d]) else if nxt s a (shutB b) = true then .ok ⟨kindB b, 0, em, x.f3, x.f4 ++ [d]⟩ (a + 1) ((B s).drop (a + 1)) else .err a 2
theorem tailS_eq (n : Nat) (s : ByteArray) (a deep : Nat) (b : Bool) (x : DT) : tailS (n + 1) ((B s).drop a) a (deep + 1) b x.f3 x.f4 = tailR n s deep b x (pieceS n ((B s).drop a) a (deep + 1)) := by
 rw [tailS]
 unfold tailR
 cases hp : (pieceS n ((B s).drop a) a (deep + 1) : Res DT) with
 | err p c => rfl
 | ok d a2 r =>
  obtain ⟨k, _, h2, h3⟩ := piece_at hp
  rw [List.drop_drop] at h3
  have e : r = (B s).drop a2 := by rw [h3, h2]
  have e44 : (((B s).drop a2).head? = some 44) ↔ nxt s a2 44 = true := by unfold nxt; rw [beq_iff_eq]
  have esh : (((B s).drop a2).head? = some (if b then 125 else 93)) ↔ nxt s a2 (shutB b) = true := by unfold nxt shutB; rw [beq_iff_eq]
  simp only [e, e44, esh, List.drop_drop]
  rfl
/-- What is known where a member's piece is read. -/
structure TailI (s : ByteArray) (n : Nat) (x : DT) (R1 : Res DT) : Prop where
 len : x.f4.length ≤ 1000000000
 ok : ∀ d a r, R1 = .ok d a r → a ≤ s.size ∧ 3 * (s.size - a) ≤ n ∧ x.f3.length ≤ a + 1 ∧ x.f4.length ≤ a
 err : ∀ p c, R1 = .err p c → c ≠ 0
theorem tail_of (s : ByteArray) (n a deep : Nat) (b : Bool) (x : DT) (ha : a ≤ s.size) (hs : s.size ≤ 1000000000) (hn : 3 * (s.size - a) ≤ n) (h3 : x.f3.length ≤ a) (h4 : x.f4.length ≤ a) : TailI s n x (pieceS n ((B s).drop a) a (deep + 1)) := by
 refine ⟨by omega, fun d a2 r h => ?_, fun p c h => ?_⟩
 ·obtain ⟨k, h1, h2, _⟩ := piece_at h
  rw [List.length_drop, B_len] at h1
  refine ⟨by omega, by omega, by omega, by omega⟩
 ·rcases (err_code _).1 _ _ _ _ _ h with e | e <;> rw [e] <;> decide
/-- What a call has made is of its own. -/
theorem made_low {w' W : World} {b : Nat} {d : DT} {cs : List Value} (h : k25.M w' W.drew.heap.size (fun _ => True) d cs) (hb : b < W.heap.size) : k25.M w' (b + 1) (fun k => W.heap.size ≤ k) d cs :=
 k25.M_lower (show b + 1 ≤ W.heap.size by omega) (k25.M_mono (fun k hk => hk.2.1) (k25.M_bound (show k25.M w' W.heap.size (fun _ => True) d cs from h)))
theorem new_ok {b k : Nat} {x : DT} {v3 v4 : Value} {W : World} (h : DL b x v3 v4 W) (hk : W.heap.size ≤ k) : (b < k ∧ some k ≠ v3.ownBlock) ∧ some k ≠ v4.ownBlock := by
 have := h.lt
 refine ⟨⟨by omega, fun e => ?_⟩, fun e => ?_⟩
 ·have := Kd.R_lt h.r3 k e.symm; omega
 ·have := Kd.R_lt h.r4 k e.symm; omega
end Go.Proofs.YtidcecpbihmloaaGreatDoorE

namespace Go.Proofs.YtidcecpbihmloaaGreatDoorE
open Go Go.RowKit Go.Proofs.YtidcecpbihmloaaGreatDoorW.PrintWords Go.Proofs.YtidcecpbihmloaaGreatDoorW.PrintMore Go.Proofs.YtidcecpbihmloaaGreatDoorW.PrintLast Go.Proofs.YtidcecpbihmloaaGreatDoorX Go.Proofs.YtidcecpbihmloaaGreatDoor.P16 Go.Proofs.YtidcecpbihmloaaGreatDoor.M02
set_option linter.unusedVariables false
set_option linter.unusedSimpArgs false
set_option maxRecDepth 100000
theorem members_rec (n : Nat) (s : ByteArray) (a deep : Nat) (x : DT) : membersS (n + 2) ((B s).drop a) a (deep + 1) true x.f3 x.f4 = (if namedS true (((B s).drop a).takeWhile isNam) = true then (if nxt s (a + (((B s).drop a).takeWhile isNam).length) 61 = true then tailS (n + 1) ((B s).drop (a + (((B s).drop a).takeWhile isNam).length + 1)) (a + (((B s).drop a).takeWhile isNam).length + 1) (deep + 1) true (x.f3 ++ [mkB (((B s).drop a).takeWhile isNam)]) x.f4 else .err (a + (((B s).drop a).takeWhile isNam).length) 2) else .err a 2) := by
 rw [membersS, if_pos rfl, drop_len, List.drop_drop, List.drop_drop]
 have e : (((B s).drop (a + (((B s).drop a).takeWhile isNam).length)).head? = some 61) ↔ nxt s (a + (((B s).drop a).takeWhile isNam).length) 61 = true := by unfold nxt; rw [beq_iff_eq]
 simp only [e]
end Go.Proofs.YtidcecpbihmloaaGreatDoorE

namespace Go.Proofs.YtidcecpbihmloaaGreatDoorE
open Go Go.RowKit Go.Proofs.YtidcecpbihmloaaGreatDoorW.PrintWords Go.Proofs.YtidcecpbihmloaaGreatDoorW.PrintMore Go.Proofs.YtidcecpbihmloaaGreatDoorW.PrintLast Go.Proofs.YtidcecpbihmloaaGreatDoorX Go.Proofs.YtidcecpbihmloaaGreatDoor.P16 Go.Proofs.YtidcecpbihmloaaGreatDoor.M02
set_option linter.unusedVariables false
set_option linter.unusedSimpArgs false
set_option maxRecDepth 100000
theorem pieceS_end (n : Nat) (s : ByteArray) (a deep : Nat) (h : s.size ≤ a) : (pieceS (n + 1) ((B s).drop a) a deep : Res DT) = .err a 2 := by
 rw [List.drop_of_length_le (by rw [B_len]; exact h), pieceS]
theorem at_lt {s : ByteArray} {a : Nat} (h : a < s.size) : a < (B s).length := by rw [B_len]; exact h
theorem pieceS_let (n : Nat) (s : ByteArray) (a deep : Nat) (h : a < s.size) (hc : isLet ((B s)[a]'(at_lt h)) = true) :
  (pieceS (n + 1) ((B s).drop a) a deep : Res DT) = match wordD (((B s).drop a).takeWhile isLet) with
   | some d => .ok d (a + (((B s).drop a).takeWhile isLet).length) ((B s).drop (a + (((B s).drop a).takeWhile isLet).length))
   | none => .err a 2 := by
 rw [← List.drop_drop, ← drop_len]
 conv => lhs; rw [List.drop_eq_getElem_cons (at_lt h)]
 rw [pieceS, if_pos hc, ← List.drop_eq_getElem_cons (at_lt h)]
 try (cases (wordD (((B s).drop a).takeWhile isLet) : Option DT) <;> rfl)
theorem pieceS_dig (n : Nat) (s : ByteArray) (a deep : Nat) (h : a < s.size) (hl : isLet ((B s)[a]'(at_lt h)) = false) (hc : isDig ((B s)[a]'(at_lt h)) = true) :
  (pieceS (n + 1) ((B s).drop a) a deep : Res DT) = if (wholeS (((B s).drop a).takeWhile isDig)).2 = true then .ok ⟨2, (wholeS (((B s).drop a).takeWhile isDig)).1, em, [], []⟩ (a + (((B s).drop a).takeWhile isDig).length) ((B s).drop (a + (((B s).drop a).takeWhile isDig).length)) else .err a 2 := by
 rw [← List.drop_drop, ← drop_len]
 conv => lhs; rw [List.drop_eq_getElem_cons (at_lt h)]
 rw [pieceS, if_neg (by rw [hl]; decide), if_pos hc, ← List.drop_eq_getElem_cons (at_lt h)]
theorem pieceS_quo (n : Nat) (s : ByteArray) (a deep : Nat) (h : a < s.size) (hc : (B s)[a]'(at_lt h) = 34) :
  (pieceS (n + 1) ((B s).drop a) a deep : Res DT) = textD ((B s).drop (a + 1)) (a + 1) := by
 rw [List.drop_eq_getElem_cons (at_lt h), pieceS, hc, if_neg (by decide), if_neg (by decide), if_pos rfl]
theorem pieceS_open (n : Nat) (s : ByteArray) (a deep : Nat) (h : a < s.size) (b : Bool) (hc : (B s)[a]'(at_lt h) = if b then 123 else 91) :
  (pieceS (n + 1) ((B s).drop a) a deep : Res DT) = if 16 ≤ deep then .err a 11 else allS n s (a + 1) deep b := by
 have e : ∀ c : UInt8, (((B s).drop (a + 1)).head? = some c) ↔ nxt s (a + 1) c = true := fun c => by unfold nxt; rw [beq_iff_eq]
 unfold allS
 cases b with
 | true =>
  have hc' : (B s)[a]'(at_lt h) = 123 := hc
  rw [List.drop_eq_getElem_cons (at_lt h), pieceS, hc', if_neg (by decide), if_neg (by decide), if_neg (by decide), if_pos (.inr rfl)]
  simp only [e, shutB, kindB, List.drop_drop]
  rfl
 | false =>
  have hc' : (B s)[a]'(at_lt h) = 91 := hc
  rw [List.drop_eq_getElem_cons (at_lt h), pieceS, hc', if_neg (by decide), if_neg (by decide), if_neg (by decide), if_pos (.inl rfl)]
  simp only [e, shutB, kindB, List.drop_drop]
  rfl
theorem pieceS_bad (n : Nat) (s : ByteArray) (a deep : Nat) (h : a < s.size) (hl : isLet ((B s)[a]'(at_lt h)) = false) (hd : isDig ((B s)[a]'(at_lt h)) = false) (h34 : (B s)[a]'(at_lt h) ≠ 34) (h91 : (B s)[a]'(at_lt h) ≠ 91) (h123 : (B s)[a]'(at_lt h) ≠ 123) :
  (pieceS (n + 1) ((B s).drop a) a deep : Res DT) = .err a 2 := by
 rw [List.drop_eq_getElem_cons (at_lt h), pieceS, if_neg (by rw [hl]; decide), if_neg (by rw [hd]; decide), if_neg h34, if_neg (fun e => e.elim h91 h123)]
/-- The slices of what has been made. -/
theorem made_slices {w : World} {base : Nat} {ok : Nat → Prop} {x : DT} {v3 v4 : Value} (h : k25.M w base ok x [.int .i64 x.f0, .int .i64 x.f1, .string x.f2, v3, v4]) : ∃ A3 c3 A4 c4, v3 = .slice A3 x.f3.length c3 ∧ v4 = .slice A4 x.f4.length c4 := by
 obtain ⟨u3, u4, he, h3, h4⟩ := k25_openM h
 injection he with _ he
 injection he with _ he
 injection he with _ he
 injection he with e3 he
 injection he with e4 _
 obtain ⟨A3, c3, r3⟩ := Kd.R_slice h3
 obtain ⟨A4, c4, r4⟩ := Kd.R_slice h4
 exact ⟨A3, c3, A4, c4, e3.trans r3, e4.trans r4⟩
theorem made_of {w' W : World} {b : Nat} {d : DT} {cs : List Value} (h : k25.M w' W.heap.size (fun _ => True) d cs) (hb : b ≤ W.heap.size) : k25.M w' b (fun k => W.heap.size ≤ k) d cs :=
 k25.M_lower hb (k25.M_mono (fun k hk => hk.2.1) (k25.M_bound h))
end Go.Proofs.YtidcecpbihmloaaGreatDoorE

namespace Go.Proofs.YtidcecpbihmloaaGreatDoorE
open Go Go.RowKit Go.Proofs.YtidcecpbihmloaaGreatDoorW.PrintWords Go.Proofs.YtidcecpbihmloaaGreatDoorX Go.Proofs.YtidcecpbihmloaaGreatDoor.P16 Go.Proofs.YtidcecpbihmloaaGreatDoor.M02
set_option linter.unusedVariables false
set_option linter.unusedSimpArgs false
theorem okD_leaf {k n : Int} {t : ByteArray} (h0 : 0 ≤ k ∧ k ≤ 5) (h1 : -9223372036854775808 ≤ n ∧ n ≤ 9223372036854775807) (h2 : t.size ≤ 140737488351232) : OkD (⟨k, n, t, [], []⟩ : DT) :=
 .mk _ ⟨by show -9223372036854775808 ≤ k; omega, by show k ≤ 9223372036854775807; omega⟩ h1 h2 (Nat.zero_le _) (fun s hs => by cases hs) (Nat.zero_le _) (fun y hy => by cases hy)
theorem hd_len {l : List UInt8} {c : UInt8} (h : l.head? = some c) : (l.drop 1).length + 1 = l.length := by
 cases l with
 | nil => simp at h
 | cons c t => simp
theorem tw_le' {α : Type} (p : α → Bool) (l : List α) : (l.takeWhile p).length ≤ l.length := (List.takeWhile_sublist p).length_le
theorem dw_le {α : Type} (p : α → Bool) (l : List α) : (l.dropWhile p).length ≤ l.length := (List.dropWhile_sublist p).length_le
theorem textD_ok {t : List UInt8} {a a' : Nat} {d : DT} {r : List UInt8} (hl : t.length ≤ 1000000000) (h : textD t a = .ok d a' r) : OkD d ∧ r.length ≤ t.length := by
 unfold textD at h
 by_cases he : (unS (t.take (stopS t)) 0 []).2.2 ≠ 0
 ·rw [if_pos he] at h; cases h
 rw [if_neg he] at h
 by_cases hq : (t.drop (stopS t)).head? = some 34
 ·rw [if_pos hq] at h
  injection h with h1 h2 h3
  refine ⟨?_, by rw [← h3, List.length_drop]; omega⟩
  rw [← h1]
  refine okD_leaf (by decide) (by decide) ?_
  rw [mkB_size]
  have hb := un_back (t.take (stopS t)) (by simpa using he)
  have hg := Go.Proofs.YtidcecpbihmloaaGreatDoor.K04.escS_ge (unS (t.take (stopS t)) 0 []).1
  rw [hb, List.length_take] at hg
  omega
 ·rw [if_neg hq] at h; cases h
theorem okD_read (n : Nat) :
  (∀ (l : List UInt8) (a deep : Nat) (d : DT) (a' : Nat) (r : List UInt8), l.length ≤ 1000000000 → pieceS n l a deep = .ok d a' r → OkD d ∧ r.length ≤ l.length)
  ∧ (∀ (l : List UInt8) (a deep : Nat) (b : Bool) (ns0 : List ByteArray) (ds0 : List DT) (d : DT) (a' : Nat) (r : List UInt8), ns0.length + l.length ≤ 1000000000 → (∀ s ∈ ns0, s.size ≤ 1000000000) → ds0.length + l.length ≤ 1000000000 → (∀ y ∈ ds0, OkD y) → membersS n l a deep b ns0 ds0 = .ok d a' r → OkD d ∧ r.length ≤ l.length)
  ∧ (∀ (l : List UInt8) (a deep : Nat) (b : Bool) (ns0 : List ByteArray) (ds0 : List DT) (d : DT) (a' : Nat) (r : List UInt8), ns0.length + l.length ≤ 1000000000 → (∀ s ∈ ns0, s.size ≤ 1000000000) → ds0.length + l.length ≤ 1000000000 → (∀ y ∈ ds0, OkD y) → tailS n l a deep b ns0 ds0 = .ok d a' r → OkD d ∧ r.length ≤ l.length) := by
 induction n with
 | zero =>
  refine ⟨?_, ?_, ?_⟩
  ·intro l a deep d a' r _ h; simp [pieceS] at h
  ·intro l a deep b ns0 ds0 d a' r _ _ _ _ h; simp [membersS] at h
  ·intro l a deep b ns0 ds0 d a' r _ _ _ _ h; simp [tailS] at h
 | succ n ih =>
  obtain ⟨ihP, ihM, ihT⟩ := ih
  refine ⟨?_, ?_, ?_⟩
  ·intro l a deep d a' r hl h
   cases l with
   | nil => simp [pieceS] at h
   | cons c t =>
    rw [List.length_cons] at hl
    rw [pieceS] at h
    split at h
    ·split at h
     ·rename_i x hw
      injection h with h1 h2 h3
      refine ⟨?_, by rw [← h3]; exact dw_le _ _⟩
      rw [← h1]
      unfold wordD at hw
      split at hw
      ·injection hw with hw; rw [← hw]; exact okD_leaf (by decide) (by decide) (by decide)
      split at hw
      ·injection hw with hw; rw [← hw]; exact okD_leaf (by decide) (by decide) (by decide)
      split at hw
      ·injection hw with hw; rw [← hw]; exact okD_leaf (by decide) (by decide) (by decide)
      ·cases hw
     ·cases h
    split at h
    ·split at h
     ·rename_i hw
      injection h with h1 h2 h3
      refine ⟨?_, by rw [← h3]; exact dw_le _ _⟩
      rw [← h1]
      exact okD_leaf (by decide) (whole_of hw).1 (by decide)
     ·cases h
    split at h
    ·have := textD_ok (by omega) h
     exact ⟨this.1, by rw [List.length_cons]; omega⟩
    by_cases hc : c = 91 ∨ c = 123
    ·rw [if_pos hc] at h
     by_cases hd : 16 ≤ deep
     ·rw [if_pos hd] at h; cases h
     ·rw [if_neg hd] at h
      by_cases ht : t.head? = some (if c = 123 then 125 else 93)
      ·rw [if_pos ht] at h
       injection h with h1 h2 h3
       refine ⟨?_, by rw [← h3, List.length_drop, List.length_cons]; omega⟩
       rw [← h1]
       exact okD_leaf (by split <;> decide) (by decide) (by decide)
      ·rw [if_neg ht] at h
       have := ihM _ _ _ _ _ _ _ _ _ (by simp; omega) (fun s hs => by cases hs) (by simp; omega) (fun y hy => by cases hy) h
       exact ⟨this.1, by rw [List.length_cons]; omega⟩
    ·rw [if_neg hc] at h; cases h
  ·intro l a deep b ns0 ds0 d a' r hn hns hdl hds h
   rw [membersS] at h
   cases b with
   | false => rw [if_neg (by simp)] at h; exact ihT _ _ _ _ _ _ _ _ _ hn hns hdl hds h
   | true =>
    rw [if_pos rfl] at h
    split at h
    ·split at h
     ·rename_i h61
      have h1 := hd_len h61
      have h2 := dw_le isNam l
      have h3 := tw_le' isNam l
      have := ihT _ _ _ _ _ _ _ _ _ (by rw [List.length_append, List.length_singleton]; omega) (fun s hs => by
       rcases List.mem_append.1 hs with hs | hs
       ·exact hns s hs
       ·rw [List.mem_singleton.1 hs, mkB_size]; omega) (by omega) hds h
      exact ⟨this.1, by omega⟩
     ·cases h
    ·cases h
  ·intro l a deep b ns0 ds0 d a' r hn hns hdl hds h
   rw [tailS] at h
   cases hp : (pieceS n l a deep : Res DT) with
   | err u v => rw [hp] at h; cases h
   | ok e a1 r1 =>
    rw [hp] at h
    obtain ⟨he, hr1⟩ := ihP _ _ _ _ _ _ (by omega) hp
    have hds' : ∀ y ∈ ds0 ++ [e], OkD y := fun y hy => by
     rcases List.mem_append.1 hy with hy | hy
     ·exact hds y hy
     ·rw [List.mem_singleton.1 hy]; exact he
    simp only at h
    split at h
    ·rename_i h44
     have h1 := hd_len h44
     have := ihM _ _ _ _ _ _ _ _ _ (by omega) hns (by rw [List.length_append, List.length_singleton]; omega) hds' h
     exact ⟨this.1, by omega⟩
    by_cases hsh : r1.head? = some (if b then 125 else 93)
    ·rw [if_pos hsh] at h
     injection h with h1 h2 h3
     have h4 := hd_len hsh
     refine ⟨?_, by rw [← h3]; omega⟩
     rw [← h1]
     refine .mk _ (by show -9223372036854775808 ≤ (if b then (5 : Int) else 4) ∧ (if b then (5 : Int) else 4) ≤ 9223372036854775807; split <;> decide) (by show (-9223372036854775808 : Int) ≤ 0 ∧ (0 : Int) ≤ 9223372036854775807; decide) (by show (em : ByteArray).size ≤ _; decide) (by show ns0.length ≤ _; omega) (fun s hs => Nat.le_trans (hns s hs) (by decide)) (by show (ds0 ++ [e]).length ≤ _; rw [List.length_append, List.length_singleton]; omega) hds'
    ·rw [if_neg hsh] at h; cases h
theorem okD_piece {n : Nat} {s : ByteArray} {a deep : Nat} {d : DT} {a' : Nat} {r : List UInt8} (hs : s.size ≤ 1000000000) (h : pieceS n ((B s).drop a) a deep = .ok d a' r) : OkD d :=
 ((okD_read n).1 _ _ _ _ _ _ (by rw [List.length_drop, B_len]; omega) h).1
end Go.Proofs.YtidcecpbihmloaaGreatDoorE

namespace Go.Proofs.YtidcecpbihmloaaGreatDoorE
open Go Go.RowKit Go.Proofs.YtidcecpbihmloaaGreatDoorW.PrintWords Go.Proofs.YtidcecpbihmloaaGreatDoorW.PrintMore Go.Proofs.YtidcecpbihmloaaGreatDoorW.PrintLast Go.Proofs.YtidcecpbihmloaaGreatDoorX Go.Proofs.YtidcecpbihmloaaGreatDoor.P16 Go.Proofs.YtidcecpbihmloaaGreatDoor.M02
set_option linter.unusedVariables false
set_option linter.unusedSimpArgs false
set_option maxRecDepth 100000
/-- What Parse hands back. -/
def parseP (w : World) (p : DT × Nat × Int) (e : Ending) (w' : World) : Prop :=
 Below w.heap.size w w' ∧ ∃ A3 c3 A4 c4, e = .returned (.tuple #[aggD p.1 A3 c3 A4 c4, .int .i64 (p.2.1 : Int), .int .i64 p.2.2]) ∧ p.1.f3.length ≤ c3 ∧ Kd.string.C w' A3 p.1.f3.length p.1.f3 ∧ p.1.f4.length ≤ c4 ∧ k25.C w' A4 p.1.f4.length p.1.f4
theorem made_open {w : World} {base : Nat} {ok : Nat → Prop} {x : DT} {A3 : Option Addr} {c3 : Nat} {A4 : Option Addr} {c4 : Nat} (h : k25.M w base ok x (dCells x (.slice A3 x.f3.length c3) (.slice A4 x.f4.length c4))) : x.f3.length ≤ c3 ∧ Kd.string.C w A3 x.f3.length x.f3 ∧ x.f4.length ≤ c4 ∧ k25.C w A4 x.f4.length x.f4 := by
 obtain ⟨B3, d3, B4, d4, he, l3, g3, l4, g4⟩ := k25_open (k25.K_of_M h)
 injection he with _ he
 injection he with _ he
 injection he with _ he
 injection he with e3 he
 injection he with e4 _
 injection e3 with a3 _ b3
 injection e4 with a4 _ b4
 rw [a3, b3, a4, b4]
 exact ⟨l3, g3, l4, g4⟩
theorem finP {w W : World} {p : DT × Nat × Int} {A3 : Option Addr} {c3 : Nat} {A4 : Option Addr} {c4 : Nat} {base : Nat} {ok : Nat → Prop} (hB : Below w.heap.size w W) (hM : k25.M W base ok p.1 (dCells p.1 (.slice A3 p.1.f3.length c3) (.slice A4 p.1.f4.length c4))) (hok : ∀ k, ok k → k ≠ w.heap.size) :
  parseP w p (.returned (.tuple #[aggD p.1 A3 c3 A4 c4, .int .i64 (p.2.1 : Int), .int .i64 p.2.2])) (set5 W w.heap.size (.int .i64 p.1.f0) (.int .i64 p.1.f1) (.string p.1.f2) (.slice A3 p.1.f3.length c3) (.slice A4 p.1.f4.length c4)) :=
 ⟨below5 hB (Nat.le_refl _) _ _ _ _ _, A3, c3, A4, c4, rfl, made_open (made5 hM hok _ _ _ _ _)⟩
/-- What a reading makes of all of a text. -/
def pOf : Res DT → DT × Nat × Int
 | .err a e => (zeroD, a, e)
 | .ok d a r => if r ≠ [] then (zeroD, a, 2) else if rightD d then (d, 0, 0) else (zeroD, 0, 24)
theorem parseS_of (l : List UInt8) : parseS l = pOf (pieceS (3 * l.length + 1) l 0 0) := by
 unfold parseS pOf
 cases (pieceS (3 * l.length + 1) l 0 0 : Res DT) <;> rfl
theorem zeroM (W : World) (base : Nat) (ok : Nat → Prop) : k25.M W base ok zeroD (dCells zeroD (.slice none zeroD.f3.length 0) (.slice none zeroD.f4.length 0)) := k25_mkM W base ok zeroD (Kd.R_nil _ _ _ _ _) (Kd.R_nil _ _ _ _ _)
theorem drew_blk {W : World} {p : Nat} {o : Obj} (h : W.heap[p]? = some o) : W.drew.heap[p]? = some o := h
theorem finPd {w W : World} {p : DT × Nat × Int} {A3 : Option Addr} {c3 : Nat} {A4 : Option Addr} {c4 : Nat} {base : Nat} {ok : Nat → Prop} (hB : Below w.heap.size w W) (hM : k25.M W base ok p.1 (dCells p.1 (.slice A3 p.1.f3.length c3) (.slice A4 p.1.f4.length c4))) (hok : ∀ k, ok k → k ≠ w.heap.size) :
  parseP w p (.returned (.tuple #[aggD p.1 A3 c3 A4 c4, .int .i64 (p.2.1 : Int), .int .i64 p.2.2])) (set5 W w.heap.size (.int .i64 p.1.f0) (.int .i64 p.1.f1) (.string p.1.f2) (.slice A3 p.1.f3.length c3) (.slice A4 p.1.f4.length c4)).drew :=
 ⟨below_drew (below5 hB (Nat.le_refl _) _ _ _ _ _), A3, c3, A4, c4, rfl, made_open (Kd.M_below (made5 hM hok _ _ _ _ _) (below_drew (Below.refl _ _)))⟩
end Go.Proofs.YtidcecpbihmloaaGreatDoorE

namespace Go.Proofs.YtidcecpbihmloaaGreatDoorE
open Go Go.RowKit Go.Proofs.YtidcecpbihmloaaGreatDoorW.PrintWords Go.Proofs.YtidcecpbihmloaaGreatDoorW.PrintMore Go.Proofs.YtidcecpbihmloaaGreatDoorW.PrintLast Go.Proofs.YtidcecpbihmloaaGreatDoorX Go.Proofs.YtidcecpbihmloaaGreatDoor.P16 Go.Proofs.YtidcecpbihmloaaGreatDoor.M02
set_option linter.unusedVariables false
set_option linter.unusedSimpArgs false
set_option maxRecDepth 100000
theorem kept_blk {w w' : World} {b q : Nat} {cs : Array Value} (h : Lib.OthersKept 5 (some b) w w') (hb : w.heap[q]? = some (.cells cs 25 (0, 0))) (hne : q ≠ b) : w'.heap[q]? = some (.cells cs 25 (0, 0)) :=
 h q _ hb (by simp; exact hne) (fun c fz e => by injection e with _ e; exact absurd e (by decide))
theorem WAt.lt {w0 w : World} {b : Nat} {out : List UInt8} (h : WAt w0 w b out) : b < w.heap.size := h.bld.elim (fun x => x.lt) (fun x => x.lt)
theorem weigh_mem : ∀ {l : List DT} {left op r : Nat}, weighL l left op = some r → ∀ x ∈ l, ∃ left' op' r', weighD x left' op' = some r'
 | [], _, _, _, _, x, hx => by cases hx
 | d :: l, left, op, r, h, x, hx => by
  rw [weighL] at h
  cases hd : weighD d left op with
  | none => rw [hd] at h; cases h
  | some q =>
   rw [hd] at h
   rcases List.mem_cons.1 hx with rfl | hx
   ·exact ⟨left, op, q, hd⟩
   ·exact weigh_mem h x hx
set_option maxHeartbeats 8000000 in
theorem writeAll_list (x : DT) (hx : OkD x) (hk : x.f0 = 4) (left op r : Nat) (hw : weighL x.f4 left op = some r) (hns : ∀ s ∈ x.f3, namedS true s.data.toList = true) (hnl : True) (ih : ∀ y ∈ x.f4, writeC y) (b : Nat) (out : List UInt8) (w0 w : World) (hgl : GL w0) (A3 : Option Addr) (c3 : Nat) (A4 : Option Addr) (c4 : Nat) (l3 : x.f3.length ≤ c3) (g3 : Kd.string.C w0 A3 x.f3.length x.f3) (l4 : x.f4.length ≤ c4) (g4 : k25.C w0 A4 x.f4.length x.f4) (hl : out.length + (printL false x.f3 x.f4).length + 2 ≤ 2000000000) (h : WAt w0 w b out) :
  Calls Tryz.prog 49 #[.pointer (some ⟨b, 0, none⟩), aggD x A3 c3 A4 c4, .string ⟨#[91]⟩, .string ⟨#[93]⟩] w (writeP w0 w b (out ++ (91 :: (printL false x.f3 x.f4 ++ [93])))) := by
 have HA := Aside0.mk (h.below (below_alloc (Below.refl _ w) (dBox x A3 c3 A4 c4)))
 have HK := Aside0.mk (kept_of_below (e := 5) (b := some b) (below_alloc (Below.refl _ w) (dBox x A3 c3 A4 c4)))
 have HBX := Aside0.mk (heap_alloc_new w (dBox x A3 c3 A4 c4))
 have hbw : b < w.heap.size := h.lt
 have HG := Aside0.mk hgl
 have H3 := Aside0.mk g3
 have H4 := Aside0.mk g4
 have IH := Aside0.mk ih
 have HW := Aside0.mk hw
 have HNS := Aside0.mk hns
 have HNL := Aside0.mk hnl
 have hN3 : x.f3.length ≤ 140737488351232 := hx.out.2.2.2.1
 have hN4 : x.f4.length ≤ 140737488351232 := hx.out.2.2.2.2.2.1
 have HC : Aside0 (Calls Tryz.prog 46 #[.pointer (some ⟨b, 0, none⟩), .string ⟨#[91]⟩] (w.alloc (dBox x A3 c3 A4 c4)) fun e w' => e = .returned (.tuple #[.int .i64 1, .nilIface]) ∧ WAt w0 w' b (out ++ [91]) ∧ Lib.OthersKept 5 (some b) (w.alloc (dBox x A3 c3 A4 c4)) w') := ⟨wstr_c w0 _ b out ⟨#[91]⟩ HA.out (by show out.length + 1 ≤ _; omega)⟩
 have HKD := Aside0.mk hk
 have hkb : (x.f0 == 5) = false := by rw [hk]; rfl
 have HL := Aside0.mk hl
 clear h hgl g3 g4 ih hw hns hnl hk hx
 go_enter Tryz.func49, Tryz.ntmps49
 go_wp2_with (go_at_call 46; go_loud (with_reducible refine HC.out.mono ?_); rintro e w1 ⟨rfl, h5, hk5⟩; have H1 := Aside0.mk h5; have HK1 := Aside0.mk hk5; have HBX1 := kept_blk hk5 HBX.out (by omega); have b4 := (blk_cell HBX1 4).trans rfl; clear h5 hk5 HBX1)
 go_loopg [16] x.f4.length (fun gk i wr => ∃ k : Nat, k ≤ x.f4.length ∧ i = .int .i64 k ∧ Aside0 (k + gk = x.f4.length ∧ ∃ acc : List UInt8, WAt w0 wr b acc ∧ acc ++ restS false k (x.f3.drop k) (x.f4.drop k) = out ++ (91 :: printL false x.f3 x.f4) ∧ Lib.OthersKept 5 (some b) (w.alloc (dBox x A3 c3 A4 c4)) wr))
 case atStart => exact ⟨0, by omega, rfl, ⟨by omega, _, H1.out, by rw [List.drop_zero, List.drop_zero]; show out ++ [91] ++ printL false x.f3 x.f4 = _; simp, HK1.out⟩⟩
 case round =>
  clear b4 HC H1 HK1
  obtain ⟨k, hk, rfl, HV⟩ := hrel
  obtain ⟨hkg, acc, hA, hE, hK⟩ := HV.out
  have HAT := Aside0.mk hA
  have HE := Aside0.mk hE
  have HKK := Aside0.mk hK
  have HN := Aside0.mk hkg
  have hBR := kept_blk hK HBX.out (by omega)
  have HBR := Aside0.mk hBR
  have hbl := hA.lt
  clear HV hkg hA hE hK hBR
  by_cases hlt : k < x.f4.length
  ·obtain ⟨ad, A3q, c3q, A4q, c4q, hA4, a0, a1, a2, a3, a4, hl3, hC3, hl4, hC4⟩ := at_T25 H4.out (k : Int) (by omega) (by omega)
   obtain ⟨y, hy⟩ : ∃ y, y = rd_T25 x.f4 (k : Int) := ⟨_, rfl⟩
   have HTK := Aside0.mk (rd_take x.f4 k hlt)
   rw [← hy] at a0 a1 a2 a3 a4 hl3 hC3 hl4 hC4 HTK
   have HDR := Aside0.mk (show x.f4.drop k = y :: x.f4.drop (k + 1) by
    rw [List.drop_eq_getElem_cons hlt]
    congr 1
    rw [hy]
    unfold rd_T25
    rw [Int.toNat_natCast, List.getD_eq_getElem?_getD, List.getElem?_eq_getElem hlt]
    rfl)
   clear hy
   subst hA4
   rw [Int.toNat_natCast] at a0 a1 a2 a3 a4
   replace a0 := pw_cell_below HAT.out.bel a0
   replace a1 := pw_cell_below HAT.out.bel a1
   replace a2 := pw_cell_below HAT.out.bel a2
   replace a3 := pw_cell_below HAT.out.bel a3
   replace a4 := pw_cell_below HAT.out.bel a4
   obtain ⟨l', o', r', hwy⟩ := weigh_mem HW.out y HTK.out.1
   have HYC := Aside0.mk (IH.out y HTK.out.1 l' o' r' hwy b)
   have HD3 := Aside0.mk (And.intro (And.intro hl3 hC3) (And.intro hl4 hC4))
   clear hl3 hC3 hl4 hC4 hwy
   have HEQ := Aside0.mk (show acc ++ (((if k = 0 then [] else [44]) ++ (if false then (x.f3.getD k em).data.toList ++ [61] else [])) ++ (printD y ++ restS false (k + 1) (x.f3.drop (k + 1)) (x.f4.drop (k + 1)))) = out ++ (91 :: printL false x.f3 x.f4) by
    have h := HE.out
    rw [HDR.out, restS_cons, head_drop, tail_drop] at h
    exact h)
   have HWA := Aside0.mk (HAT.out.below (below_alloc (Below.refl _ wr) (dBox y A3q c3q A4q c4q)))
   have HKA := Aside0.mk (kept_of_below (e := 5) (b := some b) (below_alloc (Below.refl _ wr) (dBox y A3q c3q A4q c4q)))
   have HXA := Aside0.mk (heap_alloc_new wr (dBox y A3q c3q A4q c4q))
   have HBA := Aside0.mk (((below_alloc (Below.refl _ wr) (dBox y A3q c3q A4q c4q)).block _ (blk_lt HBR.out)).trans HBR.out)
   have hlen : acc.length + (((if k = 0 then ([] : List UInt8) else [44]) ++ (if false then (x.f3.getD k em).data.toList ++ [61] else ([] : List UInt8))).length + (printD y).length) ≤ 2000000000 := by
    have h2 := HL.out
    have h := HEQ.out
    revert h
    generalize ((if k = 0 then ([] : List UInt8) else [44]) ++ (if false then (x.f3.getD k em).data.toList ++ [61] else ([] : List UInt8))) = pre
    intro h
    have h := congrArg List.length h
    simp only [List.length_append, List.length_cons] at h
    omega
   by_cases hk0 : k = 0
   ·subst hk0
    rw [Nat.zero_mul, Addr.add_zero'] at a0
    simp only [Nat.zero_mul, Addr.add_zero'] at a1 a2 a3 a4
    rw [if_pos rfl] at HEQ hlen
    rw [if_neg (by decide)] at HEQ hlen
    simp only [List.length_nil, List.length_cons, List.length_append] at hlen
    have HNM := HBA.out
    have g0 := (blk_cell HNM 0).trans rfl
    have g3 := (blk_cell HNM 3).trans rfl
    clear HNM
    go_wp2_with (first | (go_at_call 26; go_loud (with_reducible refine (HYC.out _ w0 _ HG.out A3q c3q A4q c4q HD3.out.1.1 HD3.out.1.2 HD3.out.2.1 HD3.out.2.2 (by omega) HWA.out).mono ?_); rintro e w8 ⟨rfl, h8, h8b, h8k⟩; have H8 := Aside0.mk (WAt.mk h8 h8b); have HK8 := Aside0.mk (HKA.out.trans h8k); clear h8 h8b h8k))
    go_roundg (gk - 1)
    case measure => have := HN.out; omega
    case rel => exact ⟨1, by omega, by go_num, ⟨by have := HN.out; omega, _, H8.out, by have h := HEQ.out; simp only [List.append_assoc, List.nil_append, List.append_nil] at h ⊢; exact h, HKK.out.trans HK8.out⟩⟩
   ·have hk1 : 0 < k := by omega
    rw [if_neg hk0] at HEQ hlen
    rw [if_neg (by decide)] at HEQ hlen
    simp only [List.length_nil, List.length_cons, List.length_append] at hlen
    have HWB : Aside0 (Calls Tryz.prog 69 #[.pointer (some ⟨b, 0, none⟩), .int .u8 44] (wr.alloc (dBox y A3q c3q A4q c4q)) fun e w' => e = .returned .nilIface ∧ WAt w0 w' b (acc ++ [44]) ∧ Lib.OthersKept 5 (some b) (wr.alloc (dBox y A3q c3q A4q c4q)) w') := ⟨wbyte_c w0 _ b acc 44 HWA.out (by omega)⟩
    go_wp2_with (first | (go_at_call 69; go_loud (with_reducible refine HWB.out.mono ?_); rintro e w5 ⟨rfl, h5, hk5⟩; have H5 := Aside0.mk h5; have HK5 := Aside0.mk (HKA.out.trans hk5); have HX5 := kept_blk hk5 HXA.out (by omega); have HB5 := kept_blk hk5 HBA.out (by omega); have HXX := Aside0.mk HX5; have HBB := Aside0.mk HB5; have g0 := (blk_cell HB5 0).trans rfl; have g3 := (blk_cell HB5 3).trans rfl; have x0 := (blk_cell HX5 0).trans rfl; have x1 := (blk_cell HX5 1).trans rfl; have x2 := (blk_cell HX5 2).trans rfl; have x3 := (blk_cell HX5 3).trans rfl; have x4 := (blk_cell HX5 4).trans rfl; clear h5 hk5 HX5 HB5) | (go_at_call 26; go_loud (with_reducible refine (HYC.out _ w0 w5 HG.out A3q c3q A4q c4q HD3.out.1.1 HD3.out.1.2 HD3.out.2.1 HD3.out.2.2 (by (try simp only [List.length_append, List.length_cons, List.length_nil]); omega) H5.out).mono ?_); rintro e w8 ⟨rfl, h8, h8b, h8k⟩; have H8 := Aside0.mk (WAt.mk h8 h8b); have HK8 := Aside0.mk (HK5.out.trans h8k); clear h8 h8b h8k))
    go_roundg (gk - 1)
    case measure => have := HN.out; omega
    case rel => exact ⟨k + 1, by omega, by go_num, ⟨by have := HN.out; omega, _, H8.out, by have h := HEQ.out; simp only [List.append_assoc, List.nil_append, List.append_nil] at h ⊢; exact h, HKK.out.trans HK8.out⟩⟩
  ·have hacc : acc = out ++ (91 :: printL false x.f3 x.f4) := by
    have h := HE.out
    rw [List.drop_of_length_le (by omega : x.f4.length ≤ k), restS_nil, List.append_nil] at h
    exact h
   have HAC := Aside0.mk hacc
   have HC2 : Aside0 (Calls Tryz.prog 46 #[.pointer (some ⟨b, 0, none⟩), .string ⟨#[93]⟩] wr fun e w' => e = .returned (.tuple #[.int .i64 1, .nilIface]) ∧ WAt w0 w' b (acc ++ [93]) ∧ Lib.OthersKept 5 (some b) wr w') := ⟨wstr_c w0 _ b acc ⟨#[93]⟩ HAT.out (by rw [hacc]; have := HL.out; show (out ++ (91 :: printL false x.f3 x.f4)).length + 1 ≤ _; simp only [List.length_append, List.length_cons]; omega)⟩
   clear hacc
   go_wp2_with (go_at_call 46; go_loud (with_reducible refine HC2.out.mono ?_); rintro e w9 ⟨rfl, h9, hk9⟩; have H9 := Aside0.mk h9; have HK9 := Aside0.mk hk9; clear h9 hk9)
   (try simp only [Exit.inBlock, Exit.then])
   refine bodyPost_ret (results_none rfl _ _ _) rfl ?_
   have h9 := H9.out
   rw [HAC.out] at h9
   rw [show out ++ (91 :: (printL false x.f3 x.f4 ++ [93])) = out ++ (91 :: printL false x.f3 x.f4) ++ [93] by simp]
   exact ⟨rfl, h9.bld, h9.bel, (HK.out.trans HKK.out).trans HK9.out⟩
set_option maxHeartbeats 8000000 in
theorem writeAll_rec (x : DT) (hx : OkD x) (hk : x.f0 = 5) (left op r : Nat) (hw : weighL x.f4 left op = some r) (hns : ∀ s ∈ x.f3, namedS true s.data.toList = true) (hnl : x.f3.length = x.f4.length) (ih : ∀ y ∈ x.f4, writeC y) (b : Nat) (out : List UInt8) (w0 w : World) (hgl : GL w0) (A3 : Option Addr) (c3 : Nat) (A4 : Option Addr) (c4 : Nat) (l3 : x.f3.length ≤ c3) (g3 : Kd.string.C w0 A3 x.f3.length x.f3) (l4 : x.f4.length ≤ c4) (g4 : k25.C w0 A4 x.f4.length x.f4) (hl : out.length + (printL true x.f3 x.f4).length + 2 ≤ 2000000000) (h : WAt w0 w b out) :
  Calls Tryz.prog 49 #[.pointer (some ⟨b, 0, none⟩), aggD x A3 c3 A4 c4, .string ⟨#[123]⟩, .string ⟨#[125]⟩] w (writeP w0 w b (out ++ (123 :: (printL true x.f3 x.f4 ++ [125])))) := by
 have HA := Aside0.mk (h.below (below_alloc (Below.refl _ w) (dBox x A3 c3 A4 c4)))
 have HK := Aside0.mk (kept_of_below (e := 5) (b := some b) (below_alloc (Below.refl _ w) (dBox x A3 c3 A4 c4)))
 have HBX := Aside0.mk (heap_alloc_new w (dBox x A3 c3 A4 c4))
 have hbw : b < w.heap.size := h.lt
 have HG := Aside0.mk hgl
 have H3 := Aside0.mk g3
 have H4 := Aside0.mk g4
 have IH := Aside0.mk ih
 have HW := Aside0.mk hw
 have HNS := Aside0.mk hns
 have HNL := Aside0.mk hnl
 have hN3 : x.f3.length ≤ 140737488351232 := hx.out.2.2.2.1
 have hN4 : x.f4.length ≤ 140737488351232 := hx.out.2.2.2.2.2.1
 have HC : Aside0 (Calls Tryz.prog 46 #[.pointer (some ⟨b, 0, none⟩), .string ⟨#[123]⟩] (w.alloc (dBox x A3 c3 A4 c4)) fun e w' => e = .returned (.tuple #[.int .i64 1, .nilIface]) ∧ WAt w0 w' b (out ++ [123]) ∧ Lib.OthersKept 5 (some b) (w.alloc (dBox x A3 c3 A4 c4)) w') := ⟨wstr_c w0 _ b out ⟨#[123]⟩ HA.out (by show out.length + 1 ≤ _; omega)⟩
 have HKD := Aside0.mk hk
 have hkb : (x.f0 == 5) = true := by rw [hk]; rfl
 have HL := Aside0.mk hl
 clear h hgl g3 g4 ih hw hns hnl hk hx
 go_enter Tryz.func49, Tryz.ntmps49
 go_wp2_with (go_at_call 46; go_loud (with_reducible refine HC.out.mono ?_); rintro e w1 ⟨rfl, h5, hk5⟩; have H1 := Aside0.mk h5; have HK1 := Aside0.mk hk5; have HBX1 := kept_blk hk5 HBX.out (by omega); have b4 := (blk_cell HBX1 4).trans rfl; clear h5 hk5 HBX1)
 go_loopg [16] x.f4.length (fun gk i wr => ∃ k : Nat, k ≤ x.f4.length ∧ i = .int .i64 k ∧ Aside0 (k + gk = x.f4.length ∧ ∃ acc : List UInt8, WAt w0 wr b acc ∧ acc ++ restS true k (x.f3.drop k) (x.f4.drop k) = out ++ (123 :: printL true x.f3 x.f4) ∧ Lib.OthersKept 5 (some b) (w.alloc (dBox x A3 c3 A4 c4)) wr))
 case atStart => exact ⟨0, by omega, rfl, ⟨by omega, _, H1.out, by rw [List.drop_zero, List.drop_zero]; show out ++ [123] ++ printL true x.f3 x.f4 = _; simp, HK1.out⟩⟩
 case round =>
  clear b4 HC H1 HK1
  obtain ⟨k, hk, rfl, HV⟩ := hrel
  obtain ⟨hkg, acc, hA, hE, hK⟩ := HV.out
  have HAT := Aside0.mk hA
  have HE := Aside0.mk hE
  have HKK := Aside0.mk hK
  have HN := Aside0.mk hkg
  have hBR := kept_blk hK HBX.out (by omega)
  have HBR := Aside0.mk hBR
  have hbl := hA.lt
  clear HV hkg hA hE hK hBR
  by_cases hlt : k < x.f4.length
  ·obtain ⟨ad, A3q, c3q, A4q, c4q, hA4, a0, a1, a2, a3, a4, hl3, hC3, hl4, hC4⟩ := at_T25 H4.out (k : Int) (by omega) (by omega)
   obtain ⟨y, hy⟩ : ∃ y, y = rd_T25 x.f4 (k : Int) := ⟨_, rfl⟩
   have HTK := Aside0.mk (rd_take x.f4 k hlt)
   rw [← hy] at a0 a1 a2 a3 a4 hl3 hC3 hl4 hC4 HTK
   have HDR := Aside0.mk (show x.f4.drop k = y :: x.f4.drop (k + 1) by
    rw [List.drop_eq_getElem_cons hlt]
    congr 1
    rw [hy]
    unfold rd_T25
    rw [Int.toNat_natCast, List.getD_eq_getElem?_getD, List.getElem?_eq_getElem hlt]
    rfl)
   clear hy
   subst hA4
   rw [Int.toNat_natCast] at a0 a1 a2 a3 a4
   replace a0 := pw_cell_below HAT.out.bel a0
   replace a1 := pw_cell_below HAT.out.bel a1
   replace a2 := pw_cell_below HAT.out.bel a2
   replace a3 := pw_cell_below HAT.out.bel a3
   replace a4 := pw_cell_below HAT.out.bel a4
   obtain ⟨l', o', r', hwy⟩ := weigh_mem HW.out y HTK.out.1
   have HYC := Aside0.mk (IH.out y HTK.out.1 l' o' r' hwy b)
   have HD3 := Aside0.mk (And.intro (And.intro hl3 hC3) (And.intro hl4 hC4))
   clear hl3 hC3 hl4 hC4 hwy
   have HEQ := Aside0.mk (show acc ++ (((if k = 0 then [] else [44]) ++ (if true then (x.f3.getD k em).data.toList ++ [61] else [])) ++ (printD y ++ restS true (k + 1) (x.f3.drop (k + 1)) (x.f4.drop (k + 1)))) = out ++ (123 :: printL true x.f3 x.f4) by
    have h := HE.out
    rw [HDR.out, restS_cons, head_drop, tail_drop] at h
    exact h)
   have HWA := Aside0.mk (HAT.out.below (below_alloc (Below.refl _ wr) (dBox y A3q c3q A4q c4q)))
   have HKA := Aside0.mk (kept_of_below (e := 5) (b := some b) (below_alloc (Below.refl _ wr) (dBox y A3q c3q A4q c4q)))
   have HXA := Aside0.mk (heap_alloc_new wr (dBox y A3q c3q A4q c4q))
   have HBA := Aside0.mk (((below_alloc (Below.refl _ wr) (dBox y A3q c3q A4q c4q)).block _ (blk_lt HBR.out)).trans HBR.out)
   have hlen : acc.length + (((if k = 0 then ([] : List UInt8) else [44]) ++ (if true then (x.f3.getD k em).data.toList ++ [61] else ([] : List UInt8))).length + (printD y).length) ≤ 2000000000 := by
    have h2 := HL.out
    have h := HEQ.out
    revert h
    generalize ((if k = 0 then ([] : List UInt8) else [44]) ++ (if true then (x.f3.getD k em).data.toList ++ [61] else ([] : List UInt8))) = pre
    intro h
    have h := congrArg List.length h
    simp only [List.length_append, List.length_cons] at h
    omega
   obtain ⟨adn, hadn, qn⟩ := Kd.at_string H3.out (k : Int) (by omega) (by have := HNL.out; omega)
   rw [Int.toNat_natCast, get_rdOf] at qn
   obtain ⟨nm, hnm⟩ : ∃ nm, nm = x.f3.getD k em := ⟨_, rfl⟩
   rw [← hnm] at qn HEQ hlen
   have hnl32 : nm.size ≤ 32 := by
    have hm : nm ∈ x.f3 := by
     rw [hnm, List.getD_eq_getElem?_getD, List.getElem?_eq_getElem (by have := HNL.out; omega)]
     exact List.getElem_mem _
    have := named_len (HNS.out nm hm)
    rw [Array.length_toList] at this
    exact this
   subst hadn
   have HQN := Aside0.mk qn
   have hk3 : k < x.f3.length := by have := HNL.out; omega
   have s1 : nm ++ (⟨#[61]⟩ : ByteArray) = mkB (nm.data.toList ++ [61]) := catB nm.data.toList [61]
   have HWS : Aside0 (∀ W a2, a2.length + (nm.data.toList.length + 1) ≤ 2000000000 → WAt w0 W b a2 → Calls Tryz.prog 46 #[.pointer (some ⟨b, 0, none⟩), .string (nm ++ (⟨#[61]⟩ : ByteArray))] W fun e w' => e = .returned (.tuple #[.int .i64 ((mkB (nm.data.toList ++ [61])).size : Int), .nilIface]) ∧ WAt w0 w' b (a2 ++ (nm.data.toList ++ [61])) ∧ Lib.OthersKept 5 (some b) W w') := ⟨fun W a2 hq hW => by
    rw [s1]
    exact wstr_c w0 W b a2 (mkB (nm.data.toList ++ [61])) hW (by rw [mkB_size]; simp only [List.length_append, List.length_singleton]; omega)⟩
   clear hnm qn s1
   by_cases hk0 : k = 0
   ·subst hk0
    rw [Nat.zero_mul, Addr.add_zero'] at a0
    simp only [Nat.zero_mul, Addr.add_zero'] at a1 a2 a3 a4
    rw [if_pos rfl] at HEQ hlen
    rw [Addr.add_zero'] at HQN
    rw [if_pos rfl] at HEQ hlen
    simp only [List.length_nil, List.length_cons, List.length_append] at hlen
    have HNM := HBA.out
    have g0 := (blk_cell HNM 0).trans rfl
    have g3 := (blk_cell HNM 3).trans rfl
    have qn5 := pw_cell_below HWA.out.bel HQN.out
    clear HNM
    go_wp2_with (first | (go_at_call 46; go_loud (with_reducible refine (HWS.out _ (acc) (by (try simp only [List.length_append, List.length_cons, List.length_nil]); omega) HWA.out).mono ?_); rintro e w6 ⟨rfl, h6, hk6⟩; have H6 := Aside0.mk h6; have HK6 := Aside0.mk (HKA.out.trans hk6); have HX6 := kept_blk hk6 HXA.out (by omega); have x0 := (blk_cell HX6 0).trans rfl; have x1 := (blk_cell HX6 1).trans rfl; have x2 := (blk_cell HX6 2).trans rfl; have x3 := (blk_cell HX6 3).trans rfl; have x4 := (blk_cell HX6 4).trans rfl; clear h6 hk6 HX6) | (go_at_call 26; go_loud (with_reducible refine (HYC.out _ w0 w6 HG.out A3q c3q A4q c4q HD3.out.1.1 HD3.out.1.2 HD3.out.2.1 HD3.out.2.2 (by (try simp only [List.length_append, List.length_cons, List.length_nil]); omega) H6.out).mono ?_); rintro e w8 ⟨rfl, h8, h8b, h8k⟩; have H8 := Aside0.mk (WAt.mk h8 h8b); have HK8 := Aside0.mk (HK6.out.trans h8k); clear h8 h8b h8k))
    go_roundg (gk - 1)
    case measure => have := HN.out; omega
    case rel => exact ⟨1, by omega, by go_num, ⟨by have := HN.out; omega, _, H8.out, by have h := HEQ.out; simp only [List.append_assoc, List.nil_append, List.append_nil] at h ⊢; exact h, HKK.out.trans HK8.out⟩⟩
   ·have hk1 : 0 < k := by omega
    rw [if_neg hk0] at HEQ hlen
    rw [if_pos rfl] at HEQ hlen
    simp only [List.length_nil, List.length_cons, List.length_append] at hlen
    have HWB : Aside0 (Calls Tryz.prog 69 #[.pointer (some ⟨b, 0, none⟩), .int .u8 44] (wr.alloc (dBox y A3q c3q A4q c4q)) fun e w' => e = .returned .nilIface ∧ WAt w0 w' b (acc ++ [44]) ∧ Lib.OthersKept 5 (some b) (wr.alloc (dBox y A3q c3q A4q c4q)) w') := ⟨wbyte_c w0 _ b acc 44 HWA.out (by omega)⟩
    go_wp2_with (first | (go_at_call 69; go_loud (with_reducible refine HWB.out.mono ?_); rintro e w5 ⟨rfl, h5, hk5⟩; have H5 := Aside0.mk h5; have HK5 := Aside0.mk (HKA.out.trans hk5); have HX5 := kept_blk hk5 HXA.out (by omega); have HB5 := kept_blk hk5 HBA.out (by omega); have HXX := Aside0.mk HX5; have HBB := Aside0.mk HB5; have g0 := (blk_cell HB5 0).trans rfl; have g3 := (blk_cell HB5 3).trans rfl; have qn5 := pw_cell_below h5.bel HQN.out; clear h5 hk5 HX5 HB5) | (go_at_call 46; go_loud (with_reducible refine (HWS.out _ (acc ++ [44]) (by (try simp only [List.length_append, List.length_cons, List.length_nil]); omega) H5.out).mono ?_); rintro e w6 ⟨rfl, h6, hk6⟩; have H6 := Aside0.mk h6; have HK6 := Aside0.mk (HK5.out.trans hk6); have HX6 := kept_blk hk6 HXX.out (by omega); have x0 := (blk_cell HX6 0).trans rfl; have x1 := (blk_cell HX6 1).trans rfl; have x2 := (blk_cell HX6 2).trans rfl; have x3 := (blk_cell HX6 3).trans rfl; have x4 := (blk_cell HX6 4).trans rfl; clear h6 hk6 HX6) | (go_at_call 26; go_loud (with_reducible refine (HYC.out _ w0 w6 HG.out A3q c3q A4q c4q HD3.out.1.1 HD3.out.1.2 HD3.out.2.1 HD3.out.2.2 (by (try simp only [List.length_append, List.length_cons, List.length_nil]); omega) H6.out).mono ?_); rintro e w8 ⟨rfl, h8, h8b, h8k⟩; have H8 := Aside0.mk (WAt.mk h8 h8b); have HK8 := Aside0.mk (HK6.out.trans h8k); clear h8 h8b h8k))
    go_roundg (gk - 1)
    case measure => have := HN.out; omega
    case rel => exact ⟨k + 1, by omega, by go_num, ⟨by have := HN.out; omega, _, H8.out, by have h := HEQ.out; simp only [List.append_assoc, List.nil_append, List.append_nil] at h ⊢; exact h, HKK.out.trans HK8.out⟩⟩
  ·have hacc : acc = out ++ (123 :: printL true x.f3 x.f4) := by
    have h := HE.out
    rw [List.drop_of_length_le (by omega : x.f4.length ≤ k), restS_nil, List.append_nil] at h
    exact h
   have HAC := Aside0.mk hacc
   have HC2 : Aside0 (Calls Tryz.prog 46 #[.pointer (some ⟨b, 0, none⟩), .string ⟨#[125]⟩] wr fun e w' => e = .returned (.tuple #[.int .i64 1, .nilIface]) ∧ WAt w0 w' b (acc ++ [125]) ∧ Lib.OthersKept 5 (some b) wr w') := ⟨wstr_c w0 _ b acc ⟨#[125]⟩ HAT.out (by rw [hacc]; have := HL.out; show (out ++ (123 :: printL true x.f3 x.f4)).length + 1 ≤ _; simp only [List.length_append, List.length_cons]; omega)⟩
   clear hacc
   go_wp2_with (go_at_call 46; go_loud (with_reducible refine HC2.out.mono ?_); rintro e w9 ⟨rfl, h9, hk9⟩; have H9 := Aside0.mk h9; have HK9 := Aside0.mk hk9; clear h9 hk9)
   (try simp only [Exit.inBlock, Exit.then])
   refine bodyPost_ret (results_none rfl _ _ _) rfl ?_
   have h9 := H9.out
   rw [HAC.out] at h9
   rw [show out ++ (123 :: (printL true x.f3 x.f4 ++ [125])) = out ++ (123 :: printL true x.f3 x.f4) ++ [125] by simp]
   exact ⟨rfl, h9.bld, h9.bel, (HK.out.trans HKK.out).trans HK9.out⟩
end Go.Proofs.YtidcecpbihmloaaGreatDoorE

namespace Go.Proofs.YtidcecpbihmloaaGreatDoorE
open Go Go.RowKit Go.Proofs.YtidcecpbihmloaaGreatDoorW.PrintWords Go.Proofs.YtidcecpbihmloaaGreatDoorW.PrintMore Go.Proofs.YtidcecpbihmloaaGreatDoorW.PrintLast Go.Proofs.YtidcecpbihmloaaGreatDoorX Go.Proofs.YtidcecpbihmloaaGreatDoor.P16 Go.Proofs.YtidcecpbihmloaaGreatDoor.M02
set_option linter.unusedVariables false
set_option linter.unusedSimpArgs false
set_option maxRecDepth 100000
set_option maxHeartbeats 4000000 in
theorem write_list (x : DT) (hx : OkD x) (hk : x.f0 = 4) (left op r : Nat) (hw : weighL x.f4 left op = some r) (hns : ∀ s ∈ x.f3, namedS true s.data.toList = true) (hnl : True) (ih : ∀ y ∈ x.f4, writeC y) (b : Nat) (out : List UInt8) (w0 w : World) (hgl : GL w0) (A3 : Option Addr) (c3 : Nat) (A4 : Option Addr) (c4 : Nat) (l3 : x.f3.length ≤ c3) (g3 : Kd.string.C w0 A3 x.f3.length x.f3) (l4 : x.f4.length ≤ c4) (g4 : k25.C w0 A4 x.f4.length x.f4) (hl : out.length + (printL false x.f3 x.f4).length + 2 ≤ 2000000000) (h : WAt w0 w b out) :
  Calls Tryz.prog 26 #[.pointer (some ⟨b, 0, none⟩), aggD x A3 c3 A4 c4] w (writeP w0 w b (out ++ (91 :: (printL false x.f3 x.f4 ++ [93])))) := by
 have HA := Aside0.mk (h.below (below_alloc (Below.refl _ w) (dBox x A3 c3 A4 c4)))
 have HK := Aside0.mk (kept_of_below (e := 5) (b := some b) (below_alloc (Below.refl _ w) (dBox x A3 c3 A4 c4)))
 have HC := Aside0.mk (writeAll_list x hx hk left op r hw hns hnl ih b out w0 _ hgl A3 c3 A4 c4 l3 g3 l4 g4 hl HA.out)
 clear h hgl hx ih hw hns hnl g3 g4
 have k0 : (x.f0 == 0) = false := by rw [hk]; rfl
 have k1 : (x.f0 == 1) = false := by rw [hk]; rfl
 have k2 : (x.f0 == 2) = false := by rw [hk]; rfl
 have k3 : (x.f0 == 3) = false := by rw [hk]; rfl
 have k4 : (x.f0 == 4) = true := by rw [hk]; rfl
 have k5 : (x.f0 == 5) = false := by rw [hk]; rfl
 clear hk
 go_enter Tryz.func26, Tryz.ntmps26
 go_wp2_with (go_at_call 49; go_loud (with_reducible refine HC.out.mono ?_); rintro e w5 ⟨rfl, h5, hb5, hk5⟩; have H5 := Aside0.mk h5; have HB5 := Aside0.mk hb5; have HK5 := Aside0.mk hk5; clear h5 hb5 hk5)
 (try simp only [Exit.inBlock, Exit.then])
 refine bodyPost_ret (results_none rfl _ _ _) rfl ?_
 exact ⟨rfl, H5.out, HB5.out, HK.out.trans HK5.out⟩
set_option maxHeartbeats 4000000 in
theorem write_rec (x : DT) (hx : OkD x) (hk : x.f0 = 5) (left op r : Nat) (hw : weighL x.f4 left op = some r) (hns : ∀ s ∈ x.f3, namedS true s.data.toList = true) (hnl : x.f3.length = x.f4.length) (ih : ∀ y ∈ x.f4, writeC y) (b : Nat) (out : List UInt8) (w0 w : World) (hgl : GL w0) (A3 : Option Addr) (c3 : Nat) (A4 : Option Addr) (c4 : Nat) (l3 : x.f3.length ≤ c3) (g3 : Kd.string.C w0 A3 x.f3.length x.f3) (l4 : x.f4.length ≤ c4) (g4 : k25.C w0 A4 x.f4.length x.f4) (hl : out.length + (printL true x.f3 x.f4).length + 2 ≤ 2000000000) (h : WAt w0 w b out) :
  Calls Tryz.prog 26 #[.pointer (some ⟨b, 0, none⟩), aggD x A3 c3 A4 c4] w (writeP w0 w b (out ++ (123 :: (printL true x.f3 x.f4 ++ [125])))) := by
 have HA := Aside0.mk (h.below (below_alloc (Below.refl _ w) (dBox x A3 c3 A4 c4)))
 have HK := Aside0.mk (kept_of_below (e := 5) (b := some b) (below_alloc (Below.refl _ w) (dBox x A3 c3 A4 c4)))
 have HC := Aside0.mk (writeAll_rec x hx hk left op r hw hns hnl ih b out w0 _ hgl A3 c3 A4 c4 l3 g3 l4 g4 hl HA.out)
 clear h hgl hx ih hw hns hnl g3 g4
 have k0 : (x.f0 == 0) = false := by rw [hk]; rfl
 have k1 : (x.f0 == 1) = false := by rw [hk]; rfl
 have k2 : (x.f0 == 2) = false := by rw [hk]; rfl
 have k3 : (x.f0 == 3) = false := by rw [hk]; rfl
 have k4 : (x.f0 == 4) = false := by rw [hk]; rfl
 have k5 : (x.f0 == 5) = true := by rw [hk]; rfl
 clear hk
 go_enter Tryz.func26, Tryz.ntmps26
 go_wp2_with (go_at_call 49; go_loud (with_reducible refine HC.out.mono ?_); rintro e w5 ⟨rfl, h5, hb5, hk5⟩; have H5 := Aside0.mk h5; have HB5 := Aside0.mk hb5; have HK5 := Aside0.mk hk5; clear h5 hb5 hk5)
 (try simp only [Exit.inBlock, Exit.then])
 refine bodyPost_ret (results_none rfl _ _ _) rfl ?_
 exact ⟨rfl, H5.out, HB5.out, HK.out.trans HK5.out⟩
theorem write_c (x : DT) (hx : OkD x) : writeC x := by
 induction hx with
 | mk x h0 h1 h2 n3 h3 n4 h4 ih =>
  have hx : OkD x := .mk x h0 h1 h2 n3 h3 n4 h4
  intro left op r hw b out w0 w hgl A3 c3 A4 c4 l3 g3 l4 g4 hl h
  obtain ⟨hL, hp, -, hnm, hwl⟩ := weigh_plain hw
  have hns := names_all hnm
  have hpc : printD x = if x.f0 = 0 then [110, 111, 110, 101] else if x.f0 = 1 then (if x.f1 = 1 then [121, 101, 115] else [110, 111]) else if x.f0 = 2 then Lib.itoa x.f1
    else if x.f0 = 3 then 34 :: (escS x.f2.data.toList ++ [34])
    else if x.f0 = 4 then 91 :: (printL false [] x.f4 ++ [93]) else 123 :: (printL true x.f3 x.f4 ++ [125]) := by
   rcases x with ⟨_, _, _, _, _⟩
   rw [printD]
  have hpl : plainD ⟨x.f0, x.f1, x.f2, x.f3, x.f4⟩ = true := hp
  rcases plain_cases hpl with ⟨e0, _, _, _, _⟩ | ⟨e0, e1, _, _, _⟩ | ⟨e0, _, _, _⟩ | ⟨e0, _, _, _, hs⟩ | ⟨e0, _, _, e3⟩ | ⟨e0, _, _, e3⟩
  ·have e : printD x = [110, 111, 110, 101] := by rw [hpc, if_pos e0]
   rw [e] at hl ⊢
   exact write_none x e0 b out w0 w hgl A3 c3 A4 c4 (by simpa using hl) h
  ·rcases e1 with e1 | e1
   ·have e : printD x = [110, 111] := by rw [hpc, e0, e1]; rfl
    rw [e] at hl ⊢
    exact write_truth0 x e0 e1 b out w0 w hgl A3 c3 A4 c4 (by simpa using hl) h
   ·have e : printD x = [121, 101, 115] := by rw [hpc, e0, e1]; rfl
    rw [e] at hl ⊢
    exact write_truth1 x e0 e1 b out w0 w hgl A3 c3 A4 c4 (by simpa using hl) h
  ·have e : printD x = Lib.itoa x.f1 := by rw [hpc, e0]; rfl
   rw [e] at hl ⊢
   exact write_num x e0 h1 b out w0 w hgl A3 c3 A4 c4 hl h
  ·have e : printD x = 34 :: (escS x.f2.data.toList ++ [34]) := by rw [hpc, e0]; rfl
   rw [e] at hl ⊢
   exact write_text x e0 hs b out w0 w hgl A3 c3 A4 c4 (by simp only [List.length_cons, List.length_append, List.length_nil] at hl; omega) h
  ·have e : printD x = 91 :: (printL false x.f3 x.f4 ++ [93]) := by rw [hpc, e0, e3]; rfl
   rw [e] at hl ⊢
   exact write_list x hx e0 _ _ r hwl hns trivial ih b out w0 w hgl A3 c3 A4 c4 l3 g3 l4 g4 (by simp only [List.length_cons, List.length_append, List.length_nil] at hl; omega) h
  ·have e : printD x = 123 :: (printL true x.f3 x.f4 ++ [125]) := by rw [hpc, e0]; rfl
   rw [e] at hl ⊢
   exact write_rec x hx e0 _ _ r hwl hns e3 ih b out w0 w hgl A3 c3 A4 c4 l3 g3 l4 g4 (by simp only [List.length_cons, List.length_append, List.length_nil] at hl; omega) h
/-- What Print says of a piece. -/
def printP (w : World) (x : DT) (e : Ending) (w' : World) : Prop :=
 e = .returned (.tuple (if rightD x = true then #[.string (mkB (printD x)), .int .i64 0] else #[.string ⟨#[]⟩, .int .i64 24])) ∧ Below w.heap.size w w'
set_option maxHeartbeats 4000000 in
theorem Print_c (x : DT) (hx : OkD x) (w : World) (hgl : GL w) (A3 : Option Addr) (c3 : Nat) (A4 : Option Addr) (c4 : Nat) (l3 : x.f3.length ≤ c3) (g3 : Kd.string.C w A3 x.f3.length x.f3) (l4 : x.f4.length ≤ c4) (g4 : k25.C w A4 x.f4.length x.f4) :
  Calls Tryz.prog 14 #[aggD x A3 c3 A4 c4] w (printP w x) := by
 have HB := Aside0.mk (below_alloc (Below.refl w.heap.size w) (dBox x A3 c3 A4 c4))
 have HD := Aside0.mk (heap_alloc_new w (dBox x A3 c3 A4 c4))
 have HR := Aside0.mk (Right_c x hx _ (hgl.below HB.out) A3 c3 A4 c4 l3 ((Kd.string.C_below g3 HB.out)) l4 (k25.C_below g4 HB.out))
 have HWC := Aside0.mk (write_c x hx)
 have HG := Aside0.mk hgl
 have H3 := Aside0.mk g3
 have H4 := Aside0.mk g4
 have HX := Aside0.mk hx
 clear hgl g3 g4 hx
 unfold printP
 by_cases hr : rightD x = true
 ·simp only [if_pos hr]
  rw [hr] at HR
  obtain ⟨r, hwr⟩ := Option.isSome_iff_exists.1 hr
  have HWR := Aside0.mk hwr
  have hlen := right_len (okD_nums x HX.out) hr
  have HLEN := Aside0.mk hlen
  clear hr hwr hlen
  go_enter Tryz.func14, Tryz.ntmps14
  go_upto_region 3 with (go_at_call 15; go_loud (with_reducible refine HR.out.mono ?_); rintro e w1 ⟨rfl, hb⟩; have HB1 := Aside0.mk hb; clear hb)
  have d := (Below.block HB1.out w.heap.size (by simp)).trans HD.out
  have HB2 := Aside0.mk (below_then HB.out HB.out.size HB1.out)
  have HI := Aside0.mk (Lib.IsBuilderF.of (Lib.fresh_isBuilder 53 5 w1))
  have HB3 := Aside0.mk (below_alloc (Below.refl w1.heap.size w1) (.cells #[.pointer none, .slice none 0 0] 53))
  have d3 := (HB3.out.block w.heap.size (by have := HB2.out.size; have := blk_lt d; omega)).trans d
  have b0 := (blk_cell d3 0).trans rfl
  have b1 := (blk_cell d3 1).trans rfl
  have b2 := (blk_cell d3 2).trans rfl
  have b3 := (blk_cell d3 3).trans rfl
  have b4 := (blk_cell d3 4).trans rfl
  have HWC1 := Aside0.mk (HWC.out 2000 0 _ HWR.out w1.heap.size [] w1 _ (HG.out.below HB2.out) A3 c3 A4 c4 l3 (Kd.string.C_below H3.out HB2.out) l4 (k25.C_below H4.out HB2.out) (by have := HLEN.out; simp; omega) ⟨HI.out, HB3.out⟩)
  clear d d3
  go_wp2_with (first | (go_at_call 26; go_loud (with_reducible refine HWC1.out.mono ?_); rintro e w5 ⟨rfl, h5, hb5, hk5⟩; have H5 := Aside0.mk h5; have HB5 := Aside0.mk hb5; clear h5 hb5 hk5) | (go_at_call 27; go_loud (with_reducible refine (Tryz.Builder_String_any_f w1.heap.size w1.heap.size _ _ H5.out HB5.out.size).mono ?_); rintro e w6 ⟨rfl, -, hb6⟩; have HB6 := Aside0.mk hb6; clear hb6))
  (try simp only [Exit.inBlock, Exit.then])
  refine bodyPost_ret (results_tmp2 rfl _ _ _) rfl ?_
  exact ⟨rfl, below_then HB2.out HB2.out.size (HB5.out.trans HB6.out)⟩
 ·simp only [if_neg hr]
  rw [show rightD x = false by simpa using hr] at HR
  clear hr
  go_enter Tryz.func14, Tryz.ntmps14
  go_wp2_with (go_at_call 15; go_loud (with_reducible refine HR.out.mono ?_); rintro e w1 ⟨rfl, hb⟩; have HB1 := Aside0.mk hb; clear hb)
  (try simp only [Exit.inBlock, Exit.then])
  refine bodyPost_ret (results_tmp2 rfl _ _ _) rfl ?_
  exact ⟨rfl, below_then HB.out HB.out.size HB1.out⟩
theorem rprint_c (x : DT) (hx : OkD x) (h : rightD x = true) (w : World) (hgl : GL w) (A3 : Option Addr) (c3 : Nat) (A4 : Option Addr) (c4 : Nat) (l3 : x.f3.length ≤ c3) (g3 : Kd.string.C w A3 x.f3.length x.f3) (l4 : x.f4.length ≤ c4) (g4 : k25.C w A4 x.f4.length x.f4) :
  Calls Tryz.prog 17 #[aggD x A3 c3 A4 c4] w fun e w' => e = .returned (.string (mkB (printD x))) ∧ Below w.heap.size w w' := by
 obtain ⟨k, hk⟩ := rprint_ev x hx h
 exact tendrilref16_Print.calls k _ _ _ A3 c3 _ A4 c4 _ _ w hgl g3 l3 g4 l4 (hk k (Nat.le_refl _))
end Go.Proofs.YtidcecpbihmloaaGreatDoorE

namespace Go.Proofs.YtidcecpbihmloaaGreatDoorE
open Go Go.RowKit Go.Proofs.YtidcecpbihmloaaGreatDoorW.PrintWords Go.Proofs.YtidcecpbihmloaaGreatDoorW.PrintMore Go.Proofs.YtidcecpbihmloaaGreatDoorW.PrintLast Go.Proofs.YtidcecpbihmloaaGreatDoorX Go.Proofs.YtidcecpbihmloaaGreatDoor.P16 Go.Proofs.YtidcecpbihmloaaGreatDoor.M02
set_option linter.unusedVariables false
set_option linter.unusedSimpArgs false
set_option maxRecDepth 100000
/-- Pieces with a mark: a marked one is made, another one is as it stood in w0. -/
def twoK (w0 : World) : Kd (DT × Bool) where
 sz := k25.sz
 E := k25.E
 K := fun w p cs => if p.2 = true then k25.K w p.1 cs else k25.K w0 p.1 cs
 M := fun w base ok p cs => if p.2 = true then k25.M w base ok p.1 cs else k25.K w0 p.1 cs
 K_len := fun {w p cs} h => by split at h <;> exact k25.K_len h
 K_one := fun {w p cs} h => by split at h <;> exact k25.K_one h
 K_below := fun {w w1 p cs} hb h => by
  split at h <;> rename_i hp
  ·rw [if_pos hp]; exact k25.K_below hb h
  ·rw [if_neg hp]; exact h
 K_of_M := fun {w base ok p cs} h => by
  split at h <;> rename_i hp
  ·rw [if_pos hp]; exact k25.K_of_M h
  ·rw [if_neg hp]; exact h
 M_mono := fun {w base ok ok' p cs} hok h => by
  split at h <;> rename_i hp
  ·rw [if_pos hp]; exact k25.M_mono hok h
  ·rw [if_neg hp]; exact h
 M_bound := fun {w base ok p cs} h => by
  split at h <;> rename_i hp
  ·rw [if_pos hp]; exact k25.M_bound h
  ·rw [if_neg hp]; exact h
 M_move := fun {w w1 base ok p cs} hm h => by
  split at h <;> rename_i hp
  ·rw [if_pos hp]; exact k25.M_move hm h
  ·rw [if_neg hp]; exact h
 M_lower := fun {w base base' ok p cs} hb h => by
  split at h <;> rename_i hp
  ·rw [if_pos hp]; exact k25.M_lower hb h
  ·rw [if_neg hp]; exact h
theorem two_came {w0 w : World} {base : Nat} {ok : Nat → Prop} {x : DT} {cs : List Value} (h : k25.K w0 x cs) : (twoK w0).M w base ok (x, false) cs := by
 show (if false = true then k25.M w base ok x cs else k25.K w0 x cs)
 rw [if_neg (by decide)]; exact h
theorem two_made {w0 w : World} {base : Nat} {ok : Nat → Prop} {x : DT} {cs : List Value} (h : k25.M w base ok x cs) : (twoK w0).M w base ok (x, true) cs := by
 show (if true = true then k25.M w base ok x cs else k25.K w0 x cs)
 rw [if_pos rfl]; exact h
theorem two_came' {w0 w : World} {x : DT} {cs : List Value} (h : (twoK w0).K w (x, false) cs) : k25.K w0 x cs := by
 have h : (if false = true then k25.K w x cs else k25.K w0 x cs) := h
 rw [if_neg (by decide)] at h; exact h
/-- A row all of which is made. -/
theorem two_all {w0 w : World} {e base : Nat} {ok : Nat → Prop} {v : Value} {l : List DT} (h : (twoK w0).R e w base ok v (l.map (·, true))) : k25.R e w base ok v l := by
 obtain ⟨h1, inner, ho, hr⟩ := h
 rw [List.length_map] at ho
 refine ⟨h1, inner, ho, by have := hr.1; rw [List.length_map] at this; exact this, fun j p hj => ?_⟩
 have h := hr.2 j (p, true) (by rw [List.getElem?_map, hj]; rfl)
 have h : (if true = true then k25.M w base (fun k => ok k ∧ some k ≠ v.ownBlock) p ((inner.drop (j * k25.sz)).take k25.sz) else k25.K w0 p ((inner.drop (j * k25.sz)).take k25.sz)) := h
 rw [if_pos rfl] at h
 exact h
theorem reads_false {w0 w : World} {A : Option Addr} {n : Nat} {l : List DT} (h : ReadsRow (k25.K w0) k25.sz w A n l) : ReadsRow (fun p c => p.2 = false ∧ k25.K w0 p.1 c) k25.sz w A n (l.map (·, false)) := by
 refine ⟨by rw [List.length_map]; exact h.1, h.2.1, fun hn => ?_⟩
 obtain ⟨ad, e, hc⟩ := h.2.2 hn
 refine ⟨ad, e, fun j p hj => ?_⟩
 rw [List.getElem?_map] at hj
 obtain ⟨q, hq, rfl⟩ := Option.map_eq_some_iff.1 hj
 obtain ⟨c, h1, h2, h3⟩ := hc j q hq
 exact ⟨c, h1, ⟨rfl, h2⟩, h3⟩
set_option maxHeartbeats 4000000 in
theorem clone_str (A : Option Addr) (c : Nat) (l : List ByteArray) (w : World) (hC : Kd.string.C w A l.length l) (hlen : l.length ≤ 1000000) :
  Calls Tryz.prog 37 #[.slice A l.length c] w fun e w' => (∃ v, e = .returned v ∧ Kd.string.R 9 w' w.heap.size (fun _ => True) v l) ∧ Below w.heap.size w w' := by
 have HC := Aside0.mk hC
 clear hC
 rcases A with _ | ad
 ·have h0 : l = [] := by
   by_cases h : 0 < l.length
   ·obtain ⟨ad, h, _⟩ := HC.out.2.2 h; cases h
   ·exact List.eq_nil_of_length_eq_zero (by omega)
  subst h0
  have he : ∀ w : World, (binOp .eql 22 (.slice none 0 c) (.slice none 0 0)).run Tryz.prog w = .ok (.bool true) w := fun _ => rfl
  go_enter Tryz.func37, Tryz.ntmps37
  go_wp2_with fail
  go_ret
  exact ⟨⟨_, rfl, Kd.R_nil _ _ _ _ _⟩, Below.refl _ _⟩
 ·have he : ∀ w : World, (binOp .eql 22 (.slice (some ad) l.length c) (.slice none 0 0)).run Tryz.prog w = .ok (.bool false) w := fun _ => rfl
  go_enter Tryz.func37, Tryz.ntmps37
  have hO : Kd.string.R 9 (w.alloc (.cells #[] 9)) w.heap.size (fun _ => True) (.slice (some ⟨w.heap.size, 0, none⟩) 0 0) [] := Kd.R_of_own (enc := Value.string) (h1 := fun _ => rfl) (World.ownsRow_made w #[] 0 (Nat.le_refl _) (by decide) (by decide)) (fun _ _ => trivial)
  have HO := Aside0.mk hO
  clear hO
  go_wp2_with (at_builtin; refine Kd.R_append_row (w0 := w) Value.string em (h1 := fun _ => rfl) w.heap.size rfl _ _ 22 9 (.string ⟨#[]⟩) 16 rfl Tryz.underlying22 info_s rfl (by decide) _ [] l (some ad) l.length c (fun _ => True) rfl rfl (fun _ _ => trivial) HO.out (Kd.C_alloc HC.out _) (below_alloc (Below.refl _ _) _) ?_ ?_ ?_)
  ·simp
  ·simp; omega
  intro v' w' hown hbel hgr hhat
  have H1 := Aside0.mk hown
  have H2 := Aside0.mk hbel
  clear hown hbel hgr hhat
  go_wp2_with fail
  go_ret
  exact ⟨⟨_, rfl, H1.out⟩, H2.out⟩
set_option maxHeartbeats 4000000 in
theorem clone_d (A : Option Addr) (c : Nat) (l : List DT) (w0 w : World) (hC : ReadsRow (k25.K w0) k25.sz w A l.length l) (hlen : l.length ≤ 1000000) :
  Calls Tryz.prog 38 #[.slice A l.length c] w fun e w' => (∃ v, e = .returned v ∧ (twoK w0).R 25 w' w.heap.size (fun _ => True) v (l.map (·, false))) ∧ Below w.heap.size w w' := by
 have HC := Aside0.mk hC
 clear hC
 rcases A with _ | ad
 ·have h0 : l = [] := by
   by_cases h : 0 < l.length
   ·obtain ⟨ad, h, _⟩ := HC.out.2.2 h; cases h
   ·exact List.eq_nil_of_length_eq_zero (by omega)
  subst h0
  have he : ∀ w : World, (binOp .eql 23 (.slice none 0 c) (.slice none 0 0)).run Tryz.prog w = .ok (.bool true) w := fun _ => rfl
  go_enter Tryz.func38, Tryz.ntmps38
  go_wp2_with fail
  go_ret
  exact ⟨⟨_, rfl, Kd.R_nil _ _ _ _ _⟩, Below.refl _ _⟩
 ·have he : ∀ w : World, (binOp .eql 23 (.slice (some ad) l.length c) (.slice none 0 0)).run Tryz.prog w = .ok (.bool false) w := fun _ => rfl
  go_enter Tryz.func38, Tryz.ntmps38
  have hO : (twoK w0).R 25 (w.alloc (.cells #[] 25)) w.heap.size (fun _ => True) (.slice (some ⟨w.heap.size, 0, none⟩) 0 0) [] := ⟨fun _ _ => trivial, [], World.ownsRow_made w #[] 0 (Nat.le_refl _) (by decide) (by rfl), rfl, fun j p hj => by simp at hj⟩
  have HO := Aside0.mk hO
  clear hO
  have HR := Aside0.mk (ReadsRow.imp_ (reads_false HC.out) (below_alloc (Below.refl _ w) (.cells #[] 25)) (fun _ _ hp => hp))
  have HKM : Aside0 (∀ (p : DT × Bool) (cs : List Value), (p.2 = false ∧ k25.K w0 p.1 cs) → (twoK w0).M (w.alloc (.cells #[] 25)) w.heap.size (fun _ => False) p cs) := ⟨fun p cs hp => by
   obtain ⟨x, b⟩ := p
   obtain ⟨hb, hp⟩ := hp
   have hb : b = false := hb
   subst hb
   exact two_came hp⟩
  go_wp2_with (at_builtin; (refine Kd.R_append_rows (w0 := w) (twoK w0) w.heap.size rfl _ _ 23 25 (.agg zCells) 80 rfl Tryz.underlying23 info_d rfl (show 0 < 5 by decide) (by decide) _ [] (l.map (·, false)) (some ad) l.length c (fun _ => True) (fun _ => False) rfl rfl HO.out HR.out HKM.out (fun k hk => hk.elim) (fun _ _ => trivial) (below_alloc (Below.refl _ _) _) ?_ ?_ ?_))
  ·simp
  ·simp; omega
  intro v' w' hown hbel hgr hhat
  have H1 := Aside0.mk hown
  have H2 := Aside0.mk hbel
  clear hown hbel hgr hhat
  go_wp2_with fail
  go_ret
  exact ⟨⟨_, rfl, H1.out⟩, H2.out⟩
end Go.Proofs.YtidcecpbihmloaaGreatDoorE
