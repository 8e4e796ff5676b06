/- Plain laws of layer 3, first part: what escape.reference answers. -/
import Derived.Test.YtpanmmpkdbhofaaDoorX03rx2
namespace Go.Proofs.YtpanmmpkdbhofaaDoor.L03
open Go Go.RowKit Go.Proofs.YtpanmmpkdbhofaaDoor.P03r Go.Proofs.YtpanmmpkdbhofaaDoorE Go.Proofs.YtpanmmpkdbhofaaDoorW.PrintWords Go.Proofs.YtpanmmpkdbhofaaDoorW.PrintLast Go.Proofs.YtpanmmpkdbhofaaDoorW.PrintMore
/-- The four signs. -/
def signs : List Nat := [38, 60, 62, 34]
def signOf (l : List UInt8) (k : Nat) : Option Nat := (signs.take k).find? fun c => Lib.hasPrefix l (formL c)
/-- The number of a form, and its length. -/
def numS (l : List UInt8) : Int × Int :=
  if Lib.indexByte (l.take 6) 59 < 0 then (0, 0) else
  match Lib.atoiAll ((l.drop 2).take ((Lib.indexByte (l.take 6) 59).toNat - 2)) with
  | .ok n => if 0 ≤ n ∧ n ≤ 127 ∧ formL n.toNat = l.take ((Lib.indexByte (l.take 6) 59).toNat + 1) then (n, Lib.indexByte (l.take 6) 59 + 1) else (0, 0)
  | _ => (0, 0)
/-- The byte that a form says with which a text begins, and how long that form is. -/
def refS (l : List UInt8) : Int × Int :=
  match signOf l 4 with
  | some c => ((c : Int), ((formL c).length : Int))
  | none => if Lib.hasPrefix l [38, 35] = true then numS l else (0, 0)
theorem signOf_succ (l : List UInt8) (k : Nat) (hk : k < 4) (h : signOf l k = none) : signOf l (k + 1) = if Lib.hasPrefix l (formL (signs[k]?.getD 0)) = true then some (signs[k]?.getD 0) else none := by
  unfold signOf at h ⊢
  have hl : k < signs.length := hk
  rw [List.take_succ_eq_append_getElem hl, List.find?_append, h, List.getElem?_eq_getElem hl]
  simp [List.find?_cons]
  split <;> simp_all
theorem signOf_hit (l : List UInt8) (k c : Nat) (h : signOf l k = some c) : signOf l 4 = some c := by
  unfold signOf at h ⊢
  rw [show signs.take 4 = signs.take k ++ signs.drop k by rw [List.take_append_drop]; rfl, List.find?_append, h]; rfl
theorem sign_le (k : Nat) : signs[k]?.getD 0 ≤ 255 := by
  match k with
  | 0 => decide
  | 1 => decide
  | 2 => decide
  | 3 => decide
  | k + 4 => simp [signs]
theorem ext_list (s : ByteArray) (i j : Nat) : (s.extract i j).data.toList = (s.data.toList.drop i).take (j - i) := by
  rw [ByteArray.data_extract, Array.toList_extract]
theorem dlen (s : ByteArray) : s.data.toList.length = s.size := by rw [Array.length_toList]; rfl
theorem index_cases : ∀ (l : List UInt8) (c : UInt8), Lib.indexByte l c = -1 ∨ (0 ≤ Lib.indexByte l c ∧ Lib.indexByte l c < l.length)
  | [], c => .inl rfl
  | b :: t, c => by
    have ih := index_cases t c
    unfold Lib.indexByte
    by_cases h : (b == c) = true
    · rw [if_pos h, List.length_cons]; right; omega
    · rw [if_neg h]
      rcases ih with e | ⟨h0, h1⟩
      · rw [e]; left; rfl
      · rw [if_neg (by rw [beq_iff_eq]; omega), List.length_cons]; right; omega
theorem index_num (l : List UInt8) (hp : Lib.hasPrefix l [38, 35] = true) : Lib.indexByte (l.take 6) 59 < 0 ∨ (2 ≤ Lib.indexByte (l.take 6) 59 ∧ Lib.indexByte (l.take 6) 59 < 6 ∧ Lib.indexByte (l.take 6) 59 < l.length) := by
  unfold Lib.hasPrefix at hp
  match l, hp with
  | [], hp => simp [List.isPrefixOf] at hp
  | [a], hp => simp [List.isPrefixOf] at hp
  | a :: b :: t, hp =>
    simp only [List.isPrefixOf, Bool.and_eq_true, beq_iff_eq] at hp
    obtain ⟨rfl, rfl, -⟩ := hp
    have h := index_cases (t.take 4) 59
    have e : Lib.indexByte ((38 :: 35 :: t).take 6) 59 = if Lib.indexByte (t.take 4) 59 = -1 then -1 else Lib.indexByte (t.take 4) 59 + 2 := by
      simp only [List.take_succ_cons, Lib.indexByte]
      split <;> simp_all
      omega
    rw [e]
    rcases h with h | ⟨h0, h1⟩
    · rw [if_pos h]; left; decide
    · rw [if_neg (by omega)]
      rw [List.length_take] at h1
      simp only [List.length_cons]
      right; omega
theorem w64 {n : Int} (h0 : -9223372036854775808 ≤ n) (h1 : n ≤ 9223372036854775807) : wrap64 n = n := by unfold wrap64; omega
theorem tl (s : ByteArray) : s.toList = s.data.toList := ByteArray.toList_eq s
theorem hasPrefix_f (s t : ByteArray) : strings_HasPrefix.f s t = some (Lib.hasPrefix s.data.toList t.data.toList) := by
  have h1 := dlen s
  have h2 := dlen t
  unfold strings_HasPrefix.f stringslite_HasPrefix.f Lib.hasPrefix
  by_cases h : (s.size : Int) ≥ (t.size : Int)
  · rw [if_pos h, if_pos (by omega), if_pos (by omega), Option.bind_some, tl, tl, ext_list, List.drop_zero, Nat.sub_zero, Int.toNat_natCast]
    congr 1
    rw [Bool.eq_iff_iff, beq_iff_eq, List.isPrefixOf_iff_prefix, List.prefix_iff_eq_take, h2]
    exact eq_comm
  · rw [if_neg h, Option.bind_some]
    congr 1
    symm
    rw [Bool.eq_false_iff, ne_eq, List.isPrefixOf_iff_prefix]
    intro hp
    have := hp.length_le
    omega
theorem form_f (n : Nat) (h : n ≤ 255) : escape_form.f (n : Int) = some ⟨(formL n).toArray⟩ := by
  unfold escape_form.f
  rw [if_pos (by omega), Int.toNat_natCast]
theorem sizeL (l : List UInt8) : (⟨l.toArray⟩ : ByteArray).size = l.length := by simp [ByteArray.size]
theorem ref_step (s : ByteArray) (j : Nat) (hj : j < 4) (k : Nat) :
    escape_reference.l0 (k + 1) s [38, 60, 62, 34] 4 (j : Int) = if Lib.hasPrefix s.data.toList (formL (signs[j]?.getD 0)) = true then some (((signs[j]?.getD 0 : Nat) : Int), ((formL (signs[j]?.getD 0)).length : Int)) else escape_reference.l0 k s [38, 60, 62, 34] 4 ((j + 1 : Nat) : Int) := by
  have e : rd [38, 60, 62, 34] (j : Int) = ((signs[j]?.getD 0 : Nat) : Int) := by
    match j, hj with
    | 0, _ => rfl
    | 1, _ => rfl
    | 2, _ => rfl
    | 3, _ => rfl
  have hc := sign_le j
  have ew : wrap64 ((j : Int) + 1) = ((j + 1 : Nat) : Int) := by rw [w64 (by omega) (by omega)]; omega
  simp only [escape_reference.l0]
  rw [if_pos (by omega), if_pos (by omega), if_pos (by simp; omega), e, form_f _ hc, Option.bind_some, hasPrefix_f, Option.bind_some, Option.bind_some, sizeL, ew]
theorem reference_f (s : ByteArray) (hs : s.size ≤ 1000000000000) (k : Nat) : escape_reference.f (k + 5) s = some (refS s.data.toList) := by
  have hL := dlen s
  have key : ∀ d j : Nat, j + d = 4 → signOf s.data.toList j = none → escape_reference.l0 (k + d + 1) s [38, 60, 62, 34] 4 (j : Int) = some (refS s.data.toList) := by
    intro d
    induction d with
    | zero =>
      intro j hj hn
      obtain rfl : j = 4 := by omega
      simp only [escape_reference.l0]
      rw [if_neg (by decide), hasPrefix_f, Option.bind_some]
      unfold refS
      rw [hn]
      by_cases hp : Lib.hasPrefix s.data.toList [38, 35] = true
      · rw [if_pos hp, if_pos hp]
        have hix := index_num _ hp
        have hm : ((mn (s.size : Int) 6) : Int) = ((min s.size 6 : Nat) : Int) := by unfold mn; split <;> omega
        have E6 : (s.extract 0 (min s.size 6)).data.toList = s.data.toList.take 6 := by
          rw [ext_list, List.drop_zero, Nat.sub_zero]
          by_cases h6 : s.size ≤ 6
          · rw [List.take_of_length_le (by omega), List.take_of_length_le (by omega)]
          · congr 1; omega
        rw [hm, if_pos (by omega), if_pos (by omega), Int.toNat_natCast]
        unfold strings_IndexByte.f
        rw [E6, Option.bind_some, show ((59 : Int).toNat.toUInt8) = 59 from rfl]
        unfold numS
        generalize Lib.indexByte (List.take 6 s.data.toList) 59 = x at hix ⊢
        by_cases hx : x < 0
        · rw [if_pos hx, if_pos hx]
        · rw [if_neg hx, if_neg hx, if_pos (by omega), if_pos (by omega)]
          obtain ⟨m, rfl⟩ := Int.eq_ofNat_of_zero_le (show 0 ≤ x by omega)
          have h9 := dlen (s.extract 2 m)
          rw [ext_list, List.length_take, List.length_drop] at h9
          unfold strconv_Atoi.f
          rw [Int.toNat_natCast, if_pos (by omega), Option.bind_some, ext_list]
          unfold atoiS
          cases hq : Lib.atoiAll ((s.data.toList.drop 2).take (m - 2)) with
          | ok n =>
            simp only
            rw [if_pos (by rfl)]
            by_cases n0 : n < 0
            · rw [if_pos n0, if_neg (by omega)]
            · rw [if_neg n0]
              by_cases n1 : n > 127
              · rw [if_pos n1, if_neg (by omega)]
              · obtain ⟨c, rfl⟩ := Int.eq_ofNat_of_zero_le (show 0 ≤ n by omega)
                have ew : wrap64 ((m : Int) + 1) = ((m + 1 : Nat) : Int) := by rw [w64 (by omega) (by omega)]; omega
                rw [if_neg n1, show (c : Int) % 256 = (c : Int) by omega, form_f _ (by omega), Option.bind_some, ew, if_pos (by omega), if_pos (by omega), tl, tl, Int.toNat_natCast, ext_list, List.drop_zero, Nat.sub_zero, Int.toNat_natCast]
                by_cases he : formL c = s.data.toList.take (m + 1)
                · rw [if_pos (by simpa using he), if_pos ⟨by omega, by omega, he⟩]; rfl
                · rw [if_neg (by simpa using he), if_neg (fun h => he h.2.2)]
          | range => rfl
          | _ => rfl
      · rw [if_neg hp, if_neg hp]
    | succ d ih =>
      intro j hj hn
      have hs2 := signOf_succ s.data.toList j (by omega) hn
      rw [ref_step s j (by omega)]
      by_cases hp : Lib.hasPrefix s.data.toList (formL (signs[j]?.getD 0)) = true
      · rw [if_pos hp]
        rw [if_pos hp] at hs2
        unfold refS
        rw [signOf_hit _ _ _ hs2]
      · rw [if_neg hp]
        rw [if_neg hp] at hs2
        exact ih (j + 1) (by omega) hs2
  unfold escape_reference.f
  rw [Option.bind_some]
  exact key 4 0 rfl rfl
end Go.Proofs.YtpanmmpkdbhofaaDoor.L03
