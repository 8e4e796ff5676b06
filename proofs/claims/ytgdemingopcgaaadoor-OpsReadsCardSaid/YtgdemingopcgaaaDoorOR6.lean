/- Merged by this claim's own program (merge.py) out of the texts X26x9, K02e, E71, K03, E75, E76, E77, E78; the W texts among them began as the kit's print. -/
import Derived.Test.YtgdemingopcgaaaDoorOR5
import Derived.Deep.CutRange
import Derived.Deep.CutBlock

namespace Go.Proofs.YtgdemingopcgaaaDoor.P26
open Go.RowKit Go.Proofs.YtgdemingopcgaaaDoorE Go.Proofs.YtgdemingopcgaaaDoorW.PrintWords Go.Proofs.YtgdemingopcgaaaDoorW.PrintLast Go.Proofs.YtgdemingopcgaaaDoorW.PrintMore
attribute [local go_sem] max2_int min2_int max_two min_two max_three min_three max_four min_four   -- for this text's walks alone
set_option linter.unusedVariables false
set_option linter.unusedSimpArgs false

def tendrilref25_Line.l0 : Nat → ByteArray → Int → Int → Int → Int → Int → Int → ByteArray → ByteArray → ByteArray → ByteArray → List (S51) → Option (ByteArray)
  | 0, _, _, _, _, _, _, _, _, _, _, _, _ => none
  | k + 1, x3, x24, x25, x155000, x155001, x155002, x155003, x155004, x155005, x155006, x155007, x155008 => if x25 < x24 then (if x3.size + 1 ≤ 9223372036854775807 then (if 0 ≤ x25 then (if x25 < (x155008.length : Int) then (if (x3 ++ (⟨#[32]⟩ : ByteArray)).size + ((rd_T51 x155008 x25).f0).size ≤ 9223372036854775807 then (if ((x3 ++ (⟨#[32]⟩ : ByteArray)) ++ ((rd_T51 x155008 x25).f0)).size + 1 ≤ 9223372036854775807 then ((tendrilref25_quoted.f k ((rd_T51 x155008 x25).f1)).bind fun t159 => (if (((x3 ++ (⟨#[32]⟩ : ByteArray)) ++ ((rd_T51 x155008 x25).f0)) ++ (⟨#[61]⟩ : ByteArray)).size + t159.size ≤ 9223372036854775807 then (tendrilref25_Line.l0 k ((((x3 ++ (⟨#[32]⟩ : ByteArray)) ++ ((rd_T51 x155008 x25).f0)) ++ (⟨#[61]⟩ : ByteArray)) ++ t159) x24 (wrap64 (x25 + 1)) x155000 x155001 x155002 x155003 x155004 x155005 x155006 x155007 x155008) else (none))) else (none)) else (none)) else (none)) else (none)) else (none)) else (some x3)
def tendrilref25_Line.f (k : Nat) (a0_0 : Int) (a0_1 : Int) (a0_2 : Int) (a0_3 : Int) (a0_4 : ByteArray) (a0_5 : ByteArray) (a0_6 : ByteArray) (a0_7 : ByteArray) (l0_8 : List (S51)) : Option (ByteArray) := if a0_0 = 1 then (if 7 + a0_4.size ≤ 9223372036854775807 then (if ((⟨#[99, 114, 101, 97, 116, 101, 32]⟩ : ByteArray) ++ a0_4).size + 1 ≤ 9223372036854775807 then ((tendrilref25_quoted.f k a0_5).bind fun t155 => (if (((⟨#[99, 114, 101, 97, 116, 101, 32]⟩ : ByteArray) ++ a0_4) ++ (⟨#[32]⟩ : ByteArray)).size + t155.size ≤ 9223372036854775807 then (if ((((⟨#[99, 114, 101, 97, 116, 101, 32]⟩ : ByteArray) ++ a0_4) ++ (⟨#[32]⟩ : ByteArray)) ++ t155).size + 1 ≤ 9223372036854775807 then ((tendrilref25_quoted.f k a0_7).bind fun t156 => (if (((((⟨#[99, 114, 101, 97, 116, 101, 32]⟩ : ByteArray) ++ a0_4) ++ (⟨#[32]⟩ : ByteArray)) ++ t155) ++ (⟨#[32]⟩ : ByteArray)).size + t156.size ≤ 9223372036854775807 then (tendrilref25_Line.l0 k ((((((⟨#[99, 114, 101, 97, 116, 101, 32]⟩ : ByteArray) ++ a0_4) ++ (⟨#[32]⟩ : ByteArray)) ++ t155) ++ (⟨#[32]⟩ : ByteArray)) ++ t156) (l0_8.length : Int) 0 a0_0 a0_1 a0_2 a0_3 a0_4 a0_5 a0_6 a0_7 l0_8) else (none))) else (none)) else (none))) else (none)) else (none)) else (if a0_0 = 2 then ((tendrilref25_num.f k a0_1).bind fun t160 => (if 6 + t160.size ≤ 9223372036854775807 then ((tendrilref25_num.f k a0_2).bind fun t161 => (if ((⟨#[105, 110, 115, 101, 114, 116]⟩ : ByteArray) ++ t160).size + t161.size ≤ 9223372036854775807 then ((tendrilref25_num.f k a0_3).bind fun t162 => (if (((⟨#[105, 110, 115, 101, 114, 116]⟩ : ByteArray) ++ t160) ++ t161).size + t162.size ≤ 9223372036854775807 then (some ((((⟨#[105, 110, 115, 101, 114, 116]⟩ : ByteArray) ++ t160) ++ t161) ++ t162)) else (none))) else (none))) else (none))) else (if a0_0 = 3 then ((tendrilref25_num.f k a0_1).bind fun t163 => (if 4 + t163.size ≤ 9223372036854775807 then ((tendrilref25_num.f k a0_3).bind fun t164 => (if ((⟨#[109, 111, 118, 101]⟩ : ByteArray) ++ t163).size + t164.size ≤ 9223372036854775807 then (some (((⟨#[109, 111, 118, 101]⟩ : ByteArray) ++ t163) ++ t164)) else (none))) else (none))) else (if a0_0 = 4 then ((tendrilref25_num.f k a0_1).bind fun t165 => (if 6 + t165.size ≤ 9223372036854775807 then (some ((⟨#[114, 101, 109, 111, 118, 101]⟩ : ByteArray) ++ t165)) else (none))) else (if a0_0 = 5 then ((tendrilref25_num.f k a0_1).bind fun t166 => (if 3 + t166.size ≤ 9223372036854775807 then (if ((⟨#[115, 101, 116]⟩ : ByteArray) ++ t166).size + 1 ≤ 9223372036854775807 then (if (((⟨#[115, 101, 116]⟩ : ByteArray) ++ t166) ++ (⟨#[32]⟩ : ByteArray)).size + a0_6.size ≤ 9223372036854775807 then (if ((((⟨#[115, 101, 116]⟩ : ByteArray) ++ t166) ++ (⟨#[32]⟩ : ByteArray)) ++ a0_6).size + 1 ≤ 9223372036854775807 then ((tendrilref25_quoted.f k a0_7).bind fun t167 => (if (((((⟨#[115, 101, 116]⟩ : ByteArray) ++ t166) ++ (⟨#[32]⟩ : ByteArray)) ++ a0_6) ++ (⟨#[61]⟩ : ByteArray)).size + t167.size ≤ 9223372036854775807 then (some ((((((⟨#[115, 101, 116]⟩ : ByteArray) ++ t166) ++ (⟨#[32]⟩ : ByteArray)) ++ a0_6) ++ (⟨#[61]⟩ : ByteArray)) ++ t167)) else (none))) else (none)) else (none)) else (none)) else (none))) else (if a0_0 = 6 then ((tendrilref25_num.f k a0_1).bind fun t168 => (if 3 + t168.size ≤ 9223372036854775807 then (if ((⟨#[100, 101, 108]⟩ : ByteArray) ++ t168).size + 1 ≤ 9223372036854775807 then (if (((⟨#[100, 101, 108]⟩ : ByteArray) ++ t168) ++ (⟨#[32]⟩ : ByteArray)).size + a0_6.size ≤ 9223372036854775807 then (some ((((⟨#[100, 101, 108]⟩ : ByteArray) ++ t168) ++ (⟨#[32]⟩ : ByteArray)) ++ a0_6)) else (none)) else (none)) else (none))) else ((tendrilref25_num.f k a0_1).bind fun t169 => (if 4 + t169.size ≤ 9223372036854775807 then (if ((⟨#[116, 101, 120, 116]⟩ : ByteArray) ++ t169).size + 1 ≤ 9223372036854775807 then ((tendrilref25_quoted.f k a0_7).bind fun t170 => (if (((⟨#[116, 101, 120, 116]⟩ : ByteArray) ++ t169) ++ (⟨#[32]⟩ : ByteArray)).size + t170.size ≤ 9223372036854775807 then (some ((((⟨#[116, 101, 120, 116]⟩ : ByteArray) ++ t169) ++ (⟨#[32]⟩ : ByteArray)) ++ t170)) else (none))) else (none)) else (none))))))))
theorem tendrilref25_Line.mono_l : ∀ k, (∀ y0 y1 y2 y3 y4 y5 y6 y7 y8 y9 y10 y11, LeO (tendrilref25_Line.l0 k y0 y1 y2 y3 y4 y5 y6 y7 y8 y9 y10 y11) (tendrilref25_Line.l0 (k + 1) y0 y1 y2 y3 y4 y5 y6 y7 y8 y9 y10 y11))
  | 0 => fun _ _ _ _ _ _ _ _ _ _ _ _ r h => by simp [tendrilref25_Line.l0] at h
  | k + 1 => by
    have ih0 := tendrilref25_Line.mono_l k
    · intro y0 y1 y2 y3 y4 y5 y6 y7 y8 y9 y10 y11
      unfold tendrilref25_Line.l0
      repeat' first
      | (with_reducible exact ih0 _ _ _ _ _ _ _ _ _ _ _ _)
      | (with_reducible exact tendrilref25_num.mono _ _)
      | (with_reducible exact tendrilref25_quoted.mono _ _)
      | (with_reducible exact LeO.refl _)
      | (with_reducible exact LeO.none _)
      | (with_reducible refine LeO.ite ?_ ?_)
      | (with_reducible refine LeO.bind ?_ (fun _ => ?_))
      | exact ih0 _ _ _ _ _ _ _ _ _ _ _ _
      | exact tendrilref25_num.mono _ _
      | exact tendrilref25_quoted.mono _ _
      | exact LeO.none _
      | refine LeO.ite ?_ ?_
      | refine LeO.bind ?_ (fun _ => ?_)
theorem tendrilref25_Line.mono : ∀ a0 a1 a2 a3 a4 a5 a6 a7 a8 k, LeO (tendrilref25_Line.f k a0 a1 a2 a3 a4 a5 a6 a7 a8) (tendrilref25_Line.f (k + 1) a0 a1 a2 a3 a4 a5 a6 a7 a8) := by
  intro a0 a1 a2 a3 a4 a5 a6 a7 a8 k
  have ih0 := tendrilref25_Line.mono_l k
  unfold tendrilref25_Line.f
  repeat' first
      | (with_reducible exact ih0 _ _ _ _ _ _ _ _ _ _ _ _)
      | (with_reducible exact tendrilref25_num.mono _ _)
      | (with_reducible exact tendrilref25_quoted.mono _ _)
      | (with_reducible exact LeO.refl _)
      | (with_reducible exact LeO.none _)
      | (with_reducible refine LeO.ite ?_ ?_)
      | (with_reducible refine LeO.bind ?_ (fun _ => ?_))
      | exact ih0 _ _ _ _ _ _ _ _ _ _ _ _
      | exact tendrilref25_num.mono _ _
      | exact tendrilref25_quoted.mono _ _
      | exact LeO.none _
      | refine LeO.ite ?_ ?_
      | refine LeO.bind ?_ (fun _ => ?_)
def tendrilref25_Line.T3 : Bool × List (List Nat × List Nat) := (true, [([], []), ([0], [0]), ([1], [1]), ([2], [2]), ([], []), ([4], [4]), ([5], [5]), ([3, 6], [3, 6]), ([7], [7]), ([], []), ([9], [9]), ([10, 6], [10]), ([8, 11], [8, 11]), ([12, 11, 0, 1, 2, 3, 4, 5, 6, 7, 8, 9, 10, 11, 12], [12])])
def tendrilref25_Line.B3 : List Nat := [0, 1, 3, 7, 0, 16, 48, 127, 255, 0, 512, 1648, 4095, 8191]
theorem tendrilref25_Line.tab3 : rtab .any (opsOf Tryd.f11 3) = tendrilref25_Line.T3 := by kernel_rfl
theorem tendrilref25_Line.bits3 : waitsOk tendrilref25_Line.T3.2 tendrilref25_Line.B3 = true := by kernel_rfl
def tendrilref25_Line.T7 : Bool × List (List Nat × List Nat) := (true, [([], []), ([0], [0]), ([], []), ([2], [2]), ([], []), ([3, 4], [3, 4]), ([5], [5]), ([6], [6]), ([1, 7], [1, 7]), ([8], [8]), ([], []), ([10], [10]), ([], []), ([11, 12], [11, 12]), ([13], [13]), ([14], [14]), ([15], [15]), ([9, 16], [9, 16]), ([17, 16, 0, 1, 2, 3, 4, 5, 6, 7, 8, 9, 10, 11, 12, 13, 14, 15, 16, 17], [0, 17])])
def tendrilref25_Line.B7 : List Nat := [0, 1, 0, 4, 0, 28, 60, 124, 255, 511, 0, 1024, 0, 7168, 15360, 31744, 64512, 131071, 262143]
theorem tendrilref25_Line.tab7 : rtab .any (opsOf Tryd.f11 7) = tendrilref25_Line.T7 := by kernel_rfl
theorem tendrilref25_Line.bits7 : waitsOk tendrilref25_Line.T7.2 tendrilref25_Line.B7 = true := by kernel_rfl
def tendrilref25_Line.T11 : Bool × List (List Nat × List Nat) := (true, [([], []), ([0], [0]), ([1], [1]), ([2], [2]), ([], []), ([4], [4]), ([5, 2], [5]), ([3, 6], [3, 6]), ([], []), ([8], [8]), ([9, 6], [9]), ([7, 10], [7, 10]), ([11, 10, 0, 1, 2, 3, 4, 5, 6, 7, 8, 9, 10, 11], [11])])
def tendrilref25_Line.B11 : List Nat := [0, 1, 3, 7, 0, 16, 55, 127, 0, 256, 887, 2047, 4095]
theorem tendrilref25_Line.tab11 : rtab .any (opsOf Tryd.f11 11) = tendrilref25_Line.T11 := by kernel_rfl
theorem tendrilref25_Line.bits11 : waitsOk tendrilref25_Line.T11.2 tendrilref25_Line.B11 = true := by kernel_rfl
def tendrilref25_Line.T13 : Bool × List (List Nat × List Nat) := (true, [([], []), ([0], [0]), ([1], [1]), ([2], [2]), ([], []), ([4], [4]), ([5, 2], [5]), ([3, 6], [3, 6]), ([7, 6, 0, 1, 2, 3, 4, 5, 6, 7], [7])])
def tendrilref25_Line.B13 : List Nat := [0, 1, 3, 7, 0, 16, 55, 127, 255]
theorem tendrilref25_Line.tab13 : rtab .any (opsOf Tryd.f11 13) = tendrilref25_Line.T13 := by kernel_rfl
theorem tendrilref25_Line.bits13 : waitsOk tendrilref25_Line.T13.2 tendrilref25_Line.B13 = true := by kernel_rfl
def tendrilref25_Line.T17 : Bool × List (List Nat × List Nat) := (true, [([], []), ([0], [0]), ([1], [1]), ([2], [2]), ([3], [3]), ([], []), ([5], [5]), ([4, 6], [4, 6]), ([7], [7]), ([], []), ([9], [9]), ([10, 2], [10]), ([8, 11], [8, 11]), ([12, 11, 0, 1, 2, 3, 4, 5, 6, 7, 8, 9, 10, 11, 12], [12])])
def tendrilref25_Line.B17 : List Nat := [0, 1, 3, 7, 15, 0, 32, 127, 255, 0, 512, 1543, 4095, 8191]
theorem tendrilref25_Line.tab17 : rtab .any (opsOf Tryd.f11 17) = tendrilref25_Line.T17 := by kernel_rfl
theorem tendrilref25_Line.bits17 : waitsOk tendrilref25_Line.T17.2 tendrilref25_Line.B17 = true := by kernel_rfl
def tendrilref25_Line.T19 : Bool × List (List Nat × List Nat) := (true, [([], []), ([0], [0]), ([1], [1]), ([2], [2]), ([3], [3]), ([], []), ([5], [5]), ([4, 6], [4, 6]), ([7, 2, 0, 1, 2, 3, 4, 5, 6, 7], [7])])
def tendrilref25_Line.B19 : List Nat := [0, 1, 3, 7, 15, 0, 32, 127, 255]
theorem tendrilref25_Line.tab19 : rtab .any (opsOf Tryd.f11 19) = tendrilref25_Line.T19 := by kernel_rfl
theorem tendrilref25_Line.bits19 : waitsOk tendrilref25_Line.T19.2 tendrilref25_Line.B19 = true := by kernel_rfl
def tendrilref25_Line.T20 : Bool × List (List Nat × List Nat) := (true, [([], []), ([0], [0]), ([1], [1]), ([2], [2]), ([3], [3]), ([], []), ([5], [5]), ([6, 2], [6]), ([4, 7], [4, 7]), ([8, 7, 0, 1, 2, 3, 4, 5, 6, 7, 8], [8])])
def tendrilref25_Line.B20 : List Nat := [0, 1, 3, 7, 15, 0, 32, 103, 255, 511]
theorem tendrilref25_Line.tab20 : rtab .any (opsOf Tryd.f11 20) = tendrilref25_Line.T20 := by kernel_rfl
theorem tendrilref25_Line.bits20 : waitsOk tendrilref25_Line.T20.2 tendrilref25_Line.B20 = true := by kernel_rfl
set_option maxHeartbeats 8000000 in
set_option maxRecDepth 100000 in
theorem tendrilref25_Line.calls (k : Nat) (a0_0 : Int) (a0_1 : Int) (a0_2 : Int) (a0_3 : Int) (a0_4 : ByteArray) (a0_5 : ByteArray) (a0_6 : ByteArray) (a0_7 : ByteArray) (A0_8 : Option Addr) (c0_8 : Nat) (l0_8 : List (S51)) (r : ByteArray) (w : World) (hgl : Go.Proofs.YtgdemingopcgaaaDoorX.GL w) (hr0_8 : Kd.C k51 w A0_8 l0_8.length l0_8) (hc0_8 : l0_8.length ≤ c0_8) (h : tendrilref25_Line.f k a0_0 a0_1 a0_2 a0_3 a0_4 a0_5 a0_6 a0_7 l0_8 = some r) :
    Calls Tryd.prog 11 #[.agg #[.int .i64 a0_0, .int .i64 a0_1, .int .i64 a0_2, .int .i64 a0_3, .string a0_4, .string a0_5, .string a0_6, .string a0_7, .slice A0_8 l0_8.length c0_8]] w fun e w' => e = .returned (.string r) ∧ Below w.heap.size w w' := by
  have hu24 := Tryd.underlying24
  have HR0_8 := Aside0.mk hr0_8
  have HC0_8 := Aside0.mk hc0_8
  clear hr0_8 hc0_8
  have HGL := Aside0.mk hgl
  clear hgl
  have HB := Aside0.mk (Below.refl w.heap.size w)
  have H : (if a0_0 = 1 then (if 7 + a0_4.size ≤ 9223372036854775807 then (if ((⟨#[99, 114, 101, 97, 116, 101, 32]⟩ : ByteArray) ++ a0_4).size + 1 ≤ 9223372036854775807 then ((tendrilref25_quoted.f k a0_5).bind fun t155 => (if (((⟨#[99, 114, 101, 97, 116, 101, 32]⟩ : ByteArray) ++ a0_4) ++ (⟨#[32]⟩ : ByteArray)).size + t155.size ≤ 9223372036854775807 then (if ((((⟨#[99, 114, 101, 97, 116, 101, 32]⟩ : ByteArray) ++ a0_4) ++ (⟨#[32]⟩ : ByteArray)) ++ t155).size + 1 ≤ 9223372036854775807 then ((tendrilref25_quoted.f k a0_7).bind fun t156 => (if (((((⟨#[99, 114, 101, 97, 116, 101, 32]⟩ : ByteArray) ++ a0_4) ++ (⟨#[32]⟩ : ByteArray)) ++ t155) ++ (⟨#[32]⟩ : ByteArray)).size + t156.size ≤ 9223372036854775807 then (tendrilref25_Line.l0 k ((((((⟨#[99, 114, 101, 97, 116, 101, 32]⟩ : ByteArray) ++ a0_4) ++ (⟨#[32]⟩ : ByteArray)) ++ t155) ++ (⟨#[32]⟩ : ByteArray)) ++ t156) (l0_8.length : Int) 0 a0_0 a0_1 a0_2 a0_3 a0_4 a0_5 a0_6 a0_7 l0_8) else (none))) else (none)) else (none))) else (none)) else (none)) else (if a0_0 = 2 then ((tendrilref25_num.f k a0_1).bind fun t160 => (if 6 + t160.size ≤ 9223372036854775807 then ((tendrilref25_num.f k a0_2).bind fun t161 => (if ((⟨#[105, 110, 115, 101, 114, 116]⟩ : ByteArray) ++ t160).size + t161.size ≤ 9223372036854775807 then ((tendrilref25_num.f k a0_3).bind fun t162 => (if (((⟨#[105, 110, 115, 101, 114, 116]⟩ : ByteArray) ++ t160) ++ t161).size + t162.size ≤ 9223372036854775807 then (some ((((⟨#[105, 110, 115, 101, 114, 116]⟩ : ByteArray) ++ t160) ++ t161) ++ t162)) else (none))) else (none))) else (none))) else (if a0_0 = 3 then ((tendrilref25_num.f k a0_1).bind fun t163 => (if 4 + t163.size ≤ 9223372036854775807 then ((tendrilref25_num.f k a0_3).bind fun t164 => (if ((⟨#[109, 111, 118, 101]⟩ : ByteArray) ++ t163).size + t164.size ≤ 9223372036854775807 then (some (((⟨#[109, 111, 118, 101]⟩ : ByteArray) ++ t163) ++ t164)) else (none))) else (none))) else (if a0_0 = 4 then ((tendrilref25_num.f k a0_1).bind fun t165 => (if 6 + t165.size ≤ 9223372036854775807 then (some ((⟨#[114, 101, 109, 111, 118, 101]⟩ : ByteArray) ++ t165)) else (none))) else (if a0_0 = 5 then ((tendrilref25_num.f k a0_1).bind fun t166 => (if 3 + t166.size ≤ 9223372036854775807 then (if ((⟨#[115, 101, 116]⟩ : ByteArray) ++ t166).size + 1 ≤ 9223372036854775807 then (if (((⟨#[115, 101, 116]⟩ : ByteArray) ++ t166) ++ (⟨#[32]⟩ : ByteArray)).size + a0_6.size ≤ 9223372036854775807 then (if ((((⟨#[115, 101, 116]⟩ : ByteArray) ++ t166) ++ (⟨#[32]⟩ : ByteArray)) ++ a0_6).size + 1 ≤ 9223372036854775807 then ((tendrilref25_quoted.f k a0_7).bind fun t167 => (if (((((⟨#[115, 101, 116]⟩ : ByteArray) ++ t166) ++ (⟨#[32]⟩ : ByteArray)) ++ a0_6) ++ (⟨#[61]⟩ : ByteArray)).size + t167.size ≤ 9223372036854775807 then (some ((((((⟨#[115, 101, 116]⟩ : ByteArray) ++ t166) ++ (⟨#[32]⟩ : ByteArray)) ++ a0_6) ++ (⟨#[61]⟩ : ByteArray)) ++ t167)) else (none))) else (none)) else (none)) else (none)) else (none))) else (if a0_0 = 6 then ((tendrilref25_num.f k a0_1).bind fun t168 => (if 3 + t168.size ≤ 9223372036854775807 then (if ((⟨#[100, 101, 108]⟩ : ByteArray) ++ t168).size + 1 ≤ 9223372036854775807 then (if (((⟨#[100, 101, 108]⟩ : ByteArray) ++ t168) ++ (⟨#[32]⟩ : ByteArray)).size + a0_6.size ≤ 9223372036854775807 then (some ((((⟨#[100, 101, 108]⟩ : ByteArray) ++ t168) ++ (⟨#[32]⟩ : ByteArray)) ++ a0_6)) else (none)) else (none)) else (none))) else ((tendrilref25_num.f k a0_1).bind fun t169 => (if 4 + t169.size ≤ 9223372036854775807 then (if ((⟨#[116, 101, 120, 116]⟩ : ByteArray) ++ t169).size + 1 ≤ 9223372036854775807 then ((tendrilref25_quoted.f k a0_7).bind fun t170 => (if (((⟨#[116, 101, 120, 116]⟩ : ByteArray) ++ t169) ++ (⟨#[32]⟩ : ByteArray)).size + t170.size ≤ 9223372036854775807 then (some ((((⟨#[116, 101, 120, 116]⟩ : ByteArray) ++ t169) ++ (⟨#[32]⟩ : ByteArray)) ++ t170)) else (none))) else (none)) else (none))))))))) = some r := h
  clear h
  by_cases c2 : a0_0 = 1
  · rw [if_pos c2] at H
    have c2b0 : (a0_0 == 1) = true := beq_iff_eq.mpr c2
    have c2b1 : (a0_0 != 1) = false := bne_eq_false_iff_eq.mpr c2
    clear c2
    by_cases c3 : 7 + a0_4.size ≤ 9223372036854775807
    · rw [if_pos c3] at H
      have c3b0 := eq_true c3
      have c3b1 : decide (7 + a0_4.size ≤ 9223372036854775807) = true := decide_eq_true c3
      try have c3b2 : (9223372036854775807 < 7 + a0_4.size) = False := eq_false (Nat.not_lt.2 c3)
      by_cases c4 : ((⟨#[99, 114, 101, 97, 116, 101, 32]⟩ : ByteArray) ++ a0_4).size + 1 ≤ 9223372036854775807
      · rw [if_pos c4] at H
        have c4b0 := eq_true c4
        have c4b1 : decide (((⟨#[99, 114, 101, 97, 116, 101, 32]⟩ : ByteArray) ++ a0_4).size + 1 ≤ 9223372036854775807) = true := decide_eq_true c4
        try have c4b2 : (9223372036854775807 < ((⟨#[99, 114, 101, 97, 116, 101, 32]⟩ : ByteArray) ++ a0_4).size + 1) = False := eq_false (Nat.not_lt.2 c4)
        have c4b2x : (9223372036854775807 < 7 + a0_4.size + 1) = False := eq_false (Nat.not_lt.2 (by have h_ := c4; simp only [ByteArray.size_append] at h_; exact h_))
        replace H := Option.bind_eq_some_iff.mp H
        obtain ⟨t155, A50, H⟩ := H
        replace H : (if (((⟨#[99, 114, 101, 97, 116, 101, 32]⟩ : ByteArray) ++ a0_4) ++ (⟨#[32]⟩ : ByteArray)).size + t155.size ≤ 9223372036854775807 then (if ((((⟨#[99, 114, 101, 97, 116, 101, 32]⟩ : ByteArray) ++ a0_4) ++ (⟨#[32]⟩ : ByteArray)) ++ t155).size + 1 ≤ 9223372036854775807 then ((tendrilref25_quoted.f k a0_7).bind fun t156 => (if (((((⟨#[99, 114, 101, 97, 116, 101, 32]⟩ : ByteArray) ++ a0_4) ++ (⟨#[32]⟩ : ByteArray)) ++ t155) ++ (⟨#[32]⟩ : ByteArray)).size + t156.size ≤ 9223372036854775807 then (tendrilref25_Line.l0 k ((((((⟨#[99, 114, 101, 97, 116, 101, 32]⟩ : ByteArray) ++ a0_4) ++ (⟨#[32]⟩ : ByteArray)) ++ t155) ++ (⟨#[32]⟩ : ByteArray)) ++ t156) (l0_8.length : Int) 0 a0_0 a0_1 a0_2 a0_3 a0_4 a0_5 a0_6 a0_7 l0_8) else (none))) else (none)) else (none)) = some r := H
        have A5 := Aside0.mk A50
        clear A50
        by_cases c6 : (((⟨#[99, 114, 101, 97, 116, 101, 32]⟩ : ByteArray) ++ a0_4) ++ (⟨#[32]⟩ : ByteArray)).size + t155.size ≤ 9223372036854775807
        · rw [if_pos c6] at H
          have c6b0 := eq_true c6
          have c6b1 : decide ((((⟨#[99, 114, 101, 97, 116, 101, 32]⟩ : ByteArray) ++ a0_4) ++ (⟨#[32]⟩ : ByteArray)).size + t155.size ≤ 9223372036854775807) = true := decide_eq_true c6
          try have c6b2 : (9223372036854775807 < (((⟨#[99, 114, 101, 97, 116, 101, 32]⟩ : ByteArray) ++ a0_4) ++ (⟨#[32]⟩ : ByteArray)).size + t155.size) = False := eq_false (Nat.not_lt.2 c6)
          have c6b2x : (9223372036854775807 < 7 + a0_4.size + 1 + t155.size) = False := eq_false (Nat.not_lt.2 (by have h_ := c6; simp only [ByteArray.size_append] at h_; exact h_))
          by_cases c7 : ((((⟨#[99, 114, 101, 97, 116, 101, 32]⟩ : ByteArray) ++ a0_4) ++ (⟨#[32]⟩ : ByteArray)) ++ t155).size + 1 ≤ 9223372036854775807
          · rw [if_pos c7] at H
            have c7b0 := eq_true c7
            have c7b1 : decide (((((⟨#[99, 114, 101, 97, 116, 101, 32]⟩ : ByteArray) ++ a0_4) ++ (⟨#[32]⟩ : ByteArray)) ++ t155).size + 1 ≤ 9223372036854775807) = true := decide_eq_true c7
            try have c7b2 : (9223372036854775807 < ((((⟨#[99, 114, 101, 97, 116, 101, 32]⟩ : ByteArray) ++ a0_4) ++ (⟨#[32]⟩ : ByteArray)) ++ t155).size + 1) = False := eq_false (Nat.not_lt.2 c7)
            have c7b2x : (9223372036854775807 < 7 + a0_4.size + 1 + t155.size + 1) = False := eq_false (Nat.not_lt.2 (by have h_ := c7; simp only [ByteArray.size_append] at h_; exact h_))
            replace H := Option.bind_eq_some_iff.mp H
            obtain ⟨t156, A80, H⟩ := H
            replace H : (if (((((⟨#[99, 114, 101, 97, 116, 101, 32]⟩ : ByteArray) ++ a0_4) ++ (⟨#[32]⟩ : ByteArray)) ++ t155) ++ (⟨#[32]⟩ : ByteArray)).size + t156.size ≤ 9223372036854775807 then (tendrilref25_Line.l0 k ((((((⟨#[99, 114, 101, 97, 116, 101, 32]⟩ : ByteArray) ++ a0_4) ++ (⟨#[32]⟩ : ByteArray)) ++ t155) ++ (⟨#[32]⟩ : ByteArray)) ++ t156) (l0_8.length : Int) 0 a0_0 a0_1 a0_2 a0_3 a0_4 a0_5 a0_6 a0_7 l0_8) else (none)) = some r := H
            have A8 := Aside0.mk A80
            clear A80
            by_cases c9 : (((((⟨#[99, 114, 101, 97, 116, 101, 32]⟩ : ByteArray) ++ a0_4) ++ (⟨#[32]⟩ : ByteArray)) ++ t155) ++ (⟨#[32]⟩ : ByteArray)).size + t156.size ≤ 9223372036854775807
            · rw [if_pos c9] at H
              have c9b0 := eq_true c9
              have c9b1 : decide ((((((⟨#[99, 114, 101, 97, 116, 101, 32]⟩ : ByteArray) ++ a0_4) ++ (⟨#[32]⟩ : ByteArray)) ++ t155) ++ (⟨#[32]⟩ : ByteArray)).size + t156.size ≤ 9223372036854775807) = true := decide_eq_true c9
              try have c9b2 : (9223372036854775807 < (((((⟨#[99, 114, 101, 97, 116, 101, 32]⟩ : ByteArray) ++ a0_4) ++ (⟨#[32]⟩ : ByteArray)) ++ t155) ++ (⟨#[32]⟩ : ByteArray)).size + t156.size) = False := eq_false (Nat.not_lt.2 c9)
              have c9b2x : (9223372036854775807 < 7 + a0_4.size + 1 + t155.size + 1 + t156.size) = False := eq_false (Nat.not_lt.2 (by have h_ := c9; simp only [ByteArray.size_append] at h_; exact h_))
              have H' := Aside0.mk H
              clear H
              go_enter Tryd.func11, Tryd.ntmps11
              try go_wp2_with (first | ((with_reducible refine gate_dst (N := 1) rfl ?_); refine box_event ?hg (N := 1) ?hd (cs := #[.int .i64 a0_0, .int .i64 a0_1, .int .i64 a0_2, .int .i64 a0_3, .string a0_4, .string a0_5, .string a0_6, .string a0_7, .slice A0_8 l0_8.length c0_8]) (t := 24) ?hr ?_; (case hd => rfl); (case hg => rfl); (case hr => first | (go_simp; done) | (go_simp; rfl)); intro gb154 hg w10 hbox hb; have n0_ := Aside0.mk (below_step (by repeat (first | (with_reducible first | exact HB.out | apply below_alloc | apply pw_below_drewN | apply below_drew1) | exact HB.out)) hb); have n1_ := Aside0.mk (hbox); have n2_ := Aside0.mk ((by rw [hg]; exact (below_size (by repeat (first | (with_reducible first | exact HB.out | apply below_alloc | apply pw_below_drewN | apply below_drew1) | exact HB.out))) : w.heap.size ≤ gb154)); have n3_ := Aside0.mk ((by rw [hg]; exact (below_size (by repeat (first | (with_reducible first | exact HB.out | apply below_alloc | apply pw_below_drewN | apply below_drew1) | exact HB.out))) : w.heap.size ≤ gb154)); clear HB; have HB := n0_; have BK154 := n1_; have GW154 := n2_; have GE154 := n3_; clear n0_ n1_ n2_ n3_; clear hb hbox hg; have hcz11_0 : w10.cell? ⟨gb154, 0, none⟩ = some (.int .i64 a0_0) := (blk_cell BK154.out 0).trans rfl; have hcz11_1 : w10.cell? ⟨gb154, 1, none⟩ = some (.int .i64 a0_1) := (blk_cell BK154.out 1).trans rfl; have hcz11_2 : w10.cell? ⟨gb154, 2, none⟩ = some (.int .i64 a0_2) := (blk_cell BK154.out 2).trans rfl; have hcz11_3 : w10.cell? ⟨gb154, 3, none⟩ = some (.int .i64 a0_3) := (blk_cell BK154.out 3).trans rfl; have hcz11_4 : w10.cell? ⟨gb154, 4, none⟩ = some (.string a0_4) := (blk_cell BK154.out 4).trans rfl; have hcz11_5 : w10.cell? ⟨gb154, 5, none⟩ = some (.string a0_5) := (blk_cell BK154.out 5).trans rfl; have hcz11_6 : w10.cell? ⟨gb154, 6, none⟩ = some (.string a0_6) := (blk_cell BK154.out 6).trans rfl; have hcz11_7 : w10.cell? ⟨gb154, 7, none⟩ = some (.string a0_7) := (blk_cell BK154.out 7).trans rfl; have hcz11_8 : w10.cell? ⟨gb154, 8, none⟩ = some (.slice A0_8 l0_8.length c0_8) := (blk_cell BK154.out 8).trans rfl; have hfz11_0 := blk_frozen BK154.out 0; have hfz11_1 := blk_frozen BK154.out 1; have hfz11_2 := blk_frozen BK154.out 2; have hfz11_3 := blk_frozen BK154.out 3; have hfz11_4 := blk_frozen BK154.out 4; have hfz11_5 := blk_frozen BK154.out 5; have hfz11_6 := blk_frozen BK154.out 6; have hfz11_7 := blk_frozen BK154.out 7; have hfz11_8 := blk_frozen BK154.out 8))
              have n0_ := Aside0.mk (blk_drew BK154.out)
              have n1_ := Aside0.mk (below_drew1 HB.out)
              clear BK154
              clear HB
              have BK154 := n0_
              have HB := n1_
              clear n0_ n1_
              refine start_ (n := 14) (S := fun w' => w'.cell? ⟨gb154, 0, none⟩ = some (.int .i64 a0_0) ∧ w'.cell? ⟨gb154, 1, none⟩ = some (.int .i64 a0_1) ∧ w'.cell? ⟨gb154, 2, none⟩ = some (.int .i64 a0_2) ∧ w'.cell? ⟨gb154, 3, none⟩ = some (.int .i64 a0_3) ∧ w'.cell? ⟨gb154, 4, none⟩ = some (.string a0_4) ∧ w'.cell? ⟨gb154, 5, none⟩ = some (.string a0_5) ∧ w'.cell? ⟨gb154, 6, none⟩ = some (.string a0_6) ∧ w'.cell? ⟨gb154, 7, none⟩ = some (.string a0_7) ∧ w'.cell? ⟨gb154, 8, none⟩ = some (.slice A0_8 l0_8.length c0_8)) (ds := []) #[false, false, false, false, false, false, false, false, false, false, false, false, false, false] (by kernel_rfl) rfl rfl ⟨(blk_cell BK154.out 0).trans rfl, (blk_cell BK154.out 1).trans rfl, (blk_cell BK154.out 2).trans rfl, (blk_cell BK154.out 3).trans rfl, (blk_cell BK154.out 4).trans rfl, (blk_cell BK154.out 5).trans rfl, (blk_cell BK154.out 6).trans rfl, (blk_cell BK154.out 7).trans rfl, (blk_cell BK154.out 8).trans rfl⟩ (fun hHeld => ?_); refine with_tabW tendrilref25_Line.tab3 tendrilref25_Line.bits3 (fun HT_ HW_ => ?_)
              generalize w10.drew = w12 at BK154 HB hHeld ⊢
              refine pure_ (i := 0) (N := some 9) (v := ?_) (a' := ?_) #[true, false, false, false, false, false, false, false, false, false, false, false, false, false] rfl rfl (any_of HT_.out (by kernel_rfl)) (fun _ _ _ h => h) (Or.inl ⟨by rfl, ?_⟩) ?_ ?_
              rotate_left
              · intro w'
                go_simp
                with_reducible rfl
              rotate_left
              · simp only [Act.put, List.setIfInBounds_toArray, List.set_cons_zero, List.set_cons_succ, i64_w, i32_w]
                rfl
              refine pure_ (i := 4) (N := some 13) (v := ?_) (a' := ?_) #[true, false, false, false, true, false, false, false, false, false, false, false, false, false] rfl rfl (any_of HT_.out (by kernel_rfl)) (fun _ _ _ h => h) (Or.inl ⟨by rfl, ?_⟩) ?_ ?_
              rotate_left
              · intro w'
                go_simp
                with_reducible rfl
              rotate_left
              · simp only [Act.put, List.setIfInBounds_toArray, List.set_cons_zero, List.set_cons_succ, i64_w, i32_w]
                rfl
              refine pure_ (i := 9) (N := some 18) (v := ?_) (a' := ?_) #[true, false, false, false, true, false, false, false, false, true, false, false, false, false] rfl rfl (any_of HT_.out (by kernel_rfl)) (fun _ _ _ h => h) (Or.inl ⟨by rfl, ?_⟩) ?_ ?_
              rotate_left
              · intro w'
                go_simp
                with_reducible rfl
              rotate_left
              · simp only [Act.put, List.setIfInBounds_toArray, List.set_cons_zero, List.set_cons_succ, i64_w, i32_w]
                rfl
              refine take_ (i := 1) (N := some 10) (v := ?_) (a' := ?_) #[true, true, false, false, true, false, false, false, false, true, false, false, false, false] rfl rfl (take_ofW HT_.out HW_.out (by kernel_rfl)) (fun _ _ _ h => h) (Or.inl ⟨by rfl, ?_⟩) hHeld ?_ ?_
              rotate_left
              · rintro w' ⟨s0, s1, s2, s3, s4, s5, s6, s7, s8⟩
                go_simp
                with_reducible rfl
              rotate_left
              · simp only [Act.put, List.setIfInBounds_toArray, List.set_cons_zero, List.set_cons_succ, i64_w, i32_w]
                rfl
              refine pure_ (i := 2) (N := some 11) (v := ?_) (a' := ?_) #[true, true, true, false, true, false, false, false, false, true, false, false, false, false] rfl rfl (any_of HT_.out (by kernel_rfl)) (fun _ _ _ h => h) (Or.inl ⟨by rfl, ?_⟩) ?_ ?_
              rotate_left
              · intro w'
                go_simp
                with_reducible rfl
              rotate_left
              · simp only [Act.put, List.setIfInBounds_toArray, List.set_cons_zero, List.set_cons_succ, i64_w, i32_w]
                rfl
              refine pure_ (i := 3) (N := some 12) (v := ?_) (a' := ?_) #[true, true, true, true, true, false, false, false, false, true, false, false, false, false] rfl rfl (any_of HT_.out (by kernel_rfl)) (fun _ _ _ h => h) (Or.inl ⟨by rfl, ?_⟩) ?_ ?_
              rotate_left
              · intro w'
                go_simp
                with_reducible rfl
              rotate_left
              · simp only [Act.put, List.setIfInBounds_toArray, List.set_cons_zero, List.set_cons_succ, i64_w, i32_w]
                rfl
              refine take_ (i := 5) (N := some 14) (v := ?_) (a' := ?_) #[true, true, true, true, true, true, false, false, false, true, false, false, false, false] rfl rfl (take_ofW HT_.out HW_.out (by kernel_rfl)) (fun _ _ _ h => h) (Or.inl ⟨by rfl, ?_⟩) hHeld ?_ ?_
              rotate_left
              · rintro w' ⟨s0, s1, s2, s3, s4, s5, s6, s7, s8⟩
                go_simp
                with_reducible rfl
              rotate_left
              · simp only [Act.put, List.setIfInBounds_toArray, List.set_cons_zero, List.set_cons_succ, i64_w, i32_w]
                rfl
              refine take_ (i := 10) (N := some 19) (v := ?_) (a' := ?_) #[true, true, true, true, true, true, false, false, false, true, true, false, false, false] rfl rfl (take_ofW HT_.out HW_.out (by kernel_rfl)) (fun _ _ _ h => h) (Or.inl ⟨by rfl, ?_⟩) hHeld ?_ ?_
              rotate_left
              · rintro w' ⟨s0, s1, s2, s3, s4, s5, s6, s7, s8⟩
                go_simp
                with_reducible rfl
              rotate_left
              · simp only [Act.put, List.setIfInBounds_toArray, List.set_cons_zero, List.set_cons_succ, i64_w, i32_w]
                rfl
              refine one_ (i := 6) (N := some 15) #[true, true, true, true, true, true, true, false, false, true, true, false, false, false] rfl rfl (one_of HT_.out (by kernel_rfl)) (by decide) (fun K hK => ?_)
              refine goes_ Tryd.func31 (by kernel_rfl) rfl #[.string a0_5] (by rfl) rfl rfl (by (try simp only [List.map_toArray, List.map_cons, List.map_nil]); first | done | rfl | (simp only [List.length_drop, List.length_take]; rfl)) ?_
              with_reducible refine (tendrilref25_quoted.calls k a0_5 t155 _ ?side1 A5.out).mono ?_
              (case side1 => first | exact HGL.out | exact (Go.Proofs.YtgdemingopcgaaaDoorX.GL.below HGL.out (by repeat (first | (with_reducible first | exact HB.out | apply below_alloc | apply pw_below_drewN | apply below_drew1 | refine below_set ?_ GE154.out) | exact HB.out))) | (repeat (first | exact HGL.out | (with_reducible refine Go.Proofs.YtgdemingopcgaaaDoorX.GL.drewN ?_ _) | (with_reducible refine Go.Proofs.YtgdemingopcgaaaDoorX.GL.drew ?_))))
              rintro e w13 ⟨rfl, hb⟩
              refine ⟨_, rfl, ?_⟩
              have n0_ := Aside0.mk (blk_below (g := gb154) (o := .cells #[.int .i64 a0_0, .int .i64 a0_1, .int .i64 a0_2, .int .i64 a0_3, .string a0_4, .string a0_5, .string a0_6, .string a0_7, .slice A0_8 l0_8.length c0_8] 24 (0, 0)) (by (with_reducible repeat (first | refine blk_drewN ?_ _ | refine blk_drew ?_ | refine blk_alloc ?_ _)); exact BK154.out) hb)
              have n1_ := Aside0.mk (below_step (by repeat (first | (with_reducible first | exact HB.out | apply below_alloc | apply pw_below_drewN | apply below_drew1 | refine below_set ?_ GE154.out) | exact HB.out)) hb)
              clear BK154
              clear HB
              have BK154 := n0_
              have HB := n1_
              clear n0_ n1_
              (try clear hb)
              (try clear hb2)
              (try clear hk)
              (try clear hi)
              refine hK.out _ _ ⟨(blk_cell BK154.out 0).trans rfl, (blk_cell BK154.out 1).trans rfl, (blk_cell BK154.out 2).trans rfl, (blk_cell BK154.out 3).trans rfl, (blk_cell BK154.out 4).trans rfl, (blk_cell BK154.out 5).trans rfl, (blk_cell BK154.out 6).trans rfl, (blk_cell BK154.out 7).trans rfl, (blk_cell BK154.out 8).trans rfl⟩ (fun hHeld => ?_)
              clear hK K
              refine norm_ (a' := ?_) ?_ ?_
              rotate_left
              · show Act.put _ (some 15) _ = _
                simp only [Act.put, List.setIfInBounds_toArray, List.set_cons_zero, List.set_cons_succ, i64_w, i32_w]
                rfl
              refine pure_ (i := 7) (N := some 16) (v := ?_) (a' := ?_) #[true, true, true, true, true, true, true, true, false, true, true, false, false, false] rfl rfl (any_of HT_.out (by kernel_rfl)) (fun _ _ _ h => h) (Or.inl ⟨by rfl, ?_⟩) ?_ ?_
              rotate_left
              · intro w'
                go_simp
                with_reducible rfl
              rotate_left
              · simp only [Act.put, List.setIfInBounds_toArray, List.set_cons_zero, List.set_cons_succ, i64_w, i32_w]
                rfl
              refine pure_ (i := 8) (N := some 17) (v := ?_) (a' := ?_) #[true, true, true, true, true, true, true, true, true, true, true, false, false, false] rfl rfl (any_of HT_.out (by kernel_rfl)) (fun _ _ _ h => h) (Or.inl ⟨by rfl, ?_⟩) ?_ ?_
              rotate_left
              · intro w'
                go_simp
                with_reducible rfl
              rotate_left
              · simp only [Act.put, List.setIfInBounds_toArray, List.set_cons_zero, List.set_cons_succ, i64_w, i32_w]
                rfl
              refine one_ (i := 11) (N := some 20) #[true, true, true, true, true, true, true, true, true, true, true, true, false, false] rfl rfl (one_of HT_.out (by kernel_rfl)) (by decide) (fun K hK => ?_)
              refine goes_ Tryd.func31 (by kernel_rfl) rfl #[.string a0_7] (by rfl) rfl rfl (by (try simp only [List.map_toArray, List.map_cons, List.map_nil]); first | done | rfl | (simp only [List.length_drop, List.length_take]; rfl)) ?_
              with_reducible refine (tendrilref25_quoted.calls k a0_7 t156 _ ?side1 A8.out).mono ?_
              (case side1 => first | exact HGL.out | exact (Go.Proofs.YtgdemingopcgaaaDoorX.GL.below HGL.out (by repeat (first | (with_reducible first | exact HB.out | apply below_alloc | apply pw_below_drewN | apply below_drew1 | refine below_set ?_ GE154.out) | exact HB.out))) | (repeat (first | exact HGL.out | (with_reducible refine Go.Proofs.YtgdemingopcgaaaDoorX.GL.drewN ?_ _) | (with_reducible refine Go.Proofs.YtgdemingopcgaaaDoorX.GL.drew ?_))))
              rintro e w14 ⟨rfl, hb⟩
              refine ⟨_, rfl, ?_⟩
              have n0_ := Aside0.mk (blk_below (g := gb154) (o := .cells #[.int .i64 a0_0, .int .i64 a0_1, .int .i64 a0_2, .int .i64 a0_3, .string a0_4, .string a0_5, .string a0_6, .string a0_7, .slice A0_8 l0_8.length c0_8] 24 (0, 0)) (by (with_reducible repeat (first | refine blk_drewN ?_ _ | refine blk_drew ?_ | refine blk_alloc ?_ _)); exact BK154.out) hb)
              have n1_ := Aside0.mk (below_step (by repeat (first | (with_reducible first | exact HB.out | apply below_alloc | apply pw_below_drewN | apply below_drew1 | refine below_set ?_ GE154.out) | exact HB.out)) hb)
              clear BK154
              clear HB
              have BK154 := n0_
              have HB := n1_
              clear n0_ n1_
              (try clear hb)
              (try clear hb2)
              (try clear hk)
              (try clear hi)
              refine hK.out _ _ ⟨(blk_cell BK154.out 0).trans rfl, (blk_cell BK154.out 1).trans rfl, (blk_cell BK154.out 2).trans rfl, (blk_cell BK154.out 3).trans rfl, (blk_cell BK154.out 4).trans rfl, (blk_cell BK154.out 5).trans rfl, (blk_cell BK154.out 6).trans rfl, (blk_cell BK154.out 7).trans rfl, (blk_cell BK154.out 8).trans rfl⟩ (fun hHeld => ?_)
              clear hK K
              refine norm_ (a' := ?_) ?_ ?_
              rotate_left
              · show Act.put _ (some 20) _ = _
                simp only [Act.put, List.setIfInBounds_toArray, List.set_cons_zero, List.set_cons_succ, i64_w, i32_w]
                rfl
              refine pure_ (i := 12) (N := some 21) (v := ?_) (a' := ?_) #[true, true, true, true, true, true, true, true, true, true, true, true, true, false] rfl rfl (any_of HT_.out (by kernel_rfl)) (fun _ _ _ h => h) (Or.inl ⟨by rfl, ?_⟩) ?_ ?_
              rotate_left
              · intro w'
                go_simp
                with_reducible rfl
              rotate_left
              · simp only [Act.put, List.setIfInBounds_toArray, List.set_cons_zero, List.set_cons_succ, i64_w, i32_w]
                rfl
              refine pure_ (i := 13) (N := some 3) (v := ?_) (a' := ?_) #[true, true, true, true, true, true, true, true, true, true, true, true, true, true] rfl rfl (any_of HT_.out (by kernel_rfl)) (fun _ _ _ h => h) (Or.inl ⟨by rfl, ?_⟩) ?_ ?_
              rotate_left
              · intro w'
                go_simp
                with_reducible rfl
              rotate_left
              · simp only [Act.put, List.setIfInBounds_toArray, List.set_cons_zero, List.set_cons_succ, i64_w, i32_w]
                rfl
              refine done_ (done_of HT_.out (by kernel_rfl)) ?_
              have hcz15_0 : w14.cell? ⟨gb154, 0, none⟩ = some (.int .i64 a0_0) := (blk_cell BK154.out 0).trans rfl
              have hcz15_1 : w14.cell? ⟨gb154, 1, none⟩ = some (.int .i64 a0_1) := (blk_cell BK154.out 1).trans rfl
              have hcz15_2 : w14.cell? ⟨gb154, 2, none⟩ = some (.int .i64 a0_2) := (blk_cell BK154.out 2).trans rfl
              have hcz15_3 : w14.cell? ⟨gb154, 3, none⟩ = some (.int .i64 a0_3) := (blk_cell BK154.out 3).trans rfl
              have hcz15_4 : w14.cell? ⟨gb154, 4, none⟩ = some (.string a0_4) := (blk_cell BK154.out 4).trans rfl
              have hcz15_5 : w14.cell? ⟨gb154, 5, none⟩ = some (.string a0_5) := (blk_cell BK154.out 5).trans rfl
              have hcz15_6 : w14.cell? ⟨gb154, 6, none⟩ = some (.string a0_6) := (blk_cell BK154.out 6).trans rfl
              have hcz15_7 : w14.cell? ⟨gb154, 7, none⟩ = some (.string a0_7) := (blk_cell BK154.out 7).trans rfl
              have hcz15_8 : w14.cell? ⟨gb154, 8, none⟩ = some (.slice A0_8 l0_8.length c0_8) := (blk_cell BK154.out 8).trans rfl
              have hfz15_0 := blk_frozen BK154.out 0
              have hfz15_1 := blk_frozen BK154.out 1
              have hfz15_2 := blk_frozen BK154.out 2
              have hfz15_3 := blk_frozen BK154.out 3
              have hfz15_4 := blk_frozen BK154.out 4
              have hfz15_5 := blk_frozen BK154.out 5
              have hfz15_6 := blk_frozen BK154.out 6
              have hfz15_7 := blk_frozen BK154.out 7
              have hfz15_8 := blk_frozen BK154.out 8
              try go_wp2
              go_loopg [3, 25] k (fun kq v3 v25 w' => ∃ (x3_1 : ByteArray) (x25_1 : Int), v3 = .string x3_1 ∧ v25 = .int .i64 x25_1 ∧ Aside0 (tendrilref25_Line.l0 kq x3_1 (l0_8.length : Int) x25_1 a0_0 a0_1 a0_2 a0_3 a0_4 a0_5 a0_6 a0_7 l0_8 = some r) ∧ Aside0 (kq ≤ k) ∧ Aside0 (w'.heap[gb154]? = some (.cells #[.int .i64 a0_0, .int .i64 a0_1, .int .i64 a0_2, .int .i64 a0_3, .string a0_4, .string a0_5, .string a0_6, .string a0_7, (.slice A0_8 l0_8.length c0_8)] 24 (0, 0))) ∧ Aside0 (Below w.heap.size w w'))
              case atStart => exact ⟨((((((⟨#[99, 114, 101, 97, 116, 101, 32]⟩ : ByteArray) ++ a0_4) ++ (⟨#[32]⟩ : ByteArray)) ++ t155) ++ (⟨#[32]⟩ : ByteArray)) ++ t156), (0), (by first | rfl | (simp; done) | (simp [*]; done)), (by first | rfl | (simp; done) | (simp [*]; done)), H', ⟨Nat.le_refl _⟩, ⟨by (with_reducible repeat (first | refine blk_drewN ?_ _ | refine blk_drew ?_ | refine blk_alloc ?_ _)); exact BK154.out⟩, ⟨by repeat (first | (with_reducible first | exact HB.out | apply below_alloc | apply pw_below_drewN | apply below_drew1 | refine below_set ?_ GE154.out) | exact HB.out)⟩⟩
              case round =>
                clear H'
                try clear c1
                try clear c2
                try clear c2b0
                try clear c2b1
                try clear p2
                try clear c3
                try clear c3b0
                try clear c3b1
                try clear c3b2
                try clear c4
                try clear c4b0
                try clear c4b1
                try clear c4b2
                try clear c6
                try clear c6b0
                try clear c6b1
                try clear c6b2
                try clear c7
                try clear c7b0
                try clear c7b1
                try clear c7b2
                try clear c9
                try clear c9b0
                try clear c9b1
                try clear c9b2
                try clear c11
                try clear hcz11_0
                try clear hcz11_1
                try clear hcz11_2
                try clear hcz11_3
                try clear hcz11_4
                try clear hcz11_5
                try clear hcz11_6
                try clear hcz11_7
                try clear hcz11_8
                try clear hcz15_0
                try clear hcz15_1
                try clear hcz15_2
                try clear hcz15_3
                try clear hcz15_4
                try clear hcz15_5
                try clear hcz15_6
                try clear hcz15_7
                try clear hcz15_8
                try clear hfz11_0
                try clear hfz11_1
                try clear hfz11_2
                try clear hfz11_3
                try clear hfz11_4
                try clear hfz11_5
                try clear hfz11_6
                try clear hfz11_7
                try clear hfz11_8
                try clear hfz15_0
                try clear hfz15_1
                try clear hfz15_2
                try clear hfz15_3
                try clear hfz15_4
                try clear hfz15_5
                try clear hfz15_6
                try clear hfz15_7
                try clear hfz15_8
                obtain ⟨x3_1, x25_1, rfl, rfl, HA, HK1, BK154, HB⟩ := hrel
                cases gk with
                | zero => exact absurd HA.out (by simp [tendrilref25_Line.l0])
                | succ k1 =>
                  have H := HA.out
                  clear HA
                  simp only [tendrilref25_Line.l0] at H
                  by_cases c16 : x25_1 < (l0_8.length : Int)
                  · rw [if_pos c16] at H
                    have c16b0 : decide (x25_1 < (l0_8.length : Int)) = true := decide_eq_true c16
                    clear c16
                    by_cases c17 : x3_1.size + 1 ≤ 9223372036854775807
                    · rw [if_pos c17] at H
                      have c17b0 := eq_true c17
                      have c17b1 : decide (x3_1.size + 1 ≤ 9223372036854775807) = true := decide_eq_true c17
                      try have c17b2 : (9223372036854775807 < x3_1.size + 1) = False := eq_false (Nat.not_lt.2 c17)
                      by_cases c18 : 0 ≤ x25_1
                      · rw [if_pos c18] at H
                        have c18b0 : decide (0 ≤ x25_1) = true := decide_eq_true c18
                        clear c18
                        by_cases c19 : x25_1 < (l0_8.length : Int)
                        · rw [if_pos c19] at H
                          have c19b0 : decide (x25_1 < (l0_8.length : Int)) = true := decide_eq_true c19
                          clear c19
                          by_cases c20 : (x3_1 ++ (⟨#[32]⟩ : ByteArray)).size + ((rd_T51 l0_8 x25_1).f0).size ≤ 9223372036854775807
                          · rw [if_pos c20] at H
                            have c20b0 := eq_true c20
                            have c20b1 : decide ((x3_1 ++ (⟨#[32]⟩ : ByteArray)).size + ((rd_T51 l0_8 x25_1).f0).size ≤ 9223372036854775807) = true := decide_eq_true c20
                            try have c20b2 : (9223372036854775807 < (x3_1 ++ (⟨#[32]⟩ : ByteArray)).size + ((rd_T51 l0_8 x25_1).f0).size) = False := eq_false (Nat.not_lt.2 c20)
                            have c20b2x : (9223372036854775807 < x3_1.size + 1 + ((rd_T51 l0_8 x25_1).f0).size) = False := eq_false (Nat.not_lt.2 (by have h_ := c20; simp only [ByteArray.size_append] at h_; exact h_))
                            by_cases c21 : ((x3_1 ++ (⟨#[32]⟩ : ByteArray)) ++ ((rd_T51 l0_8 x25_1).f0)).size + 1 ≤ 9223372036854775807
                            · rw [if_pos c21] at H
                              have c21b0 := eq_true c21
                              have c21b1 : decide (((x3_1 ++ (⟨#[32]⟩ : ByteArray)) ++ ((rd_T51 l0_8 x25_1).f0)).size + 1 ≤ 9223372036854775807) = true := decide_eq_true c21
                              try have c21b2 : (9223372036854775807 < ((x3_1 ++ (⟨#[32]⟩ : ByteArray)) ++ ((rd_T51 l0_8 x25_1).f0)).size + 1) = False := eq_false (Nat.not_lt.2 c21)
                              have c21b2x : (9223372036854775807 < x3_1.size + 1 + ((rd_T51 l0_8 x25_1).f0).size + 1) = False := eq_false (Nat.not_lt.2 (by have h_ := c21; simp only [ByteArray.size_append] at h_; exact h_))
                              replace H := Option.bind_eq_some_iff.mp H
                              obtain ⟨t159, A220, H⟩ := H
                              replace H : (if (((x3_1 ++ (⟨#[32]⟩ : ByteArray)) ++ ((rd_T51 l0_8 x25_1).f0)) ++ (⟨#[61]⟩ : ByteArray)).size + t159.size ≤ 9223372036854775807 then (tendrilref25_Line.l0 k1 ((((x3_1 ++ (⟨#[32]⟩ : ByteArray)) ++ ((rd_T51 l0_8 x25_1).f0)) ++ (⟨#[61]⟩ : ByteArray)) ++ t159) (l0_8.length : Int) (wrap64 (x25_1 + 1)) a0_0 a0_1 a0_2 a0_3 a0_4 a0_5 a0_6 a0_7 l0_8) else (none)) = some r := H
                              have A22 := Aside0.mk A220
                              clear A220
                              by_cases c23 : (((x3_1 ++ (⟨#[32]⟩ : ByteArray)) ++ ((rd_T51 l0_8 x25_1).f0)) ++ (⟨#[61]⟩ : ByteArray)).size + t159.size ≤ 9223372036854775807
                              · rw [if_pos c23] at H
                                have c23b0 := eq_true c23
                                have c23b1 : decide ((((x3_1 ++ (⟨#[32]⟩ : ByteArray)) ++ ((rd_T51 l0_8 x25_1).f0)) ++ (⟨#[61]⟩ : ByteArray)).size + t159.size ≤ 9223372036854775807) = true := decide_eq_true c23
                                try have c23b2 : (9223372036854775807 < (((x3_1 ++ (⟨#[32]⟩ : ByteArray)) ++ ((rd_T51 l0_8 x25_1).f0)) ++ (⟨#[61]⟩ : ByteArray)).size + t159.size) = False := eq_false (Nat.not_lt.2 c23)
                                have c23b2x : (9223372036854775807 < x3_1.size + 1 + ((rd_T51 l0_8 x25_1).f0).size + 1 + t159.size) = False := eq_false (Nat.not_lt.2 (by have h_ := c23; simp only [ByteArray.size_append] at h_; exact h_))
                                have H' := Aside0.mk H
                                clear H
                                try go_wp2
                                have n0_ := Aside0.mk (blk_drew BK154.out)
                                have n1_ := Aside0.mk (below_drew1 HB.out)
                                clear BK154
                                clear HB
                                have BK154 := n0_
                                have HB := n1_
                                clear n0_ n1_
                                have p157 : 0 ≤ (x25_1 : Int) := of_decide_eq_true (by first | (with_reducible assumption) | assumption)
                                have q157 : x25_1 < (l0_8.length : Int) := of_decide_eq_true (by first | (with_reducible assumption) | assumption)
                                obtain ⟨ad157, e157, hx157_0, hx157_1⟩ := at_T51 HR0_8.out x25_1 p157 q157
                                have hw157_1 := hx157_1
                                have hw157_0 := hx157_0
                                cases e157
                                replace hx157_0 := (HB.out.cell (World.block_lt_of_cell? w _ hx157_0)).trans hx157_0
                                replace hx157_1 := (HB.out.cell (World.block_lt_of_cell? w _ hx157_1)).trans hx157_1
                                replace p157 := eq_true p157
                                replace q157 := eq_true q157
                                have p158 : 0 ≤ (x25_1 : Int) := of_decide_eq_true (by first | (with_reducible assumption) | assumption)
                                have q158 : x25_1 < (l0_8.length : Int) := of_decide_eq_true (by first | (with_reducible assumption) | assumption)
                                obtain ⟨ad158, e158, hx158_0, hx158_1⟩ := at_T51 HR0_8.out x25_1 p158 q158
                                have hw158_1 := hx158_1
                                have hw158_0 := hx158_0
                                obtain rfl : ad157 = ad158 := (by injection e158)
                                replace hx158_0 := (HB.out.cell (World.block_lt_of_cell? w _ hx158_0)).trans hx158_0
                                replace hx158_1 := (HB.out.cell (World.block_lt_of_cell? w _ hx158_1)).trans hx158_1
                                replace p158 := eq_true p158
                                replace q158 := eq_true q158
                                refine start_ (n := 19) (S := fun w' => w'.cell? ⟨gb154, 0, none⟩ = some (.int .i64 a0_0) ∧ w'.cell? ⟨gb154, 1, none⟩ = some (.int .i64 a0_1) ∧ w'.cell? ⟨gb154, 2, none⟩ = some (.int .i64 a0_2) ∧ w'.cell? ⟨gb154, 3, none⟩ = some (.int .i64 a0_3) ∧ w'.cell? ⟨gb154, 4, none⟩ = some (.string a0_4) ∧ w'.cell? ⟨gb154, 5, none⟩ = some (.string a0_5) ∧ w'.cell? ⟨gb154, 6, none⟩ = some (.string a0_6) ∧ w'.cell? ⟨gb154, 7, none⟩ = some (.string a0_7) ∧ w'.cell? ⟨gb154, 8, none⟩ = some (.slice (some ad157) l0_8.length c0_8) ∧ w'.cell? (ad157.add ((x25_1).toNat * 2)) = some (.string ((rd_T51 l0_8 x25_1).f0)) ∧ w'.cell? ⟨(ad157.add ((x25_1).toNat * 2)).block, (ad157.add ((x25_1).toNat * 2)).off + 1, none⟩ = some (.string ((rd_T51 l0_8 x25_1).f1)) ∧ w'.cell? (ad157.add ((x25_1).toNat * 2)) = some (.string ((rd_T51 l0_8 x25_1).f0)) ∧ w'.cell? ⟨(ad157.add ((x25_1).toNat * 2)).block, (ad157.add ((x25_1).toNat * 2)).off + 1, none⟩ = some (.string ((rd_T51 l0_8 x25_1).f1))) (ds := []) #[false, false, false, false, false, false, false, false, false, false, false, false, false, false, false, false, false, false, false] (by kernel_rfl) rfl rfl ⟨(blk_cell BK154.out 0).trans rfl, (blk_cell BK154.out 1).trans rfl, (blk_cell BK154.out 2).trans rfl, (blk_cell BK154.out 3).trans rfl, (blk_cell BK154.out 4).trans rfl, (blk_cell BK154.out 5).trans rfl, (blk_cell BK154.out 6).trans rfl, (blk_cell BK154.out 7).trans rfl, (blk_cell BK154.out 8).trans rfl, ((HB.out.cell (World.block_lt_of_cell? w _ hw157_0)).trans hw157_0), ((HB.out.cell (World.block_lt_of_cell? w _ hw157_1)).trans hw157_1), ((HB.out.cell (World.block_lt_of_cell? w _ hw158_0)).trans hw158_0), ((HB.out.cell (World.block_lt_of_cell? w _ hw158_1)).trans hw158_1)⟩ (fun hHeld => ?_); refine with_tabW tendrilref25_Line.tab7 tendrilref25_Line.bits7 (fun HT_ HW_ => ?_)
                                generalize wr.drew = w24 at BK154 HB hx157_0 hx157_1 hx158_0 hx158_1 hHeld ⊢
                                refine pure_ (i := 0) (N := some 28) (v := ?_) (a' := ?_) #[true, false, false, false, false, false, false, false, false, false, false, false, false, false, false, false, false, false, false] rfl rfl (any_of HT_.out (by kernel_rfl)) (fun _ _ _ h => h) (Or.inl ⟨by rfl, ?_⟩) ?_ ?_
                                rotate_left
                                · intro w'
                                  go_simp
                                  with_reducible rfl
                                rotate_left
                                · simp only [Act.put, List.setIfInBounds_toArray, List.set_cons_zero, List.set_cons_succ, i64_w, i32_w]
                                  rfl
                                refine pure_ (i := 1) (N := some 29) (v := ?_) (a' := ?_) #[true, true, false, false, false, false, false, false, false, false, false, false, false, false, false, false, false, false, false] rfl rfl (any_of HT_.out (by kernel_rfl)) (fun _ _ _ h => h) (Or.inl ⟨by rfl, ?_⟩) ?_ ?_
                                rotate_left
                                · intro w'
                                  go_simp
                                  with_reducible rfl
                                rotate_left
                                · simp only [Act.put, List.setIfInBounds_toArray, List.set_cons_zero, List.set_cons_succ, i64_w, i32_w]
                                  rfl
                                refine pure_ (i := 2) (N := some 30) (v := ?_) (a' := ?_) #[true, true, true, false, false, false, false, false, false, false, false, false, false, false, false, false, false, false, false] rfl rfl (any_of HT_.out (by kernel_rfl)) (fun _ _ _ h => h) (Or.inl ⟨by rfl, ?_⟩) ?_ ?_
                                rotate_left
                                · intro w'
                                  go_simp
                                  with_reducible rfl
                                rotate_left
                                · simp only [Act.put, List.setIfInBounds_toArray, List.set_cons_zero, List.set_cons_succ, i64_w, i32_w]
                                  rfl
                                refine pure_ (i := 4) (N := some 32) (v := ?_) (a' := ?_) #[true, true, true, false, true, false, false, false, false, false, false, false, false, false, false, false, false, false, false] rfl rfl (any_of HT_.out (by kernel_rfl)) (fun _ _ _ h => h) (Or.inl ⟨by rfl, ?_⟩) ?_ ?_
                                rotate_left
                                · intro w'
                                  go_simp
                                  with_reducible rfl
                                rotate_left
                                · simp only [Act.put, List.setIfInBounds_toArray, List.set_cons_zero, List.set_cons_succ, i64_w, i32_w]
                                  rfl
                                refine pure_ (i := 10) (N := some 38) (v := ?_) (a' := ?_) #[true, true, true, false, true, false, false, false, false, false, true, false, false, false, false, false, false, false, false] rfl rfl (any_of HT_.out (by kernel_rfl)) (fun _ _ _ h => h) (Or.inl ⟨by rfl, ?_⟩) ?_ ?_
                                rotate_left
                                · intro w'
                                  go_simp
                                  with_reducible rfl
                                rotate_left
                                · simp only [Act.put, List.setIfInBounds_toArray, List.set_cons_zero, List.set_cons_succ, i64_w, i32_w]
                                  rfl
                                refine pure_ (i := 12) (N := some 40) (v := ?_) (a' := ?_) #[true, true, true, false, true, false, false, false, false, false, true, false, true, false, false, false, false, false, false] rfl rfl (any_of HT_.out (by kernel_rfl)) (fun _ _ _ h => h) (Or.inl ⟨by rfl, ?_⟩) ?_ ?_
                                rotate_left
                                · intro w'
                                  go_simp
                                  with_reducible rfl
                                rotate_left
                                · simp only [Act.put, List.setIfInBounds_toArray, List.set_cons_zero, List.set_cons_succ, i64_w, i32_w]
                                  rfl
                                refine take_ (i := 3) (N := some 31) (v := ?_) (a' := ?_) #[true, true, true, true, true, false, false, false, false, false, true, false, true, false, false, false, false, false, false] rfl rfl (take_ofW HT_.out HW_.out (by kernel_rfl)) (fun _ _ _ h => h) (Or.inl ⟨by rfl, ?_⟩) hHeld ?_ ?_
                                rotate_left
                                · rintro w' ⟨s0, s1, s2, s3, s4, s5, s6, s7, s8, s9, s10, s11, s12⟩
                                  go_simp
                                  with_reducible rfl
                                rotate_left
                                · simp only [Act.put, List.setIfInBounds_toArray, List.set_cons_zero, List.set_cons_succ, i64_w, i32_w]
                                  rfl
                                refine pure_ (i := 5) (N := some 33) (v := ?_) (a' := ?_) #[true, true, true, true, true, true, false, false, false, false, true, false, true, false, false, false, false, false, false] rfl rfl (any_of HT_.out (by kernel_rfl)) (fun _ _ _ h => h) (Or.inl ⟨by rfl, ?_⟩) ?_ ?_
                                rotate_left
                                · intro w'
                                  go_simp
                                  with_reducible rfl
                                rotate_left
                                · simp only [Act.put, List.setIfInBounds_toArray, List.set_cons_zero, List.set_cons_succ, i64_w, i32_w]
                                  rfl
                                refine pure_ (i := 6) (N := some 34) (v := ?_) (a' := ?_) #[true, true, true, true, true, true, true, false, false, false, true, false, true, false, false, false, false, false, false] rfl rfl (any_of HT_.out (by kernel_rfl)) (fun _ _ _ h => h) (Or.inl ⟨by rfl, ?_⟩) ?_ ?_
                                rotate_left
                                · intro w'
                                  go_simp
                                  with_reducible rfl
                                rotate_left
                                · simp only [Act.put, List.setIfInBounds_toArray, List.set_cons_zero, List.set_cons_succ, i64_w, i32_w]
                                  rfl
                                refine take_ (i := 7) (N := some 35) (v := ?_) (a' := ?_) #[true, true, true, true, true, true, true, true, false, false, true, false, true, false, false, false, false, false, false] rfl rfl (take_ofW HT_.out HW_.out (by kernel_rfl)) (fun _ _ _ h => h) (Or.inl ⟨by rfl, ?_⟩) hHeld ?_ ?_
                                rotate_left
                                · rintro w' ⟨s0, s1, s2, s3, s4, s5, s6, s7, s8, s9, s10, s11, s12⟩
                                  go_simp
                                  with_reducible rfl
                                rotate_left
                                · simp only [Act.put, List.setIfInBounds_toArray, List.set_cons_zero, List.set_cons_succ, i64_w, i32_w]
                                  rfl
                                refine pure_ (i := 8) (N := some 36) (v := ?_) (a' := ?_) #[true, true, true, true, true, true, true, true, true, false, true, false, true, false, false, false, false, false, false] rfl rfl (any_of HT_.out (by kernel_rfl)) (fun _ _ _ h => h) (Or.inl ⟨by rfl, ?_⟩) ?_ ?_
                                rotate_left
                                · intro w'
                                  go_simp
                                  with_reducible rfl
                                rotate_left
                                · simp only [Act.put, List.setIfInBounds_toArray, List.set_cons_zero, List.set_cons_succ, i64_w, i32_w]
                                  rfl
                                refine pure_ (i := 9) (N := some 37) (v := ?_) (a' := ?_) #[true, true, true, true, true, true, true, true, true, true, true, false, true, false, false, false, false, false, false] rfl rfl (any_of HT_.out (by kernel_rfl)) (fun _ _ _ h => h) (Or.inl ⟨by rfl, ?_⟩) ?_ ?_
                                rotate_left
                                · intro w'
                                  go_simp
                                  with_reducible rfl
                                rotate_left
                                · simp only [Act.put, List.setIfInBounds_toArray, List.set_cons_zero, List.set_cons_succ, i64_w, i32_w]
                                  rfl
                                refine take_ (i := 11) (N := some 39) (v := ?_) (a' := ?_) #[true, true, true, true, true, true, true, true, true, true, true, true, true, false, false, false, false, false, false] rfl rfl (take_ofW HT_.out HW_.out (by kernel_rfl)) (fun _ _ _ h => h) (Or.inl ⟨by rfl, ?_⟩) hHeld ?_ ?_
                                rotate_left
                                · rintro w' ⟨s0, s1, s2, s3, s4, s5, s6, s7, s8, s9, s10, s11, s12⟩
                                  go_simp
                                  with_reducible rfl
                                rotate_left
                                · simp only [Act.put, List.setIfInBounds_toArray, List.set_cons_zero, List.set_cons_succ, i64_w, i32_w]
                                  rfl
                                refine pure_ (i := 13) (N := some 41) (v := ?_) (a' := ?_) #[true, true, true, true, true, true, true, true, true, true, true, true, true, true, false, false, false, false, false] rfl rfl (any_of HT_.out (by kernel_rfl)) (fun _ _ _ h => h) (Or.inl ⟨by rfl, ?_⟩) ?_ ?_
                                rotate_left
                                · intro w'
                                  go_simp
                                  with_reducible rfl
                                rotate_left
                                · simp only [Act.put, List.setIfInBounds_toArray, List.set_cons_zero, List.set_cons_succ, i64_w, i32_w]
                                  rfl
                                refine pure_ (i := 14) (N := some 42) (v := ?_) (a' := ?_) #[true, true, true, true, true, true, true, true, true, true, true, true, true, true, true, false, false, false, false] rfl rfl (any_of HT_.out (by kernel_rfl)) (fun _ _ _ h => h) (Or.inl ⟨by rfl, ?_⟩) ?_ ?_
                                rotate_left
                                · intro w'
                                  go_simp
                                  with_reducible rfl
                                rotate_left
                                · simp only [Act.put, List.setIfInBounds_toArray, List.set_cons_zero, List.set_cons_succ, i64_w, i32_w]
                                  rfl
                                refine take_ (i := 15) (N := some 43) (v := ?_) (a' := ?_) #[true, true, true, true, true, true, true, true, true, true, true, true, true, true, true, true, false, false, false] rfl rfl (take_ofW HT_.out HW_.out (by kernel_rfl)) (fun _ _ _ h => h) (Or.inl ⟨by rfl, ?_⟩) hHeld ?_ ?_
                                rotate_left
                                · rintro w' ⟨s0, s1, s2, s3, s4, s5, s6, s7, s8, s9, s10, s11, s12⟩
                                  go_simp
                                  with_reducible rfl
                                rotate_left
                                · simp only [Act.put, List.setIfInBounds_toArray, List.set_cons_zero, List.set_cons_succ, i64_w, i32_w]
                                  rfl
                                refine one_ (i := 16) (N := some 44) #[true, true, true, true, true, true, true, true, true, true, true, true, true, true, true, true, true, false, false] rfl rfl (one_of HT_.out (by kernel_rfl)) (by decide) (fun K hK => ?_)
                                refine goes_ Tryd.func31 (by kernel_rfl) rfl #[.string ((rd_T51 l0_8 x25_1).f1)] (by rfl) rfl rfl (by (try simp only [List.map_toArray, List.map_cons, List.map_nil]); first | done | rfl | (simp only [List.length_drop, List.length_take]; rfl)) ?_
                                with_reducible refine (tendrilref25_quoted.calls k1 ((rd_T51 l0_8 x25_1).f1) t159 _ ?side1 A22.out).mono ?_
                                (case side1 => first | exact HGL.out | exact (Go.Proofs.YtgdemingopcgaaaDoorX.GL.below HGL.out (by repeat (first | (with_reducible first | exact HB.out | apply below_alloc | apply pw_below_drewN | apply below_drew1 | refine below_set ?_ GE154.out) | exact HB.out))) | (repeat (first | exact HGL.out | (with_reducible refine Go.Proofs.YtgdemingopcgaaaDoorX.GL.drewN ?_ _) | (with_reducible refine Go.Proofs.YtgdemingopcgaaaDoorX.GL.drew ?_))))
                                rintro e w25 ⟨rfl, hb⟩
                                refine ⟨_, rfl, ?_⟩
                                have n0_ := Aside0.mk (blk_below (g := gb154) (o := .cells #[.int .i64 a0_0, .int .i64 a0_1, .int .i64 a0_2, .int .i64 a0_3, .string a0_4, .string a0_5, .string a0_6, .string a0_7, .slice (some ad157) l0_8.length c0_8] 24 (0, 0)) (by (with_reducible repeat (first | refine blk_drewN ?_ _ | refine blk_drew ?_ | refine blk_alloc ?_ _)); exact BK154.out) hb)
                                have n1_ := Aside0.mk (below_step (by repeat (first | (with_reducible first | exact HB.out | apply below_alloc | apply pw_below_drewN | apply below_drew1 | refine below_set ?_ GE154.out) | exact HB.out)) hb)
                                clear BK154
                                clear HB
                                have BK154 := n0_
                                have HB := n1_
                                clear n0_ n1_
                                (try clear hb)
                                (try clear hb2)
                                (try clear hk)
                                (try clear hi)
                                refine hK.out _ _ ⟨(blk_cell BK154.out 0).trans rfl, (blk_cell BK154.out 1).trans rfl, (blk_cell BK154.out 2).trans rfl, (blk_cell BK154.out 3).trans rfl, (blk_cell BK154.out 4).trans rfl, (blk_cell BK154.out 5).trans rfl, (blk_cell BK154.out 6).trans rfl, (blk_cell BK154.out 7).trans rfl, (blk_cell BK154.out 8).trans rfl, ((HB.out.cell (World.block_lt_of_cell? w _ hw157_0)).trans hw157_0), ((HB.out.cell (World.block_lt_of_cell? w _ hw157_1)).trans hw157_1), ((HB.out.cell (World.block_lt_of_cell? w _ hw158_0)).trans hw158_0), ((HB.out.cell (World.block_lt_of_cell? w _ hw158_1)).trans hw158_1)⟩ (fun hHeld => ?_)
                                clear hK K
                                refine norm_ (a' := ?_) ?_ ?_
                                rotate_left
                                · show Act.put _ (some 44) _ = _
                                  simp only [Act.put, List.setIfInBounds_toArray, List.set_cons_zero, List.set_cons_succ, i64_w, i32_w]
                                  rfl
                                refine pure_ (i := 17) (N := some 45) (v := ?_) (a' := ?_) #[true, true, true, true, true, true, true, true, true, true, true, true, true, true, true, true, true, true, false] rfl rfl (any_of HT_.out (by kernel_rfl)) (fun _ _ _ h => h) (Or.inl ⟨by rfl, ?_⟩) ?_ ?_
                                rotate_left
                                · intro w'
                                  go_simp
                                  with_reducible rfl
                                rotate_left
                                · simp only [Act.put, List.setIfInBounds_toArray, List.set_cons_zero, List.set_cons_succ, i64_w, i32_w]
                                  rfl
                                refine pure_ (i := 18) (N := some 3) (v := ?_) (a' := ?_) #[true, true, true, true, true, true, true, true, true, true, true, true, true, true, true, true, true, true, true] rfl rfl (any_of HT_.out (by kernel_rfl)) (fun _ _ _ h => h) (Or.inl ⟨by rfl, ?_⟩) ?_ ?_
                                rotate_left
                                · intro w'
                                  go_simp
                                  with_reducible rfl
                                rotate_left
                                · simp only [Act.put, List.setIfInBounds_toArray, List.set_cons_zero, List.set_cons_succ, i64_w, i32_w]
                                  rfl
                                refine done_ (done_of HT_.out (by kernel_rfl)) ?_
                                try go_wp2
                                go_roundg k1
                                case measure => have := HK1.out; omega
                                case rel => exact ⟨((((x3_1 ++ (⟨#[32]⟩ : ByteArray)) ++ ((rd_T51 l0_8 x25_1).f0)) ++ (⟨#[61]⟩ : ByteArray)) ++ t159), (wrap64 (x25_1 + 1)), (by first | rfl | (simp; done) | (simp [*]; done)), (by first | rfl | (simp; done) | (simp [*]; done)), H', ⟨by have := HK1.out; omega⟩, ⟨by (with_reducible repeat (first | refine blk_drewN ?_ _ | refine blk_drew ?_ | refine blk_alloc ?_ _)); exact BK154.out⟩, ⟨by repeat (first | (with_reducible first | exact HB.out | apply below_alloc | apply pw_below_drewN | apply below_drew1 | refine below_set ?_ GE154.out) | exact HB.out)⟩⟩
                              · rw [if_neg c23] at H
                                exact absurd H (by simp)
                            · rw [if_neg c21] at H
                              exact absurd H (by simp)
                          · rw [if_neg c20] at H
                            exact absurd H (by simp)
                        · rw [if_neg c19] at H
                          exact absurd H (by simp)
                      · rw [if_neg c18] at H
                        exact absurd H (by simp)
                    · rw [if_neg c17] at H
                      exact absurd H (by simp)
                  · rw [if_neg c16] at H
                    have c16b0 : decide (x25_1 < (l0_8.length : Int)) = false := decide_eq_false c16
                    clear c16
                    obtain rfl := Option.some.inj H
                    go_wp2
                    go_ret
                    exact ⟨by first | rfl | (simp [errW_none, errW_some] <;> first | rfl | exact emp_bne _ | exact (emp_bne _).symm | exact emp_bne' _ | exact (emp_bne' _).symm) | (simp [*, errW_none, errW_some] <;> rfl), by repeat (first | (with_reducible first | exact HB.out | apply below_alloc | apply pw_below_drewN | apply below_drew1 | refine below_set ?_ GE154.out) | exact HB.out)⟩
            · rw [if_neg c9] at H
              exact absurd H (by simp)
          · rw [if_neg c7] at H
            exact absurd H (by simp)
        · rw [if_neg c6] at H
          exact absurd H (by simp)
      · rw [if_neg c4] at H
        exact absurd H (by simp)
    · rw [if_neg c3] at H
      exact absurd H (by simp)
  · rw [if_neg c2] at H
    have c2b0 : (a0_0 == 1) = false := beq_eq_false_iff_ne.mpr c2
    have c2b1 : (a0_0 != 1) = true := bne_iff_ne.mpr c2
    by_cases c26 : a0_0 = 2
    · rw [if_pos c26] at H
      have c26b0 : (a0_0 == 2) = true := beq_iff_eq.mpr c26
      have c26b1 : (a0_0 != 2) = false := bne_eq_false_iff_eq.mpr c26
      clear c26
      replace H := Option.bind_eq_some_iff.mp H
      obtain ⟨t160, A270, H⟩ := H
      replace H : (if 6 + t160.size ≤ 9223372036854775807 then ((tendrilref25_num.f k a0_2).bind fun t161 => (if ((⟨#[105, 110, 115, 101, 114, 116]⟩ : ByteArray) ++ t160).size + t161.size ≤ 9223372036854775807 then ((tendrilref25_num.f k a0_3).bind fun t162 => (if (((⟨#[105, 110, 115, 101, 114, 116]⟩ : ByteArray) ++ t160) ++ t161).size + t162.size ≤ 9223372036854775807 then (some ((((⟨#[105, 110, 115, 101, 114, 116]⟩ : ByteArray) ++ t160) ++ t161) ++ t162)) else (none))) else (none))) else (none)) = some r := H
      have A27 := Aside0.mk A270
      clear A270
      by_cases c28 : 6 + t160.size ≤ 9223372036854775807
      · rw [if_pos c28] at H
        have c28b0 := eq_true c28
        have c28b1 : decide (6 + t160.size ≤ 9223372036854775807) = true := decide_eq_true c28
        try have c28b2 : (9223372036854775807 < 6 + t160.size) = False := eq_false (Nat.not_lt.2 c28)
        replace H := Option.bind_eq_some_iff.mp H
        obtain ⟨t161, A290, H⟩ := H
        replace H : (if ((⟨#[105, 110, 115, 101, 114, 116]⟩ : ByteArray) ++ t160).size + t161.size ≤ 9223372036854775807 then ((tendrilref25_num.f k a0_3).bind fun t162 => (if (((⟨#[105, 110, 115, 101, 114, 116]⟩ : ByteArray) ++ t160) ++ t161).size + t162.size ≤ 9223372036854775807 then (some ((((⟨#[105, 110, 115, 101, 114, 116]⟩ : ByteArray) ++ t160) ++ t161) ++ t162)) else (none))) else (none)) = some r := H
        have A29 := Aside0.mk A290
        clear A290
        by_cases c30 : ((⟨#[105, 110, 115, 101, 114, 116]⟩ : ByteArray) ++ t160).size + t161.size ≤ 9223372036854775807
        · rw [if_pos c30] at H
          have c30b0 := eq_true c30
          have c30b1 : decide (((⟨#[105, 110, 115, 101, 114, 116]⟩ : ByteArray) ++ t160).size + t161.size ≤ 9223372036854775807) = true := decide_eq_true c30
          try have c30b2 : (9223372036854775807 < ((⟨#[105, 110, 115, 101, 114, 116]⟩ : ByteArray) ++ t160).size + t161.size) = False := eq_false (Nat.not_lt.2 c30)
          have c30b2x : (9223372036854775807 < 6 + t160.size + t161.size) = False := eq_false (Nat.not_lt.2 (by have h_ := c30; simp only [ByteArray.size_append] at h_; exact h_))
          replace H := Option.bind_eq_some_iff.mp H
          obtain ⟨t162, A310, H⟩ := H
          replace H : (if (((⟨#[105, 110, 115, 101, 114, 116]⟩ : ByteArray) ++ t160) ++ t161).size + t162.size ≤ 9223372036854775807 then (some ((((⟨#[105, 110, 115, 101, 114, 116]⟩ : ByteArray) ++ t160) ++ t161) ++ t162)) else (none)) = some r := H
          have A31 := Aside0.mk A310
          clear A310
          by_cases c32 : (((⟨#[105, 110, 115, 101, 114, 116]⟩ : ByteArray) ++ t160) ++ t161).size + t162.size ≤ 9223372036854775807
          · rw [if_pos c32] at H
            have c32b0 := eq_true c32
            have c32b1 : decide ((((⟨#[105, 110, 115, 101, 114, 116]⟩ : ByteArray) ++ t160) ++ t161).size + t162.size ≤ 9223372036854775807) = true := decide_eq_true c32
            try have c32b2 : (9223372036854775807 < (((⟨#[105, 110, 115, 101, 114, 116]⟩ : ByteArray) ++ t160) ++ t161).size + t162.size) = False := eq_false (Nat.not_lt.2 c32)
            have c32b2x : (9223372036854775807 < 6 + t160.size + t161.size + t162.size) = False := eq_false (Nat.not_lt.2 (by have h_ := c32; simp only [ByteArray.size_append] at h_; exact h_))
            obtain rfl := Option.some.inj H
            go_enter Tryd.func11, Tryd.ntmps11
            try go_wp2_with (first | ((with_reducible refine gate_dst (N := 1) rfl ?_); refine box_event ?hg (N := 1) ?hd (cs := #[.int .i64 a0_0, .int .i64 a0_1, .int .i64 a0_2, .int .i64 a0_3, .string a0_4, .string a0_5, .string a0_6, .string a0_7, .slice A0_8 l0_8.length c0_8]) (t := 24) ?hr ?_; (case hd => rfl); (case hg => rfl); (case hr => first | (go_simp; done) | (go_simp; rfl)); intro gb154 hg w33 hbox hb; have n0_ := Aside0.mk (below_step (by repeat (first | (with_reducible first | exact HB.out | apply below_alloc | apply pw_below_drewN | apply below_drew1) | exact HB.out)) hb); have n1_ := Aside0.mk (hbox); have n2_ := Aside0.mk ((by rw [hg]; exact (below_size (by repeat (first | (with_reducible first | exact HB.out | apply below_alloc | apply pw_below_drewN | apply below_drew1) | exact HB.out))) : w.heap.size ≤ gb154)); have n3_ := Aside0.mk ((by rw [hg]; exact (below_size (by repeat (first | (with_reducible first | exact HB.out | apply below_alloc | apply pw_below_drewN | apply below_drew1) | exact HB.out))) : w.heap.size ≤ gb154)); clear HB; have HB := n0_; have BK154 := n1_; have GW154 := n2_; have GE154 := n3_; clear n0_ n1_ n2_ n3_; clear hb hbox hg; have hcz34_0 : w33.cell? ⟨gb154, 0, none⟩ = some (.int .i64 a0_0) := (blk_cell BK154.out 0).trans rfl; have hcz34_1 : w33.cell? ⟨gb154, 1, none⟩ = some (.int .i64 a0_1) := (blk_cell BK154.out 1).trans rfl; have hcz34_2 : w33.cell? ⟨gb154, 2, none⟩ = some (.int .i64 a0_2) := (blk_cell BK154.out 2).trans rfl; have hcz34_3 : w33.cell? ⟨gb154, 3, none⟩ = some (.int .i64 a0_3) := (blk_cell BK154.out 3).trans rfl; have hcz34_4 : w33.cell? ⟨gb154, 4, none⟩ = some (.string a0_4) := (blk_cell BK154.out 4).trans rfl; have hcz34_5 : w33.cell? ⟨gb154, 5, none⟩ = some (.string a0_5) := (blk_cell BK154.out 5).trans rfl; have hcz34_6 : w33.cell? ⟨gb154, 6, none⟩ = some (.string a0_6) := (blk_cell BK154.out 6).trans rfl; have hcz34_7 : w33.cell? ⟨gb154, 7, none⟩ = some (.string a0_7) := (blk_cell BK154.out 7).trans rfl; have hcz34_8 : w33.cell? ⟨gb154, 8, none⟩ = some (.slice A0_8 l0_8.length c0_8) := (blk_cell BK154.out 8).trans rfl; have hfz34_0 := blk_frozen BK154.out 0; have hfz34_1 := blk_frozen BK154.out 1; have hfz34_2 := blk_frozen BK154.out 2; have hfz34_3 := blk_frozen BK154.out 3; have hfz34_4 := blk_frozen BK154.out 4; have hfz34_5 := blk_frozen BK154.out 5; have hfz34_6 := blk_frozen BK154.out 6; have hfz34_7 := blk_frozen BK154.out 7; have hfz34_8 := blk_frozen BK154.out 8))
            have n0_ := Aside0.mk (blk_drew BK154.out)
            have n1_ := Aside0.mk (below_drew1 HB.out)
            clear BK154
            clear HB
            have BK154 := n0_
            have HB := n1_
            clear n0_ n1_
            refine start_ (n := 13) (S := fun w' => w'.cell? ⟨gb154, 0, none⟩ = some (.int .i64 a0_0) ∧ w'.cell? ⟨gb154, 1, none⟩ = some (.int .i64 a0_1) ∧ w'.cell? ⟨gb154, 2, none⟩ = some (.int .i64 a0_2) ∧ w'.cell? ⟨gb154, 3, none⟩ = some (.int .i64 a0_3) ∧ w'.cell? ⟨gb154, 4, none⟩ = some (.string a0_4) ∧ w'.cell? ⟨gb154, 5, none⟩ = some (.string a0_5) ∧ w'.cell? ⟨gb154, 6, none⟩ = some (.string a0_6) ∧ w'.cell? ⟨gb154, 7, none⟩ = some (.string a0_7) ∧ w'.cell? ⟨gb154, 8, none⟩ = some (.slice A0_8 l0_8.length c0_8)) (ds := []) #[false, false, false, false, false, false, false, false, false, false, false, false, false] (by kernel_rfl) rfl rfl ⟨(blk_cell BK154.out 0).trans rfl, (blk_cell BK154.out 1).trans rfl, (blk_cell BK154.out 2).trans rfl, (blk_cell BK154.out 3).trans rfl, (blk_cell BK154.out 4).trans rfl, (blk_cell BK154.out 5).trans rfl, (blk_cell BK154.out 6).trans rfl, (blk_cell BK154.out 7).trans rfl, (blk_cell BK154.out 8).trans rfl⟩ (fun hHeld => ?_); refine with_tabW tendrilref25_Line.tab11 tendrilref25_Line.bits11 (fun HT_ HW_ => ?_)
            generalize w33.drew = w35 at BK154 HB hHeld ⊢
            refine pure_ (i := 0) (N := some 50) (v := ?_) (a' := ?_) #[true, false, false, false, false, false, false, false, false, false, false, false, false] rfl rfl (any_of HT_.out (by kernel_rfl)) (fun _ _ _ h => h) (Or.inl ⟨by rfl, ?_⟩) ?_ ?_
            rotate_left
            · intro w'
              go_simp
              with_reducible rfl
            rotate_left
            · simp only [Act.put, List.setIfInBounds_toArray, List.set_cons_zero, List.set_cons_succ, i64_w, i32_w]
              rfl
            refine pure_ (i := 4) (N := some 54) (v := ?_) (a' := ?_) #[true, false, false, false, true, false, false, false, false, false, false, false, false] rfl rfl (any_of HT_.out (by kernel_rfl)) (fun _ _ _ h => h) (Or.inl ⟨by rfl, ?_⟩) ?_ ?_
            rotate_left
            · intro w'
              go_simp
              with_reducible rfl
            rotate_left
            · simp only [Act.put, List.setIfInBounds_toArray, List.set_cons_zero, List.set_cons_succ, i64_w, i32_w]
              rfl
            refine pure_ (i := 8) (N := some 58) (v := ?_) (a' := ?_) #[true, false, false, false, true, false, false, false, true, false, false, false, false] rfl rfl (any_of HT_.out (by kernel_rfl)) (fun _ _ _ h => h) (Or.inl ⟨by rfl, ?_⟩) ?_ ?_
            rotate_left
            · intro w'
              go_simp
              with_reducible rfl
            rotate_left
            · simp only [Act.put, List.setIfInBounds_toArray, List.set_cons_zero, List.set_cons_succ, i64_w, i32_w]
              rfl
            refine take_ (i := 1) (N := some 51) (v := ?_) (a' := ?_) #[true, true, false, false, true, false, false, false, true, false, false, false, false] rfl rfl (take_ofW HT_.out HW_.out (by kernel_rfl)) (fun _ _ _ h => h) (Or.inl ⟨by rfl, ?_⟩) hHeld ?_ ?_
            rotate_left
            · rintro w' ⟨s0, s1, s2, s3, s4, s5, s6, s7, s8⟩
              go_simp
              with_reducible rfl
            rotate_left
            · simp only [Act.put, List.setIfInBounds_toArray, List.set_cons_zero, List.set_cons_succ, i64_w, i32_w]
              rfl
            refine take_ (i := 5) (N := some 55) (v := ?_) (a' := ?_) #[true, true, false, false, true, true, false, false, true, false, false, false, false] rfl rfl (take_ofW HT_.out HW_.out (by kernel_rfl)) (fun _ _ _ h => h) (Or.inl ⟨by rfl, ?_⟩) hHeld ?_ ?_
            rotate_left
            · rintro w' ⟨s0, s1, s2, s3, s4, s5, s6, s7, s8⟩
              go_simp
              with_reducible rfl
            rotate_left
            · simp only [Act.put, List.setIfInBounds_toArray, List.set_cons_zero, List.set_cons_succ, i64_w, i32_w]
              rfl
            refine take_ (i := 9) (N := some 59) (v := ?_) (a' := ?_) #[true, true, false, false, true, true, false, false, true, true, false, false, false] rfl rfl (take_ofW HT_.out HW_.out (by kernel_rfl)) (fun _ _ _ h => h) (Or.inl ⟨by rfl, ?_⟩) hHeld ?_ ?_
            rotate_left
            · rintro w' ⟨s0, s1, s2, s3, s4, s5, s6, s7, s8⟩
              go_simp
              with_reducible rfl
            rotate_left
            · simp only [Act.put, List.setIfInBounds_toArray, List.set_cons_zero, List.set_cons_succ, i64_w, i32_w]
              rfl
            refine one_ (i := 2) (N := some 52) #[true, true, true, false, true, true, false, false, true, true, false, false, false] rfl rfl (one_of HT_.out (by kernel_rfl)) (by decide) (fun K hK => ?_)
            refine goes_ Tryd.func32 (by kernel_rfl) rfl #[.int .i64 a0_1] (by rfl) rfl rfl (by (try simp only [List.map_toArray, List.map_cons, List.map_nil]); first | done | rfl | (simp only [List.length_drop, List.length_take]; rfl)) ?_
            with_reducible refine (tendrilref25_num.calls k a0_1 t160 _ ?side1 A27.out).mono ?_
            (case side1 => first | exact HGL.out | exact (Go.Proofs.YtgdemingopcgaaaDoorX.GL.below HGL.out (by repeat (first | (with_reducible first | exact HB.out | apply below_alloc | apply pw_below_drewN | apply below_drew1 | refine below_set ?_ GE154.out) | exact HB.out))) | (repeat (first | exact HGL.out | (with_reducible refine Go.Proofs.YtgdemingopcgaaaDoorX.GL.drewN ?_ _) | (with_reducible refine Go.Proofs.YtgdemingopcgaaaDoorX.GL.drew ?_))))
            rintro e w36 ⟨rfl, hb⟩
            refine ⟨_, rfl, ?_⟩
            have n0_ := Aside0.mk (blk_below (g := gb154) (o := .cells #[.int .i64 a0_0, .int .i64 a0_1, .int .i64 a0_2, .int .i64 a0_3, .string a0_4, .string a0_5, .string a0_6, .string a0_7, .slice A0_8 l0_8.length c0_8] 24 (0, 0)) (by (with_reducible repeat (first | refine blk_drewN ?_ _ | refine blk_drew ?_ | refine blk_alloc ?_ _)); exact BK154.out) hb)
            have n1_ := Aside0.mk (below_step (by repeat (first | (with_reducible first | exact HB.out | apply below_alloc | apply pw_below_drewN | apply below_drew1 | refine below_set ?_ GE154.out) | exact HB.out)) hb)
            clear BK154
            clear HB
            have BK154 := n0_
            have HB := n1_
            clear n0_ n1_
            (try clear hb)
            (try clear hb2)
            (try clear hk)
            (try clear hi)
            refine hK.out _ _ ⟨(blk_cell BK154.out 0).trans rfl, (blk_cell BK154.out 1).trans rfl, (blk_cell BK154.out 2).trans rfl, (blk_cell BK154.out 3).trans rfl, (blk_cell BK154.out 4).trans rfl, (blk_cell BK154.out 5).trans rfl, (blk_cell BK154.out 6).trans rfl, (blk_cell BK154.out 7).trans rfl, (blk_cell BK154.out 8).trans rfl⟩ (fun hHeld => ?_)
            clear hK K
            refine norm_ (a' := ?_) ?_ ?_
            rotate_left
            · show Act.put _ (some 52) _ = _
              simp only [Act.put, List.setIfInBounds_toArray, List.set_cons_zero, List.set_cons_succ, i64_w, i32_w]
              rfl
            refine pure_ (i := 3) (N := some 53) (v := ?_) (a' := ?_) #[true, true, true, true, true, true, false, false, true, true, false, false, false] rfl rfl (any_of HT_.out (by kernel_rfl)) (fun _ _ _ h => h) (Or.inl ⟨by rfl, ?_⟩) ?_ ?_
            rotate_left
            · intro w'
              go_simp
              with_reducible rfl
            rotate_left
            · simp only [Act.put, List.setIfInBounds_toArray, List.set_cons_zero, List.set_cons_succ, i64_w, i32_w]
              rfl
            refine one_ (i := 6) (N := some 56) #[true, true, true, true, true, true, true, false, true, true, false, false, false] rfl rfl (one_of HT_.out (by kernel_rfl)) (by decide) (fun K hK => ?_)
            refine goes_ Tryd.func32 (by kernel_rfl) rfl #[.int .i64 a0_2] (by rfl) rfl rfl (by (try simp only [List.map_toArray, List.map_cons, List.map_nil]); first | done | rfl | (simp only [List.length_drop, List.length_take]; rfl)) ?_
            with_reducible refine (tendrilref25_num.calls k a0_2 t161 _ ?side1 A29.out).mono ?_
            (case side1 => first | exact HGL.out | exact (Go.Proofs.YtgdemingopcgaaaDoorX.GL.below HGL.out (by repeat (first | (with_reducible first | exact HB.out | apply below_alloc | apply pw_below_drewN | apply below_drew1 | refine below_set ?_ GE154.out) | exact HB.out))) | (repeat (first | exact HGL.out | (with_reducible refine Go.Proofs.YtgdemingopcgaaaDoorX.GL.drewN ?_ _) | (with_reducible refine Go.Proofs.YtgdemingopcgaaaDoorX.GL.drew ?_))))
            rintro e w37 ⟨rfl, hb⟩
            refine ⟨_, rfl, ?_⟩
            have n0_ := Aside0.mk (blk_below (g := gb154) (o := .cells #[.int .i64 a0_0, .int .i64 a0_1, .int .i64 a0_2, .int .i64 a0_3, .string a0_4, .string a0_5, .string a0_6, .string a0_7, .slice A0_8 l0_8.length c0_8] 24 (0, 0)) (by (with_reducible repeat (first | refine blk_drewN ?_ _ | refine blk_drew ?_ | refine blk_alloc ?_ _)); exact BK154.out) hb)
            have n1_ := Aside0.mk (below_step (by repeat (first | (with_reducible first | exact HB.out | apply below_alloc | apply pw_below_drewN | apply below_drew1 | refine below_set ?_ GE154.out) | exact HB.out)) hb)
            clear BK154
            clear HB
            have BK154 := n0_
            have HB := n1_
            clear n0_ n1_
            (try clear hb)
            (try clear hb2)
            (try clear hk)
            (try clear hi)
            refine hK.out _ _ ⟨(blk_cell BK154.out 0).trans rfl, (blk_cell BK154.out 1).trans rfl, (blk_cell BK154.out 2).trans rfl, (blk_cell BK154.out 3).trans rfl, (blk_cell BK154.out 4).trans rfl, (blk_cell BK154.out 5).trans rfl, (blk_cell BK154.out 6).trans rfl, (blk_cell BK154.out 7).trans rfl, (blk_cell BK154.out 8).trans rfl⟩ (fun hHeld => ?_)
            clear hK K
            refine norm_ (a' := ?_) ?_ ?_
            rotate_left
            · show Act.put _ (some 56) _ = _
              simp only [Act.put, List.setIfInBounds_toArray, List.set_cons_zero, List.set_cons_succ, i64_w, i32_w]
              rfl
            refine pure_ (i := 7) (N := some 57) (v := ?_) (a' := ?_) #[true, true, true, true, true, true, true, true, true, true, false, false, false] rfl rfl (any_of HT_.out (by kernel_rfl)) (fun _ _ _ h => h) (Or.inl ⟨by rfl, ?_⟩) ?_ ?_
            rotate_left
            · intro w'
              go_simp
              with_reducible rfl
            rotate_left
            · simp only [Act.put, List.setIfInBounds_toArray, List.set_cons_zero, List.set_cons_succ, i64_w, i32_w]
              rfl
            refine one_ (i := 10) (N := some 60) #[true, true, true, true, true, true, true, true, true, true, true, false, false] rfl rfl (one_of HT_.out (by kernel_rfl)) (by decide) (fun K hK => ?_)
            refine goes_ Tryd.func32 (by kernel_rfl) rfl #[.int .i64 a0_3] (by rfl) rfl rfl (by (try simp only [List.map_toArray, List.map_cons, List.map_nil]); first | done | rfl | (simp only [List.length_drop, List.length_take]; rfl)) ?_
            with_reducible refine (tendrilref25_num.calls k a0_3 t162 _ ?side1 A31.out).mono ?_
            (case side1 => first | exact HGL.out | exact (Go.Proofs.YtgdemingopcgaaaDoorX.GL.below HGL.out (by repeat (first | (with_reducible first | exact HB.out | apply below_alloc | apply pw_below_drewN | apply below_drew1 | refine below_set ?_ GE154.out) | exact HB.out))) | (repeat (first | exact HGL.out | (with_reducible refine Go.Proofs.YtgdemingopcgaaaDoorX.GL.drewN ?_ _) | (with_reducible refine Go.Proofs.YtgdemingopcgaaaDoorX.GL.drew ?_))))
            rintro e w38 ⟨rfl, hb⟩
            refine ⟨_, rfl, ?_⟩
            have n0_ := Aside0.mk (blk_below (g := gb154) (o := .cells #[.int .i64 a0_0, .int .i64 a0_1, .int .i64 a0_2, .int .i64 a0_3, .string a0_4, .string a0_5, .string a0_6, .string a0_7, .slice A0_8 l0_8.length c0_8] 24 (0, 0)) (by (with_reducible repeat (first | refine blk_drewN ?_ _ | refine blk_drew ?_ | refine blk_alloc ?_ _)); exact BK154.out) hb)
            have n1_ := Aside0.mk (below_step (by repeat (first | (with_reducible first | exact HB.out | apply below_alloc | apply pw_below_drewN | apply below_drew1 | refine below_set ?_ GE154.out) | exact HB.out)) hb)
            clear BK154
            clear HB
            have BK154 := n0_
            have HB := n1_
            clear n0_ n1_
            (try clear hb)
            (try clear hb2)
            (try clear hk)
            (try clear hi)
            refine hK.out _ _ ⟨(blk_cell BK154.out 0).trans rfl, (blk_cell BK154.out 1).trans rfl, (blk_cell BK154.out 2).trans rfl, (blk_cell BK154.out 3).trans rfl, (blk_cell BK154.out 4).trans rfl, (blk_cell BK154.out 5).trans rfl, (blk_cell BK154.out 6).trans rfl, (blk_cell BK154.out 7).trans rfl, (blk_cell BK154.out 8).trans rfl⟩ (fun hHeld => ?_)
            clear hK K
            refine norm_ (a' := ?_) ?_ ?_
            rotate_left
            · show Act.put _ (some 60) _ = _
              simp only [Act.put, List.setIfInBounds_toArray, List.set_cons_zero, List.set_cons_succ, i64_w, i32_w]
              rfl
            refine pure_ (i := 11) (N := some 61) (v := ?_) (a' := ?_) #[true, true, true, true, true, true, true, true, true, true, true, true, false] rfl rfl (any_of HT_.out (by kernel_rfl)) (fun _ _ _ h => h) (Or.inl ⟨by rfl, ?_⟩) ?_ ?_
            rotate_left
            · intro w'
              go_simp
              with_reducible rfl
            rotate_left
            · simp only [Act.put, List.setIfInBounds_toArray, List.set_cons_zero, List.set_cons_succ, i64_w, i32_w]
              rfl
            refine pure_ (i := 12) (N := some 2) (v := ?_) (a' := ?_) #[true, true, true, true, true, true, true, true, true, true, true, true, true] rfl rfl (any_of HT_.out (by kernel_rfl)) (fun _ _ _ h => h) (Or.inl ⟨by rfl, ?_⟩) ?_ ?_
            rotate_left
            · intro w'
              go_simp
              with_reducible rfl
            rotate_left
            · simp only [Act.put, List.setIfInBounds_toArray, List.set_cons_zero, List.set_cons_succ, i64_w, i32_w]
              rfl
            refine done_ (done_of HT_.out (by kernel_rfl)) ?_
            try go_wp2
            go_ret
            exact ⟨by first | rfl | (simp [errW_none, errW_some] <;> first | rfl | exact emp_bne _ | exact (emp_bne _).symm | exact emp_bne' _ | exact (emp_bne' _).symm) | (simp [*, errW_none, errW_some] <;> rfl), by repeat (first | (with_reducible first | exact HB.out | apply below_alloc | apply pw_below_drewN | apply below_drew1 | refine below_set ?_ GE154.out) | exact HB.out)⟩
          · rw [if_neg c32] at H
            exact absurd H (by simp)
        · rw [if_neg c30] at H
          exact absurd H (by simp)
      · rw [if_neg c28] at H
        exact absurd H (by simp)
    · rw [if_neg c26] at H
      have c26b0 : (a0_0 == 2) = false := beq_eq_false_iff_ne.mpr c26
      have c26b1 : (a0_0 != 2) = true := bne_iff_ne.mpr c26
      by_cases c39 : a0_0 = 3
      · rw [if_pos c39] at H
        have c39b0 : (a0_0 == 3) = true := beq_iff_eq.mpr c39
        have c39b1 : (a0_0 != 3) = false := bne_eq_false_iff_eq.mpr c39
        clear c39
        replace H := Option.bind_eq_some_iff.mp H
        obtain ⟨t163, A400, H⟩ := H
        replace H : (if 4 + t163.size ≤ 9223372036854775807 then ((tendrilref25_num.f k a0_3).bind fun t164 => (if ((⟨#[109, 111, 118, 101]⟩ : ByteArray) ++ t163).size + t164.size ≤ 9223372036854775807 then (some (((⟨#[109, 111, 118, 101]⟩ : ByteArray) ++ t163) ++ t164)) else (none))) else (none)) = some r := H
        have A40 := Aside0.mk A400
        clear A400
        by_cases c41 : 4 + t163.size ≤ 9223372036854775807
        · rw [if_pos c41] at H
          have c41b0 := eq_true c41
          have c41b1 : decide (4 + t163.size ≤ 9223372036854775807) = true := decide_eq_true c41
          try have c41b2 : (9223372036854775807 < 4 + t163.size) = False := eq_false (Nat.not_lt.2 c41)
          replace H := Option.bind_eq_some_iff.mp H
          obtain ⟨t164, A420, H⟩ := H
          replace H : (if ((⟨#[109, 111, 118, 101]⟩ : ByteArray) ++ t163).size + t164.size ≤ 9223372036854775807 then (some (((⟨#[109, 111, 118, 101]⟩ : ByteArray) ++ t163) ++ t164)) else (none)) = some r := H
          have A42 := Aside0.mk A420
          clear A420
          by_cases c43 : ((⟨#[109, 111, 118, 101]⟩ : ByteArray) ++ t163).size + t164.size ≤ 9223372036854775807
          · rw [if_pos c43] at H
            have c43b0 := eq_true c43
            have c43b1 : decide (((⟨#[109, 111, 118, 101]⟩ : ByteArray) ++ t163).size + t164.size ≤ 9223372036854775807) = true := decide_eq_true c43
            try have c43b2 : (9223372036854775807 < ((⟨#[109, 111, 118, 101]⟩ : ByteArray) ++ t163).size + t164.size) = False := eq_false (Nat.not_lt.2 c43)
            have c43b2x : (9223372036854775807 < 4 + t163.size + t164.size) = False := eq_false (Nat.not_lt.2 (by have h_ := c43; simp only [ByteArray.size_append] at h_; exact h_))
            obtain rfl := Option.some.inj H
            go_enter Tryd.func11, Tryd.ntmps11
            try go_wp2_with (first | ((with_reducible refine gate_dst (N := 1) rfl ?_); refine box_event ?hg (N := 1) ?hd (cs := #[.int .i64 a0_0, .int .i64 a0_1, .int .i64 a0_2, .int .i64 a0_3, .string a0_4, .string a0_5, .string a0_6, .string a0_7, .slice A0_8 l0_8.length c0_8]) (t := 24) ?hr ?_; (case hd => rfl); (case hg => rfl); (case hr => first | (go_simp; done) | (go_simp; rfl)); intro gb154 hg w44 hbox hb; have n0_ := Aside0.mk (below_step (by repeat (first | (with_reducible first | exact HB.out | apply below_alloc | apply pw_below_drewN | apply below_drew1) | exact HB.out)) hb); have n1_ := Aside0.mk (hbox); have n2_ := Aside0.mk ((by rw [hg]; exact (below_size (by repeat (first | (with_reducible first | exact HB.out | apply below_alloc | apply pw_below_drewN | apply below_drew1) | exact HB.out))) : w.heap.size ≤ gb154)); have n3_ := Aside0.mk ((by rw [hg]; exact (below_size (by repeat (first | (with_reducible first | exact HB.out | apply below_alloc | apply pw_below_drewN | apply below_drew1) | exact HB.out))) : w.heap.size ≤ gb154)); clear HB; have HB := n0_; have BK154 := n1_; have GW154 := n2_; have GE154 := n3_; clear n0_ n1_ n2_ n3_; clear hb hbox hg; have hcz45_0 : w44.cell? ⟨gb154, 0, none⟩ = some (.int .i64 a0_0) := (blk_cell BK154.out 0).trans rfl; have hcz45_1 : w44.cell? ⟨gb154, 1, none⟩ = some (.int .i64 a0_1) := (blk_cell BK154.out 1).trans rfl; have hcz45_2 : w44.cell? ⟨gb154, 2, none⟩ = some (.int .i64 a0_2) := (blk_cell BK154.out 2).trans rfl; have hcz45_3 : w44.cell? ⟨gb154, 3, none⟩ = some (.int .i64 a0_3) := (blk_cell BK154.out 3).trans rfl; have hcz45_4 : w44.cell? ⟨gb154, 4, none⟩ = some (.string a0_4) := (blk_cell BK154.out 4).trans rfl; have hcz45_5 : w44.cell? ⟨gb154, 5, none⟩ = some (.string a0_5) := (blk_cell BK154.out 5).trans rfl; have hcz45_6 : w44.cell? ⟨gb154, 6, none⟩ = some (.string a0_6) := (blk_cell BK154.out 6).trans rfl; have hcz45_7 : w44.cell? ⟨gb154, 7, none⟩ = some (.string a0_7) := (blk_cell BK154.out 7).trans rfl; have hcz45_8 : w44.cell? ⟨gb154, 8, none⟩ = some (.slice A0_8 l0_8.length c0_8) := (blk_cell BK154.out 8).trans rfl; have hfz45_0 := blk_frozen BK154.out 0; have hfz45_1 := blk_frozen BK154.out 1; have hfz45_2 := blk_frozen BK154.out 2; have hfz45_3 := blk_frozen BK154.out 3; have hfz45_4 := blk_frozen BK154.out 4; have hfz45_5 := blk_frozen BK154.out 5; have hfz45_6 := blk_frozen BK154.out 6; have hfz45_7 := blk_frozen BK154.out 7; have hfz45_8 := blk_frozen BK154.out 8))
            have n0_ := Aside0.mk (blk_drew BK154.out)
            have n1_ := Aside0.mk (below_drew1 HB.out)
            clear BK154
            clear HB
            have BK154 := n0_
            have HB := n1_
            clear n0_ n1_
            refine start_ (n := 9) (S := fun w' => w'.cell? ⟨gb154, 0, none⟩ = some (.int .i64 a0_0) ∧ w'.cell? ⟨gb154, 1, none⟩ = some (.int .i64 a0_1) ∧ w'.cell? ⟨gb154, 2, none⟩ = some (.int .i64 a0_2) ∧ w'.cell? ⟨gb154, 3, none⟩ = some (.int .i64 a0_3) ∧ w'.cell? ⟨gb154, 4, none⟩ = some (.string a0_4) ∧ w'.cell? ⟨gb154, 5, none⟩ = some (.string a0_5) ∧ w'.cell? ⟨gb154, 6, none⟩ = some (.string a0_6) ∧ w'.cell? ⟨gb154, 7, none⟩ = some (.string a0_7) ∧ w'.cell? ⟨gb154, 8, none⟩ = some (.slice A0_8 l0_8.length c0_8)) (ds := []) #[false, false, false, false, false, false, false, false, false] (by kernel_rfl) rfl rfl ⟨(blk_cell BK154.out 0).trans rfl, (blk_cell BK154.out 1).trans rfl, (blk_cell BK154.out 2).trans rfl, (blk_cell BK154.out 3).trans rfl, (blk_cell BK154.out 4).trans rfl, (blk_cell BK154.out 5).trans rfl, (blk_cell BK154.out 6).trans rfl, (blk_cell BK154.out 7).trans rfl, (blk_cell BK154.out 8).trans rfl⟩ (fun hHeld => ?_); refine with_tabW tendrilref25_Line.tab13 tendrilref25_Line.bits13 (fun HT_ HW_ => ?_)
            generalize w44.drew = w46 at BK154 HB hHeld ⊢
            refine pure_ (i := 0) (N := some 64) (v := ?_) (a' := ?_) #[true, false, false, false, false, false, false, false, false] rfl rfl (any_of HT_.out (by kernel_rfl)) (fun _ _ _ h => h) (Or.inl ⟨by rfl, ?_⟩) ?_ ?_
            rotate_left
            · intro w'
              go_simp
              with_reducible rfl
            rotate_left
            · simp only [Act.put, List.setIfInBounds_toArray, List.set_cons_zero, List.set_cons_succ, i64_w, i32_w]
              rfl
            refine pure_ (i := 4) (N := some 68) (v := ?_) (a' := ?_) #[true, false, false, false, true, false, false, false, false] rfl rfl (any_of HT_.out (by kernel_rfl)) (fun _ _ _ h => h) (Or.inl ⟨by rfl, ?_⟩) ?_ ?_
            rotate_left
            · intro w'
              go_simp
              with_reducible rfl
            rotate_left
            · simp only [Act.put, List.setIfInBounds_toArray, List.set_cons_zero, List.set_cons_succ, i64_w, i32_w]
              rfl
            refine take_ (i := 1) (N := some 65) (v := ?_) (a' := ?_) #[true, true, false, false, true, false, false, false, false] rfl rfl (take_ofW HT_.out HW_.out (by kernel_rfl)) (fun _ _ _ h => h) (Or.inl ⟨by rfl, ?_⟩) hHeld ?_ ?_
            rotate_left
            · rintro w' ⟨s0, s1, s2, s3, s4, s5, s6, s7, s8⟩
              go_simp
              with_reducible rfl
            rotate_left
            · simp only [Act.put, List.setIfInBounds_toArray, List.set_cons_zero, List.set_cons_succ, i64_w, i32_w]
              rfl
            refine take_ (i := 5) (N := some 69) (v := ?_) (a' := ?_) #[true, true, false, false, true, true, false, false, false] rfl rfl (take_ofW HT_.out HW_.out (by kernel_rfl)) (fun _ _ _ h => h) (Or.inl ⟨by rfl, ?_⟩) hHeld ?_ ?_
            rotate_left
            · rintro w' ⟨s0, s1, s2, s3, s4, s5, s6, s7, s8⟩
              go_simp
              with_reducible rfl
            rotate_left
            · simp only [Act.put, List.setIfInBounds_toArray, List.set_cons_zero, List.set_cons_succ, i64_w, i32_w]
              rfl
            refine one_ (i := 2) (N := some 66) #[true, true, true, false, true, true, false, false, false] rfl rfl (one_of HT_.out (by kernel_rfl)) (by decide) (fun K hK => ?_)
            refine goes_ Tryd.func32 (by kernel_rfl) rfl #[.int .i64 a0_1] (by rfl) rfl rfl (by (try simp only [List.map_toArray, List.map_cons, List.map_nil]); first | done | rfl | (simp only [List.length_drop, List.length_take]; rfl)) ?_
            with_reducible refine (tendrilref25_num.calls k a0_1 t163 _ ?side1 A40.out).mono ?_
            (case side1 => first | exact HGL.out | exact (Go.Proofs.YtgdemingopcgaaaDoorX.GL.below HGL.out (by repeat (first | (with_reducible first | exact HB.out | apply below_alloc | apply pw_below_drewN | apply below_drew1 | refine below_set ?_ GE154.out) | exact HB.out))) | (repeat (first | exact HGL.out | (with_reducible refine Go.Proofs.YtgdemingopcgaaaDoorX.GL.drewN ?_ _) | (with_reducible refine Go.Proofs.YtgdemingopcgaaaDoorX.GL.drew ?_))))
            rintro e w47 ⟨rfl, hb⟩
            refine ⟨_, rfl, ?_⟩
            have n0_ := Aside0.mk (blk_below (g := gb154) (o := .cells #[.int .i64 a0_0, .int .i64 a0_1, .int .i64 a0_2, .int .i64 a0_3, .string a0_4, .string a0_5, .string a0_6, .string a0_7, .slice A0_8 l0_8.length c0_8] 24 (0, 0)) (by (with_reducible repeat (first | refine blk_drewN ?_ _ | refine blk_drew ?_ | refine blk_alloc ?_ _)); exact BK154.out) hb)
            have n1_ := Aside0.mk (below_step (by repeat (first | (with_reducible first | exact HB.out | apply below_alloc | apply pw_below_drewN | apply below_drew1 | refine below_set ?_ GE154.out) | exact HB.out)) hb)
            clear BK154
            clear HB
            have BK154 := n0_
            have HB := n1_
            clear n0_ n1_
            (try clear hb)
            (try clear hb2)
            (try clear hk)
            (try clear hi)
            refine hK.out _ _ ⟨(blk_cell BK154.out 0).trans rfl, (blk_cell BK154.out 1).trans rfl, (blk_cell BK154.out 2).trans rfl, (blk_cell BK154.out 3).trans rfl, (blk_cell BK154.out 4).trans rfl, (blk_cell BK154.out 5).trans rfl, (blk_cell BK154.out 6).trans rfl, (blk_cell BK154.out 7).trans rfl, (blk_cell BK154.out 8).trans rfl⟩ (fun hHeld => ?_)
            clear hK K
            refine norm_ (a' := ?_) ?_ ?_
            rotate_left
            · show Act.put _ (some 66) _ = _
              simp only [Act.put, List.setIfInBounds_toArray, List.set_cons_zero, List.set_cons_succ, i64_w, i32_w]
              rfl
            refine pure_ (i := 3) (N := some 67) (v := ?_) (a' := ?_) #[true, true, true, true, true, true, false, false, false] rfl rfl (any_of HT_.out (by kernel_rfl)) (fun _ _ _ h => h) (Or.inl ⟨by rfl, ?_⟩) ?_ ?_
            rotate_left
            · intro w'
              go_simp
              with_reducible rfl
            rotate_left
            · simp only [Act.put, List.setIfInBounds_toArray, List.set_cons_zero, List.set_cons_succ, i64_w, i32_w]
              rfl
            refine one_ (i := 6) (N := some 70) #[true, true, true, true, true, true, true, false, false] rfl rfl (one_of HT_.out (by kernel_rfl)) (by decide) (fun K hK => ?_)
            refine goes_ Tryd.func32 (by kernel_rfl) rfl #[.int .i64 a0_3] (by rfl) rfl rfl (by (try simp only [List.map_toArray, List.map_cons, List.map_nil]); first | done | rfl | (simp only [List.length_drop, List.length_take]; rfl)) ?_
            with_reducible refine (tendrilref25_num.calls k a0_3 t164 _ ?side1 A42.out).mono ?_
            (case side1 => first | exact HGL.out | exact (Go.Proofs.YtgdemingopcgaaaDoorX.GL.below HGL.out (by repeat (first | (with_reducible first | exact HB.out | apply below_alloc | apply pw_below_drewN | apply below_drew1 | refine below_set ?_ GE154.out) | exact HB.out))) | (repeat (first | exact HGL.out | (with_reducible refine Go.Proofs.YtgdemingopcgaaaDoorX.GL.drewN ?_ _) | (with_reducible refine Go.Proofs.YtgdemingopcgaaaDoorX.GL.drew ?_))))
            rintro e w48 ⟨rfl, hb⟩
            refine ⟨_, rfl, ?_⟩
            have n0_ := Aside0.mk (blk_below (g := gb154) (o := .cells #[.int .i64 a0_0, .int .i64 a0_1, .int .i64 a0_2, .int .i64 a0_3, .string a0_4, .string a0_5, .string a0_6, .string a0_7, .slice A0_8 l0_8.length c0_8] 24 (0, 0)) (by (with_reducible repeat (first | refine blk_drewN ?_ _ | refine blk_drew ?_ | refine blk_alloc ?_ _)); exact BK154.out) hb)
            have n1_ := Aside0.mk (below_step (by repeat (first | (with_reducible first | exact HB.out | apply below_alloc | apply pw_below_drewN | apply below_drew1 | refine below_set ?_ GE154.out) | exact HB.out)) hb)
            clear BK154
            clear HB
            have BK154 := n0_
            have HB := n1_
            clear n0_ n1_
            (try clear hb)
            (try clear hb2)
            (try clear hk)
            (try clear hi)
            refine hK.out _ _ ⟨(blk_cell BK154.out 0).trans rfl, (blk_cell BK154.out 1).trans rfl, (blk_cell BK154.out 2).trans rfl, (blk_cell BK154.out 3).trans rfl, (blk_cell BK154.out 4).trans rfl, (blk_cell BK154.out 5).trans rfl, (blk_cell BK154.out 6).trans rfl, (blk_cell BK154.out 7).trans rfl, (blk_cell BK154.out 8).trans rfl⟩ (fun hHeld => ?_)
            clear hK K
            refine norm_ (a' := ?_) ?_ ?_
            rotate_left
            · show Act.put _ (some 70) _ = _
              simp only [Act.put, List.setIfInBounds_toArray, List.set_cons_zero, List.set_cons_succ, i64_w, i32_w]
              rfl
            refine pure_ (i := 7) (N := some 71) (v := ?_) (a' := ?_) #[true, true, true, true, true, true, true, true, false] rfl rfl (any_of HT_.out (by kernel_rfl)) (fun _ _ _ h => h) (Or.inl ⟨by rfl, ?_⟩) ?_ ?_
            rotate_left
            · intro w'
              go_simp
              with_reducible rfl
            rotate_left
            · simp only [Act.put, List.setIfInBounds_toArray, List.set_cons_zero, List.set_cons_succ, i64_w, i32_w]
              rfl
            refine pure_ (i := 8) (N := some 2) (v := ?_) (a' := ?_) #[true, true, true, true, true, true, true, true, true] rfl rfl (any_of HT_.out (by kernel_rfl)) (fun _ _ _ h => h) (Or.inl ⟨by rfl, ?_⟩) ?_ ?_
            rotate_left
            · intro w'
              go_simp
              with_reducible rfl
            rotate_left
            · simp only [Act.put, List.setIfInBounds_toArray, List.set_cons_zero, List.set_cons_succ, i64_w, i32_w]
              rfl
            refine done_ (done_of HT_.out (by kernel_rfl)) ?_
            try go_wp2
            go_ret
            exact ⟨by first | rfl | (simp [errW_none, errW_some] <;> first | rfl | exact emp_bne _ | exact (emp_bne _).symm | exact emp_bne' _ | exact (emp_bne' _).symm) | (simp [*, errW_none, errW_some] <;> rfl), by repeat (first | (with_reducible first | exact HB.out | apply below_alloc | apply pw_below_drewN | apply below_drew1 | refine below_set ?_ GE154.out) | exact HB.out)⟩
          · rw [if_neg c43] at H
            exact absurd H (by simp)
        · rw [if_neg c41] at H
          exact absurd H (by simp)
      · rw [if_neg c39] at H
        have c39b0 : (a0_0 == 3) = false := beq_eq_false_iff_ne.mpr c39
        have c39b1 : (a0_0 != 3) = true := bne_iff_ne.mpr c39
        by_cases c49 : a0_0 = 4
        · rw [if_pos c49] at H
          have c49b0 : (a0_0 == 4) = true := beq_iff_eq.mpr c49
          have c49b1 : (a0_0 != 4) = false := bne_eq_false_iff_eq.mpr c49
          clear c49
          replace H := Option.bind_eq_some_iff.mp H
          obtain ⟨t165, A500, H⟩ := H
          replace H : (if 6 + t165.size ≤ 9223372036854775807 then (some ((⟨#[114, 101, 109, 111, 118, 101]⟩ : ByteArray) ++ t165)) else (none)) = some r := H
          have A50 := Aside0.mk A500
          clear A500
          by_cases c51 : 6 + t165.size ≤ 9223372036854775807
          · rw [if_pos c51] at H
            have c51b0 := eq_true c51
            have c51b1 : decide (6 + t165.size ≤ 9223372036854775807) = true := decide_eq_true c51
            try have c51b2 : (9223372036854775807 < 6 + t165.size) = False := eq_false (Nat.not_lt.2 c51)
            obtain rfl := Option.some.inj H
            go_enter Tryd.func11, Tryd.ntmps11
            go_wp2_with (first | ((with_reducible refine gate_dst (N := 1) rfl ?_); refine box_event ?hg (N := 1) ?hd (cs := #[.int .i64 a0_0, .int .i64 a0_1, .int .i64 a0_2, .int .i64 a0_3, .string a0_4, .string a0_5, .string a0_6, .string a0_7, .slice A0_8 l0_8.length c0_8]) (t := 24) ?hr ?_; (case hd => rfl); (case hg => rfl); (case hr => first | (go_simp; done) | (go_simp; rfl)); intro gb154 hg w52 hbox hb; have n0_ := Aside0.mk (below_step (by repeat (first | (with_reducible first | exact HB.out | apply below_alloc | apply pw_below_drewN | apply below_drew1) | exact HB.out)) hb); have n1_ := Aside0.mk (hbox); have n2_ := Aside0.mk ((by rw [hg]; exact (below_size (by repeat (first | (with_reducible first | exact HB.out | apply below_alloc | apply pw_below_drewN | apply below_drew1) | exact HB.out))) : w.heap.size ≤ gb154)); have n3_ := Aside0.mk ((by rw [hg]; exact (below_size (by repeat (first | (with_reducible first | exact HB.out | apply below_alloc | apply pw_below_drewN | apply below_drew1) | exact HB.out))) : w.heap.size ≤ gb154)); clear HB; have HB := n0_; have BK154 := n1_; have GW154 := n2_; have GE154 := n3_; clear n0_ n1_ n2_ n3_; clear hb hbox hg; have hcz53_0 : w52.cell? ⟨gb154, 0, none⟩ = some (.int .i64 a0_0) := (blk_cell BK154.out 0).trans rfl; have hcz53_1 : w52.cell? ⟨gb154, 1, none⟩ = some (.int .i64 a0_1) := (blk_cell BK154.out 1).trans rfl; have hcz53_2 : w52.cell? ⟨gb154, 2, none⟩ = some (.int .i64 a0_2) := (blk_cell BK154.out 2).trans rfl; have hcz53_3 : w52.cell? ⟨gb154, 3, none⟩ = some (.int .i64 a0_3) := (blk_cell BK154.out 3).trans rfl; have hcz53_4 : w52.cell? ⟨gb154, 4, none⟩ = some (.string a0_4) := (blk_cell BK154.out 4).trans rfl; have hcz53_5 : w52.cell? ⟨gb154, 5, none⟩ = some (.string a0_5) := (blk_cell BK154.out 5).trans rfl; have hcz53_6 : w52.cell? ⟨gb154, 6, none⟩ = some (.string a0_6) := (blk_cell BK154.out 6).trans rfl; have hcz53_7 : w52.cell? ⟨gb154, 7, none⟩ = some (.string a0_7) := (blk_cell BK154.out 7).trans rfl; have hcz53_8 : w52.cell? ⟨gb154, 8, none⟩ = some (.slice A0_8 l0_8.length c0_8) := (blk_cell BK154.out 8).trans rfl; have hfz53_0 := blk_frozen BK154.out 0; have hfz53_1 := blk_frozen BK154.out 1; have hfz53_2 := blk_frozen BK154.out 2; have hfz53_3 := blk_frozen BK154.out 3; have hfz53_4 := blk_frozen BK154.out 4; have hfz53_5 := blk_frozen BK154.out 5; have hfz53_6 := blk_frozen BK154.out 6; have hfz53_7 := blk_frozen BK154.out 7; have hfz53_8 := blk_frozen BK154.out 8) | ((with_reducible refine gate_callee (f := 32) rfl ?_); refine goesL_ (some 76) rfl rfl Tryd.func32 (by kernel_rfl) rfl #[.int .i64 a0_1] rfl (by (try simp only [List.map_toArray, List.map_cons, List.map_nil]); first | done | rfl | (simp only [List.length_drop, List.length_take]; rfl)) ?_; (with_reducible refine (tendrilref25_num.calls k a0_1 t165 _ ?side1 A50.out).mono ?_); (case side1 => first | exact HGL.out | exact (Go.Proofs.YtgdemingopcgaaaDoorX.GL.below HGL.out (by repeat (first | (with_reducible first | exact HB.out | apply below_alloc | apply pw_below_drewN | apply below_drew1 | refine below_set ?_ GE154.out) | exact HB.out))) | (repeat (first | exact HGL.out | (with_reducible refine Go.Proofs.YtgdemingopcgaaaDoorX.GL.drewN ?_ _) | (with_reducible refine Go.Proofs.YtgdemingopcgaaaDoorX.GL.drew ?_)))); rintro e w54 ⟨rfl, hb⟩; refine ⟨_, rfl, ?_⟩; have n0_ := Aside0.mk (blk_below (g := gb154) (o := .cells #[.int .i64 a0_0, .int .i64 a0_1, .int .i64 a0_2, .int .i64 a0_3, .string a0_4, .string a0_5, .string a0_6, .string a0_7, .slice A0_8 l0_8.length c0_8] 24 (0, 0)) (by (with_reducible repeat (first | refine blk_drewN ?_ _ | refine blk_drew ?_ | refine blk_alloc ?_ _)); exact BK154.out) hb); have n1_ := Aside0.mk (below_step (by repeat (first | (with_reducible first | exact HB.out | apply below_alloc | apply pw_below_drewN | apply below_drew1 | refine below_set ?_ GE154.out) | exact HB.out)) hb); clear BK154; clear HB; have BK154 := n0_; have HB := n1_; clear n0_ n1_; (try clear hb); (try clear hb2); (try clear hk); (try clear hi)))
            go_ret
            exact ⟨by first | rfl | (simp [errW_none, errW_some] <;> first | rfl | exact emp_bne _ | exact (emp_bne _).symm | exact emp_bne' _ | exact (emp_bne' _).symm) | (simp [*, errW_none, errW_some] <;> rfl), by repeat (first | (with_reducible first | exact HB.out | apply below_alloc | apply pw_below_drewN | apply below_drew1 | refine below_set ?_ GE154.out) | exact HB.out)⟩
          · rw [if_neg c51] at H
            exact absurd H (by simp)
        · rw [if_neg c49] at H
          have c49b0 : (a0_0 == 4) = false := beq_eq_false_iff_ne.mpr c49
          have c49b1 : (a0_0 != 4) = true := bne_iff_ne.mpr c49
          by_cases c55 : a0_0 = 5
          · rw [if_pos c55] at H
            have c55b0 : (a0_0 == 5) = true := beq_iff_eq.mpr c55
            have c55b1 : (a0_0 != 5) = false := bne_eq_false_iff_eq.mpr c55
            clear c55
            replace H := Option.bind_eq_some_iff.mp H
            obtain ⟨t166, A560, H⟩ := H
            replace H : (if 3 + t166.size ≤ 9223372036854775807 then (if ((⟨#[115, 101, 116]⟩ : ByteArray) ++ t166).size + 1 ≤ 9223372036854775807 then (if (((⟨#[115, 101, 116]⟩ : ByteArray) ++ t166) ++ (⟨#[32]⟩ : ByteArray)).size + a0_6.size ≤ 9223372036854775807 then (if ((((⟨#[115, 101, 116]⟩ : ByteArray) ++ t166) ++ (⟨#[32]⟩ : ByteArray)) ++ a0_6).size + 1 ≤ 9223372036854775807 then ((tendrilref25_quoted.f k a0_7).bind fun t167 => (if (((((⟨#[115, 101, 116]⟩ : ByteArray) ++ t166) ++ (⟨#[32]⟩ : ByteArray)) ++ a0_6) ++ (⟨#[61]⟩ : ByteArray)).size + t167.size ≤ 9223372036854775807 then (some ((((((⟨#[115, 101, 116]⟩ : ByteArray) ++ t166) ++ (⟨#[32]⟩ : ByteArray)) ++ a0_6) ++ (⟨#[61]⟩ : ByteArray)) ++ t167)) else (none))) else (none)) else (none)) else (none)) else (none)) = some r := H
            have A56 := Aside0.mk A560
            clear A560
            by_cases c57 : 3 + t166.size ≤ 9223372036854775807
            · rw [if_pos c57] at H
              have c57b0 := eq_true c57
              have c57b1 : decide (3 + t166.size ≤ 9223372036854775807) = true := decide_eq_true c57
              try have c57b2 : (9223372036854775807 < 3 + t166.size) = False := eq_false (Nat.not_lt.2 c57)
              by_cases c58 : ((⟨#[115, 101, 116]⟩ : ByteArray) ++ t166).size + 1 ≤ 9223372036854775807
              · rw [if_pos c58] at H
                have c58b0 := eq_true c58
                have c58b1 : decide (((⟨#[115, 101, 116]⟩ : ByteArray) ++ t166).size + 1 ≤ 9223372036854775807) = true := decide_eq_true c58
                try have c58b2 : (9223372036854775807 < ((⟨#[115, 101, 116]⟩ : ByteArray) ++ t166).size + 1) = False := eq_false (Nat.not_lt.2 c58)
                have c58b2x : (9223372036854775807 < 3 + t166.size + 1) = False := eq_false (Nat.not_lt.2 (by have h_ := c58; simp only [ByteArray.size_append] at h_; exact h_))
                by_cases c59 : (((⟨#[115, 101, 116]⟩ : ByteArray) ++ t166) ++ (⟨#[32]⟩ : ByteArray)).size + a0_6.size ≤ 9223372036854775807
                · rw [if_pos c59] at H
                  have c59b0 := eq_true c59
                  have c59b1 : decide ((((⟨#[115, 101, 116]⟩ : ByteArray) ++ t166) ++ (⟨#[32]⟩ : ByteArray)).size + a0_6.size ≤ 9223372036854775807) = true := decide_eq_true c59
                  try have c59b2 : (9223372036854775807 < (((⟨#[115, 101, 116]⟩ : ByteArray) ++ t166) ++ (⟨#[32]⟩ : ByteArray)).size + a0_6.size) = False := eq_false (Nat.not_lt.2 c59)
                  have c59b2x : (9223372036854775807 < 3 + t166.size + 1 + a0_6.size) = False := eq_false (Nat.not_lt.2 (by have h_ := c59; simp only [ByteArray.size_append] at h_; exact h_))
                  by_cases c60 : ((((⟨#[115, 101, 116]⟩ : ByteArray) ++ t166) ++ (⟨#[32]⟩ : ByteArray)) ++ a0_6).size + 1 ≤ 9223372036854775807
                  · rw [if_pos c60] at H
                    have c60b0 := eq_true c60
                    have c60b1 : decide (((((⟨#[115, 101, 116]⟩ : ByteArray) ++ t166) ++ (⟨#[32]⟩ : ByteArray)) ++ a0_6).size + 1 ≤ 9223372036854775807) = true := decide_eq_true c60
                    try have c60b2 : (9223372036854775807 < ((((⟨#[115, 101, 116]⟩ : ByteArray) ++ t166) ++ (⟨#[32]⟩ : ByteArray)) ++ a0_6).size + 1) = False := eq_false (Nat.not_lt.2 c60)
                    have c60b2x : (9223372036854775807 < 3 + t166.size + 1 + a0_6.size + 1) = False := eq_false (Nat.not_lt.2 (by have h_ := c60; simp only [ByteArray.size_append] at h_; exact h_))
                    replace H := Option.bind_eq_some_iff.mp H
                    obtain ⟨t167, A610, H⟩ := H
                    replace H : (if (((((⟨#[115, 101, 116]⟩ : ByteArray) ++ t166) ++ (⟨#[32]⟩ : ByteArray)) ++ a0_6) ++ (⟨#[61]⟩ : ByteArray)).size + t167.size ≤ 9223372036854775807 then (some ((((((⟨#[115, 101, 116]⟩ : ByteArray) ++ t166) ++ (⟨#[32]⟩ : ByteArray)) ++ a0_6) ++ (⟨#[61]⟩ : ByteArray)) ++ t167)) else (none)) = some r := H
                    have A61 := Aside0.mk A610
                    clear A610
                    by_cases c62 : (((((⟨#[115, 101, 116]⟩ : ByteArray) ++ t166) ++ (⟨#[32]⟩ : ByteArray)) ++ a0_6) ++ (⟨#[61]⟩ : ByteArray)).size + t167.size ≤ 9223372036854775807
                    · rw [if_pos c62] at H
                      have c62b0 := eq_true c62
                      have c62b1 : decide ((((((⟨#[115, 101, 116]⟩ : ByteArray) ++ t166) ++ (⟨#[32]⟩ : ByteArray)) ++ a0_6) ++ (⟨#[61]⟩ : ByteArray)).size + t167.size ≤ 9223372036854775807) = true := decide_eq_true c62
                      try have c62b2 : (9223372036854775807 < (((((⟨#[115, 101, 116]⟩ : ByteArray) ++ t166) ++ (⟨#[32]⟩ : ByteArray)) ++ a0_6) ++ (⟨#[61]⟩ : ByteArray)).size + t167.size) = False := eq_false (Nat.not_lt.2 c62)
                      have c62b2x : (9223372036854775807 < 3 + t166.size + 1 + a0_6.size + 1 + t167.size) = False := eq_false (Nat.not_lt.2 (by have h_ := c62; simp only [ByteArray.size_append] at h_; exact h_))
                      obtain rfl := Option.some.inj H
                      go_enter Tryd.func11, Tryd.ntmps11
                      try go_wp2_with (first | ((with_reducible refine gate_dst (N := 1) rfl ?_); refine box_event ?hg (N := 1) ?hd (cs := #[.int .i64 a0_0, .int .i64 a0_1, .int .i64 a0_2, .int .i64 a0_3, .string a0_4, .string a0_5, .string a0_6, .string a0_7, .slice A0_8 l0_8.length c0_8]) (t := 24) ?hr ?_; (case hd => rfl); (case hg => rfl); (case hr => first | (go_simp; done) | (go_simp; rfl)); intro gb154 hg w63 hbox hb; have n0_ := Aside0.mk (below_step (by repeat (first | (with_reducible first | exact HB.out | apply below_alloc | apply pw_below_drewN | apply below_drew1) | exact HB.out)) hb); have n1_ := Aside0.mk (hbox); have n2_ := Aside0.mk ((by rw [hg]; exact (below_size (by repeat (first | (with_reducible first | exact HB.out | apply below_alloc | apply pw_below_drewN | apply below_drew1) | exact HB.out))) : w.heap.size ≤ gb154)); have n3_ := Aside0.mk ((by rw [hg]; exact (below_size (by repeat (first | (with_reducible first | exact HB.out | apply below_alloc | apply pw_below_drewN | apply below_drew1) | exact HB.out))) : w.heap.size ≤ gb154)); clear HB; have HB := n0_; have BK154 := n1_; have GW154 := n2_; have GE154 := n3_; clear n0_ n1_ n2_ n3_; clear hb hbox hg; have hcz64_0 : w63.cell? ⟨gb154, 0, none⟩ = some (.int .i64 a0_0) := (blk_cell BK154.out 0).trans rfl; have hcz64_1 : w63.cell? ⟨gb154, 1, none⟩ = some (.int .i64 a0_1) := (blk_cell BK154.out 1).trans rfl; have hcz64_2 : w63.cell? ⟨gb154, 2, none⟩ = some (.int .i64 a0_2) := (blk_cell BK154.out 2).trans rfl; have hcz64_3 : w63.cell? ⟨gb154, 3, none⟩ = some (.int .i64 a0_3) := (blk_cell BK154.out 3).trans rfl; have hcz64_4 : w63.cell? ⟨gb154, 4, none⟩ = some (.string a0_4) := (blk_cell BK154.out 4).trans rfl; have hcz64_5 : w63.cell? ⟨gb154, 5, none⟩ = some (.string a0_5) := (blk_cell BK154.out 5).trans rfl; have hcz64_6 : w63.cell? ⟨gb154, 6, none⟩ = some (.string a0_6) := (blk_cell BK154.out 6).trans rfl; have hcz64_7 : w63.cell? ⟨gb154, 7, none⟩ = some (.string a0_7) := (blk_cell BK154.out 7).trans rfl; have hcz64_8 : w63.cell? ⟨gb154, 8, none⟩ = some (.slice A0_8 l0_8.length c0_8) := (blk_cell BK154.out 8).trans rfl; have hfz64_0 := blk_frozen BK154.out 0; have hfz64_1 := blk_frozen BK154.out 1; have hfz64_2 := blk_frozen BK154.out 2; have hfz64_3 := blk_frozen BK154.out 3; have hfz64_4 := blk_frozen BK154.out 4; have hfz64_5 := blk_frozen BK154.out 5; have hfz64_6 := blk_frozen BK154.out 6; have hfz64_7 := blk_frozen BK154.out 7; have hfz64_8 := blk_frozen BK154.out 8))
                      have n0_ := Aside0.mk (blk_drew BK154.out)
                      have n1_ := Aside0.mk (below_drew1 HB.out)
                      clear BK154
                      clear HB
                      have BK154 := n0_
                      have HB := n1_
                      clear n0_ n1_
                      refine start_ (n := 14) (S := fun w' => w'.cell? ⟨gb154, 0, none⟩ = some (.int .i64 a0_0) ∧ w'.cell? ⟨gb154, 1, none⟩ = some (.int .i64 a0_1) ∧ w'.cell? ⟨gb154, 2, none⟩ = some (.int .i64 a0_2) ∧ w'.cell? ⟨gb154, 3, none⟩ = some (.int .i64 a0_3) ∧ w'.cell? ⟨gb154, 4, none⟩ = some (.string a0_4) ∧ w'.cell? ⟨gb154, 5, none⟩ = some (.string a0_5) ∧ w'.cell? ⟨gb154, 6, none⟩ = some (.string a0_6) ∧ w'.cell? ⟨gb154, 7, none⟩ = some (.string a0_7) ∧ w'.cell? ⟨gb154, 8, none⟩ = some (.slice A0_8 l0_8.length c0_8)) (ds := []) #[false, false, false, false, false, false, false, false, false, false, false, false, false, false] (by kernel_rfl) rfl rfl ⟨(blk_cell BK154.out 0).trans rfl, (blk_cell BK154.out 1).trans rfl, (blk_cell BK154.out 2).trans rfl, (blk_cell BK154.out 3).trans rfl, (blk_cell BK154.out 4).trans rfl, (blk_cell BK154.out 5).trans rfl, (blk_cell BK154.out 6).trans rfl, (blk_cell BK154.out 7).trans rfl, (blk_cell BK154.out 8).trans rfl⟩ (fun hHeld => ?_); refine with_tabW tendrilref25_Line.tab17 tendrilref25_Line.bits17 (fun HT_ HW_ => ?_)
                      generalize w63.drew = w65 at BK154 HB hHeld ⊢
                      refine pure_ (i := 0) (N := some 80) (v := ?_) (a' := ?_) #[true, false, false, false, false, false, false, false, false, false, false, false, false, false] rfl rfl (any_of HT_.out (by kernel_rfl)) (fun _ _ _ h => h) (Or.inl ⟨by rfl, ?_⟩) ?_ ?_
                      rotate_left
                      · intro w'
                        go_simp
                        with_reducible rfl
                      rotate_left
                      · simp only [Act.put, List.setIfInBounds_toArray, List.set_cons_zero, List.set_cons_succ, i64_w, i32_w]
                        rfl
                      refine pure_ (i := 5) (N := some 85) (v := ?_) (a' := ?_) #[true, false, false, false, false, true, false, false, false, false, false, false, false, false] rfl rfl (any_of HT_.out (by kernel_rfl)) (fun _ _ _ h => h) (Or.inl ⟨by rfl, ?_⟩) ?_ ?_
                      rotate_left
                      · intro w'
                        go_simp
                        with_reducible rfl
                      rotate_left
                      · simp only [Act.put, List.setIfInBounds_toArray, List.set_cons_zero, List.set_cons_succ, i64_w, i32_w]
                        rfl
                      refine pure_ (i := 9) (N := some 89) (v := ?_) (a' := ?_) #[true, false, false, false, false, true, false, false, false, true, false, false, false, false] rfl rfl (any_of HT_.out (by kernel_rfl)) (fun _ _ _ h => h) (Or.inl ⟨by rfl, ?_⟩) ?_ ?_
                      rotate_left
                      · intro w'
                        go_simp
                        with_reducible rfl
                      rotate_left
                      · simp only [Act.put, List.setIfInBounds_toArray, List.set_cons_zero, List.set_cons_succ, i64_w, i32_w]
                        rfl
                      refine take_ (i := 1) (N := some 81) (v := ?_) (a' := ?_) #[true, true, false, false, false, true, false, false, false, true, false, false, false, false] rfl rfl (take_ofW HT_.out HW_.out (by kernel_rfl)) (fun _ _ _ h => h) (Or.inl ⟨by rfl, ?_⟩) hHeld ?_ ?_
                      rotate_left
                      · rintro w' ⟨s0, s1, s2, s3, s4, s5, s6, s7, s8⟩
                        go_simp
                        with_reducible rfl
                      rotate_left
                      · simp only [Act.put, List.setIfInBounds_toArray, List.set_cons_zero, List.set_cons_succ, i64_w, i32_w]
                        rfl
                      refine take_ (i := 6) (N := some 86) (v := ?_) (a' := ?_) #[true, true, false, false, false, true, true, false, false, true, false, false, false, false] rfl rfl (take_ofW HT_.out HW_.out (by kernel_rfl)) (fun _ _ _ h => h) (Or.inl ⟨by rfl, ?_⟩) hHeld ?_ ?_
                      rotate_left
                      · rintro w' ⟨s0, s1, s2, s3, s4, s5, s6, s7, s8⟩
                        go_simp
                        with_reducible rfl
                      rotate_left
                      · simp only [Act.put, List.setIfInBounds_toArray, List.set_cons_zero, List.set_cons_succ, i64_w, i32_w]
                        rfl
                      refine take_ (i := 10) (N := some 90) (v := ?_) (a' := ?_) #[true, true, false, false, false, true, true, false, false, true, true, false, false, false] rfl rfl (take_ofW HT_.out HW_.out (by kernel_rfl)) (fun _ _ _ h => h) (Or.inl ⟨by rfl, ?_⟩) hHeld ?_ ?_
                      rotate_left
                      · rintro w' ⟨s0, s1, s2, s3, s4, s5, s6, s7, s8⟩
                        go_simp
                        with_reducible rfl
                      rotate_left
                      · simp only [Act.put, List.setIfInBounds_toArray, List.set_cons_zero, List.set_cons_succ, i64_w, i32_w]
                        rfl
                      refine one_ (i := 2) (N := some 82) #[true, true, true, false, false, true, true, false, false, true, true, false, false, false] rfl rfl (one_of HT_.out (by kernel_rfl)) (by decide) (fun K hK => ?_)
                      refine goes_ Tryd.func32 (by kernel_rfl) rfl #[.int .i64 a0_1] (by rfl) rfl rfl (by (try simp only [List.map_toArray, List.map_cons, List.map_nil]); first | done | rfl | (simp only [List.length_drop, List.length_take]; rfl)) ?_
                      with_reducible refine (tendrilref25_num.calls k a0_1 t166 _ ?side1 A56.out).mono ?_
                      (case side1 => first | exact HGL.out | exact (Go.Proofs.YtgdemingopcgaaaDoorX.GL.below HGL.out (by repeat (first | (with_reducible first | exact HB.out | apply below_alloc | apply pw_below_drewN | apply below_drew1 | refine below_set ?_ GE154.out) | exact HB.out))) | (repeat (first | exact HGL.out | (with_reducible refine Go.Proofs.YtgdemingopcgaaaDoorX.GL.drewN ?_ _) | (with_reducible refine Go.Proofs.YtgdemingopcgaaaDoorX.GL.drew ?_))))
                      rintro e w66 ⟨rfl, hb⟩
                      refine ⟨_, rfl, ?_⟩
                      have n0_ := Aside0.mk (blk_below (g := gb154) (o := .cells #[.int .i64 a0_0, .int .i64 a0_1, .int .i64 a0_2, .int .i64 a0_3, .string a0_4, .string a0_5, .string a0_6, .string a0_7, .slice A0_8 l0_8.length c0_8] 24 (0, 0)) (by (with_reducible repeat (first | refine blk_drewN ?_ _ | refine blk_drew ?_ | refine blk_alloc ?_ _)); exact BK154.out) hb)
                      have n1_ := Aside0.mk (below_step (by repeat (first | (with_reducible first | exact HB.out | apply below_alloc | apply pw_below_drewN | apply below_drew1 | refine below_set ?_ GE154.out) | exact HB.out)) hb)
                      clear BK154
                      clear HB
                      have BK154 := n0_
                      have HB := n1_
                      clear n0_ n1_
                      (try clear hb)
                      (try clear hb2)
                      (try clear hk)
                      (try clear hi)
                      refine hK.out _ _ ⟨(blk_cell BK154.out 0).trans rfl, (blk_cell BK154.out 1).trans rfl, (blk_cell BK154.out 2).trans rfl, (blk_cell BK154.out 3).trans rfl, (blk_cell BK154.out 4).trans rfl, (blk_cell BK154.out 5).trans rfl, (blk_cell BK154.out 6).trans rfl, (blk_cell BK154.out 7).trans rfl, (blk_cell BK154.out 8).trans rfl⟩ (fun hHeld => ?_)
                      clear hK K
                      refine norm_ (a' := ?_) ?_ ?_
                      rotate_left
                      · show Act.put _ (some 82) _ = _
                        simp only [Act.put, List.setIfInBounds_toArray, List.set_cons_zero, List.set_cons_succ, i64_w, i32_w]
                        rfl
                      refine pure_ (i := 3) (N := some 83) (v := ?_) (a' := ?_) #[true, true, true, true, false, true, true, false, false, true, true, false, false, false] rfl rfl (any_of HT_.out (by kernel_rfl)) (fun _ _ _ h => h) (Or.inl ⟨by rfl, ?_⟩) ?_ ?_
                      rotate_left
                      · intro w'
                        go_simp
                        with_reducible rfl
                      rotate_left
                      · simp only [Act.put, List.setIfInBounds_toArray, List.set_cons_zero, List.set_cons_succ, i64_w, i32_w]
                        rfl
                      refine pure_ (i := 4) (N := some 84) (v := ?_) (a' := ?_) #[true, true, true, true, true, true, true, false, false, true, true, false, false, false] rfl rfl (any_of HT_.out (by kernel_rfl)) (fun _ _ _ h => h) (Or.inl ⟨by rfl, ?_⟩) ?_ ?_
                      rotate_left
                      · intro w'
                        go_simp
                        with_reducible rfl
                      rotate_left
                      · simp only [Act.put, List.setIfInBounds_toArray, List.set_cons_zero, List.set_cons_succ, i64_w, i32_w]
                        rfl
                      refine pure_ (i := 7) (N := some 87) (v := ?_) (a' := ?_) #[true, true, true, true, true, true, true, true, false, true, true, false, false, false] rfl rfl (any_of HT_.out (by kernel_rfl)) (fun _ _ _ h => h) (Or.inl ⟨by rfl, ?_⟩) ?_ ?_
                      rotate_left
                      · intro w'
                        go_simp
                        with_reducible rfl
                      rotate_left
                      · simp only [Act.put, List.setIfInBounds_toArray, List.set_cons_zero, List.set_cons_succ, i64_w, i32_w]
                        rfl
                      refine pure_ (i := 8) (N := some 88) (v := ?_) (a' := ?_) #[true, true, true, true, true, true, true, true, true, true, true, false, false, false] rfl rfl (any_of HT_.out (by kernel_rfl)) (fun _ _ _ h => h) (Or.inl ⟨by rfl, ?_⟩) ?_ ?_
                      rotate_left
                      · intro w'
                        go_simp
                        with_reducible rfl
                      rotate_left
                      · simp only [Act.put, List.setIfInBounds_toArray, List.set_cons_zero, List.set_cons_succ, i64_w, i32_w]
                        rfl
                      refine one_ (i := 11) (N := some 91) #[true, true, true, true, true, true, true, true, true, true, true, true, false, false] rfl rfl (one_of HT_.out (by kernel_rfl)) (by decide) (fun K hK => ?_)
                      refine goes_ Tryd.func31 (by kernel_rfl) rfl #[.string a0_7] (by rfl) rfl rfl (by (try simp only [List.map_toArray, List.map_cons, List.map_nil]); first | done | rfl | (simp only [List.length_drop, List.length_take]; rfl)) ?_
                      with_reducible refine (tendrilref25_quoted.calls k a0_7 t167 _ ?side1 A61.out).mono ?_
                      (case side1 => first | exact HGL.out | exact (Go.Proofs.YtgdemingopcgaaaDoorX.GL.below HGL.out (by repeat (first | (with_reducible first | exact HB.out | apply below_alloc | apply pw_below_drewN | apply below_drew1 | refine below_set ?_ GE154.out) | exact HB.out))) | (repeat (first | exact HGL.out | (with_reducible refine Go.Proofs.YtgdemingopcgaaaDoorX.GL.drewN ?_ _) | (with_reducible refine Go.Proofs.YtgdemingopcgaaaDoorX.GL.drew ?_))))
                      rintro e w67 ⟨rfl, hb⟩
                      refine ⟨_, rfl, ?_⟩
                      have n0_ := Aside0.mk (blk_below (g := gb154) (o := .cells #[.int .i64 a0_0, .int .i64 a0_1, .int .i64 a0_2, .int .i64 a0_3, .string a0_4, .string a0_5, .string a0_6, .string a0_7, .slice A0_8 l0_8.length c0_8] 24 (0, 0)) (by (with_reducible repeat (first | refine blk_drewN ?_ _ | refine blk_drew ?_ | refine blk_alloc ?_ _)); exact BK154.out) hb)
                      have n1_ := Aside0.mk (below_step (by repeat (first | (with_reducible first | exact HB.out | apply below_alloc | apply pw_below_drewN | apply below_drew1 | refine below_set ?_ GE154.out) | exact HB.out)) hb)
                      clear BK154
                      clear HB
                      have BK154 := n0_
                      have HB := n1_
                      clear n0_ n1_
                      (try clear hb)
                      (try clear hb2)
                      (try clear hk)
                      (try clear hi)
                      refine hK.out _ _ ⟨(blk_cell BK154.out 0).trans rfl, (blk_cell BK154.out 1).trans rfl, (blk_cell BK154.out 2).trans rfl, (blk_cell BK154.out 3).trans rfl, (blk_cell BK154.out 4).trans rfl, (blk_cell BK154.out 5).trans rfl, (blk_cell BK154.out 6).trans rfl, (blk_cell BK154.out 7).trans rfl, (blk_cell BK154.out 8).trans rfl⟩ (fun hHeld => ?_)
                      clear hK K
                      refine norm_ (a' := ?_) ?_ ?_
                      rotate_left
                      · show Act.put _ (some 91) _ = _
                        simp only [Act.put, List.setIfInBounds_toArray, List.set_cons_zero, List.set_cons_succ, i64_w, i32_w]
                        rfl
                      refine pure_ (i := 12) (N := some 92) (v := ?_) (a' := ?_) #[true, true, true, true, true, true, true, true, true, true, true, true, true, false] rfl rfl (any_of HT_.out (by kernel_rfl)) (fun _ _ _ h => h) (Or.inl ⟨by rfl, ?_⟩) ?_ ?_
                      rotate_left
                      · intro w'
                        go_simp
                        with_reducible rfl
                      rotate_left
                      · simp only [Act.put, List.setIfInBounds_toArray, List.set_cons_zero, List.set_cons_succ, i64_w, i32_w]
                        rfl
                      refine pure_ (i := 13) (N := some 2) (v := ?_) (a' := ?_) #[true, true, true, true, true, true, true, true, true, true, true, true, true, true] rfl rfl (any_of HT_.out (by kernel_rfl)) (fun _ _ _ h => h) (Or.inl ⟨by rfl, ?_⟩) ?_ ?_
                      rotate_left
                      · intro w'
                        go_simp
                        with_reducible rfl
                      rotate_left
                      · simp only [Act.put, List.setIfInBounds_toArray, List.set_cons_zero, List.set_cons_succ, i64_w, i32_w]
                        rfl
                      refine done_ (done_of HT_.out (by kernel_rfl)) ?_
                      try go_wp2
                      go_ret
                      exact ⟨by first | rfl | (simp [errW_none, errW_some] <;> first | rfl | exact emp_bne _ | exact (emp_bne _).symm | exact emp_bne' _ | exact (emp_bne' _).symm) | (simp [*, errW_none, errW_some] <;> rfl), by repeat (first | (with_reducible first | exact HB.out | apply below_alloc | apply pw_below_drewN | apply below_drew1 | refine below_set ?_ GE154.out) | exact HB.out)⟩
                    · rw [if_neg c62] at H
                      exact absurd H (by simp)
                  · rw [if_neg c60] at H
                    exact absurd H (by simp)
                · rw [if_neg c59] at H
                  exact absurd H (by simp)
              · rw [if_neg c58] at H
                exact absurd H (by simp)
            · rw [if_neg c57] at H
              exact absurd H (by simp)
          · rw [if_neg c55] at H
            have c55b0 : (a0_0 == 5) = false := beq_eq_false_iff_ne.mpr c55
            have c55b1 : (a0_0 != 5) = true := bne_iff_ne.mpr c55
            by_cases c68 : a0_0 = 6
            · rw [if_pos c68] at H
              have c68b0 : (a0_0 == 6) = true := beq_iff_eq.mpr c68
              have c68b1 : (a0_0 != 6) = false := bne_eq_false_iff_eq.mpr c68
              clear c68
              replace H := Option.bind_eq_some_iff.mp H
              obtain ⟨t168, A690, H⟩ := H
              replace H : (if 3 + t168.size ≤ 9223372036854775807 then (if ((⟨#[100, 101, 108]⟩ : ByteArray) ++ t168).size + 1 ≤ 9223372036854775807 then (if (((⟨#[100, 101, 108]⟩ : ByteArray) ++ t168) ++ (⟨#[32]⟩ : ByteArray)).size + a0_6.size ≤ 9223372036854775807 then (some ((((⟨#[100, 101, 108]⟩ : ByteArray) ++ t168) ++ (⟨#[32]⟩ : ByteArray)) ++ a0_6)) else (none)) else (none)) else (none)) = some r := H
              have A69 := Aside0.mk A690
              clear A690
              by_cases c70 : 3 + t168.size ≤ 9223372036854775807
              · rw [if_pos c70] at H
                have c70b0 := eq_true c70
                have c70b1 : decide (3 + t168.size ≤ 9223372036854775807) = true := decide_eq_true c70
                try have c70b2 : (9223372036854775807 < 3 + t168.size) = False := eq_false (Nat.not_lt.2 c70)
                by_cases c71 : ((⟨#[100, 101, 108]⟩ : ByteArray) ++ t168).size + 1 ≤ 9223372036854775807
                · rw [if_pos c71] at H
                  have c71b0 := eq_true c71
                  have c71b1 : decide (((⟨#[100, 101, 108]⟩ : ByteArray) ++ t168).size + 1 ≤ 9223372036854775807) = true := decide_eq_true c71
                  try have c71b2 : (9223372036854775807 < ((⟨#[100, 101, 108]⟩ : ByteArray) ++ t168).size + 1) = False := eq_false (Nat.not_lt.2 c71)
                  have c71b2x : (9223372036854775807 < 3 + t168.size + 1) = False := eq_false (Nat.not_lt.2 (by have h_ := c71; simp only [ByteArray.size_append] at h_; exact h_))
                  by_cases c72 : (((⟨#[100, 101, 108]⟩ : ByteArray) ++ t168) ++ (⟨#[32]⟩ : ByteArray)).size + a0_6.size ≤ 9223372036854775807
                  · rw [if_pos c72] at H
                    have c72b0 := eq_true c72
                    have c72b1 : decide ((((⟨#[100, 101, 108]⟩ : ByteArray) ++ t168) ++ (⟨#[32]⟩ : ByteArray)).size + a0_6.size ≤ 9223372036854775807) = true := decide_eq_true c72
                    try have c72b2 : (9223372036854775807 < (((⟨#[100, 101, 108]⟩ : ByteArray) ++ t168) ++ (⟨#[32]⟩ : ByteArray)).size + a0_6.size) = False := eq_false (Nat.not_lt.2 c72)
                    have c72b2x : (9223372036854775807 < 3 + t168.size + 1 + a0_6.size) = False := eq_false (Nat.not_lt.2 (by have h_ := c72; simp only [ByteArray.size_append] at h_; exact h_))
                    obtain rfl := Option.some.inj H
                    go_enter Tryd.func11, Tryd.ntmps11
                    try go_wp2_with (first | ((with_reducible refine gate_dst (N := 1) rfl ?_); refine box_event ?hg (N := 1) ?hd (cs := #[.int .i64 a0_0, .int .i64 a0_1, .int .i64 a0_2, .int .i64 a0_3, .string a0_4, .string a0_5, .string a0_6, .string a0_7, .slice A0_8 l0_8.length c0_8]) (t := 24) ?hr ?_; (case hd => rfl); (case hg => rfl); (case hr => first | (go_simp; done) | (go_simp; rfl)); intro gb154 hg w73 hbox hb; have n0_ := Aside0.mk (below_step (by repeat (first | (with_reducible first | exact HB.out | apply below_alloc | apply pw_below_drewN | apply below_drew1) | exact HB.out)) hb); have n1_ := Aside0.mk (hbox); have n2_ := Aside0.mk ((by rw [hg]; exact (below_size (by repeat (first | (with_reducible first | exact HB.out | apply below_alloc | apply pw_below_drewN | apply below_drew1) | exact HB.out))) : w.heap.size ≤ gb154)); have n3_ := Aside0.mk ((by rw [hg]; exact (below_size (by repeat (first | (with_reducible first | exact HB.out | apply below_alloc | apply pw_below_drewN | apply below_drew1) | exact HB.out))) : w.heap.size ≤ gb154)); clear HB; have HB := n0_; have BK154 := n1_; have GW154 := n2_; have GE154 := n3_; clear n0_ n1_ n2_ n3_; clear hb hbox hg; have hcz74_0 : w73.cell? ⟨gb154, 0, none⟩ = some (.int .i64 a0_0) := (blk_cell BK154.out 0).trans rfl; have hcz74_1 : w73.cell? ⟨gb154, 1, none⟩ = some (.int .i64 a0_1) := (blk_cell BK154.out 1).trans rfl; have hcz74_2 : w73.cell? ⟨gb154, 2, none⟩ = some (.int .i64 a0_2) := (blk_cell BK154.out 2).trans rfl; have hcz74_3 : w73.cell? ⟨gb154, 3, none⟩ = some (.int .i64 a0_3) := (blk_cell BK154.out 3).trans rfl; have hcz74_4 : w73.cell? ⟨gb154, 4, none⟩ = some (.string a0_4) := (blk_cell BK154.out 4).trans rfl; have hcz74_5 : w73.cell? ⟨gb154, 5, none⟩ = some (.string a0_5) := (blk_cell BK154.out 5).trans rfl; have hcz74_6 : w73.cell? ⟨gb154, 6, none⟩ = some (.string a0_6) := (blk_cell BK154.out 6).trans rfl; have hcz74_7 : w73.cell? ⟨gb154, 7, none⟩ = some (.string a0_7) := (blk_cell BK154.out 7).trans rfl; have hcz74_8 : w73.cell? ⟨gb154, 8, none⟩ = some (.slice A0_8 l0_8.length c0_8) := (blk_cell BK154.out 8).trans rfl; have hfz74_0 := blk_frozen BK154.out 0; have hfz74_1 := blk_frozen BK154.out 1; have hfz74_2 := blk_frozen BK154.out 2; have hfz74_3 := blk_frozen BK154.out 3; have hfz74_4 := blk_frozen BK154.out 4; have hfz74_5 := blk_frozen BK154.out 5; have hfz74_6 := blk_frozen BK154.out 6; have hfz74_7 := blk_frozen BK154.out 7; have hfz74_8 := blk_frozen BK154.out 8))
                    have n0_ := Aside0.mk (blk_drew BK154.out)
                    have n1_ := Aside0.mk (below_drew1 HB.out)
                    clear BK154
                    clear HB
                    have BK154 := n0_
                    have HB := n1_
                    clear n0_ n1_
                    refine start_ (n := 9) (S := fun w' => w'.cell? ⟨gb154, 0, none⟩ = some (.int .i64 a0_0) ∧ w'.cell? ⟨gb154, 1, none⟩ = some (.int .i64 a0_1) ∧ w'.cell? ⟨gb154, 2, none⟩ = some (.int .i64 a0_2) ∧ w'.cell? ⟨gb154, 3, none⟩ = some (.int .i64 a0_3) ∧ w'.cell? ⟨gb154, 4, none⟩ = some (.string a0_4) ∧ w'.cell? ⟨gb154, 5, none⟩ = some (.string a0_5) ∧ w'.cell? ⟨gb154, 6, none⟩ = some (.string a0_6) ∧ w'.cell? ⟨gb154, 7, none⟩ = some (.string a0_7) ∧ w'.cell? ⟨gb154, 8, none⟩ = some (.slice A0_8 l0_8.length c0_8)) (ds := []) #[false, false, false, false, false, false, false, false, false] (by kernel_rfl) rfl rfl ⟨(blk_cell BK154.out 0).trans rfl, (blk_cell BK154.out 1).trans rfl, (blk_cell BK154.out 2).trans rfl, (blk_cell BK154.out 3).trans rfl, (blk_cell BK154.out 4).trans rfl, (blk_cell BK154.out 5).trans rfl, (blk_cell BK154.out 6).trans rfl, (blk_cell BK154.out 7).trans rfl, (blk_cell BK154.out 8).trans rfl⟩ (fun hHeld => ?_); refine with_tabW tendrilref25_Line.tab19 tendrilref25_Line.bits19 (fun HT_ HW_ => ?_)
                    generalize w73.drew = w75 at BK154 HB hHeld ⊢
                    refine pure_ (i := 0) (N := some 95) (v := ?_) (a' := ?_) #[true, false, false, false, false, false, false, false, false] rfl rfl (any_of HT_.out (by kernel_rfl)) (fun _ _ _ h => h) (Or.inl ⟨by rfl, ?_⟩) ?_ ?_
                    rotate_left
                    · intro w'
                      go_simp
                      with_reducible rfl
                    rotate_left
                    · simp only [Act.put, List.setIfInBounds_toArray, List.set_cons_zero, List.set_cons_succ, i64_w, i32_w]
                      rfl
                    refine pure_ (i := 5) (N := some 100) (v := ?_) (a' := ?_) #[true, false, false, false, false, true, false, false, false] rfl rfl (any_of HT_.out (by kernel_rfl)) (fun _ _ _ h => h) (Or.inl ⟨by rfl, ?_⟩) ?_ ?_
                    rotate_left
                    · intro w'
                      go_simp
                      with_reducible rfl
                    rotate_left
                    · simp only [Act.put, List.setIfInBounds_toArray, List.set_cons_zero, List.set_cons_succ, i64_w, i32_w]
                      rfl
                    refine take_ (i := 1) (N := some 96) (v := ?_) (a' := ?_) #[true, true, false, false, false, true, false, false, false] rfl rfl (take_ofW HT_.out HW_.out (by kernel_rfl)) (fun _ _ _ h => h) (Or.inl ⟨by rfl, ?_⟩) hHeld ?_ ?_
                    rotate_left
                    · rintro w' ⟨s0, s1, s2, s3, s4, s5, s6, s7, s8⟩
                      go_simp
                      with_reducible rfl
                    rotate_left
                    · simp only [Act.put, List.setIfInBounds_toArray, List.set_cons_zero, List.set_cons_succ, i64_w, i32_w]
                      rfl
                    refine take_ (i := 6) (N := some 101) (v := ?_) (a' := ?_) #[true, true, false, false, false, true, true, false, false] rfl rfl (take_ofW HT_.out HW_.out (by kernel_rfl)) (fun _ _ _ h => h) (Or.inl ⟨by rfl, ?_⟩) hHeld ?_ ?_
                    rotate_left
                    · rintro w' ⟨s0, s1, s2, s3, s4, s5, s6, s7, s8⟩
                      go_simp
                      with_reducible rfl
                    rotate_left
                    · simp only [Act.put, List.setIfInBounds_toArray, List.set_cons_zero, List.set_cons_succ, i64_w, i32_w]
                      rfl
                    refine one_ (i := 2) (N := some 97) #[true, true, true, false, false, true, true, false, false] rfl rfl (one_of HT_.out (by kernel_rfl)) (by decide) (fun K hK => ?_)
                    refine goes_ Tryd.func32 (by kernel_rfl) rfl #[.int .i64 a0_1] (by rfl) rfl rfl (by (try simp only [List.map_toArray, List.map_cons, List.map_nil]); first | done | rfl | (simp only [List.length_drop, List.length_take]; rfl)) ?_
                    with_reducible refine (tendrilref25_num.calls k a0_1 t168 _ ?side1 A69.out).mono ?_
                    (case side1 => first | exact HGL.out | exact (Go.Proofs.YtgdemingopcgaaaDoorX.GL.below HGL.out (by repeat (first | (with_reducible first | exact HB.out | apply below_alloc | apply pw_below_drewN | apply below_drew1 | refine below_set ?_ GE154.out) | exact HB.out))) | (repeat (first | exact HGL.out | (with_reducible refine Go.Proofs.YtgdemingopcgaaaDoorX.GL.drewN ?_ _) | (with_reducible refine Go.Proofs.YtgdemingopcgaaaDoorX.GL.drew ?_))))
                    rintro e w76 ⟨rfl, hb⟩
                    refine ⟨_, rfl, ?_⟩
                    have n0_ := Aside0.mk (blk_below (g := gb154) (o := .cells #[.int .i64 a0_0, .int .i64 a0_1, .int .i64 a0_2, .int .i64 a0_3, .string a0_4, .string a0_5, .string a0_6, .string a0_7, .slice A0_8 l0_8.length c0_8] 24 (0, 0)) (by (with_reducible repeat (first | refine blk_drewN ?_ _ | refine blk_drew ?_ | refine blk_alloc ?_ _)); exact BK154.out) hb)
                    have n1_ := Aside0.mk (below_step (by repeat (first | (with_reducible first | exact HB.out | apply below_alloc | apply pw_below_drewN | apply below_drew1 | refine below_set ?_ GE154.out) | exact HB.out)) hb)
                    clear BK154
                    clear HB
                    have BK154 := n0_
                    have HB := n1_
                    clear n0_ n1_
                    (try clear hb)
                    (try clear hb2)
                    (try clear hk)
                    (try clear hi)
                    refine hK.out _ _ ⟨(blk_cell BK154.out 0).trans rfl, (blk_cell BK154.out 1).trans rfl, (blk_cell BK154.out 2).trans rfl, (blk_cell BK154.out 3).trans rfl, (blk_cell BK154.out 4).trans rfl, (blk_cell BK154.out 5).trans rfl, (blk_cell BK154.out 6).trans rfl, (blk_cell BK154.out 7).trans rfl, (blk_cell BK154.out 8).trans rfl⟩ (fun hHeld => ?_)
                    clear hK K
                    refine norm_ (a' := ?_) ?_ ?_
                    rotate_left
                    · show Act.put _ (some 97) _ = _
                      simp only [Act.put, List.setIfInBounds_toArray, List.set_cons_zero, List.set_cons_succ, i64_w, i32_w]
                      rfl
                    refine pure_ (i := 3) (N := some 98) (v := ?_) (a' := ?_) #[true, true, true, true, false, true, true, false, false] rfl rfl (any_of HT_.out (by kernel_rfl)) (fun _ _ _ h => h) (Or.inl ⟨by rfl, ?_⟩) ?_ ?_
                    rotate_left
                    · intro w'
                      go_simp
                      with_reducible rfl
                    rotate_left
                    · simp only [Act.put, List.setIfInBounds_toArray, List.set_cons_zero, List.set_cons_succ, i64_w, i32_w]
                      rfl
                    refine pure_ (i := 4) (N := some 99) (v := ?_) (a' := ?_) #[true, true, true, true, true, true, true, false, false] rfl rfl (any_of HT_.out (by kernel_rfl)) (fun _ _ _ h => h) (Or.inl ⟨by rfl, ?_⟩) ?_ ?_
                    rotate_left
                    · intro w'
                      go_simp
                      with_reducible rfl
                    rotate_left
                    · simp only [Act.put, List.setIfInBounds_toArray, List.set_cons_zero, List.set_cons_succ, i64_w, i32_w]
                      rfl
                    refine pure_ (i := 7) (N := some 102) (v := ?_) (a' := ?_) #[true, true, true, true, true, true, true, true, false] rfl rfl (any_of HT_.out (by kernel_rfl)) (fun _ _ _ h => h) (Or.inl ⟨by rfl, ?_⟩) ?_ ?_
                    rotate_left
                    · intro w'
                      go_simp
                      with_reducible rfl
                    rotate_left
                    · simp only [Act.put, List.setIfInBounds_toArray, List.set_cons_zero, List.set_cons_succ, i64_w, i32_w]
                      rfl
                    refine pure_ (i := 8) (N := some 2) (v := ?_) (a' := ?_) #[true, true, true, true, true, true, true, true, true] rfl rfl (any_of HT_.out (by kernel_rfl)) (fun _ _ _ h => h) (Or.inl ⟨by rfl, ?_⟩) ?_ ?_
                    rotate_left
                    · intro w'
                      go_simp
                      with_reducible rfl
                    rotate_left
                    · simp only [Act.put, List.setIfInBounds_toArray, List.set_cons_zero, List.set_cons_succ, i64_w, i32_w]
                      rfl
                    refine done_ (done_of HT_.out (by kernel_rfl)) ?_
                    try go_wp2
                    go_ret
                    exact ⟨by first | rfl | (simp [errW_none, errW_some] <;> first | rfl | exact emp_bne _ | exact (emp_bne _).symm | exact emp_bne' _ | exact (emp_bne' _).symm) | (simp [*, errW_none, errW_some] <;> rfl), by repeat (first | (with_reducible first | exact HB.out | apply below_alloc | apply pw_below_drewN | apply below_drew1 | refine below_set ?_ GE154.out) | exact HB.out)⟩
                  · rw [if_neg c72] at H
                    exact absurd H (by simp)
                · rw [if_neg c71] at H
                  exact absurd H (by simp)
              · rw [if_neg c70] at H
                exact absurd H (by simp)
            · rw [if_neg c68] at H
              have c68b0 : (a0_0 == 6) = false := beq_eq_false_iff_ne.mpr c68
              have c68b1 : (a0_0 != 6) = true := bne_iff_ne.mpr c68
              replace H := Option.bind_eq_some_iff.mp H
              obtain ⟨t169, A770, H⟩ := H
              replace H : (if 4 + t169.size ≤ 9223372036854775807 then (if ((⟨#[116, 101, 120, 116]⟩ : ByteArray) ++ t169).size + 1 ≤ 9223372036854775807 then ((tendrilref25_quoted.f k a0_7).bind fun t170 => (if (((⟨#[116, 101, 120, 116]⟩ : ByteArray) ++ t169) ++ (⟨#[32]⟩ : ByteArray)).size + t170.size ≤ 9223372036854775807 then (some ((((⟨#[116, 101, 120, 116]⟩ : ByteArray) ++ t169) ++ (⟨#[32]⟩ : ByteArray)) ++ t170)) else (none))) else (none)) else (none)) = some r := H
              have A77 := Aside0.mk A770
              clear A770
              by_cases c78 : 4 + t169.size ≤ 9223372036854775807
              · rw [if_pos c78] at H
                have c78b0 := eq_true c78
                have c78b1 : decide (4 + t169.size ≤ 9223372036854775807) = true := decide_eq_true c78
                try have c78b2 : (9223372036854775807 < 4 + t169.size) = False := eq_false (Nat.not_lt.2 c78)
                by_cases c79 : ((⟨#[116, 101, 120, 116]⟩ : ByteArray) ++ t169).size + 1 ≤ 9223372036854775807
                · rw [if_pos c79] at H
                  have c79b0 := eq_true c79
                  have c79b1 : decide (((⟨#[116, 101, 120, 116]⟩ : ByteArray) ++ t169).size + 1 ≤ 9223372036854775807) = true := decide_eq_true c79
                  try have c79b2 : (9223372036854775807 < ((⟨#[116, 101, 120, 116]⟩ : ByteArray) ++ t169).size + 1) = False := eq_false (Nat.not_lt.2 c79)
                  have c79b2x : (9223372036854775807 < 4 + t169.size + 1) = False := eq_false (Nat.not_lt.2 (by have h_ := c79; simp only [ByteArray.size_append] at h_; exact h_))
                  replace H := Option.bind_eq_some_iff.mp H
                  obtain ⟨t170, A800, H⟩ := H
                  replace H : (if (((⟨#[116, 101, 120, 116]⟩ : ByteArray) ++ t169) ++ (⟨#[32]⟩ : ByteArray)).size + t170.size ≤ 9223372036854775807 then (some ((((⟨#[116, 101, 120, 116]⟩ : ByteArray) ++ t169) ++ (⟨#[32]⟩ : ByteArray)) ++ t170)) else (none)) = some r := H
                  have A80 := Aside0.mk A800
                  clear A800
                  by_cases c81 : (((⟨#[116, 101, 120, 116]⟩ : ByteArray) ++ t169) ++ (⟨#[32]⟩ : ByteArray)).size + t170.size ≤ 9223372036854775807
                  · rw [if_pos c81] at H
                    have c81b0 := eq_true c81
                    have c81b1 : decide ((((⟨#[116, 101, 120, 116]⟩ : ByteArray) ++ t169) ++ (⟨#[32]⟩ : ByteArray)).size + t170.size ≤ 9223372036854775807) = true := decide_eq_true c81
                    try have c81b2 : (9223372036854775807 < (((⟨#[116, 101, 120, 116]⟩ : ByteArray) ++ t169) ++ (⟨#[32]⟩ : ByteArray)).size + t170.size) = False := eq_false (Nat.not_lt.2 c81)
                    have c81b2x : (9223372036854775807 < 4 + t169.size + 1 + t170.size) = False := eq_false (Nat.not_lt.2 (by have h_ := c81; simp only [ByteArray.size_append] at h_; exact h_))
                    obtain rfl := Option.some.inj H
                    go_enter Tryd.func11, Tryd.ntmps11
                    try go_wp2_with (first | ((with_reducible refine gate_dst (N := 1) rfl ?_); refine box_event ?hg (N := 1) ?hd (cs := #[.int .i64 a0_0, .int .i64 a0_1, .int .i64 a0_2, .int .i64 a0_3, .string a0_4, .string a0_5, .string a0_6, .string a0_7, .slice A0_8 l0_8.length c0_8]) (t := 24) ?hr ?_; (case hd => rfl); (case hg => rfl); (case hr => first | (go_simp; done) | (go_simp; rfl)); intro gb154 hg w82 hbox hb; have n0_ := Aside0.mk (below_step (by repeat (first | (with_reducible first | exact HB.out | apply below_alloc | apply pw_below_drewN | apply below_drew1) | exact HB.out)) hb); have n1_ := Aside0.mk (hbox); have n2_ := Aside0.mk ((by rw [hg]; exact (below_size (by repeat (first | (with_reducible first | exact HB.out | apply below_alloc | apply pw_below_drewN | apply below_drew1) | exact HB.out))) : w.heap.size ≤ gb154)); have n3_ := Aside0.mk ((by rw [hg]; exact (below_size (by repeat (first | (with_reducible first | exact HB.out | apply below_alloc | apply pw_below_drewN | apply below_drew1) | exact HB.out))) : w.heap.size ≤ gb154)); clear HB; have HB := n0_; have BK154 := n1_; have GW154 := n2_; have GE154 := n3_; clear n0_ n1_ n2_ n3_; clear hb hbox hg; have hcz83_0 : w82.cell? ⟨gb154, 0, none⟩ = some (.int .i64 a0_0) := (blk_cell BK154.out 0).trans rfl; have hcz83_1 : w82.cell? ⟨gb154, 1, none⟩ = some (.int .i64 a0_1) := (blk_cell BK154.out 1).trans rfl; have hcz83_2 : w82.cell? ⟨gb154, 2, none⟩ = some (.int .i64 a0_2) := (blk_cell BK154.out 2).trans rfl; have hcz83_3 : w82.cell? ⟨gb154, 3, none⟩ = some (.int .i64 a0_3) := (blk_cell BK154.out 3).trans rfl; have hcz83_4 : w82.cell? ⟨gb154, 4, none⟩ = some (.string a0_4) := (blk_cell BK154.out 4).trans rfl; have hcz83_5 : w82.cell? ⟨gb154, 5, none⟩ = some (.string a0_5) := (blk_cell BK154.out 5).trans rfl; have hcz83_6 : w82.cell? ⟨gb154, 6, none⟩ = some (.string a0_6) := (blk_cell BK154.out 6).trans rfl; have hcz83_7 : w82.cell? ⟨gb154, 7, none⟩ = some (.string a0_7) := (blk_cell BK154.out 7).trans rfl; have hcz83_8 : w82.cell? ⟨gb154, 8, none⟩ = some (.slice A0_8 l0_8.length c0_8) := (blk_cell BK154.out 8).trans rfl; have hfz83_0 := blk_frozen BK154.out 0; have hfz83_1 := blk_frozen BK154.out 1; have hfz83_2 := blk_frozen BK154.out 2; have hfz83_3 := blk_frozen BK154.out 3; have hfz83_4 := blk_frozen BK154.out 4; have hfz83_5 := blk_frozen BK154.out 5; have hfz83_6 := blk_frozen BK154.out 6; have hfz83_7 := blk_frozen BK154.out 7; have hfz83_8 := blk_frozen BK154.out 8))
                    have n0_ := Aside0.mk (blk_drew BK154.out)
                    have n1_ := Aside0.mk (below_drew1 HB.out)
                    clear BK154
                    clear HB
                    have BK154 := n0_
                    have HB := n1_
                    clear n0_ n1_
                    refine start_ (n := 10) (S := fun w' => w'.cell? ⟨gb154, 0, none⟩ = some (.int .i64 a0_0) ∧ w'.cell? ⟨gb154, 1, none⟩ = some (.int .i64 a0_1) ∧ w'.cell? ⟨gb154, 2, none⟩ = some (.int .i64 a0_2) ∧ w'.cell? ⟨gb154, 3, none⟩ = some (.int .i64 a0_3) ∧ w'.cell? ⟨gb154, 4, none⟩ = some (.string a0_4) ∧ w'.cell? ⟨gb154, 5, none⟩ = some (.string a0_5) ∧ w'.cell? ⟨gb154, 6, none⟩ = some (.string a0_6) ∧ w'.cell? ⟨gb154, 7, none⟩ = some (.string a0_7) ∧ w'.cell? ⟨gb154, 8, none⟩ = some (.slice A0_8 l0_8.length c0_8)) (ds := []) #[false, false, false, false, false, false, false, false, false, false] (by kernel_rfl) rfl rfl ⟨(blk_cell BK154.out 0).trans rfl, (blk_cell BK154.out 1).trans rfl, (blk_cell BK154.out 2).trans rfl, (blk_cell BK154.out 3).trans rfl, (blk_cell BK154.out 4).trans rfl, (blk_cell BK154.out 5).trans rfl, (blk_cell BK154.out 6).trans rfl, (blk_cell BK154.out 7).trans rfl, (blk_cell BK154.out 8).trans rfl⟩ (fun hHeld => ?_); refine with_tabW tendrilref25_Line.tab20 tendrilref25_Line.bits20 (fun HT_ HW_ => ?_)
                    generalize w82.drew = w84 at BK154 HB hHeld ⊢
                    refine pure_ (i := 0) (N := some 103) (v := ?_) (a' := ?_) #[true, false, false, false, false, false, false, false, false, false] rfl rfl (any_of HT_.out (by kernel_rfl)) (fun _ _ _ h => h) (Or.inl ⟨by rfl, ?_⟩) ?_ ?_
                    rotate_left
                    · intro w'
                      go_simp
                      with_reducible rfl
                    rotate_left
                    · simp only [Act.put, List.setIfInBounds_toArray, List.set_cons_zero, List.set_cons_succ, i64_w, i32_w]
                      rfl
                    refine pure_ (i := 5) (N := some 108) (v := ?_) (a' := ?_) #[true, false, false, false, false, true, false, false, false, false] rfl rfl (any_of HT_.out (by kernel_rfl)) (fun _ _ _ h => h) (Or.inl ⟨by rfl, ?_⟩) ?_ ?_
                    rotate_left
                    · intro w'
                      go_simp
                      with_reducible rfl
                    rotate_left
                    · simp only [Act.put, List.setIfInBounds_toArray, List.set_cons_zero, List.set_cons_succ, i64_w, i32_w]
                      rfl
                    refine take_ (i := 1) (N := some 104) (v := ?_) (a' := ?_) #[true, true, false, false, false, true, false, false, false, false] rfl rfl (take_ofW HT_.out HW_.out (by kernel_rfl)) (fun _ _ _ h => h) (Or.inl ⟨by rfl, ?_⟩) hHeld ?_ ?_
                    rotate_left
                    · rintro w' ⟨s0, s1, s2, s3, s4, s5, s6, s7, s8⟩
                      go_simp
                      with_reducible rfl
                    rotate_left
                    · simp only [Act.put, List.setIfInBounds_toArray, List.set_cons_zero, List.set_cons_succ, i64_w, i32_w]
                      rfl
                    refine take_ (i := 6) (N := some 109) (v := ?_) (a' := ?_) #[true, true, false, false, false, true, true, false, false, false] rfl rfl (take_ofW HT_.out HW_.out (by kernel_rfl)) (fun _ _ _ h => h) (Or.inl ⟨by rfl, ?_⟩) hHeld ?_ ?_
                    rotate_left
                    · rintro w' ⟨s0, s1, s2, s3, s4, s5, s6, s7, s8⟩
                      go_simp
                      with_reducible rfl
                    rotate_left
                    · simp only [Act.put, List.setIfInBounds_toArray, List.set_cons_zero, List.set_cons_succ, i64_w, i32_w]
                      rfl
                    refine one_ (i := 2) (N := some 105) #[true, true, true, false, false, true, true, false, false, false] rfl rfl (one_of HT_.out (by kernel_rfl)) (by decide) (fun K hK => ?_)
                    refine goes_ Tryd.func32 (by kernel_rfl) rfl #[.int .i64 a0_1] (by rfl) rfl rfl (by (try simp only [List.map_toArray, List.map_cons, List.map_nil]); first | done | rfl | (simp only [List.length_drop, List.length_take]; rfl)) ?_
                    with_reducible refine (tendrilref25_num.calls k a0_1 t169 _ ?side1 A77.out).mono ?_
                    (case side1 => first | exact HGL.out | exact (Go.Proofs.YtgdemingopcgaaaDoorX.GL.below HGL.out (by repeat (first | (with_reducible first | exact HB.out | apply below_alloc | apply pw_below_drewN | apply below_drew1 | refine below_set ?_ GE154.out) | exact HB.out))) | (repeat (first | exact HGL.out | (with_reducible refine Go.Proofs.YtgdemingopcgaaaDoorX.GL.drewN ?_ _) | (with_reducible refine Go.Proofs.YtgdemingopcgaaaDoorX.GL.drew ?_))))
                    rintro e w85 ⟨rfl, hb⟩
                    refine ⟨_, rfl, ?_⟩
                    have n0_ := Aside0.mk (blk_below (g := gb154) (o := .cells #[.int .i64 a0_0, .int .i64 a0_1, .int .i64 a0_2, .int .i64 a0_3, .string a0_4, .string a0_5, .string a0_6, .string a0_7, .slice A0_8 l0_8.length c0_8] 24 (0, 0)) (by (with_reducible repeat (first | refine blk_drewN ?_ _ | refine blk_drew ?_ | refine blk_alloc ?_ _)); exact BK154.out) hb)
                    have n1_ := Aside0.mk (below_step (by repeat (first | (with_reducible first | exact HB.out | apply below_alloc | apply pw_below_drewN | apply below_drew1 | refine below_set ?_ GE154.out) | exact HB.out)) hb)
                    clear BK154
                    clear HB
                    have BK154 := n0_
                    have HB := n1_
                    clear n0_ n1_
                    (try clear hb)
                    (try clear hb2)
                    (try clear hk)
                    (try clear hi)
                    refine hK.out _ _ ⟨(blk_cell BK154.out 0).trans rfl, (blk_cell BK154.out 1).trans rfl, (blk_cell BK154.out 2).trans rfl, (blk_cell BK154.out 3).trans rfl, (blk_cell BK154.out 4).trans rfl, (blk_cell BK154.out 5).trans rfl, (blk_cell BK154.out 6).trans rfl, (blk_cell BK154.out 7).trans rfl, (blk_cell BK154.out 8).trans rfl⟩ (fun hHeld => ?_)
                    clear hK K
                    refine norm_ (a' := ?_) ?_ ?_
                    rotate_left
                    · show Act.put _ (some 105) _ = _
                      simp only [Act.put, List.setIfInBounds_toArray, List.set_cons_zero, List.set_cons_succ, i64_w, i32_w]
                      rfl
                    refine pure_ (i := 3) (N := some 106) (v := ?_) (a' := ?_) #[true, true, true, true, false, true, true, false, false, false] rfl rfl (any_of HT_.out (by kernel_rfl)) (fun _ _ _ h => h) (Or.inl ⟨by rfl, ?_⟩) ?_ ?_
                    rotate_left
                    · intro w'
                      go_simp
                      with_reducible rfl
                    rotate_left
                    · simp only [Act.put, List.setIfInBounds_toArray, List.set_cons_zero, List.set_cons_succ, i64_w, i32_w]
                      rfl
                    refine pure_ (i := 4) (N := some 107) (v := ?_) (a' := ?_) #[true, true, true, true, true, true, true, false, false, false] rfl rfl (any_of HT_.out (by kernel_rfl)) (fun _ _ _ h => h) (Or.inl ⟨by rfl, ?_⟩) ?_ ?_
                    rotate_left
                    · intro w'
                      go_simp
                      with_reducible rfl
                    rotate_left
                    · simp only [Act.put, List.setIfInBounds_toArray, List.set_cons_zero, List.set_cons_succ, i64_w, i32_w]
                      rfl
                    refine one_ (i := 7) (N := some 110) #[true, true, true, true, true, true, true, true, false, false] rfl rfl (one_of HT_.out (by kernel_rfl)) (by decide) (fun K hK => ?_)
                    refine goes_ Tryd.func31 (by kernel_rfl) rfl #[.string a0_7] (by rfl) rfl rfl (by (try simp only [List.map_toArray, List.map_cons, List.map_nil]); first | done | rfl | (simp only [List.length_drop, List.length_take]; rfl)) ?_
                    with_reducible refine (tendrilref25_quoted.calls k a0_7 t170 _ ?side1 A80.out).mono ?_
                    (case side1 => first | exact HGL.out | exact (Go.Proofs.YtgdemingopcgaaaDoorX.GL.below HGL.out (by repeat (first | (with_reducible first | exact HB.out | apply below_alloc | apply pw_below_drewN | apply below_drew1 | refine below_set ?_ GE154.out) | exact HB.out))) | (repeat (first | exact HGL.out | (with_reducible refine Go.Proofs.YtgdemingopcgaaaDoorX.GL.drewN ?_ _) | (with_reducible refine Go.Proofs.YtgdemingopcgaaaDoorX.GL.drew ?_))))
                    rintro e w86 ⟨rfl, hb⟩
                    refine ⟨_, rfl, ?_⟩
                    have n0_ := Aside0.mk (blk_below (g := gb154) (o := .cells #[.int .i64 a0_0, .int .i64 a0_1, .int .i64 a0_2, .int .i64 a0_3, .string a0_4, .string a0_5, .string a0_6, .string a0_7, .slice A0_8 l0_8.length c0_8] 24 (0, 0)) (by (with_reducible repeat (first | refine blk_drewN ?_ _ | refine blk_drew ?_ | refine blk_alloc ?_ _)); exact BK154.out) hb)
                    have n1_ := Aside0.mk (below_step (by repeat (first | (with_reducible first | exact HB.out | apply below_alloc | apply pw_below_drewN | apply below_drew1 | refine below_set ?_ GE154.out) | exact HB.out)) hb)
                    clear BK154
                    clear HB
                    have BK154 := n0_
                    have HB := n1_
                    clear n0_ n1_
                    (try clear hb)
                    (try clear hb2)
                    (try clear hk)
                    (try clear hi)
                    refine hK.out _ _ ⟨(blk_cell BK154.out 0).trans rfl, (blk_cell BK154.out 1).trans rfl, (blk_cell BK154.out 2).trans rfl, (blk_cell BK154.out 3).trans rfl, (blk_cell BK154.out 4).trans rfl, (blk_cell BK154.out 5).trans rfl, (blk_cell BK154.out 6).trans rfl, (blk_cell BK154.out 7).trans rfl, (blk_cell BK154.out 8).trans rfl⟩ (fun hHeld => ?_)
                    clear hK K
                    refine norm_ (a' := ?_) ?_ ?_
                    rotate_left
                    · show Act.put _ (some 110) _ = _
                      simp only [Act.put, List.setIfInBounds_toArray, List.set_cons_zero, List.set_cons_succ, i64_w, i32_w]
                      rfl
                    refine pure_ (i := 8) (N := some 111) (v := ?_) (a' := ?_) #[true, true, true, true, true, true, true, true, true, false] rfl rfl (any_of HT_.out (by kernel_rfl)) (fun _ _ _ h => h) (Or.inl ⟨by rfl, ?_⟩) ?_ ?_
                    rotate_left
                    · intro w'
                      go_simp
                      with_reducible rfl
                    rotate_left
                    · simp only [Act.put, List.setIfInBounds_toArray, List.set_cons_zero, List.set_cons_succ, i64_w, i32_w]
                      rfl
                    refine pure_ (i := 9) (N := some 2) (v := ?_) (a' := ?_) #[true, true, true, true, true, true, true, true, true, true] rfl rfl (any_of HT_.out (by kernel_rfl)) (fun _ _ _ h => h) (Or.inl ⟨by rfl, ?_⟩) ?_ ?_
                    rotate_left
                    · intro w'
                      go_simp
                      with_reducible rfl
                    rotate_left
                    · simp only [Act.put, List.setIfInBounds_toArray, List.set_cons_zero, List.set_cons_succ, i64_w, i32_w]
                      rfl
                    refine done_ (done_of HT_.out (by kernel_rfl)) ?_
                    try go_wp2
                    go_ret
                    exact ⟨by first | rfl | (simp [errW_none, errW_some] <;> first | rfl | exact emp_bne _ | exact (emp_bne _).symm | exact emp_bne' _ | exact (emp_bne' _).symm) | (simp [*, errW_none, errW_some] <;> rfl), by repeat (first | (with_reducible first | exact HB.out | apply below_alloc | apply pw_below_drewN | apply below_drew1 | refine below_set ?_ GE154.out) | exact HB.out)⟩
                  · rw [if_neg c81] at H
                    exact absurd H (by simp)
                · rw [if_neg c79] at H
                  exact absurd H (by simp)
              · rw [if_neg c78] at H
                exact absurd H (by simp)

end Go.Proofs.YtgdemingopcgaaaDoor.P26

namespace Go.Proofs.YtgdemingopcgaaaDoor.M02
open Go Go.RowKit Go.Proofs.YtgdemingopcgaaaDoor.P26 Go.Proofs.YtgdemingopcgaaaDoorE Go.Proofs.YtgdemingopcgaaaDoorW.PrintWords Go.Proofs.YtgdemingopcgaaaDoorW.PrintLast Go.Proofs.YtgdemingopcgaaaDoorW.PrintMore

def mkS (l : List UInt8) : ByteArray := ⟨l.toArray⟩
theorem B_mkS (l : List UInt8) : B (mkS l) = l := by simp [B, mkS]
theorem B_append (s t : ByteArray) : B (s ++ t) = B s ++ B t := by simp [B, ByteArray.data_append]
theorem dd_lt {m : Nat} (h : m < 10) : Lib.decDigits m = [UInt8.ofNat (48 + m)] := by rw [Lib.decDigits, dif_pos h]
theorem dd_ge {m : Nat} (h : 10 ≤ m) : Lib.decDigits m = Lib.decDigits (m / 10) ++ [UInt8.ofNat (48 + m % 10)] := by rw [Lib.decDigits, dif_neg (by omega)]
theorem dig_nat {d : Nat} (h : d < 10) : (UInt8.ofNat (48 + d)).toNat = 48 + d := by simp; omega
theorem dd_digit : ∀ (m : Nat), ∀ c ∈ Lib.decDigits m, 48 ≤ c.toNat ∧ c.toNat ≤ 57 := by
  intro m
  induction m using Nat.strongRecOn with
  | _ m ih =>
    intro c hc
    by_cases h : m < 10
    · rw [dd_lt h, List.mem_singleton] at hc
      rw [hc, dig_nat h]; omega
    · rw [dd_ge (by omega)] at hc
      rcases List.mem_append.1 hc with h1 | h1
      · exact ih (m / 10) (by omega) c h1
      · rw [List.mem_singleton] at h1
        rw [h1, dig_nat (by omega)]; omega
theorem dd_ne (m : Nat) : Lib.decDigits m ≠ [] := by
  by_cases h : m < 10
  · rw [dd_lt h]; simp
  · rw [dd_ge (by omega)]; simp
theorem parse_dd (m : Nat) : ∀ (rest : List UInt8), m < 18446744073709551616 → Lib.parseUint10 0 (Lib.decDigits m ++ rest) = Lib.parseUint10 m rest := by
  induction m using Nat.strongRecOn with
  | _ m ih =>
    intro rest hm
    by_cases h : m < 10
    · rw [dd_lt h, List.singleton_append]
      simp only [Lib.parseUint10, dig_nat h]
      rw [if_pos (by omega), if_neg (by omega), if_neg (by omega)]
      congr 1; omega
    · rw [dd_ge (by omega), List.append_assoc, ih (m / 10) (by omega) _ (by omega), List.singleton_append]
      simp only [Lib.parseUint10, dig_nat (show m % 10 < 10 by omega)]
      rw [if_pos (by omega), if_neg (by omega), if_neg (by omega)]
      congr 1; omega
theorem atoi_itoa {n : Int} (h0 : -9223372036854775808 ≤ n) (h1 : n ≤ 9223372036854775807) : Lib.atoiAll (Lib.itoa n) = .ok n := by
  have pm : ∀ m : Nat, m < 18446744073709551616 → Lib.parseMag (Lib.decDigits m) = .ok m := by
    intro m hm
    unfold Lib.parseMag
    rw [if_neg (dd_ne m)]
    have := parse_dd m [] hm
    rw [List.append_nil] at this
    rw [this]; rfl
  unfold Lib.itoa
  by_cases hn : n < 0
  · rw [if_pos hn]
    unfold Lib.atoiAll
    simp only
    rw [if_pos (by decide), pm n.natAbs (by omega)]
    simp only
    have h45 : (45 : UInt8).toNat = 45 := rfl
    rw [if_neg (by rw [h45]; simp), if_neg (by omega), if_pos (by rw [h45])]
    congr 1; omega
  · rw [if_neg hn]
    obtain ⟨c, r, e⟩ := List.exists_cons_of_ne_nil (dd_ne n.toNat)
    have hc := dd_digit n.toNat c (by rw [e]; exact List.mem_cons_self ..)
    have hp := pm n.toNat (by omega)
    rw [e] at hp ⊢
    unfold Lib.atoiAll
    simp only
    rw [if_neg (by omega), hp]
    simp only
    rw [if_neg (by omega), if_neg (by omega), if_neg (by omega)]
    congr 1; omega
theorem whole_itoa {n : Int} (h0 : -9223372036854775808 ≤ n) (h1 : n ≤ 9223372036854775807) : wholeS (Lib.itoa n) = (n, true) := by
  unfold wholeS; rw [atoi_itoa h0 h1]; simp

theorem strOf_one (v : Int) : strOfNums [v] = mkS [UInt8.ofNat v.toNat] := by
  apply B_inj; rw [B_mkS]; simp [strOfNums, B]
theorem rdec_l0 (below : Bool) (sg : Int) (hsg : sg = 1 ∨ sg = -1) (m : Nat) : ∀ (x3 : ByteArray), 0 < m → m ≤ 9223372036854775808 → 2 * x3.size + m ≤ 9223372036854775808 + 1000 →
    Ev (fun k => tendrilref02_Decimal.l0 k (sg * (m : Int)) x3 below) (mkS ((if below = true then [45] else []) ++ Lib.decDigits m ++ B x3)) := by
  induction m using Nat.strongRecOn with
  | _ m ih =>
    intro x3 hm hmx hsz
    have et : Int.tmod (sg * (m : Int)) 10 = sg * ((m % 10 : Nat) : Int) := by
      rcases hsg with rfl | rfl
      · rw [Int.one_mul, Int.one_mul, show (10 : Int) = ((10 : Nat) : Int) from rfl, ← Int.ofNat_tmod]
      · rw [show (-1 : Int) * (m : Int) = -(m : Int) by omega, Int.neg_tmod, show (10 : Int) = ((10 : Nat) : Int) from rfl, ← Int.ofNat_tmod]; omega
    have ed : Int.tdiv (sg * (m : Int)) 10 = sg * ((m / 10 : Nat) : Int) := by
      rcases hsg with rfl | rfl
      · rw [Int.one_mul, Int.one_mul, show (10 : Int) = ((10 : Nat) : Int) from rfl, ← Int.ofNat_tdiv]
      · rw [show (-1 : Int) * (m : Int) = -(m : Int) by omega, Int.neg_tdiv, show (10 : Int) = ((10 : Nat) : Int) from rfl, ← Int.ofNat_tdiv]; omega
    have ew : wrap64 (sg * ((m / 10 : Nat) : Int)) = sg * ((m / 10 : Nat) : Int) := by rcases hsg with rfl | rfl <;> (rw [w64 (by omega) (by omega)])
    have e10 : m % 10 < 10 := Nat.mod_lt _ (by decide)
    have sz1 : (mkS [UInt8.ofNat (48 + m % 10)]).size = 1 := rfl
    have step : ∀ k, tendrilref02_Decimal.l0 (k + 1) (sg * (m : Int)) x3 below = tendrilref02_Decimal.l0 k (sg * ((m / 10 : Nat) : Int)) (mkS [UInt8.ofNat (48 + m % 10)] ++ x3) below := by
      intro k
      simp only [tendrilref02_Decimal.l0]
      rw [et, ed, ew, if_neg (by rcases hsg with rfl | rfl <;> omega)]
      have hb : (48 + ((m % 10 : Nat) : Int)) % 256 = ((48 + m % 10 : Nat) : Int) := by omega
      by_cases hneg : sg * ((m % 10 : Nat) : Int) < 0
      · rw [if_pos hneg]
        have : -(sg * ((m % 10 : Nat) : Int)) = ((m % 10 : Nat) : Int) := by rcases hsg with rfl | rfl <;> omega
        rw [this, w64 (n := ((m % 10 : Nat) : Int)) (by omega) (by omega), w64 (n := 48 + ((m % 10 : Nat) : Int)) (by omega) (by omega), hb, Option.bind_some, strOf_one, Int.toNat_natCast, if_pos (by rw [sz1]; omega)]
      · rw [if_neg hneg]
        have : sg * ((m % 10 : Nat) : Int) = ((m % 10 : Nat) : Int) := by rcases hsg with rfl | rfl <;> omega
        rw [this, w64 (n := 48 + ((m % 10 : Nat) : Int)) (by omega) (by omega), hb, Option.bind_some, strOf_one, Int.toNat_natCast, if_pos (by rw [sz1]; omega)]
    by_cases h : m < 10
    · have h0 : m / 10 = 0 := by omega
      rw [dd_lt h]
      rw [h0, show m % 10 = m by omega] at step
      refine Ev.step step (Ev.step (f := fun _ => some (mkS ((if below = true then [45] else []) ++ [UInt8.ofNat (48 + m)] ++ B x3))) (fun k => ?_) (Ev.now _))
      simp only [tendrilref02_Decimal.l0]
      rw [if_pos (by rcases hsg with rfl | rfl <;> omega)]
      by_cases hb : below = true
      · rw [if_pos hb, if_pos (by rw [ByteArray.size_append]; show 1 + (1 + x3.size) ≤ _; omega), if_pos hb]
        congr 1
      · rw [if_neg hb, if_neg hb]
        congr 1
    · have hn := ih (m / 10) (by omega) (mkS [UInt8.ofNat (48 + m % 10)] ++ x3) (by omega) (by omega) (by rw [ByteArray.size_append, sz1]; omega)
      have er : mkS ((if below = true then [45] else []) ++ Lib.decDigits m ++ B x3) = mkS ((if below = true then [45] else []) ++ Lib.decDigits (m / 10) ++ B (mkS [UInt8.ofNat (48 + m % 10)] ++ x3)) := by
        rw [dd_ge (by omega), B_append, B_mkS]; simp
      rw [er]
      exact Ev.step step hn
theorem rdec_ev (n : Int) (h0 : -9223372036854775808 ≤ n) (h1 : n ≤ 9223372036854775807) : Ev (fun k => tendrilref02_Decimal.f k n) (mkS (Lib.itoa n)) := by
  unfold tendrilref02_Decimal.f Lib.itoa
  by_cases hz : n = 0
  · subst hz
    exact Ev.congr (fun k => by rw [if_pos rfl]) (by rw [if_neg (by omega), show (0 : Int).toNat = 0 from rfl, dd_lt (by decide)]; exact Ev.now _)
  · by_cases hn : n < 0
    · have := rdec_l0 true (-1) (.inr rfl) n.natAbs ⟨#[]⟩ (by omega) (by omega) (by show 2 * 0 + _ ≤ _; omega)
      rw [if_pos hn]
      refine Ev.congr (f := fun k => tendrilref02_Decimal.l0 k (-1 * (n.natAbs : Int)) ⟨#[]⟩ true) (fun k => ?_) (by simpa [B] using this)
      rw [if_neg hz, decide_eq_true hn, show -1 * (n.natAbs : Int) = n by omega]
    · have := rdec_l0 false 1 (.inl rfl) n.toNat ⟨#[]⟩ (by omega) (by omega) (by show 2 * 0 + _ ≤ _; omega)
      rw [if_neg hn]
      refine Ev.congr (f := fun k => tendrilref02_Decimal.l0 k (1 * (n.toNat : Int)) ⟨#[]⟩ false) (fun k => ?_) (by simpa [B] using this)
      rw [if_neg hz, decide_eq_false hn, show 1 * (n.toNat : Int) = n by omega]
end Go.Proofs.YtgdemingopcgaaaDoor.M02

namespace Go.Proofs.YtgdemingopcgaaaDoorE
open Go Go.RowKit Go.Proofs.YtgdemingopcgaaaDoorW.PrintWords Go.Proofs.YtgdemingopcgaaaDoorW.PrintLast Go.Proofs.YtgdemingopcgaaaDoorW.PrintMore Go.Proofs.YtgdemingopcgaaaDoorX Go.Proofs.YtgdemingopcgaaaDoor.P26 Go.Proofs.YtgdemingopcgaaaDoor.M02 Go.Proofs.YtgdemingopcgaaaDoor.L03
set_option linter.unusedVariables false
set_option linter.unusedSimpArgs false
theorem Ev.pos {α : Type} {c : Prop} [Decidable c] {f g : Nat → Option α} {r : α} (h : c) (k : Ev f r) : Ev (fun n => if c then f n else g n) r := Ev.congr (fun n => if_pos h) k
theorem Ev.neg {α : Type} {c : Prop} [Decidable c] {f g : Nat → Option α} {r : α} (h : ¬ c) (k : Ev g r) : Ev (fun n => if c then f n else g n) r := Ev.congr (fun n => if_neg h) k
theorem Ev.is {α : Type} {a r : α} (h : a = r) : Ev (fun _ => some a) r := h ▸ Ev.now a
theorem rnum_ev (n : Int) (h : i64 n) : Ev (fun k => tendrilref25_num.f k n) ((⟨#[32]⟩ : ByteArray) ++ itoaS n) := by
  have hs : (itoaS n).size ≤ 21 := itoaS_21 n h
  refine Ev.bind (f := fun _ t => if 1 + t.size ≤ 9223372036854775807 then some ((⟨#[32]⟩ : ByteArray) ++ t) else none) (rdec_ev n h.1 h.2) ?_
  exact Ev.pos (show 1 + (itoaS n).size ≤ _ by omega) (Ev.now _)
theorem sz_app (a b : ByteArray) : (a ++ b).size = a.size + b.size := ByteArray.size_append ..
theorem sz_num (n : Int) (h : i64 n) : ((⟨#[32]⟩ : ByteArray) ++ itoaS n).size ≤ 22 := by
  have := itoaS_21 n h
  rw [sz_app]; show 1 + _ ≤ _; omega
theorem quo_sz (s : ByteArray) (h : s.size ≤ 1000000) : (quoB s).size ≤ 6000002 := by have := escT_size s; have := quoB_size s; omega
theorem rline_l0 (x0 x1 x2 x3 : Int) (x4 x5 x6 x7 : ByteArray) (l : List S51) (hn : l.length ≤ 64) (haz : ∀ i : Nat, i < l.length → (rd_T51 l i).f0.size ≤ 1000000 ∧ (rd_T51 l i).f1.size ≤ 1000000) : ∀ d j : Nat, j + d = l.length → ∀ o : ByteArray, o.size + 100000000 * d ≤ 1000000000000 → Ev (fun k => tendrilref25_Line.l0 k o (l.length : Int) (j : Int) x0 x1 x2 x3 x4 x5 x6 x7 l) (putS o ((l.drop j).map attrP)) := by
  intro d
  induction d with
  | zero =>
    intro j hj o ho
    refine Ev.step (f := fun _ => some o) (fun k => ?_) (Ev.is ?_)
    · simp only [tendrilref25_Line.l0]
      rw [if_neg (by omega)]
    · rw [List.drop_of_length_le (by omega)]; rfl
  | succ d ih =>
    intro j hj o ho
    have hlt : j < l.length := by omega
    obtain ⟨ha, hb⟩ := haz j hlt
    have hq := quo_sz _ hb
    have hd : l.drop j = rd_T51 l (j : Int) :: l.drop (j + 1) := by
      rw [List.drop_eq_getElem_cons hlt]
      unfold rd_T51
      rw [Int.toNat_natCast, List.getD_eq_getElem?_getD, List.getElem?_eq_getElem hlt]
      rfl
    have ih' := ih (j + 1) (by omega) (o ++ ((⟨#[32]⟩ : ByteArray) ++ attrP (rd_T51 l (j : Int)))) (by
      unfold attrP; rw [sz_app, sz_app, sz_app, sz_app]
      show o.size + (1 + (_ + 1 + _)) + _ ≤ _
      omega)
    rw [hd, List.map_cons, putS]
    refine Ev.step (fun k => by simp only [tendrilref25_Line.l0]; rfl) ?_
    refine Ev.pos (by omega) (Ev.pos (by omega) (Ev.pos (by omega) (Ev.pos (by omega) (Ev.pos ?_ (Ev.pos ?_ (Ev.bind (rquoted_ev _ hb) (Ev.pos ?_ ?_)))))))
    · rw [sz_app]; show o.size + 1 + _ ≤ _; omega
    · rw [sz_app, sz_app]; show o.size + 1 + _ + 1 ≤ _; omega
    · rw [sz_app, sz_app, sz_app]; show o.size + 1 + _ + 1 + _ ≤ _; omega
    · refine Ev.congr (fun k => ?_) ih'
      rw [show wrap64 ((j : Int) + 1) = ((j + 1 : Nat) : Int) by unfold wrap64; omega]
      unfold attrP
      simp only [ByteArray.append_assoc]
set_option maxHeartbeats 1000000 in
theorem rline_ev (x : S24) (hx : okX x) (hk : 1 ≤ x.f0 ∧ x.f0 ≤ 7) (h4 : x.f4.size ≤ 1000000) (h5 : x.f5.size ≤ 1000000) (h6 : x.f6.size ≤ 1000000) (h7 : x.f7.size ≤ 1000000) (h8 : x.f0 = 1 → x.f8.length ≤ 64 ∧ ∀ i : Nat, i < x.f8.length → (rd_T51 x.f8 i).f0.size ≤ 1000000 ∧ (rd_T51 x.f8 i).f1.size ≤ 1000000) :
    Ev (fun k => tendrilref25_Line.f k x.f0 x.f1 x.f2 x.f3 x.f4 x.f5 x.f6 x.f7 x.f8) (lineB x) := by
  obtain ⟨f0, f1, f2, f3, f4, f5, f6, f7, f8⟩ := x
  obtain ⟨-, i1, i2, i3, -⟩ := hx
  simp only at *
  have q5 := quo_sz _ h5
  have q7 := quo_sz _ h7
  have n1 := sz_num _ i1
  have n2 := sz_num _ i2
  have n3 := sz_num _ i3
  unfold tendrilref25_Line.f
  have hk7 : f0 = 1 ∨ f0 = 2 ∨ f0 = 3 ∨ f0 = 4 ∨ f0 = 5 ∨ f0 = 6 ∨ f0 = 7 := by omega
  rcases hk7 with rfl | rfl | rfl | rfl | rfl | rfl | rfl
  · obtain ⟨hn, haz⟩ := h8 rfl
    refine Ev.pos rfl (Ev.pos (by omega) (Ev.pos ?_ (Ev.bind (rquoted_ev _ h5) (Ev.pos ?_ (Ev.pos ?_ (Ev.bind (rquoted_ev _ h7) (Ev.pos ?_ ?_)))))))
    · rw [sz_app]; show 7 + _ + 1 ≤ _; omega
    · rw [sz_app, sz_app]; show 7 + _ + 1 + _ ≤ _; omega
    · rw [sz_app, sz_app, sz_app]; show 7 + _ + 1 + _ + 1 ≤ _; omega
    · rw [sz_app, sz_app, sz_app, sz_app]; show 7 + _ + 1 + _ + 1 + _ ≤ _; omega
    · have h := rline_l0 1 f1 f2 f3 f4 f5 f6 f7 f8 hn haz f8.length 0 (by omega) (putS (⟨#[99, 114, 101, 97, 116, 101]⟩ : ByteArray) [f4, quoB f5, quoB f7]) (by
        rw [putS_size]
        simp only [lenS, List.map_cons, List.map_nil, List.sum_cons, List.sum_nil]
        show 6 + _ + _ ≤ _
        omega)
      rw [List.drop_zero, ← putS_app] at h
      refine Ev.congr (fun k => ?_) h
      congr 1
      simp only [putS, ByteArray.append_assoc]
      rfl
  · refine Ev.neg (by omega) (Ev.pos rfl (Ev.bind (rnum_ev _ i1) (Ev.pos (by omega) (Ev.bind (rnum_ev _ i2) (Ev.pos ?_ (Ev.bind (rnum_ev _ i3) (Ev.pos ?_ (Ev.is rfl))))))))
    · rw [sz_app]; show 6 + _ + _ ≤ _; omega
    · rw [sz_app, sz_app]; show 6 + _ + _ + _ ≤ _; omega
  · refine Ev.neg (by omega) (Ev.neg (by omega) (Ev.pos rfl (Ev.bind (rnum_ev _ i1) (Ev.pos (by omega) (Ev.bind (rnum_ev _ i3) (Ev.pos ?_ (Ev.is rfl)))))))
    · rw [sz_app]; show 4 + _ + _ ≤ _; omega
  · exact Ev.neg (by omega) (Ev.neg (by omega) (Ev.neg (by omega) (Ev.pos rfl (Ev.bind (rnum_ev _ i1) (Ev.pos (by omega) (Ev.is rfl))))))
  · refine Ev.neg (by omega) (Ev.neg (by omega) (Ev.neg (by omega) (Ev.neg (by omega) (Ev.pos rfl (Ev.bind (rnum_ev _ i1) (Ev.pos (by omega) (Ev.pos ?_ (Ev.pos ?_ (Ev.pos ?_ (Ev.bind (rquoted_ev _ h7) (Ev.pos ?_ (Ev.is ?_))))))))))))
    · rw [sz_app]; show 3 + _ + 1 ≤ _; omega
    · rw [sz_app, sz_app]; show 3 + _ + 1 + _ ≤ _; omega
    · rw [sz_app, sz_app, sz_app]; show 3 + _ + 1 + _ + 1 ≤ _; omega
    · rw [sz_app, sz_app, sz_app, sz_app]; show 3 + _ + 1 + _ + 1 + _ ≤ _; omega
    · show _ = putS (⟨#[115, 101, 116]⟩ : ByteArray) [itoaS f1, (f6 ++ (⟨#[61]⟩ : ByteArray)) ++ quoB f7]
      simp only [putS, ByteArray.append_assoc]
  · refine Ev.neg (by omega) (Ev.neg (by omega) (Ev.neg (by omega) (Ev.neg (by omega) (Ev.neg (by omega) (Ev.pos rfl (Ev.bind (rnum_ev _ i1) (Ev.pos (by omega) (Ev.pos ?_ (Ev.pos ?_ (Ev.is ?_))))))))))
    · rw [sz_app]; show 3 + _ + 1 ≤ _; omega
    · rw [sz_app, sz_app]; show 3 + _ + 1 + _ ≤ _; omega
    · show _ = putS (⟨#[100, 101, 108]⟩ : ByteArray) [itoaS f1, f6]
      simp only [putS, ByteArray.append_assoc]
  · refine Ev.neg (by omega) (Ev.neg (by omega) (Ev.neg (by omega) (Ev.neg (by omega) (Ev.neg (by omega) (Ev.neg (by omega) (Ev.bind (rnum_ev _ i1) (Ev.pos (by omega) (Ev.pos ?_ (Ev.bind (rquoted_ev _ h7) (Ev.pos ?_ (Ev.is ?_)))))))))))
    · rw [sz_app]; show 4 + _ + 1 ≤ _; omega
    · rw [sz_app, sz_app]; show 4 + _ + 1 + _ ≤ _; omega
    · show _ = putS (⟨#[116, 101, 120, 116]⟩ : ByteArray) [itoaS f1, quoB f7]
      simp only [putS, ByteArray.append_assoc]
end Go.Proofs.YtgdemingopcgaaaDoorE

namespace Go.Proofs.YtgdemingopcgaaaDoor.K03
open Go Go.RowKit Go.Proofs.YtgdemingopcgaaaDoorE Go.Proofs.YtgdemingopcgaaaDoor.L03 Go.Proofs.YtgdemingopcgaaaDoorW.PrintWords Go.Proofs.YtgdemingopcgaaaDoorW.PrintLast Go.Proofs.YtgdemingopcgaaaDoorW.PrintMore
theorem ref_form (c : Nat) (hc : c = 38 ∨ c = 60 ∨ c = 62 ∨ c = 34 ∨ c = 127 ∨ c < 32) (rest : List UInt8) : refS (formL c ++ rest) = ((c : Int), ((formL c).length : Int)) := by
  have h : c = 0 ∨ c = 1 ∨ c = 2 ∨ c = 3 ∨ c = 4 ∨ c = 5 ∨ c = 6 ∨ c = 7 ∨ c = 8 ∨ c = 9 ∨ c = 10 ∨ c = 11 ∨ c = 12 ∨ c = 13 ∨ c = 14 ∨ c = 15 ∨ c = 16 ∨ c = 17 ∨ c = 18 ∨ c = 19 ∨ c = 20 ∨ c = 21 ∨ c = 22 ∨ c = 23 ∨ c = 24 ∨ c = 25 ∨ c = 26 ∨ c = 27 ∨ c = 28 ∨ c = 29 ∨ c = 30 ∨ c = 31 ∨ c = 34 ∨ c = 38 ∨ c = 60 ∨ c = 62 ∨ c = 127 := by omega
  rcases h with rfl | rfl | rfl | rfl | rfl | rfl | rfl | rfl | rfl | rfl | rfl | rfl | rfl | rfl | rfl | rfl | rfl | rfl | rfl | rfl | rfl | rfl | rfl | rfl | rfl | rfl | rfl | rfl | rfl | rfl | rfl | rfl | rfl | rfl | rfl | rfl | rfl
  · have h : refS (formL 0 ++ rest) = (((0 : Nat) : Int), ((formL 0).length : Int)) := by kernel_rfl
    exact h
  · have h : refS (formL 1 ++ rest) = (((1 : Nat) : Int), ((formL 1).length : Int)) := by kernel_rfl
    exact h
  · have h : refS (formL 2 ++ rest) = (((2 : Nat) : Int), ((formL 2).length : Int)) := by kernel_rfl
    exact h
  · have h : refS (formL 3 ++ rest) = (((3 : Nat) : Int), ((formL 3).length : Int)) := by kernel_rfl
    exact h
  · have h : refS (formL 4 ++ rest) = (((4 : Nat) : Int), ((formL 4).length : Int)) := by kernel_rfl
    exact h
  · have h : refS (formL 5 ++ rest) = (((5 : Nat) : Int), ((formL 5).length : Int)) := by kernel_rfl
    exact h
  · have h : refS (formL 6 ++ rest) = (((6 : Nat) : Int), ((formL 6).length : Int)) := by kernel_rfl
    exact h
  · have h : refS (formL 7 ++ rest) = (((7 : Nat) : Int), ((formL 7).length : Int)) := by kernel_rfl
    exact h
  · have h : refS (formL 8 ++ rest) = (((8 : Nat) : Int), ((formL 8).length : Int)) := by kernel_rfl
    exact h
  · have h : refS (formL 9 ++ rest) = (((9 : Nat) : Int), ((formL 9).length : Int)) := by kernel_rfl
    exact h
  · have h : refS (formL 10 ++ rest) = (((10 : Nat) : Int), ((formL 10).length : Int)) := by kernel_rfl
    exact h
  · have h : refS (formL 11 ++ rest) = (((11 : Nat) : Int), ((formL 11).length : Int)) := by kernel_rfl
    exact h
  · have h : refS (formL 12 ++ rest) = (((12 : Nat) : Int), ((formL 12).length : Int)) := by kernel_rfl
    exact h
  · have h : refS (formL 13 ++ rest) = (((13 : Nat) : Int), ((formL 13).length : Int)) := by kernel_rfl
    exact h
  · have h : refS (formL 14 ++ rest) = (((14 : Nat) : Int), ((formL 14).length : Int)) := by kernel_rfl
    exact h
  · have h : refS (formL 15 ++ rest) = (((15 : Nat) : Int), ((formL 15).length : Int)) := by kernel_rfl
    exact h
  · have h : refS (formL 16 ++ rest) = (((16 : Nat) : Int), ((formL 16).length : Int)) := by kernel_rfl
    exact h
  · have h : refS (formL 17 ++ rest) = (((17 : Nat) : Int), ((formL 17).length : Int)) := by kernel_rfl
    exact h
  · have h : refS (formL 18 ++ rest) = (((18 : Nat) : Int), ((formL 18).length : Int)) := by kernel_rfl
    exact h
  · have h : refS (formL 19 ++ rest) = (((19 : Nat) : Int), ((formL 19).length : Int)) := by kernel_rfl
    exact h
  · have h : refS (formL 20 ++ rest) = (((20 : Nat) : Int), ((formL 20).length : Int)) := by kernel_rfl
    exact h
  · have h : refS (formL 21 ++ rest) = (((21 : Nat) : Int), ((formL 21).length : Int)) := by kernel_rfl
    exact h
  · have h : refS (formL 22 ++ rest) = (((22 : Nat) : Int), ((formL 22).length : Int)) := by kernel_rfl
    exact h
  · have h : refS (formL 23 ++ rest) = (((23 : Nat) : Int), ((formL 23).length : Int)) := by kernel_rfl
    exact h
  · have h : refS (formL 24 ++ rest) = (((24 : Nat) : Int), ((formL 24).length : Int)) := by kernel_rfl
    exact h
  · have h : refS (formL 25 ++ rest) = (((25 : Nat) : Int), ((formL 25).length : Int)) := by kernel_rfl
    exact h
  · have h : refS (formL 26 ++ rest) = (((26 : Nat) : Int), ((formL 26).length : Int)) := by kernel_rfl
    exact h
  · have h : refS (formL 27 ++ rest) = (((27 : Nat) : Int), ((formL 27).length : Int)) := by kernel_rfl
    exact h
  · have h : refS (formL 28 ++ rest) = (((28 : Nat) : Int), ((formL 28).length : Int)) := by kernel_rfl
    exact h
  · have h : refS (formL 29 ++ rest) = (((29 : Nat) : Int), ((formL 29).length : Int)) := by kernel_rfl
    exact h
  · have h : refS (formL 30 ++ rest) = (((30 : Nat) : Int), ((formL 30).length : Int)) := by kernel_rfl
    exact h
  · have h : refS (formL 31 ++ rest) = (((31 : Nat) : Int), ((formL 31).length : Int)) := by kernel_rfl
    exact h
  · have h : refS (formL 34 ++ rest) = (((34 : Nat) : Int), ((formL 34).length : Int)) := by kernel_rfl
    exact h
  · have h : refS (formL 38 ++ rest) = (((38 : Nat) : Int), ((formL 38).length : Int)) := by kernel_rfl
    exact h
  · have h : refS (formL 60 ++ rest) = (((60 : Nat) : Int), ((formL 60).length : Int)) := by kernel_rfl
    exact h
  · have h : refS (formL 62 ++ rest) = (((62 : Nat) : Int), ((formL 62).length : Int)) := by kernel_rfl
    exact h
  · have h : refS (formL 127 ++ rest) = (((127 : Nat) : Int), ((formL 127).length : Int)) := by kernel_rfl
    exact h
theorem step_form (c : UInt8) (rest : List UInt8) : stepU (escB c ++ rest) = (c, (escB c).length) := by
  unfold escB
  by_cases hf : formL c.toNat = []
  · rw [if_pos hf]
    have hn : c.toNat ≠ 38 := by intro e; rw [e] at hf; exact absurd hf (by decide)
    simp only [List.cons_append, List.nil_append, stepU]
    rw [if_neg hn, if_pos hf]
    rfl
  · rw [if_neg hf]
    have hc : c.toNat = 38 ∨ c.toNat = 60 ∨ c.toNat = 62 ∨ c.toNat = 34 ∨ c.toNat = 127 ∨ c.toNat < 32 := by
      unfold formL at hf
      by_cases h1 : c.toNat = 38
      · exact .inl h1
      · rw [if_neg h1] at hf
        by_cases h2 : c.toNat = 60
        · exact .inr (.inl h2)
        · rw [if_neg h2] at hf
          by_cases h3 : c.toNat = 62
          · exact .inr (.inr (.inl h3))
          · rw [if_neg h3] at hf
            by_cases h4 : c.toNat = 34
            · exact .inr (.inr (.inr (.inl h4)))
            · rw [if_neg h4] at hf
              by_cases h5 : c.toNat = 127 ∨ c.toNat < 32
              · exact .inr (.inr (.inr (.inr h5)))
              · rw [if_neg h5] at hf
                exact absurd rfl hf
    have hr := ref_form c.toNat hc rest
    obtain ⟨t, ht⟩ : ∃ t, formL c.toNat = 38 :: t := by
      unfold formL
      rcases hc with h | h | h | h | h | h
      · rw [if_pos h]; exact ⟨_, rfl⟩
      · rw [if_neg (by omega), if_pos h]; exact ⟨_, rfl⟩
      · rw [if_neg (by omega), if_neg (by omega), if_pos h]; exact ⟨_, rfl⟩
      · rw [if_neg (by omega), if_neg (by omega), if_neg (by omega), if_pos h]; exact ⟨_, rfl⟩
      · rw [if_neg (by omega), if_neg (by omega), if_neg (by omega), if_neg (by omega), if_pos (.inl h)]; exact ⟨_, rfl⟩
      · rw [if_neg (by omega), if_neg (by omega), if_neg (by omega), if_neg (by omega), if_pos (.inr h)]; exact ⟨_, rfl⟩
    rw [ht] at hr ⊢
    simp only [List.cons_append, stepU]
    rw [List.cons_append] at hr
    rw [if_pos (by decide), hr]
    simp
/-- What is written is read, whatever follows. -/
theorem un_escS : ∀ (l : List UInt8) (pos : Nat) (out : List UInt8), unS (escS l) pos out = (out ++ l, 0, 0)
  | [], pos, out => by
    rw [show escS [] = [] from rfl, unS_nil, List.append_nil]
  | c :: t, pos, out => by
    have he : escS (c :: t) = escB c ++ escS t := by simp [escS]
    have hp : escB c ≠ [] := by
      unfold escB
      split
      · simp
      · assumption
    have hl : 0 < (escB c).length := List.length_pos_iff.2 hp
    rw [he, unS_cons _ (by intro e; exact hp (List.append_eq_nil_iff.1 e).1), step_form, if_neg (by simp only; omega)]
    simp only
    rw [List.drop_left, un_escS t]
    simp
def sgn : List UInt8 := [60, 62, 34]
theorem escB_clean : ∀ c : Fin 256, (escB (UInt8.ofNat c.val)).all (fun b => !sgn.contains b) = true := by decide +kernel
theorem escS_clean (l : List UInt8) : ∀ b ∈ escS l, sgn.contains b = false := by
  intro b hb
  obtain ⟨c, -, h⟩ := List.mem_flatMap.1 hb
  have := escB_clean ⟨c.toNat, c.toNat_lt⟩
  simp only [UInt8.ofNat_toNat] at this
  simpa using List.all_eq_true.1 this b h
end Go.Proofs.YtgdemingopcgaaaDoor.K03

namespace Go.Proofs.YtgdemingopcgaaaDoorE
open Go Go.RowKit Go.Proofs.YtgdemingopcgaaaDoorW.PrintWords Go.Proofs.YtgdemingopcgaaaDoorX Go.Proofs.YtgdemingopcgaaaDoor.P26 Go.Proofs.YtgdemingopcgaaaDoor.M02
set_option linter.unusedVariables false
set_option linter.unusedSimpArgs false
/-- Where a text stands in a list. -/
def idxN (l : List ByteArray) (v : ByteArray) : Nat := l.findIdx (fun a => v.data.toList == a.data.toList)
def idxS (l : List ByteArray) (v : ByteArray) : Int := if idxN l v < l.length then (idxN l v : Int) else -1
def kindW (v : ByteArray) : Int := if idxN wordL v < 8 then (idxN wordL v : Int) else 0
theorem kindW_range (v : ByteArray) : 0 ≤ kindW v ∧ kindW v ≤ 7 := by unfold kindW; split <;> omega
abbrev OpSt := S24 × StO
/-- The parts of a create, and the first part of the others. -/
def rdA (k : Int) (s : StO) : OpSt :=
  if k = 1 then (⟨1, 0, 0, 0, (nxtO s).1, (nsdO (nxtO s).2).1, em, (nsdO (nsdO (nxtO s).2).2).1, (prsO (nsdO (nsdO (nxtO s).2).2).2.1 (nsdO (nsdO (nxtO s).2).2).2.2).1⟩, [], (prsO (nsdO (nsdO (nxtO s).2).2).2.1 (nsdO (nsdO (nxtO s).2).2).2.2).2)
  else (⟨k, (hdlO s).1, 0, 0, em, em, em, em, []⟩, (hdlO s).2)
theorem rdA_ne {k : Int} (h : k ≠ 1) (s : StO) : rdA k s = (⟨k, (hdlO s).1, 0, 0, em, em, em, em, []⟩, (hdlO s).2) := if_neg h
def rdB (k : Int) (a : OpSt) : OpSt :=
  if k = 2 then (⟨a.1.f0, a.1.f1, (hdlO a.2).1, (hdlO (hdlO a.2).2).1, a.1.f4, a.1.f5, a.1.f6, a.1.f7, a.1.f8⟩, (hdlO (hdlO a.2).2).2)
  else if k = 3 then (⟨a.1.f0, a.1.f1, a.1.f2, (hdlO a.2).1, a.1.f4, a.1.f5, a.1.f6, a.1.f7, a.1.f8⟩, (hdlO a.2).2)
  else if k = 5 then (⟨a.1.f0, a.1.f1, a.1.f2, a.1.f3, a.1.f4, a.1.f5, (prO a.2).1.f0, (prO a.2).1.f1, a.1.f8⟩, (prO a.2).2)
  else if k = 6 then (⟨a.1.f0, a.1.f1, a.1.f2, a.1.f3, a.1.f4, a.1.f5, (nxtO a.2).1, a.1.f7, a.1.f8⟩, (nxtO a.2).2)
  else if k = 7 then (⟨a.1.f0, a.1.f1, a.1.f2, a.1.f3, a.1.f4, a.1.f5, a.1.f6, (nsdO a.2).1, a.1.f8⟩, (nsdO a.2).2)
  else a
def kindR (s : ByteArray) : Int := kindW (nxtO (cutB s, false)).1
def readX (s : ByteArray) : OpSt := rdB (kindR s) (rdA (kindR s) (nxtO (cutB s, false)).2)
def zOp : S24 := ⟨0, 0, 0, 0, em, em, em, em, []⟩
/-- What ops.Read answers. -/
def readS (s : ByteArray) : S24 × Int :=
  if kindR s = 0 ∨ (readX s).2.2 = true ∨ (readX s).2.1 ≠ [] ∨ chk (readX s).1 ≠ 0 ∨ lineB (readX s).1 ≠ s then (zOp, 2) else ((readX s).1, 0)
theorem readS_ok (s : ByteArray) (h : (readS s).2 = 0) : chk (readS s).1 = 0 ∧ lineB (readS s).1 = s := by
  unfold readS at h ⊢
  split at h
  · cases h
  · next hn =>
    rw [if_neg hn]
    simp only [not_or, ne_eq, Decidable.not_not] at hn
    exact hn.2.2.2
theorem readS_bad (s : ByteArray) (h : (readS s).2 ≠ 0) : readS s = (zOp, 2) := by
  unfold readS at h ⊢
  split at h
  · next hn => rw [if_pos hn]
  · exact absurd rfl h

theorem name_ok (more : Bool) (s : ByteArray) (h : namedS more (B s) = true) : ∀ c ∈ s.data.toList, c ≠ 34 ∧ c ≠ 32 ∧ c ≠ 61 := by
  have e : ∀ c ∈ B s, okb more c = true := by
    unfold namedS at h
    split at h
    · cases h
    · next c t he =>
      simp only [Bool.and_eq_true] at h
      intro d hd
      rw [he] at hd
      exact List.all_eq_true.1 h.2 d hd
  have key : ∀ n : Fin 256, ∀ more : Bool, okb more (UInt8.ofNat n.val) = true → n.val ≠ 34 ∧ n.val ≠ 32 ∧ n.val ≠ 61 := by decide +kernel
  intro c hc
  have h1 := key ⟨c.toNat, c.toNat_lt⟩ more (by simpa using e c hc)
  refine ⟨?_, ?_, ?_⟩ <;> (rintro rfl; simp at h1)
theorem okP_name (more : Bool) (s : ByteArray) (h : namedS more (B s) = true) : okP s.data.toList false = some false :=
  okP_plain false _ (fun c hc => ⟨(name_ok more s h c hc).1, .inl (name_ok more s h c hc).2.1⟩)
theorem okP_quo (s : ByteArray) : okP (quoB s).data.toList false = some false := by
  have e : (quoB s).data.toList = 34 :: (escS s.data.toList ++ [34]) := by
    unfold quoB
    rw [ByteArray.data_append, ByteArray.data_append]
    simp [escT]
  rw [e, okP, if_pos rfl, okP_append, show (!false) = true from rfl, okP_plain _ _ (fun c hc => ⟨?_, .inr rfl⟩)]
  · rfl
  · rintro rfl
    have := Go.Proofs.YtgdemingopcgaaaDoor.K03.escS_clean s.data.toList 34 hc
    revert this
    decide
theorem okP_num (n : Int) : okP (itoaS n).data.toList false = some false := by
  refine okP_plain false _ (fun c hc => ?_)
  have h1 : (48 ≤ c.toNat ∧ c.toNat ≤ 57) ∨ c = 45 := by
    have hc' : c ∈ Lib.itoa n := hc
    unfold Lib.itoa at hc'
    split at hc'
    · rcases List.mem_cons.1 hc' with h | h
      · exact .inr h
      · exact .inl (dd_digit _ c h)
    · exact .inl (dd_digit _ c hc')
  refine ⟨?_, .inl ?_⟩ <;> (rintro rfl; rcases h1 with ⟨h1, h2⟩ | h1 <;> revert h1 <;> decide)
theorem sd_quo (s : ByteArray) : sdO (quoB s) = (s, false) := by
  have e : (quoB s).data.toList = 34 :: (escS s.data.toList ++ [34]) := by
    unfold quoB
    rw [ByteArray.data_append, ByteArray.data_append]
    simp [escT]
  unfold sdO
  have g : (34 :: (escS s.data.toList ++ [34])).getLast? = some 34 := by rw [← List.cons_append]; exact List.getLast?_concat ..
  rw [e, if_neg (by simp only [g]; simp)]
  have e2 : ((34 :: (escS s.data.toList ++ [34])).drop 1).take ((34 :: (escS s.data.toList ++ [34])).length - 2) = escS s.data.toList := by
    rw [List.drop_succ_cons, List.drop_zero, List.take_append_of_le_length (by simp), List.take_of_length_le (by simp)]
  rw [e2, Go.Proofs.YtgdemingopcgaaaDoor.K03.un_escS]
  rfl
theorem findIdx_app (a : List UInt8) (c : UInt8) (b : List UInt8) (p : UInt8 → Bool) (ha : ∀ x ∈ a, p x = false) (hc : p c = true) : (a ++ c :: b).findIdx p = a.length := by
  induction a with
  | nil => simp [List.findIdx_cons, hc]
  | cons x a ih =>
    rw [List.cons_append, List.findIdx_cons, ha x (List.mem_cons_self ..), ih (fun y hy => ha y (List.mem_cons_of_mem _ hy))]
    simp
theorem eq_attr (n v : ByteArray) (h : ∀ c ∈ n.data.toList, c ≠ 61) : eqO ((n ++ (⟨#[61]⟩ : ByteArray)) ++ v) = (n, v, true) := by
  have e : ((n ++ (⟨#[61]⟩ : ByteArray)) ++ v).data.toList = n.data.toList ++ 61 :: v.data.toList := by
    rw [ByteArray.data_append, ByteArray.data_append]
    simp
  unfold eqO
  rw [e, findIdx_app _ _ _ _ (fun x hx => by simpa using h x hx) (by simp), if_pos (by simp)]
  rw [List.take_left, show n.data.toList.length + 1 = (n.data.toList ++ [61]).length by simp, show n.data.toList ++ 61 :: v.data.toList = (n.data.toList ++ [61]) ++ v.data.toList by simp, List.drop_left]
  rfl
theorem hdl_num (n : Int) (h : i64 n) (l : List ByteArray) (b : Bool) : hdlO (itoaS n :: l, b) = (n, l, b) := by
  unfold hdlO nxtO
  simp only
  rw [show (itoaS n).data.toList = Lib.itoa n from rfl, whole_itoa h.1 h.2]
  simp
theorem nsd_quo (s : ByteArray) (l : List ByteArray) (b : Bool) : nsdO (quoB s :: l, b) = (s, l, b) := by
  unfold nsdO nxtO
  simp only
  rw [sd_quo]
  simp
theorem pr_attr (a : S51) (h : namedS true (B a.f0) = true) (l : List ByteArray) (b : Bool) : prO (attrP a :: l, b) = (a, l, b) := by
  unfold prO nxtO attrP
  simp only
  rw [eq_attr _ _ (fun c hc => (name_ok true _ h c hc).2.2)]
  simp only
  rw [sd_quo]
  simp
theorem prs_attrs : ∀ (l : List S51) (b : Bool), (∀ a ∈ l, namedS true (B a.f0) = true) → prsO (l.map attrP) b = (l, b)
  | [], b, _ => rfl
  | a :: l, b, h => by
    rw [List.map_cons, prsO, pr_attr a (h a (List.mem_cons_self ..)) [] b, prs_attrs l b (fun x hx => h x (List.mem_cons_of_mem _ hx))]
theorem kind_word : ∀ k : Fin 8, kindW (wordL.getD k.val em) = (k.val : Int) := by decide +kernel
theorem word_ok : ∀ k : Fin 8, okP (wordL.getD k.val em).data.toList false = some false := by decide +kernel
theorem rd_getElem (l : List S51) (i : Nat) (h : i < l.length) : rd_T51 l (i : Int) = l[i] := by
  unfold rd_T51
  rw [Int.toNat_natCast, List.getD_eq_getElem?_getD, List.getElem?_eq_getElem h]
  rfl
/-- What a checked operation keeps, more of it. -/
theorem chk_more (x : S24) (h : chk x = 0) : (1 ≤ x.f0 ∧ x.f0 ≤ 7) ∧ noneO x = false ∧ (x.f0 = 1 → namedS false (B x.f4) = true) ∧ ((x.f0 = 5 ∨ x.f0 = 6) → namedS true (B x.f6) = true) ∧ x.f5.size ≤ 65536 ∧ x.f7.size ≤ 65536 ∧ x.f8.length ≤ 64 ∧ (∀ a ∈ x.f8, namedS true (B a.f0) = true ∧ a.f1.size ≤ 65536) := by
  unfold chk checkO at h
  split at h
  · cases h
  next h0 =>
  split at h
  · cases h
  split at h
  · cases h
  next h2 =>
  split at h
  · cases h
  next h3 =>
  split at h
  · cases h
  next h4 =>
  split at h
  · cases h
  next h5 =>
  have ha := attrsN_ok x.f8 _ x.f8.length 0 h
  refine ⟨by omega, by simpa using h2, fun e => ?_, fun e => ?_, by omega, by omega, ?_, fun a hm => ?_⟩
  · cases ht : tgO x with
    | true => exact ht
    | false => exact absurd ⟨e, ht⟩ h3
  · cases ht : nmO x with
    | true => exact ht
    | false => exact absurd ⟨e, ht⟩ h4
  · rcases Nat.lt_or_ge 64 x.f8.length with h6 | h6
    · exact absurd rfl (ha 64 (by omega) (by omega)).2.2
    · exact h6
  · obtain ⟨i, hi, rfl⟩ := List.getElem_of_mem hm
    obtain ⟨h1, h2, -⟩ := ha i (by omega) (by omega)
    unfold naO at h1
    rw [rd_getElem _ _ hi] at h1 h2
    exact ⟨h1, h2⟩
set_option maxHeartbeats 1000000 in
theorem read_line (x : S24) (hx : okX x) (h : chk x = 0) : readS (lineB x) = (x, 0) := by
  obtain ⟨hk, hno, ht, hnm, -, -, -, ha⟩ := chk_more x h
  obtain ⟨k, hk'⟩ : ∃ k : Fin 8, x.f0 = (k.val : Int) := ⟨⟨x.f0.toNat, by omega⟩, by simp only; omega⟩
  have hparts : ∀ p ∈ putP x, okP p.data.toList false = some false := by
    have hat : ∀ a ∈ x.f8, okP (attrP a).data.toList false = some false := fun a hm => by
      unfold attrP
      rw [ByteArray.data_append, ByteArray.data_append, Array.toList_append, Array.toList_append, okP_append, okP_append, okP_name true _ (ha a hm).1]
      show (some false).bind _ = _
      rw [Option.bind_some]
      exact okP_quo a.f1
    have h7 : x.f0 = 1 ∨ x.f0 = 2 ∨ x.f0 = 3 ∨ x.f0 = 4 ∨ x.f0 = 5 ∨ x.f0 = 6 ∨ x.f0 = 7 := by omega
    unfold putP
    rcases h7 with e | e | e | e | e | e | e
    · rw [if_pos e]
      intro p hp
      simp only [List.cons_append, List.nil_append, List.mem_cons] at hp
      rcases hp with rfl | rfl | rfl | hp
      · exact okP_name false _ (ht e)
      · exact okP_quo _
      · exact okP_quo _
      · obtain ⟨a, hm, rfl⟩ := List.mem_map.1 hp
        exact hat a hm
    · rw [if_neg (by omega), if_pos e]
      intro p hp
      simp at hp
      rcases hp with rfl | rfl | rfl <;> exact okP_num _
    · rw [if_neg (by omega), if_neg (by omega), if_pos e]
      intro p hp
      simp at hp
      rcases hp with rfl | rfl <;> exact okP_num _
    · rw [if_neg (by omega), if_neg (by omega), if_neg (by omega), if_pos e]
      intro p hp
      simp at hp
      rw [hp]; exact okP_num _
    · rw [if_neg (by omega), if_neg (by omega), if_neg (by omega), if_neg (by omega), if_pos e]
      intro p hp
      simp only [List.mem_cons, List.not_mem_nil, or_false] at hp
      rcases hp with rfl | rfl
      · exact okP_num _
      · rw [ByteArray.data_append, ByteArray.data_append, Array.toList_append, Array.toList_append, okP_append, okP_append, okP_name true _ (hnm (.inl e))]
        show (some false).bind _ = _
        rw [Option.bind_some]
        exact okP_quo x.f7
    · rw [if_neg (by omega), if_neg (by omega), if_neg (by omega), if_neg (by omega), if_neg (by omega), if_pos e]
      intro p hp
      simp only [List.mem_cons, List.not_mem_nil, or_false] at hp
      rcases hp with rfl | rfl
      · exact okP_num _
      · exact okP_name true _ (hnm (.inr e))
    · rw [if_neg (by omega), if_neg (by omega), if_neg (by omega), if_neg (by omega), if_neg (by omega), if_neg (by omega)]
      intro p hp
      simp only [List.mem_cons, List.not_mem_nil, or_false] at hp
      rcases hp with rfl | rfl
      · exact okP_num _
      · exact okP_quo _
  have hw : x.f0.toNat = k.val := by omega
  have hcut : cutB (lineB x) = wordL.getD k.val em :: putP x := by
    unfold lineB
    rw [hw]
    exact cutB_put _ _ (word_ok k) hparts
  have hkr : kindR (lineB x) = x.f0 := by
    unfold kindR
    rw [hcut, hk']
    exact kind_word k
  have hX : readX (lineB x) = (x, [], false) := by
    unfold readX
    rw [hkr, hcut]
    show rdB x.f0 (rdA x.f0 (putP x, false)) = _
    obtain ⟨-, i1, i2, i3, -⟩ := hx
    clear hcut hkr hparts hk' hw h
    obtain ⟨f0, f1, f2, f3, f4, f5, f6, f7, f8⟩ := x
    simp only at *
    have h7 : f0 = 1 ∨ f0 = 2 ∨ f0 = 3 ∨ f0 = 4 ∨ f0 = 5 ∨ f0 = 6 ∨ f0 = 7 := by omega
    unfold noneO at hno
    rcases h7 with rfl | rfl | rfl | rfl | rfl | rfl | rfl
    all_goals simp at hno
    · obtain ⟨⟨⟨rfl, rfl⟩, rfl⟩, rfl⟩ := hno
      have n1 : nxtO (f4 :: quoB f5 :: quoB f7 :: f8.map attrP, false) = (f4, quoB f5 :: quoB f7 :: f8.map attrP, false) := rfl
      show rdB 1 (rdA 1 (f4 :: quoB f5 :: quoB f7 :: f8.map attrP, false)) = _
      unfold rdB rdA
      simp only [n1, nsd_quo, prs_attrs f8 false (fun a hm => (ha a hm).1), if_true]
      rfl
    · obtain ⟨⟨⟨rfl, rfl⟩, rfl⟩, rfl, rfl⟩ := hno
      show rdB 2 (rdA 2 ([itoaS f1, itoaS f2, itoaS f3], false)) = _
      rw [rdA_ne (by decide), hdl_num _ i1]
      unfold rdB
      rw [if_pos rfl]
      simp only [hdl_num _ i2, hdl_num _ i3]
      rfl
    · obtain ⟨⟨⟨⟨rfl, rfl⟩, rfl⟩, rfl⟩, rfl, rfl⟩ := hno
      show rdB 3 (rdA 3 ([itoaS f1, itoaS f3], false)) = _
      rw [rdA_ne (by decide), hdl_num _ i1]
      unfold rdB
      rw [if_neg (by decide), if_pos rfl]
      simp only [hdl_num _ i3]
      rfl
    · obtain ⟨⟨⟨⟨rfl, rfl⟩, rfl⟩, rfl, rfl⟩, rfl, rfl⟩ := hno
      show rdB 4 (rdA 4 ([itoaS f1], false)) = _
      rw [rdA_ne (by decide), hdl_num _ i1]
      unfold rdB
      rw [if_neg (by decide), if_neg (by decide), if_neg (by decide), if_neg (by decide), if_neg (by decide)]
      rfl
    · obtain ⟨⟨⟨rfl, rfl⟩, rfl⟩, rfl, rfl⟩ := hno
      show rdB 5 (rdA 5 ([itoaS f1, attrP ⟨f6, f7⟩], false)) = _
      rw [rdA_ne (by decide), hdl_num _ i1]
      unfold rdB
      rw [if_neg (by decide), if_neg (by decide), if_pos rfl]
      simp only [pr_attr ⟨f6, f7⟩ (hnm (.inl rfl))]
      rfl
    · obtain ⟨⟨⟨⟨rfl, rfl⟩, rfl⟩, rfl, rfl⟩, rfl⟩ := hno
      show rdB 6 (rdA 6 ([itoaS f1, f6], false)) = _
      rw [rdA_ne (by decide), hdl_num _ i1]
      unfold rdB
      rw [if_neg (by decide), if_neg (by decide), if_neg (by decide), if_pos rfl]
      rfl
    · obtain ⟨⟨⟨⟨rfl, rfl⟩, rfl⟩, rfl, rfl⟩, rfl⟩ := hno
      show rdB 7 (rdA 7 ([itoaS f1, quoB f7], false)) = _
      rw [rdA_ne (by decide), hdl_num _ i1]
      unfold rdB
      rw [if_neg (by decide), if_neg (by decide), if_neg (by decide), if_neg (by decide), if_pos rfl]
      simp only [nsd_quo]
      rfl
  unfold readS
  rw [hX, hkr]
  rw [if_neg]
  simp only [not_or, ne_eq, Decidable.not_not]
  exact ⟨by omega, by simp, trivial, h, trivial⟩
end Go.Proofs.YtgdemingopcgaaaDoorE

namespace Go.Proofs.YtgdemingopcgaaaDoorE
open Go Go.RowKit Go.Proofs.YtgdemingopcgaaaDoorW.PrintWords Go.Proofs.YtgdemingopcgaaaDoorX Go.Proofs.YtgdemingopcgaaaDoor.P26
set_option linter.unusedVariables false
set_option linter.unusedSimpArgs false
theorem index_eq (l : List UInt8) : Lib.indexByte l 61 = if l.findIdx (· = 61) < l.length then (l.findIdx (· = 61) : Int) else -1 := by
  induction l with
  | nil => rfl
  | cons c l ih =>
    rw [Lib.indexByte, List.findIdx_cons, List.length_cons]
    by_cases h : c = 61
    · subst h; simp
    · have h1 : (c == 61) = false := by simpa using h
      rw [h1, ih]
      simp only [h, decide_false, cond_false, Bool.false_eq_true, if_false]
      generalize l.findIdx (fun x => decide (x = 61)) = n
      by_cases h2 : n < l.length
      · have hb : ((n : Int) == -1) = false := by rw [beq_eq_false_iff_ne]; omega
        simp only [if_pos h2, hb, Bool.false_eq_true, if_false]
        rw [if_pos (by omega)]
        omega
      · simp only [if_neg h2]
        rw [if_neg (show ¬ n + 1 < l.length + 1 by omega)]
        rfl
set_option maxHeartbeats 1000000 in
set_option maxRecDepth 100000 in
theorem sIndex_c (s : ByteArray) (w : World) :
    Calls Tryd.prog 70 #[.string s, .string ⟨#[61]⟩] w fun e w' => e = .returned (.int .i64 (Lib.indexByte s.data.toList 61)) ∧ Drawn0 w w' := by
  by_cases h : s = ⟨#[61]⟩
  · subst h
    go_enter Tryd.func70, Tryd.ntmps70
    go_wp2_with fail
    go_ret
    exact ⟨rfl, Drawn0.refl _⟩
  · have hb : (([61] : List UInt8) == s.toList) = false := by
      rw [toList_data, beq_eq_false_iff_ne]
      intro e
      exact h (ba_inj e.symm)
    go_enter Tryd.func70, Tryd.ntmps70
    go_wp2_with fail
    refine (Tryd.stringslite_IndexByte s _ w).mono ?_
    rintro e w1 ⟨rfl, rfl⟩
    go_wp2_with fail
    go_ret
    exact ⟨rfl, Drawn0.refl _⟩
theorem sCut_c (s : ByteArray) (hs : s.size ≤ 1000000000000) (w : World) :
    Calls Tryd.prog 60 #[.string s, .string ⟨#[61]⟩] w fun e w' => e = .returned (.tuple #[.string (eqO s).1, .string (eqO s).2.1, .bool (eqO s).2.2]) ∧ Drawn0 w w' := by
  have HI := Aside0.mk (sIndex_c s w)
  rw [index_eq] at HI
  unfold eqO
  have hl : s.data.toList.length = s.size := by rw [Array.length_toList]; rfl
  rw [hl] at HI ⊢
  have E1 : Aside0 (mkB (s.data.toList.take (s.data.toList.findIdx (· = 61))) = s.extract 0 (s.data.toList.findIdx (· = 61))) := ⟨ba_inj (by rw [mkB_list, ext_sub, List.drop_zero])⟩
  have E2 : Aside0 (mkB (s.data.toList.drop (s.data.toList.findIdx (· = 61) + 1)) = s.extract (s.data.toList.findIdx (· = 61) + 1) s.size) := ⟨ba_inj (by rw [mkB_list, ext_sub, List.take_of_length_le (by omega)])⟩
  generalize s.data.toList.findIdx (· = 61) = n at *
  by_cases h : n < s.size
  · rw [if_pos h] at HI ⊢
    rw [E1.out, E2.out]
    go_enter Tryd.func60, Tryd.ntmps60
    go_wp2_with fail
    refine HI.out.mono ?_
    rintro e w1 ⟨rfl, hd⟩
    have HD := Aside0.mk hd
    go_wp2_with fail
    go_region
    go_wp2_with fail
    go_ret3
    exact ⟨rfl, HD.out.step 1⟩
  · rw [if_neg h] at HI ⊢
    go_enter Tryd.func60, Tryd.ntmps60
    go_wp2_with fail
    refine HI.out.mono ?_
    rintro e w1 ⟨rfl, hd⟩
    have HD := Aside0.mk hd
    go_wp2_with fail
    go_ret3
    exact ⟨rfl, HD.out⟩
theorem Cut_c (s : ByteArray) (hs : s.size ≤ 1000000000000) (w : World) :
    Calls Tryd.prog 47 #[.string s, .string ⟨#[61]⟩] w fun e w' => e = .returned (.tuple #[.string (eqO s).1, .string (eqO s).2.1, .bool (eqO s).2.2]) ∧ Drawn0 w w' := by
  have HI := Aside0.mk (sCut_c s hs w)
  go_enter Tryd.func47, Tryd.ntmps47
  go_wp2_with fail
  refine HI.out.mono ?_
  rintro e w1 ⟨rfl, hd⟩
  have HD := Aside0.mk hd
  clear hd
  go_wp2_with fail
  go_ret3
  exact ⟨rfl, HD.out⟩
theorem idxN_le (l : List ByteArray) (v : ByteArray) : idxN l v ≤ l.length := List.findIdx_le_length
theorem idxN_hit (l : List ByteArray) (v : ByteArray) (k : Nat) (hk : k < l.length) (h1 : k ≤ idxN l v) : (v.data.toList == l[k].data.toList) = decide (k = idxN l v) := by
  rcases Nat.lt_or_ge k (idxN l v) with h | h
  · have := List.not_of_lt_findIdx (p := fun a => v.data.toList == a.data.toList) (xs := l) h
    have h2 : (v.data.toList == l[k].data.toList) = false := by simpa using this
    rw [h2]
    symm
    rw [decide_eq_false_iff_not]
    omega
  · obtain rfl : k = idxN l v := by omega
    have hk2 : l.findIdx (fun a => v.data.toList == a.data.toList) < l.length := hk
    rw [decide_eq_true rfl]
    exact List.findIdx_getElem (w := hk2)
theorem index_c (l : List ByteArray) (v : ByteArray) (A : Option Addr) (c : Nat) (w : World) (hl : l.length ≤ 1000000000000) (hC : Kd.string.C w A l.length l) :
    Calls Tryd.prog 26 #[.slice A l.length c, .string v] w fun e w' => e = .returned (.int .i64 (idxS l v)) ∧ w' = w := by
  have HC := Aside0.mk hC
  have HI := Aside0.mk (idxN_le l v)
  clear hC
  go_enter Tryd.func26, Tryd.ntmps26
  go_wp2_with fail
  go_loopw [8] (fun i wr => ∃ k : Nat, k ≤ l.length ∧ i = .int .i64 k ∧ Aside0 (k ≤ idxN l v) ∧ wr = w) (fun i _ => l.length - (intOf i).toNat)
  case atStart => exact ⟨0, Nat.zero_le _, rfl, ⟨Nat.zero_le _⟩, rfl⟩
  case round =>
    obtain ⟨k, hk, rfl, hn, rfl⟩ := hrel
    by_cases hlt : k < l.length
    · obtain ⟨ad, rfl, h0⟩ := Kd.at_string HC.out (k : Int) (by omega) (by omega)
      rw [Int.toNat_natCast] at h0
      have hx : rdOf ByteArray.empty l (k : Int) = l[k] := by
        unfold rdOf
        rw [Int.toNat_natCast, List.getD_eq_getElem?_getD, List.getElem?_eq_getElem hlt]
        rfl
      rw [hx] at h0
      have hh := idxN_hit l v k hlt hn.out
      rw [← toList_data, ← toList_data] at hh
      by_cases he : k = idxN l v
      · rw [decide_eq_true he] at hh
        have HE := Aside0.mk he
        clear he hx
        go_wp2_with fail
        go_ret
        refine ⟨?_, rfl⟩
        unfold idxS
        rw [← HE.out, if_pos hlt]
        rfl
      · rw [decide_eq_false he] at hh
        have HE := Aside0.mk he
        clear he hx
        go_wp2_with fail
        exact ⟨⟨k + 1, by omega, by go_num, ⟨by have := hn.out; have := HE.out; omega⟩, trivial⟩, by simp [intOf]; omega⟩
    · have hke : k = l.length := by omega
      have hne : idxS l v = -1 := by unfold idxS; rw [if_neg (by have := hn.out; have := HI.out; omega)]
      subst hke
      go_wp2_with fail
      go_ret
      rw [hne]
      exact ⟨rfl, rfl⟩
end Go.Proofs.YtgdemingopcgaaaDoorE

namespace Go.Proofs.YtgdemingopcgaaaDoorE
open Go Go.RowKit Go.Proofs.YtgdemingopcgaaaDoorW.PrintWords Go.Proofs.YtgdemingopcgaaaDoorX Go.Proofs.YtgdemingopcgaaaDoor.P26
set_option linter.unusedVariables false
set_option linter.unusedSimpArgs false
theorem un_c (s : ByteArray) (hs : s.size ≤ 1000000000000) (w : World) (hgl : GL w) :
    Calls Tryd.prog 46 #[.string s] w fun e w' => e = .returned (.tuple #[.string (mkB (unS s.data.toList 0 []).1), .int .i64 (unS s.data.toList 0 []).2.1, .int .i64 (unS s.data.toList 0 []).2.2]) ∧ Below w.heap.size w w' :=
  escape_Unescape.calls s _ _ _ w hgl (by unfold escape_Unescape.f; rw [if_pos hs]; rfl)
theorem head_at (t : ByteArray) (h : 0 < t.size) : t.data.toList.head? = some t[0] := by
  have hl : 0 < t.data.toList.length := by rw [Array.length_toList]; exact h
  rw [List.head?_eq_getElem?, List.getElem?_eq_getElem hl]
  simp [ByteArray.getElem_eq_getElem_data]
theorem last_at (t : ByteArray) (n : Nat) (h : n + 1 = t.size) : t.data.toList.getLast? = some (t[n]'(by omega)) := by
  have hl : t.data.toList.length = n + 1 := by rw [Array.length_toList]; exact h.symm
  rw [List.getLast?_eq_getElem?, hl, Nat.add_sub_cancel, List.getElem?_eq_getElem (by omega)]
  simp [ByteArray.getElem_eq_getElem_data]
set_option maxHeartbeats 1000000 in
set_option maxRecDepth 100000 in
theorem said_O (p : Nat) (ok : Nat → Prop) (s : StO) (t : ByteArray) (ht : t.size ≤ 1000000000000) (w : World) (hpg : ∀ W, But (· = p) w W → GL W) (h : AtO p ok s w) :
    Calls Tryd.prog 28 #[.pointer (some ⟨p, 0, none⟩), .string t] w fun e w' => e = .returned (.string (sdO t).1) ∧ AtO p ok (s.1, s.2 || (sdO t).2) w' ∧ But (· = p) w w' := by
  have H := Aside0.mk h
  obtain ⟨q1, q2⟩ := h.bad
  have HG := Aside0.mk hpg
  have hl : t.data.toList.length = t.size := by rw [Array.length_toList]; rfl
  obtain ⟨l, b⟩ := s
  simp only at q1 ⊢
  clear hpg h
  by_cases h2 : t.size < 2
  · have hR : sdO t = (em, true) := by unfold sdO; rw [if_pos (.inl (by omega))]
    rw [hR]
    clear hR hl
    go_enter Tryd.func28, Tryd.ntmps28
    go_wp2_with fail
    go_ret
    exact ⟨rfl, H.out.flag true, (But.refl _ w).put_self _ _⟩
  · obtain ⟨n, hn⟩ : ∃ n, n + 1 = t.size := ⟨t.size - 1, by omega⟩
    have h0 : 0 < t.size := by omega
    have hnl : n < t.size := by omega
    by_cases hq0 : t[0] = 34
    · by_cases hq1 : t[n] = 34
      · have hz : (t.size : Int) - 1 = (n : Int) := by omega
        have b0 : ((t[0].toNat : Int) != 34) = false := by rw [hq0]; rfl
        have b1 : ((t[n].toNat : Int) != 34) = false := by rw [hq1]; rfl
        have hu := un_c (t.extract 1 n) (by rw [ByteArray.size_extract]; omega)
        have e : (t.extract 1 n).data.toList = (t.data.toList.drop 1).take (t.data.toList.length - 2) := by
          rw [ext_sub, List.drop_take]
          congr 1
          omega
        rw [e] at hu
        have hR : sdO t = (mkB (unS ((t.data.toList.drop 1).take (t.data.toList.length - 2)) 0 []).1, decide ((unS ((t.data.toList.drop 1).take (t.data.toList.length - 2)) 0 []).2.2 ≠ 0)) := by
          have hc : ¬ (t.data.toList.length < 2 ∨ t.data.toList.head? ≠ some 34 ∨ t.data.toList.getLast? ≠ some 34) := by
            rw [head_at t h0, last_at t n hn, hq0, hq1]
            rintro (h | h | h)
            · omega
            · exact h rfl
            · exact h rfl
          unfold sdO
          rw [if_neg hc]
        rw [hR]
        generalize unS ((t.data.toList.drop 1).take (t.data.toList.length - 2)) 0 [] = u at hu ⊢
        obtain ⟨u1, u2, u3⟩ := u
        simp only at hu ⊢
        have HU := Aside0.mk hu
        have hsl : ∀ W, Sem.run Tryd.prog (Instr.slice 9 (.string t) (some (.int .i64 1)) (some (.int .i64 (n : Int))) none) W = .ok (.string (t.extract 1 n)) W := fun W => by
          rw [run_slice_string W 9 t .i64 .i64 1 (n : Int) Tryd.underlying9 (by omega) (by omega) (by omega)]
          rfl
        clear hR hl hu e hq0 hq1
        by_cases hu3 : u3 = 0
        · have b3 : (u3 != 0) = false := by simpa using hu3
          cases b <;> (
            go_enter Tryd.func28, Tryd.ntmps28
            go_wp2_with fail
            refine (HU.out _ (HG.out _ (But.refl _ w))).mono ?_
            rintro e w1 ⟨rfl, hb⟩
            have HB := Aside0.mk ((But.refl (· = p) w).below hb)
            have HA := Aside0.mk (H.out.below hb)
            obtain ⟨q3, q4⟩ := HA.out.bad
            clear hb
            go_wp2_with fail
            go_ret
            exact ⟨rfl, by simp [hu3]; exact HA.out.flag _, HB.out.put_self _ _⟩)
        · have b3 : (u3 != 0) = true := by simpa using hu3
          cases b <;> (
            go_enter Tryd.func28, Tryd.ntmps28
            go_wp2_with fail
            refine (HU.out _ (HG.out _ (But.refl _ w))).mono ?_
            rintro e w1 ⟨rfl, hb⟩
            have HB := Aside0.mk ((But.refl (· = p) w).below hb)
            have HA := Aside0.mk (H.out.below hb)
            obtain ⟨q3, q4⟩ := HA.out.bad
            clear hb
            go_wp2_with fail
            go_ret
            exact ⟨rfl, by simp [hu3]; exact HA.out.flag _, HB.out.put_self _ _⟩)
      · have hR : sdO t = (em, true) := by
          unfold sdO
          rw [if_pos (.inr (.inr (by rw [last_at t n hn]; simpa using hq1)))]
        have hz : (t.size : Int) - 1 = (n : Int) := by omega
        have b0 : ((t[0].toNat : Int) != 34) = false := by rw [hq0]; rfl
        have b1 : ((t[n].toNat : Int) != 34) = true := by
          rw [bne_iff_ne]
          intro e
          exact hq1 (UInt8.toNat_inj.1 (show t[n].toNat = 34 by omega))
        rw [hR]
        clear hR hl hq0 hq1
        go_enter Tryd.func28, Tryd.ntmps28
        go_wp2_with fail
        go_ret
        exact ⟨rfl, by first | exact H.out.flag true | (rw [Bool.or_true]; exact H.out.flag true), (But.refl _ w).put_self _ _⟩
    · have hR : sdO t = (em, true) := by
        unfold sdO
        rw [if_pos (.inr (.inl (by rw [head_at t h0]; simpa using hq0)))]
      have b0 : ((t[0].toNat : Int) != 34) = true := by
        rw [bne_iff_ne]
        intro e
        exact hq0 (UInt8.toNat_inj.1 (show t[0].toNat = 34 by omega))
      rw [hR]
      clear hR hl hq0
      go_enter Tryd.func28, Tryd.ntmps28
      go_wp2_with fail
      go_ret
      exact ⟨rfl, by first | exact H.out.flag true | (rw [Bool.or_true]; exact H.out.flag true), (But.refl _ w).put_self _ _⟩
theorem eqO_size (t : ByteArray) : (eqO t).1.size ≤ t.size ∧ (eqO t).2.1.size ≤ t.size := by
  have hm : ∀ l : List UInt8, (mkB l).size = l.length := fun l => List.size_toArray
  have hl : t.data.toList.length = t.size := by rw [Array.length_toList]; rfl
  unfold eqO
  split
  · simp only [hm]
    rw [List.length_take, List.length_drop]
    omega
  · exact ⟨Nat.le_refl _, Nat.zero_le _⟩
set_option maxHeartbeats 1000000 in
set_option maxRecDepth 100000 in
theorem pair_O (p : Nat) (ok : Nat → Prop) (hok : ∀ k, ok k → k < p) (s : StO) (hz : ∀ x ∈ s.1, x.size ≤ 1000000000000) (w : World) (hpg : ∀ W, But (· = p) w W → GL W) (h : AtO p ok s w) :
    Calls Tryd.prog 29 #[.pointer (some ⟨p, 0, none⟩)] w fun e w' => e = .returned (.agg #[.string (prO s).1.f0, .string (prO s).1.f1]) ∧ AtO p ok (prO s).2 w' ∧ But (· = p) w w' := by
  have hb0 := below_alloc (Below.refl w.heap.size w) (.cells #[.string ⟨#[]⟩, .string ⟨#[]⟩] 51)
  have hlt := h.lt
  have HN := Aside0.mk (next_c p ok s _ (h.below hb0))
  have hx := (nxt_mem hz).1
  have HB0 := Aside0.mk ((But.refl (· = p) w).below hb0)
  have HK := Aside0.mk (heap_alloc_new w (.cells #[.string ⟨#[]⟩, .string ⟨#[]⟩] 51))
  unfold prO
  generalize nxtO s = E at *
  obtain ⟨x, l1, b1⟩ := E
  simp only at HN hx ⊢
  have HC := Aside0.mk (Cut_c x hx)
  have he := (eqO_size x).2
  generalize eqO x = E at *
  obtain ⟨e1, e2, e3⟩ := E
  simp only at HC he ⊢
  have HS := Aside0.mk (fun W (hg : ∀ W', But (· = p) W W' → GL W') st ha => said_O p ok st e2 (by omega) W hg ha)
  have HG := Aside0.mk hpg
  clear h hz hpg hx hb0
  cases b1 <;> cases e3 <;> (
    go_enter Tryd.func29, Tryd.ntmps29
    go_wp2_with fail
    refine (HN.out).mono ?_
    rintro e w1 ⟨rfl, ha, hb⟩
    have HA := Aside0.mk ha
    have HB := Aside0.mk (HB0.out.then_ hb)
    have HK1 := Aside0.mk ((hb.block _ (by simp) (by omega)).trans HK.out)
    clear ha hb
    go_wp2_with fail
    refine (HC.out _).mono ?_
    rintro e w2 ⟨rfl, hb⟩
    have hbl := hb.below
    have HB2 := Aside0.mk (HB.out.below hbl)
    have HA2 := Aside0.mk (HA.out.below hbl)
    have HK2 := Aside0.mk ((hbl.block _ (blk_lt' HK1.out)).trans HK1.out)
    obtain ⟨q1, q2⟩ := HA2.out.bad
    clear hb hbl
    go_wp2_with fail
    refine (HS.out _ ?_ _ (HA2.out.flag _)).mono ?_
    · intro W hW
      exact HG.out _ ((HB2.out.put_self _ _).then_ hW)
    rintro e w3 ⟨rfl, ha, hb⟩
    have HA3 := Aside0.mk ha
    have HB3 := Aside0.mk ((HB2.out.put_self 1 _).then_ hb)
    have HK3 := Aside0.mk ((((But.refl (· = p) w2).put_self 1 _).then_ hb).block w.heap.size (blk_lt' HK2.out) (by omega) |>.trans HK2.out)
    have y0 := cell_blk (j := 0) (v := .string ⟨#[]⟩) HK3.out rfl
    have y1 := cell_blk (j := 1) (v := .string ⟨#[]⟩) HK3.out rfl
    have z0 := Lib.frozen_of_heap HK3.out 0
    have z1 := Lib.frozen_of_heap HK3.out 1
    clear ha hb
    go_wp2_with fail
    refine bodyPost_ret (results_cell_row rfl _ _ w.heap.size 51 _ (0, 0) _ rfl (set_blk (j := 1) (set_blk (j := 0) HK3.out _) _) Tryd.underlying51 rfl (by kernel_rfl)) rfl ⟨rfl, ?_, ?_⟩
    · have hB : But (· = w.heap.size) w3 ((w3.setCell ⟨w.heap.size, 0, none⟩ (.string e1)).setCell ⟨w.heap.size, 1, none⟩ (.string (sdO e2).1)) := ((But.refl _ w3).put_self 0 _).put_self 1 _
      exact HA3.out.but hB (fun k hk => by rw [hk]; exact ⟨by omega, fun e => by have := hok _ e; omega⟩)
    · exact (HB3.out.setCell (.inr (Nat.le_refl _)) _).setCell (.inr (Nat.le_refl _)) _)
end Go.Proofs.YtgdemingopcgaaaDoorE

namespace Go.Proofs.YtgdemingopcgaaaDoorE
open Go Go.RowKit Go.Proofs.YtgdemingopcgaaaDoorW.PrintWords Go.Proofs.YtgdemingopcgaaaDoorW.PrintMore Go.Proofs.YtgdemingopcgaaaDoorW.PrintLast Go.Proofs.YtgdemingopcgaaaDoorX Go.Proofs.YtgdemingopcgaaaDoor.P26
set_option linter.unusedVariables false
set_option linter.unusedSimpArgs false
def boxO (x : S24) (v8 : Value) : Array Value := #[.int .i64 x.f0, .int .i64 x.f1, .int .i64 x.f2, .int .i64 x.f3, .string x.f4, .string x.f5, .string x.f6, .string x.f7, v8]
/-- In the midst of Read: the reader, the operation's box, the result's box. -/
structure InvX (w : World) (p bx : Nat) (ok : Nat → Prop) (x : S24) (v8 : Value) (s : StO) (wc : World) : Prop where
  bel : Below w.heap.size w wc
  res : wc.heap[w.heap.size]? = some (.cells (boxO zOp (.slice none 0 0)) 24 (0, 0))
  at_ : AtO p ok s wc
  box : wc.heap[bx]? = some (.cells (boxO x v8) 24 (0, 0))
  row : k51.R 51 wc (p + 1) (fun b => b ≠ bx) v8 x.f8
structure LieX (w : World) (p bx : Nat) (ok : Nat → Prop) : Prop where
  hp : w.heap.size < p
  hb : p < bx
  hok : ∀ k, ok k → k < p
theorem InvX.go {w : World} {p bx : Nat} {ok : Nat → Prop} {x : S24} {v8 : Value} {s s' : StO} {wc wd : World} (h : InvX w p bx ok x v8 s wc) (L : LieX w p bx ok) (ha : AtO p ok s' wd) (hb : But (· = p) wc wd) : InvX w p bx ok x v8 s' wd := by
  have h1 := L.hp
  have h2 := L.hb
  refine ⟨⟨hb.os.trans h.bel.os, hb.tape.trans h.bel.tape, hb.output.trans h.bel.output, Nat.le_trans h.bel.size hb.size, fun k hk => (hb.block k (Nat.lt_of_lt_of_le hk h.bel.size) (by omega)).trans (h.bel.block k hk)⟩, (hb.block _ (blk_lt' h.res) (by omega)).trans h.res, ha, (hb.block _ (blk_lt' h.box) (by omega)).trans h.box, Kd.R_mono (Kd.R_step (Kd.R_bound h.row) (fun k hk hlt => hb.block k hlt (by have := hk.2.1; omega))) (fun _ hk => hk.1)⟩
theorem InvX.below {w : World} {p bx : Nat} {ok : Nat → Prop} {x : S24} {v8 : Value} {s : StO} {wc wd : World} (h : InvX w p bx ok x v8 s wc) (L : LieX w p bx ok) (hb : Below wc.heap.size wc wd) : InvX w p bx ok x v8 s wd := h.go L (h.at_.below hb) ((But.refl _ wc).below hb)
theorem InvX.put {w : World} {p bx : Nat} {ok : Nat → Prop} {x y : S24} {v8 : Value} {s : StO} {wc : World} (h : InvX w p bx ok x v8 s wc) (L : LieX w p bx ok) (j : Nat) (u : Value) (hy : (boxO x v8).setIfInBounds j u = boxO y v8) (h8 : y.f8 = x.f8) : InvX w p bx ok y v8 s (wc.setCell ⟨bx, j, none⟩ u) := by
  have h1 := L.hp
  have h2 := L.hb
  have hB : But (· = bx) wc (wc.setCell ⟨bx, j, none⟩ u) := (But.refl _ wc).put_self j u
  refine ⟨⟨hB.os.trans h.bel.os, hB.tape.trans h.bel.tape, hB.output.trans h.bel.output, Nat.le_trans h.bel.size hB.size, fun k hk => (hB.block k (Nat.lt_of_lt_of_le hk h.bel.size) (by omega)).trans (h.bel.block k hk)⟩, (hB.block _ (blk_lt' h.res) (by omega)).trans h.res, h.at_.but hB (fun k hk => by rw [hk]; exact ⟨by omega, fun e => by have := L.hok _ e; omega⟩), hy ▸ set_blk h.box u, ?_⟩
  rw [h8]
  exact Kd.R_far (p := ⟨bx, j, none⟩) h.row (fun k hk => hk) u
theorem info_attr : (Tryd.prog.info? 51).map (fun i => (i.zero, i.size, i.bytes)) = some (some (.agg #[.string ⟨#[]⟩, .string ⟨#[]⟩]), k51.sz, 32) := by kernel_rfl
/-- A row has been appended to, its box not yet told. -/
theorem InvX.grown {w : World} {p bx : Nat} {ok : Nat → Prop} {x : S24} {v8 v1 : Value} {l1 : List S51} {s : StO} {wc wa : World} (h : InvX w p bx ok x v8 s wc) (L : LieX w p bx ok) {row : Option Nat} (g : wc.grownBy wa row) (hr : ∀ j, row = some j → p + 1 ≤ j ∧ j ≠ bx) (hR : k51.R 51 wa (p + 1) (fun k => k ≠ bx) v1 l1) :
    Below w.heap.size w wa ∧ wa.heap[bx]? = some (.cells (boxO x v8) 24 (0, 0)) ∧ wa.heap[w.heap.size]? = some (.cells (boxO zOp (.slice none 0 0)) 24 (0, 0)) ∧ AtO p ok s wa ∧ k51.R 51 wa (p + 1) (fun k => k ≠ bx) v1 l1 := by
  have h1 := L.hp
  have h2 := L.hb
  have hB : But (fun k => row = some k) wc wa := ⟨g.os, g.tape, g.output, g.size, fun i hi hn => g.block i hi (fun e => hn e.symm)⟩
  refine ⟨⟨g.os.trans h.bel.os, g.tape.trans h.bel.tape, g.output.trans h.bel.output, Nat.le_trans h.bel.size g.size, fun k hk => (g.block k (Nat.lt_of_lt_of_le hk h.bel.size) (fun e => by have := (hr k e.symm).1; omega)).trans (h.bel.block k hk)⟩, (g.block bx (blk_lt' h.box) (fun e => (hr bx e.symm).2 rfl)).trans h.box, (g.block _ (blk_lt' h.res) (fun e => by have := (hr _ e.symm).1; omega)).trans h.res, ?_, hR⟩
  exact h.at_.but hB (fun k hk => ⟨by have := (hr k hk).1; omega, fun e => by have := L.hok _ e; have := (hr k hk).1; omega⟩)
theorem InvX.told {w : World} {p bx : Nat} {ok : Nat → Prop} {x y : S24} {v8 v1 : Value} {l1 : List S51} {s : StO} {wa : World} (L : LieX w p bx ok) (hy : (boxO x v8).setIfInBounds 8 v1 = boxO y v1) (h8 : y.f8 = l1)
    (h : Below w.heap.size w wa ∧ wa.heap[bx]? = some (.cells (boxO x v8) 24 (0, 0)) ∧ wa.heap[w.heap.size]? = some (.cells (boxO zOp (.slice none 0 0)) 24 (0, 0)) ∧ AtO p ok s wa ∧ k51.R 51 wa (p + 1) (fun k => k ≠ bx) v1 l1) : InvX w p bx ok y v1 s (wa.setCell ⟨bx, 8, none⟩ v1) := by
  obtain ⟨hb, hbx, hr, ha, hR⟩ := h
  have h1 := L.hp
  have h2 := L.hb
  have hB : But (· = bx) wa (wa.setCell ⟨bx, 8, none⟩ v1) := (But.refl _ wa).put_self 8 v1
  refine ⟨hb.setCell (by show w.heap.size ≤ bx; omega) _, (hB.block _ (blk_lt' hr) (by omega)).trans hr, ha.but hB (fun k hk => by rw [hk]; exact ⟨by omega, fun e => by have := L.hok _ e; omega⟩), hy ▸ set_blk hbx v1, ?_⟩
  rw [h8]
  exact Kd.R_far (p := ⟨bx, 8, none⟩) hR (fun k hk => hk) v1
/-- Behind so many attributes of a create, n parts left. -/
def InvA (w : World) (p bx : Nat) (ok : Nat → Prop) (T1 T2 T3 : ByteArray) (l0 : List ByteArray) (b0 : Bool) (n : Nat) (wr : World) : Prop :=
  ∃ (al : List S51) (v8 : Value) (l : List ByteArray) (b : Bool), l.length = n ∧ prsO l0 b0 = (al ++ (prsO l b).1, (prsO l b).2) ∧ (∀ x ∈ l, x.size ≤ 1000000000000) ∧ al.length + l.length = l0.length ∧ InvX w p bx ok ⟨1, 0, 0, 0, T1, T2, em, T3, al⟩ v8 (l, b) wr
theorem nxt_len (s : StO) : (nxtO s).2.1.length ≤ s.1.length := by
  obtain ⟨l, b⟩ := s
  cases l with
  | nil => exact Nat.le_refl _
  | cons y l => simp [nxtO]
theorem rdA_k (k : Int) (s : StO) : (rdA k s).1.f0 = k := by
  unfold rdA
  split
  · next h => exact h.symm
  · rfl
theorem hdl_mem {s : StO} {N : Nat} (h : ∀ x ∈ s.1, x.size ≤ N) : ∀ x ∈ (hdlO s).2.1, x.size ≤ N := (nxt_mem h).2
theorem rdA_mem (k : Int) {s : StO} {N : Nat} (h : ∀ x ∈ s.1, x.size ≤ N) : ∀ x ∈ (rdA k s).2.1, x.size ≤ N := by
  unfold rdA
  split
  · intro x hx; cases hx
  · exact hdl_mem h
theorem cell_far {w : World} {a : Addr} {v u : Value} {b j : Nat} (h : w.cell? a = some v) (hne : ¬ a.block = b) : (w.setCell ⟨b, j, none⟩ u).cell? a = some v := by
  rw [World.cell?_setCell_other _ _ _ _ (fun e => hne (by rw [← e]))]; exact h
theorem row9 {wc : World} {g base : Nat} {ok : Nat → Prop} {v : Value} {l : List S51} (h : k51.R 51 wc base ok v l) (hg : ∀ k, ok k → k ≠ g) (u0 u1 u2 u3 u4 u5 u6 u7 u8 : Value) : k51.R 51 (((((((((wc.setCell ⟨g, 0, none⟩ u0).setCell ⟨g, 1, none⟩ u1).setCell ⟨g, 2, none⟩ u2).setCell ⟨g, 3, none⟩ u3).setCell ⟨g, 4, none⟩ u4).setCell ⟨g, 5, none⟩ u5).setCell ⟨g, 6, none⟩ u6).setCell ⟨g, 7, none⟩ u7).setCell ⟨g, 8, none⟩ u8) base ok v l := (Kd.R_far (p := ⟨g, 8, none⟩) (Kd.R_far (p := ⟨g, 7, none⟩) (Kd.R_far (p := ⟨g, 6, none⟩) (Kd.R_far (p := ⟨g, 5, none⟩) (Kd.R_far (p := ⟨g, 4, none⟩) (Kd.R_far (p := ⟨g, 3, none⟩) (Kd.R_far (p := ⟨g, 2, none⟩) (Kd.R_far (p := ⟨g, 1, none⟩) (Kd.R_far (p := ⟨g, 0, none⟩) h hg u0) hg u1) hg u2) hg u3) hg u4) hg u5) hg u6) hg u7) hg u8)
theorem unS_len (d : Nat) : ∀ (l : List UInt8) (pos : Nat) (out : List UInt8), l.length ≤ d → (unS l pos out).1.length ≤ out.length + l.length := by
  induction d with
  | zero =>
    intro l pos out h
    obtain rfl : l = [] := List.eq_nil_of_length_eq_zero (by omega)
    rw [unS_nil]
    simp
  | succ d ih =>
    intro l pos out h
    by_cases hl : l = []
    · subst hl
      rw [unS_nil]
      simp
    · rw [unS_cons l hl]
      have hpos : 0 < l.length := List.length_pos_iff.2 hl
      split
      · exact Nat.zero_le _
      · next hn =>
        have := ih (l.drop (stepU l).2) (pos + (stepU l).2) (out ++ [(stepU l).1]) (by rw [List.length_drop]; omega)
        rw [List.length_append, List.length_drop] at this
        simp at this
        omega
theorem mkB_size (l : List UInt8) : (mkB l).size = l.length := List.size_toArray
theorem sdO_size (t : ByteArray) : (sdO t).1.size ≤ t.size := by
  have hl : t.data.toList.length = t.size := by rw [Array.length_toList]; rfl
  unfold sdO
  split
  · exact Nat.zero_le _
  · simp only
    rw [mkB_size]
    have := unS_len _ ((t.data.toList.drop 1).take (t.data.toList.length - 2)) 0 [] (Nat.le_refl _)
    rw [List.length_take, List.length_drop, List.length_nil, Nat.zero_add] at this
    omega
theorem prO_size {s : StO} {N : Nat} (h : ∀ x ∈ s.1, x.size ≤ N) : (prO s).1.f0.size ≤ N ∧ (prO s).1.f1.size ≤ N := by
  have h1 := (nxt_mem h).1
  have h2 := eqO_size (nxtO s).1
  have h3 := sdO_size (eqO (nxtO s).1).2.1
  unfold prO
  exact ⟨by simp only; omega, by simp only; omega⟩
theorem prsO_ok {N : Nat} : ∀ (l : List ByteArray) (b : Bool), (∀ x ∈ l, x.size ≤ N) → (prsO l b).1.length = l.length ∧ ∀ a ∈ (prsO l b).1, a.f0.size ≤ N ∧ a.f1.size ≤ N
  | [], b, _ => ⟨rfl, fun a ha => by cases ha⟩
  | p :: l, b, h => by
    obtain ⟨h1, h2⟩ := prsO_ok l (prO ([p], b)).2.2 (fun x hx => h x (List.mem_cons_of_mem _ hx))
    rw [prsO]
    refine ⟨by simp [h1], fun a ha => ?_⟩
    rcases List.mem_cons.1 ha with rfl | ha
    · exact prO_size (s := ([p], b)) (fun x hx => by
        obtain rfl := List.mem_singleton.1 hx
        exact h _ (List.mem_cons_self ..))
    · exact h2 a ha
theorem hdl_i64 (s : StO) : i64 (hdlO s).1 := by
  unfold hdlO wholeS
  simp only
  split
  · next n hn =>
    split
    · exact atoi_range hn
    · exact ⟨by omega, by omega⟩
  · exact ⟨by omega, by omega⟩
theorem i64_sm {n : Int} (h : 0 ≤ n ∧ n ≤ 7) : i64 n := ⟨by omega, by omega⟩
theorem rd_mem51 (l : List S51) (i : Nat) (hi : i < l.length) : rd_T51 l (i : Int) ∈ l := by
  rw [rd_getElem l i hi]
  exact List.getElem_mem hi
theorem rdA_ok {k : Int} (hk : 0 ≤ k ∧ k ≤ 7) {s : StO} {N : Nat} (hN : N ≤ 140737488351232) (hl : s.1.length ≤ 140737488351232) (h : ∀ x ∈ s.1, x.size ≤ N) : okX (rdA k s).1 := by
  unfold rdA
  split
  · have h1 := nxt_mem h
    have h2 := nxt_mem h1.2
    have h3 := nxt_mem (s := (nsdO (nxtO s).2).2) h2.2
    have z1 := sdO_size (nxtO (nxtO s).2).1
    have z2 := sdO_size (nxtO (nsdO (nxtO s).2).2).1
    obtain ⟨e1, e2⟩ := prsO_ok (nsdO (nsdO (nxtO s).2).2).2.1 (nsdO (nsdO (nxtO s).2).2).2.2 h3.2
    have l1 := nxt_len s
    have l2 := nxt_len (nxtO s).2
    have l3 := nxt_len (nsdO (nxtO s).2).2
    have l4 : (nsdO (nsdO (nxtO s).2).2).2.1.length = (nxtO (nsdO (nxtO s).2).2).2.1.length := rfl
    have l5 : (nsdO (nxtO s).2).2.1.length = (nxtO (nxtO s).2).2.1.length := rfl
    have m1 : (nsdO (nxtO s).2).1.size = (sdO (nxtO (nxtO s).2).1).1.size := rfl
    have m2 : (nsdO (nsdO (nxtO s).2).2).1.size = (sdO (nxtO (nsdO (nxtO s).2).2).1).1.size := rfl
    refine ⟨i64_sm (by simp), i64_sm (by simp), i64_sm (by simp), i64_sm (by simp), by simp only; omega, by simp only; omega, Nat.zero_le _, by simp only; omega, by simp only; omega, fun i hi => ?_⟩
    have hm := e2 _ (rd_mem51 _ i hi)
    exact ⟨Nat.le_trans hm.1 hN, Nat.le_trans hm.2 hN⟩
  · exact ⟨i64_sm hk, hdl_i64 s, i64_sm (by simp), i64_sm (by simp), Nat.zero_le _, Nat.zero_le _, Nat.zero_le _, Nat.zero_le _, Nat.zero_le _, fun i hi => absurd hi (Nat.not_lt_zero i)⟩
theorem rdB_ok {k : Int} {a : OpSt} {N : Nat} (hN : N ≤ 140737488351232) (h : ∀ x ∈ a.2.1, x.size ≤ N) (ha : okX a.1) : okX (rdB k a).1 := by
  obtain ⟨h0, h1, h2, h3, h4, h5, h6, h7, h8, h9⟩ := ha
  have n1 := (nxt_mem h).1
  have p1 := prO_size h
  have z1 := sdO_size (nxtO a.2).1
  have m1 : (nsdO a.2).1.size = (sdO (nxtO a.2).1).1.size := rfl
  unfold rdB
  split
  · exact ⟨h0, h1, hdl_i64 _, hdl_i64 _, h4, h5, h6, h7, h8, h9⟩
  split
  · exact ⟨h0, h1, h2, hdl_i64 _, h4, h5, h6, h7, h8, h9⟩
  split
  · exact ⟨h0, h1, h2, h3, h4, h5, by simp only; omega, by simp only; omega, h8, h9⟩
  split
  · exact ⟨h0, h1, h2, h3, h4, h5, by simp only; omega, h7, h8, h9⟩
  split
  · exact ⟨h0, h1, h2, h3, h4, h5, h6, by simp only; omega, h8, h9⟩
  · exact ⟨h0, h1, h2, h3, h4, h5, h6, h7, h8, h9⟩
theorem cutL_size : ∀ (l : List UInt8) (q : Bool) (cur : List UInt8), ∀ p ∈ cutL l q cur, p.length ≤ l.length + cur.length
  | [], _, cur, p, hp => by
    rw [cutL, List.mem_singleton] at hp
    rw [hp]; omega
  | c :: l, q, cur, p, hp => by
    rw [cutL] at hp
    rw [List.length_cons]
    split at hp
    · have := cutL_size l (!q) _ p hp
      rw [List.length_append] at this
      simp at this
      omega
    · split at hp
      · rcases List.mem_cons.1 hp with rfl | hp
        · omega
        · have := cutL_size l q [] p hp
          simp at this
          omega
      · have := cutL_size l q _ p hp
        rw [List.length_append] at this
        simp at this
        omega
theorem cutB_size (s : ByteArray) (x : ByteArray) (hx : x ∈ cutB s) : x.size ≤ s.size := by
  obtain ⟨l, hl, rfl⟩ := List.mem_map.1 hx
  have h := cutL_size _ _ _ l hl
  have e : (mkB l).size = l.length := List.size_toArray
  have e2 : s.data.toList.length = s.size := by rw [Array.length_toList]; rfl
  rw [List.length_nil] at h
  omega
theorem readX_ok (s : ByteArray) (hs : s.size ≤ 100000000) : okX (readX s).1 := by
  have h1 := nxt_mem (s := (cutB s, false)) (N := 1000000000000) (fun x hx => Nat.le_trans (cutB_size s x hx) (by omega))
  have hl : (nxtO (cutB s, false)).2.1.length ≤ 140737488351232 := by
    have h4 := nxt_len (cutB s, false)
    have h5 := cutL_len s.data.toList false []
    have h6 : s.data.toList.length = s.size := by rw [Array.length_toList]; rfl
    have h7 : (cutB s).length = (cutL s.data.toList false []).length := by unfold cutB; rw [List.length_map]
    simp only at *
    omega
  unfold readX
  exact rdB_ok (by omega) (rdA_mem _ h1.2) (rdA_ok (kindW_range _) (by omega) hl h1.2)
theorem below9 {w wc : World} {g : Nat} (h : Below w.heap.size w wc) (hg : w.heap.size ≤ g) (u0 u1 u2 u3 u4 u5 u6 u7 u8 : Value) : Below w.heap.size w (((((((((wc.setCell ⟨g, 0, none⟩ u0).setCell ⟨g, 1, none⟩ u1).setCell ⟨g, 2, none⟩ u2).setCell ⟨g, 3, none⟩ u3).setCell ⟨g, 4, none⟩ u4).setCell ⟨g, 5, none⟩ u5).setCell ⟨g, 6, none⟩ u6).setCell ⟨g, 7, none⟩ u7).setCell ⟨g, 8, none⟩ u8) := (((((((((h.setCell hg u0).setCell hg u1).setCell hg u2).setCell hg u3).setCell hg u4).setCell hg u5).setCell hg u6).setCell hg u7).setCell hg u8)
theorem inv9 {w : World} {p bx : Nat} {ok : Nat → Prop} {s : StO} {w4 : World} {k : Int} (hbw : Below w.heap.size w w4) (hrw : w4.heap[w.heap.size]? = some (.cells (boxO zOp (.slice none 0 0)) 24 (0, 0))) (ha : AtO p ok s w4) (hx : w4.heap[bx]? = some (.cells (boxO zOp (.slice none 0 0)) 24 (0, 0))) (L : LieX w p bx ok) :
    InvX w p bx ok ⟨k, 0, 0, 0, em, em, em, em, []⟩ (.slice none 0 0) s (((((((((w4.setCell ⟨bx, 0, none⟩ (.int .i64 k)).setCell ⟨bx, 1, none⟩ (.int .i64 0)).setCell ⟨bx, 2, none⟩ (.int .i64 0)).setCell ⟨bx, 3, none⟩ (.int .i64 0)).setCell ⟨bx, 4, none⟩ (.string ⟨#[]⟩)).setCell ⟨bx, 5, none⟩ (.string ⟨#[]⟩)).setCell ⟨bx, 6, none⟩ (.string ⟨#[]⟩)).setCell ⟨bx, 7, none⟩ (.string ⟨#[]⟩)).setCell ⟨bx, 8, none⟩ (.slice none 0 0)) := by
  have h0 : InvX w p bx ok zOp (.slice none 0 0) s w4 := ⟨hbw, hrw, ha, hx, Kd.R_nil _ _ _ _ _⟩
  exact ((((((((h0.put L 0 _ (y := ⟨k, 0, 0, 0, em, em, em, em, []⟩) rfl rfl).put L 1 _ (y := ⟨k, 0, 0, 0, em, em, em, em, []⟩) rfl rfl).put L 2 _ (y := ⟨k, 0, 0, 0, em, em, em, em, []⟩) rfl rfl).put L 3 _ (y := ⟨k, 0, 0, 0, em, em, em, em, []⟩) rfl rfl).put L 4 _ (y := ⟨k, 0, 0, 0, em, em, em, em, []⟩) rfl rfl).put L 5 _ (y := ⟨k, 0, 0, 0, em, em, em, em, []⟩) rfl rfl).put L 6 _ (y := ⟨k, 0, 0, 0, em, em, em, em, []⟩) rfl rfl).put L 7 _ (y := ⟨k, 0, 0, 0, em, em, em, em, []⟩) rfl rfl).put L 8 _ (y := ⟨k, 0, 0, 0, em, em, em, em, []⟩) rfl rfl
theorem inv9a {w : World} {p : Nat} {ok : Nat → Prop} {s : StO} {w4 : World} {k : Int} (hbw : Below w.heap.size w w4) (hrw : w4.heap[w.heap.size]? = some (.cells (boxO zOp (.slice none 0 0)) 24 (0, 0))) (ha : AtO p ok s w4) (L : LieX w p w4.heap.size ok) :
    InvX w p w4.heap.size ok ⟨k, 0, 0, 0, em, em, em, em, []⟩ (.slice none 0 0) s (w4.alloc (.cells #[.int .i64 k, .int .i64 0, .int .i64 0, .int .i64 0, .string ⟨#[]⟩, .string ⟨#[]⟩, .string ⟨#[]⟩, .string ⟨#[]⟩, .slice none 0 0] 24 (0, 0))) :=
  ⟨below_alloc hbw _, ((below_alloc (Below.refl _ _) _).block w.heap.size (blk_lt' hrw)).trans hrw, ha.below (below_alloc (Below.refl _ _) _), heap_alloc_new _ _, Kd.R_nil _ _ _ _ _⟩
theorem WD.C {w : World} (h : WD w) : Kd.string.C w (some ⟨0, 0, none⟩) 8 wordL := by
  refine ⟨rfl, by omega, fun _ => ⟨_, rfl, ?_⟩⟩
  intro j p hp
  refine ⟨[.string p], rfl, rfl, ?_⟩
  intro i u hu
  match i, hu with
  | 0, hu =>
    simp at hu
    subst hu
    show w.cell? ((⟨0, 0, none⟩ : Addr).add (j * 1 + 0)) = _
    rw [add_plain, h.cell, List.getElem?_map, Nat.mul_one, Nat.add_zero, hp]
    rfl
theorem below_of_but {w W W' : World} {p : Nat} (h : Below w.heap.size w W) (hb : But (· = p) W W') (hp : w.heap.size ≤ p) : Below w.heap.size w W' :=
  ⟨hb.os.trans h.os, hb.tape.trans h.tape, hb.output.trans h.output, Nat.le_trans h.size hb.size, fun k hk => (hb.block k (Nat.lt_of_lt_of_le hk h.size) (by omega)).trans (h.block k hk)⟩
theorem kind_max (v : ByteArray) : max 0 (idxS wordL v) = kindW v := by
  unfold idxS kindW
  by_cases h8 : idxN wordL v < 8
  · rw [if_pos h8, if_pos (show _ < wordL.length from h8)]; omega
  · rw [if_neg h8, if_neg (show ¬ _ < wordL.length from h8)]; omega
set_option maxHeartbeats 20000000 in
set_option maxRecDepth 100000 in
theorem Read_c (s : ByteArray) (hs : s.size ≤ 100000000) (w : World) (hgl : GL w) (hwd : WD w) :
    Calls Tryd.prog 10 #[.string s] w fun e w' => (∃ A c, e = .returned (.tuple #[opOf (readS s).1 A c, .int .i64 (readS s).2]) ∧ (readS s).1.f8.length ≤ c ∧ Kd.C k51 w' A (readS s).1.f8.length (readS s).1.f8) ∧ Below w.heap.size w w' := by
  have HG := Aside0.mk hgl
  have HW := Aside0.mk hwd
  have hb0 := below_alloc (Below.refl w.heap.size w) (.cells (boxO zOp (.slice none 0 0)) 24)
  have HB0 := Aside0.mk hb0
  have HR0 := Aside0.mk (heap_alloc_new w (.cells (boxO zOp (.slice none 0 0)) 24))
  have HCUT := Aside0.mk (cut_c s (by omega) (w.alloc (.cells (boxO zOp (.slice none 0 0)) 24)))
  clear hgl hwd hb0
  go_enter Tryd.func10, Tryd.ntmps10
  go_upto_region 2 with (go_at_call 25; refine HCUT.out.mono ?_; rintro e w1 ⟨⟨v, rfl, hR⟩, hb⟩; have HR := Aside0.mk hR; have HB1 := Aside0.mk hb; clear hb; obtain ⟨A, c, rfl⟩ := Kd.R_slice hR; clear hR)
  have hsz : w.heap.size + 1 ≤ w1.heap.size := by have := HB1.out.size; simpa using this
  obtain ⟨ok, hok⟩ : ∃ ok : Nat → Prop, ok = fun k => True ∧ (w.alloc (.cells (boxO zOp (.slice none 0 0)) 24)).heap.size ≤ k ∧ k < w1.heap.size := ⟨_, rfl⟩
  have hokp : ∀ k, ok k → k < w1.heap.size := fun k hk => by rw [hok] at hk; exact hk.2.2
  have HA := Aside0.mk (show AtO w1.heap.size ok (cutB s, false) (w1.alloc (.cells #[.slice A (cutB s).length c, .bool false] 59)) from ⟨fun e => by have := hokp _ e; omega, A, c, heap_alloc_new w1 _, (Kd.R_reads' HR.out).2.1, by rw [hok]; exact Kd.F_alloc (F_of_R HR.out) _⟩)
  have HOK := Aside0.mk hokp
  have HB2 := Aside0.mk (below_alloc (below_then HB0.out HB0.out.size HB1.out) (.cells #[.slice A (cutB s).length c, .bool false] 59))
  have HR2 := Aside0.mk (((below_alloc HB1.out (.cells #[.slice A (cutB s).length c, .bool false] 59)).block w.heap.size (by simp)).trans HR0.out)
  have hnx := nxt_mem (s := (cutB s, false)) (N := 1000000000000) (fun x hx => Nat.le_trans (cutB_size s x hx) (by omega))
  clear hok hokp
  go_cut [5] from 7 (fun v5 wc => ∃ bx, v5 = .pointer (some ⟨bx, 0, none⟩) ∧ Aside0 (LieX w w1.heap.size bx ok ∧ InvX w w1.heap.size bx ok ⟨kindR s, 0, 0, 0, em, em, em, em, []⟩ (.slice none 0 0) (nxtO (cutB s, false)).2 wc))
  case first =>
    have HMX := Aside0.mk (kind_max (nxtO (cutB s, false)).1)
    obtain ⟨I, hI⟩ : ∃ I, I = idxS wordL (nxtO (cutB s, false)).1 := ⟨_, rfl⟩
    have hmx : max 0 I = kindR s := by rw [hI]; exact HMX.out
    have HIX : Aside0 (∀ W, WD W → Calls Tryd.prog 26 #[.slice (some ⟨0, 0, none⟩) 8 8, .string (nxtO (cutB s, false)).1] W fun e w' => e = .returned (.int .i64 I) ∧ w' = W) := ⟨fun W hW => by
      rw [hI]
      exact index_c wordL (nxtO (cutB s, false)).1 (some ⟨0, 0, none⟩) 8 W (by decide) hW.C⟩
    clear hI
    go_region_with (first
      | (go_at_call 27
         refine (next_c w1.heap.size ok (cutB s, false) _ (HA.out.below (by repeat (first | exact Below.refl _ _ | apply below_drew | apply below_alloc)))).mono ?_
         rintro e w3 ⟨rfl, ha, hb⟩
         have hbw := Aside0.mk (below_of_but (below_then HB2.out HB2.out.size (by repeat (first | exact Below.refl _ _ | apply below_drew | apply below_alloc))) hb (by omega))
         have hrw := Aside0.mk ((hb.block w.heap.size (by simp; omega) (by omega)).trans (((show Below (w1.alloc (.cells #[.slice A (cutB s).length c, .bool false] 59)).heap.size (w1.alloc (.cells #[.slice A (cutB s).length c, .bool false] 59)) _ by repeat (first | exact Below.refl _ _ | apply below_drew | apply below_alloc)).block w.heap.size (by simp; omega)).trans HR2.out))
         try (have hx := (hb.block (w1.heap.size + 1) (by simp) (by simp)).trans (two_new_ w1 (.cells #[.slice A (cutB s).length c, .bool false] 59) (.cells #[.int .i64 0, .int .i64 0, .int .i64 0, .int .i64 0, .string ⟨#[]⟩, .string ⟨#[]⟩, .string ⟨#[]⟩, .string ⟨#[]⟩, .slice none 0 0] 24))
              have hy := Lib.cell_of_heap hx
              have hz := Lib.frozen_of_heap hx
              have HXX := Aside0.mk (show w3.heap[w1.heap.size + 1]? = some (Obj.cells (boxO zOp (Value.slice none 0 0)) 24 (0, 0)) from hx)
              clear hx)
         have HSZ := Aside0.mk hb.size
         have HAA := Aside0.mk ha
         clear ha hb)
      | (go_at_call 26
         refine (HIX.out _ (HW.out.below (below_then hbw.out hbw.out.size (by repeat (first | exact Below.refl _ _ | apply below_drew | apply below_alloc))))).mono ?_
         rintro e w4 ⟨rfl, rfl⟩))
    all_goals (go_wp2_with fail; go_meet)
    all_goals have hsz4 := HSZ.out
    all_goals simp at hsz4
    all_goals have hLok := HOK.out
    all_goals refine ⟨_, rfl, ⟨⟨by omega, by omega, hLok⟩, ?_⟩⟩
    all_goals first
      | with_reducible exact inv9 hbw.out hrw.out HAA.out HXX.out ⟨by omega, by omega, hLok⟩
      | with_reducible exact inv9a hbw.out hrw.out HAA.out ⟨by omega, by omega, hLok⟩
  obtain ⟨bx, rfl, HLI⟩ := hcut
  have HL := Aside0.mk HLI.out.1
  have HI := Aside0.mk HLI.out.2
  clear HLI
  obtain ⟨k, hkk⟩ : ∃ k, k = kindR s := ⟨_, rfl⟩
  have hkr : 0 ≤ k ∧ k ≤ 7 := by rw [hkk]; exact kindW_range _
  rw [← hkk] at HI
  have HK := Aside0.mk hkk
  clear hkk
  have hk := Lib.cell_of_heap HI.out.box
  unfold boxO at hk
  go_upto_block 0 with fail
  go_cut [5] from 7 (fun v5 wd => v5 = .pointer (some ⟨bx, 0, none⟩) ∧ Aside0 (k ≠ 0 ∧ ∃ v8, InvX w w1.heap.size bx ok (rdA k (nxtO (cutB s, false)).2).1 v8 (rdA k (nxtO (cutB s, false)).2).2 wd))
  case first =>
    by_cases hk0 : k = 0
    · subst hk0
      have hr := Lib.cell_of_heap HI.out.res
      have hz := Lib.frozen_of_heap HI.out.res
      unfold boxO zOp at hr
      clear hk
      go_wp2_with fail
      have hS : readS s = (zOp, 2) := by unfold readS; rw [if_pos (.inl HK.out.symm)]
      refine bodyPost_ret (results_ct rfl _ _ w.heap.size 24 _ (0, 0) _ rfl (set_blk (j := 8) (set_blk (j := 7) (set_blk (j := 6) (set_blk (j := 5) (set_blk (j := 4) (set_blk (j := 3) (set_blk (j := 2) (set_blk (j := 1) (set_blk (j := 0) HI.out.res _) _) _) _) _) _) _) _) _) Tryd.underlying24 rfl (by kernel_rfl)) rfl ⟨⟨none, 0, ?_, ?_, ?_⟩, ?_⟩
      · rw [hS]; rfl
      · rw [hS]; exact Nat.le_refl 0
      · rw [hS]; exact Kd.C_nil _ _
      · with_reducible exact below9 HI.out.bel (Nat.le_refl _) _ _ _ _ _ _ _ _ _
    · by_cases hk1 : k = 1
      · subst hk1
        --CREATE
        have HSZ0 := Aside0.mk hnx.2
        clear hnx
        go_wp2_with fail
        refine (next_c w1.heap.size ok _ wc HI.out.at_).mono ?_
        rintro e w3 ⟨rfl, ha, hb⟩
        have HI1 := Aside0.mk (HI.out.go HL.out ha hb)
        clear ha hb hk
        go_wp2_with fail
        refine (next_c w1.heap.size ok _ _ HI1.out.at_).mono ?_
        rintro e w4 ⟨rfl, ha, hb⟩
        have HI2 := Aside0.mk (HI1.out.go HL.out ha hb)
        have HN1 := Aside0.mk (nxt_mem HSZ0.out)
        have HN2 := Aside0.mk (nxt_mem HN1.out.2)
        clear ha hb
        go_wp2_with fail
        refine (said_O w1.heap.size ok _ _ HN2.out.1 _ (fun W hW => HG.out.below (below_of_but HI2.out.bel hW (by omega))) HI2.out.at_).mono ?_
        rintro e w5 ⟨rfl, ha, hb⟩
        have HI3 : Aside0 (InvX w w1.heap.size bx ok _ _ (nsdO (nxtO (nxtO (cutB s, false)).2).2).2 w5) := ⟨HI2.out.go HL.out ha hb⟩
        clear ha hb
        go_wp2_with fail
        refine (next_c w1.heap.size ok _ _ HI3.out.at_).mono ?_
        rintro e w6 ⟨rfl, ha, hb⟩
        have HI4 := Aside0.mk (HI3.out.go HL.out ha hb)
        have HN4 : Aside0 (_ ∧ ∀ x ∈ (nxtO (nsdO (nxtO (nxtO (cutB s, false)).2).2).2).2.1, x.size ≤ 1000000000000) := ⟨nxt_mem (s := (nsdO (nxtO (nxtO (cutB s, false)).2).2).2) HN2.out.2⟩
        clear ha hb
        go_wp2_with fail
        refine (said_O w1.heap.size ok _ _ HN4.out.1 _ (fun W hW => HG.out.below (below_of_but HI4.out.bel hW (by omega))) HI4.out.at_).mono ?_
        rintro e w7 ⟨rfl, ha, hb⟩
        have HI5 : Aside0 (InvX w w1.heap.size bx ok _ _ (nsdO (nsdO (nxtO (nxtO (cutB s, false)).2).2).2).2 w7) := ⟨HI4.out.go HL.out ha hb⟩
        have hx := Lib.cell_of_heap HI5.out.box
        have hz := Lib.frozen_of_heap HI5.out.box
        unfold boxO at hx
        clear ha hb
        go_wp2_with fail
        have HI8 := Aside0.mk (((HI5.out.put HL.out 4 (.string (nxtO (nxtO (cutB s, false)).2).1) (y := ⟨1, 0, 0, 0, (nxtO (nxtO (cutB s, false)).2).1, em, em, em, []⟩) rfl rfl).put HL.out 5 (.string (nsdO (nxtO (nxtO (cutB s, false)).2).2).1) (y := ⟨1, 0, 0, 0, (nxtO (nxtO (cutB s, false)).2).1, (nsdO (nxtO (nxtO (cutB s, false)).2).2).1, em, em, []⟩) rfl rfl).put HL.out 7 (.string (nsdO (nsdO (nxtO (nxtO (cutB s, false)).2).2).2).1) (y := ⟨1, 0, 0, 0, (nxtO (nxtO (cutB s, false)).2).1, (nsdO (nxtO (nxtO (cutB s, false)).2).2).1, em, (nsdO (nsdO (nxtO (nxtO (cutB s, false)).2).2).2).1, []⟩) rfl rfl)
        obtain ⟨l0, b0, hlb⟩ : ∃ l0 b0, (nsdO (nsdO (nxtO (nxtO (cutB s, false)).2).2).2).2 = (l0, b0) := ⟨_, _, rfl⟩
        have hl0 : l0.length ≤ 1000000000 := by
          have e : l0 = (nsdO (nsdO (nxtO (nxtO (cutB s, false)).2).2).2).2.1 := by rw [hlb]
          have h1 := nxt_len (nsdO (nxtO (nxtO (cutB s, false)).2).2).2
          have h2 := nxt_len (nxtO (nxtO (cutB s, false)).2).2
          have h3 := nxt_len (nxtO (cutB s, false)).2
          have h4 := nxt_len (cutB s, false)
          have h5 := cutL_len s.data.toList false []
          have h6 : s.data.toList.length = s.size := by rw [Array.length_toList]; rfl
          have h7 : (cutB s).length = (cutL s.data.toList false []).length := by unfold cutB; rw [List.length_map]
          rw [e]
          have h8 : (nsdO (nsdO (nxtO (nxtO (cutB s, false)).2).2).2).2.1.length = (nxtO (nsdO (nxtO (nxtO (cutB s, false)).2).2).2).2.1.length := rfl
          have h9 : (nsdO (nxtO (nxtO (cutB s, false)).2).2).2.1.length = (nxtO (nxtO (nxtO (cutB s, false)).2).2).2.1.length := rfl
          simp only at *
          omega
        have hsz1 : ∀ x ∈ l0, x.size ≤ 1000000000000 := by
          have e : l0 = (nsdO (nsdO (nxtO (nxtO (cutB s, false)).2).2).2).2.1 := by rw [hlb]
          rw [e]
          exact HN4.out.2
        rw [hlb] at HI8
        have HLB := Aside0.mk hlb
        have HL0 := Aside0.mk hl0
        have HSZ1 := Aside0.mk hsz1
        clear hlb hl0 hsz1 hx hz
        go_loopg [] l0.length (fun n wr => Aside0 (InvA w w1.heap.size bx ok (nxtO (nxtO (cutB s, false)).2).1 (nsdO (nxtO (nxtO (cutB s, false)).2).2).1 (nsdO (nsdO (nxtO (nxtO (cutB s, false)).2).2).2).1 l0 b0 n wr))
        case atStart => exact ⟨⟨[], .slice none 0 0, l0, b0, rfl, rfl, HSZ1.out, by simp, HI8.out⟩⟩
        case round =>
          obtain ⟨al, v8, l, b, hn, hpr, hsz, hln, hI⟩ := hrel.out
          obtain ⟨A8, c8, rfl⟩ := Kd.R_slice hI.row
          have HI6 := Aside0.mk hI
          have HPR := Aside0.mk hpr
          have HSZ := Aside0.mk hsz
          have HLN := Aside0.mk hln
          have HNN := Aside0.mk hn
          obtain ⟨A7, c7, hp0⟩ : ∃ A7 c7, wr.heap[w1.heap.size]? = some (.cells #[.slice A7 l.length c7, .bool b] 59 (0, 0)) := by
            obtain ⟨-, A7, c7, hp0, -, -⟩ := hI.at_
            exact ⟨A7, c7, hp0⟩
          have q0 := cell_blk (j := 0) (v := .slice A7 l.length c7) hp0 rfl
          clear hI hpr hsz hln hn hp0 hrel
          cases l with
          | nil =>
            go_wp2_with fail
            go_meet
            refine ⟨rfl, ⟨by decide, .slice A8 al.length c8, ?_⟩⟩
            have e : rdA 1 (nxtO (cutB s, false)).2 = (⟨1, 0, 0, 0, (nxtO (nxtO (cutB s, false)).2).1, (nsdO (nxtO (nxtO (cutB s, false)).2).2).1, em, (nsdO (nsdO (nxtO (nxtO (cutB s, false)).2).2).2).1, al⟩, [], b) := by
              unfold rdA
              rw [if_pos rfl, HLB.out]
              simp only
              rw [HPR.out]
              simp [prsO]
            rw [e]
            exact HI6.out
          | cons q l =>
            have y8 := cell_blk (j := 8) (v := .slice A8 al.length c8) HI6.out.box rfl
            have HID := Aside0.mk (HI6.out.below HL.out (below_drew (Below.refl _ _)))
            rw [List.length_cons] at q0
            go_wp2_with fail
            refine start_ (n := 8) (S := fun w' => w'.cell? ⟨bx, 8, none⟩ = some (.slice A8 al.length c8)) (ds := [7]) #[false, false, false, false, false, false, false, false] (by kernel_rfl) rfl rfl (cell_drew y8) (fun hHeld => ?_)
            refine pure_ (i := 0) (N := some 46) (v := ?_) (a' := ?_) #[true, false, false, false, false, false, false, false] rfl rfl (by kernel_rfl) (fun _ _ _ h => h) (Or.inl ⟨by rfl, ?_⟩) ?_ ?_
            rotate_left
            · intro w'
              go_simp
              with_reducible rfl
            rotate_left
            · simp only [Act.put, List.setIfInBounds_toArray, List.set_cons_zero, List.set_cons_succ, i64_w, i32_w]
              rfl
            refine pure_ (i := 2) (N := some 48) (v := ?_) (a' := ?_) #[true, false, true, false, false, false, false, false] rfl rfl (by kernel_rfl) (fun _ _ _ h => h) (Or.inl ⟨by rfl, ?_⟩) ?_ ?_
            rotate_left
            · intro w'
              go_simp
              with_reducible rfl
            rotate_left
            · simp only [Act.put, List.setIfInBounds_toArray, List.set_cons_zero, List.set_cons_succ, i64_w, i32_w]
              rfl
            refine take_ (i := 1) (N := some 47) (v := ?_) (a' := ?_) #[true, true, true, false, false, false, false, false] rfl rfl (by kernel_rfl) (fun _ _ _ h => h) (Or.inl ⟨by rfl, ?_⟩) hHeld ?_ ?_
            rotate_left
            · intro w' s0
              go_split_ands
              go_simp
              with_reducible rfl
            rotate_left
            · simp only [Act.put, List.setIfInBounds_toArray, List.set_cons_zero, List.set_cons_succ, i64_w, i32_w]
              rfl
            refine one_ (i := 3) (N := some 49) #[true, true, true, true, false, false, false, false] rfl rfl (by kernel_rfl) (by decide) (fun K hK => ?_)
            refine goes_ Tryd.func29 (by kernel_rfl) rfl #[.pointer (some ⟨w1.heap.size, 0, none⟩)] (by rfl) rfl rfl (by (try simp only [List.map_toArray, List.map_cons, List.map_nil]); first | done | rfl) ?_
            refine (pair_O w1.heap.size ok HL.out.hok (q :: l, b) HSZ.out _ (fun W hW => HG.out.below (below_of_but HID.out.bel hW (by omega))) HID.out.at_).mono ?_
            rintro e w' ⟨rfl, ha, hb⟩
            have HI7 := Aside0.mk (HID.out.go HL.out ha hb)
            have y7 := cell_blk (j := 8) (v := .slice A8 al.length c8) HI7.out.box rfl
            clear ha hb
            refine ⟨_, rfl, ?_⟩
            refine hK.out _ _ y7 (fun hHeld => ?_)
            clear hK K
            refine norm_ (a' := ?_) ?_ ?_
            rotate_left
            · show Act.put _ (some 49) _ = _
              simp only [Act.put, List.setIfInBounds_toArray, List.set_cons_zero, List.set_cons_succ, i64_w, i32_w]
              rfl
            refine one_ (i := 4) (N := some 50) #[true, true, true, true, true, false, false, false] rfl rfl (by kernel_rfl) (by decide) (fun K hK => ?_)
            refine value_ (w1 := World.alloc w' (.cells #[.string (prO (q :: l, b)).1.f0, .string (prO (q :: l, b)).1.f1] 51 (0, 0))) (v := .slice (some ⟨w'.heap.size, 0, none⟩) 1 1) (by rfl) rfl (by go_simp) ?_
            refine hK.out _ _ (pw_cell_below (below_alloc (Below.refl _ _) _) y7) (fun hHeld => ?_)
            clear hK K
            refine norm_ (a' := ?_) ?_ ?_
            rotate_left
            · show Act.put _ (some 50) _ = _
              simp only [Act.put, List.setIfInBounds_toArray, List.set_cons_zero, List.set_cons_succ, i64_w, i32_w]
              rfl
            refine one_ (i := 5) (N := some 51) #[true, true, true, true, true, true, false, false] rfl rfl (by kernel_rfl) (by decide) (fun K hK => ?_)
            refine Kd.R_append_step (w0 := w') (W := w') k51 (w1.heap.size + 1) (by rfl) (.tmp 47) (.tmp 50) 22 51 (.agg #[.string ⟨#[]⟩, .string ⟨#[]⟩]) 32 rfl Tryd.underlying22 info_attr rfl (by decide) (by decide) (.slice A8 al.length c8) al (prO (q :: l, b)).1 [.string (prO (q :: l, b)).1.f0, .string (prO (q :: l, b)).1.f1] (fun k => k ≠ bx) (fun _ => False) rfl rfl (k51_mkM w' (w1.heap.size + 1) _ (prO (q :: l, b)).1) (fun _ h => h.elim) (fun j hj => ?_) HI7.out.row (Below.refl _ _) (by have := HI7.out.at_.lt; omega) ?_ ?_
            · have := blk_lt' HI7.out.box; omega
            · have e1 := HLN.out; have e2 := HL0.out; rw [List.length_cons] at e1; show (al.length + 1) * 32 ≤ _; omega
            intro v1 wa hR1 hb1 hg1 hat1
            obtain ⟨A9, c9, rfl⟩ := Kd.R_slice hR1
            have HI9 := Aside0.mk (HI7.out.grown HL.out hg1 (fun j hj => ⟨Kd.R_base HI7.out.row j hj, HI7.out.row.1 j hj⟩) hR1)
            clear hR1 hb1 hg1 hat1
            have y9 := cell_blk (j := 8) (v := .slice A8 al.length c8) HI9.out.2.1 rfl
            have z9 := Lib.frozen_of_heap HI9.out.2.1 8
            refine hK.out _ _ y9 (fun hHeld => ?_)
            clear hK K
            refine norm_ (a' := ?_) ?_ ?_
            rotate_left
            · show Act.put _ (some 51) _ = _
              simp only [Act.put, List.setIfInBounds_toArray, List.set_cons_zero, List.set_cons_succ, i64_w, i32_w]
              rfl
            refine pure_ (i := 6) (N := some 52) (v := ?_) (a' := ?_) #[true, true, true, true, true, true, true, false] rfl rfl (by kernel_rfl) (fun _ _ _ h => h) (Or.inl ⟨by rfl, ?_⟩) ?_ ?_
            rotate_left
            · intro w'
              go_simp
              with_reducible rfl
            rotate_left
            · simp only [Act.put, List.setIfInBounds_toArray, List.set_cons_zero, List.set_cons_succ, i64_w, i32_w]
              rfl
            refine last_ (i := 7) (N := none) #[true, true, true, true, true, true, true, true] rfl rfl (by kernel_rfl) (by decide) (fun K hK => ?_)
            refine skip_ (w1 := ?_) (by rfl) rfl ?_ ?_
            rotate_left
            · go_simp
              rfl
            refine hK.out _ _ ?_
            clear hK K
            refine done_ (by kernel_rfl) ?_
            go_wp2_with fail
            go_roundg l.length
            case measure => have := HNN.out; rw [List.length_cons] at this; omega
            case rel =>
              refine ⟨⟨al ++ [(prO (q :: l, b)).1], .slice A9 (al.length + 1) c9, l, (prO (q :: l, b)).2.2, rfl, ?_, fun x hx => HSZ.out x (List.mem_cons_of_mem _ hx), ?_, ?_⟩⟩
              · rw [HPR.out, List.append_assoc]
                rfl
              · have := HLN.out
                rw [List.length_append]
                rw [List.length_cons] at this
                show al.length + 1 + l.length = _
                omega
              · have h9 := HI9.out
                rw [show (al ++ [(prO (q :: l, b)).1]).length = al.length + 1 by simp] at h9
                exact InvX.told (y := ⟨1, 0, 0, 0, (nxtO (nxtO (cutB s, false)).2).1, (nsdO (nxtO (nxtO (cutB s, false)).2).2).1, em, (nsdO (nsdO (nxtO (nxtO (cutB s, false)).2).2).2).1, al ++ [(prO (q :: l, b)).1]⟩) HL.out rfl rfl h9
        --END CREATE
      · have b0 : (k == 0) = false := by simpa using hk0
        have b1 : (k == 1) = false := by simpa using hk1
        have HH := Aside0.mk (handle_O w1.heap.size ok (nxtO (cutB s, false)).2 hnx.2 wc (HG.out.below HI.out.bel) (fun W hW => HG.out.below (below_of_but HI.out.bel hW (by omega))) HI.out.at_)
        clear hnx
        go_wp2_with (go_at_call 30; refine HH.out.mono ?_; rintro e w3 ⟨rfl, ha, hb⟩; have HI3 := Aside0.mk (HI.out.go HL.out ha hb); have hx := Lib.cell_of_heap HI3.out.box; have hz := Lib.frozen_of_heap HI3.out.box; unfold boxO at hx; clear ha hb hk)
        go_meet
        exact ⟨rfl, ⟨hk0, by rw [rdA_ne hk1]; exact ⟨_, HI3.out.put HL.out 1 _ rfl rfl⟩⟩⟩
  --SECOND
  obtain ⟨rfl, HAI⟩ := hcut
  obtain ⟨hk0, v8, hI⟩ := HAI.out
  clear HAI
  have hsz1 := rdA_mem k hnx.2
  have hf0 := rdA_k k (nxtO (cutB s, false)).2
  have HRX : Aside0 (readX s = rdB k (rdA k (nxtO (cutB s, false)).2)) := ⟨by unfold readX; rw [← HK.out]⟩
  clear hnx
  generalize rdA k (nxtO (cutB s, false)).2 = a1 at *
  obtain ⟨x1, s1⟩ := a1
  simp only at hsz1 hf0 hI
  have H0 := Aside0.mk hsz1
  have HI0 := Aside0.mk hI
  have hx0 := Lib.cell_of_heap hI.box
  unfold boxO at hx0
  clear hsz1 hI
  go_upto_block 3 with fail
  go_cut [5] from 7 (fun v5 wd => v5 = .pointer (some ⟨bx, 0, none⟩) ∧ Aside0 (∃ v8, InvX w w1.heap.size bx ok (rdB k (x1, s1)).1 v8 (rdB k (x1, s1)).2 wd))
  case first =>
    have h7 : k = 1 ∨ k = 2 ∨ k = 3 ∨ k = 4 ∨ k = 5 ∨ k = 6 ∨ k = 7 := by omega
    rcases h7 with rfl | rfl | rfl | rfl | rfl | rfl | rfl
    · rw [hf0] at *
      clear hx0
      go_wp2_with fail
      go_meet
      exact ⟨rfl, ⟨v8, HI0.out⟩⟩
    · clear hx0
      go_wp2_with fail
      refine (handle_O w1.heap.size ok _ H0.out _ (HG.out.below HI0.out.bel) (fun W hW => HG.out.below (below_of_but HI0.out.bel hW (by omega))) HI0.out.at_).mono ?_
      rintro e w3 ⟨rfl, ha, hb⟩
      have HI1 := Aside0.mk (HI0.out.go HL.out ha hb)
      have hx1 := Lib.cell_of_heap HI1.out.box
      have hz1 := Lib.frozen_of_heap HI1.out.box
      unfold boxO at hx1
      clear ha hb
      go_wp2_with fail
      have HI2 := Aside0.mk (HI1.out.put HL.out 2 (.int .i64 (hdlO s1).1) (y := ⟨x1.f0, x1.f1, (hdlO s1).1, x1.f3, x1.f4, x1.f5, x1.f6, x1.f7, x1.f8⟩) rfl rfl)
      have H1 := Aside0.mk (hdl_mem H0.out)
      clear hx1 hz1
      refine (handle_O w1.heap.size ok _ H1.out _ (HG.out.below HI2.out.bel) (fun W hW => HG.out.below (below_of_but HI2.out.bel hW (by omega))) HI2.out.at_).mono ?_
      rintro e w4 ⟨rfl, ha, hb⟩
      have HI3 := Aside0.mk (HI2.out.go HL.out ha hb)
      have hx1 := Lib.cell_of_heap HI3.out.box
      have hz1 := Lib.frozen_of_heap HI3.out.box
      unfold boxO at hx1
      clear ha hb
      go_wp2_with fail
      go_meet
      exact ⟨rfl, ⟨v8, HI3.out.put HL.out 3 (.int .i64 (hdlO (hdlO s1).2).1) (y := (rdB 2 (x1, s1)).1) rfl rfl⟩⟩
    · clear hx0
      go_wp2_with fail
      refine (handle_O w1.heap.size ok _ H0.out _ (HG.out.below HI0.out.bel) (fun W hW => HG.out.below (below_of_but HI0.out.bel hW (by omega))) HI0.out.at_).mono ?_
      rintro e w3 ⟨rfl, ha, hb⟩
      have HI1 := Aside0.mk (HI0.out.go HL.out ha hb)
      have hx1 := Lib.cell_of_heap HI1.out.box
      have hz1 := Lib.frozen_of_heap HI1.out.box
      unfold boxO at hx1
      clear ha hb
      go_wp2_with fail
      go_meet
      exact ⟨rfl, ⟨v8, HI1.out.put HL.out 3 (.int .i64 (hdlO s1).1) (y := (rdB 3 (x1, s1)).1) rfl rfl⟩⟩
    · clear hx0
      go_wp2_with fail
      go_meet
      exact ⟨rfl, ⟨v8, HI0.out⟩⟩
    · clear hx0
      go_wp2_with fail
      refine (pair_O w1.heap.size ok HL.out.hok _ H0.out _ (fun W hW => HG.out.below (below_of_but HI0.out.bel hW (by omega))) HI0.out.at_).mono ?_
      rintro e w3 ⟨rfl, ha, hb⟩
      have HI1 := Aside0.mk ((HI0.out.go HL.out ha hb).below HL.out (below_alloc (Below.refl _ _) (.cells #[.string (prO s1).1.f0, .string (prO s1).1.f1] 51)))
      have hbx := blk_lt' (HI0.out.go HL.out ha hb).box
      have hg0 := cell_blk (j := 0) (v := .string (prO s1).1.f0) (heap_alloc_new w3 (.cells #[.string (prO s1).1.f0, .string (prO s1).1.f1] 51)) rfl
      have hg1 := cell_blk (j := 1) (v := .string (prO s1).1.f1) (heap_alloc_new w3 (.cells #[.string (prO s1).1.f0, .string (prO s1).1.f1] 51)) rfl
      clear ha hb
      go_wp2_with fail
      generalize w3.alloc (.cells #[.string (prO s1).1.f0, .string (prO s1).1.f1] 51) = W at HI1 hg0 hg1 ⊢
      have HID := Aside0.mk (HI1.out.below HL.out (below_drew (Below.refl _ _)))
      have hne : ¬ w3.heap.size = bx := by omega
      have hd0 := cell_drew hg0
      have hd1 := cell_drew hg1
      clear hg0 hg1
      refine start_ (n := 8) (S := fun w' => w'.cell? ⟨w3.heap.size, 0, none⟩ = some (.string (prO s1).1.f0) ∧ w'.cell? ⟨w3.heap.size, 1, none⟩ = some (.string (prO s1).1.f1)) (ds := []) #[false, false, false, false, false, false, false, false] (by kernel_rfl) rfl rfl ⟨hd0, hd1⟩ (fun hHeld => ?_)
      refine pure_ (i := 0) (N := some 73) (v := ?_) (a' := ?_) #[true, false, false, false, false, false, false, false] rfl rfl (by kernel_rfl) (fun _ _ _ h => h) (Or.inl ⟨by rfl, ?_⟩) ?_ ?_
      rotate_left
      · intro w'
        go_simp
        with_reducible rfl
      rotate_left
      · simp only [Act.put, List.setIfInBounds_toArray, List.set_cons_zero, List.set_cons_succ, i64_w, i32_w]
        rfl
      refine pure_ (i := 2) (N := some 75) (v := ?_) (a' := ?_) #[true, false, true, false, false, false, false, false] rfl rfl (by kernel_rfl) (fun _ _ _ h => h) (Or.inl ⟨by rfl, ?_⟩) ?_ ?_
      rotate_left
      · intro w'
        go_simp
        with_reducible rfl
      rotate_left
      · simp only [Act.put, List.setIfInBounds_toArray, List.set_cons_zero, List.set_cons_succ, i64_w, i32_w]
        rfl
      refine take_ (i := 1) (N := some 74) (v := ?_) (a' := ?_) #[true, true, true, false, false, false, false, false] rfl rfl (by kernel_rfl) (fun _ _ _ h => h) (Or.inl ⟨by rfl, ?_⟩) hHeld ?_ ?_
      rotate_left
      · intro w' s0
        go_split_ands
        go_simp
        with_reducible rfl
      rotate_left
      · simp only [Act.put, List.setIfInBounds_toArray, List.set_cons_zero, List.set_cons_succ, i64_w, i32_w]
        rfl
      refine take_ (i := 3) (N := some 76) (v := ?_) (a' := ?_) #[true, true, true, true, false, false, false, false] rfl rfl (by kernel_rfl) (fun _ _ _ h => h) (Or.inl ⟨by rfl, ?_⟩) hHeld ?_ ?_
      rotate_left
      · intro w' s0
        go_split_ands
        go_simp
        with_reducible rfl
      rotate_left
      · simp only [Act.put, List.setIfInBounds_toArray, List.set_cons_zero, List.set_cons_succ, i64_w, i32_w]
        rfl
      refine pure_ (i := 4) (N := some 77) (v := ?_) (a' := ?_) #[true, true, true, true, true, false, false, false] rfl rfl (by kernel_rfl) (fun _ _ _ h => h) (Or.inl ⟨by rfl, ?_⟩) ?_ ?_
      rotate_left
      · intro w'
        go_simp
        with_reducible rfl
      rotate_left
      · simp only [Act.put, List.setIfInBounds_toArray, List.set_cons_zero, List.set_cons_succ, i64_w, i32_w]
        rfl
      have x6 := cell_blk (j := 6) (v := .string x1.f6) HID.out.box rfl
      have z6 := Lib.frozen_of_heap HID.out.box 6
      have x7 := cell_blk (j := 7) (v := .string x1.f7) HI1.out.box rfl
      have z7 := Lib.frozen_of_heap HI1.out.box 7
      refine one_ (i := 5) (N := none) #[true, true, true, true, true, true, false, false] rfl rfl (by kernel_rfl) (by decide) (fun K hK => ?_)
      refine skip_ (w1 := ?_) (by rfl) rfl ?_ ?_
      rotate_left
      · go_simp
        rfl
      refine hK.out _ _ ⟨cell_far hd0 hne, cell_far hd1 hne⟩ (fun hHeld => ?_)
      clear hK K
      refine pure_ (i := 6) (N := some 78) (v := ?_) (a' := ?_) #[true, true, true, true, true, true, true, false] rfl rfl (by kernel_rfl) (fun _ _ _ h => h) (Or.inl ⟨by rfl, ?_⟩) ?_ ?_
      rotate_left
      · intro w'
        go_simp
        with_reducible rfl
      rotate_left
      · simp only [Act.put, List.setIfInBounds_toArray, List.set_cons_zero, List.set_cons_succ, i64_w, i32_w]
        rfl
      refine one_ (i := 7) (N := none) #[true, true, true, true, true, true, true, true] rfl rfl (by kernel_rfl) (by decide) (fun K hK => ?_)
      refine skip_ (w1 := ?_) (by rfl) rfl ?_ ?_
      rotate_left
      · go_simp
        rfl
      refine hK.out _ _ ⟨cell_far (cell_far hd0 hne) hne, cell_far (cell_far hd1 hne) hne⟩ (fun hHeld => ?_)
      clear hK K
      refine done_ (by kernel_rfl) ?_
      go_wp2_with fail
      go_meet
      exact ⟨rfl, ⟨v8, (HID.out.put HL.out 6 (.string (prO s1).1.f0) (y := ⟨x1.f0, x1.f1, x1.f2, x1.f3, x1.f4, x1.f5, (prO s1).1.f0, x1.f7, x1.f8⟩) rfl rfl).put HL.out 7 (.string (prO s1).1.f1) (y := (rdB 5 (x1, s1)).1) rfl rfl⟩⟩
    · clear hx0
      go_wp2_with fail
      refine (next_c w1.heap.size ok _ _ HI0.out.at_).mono ?_
      rintro e w3 ⟨rfl, ha, hb⟩
      have HI1 := Aside0.mk (HI0.out.go HL.out ha hb)
      have hx1 := Lib.cell_of_heap HI1.out.box
      have hz1 := Lib.frozen_of_heap HI1.out.box
      unfold boxO at hx1
      clear ha hb
      go_wp2_with fail
      go_meet
      exact ⟨rfl, ⟨v8, HI1.out.put HL.out 6 (.string (nxtO s1).1) (y := (rdB 6 (x1, s1)).1) rfl rfl⟩⟩
    · clear hx0
      go_wp2_with fail
      refine (next_c w1.heap.size ok _ _ HI0.out.at_).mono ?_
      rintro e w3 ⟨rfl, ha, hb⟩
      have HI1 := Aside0.mk (HI0.out.go HL.out ha hb)
      have H1 := Aside0.mk (nxt_mem H0.out).1
      clear ha hb
      go_wp2_with fail
      refine (said_O w1.heap.size ok _ _ H1.out _ (fun W hW => HG.out.below (below_of_but HI1.out.bel hW (by omega))) HI1.out.at_).mono ?_
      rintro e w4 ⟨rfl, ha, hb⟩
      have HI2 : Aside0 (InvX w w1.heap.size bx ok _ _ (nsdO s1).2 w4) := ⟨HI1.out.go HL.out ha hb⟩
      have hx1 := Lib.cell_of_heap HI2.out.box
      have hz1 := Lib.frozen_of_heap HI2.out.box
      unfold boxO at hx1
      clear ha hb
      go_wp2_with fail
      go_meet
      exact ⟨rfl, ⟨v8, HI2.out.put HL.out 7 (.string (nsdO s1).1) (y := (rdB 7 (x1, s1)).1) rfl rfl⟩⟩
  obtain ⟨rfl, HAI⟩ := hcut
  obtain ⟨v8, hI⟩ := HAI.out
  clear HAI hx0
  rw [← HRX.out] at hI
  have hok := readX_ok s hs
  have hSd : readS s = if kindR s = 0 ∨ (readX s).2.2 = true ∨ (readX s).2.1 ≠ [] ∨ chk (readX s).1 ≠ 0 ∨ lineB (readX s).1 ≠ s then (zOp, 2) else ((readX s).1, 0) := rfl
  have hkn : kindR s ≠ 0 := by rw [← HK.out]; exact hk0
  clear HRX
  generalize readX s = a2 at *
  obtain ⟨x, l, b⟩ := a2
  simp only at hI hok hSd
  have HI6 := Aside0.mk hI
  have HS := Aside0.mk hSd
  have HOX := Aside0.mk hok
  obtain ⟨A7, c7, hp0⟩ : ∃ A7 c7, wc.heap[w1.heap.size]? = some (.cells #[.slice A7 l.length c7, .bool b] 59 (0, 0)) := by
    obtain ⟨-, A7, c7, hp0, -, -⟩ := hI.at_
    exact ⟨A7, c7, hp0⟩
  have q0 := cell_blk (j := 0) (v := .slice A7 l.length c7) hp0 rfl
  have q1 := cell_blk (j := 1) (v := .bool b) hp0 rfl
  clear hI hok hSd hp0
  by_cases hb : b = true
  · subst hb
    · have hS : readS s = (zOp, 2) := by rw [HS.out, if_pos (.inr (.inl rfl))]
      have HIX := HI6
      have hr := Lib.cell_of_heap HIX.out.res
      have hz := Lib.frozen_of_heap HIX.out.res
      unfold boxO zOp at hr
      go_wp2_with fail
      refine bodyPost_ret (results_ct rfl _ _ w.heap.size 24 _ (0, 0) _ rfl (set_blk (j := 8) (set_blk (j := 7) (set_blk (j := 6) (set_blk (j := 5) (set_blk (j := 4) (set_blk (j := 3) (set_blk (j := 2) (set_blk (j := 1) (set_blk (j := 0) HIX.out.res _) _) _) _) _) _) _) _) _) Tryd.underlying24 rfl (by kernel_rfl)) rfl ⟨⟨none, 0, ?_, ?_, ?_⟩, ?_⟩
      · first | (rw [hS]; rfl) | rfl
      · first | (rw [hS]; exact Nat.le_refl 0) | exact Nat.le_refl 0
      · first | (rw [hS]; exact Kd.C_nil _ _) | exact Kd.C_nil _ _
      · with_reducible exact below9 HIX.out.bel (Nat.le_refl _) _ _ _ _ _ _ _ _ _
  obtain rfl : b = false := by simpa using hb
  clear hb
  by_cases hl : l = []
  rotate_left
  · have hpos : 0 < l.length := List.length_pos_iff.2 hl
    · have hS : readS s = (zOp, 2) := by rw [HS.out, if_pos (.inr (.inr (.inl hl)))]
      have HIX := HI6
      have hr := Lib.cell_of_heap HIX.out.res
      have hz := Lib.frozen_of_heap HIX.out.res
      unfold boxO zOp at hr
      clear hl
      go_wp2_with fail
      refine bodyPost_ret (results_ct rfl _ _ w.heap.size 24 _ (0, 0) _ rfl (set_blk (j := 8) (set_blk (j := 7) (set_blk (j := 6) (set_blk (j := 5) (set_blk (j := 4) (set_blk (j := 3) (set_blk (j := 2) (set_blk (j := 1) (set_blk (j := 0) HIX.out.res _) _) _) _) _) _) _) _) _) Tryd.underlying24 rfl (by kernel_rfl)) rfl ⟨⟨none, 0, ?_, ?_, ?_⟩, ?_⟩
      · first | (rw [hS]; rfl) | rfl
      · first | (rw [hS]; exact Nat.le_refl 0) | exact Nat.le_refl 0
      · first | (rw [hS]; exact Kd.C_nil _ _) | exact Kd.C_nil _ _
      · with_reducible exact below9 HIX.out.bel (Nat.le_refl _) _ _ _ _ _ _ _ _ _
  subst hl
  obtain ⟨A8, c8, rfl, hc8, hC8⟩ := Kd.R_reads HI6.out.row
  have HC8 := Aside0.mk hC8
  have HCK := Aside0.mk (Check_x x A8 c8 wc (HG.out.below HI6.out.bel) hC8 hc8 HOX.out)
  clear hC8
  have hx := Lib.cell_of_heap HI6.out.box
  unfold boxO at hx
  unfold opOf opV at HCK
  by_cases hck : chk x = 0
  rotate_left
  · have b0 : (chk x != 0) = true := by simpa using hck
    · have hS : readS s = (zOp, 2) := by rw [HS.out, if_pos (.inr (.inr (.inr (.inl hck))))]
      clear hck
      go_wp2_with fail
      refine HCK.out.mono ?_
      rintro e w5 ⟨rfl, hbl⟩
      have HIX := Aside0.mk (HI6.out.below HL.out hbl)
      have hr := Lib.cell_of_heap HIX.out.res
      have hz := Lib.frozen_of_heap HIX.out.res
      unfold boxO zOp at hr
      clear hbl hx
      go_wp2_with fail
      refine bodyPost_ret (results_ct rfl _ _ w.heap.size 24 _ (0, 0) _ rfl (set_blk (j := 8) (set_blk (j := 7) (set_blk (j := 6) (set_blk (j := 5) (set_blk (j := 4) (set_blk (j := 3) (set_blk (j := 2) (set_blk (j := 1) (set_blk (j := 0) HIX.out.res _) _) _) _) _) _) _) _) _) Tryd.underlying24 rfl (by kernel_rfl)) rfl ⟨⟨none, 0, ?_, ?_, ?_⟩, ?_⟩
      · first | (rw [hS]; rfl) | rfl
      · first | (rw [hS]; exact Nat.le_refl 0) | exact Nat.le_refl 0
      · first | (rw [hS]; exact Kd.C_nil _ _) | exact Kd.C_nil _ _
      · with_reducible exact below9 HIX.out.bel (Nat.le_refl _) _ _ _ _ _ _ _ _ _
  rw [hck] at HCK
  obtain ⟨h17, hokz⟩ := chk_ok x hck
  have HLN : Aside0 (∀ W, Below w.heap.size w W → Kd.C k51 W A8 x.f8.length x.f8 → Calls Tryd.prog 20 #[opOf x A8 c8] W fun e w' => e = .returned (.string (lineB x)) ∧ Below W.heap.size W w') := ⟨fun W hW hC => line_c x A8 c8 W (HG.out.below hW) (HW.out.below hW) HOX.out h17 hokz hC⟩
  unfold opOf opV at HLN
  obtain ⟨LB, hLB⟩ : ∃ LB, LB = lineB x := ⟨_, rfl⟩
  rw [← hLB] at HLN HS
  clear hLB h17 hokz
  go_wp2_with fail
  refine HCK.out.mono ?_
  rintro e w5 ⟨rfl, hbl⟩
  have HI7 := Aside0.mk (HI6.out.below HL.out hbl)
  have HC9 := Aside0.mk (Kd.C_below HC8.out hbl)
  have hx7 := Lib.cell_of_heap HI7.out.box
  unfold boxO at hx7
  clear hbl hx
  go_wp2_with fail
  refine (HLN.out _ HI7.out.bel HC9.out).mono ?_
  rintro e w6 ⟨rfl, hbl⟩
  have HIX := Aside0.mk (HI7.out.below HL.out hbl)
  have hr := Lib.cell_of_heap HIX.out.res
  have hz := Lib.frozen_of_heap HIX.out.res
  have hx8 := Lib.cell_of_heap HIX.out.box
  unfold boxO at hx8
  unfold boxO zOp at hr
  clear hbl hx7
  by_cases hls : LB = s
  rotate_left
  · have b0 : (!(LB.toList == s.toList)) = true := by
      rw [toList_data, toList_data]
      simp only [Bool.not_eq_true', beq_eq_false_iff_ne]
      exact fun e => hls (ba_inj e)
    · have hS : readS s = (zOp, 2) := by rw [HS.out, if_pos (.inr (.inr (.inr (.inr hls))))]
      clear hls hx8
      go_wp2_with fail
      refine bodyPost_ret (results_ct rfl _ _ w.heap.size 24 _ (0, 0) _ rfl (set_blk (j := 8) (set_blk (j := 7) (set_blk (j := 6) (set_blk (j := 5) (set_blk (j := 4) (set_blk (j := 3) (set_blk (j := 2) (set_blk (j := 1) (set_blk (j := 0) HIX.out.res _) _) _) _) _) _) _) _) _) Tryd.underlying24 rfl (by kernel_rfl)) rfl ⟨⟨none, 0, ?_, ?_, ?_⟩, ?_⟩
      · first | (rw [hS]; rfl) | rfl
      · first | (rw [hS]; exact Nat.le_refl 0) | exact Nat.le_refl 0
      · first | (rw [hS]; exact Kd.C_nil _ _) | exact Kd.C_nil _ _
      · with_reducible exact below9 HIX.out.bel (Nat.le_refl _) _ _ _ _ _ _ _ _ _
  have b0 : (!(LB.toList == s.toList)) = false := by rw [hls]; simp
  have hS : readS s = (x, 0) := by
    rw [HS.out, if_neg]
    simp only [not_or, ne_eq, Decidable.not_not]
    exact ⟨hkn, by simp, trivial, hck, hls⟩
  clear hls
  go_wp2_with fail
  have hL1 := HL.out.hp
  have HRW := Aside0.mk (Kd.R_mono (ok' := fun k => w1.heap.size + 1 ≤ k) (Kd.R_bound HIX.out.row) (fun k hk => hk.2.1))
  refine bodyPost_ret (results_ct rfl _ _ w.heap.size 24 _ (0, 0) _ rfl (set_blk (j := 8) (set_blk (j := 7) (set_blk (j := 6) (set_blk (j := 5) (set_blk (j := 4) (set_blk (j := 3) (set_blk (j := 2) (set_blk (j := 1) (set_blk (j := 0) HIX.out.res _) _) _) _) _) _) _) _) _) Tryd.underlying24 rfl (by kernel_rfl)) rfl ⟨⟨A8, c8, ?_, ?_, ?_⟩, ?_⟩
  · first | (rw [hS]; rfl) | rfl
  · first | (rw [hS]; exact hc8) | exact hc8
  · first
      | (rw [hS]; exact (Kd.R_reads' (row9 HRW.out (fun k hk => by omega) _ _ _ _ _ _ _ _ _)).2.2)
      | exact (Kd.R_reads' (row9 HRW.out (fun k hk => by omega) _ _ _ _ _ _ _ _ _)).2.2
  · with_reducible exact below9 HIX.out.bel (Nat.le_refl _) _ _ _ _ _ _ _ _ _
end Go.Proofs.YtgdemingopcgaaaDoorE
