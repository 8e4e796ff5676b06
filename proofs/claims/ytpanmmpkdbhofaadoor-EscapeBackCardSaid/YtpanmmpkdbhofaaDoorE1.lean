/- Contracts of our own over the shelf's: strconv.Itoa, strings.IndexByte, chars.Whole. -/
import Derived.Test.YtpanmmpkdbhofaaDoorXGL
import Derived.Test.YtpanmmpkdbhofaaDoorShelf
import Derived.Test.YtpanmmpkdbhofaaDoorWMore
import Derived.WalkKit
import Derived.OwnWalk
import Derived.Tactics
import Derived.KernelRfl
import Derived.Deep.QuietTactic
import Derived.BigQuiet
import Derived.WideLaws
import Derived.Outline
import Derived.Deep.CutBlock
import Derived.Deep.DeepFit
import Derived.WalkLawsBesides
namespace Go.Proofs.YtpanmmpkdbhofaaDoorE
open Go Go.RowKit Go.Proofs.YtpanmmpkdbhofaaDoorW.PrintWords Go.Proofs.YtpanmmpkdbhofaaDoorX
set_option linter.unusedVariables false
def strconv_Itoa.f (a0 : Int) : Option ByteArray := if -9223372036854775808 ≤ a0 ∧ a0 ≤ 9223372036854775807 then some ⟨(Lib.itoa a0).toArray⟩ else none
theorem strconv_Itoa.calls (a0 : Int) (r : ByteArray) (w : World) (hgl : GL w) (h : strconv_Itoa.f a0 = some r) :
    Calls Tryd.prog 53 #[.int .i64 a0] w fun e w' => e = .returned (.string r) ∧ Below w.heap.size w w' := by
  unfold strconv_Itoa.f at h
  by_cases hr : -9223372036854775808 ≤ a0 ∧ a0 ≤ 9223372036854775807
  · rw [if_pos hr] at h
    cases h
    refine (Tryd.strconv_Itoa a0 hr.1 hr.2 w (by first | exact hgl | exact hgl.1)).mono ?_
    rintro e w' ⟨he, k, os, rfl⟩
    exact ⟨he, below_grow w k os⟩
  · rw [if_neg hr] at h; cases h
def strings_IndexByte.f (a0 : ByteArray) (a1 : Int) : Option Int := some (Lib.indexByte a0.data.toList a1.toNat.toUInt8)
theorem strings_IndexByte.calls (a0 : ByteArray) (a1 : Int) (r : Int) (w : World) (hgl : GL w) (h : strings_IndexByte.f a0 a1 = some r) :
    Calls Tryd.prog 71 #[.string a0, .int .u8 a1] w fun e w' => e = .returned (.int .i64 r) ∧ Drawn0 w w' := by
  cases h
  refine (Tryd.strings_IndexByte a0 a1 w).mono ?_
  rintro e w' ⟨he, rfl⟩
  exact ⟨he, Drawn0.refl _⟩
theorem toList_data (s : ByteArray) : s.toList = s.data.toList := ByteArray.toList_eq s
/-- What chars.Whole answers. -/
def wholeS (l : List UInt8) : Int × Bool := match Lib.atoiAll l with
  | .ok n => if Lib.itoa n = l then (n, true) else (0, false)
  | _ => (0, false)
def chars_Whole.f (a0 : ByteArray) : Option (Int × Bool) := if a0.size ≤ 281474976710656 then some (wholeS a0.data.toList) else none
theorem atoi_range {l : List UInt8} {n : Int} (h : Lib.atoiAll l = .ok n) : -9223372036854775808 ≤ n ∧ n ≤ 9223372036854775807 := by
  unfold Lib.atoiAll at h
  split at h
  · cases h
  · simp only at h
    split at h
    · cases h
    · cases h
    · split at h
      · cases h
      · split at h
        · cases h
        · rename_i h1 h2
          injection h with h
          rw [← h]
          split
          · rename_i hn
            have : ¬ 9223372036854775808 < _ := fun hc => h2 ⟨hn, hc⟩
            omega
          · rename_i hn
            have : ¬ 9223372036854775808 ≤ _ := fun hc => h1 ⟨hn, hc⟩
            omega
theorem chars_Whole.calls (a0 : ByteArray) (r1 : Int) (r2 : Bool) (w : World) (hgl : GL w) (h : chars_Whole.f a0 = some (r1, r2)) :
    Calls Tryd.prog 17 #[.string a0] w fun e w' => e = .returned (.tuple #[.int .i64 r1, .bool r2]) ∧ Below w.heap.size w w' := by
  have HGL := Aside0.mk hgl
  unfold chars_Whole.f at h
  by_cases hs : a0.size ≤ 281474976710656
  rotate_left
  · rw [if_neg hs] at h; cases h
  rw [if_pos hs] at h
  have hsA := Aside0.mk hs
  clear hs hgl
  injection h with h
  cases ha : Lib.atoiAll a0.data.toList with
  | ok n =>
    have hn := atoi_range ha
    have HA := Aside0.mk ha
    unfold wholeS at h
    rw [ha] at h
    clear ha
    simp only at h
    have atoi : ∀ W, Calls Tryd.prog 52 #[.string a0] W fun e w' => e = .returned (.tuple #[.int .i64 n, .nilIface]) ∧ Below W.heap.size W w' := fun W => by
      refine (Tryd.strconv_Atoi_ok a0 (by have := hsA.out; omega) n HA.out W).mono ?_
      rintro e w' ⟨he, rfl | ⟨t, rfl⟩⟩
      · exact ⟨he, Below.refl _ _⟩
      · exact ⟨he, bytes_below (Below.refl _ _) (Nat.le_refl _) _ _⟩
    have itoa : ∀ W, GL W → Calls Tryd.prog 53 #[.int .i64 n] W fun e w' => e = .returned (.string ⟨(Lib.itoa n).toArray⟩) ∧ Below W.heap.size W w' := fun W hW =>
      strconv_Itoa.calls n _ W hW (by unfold strconv_Itoa.f; rw [if_pos hn])
    by_cases he : Lib.itoa n = a0.data.toList
    · rw [if_pos he] at h
      injection h with h1 h2
      subst h1; subst h2
      have hb0 : (!(Lib.itoa n == a0.toList)) = false := by rw [toList_data, he]; simp
      clear he
      go_enter Tryd.func17, Tryd.ntmps17
      go_wp2_with fail
      refine (atoi _).mono ?_
      rintro e w1 ⟨rfl, hb⟩
      have HB := Aside0.mk hb; clear hb
      go_wp2_with fail
      refine (itoa _ (HGL.out.below HB.out)).mono ?_
      rintro e w2 ⟨rfl, hb⟩
      have HB2 := Aside0.mk (below_step HB.out hb); clear hb
      go_wp2_with fail
      go_ret2
      exact ⟨rfl, HB2.out⟩
    · rw [if_neg he] at h
      injection h with h1 h2
      subst h1; subst h2
      have hb0 : (!(Lib.itoa n == a0.toList)) = true := by rw [toList_data]; simpa using he
      clear he
      go_enter Tryd.func17, Tryd.ntmps17
      go_wp2_with fail
      refine (atoi _).mono ?_
      rintro e w1 ⟨rfl, hb⟩
      have HB := Aside0.mk hb; clear hb
      go_wp2_with fail
      refine (itoa _ (HGL.out.below HB.out)).mono ?_
      rintro e w2 ⟨rfl, hb⟩
      have HB2 := Aside0.mk (below_step HB.out hb); clear hb
      go_wp2_with fail
      go_ret2
      exact ⟨rfl, HB2.out⟩
  | range =>
    have HA := Aside0.mk ha
    unfold wholeS at h
    rw [ha] at h
    clear ha
    injection h with h1 h2
    subst h1; subst h2
    have atoi : ∀ W, GL W → Calls Tryd.prog 52 #[.string a0] W fun e w' => ∃ N, ∃ v : Int, e = .returned (.tuple #[.int .i64 v, .iface 107 (.pointer (some ⟨N, 0, none⟩))]) ∧ Below W.heap.size W w' := fun W hW => by
      obtain ⟨_, _, ⟨tp, p, hv⟩⟩ := hW
      refine (Tryd.strconv_Atoi_range_var a0 hsA.out HA.out tp p W hv).mono ?_
      rintro e w' ⟨N, he, _, _, hb⟩
      exact ⟨N, _, he, hb⟩
    go_enter Tryd.func17, Tryd.ntmps17
    go_wp2_with fail
    refine (atoi _ HGL.out).mono ?_
    rintro e w1 ⟨N, v, rfl, hb⟩
    have HB := Aside0.mk hb; clear hb
    go_wp2_with fail
    go_ret2
    exact ⟨rfl, HB.out⟩
  | _ =>
    have HA := Aside0.mk ha
    unfold wholeS at h
    rw [ha] at h
    clear ha
    injection h with h1 h2
    subst h1; subst h2
    have atoi : ∀ W, GL W → Calls Tryd.prog 52 #[.string a0] W fun e w' => ∃ N, e = .returned (.tuple #[.int .i64 0, .iface 107 (.pointer (some ⟨N, 0, none⟩))]) ∧ Below W.heap.size W w' := fun W hW => by
      obtain ⟨_, ⟨tp, p, hv⟩, _⟩ := hW
      refine (Tryd.strconv_Atoi_syntax_var a0 hsA.out HA.out tp p W hv).mono ?_
      rintro e w' ⟨N, he, _, _, hb⟩
      exact ⟨N, he, hb⟩
    go_enter Tryd.func17, Tryd.ntmps17
    go_wp2_with fail
    refine (atoi _ HGL.out).mono ?_
    rintro e w1 ⟨N, rfl, hb⟩
    have HB := Aside0.mk hb; clear hb
    go_wp2_with fail
    go_ret2
    exact ⟨rfl, HB.out⟩
/-- cmp.Compare at strings: as the bytes are. -/
def cmp_Compare_string.f (a0 a1 : ByteArray) : Option Int := some (if Op.bytesLess a0.toList a1.toList = true then -1 else if a0.toList = a1.toList then 0 else 1)
theorem isNaN_string (a0 : ByteArray) (w : World) : Calls Tryd.prog 72 #[.string a0] w fun e w' => e = .returned (.bool false) ∧ w' = w := by
  have h0 : (!(a0.toList == a0.toList)) = false := by simp
  go_enter Tryd.func72, Tryd.ntmps72
  go_wp2
  go_ret
  exact ⟨rfl, rfl⟩
theorem cmp_Compare_string.calls (a0 a1 : ByteArray) (r : Int) (w : World) (hgl : GL w) (h : cmp_Compare_string.f a0 a1 = some r) :
    Calls Tryd.prog 56 #[.string a0, .string a1] w fun e w' => e = .returned (.int .i64 r) ∧ Drawn0 w w' := by
  unfold cmp_Compare_string.f at h
  injection h with h
  clear hgl
  by_cases h1 : Op.bytesLess a0.toList a1.toList = true
  · rw [if_pos h1] at h
    subst h
    go_enter Tryd.func56, Tryd.ntmps56
    go_wp2_with fail
    refine (isNaN_string _ _).mono ?_
    rintro e w1 ⟨rfl, rfl⟩
    go_wp2_with fail
    refine (isNaN_string _ _).mono ?_
    rintro e w1 ⟨rfl, rfl⟩
    go_wp2
    go_ret
    exact ⟨rfl, Drawn0.refl _⟩
  · rw [if_neg h1] at h
    have h1 : Op.bytesLess a0.toList a1.toList = false := by simpa using h1
    by_cases h2 : a0.toList = a1.toList
    · rw [if_pos h2] at h
      subst h
      have h3 : (a0.toList == a1.toList) = true := by simpa using h2
      clear h2
      go_enter Tryd.func56, Tryd.ntmps56
      go_wp2_with fail
      refine (isNaN_string _ _).mono ?_
      rintro e w1 ⟨rfl, rfl⟩
      go_wp2_with fail
      refine (isNaN_string _ _).mono ?_
      rintro e w1 ⟨rfl, rfl⟩
      go_wp2
      go_ret
      exact ⟨rfl, Drawn0.refl _⟩
    · rw [if_neg h2] at h
      subst h
      have h3 : (a0.toList == a1.toList) = false := by simpa using h2
      clear h2
      go_enter Tryd.func56, Tryd.ntmps56
      go_wp2_with fail
      refine (isNaN_string _ _).mono ?_
      rintro e w1 ⟨rfl, rfl⟩
      go_wp2_with fail
      refine (isNaN_string _ _).mono ?_
      rintro e w1 ⟨rfl, rfl⟩
      go_wp2
      go_ret
      exact ⟨rfl, Drawn0.refl _⟩
end Go.Proofs.YtpanmmpkdbhofaaDoorE
