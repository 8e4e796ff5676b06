/- Contracts of our own: strconv.Atoi, whatever the text: a number and no error, or an error. -/
import Derived.Test.YtpanmmpkdbhofaaDoorE3
namespace Go.Proofs.YtpanmmpkdbhofaaDoorE
open Go Go.RowKit Go.Proofs.YtpanmmpkdbhofaaDoorW.PrintWords Go.Proofs.YtpanmmpkdbhofaaDoorX
set_option linter.unusedVariables false
def atoiS (l : List UInt8) : Int × Option Int := match Lib.atoiAll l with
  | .ok n => (n, none)
  | .range => (Lib.atoiSat l, some 0)
  | _ => (0, some 0)
def strconv_Atoi.f (a0 : ByteArray) : Option (Int × Option Int) := if a0.size ≤ 281474976710656 then some (atoiS a0.data.toList) else none
/-- What is handed back: a number, and no error or one that is not nil. -/
def AtoiTells (r1 : Int) (e : Ending) : Option Int → Prop
  | none => e = .returned (.tuple #[.int .i64 r1, .nilIface])
  | some _ => ∃ N, e = .returned (.tuple #[.int .i64 r1, .iface 107 (.pointer (some ⟨N, 0, none⟩))])
theorem strconv_Atoi.calls (a0 : ByteArray) (r1 : Int) (r2 : Option Int) (w : World) (hgl : GL w) (h : strconv_Atoi.f a0 = some (r1, r2)) :
    Calls Tryd.prog 52 #[.string a0] w fun e w' => AtoiTells r1 e r2 ∧ Below w.heap.size w w' := by
  unfold strconv_Atoi.f at h
  by_cases hs : a0.size ≤ 281474976710656
  rotate_left
  · rw [if_neg hs] at h; cases h
  rw [if_pos hs] at h
  injection h with h
  unfold atoiS at h
  cases ha : Lib.atoiAll a0.data.toList with
  | ok n =>
    rw [ha] at h
    injection h with h1 h2
    subst h1; subst h2
    refine (Tryd.strconv_Atoi_ok a0 (by omega) n ha w).mono ?_
    rintro e w' ⟨he, hw⟩
    refine ⟨he, ?_⟩
    rcases hw with rfl | ⟨t, rfl⟩
    · exact Below.refl _ _
    · exact bytes_below (Below.refl _ _) (Nat.le_refl _) _ _
  | range =>
    rw [ha] at h
    injection h with h1 h2
    subst h1; subst h2
    obtain ⟨_, _, ⟨tp, p, hv⟩⟩ := hgl
    refine (Tryd.strconv_Atoi_range_var a0 hs ha tp p w hv).mono ?_
    rintro e w' ⟨N, he, _, _, hb⟩
    exact ⟨⟨N, he⟩, hb⟩
  | _ =>
    rw [ha] at h
    injection h with h1 h2
    subst h1; subst h2
    obtain ⟨_, ⟨tp, p, hv⟩, _⟩ := hgl
    refine (Tryd.strconv_Atoi_syntax_var a0 hs ha tp p w hv).mono ?_
    rintro e w' ⟨N, he, _, _, hb⟩
    exact ⟨⟨N, he⟩, hb⟩
end Go.Proofs.YtpanmmpkdbhofaaDoorE
