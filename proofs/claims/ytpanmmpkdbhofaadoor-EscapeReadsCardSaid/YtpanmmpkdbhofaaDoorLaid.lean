/- What the rows' listed variables give a walk: the table of powers of ten, and the two errors of strconv. -/
import Derived.Test.YtpanmmpkdbhofaaDoorRows
import Derived.Test.YtpanmmpkdbhofaaDoorXGL
import Derived.LaidMore
import Derived.MakeChecks
import Derived.Stop.LaidErr
import Derived.Stop.Joined
import Derived.Lib.LaidTab
import Derived.KernelRfl
import Derived.RowKitTokens
namespace Go.Proofs.YtpanmmpkdbhofaaDoorX
open Go Go.RowKit
theorem gTab : Tryd.prog.globalNamed "internal/strconv.uint64pow10" = some 3 := by kernel_rfl
theorem tTab : (Tryd.prog.globals[3]?).map (·.type) = some 135 := by kernel_rfl
theorem cTab : Tryd.prog.cellsOf 135 = 20 := by kernel_rfl
theorem cU64 : Tryd.prog.cellsOf 119 = 1 := by kernel_rfl
theorem tab_of {W : World} {r : List (String × DataW Unit)} (h : laidMet Tryd.prog (("internal/strconv.uint64pow10", Go.Proofs.YtpanmmpkdbhofaaDoor.Rows.laid_internal_strconv_uint64pow10) :: r) W) : Lib.TabIs Tryd.prog W "internal/strconv.uint64pow10" .u64 Lib.pow10Tab :=
  Lib.tabIs_of_head (zs := Lib.pow10Tab) (k := .u64) gTab tTab Tryd.underlying135 Tryd.underlying119 cU64 cTab h
theorem gE0 : Tryd.prog.globalNamed "strconv.ErrRange" = some 1 := by kernel_rfl
theorem gT0 : (Tryd.prog.globals[1]?).map (·.type) = some 70 := by kernel_rfl
theorem gE1 : Tryd.prog.globalNamed "strconv.ErrSyntax" = some 0 := by kernel_rfl
theorem gT1 : (Tryd.prog.globals[0]?).map (·.type) = some 70 := by kernel_rfl
theorem cES : Tryd.prog.cellsOf 133 = 1 := by kernel_rfl
theorem cStr : Tryd.prog.cellsOf 9 = 1 := by kernel_rfl
theorem star : "*" ++ "errors.errorString" = "*errors.errorString" := by decide
theorem rowES (u : TypeId) (h : Tryd.prog.typeName? 3 u = some "*errors.errorString") : u = 131 := by
  exact typeName_ptr_named (nm := "errors.errorString") (by rw [star]; kernel_rfl) (by kernel_rfl) (by decide) u (by rw [star]; exact h)
theorem range_of {W : World} {r : List (String × DataW Unit)} (h : laidMet Tryd.prog (("strconv.ErrRange", Go.Proofs.YtpanmmpkdbhofaaDoor.Rows.laid_strconv_ErrRange) :: r) W) : ∃ tp p, W.var? Tryd.prog "strconv.ErrRange" = some #[.iface tp p] := by
  obtain ⟨a, s, hv, _⟩ := laid_sentinel h gE0 gT0 Tryd.underlying70 rowES Tryd.underlying131 Tryd.underlying133 rfl rfl Tryd.underlying9 cES cStr
  exact ⟨_, _, hv⟩
theorem syntax_of {W : World} {r : List (String × DataW Unit)} (h : laidMet Tryd.prog (("strconv.ErrSyntax", Go.Proofs.YtpanmmpkdbhofaaDoor.Rows.laid_strconv_ErrSyntax) :: r) W) : ∃ tp p, W.var? Tryd.prog "strconv.ErrSyntax" = some #[.iface tp p] := by
  obtain ⟨a, s, hv, _⟩ := laid_sentinel h gE1 gT1 Tryd.underlying70 rowES Tryd.underlying131 Tryd.underlying133 rfl rfl Tryd.underlying9 cES cStr
  exact ⟨_, _, hv⟩
theorem gl_of {W : World} {r : List (String × DataW Unit)} (h : laidMet Tryd.prog (("math/bits.deBruijn32tab", Go.Proofs.YtpanmmpkdbhofaaDoor.Rows.laid_math_bits_deBruijn32tab) :: ("math/bits.deBruijn64tab", Go.Proofs.YtpanmmpkdbhofaaDoor.Rows.laid_math_bits_deBruijn64tab) :: ("internal/strconv.uint64pow10", Go.Proofs.YtpanmmpkdbhofaaDoor.Rows.laid_internal_strconv_uint64pow10) :: ("strconv.ErrRange", Go.Proofs.YtpanmmpkdbhofaaDoor.Rows.laid_strconv_ErrRange) :: ("strconv.ErrSyntax", Go.Proofs.YtpanmmpkdbhofaaDoor.Rows.laid_strconv_ErrSyntax) :: r) W) : GL W :=
  ⟨tab_of h.tail.tail, syntax_of h.tail.tail.tail.tail, range_of h.tail.tail.tail⟩
end Go.Proofs.YtpanmmpkdbhofaaDoorX
