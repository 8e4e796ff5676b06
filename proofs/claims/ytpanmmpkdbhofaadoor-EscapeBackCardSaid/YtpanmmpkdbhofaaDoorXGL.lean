/- What the library's tables hold when the law begins, and that it stays so. -/
import Derived.Test.YtpanmmpkdbhofaaDoorXWords
import Derived.Lib.LaidTab
import Derived.Lib.ItoaMem
import Derived.WalkSmall
import Derived.Sort.Grow
import Derived.Test.YtpanmmpkdbhofaaDoorProg
namespace Go.Proofs.YtpanmmpkdbhofaaDoorX
open Go Go.RowKit Go.Sort Go.Proofs.YtpanmmpkdbhofaaDoorW.PrintWords
theorem var_below {P : Program} {w W : World} {n : String} {cs : Array Value} (h : Below w.heap.size w W) (hv : w.var? P n = some cs) : W.var? P n = some cs := by
  unfold World.var? at hv ⊢
  cases hg : P.globalNamed n with
  | none => rw [hg] at hv; cases hv
  | some g =>
    rw [hg] at hv
    simp only [Option.bind_some] at hv ⊢
    have hlt : g < w.heap.size := by
      rcases Nat.lt_or_ge g w.heap.size with h1 | h1
      · exact h1
      · rw [Array.getElem?_eq_none h1] at hv; cases hv
    rw [h.block g hlt]
    exact hv
def GL (w : World) : Prop := Lib.TabIs Tryd.prog w "internal/strconv.uint64pow10" .u64 Lib.pow10Tab ∧ (∃ tp p, w.var? Tryd.prog "strconv.ErrSyntax" = some #[.iface tp p]) ∧ (∃ tp p, w.var? Tryd.prog "strconv.ErrRange" = some #[.iface tp p])
theorem GL.below {w W : World} (h : GL w) (hb : Below w.heap.size w W) : GL W := by
  obtain ⟨h1, ⟨t2, p2, h2⟩, t3, p3, h3⟩ := h
  exact ⟨var_below hb h1, ⟨t2, p2, var_below hb h2⟩, t3, p3, var_below hb h3⟩
theorem GL.drewN {w : World} (h : GL w) (n : Nat) : GL (w.drewN n) := h.below (pw_below_drewN (Below.refl _ _) n)
theorem GL.drew {w : World} (h : GL w) : GL w.drew := h.below (below_drew1 (Below.refl _ _))
theorem below_grow (w : World) (k : Nat) (os : Array Obj) : Below w.heap.size w (grow (w.drewN k) os) :=
  ⟨rfl, rfl, rfl, by simp [grow, World.drewN], fun b hb => by simp [grow, World.drewN, Array.getElem?_append_left hb]⟩
end Go.Proofs.YtpanmmpkdbhofaaDoorX
