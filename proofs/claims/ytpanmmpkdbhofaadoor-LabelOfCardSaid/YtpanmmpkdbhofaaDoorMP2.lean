/- Merged by this claim's own program (merge.py) out of the texts XWords, XGL, Laid, Shelf, E1, E2, EB, E3, E4, X03rx0, X03rx1, X03rx2, L03, E5, E6, E7, X12rx0, E8, E13; the W texts among them began as the kit's print. -/
import Derived.Test.YtpanmmpkdbhofaaDoorMP1
import Derived.Lib.LaidTab
import Derived.Lib.ItoaMem
import Derived.WalkSmall
import Derived.Sort.Grow
import Derived.Test.YtpanmmpkdbhofaaDoorProg
import Derived.Test.YtpanmmpkdbhofaaDoorRows
import Derived.LaidMore
import Derived.MakeChecks
import Derived.Stop.LaidErr
import Derived.Stop.Joined
import Derived.KernelRfl
import Derived.RowKitTokens
import Derived.Shelf.Strings.Builder1
import Derived.Shelf.Small.Utf8
import Derived.Shelf.Small.Strs
import Derived.Shelf.Strings.BuilderF
import Derived.Shelf.Strings.BuilderK
import Derived.Shelf.Strconv.Atoi
import Derived.Shelf.Strconv.Itoa0
import Derived.Shelf.Strconv.Itoa1
import Derived.Shelf.LaysM
import Derived.Shelf.Strconv.Itoa2
import Derived.Shelf.Strconv.Itoa3
import Derived.Shelf.Strconv.AtoiErrFast
import Derived.Shelf.Strconv.ParseIntEmpty
import Derived.Shelf.Strconv.AtoiFail
import Derived.Shelf.Strconv.Clone
import Derived.Shelf.Strconv.SyntaxError
import Derived.Shelf.LaysC
import Derived.Shelf.Strconv.ToError
import Derived.Shelf.Strconv.AtoiErr
import Derived.Shelf.Strconv.ErrVar
import Derived.Shelf.Strconv.Lower
import Derived.Shelf.Strconv.ParseUint10
import Derived.Shelf.Strconv.ParseUint10Empty
import Derived.Shelf.Strconv.ParseUint10Any
import Derived.Shelf.Strconv.ParseInt10
import Derived.Shelf.Strconv.AtoiLong
import Derived.Shelf.Strconv.AtoiInnerAll
import Derived.Shelf.Strconv.RangeError
import Derived.Shelf.Strconv.ToErrorRange
import Derived.Shelf.Strconv.AtoiAll
import Derived.Shelf.Strconv.ErrVarAll
import Derived.Shelf.Strconv.ParseUintEmpty
import Derived.Shelf.Strconv.ParseUint10b64
import Derived.Shelf.Strconv.ParseUint10b32
import Derived.Shelf.Strconv.ParseUint10b16
import Derived.Shelf.Strconv.ParseUint10b8
import Derived.Shelf.Strconv.ParseUint10At
import Derived.Shelf.Strconv.ParseInt10At64
import Derived.Shelf.Strconv.ParseInt10At32
import Derived.Shelf.Strconv.ParseInt10At16
import Derived.Shelf.Strconv.ParseInt10At8
import Derived.Shelf.Strconv.ParseInt10All
import Derived.Shelf.Strings.Search1
import Derived.Shelf.Strings.Prefix
import Derived.Shelf.Strings.Runes
import Derived.Shelf.Strings.IndexAny
import Derived.Shelf.Strings.AsciiSet
import Derived.Shelf.Strings.IndexAnyAll
import Derived.Shelf.Strings.BuilderCap
import Derived.WalkKit
import Derived.OwnWalk
import Derived.Tactics
import Derived.Deep.QuietTactic
import Derived.BigQuiet
import Derived.WideLaws
import Derived.Outline
import Derived.Deep.CutBlock
import Derived.Deep.DeepFit
import Derived.WalkLawsBesides
import Derived.Laws.Externs
import Derived.LoopTactic
import Derived.Below
import Derived.Deep.Draws
import Derived.Deep.AppendLies
import Derived.Maps.AppendAt
import Derived.Laws.BytesArg
import Derived.Laws.MakeOwn
import Derived.Laws.OwnMore
import Derived.Deep.OwnRows
import Derived.Lib.ConvBytes
import Derived.Laws.Slices
import Derived.RowKit3
import Derived.Deep.LoopGhost
import Derived.Deep.DeepCutAuto
import Derived.Deep.RegionHeld3
import Derived.Laws.Rows
import Derived.Lib.AppendStr
import Derived.ArgAppend
import Derived.Laws.IdiomCopy
import Derived.OrdersHeld
import Derived.Laws.BitsLemmas
import Derived.RowKit
import Derived.Laws.RangeAny
import Derived.Laws.RangeString
import Derived.WalkMore
import Derived.Lib.IndexAny
import Derived.Lib.OthersKept
import Derived.Deep.WholeRow
import Derived.Maps.Own
import Derived.Maps.OwnOps
import Derived.Maps.Views

namespace Go.Proofs.YtpanmmpkdbhofaaDoorX
open Go Go.RowKit Go.Proofs.YtpanmmpkdbhofaaDoorW.PrintWords
set_option linter.unusedVariables false
section
variable {P : Program} {ops : Array Oper} {rest : List Oper} {o : Oper} {a : Act} {Q : Exit → Act → World → Prop} {α : Type}
/-- make([]T, 0, n): an empty row with room. -/
theorem R_make0 (d : Kd α) {w0 W : World} (base e : Nat) (hgd : o.guard = none) {N : Tmp} (hd : o.dst = some N) (t : TypeId) (x y : Operand) (ho : o.op = .makeSlice t x y) (n : Int) (hx : a.eval x = .int .i64 0) (hy : a.eval y = .int .i64 n)
    (ht : P.underlying t = some (.slice e)) (z : Value) (bytes : Nat) (hinfo : (P.info? e).map (fun i => (i.zero, i.size, i.bytes)) = some (some z, d.sz, bytes)) (hz : z.cells.size = d.sz) (hs0 : 0 < d.sz) (hb0 : 0 < bytes)
    {ok okp : Nat → Prop} (hfresh : ok W.heap.size) (h0 : 0 ≤ n) (hl : n.toNat * bytes ≤ 281474976710656) (HB : Below base w0 W) (hbase : base ≤ W.heap.size)
    (h : ∀ v1 w1, d.R e w1 base ok v1 [] → Below base w0 w1 → W.grownBy w1 none → (∃ b, v1.ownBlock = some b ∧ W.heap.size ≤ b) → wpList P ops Q rest (a.put o.dst v1) w1) : wpList P ops Q (o :: rest) a W := by
  obtain ⟨m, rfl⟩ := Int.eq_ofNat_of_zero_le h0
  simp only [Int.toNat_natCast] at hl h
  obtain ⟨i0, hi, hzz⟩ := Option.map_eq_some_iff.1 hinfo
  simp only [Prod.mk.injEq] at hzz
  obtain ⟨hz0, hz1, hz2⟩ := hzz
  have hm : m ≤ 281474976710656 := Nat.le_trans (Nat.le_mul_of_pos_right _ hb0) hl
  have hr := run_make (P := P) W t e i0 z ht hi hz0 .i64 .i64 0 (m : Int) (by omega) (by omega)
    (by
      have h3 : ((i0.bytes * m : Nat) : Int) ≤ 281474976710656 := by rw [hz2, Nat.mul_comm]; omega
      rwa [Int.natCast_mul] at h3) (by omega)
  simp only [Int.toNat_natCast] at hr
  rw [hz1] at hr
  refine Kd.event_run hgd (v := .slice (some ⟨W.heap.size, 0, none⟩) 0 m) (w1 := W.alloc (.cells (madeCells z.cells (m * d.sz)) e)) ?_ (h _ _ ⟨fun k hk => ?_, [], ?_, ?_⟩ (HB.alloc hbase _) (World.grownBy_alloc W _ none) ⟨W.heap.size, by simp [Value.ownBlock], Nat.le_refl _⟩)
  · simp [execOp, ho, hx, hy, hr]
  · have : W.heap.size = k := by simpa [Value.ownBlock] using hk
    subst this
    exact hfresh
  · exact World.ownsRow_made W _ m hbase (by unfold maxLen; omega) (size_madeCells _ _)
  · exact Reps.none _ _
end
end Go.Proofs.YtpanmmpkdbhofaaDoorX

namespace Go.Proofs.YtpanmmpkdbhofaaDoorX
open Go Go.RowKit Go.Sort Go.Proofs.YtpanmmpkdbhofaaDoorW.PrintWords
theorem var_below {P : Program} {w W : World} {n : String} {cs : Array Value} (h : Below w.heap.size w W) (hv : w.var? P n = some cs) : W.var? P n = some cs := by
  unfold World.var? at hv ⊢
  cases hg : P.globalNamed n with
  | none => rw [hg] at hv; cases hv
  | some g =>
    rw [hg] at hv
    simp only [Option.bind_some] at hv ⊢
    have hlt : g < w.heap.size := by
      rcases Nat.lt_or_ge g w.heap.size with h1 | h1
      · exact h1
      · rw [Array.getElem?_eq_none h1] at hv; cases hv
    rw [h.block g hlt]
    exact hv
def GL (w : World) : Prop := Lib.TabIs Tryd.prog w "internal/strconv.uint64pow10" .u64 Lib.pow10Tab ∧ (∃ tp p, w.var? Tryd.prog "strconv.ErrSyntax" = some #[.iface tp p]) ∧ (∃ tp p, w.var? Tryd.prog "strconv.ErrRange" = some #[.iface tp p])
theorem GL.below {w W : World} (h : GL w) (hb : Below w.heap.size w W) : GL W := by
  obtain ⟨h1, ⟨t2, p2, h2⟩, t3, p3, h3⟩ := h
  exact ⟨var_below hb h1, ⟨t2, p2, var_below hb h2⟩, t3, p3, var_below hb h3⟩
theorem GL.drewN {w : World} (h : GL w) (n : Nat) : GL (w.drewN n) := h.below (pw_below_drewN (Below.refl _ _) n)
theorem GL.drew {w : World} (h : GL w) : GL w.drew := h.below (below_drew1 (Below.refl _ _))
theorem below_grow (w : World) (k : Nat) (os : Array Obj) : Below w.heap.size w (grow (w.drewN k) os) :=
  ⟨rfl, rfl, rfl, by simp [grow, World.drewN], fun b hb => by simp [grow, World.drewN, Array.getElem?_append_left hb]⟩
end Go.Proofs.YtpanmmpkdbhofaaDoorX

namespace Go.Proofs.YtpanmmpkdbhofaaDoorX
open Go Go.RowKit
theorem gTab : Tryd.prog.globalNamed "internal/strconv.uint64pow10" = some 3 := by kernel_rfl
theorem tTab : (Tryd.prog.globals[3]?).map (·.type) = some 135 := by kernel_rfl
theorem cTab : Tryd.prog.cellsOf 135 = 20 := by kernel_rfl
theorem cU64 : Tryd.prog.cellsOf 119 = 1 := by kernel_rfl
theorem tab_of {W : World} {r : List (String × DataW Unit)} (h : laidMet Tryd.prog (("internal/strconv.uint64pow10", Go.Proofs.YtpanmmpkdbhofaaDoor.Rows.laid_internal_strconv_uint64pow10) :: r) W) : Lib.TabIs Tryd.prog W "internal/strconv.uint64pow10" .u64 Lib.pow10Tab :=
  Lib.tabIs_of_head (zs := Lib.pow10Tab) (k := .u64) gTab tTab Tryd.underlying135 Tryd.underlying119 cU64 cTab h
theorem gE0 : Tryd.prog.globalNamed "strconv.ErrRange" = some 1 := by kernel_rfl
theorem gT0 : (Tryd.prog.globals[1]?).map (·.type) = some 70 := by kernel_rfl
theorem gE1 : Tryd.prog.globalNamed "strconv.ErrSyntax" = some 0 := by kernel_rfl
theorem gT1 : (Tryd.prog.globals[0]?).map (·.type) = some 70 := by kernel_rfl
theorem cES : Tryd.prog.cellsOf 133 = 1 := by kernel_rfl
theorem cStr : Tryd.prog.cellsOf 9 = 1 := by kernel_rfl
theorem star : "*" ++ "errors.errorString" = "*errors.errorString" := by decide
theorem rowES (u : TypeId) (h : Tryd.prog.typeName? 3 u = some "*errors.errorString") : u = 131 := by
  exact typeName_ptr_named (nm := "errors.errorString") (by rw [star]; kernel_rfl) (by kernel_rfl) (by decide) u (by rw [star]; exact h)
theorem range_of {W : World} {r : List (String × DataW Unit)} (h : laidMet Tryd.prog (("strconv.ErrRange", Go.Proofs.YtpanmmpkdbhofaaDoor.Rows.laid_strconv_ErrRange) :: r) W) : ∃ tp p, W.var? Tryd.prog "strconv.ErrRange" = some #[.iface tp p] := by
  obtain ⟨a, s, hv, _⟩ := laid_sentinel h gE0 gT0 Tryd.underlying70 rowES Tryd.underlying131 Tryd.underlying133 rfl rfl Tryd.underlying9 cES cStr
  exact ⟨_, _, hv⟩
theorem syntax_of {W : World} {r : List (String × DataW Unit)} (h : laidMet Tryd.prog (("strconv.ErrSyntax", Go.Proofs.YtpanmmpkdbhofaaDoor.Rows.laid_strconv_ErrSyntax) :: r) W) : ∃ tp p, W.var? Tryd.prog "strconv.ErrSyntax" = some #[.iface tp p] := by
  obtain ⟨a, s, hv, _⟩ := laid_sentinel h gE1 gT1 Tryd.underlying70 rowES Tryd.underlying131 Tryd.underlying133 rfl rfl Tryd.underlying9 cES cStr
  exact ⟨_, _, hv⟩
theorem gl_of {W : World} {r : List (String × DataW Unit)} (h : laidMet Tryd.prog (("math/bits.deBruijn32tab", Go.Proofs.YtpanmmpkdbhofaaDoor.Rows.laid_math_bits_deBruijn32tab) :: ("math/bits.deBruijn64tab", Go.Proofs.YtpanmmpkdbhofaaDoor.Rows.laid_math_bits_deBruijn64tab) :: ("internal/strconv.uint64pow10", Go.Proofs.YtpanmmpkdbhofaaDoor.Rows.laid_internal_strconv_uint64pow10) :: ("strconv.ErrRange", Go.Proofs.YtpanmmpkdbhofaaDoor.Rows.laid_strconv_ErrRange) :: ("strconv.ErrSyntax", Go.Proofs.YtpanmmpkdbhofaaDoor.Rows.laid_strconv_ErrSyntax) :: r) W) : GL W :=
  ⟨tab_of h.tail.tail, syntax_of h.tail.tail.tail.tail, range_of h.tail.tail.tail⟩
end Go.Proofs.YtpanmmpkdbhofaaDoorX

namespace Go.Proofs
open Go.Shelf
def Tryd.lays169_ren : Go.Shelf.Ren := ⟨fun | 169 => 60 | n => n, fun | 70 => 75 | 9 => 9 | 0 => 0 | 72 => 77 | 37 => 73 | 127 => 90 | 3 => 3 | 5 => 5 | n => n, fun | n => n⟩
theorem Tryd.lays169 : Go.Proofs.Lays.n169 Tryd.prog Tryd.lays169_ren := {
  mixed := by kernel_rfl
  f169 := Tryd.func60.trans (congrArg some (by kernel_rfl))
  t0 := Tryd.underlying0
  a0 := Tryd.isAgg0
  z0 := Tryd.sizeOf0
  v0 := Tryd.zeroValue0
  t3 := Tryd.underlying3
  a3 := Tryd.isAgg3
  z3 := Tryd.sizeOf3
  v3 := Tryd.zeroValue3
  t9 := Tryd.underlying9
  a9 := Tryd.isAgg9
  z9 := Tryd.sizeOf9
  v9 := Tryd.zeroValue9
  t37 := Tryd.underlying73
  a37 := Tryd.isAgg73
  z37 := Tryd.sizeOf73
  v37 := Tryd.zeroValue73
  t70 := Tryd.underlying75
  a70 := Tryd.isAgg75
  z70 := Tryd.sizeOf75
  v70 := Tryd.zeroValue75
  t72 := Tryd.underlying77
  a72 := Tryd.isAgg77
  z72 := Tryd.sizeOf77
  v72 := Tryd.zeroValue77
  t127 := Tryd.underlying90
  a127 := Tryd.isAgg90
  z127 := Tryd.sizeOf90
  v127 := Tryd.zeroValue90 }
theorem Tryd.Builder_Extra_169 : Builder.Extra Tryd.prog Tryd.lays169_ren := {
  sizeBuilder := by kernel_rfl
  liesBuilder := by kernel_rfl
  t5 := Tryd.underlying5
  a5 := Tryd.isAgg5
  z5 := Tryd.sizeOf5
  v5 := Tryd.zeroValue5
  infoByte := by kernel_rfl
  cellsByte := by kernel_rfl
  sizeByte := by kernel_rfl
  neB5 := by decide }
def Tryd.lays119_ren : Go.Shelf.Ren := ⟨fun | 119 => 92 | n => n, fun | 21 => 21 | 4 => 4 | n => n, fun | n => n⟩
theorem Tryd.lays119 : Go.Proofs.Lays.n119 Tryd.prog Tryd.lays119_ren := {
  mixed := by kernel_rfl
  f119 := Tryd.func92.trans (congrArg some (by kernel_rfl))
  t4 := Tryd.underlying4
  a4 := Tryd.isAgg4
  z4 := Tryd.sizeOf4
  v4 := Tryd.zeroValue4
  t21 := Tryd.underlying21
  a21 := Tryd.isAgg21
  z21 := Tryd.sizeOf21
  v21 := Tryd.zeroValue21 }
/-- utf8.ValidRune: "ValidRune reports whether r can be legally encoded as UTF-8. Code points that are out of range or a surrogate half are illegal.": IT RETURNS 'Lib.validRune r'; the world is as it was. (LAID: no walk: one application.) -/
theorem Tryd.utf8_ValidRune (r : Int) (w : World) :
    Calls Tryd.prog 92 #[.int .i32 r] w fun e w' => e = .returned (.bool (Lib.validRune r)) ∧ w' = w := Any.utf8_ValidRune Tryd.lays119 r w
def Tryd.lays137_ren : Go.Shelf.Ren := ⟨fun | 137 => 71 | 217 => 89 | 266 => 104 | n => n, fun | 9 => 9 | 5 => 5 | 3 => 3 | n => n, fun | n => n⟩
theorem Tryd.lays137 : Go.Proofs.Lays.n137 Tryd.prog Tryd.lays137_ren := {
  mixed := by kernel_rfl
  f137 := Tryd.func71.trans (congrArg some (by kernel_rfl))
  f217 := Tryd.func89.trans (congrArg some (by kernel_rfl))
  f266 := Tryd.func104.trans (congrArg some (by kernel_rfl))
  t3 := Tryd.underlying3
  a3 := Tryd.isAgg3
  z3 := Tryd.sizeOf3
  v3 := Tryd.zeroValue3
  t5 := Tryd.underlying5
  a5 := Tryd.isAgg5
  z5 := Tryd.sizeOf5
  v5 := Tryd.zeroValue5
  t9 := Tryd.underlying9
  a9 := Tryd.isAgg9
  z9 := Tryd.sizeOf9
  v9 := Tryd.zeroValue9 }
open Go.RowKit in
/-- strings.IndexByte: "IndexByte returns the index of the first instance of c in s, or -1 if c is not present in s.": IT RETURNS 'Lib.indexByte s c'; the world is as it was. (LAID: no walk: one application.) -/
theorem Tryd.strings_IndexByte (s : ByteArray) (c : Int) (w : World) :
    Calls Tryd.prog 71 #[.string s, .int .u8 c] w fun e w' => e = .returned (.int .i64 (Lib.indexByte s.data.toList c.toNat.toUInt8)) ∧ w' = w := Any.strings_IndexByte Tryd.lays137 s c w
open Go.RowKit in
/-- (*strings.Builder).String: "String returns the accumulated string.": WHATEVER THE BUILDER HOLDS; THE FORM '_f': OF A BUILDER THAT MAY HAVE BEEN READ BEFORE; AND IT IS A BUILDER STILL, holding the same bytes: it can be written on. (LAID: no walk: one application.) -/
theorem Tryd.Builder_String_any_f (B b : Nat) (l : List UInt8) (w : World) (h : Lib.IsBuilderF 77 5 B b (Lib.byteCells l) w) (hBw : B ≤ w.heap.size) :
    Calls Tryd.prog 60 #[.pointer (some ⟨b, 0, none⟩)] w fun e w' => e = .returned (.string ⟨l.toArray⟩) ∧ (Lib.IsBuilderF 77 5 B b (Lib.byteCells l) w' ∧ Below B w w') := Any.Builder_String_any_f Tryd.lays169 Tryd.Builder_Extra_169 B b l w h hBw
def Tryd.lays172_ren : Go.Shelf.Ren := ⟨fun | 172 => 52 | 244 => 67 | 245 => 68 | 247 => 83 | 279 => 84 | 280 => 85 | 281 => 86 | 282 => 87 | 287 => 97 | 316 => 98 | 171 => 53 | 205 => 99 | 321 => 105 | 322 => 106 | 243 => 69 | 246 => 88 | 283 => 100 | 284 => 101 | 285 => 102 | 286 => 103 | 129 => 108 | 317 => 107 | 318 => 109 | 319 => 110 | 320 => 111 | 337 => 112 | 338 => 113 | n => n, fun | 9 => 9 | 3 => 3 | 75 => 70 | 76 => 71 | 4 => 4 | 5 => 5 | 167 => 104 | 37 => 73 | 0 => 0 | 85 => 105 | 2 => 2 | 168 => 107 | 53 => 119 | 175 => 120 | 46 => 115 | 210 => 123 | 127 => 90 | 145 => 133 | 143 => 131 | 21 => 21 | 171 => 125 | 173 => 128 | 212 => 135 | 51 => 136 | 20 => 20 | 213 => 137 | 232 => 140 | 233 => 141 | 80 => 82 | n => n, fun | 15 => 0 | 16 => 1 | 17 => 3 | 18 => 4 | 19 => 5 | n => n⟩
theorem Tryd.lays172 : Go.Proofs.Lays.n172 Tryd.prog Tryd.lays172_ren := {
  mixed := by kernel_rfl
  f129 := Tryd.func108.trans (congrArg some (by kernel_rfl))
  f171 := Tryd.func53.trans (congrArg some (by kernel_rfl))
  f172 := Tryd.func52.trans (congrArg some (by kernel_rfl))
  f205 := Tryd.func99.trans (congrArg some (by kernel_rfl))
  f243 := Tryd.func69.trans (congrArg some (by kernel_rfl))
  f244 := Tryd.func67.trans (congrArg some (by kernel_rfl))
  f245 := Tryd.func68.trans (congrArg some (by kernel_rfl))
  f246 := Tryd.func88.trans (congrArg some (by kernel_rfl))
  f247 := Tryd.func83.trans (congrArg some (by kernel_rfl))
  f279 := Tryd.func84.trans (congrArg some (by kernel_rfl))
  f280 := Tryd.func85.trans (congrArg some (by kernel_rfl))
  f281 := Tryd.func86.trans (congrArg some (by kernel_rfl))
  f282 := Tryd.func87.trans (congrArg some (by kernel_rfl))
  f283 := Tryd.func100.trans (congrArg some (by kernel_rfl))
  f284 := Tryd.func101.trans (congrArg some (by kernel_rfl))
  f285 := Tryd.func102.trans (congrArg some (by kernel_rfl))
  f286 := Tryd.func103.trans (congrArg some (by kernel_rfl))
  f287 := Tryd.func97.trans (congrArg some (by kernel_rfl))
  f316 := Tryd.func98.trans (congrArg some (by kernel_rfl))
  f317 := Tryd.func107.trans (congrArg some (by kernel_rfl))
  f318 := Tryd.func109.trans (congrArg some (by kernel_rfl))
  f319 := Tryd.func110.trans (congrArg some (by kernel_rfl))
  f320 := Tryd.func111.trans (congrArg some (by kernel_rfl))
  f321 := Tryd.func105.trans (congrArg some (by kernel_rfl))
  f322 := Tryd.func106.trans (congrArg some (by kernel_rfl))
  f337 := Tryd.func112.trans (congrArg some (by kernel_rfl))
  f338 := Tryd.func113.trans (congrArg some (by kernel_rfl))
  t0 := Tryd.underlying0
  a0 := Tryd.isAgg0
  z0 := Tryd.sizeOf0
  v0 := Tryd.zeroValue0
  t2 := Tryd.underlying2
  a2 := Tryd.isAgg2
  z2 := Tryd.sizeOf2
  v2 := Tryd.zeroValue2
  t3 := Tryd.underlying3
  a3 := Tryd.isAgg3
  z3 := Tryd.sizeOf3
  v3 := Tryd.zeroValue3
  t4 := Tryd.underlying4
  a4 := Tryd.isAgg4
  z4 := Tryd.sizeOf4
  v4 := Tryd.zeroValue4
  t5 := Tryd.underlying5
  a5 := Tryd.isAgg5
  z5 := Tryd.sizeOf5
  v5 := Tryd.zeroValue5
  t9 := Tryd.underlying9
  a9 := Tryd.isAgg9
  z9 := Tryd.sizeOf9
  v9 := Tryd.zeroValue9
  t20 := Tryd.underlying20
  a20 := Tryd.isAgg20
  z20 := Tryd.sizeOf20
  v20 := Tryd.zeroValue20
  t21 := Tryd.underlying21
  a21 := Tryd.isAgg21
  z21 := Tryd.sizeOf21
  v21 := Tryd.zeroValue21
  t37 := Tryd.underlying73
  a37 := Tryd.isAgg73
  z37 := Tryd.sizeOf73
  v37 := Tryd.zeroValue73
  t46 := Tryd.underlying115
  a46 := Tryd.isAgg115
  z46 := Tryd.sizeOf115
  v46 := Tryd.zeroValue115
  t51 := Tryd.underlying136
  a51 := Tryd.isAgg136
  z51 := Tryd.sizeOf136
  v51 := Tryd.zeroValue136
  t53 := Tryd.underlying119
  a53 := Tryd.isAgg119
  z53 := Tryd.sizeOf119
  v53 := Tryd.zeroValue119
  t75 := Tryd.underlying70
  a75 := Tryd.isAgg70
  z75 := Tryd.sizeOf70
  v75 := Tryd.zeroValue70
  t76 := Tryd.underlying71
  a76 := Tryd.isAgg71
  z76 := Tryd.sizeOf71
  v76 := Tryd.zeroValue71
  t85 := Tryd.underlying105
  a85 := Tryd.isAgg105
  z85 := Tryd.sizeOf105
  v85 := Tryd.zeroValue105
  t127 := Tryd.underlying90
  a127 := Tryd.isAgg90
  z127 := Tryd.sizeOf90
  v127 := Tryd.zeroValue90
  t143 := Tryd.underlying131
  a143 := Tryd.isAgg131
  z143 := Tryd.sizeOf131
  v143 := Tryd.zeroValue131
  t145 := Tryd.underlying133
  a145 := Tryd.isAgg133
  z145 := Tryd.sizeOf133
  v145 := Tryd.zeroValue133
  t167 := Tryd.underlying104
  a167 := Tryd.isAgg104
  z167 := Tryd.sizeOf104
  v167 := Tryd.zeroValue104
  t168 := Tryd.underlying107
  a168 := Tryd.isAgg107
  z168 := Tryd.sizeOf107
  v168 := Tryd.zeroValue107
  t171 := Tryd.underlying125
  a171 := Tryd.isAgg125
  z171 := Tryd.sizeOf125
  v171 := Tryd.zeroValue125
  t173 := Tryd.underlying128
  a173 := Tryd.isAgg128
  z173 := Tryd.sizeOf128
  v173 := Tryd.zeroValue128
  t175 := Tryd.underlying120
  a175 := Tryd.isAgg120
  z175 := Tryd.sizeOf120
  v175 := Tryd.zeroValue120
  t210 := Tryd.underlying123
  a210 := Tryd.isAgg123
  z210 := Tryd.sizeOf123
  v210 := Tryd.zeroValue123
  t212 := Tryd.underlying135
  a212 := Tryd.isAgg135
  z212 := Tryd.sizeOf135
  v212 := Tryd.zeroValue135
  t213 := Tryd.underlying137
  a213 := Tryd.isAgg137
  z213 := Tryd.sizeOf137
  t232 := Tryd.underlying140
  a232 := Tryd.isAgg140
  z232 := Tryd.sizeOf140
  v232 := Tryd.zeroValue140
  t233 := Tryd.underlying141
  a233 := Tryd.isAgg141
  z233 := Tryd.sizeOf141
  v233 := Tryd.zeroValue141
  g15 := by kernel_rfl
  g16 := by kernel_rfl
  g17 := by kernel_rfl
  g18 := by kernel_rfl
  g19 := by kernel_rfl }
open Go.RowKit in
/-- strconv.Atoi: "Atoi is equivalent to ParseInt(s, 10, 0), converted to type int.": AT A DECIMAL NUMERAL OF AT MOST 18 BYTES: its value, and a nil error. The world behind the call: the one new row that the library's '[]byte(s)' lays. (LAID: no walk: one application.) -/
theorem Tryd.strconv_Atoi (s : ByteArray) (n : Int) (hl : s.size ≤ 18) (h : Lib.atoi s.data.toList = some n) (w : World) :
    Calls Tryd.prog 52 #[.string s] w fun e w' => e = .returned (.tuple #[.int .i64 n, .nilIface]) ∧ ∃ t, w' = Lib.bytesWorld w 5 t := Any.strconv_Atoi Tryd.lays172 s n hl h w
def Tryd.laysM171_ren : Go.Shelf.Ren := ⟨fun | 171 => 53 | 243 => 69 | 246 => 88 | 283 => 100 | 284 => 101 | 285 => 102 | 286 => 103 | 129 => 108 | 317 => 107 | 318 => 109 | 319 => 110 | 320 => 111 | 337 => 112 | 338 => 113 | n => n, fun | 3 => 3 | 9 => 9 | 2 => 2 | 4 => 4 | 171 => 125 | 0 => 0 | 53 => 119 | 37 => 73 | 5 => 5 | 173 => 128 | 212 => 135 | 51 => 136 | 20 => 20 | 213 => 137 | 46 => 115 | 232 => 140 | 233 => 141 | n => n, fun | 17 => 3 | 18 => 4 | 19 => 5 | n => n⟩
theorem Tryd.laysM171 : Go.Proofs.LaysM.n171 Tryd.prog Tryd.laysM171_ren := {
  mixed := by kernel_rfl
  f129 := Tryd.func108.trans (congrArg some (by kernel_rfl))
  f171 := Tryd.func53.trans (congrArg some (by kernel_rfl))
  f243 := Tryd.func69.trans (congrArg some (by kernel_rfl))
  f246 := Tryd.func88.trans (congrArg some (by kernel_rfl))
  f283 := Tryd.func100.trans (congrArg some (by kernel_rfl))
  f284 := Tryd.func101.trans (congrArg some (by kernel_rfl))
  f285 := Tryd.func102.trans (congrArg some (by kernel_rfl))
  f286 := Tryd.func103.trans (congrArg some (by kernel_rfl))
  f317 := Tryd.func107.trans (congrArg some (by kernel_rfl))
  f318 := Tryd.func109.trans (congrArg some (by kernel_rfl))
  f319 := Tryd.func110.trans (congrArg some (by kernel_rfl))
  f320 := Tryd.func111.trans (congrArg some (by kernel_rfl))
  f337 := Tryd.func112.trans (congrArg some (by kernel_rfl))
  f338 := Tryd.func113.trans (congrArg some (by kernel_rfl))
  t0 := Tryd.underlying0
  a0 := Tryd.isAgg0
  z0 := Tryd.sizeOf0
  v0 := Tryd.zeroValue0
  t2 := Tryd.underlying2
  a2 := Tryd.isAgg2
  z2 := Tryd.sizeOf2
  v2 := Tryd.zeroValue2
  t3 := Tryd.underlying3
  a3 := Tryd.isAgg3
  z3 := Tryd.sizeOf3
  v3 := Tryd.zeroValue3
  t4 := Tryd.underlying4
  a4 := Tryd.isAgg4
  z4 := Tryd.sizeOf4
  v4 := Tryd.zeroValue4
  t5 := Tryd.underlying5
  a5 := Tryd.isAgg5
  z5 := Tryd.sizeOf5
  v5 := Tryd.zeroValue5
  t9 := Tryd.underlying9
  a9 := Tryd.isAgg9
  z9 := Tryd.sizeOf9
  v9 := Tryd.zeroValue9
  t20 := Tryd.underlying20
  a20 := Tryd.isAgg20
  z20 := Tryd.sizeOf20
  v20 := Tryd.zeroValue20
  t37 := Tryd.underlying73
  a37 := Tryd.isAgg73
  z37 := Tryd.sizeOf73
  v37 := Tryd.zeroValue73
  t46 := Tryd.underlying115
  a46 := Tryd.isAgg115
  z46 := Tryd.sizeOf115
  v46 := Tryd.zeroValue115
  t51 := Tryd.underlying136
  a51 := Tryd.isAgg136
  z51 := Tryd.sizeOf136
  v51 := Tryd.zeroValue136
  t53 := Tryd.underlying119
  a53 := Tryd.isAgg119
  z53 := Tryd.sizeOf119
  v53 := Tryd.zeroValue119
  t171 := Tryd.underlying125
  a171 := Tryd.isAgg125
  z171 := Tryd.sizeOf125
  v171 := Tryd.zeroValue125
  t173 := Tryd.underlying128
  a173 := Tryd.isAgg128
  z173 := Tryd.sizeOf128
  v173 := Tryd.zeroValue128
  t212 := Tryd.underlying135
  a212 := Tryd.isAgg135
  z212 := Tryd.sizeOf135
  v212 := Tryd.zeroValue135
  t213 := Tryd.underlying137
  a213 := Tryd.isAgg137
  z213 := Tryd.sizeOf137
  t232 := Tryd.underlying140
  a232 := Tryd.isAgg140
  z232 := Tryd.sizeOf140
  v232 := Tryd.zeroValue140
  t233 := Tryd.underlying141
  a233 := Tryd.isAgg141
  z233 := Tryd.sizeOf141
  v233 := Tryd.zeroValue141
  g17 := by kernel_rfl
  g18 := by kernel_rfl
  g19 := by kernel_rfl
  i0 := by kernel_rfl
  i2 := by kernel_rfl
  i3 := by kernel_rfl
  i4 := by kernel_rfl
  i5 := by kernel_rfl
  i9 := by kernel_rfl
  i20 := by kernel_rfl
  i37 := by kernel_rfl
  i46 := by kernel_rfl
  i51 := by kernel_rfl
  i53 := by kernel_rfl
  i171 := by kernel_rfl
  i173 := by kernel_rfl
  i212 := by kernel_rfl
  i232 := by kernel_rfl
  i233 := by kernel_rfl
  m17 := by kernel_rfl
  m18 := by kernel_rfl
  m19 := by kernel_rfl }
open Go.RowKit Go.Sort Go.Lib in
/-- strconv.Itoa: "Itoa is equivalent to FormatInt(int64(i), 10).": i's DECIMAL NUMERAL ('Lib.itoa': a '-' where i is negative, then the digits), FOR EVERY int. The world behind the call: the world before it, new blocks behind the heap (the library's 'var a [24]byte'), draws. (LAID: no walk: one application.) -/
theorem Tryd.strconv_Itoa (n : Int) (h0 : -9223372036854775808 ≤ n) (h1 : n ≤ 9223372036854775807) (w : World) (htab : Lib.TabIs Tryd.prog w "internal/strconv.uint64pow10" .u64 Lib.pow10Tab) :
    Calls Tryd.prog 53 #[.int .i64 n] w fun e w' => e = .returned (.string ⟨(Lib.itoa n).toArray⟩) ∧ ∃ k os, w' = grow (w.drewN k) os := Any.strconv_Itoa Tryd.laysM171 n h0 h1 w htab
def Tryd.laysC172_ren : Go.Shelf.Ren := ⟨fun | 172 => 52 | 244 => 67 | 245 => 68 | 247 => 83 | 279 => 84 | 280 => 85 | 281 => 86 | 282 => 87 | 287 => 97 | 316 => 98 | 171 => 53 | 205 => 99 | 321 => 105 | 322 => 106 | 243 => 69 | 246 => 88 | 283 => 100 | 284 => 101 | 285 => 102 | 286 => 103 | 129 => 108 | 317 => 107 | 318 => 109 | 319 => 110 | 320 => 111 | 337 => 112 | 338 => 113 | n => n, fun | 9 => 9 | 3 => 3 | 75 => 70 | 76 => 71 | 4 => 4 | 5 => 5 | 167 => 104 | 37 => 73 | 0 => 0 | 85 => 105 | 2 => 2 | 168 => 107 | 53 => 119 | 175 => 120 | 46 => 115 | 210 => 123 | 127 => 90 | 145 => 133 | 143 => 131 | 21 => 21 | 171 => 125 | 173 => 128 | 212 => 135 | 51 => 136 | 20 => 20 | 213 => 137 | 232 => 140 | 233 => 141 | 80 => 82 | n => n, fun | 15 => 0 | 16 => 1 | 17 => 3 | 18 => 4 | 19 => 5 | n => n⟩
theorem Tryd.laysC172 : Go.Proofs.LaysC.n172 Tryd.prog Tryd.laysC172_ren := {
  mixed := by kernel_rfl
  f129 := Tryd.func108.trans (congrArg some (by kernel_rfl))
  f171 := Tryd.func53.trans (congrArg some (by kernel_rfl))
  f172 := Tryd.func52.trans (congrArg some (by kernel_rfl))
  f205 := Tryd.func99.trans (congrArg some (by kernel_rfl))
  f243 := Tryd.func69.trans (congrArg some (by kernel_rfl))
  f244 := Tryd.func67.trans (congrArg some (by kernel_rfl))
  f245 := Tryd.func68.trans (congrArg some (by kernel_rfl))
  f246 := Tryd.func88.trans (congrArg some (by kernel_rfl))
  f247 := Tryd.func83.trans (congrArg some (by kernel_rfl))
  f279 := Tryd.func84.trans (congrArg some (by kernel_rfl))
  f280 := Tryd.func85.trans (congrArg some (by kernel_rfl))
  f281 := Tryd.func86.trans (congrArg some (by kernel_rfl))
  f282 := Tryd.func87.trans (congrArg some (by kernel_rfl))
  f283 := Tryd.func100.trans (congrArg some (by kernel_rfl))
  f284 := Tryd.func101.trans (congrArg some (by kernel_rfl))
  f285 := Tryd.func102.trans (congrArg some (by kernel_rfl))
  f286 := Tryd.func103.trans (congrArg some (by kernel_rfl))
  f287 := Tryd.func97.trans (congrArg some (by kernel_rfl))
  f316 := Tryd.func98.trans (congrArg some (by kernel_rfl))
  f317 := Tryd.func107.trans (congrArg some (by kernel_rfl))
  f318 := Tryd.func109.trans (congrArg some (by kernel_rfl))
  f319 := Tryd.func110.trans (congrArg some (by kernel_rfl))
  f320 := Tryd.func111.trans (congrArg some (by kernel_rfl))
  f321 := Tryd.func105.trans (congrArg some (by kernel_rfl))
  f322 := Tryd.func106.trans (congrArg some (by kernel_rfl))
  f337 := Tryd.func112.trans (congrArg some (by kernel_rfl))
  f338 := Tryd.func113.trans (congrArg some (by kernel_rfl))
  t0 := Tryd.underlying0
  a0 := Tryd.isAgg0
  z0 := Tryd.sizeOf0
  v0 := Tryd.zeroValue0
  t2 := Tryd.underlying2
  a2 := Tryd.isAgg2
  z2 := Tryd.sizeOf2
  v2 := Tryd.zeroValue2
  t3 := Tryd.underlying3
  a3 := Tryd.isAgg3
  z3 := Tryd.sizeOf3
  v3 := Tryd.zeroValue3
  t4 := Tryd.underlying4
  a4 := Tryd.isAgg4
  z4 := Tryd.sizeOf4
  v4 := Tryd.zeroValue4
  t5 := Tryd.underlying5
  a5 := Tryd.isAgg5
  z5 := Tryd.sizeOf5
  v5 := Tryd.zeroValue5
  t9 := Tryd.underlying9
  a9 := Tryd.isAgg9
  z9 := Tryd.sizeOf9
  v9 := Tryd.zeroValue9
  t20 := Tryd.underlying20
  a20 := Tryd.isAgg20
  z20 := Tryd.sizeOf20
  v20 := Tryd.zeroValue20
  t21 := Tryd.underlying21
  a21 := Tryd.isAgg21
  z21 := Tryd.sizeOf21
  v21 := Tryd.zeroValue21
  t37 := Tryd.underlying73
  a37 := Tryd.isAgg73
  z37 := Tryd.sizeOf73
  v37 := Tryd.zeroValue73
  t46 := Tryd.underlying115
  a46 := Tryd.isAgg115
  z46 := Tryd.sizeOf115
  v46 := Tryd.zeroValue115
  t51 := Tryd.underlying136
  a51 := Tryd.isAgg136
  z51 := Tryd.sizeOf136
  v51 := Tryd.zeroValue136
  t53 := Tryd.underlying119
  a53 := Tryd.isAgg119
  z53 := Tryd.sizeOf119
  v53 := Tryd.zeroValue119
  t75 := Tryd.underlying70
  a75 := Tryd.isAgg70
  z75 := Tryd.sizeOf70
  v75 := Tryd.zeroValue70
  t76 := Tryd.underlying71
  a76 := Tryd.isAgg71
  z76 := Tryd.sizeOf71
  v76 := Tryd.zeroValue71
  t85 := Tryd.underlying105
  a85 := Tryd.isAgg105
  z85 := Tryd.sizeOf105
  v85 := Tryd.zeroValue105
  t127 := Tryd.underlying90
  a127 := Tryd.isAgg90
  z127 := Tryd.sizeOf90
  v127 := Tryd.zeroValue90
  t143 := Tryd.underlying131
  a143 := Tryd.isAgg131
  z143 := Tryd.sizeOf131
  v143 := Tryd.zeroValue131
  t145 := Tryd.underlying133
  a145 := Tryd.isAgg133
  z145 := Tryd.sizeOf133
  v145 := Tryd.zeroValue133
  t167 := Tryd.underlying104
  a167 := Tryd.isAgg104
  z167 := Tryd.sizeOf104
  v167 := Tryd.zeroValue104
  t168 := Tryd.underlying107
  a168 := Tryd.isAgg107
  z168 := Tryd.sizeOf107
  v168 := Tryd.zeroValue107
  t171 := Tryd.underlying125
  a171 := Tryd.isAgg125
  z171 := Tryd.sizeOf125
  v171 := Tryd.zeroValue125
  t173 := Tryd.underlying128
  a173 := Tryd.isAgg128
  z173 := Tryd.sizeOf128
  v173 := Tryd.zeroValue128
  t175 := Tryd.underlying120
  a175 := Tryd.isAgg120
  z175 := Tryd.sizeOf120
  v175 := Tryd.zeroValue120
  t210 := Tryd.underlying123
  a210 := Tryd.isAgg123
  z210 := Tryd.sizeOf123
  v210 := Tryd.zeroValue123
  t212 := Tryd.underlying135
  a212 := Tryd.isAgg135
  z212 := Tryd.sizeOf135
  v212 := Tryd.zeroValue135
  t213 := Tryd.underlying137
  a213 := Tryd.isAgg137
  z213 := Tryd.sizeOf137
  t232 := Tryd.underlying140
  a232 := Tryd.isAgg140
  z232 := Tryd.sizeOf140
  v232 := Tryd.zeroValue140
  t233 := Tryd.underlying141
  a233 := Tryd.isAgg141
  z233 := Tryd.sizeOf141
  v233 := Tryd.zeroValue141
  g15 := by kernel_rfl
  g16 := by kernel_rfl
  g17 := by kernel_rfl
  g18 := by kernel_rfl
  g19 := by kernel_rfl
  t80 := Tryd.underlying82
  a80 := Tryd.isAgg82
  z80 := Tryd.sizeOf82
  v80 := Tryd.zeroValue82
  i0 := by kernel_rfl
  i2 := by kernel_rfl
  i3 := by kernel_rfl
  i4 := by kernel_rfl
  i5 := by kernel_rfl
  i9 := by kernel_rfl
  i20 := by kernel_rfl
  i21 := by kernel_rfl
  i37 := by kernel_rfl
  i46 := by kernel_rfl
  i51 := by kernel_rfl
  i53 := by kernel_rfl
  i75 := by kernel_rfl
  i76 := by kernel_rfl
  i80 := by kernel_rfl
  i85 := by kernel_rfl
  i127 := by kernel_rfl
  i143 := by kernel_rfl
  i145 := by kernel_rfl
  i167 := by kernel_rfl
  i168 := by kernel_rfl
  i171 := by kernel_rfl
  i173 := by kernel_rfl
  i175 := by kernel_rfl
  i210 := by kernel_rfl
  i212 := by kernel_rfl
  i232 := by kernel_rfl
  i233 := by kernel_rfl
  m15 := by kernel_rfl
  m16 := by kernel_rfl
  m17 := by kernel_rfl
  m18 := by kernel_rfl
  m19 := by kernel_rfl
  c0 := by kernel_rfl
  c2 := by kernel_rfl
  c3 := by kernel_rfl
  c4 := by kernel_rfl
  c5 := by kernel_rfl
  c9 := by kernel_rfl
  c20 := by kernel_rfl
  c21 := by kernel_rfl
  c37 := by kernel_rfl
  c46 := by kernel_rfl
  c51 := by kernel_rfl
  c53 := by kernel_rfl
  c75 := by kernel_rfl
  c76 := by kernel_rfl
  c80 := by kernel_rfl
  c85 := by kernel_rfl
  c127 := by kernel_rfl
  c143 := by kernel_rfl
  c145 := by kernel_rfl
  c167 := by kernel_rfl
  c168 := by kernel_rfl
  c171 := by kernel_rfl
  c173 := by kernel_rfl
  c175 := by kernel_rfl
  c210 := by kernel_rfl
  c212 := by kernel_rfl
  c213 := by kernel_rfl
  c232 := by kernel_rfl
  c233 := by kernel_rfl }
open Go.RowKit in
/-- strconv.Atoi, AT EVERY STRING THAT SPELLS AN int ('Lib.atoiAll .. = .ok v'; of whatever length: leading zeros count): v, AND NO ERROR. The world: as it was, or with the one new row that '[]byte(..)' lays. (LAID: no walk: one application.) -/
theorem Tryd.strconv_Atoi_ok (s : ByteArray) (hmax : s.size ≤ 9223372036854775806) (v : Int) (h : Lib.atoiAll s.data.toList = .ok v) (w : World) :
    Calls Tryd.prog 52 #[.string s] w fun e w' => e = .returned (.tuple #[.int .i64 v, .nilIface]) ∧ (w' = w ∨ ∃ t, w' = Lib.bytesWorld w 5 t) := Any.strconv_Atoi_ok Tryd.laysC172 s hmax v h w
open Go.RowKit in
theorem Tryd.strconv_Atoi_syntax_var (s : ByteArray) (hlim : s.size ≤ 281474976710656) (h : Lib.atoiAll s.data.toList = Lib.atoiAll []) (tp : TypeId) (p : Value) (w : World) (hvar : w.var? Tryd.prog "strconv.ErrSyntax" = some #[.iface tp p]) :
    Calls Tryd.prog 52 #[.string s] w fun e w' => ∃ N, e = .returned (.tuple #[.int .i64 0, .iface 107 (.pointer (some ⟨N, 0, none⟩))]) ∧ w.heap.size ≤ N ∧ w'.heap[N]? = some (.cells #[.string ⟨#[65, 116, 111, 105]⟩, .string s, .iface tp p] 123 (0, 0)) ∧ Below w.heap.size w w' := Any.strconv_Atoi_syntax_var Tryd.laysC172 s hlim h tp p w hvar
open Go.RowKit in
theorem Tryd.strconv_Atoi_range_var (s : ByteArray) (hlim : s.size ≤ 281474976710656) (h : Lib.atoiAll s.data.toList = .range) (tp : TypeId) (p : Value) (w : World) (hvar : w.var? Tryd.prog "strconv.ErrRange" = some #[.iface tp p]) :
    Calls Tryd.prog 52 #[.string s] w fun e w' => ∃ N, e = .returned (.tuple #[.int .i64 (Lib.atoiSat s.data.toList), .iface 107 (.pointer (some ⟨N, 0, none⟩))]) ∧ w.heap.size ≤ N ∧ w'.heap[N]? = some (.cells #[.string ⟨#[65, 116, 111, 105]⟩, .string s, .iface tp p] 123 (0, 0)) ∧ Below w.heap.size w w' := Any.strconv_Atoi_range_var Tryd.laysC172 s hlim h tp p w hvar
def Tryd.lays206_ren : Go.Shelf.Ren := ⟨fun | 206 => 90 | n => n, fun | 9 => 9 | 4 => 4 | 3 => 3 | n => n, fun | n => n⟩
theorem Tryd.lays206 : Go.Proofs.Lays.n206 Tryd.prog Tryd.lays206_ren := {
  mixed := by kernel_rfl
  f206 := Tryd.func90.trans (congrArg some (by kernel_rfl))
  t3 := Tryd.underlying3
  a3 := Tryd.isAgg3
  z3 := Tryd.sizeOf3
  v3 := Tryd.zeroValue3
  t4 := Tryd.underlying4
  a4 := Tryd.isAgg4
  z4 := Tryd.sizeOf4
  v4 := Tryd.zeroValue4
  t9 := Tryd.underlying9
  a9 := Tryd.isAgg9
  z9 := Tryd.sizeOf9
  v9 := Tryd.zeroValue9 }
open Go.RowKit Go.Lib in
/-- internal/stringslite.HasPrefix (what strings.HasPrefix calls). (LAID: no walk: one application.) -/
theorem Tryd.stringslite_HasPrefix (s p : ByteArray) (w : World) :
    Calls Tryd.prog 90 #[.string s, .string p] w fun e w' => e = .returned (.bool (Lib.hasPrefix s.data.toList p.data.toList)) ∧ w' = w := Any.stringslite_HasPrefix Tryd.lays206 s p w
def Tryd.lays99_ren : Go.Shelf.Ren := ⟨fun | 99 => 73 | 206 => 90 | n => n, fun | 9 => 9 | 4 => 4 | 3 => 3 | n => n, fun | n => n⟩
theorem Tryd.lays99 : Go.Proofs.Lays.n99 Tryd.prog Tryd.lays99_ren := {
  mixed := by kernel_rfl
  f99 := Tryd.func73.trans (congrArg some (by kernel_rfl))
  f206 := Tryd.func90.trans (congrArg some (by kernel_rfl))
  t3 := Tryd.underlying3
  a3 := Tryd.isAgg3
  z3 := Tryd.sizeOf3
  v3 := Tryd.zeroValue3
  t4 := Tryd.underlying4
  a4 := Tryd.isAgg4
  z4 := Tryd.sizeOf4
  v4 := Tryd.zeroValue4
  t9 := Tryd.underlying9
  a9 := Tryd.isAgg9
  z9 := Tryd.sizeOf9
  v9 := Tryd.zeroValue9 }
open Go.RowKit Go.Lib in
/-- strings.HasPrefix: "HasPrefix reports whether the string s begins with prefix.": IT RETURNS 'Lib.hasPrefix s prefix'; the world is as it was. (LAID: no walk: one application.) -/
theorem Tryd.strings_HasPrefix (s p : ByteArray) (w : World) :
    Calls Tryd.prog 73 #[.string s, .string p] w fun e w' => e = .returned (.bool (Lib.hasPrefix s.data.toList p.data.toList)) ∧ w' = w := Any.strings_HasPrefix Tryd.lays99 s p w
def Tryd.lays152_ren : Go.Shelf.Ren := ⟨fun | 152 => 77 | 137 => 71 | 119 => 92 | 224 => 93 | 225 => 94 | 217 => 89 | 266 => 104 | n => n, fun | 9 => 9 | 21 => 21 | 3 => 3 | 4 => 4 | 5 => 5 | 0 => 0 | 46 => 115 | n => n, fun | n => n⟩
theorem Tryd.lays152 : Go.Proofs.Lays.n152 Tryd.prog Tryd.lays152_ren := {
  mixed := by kernel_rfl
  f119 := Tryd.func92.trans (congrArg some (by kernel_rfl))
  f137 := Tryd.func71.trans (congrArg some (by kernel_rfl))
  f152 := Tryd.func77.trans (congrArg some (by kernel_rfl))
  f217 := Tryd.func89.trans (congrArg some (by kernel_rfl))
  f224 := Tryd.func93.trans (congrArg some (by kernel_rfl))
  f225 := Tryd.func94.trans (congrArg some (by kernel_rfl))
  f266 := Tryd.func104.trans (congrArg some (by kernel_rfl))
  t0 := Tryd.underlying0
  a0 := Tryd.isAgg0
  z0 := Tryd.sizeOf0
  v0 := Tryd.zeroValue0
  t3 := Tryd.underlying3
  a3 := Tryd.isAgg3
  z3 := Tryd.sizeOf3
  v3 := Tryd.zeroValue3
  t4 := Tryd.underlying4
  a4 := Tryd.isAgg4
  z4 := Tryd.sizeOf4
  v4 := Tryd.zeroValue4
  t5 := Tryd.underlying5
  a5 := Tryd.isAgg5
  z5 := Tryd.sizeOf5
  v5 := Tryd.zeroValue5
  t9 := Tryd.underlying9
  a9 := Tryd.isAgg9
  z9 := Tryd.sizeOf9
  v9 := Tryd.zeroValue9
  t21 := Tryd.underlying21
  a21 := Tryd.isAgg21
  z21 := Tryd.sizeOf21
  v21 := Tryd.zeroValue21
  t46 := Tryd.underlying115
  a46 := Tryd.isAgg115
  z46 := Tryd.sizeOf115
  v46 := Tryd.zeroValue115 }
open Go.RowKit Go.Lib in
theorem Tryd.strings_IndexRune_ascii (s : ByteArray) (r : Int) (w : World) (h0 : 0 ≤ r) (h1 : r < 128) :
    Calls Tryd.prog 77 #[.string s, .int .i32 r] w fun e w' => e = .returned (.int .i64 (Lib.indexByte s.data.toList r.toNat.toUInt8)) ∧ w' = w := Any.strings_IndexRune_ascii Tryd.lays152 s r w h0 h1
def Tryd.lays226_ren : Go.Shelf.Ren := ⟨fun | 226 => 78 | n => n, fun | 3 => 3 | 4 => 4 | n => n, fun | n => n⟩
theorem Tryd.lays226 : Go.Proofs.Lays.n226 Tryd.prog Tryd.lays226_ren := {
  mixed := by kernel_rfl
  f226 := Tryd.func78.trans (congrArg some (by kernel_rfl))
  t3 := Tryd.underlying3
  a3 := Tryd.isAgg3
  z3 := Tryd.sizeOf3
  v3 := Tryd.zeroValue3
  t4 := Tryd.underlying4
  a4 := Tryd.isAgg4
  z4 := Tryd.sizeOf4
  v4 := Tryd.zeroValue4 }
open Go.RowKit Go.Lib in
theorem Tryd.strings_shouldUseASCIISet (n : Int) (w : World) :
    Calls Tryd.prog 78 #[.int .i64 n] w fun e w' => e = .returned (.bool (decide (8 < n))) ∧ w' = w := Any.strings_shouldUseASCIISet Tryd.lays226 n w
def Tryd.lays153_ren : Go.Shelf.Ren := ⟨fun | 153 => 64 | 152 => 77 | 226 => 78 | 227 => 79 | 228 => 80 | 137 => 71 | 119 => 92 | 224 => 93 | 225 => 94 | 217 => 89 | 266 => 104 | n => n, fun | 9 => 9 | 3 => 3 | 4 => 4 | 5 => 5 | 21 => 21 | 117 => 95 | 116 => 94 | 0 => 0 | 46 => 115 | 124 => 116 | n => n, fun | n => n⟩
theorem Tryd.lays153 : Go.Proofs.Lays.n153 Tryd.prog Tryd.lays153_ren := {
  mixed := by kernel_rfl
  f119 := Tryd.func92.trans (congrArg some (by kernel_rfl))
  f137 := Tryd.func71.trans (congrArg some (by kernel_rfl))
  f152 := Tryd.func77.trans (congrArg some (by kernel_rfl))
  f153 := Tryd.func64.trans (congrArg some (by kernel_rfl))
  f217 := Tryd.func89.trans (congrArg some (by kernel_rfl))
  f224 := Tryd.func93.trans (congrArg some (by kernel_rfl))
  f225 := Tryd.func94.trans (congrArg some (by kernel_rfl))
  f226 := Tryd.func78.trans (congrArg some (by kernel_rfl))
  f227 := Tryd.func79.trans (congrArg some (by kernel_rfl))
  f228 := Tryd.func80.trans (congrArg some (by kernel_rfl))
  f266 := Tryd.func104.trans (congrArg some (by kernel_rfl))
  t0 := Tryd.underlying0
  a0 := Tryd.isAgg0
  z0 := Tryd.sizeOf0
  v0 := Tryd.zeroValue0
  t3 := Tryd.underlying3
  a3 := Tryd.isAgg3
  z3 := Tryd.sizeOf3
  v3 := Tryd.zeroValue3
  t4 := Tryd.underlying4
  a4 := Tryd.isAgg4
  z4 := Tryd.sizeOf4
  v4 := Tryd.zeroValue4
  t5 := Tryd.underlying5
  a5 := Tryd.isAgg5
  z5 := Tryd.sizeOf5
  v5 := Tryd.zeroValue5
  t9 := Tryd.underlying9
  a9 := Tryd.isAgg9
  z9 := Tryd.sizeOf9
  v9 := Tryd.zeroValue9
  t21 := Tryd.underlying21
  a21 := Tryd.isAgg21
  z21 := Tryd.sizeOf21
  v21 := Tryd.zeroValue21
  t46 := Tryd.underlying115
  a46 := Tryd.isAgg115
  z46 := Tryd.sizeOf115
  v46 := Tryd.zeroValue115
  t116 := Tryd.underlying94
  a116 := Tryd.isAgg94
  z116 := Tryd.sizeOf94
  t117 := Tryd.underlying95
  a117 := Tryd.isAgg95
  z117 := Tryd.sizeOf95
  v117 := Tryd.zeroValue95
  t124 := Tryd.underlying116
  a124 := Tryd.isAgg116
  z124 := Tryd.sizeOf116
  v124 := Tryd.zeroValue116 }
open Go.RowKit Go.Lib in
theorem Tryd.strings_IndexAny_long (hv116 : ∀ w, (zeroValue 94).run Tryd.prog w = .ok (.agg (Array.replicate 256 (.bool false))) w) (s chars : ByteArray) (w : World) (h2 : 2 ≤ chars.size) (h8 : 8 < s.size) (hs : s.size < 4294967281) (hcs : chars.size < 4294967281) (hascii : ∀ (j : Nat) b, chars.data.toList[j]? = some b → b.toNat < 128) :
    Calls Tryd.prog 64 #[.string s, .string chars] w fun e w' => e = .returned (.int .i64 (Lib.indexAny s.data.toList chars.data.toList)) ∧ w' = ((w.alloc (.cells (Lib.setCells chars.data.toList) 94)).alloc (.cells (Lib.setCells chars.data.toList) 94)) := Any.strings_IndexAny_long Tryd.lays153 hv116 (by kernel_rfl) s chars w h2 h8 hs hcs hascii
open Go.RowKit Go.Lib in
/-- strings.IndexAny ON ASCII BYTES: the four roads under one statement. (LAID: no walk: one application.) -/
theorem Tryd.strings_IndexAny (hv116 : ∀ w, (zeroValue 94).run Tryd.prog w = .ok (.agg (Array.replicate 256 (.bool false))) w) (s chars : ByteArray) (w : World) (hs : s.size < 4294967281) (hcs : chars.size < 4294967281) (has : ∀ (j : Nat) b, s.data.toList[j]? = some b → b.toNat < 128) (hac : ∀ (j : Nat) b, chars.data.toList[j]? = some b → b.toNat < 128) :
    Calls Tryd.prog 64 #[.string s, .string chars] w fun e w' => e = .returned (.int .i64 (Lib.indexAny s.data.toList chars.data.toList)) ∧ Below w.heap.size w w' := Any.strings_IndexAny Tryd.lays153 hv116 (by kernel_rfl) s chars w hs hcs has hac
end Go.Proofs

namespace Go.Proofs.YtpanmmpkdbhofaaDoorE
open Go Go.RowKit Go.Proofs.YtpanmmpkdbhofaaDoorW.PrintWords Go.Proofs.YtpanmmpkdbhofaaDoorX
set_option linter.unusedVariables false
def strconv_Itoa.f (a0 : Int) : Option ByteArray := if -9223372036854775808 ≤ a0 ∧ a0 ≤ 9223372036854775807 then some ⟨(Lib.itoa a0).toArray⟩ else none
theorem strconv_Itoa.calls (a0 : Int) (r : ByteArray) (w : World) (hgl : GL w) (h : strconv_Itoa.f a0 = some r) :
    Calls Tryd.prog 53 #[.int .i64 a0] w fun e w' => e = .returned (.string r) ∧ Below w.heap.size w w' := by
  unfold strconv_Itoa.f at h
  by_cases hr : -9223372036854775808 ≤ a0 ∧ a0 ≤ 9223372036854775807
  · rw [if_pos hr] at h
    cases h
    refine (Tryd.strconv_Itoa a0 hr.1 hr.2 w (by first | exact hgl | exact hgl.1)).mono ?_
    rintro e w' ⟨he, k, os, rfl⟩
    exact ⟨he, below_grow w k os⟩
  · rw [if_neg hr] at h; cases h
def strings_IndexByte.f (a0 : ByteArray) (a1 : Int) : Option Int := some (Lib.indexByte a0.data.toList a1.toNat.toUInt8)
theorem strings_IndexByte.calls (a0 : ByteArray) (a1 : Int) (r : Int) (w : World) (hgl : GL w) (h : strings_IndexByte.f a0 a1 = some r) :
    Calls Tryd.prog 71 #[.string a0, .int .u8 a1] w fun e w' => e = .returned (.int .i64 r) ∧ Drawn0 w w' := by
  cases h
  refine (Tryd.strings_IndexByte a0 a1 w).mono ?_
  rintro e w' ⟨he, rfl⟩
  exact ⟨he, Drawn0.refl _⟩
theorem toList_data (s : ByteArray) : s.toList = s.data.toList := ByteArray.toList_eq s
/-- What chars.Whole answers. -/
def wholeS (l : List UInt8) : Int × Bool := match Lib.atoiAll l with
  | .ok n => if Lib.itoa n = l then (n, true) else (0, false)
  | _ => (0, false)
def chars_Whole.f (a0 : ByteArray) : Option (Int × Bool) := if a0.size ≤ 281474976710656 then some (wholeS a0.data.toList) else none
theorem atoi_range {l : List UInt8} {n : Int} (h : Lib.atoiAll l = .ok n) : -9223372036854775808 ≤ n ∧ n ≤ 9223372036854775807 := by
  unfold Lib.atoiAll at h
  split at h
  · cases h
  · simp only at h
    split at h
    · cases h
    · cases h
    · split at h
      · cases h
      · split at h
        · cases h
        · rename_i h1 h2
          injection h with h
          rw [← h]
          split
          · rename_i hn
            have : ¬ 9223372036854775808 < _ := fun hc => h2 ⟨hn, hc⟩
            omega
          · rename_i hn
            have : ¬ 9223372036854775808 ≤ _ := fun hc => h1 ⟨hn, hc⟩
            omega
theorem chars_Whole.calls (a0 : ByteArray) (r1 : Int) (r2 : Bool) (w : World) (hgl : GL w) (h : chars_Whole.f a0 = some (r1, r2)) :
    Calls Tryd.prog 17 #[.string a0] w fun e w' => e = .returned (.tuple #[.int .i64 r1, .bool r2]) ∧ Below w.heap.size w w' := by
  have HGL := Aside0.mk hgl
  unfold chars_Whole.f at h
  by_cases hs : a0.size ≤ 281474976710656
  rotate_left
  · rw [if_neg hs] at h; cases h
  rw [if_pos hs] at h
  have hsA := Aside0.mk hs
  clear hs hgl
  injection h with h
  cases ha : Lib.atoiAll a0.data.toList with
  | ok n =>
    have hn := atoi_range ha
    have HA := Aside0.mk ha
    unfold wholeS at h
    rw [ha] at h
    clear ha
    simp only at h
    have atoi : ∀ W, Calls Tryd.prog 52 #[.string a0] W fun e w' => e = .returned (.tuple #[.int .i64 n, .nilIface]) ∧ Below W.heap.size W w' := fun W => by
      refine (Tryd.strconv_Atoi_ok a0 (by have := hsA.out; omega) n HA.out W).mono ?_
      rintro e w' ⟨he, rfl | ⟨t, rfl⟩⟩
      · exact ⟨he, Below.refl _ _⟩
      · exact ⟨he, bytes_below (Below.refl _ _) (Nat.le_refl _) _ _⟩
    have itoa : ∀ W, GL W → Calls Tryd.prog 53 #[.int .i64 n] W fun e w' => e = .returned (.string ⟨(Lib.itoa n).toArray⟩) ∧ Below W.heap.size W w' := fun W hW =>
      strconv_Itoa.calls n _ W hW (by unfold strconv_Itoa.f; rw [if_pos hn])
    by_cases he : Lib.itoa n = a0.data.toList
    · rw [if_pos he] at h
      injection h with h1 h2
      subst h1; subst h2
      have hb0 : (!(Lib.itoa n == a0.toList)) = false := by rw [toList_data, he]; simp
      clear he
      go_enter Tryd.func17, Tryd.ntmps17
      go_wp2_with fail
      refine (atoi _).mono ?_
      rintro e w1 ⟨rfl, hb⟩
      have HB := Aside0.mk hb; clear hb
      go_wp2_with fail
      refine (itoa _ (HGL.out.below HB.out)).mono ?_
      rintro e w2 ⟨rfl, hb⟩
      have HB2 := Aside0.mk (below_step HB.out hb); clear hb
      go_wp2_with fail
      go_ret2
      exact ⟨rfl, HB2.out⟩
    · rw [if_neg he] at h
      injection h with h1 h2
      subst h1; subst h2
      have hb0 : (!(Lib.itoa n == a0.toList)) = true := by rw [toList_data]; simpa using he
      clear he
      go_enter Tryd.func17, Tryd.ntmps17
      go_wp2_with fail
      refine (atoi _).mono ?_
      rintro e w1 ⟨rfl, hb⟩
      have HB := Aside0.mk hb; clear hb
      go_wp2_with fail
      refine (itoa _ (HGL.out.below HB.out)).mono ?_
      rintro e w2 ⟨rfl, hb⟩
      have HB2 := Aside0.mk (below_step HB.out hb); clear hb
      go_wp2_with fail
      go_ret2
      exact ⟨rfl, HB2.out⟩
  | range =>
    have HA := Aside0.mk ha
    unfold wholeS at h
    rw [ha] at h
    clear ha
    injection h with h1 h2
    subst h1; subst h2
    have atoi : ∀ W, GL W → Calls Tryd.prog 52 #[.string a0] W fun e w' => ∃ N, ∃ v : Int, e = .returned (.tuple #[.int .i64 v, .iface 107 (.pointer (some ⟨N, 0, none⟩))]) ∧ Below W.heap.size W w' := fun W hW => by
      obtain ⟨_, _, ⟨tp, p, hv⟩⟩ := hW
      refine (Tryd.strconv_Atoi_range_var a0 hsA.out HA.out tp p W hv).mono ?_
      rintro e w' ⟨N, he, _, _, hb⟩
      exact ⟨N, _, he, hb⟩
    go_enter Tryd.func17, Tryd.ntmps17
    go_wp2_with fail
    refine (atoi _ HGL.out).mono ?_
    rintro e w1 ⟨N, v, rfl, hb⟩
    have HB := Aside0.mk hb; clear hb
    go_wp2_with fail
    go_ret2
    exact ⟨rfl, HB.out⟩
  | _ =>
    have HA := Aside0.mk ha
    unfold wholeS at h
    rw [ha] at h
    clear ha
    injection h with h1 h2
    subst h1; subst h2
    have atoi : ∀ W, GL W → Calls Tryd.prog 52 #[.string a0] W fun e w' => ∃ N, e = .returned (.tuple #[.int .i64 0, .iface 107 (.pointer (some ⟨N, 0, none⟩))]) ∧ Below W.heap.size W w' := fun W hW => by
      obtain ⟨_, ⟨tp, p, hv⟩, _⟩ := hW
      refine (Tryd.strconv_Atoi_syntax_var a0 hsA.out HA.out tp p W hv).mono ?_
      rintro e w' ⟨N, he, _, _, hb⟩
      exact ⟨N, he, hb⟩
    go_enter Tryd.func17, Tryd.ntmps17
    go_wp2_with fail
    refine (atoi _ HGL.out).mono ?_
    rintro e w1 ⟨N, rfl, hb⟩
    have HB := Aside0.mk hb; clear hb
    go_wp2_with fail
    go_ret2
    exact ⟨rfl, HB.out⟩
end Go.Proofs.YtpanmmpkdbhofaaDoorE

namespace Go.Proofs.YtpanmmpkdbhofaaDoorE
open Go Go.RowKit Go.Proofs.YtpanmmpkdbhofaaDoorW.PrintWords Go.Proofs.YtpanmmpkdbhofaaDoorX
set_option linter.unusedVariables false
/-- What a byte is written as; empty: as it is. -/
def formL (n : Nat) : List UInt8 := if n = 38 then [38, 97, 109, 112, 59] else if n = 60 then [38, 108, 116, 59] else if n = 62 then [38, 103, 116, 59] else if n = 34 then [38, 113, 117, 111, 116, 59] else if n = 127 ∨ n < 32 then [38, 35] ++ Lib.itoa n ++ [59] else []
theorem e_dd_len : ∀ (k m : Nat), m < 10 ^ (k + 1) → (Lib.decDigits m).length ≤ k + 1
  | 0, m, h => by rw [Lib.decDigits, dif_pos (by simpa using h)]; simp
  | k + 1, m, h => by
    by_cases h1 : m < 10
    · rw [Lib.decDigits, dif_pos h1]; simp
    · have h2 : 10 ^ (k + 1 + 1) = 10 * 10 ^ (k + 1) := by rw [Nat.pow_succ, Nat.mul_comm]
      have := e_dd_len k (m / 10) (by omega)
      rw [Lib.decDigits, dif_neg h1, List.length_append, List.length_singleton]; omega
theorem e_itoa_len {n : Nat} (h : n ≤ 255) : (Lib.itoa n).length ≤ 3 := by
  have := e_dd_len 2 n (by omega)
  unfold Lib.itoa
  rw [if_neg (by omega), Int.toNat_natCast]; omega
theorem formL_len (n : Nat) : (formL n).length ≤ 6 := by
  unfold formL
  repeat' split
  all_goals first | simp | skip
  have := e_itoa_len (n := n) (by omega)
  omega
def escape_form.f (a0 : Int) : Option ByteArray := if 0 ≤ a0 ∧ a0 ≤ 255 then some ⟨(formL a0.toNat).toArray⟩ else none
theorem form_number (n : Nat) (hn : n ≤ 255) (p : Addr) (w : World) (hgl : GL w) (hp : w.cell? p = some (.int .u8 n)) :
    Calls Tryd.prog 74 #[.pointer (some p)] w fun e w' => e = .returned (.string ⟨([38, 35] ++ Lib.itoa n ++ [59]).toArray⟩) ∧ Below w.heap.size w w' := by
  have HGL := Aside0.mk hgl
  have hlen := e_itoa_len hn
  have itoa : ∀ W, GL W → Calls Tryd.prog 53 #[.int .i64 n] W fun e w' => e = .returned (.string ⟨(Lib.itoa n).toArray⟩) ∧ Below W.heap.size W w' := fun W hW =>
    strconv_Itoa.calls n _ W hW (by unfold strconv_Itoa.f; rw [if_pos (by omega)])
  clear hgl
  go_enter Tryd.func74, Tryd.ntmps74
  go_wp2_with fail
  refine (itoa _ HGL.out).mono ?_
  rintro e w1 ⟨rfl, hb⟩
  have HB := Aside0.mk hb; clear hb
  go_wp2_with fail
  go_ret
  exact ⟨by congr 2, HB.out⟩
theorem escape_form.calls (a0 : Int) (r : ByteArray) (w : World) (hgl : GL w) (h : escape_form.f a0 = some r) :
    Calls Tryd.prog 58 #[.int .u8 a0] w fun e w' => e = .returned (.string r) ∧ Below w.heap.size w w' := by
  unfold escape_form.f at h
  by_cases hr : 0 ≤ a0 ∧ a0 ≤ 255
  rotate_left
  · rw [if_neg hr] at h; cases h
  rw [if_pos hr] at h
  obtain ⟨n, rfl⟩ := Int.eq_ofNat_of_zero_le hr.1
  have hn : n ≤ 255 := by omega
  rw [Int.toNat_natCast] at h
  injection h with h
  have HGL := Aside0.mk hgl
  clear hr hgl
  have hmf : ∀ (fn : Fn) (first cap : Array Value) (w : World), (Instr.makeFunc fn first cap).run Tryd.prog w = .ok (.func fn first cap) w := fun _ _ _ _ => rfl
  have key : ∀ k : Nat, k < 256 → n ≠ k → ((n : Int) == (k : Int)) = false := by
    intro k hk hne
    rw [beq_eq_false_iff_ne]; omega
  unfold formL at h
  have BA : ∀ x : Value, Below w.heap.size w (w.alloc (.cells #[x] 5)) := fun x => (Below.refl _ _).alloc (Nat.le_refl _) _
  by_cases h38 : n = 38
  · subst h38
    rw [if_pos rfl] at h
    subst h
    go_enter Tryd.func58, Tryd.ntmps58
    go_wp2_with fail
    go_ret
    exact ⟨rfl, BA _⟩
  rw [if_neg h38] at h
  by_cases h60 : n = 60
  · subst h60
    rw [if_pos rfl] at h
    subst h
    go_enter Tryd.func58, Tryd.ntmps58
    go_wp2_with fail
    go_ret
    exact ⟨rfl, BA _⟩
  rw [if_neg h60] at h
  by_cases h62 : n = 62
  · subst h62
    rw [if_pos rfl] at h
    subst h
    go_enter Tryd.func58, Tryd.ntmps58
    go_wp2_with fail
    go_ret
    exact ⟨rfl, BA _⟩
  rw [if_neg h62] at h
  by_cases h34 : n = 34
  · subst h34
    rw [if_pos rfl] at h
    subst h
    go_enter Tryd.func58, Tryd.ntmps58
    go_wp2_with fail
    go_ret
    exact ⟨rfl, BA _⟩
  rw [if_neg h34] at h
  have k38 := key 38 (by omega) h38
  have k60 := key 60 (by omega) h60
  have k62 := key 62 (by omega) h62
  have k34 := key 34 (by omega) h34
  by_cases h127 : n = 127
  · subst h127
    rw [if_pos (.inl rfl)] at h
    subst h
    clear k38 k60 k62 k34 key
    go_enter Tryd.func58, Tryd.ntmps58
    go_wp2_with fail
    refine (form_number 127 (by omega) _ _ (HGL.out.below (BA _)) (by rw [World.cell?_alloc_new]; rfl)).mono ?_
    rintro e w1 ⟨rfl, hb⟩
    have HB := Aside0.mk (below_step (BA _) hb); clear hb
    go_wp2_with fail
    go_ret
    exact ⟨rfl, HB.out⟩
  have k127 := key 127 (by omega) h127
  by_cases h32 : n < 32
  · rw [if_pos (.inr h32)] at h
    subst h
    have k32 : (n : Int) < 32 := by omega
    have hnA := Aside0.mk hn
    clear h38 h60 h62 h34 h127 h32 key hn
    go_enter Tryd.func58, Tryd.ntmps58
    go_wp2_with fail
    refine (form_number n hnA.out _ _ (HGL.out.below (BA _)) (by rw [World.cell?_alloc_new]; rfl)).mono ?_
    rintro e w1 ⟨rfl, hb⟩
    have HB := Aside0.mk (below_step (BA _) hb); clear hb
    go_wp2_with fail
    go_ret
    exact ⟨rfl, HB.out⟩
  · rw [if_neg (by omega)] at h
    subst h
    have k32 : ¬ (n : Int) < 32 := by omega
    clear h38 h60 h62 h34 h127 h32 key hn
    go_enter Tryd.func58, Tryd.ntmps58
    go_wp2_with fail
    go_ret
    exact ⟨rfl, BA _⟩
end Go.Proofs.YtpanmmpkdbhofaaDoorE

namespace Go.Proofs.YtpanmmpkdbhofaaDoorE
open Go Go.RowKit Go.Proofs.YtpanmmpkdbhofaaDoorW.PrintWords Go.Proofs.YtpanmmpkdbhofaaDoorX
set_option linter.unusedVariables false
theorem info_builder : (Tryd.prog.info? 77).map (·.size) = some 2 := by kernel_rfl
theorem info_byte : (Tryd.prog.info? 5).map (fun i => (i.zero, i.size, i.bytes)) = some (some (.int .u8 0), 1, 1) := by kernel_rfl
theorem lies_builder : liesAt Tryd.prog Tryd.prog.depth 77 (2 / Tryd.prog.cellsOf 77) 0 77 1 = true := by kernel_rfl
set_option maxRecDepth 100000 in
theorem b_check_used (b : Nat) (w : World) (h0 : w.cell? ⟨b, 0, none⟩ = some (.pointer (some ⟨b, 0, none⟩))) :
    Calls Tryd.prog 75 #[.pointer (some ⟨b, 0, none⟩)] w fun e w' => e = .returned (.tuple #[]) ∧ w' = w := by
  obtain ⟨j, hj, _⟩ := Option.map_eq_some_iff.1 info_builder
  go_enter Tryd.func75, Tryd.ntmps75
  go_wp2
  rw [Lib.run_neq_ptr_same w _ Tryd.underlying75 hj]
  go_wp2
  go_end0
  exact ⟨rfl, rfl⟩
set_option maxRecDepth 100000 in
theorem b_check_fresh (b : Nat) (w : World) (h0 : w.cell? ⟨b, 0, none⟩ = some (.pointer none)) (hsh : w.shape? b = some (77, 2)) (hfz : w.frozen? ⟨b, 0, none⟩ = false) :
    Calls Tryd.prog 75 #[.pointer (some ⟨b, 0, none⟩)] w fun e w' => e = .returned (.tuple #[]) ∧ w' = w.setCell ⟨b, 0, none⟩ (.pointer (some ⟨b, 0, none⟩)) := by
  obtain ⟨j, hj, hjs⟩ := Option.map_eq_some_iff.1 info_builder
  go_enter Tryd.func75, Tryd.ntmps75
  go_wp2
  rw [Lib.run_to_unsafe w ⟨b, 0, none⟩ Tryd.underlying75 Tryd.underlying111 hj (by rw [hjs]; decide) hsh (Nat.zero_lt_succ 1)]
  simp only [Result.andThen]
  rw [Oper.upon_value]
  go_wp2
  rw [run_callFunc_extern Tryd.func91 (by kernel_rfl) (by kernel_rfl) (by kernel_rfl) (e := Extern.AbiNoEscape.same) (by kernel_rfl)]
  rw [Lib.run_noEscape]
  simp only [Result.andThen]
  rw [Oper.upon_value]
  go_wp2
  rw [Lib.run_from_unsafe w ⟨b, 0, none⟩ Tryd.underlying111 Tryd.underlying75 hj hsh lies_builder]
  simp only [Result.andThen]
  rw [Oper.upon_value]
  go_wp2
  go_end0
  exact ⟨rfl, rfl⟩
theorem b_check (B b : Nat) (bs : List Value) (w : World) (h : Lib.IsBuilderF 77 5 B b bs w) :
    Calls Tryd.prog 75 #[.pointer (some ⟨b, 0, none⟩)] w fun e w' => e = .returned (.tuple #[]) ∧ (Lib.BuilderAtF 77 5 B b (.pointer (some ⟨b, 0, none⟩)) bs w' ∧ Below B w w' ∧ Lib.OthersKept 5 (some b) w w') := by
  rcases h with h | h
  · refine (b_check_fresh b w h.cell0 h.shape h.frozen0).mono ?_
    rintro e w' ⟨rfl, rfl⟩
    exact ⟨rfl, h.used _, (Below.refl B w).setCell (p := ⟨b, 0, none⟩) h.1 _, (Lib.OthersKept.refl _ _ w).setCell ⟨b, 0, none⟩ rfl _⟩
  · refine (b_check_used b w h.cell0).mono ?_
    rintro e w' ⟨rfl, rfl⟩
    exact ⟨rfl, h, Below.refl B _, Lib.OthersKept.refl _ _ _⟩
set_option maxHeartbeats 1000000 in
set_option maxRecDepth 100000 in
theorem b_byte (B b : Nat) (l : List UInt8) (c : UInt8) (w : World) (h : Lib.IsBuilderF 77 5 B b (Lib.byteCells l) w) (hlen : l.length + 1 ≤ 140737488355328) (hBw : B ≤ w.heap.size) :
    Calls Tryd.prog 59 #[.pointer (some ⟨b, 0, none⟩), .int .u8 c.toNat] w fun e w' => e = .returned .nilIface ∧ (Lib.IsBuilderF 77 5 B b (Lib.byteCells (l ++ [c])) w' ∧ Below B w w' ∧ Lib.OthersKept 5 (some b) w w') := by
  obtain ⟨i0, hi, hz0, hz1, hz2⟩ := info_parts info_byte
  have hbl := Lib.byteCells_length l
  go_enter Tryd.func59, Tryd.ntmps59
  go_wp2_with fail
  refine (b_check B b _ _ h).mono ?_
  rintro e w1 ⟨rfl, h1, hb1, hk1⟩
  obtain ⟨hB, v, hbk, hown, hne⟩ := h1
  have c0 : w1.cell? ⟨b, 0, none⟩ = some (.pointer (some ⟨b, 0, none⟩)) := by rw [Lib.cell_of_heap hbk]; rfl
  have c1 : w1.cell? ⟨b, 1, none⟩ = some v := by rw [Lib.cell_of_heap hbk]; rfl
  go_wp2_with (at_builtin; refine wpList_append_ownF _ rfl _ _ 73 rfl B 5 i0 (.int .u8 0) 1 1 Tryd.underlying73 hi hz0 hz1 hz2 rfl (by decide) _ _ _ rfl (hown.alloc _) ⟨w1.heap.size, 0, none⟩ 1 1 [.int .u8 c.toNat] rfl rfl ?c1 ?c2 ?c3 ?c4 ?c5 ?_)
  case c1 =>
    intro j u hj
    match j, hj with
    | 0, hj => simp at hj; subst hj; simp [Addr.add]
  case c2 => intro u hu; simp at hu; subst hu; rfl
  case c3 => unfold maxLen; omega
  case c4 => omega
  case c5 => have := hb1.size; simp; omega
  intro v' w2 hown' hgrow _
  have hlt : b < w1.heap.size := by
    rcases Nat.lt_or_ge b w1.heap.size with h' | h'
    · exact h'
    · simp [Array.getElem?_eq_none h'] at hbk
  have hb2 : w2.heap[b]? = some (.cells #[.pointer (some ⟨b, 0, none⟩), v] 77 (0, 0)) := by
    rw [hgrow.block b (by simp; omega) (fun e => hne e.symm), Lib.alloc_old w1 _ b hlt]
    exact hbk
  have d0 : w2.cell? ⟨b, 0, none⟩ = some (.pointer (some ⟨b, 0, none⟩)) := by rw [Lib.cell_of_heap hb2]; rfl
  have d1 : w2.cell? ⟨b, 1, none⟩ = some v := by rw [Lib.cell_of_heap hb2]; rfl
  have f1 : w2.frozen? ⟨b, 1, none⟩ = false := Lib.frozen_of_heap hb2 1
  obtain ⟨g, cap, rfl⟩ : ∃ g cap, v' = .slice (some ⟨g, 0, none⟩) (l.length + 1) cap := by
    rcases hown'.2 with ⟨_, h0⟩ | ⟨g, cap, cur, fz, hv, _⟩
    · omega
    · exact ⟨g, cap, hv⟩
  go_wp2
  go_ret
  refine ⟨rfl, ?_, ?_, ((hk1.alloc _).grown hgrow (Lib.ownsRowF_kind (hown.alloc _))).setCell ⟨b, 1, none⟩ rfl _⟩
  · have e : Lib.byteCells (l ++ [c]) = Lib.byteCells l ++ [.int .u8 c.toNat] := by simp [Lib.byteCells]
    rw [e]
    exact .inr (Lib.BuilderAtF.put (T := 77) (e := 5) hB hb2 (bs' := Lib.byteCells l ++ [.int .u8 c.toNat]) (by rw [List.length_append, Lib.byteCells_length]; exact hown') (by decide))
  · exact ((hb1.alloc (by have := hb1.size; omega) _).grown hgrow (by have := hb1.size; simp; omega) (fun k hk => (hown.lt k hk).1)).setCell (p := ⟨b, 1, none⟩) hB _
set_option maxHeartbeats 1000000 in
set_option maxRecDepth 100000 in
theorem b_string (B b : Nat) (l : List UInt8) (s : ByteArray) (w : World) (h : Lib.IsBuilderF 77 5 B b (Lib.byteCells l) w) (hlen : l.length + s.size ≤ 140737488355328) (hBw : B ≤ w.heap.size) :
    Calls Tryd.prog 61 #[.pointer (some ⟨b, 0, none⟩), .string s] w fun e w' => e = .returned (.tuple #[.int .i64 s.size, .nilIface]) ∧ (Lib.IsBuilderF 77 5 B b (Lib.byteCells (l ++ s.data.toList)) w' ∧ Below B w w' ∧ Lib.OthersKept 5 (some b) w w') := by
  obtain ⟨i0, hi, hz0, hz1, hz2⟩ := info_parts info_byte
  have hbl := Lib.byteCells_length l
  go_enter Tryd.func61, Tryd.ntmps61
  go_wp2_with fail
  refine (b_check B b _ _ h).mono ?_
  rintro e w1 ⟨rfl, h1, hb1, hk1⟩
  obtain ⟨hB, v, hbk, hown, hne⟩ := h1
  have c0 : w1.cell? ⟨b, 0, none⟩ = some (.pointer (some ⟨b, 0, none⟩)) := by rw [Lib.cell_of_heap hbk]; rfl
  have c1 : w1.cell? ⟨b, 1, none⟩ = some v := by rw [Lib.cell_of_heap hbk]; rfl
  go_wp2_with (at_builtin; refine Lib.wpList_append_own_stringF _ rfl _ _ 73 9 rfl B 5 i0 Tryd.underlying73 Tryd.underlying9 hi hz0 hz1 hz2 _ _ _ rfl hown s rfl ?c3 ?c4 ?c5 ?_)
  case c3 => unfold maxLen; omega
  case c4 => omega
  case c5 => have := hb1.size; omega
  intro v' w2 hown' hgrow _
  have hlt : b < w1.heap.size := by
    rcases Nat.lt_or_ge b w1.heap.size with h' | h'
    · exact h'
    · simp [Array.getElem?_eq_none h'] at hbk
  have hb2 : w2.heap[b]? = some (.cells #[.pointer (some ⟨b, 0, none⟩), v] 77 (0, 0)) := by
    rw [hgrow.block b hlt (fun e => hne e.symm)]
    exact hbk
  have d0 : w2.cell? ⟨b, 0, none⟩ = some (.pointer (some ⟨b, 0, none⟩)) := by rw [Lib.cell_of_heap hb2]; rfl
  have d1 : w2.cell? ⟨b, 1, none⟩ = some v := by rw [Lib.cell_of_heap hb2]; rfl
  have f1 : w2.frozen? ⟨b, 1, none⟩ = false := Lib.frozen_of_heap hb2 1
  obtain ⟨ao, n', cap, rfl⟩ : ∃ ao n' cap, v' = .slice ao n' cap := by
    rcases hown'.2 with ⟨hv, _⟩ | ⟨g, cap, cur, fz, hv, _⟩
    · exact ⟨_, _, _, hv⟩
    · exact ⟨_, _, _, hv⟩
  go_wp2
  go_ret2
  refine ⟨rfl, ?_, ?_, (hk1.grown hgrow (Lib.ownsRowF_kind hown)).setCell ⟨b, 1, none⟩ rfl _⟩
  · have e : Lib.byteCells (l ++ s.data.toList) = Lib.byteCells l ++ Lib.strCells s := by simp [Lib.byteCells, Lib.strCells]
    rw [e]
    exact .inr (Lib.BuilderAtF.put (T := 77) (e := 5) hB hb2 (bs' := Lib.byteCells l ++ Lib.strCells s) (by rw [List.length_append, Lib.byteCells_length, Lib.strCells_length]; exact hown') (by decide))
  · exact (hb1.grown hgrow (by have := hb1.size; omega) (fun k hk => (hown.lt k hk).1)).setCell (p := ⟨b, 1, none⟩) hB _
theorem b_below {T e : TypeId} {B b : Nat} {bs : List Value} {W W' : World} (h : Lib.IsBuilderF T e B b bs W) (hb : Below W.heap.size W W') : Lib.IsBuilderF T e B b bs W' := by
  have one : ∀ p, Lib.BuilderAtF T e B b p bs W → Lib.BuilderAtF T e B b p bs W' := by
    intro p hp
    have hlt := hp.lt
    obtain ⟨hB, v, hv, hown, hne⟩ := hp
    exact ⟨hB, v, (hb.block b hlt).trans hv, hown.kept (row := none) ⟨hb.os, hb.tape, hb.output, hb.size, fun k hk _ => hb.block k hk⟩ (Classical.em _), hne⟩
  exact h.elim (fun x => .inl (one _ x)) (fun x => .inr (one _ x))
end Go.Proofs.YtpanmmpkdbhofaaDoorE

namespace Go.Proofs.YtpanmmpkdbhofaaDoorE
open Go Go.RowKit Go.Proofs.YtpanmmpkdbhofaaDoorW.PrintWords Go.Proofs.YtpanmmpkdbhofaaDoorX
set_option linter.unusedVariables false
/-- What a byte is written as, itself if it has no form. -/
def escB (c : UInt8) : List UInt8 := if formL c.toNat = [] then [c] else formL c.toNat
def escS (l : List UInt8) : List UInt8 := l.flatMap escB
theorem escB_len (c : UInt8) : (escB c).length ≤ 6 := by
  unfold escB
  split
  · simp
  · exact formL_len _
theorem escS_len : ∀ l : List UInt8, (escS l).length ≤ 6 * l.length
  | [] => by simp [escS]
  | c :: t => by
    have h := escS_len t
    have h2 := escB_len c
    unfold escS at h ⊢
    rw [List.flatMap_cons, List.length_append, List.length_cons]; omega
theorem escS_snoc (l : List UInt8) (c : UInt8) : escS (l ++ [c]) = escS l ++ escB c := by simp [escS]
theorem escS_take (s : ByteArray) (k : Nat) (h : k < s.data.toList.length) : escS (s.data.toList.take (k + 1)) = escS (s.data.toList.take k) ++ escB s.data.toList[k] := by
  rw [List.take_succ_eq_append_getElem h, escS_snoc]
theorem escS_take_len (s : ByteArray) (k : Nat) : (escS (s.data.toList.take k)).length ≤ 6 * k := by
  have h := escS_len (s.data.toList.take k)
  have h2 : (s.data.toList.take k).length ≤ k := by rw [List.length_take]; omega
  omega
def escape_Escape.f (a0 : ByteArray) : Option ByteArray := if a0.size ≤ 1000000000000 then some ⟨(escS a0.data.toList).toArray⟩ else none
set_option maxHeartbeats 1000000 in
theorem escape_Escape.calls (a0 : ByteArray) (r : ByteArray) (w : World) (hgl : GL w) (h : escape_Escape.f a0 = some r) :
    Calls Tryd.prog 31 #[.string a0] w fun e w' => e = .returned (.string r) ∧ Below w.heap.size w w' := by
  unfold escape_Escape.f at h
  by_cases hr : a0.size ≤ 1000000000000
  rotate_left
  · rw [if_neg hr] at h; cases h
  rw [if_pos hr] at h
  injection h with h
  subst h
  have HGL := Aside0.mk hgl
  have HR := Aside0.mk hr
  clear hr hgl
  have H0 := Aside0.mk (Lib.IsBuilderF.of (Lib.fresh_isBuilder 77 5 w))
  have HB0 := Aside0.mk ((Below.refl w.heap.size w).alloc (Nat.le_refl _) (.cells #[.pointer none, .slice none 0 0] 77))
  go_enter Tryd.func31, Tryd.ntmps31
  go_wp2_with fail
  go_loopw [8] (fun i wr => ∃ k : Nat, k ≤ a0.size ∧ i = .int .i64 k ∧ Lib.IsBuilderF 77 5 w.heap.size w.heap.size (Lib.byteCells (escS (a0.data.toList.take k))) wr ∧ Below w.heap.size w wr) (fun i _ => a0.size - (intOf i).toNat)
  case atStart => exact ⟨0, Nat.zero_le _, rfl, H0.out, HB0.out⟩
  case round =>
    obtain ⟨k, hk, rfl, hib, hbl⟩ := hrel
    have HI := Aside0.mk hib
    have HBL := Aside0.mk hbl
    have hr := HR.out
    clear hib hbl
    go_wp2_with fail
    · have hlt : k < a0.size := by assumption
      have hcx : a0[k] = a0.data.toList[k]'(by simpa using hlt) := by simp [ByteArray.getElem_eq_getElem_data]
      have HT := Aside0.mk (escS_take a0 k (by simpa using hlt))
      rw [← hcx] at HT
      generalize hck : a0[k] = c at HT ⊢
      have hc := UInt8.toNat_lt c
      have hf : escape_form.f (c.toNat : Int) = some ⟨(formL c.toNat).toArray⟩ := by
        unfold escape_form.f
        rw [if_pos (by omega), Int.toNat_natCast]
      refine (escape_form.calls _ _ wr (HGL.out.below HBL.out) hf).mono ?_
      rintro e w1 ⟨rfl, hb⟩
      have HB1 := Aside0.mk hb
      clear hb hf hcx
      have HK := Aside0.mk hck
      clear hck
      have LN := Aside0.mk (escS_take_len a0 k)
      have LF := Aside0.mk (formL_len c.toNat)
      have hsz : w.heap.size ≤ w1.heap.size := Nat.le_trans HBL.out.size HB1.out.size
      have IB1 := Aside0.mk (b_below HI.out HB1.out)
      have BB1 := Aside0.mk (below_step HBL.out HB1.out)
      go_wp2_with fail
      · refine (b_string w.heap.size w.heap.size _ ⟨(formL c.toNat).toArray⟩ w1 IB1.out (by have := LN.out; have := LF.out; have := HR.out; simp [ByteArray.size]; omega) hsz).mono ?_
        rintro e w2 ⟨rfl, hib2, hb2, -⟩
        have H2 := Aside0.mk hib2
        have B2 := Aside0.mk (BB1.out.trans hb2)
        clear hib2 hb2
        go_wp2_with fail
        go_roundw
        case rel =>
          refine ⟨k + 1, by omega, by go_num, ?_, B2.out⟩
          have hh : (!(formL c.toNat).isEmpty) = true := by assumption
          have hne : ¬ formL c.toNat = [] := by simpa using hh
          have e1 : escB c = formL c.toNat := by unfold escB; rw [if_neg hne]
          have := H2.out
          rw [HT.out, e1]
          exact this
        case measure => simp [intOf]; omega
      · rw [HK.out]
        refine (b_byte w.heap.size w.heap.size _ c w1 IB1.out (by have := LN.out; have := HR.out; omega) hsz).mono ?_
        rintro e w2 ⟨rfl, hib2, hb2, -⟩
        have H2 := Aside0.mk hib2
        have B2 := Aside0.mk (BB1.out.trans hb2)
        clear hib2 hb2
        go_wp2_with fail
        go_roundw
        case rel =>
          refine ⟨k + 1, by omega, by go_num, ?_, B2.out⟩
          have hh : (!(formL c.toNat).isEmpty) = false := by assumption
          have hne : formL c.toNat = [] := by simpa using hh
          have e1 : escB c = [c] := by unfold escB; rw [if_pos hne]
          have := H2.out
          rw [HT.out, e1]
          exact this
        case measure => simp [intOf]; omega
    · have hge : ¬ k < a0.size := by assumption
      have hta : a0.data.toList.take k = a0.data.toList := List.take_of_length_le (by simpa using hge)
      have HI2 := Aside0.mk (hta ▸ HI.out)
      refine (Tryd.Builder_String_any_f w.heap.size w.heap.size _ wr HI2.out HBL.out.size).mono ?_
      rintro e w1 ⟨rfl, -, hb⟩
      have HB1 := Aside0.mk (HBL.out.trans hb)
      clear hb
      go_wp2_with fail
      go_ret
      exact ⟨rfl, HB1.out⟩
end Go.Proofs.YtpanmmpkdbhofaaDoorE

namespace Go.Proofs.YtpanmmpkdbhofaaDoorE
open Go Go.RowKit Go.Proofs.YtpanmmpkdbhofaaDoorW.PrintWords Go.Proofs.YtpanmmpkdbhofaaDoorX
set_option linter.unusedVariables false
def atoiS (l : List UInt8) : Int × Option Int := match Lib.atoiAll l with
  | .ok n => (n, none)
  | .range => (Lib.atoiSat l, some 0)
  | _ => (0, some 0)
def strconv_Atoi.f (a0 : ByteArray) : Option (Int × Option Int) := if a0.size ≤ 281474976710656 then some (atoiS a0.data.toList) else none
/-- What is handed back: a number, and no error or one that is not nil. -/
def AtoiTells (r1 : Int) (e : Ending) : Option Int → Prop
  | none => e = .returned (.tuple #[.int .i64 r1, .nilIface])
  | some _ => ∃ N, e = .returned (.tuple #[.int .i64 r1, .iface 107 (.pointer (some ⟨N, 0, none⟩))])
theorem strconv_Atoi.calls (a0 : ByteArray) (r1 : Int) (r2 : Option Int) (w : World) (hgl : GL w) (h : strconv_Atoi.f a0 = some (r1, r2)) :
    Calls Tryd.prog 52 #[.string a0] w fun e w' => AtoiTells r1 e r2 ∧ Below w.heap.size w w' := by
  unfold strconv_Atoi.f at h
  by_cases hs : a0.size ≤ 281474976710656
  rotate_left
  · rw [if_neg hs] at h; cases h
  rw [if_pos hs] at h
  injection h with h
  unfold atoiS at h
  cases ha : Lib.atoiAll a0.data.toList with
  | ok n =>
    rw [ha] at h
    injection h with h1 h2
    subst h1; subst h2
    refine (Tryd.strconv_Atoi_ok a0 (by omega) n ha w).mono ?_
    rintro e w' ⟨he, hw⟩
    refine ⟨he, ?_⟩
    rcases hw with rfl | ⟨t, rfl⟩
    · exact Below.refl _ _
    · exact bytes_below (Below.refl _ _) (Nat.le_refl _) _ _
  | range =>
    rw [ha] at h
    injection h with h1 h2
    subst h1; subst h2
    obtain ⟨_, _, ⟨tp, p, hv⟩⟩ := hgl
    refine (Tryd.strconv_Atoi_range_var a0 hs ha tp p w hv).mono ?_
    rintro e w' ⟨N, he, _, _, hb⟩
    exact ⟨⟨N, he⟩, hb⟩
  | _ =>
    rw [ha] at h
    injection h with h1 h2
    subst h1; subst h2
    obtain ⟨_, ⟨tp, p, hv⟩, _⟩ := hgl
    refine (Tryd.strconv_Atoi_syntax_var a0 hs ha tp p w hv).mono ?_
    rintro e w' ⟨N, he, _, _, hb⟩
    exact ⟨⟨N, he⟩, hb⟩
end Go.Proofs.YtpanmmpkdbhofaaDoorE

namespace Go.Proofs.YtpanmmpkdbhofaaDoor.P03r
open Go.RowKit Go.Proofs.YtpanmmpkdbhofaaDoorE Go.Proofs.YtpanmmpkdbhofaaDoorW.PrintWords Go.Proofs.YtpanmmpkdbhofaaDoorW.PrintLast Go.Proofs.YtpanmmpkdbhofaaDoorW.PrintMore
attribute [local go_sem] max2_int min2_int max_two min_two max_three min_three max_four min_four   -- for this text's walks alone
set_option linter.unusedVariables false
set_option linter.unusedSimpArgs false

def errW : Option Int → Value
  | none => .nilIface
  | some c => .iface 0 (.int .i64 c)
theorem errW_none : errW none = .nilIface := rfl
theorem errW_some (c : Int) : errW (some c) = .iface 0 (.int .i64 c) := rfl

theorem info5 : (Tryd.prog.info? 5).map (fun i => (i.zero, i.size, i.bytes)) = some (some (.int .u8 0), 1, 1) := by kernel_rfl

end Go.Proofs.YtpanmmpkdbhofaaDoor.P03r

namespace Go.Proofs.YtpanmmpkdbhofaaDoor.P03r
open Go.RowKit Go.Proofs.YtpanmmpkdbhofaaDoorE Go.Proofs.YtpanmmpkdbhofaaDoorW.PrintWords Go.Proofs.YtpanmmpkdbhofaaDoorW.PrintLast Go.Proofs.YtpanmmpkdbhofaaDoorW.PrintMore
attribute [local go_sem] max2_int min2_int max_two min_two max_three min_three max_four min_four   -- for this text's walks alone
set_option linter.unusedVariables false
set_option linter.unusedSimpArgs false

def stringslite_HasPrefix.f (a0 : ByteArray) (a1 : ByteArray) : Option (Bool) := if (a0.size : Int) ≥ (a1.size : Int) then (if 0 ≤ (a1.size : Int) then (if (a1.size : Int) ≤ (a0.size : Int) then (some ((a0.extract 0 ((a1.size : Int) : Int).toNat).toList == a1.toList)) else (none)) else (none)) else (some false)
set_option maxHeartbeats 8000000 in
set_option maxRecDepth 100000 in
theorem stringslite_HasPrefix.calls (a0 : ByteArray) (a1 : ByteArray) (r : Bool) (w : World) (hgl : Go.Proofs.YtpanmmpkdbhofaaDoorX.GL w) (h : stringslite_HasPrefix.f a0 a1 = some r) :
    Calls Tryd.prog 90 #[.string a0, .string a1] w fun e w' => e = .returned (.bool r) ∧ Drawn0 w w' := by
  have HGL := Aside0.mk hgl
  clear hgl
  have H : (if (a0.size : Int) ≥ (a1.size : Int) then (if 0 ≤ (a1.size : Int) then (if (a1.size : Int) ≤ (a0.size : Int) then (some ((a0.extract 0 ((a1.size : Int) : Int).toNat).toList == a1.toList)) else (none)) else (none)) else (some false)) = some r := h
  clear h
  by_cases c3 : (a0.size : Int) ≥ (a1.size : Int)
  · rw [if_pos c3] at H
    have c3b0 : decide ((a1.size : Int) ≤ (a0.size : Int)) = true := decide_eq_true c3
    have c3b1 : decide (a1.size ≤ a0.size) = true := decide_eq_true (Int.ofNat_le.mp c3)
    clear c3
    by_cases c4 : 0 ≤ (a1.size : Int)
    · rw [if_pos c4] at H
      have c4b0 := eq_true c4
      have c4b1 : decide (0 ≤ (a1.size : Int)) = true := decide_eq_true c4
      clear c4
      by_cases c5 : (a1.size : Int) ≤ (a0.size : Int)
      · rw [if_pos c5] at H
        have c5b0 := eq_true c5
        have c5b1 : decide ((a1.size : Int) ≤ (a0.size : Int)) = true := decide_eq_true c5
        clear c5
        obtain rfl := Option.some.inj H
        go_enter Tryd.func90, Tryd.ntmps90
        go_wp2
        go_ret
        exact ⟨by first | rfl | (simp; done) | (simp [*]; done), by repeat (first | exact Drawn0.refl _ | apply Drawn0.step)⟩
      · rw [if_neg c5] at H
        exact absurd H (by simp)
    · rw [if_neg c4] at H
      exact absurd H (by simp)
  · rw [if_neg c3] at H
    have c3b0 : decide ((a1.size : Int) ≤ (a0.size : Int)) = false := decide_eq_false c3
    have c3b1 : decide (a1.size ≤ a0.size) = false := decide_eq_false (fun h => c3 (Int.ofNat_le.mpr h))
    clear c3
    obtain rfl := Option.some.inj H
    go_enter Tryd.func90, Tryd.ntmps90
    go_wp2
    go_ret
    exact ⟨by first | rfl | (simp; done) | (simp [*]; done), by repeat (first | exact Drawn0.refl _ | apply Drawn0.step)⟩

def strings_HasPrefix.f (a0 : ByteArray) (a1 : ByteArray) : Option (Bool) := (stringslite_HasPrefix.f a0 a1).bind fun t101 => (some t101)
set_option maxHeartbeats 8000000 in
set_option maxRecDepth 100000 in
theorem strings_HasPrefix.calls (a0 : ByteArray) (a1 : ByteArray) (r : Bool) (w : World) (hgl : Go.Proofs.YtpanmmpkdbhofaaDoorX.GL w) (h : strings_HasPrefix.f a0 a1 = some r) :
    Calls Tryd.prog 73 #[.string a0, .string a1] w fun e w' => e = .returned (.bool r) ∧ Drawn0 w w' := by
  have HGL := Aside0.mk hgl
  clear hgl
  have H : ((stringslite_HasPrefix.f a0 a1).bind fun t101 => (some t101)) = some r := h
  clear h
  replace H := Option.bind_eq_some_iff.mp H
  obtain ⟨t101, A30, H⟩ := H
  replace H : (some t101) = some r := H
  have A3 := Aside0.mk A30
  clear A30
  obtain rfl := Option.some.inj H
  go_enter Tryd.func73, Tryd.ntmps73
  go_wp2_with (first | ((with_reducible refine gate_callee (f := 90) rfl ?_); refine goesL_ (some 7) rfl rfl Tryd.func90 (by kernel_rfl) rfl #[.string a0, .string a1] rfl (by (try simp only [List.map_toArray, List.map_cons, List.map_nil]); first | done | rfl | (simp only [List.length_drop, List.length_take]; rfl)) ?_; (with_reducible refine (stringslite_HasPrefix.calls a0 a1 t101 _ ?side1 A3.out).mono ?_); (case side1 => first | exact HGL.out | (repeat (first | exact HGL.out | (with_reducible refine Go.Proofs.YtpanmmpkdbhofaaDoorX.GL.drewN ?_ _) | (with_reducible refine Go.Proofs.YtpanmmpkdbhofaaDoorX.GL.drew ?_)))); rintro e w' ⟨rfl, ⟨nd, rfl⟩⟩; refine ⟨_, rfl, ?_⟩))
  go_ret
  exact ⟨by first | rfl | (simp; done) | (simp [*]; done), by repeat (first | exact Drawn0.refl _ | apply Drawn0.step)⟩

end Go.Proofs.YtpanmmpkdbhofaaDoor.P03r

namespace Go.Proofs.YtpanmmpkdbhofaaDoor.P03r
open Go.RowKit Go.Proofs.YtpanmmpkdbhofaaDoorE Go.Proofs.YtpanmmpkdbhofaaDoorW.PrintWords Go.Proofs.YtpanmmpkdbhofaaDoorW.PrintLast Go.Proofs.YtpanmmpkdbhofaaDoorW.PrintMore
attribute [local go_sem] max2_int min2_int max_two min_two max_three min_three max_four min_four   -- for this text's walks alone
set_option linter.unusedVariables false
set_option linter.unusedSimpArgs false

def escape_reference.l0 : Nat → ByteArray → List Int → Int → Int → Option (Int × Int)
  | 0, _, _, _, _ => none
  | k + 1, x0, x9, x10, x11 => if x11 < x10 then (if 0 ≤ x11 then (if x11 < (x9.length : Int) then ((escape_form.f (rd x9 x11)).bind fun t106 => ((strings_HasPrefix.f x0 t106).bind fun t107 => (if t107 = true then ((escape_form.f (rd x9 x11)).bind fun t108 => (some (rd x9 x11, (t108.size : Int)))) else (escape_reference.l0 k x0 x9 x10 (wrap64 (x11 + 1)))))) else (none)) else (none)) else ((strings_HasPrefix.f x0 (⟨#[38, 35]⟩ : ByteArray)).bind fun t109 => (if t109 = true then (if 0 ≤ (mn (x0.size : Int) 6) then (if (mn (x0.size : Int) 6) ≤ (x0.size : Int) then ((strings_IndexByte.f (x0.extract 0 ((mn (x0.size : Int) 6) : Int).toNat) 59).bind fun t110 => (if t110 < 0 then (some (0, 0)) else (if 2 ≤ t110 then (if t110 ≤ (x0.size : Int) then ((strconv_Atoi.f (x0.extract 2 (t110 : Int).toNat)).bind fun bt111 => (if bt111.2.isNone = true then (if bt111.1 < 0 then (some (0, 0)) else (if bt111.1 > 127 then (some (0, 0)) else ((escape_form.f ((bt111.1) % 256)).bind fun t114 => (if 0 ≤ (wrap64 (t110 + 1)) then (if (wrap64 (t110 + 1)) ≤ (x0.size : Int) then (if t114.toList = (x0.extract 0 ((wrap64 (t110 + 1)) : Int).toNat).toList then (some ((bt111.1) % 256, wrap64 (t110 + 1))) else (some (0, 0))) else (none)) else (none))))) else (some (0, 0)))) else (none)) else (none)))) else (none)) else (none)) else (some (0, 0))))
def escape_reference.f (k : Nat) (a0 : ByteArray) : Option (Int × Int) := (some (([38, 60, 62, 34] : List Int) : List Int)).bind fun y102 => (escape_reference.l0 k a0 y102 (y102.length : Int) 0)
theorem escape_reference.mono_l : ∀ k, (∀ y0 y1 y2 y3, LeO (escape_reference.l0 k y0 y1 y2 y3) (escape_reference.l0 (k + 1) y0 y1 y2 y3))
  | 0 => fun _ _ _ _ r h => by simp [escape_reference.l0] at h
  | k + 1 => by
    have ih0 := escape_reference.mono_l k
    · intro y0 y1 y2 y3
      unfold escape_reference.l0
      repeat' first
      | (with_reducible exact ih0 _ _ _ _)
      | (with_reducible exact LeO.refl _)
      | (with_reducible exact LeO.none _)
      | (with_reducible refine LeO.ite ?_ ?_)
      | (with_reducible refine LeO.bind ?_ (fun _ => ?_))
      | exact ih0 _ _ _ _
      | exact LeO.none _
      | refine LeO.ite ?_ ?_
      | refine LeO.bind ?_ (fun _ => ?_)
theorem escape_reference.mono : ∀ a0 k, LeO (escape_reference.f k a0) (escape_reference.f (k + 1) a0) := by
  intro a0 k
  have ih0 := escape_reference.mono_l k
  unfold escape_reference.f
  repeat' first
      | (with_reducible exact ih0 _ _ _ _)
      | (with_reducible exact LeO.refl _)
      | (with_reducible exact LeO.none _)
      | (with_reducible refine LeO.ite ?_ ?_)
      | (with_reducible refine LeO.bind ?_ (fun _ => ?_))
      | exact ih0 _ _ _ _
      | exact LeO.none _
      | refine LeO.ite ?_ ?_
      | refine LeO.bind ?_ (fun _ => ?_)
def escape_reference.T13 : Bool × List (List Nat × List Nat) := (true, [([], []), ([0], [0]), ([1], [1]), ([2], [2]), ([3, 2], [2, 3]), ([2, 4], [2, 4]), ([5, 2], [5]), ([6], [6]), ([7, 6], [6, 7]), ([6, 8], [6, 8]), ([9, 6], [9]), ([10], [10]), ([11, 10], [10, 11]), ([12, 10, 10], [10, 12]), ([10], [10]), ([10], [10]), ([15, 10], [10, 15]), ([14, 16, 10], [10, 14, 16]), ([13, 17, 10], [10, 13, 17]), ([10, 18], [10, 18])])
def escape_reference.B13 : List Nat := [0, 1, 3, 7, 15, 31, 63, 127, 255, 511, 1023, 2047, 4095, 8191, 2047, 2047, 34815, 116735, 262143, 524287]
theorem escape_reference.tab13 : rtab .any (opsOf Tryd.f57 13) = escape_reference.T13 := by kernel_rfl
theorem escape_reference.bits13 : waitsOk escape_reference.T13.2 escape_reference.B13 = true := by kernel_rfl
set_option maxHeartbeats 8000000 in
set_option maxRecDepth 100000 in
theorem escape_reference.calls (k : Nat) (a0 : ByteArray) (r1 : Int) (r2 : Int) (w : World) (hgl : Go.Proofs.YtpanmmpkdbhofaaDoorX.GL w) (h : escape_reference.f k a0 = some (r1, r2)) :
    Calls Tryd.prog 57 #[.string a0] w fun e w' => e = .returned (.tuple #[.int .u8 r1, .int .i64 r2]) ∧ Below w.heap.size w w' := by
  have hu70 := Tryd.underlying70
  have HGL := Aside0.mk hgl
  clear hgl
  have HB := Aside0.mk (Below.refl w.heap.size w)
  have H : ((some (([38, 60, 62, 34] : List Int) : List Int)).bind fun y102 => (escape_reference.l0 k a0 y102 (y102.length : Int) 0)) = some (r1, r2) := h
  clear h
  obtain ⟨y102, hy102⟩ : ∃ y_ : List Int, y_ = (([38, 60, 62, 34] : List Int)) := ⟨_, rfl⟩
  replace H : (escape_reference.l0 k a0 y102 (y102.length : Int) 0) = some (r1, r2) := by first | (rw [hy102]; with_reducible exact H) | (have H2_ := (Option.bind_some _ _).symm.trans H; rw [hy102]; with_reducible exact H2_) | (have H2_ := (Option.bind_some _ _).symm.trans H; with_reducible exact H2_) | with_reducible exact H | (rw [hy102]; exact H) | exact H
  have Ny102 := Aside0.mk hy102
  clear hy102
  have H' := Aside0.mk H
  clear H
  go_enter Tryd.func57, Tryd.ntmps57
  go_wp2_with (first | ((with_reducible refine gate_dst (N := 9) rfl ?_); refine Kd.R_lit (Kd.int .u8) _ 5 ?hg (N := 9) ?hd (xs := ([38, 60, 62, 34] : List Int)) (inner := [.int .u8 38, .int .u8 60, .int .u8 62, .int .u8 34]) (ok := fun _ => True) (okp := fun _ => True) ?hr ?hp (fun _ hk => hk) trivial (Below.refl _ _) (Nat.le_refl _) (by simp) ?_; (case hd => rfl); (case hg => rfl); (case hr => first | (go_simp; done) | (go_simp; rfl)); (case hp => exact (Reps.one (show Kd.M (Kd.int .u8) _ _ _ 38 [.int .u8 38] from rfl) (Reps.one (show Kd.M (Kd.int .u8) _ _ _ 60 [.int .u8 60] from rfl) (Reps.one (show Kd.M (Kd.int .u8) _ _ _ 62 [.int .u8 62] from rfl) (Reps.one (show Kd.M (Kd.int .u8) _ _ _ 34 [.int .u8 34] from rfl) (Reps.none _ _)))))); intro v103 w2 ho3 hb hg_ hnew_; clear hg_ hnew_; (first | rw [← Ny102.out] at ho3 | (simp only [Int.reduceToNat] at ho3; rw [← Ny102.out] at ho3)); have n0_ := Aside0.mk (Kd.R_lower ho3 (below_size (by repeat (first | (with_reducible first | exact HB.out | apply below_alloc | apply pw_below_drewN | apply below_drew1) | exact HB.out)))); have n1_ := Aside0.mk (below_step (by repeat (first | (with_reducible first | exact HB.out | apply below_alloc | apply pw_below_drewN | apply below_drew1) | exact HB.out)) hb); clear HB; have HO104 := n0_; have HB := n1_; clear n0_ n1_; clear hb ho3; obtain ⟨Ao4, co4, eo4⟩ := Kd.R_slice HO104.out; subst eo4))
  go_loopg [11] k (fun kq v11 w' => ∃ (x11_1 : Int), v11 = .int .i64 x11_1 ∧ Aside0 (escape_reference.l0 kq a0 y102 (y102.length : Int) x11_1 = some (r1, r2)) ∧ Aside0 (kq ≤ k) ∧ Aside0 (Kd.R (Kd.int .u8) 5 w' w.heap.size (fun _ => True) (.slice Ao4 y102.length co4) y102) ∧ Aside0 (Below w.heap.size w w'))
  case atStart => exact ⟨(0), (by first | rfl | (simp; done) | (simp [*]; done)), H', ⟨Nat.le_refl _⟩, ⟨by (with_reducible repeat (first | apply Kd.R_alloc | apply Kd.R_drewN | apply Kd.R_drew)); exact HO104.out⟩, ⟨by repeat (first | (with_reducible first | exact HB.out | apply below_alloc | apply pw_below_drewN | apply below_drew1) | exact HB.out)⟩⟩
  case round =>
    clear H'
    try clear p2
    obtain ⟨x11_1, rfl, HA, HK1, HO_9, HB⟩ := hrel
    cases gk with
    | zero => exact absurd HA.out (by simp [escape_reference.l0])
    | succ k1 =>
      have H := HA.out
      clear HA
      simp only [escape_reference.l0] at H
      by_cases c5 : x11_1 < (y102.length : Int)
      · rw [if_pos c5] at H
        have c5b0 : decide (x11_1 < (y102.length : Int)) = true := decide_eq_true c5
        clear c5
        by_cases c6 : 0 ≤ x11_1
        · rw [if_pos c6] at H
          have c6b0 : decide (0 ≤ x11_1) = true := decide_eq_true c6
          clear c6
          by_cases c7 : x11_1 < (y102.length : Int)
          · rw [if_pos c7] at H
            have c7b0 : decide (x11_1 < (y102.length : Int)) = true := decide_eq_true c7
            clear c7
            replace H := Option.bind_eq_some_iff.mp H
            obtain ⟨t106, A80, H⟩ := H
            replace H : ((strings_HasPrefix.f a0 t106).bind fun t107 => (if t107 = true then ((escape_form.f (rd y102 x11_1)).bind fun t108 => (some (rd y102 x11_1, (t108.size : Int)))) else (escape_reference.l0 k1 a0 y102 (y102.length : Int) (wrap64 (x11_1 + 1))))) = some (r1, r2) := H
            have A8 := Aside0.mk A80
            clear A80
            replace H := Option.bind_eq_some_iff.mp H
            obtain ⟨t107, A90, H⟩ := H
            replace H : (if t107 = true then ((escape_form.f (rd y102 x11_1)).bind fun t108 => (some (rd y102 x11_1, (t108.size : Int)))) else (escape_reference.l0 k1 a0 y102 (y102.length : Int) (wrap64 (x11_1 + 1)))) = some (r1, r2) := H
            have A9 := Aside0.mk A90
            clear A90
            by_cases c10 : t107 = true
            · subst c10
              have H1 : ((escape_form.f (rd y102 x11_1)).bind fun t108 => (some (rd y102 x11_1, (t108.size : Int)))) = some (r1, r2) := by rw [if_pos rfl] at H; exact H
              clear H
              have H := H1
              clear H1
              replace H := Option.bind_eq_some_iff.mp H
              obtain ⟨t108, A110, H⟩ := H
              replace H : (some (rd y102 x11_1, (t108.size : Int))) = some (r1, r2) := H
              have A11 := Aside0.mk A110
              clear A110
              simp only [Option.some.injEq, Prod.mk.injEq] at H
              obtain ⟨rfl, rfl⟩ := H
              have p105 : 0 ≤ (x11_1 : Int) := of_decide_eq_true (by first | (with_reducible assumption) | assumption)
              have q105 : x11_1 < (y102.length : Int) := of_decide_eq_true (by first | (with_reducible assumption) | assumption)
              obtain ⟨ad105, e105, hx105_0⟩ := Kd.at_int (Kd.R_reads' HO_9.out).2.2 x11_1 p105 q105
              cases e105
              replace p105 := eq_true p105
              replace q105 := eq_true q105
              go_wp2_with (first | ((with_reducible refine gate_callee (f := 58) rfl ?_); refine goesL_ (some 17) rfl rfl Tryd.func58 (by kernel_rfl) rfl #[.int .u8 (rd y102 x11_1)] rfl (by (try simp only [List.map_toArray, List.map_cons, List.map_nil]); first | done | rfl | (simp only [List.length_drop, List.length_take]; rfl)) ?_; (with_reducible refine (escape_form.calls (rd y102 x11_1) t106 _ ?side1 A8.out).mono ?_); (case side1 => first | exact HGL.out | exact (Go.Proofs.YtpanmmpkdbhofaaDoorX.GL.below HGL.out (by repeat (first | (with_reducible first | exact HB.out | apply below_alloc | apply pw_below_drewN | apply below_drew1) | exact HB.out))) | (repeat (first | exact HGL.out | (with_reducible refine Go.Proofs.YtpanmmpkdbhofaaDoorX.GL.drewN ?_ _) | (with_reducible refine Go.Proofs.YtpanmmpkdbhofaaDoorX.GL.drew ?_)))); rintro e w12 ⟨rfl, hb⟩; refine ⟨_, rfl, ?_⟩; have n0_ := Aside0.mk (Kd.R_below (by (with_reducible repeat (first | apply Kd.R_alloc | apply Kd.R_drewN | apply Kd.R_drew)); exact HO_9.out) hb); have n1_ := Aside0.mk (below_step (by repeat (first | (with_reducible first | exact HB.out | apply below_alloc | apply pw_below_drewN | apply below_drew1) | exact HB.out)) hb); clear HO_9; clear HB; have HO_9 := n0_; have HB := n1_; clear n0_ n1_; (try clear hb); (try clear hb2); (try clear hk); (try clear hi)) | ((with_reducible refine gate_callee (f := 73) rfl ?_); refine goesL_ (some 18) rfl rfl Tryd.func73 (by kernel_rfl) rfl #[.string a0, .string t106] rfl (by (try simp only [List.map_toArray, List.map_cons, List.map_nil]); first | done | rfl | (simp only [List.length_drop, List.length_take]; rfl)) ?_; (with_reducible refine (strings_HasPrefix.calls a0 t106 true _ ?side1 A9.out).mono ?_); (case side1 => first | exact HGL.out | exact (Go.Proofs.YtpanmmpkdbhofaaDoorX.GL.below HGL.out (by repeat (first | (with_reducible first | exact HB.out | apply below_alloc | apply pw_below_drewN | apply below_drew1) | exact HB.out))) | (repeat (first | exact HGL.out | (with_reducible refine Go.Proofs.YtpanmmpkdbhofaaDoorX.GL.drewN ?_ _) | (with_reducible refine Go.Proofs.YtpanmmpkdbhofaaDoorX.GL.drew ?_)))); rintro e w' ⟨rfl, ⟨nd, rfl⟩⟩; refine ⟨_, rfl, ?_⟩) | ((with_reducible refine gate_callee (f := 58) rfl ?_); refine goesL_ (some 21) rfl rfl Tryd.func58 (by kernel_rfl) rfl #[.int .u8 (rd y102 x11_1)] rfl (by (try simp only [List.map_toArray, List.map_cons, List.map_nil]); first | done | rfl | (simp only [List.length_drop, List.length_take]; rfl)) ?_; (with_reducible refine (escape_form.calls (rd y102 x11_1) t108 _ ?side1 A11.out).mono ?_); (case side1 => first | exact HGL.out | exact (Go.Proofs.YtpanmmpkdbhofaaDoorX.GL.below HGL.out (by repeat (first | (with_reducible first | exact HB.out | apply below_alloc | apply pw_below_drewN | apply below_drew1) | exact HB.out))) | (repeat (first | exact HGL.out | (with_reducible refine Go.Proofs.YtpanmmpkdbhofaaDoorX.GL.drewN ?_ _) | (with_reducible refine Go.Proofs.YtpanmmpkdbhofaaDoorX.GL.drew ?_)))); rintro e w13 ⟨rfl, hb⟩; refine ⟨_, rfl, ?_⟩; have n0_ := Aside0.mk (Kd.R_below (by (with_reducible repeat (first | apply Kd.R_alloc | apply Kd.R_drewN | apply Kd.R_drew)); exact HO_9.out) hb); have n1_ := Aside0.mk (below_step (by repeat (first | (with_reducible first | exact HB.out | apply below_alloc | apply pw_below_drewN | apply below_drew1) | exact HB.out)) hb); clear HO_9; clear HB; have HO_9 := n0_; have HB := n1_; clear n0_ n1_; (try clear hb); (try clear hb2); (try clear hk); (try clear hi)))
              go_ret2
              exact ⟨by first | rfl | (simp [errW_none, errW_some] <;> rfl) | (simp [*, errW_none, errW_some] <;> rfl), by repeat (first | (with_reducible first | exact HB.out | apply below_alloc | apply pw_below_drewN | apply below_drew1) | exact HB.out)⟩
            · replace c10 := Bool.eq_false_iff.mpr c10
              subst c10
              have H1 : (escape_reference.l0 k1 a0 y102 (y102.length : Int) (wrap64 (x11_1 + 1))) = some (r1, r2) := by rw [if_neg (show ¬ (false = true) by decide)] at H; exact H
              clear H
              have H := H1
              clear H1
              have H' := Aside0.mk H
              clear H
              have p105 : 0 ≤ (x11_1 : Int) := of_decide_eq_true (by first | (with_reducible assumption) | assumption)
              have q105 : x11_1 < (y102.length : Int) := of_decide_eq_true (by first | (with_reducible assumption) | assumption)
              obtain ⟨ad105, e105, hx105_0⟩ := Kd.at_int (Kd.R_reads' HO_9.out).2.2 x11_1 p105 q105
              cases e105
              replace p105 := eq_true p105
              replace q105 := eq_true q105
              go_wp2_with (first | ((with_reducible refine gate_callee (f := 58) rfl ?_); refine goesL_ (some 17) rfl rfl Tryd.func58 (by kernel_rfl) rfl #[.int .u8 (rd y102 x11_1)] rfl (by (try simp only [List.map_toArray, List.map_cons, List.map_nil]); first | done | rfl | (simp only [List.length_drop, List.length_take]; rfl)) ?_; (with_reducible refine (escape_form.calls (rd y102 x11_1) t106 _ ?side1 A8.out).mono ?_); (case side1 => first | exact HGL.out | exact (Go.Proofs.YtpanmmpkdbhofaaDoorX.GL.below HGL.out (by repeat (first | (with_reducible first | exact HB.out | apply below_alloc | apply pw_below_drewN | apply below_drew1) | exact HB.out))) | (repeat (first | exact HGL.out | (with_reducible refine Go.Proofs.YtpanmmpkdbhofaaDoorX.GL.drewN ?_ _) | (with_reducible refine Go.Proofs.YtpanmmpkdbhofaaDoorX.GL.drew ?_)))); rintro e w14 ⟨rfl, hb⟩; refine ⟨_, rfl, ?_⟩; have n0_ := Aside0.mk (Kd.R_below (by (with_reducible repeat (first | apply Kd.R_alloc | apply Kd.R_drewN | apply Kd.R_drew)); exact HO_9.out) hb); have n1_ := Aside0.mk (below_step (by repeat (first | (with_reducible first | exact HB.out | apply below_alloc | apply pw_below_drewN | apply below_drew1) | exact HB.out)) hb); clear HO_9; clear HB; have HO_9 := n0_; have HB := n1_; clear n0_ n1_; (try clear hb); (try clear hb2); (try clear hk); (try clear hi)) | ((with_reducible refine gate_callee (f := 73) rfl ?_); refine goesL_ (some 18) rfl rfl Tryd.func73 (by kernel_rfl) rfl #[.string a0, .string t106] rfl (by (try simp only [List.map_toArray, List.map_cons, List.map_nil]); first | done | rfl | (simp only [List.length_drop, List.length_take]; rfl)) ?_; (with_reducible refine (strings_HasPrefix.calls a0 t106 false _ ?side1 A9.out).mono ?_); (case side1 => first | exact HGL.out | exact (Go.Proofs.YtpanmmpkdbhofaaDoorX.GL.below HGL.out (by repeat (first | (with_reducible first | exact HB.out | apply below_alloc | apply pw_below_drewN | apply below_drew1) | exact HB.out))) | (repeat (first | exact HGL.out | (with_reducible refine Go.Proofs.YtpanmmpkdbhofaaDoorX.GL.drewN ?_ _) | (with_reducible refine Go.Proofs.YtpanmmpkdbhofaaDoorX.GL.drew ?_)))); rintro e w' ⟨rfl, ⟨nd, rfl⟩⟩; refine ⟨_, rfl, ?_⟩))
              go_roundg k1
              case measure => have := HK1.out; omega
              case rel => exact ⟨(wrap64 (x11_1 + 1)), (by first | rfl | (simp; done) | (simp [*]; done)), H', ⟨by have := HK1.out; omega⟩, ⟨by (with_reducible repeat (first | apply Kd.R_alloc | apply Kd.R_drewN | apply Kd.R_drew)); exact HO_9.out⟩, ⟨by repeat (first | (with_reducible first | exact HB.out | apply below_alloc | apply pw_below_drewN | apply below_drew1) | exact HB.out)⟩⟩
          · rw [if_neg c7] at H
            exact absurd H (by simp)
        · rw [if_neg c6] at H
          exact absurd H (by simp)
      · rw [if_neg c5] at H
        have c5b0 : decide (x11_1 < (y102.length : Int)) = false := decide_eq_false c5
        clear c5
        replace H := Option.bind_eq_some_iff.mp H
        obtain ⟨t109, A150, H⟩ := H
        replace H : (if t109 = true then (if 0 ≤ (mn (a0.size : Int) 6) then (if (mn (a0.size : Int) 6) ≤ (a0.size : Int) then ((strings_IndexByte.f (a0.extract 0 ((mn (a0.size : Int) 6) : Int).toNat) 59).bind fun t110 => (if t110 < 0 then (some (0, 0)) else (if 2 ≤ t110 then (if t110 ≤ (a0.size : Int) then ((strconv_Atoi.f (a0.extract 2 (t110 : Int).toNat)).bind fun bt111 => (if bt111.2.isNone = true then (if bt111.1 < 0 then (some (0, 0)) else (if bt111.1 > 127 then (some (0, 0)) else ((escape_form.f ((bt111.1) % 256)).bind fun t114 => (if 0 ≤ (wrap64 (t110 + 1)) then (if (wrap64 (t110 + 1)) ≤ (a0.size : Int) then (if t114.toList = (a0.extract 0 ((wrap64 (t110 + 1)) : Int).toNat).toList then (some ((bt111.1) % 256, wrap64 (t110 + 1))) else (some (0, 0))) else (none)) else (none))))) else (some (0, 0)))) else (none)) else (none)))) else (none)) else (none)) else (some (0, 0))) = some (r1, r2) := H
        have A15 := Aside0.mk A150
        clear A150
        by_cases c16 : t109 = true
        · subst c16
          have H1 : (if 0 ≤ (mn (a0.size : Int) 6) then (if (mn (a0.size : Int) 6) ≤ (a0.size : Int) then ((strings_IndexByte.f (a0.extract 0 ((mn (a0.size : Int) 6) : Int).toNat) 59).bind fun t110 => (if t110 < 0 then (some (0, 0)) else (if 2 ≤ t110 then (if t110 ≤ (a0.size : Int) then ((strconv_Atoi.f (a0.extract 2 (t110 : Int).toNat)).bind fun bt111 => (if bt111.2.isNone = true then (if bt111.1 < 0 then (some (0, 0)) else (if bt111.1 > 127 then (some (0, 0)) else ((escape_form.f ((bt111.1) % 256)).bind fun t114 => (if 0 ≤ (wrap64 (t110 + 1)) then (if (wrap64 (t110 + 1)) ≤ (a0.size : Int) then (if t114.toList = (a0.extract 0 ((wrap64 (t110 + 1)) : Int).toNat).toList then (some ((bt111.1) % 256, wrap64 (t110 + 1))) else (some (0, 0))) else (none)) else (none))))) else (some (0, 0)))) else (none)) else (none)))) else (none)) else (none)) = some (r1, r2) := by rw [if_pos rfl] at H; exact H
          clear H
          have H := H1
          clear H1
          obtain ⟨ji17, hji17⟩ : ∃ j_ : Int, (mn (a0.size : Int) 6) = j_ := ⟨_, rfl⟩
          replace H : (if 0 ≤ (ji17) then (if (ji17) ≤ (a0.size : Int) then ((strings_IndexByte.f (a0.extract 0 ((ji17) : Int).toNat) 59).bind fun t110 => (if t110 < 0 then (some (0, 0)) else (if 2 ≤ t110 then (if t110 ≤ (a0.size : Int) then ((strconv_Atoi.f (a0.extract 2 (t110 : Int).toNat)).bind fun bt111 => (if bt111.2.isNone = true then (if bt111.1 < 0 then (some (0, 0)) else (if bt111.1 > 127 then (some (0, 0)) else ((escape_form.f ((bt111.1) % 256)).bind fun t114 => (if 0 ≤ (wrap64 (t110 + 1)) then (if (wrap64 (t110 + 1)) ≤ (a0.size : Int) then (if t114.toList = (a0.extract 0 ((wrap64 (t110 + 1)) : Int).toNat).toList then (some ((bt111.1) % 256, wrap64 (t110 + 1))) else (some (0, 0))) else (none)) else (none))))) else (some (0, 0)))) else (none)) else (none)))) else (none)) else (none)) = some (r1, r2) := by first | (rw [hji17] at H; exact H) | (simp only [hji17] at H ⊢; exact H)
          (try rw [hji17] at A15)
          have hji17_ : (if 6 < (a0.size : Int) then 6 else (a0.size : Int)) = ji17 := hji17
          (try (have hji17n : (if 6 < a0.size then (6 : Int) else (a0.size : Int)) = ji17 := by (rw [← hji17_]; (repeat' split) <;> (first | rfl | omega))))
          by_cases c18 : 0 ≤ (ji17)
          · rw [if_pos c18] at H
            have c18b0 := eq_true c18
            have c18b1 : decide (0 ≤ (ji17)) = true := decide_eq_true c18
            clear c18
            by_cases c19 : (ji17) ≤ (a0.size : Int)
            · rw [if_pos c19] at H
              have c19b0 := eq_true c19
              have c19b1 : decide ((ji17) ≤ (a0.size : Int)) = true := decide_eq_true c19
              clear c19
              replace H := Option.bind_eq_some_iff.mp H
              obtain ⟨t110, A200, H⟩ := H
              replace H : (if t110 < 0 then (some (0, 0)) else (if 2 ≤ t110 then (if t110 ≤ (a0.size : Int) then ((strconv_Atoi.f (a0.extract 2 (t110 : Int).toNat)).bind fun bt111 => (if bt111.2.isNone = true then (if bt111.1 < 0 then (some (0, 0)) else (if bt111.1 > 127 then (some (0, 0)) else ((escape_form.f ((bt111.1) % 256)).bind fun t114 => (if 0 ≤ (wrap64 (t110 + 1)) then (if (wrap64 (t110 + 1)) ≤ (a0.size : Int) then (if t114.toList = (a0.extract 0 ((wrap64 (t110 + 1)) : Int).toNat).toList then (some ((bt111.1) % 256, wrap64 (t110 + 1))) else (some (0, 0))) else (none)) else (none))))) else (some (0, 0)))) else (none)) else (none))) = some (r1, r2) := H
              have A20 := Aside0.mk A200
              clear A200
              by_cases c21 : t110 < 0
              · rw [if_pos c21] at H
                have c21b0 : decide (t110 < 0) = true := decide_eq_true c21
                clear c21
                simp only [Option.some.injEq, Prod.mk.injEq] at H
                obtain ⟨rfl, rfl⟩ := H
                go_wp2_with (first | ((with_reducible refine gate_callee (f := 73) rfl ?_); refine goesL_ (some 25) rfl rfl Tryd.func73 (by kernel_rfl) rfl #[.string a0, .string (⟨#[38, 35]⟩ : ByteArray)] rfl (by (try simp only [List.map_toArray, List.map_cons, List.map_nil]); first | done | rfl | (simp only [List.length_drop, List.length_take]; rfl)) ?_; (with_reducible refine (strings_HasPrefix.calls a0 (⟨#[38, 35]⟩ : ByteArray) true _ ?side1 A15.out).mono ?_); (case side1 => first | exact HGL.out | exact (Go.Proofs.YtpanmmpkdbhofaaDoorX.GL.below HGL.out (by repeat (first | (with_reducible first | exact HB.out | apply below_alloc | apply pw_below_drewN | apply below_drew1) | exact HB.out))) | (repeat (first | exact HGL.out | (with_reducible refine Go.Proofs.YtpanmmpkdbhofaaDoorX.GL.drewN ?_ _) | (with_reducible refine Go.Proofs.YtpanmmpkdbhofaaDoorX.GL.drew ?_)))); rintro e w' ⟨rfl, ⟨nd, rfl⟩⟩; refine ⟨_, rfl, ?_⟩) | ((with_reducible refine gate_callee (f := 71) rfl ?_); refine goesL_ (some 32) rfl rfl Tryd.func71 (by kernel_rfl) rfl #[.string (a0.extract 0 ((ji17) : Int).toNat), .int .u8 59] rfl (by (try simp only [List.map_toArray, List.map_cons, List.map_nil]); first | done | (simp only [hji17]; rfl) | rfl | (simp only [List.length_drop, List.length_take]; rfl)) ?_; (with_reducible refine (strings_IndexByte.calls (a0.extract 0 ((ji17) : Int).toNat) 59 t110 _ ?side1 A20.out).mono ?_); (case side1 => first | exact HGL.out | exact (Go.Proofs.YtpanmmpkdbhofaaDoorX.GL.below HGL.out (by repeat (first | (with_reducible first | exact HB.out | apply below_alloc | apply pw_below_drewN | apply below_drew1) | exact HB.out))) | (repeat (first | exact HGL.out | (with_reducible refine Go.Proofs.YtpanmmpkdbhofaaDoorX.GL.drewN ?_ _) | (with_reducible refine Go.Proofs.YtpanmmpkdbhofaaDoorX.GL.drew ?_)))); rintro e w' ⟨rfl, ⟨nd, rfl⟩⟩; refine ⟨_, rfl, ?_⟩))
                go_ret2
                exact ⟨by first | rfl | (simp [errW_none, errW_some] <;> rfl) | (simp only [← hji17]; first | rfl | (simp [errW_none, errW_some] <;> rfl)) | (simp [*, errW_none, errW_some] <;> rfl), by repeat (first | (with_reducible first | exact HB.out | apply below_alloc | apply pw_below_drewN | apply below_drew1) | exact HB.out)⟩
              · rw [if_neg c21] at H
                have c21b0 : decide (t110 < 0) = false := decide_eq_false c21
                clear c21
                by_cases c22 : 2 ≤ t110
                · rw [if_pos c22] at H
                  have c22b0 := eq_true c22
                  have c22b1 : decide (2 ≤ t110) = true := decide_eq_true c22
                  clear c22
                  by_cases c23 : t110 ≤ (a0.size : Int)
                  · rw [if_pos c23] at H
                    have c23b0 := eq_true c23
                    have c23b1 : decide (t110 ≤ (a0.size : Int)) = true := decide_eq_true c23
                    clear c23
                    replace H := Option.bind_eq_some_iff.mp H
                    obtain ⟨⟨t111, t112⟩, A240, H⟩ := H
                    replace H : (if t112.isNone = true then (if t111 < 0 then (some (0, 0)) else (if t111 > 127 then (some (0, 0)) else ((escape_form.f ((t111) % 256)).bind fun t114 => (if 0 ≤ (wrap64 (t110 + 1)) then (if (wrap64 (t110 + 1)) ≤ (a0.size : Int) then (if t114.toList = (a0.extract 0 ((wrap64 (t110 + 1)) : Int).toNat).toList then (some ((t111) % 256, wrap64 (t110 + 1))) else (some (0, 0))) else (none)) else (none))))) else (some (0, 0))) = some (r1, r2) := H
                    have A24 := Aside0.mk A240
                    clear A240
                    rcases t112 with _ | q113
                    · have H1 : (if t111 < 0 then (some (0, 0)) else (if t111 > 127 then (some (0, 0)) else ((escape_form.f ((t111) % 256)).bind fun t114 => (if 0 ≤ (wrap64 (t110 + 1)) then (if (wrap64 (t110 + 1)) ≤ (a0.size : Int) then (if t114.toList = (a0.extract 0 ((wrap64 (t110 + 1)) : Int).toNat).toList then (some ((t111) % 256, wrap64 (t110 + 1))) else (some (0, 0))) else (none)) else (none))))) = some (r1, r2) := by rw [if_pos (show (none : Option Int).isNone = true by rfl)] at H; exact H
                      clear H
                      have H := H1
                      clear H1
                      try simp only [errW_none, errW_some]
                      by_cases c25 : t111 < 0
                      · rw [if_pos c25] at H
                        have c25b0 : decide (t111 < 0) = true := decide_eq_true c25
                        clear c25
                        simp only [Option.some.injEq, Prod.mk.injEq] at H
                        obtain ⟨rfl, rfl⟩ := H
                        try go_wp2_with (first | ((with_reducible refine gate_callee (f := 73) rfl ?_); refine goesL_ (some 25) rfl rfl Tryd.func73 (by kernel_rfl) rfl #[.string a0, .string (⟨#[38, 35]⟩ : ByteArray)] rfl (by (try simp only [List.map_toArray, List.map_cons, List.map_nil]); first | done | rfl | (simp only [List.length_drop, List.length_take]; rfl)) ?_; (with_reducible refine (strings_HasPrefix.calls a0 (⟨#[38, 35]⟩ : ByteArray) true _ ?side1 A15.out).mono ?_); (case side1 => first | exact HGL.out | exact (Go.Proofs.YtpanmmpkdbhofaaDoorX.GL.below HGL.out (by repeat (first | (with_reducible first | exact HB.out | apply below_alloc | apply pw_below_drewN | apply below_drew1) | exact HB.out))) | (repeat (first | exact HGL.out | (with_reducible refine Go.Proofs.YtpanmmpkdbhofaaDoorX.GL.drewN ?_ _) | (with_reducible refine Go.Proofs.YtpanmmpkdbhofaaDoorX.GL.drew ?_)))); rintro e w' ⟨rfl, ⟨nd, rfl⟩⟩; refine ⟨_, rfl, ?_⟩) | ((with_reducible refine gate_callee (f := 71) rfl ?_); refine goesL_ (some 32) rfl rfl Tryd.func71 (by kernel_rfl) rfl #[.string (a0.extract 0 ((ji17) : Int).toNat), .int .u8 59] rfl (by (try simp only [List.map_toArray, List.map_cons, List.map_nil]); first | done | (simp only [hji17]; rfl) | rfl | (simp only [List.length_drop, List.length_take]; rfl)) ?_; (with_reducible refine (strings_IndexByte.calls (a0.extract 0 ((ji17) : Int).toNat) 59 t110 _ ?side1 A20.out).mono ?_); (case side1 => first | exact HGL.out | exact (Go.Proofs.YtpanmmpkdbhofaaDoorX.GL.below HGL.out (by repeat (first | (with_reducible first | exact HB.out | apply below_alloc | apply pw_below_drewN | apply below_drew1) | exact HB.out))) | (repeat (first | exact HGL.out | (with_reducible refine Go.Proofs.YtpanmmpkdbhofaaDoorX.GL.drewN ?_ _) | (with_reducible refine Go.Proofs.YtpanmmpkdbhofaaDoorX.GL.drew ?_)))); rintro e w' ⟨rfl, ⟨nd, rfl⟩⟩; refine ⟨_, rfl, ?_⟩) | ((with_reducible refine gate_callee (f := 52) rfl ?_); refine goesL_ (some 39) rfl rfl Tryd.func52 (by kernel_rfl) rfl #[.string (a0.extract 2 (t110 : Int).toNat)] rfl (by (try simp only [List.map_toArray, List.map_cons, List.map_nil]); first | done | rfl | (simp only [List.length_drop, List.length_take]; rfl)) ?_; (with_reducible refine (strconv_Atoi.calls (a0.extract 2 (t110 : Int).toNat) t111 none _ ?side1 A24.out).mono ?_); (case side1 => first | exact HGL.out | exact (Go.Proofs.YtpanmmpkdbhofaaDoorX.GL.below HGL.out (by repeat (first | (with_reducible first | exact HB.out | apply below_alloc | apply pw_below_drewN | apply below_drew1) | exact HB.out))) | (repeat (first | exact HGL.out | (with_reducible refine Go.Proofs.YtpanmmpkdbhofaaDoorX.GL.drewN ?_ _) | (with_reducible refine Go.Proofs.YtpanmmpkdbhofaaDoorX.GL.drew ?_)))); rintro e w26 ⟨rfl, hb⟩; refine ⟨_, rfl, ?_⟩; have n0_ := Aside0.mk (Kd.R_below (by (with_reducible repeat (first | apply Kd.R_alloc | apply Kd.R_drewN | apply Kd.R_drew)); exact HO_9.out) hb); have n1_ := Aside0.mk (below_step (by repeat (first | (with_reducible first | exact HB.out | apply below_alloc | apply pw_below_drewN | apply below_drew1) | exact HB.out)) hb); clear HO_9; clear HB; have HO_9 := n0_; have HB := n1_; clear n0_ n1_; (try clear hb); (try clear hb2); (try clear hk); (try clear hi); (try simp only [errW_none, errW_some])))
                        have n0_ := Aside0.mk (Kd.R_drew HO_9.out)
                        have n1_ := Aside0.mk (below_drew1 HB.out)
                        clear HO_9
                        clear HB
                        have HO_9 := n0_
                        have HB := n1_
                        clear n0_ n1_
                        refine start_ (n := 20) (S := fun w' => True) (ds := []) #[false, false, false, false, false, false, false, false, false, false, false, false, false, false, false, false, false, false, false, false] (by kernel_rfl) rfl rfl trivial (fun hHeld => ?_); refine with_tabW escape_reference.tab13 escape_reference.bits13 (fun HT_ HW_ => ?_)
                        generalize w26.drew = w27 at HO_9 HB hHeld ⊢
                        refine pure_ (i := 0) (N := some 42) (v := ?_) (a' := ?_) #[true, false, false, false, false, false, false, false, false, false, false, false, false, false, false, false, false, false, false, false] rfl rfl (any_of HT_.out (by kernel_rfl)) (fun _ _ _ h => h) (Or.inl ⟨by rfl, ?_⟩) ?_ ?_
                        rotate_left
                        · intro w'
                          go_simp
                          with_reducible rfl
                        rotate_left
                        · simp only [Act.put, List.setIfInBounds_toArray, List.set_cons_zero, List.set_cons_succ, i64_w, i32_w]
                          rfl
                        refine pure_ (i := 1) (N := some 43) (v := ?_) (a' := ?_) #[true, true, false, false, false, false, false, false, false, false, false, false, false, false, false, false, false, false, false, false] rfl rfl (any_of HT_.out (by kernel_rfl)) (fun _ _ _ h => h) (Or.inl ⟨by rfl, ?_⟩) ?_ ?_
                        rotate_left
                        · intro w'
                          go_simp
                          with_reducible rfl
                        rotate_left
                        · simp only [Act.put, List.setIfInBounds_toArray, List.set_cons_zero, List.set_cons_succ, i64_w, i32_w]
                          rfl
                        refine pure_ (i := 2) (N := some 44) (v := ?_) (a' := ?_) #[true, true, true, false, false, false, false, false, false, false, false, false, false, false, false, false, false, false, false, false] rfl rfl (any_of HT_.out (by kernel_rfl)) (fun _ _ _ h => h) (Or.inl ⟨by rfl, ?_⟩) ?_ ?_
                        rotate_left
                        · intro w'
                          go_simp
                          with_reducible rfl
                        rotate_left
                        · simp only [Act.put, List.setIfInBounds_toArray, List.set_cons_zero, List.set_cons_succ, i64_w, i32_w]
                          rfl
                        refine pure_ (i := 3) (N := some 45) (v := ?_) (a' := ?_) #[true, true, true, true, false, false, false, false, false, false, false, false, false, false, false, false, false, false, false, false] rfl rfl (any_of HT_.out (by kernel_rfl)) (fun _ _ _ h => h) (Or.inl ⟨by rfl, ?_⟩) ?_ ?_
                        rotate_left
                        · intro w'
                          go_simp
                          with_reducible rfl
                        rotate_left
                        · simp only [Act.put, List.setIfInBounds_toArray, List.set_cons_zero, List.set_cons_succ, i64_w, i32_w]
                          rfl
                        refine pure_ (i := 4) (N := some 46) (v := ?_) (a' := ?_) #[true, true, true, true, true, false, false, false, false, false, false, false, false, false, false, false, false, false, false, false] rfl rfl (any_of HT_.out (by kernel_rfl)) (fun _ _ _ h => h) (Or.inl ⟨by rfl, ?_⟩) ?_ ?_
                        rotate_left
                        · intro w'
                          go_simp
                          with_reducible rfl
                        rotate_left
                        · simp only [Act.put, List.setIfInBounds_toArray, List.set_cons_zero, List.set_cons_succ, i64_w, i32_w]
                          rfl
                        refine pure_ (i := 5) (N := some 47) (v := ?_) (a' := ?_) #[true, true, true, true, true, true, false, false, false, false, false, false, false, false, false, false, false, false, false, false] rfl rfl (any_of HT_.out (by kernel_rfl)) (fun _ _ _ h => h) (Or.inl ⟨by rfl, ?_⟩) ?_ ?_
                        rotate_left
                        · intro w'
                          go_simp
                          with_reducible rfl
                        rotate_left
                        · simp only [Act.put, List.setIfInBounds_toArray, List.set_cons_zero, List.set_cons_succ, i64_w, i32_w]
                          rfl
                        refine pure_ (i := 6) (N := some 48) (v := ?_) (a' := ?_) #[true, true, true, true, true, true, true, false, false, false, false, false, false, false, false, false, false, false, false, false] rfl rfl (any_of HT_.out (by kernel_rfl)) (fun _ _ _ h => h) (Or.inl ⟨by rfl, ?_⟩) ?_ ?_
                        rotate_left
                        · intro w'
                          go_simp
                          with_reducible rfl
                        rotate_left
                        · simp only [Act.put, List.setIfInBounds_toArray, List.set_cons_zero, List.set_cons_succ, i64_w, i32_w]
                          rfl
                        refine pure_ (i := 7) (N := some 49) (v := undef) (a' := ?_) #[true, true, true, true, true, true, true, true, false, false, false, false, false, false, false, false, false, false, false, false] rfl rfl (any_of HT_.out (by kernel_rfl)) (fun _ _ _ h => h) (Or.inr ⟨by rfl, rfl⟩) ?_ ?_
                        rotate_left
                        · simp only [Act.put, List.setIfInBounds_toArray, List.set_cons_zero, List.set_cons_succ, i64_w, i32_w]
                          rfl
                        refine pure_ (i := 8) (N := some 50) (v := undef) (a' := ?_) #[true, true, true, true, true, true, true, true, true, false, false, false, false, false, false, false, false, false, false, false] rfl rfl (any_of HT_.out (by kernel_rfl)) (fun _ _ _ h => h) (Or.inr ⟨by rfl, rfl⟩) ?_ ?_
                        rotate_left
                        · simp only [Act.put, List.setIfInBounds_toArray, List.set_cons_zero, List.set_cons_succ, i64_w, i32_w]
                          rfl
                        refine pure_ (i := 9) (N := some 51) (v := ?_) (a' := ?_) #[true, true, true, true, true, true, true, true, true, true, false, false, false, false, false, false, false, false, false, false] rfl rfl (any_of HT_.out (by kernel_rfl)) (fun _ _ _ h => h) (Or.inl ⟨by rfl, ?_⟩) ?_ ?_
                        rotate_left
                        · intro w'
                          go_simp
                          with_reducible rfl
                        rotate_left
                        · simp only [Act.put, List.setIfInBounds_toArray, List.set_cons_zero, List.set_cons_succ, i64_w, i32_w]
                          rfl
                        refine pure_ (i := 10) (N := some 52) (v := ?_) (a' := ?_) #[true, true, true, true, true, true, true, true, true, true, true, false, false, false, false, false, false, false, false, false] rfl rfl (any_of HT_.out (by kernel_rfl)) (fun _ _ _ h => h) (Or.inl ⟨by rfl, ?_⟩) ?_ ?_
                        rotate_left
                        · intro w'
                          go_simp
                          with_reducible rfl
                        rotate_left
                        · simp only [Act.put, List.setIfInBounds_toArray, List.set_cons_zero, List.set_cons_succ, i64_w, i32_w]
                          rfl
                        refine pure_ (i := 11) (N := some 53) (v := undef) (a' := ?_) #[true, true, true, true, true, true, true, true, true, true, true, true, false, false, false, false, false, false, false, false] rfl rfl (any_of HT_.out (by kernel_rfl)) (fun _ _ _ h => h) (Or.inr ⟨by rfl, rfl⟩) ?_ ?_
                        rotate_left
                        · simp only [Act.put, List.setIfInBounds_toArray, List.set_cons_zero, List.set_cons_succ, i64_w, i32_w]
                          rfl
                        refine pure_ (i := 12) (N := some 54) (v := undef) (a' := ?_) #[true, true, true, true, true, true, true, true, true, true, true, true, true, false, false, false, false, false, false, false] rfl rfl (any_of HT_.out (by kernel_rfl)) (fun _ _ _ h => h) (Or.inr ⟨by rfl, rfl⟩) ?_ ?_
                        rotate_left
                        · simp only [Act.put, List.setIfInBounds_toArray, List.set_cons_zero, List.set_cons_succ, i64_w, i32_w]
                          rfl
                        refine pure_ (i := 13) (N := some 55) (v := undef) (a' := ?_) #[true, true, true, true, true, true, true, true, true, true, true, true, true, true, false, false, false, false, false, false] rfl rfl (any_of HT_.out (by kernel_rfl)) (fun _ _ _ h => h) (Or.inr ⟨by rfl, rfl⟩) ?_ ?_
                        rotate_left
                        · simp only [Act.put, List.setIfInBounds_toArray, List.set_cons_zero, List.set_cons_succ, i64_w, i32_w]
                          rfl
                        refine pure_ (i := 14) (N := some 56) (v := undef) (a' := ?_) #[true, true, true, true, true, true, true, true, true, true, true, true, true, true, true, false, false, false, false, false] rfl rfl (any_of HT_.out (by kernel_rfl)) (fun _ _ _ h => h) (Or.inr ⟨by rfl, rfl⟩) ?_ ?_
                        rotate_left
                        · simp only [Act.put, List.setIfInBounds_toArray, List.set_cons_zero, List.set_cons_succ, i64_w, i32_w]
                          rfl
                        refine pure_ (i := 15) (N := some 57) (v := undef) (a' := ?_) #[true, true, true, true, true, true, true, true, true, true, true, true, true, true, true, true, false, false, false, false] rfl rfl (any_of HT_.out (by kernel_rfl)) (fun _ _ _ h => h) (Or.inr ⟨by rfl, rfl⟩) ?_ ?_
                        rotate_left
                        · simp only [Act.put, List.setIfInBounds_toArray, List.set_cons_zero, List.set_cons_succ, i64_w, i32_w]
                          rfl
                        refine pure_ (i := 16) (N := some 58) (v := undef) (a' := ?_) #[true, true, true, true, true, true, true, true, true, true, true, true, true, true, true, true, true, false, false, false] rfl rfl (any_of HT_.out (by kernel_rfl)) (fun _ _ _ h => h) (Or.inr ⟨by rfl, rfl⟩) ?_ ?_
                        rotate_left
                        · simp only [Act.put, List.setIfInBounds_toArray, List.set_cons_zero, List.set_cons_succ, i64_w, i32_w]
                          rfl
                        refine pure_ (i := 17) (N := some 59) (v := undef) (a' := ?_) #[true, true, true, true, true, true, true, true, true, true, true, true, true, true, true, true, true, true, false, false] rfl rfl (any_of HT_.out (by kernel_rfl)) (fun _ _ _ h => h) (Or.inr ⟨by rfl, rfl⟩) ?_ ?_
                        rotate_left
                        · simp only [Act.put, List.setIfInBounds_toArray, List.set_cons_zero, List.set_cons_succ, i64_w, i32_w]
                          rfl
                        refine pure_ (i := 18) (N := some 60) (v := undef) (a' := ?_) #[true, true, true, true, true, true, true, true, true, true, true, true, true, true, true, true, true, true, true, false] rfl rfl (any_of HT_.out (by kernel_rfl)) (fun _ _ _ h => h) (Or.inr ⟨by rfl, rfl⟩) ?_ ?_
                        rotate_left
                        · simp only [Act.put, List.setIfInBounds_toArray, List.set_cons_zero, List.set_cons_succ, i64_w, i32_w]
                          rfl
                        refine pure_ (i := 19) (N := some 61) (v := ?_) (a' := ?_) #[true, true, true, true, true, true, true, true, true, true, true, true, true, true, true, true, true, true, true, true] rfl rfl (any_of HT_.out (by kernel_rfl)) (fun _ _ _ h => h) (Or.inl ⟨by rfl, ?_⟩) ?_ ?_
                        rotate_left
                        · intro w'
                          go_simp
                          with_reducible rfl
                        rotate_left
                        · simp only [Act.put, List.setIfInBounds_toArray, List.set_cons_zero, List.set_cons_succ, i64_w, i32_w]
                          rfl
                        refine done_ (done_of HT_.out (by kernel_rfl)) ?_
                        try go_wp2
                        go_ret2
                        exact ⟨by first | rfl | (simp [errW_none, errW_some] <;> rfl) | (simp only [← hji17]; first | rfl | (simp [errW_none, errW_some] <;> rfl)) | (simp [*, errW_none, errW_some] <;> rfl), by repeat (first | (with_reducible first | exact HB.out | apply below_alloc | apply pw_below_drewN | apply below_drew1) | exact HB.out)⟩
                      · rw [if_neg c25] at H
                        have c25b0 : decide (t111 < 0) = false := decide_eq_false c25
                        clear c25
                        by_cases c28 : t111 > 127
                        · rw [if_pos c28] at H
                          have c28b0 : decide (127 < t111) = true := decide_eq_true c28
                          clear c28
                          simp only [Option.some.injEq, Prod.mk.injEq] at H
                          obtain ⟨rfl, rfl⟩ := H
                          try go_wp2_with (first | ((with_reducible refine gate_callee (f := 73) rfl ?_); refine goesL_ (some 25) rfl rfl Tryd.func73 (by kernel_rfl) rfl #[.string a0, .string (⟨#[38, 35]⟩ : ByteArray)] rfl (by (try simp only [List.map_toArray, List.map_cons, List.map_nil]); first | done | rfl | (simp only [List.length_drop, List.length_take]; rfl)) ?_; (with_reducible refine (strings_HasPrefix.calls a0 (⟨#[38, 35]⟩ : ByteArray) true _ ?side1 A15.out).mono ?_); (case side1 => first | exact HGL.out | exact (Go.Proofs.YtpanmmpkdbhofaaDoorX.GL.below HGL.out (by repeat (first | (with_reducible first | exact HB.out | apply below_alloc | apply pw_below_drewN | apply below_drew1) | exact HB.out))) | (repeat (first | exact HGL.out | (with_reducible refine Go.Proofs.YtpanmmpkdbhofaaDoorX.GL.drewN ?_ _) | (with_reducible refine Go.Proofs.YtpanmmpkdbhofaaDoorX.GL.drew ?_)))); rintro e w' ⟨rfl, ⟨nd, rfl⟩⟩; refine ⟨_, rfl, ?_⟩) | ((with_reducible refine gate_callee (f := 71) rfl ?_); refine goesL_ (some 32) rfl rfl Tryd.func71 (by kernel_rfl) rfl #[.string (a0.extract 0 ((ji17) : Int).toNat), .int .u8 59] rfl (by (try simp only [List.map_toArray, List.map_cons, List.map_nil]); first | done | (simp only [hji17]; rfl) | rfl | (simp only [List.length_drop, List.length_take]; rfl)) ?_; (with_reducible refine (strings_IndexByte.calls (a0.extract 0 ((ji17) : Int).toNat) 59 t110 _ ?side1 A20.out).mono ?_); (case side1 => first | exact HGL.out | exact (Go.Proofs.YtpanmmpkdbhofaaDoorX.GL.below HGL.out (by repeat (first | (with_reducible first | exact HB.out | apply below_alloc | apply pw_below_drewN | apply below_drew1) | exact HB.out))) | (repeat (first | exact HGL.out | (with_reducible refine Go.Proofs.YtpanmmpkdbhofaaDoorX.GL.drewN ?_ _) | (with_reducible refine Go.Proofs.YtpanmmpkdbhofaaDoorX.GL.drew ?_)))); rintro e w' ⟨rfl, ⟨nd, rfl⟩⟩; refine ⟨_, rfl, ?_⟩) | ((with_reducible refine gate_callee (f := 52) rfl ?_); refine goesL_ (some 39) rfl rfl Tryd.func52 (by kernel_rfl) rfl #[.string (a0.extract 2 (t110 : Int).toNat)] rfl (by (try simp only [List.map_toArray, List.map_cons, List.map_nil]); first | done | rfl | (simp only [List.length_drop, List.length_take]; rfl)) ?_; (with_reducible refine (strconv_Atoi.calls (a0.extract 2 (t110 : Int).toNat) t111 none _ ?side1 A24.out).mono ?_); (case side1 => first | exact HGL.out | exact (Go.Proofs.YtpanmmpkdbhofaaDoorX.GL.below HGL.out (by repeat (first | (with_reducible first | exact HB.out | apply below_alloc | apply pw_below_drewN | apply below_drew1) | exact HB.out))) | (repeat (first | exact HGL.out | (with_reducible refine Go.Proofs.YtpanmmpkdbhofaaDoorX.GL.drewN ?_ _) | (with_reducible refine Go.Proofs.YtpanmmpkdbhofaaDoorX.GL.drew ?_)))); rintro e w29 ⟨rfl, hb⟩; refine ⟨_, rfl, ?_⟩; have n0_ := Aside0.mk (Kd.R_below (by (with_reducible repeat (first | apply Kd.R_alloc | apply Kd.R_drewN | apply Kd.R_drew)); exact HO_9.out) hb); have n1_ := Aside0.mk (below_step (by repeat (first | (with_reducible first | exact HB.out | apply below_alloc | apply pw_below_drewN | apply below_drew1) | exact HB.out)) hb); clear HO_9; clear HB; have HO_9 := n0_; have HB := n1_; clear n0_ n1_; (try clear hb); (try clear hb2); (try clear hk); (try clear hi); (try simp only [errW_none, errW_some])))
                          have n0_ := Aside0.mk (Kd.R_drew HO_9.out)
                          have n1_ := Aside0.mk (below_drew1 HB.out)
                          clear HO_9
                          clear HB
                          have HO_9 := n0_
                          have HB := n1_
                          clear n0_ n1_
                          refine start_ (n := 20) (S := fun w' => True) (ds := []) #[false, false, false, false, false, false, false, false, false, false, false, false, false, false, false, false, false, false, false, false] (by kernel_rfl) rfl rfl trivial (fun hHeld => ?_); refine with_tabW escape_reference.tab13 escape_reference.bits13 (fun HT_ HW_ => ?_)
                          generalize w29.drew = w30 at HO_9 HB hHeld ⊢
                          refine pure_ (i := 0) (N := some 42) (v := ?_) (a' := ?_) #[true, false, false, false, false, false, false, false, false, false, false, false, false, false, false, false, false, false, false, false] rfl rfl (any_of HT_.out (by kernel_rfl)) (fun _ _ _ h => h) (Or.inl ⟨by rfl, ?_⟩) ?_ ?_
                          rotate_left
                          · intro w'
                            go_simp
                            with_reducible rfl
                          rotate_left
                          · simp only [Act.put, List.setIfInBounds_toArray, List.set_cons_zero, List.set_cons_succ, i64_w, i32_w]
                            rfl
                          refine pure_ (i := 1) (N := some 43) (v := ?_) (a' := ?_) #[true, true, false, false, false, false, false, false, false, false, false, false, false, false, false, false, false, false, false, false] rfl rfl (any_of HT_.out (by kernel_rfl)) (fun _ _ _ h => h) (Or.inl ⟨by rfl, ?_⟩) ?_ ?_
                          rotate_left
                          · intro w'
                            go_simp
                            with_reducible rfl
                          rotate_left
                          · simp only [Act.put, List.setIfInBounds_toArray, List.set_cons_zero, List.set_cons_succ, i64_w, i32_w]
                            rfl
                          refine pure_ (i := 2) (N := some 44) (v := ?_) (a' := ?_) #[true, true, true, false, false, false, false, false, false, false, false, false, false, false, false, false, false, false, false, false] rfl rfl (any_of HT_.out (by kernel_rfl)) (fun _ _ _ h => h) (Or.inl ⟨by rfl, ?_⟩) ?_ ?_
                          rotate_left
                          · intro w'
                            go_simp
                            with_reducible rfl
                          rotate_left
                          · simp only [Act.put, List.setIfInBounds_toArray, List.set_cons_zero, List.set_cons_succ, i64_w, i32_w]
                            rfl
                          refine pure_ (i := 3) (N := some 45) (v := ?_) (a' := ?_) #[true, true, true, true, false, false, false, false, false, false, false, false, false, false, false, false, false, false, false, false] rfl rfl (any_of HT_.out (by kernel_rfl)) (fun _ _ _ h => h) (Or.inl ⟨by rfl, ?_⟩) ?_ ?_
                          rotate_left
                          · intro w'
                            go_simp
                            with_reducible rfl
                          rotate_left
                          · simp only [Act.put, List.setIfInBounds_toArray, List.set_cons_zero, List.set_cons_succ, i64_w, i32_w]
                            rfl
                          refine pure_ (i := 4) (N := some 46) (v := ?_) (a' := ?_) #[true, true, true, true, true, false, false, false, false, false, false, false, false, false, false, false, false, false, false, false] rfl rfl (any_of HT_.out (by kernel_rfl)) (fun _ _ _ h => h) (Or.inl ⟨by rfl, ?_⟩) ?_ ?_
                          rotate_left
                          · intro w'
                            go_simp
                            with_reducible rfl
                          rotate_left
                          · simp only [Act.put, List.setIfInBounds_toArray, List.set_cons_zero, List.set_cons_succ, i64_w, i32_w]
                            rfl
                          refine pure_ (i := 5) (N := some 47) (v := ?_) (a' := ?_) #[true, true, true, true, true, true, false, false, false, false, false, false, false, false, false, false, false, false, false, false] rfl rfl (any_of HT_.out (by kernel_rfl)) (fun _ _ _ h => h) (Or.inl ⟨by rfl, ?_⟩) ?_ ?_
                          rotate_left
                          · intro w'
                            go_simp
                            with_reducible rfl
                          rotate_left
                          · simp only [Act.put, List.setIfInBounds_toArray, List.set_cons_zero, List.set_cons_succ, i64_w, i32_w]
                            rfl
                          refine pure_ (i := 6) (N := some 48) (v := ?_) (a' := ?_) #[true, true, true, true, true, true, true, false, false, false, false, false, false, false, false, false, false, false, false, false] rfl rfl (any_of HT_.out (by kernel_rfl)) (fun _ _ _ h => h) (Or.inl ⟨by rfl, ?_⟩) ?_ ?_
                          rotate_left
                          · intro w'
                            go_simp
                            with_reducible rfl
                          rotate_left
                          · simp only [Act.put, List.setIfInBounds_toArray, List.set_cons_zero, List.set_cons_succ, i64_w, i32_w]
                            rfl
                          refine pure_ (i := 7) (N := some 49) (v := ?_) (a' := ?_) #[true, true, true, true, true, true, true, true, false, false, false, false, false, false, false, false, false, false, false, false] rfl rfl (any_of HT_.out (by kernel_rfl)) (fun _ _ _ h => h) (Or.inl ⟨by rfl, ?_⟩) ?_ ?_
                          rotate_left
                          · intro w'
                            go_simp
                            with_reducible rfl
                          rotate_left
                          · simp only [Act.put, List.setIfInBounds_toArray, List.set_cons_zero, List.set_cons_succ, i64_w, i32_w]
                            rfl
                          refine pure_ (i := 8) (N := some 50) (v := ?_) (a' := ?_) #[true, true, true, true, true, true, true, true, true, false, false, false, false, false, false, false, false, false, false, false] rfl rfl (any_of HT_.out (by kernel_rfl)) (fun _ _ _ h => h) (Or.inl ⟨by rfl, ?_⟩) ?_ ?_
                          rotate_left
                          · intro w'
                            go_simp
                            with_reducible rfl
                          rotate_left
                          · simp only [Act.put, List.setIfInBounds_toArray, List.set_cons_zero, List.set_cons_succ, i64_w, i32_w]
                            rfl
                          refine pure_ (i := 9) (N := some 51) (v := ?_) (a' := ?_) #[true, true, true, true, true, true, true, true, true, true, false, false, false, false, false, false, false, false, false, false] rfl rfl (any_of HT_.out (by kernel_rfl)) (fun _ _ _ h => h) (Or.inl ⟨by rfl, ?_⟩) ?_ ?_
                          rotate_left
                          · intro w'
                            go_simp
                            with_reducible rfl
                          rotate_left
                          · simp only [Act.put, List.setIfInBounds_toArray, List.set_cons_zero, List.set_cons_succ, i64_w, i32_w]
                            rfl
                          refine pure_ (i := 10) (N := some 52) (v := ?_) (a' := ?_) #[true, true, true, true, true, true, true, true, true, true, true, false, false, false, false, false, false, false, false, false] rfl rfl (any_of HT_.out (by kernel_rfl)) (fun _ _ _ h => h) (Or.inl ⟨by rfl, ?_⟩) ?_ ?_
                          rotate_left
                          · intro w'
                            go_simp
                            with_reducible rfl
                          rotate_left
                          · simp only [Act.put, List.setIfInBounds_toArray, List.set_cons_zero, List.set_cons_succ, i64_w, i32_w]
                            rfl
                          refine pure_ (i := 11) (N := some 53) (v := undef) (a' := ?_) #[true, true, true, true, true, true, true, true, true, true, true, true, false, false, false, false, false, false, false, false] rfl rfl (any_of HT_.out (by kernel_rfl)) (fun _ _ _ h => h) (Or.inr ⟨by rfl, rfl⟩) ?_ ?_
                          rotate_left
                          · simp only [Act.put, List.setIfInBounds_toArray, List.set_cons_zero, List.set_cons_succ, i64_w, i32_w]
                            rfl
                          refine pure_ (i := 12) (N := some 54) (v := undef) (a' := ?_) #[true, true, true, true, true, true, true, true, true, true, true, true, true, false, false, false, false, false, false, false] rfl rfl (any_of HT_.out (by kernel_rfl)) (fun _ _ _ h => h) (Or.inr ⟨by rfl, rfl⟩) ?_ ?_
                          rotate_left
                          · simp only [Act.put, List.setIfInBounds_toArray, List.set_cons_zero, List.set_cons_succ, i64_w, i32_w]
                            rfl
                          refine pure_ (i := 13) (N := some 55) (v := undef) (a' := ?_) #[true, true, true, true, true, true, true, true, true, true, true, true, true, true, false, false, false, false, false, false] rfl rfl (any_of HT_.out (by kernel_rfl)) (fun _ _ _ h => h) (Or.inr ⟨by rfl, rfl⟩) ?_ ?_
                          rotate_left
                          · simp only [Act.put, List.setIfInBounds_toArray, List.set_cons_zero, List.set_cons_succ, i64_w, i32_w]
                            rfl
                          refine pure_ (i := 14) (N := some 56) (v := undef) (a' := ?_) #[true, true, true, true, true, true, true, true, true, true, true, true, true, true, true, false, false, false, false, false] rfl rfl (any_of HT_.out (by kernel_rfl)) (fun _ _ _ h => h) (Or.inr ⟨by rfl, rfl⟩) ?_ ?_
                          rotate_left
                          · simp only [Act.put, List.setIfInBounds_toArray, List.set_cons_zero, List.set_cons_succ, i64_w, i32_w]
                            rfl
                          refine pure_ (i := 15) (N := some 57) (v := undef) (a' := ?_) #[true, true, true, true, true, true, true, true, true, true, true, true, true, true, true, true, false, false, false, false] rfl rfl (any_of HT_.out (by kernel_rfl)) (fun _ _ _ h => h) (Or.inr ⟨by rfl, rfl⟩) ?_ ?_
                          rotate_left
                          · simp only [Act.put, List.setIfInBounds_toArray, List.set_cons_zero, List.set_cons_succ, i64_w, i32_w]
                            rfl
                          refine pure_ (i := 16) (N := some 58) (v := undef) (a' := ?_) #[true, true, true, true, true, true, true, true, true, true, true, true, true, true, true, true, true, false, false, false] rfl rfl (any_of HT_.out (by kernel_rfl)) (fun _ _ _ h => h) (Or.inr ⟨by rfl, rfl⟩) ?_ ?_
                          rotate_left
                          · simp only [Act.put, List.setIfInBounds_toArray, List.set_cons_zero, List.set_cons_succ, i64_w, i32_w]
                            rfl
                          refine pure_ (i := 17) (N := some 59) (v := undef) (a' := ?_) #[true, true, true, true, true, true, true, true, true, true, true, true, true, true, true, true, true, true, false, false] rfl rfl (any_of HT_.out (by kernel_rfl)) (fun _ _ _ h => h) (Or.inr ⟨by rfl, rfl⟩) ?_ ?_
                          rotate_left
                          · simp only [Act.put, List.setIfInBounds_toArray, List.set_cons_zero, List.set_cons_succ, i64_w, i32_w]
                            rfl
                          refine pure_ (i := 18) (N := some 60) (v := undef) (a' := ?_) #[true, true, true, true, true, true, true, true, true, true, true, true, true, true, true, true, true, true, true, false] rfl rfl (any_of HT_.out (by kernel_rfl)) (fun _ _ _ h => h) (Or.inr ⟨by rfl, rfl⟩) ?_ ?_
                          rotate_left
                          · simp only [Act.put, List.setIfInBounds_toArray, List.set_cons_zero, List.set_cons_succ, i64_w, i32_w]
                            rfl
                          refine pure_ (i := 19) (N := some 61) (v := ?_) (a' := ?_) #[true, true, true, true, true, true, true, true, true, true, true, true, true, true, true, true, true, true, true, true] rfl rfl (any_of HT_.out (by kernel_rfl)) (fun _ _ _ h => h) (Or.inl ⟨by rfl, ?_⟩) ?_ ?_
                          rotate_left
                          · intro w'
                            go_simp
                            with_reducible rfl
                          rotate_left
                          · simp only [Act.put, List.setIfInBounds_toArray, List.set_cons_zero, List.set_cons_succ, i64_w, i32_w]
                            rfl
                          refine done_ (done_of HT_.out (by kernel_rfl)) ?_
                          try go_wp2
                          go_ret2
                          exact ⟨by first | rfl | (simp [errW_none, errW_some] <;> rfl) | (simp only [← hji17]; first | rfl | (simp [errW_none, errW_some] <;> rfl)) | (simp [*, errW_none, errW_some] <;> rfl), by repeat (first | (with_reducible first | exact HB.out | apply below_alloc | apply pw_below_drewN | apply below_drew1) | exact HB.out)⟩
                        · rw [if_neg c28] at H
                          have c28b0 : decide (127 < t111) = false := decide_eq_false c28
                          clear c28
                          replace H := Option.bind_eq_some_iff.mp H
                          obtain ⟨t114, A310, H⟩ := H
                          replace H : (if 0 ≤ (wrap64 (t110 + 1)) then (if (wrap64 (t110 + 1)) ≤ (a0.size : Int) then (if t114.toList = (a0.extract 0 ((wrap64 (t110 + 1)) : Int).toNat).toList then (some ((t111) % 256, wrap64 (t110 + 1))) else (some (0, 0))) else (none)) else (none)) = some (r1, r2) := H
                          have A31 := Aside0.mk A310
                          clear A310
                          obtain ⟨ji32, hji32⟩ : ∃ j_ : Int, (wrap64 (t110 + 1)) = j_ := ⟨_, rfl⟩
                          replace H : (if 0 ≤ (ji32) then (if (ji32) ≤ (a0.size : Int) then (if t114.toList = (a0.extract 0 ((ji32) : Int).toNat).toList then (some ((t111) % 256, ji32)) else (some (0, 0))) else (none)) else (none)) = some (r1, r2) := by first | (rw [hji32] at H; exact H) | (simp only [hji32] at H ⊢; exact H)
                          (try rw [hji32] at A15)
                          (try rw [hji32] at A20)
                          (try rw [hji32] at A24)
                          (try rw [hji32] at A31)
                          have hji32w : (IntKind.i64.wrap (t110 + 1)) = ji32 := (i64_w _).trans hji32
                          by_cases c33 : 0 ≤ (ji32)
                          · rw [if_pos c33] at H
                            have c33b0 := eq_true c33
                            have c33b1 : decide (0 ≤ (ji32)) = true := decide_eq_true c33
                            clear c33
                            by_cases c34 : (ji32) ≤ (a0.size : Int)
                            · rw [if_pos c34] at H
                              have c34b0 := eq_true c34
                              have c34b1 : decide ((ji32) ≤ (a0.size : Int)) = true := decide_eq_true c34
                              clear c34
                              by_cases c35 : t114.toList = (a0.extract 0 ((ji32) : Int).toNat).toList
                              · rw [if_pos c35] at H
                                have c35b0 : (t114.toList == (a0.extract 0 ((ji32) : Int).toNat).toList) = true := beq_iff_eq.mpr c35
                                have c35b1 : (t114.toList != (a0.extract 0 ((ji32) : Int).toNat).toList) = false := bne_eq_false_iff_eq.mpr c35
                                clear c35
                                simp only [Option.some.injEq, Prod.mk.injEq] at H
                                obtain ⟨rfl, rfl⟩ := H
                                try go_wp2_with (first | ((with_reducible refine gate_callee (f := 73) rfl ?_); refine goesL_ (some 25) rfl rfl Tryd.func73 (by kernel_rfl) rfl #[.string a0, .string (⟨#[38, 35]⟩ : ByteArray)] rfl (by (try simp only [List.map_toArray, List.map_cons, List.map_nil]); first | done | rfl | (simp only [List.length_drop, List.length_take]; rfl)) ?_; (with_reducible refine (strings_HasPrefix.calls a0 (⟨#[38, 35]⟩ : ByteArray) true _ ?side1 A15.out).mono ?_); (case side1 => first | exact HGL.out | exact (Go.Proofs.YtpanmmpkdbhofaaDoorX.GL.below HGL.out (by repeat (first | (with_reducible first | exact HB.out | apply below_alloc | apply pw_below_drewN | apply below_drew1) | exact HB.out))) | (repeat (first | exact HGL.out | (with_reducible refine Go.Proofs.YtpanmmpkdbhofaaDoorX.GL.drewN ?_ _) | (with_reducible refine Go.Proofs.YtpanmmpkdbhofaaDoorX.GL.drew ?_)))); rintro e w' ⟨rfl, ⟨nd, rfl⟩⟩; refine ⟨_, rfl, ?_⟩) | ((with_reducible refine gate_callee (f := 71) rfl ?_); refine goesL_ (some 32) rfl rfl Tryd.func71 (by kernel_rfl) rfl #[.string (a0.extract 0 ((ji17) : Int).toNat), .int .u8 59] rfl (by (try simp only [List.map_toArray, List.map_cons, List.map_nil]); first | done | (simp only [hji17]; rfl) | rfl | (simp only [List.length_drop, List.length_take]; rfl)) ?_; (with_reducible refine (strings_IndexByte.calls (a0.extract 0 ((ji17) : Int).toNat) 59 t110 _ ?side1 A20.out).mono ?_); (case side1 => first | exact HGL.out | exact (Go.Proofs.YtpanmmpkdbhofaaDoorX.GL.below HGL.out (by repeat (first | (with_reducible first | exact HB.out | apply below_alloc | apply pw_below_drewN | apply below_drew1) | exact HB.out))) | (repeat (first | exact HGL.out | (with_reducible refine Go.Proofs.YtpanmmpkdbhofaaDoorX.GL.drewN ?_ _) | (with_reducible refine Go.Proofs.YtpanmmpkdbhofaaDoorX.GL.drew ?_)))); rintro e w' ⟨rfl, ⟨nd, rfl⟩⟩; refine ⟨_, rfl, ?_⟩) | ((with_reducible refine gate_callee (f := 52) rfl ?_); refine goesL_ (some 39) rfl rfl Tryd.func52 (by kernel_rfl) rfl #[.string (a0.extract 2 (t110 : Int).toNat)] rfl (by (try simp only [List.map_toArray, List.map_cons, List.map_nil]); first | done | rfl | (simp only [List.length_drop, List.length_take]; rfl)) ?_; (with_reducible refine (strconv_Atoi.calls (a0.extract 2 (t110 : Int).toNat) t111 none _ ?side1 A24.out).mono ?_); (case side1 => first | exact HGL.out | exact (Go.Proofs.YtpanmmpkdbhofaaDoorX.GL.below HGL.out (by repeat (first | (with_reducible first | exact HB.out | apply below_alloc | apply pw_below_drewN | apply below_drew1) | exact HB.out))) | (repeat (first | exact HGL.out | (with_reducible refine Go.Proofs.YtpanmmpkdbhofaaDoorX.GL.drewN ?_ _) | (with_reducible refine Go.Proofs.YtpanmmpkdbhofaaDoorX.GL.drew ?_)))); rintro e w36 ⟨rfl, hb⟩; refine ⟨_, rfl, ?_⟩; have n0_ := Aside0.mk (Kd.R_below (by (with_reducible repeat (first | apply Kd.R_alloc | apply Kd.R_drewN | apply Kd.R_drew)); exact HO_9.out) hb); have n1_ := Aside0.mk (below_step (by repeat (first | (with_reducible first | exact HB.out | apply below_alloc | apply pw_below_drewN | apply below_drew1) | exact HB.out)) hb); clear HO_9; clear HB; have HO_9 := n0_; have HB := n1_; clear n0_ n1_; (try clear hb); (try clear hb2); (try clear hk); (try clear hi); (try simp only [errW_none, errW_some])))
                                have n0_ := Aside0.mk (Kd.R_drew HO_9.out)
                                have n1_ := Aside0.mk (below_drew1 HB.out)
                                clear HO_9
                                clear HB
                                have HO_9 := n0_
                                have HB := n1_
                                clear n0_ n1_
                                refine start_ (n := 20) (S := fun w' => True) (ds := []) #[false, false, false, false, false, false, false, false, false, false, false, false, false, false, false, false, false, false, false, false] (by kernel_rfl) rfl rfl trivial (fun hHeld => ?_); refine with_tabW escape_reference.tab13 escape_reference.bits13 (fun HT_ HW_ => ?_)
                                generalize w36.drew = w37 at HO_9 HB hHeld ⊢
                                refine pure_ (i := 0) (N := some 42) (v := ?_) (a' := ?_) #[true, false, false, false, false, false, false, false, false, false, false, false, false, false, false, false, false, false, false, false] rfl rfl (any_of HT_.out (by kernel_rfl)) (fun _ _ _ h => h) (Or.inl ⟨by rfl, ?_⟩) ?_ ?_
                                rotate_left
                                · intro w'
                                  go_simp
                                  with_reducible rfl
                                rotate_left
                                · simp only [Act.put, List.setIfInBounds_toArray, List.set_cons_zero, List.set_cons_succ, i64_w, i32_w]
                                  rfl
                                refine pure_ (i := 1) (N := some 43) (v := ?_) (a' := ?_) #[true, true, false, false, false, false, false, false, false, false, false, false, false, false, false, false, false, false, false, false] rfl rfl (any_of HT_.out (by kernel_rfl)) (fun _ _ _ h => h) (Or.inl ⟨by rfl, ?_⟩) ?_ ?_
                                rotate_left
                                · intro w'
                                  go_simp
                                  with_reducible rfl
                                rotate_left
                                · simp only [Act.put, List.setIfInBounds_toArray, List.set_cons_zero, List.set_cons_succ, i64_w, i32_w]
                                  rfl
                                refine pure_ (i := 2) (N := some 44) (v := ?_) (a' := ?_) #[true, true, true, false, false, false, false, false, false, false, false, false, false, false, false, false, false, false, false, false] rfl rfl (any_of HT_.out (by kernel_rfl)) (fun _ _ _ h => h) (Or.inl ⟨by rfl, ?_⟩) ?_ ?_
                                rotate_left
                                · intro w'
                                  go_simp
                                  with_reducible rfl
                                rotate_left
                                · simp only [Act.put, List.setIfInBounds_toArray, List.set_cons_zero, List.set_cons_succ, i64_w, i32_w]
                                  rfl
                                refine pure_ (i := 3) (N := some 45) (v := ?_) (a' := ?_) #[true, true, true, true, false, false, false, false, false, false, false, false, false, false, false, false, false, false, false, false] rfl rfl (any_of HT_.out (by kernel_rfl)) (fun _ _ _ h => h) (Or.inl ⟨by rfl, ?_⟩) ?_ ?_
                                rotate_left
                                · intro w'
                                  go_simp
                                  with_reducible rfl
                                rotate_left
                                · simp only [Act.put, List.setIfInBounds_toArray, List.set_cons_zero, List.set_cons_succ, i64_w, i32_w]
                                  rfl
                                refine pure_ (i := 4) (N := some 46) (v := ?_) (a' := ?_) #[true, true, true, true, true, false, false, false, false, false, false, false, false, false, false, false, false, false, false, false] rfl rfl (any_of HT_.out (by kernel_rfl)) (fun _ _ _ h => h) (Or.inl ⟨by rfl, ?_⟩) ?_ ?_
                                rotate_left
                                · intro w'
                                  go_simp
                                  with_reducible rfl
                                rotate_left
                                · simp only [Act.put, List.setIfInBounds_toArray, List.set_cons_zero, List.set_cons_succ, i64_w, i32_w]
                                  rfl
                                refine pure_ (i := 5) (N := some 47) (v := ?_) (a' := ?_) #[true, true, true, true, true, true, false, false, false, false, false, false, false, false, false, false, false, false, false, false] rfl rfl (any_of HT_.out (by kernel_rfl)) (fun _ _ _ h => h) (Or.inl ⟨by rfl, ?_⟩) ?_ ?_
                                rotate_left
                                · intro w'
                                  go_simp
                                  with_reducible rfl
                                rotate_left
                                · simp only [Act.put, List.setIfInBounds_toArray, List.set_cons_zero, List.set_cons_succ, i64_w, i32_w]
                                  rfl
                                refine pure_ (i := 6) (N := some 48) (v := ?_) (a' := ?_) #[true, true, true, true, true, true, true, false, false, false, false, false, false, false, false, false, false, false, false, false] rfl rfl (any_of HT_.out (by kernel_rfl)) (fun _ _ _ h => h) (Or.inl ⟨by rfl, ?_⟩) ?_ ?_
                                rotate_left
                                · intro w'
                                  go_simp
                                  with_reducible rfl
                                rotate_left
                                · simp only [Act.put, List.setIfInBounds_toArray, List.set_cons_zero, List.set_cons_succ, i64_w, i32_w]
                                  rfl
                                refine pure_ (i := 7) (N := some 49) (v := ?_) (a' := ?_) #[true, true, true, true, true, true, true, true, false, false, false, false, false, false, false, false, false, false, false, false] rfl rfl (any_of HT_.out (by kernel_rfl)) (fun _ _ _ h => h) (Or.inl ⟨by rfl, ?_⟩) ?_ ?_
                                rotate_left
                                · intro w'
                                  go_simp
                                  with_reducible rfl
                                rotate_left
                                · simp only [Act.put, List.setIfInBounds_toArray, List.set_cons_zero, List.set_cons_succ, i64_w, i32_w]
                                  rfl
                                refine pure_ (i := 8) (N := some 50) (v := ?_) (a' := ?_) #[true, true, true, true, true, true, true, true, true, false, false, false, false, false, false, false, false, false, false, false] rfl rfl (any_of HT_.out (by kernel_rfl)) (fun _ _ _ h => h) (Or.inl ⟨by rfl, ?_⟩) ?_ ?_
                                rotate_left
                                · intro w'
                                  go_simp
                                  with_reducible rfl
                                rotate_left
                                · simp only [Act.put, List.setIfInBounds_toArray, List.set_cons_zero, List.set_cons_succ, i64_w, i32_w]
                                  rfl
                                refine pure_ (i := 9) (N := some 51) (v := ?_) (a' := ?_) #[true, true, true, true, true, true, true, true, true, true, false, false, false, false, false, false, false, false, false, false] rfl rfl (any_of HT_.out (by kernel_rfl)) (fun _ _ _ h => h) (Or.inl ⟨by rfl, ?_⟩) ?_ ?_
                                rotate_left
                                · intro w'
                                  go_simp
                                  with_reducible rfl
                                rotate_left
                                · simp only [Act.put, List.setIfInBounds_toArray, List.set_cons_zero, List.set_cons_succ, i64_w, i32_w]
                                  rfl
                                refine pure_ (i := 10) (N := some 52) (v := ?_) (a' := ?_) #[true, true, true, true, true, true, true, true, true, true, true, false, false, false, false, false, false, false, false, false] rfl rfl (any_of HT_.out (by kernel_rfl)) (fun _ _ _ h => h) (Or.inl ⟨by rfl, ?_⟩) ?_ ?_
                                rotate_left
                                · intro w'
                                  go_simp
                                  with_reducible rfl
                                rotate_left
                                · simp only [Act.put, List.setIfInBounds_toArray, List.set_cons_zero, List.set_cons_succ, i64_w, i32_w]
                                  rfl
                                refine pure_ (i := 11) (N := some 53) (v := ?_) (a' := ?_) #[true, true, true, true, true, true, true, true, true, true, true, true, false, false, false, false, false, false, false, false] rfl rfl (any_of HT_.out (by kernel_rfl)) (fun _ _ _ h => h) (Or.inl ⟨by rfl, ?_⟩) ?_ ?_
                                rotate_left
                                · intro w'
                                  go_simp
                                  with_reducible rfl
                                rotate_left
                                · simp only [Act.put, List.setIfInBounds_toArray, List.set_cons_zero, List.set_cons_succ, i64_w, i32_w]
                                  rfl
                                refine pure_ (i := 12) (N := some 54) (v := ?_) (a' := ?_) #[true, true, true, true, true, true, true, true, true, true, true, true, true, false, false, false, false, false, false, false] rfl rfl (any_of HT_.out (by kernel_rfl)) (fun _ _ _ h => h) (Or.inl ⟨by rfl, ?_⟩) ?_ ?_
                                rotate_left
                                · intro w'
                                  go_simp
                                  with_reducible rfl
                                rotate_left
                                · simp only [Act.put, List.setIfInBounds_toArray, List.set_cons_zero, List.set_cons_succ, i64_w, i32_w]
                                  rfl
                                refine pure_ (i := 14) (N := some 56) (v := ?_) (a' := ?_) #[true, true, true, true, true, true, true, true, true, true, true, true, true, false, true, false, false, false, false, false] rfl rfl (any_of HT_.out (by kernel_rfl)) (fun _ _ _ h => h) (Or.inl ⟨by rfl, ?_⟩) ?_ ?_
                                rotate_left
                                · intro w'
                                  go_simp
                                  with_reducible rfl
                                rotate_left
                                · simp only [Act.put, List.setIfInBounds_toArray, List.set_cons_zero, List.set_cons_succ, i64_w, i32_w]
                                  rfl
                                refine pure_ (i := 15) (N := some 57) (v := ?_) (a' := ?_) #[true, true, true, true, true, true, true, true, true, true, true, true, true, false, true, true, false, false, false, false] rfl rfl (any_of HT_.out (by kernel_rfl)) (fun _ _ _ h => h) (Or.inl ⟨by rfl, ?_⟩) ?_ ?_
                                rotate_left
                                · intro w'
                                  go_simp
                                  with_reducible rfl
                                rotate_left
                                · simp only [Act.put, List.setIfInBounds_toArray, List.set_cons_zero, List.set_cons_succ, i64_w, i32_w]
                                  rfl
                                refine pure_ (i := 16) (N := some 58) (v := ?_) (a' := ?_) #[true, true, true, true, true, true, true, true, true, true, true, true, true, false, true, true, true, false, false, false] rfl rfl (any_of HT_.out (by kernel_rfl)) (fun _ _ _ h => h) (Or.inl ⟨by rfl, ?_⟩) ?_ ?_
                                rotate_left
                                · intro w'
                                  go_simp
                                  with_reducible rfl
                                rotate_left
                                · simp only [Act.put, List.setIfInBounds_toArray, List.set_cons_zero, List.set_cons_succ, i64_w, i32_w]
                                  rfl
                                refine pure_ (i := 17) (N := some 59) (v := ?_) (a' := ?_) #[true, true, true, true, true, true, true, true, true, true, true, true, true, false, true, true, true, true, false, false] rfl rfl (any_of HT_.out (by kernel_rfl)) (fun _ _ _ h => h) (Or.inl ⟨by rfl, ?_⟩) ?_ ?_
                                rotate_left
                                · intro w'
                                  go_simp
                                  with_reducible rfl
                                rotate_left
                                · simp only [Act.put, List.setIfInBounds_toArray, List.set_cons_zero, List.set_cons_succ, i64_w, i32_w]
                                  rfl
                                refine one_ (i := 13) (N := some 55) #[true, true, true, true, true, true, true, true, true, true, true, true, true, true, true, true, true, true, false, false] rfl rfl (one_of HT_.out (by kernel_rfl)) (by decide) (fun K hK => ?_)
                                refine goes_ Tryd.func58 (by kernel_rfl) rfl #[.int .u8 ((t111) % 256)] (by rfl) rfl rfl (by (try simp only [List.map_toArray, List.map_cons, List.map_nil]); first | done | rfl | (simp only [List.length_drop, List.length_take]; rfl)) ?_
                                with_reducible refine (escape_form.calls ((t111) % 256) t114 _ ?side1 A31.out).mono ?_
                                (case side1 => first | exact HGL.out | exact (Go.Proofs.YtpanmmpkdbhofaaDoorX.GL.below HGL.out (by repeat (first | (with_reducible first | exact HB.out | apply below_alloc | apply pw_below_drewN | apply below_drew1) | exact HB.out))) | (repeat (first | exact HGL.out | (with_reducible refine Go.Proofs.YtpanmmpkdbhofaaDoorX.GL.drewN ?_ _) | (with_reducible refine Go.Proofs.YtpanmmpkdbhofaaDoorX.GL.drew ?_))))
                                rintro e w38 ⟨rfl, hb⟩
                                refine ⟨_, rfl, ?_⟩
                                have n0_ := Aside0.mk (Kd.R_below (by (with_reducible repeat (first | apply Kd.R_alloc | apply Kd.R_drewN | apply Kd.R_drew)); exact HO_9.out) hb)
                                have n1_ := Aside0.mk (below_step (by repeat (first | (with_reducible first | exact HB.out | apply below_alloc | apply pw_below_drewN | apply below_drew1) | exact HB.out)) hb)
                                clear HO_9
                                clear HB
                                have HO_9 := n0_
                                have HB := n1_
                                clear n0_ n1_
                                (try clear hb)
                                (try clear hb2)
                                (try clear hk)
                                (try clear hi)
                                refine hK.out _ _ trivial (fun hHeld => ?_)
                                clear hK K
                                refine norm_ (a' := ?_) ?_ ?_
                                rotate_left
                                · show Act.put _ (some 55) _ = _
                                  simp only [Act.put, List.setIfInBounds_toArray, List.set_cons_zero, List.set_cons_succ, i64_w, i32_w]
                                  rfl
                                refine pure_ (i := 18) (N := some 60) (v := ?_) (a' := ?_) #[true, true, true, true, true, true, true, true, true, true, true, true, true, true, true, true, true, true, true, false] rfl rfl (any_of HT_.out (by kernel_rfl)) (fun _ _ _ h => h) (Or.inl ⟨by rfl, ?_⟩) ?_ ?_
                                rotate_left
                                · intro w'
                                  go_simp
                                  with_reducible rfl
                                rotate_left
                                · simp only [Act.put, List.setIfInBounds_toArray, List.set_cons_zero, List.set_cons_succ, i64_w, i32_w]
                                  rfl
                                refine pure_ (i := 19) (N := some 61) (v := ?_) (a' := ?_) #[true, true, true, true, true, true, true, true, true, true, true, true, true, true, true, true, true, true, true, true] rfl rfl (any_of HT_.out (by kernel_rfl)) (fun _ _ _ h => h) (Or.inl ⟨by rfl, ?_⟩) ?_ ?_
                                rotate_left
                                · intro w'
                                  go_simp
                                  with_reducible rfl
                                rotate_left
                                · simp only [Act.put, List.setIfInBounds_toArray, List.set_cons_zero, List.set_cons_succ, i64_w, i32_w]
                                  rfl
                                refine done_ (done_of HT_.out (by kernel_rfl)) ?_
                                try go_wp2
                                go_ret2
                                exact ⟨by first | rfl | (simp [errW_none, errW_some] <;> rfl) | (simp only [← hji17, ← hji32]; first | rfl | (simp [errW_none, errW_some] <;> rfl)) | (simp [*, errW_none, errW_some] <;> rfl), by repeat (first | (with_reducible first | exact HB.out | apply below_alloc | apply pw_below_drewN | apply below_drew1) | exact HB.out)⟩
                              · rw [if_neg c35] at H
                                have c35b0 : (t114.toList == (a0.extract 0 ((ji32) : Int).toNat).toList) = false := beq_eq_false_iff_ne.mpr c35
                                have c35b1 : (t114.toList != (a0.extract 0 ((ji32) : Int).toNat).toList) = true := bne_iff_ne.mpr c35
                                simp only [Option.some.injEq, Prod.mk.injEq] at H
                                obtain ⟨rfl, rfl⟩ := H
                                try go_wp2_with (first | ((with_reducible refine gate_callee (f := 73) rfl ?_); refine goesL_ (some 25) rfl rfl Tryd.func73 (by kernel_rfl) rfl #[.string a0, .string (⟨#[38, 35]⟩ : ByteArray)] rfl (by (try simp only [List.map_toArray, List.map_cons, List.map_nil]); first | done | rfl | (simp only [List.length_drop, List.length_take]; rfl)) ?_; (with_reducible refine (strings_HasPrefix.calls a0 (⟨#[38, 35]⟩ : ByteArray) true _ ?side1 A15.out).mono ?_); (case side1 => first | exact HGL.out | exact (Go.Proofs.YtpanmmpkdbhofaaDoorX.GL.below HGL.out (by repeat (first | (with_reducible first | exact HB.out | apply below_alloc | apply pw_below_drewN | apply below_drew1) | exact HB.out))) | (repeat (first | exact HGL.out | (with_reducible refine Go.Proofs.YtpanmmpkdbhofaaDoorX.GL.drewN ?_ _) | (with_reducible refine Go.Proofs.YtpanmmpkdbhofaaDoorX.GL.drew ?_)))); rintro e w' ⟨rfl, ⟨nd, rfl⟩⟩; refine ⟨_, rfl, ?_⟩) | ((with_reducible refine gate_callee (f := 71) rfl ?_); refine goesL_ (some 32) rfl rfl Tryd.func71 (by kernel_rfl) rfl #[.string (a0.extract 0 ((ji17) : Int).toNat), .int .u8 59] rfl (by (try simp only [List.map_toArray, List.map_cons, List.map_nil]); first | done | (simp only [hji17]; rfl) | rfl | (simp only [List.length_drop, List.length_take]; rfl)) ?_; (with_reducible refine (strings_IndexByte.calls (a0.extract 0 ((ji17) : Int).toNat) 59 t110 _ ?side1 A20.out).mono ?_); (case side1 => first | exact HGL.out | exact (Go.Proofs.YtpanmmpkdbhofaaDoorX.GL.below HGL.out (by repeat (first | (with_reducible first | exact HB.out | apply below_alloc | apply pw_below_drewN | apply below_drew1) | exact HB.out))) | (repeat (first | exact HGL.out | (with_reducible refine Go.Proofs.YtpanmmpkdbhofaaDoorX.GL.drewN ?_ _) | (with_reducible refine Go.Proofs.YtpanmmpkdbhofaaDoorX.GL.drew ?_)))); rintro e w' ⟨rfl, ⟨nd, rfl⟩⟩; refine ⟨_, rfl, ?_⟩) | ((with_reducible refine gate_callee (f := 52) rfl ?_); refine goesL_ (some 39) rfl rfl Tryd.func52 (by kernel_rfl) rfl #[.string (a0.extract 2 (t110 : Int).toNat)] rfl (by (try simp only [List.map_toArray, List.map_cons, List.map_nil]); first | done | rfl | (simp only [List.length_drop, List.length_take]; rfl)) ?_; (with_reducible refine (strconv_Atoi.calls (a0.extract 2 (t110 : Int).toNat) t111 none _ ?side1 A24.out).mono ?_); (case side1 => first | exact HGL.out | exact (Go.Proofs.YtpanmmpkdbhofaaDoorX.GL.below HGL.out (by repeat (first | (with_reducible first | exact HB.out | apply below_alloc | apply pw_below_drewN | apply below_drew1) | exact HB.out))) | (repeat (first | exact HGL.out | (with_reducible refine Go.Proofs.YtpanmmpkdbhofaaDoorX.GL.drewN ?_ _) | (with_reducible refine Go.Proofs.YtpanmmpkdbhofaaDoorX.GL.drew ?_)))); rintro e w39 ⟨rfl, hb⟩; refine ⟨_, rfl, ?_⟩; have n0_ := Aside0.mk (Kd.R_below (by (with_reducible repeat (first | apply Kd.R_alloc | apply Kd.R_drewN | apply Kd.R_drew)); exact HO_9.out) hb); have n1_ := Aside0.mk (below_step (by repeat (first | (with_reducible first | exact HB.out | apply below_alloc | apply pw_below_drewN | apply below_drew1) | exact HB.out)) hb); clear HO_9; clear HB; have HO_9 := n0_; have HB := n1_; clear n0_ n1_; (try clear hb); (try clear hb2); (try clear hk); (try clear hi); (try simp only [errW_none, errW_some])))
                                have n0_ := Aside0.mk (Kd.R_drew HO_9.out)
                                have n1_ := Aside0.mk (below_drew1 HB.out)
                                clear HO_9
                                clear HB
                                have HO_9 := n0_
                                have HB := n1_
                                clear n0_ n1_
                                refine start_ (n := 20) (S := fun w' => True) (ds := []) #[false, false, false, false, false, false, false, false, false, false, false, false, false, false, false, false, false, false, false, false] (by kernel_rfl) rfl rfl trivial (fun hHeld => ?_); refine with_tabW escape_reference.tab13 escape_reference.bits13 (fun HT_ HW_ => ?_)
                                generalize w39.drew = w40 at HO_9 HB hHeld ⊢
                                refine pure_ (i := 0) (N := some 42) (v := ?_) (a' := ?_) #[true, false, false, false, false, false, false, false, false, false, false, false, false, false, false, false, false, false, false, false] rfl rfl (any_of HT_.out (by kernel_rfl)) (fun _ _ _ h => h) (Or.inl ⟨by rfl, ?_⟩) ?_ ?_
                                rotate_left
                                · intro w'
                                  go_simp
                                  with_reducible rfl
                                rotate_left
                                · simp only [Act.put, List.setIfInBounds_toArray, List.set_cons_zero, List.set_cons_succ, i64_w, i32_w]
                                  rfl
                                refine pure_ (i := 1) (N := some 43) (v := ?_) (a' := ?_) #[true, true, false, false, false, false, false, false, false, false, false, false, false, false, false, false, false, false, false, false] rfl rfl (any_of HT_.out (by kernel_rfl)) (fun _ _ _ h => h) (Or.inl ⟨by rfl, ?_⟩) ?_ ?_
                                rotate_left
                                · intro w'
                                  go_simp
                                  with_reducible rfl
                                rotate_left
                                · simp only [Act.put, List.setIfInBounds_toArray, List.set_cons_zero, List.set_cons_succ, i64_w, i32_w]
                                  rfl
                                refine pure_ (i := 2) (N := some 44) (v := ?_) (a' := ?_) #[true, true, true, false, false, false, false, false, false, false, false, false, false, false, false, false, false, false, false, false] rfl rfl (any_of HT_.out (by kernel_rfl)) (fun _ _ _ h => h) (Or.inl ⟨by rfl, ?_⟩) ?_ ?_
                                rotate_left
                                · intro w'
                                  go_simp
                                  with_reducible rfl
                                rotate_left
                                · simp only [Act.put, List.setIfInBounds_toArray, List.set_cons_zero, List.set_cons_succ, i64_w, i32_w]
                                  rfl
                                refine pure_ (i := 3) (N := some 45) (v := ?_) (a' := ?_) #[true, true, true, true, false, false, false, false, false, false, false, false, false, false, false, false, false, false, false, false] rfl rfl (any_of HT_.out (by kernel_rfl)) (fun _ _ _ h => h) (Or.inl ⟨by rfl, ?_⟩) ?_ ?_
                                rotate_left
                                · intro w'
                                  go_simp
                                  with_reducible rfl
                                rotate_left
                                · simp only [Act.put, List.setIfInBounds_toArray, List.set_cons_zero, List.set_cons_succ, i64_w, i32_w]
                                  rfl
                                refine pure_ (i := 4) (N := some 46) (v := ?_) (a' := ?_) #[true, true, true, true, true, false, false, false, false, false, false, false, false, false, false, false, false, false, false, false] rfl rfl (any_of HT_.out (by kernel_rfl)) (fun _ _ _ h => h) (Or.inl ⟨by rfl, ?_⟩) ?_ ?_
                                rotate_left
                                · intro w'
                                  go_simp
                                  with_reducible rfl
                                rotate_left
                                · simp only [Act.put, List.setIfInBounds_toArray, List.set_cons_zero, List.set_cons_succ, i64_w, i32_w]
                                  rfl
                                refine pure_ (i := 5) (N := some 47) (v := ?_) (a' := ?_) #[true, true, true, true, true, true, false, false, false, false, false, false, false, false, false, false, false, false, false, false] rfl rfl (any_of HT_.out (by kernel_rfl)) (fun _ _ _ h => h) (Or.inl ⟨by rfl, ?_⟩) ?_ ?_
                                rotate_left
                                · intro w'
                                  go_simp
                                  with_reducible rfl
                                rotate_left
                                · simp only [Act.put, List.setIfInBounds_toArray, List.set_cons_zero, List.set_cons_succ, i64_w, i32_w]
                                  rfl
                                refine pure_ (i := 6) (N := some 48) (v := ?_) (a' := ?_) #[true, true, true, true, true, true, true, false, false, false, false, false, false, false, false, false, false, false, false, false] rfl rfl (any_of HT_.out (by kernel_rfl)) (fun _ _ _ h => h) (Or.inl ⟨by rfl, ?_⟩) ?_ ?_
                                rotate_left
                                · intro w'
                                  go_simp
                                  with_reducible rfl
                                rotate_left
                                · simp only [Act.put, List.setIfInBounds_toArray, List.set_cons_zero, List.set_cons_succ, i64_w, i32_w]
                                  rfl
                                refine pure_ (i := 7) (N := some 49) (v := ?_) (a' := ?_) #[true, true, true, true, true, true, true, true, false, false, false, false, false, false, false, false, false, false, false, false] rfl rfl (any_of HT_.out (by kernel_rfl)) (fun _ _ _ h => h) (Or.inl ⟨by rfl, ?_⟩) ?_ ?_
                                rotate_left
                                · intro w'
                                  go_simp
                                  with_reducible rfl
                                rotate_left
                                · simp only [Act.put, List.setIfInBounds_toArray, List.set_cons_zero, List.set_cons_succ, i64_w, i32_w]
                                  rfl
                                refine pure_ (i := 8) (N := some 50) (v := ?_) (a' := ?_) #[true, true, true, true, true, true, true, true, true, false, false, false, false, false, false, false, false, false, false, false] rfl rfl (any_of HT_.out (by kernel_rfl)) (fun _ _ _ h => h) (Or.inl ⟨by rfl, ?_⟩) ?_ ?_
                                rotate_left
                                · intro w'
                                  go_simp
                                  with_reducible rfl
                                rotate_left
                                · simp only [Act.put, List.setIfInBounds_toArray, List.set_cons_zero, List.set_cons_succ, i64_w, i32_w]
                                  rfl
                                refine pure_ (i := 9) (N := some 51) (v := ?_) (a' := ?_) #[true, true, true, true, true, true, true, true, true, true, false, false, false, false, false, false, false, false, false, false] rfl rfl (any_of HT_.out (by kernel_rfl)) (fun _ _ _ h => h) (Or.inl ⟨by rfl, ?_⟩) ?_ ?_
                                rotate_left
                                · intro w'
                                  go_simp
                                  with_reducible rfl
                                rotate_left
                                · simp only [Act.put, List.setIfInBounds_toArray, List.set_cons_zero, List.set_cons_succ, i64_w, i32_w]
                                  rfl
                                refine pure_ (i := 10) (N := some 52) (v := ?_) (a' := ?_) #[true, true, true, true, true, true, true, true, true, true, true, false, false, false, false, false, false, false, false, false] rfl rfl (any_of HT_.out (by kernel_rfl)) (fun _ _ _ h => h) (Or.inl ⟨by rfl, ?_⟩) ?_ ?_
                                rotate_left
                                · intro w'
                                  go_simp
                                  with_reducible rfl
                                rotate_left
                                · simp only [Act.put, List.setIfInBounds_toArray, List.set_cons_zero, List.set_cons_succ, i64_w, i32_w]
                                  rfl
                                refine pure_ (i := 11) (N := some 53) (v := ?_) (a' := ?_) #[true, true, true, true, true, true, true, true, true, true, true, true, false, false, false, false, false, false, false, false] rfl rfl (any_of HT_.out (by kernel_rfl)) (fun _ _ _ h => h) (Or.inl ⟨by rfl, ?_⟩) ?_ ?_
                                rotate_left
                                · intro w'
                                  go_simp
                                  with_reducible rfl
                                rotate_left
                                · simp only [Act.put, List.setIfInBounds_toArray, List.set_cons_zero, List.set_cons_succ, i64_w, i32_w]
                                  rfl
                                refine pure_ (i := 12) (N := some 54) (v := ?_) (a' := ?_) #[true, true, true, true, true, true, true, true, true, true, true, true, true, false, false, false, false, false, false, false] rfl rfl (any_of HT_.out (by kernel_rfl)) (fun _ _ _ h => h) (Or.inl ⟨by rfl, ?_⟩) ?_ ?_
                                rotate_left
                                · intro w'
                                  go_simp
                                  with_reducible rfl
                                rotate_left
                                · simp only [Act.put, List.setIfInBounds_toArray, List.set_cons_zero, List.set_cons_succ, i64_w, i32_w]
                                  rfl
                                refine pure_ (i := 14) (N := some 56) (v := ?_) (a' := ?_) #[true, true, true, true, true, true, true, true, true, true, true, true, true, false, true, false, false, false, false, false] rfl rfl (any_of HT_.out (by kernel_rfl)) (fun _ _ _ h => h) (Or.inl ⟨by rfl, ?_⟩) ?_ ?_
                                rotate_left
                                · intro w'
                                  go_simp
                                  with_reducible rfl
                                rotate_left
                                · simp only [Act.put, List.setIfInBounds_toArray, List.set_cons_zero, List.set_cons_succ, i64_w, i32_w]
                                  rfl
                                refine pure_ (i := 15) (N := some 57) (v := ?_) (a' := ?_) #[true, true, true, true, true, true, true, true, true, true, true, true, true, false, true, true, false, false, false, false] rfl rfl (any_of HT_.out (by kernel_rfl)) (fun _ _ _ h => h) (Or.inl ⟨by rfl, ?_⟩) ?_ ?_
                                rotate_left
                                · intro w'
                                  go_simp
                                  with_reducible rfl
                                rotate_left
                                · simp only [Act.put, List.setIfInBounds_toArray, List.set_cons_zero, List.set_cons_succ, i64_w, i32_w]
                                  rfl
                                refine pure_ (i := 16) (N := some 58) (v := ?_) (a' := ?_) #[true, true, true, true, true, true, true, true, true, true, true, true, true, false, true, true, true, false, false, false] rfl rfl (any_of HT_.out (by kernel_rfl)) (fun _ _ _ h => h) (Or.inl ⟨by rfl, ?_⟩) ?_ ?_
                                rotate_left
                                · intro w'
                                  go_simp
                                  with_reducible rfl
                                rotate_left
                                · simp only [Act.put, List.setIfInBounds_toArray, List.set_cons_zero, List.set_cons_succ, i64_w, i32_w]
                                  rfl
                                refine pure_ (i := 17) (N := some 59) (v := ?_) (a' := ?_) #[true, true, true, true, true, true, true, true, true, true, true, true, true, false, true, true, true, true, false, false] rfl rfl (any_of HT_.out (by kernel_rfl)) (fun _ _ _ h => h) (Or.inl ⟨by rfl, ?_⟩) ?_ ?_
                                rotate_left
                                · intro w'
                                  go_simp
                                  with_reducible rfl
                                rotate_left
                                · simp only [Act.put, List.setIfInBounds_toArray, List.set_cons_zero, List.set_cons_succ, i64_w, i32_w]
                                  rfl
                                refine one_ (i := 13) (N := some 55) #[true, true, true, true, true, true, true, true, true, true, true, true, true, true, true, true, true, true, false, false] rfl rfl (one_of HT_.out (by kernel_rfl)) (by decide) (fun K hK => ?_)
                                refine goes_ Tryd.func58 (by kernel_rfl) rfl #[.int .u8 ((t111) % 256)] (by rfl) rfl rfl (by (try simp only [List.map_toArray, List.map_cons, List.map_nil]); first | done | rfl | (simp only [List.length_drop, List.length_take]; rfl)) ?_
                                with_reducible refine (escape_form.calls ((t111) % 256) t114 _ ?side1 A31.out).mono ?_
                                (case side1 => first | exact HGL.out | exact (Go.Proofs.YtpanmmpkdbhofaaDoorX.GL.below HGL.out (by repeat (first | (with_reducible first | exact HB.out | apply below_alloc | apply pw_below_drewN | apply below_drew1) | exact HB.out))) | (repeat (first | exact HGL.out | (with_reducible refine Go.Proofs.YtpanmmpkdbhofaaDoorX.GL.drewN ?_ _) | (with_reducible refine Go.Proofs.YtpanmmpkdbhofaaDoorX.GL.drew ?_))))
                                rintro e w41 ⟨rfl, hb⟩
                                refine ⟨_, rfl, ?_⟩
                                have n0_ := Aside0.mk (Kd.R_below (by (with_reducible repeat (first | apply Kd.R_alloc | apply Kd.R_drewN | apply Kd.R_drew)); exact HO_9.out) hb)
                                have n1_ := Aside0.mk (below_step (by repeat (first | (with_reducible first | exact HB.out | apply below_alloc | apply pw_below_drewN | apply below_drew1) | exact HB.out)) hb)
                                clear HO_9
                                clear HB
                                have HO_9 := n0_
                                have HB := n1_
                                clear n0_ n1_
                                (try clear hb)
                                (try clear hb2)
                                (try clear hk)
                                (try clear hi)
                                refine hK.out _ _ trivial (fun hHeld => ?_)
                                clear hK K
                                refine norm_ (a' := ?_) ?_ ?_
                                rotate_left
                                · show Act.put _ (some 55) _ = _
                                  simp only [Act.put, List.setIfInBounds_toArray, List.set_cons_zero, List.set_cons_succ, i64_w, i32_w]
                                  rfl
                                refine pure_ (i := 18) (N := some 60) (v := ?_) (a' := ?_) #[true, true, true, true, true, true, true, true, true, true, true, true, true, true, true, true, true, true, true, false] rfl rfl (any_of HT_.out (by kernel_rfl)) (fun _ _ _ h => h) (Or.inl ⟨by rfl, ?_⟩) ?_ ?_
                                rotate_left
                                · intro w'
                                  go_simp
                                  with_reducible rfl
                                rotate_left
                                · simp only [Act.put, List.setIfInBounds_toArray, List.set_cons_zero, List.set_cons_succ, i64_w, i32_w]
                                  rfl
                                refine pure_ (i := 19) (N := some 61) (v := ?_) (a' := ?_) #[true, true, true, true, true, true, true, true, true, true, true, true, true, true, true, true, true, true, true, true] rfl rfl (any_of HT_.out (by kernel_rfl)) (fun _ _ _ h => h) (Or.inl ⟨by rfl, ?_⟩) ?_ ?_
                                rotate_left
                                · intro w'
                                  go_simp
                                  with_reducible rfl
                                rotate_left
                                · simp only [Act.put, List.setIfInBounds_toArray, List.set_cons_zero, List.set_cons_succ, i64_w, i32_w]
                                  rfl
                                refine done_ (done_of HT_.out (by kernel_rfl)) ?_
                                try go_wp2
                                go_ret2
                                exact ⟨by first | rfl | (simp [errW_none, errW_some] <;> rfl) | (simp only [← hji17, ← hji32]; first | rfl | (simp [errW_none, errW_some] <;> rfl)) | (simp [*, errW_none, errW_some] <;> rfl), by repeat (first | (with_reducible first | exact HB.out | apply below_alloc | apply pw_below_drewN | apply below_drew1) | exact HB.out)⟩
                            · rw [if_neg c34] at H
                              exact absurd H (by simp)
                          · rw [if_neg c33] at H
                            exact absurd H (by simp)
                    · have H1 : (some (0, 0)) = some (r1, r2) := by rw [if_neg (show ¬ (some q113).isNone = true by simp)] at H; exact H
                      clear H
                      have H := H1
                      clear H1
                      try simp only [errW_none, errW_some]
                      simp only [Option.some.injEq, Prod.mk.injEq] at H
                      obtain ⟨rfl, rfl⟩ := H
                      try go_wp2_with (first | ((with_reducible refine gate_callee (f := 73) rfl ?_); refine goesL_ (some 25) rfl rfl Tryd.func73 (by kernel_rfl) rfl #[.string a0, .string (⟨#[38, 35]⟩ : ByteArray)] rfl (by (try simp only [List.map_toArray, List.map_cons, List.map_nil]); first | done | rfl | (simp only [List.length_drop, List.length_take]; rfl)) ?_; (with_reducible refine (strings_HasPrefix.calls a0 (⟨#[38, 35]⟩ : ByteArray) true _ ?side1 A15.out).mono ?_); (case side1 => first | exact HGL.out | exact (Go.Proofs.YtpanmmpkdbhofaaDoorX.GL.below HGL.out (by repeat (first | (with_reducible first | exact HB.out | apply below_alloc | apply pw_below_drewN | apply below_drew1) | exact HB.out))) | (repeat (first | exact HGL.out | (with_reducible refine Go.Proofs.YtpanmmpkdbhofaaDoorX.GL.drewN ?_ _) | (with_reducible refine Go.Proofs.YtpanmmpkdbhofaaDoorX.GL.drew ?_)))); rintro e w' ⟨rfl, ⟨nd, rfl⟩⟩; refine ⟨_, rfl, ?_⟩) | ((with_reducible refine gate_callee (f := 71) rfl ?_); refine goesL_ (some 32) rfl rfl Tryd.func71 (by kernel_rfl) rfl #[.string (a0.extract 0 ((ji17) : Int).toNat), .int .u8 59] rfl (by (try simp only [List.map_toArray, List.map_cons, List.map_nil]); first | done | (simp only [hji17]; rfl) | rfl | (simp only [List.length_drop, List.length_take]; rfl)) ?_; (with_reducible refine (strings_IndexByte.calls (a0.extract 0 ((ji17) : Int).toNat) 59 t110 _ ?side1 A20.out).mono ?_); (case side1 => first | exact HGL.out | exact (Go.Proofs.YtpanmmpkdbhofaaDoorX.GL.below HGL.out (by repeat (first | (with_reducible first | exact HB.out | apply below_alloc | apply pw_below_drewN | apply below_drew1) | exact HB.out))) | (repeat (first | exact HGL.out | (with_reducible refine Go.Proofs.YtpanmmpkdbhofaaDoorX.GL.drewN ?_ _) | (with_reducible refine Go.Proofs.YtpanmmpkdbhofaaDoorX.GL.drew ?_)))); rintro e w' ⟨rfl, ⟨nd, rfl⟩⟩; refine ⟨_, rfl, ?_⟩) | ((with_reducible refine gate_callee (f := 52) rfl ?_); refine goesL_ (some 39) rfl rfl Tryd.func52 (by kernel_rfl) rfl #[.string (a0.extract 2 (t110 : Int).toNat)] rfl (by (try simp only [List.map_toArray, List.map_cons, List.map_nil]); first | done | rfl | (simp only [List.length_drop, List.length_take]; rfl)) ?_; (with_reducible refine (strconv_Atoi.calls (a0.extract 2 (t110 : Int).toNat) t111 (some q113) _ ?side1 A24.out).mono ?_); (case side1 => first | exact HGL.out | exact (Go.Proofs.YtpanmmpkdbhofaaDoorX.GL.below HGL.out (by repeat (first | (with_reducible first | exact HB.out | apply below_alloc | apply pw_below_drewN | apply below_drew1) | exact HB.out))) | (repeat (first | exact HGL.out | (with_reducible refine Go.Proofs.YtpanmmpkdbhofaaDoorX.GL.drewN ?_ _) | (with_reducible refine Go.Proofs.YtpanmmpkdbhofaaDoorX.GL.drew ?_)))); rintro e w42 ⟨⟨_, rfl⟩, hb⟩; refine ⟨_, rfl, ?_⟩; have n0_ := Aside0.mk (Kd.R_below (by (with_reducible repeat (first | apply Kd.R_alloc | apply Kd.R_drewN | apply Kd.R_drew)); exact HO_9.out) hb); have n1_ := Aside0.mk (below_step (by repeat (first | (with_reducible first | exact HB.out | apply below_alloc | apply pw_below_drewN | apply below_drew1) | exact HB.out)) hb); clear HO_9; clear HB; have HO_9 := n0_; have HB := n1_; clear n0_ n1_; (try clear hb); (try clear hb2); (try clear hk); (try clear hi); (try simp only [errW_none, errW_some])))
                      have n0_ := Aside0.mk (Kd.R_drew HO_9.out)
                      have n1_ := Aside0.mk (below_drew1 HB.out)
                      clear HO_9
                      clear HB
                      have HO_9 := n0_
                      have HB := n1_
                      clear n0_ n1_
                      refine start_ (n := 20) (S := fun w' => True) (ds := []) #[false, false, false, false, false, false, false, false, false, false, false, false, false, false, false, false, false, false, false, false] (by kernel_rfl) rfl rfl trivial (fun hHeld => ?_); refine with_tabW escape_reference.tab13 escape_reference.bits13 (fun HT_ HW_ => ?_)
                      generalize w42.drew = w43 at HO_9 HB hHeld ⊢
                      refine pure_ (i := 0) (N := some 42) (v := ?_) (a' := ?_) #[true, false, false, false, false, false, false, false, false, false, false, false, false, false, false, false, false, false, false, false] rfl rfl (any_of HT_.out (by kernel_rfl)) (fun _ _ _ h => h) (Or.inl ⟨by rfl, ?_⟩) ?_ ?_
                      rotate_left
                      · intro w'
                        go_simp
                        with_reducible rfl
                      rotate_left
                      · simp only [Act.put, List.setIfInBounds_toArray, List.set_cons_zero, List.set_cons_succ, i64_w, i32_w]
                        rfl
                      refine pure_ (i := 1) (N := some 43) (v := ?_) (a' := ?_) #[true, true, false, false, false, false, false, false, false, false, false, false, false, false, false, false, false, false, false, false] rfl rfl (any_of HT_.out (by kernel_rfl)) (fun _ _ _ h => h) (Or.inl ⟨by rfl, ?_⟩) ?_ ?_
                      rotate_left
                      · intro w'
                        go_simp
                        with_reducible rfl
                      rotate_left
                      · simp only [Act.put, List.setIfInBounds_toArray, List.set_cons_zero, List.set_cons_succ, i64_w, i32_w]
                        rfl
                      refine pure_ (i := 2) (N := some 44) (v := ?_) (a' := ?_) #[true, true, true, false, false, false, false, false, false, false, false, false, false, false, false, false, false, false, false, false] rfl rfl (any_of HT_.out (by kernel_rfl)) (fun _ _ _ h => h) (Or.inl ⟨by rfl, ?_⟩) ?_ ?_
                      rotate_left
                      · intro w'
                        go_simp
                        with_reducible rfl
                      rotate_left
                      · simp only [Act.put, List.setIfInBounds_toArray, List.set_cons_zero, List.set_cons_succ, i64_w, i32_w]
                        rfl
                      refine pure_ (i := 3) (N := some 45) (v := undef) (a' := ?_) #[true, true, true, true, false, false, false, false, false, false, false, false, false, false, false, false, false, false, false, false] rfl rfl (any_of HT_.out (by kernel_rfl)) (fun _ _ _ h => h) (Or.inr ⟨by rfl, rfl⟩) ?_ ?_
                      rotate_left
                      · simp only [Act.put, List.setIfInBounds_toArray, List.set_cons_zero, List.set_cons_succ, i64_w, i32_w]
                        rfl
                      refine pure_ (i := 4) (N := some 46) (v := undef) (a' := ?_) #[true, true, true, true, true, false, false, false, false, false, false, false, false, false, false, false, false, false, false, false] rfl rfl (any_of HT_.out (by kernel_rfl)) (fun _ _ _ h => h) (Or.inr ⟨by rfl, rfl⟩) ?_ ?_
                      rotate_left
                      · simp only [Act.put, List.setIfInBounds_toArray, List.set_cons_zero, List.set_cons_succ, i64_w, i32_w]
                        rfl
                      refine pure_ (i := 5) (N := some 47) (v := ?_) (a' := ?_) #[true, true, true, true, true, true, false, false, false, false, false, false, false, false, false, false, false, false, false, false] rfl rfl (any_of HT_.out (by kernel_rfl)) (fun _ _ _ h => h) (Or.inl ⟨by rfl, ?_⟩) ?_ ?_
                      rotate_left
                      · intro w'
                        go_simp
                        with_reducible rfl
                      rotate_left
                      · simp only [Act.put, List.setIfInBounds_toArray, List.set_cons_zero, List.set_cons_succ, i64_w, i32_w]
                        rfl
                      refine pure_ (i := 6) (N := some 48) (v := ?_) (a' := ?_) #[true, true, true, true, true, true, true, false, false, false, false, false, false, false, false, false, false, false, false, false] rfl rfl (any_of HT_.out (by kernel_rfl)) (fun _ _ _ h => h) (Or.inl ⟨by rfl, ?_⟩) ?_ ?_
                      rotate_left
                      · intro w'
                        go_simp
                        with_reducible rfl
                      rotate_left
                      · simp only [Act.put, List.setIfInBounds_toArray, List.set_cons_zero, List.set_cons_succ, i64_w, i32_w]
                        rfl
                      refine pure_ (i := 7) (N := some 49) (v := undef) (a' := ?_) #[true, true, true, true, true, true, true, true, false, false, false, false, false, false, false, false, false, false, false, false] rfl rfl (any_of HT_.out (by kernel_rfl)) (fun _ _ _ h => h) (Or.inr ⟨by rfl, rfl⟩) ?_ ?_
                      rotate_left
                      · simp only [Act.put, List.setIfInBounds_toArray, List.set_cons_zero, List.set_cons_succ, i64_w, i32_w]
                        rfl
                      refine pure_ (i := 8) (N := some 50) (v := undef) (a' := ?_) #[true, true, true, true, true, true, true, true, true, false, false, false, false, false, false, false, false, false, false, false] rfl rfl (any_of HT_.out (by kernel_rfl)) (fun _ _ _ h => h) (Or.inr ⟨by rfl, rfl⟩) ?_ ?_
                      rotate_left
                      · simp only [Act.put, List.setIfInBounds_toArray, List.set_cons_zero, List.set_cons_succ, i64_w, i32_w]
                        rfl
                      refine pure_ (i := 9) (N := some 51) (v := ?_) (a' := ?_) #[true, true, true, true, true, true, true, true, true, true, false, false, false, false, false, false, false, false, false, false] rfl rfl (any_of HT_.out (by kernel_rfl)) (fun _ _ _ h => h) (Or.inl ⟨by rfl, ?_⟩) ?_ ?_
                      rotate_left
                      · intro w'
                        go_simp
                        with_reducible rfl
                      rotate_left
                      · simp only [Act.put, List.setIfInBounds_toArray, List.set_cons_zero, List.set_cons_succ, i64_w, i32_w]
                        rfl
                      refine pure_ (i := 10) (N := some 52) (v := ?_) (a' := ?_) #[true, true, true, true, true, true, true, true, true, true, true, false, false, false, false, false, false, false, false, false] rfl rfl (any_of HT_.out (by kernel_rfl)) (fun _ _ _ h => h) (Or.inl ⟨by rfl, ?_⟩) ?_ ?_
                      rotate_left
                      · intro w'
                        go_simp
                        with_reducible rfl
                      rotate_left
                      · simp only [Act.put, List.setIfInBounds_toArray, List.set_cons_zero, List.set_cons_succ, i64_w, i32_w]
                        rfl
                      refine pure_ (i := 11) (N := some 53) (v := undef) (a' := ?_) #[true, true, true, true, true, true, true, true, true, true, true, true, false, false, false, false, false, false, false, false] rfl rfl (any_of HT_.out (by kernel_rfl)) (fun _ _ _ h => h) (Or.inr ⟨by rfl, rfl⟩) ?_ ?_
                      rotate_left
                      · simp only [Act.put, List.setIfInBounds_toArray, List.set_cons_zero, List.set_cons_succ, i64_w, i32_w]
                        rfl
                      refine pure_ (i := 12) (N := some 54) (v := undef) (a' := ?_) #[true, true, true, true, true, true, true, true, true, true, true, true, true, false, false, false, false, false, false, false] rfl rfl (any_of HT_.out (by kernel_rfl)) (fun _ _ _ h => h) (Or.inr ⟨by rfl, rfl⟩) ?_ ?_
                      rotate_left
                      · simp only [Act.put, List.setIfInBounds_toArray, List.set_cons_zero, List.set_cons_succ, i64_w, i32_w]
                        rfl
                      refine pure_ (i := 13) (N := some 55) (v := undef) (a' := ?_) #[true, true, true, true, true, true, true, true, true, true, true, true, true, true, false, false, false, false, false, false] rfl rfl (any_of HT_.out (by kernel_rfl)) (fun _ _ _ h => h) (Or.inr ⟨by rfl, rfl⟩) ?_ ?_
                      rotate_left
                      · simp only [Act.put, List.setIfInBounds_toArray, List.set_cons_zero, List.set_cons_succ, i64_w, i32_w]
                        rfl
                      refine pure_ (i := 14) (N := some 56) (v := undef) (a' := ?_) #[true, true, true, true, true, true, true, true, true, true, true, true, true, true, true, false, false, false, false, false] rfl rfl (any_of HT_.out (by kernel_rfl)) (fun _ _ _ h => h) (Or.inr ⟨by rfl, rfl⟩) ?_ ?_
                      rotate_left
                      · simp only [Act.put, List.setIfInBounds_toArray, List.set_cons_zero, List.set_cons_succ, i64_w, i32_w]
                        rfl
                      refine pure_ (i := 15) (N := some 57) (v := undef) (a' := ?_) #[true, true, true, true, true, true, true, true, true, true, true, true, true, true, true, true, false, false, false, false] rfl rfl (any_of HT_.out (by kernel_rfl)) (fun _ _ _ h => h) (Or.inr ⟨by rfl, rfl⟩) ?_ ?_
                      rotate_left
                      · simp only [Act.put, List.setIfInBounds_toArray, List.set_cons_zero, List.set_cons_succ, i64_w, i32_w]
                        rfl
                      refine pure_ (i := 16) (N := some 58) (v := undef) (a' := ?_) #[true, true, true, true, true, true, true, true, true, true, true, true, true, true, true, true, true, false, false, false] rfl rfl (any_of HT_.out (by kernel_rfl)) (fun _ _ _ h => h) (Or.inr ⟨by rfl, rfl⟩) ?_ ?_
                      rotate_left
                      · simp only [Act.put, List.setIfInBounds_toArray, List.set_cons_zero, List.set_cons_succ, i64_w, i32_w]
                        rfl
                      refine pure_ (i := 17) (N := some 59) (v := undef) (a' := ?_) #[true, true, true, true, true, true, true, true, true, true, true, true, true, true, true, true, true, true, false, false] rfl rfl (any_of HT_.out (by kernel_rfl)) (fun _ _ _ h => h) (Or.inr ⟨by rfl, rfl⟩) ?_ ?_
                      rotate_left
                      · simp only [Act.put, List.setIfInBounds_toArray, List.set_cons_zero, List.set_cons_succ, i64_w, i32_w]
                        rfl
                      refine pure_ (i := 18) (N := some 60) (v := undef) (a' := ?_) #[true, true, true, true, true, true, true, true, true, true, true, true, true, true, true, true, true, true, true, false] rfl rfl (any_of HT_.out (by kernel_rfl)) (fun _ _ _ h => h) (Or.inr ⟨by rfl, rfl⟩) ?_ ?_
                      rotate_left
                      · simp only [Act.put, List.setIfInBounds_toArray, List.set_cons_zero, List.set_cons_succ, i64_w, i32_w]
                        rfl
                      refine pure_ (i := 19) (N := some 61) (v := ?_) (a' := ?_) #[true, true, true, true, true, true, true, true, true, true, true, true, true, true, true, true, true, true, true, true] rfl rfl (any_of HT_.out (by kernel_rfl)) (fun _ _ _ h => h) (Or.inl ⟨by rfl, ?_⟩) ?_ ?_
                      rotate_left
                      · intro w'
                        go_simp
                        with_reducible rfl
                      rotate_left
                      · simp only [Act.put, List.setIfInBounds_toArray, List.set_cons_zero, List.set_cons_succ, i64_w, i32_w]
                        rfl
                      refine done_ (done_of HT_.out (by kernel_rfl)) ?_
                      try go_wp2
                      go_ret2
                      exact ⟨by first | rfl | (simp [errW_none, errW_some] <;> rfl) | (simp only [← hji17]; first | rfl | (simp [errW_none, errW_some] <;> rfl)) | (simp [*, errW_none, errW_some] <;> rfl), by repeat (first | (with_reducible first | exact HB.out | apply below_alloc | apply pw_below_drewN | apply below_drew1) | exact HB.out)⟩
                  · rw [if_neg c23] at H
                    exact absurd H (by simp)
                · rw [if_neg c22] at H
                  exact absurd H (by simp)
            · rw [if_neg c19] at H
              exact absurd H (by simp)
          · rw [if_neg c18] at H
            exact absurd H (by simp)
        · replace c16 := Bool.eq_false_iff.mpr c16
          subst c16
          have H1 : (some (0, 0)) = some (r1, r2) := by rw [if_neg (show ¬ (false = true) by decide)] at H; exact H
          clear H
          have H := H1
          clear H1
          simp only [Option.some.injEq, Prod.mk.injEq] at H
          obtain ⟨rfl, rfl⟩ := H
          go_wp2_with (first | ((with_reducible refine gate_callee (f := 73) rfl ?_); refine goesL_ (some 25) rfl rfl Tryd.func73 (by kernel_rfl) rfl #[.string a0, .string (⟨#[38, 35]⟩ : ByteArray)] rfl (by (try simp only [List.map_toArray, List.map_cons, List.map_nil]); first | done | rfl | (simp only [List.length_drop, List.length_take]; rfl)) ?_; (with_reducible refine (strings_HasPrefix.calls a0 (⟨#[38, 35]⟩ : ByteArray) false _ ?side1 A15.out).mono ?_); (case side1 => first | exact HGL.out | exact (Go.Proofs.YtpanmmpkdbhofaaDoorX.GL.below HGL.out (by repeat (first | (with_reducible first | exact HB.out | apply below_alloc | apply pw_below_drewN | apply below_drew1) | exact HB.out))) | (repeat (first | exact HGL.out | (with_reducible refine Go.Proofs.YtpanmmpkdbhofaaDoorX.GL.drewN ?_ _) | (with_reducible refine Go.Proofs.YtpanmmpkdbhofaaDoorX.GL.drew ?_)))); rintro e w' ⟨rfl, ⟨nd, rfl⟩⟩; refine ⟨_, rfl, ?_⟩))
          go_ret2
          exact ⟨by first | rfl | (simp [errW_none, errW_some] <;> rfl) | (simp [*, errW_none, errW_some] <;> rfl), by repeat (first | (with_reducible first | exact HB.out | apply below_alloc | apply pw_below_drewN | apply below_drew1) | exact HB.out)⟩

end Go.Proofs.YtpanmmpkdbhofaaDoor.P03r

namespace Go.Proofs.YtpanmmpkdbhofaaDoor.L03
open Go Go.RowKit Go.Proofs.YtpanmmpkdbhofaaDoor.P03r Go.Proofs.YtpanmmpkdbhofaaDoorE Go.Proofs.YtpanmmpkdbhofaaDoorW.PrintWords Go.Proofs.YtpanmmpkdbhofaaDoorW.PrintLast Go.Proofs.YtpanmmpkdbhofaaDoorW.PrintMore
/-- The four signs. -/
def signs : List Nat := [38, 60, 62, 34]
def signOf (l : List UInt8) (k : Nat) : Option Nat := (signs.take k).find? fun c => Lib.hasPrefix l (formL c)
/-- The number of a form, and its length. -/
def numS (l : List UInt8) : Int × Int :=
  if Lib.indexByte (l.take 6) 59 < 0 then (0, 0) else
  match Lib.atoiAll ((l.drop 2).take ((Lib.indexByte (l.take 6) 59).toNat - 2)) with
  | .ok n => if 0 ≤ n ∧ n ≤ 127 ∧ formL n.toNat = l.take ((Lib.indexByte (l.take 6) 59).toNat + 1) then (n, Lib.indexByte (l.take 6) 59 + 1) else (0, 0)
  | _ => (0, 0)
/-- The byte that a form says with which a text begins, and how long that form is. -/
def refS (l : List UInt8) : Int × Int :=
  match signOf l 4 with
  | some c => ((c : Int), ((formL c).length : Int))
  | none => if Lib.hasPrefix l [38, 35] = true then numS l else (0, 0)
theorem signOf_succ (l : List UInt8) (k : Nat) (hk : k < 4) (h : signOf l k = none) : signOf l (k + 1) = if Lib.hasPrefix l (formL (signs[k]?.getD 0)) = true then some (signs[k]?.getD 0) else none := by
  unfold signOf at h ⊢
  have hl : k < signs.length := hk
  rw [List.take_succ_eq_append_getElem hl, List.find?_append, h, List.getElem?_eq_getElem hl]
  simp [List.find?_cons]
  split <;> simp_all
theorem signOf_hit (l : List UInt8) (k c : Nat) (h : signOf l k = some c) : signOf l 4 = some c := by
  unfold signOf at h ⊢
  rw [show signs.take 4 = signs.take k ++ signs.drop k by rw [List.take_append_drop]; rfl, List.find?_append, h]; rfl
theorem sign_le (k : Nat) : signs[k]?.getD 0 ≤ 255 := by
  match k with
  | 0 => decide
  | 1 => decide
  | 2 => decide
  | 3 => decide
  | k + 4 => simp [signs]
theorem ext_list (s : ByteArray) (i j : Nat) : (s.extract i j).data.toList = (s.data.toList.drop i).take (j - i) := by
  rw [ByteArray.data_extract, Array.toList_extract]
theorem dlen (s : ByteArray) : s.data.toList.length = s.size := by rw [Array.length_toList]; rfl
theorem index_cases : ∀ (l : List UInt8) (c : UInt8), Lib.indexByte l c = -1 ∨ (0 ≤ Lib.indexByte l c ∧ Lib.indexByte l c < l.length)
  | [], c => .inl rfl
  | b :: t, c => by
    have ih := index_cases t c
    unfold Lib.indexByte
    by_cases h : (b == c) = true
    · rw [if_pos h, List.length_cons]; right; omega
    · rw [if_neg h]
      rcases ih with e | ⟨h0, h1⟩
      · rw [e]; left; rfl
      · rw [if_neg (by rw [beq_iff_eq]; omega), List.length_cons]; right; omega
theorem index_num (l : List UInt8) (hp : Lib.hasPrefix l [38, 35] = true) : Lib.indexByte (l.take 6) 59 < 0 ∨ (2 ≤ Lib.indexByte (l.take 6) 59 ∧ Lib.indexByte (l.take 6) 59 < 6 ∧ Lib.indexByte (l.take 6) 59 < l.length) := by
  unfold Lib.hasPrefix at hp
  match l, hp with
  | [], hp => simp [List.isPrefixOf] at hp
  | [a], hp => simp [List.isPrefixOf] at hp
  | a :: b :: t, hp =>
    simp only [List.isPrefixOf, Bool.and_eq_true, beq_iff_eq] at hp
    obtain ⟨rfl, rfl, -⟩ := hp
    have h := index_cases (t.take 4) 59
    have e : Lib.indexByte ((38 :: 35 :: t).take 6) 59 = if Lib.indexByte (t.take 4) 59 = -1 then -1 else Lib.indexByte (t.take 4) 59 + 2 := by
      simp only [List.take_succ_cons, Lib.indexByte]
      split <;> simp_all
      omega
    rw [e]
    rcases h with h | ⟨h0, h1⟩
    · rw [if_pos h]; left; decide
    · rw [if_neg (by omega)]
      rw [List.length_take] at h1
      simp only [List.length_cons]
      right; omega
theorem w64 {n : Int} (h0 : -9223372036854775808 ≤ n) (h1 : n ≤ 9223372036854775807) : wrap64 n = n := by unfold wrap64; omega
theorem tl (s : ByteArray) : s.toList = s.data.toList := ByteArray.toList_eq s
theorem hasPrefix_f (s t : ByteArray) : strings_HasPrefix.f s t = some (Lib.hasPrefix s.data.toList t.data.toList) := by
  have h1 := dlen s
  have h2 := dlen t
  unfold strings_HasPrefix.f stringslite_HasPrefix.f Lib.hasPrefix
  by_cases h : (s.size : Int) ≥ (t.size : Int)
  · rw [if_pos h, if_pos (by omega), if_pos (by omega), Option.bind_some, tl, tl, ext_list, List.drop_zero, Nat.sub_zero, Int.toNat_natCast]
    congr 1
    rw [Bool.eq_iff_iff, beq_iff_eq, List.isPrefixOf_iff_prefix, List.prefix_iff_eq_take, h2]
    exact eq_comm
  · rw [if_neg h, Option.bind_some]
    congr 1
    symm
    rw [Bool.eq_false_iff, ne_eq, List.isPrefixOf_iff_prefix]
    intro hp
    have := hp.length_le
    omega
theorem form_f (n : Nat) (h : n ≤ 255) : escape_form.f (n : Int) = some ⟨(formL n).toArray⟩ := by
  unfold escape_form.f
  rw [if_pos (by omega), Int.toNat_natCast]
theorem sizeL (l : List UInt8) : (⟨l.toArray⟩ : ByteArray).size = l.length := by simp [ByteArray.size]
theorem ref_step (s : ByteArray) (j : Nat) (hj : j < 4) (k : Nat) :
    escape_reference.l0 (k + 1) s [38, 60, 62, 34] 4 (j : Int) = if Lib.hasPrefix s.data.toList (formL (signs[j]?.getD 0)) = true then some (((signs[j]?.getD 0 : Nat) : Int), ((formL (signs[j]?.getD 0)).length : Int)) else escape_reference.l0 k s [38, 60, 62, 34] 4 ((j + 1 : Nat) : Int) := by
  have e : rd [38, 60, 62, 34] (j : Int) = ((signs[j]?.getD 0 : Nat) : Int) := by
    match j, hj with
    | 0, _ => rfl
    | 1, _ => rfl
    | 2, _ => rfl
    | 3, _ => rfl
  have hc := sign_le j
  have ew : wrap64 ((j : Int) + 1) = ((j + 1 : Nat) : Int) := by rw [w64 (by omega) (by omega)]; omega
  simp only [escape_reference.l0]
  rw [if_pos (by omega), if_pos (by omega), if_pos (by simp; omega), e, form_f _ hc, Option.bind_some, hasPrefix_f, Option.bind_some, Option.bind_some, sizeL, ew]
theorem reference_f (s : ByteArray) (hs : s.size ≤ 1000000000000) (k : Nat) : escape_reference.f (k + 5) s = some (refS s.data.toList) := by
  have hL := dlen s
  have key : ∀ d j : Nat, j + d = 4 → signOf s.data.toList j = none → escape_reference.l0 (k + d + 1) s [38, 60, 62, 34] 4 (j : Int) = some (refS s.data.toList) := by
    intro d
    induction d with
    | zero =>
      intro j hj hn
      obtain rfl : j = 4 := by omega
      simp only [escape_reference.l0]
      rw [if_neg (by decide), hasPrefix_f, Option.bind_some]
      unfold refS
      rw [hn]
      by_cases hp : Lib.hasPrefix s.data.toList [38, 35] = true
      · rw [if_pos hp, if_pos hp]
        have hix := index_num _ hp
        have hm : ((mn (s.size : Int) 6) : Int) = ((min s.size 6 : Nat) : Int) := by unfold mn; split <;> omega
        have E6 : (s.extract 0 (min s.size 6)).data.toList = s.data.toList.take 6 := by
          rw [ext_list, List.drop_zero, Nat.sub_zero]
          by_cases h6 : s.size ≤ 6
          · rw [List.take_of_length_le (by omega), List.take_of_length_le (by omega)]
          · congr 1; omega
        rw [hm, if_pos (by omega), if_pos (by omega), Int.toNat_natCast]
        unfold strings_IndexByte.f
        rw [E6, Option.bind_some, show ((59 : Int).toNat.toUInt8) = 59 from rfl]
        unfold numS
        generalize Lib.indexByte (List.take 6 s.data.toList) 59 = x at hix ⊢
        by_cases hx : x < 0
        · rw [if_pos hx, if_pos hx]
        · rw [if_neg hx, if_neg hx, if_pos (by omega), if_pos (by omega)]
          obtain ⟨m, rfl⟩ := Int.eq_ofNat_of_zero_le (show 0 ≤ x by omega)
          have h9 := dlen (s.extract 2 m)
          rw [ext_list, List.length_take, List.length_drop] at h9
          unfold strconv_Atoi.f
          rw [Int.toNat_natCast, if_pos (by omega), Option.bind_some, ext_list]
          unfold atoiS
          cases hq : Lib.atoiAll ((s.data.toList.drop 2).take (m - 2)) with
          | ok n =>
            simp only
            rw [if_pos (by rfl)]
            by_cases n0 : n < 0
            · rw [if_pos n0, if_neg (by omega)]
            · rw [if_neg n0]
              by_cases n1 : n > 127
              · rw [if_pos n1, if_neg (by omega)]
              · obtain ⟨c, rfl⟩ := Int.eq_ofNat_of_zero_le (show 0 ≤ n by omega)
                have ew : wrap64 ((m : Int) + 1) = ((m + 1 : Nat) : Int) := by rw [w64 (by omega) (by omega)]; omega
                rw [if_neg n1, show (c : Int) % 256 = (c : Int) by omega, form_f _ (by omega), Option.bind_some, ew, if_pos (by omega), if_pos (by omega), tl, tl, Int.toNat_natCast, ext_list, List.drop_zero, Nat.sub_zero, Int.toNat_natCast]
                by_cases he : formL c = s.data.toList.take (m + 1)
                · rw [if_pos (by simpa using he), if_pos ⟨by omega, by omega, he⟩]; rfl
                · rw [if_neg (by simpa using he), if_neg (fun h => he h.2.2)]
          | range => rfl
          | _ => rfl
      · rw [if_neg hp, if_neg hp]
    | succ d ih =>
      intro j hj hn
      have hs2 := signOf_succ s.data.toList j (by omega) hn
      rw [ref_step s j (by omega)]
      by_cases hp : Lib.hasPrefix s.data.toList (formL (signs[j]?.getD 0)) = true
      · rw [if_pos hp]
        rw [if_pos hp] at hs2
        unfold refS
        rw [signOf_hit _ _ _ hs2]
      · rw [if_neg hp]
        rw [if_neg hp] at hs2
        exact ih (j + 1) (by omega) hs2
  unfold escape_reference.f
  rw [Option.bind_some]
  exact key 4 0 rfl rfl
end Go.Proofs.YtpanmmpkdbhofaaDoor.L03

namespace Go.Proofs.YtpanmmpkdbhofaaDoorE
open Go Go.RowKit Go.Proofs.YtpanmmpkdbhofaaDoor.P03r Go.Proofs.YtpanmmpkdbhofaaDoor.L03 Go.Proofs.YtpanmmpkdbhofaaDoorW.PrintWords Go.Proofs.YtpanmmpkdbhofaaDoorX
set_option linter.unusedVariables false
/-- The next byte of a written text, and how much of the text it takes; 0: refused. -/
def stepU : List UInt8 → UInt8 × Nat
  | [] => (0, 0)
  | c :: t => if c.toNat = 38 then ((refS (c :: t)).1.toNat.toUInt8, (refS (c :: t)).2.toNat) else if formL c.toNat = [] then (c, 1) else (c, 0)
def unS (l : List UInt8) (pos : Nat) (out : List UInt8) : List UInt8 × Int × Int :=
  match l with
  | [] => (out, 0, 0)
  | c :: t => if (stepU (c :: t)).2 = 0 then ([], (pos : Int), 2) else unS ((c :: t).drop (stepU (c :: t)).2) (pos + (stepU (c :: t)).2) (out ++ [(stepU (c :: t)).1])
termination_by l.length
decreasing_by simp; omega
theorem unS_nil (pos : Nat) (out : List UInt8) : unS [] pos out = (out, 0, 0) := by rw [unS]
theorem unS_cons (l : List UInt8) (h : l ≠ []) (pos : Nat) (out : List UInt8) : unS l pos out = if (stepU l).2 = 0 then ([], (pos : Int), 2) else unS (l.drop (stepU l).2) (pos + (stepU l).2) (out ++ [(stepU l).1]) := by
  obtain ⟨c, t, rfl⟩ := List.exists_cons_of_ne_nil h
  rw [unS]
theorem refS_range (l : List UInt8) : 0 ≤ (refS l).1 ∧ (refS l).1 ≤ 255 ∧ 0 ≤ (refS l).2 ∧ (refS l).2 ≤ l.length := by
  unfold refS
  split
  · rename_i c hc
    have h1 := List.find?_some hc
    have h2 := List.mem_of_find?_eq_some hc
    have h3 : c ≤ 255 := by
      have := List.mem_of_mem_take h2
      simp [signs] at this
      omega
    have h4 : (formL c).length ≤ l.length := (List.isPrefixOf_iff_prefix.1 h1).length_le
    simp only
    omega
  · split
    · rename_i hp
      have hix := index_num _ hp
      unfold numS
      split
      · simp only; omega
      · split
        · split
          · simp only; omega
          · simp only; omega
        · simp only; omega
    · simp only; omega
def escape_Unescape.f (a0 : ByteArray) : Option (ByteArray × Int × Int) := if a0.size ≤ 1000000000000 then some (⟨(unS a0.data.toList 0 []).1.toArray⟩, (unS a0.data.toList 0 []).2.1, (unS a0.data.toList 0 []).2.2) else none
theorem ref_any (s : ByteArray) (hs : s.size ≤ 1000000000000) (w : World) (hgl : GL w) :
    Calls Tryd.prog 57 #[.string s] w fun e w' => e = .returned (.tuple #[.int .u8 (refS s.data.toList).1, .int .i64 (refS s.data.toList).2]) ∧ Below w.heap.size w w' :=
  escape_reference.calls (0 + 5) s _ _ w hgl (reference_f s hs 0)
set_option maxHeartbeats 1000000 in
theorem escape_Unescape.calls (a0 : ByteArray) (r1 : ByteArray) (r2 r3 : Int) (w : World) (hgl : GL w) (h : escape_Unescape.f a0 = some (r1, r2, r3)) :
    Calls Tryd.prog 30 #[.string a0] w fun e w' => e = .returned (.tuple #[.string r1, .int .i64 r2, .int .i64 r3]) ∧ Below w.heap.size w w' := by
  unfold escape_Unescape.f at h
  by_cases hr : a0.size ≤ 1000000000000
  rotate_left
  · rw [if_neg hr] at h; cases h
  rw [if_pos hr] at h
  simp only [Option.some.injEq, Prod.mk.injEq] at h
  obtain ⟨rfl, rfl, rfl⟩ := h
  have HGL := Aside0.mk hgl
  have HR := Aside0.mk hr
  clear hr hgl
  have H0 := Aside0.mk (Lib.IsBuilderF.of (Lib.fresh_isBuilder 77 5 w))
  have HB0 := Aside0.mk ((Below.refl w.heap.size w).alloc (Nat.le_refl _) (.cells #[.pointer none, .slice none 0 0] 77))
  go_enter Tryd.func30, Tryd.ntmps30
  go_wp2_with fail
  go_loopw [6] (fun i wr => ∃ (k : Nat) (out : List UInt8), k ≤ a0.size ∧ i = .int .i64 k ∧ Lib.IsBuilderF 77 5 w.heap.size w.heap.size (Lib.byteCells out) wr ∧ Below w.heap.size w wr ∧ out.length ≤ k ∧ unS (a0.data.toList.drop k) k out = unS a0.data.toList 0 []) (fun i _ => a0.size - (intOf i).toNat)
  case atStart => exact ⟨0, [], Nat.zero_le _, rfl, H0.out, HB0.out, Nat.le_refl _, rfl⟩
  case round =>
    obtain ⟨k, out, hk, rfl, hib, hbl, hol, hun⟩ := hrel
    have HI := Aside0.mk hib
    have HBL := Aside0.mk hbl
    have HO := Aside0.mk hol
    have HU := Aside0.mk hun
    have hr := HR.out
    clear hib hbl hol hun
    go_wp2_with fail
    · have hlt : k < a0.size := by assumption
      have h38 : ((a0[k].toNat : Int) == 38) = true := by assumption
      have hne : a0.data.toList.drop k ≠ [] := by
        intro h; have := congrArg List.length h; rw [List.length_drop, dlen, List.length_nil] at this; omega
      have hcx : a0[k] = a0.data.toList[k]'(by rw [dlen]; exact hlt) := by simp [ByteArray.getElem_eq_getElem_data]
      have hst : stepU (a0.data.toList.drop k) = ((refS (a0.data.toList.drop k)).1.toNat.toUInt8, (refS (a0.data.toList.drop k)).2.toNat) := by
        rw [List.drop_eq_getElem_cons (by rw [dlen]; exact hlt)]
        simp only [stepU]
        rw [if_pos (by rw [← hcx]; rw [beq_iff_eq] at h38; omega)]
      have hun := HU.out
      rw [unS_cons _ hne, hst] at hun
      have hrr := refS_range (a0.data.toList.drop k)
      have HC := ref_any (a0.extract k a0.size)
      have hxs := dlen (a0.extract k a0.size)
      have hx : (a0.extract k a0.size).data.toList = a0.data.toList.drop k := by
        rw [ext_list, List.take_of_length_le (by rw [List.length_drop, dlen]; omega)]
      rw [hx, List.length_drop, dlen] at hxs
      rw [hx] at HC
      rw [List.length_drop, dlen] at hrr
      generalize refS (a0.data.toList.drop k) = rr at hun hrr HC
      obtain ⟨b, n⟩ := rr
      obtain ⟨b0, b1, n0, n1⟩ := hrr
      simp only at hun b0 b1 n0 n1 HC
      obtain ⟨b, rfl⟩ := Int.eq_ofNat_of_zero_le b0
      obtain ⟨n, rfl⟩ := Int.eq_ofNat_of_zero_le n0
      have HUN := Aside0.mk hun
      refine (HC (by omega) wr (HGL.out.below HBL.out)).mono ?_
      rintro e w1 ⟨rfl, hb⟩
      have HB1 := Aside0.mk hb
      clear hb hun hst hx hxs HC
      have hsz : w.heap.size ≤ w1.heap.size := Nat.le_trans HBL.out.size HB1.out.size
      have IB1 := Aside0.mk (b_below HI.out HB1.out)
      have BB1 := Aside0.mk (below_step HBL.out HB1.out)
      go_wp2_with fail
      · have hn : ((n : Int) == 0) = true := by assumption
        have hu := HUN.out
        rw [if_pos (by rw [beq_iff_eq] at hn; simpa using hn)] at hu
        go_ret3
        refine ⟨?_, BB1.out⟩
        rw [← hu]
        rfl
      · have hn : ((n : Int) == 0) = false := by assumption
        have hn2 : n ≠ 0 := by rw [beq_eq_false_iff_ne] at hn; omega
        have hu := HUN.out
        rw [if_neg (by simpa using hn2)] at hu
        have HU2 := Aside0.mk hu
        clear hu HUN
        have hb8 : ((b : Int).toNat.toUInt8).toNat = b := by simp; omega
        rw [show (b : Int) = (((b : Int).toNat.toUInt8).toNat : Int) by rw [hb8]]
        refine (b_byte w.heap.size w.heap.size out ((b : Int).toNat.toUInt8) w1 IB1.out (by have := HO.out; have := HR.out; omega) hsz).mono ?_
        rintro e w2 ⟨rfl, hib2, hb2, -⟩
        have H2 := Aside0.mk hib2
        have B2 := Aside0.mk (BB1.out.trans hb2)
        clear hib2 hb2
        have hno : (k : Int) + n ≤ 1000000000000 := by omega
        go_wp2_with fail
        go_roundw
        case rel =>
          refine ⟨k + n, out ++ [(b : Int).toNat.toUInt8], by omega, by go_num, H2.out, B2.out, by have := HO.out; rw [List.length_append, List.length_singleton]; omega, ?_⟩
          have := HU2.out
          rw [List.drop_drop] at this
          exact this
        case measure => simp [intOf]; omega
    · have hlt : k < a0.size := by assumption
      have h38 : ((a0[k].toNat : Int) == 38) = false := by assumption
      have hne : a0.data.toList.drop k ≠ [] := by
        intro h; have := congrArg List.length h; rw [List.length_drop, dlen, List.length_nil] at this; omega
      have hcx : a0[k] = a0.data.toList[k]'(by rw [dlen]; exact hlt) := by simp [ByteArray.getElem_eq_getElem_data]
      have hst : stepU (a0.data.toList.drop k) = if formL a0[k].toNat = [] then (a0[k], 1) else (a0[k], 0) := by
        rw [List.drop_eq_getElem_cons (by rw [dlen]; exact hlt)]
        simp only [stepU]
        rw [if_neg (by rw [← hcx]; rw [beq_eq_false_iff_ne] at h38; omega), ← hcx]
      have hun := HU.out
      rw [unS_cons _ hne, hst] at hun
      clear hst hcx h38
      have HUN := Aside0.mk hun
      clear hun
      generalize hck : a0[k] = c at HUN ⊢
      have HK := Aside0.mk hck
      clear hck
      have hc := UInt8.toNat_lt c
      refine (escape_form.calls _ _ wr (HGL.out.below HBL.out) (form_f c.toNat (by omega))).mono ?_
      rintro e w1 ⟨rfl, hb⟩
      have HB1 := Aside0.mk hb
      clear hb
      have hsz : w.heap.size ≤ w1.heap.size := Nat.le_trans HBL.out.size HB1.out.size
      have IB1 := Aside0.mk (b_below HI.out HB1.out)
      have BB1 := Aside0.mk (below_step HBL.out HB1.out)
      go_wp2_with fail
      · have hh : (!(formL c.toNat).isEmpty) = true := by assumption
        have hf0 : ¬ formL c.toNat = [] := by simpa using hh
        have hu := HUN.out
        first
          | rw [HK.out, if_neg hf0, if_pos rfl] at hu
          | rw [if_neg hf0, if_pos rfl] at hu
        go_ret3
        refine ⟨?_, BB1.out⟩
        rw [← hu]
        rfl
      · have hh : (!(formL c.toNat).isEmpty) = false := by assumption
        have hf0 : formL c.toNat = [] := by simpa using hh
        have hu := HUN.out
        first
          | rw [HK.out, if_pos hf0, if_neg (show ¬ (1 : Nat) = 0 by decide)] at hu
          | rw [if_pos hf0, if_neg (show ¬ (1 : Nat) = 0 by decide)] at hu
        have HU2 := Aside0.mk hu
        clear hu HUN hf0
        refine (b_byte w.heap.size w.heap.size out c w1 IB1.out (by have := HO.out; have := HR.out; omega) hsz).mono ?_
        rintro e w2 ⟨rfl, hib2, hb2, -⟩
        have H2 := Aside0.mk hib2
        have B2 := Aside0.mk (BB1.out.trans hb2)
        clear hib2 hb2
        go_wp2_with fail
        go_roundw
        case rel =>
          refine ⟨k + 1, out ++ [c], by omega, by go_num, H2.out, B2.out, by have := HO.out; rw [List.length_append, List.length_singleton]; omega, ?_⟩
          have := HU2.out
          rw [List.drop_drop] at this
          exact this
        case measure => simp [intOf]; omega
    · have hge : ¬ k < a0.size := by assumption
      have hu := HU.out
      rw [List.drop_eq_nil_of_le (by rw [dlen]; omega), unS_nil] at hu
      refine (Tryd.Builder_String_any_f w.heap.size w.heap.size _ wr HI.out HBL.out.size).mono ?_
      rintro e w1 ⟨rfl, -, hb⟩
      have HB1 := Aside0.mk (HBL.out.trans hb)
      clear hb
      go_wp2_with fail
      go_ret3
      refine ⟨?_, HB1.out⟩
      rw [← hu]
      rfl
end Go.Proofs.YtpanmmpkdbhofaaDoorE

namespace Go.Proofs.YtpanmmpkdbhofaaDoorE
open Go Go.RowKit Go.Proofs.YtpanmmpkdbhofaaDoorW.PrintWords Go.Proofs.YtpanmmpkdbhofaaDoorX
set_option linter.unusedVariables false
def Ascii (s : ByteArray) : Prop := ∀ (j : Nat) b, s.data.toList[j]? = some b → b.toNat < 128
theorem Ascii.at {s : ByteArray} (h : Ascii s) (i : Nat) (hi : i < s.size) : (s[i]'hi).toNat < 128 := h i _ (Lib.data_getElem? s i hi)
theorem iter_below (w : World) (s : ByteArray) (i : Nat) : Below w.heap.size w (w.iter s i) := below_alloc (Below.refl _ _) _
theorem ext_data (s : ByteArray) (i j : Nat) : (s.extract i j).data.toList = (s.data.toList.take j).drop i := by
  rw [ByteArray.data_extract, Array.toList_extract, List.extract_eq_take_drop, List.drop_take]
theorem ib_none (s : ByteArray) (k c : Nat) (hs : Ascii s) (hc : 128 ≤ c) (hc2 : c < 256) (w : World) :
    Calls Tryd.prog 71 #[.string (s.extract k s.size), .int .u8 c] w fun e w' => e = .returned (.int .i64 (-1)) ∧ w' = w := by
  have hz : Lib.indexByte (s.extract k s.size).data.toList ((c : Int).toNat.toUInt8) = -1 := by
    have h1 := Lib.contains_iff_indexByte (s.extract k s.size).data.toList ((c : Int).toNat.toUInt8)
    have h2 := Lib.indexByte_ge (s.extract k s.size).data.toList ((c : Int).toNat.toUInt8)
    have h3 : (s.extract k s.size).data.toList.contains ((c : Int).toNat.toUInt8) = false := by
      rw [Bool.eq_false_iff]
      intro h
      rw [List.contains_iff_mem, ext_data] at h
      have h := List.mem_of_mem_take (List.mem_of_mem_drop h)
      obtain ⟨j, hj, e⟩ := List.getElem_of_mem h
      have := hs j _ (by rw [List.getElem?_eq_getElem hj, e])
      simp at this
      omega
    rw [h3] at h1
    have h4 := of_decide_eq_false h1.symm
    omega
  have := Tryd.strings_IndexByte (s.extract k s.size) c w
  rw [hz] at this
  exact this
theorem enc_shape (r : Int) (h : 128 ≤ r) : ∃ (c : Nat) (l : List UInt8), 1 ≤ l.length ∧ l.length ≤ 3 ∧ Utf8.encode r = ⟨(l ++ [UInt8.ofNat (128 + c % 64)]).toArray⟩ := by
  unfold Utf8.encode
  simp only
  generalize hcc : (if Utf8.valid r then r.toNat else Utf8.runeError) = c
  have hc : 128 ≤ c := by
    rw [← hcc]
    split
    · omega
    · decide
  rw [if_neg (by omega)]
  by_cases h1 : c < 0x800
  · rw [if_pos h1]
    exact ⟨c, [UInt8.ofNat (0xC0 + c / 64)], by simp, by simp, rfl⟩
  · rw [if_neg h1]
    by_cases h2 : c < 0x10000
    · rw [if_pos h2]
      exact ⟨c, [UInt8.ofNat (0xE0 + c / 4096), UInt8.ofNat (0x80 + c / 64 % 64)], by simp, by simp, rfl⟩
    · rw [if_neg h2]
      exact ⟨c, [UInt8.ofNat (0xF0 + c / 262144), UInt8.ofNat (0x80 + c / 4096 % 64), UInt8.ofNat (0x80 + c / 64 % 64)], by simp, by simp, rfl⟩
/-- The last byte of what a rune past ASCII is written as. -/
theorem enc_last (r : Int) (h : 128 ≤ r) : ∃ n : Nat, (Utf8.encode r).size = n + 1 ∧ 1 ≤ n ∧ n ≤ 3 ∧ ∀ hn : n < (Utf8.encode r).size, 128 ≤ ((Utf8.encode r)[n]'hn).toNat := by
  obtain ⟨c, l, h1, h3, he⟩ := enc_shape r h
  rw [he]
  refine ⟨l.length, ?_, h1, h3, fun hn => ?_⟩
  · show (l ++ [UInt8.ofNat (128 + c % 64)]).toArray.size = _
    simp
  · have : (⟨(l ++ [UInt8.ofNat (128 + c % 64)]).toArray⟩ : ByteArray)[l.length]'hn = UInt8.ofNat (128 + c % 64) := by
      show (l ++ [UInt8.ofNat (128 + c % 64)]).toArray[l.length]'_ = _
      simp
    rw [this]
    simp
    omega
set_option maxHeartbeats 2000000 in
set_option maxRecDepth 100000 in
theorem indexRune_hi (s : ByteArray) (r : Int) (w : World) (h0 : 128 ≤ r) (h1 : r ≤ 2147483647) (hs : Ascii s) (hsz : s.size ≤ 1000) :
    Calls Tryd.prog 77 #[.string s, .int .i32 r] w fun e w' => e = .returned (.int .i64 (-1)) ∧ Below w.heap.size w w' := by
  have HS := Aside0.mk hs
  clear hs
  by_cases he : r = 65533
  · subst he
    go_enter Tryd.func77, Tryd.ntmps77
    go_wp2_with fail
    go_loopg [5, 6] s.size (fun g _ _ wx => ∃ i : Nat, i + g = s.size ∧ wx = w.iter s i)
    case atStart => exact ⟨0, by omega, rfl⟩
    case round =>
      obtain ⟨i, hig, rfl⟩ := hrel
      cases gk with
      | zero =>
        obtain rfl : i = s.size := by omega
        have hnx := fun ty => run_next_end (P := Tryd.prog) w s s.size ty (by omega)
        go_wp2_with fail
        go_ret
        exact ⟨rfl, iter_below _ _ _⟩
      | succ g =>
        have hi : i < s.size := by omega
        have hx128 := HS.out.at i hi
        have hnx := fun ty => run_next_ascii (P := Tryd.prog) w s i ty hi hx128
        have hx := hx128
        generalize (s[i]'hi).toNat = x at hnx hx
        have hne : (((x : Nat) : Int) == 65533) = false := by rw [beq_eq_false_iff_ne]; omega
        clear hx128
        go_wp2_with fail
        go_roundg g
        case measure => omega
        case rel => exact ⟨i + 1, by omega, rfl⟩
  · have hb : (r == 65533) = false := by simpa using he
    go_enter Tryd.func77, Tryd.ntmps77
    go_wp2_with fail
    refine (Tryd.utf8_ValidRune r w).mono ?_
    rintro e w1 ⟨rfl, rfl⟩
    by_cases hv : Lib.validRune r = true
    · rw [hv]
      go_wp2_with fail
      obtain ⟨n, hn, hn1, hn3, hge⟩ := enc_last r h0
      have hwr : wrap64 (((Utf8.encode r).size : Int) - 1) = (n : Int) := by unfold wrap64; omega
      have hnn : n < (Utf8.encode r).size := by omega
      have hge := hge hnn
      clear hv
      go_step3
      go_wp2_with fail
      clear hwr
      go_loopw [9] (fun i wr => i = .int .i64 n ∧ wr = w1) (fun _ _ => 0)
      case atStart => exact ⟨rfl, rfl⟩
      case round =>
        obtain ⟨rfl, rfl⟩ := hrel
        by_cases hlt : n < s.size
        · have hx := HS.out.at n hlt
          go_wp2_with fail
          have hlz : (n : Int) < s.size := by omega
          have hmz : (n : Int) < (Utf8.encode r).size := by omega
          have hne : (((s[n]'hlt).toNat : Int) == (((Utf8.encode r)[n]'hnn).toNat : Int)) = false := by rw [beq_eq_false_iff_ne]; omega
          clear hn
          go_step3
          go_wp2_with fail
          go_quiet (fail)
          go_wp2_with fail
          have HQ0 := Aside0.mk (pw_below_drewN (Below.refl wr.heap.size wr) nq)
          generalize wr.drewN nq = wq at HQ0 ⊢
          have hwn : IntKind.i64.wrap ((n : Int) + 1) = (n : Int) + 1 := by simp [IntKind.wrap, IntKind.bits, IntKind.signed]; omega
          have hp0 : (0 : Int) ≤ (n : Int) + 1 := by omega
          have hp1 : (n : Int) + 1 ≤ (s.size : Int) := by omega
          have hp2 : ((n : Int) + 1).toNat = n + 1 := by omega
          go_quiet (first
            | (go_at_call 71; go_loud (refine Calls.quiet_of_same (ib_none s (n + 1) _ HS.out hge (UInt8.toNat_lt _) _))))
          clear hwn hp0 hp1 hp2
          go_wp2_with fail
          simp +zetaDelta only [Exit.noGoto_ret, Exit.inBlock, Exit.then]
          go_ret
          exact ⟨rfl, pw_below_drewN HQ0.out _⟩
        · go_wp2_with fail
          rw [Exit.noGoto_ret]
          go_ret
          exact ⟨rfl, Below.refl _ _⟩
    · rw [show Lib.validRune r = false by simpa using hv]
      go_wp2_with fail
      go_ret
      exact ⟨rfl, Below.refl _ _⟩
/-- A rune past ASCII is written in bytes past ASCII. -/
theorem decode_bytes (s : ByteArray) (pos : Nat) (h : pos < s.size) (ha : 128 ≤ (s[pos]'h).toNat) : pos + (Utf8.decode s pos).2 ≤ s.size ∧ ∀ j, j < (Utf8.decode s pos).2 → ∀ hj : pos + j < s.size, 128 ≤ (s[pos + j]'hj).toNat := by
  have hg : ∀ k, (hk : pos + k < s.size) → s.get! (pos + k) = s[pos + k]'hk := fun k hk => by
    simp [ByteArray.get!, getElem!_pos, hk]
    rfl
  have hn : ¬ (s.get! (pos + 0)).toNat < 128 := by rw [hg 0 h]; exact Nat.not_lt.2 ha
  have key : ∀ n, (∀ k, 1 ≤ k → k < n → pos + k < s.size ∧ 128 ≤ (s.get! (pos + k)).toNat) → 1 ≤ n → pos + n ≤ s.size ∧ ∀ j, j < n → ∀ hj : pos + j < s.size, 128 ≤ (s[pos + j]'hj).toNat := by
    intro n hk h1
    refine ⟨?_, ?_⟩
    · by_cases h2 : n = 1
      · omega
      · have := (hk (n - 1) (by omega) (by omega)).1; omega
    · intro j hj hjs
      by_cases hj0 : j = 0
      · subst hj0; exact ha
      · have := (hk j (by omega) hj).2
        rw [hg j hjs] at this
        exact this
  unfold Utf8.decode
  simp only [hn, if_false]
  split
  · rename_i hc
    simp only [Bool.and_eq_true, decide_eq_true_eq, beq_iff_eq] at hc
    split
    · exact key 2 (fun k h1 h2 => by obtain rfl : k = 1 := by omega
                                     exact ⟨hc.2.1, by omega⟩) (by omega)
    · exact key 1 (fun k h1 h2 => by omega) (by omega)
  · split
    · rename_i hc
      simp only [Bool.and_eq_true, decide_eq_true_eq, beq_iff_eq] at hc
      split
      · refine key 3 (fun k h1 h2 => ?_) (by omega)
        rcases (by omega : k = 1 ∨ k = 2) with rfl | rfl
        · exact ⟨hc.1.2.1, by omega⟩
        · exact ⟨hc.2.1, by omega⟩
      · exact key 1 (fun k h1 h2 => by omega) (by omega)
    · split
      · rename_i hc
        simp only [Bool.and_eq_true, decide_eq_true_eq, beq_iff_eq] at hc
        split
        · refine key 4 (fun k h1 h2 => ?_) (by omega)
          rcases (by omega : k = 1 ∨ k = 2 ∨ k = 3) with rfl | rfl | rfl
          · exact ⟨hc.1.1.2.1, by omega⟩
          · exact ⟨hc.1.2.1, by omega⟩
          · exact ⟨hc.2.1, by omega⟩
        · exact key 1 (fun k h1 h2 => by omega) (by omega)
      · exact key 1 (fun k h1 h2 => by omega) (by omega)
end Go.Proofs.YtpanmmpkdbhofaaDoorE

namespace Go.Proofs.YtpanmmpkdbhofaaDoorE
open Go Go.RowKit Go.Proofs.YtpanmmpkdbhofaaDoorW.PrintWords Go.Proofs.YtpanmmpkdbhofaaDoorX
set_option linter.unusedVariables false
theorem iterAt_below {w wx : World} {k : Nat} {s : ByteArray} {p : Nat} (h : Below k w wx) : Below k w (wx.iterAt k s p) :=
  ⟨h.os, h.tape, h.output, by simpa [World.iterAt] using h.size, fun j hj => by
    rw [← h.block j hj]
    simp [World.iterAt, show ¬ k = j by omega]⟩
theorem noAny_skip {s chars : ByteArray} {i n : Nat} (h : Lib.NoAny s.data.toList chars.data.toList i) (hac : Ascii chars) (hn : ∀ j, j < n → ∀ hj : i + j < s.size, 128 ≤ (s[i + j]'hj).toNat) : Lib.NoAny s.data.toList chars.data.toList (i + n) := by
  intro j b hj hb
  by_cases hji : j < i
  · exact h j b hji hb
  · have hlt : j < s.size := by
      have := (List.getElem?_eq_some_iff.1 hb).1
      rw [Array.length_toList] at this
      exact this
    have h1 := hn (j - i) (by omega) (by omega)
    have h2 : s[i + (j - i)]'(by omega) = b := by
      have := Lib.data_getElem? s j hlt
      rw [hb] at this
      injection this with this
      rw [this]
      congr 1
      omega
    rw [h2] at h1
    rw [Bool.eq_false_iff]
    intro hc
    rw [List.contains_iff_mem] at hc
    obtain ⟨q, hq, e⟩ := List.getElem_of_mem hc
    have := hac q b (by rw [List.getElem?_eq_getElem hq, e])
    omega
set_option maxHeartbeats 2000000 in
theorem indexAny_short_any (s chars : ByteArray) (w : World) (h2 : 2 ≤ chars.size) (hcs : chars.size ≤ 1000) (h8 : s.size ≤ 8) (hac : Ascii chars) :
    Calls Tryd.prog 64 #[.string s, .string chars] w fun e w' => e = .returned (.int .i64 (Lib.indexAny s.data.toList chars.data.toList)) ∧ Below w.heap.size w w' := by
  have HA := Aside0.mk hac
  clear hac
  have hemp : chars.toList.isEmpty = false := by
    rw [Lib.toList_data]
    cases h : chars.data.toList with
    | nil => have := Lib.size_eq chars; rw [h, List.length_nil] at this; omega
    | cons _ _ => rfl
  have hn1 : ((chars.size : Int) == 1) = false := beq_eq_false_iff_ne.2 (by omega)
  have h8z : decide ((8 : Int) < (s.size : Int)) = false := decide_eq_false (by omega)
  go_enter Tryd.func64, Tryd.ntmps64
  go_wp2_with fail
  refine (Tryd.strings_shouldUseASCIISet _ _).mono ?_
  rintro e w1 ⟨rfl, rfl⟩
  rw [h8z]
  go_wp2_with fail
  obtain ⟨k0, hk0⟩ : ∃ k, k = w1.heap.size := ⟨_, rfl⟩
  rw [← hk0]
  have H0 := Aside0.mk (show (w1.iter s 0).heap[k0]? = some (.stringIter s 0) by rw [hk0]; exact World.iter_heap w1 s 0)
  have HB0 := Aside0.mk (show Below k0 w1 (w1.iter s 0) by rw [hk0]; exact iter_below w1 s 0)
  have HK0 := Aside0.mk hk0
  clear hk0
  go_loopg [9, 10] s.size (fun g _ _ wx => ∃ i : Nat, i + g = s.size ∧ wx.heap[k0]? = some (.stringIter s i) ∧ Below k0 w1 wx ∧ Lib.NoAny s.data.toList chars.data.toList i)
  case atStart => exact ⟨0, by omega, H0.out, HB0.out, Lib.NoAny.zero _ _⟩
  case round =>
    obtain ⟨i, hig, hit, hb, hno⟩ := hrel
    clear H0 HB0
    have HN := Aside0.mk hno
    have HB := Aside0.mk hb
    have HI := Aside0.mk hit
    clear hno hb hit
    by_cases hi : i < s.size
    · by_cases hx : (s[i]'hi).toNat < 128
      · have hnx := fun ty => Lib.run_next_ascii_at (P := Tryd.prog) wr k0 s i ty HI.out hi hx
        have Hx := Aside0.mk (Lib.data_getElem? s i hi)
        generalize hxx : s[i]'hi = x at hnx hx Hx
        clear hxx
        have hcon := Lib.contains_iff_indexByte chars.data.toList x
        have hback : ((x.toNat : Int)).toNat.toUInt8 = x := by simp
        cases hin : chars.data.toList.contains x
        · rw [hin] at hcon
          have hlt : ¬ ((0 : Int) ≤ Lib.indexByte chars.data.toList x) := of_decide_eq_false hcon.symm
          clear hcon
          go_wp2_with fail
          refine (Tryd.strings_IndexRune_ascii chars (x.toNat : Int) _ (by omega) (by omega)).mono ?_
          rintro e w2 ⟨rfl, rfl⟩
          rw [hback]
          go_wp2_with fail
          go_roundg (s.size - (i + 1))
          case measure => omega
          case rel => exact ⟨i + 1, by omega, Lib.iterAt_heap _ _ _ _ _ HI.out, iterAt_below HB.out, HN.out.succ Hx.out hin⟩
        · rw [hin] at hcon
          have hge : (0 : Int) ≤ Lib.indexByte chars.data.toList x := of_decide_eq_true hcon.symm
          clear hcon
          go_wp2_with fail
          refine (Tryd.strings_IndexRune_ascii chars (x.toNat : Int) _ (by omega) (by omega)).mono ?_
          rintro e w2 ⟨rfl, rfl⟩
          rw [hback]
          go_wp2_with fail
          go_ret
          exact ⟨by rw [Lib.indexAny_hit HN.out Hx.out hin]; rfl, HK0.out ▸ iterAt_below HB.out⟩
      · have hx2 : 128 ≤ (s[i]'hi).toNat := by omega
        have hdb := decode_bytes s i hi hx2
        have hdh := decode_high s i hi hx2
        have hrl := decode_le s i
        have hnx := fun ty => Lib.run_next_any_at (P := Tryd.prog) wr k0 s i ty HI.out hi
        generalize Utf8.decode s i = d at hdb hdh hnx hrl
        obtain ⟨r, n⟩ := d
        simp only at hdb hdh hnx hrl
        have HD := Aside0.mk hdb
        obtain ⟨hd1, -⟩ := hdb
        go_wp2_with fail
        refine (indexRune_hi chars (r : Int) _ (by omega) (by omega) HA.out hcs).mono ?_
        rintro e w2 ⟨rfl, hb2⟩
        have HB2 := Aside0.mk hb2
        clear hb2
        go_wp2_with fail
        go_roundg (s.size - (i + n))
        case measure => omega
        case rel =>
          have hk1 := Lib.iterAt_heap wr k0 s i (i + n) HI.out
          have hlt : k0 < (wr.iterAt k0 s (i + n)).heap.size := by
            rcases Nat.lt_or_ge k0 (wr.iterAt k0 s (i + n)).heap.size with h' | h'
            · exact h'
            · simp [Array.getElem?_eq_none h'] at hk1
          exact ⟨i + n, by omega, (HB2.out.block k0 hlt).trans hk1, (iterAt_below HB.out).trans (HB2.out.mono (by omega)), noAny_skip HN.out HA.out HD.out.2⟩
    · obtain rfl : i = s.size := by omega
      have hnx := fun ty => Lib.run_next_end_at (P := Tryd.prog) wr k0 s s.size ty HI.out (by omega)
      go_wp2_with fail
      go_ret
      exact ⟨by rw [Lib.indexAny_none (by rw [← Lib.size_eq]; exact HN.out)]; rfl, HK0.out ▸ HB.out⟩
theorem indexAny_any (s chars : ByteArray) (w : World) (h2 : 2 ≤ chars.size) (hcs : chars.size ≤ 1000) (hs : s.size < 4294967281) (hac : Ascii chars) :
    Calls Tryd.prog 64 #[.string s, .string chars] w fun e w' => e = .returned (.int .i64 (Lib.indexAny s.data.toList chars.data.toList)) ∧ Below w.heap.size w w' := by
  by_cases h8 : s.size ≤ 8
  · exact indexAny_short_any s chars w h2 hcs h8 hac
  · refine (Tryd.strings_IndexAny_long (Go.zero_of_info (P := Tryd.prog) (n := 256) (by kernel_rfl)).1 s chars w h2 (by omega) hs (by omega) hac).mono ?_
    rintro e w' ⟨he, rfl⟩
    exact ⟨he, below_alloc (below_alloc (Below.refl _ _) _) _⟩
def strings_IndexAny.f (a0 a1 : ByteArray) : Option Int := if a0.size < 4294967281 ∧ 2 ≤ a1.size ∧ a1.size ≤ 1000 ∧ (a1.data.toList.all fun b => decide (b.toNat < 128)) = true then some (Lib.indexAny a0.data.toList a1.data.toList) else none
theorem strings_IndexAny.calls (a0 a1 : ByteArray) (r : Int) (w : World) (hgl : GL w) (h : strings_IndexAny.f a0 a1 = some r) :
    Calls Tryd.prog 64 #[.string a0, .string a1] w fun e w' => e = .returned (.int .i64 r) ∧ Below w.heap.size w w' := by
  unfold strings_IndexAny.f at h
  split at h
  · rename_i hc
    injection h with h
    subst h
    refine indexAny_any a0 a1 w hc.2.1 hc.2.2.1 hc.1 (fun j b hj => ?_)
    have := List.all_eq_true.1 hc.2.2.2 b (List.mem_of_getElem? hj)
    simpa using this
  · cases h
end Go.Proofs.YtpanmmpkdbhofaaDoorE

namespace Go.Proofs.YtpanmmpkdbhofaaDoor.P12r
open Go.RowKit Go.Proofs.YtpanmmpkdbhofaaDoorE Go.Proofs.YtpanmmpkdbhofaaDoorW.PrintWords Go.Proofs.YtpanmmpkdbhofaaDoorW.PrintLast Go.Proofs.YtpanmmpkdbhofaaDoorW.PrintMore
attribute [local go_sem] max2_int min2_int max_two min_two max_three min_three max_four min_four   -- for this text's walks alone
set_option linter.unusedVariables false
set_option linter.unusedSimpArgs false

def errW : Option Int → Value
  | none => .nilIface
  | some c => .iface 0 (.int .i64 c)
theorem errW_none : errW none = .nilIface := rfl
theorem errW_some (c : Int) : errW (some c) = .iface 0 (.int .i64 c) := rfl

theorem info5 : (Tryd.prog.info? 5).map (fun i => (i.zero, i.size, i.bytes)) = some (some (.int .u8 0), 1, 1) := by kernel_rfl
theorem info56 : (Tryd.prog.info? 56).map (fun i => (i.zero, i.size, i.bytes)) = some (some (.agg #[(.string ⟨#[]⟩), (.string ⟨#[]⟩), (.int .i64 0)]), 3, 40) := by kernel_rfl

structure S56 where
  f0 : ByteArray
  f1 : ByteArray
  f2 : Int
def z56 : S56 := ⟨(⟨#[]⟩ : ByteArray), (⟨#[]⟩ : ByteArray), (0 : Int)⟩
def k56 : Kd S56 := Kd.iso (Kd.pair Kd.string (Kd.pair Kd.string (Kd.int .i64))) (fun x : S56 => (x.f0, x.f1, x.f2))
theorem k56_open {w : World} {x : S56} {cs : List Value} (h : k56.K w x cs) : cs = [.string x.f0, .string x.f1, .int .i64 x.f2] := by
  obtain ⟨_, _, rfl, rfl, ⟨_, _, rfl, rfl, rfl⟩⟩ := h
  exact rfl
theorem k56_mkM (w : World) (base : Nat) (ok : Nat → Prop) (x : S56)  : k56.M w base ok x [.string x.f0, .string x.f1, .int .i64 x.f2] := ⟨[.string x.f0], [.string x.f1, .int .i64 x.f2], rfl, rfl, ⟨[.string x.f1], [.int .i64 x.f2], rfl, rfl, rfl⟩⟩
def rd_T56 (xs : List S56) (i : Int) : S56 := xs.getD i.toNat z56
theorem at_T56 {w : World} {A : Option Addr} {n : Nat} {xs : List S56} (h : Kd.C k56 w A n xs) (i : Int) (h0 : 0 ≤ i) (h1 : i < n) : ∃ ad , A = some ad ∧ w.cell? (ad.add (i.toNat * 3)) = some (.string (rd_T56 xs i).f0) ∧ w.cell? ⟨(ad.add (i.toNat * 3)).block, (ad.add (i.toNat * 3)).off + 1, none⟩ = some (.string (rd_T56 xs i).f1) ∧ w.cell? ⟨(ad.add (i.toNat * 3)).block, (ad.add (i.toNat * 3)).off + 2, none⟩ = some (.int .i64 (rd_T56 xs i).f2) := by
  obtain ⟨ad, c, e, _, hK, hc0⟩ := Kd.C_get h z56 i h0 h1
  have hc : ∀ j u, c[j]? = some u → w.cell? (ad.add (i.toNat * 3 + j)) = some u := hc0
  obtain rfl := k56_open hK
  exact ⟨ad, e, hc 0 _ rfl, by rw [← add_field _ _ 1 (by omega)]; exact hc 1 _ rfl, by rw [← add_field _ _ 2 (by omega)]; exact hc 2 _ rfl⟩

structure S98 where
  f0 : ByteArray
  f1 : ByteArray
def z98 : S98 := ⟨(⟨#[]⟩ : ByteArray), (⟨#[]⟩ : ByteArray)⟩
def k98 : Kd S98 := Kd.iso (Kd.pair Kd.string Kd.string) (fun x : S98 => (x.f0, x.f1))
theorem k98_open {w : World} {x : S98} {cs : List Value} (h : k98.K w x cs) : cs = [.string x.f0, .string x.f1] := by
  obtain ⟨_, _, rfl, rfl, rfl⟩ := h
  exact rfl
def rd_T98 (xs : List S98) (i : Int) : S98 := xs.getD i.toNat z98
theorem at_T98 {w : World} {A : Option Addr} {n : Nat} {xs : List S98} (h : Kd.C k98 w A n xs) (i : Int) (h0 : 0 ≤ i) (h1 : i < n) : ∃ ad , A = some ad ∧ w.cell? (ad.add (i.toNat * 2)) = some (.string (rd_T98 xs i).f0) ∧ w.cell? ⟨(ad.add (i.toNat * 2)).block, (ad.add (i.toNat * 2)).off + 1, none⟩ = some (.string (rd_T98 xs i).f1) := by
  obtain ⟨ad, c, e, _, hK, hc0⟩ := Kd.C_get h z98 i h0 h1
  have hc : ∀ j u, c[j]? = some u → w.cell? (ad.add (i.toNat * 2 + j)) = some u := hc0
  obtain rfl := k98_open hK
  exact ⟨ad, e, hc 0 _ rfl, by rw [← add_field _ _ 1 (by omega)]; exact hc 1 _ rfl⟩

structure S49 where
  f0 : ByteArray
  f1 : ByteArray
  f2 : ByteArray
  f3 : (List S98)
  f4 : (List S49)
def z49 : S49 := ⟨(⟨#[]⟩ : ByteArray), (⟨#[]⟩ : ByteArray), (⟨#[]⟩ : ByteArray), ([] : List S98), ([] : List S49)⟩
def F49 (d : Kd S49) : Kd S49 := Kd.iso (Kd.pair Kd.string (Kd.pair Kd.string (Kd.pair Kd.string (Kd.pair (Kd.slice 98 k98) (Kd.slice 49 d))))) (fun x : S49 => (x.f0, x.f1, x.f2, x.f3, x.f4))
theorem mono49 : Kd.Mono F49 := Kd.mono_iso _ (Kd.mono_pair (Kd.mono_const _) (Kd.mono_pair (Kd.mono_const _) (Kd.mono_pair (Kd.mono_const _) (Kd.mono_pair (Kd.mono_const _) (Kd.mono_slice 49 Kd.mono_id)))))
theorem sub49 : Kd.Sub F49 [49, 98] := Kd.sub_iso _ (Kd.sub_pair (Kd.sub_const _ (by decide)) (Kd.sub_pair (Kd.sub_const _ (by decide)) (Kd.sub_pair (Kd.sub_const _ (by decide)) (Kd.sub_pair (Kd.sub_const _ (by decide)) (Kd.sub_slice 49 (by decide) Kd.sub_id)))))
theorem sz49 : ∀ n, (Kd.upto F49 5 [49, 98] n).sz = 5 := Kd.upto_sz (fun _ => rfl)
def k49 : Kd S49 := Kd.fix F49 5 [49, 98] sz49 (Kd.upto_E sub49)
theorem k49_open {w : World} {x : S49} {cs : List Value} (h : k49.K w x cs) : ∃ A3 c3 A4 c4, cs = [.string x.f0, .string x.f1, .string x.f2, .slice A3 x.f3.length c3, .slice A4 x.f4.length c4] ∧ x.f3.length ≤ c3 ∧ k98.C w A3 x.f3.length x.f3 ∧ x.f4.length ≤ c4 ∧ k49.C w A4 x.f4.length x.f4 := by
  obtain ⟨n, h⟩ := h
  cases n with
  | zero => exact h.elim
  | succ n =>
    obtain ⟨_, _, rfl, rfl, ⟨_, _, rfl, rfl, ⟨_, _, rfl, rfl, ⟨_, _, rfl, ⟨A3, c3, rfl, l3, g3⟩, ⟨A4, c4, rfl, l4, g4⟩⟩⟩⟩⟩ := h
    exact ⟨A3, c3, A4, c4, rfl, l3, g3, l4, Kd.fix_C g4⟩
theorem k49_mk (w : World) (x : S49) {A3 : Option Addr} {c3 : Nat} (l3 : x.f3.length ≤ c3) (g3 : k98.C w A3 x.f3.length x.f3) {A4 : Option Addr} {c4 : Nat} (l4 : x.f4.length ≤ c4) (g4 : k49.C w A4 x.f4.length x.f4) : k49.K w x [.string x.f0, .string x.f1, .string x.f2, .slice A3 x.f3.length c3, .slice A4 x.f4.length c4] := by
  obtain ⟨n4, q4⟩ := Kd.fix_C_back mono49 g4
  have r4 := Kd.upto_C_le mono49 sz49 (show n4 ≤ n4 by omega) q4
  exact ⟨n4 + 1, ⟨[.string x.f0], [.string x.f1, .string x.f2, .slice A3 x.f3.length c3, .slice A4 x.f4.length c4], rfl, rfl, ⟨[.string x.f1], [.string x.f2, .slice A3 x.f3.length c3, .slice A4 x.f4.length c4], rfl, rfl, ⟨[.string x.f2], [.slice A3 x.f3.length c3, .slice A4 x.f4.length c4], rfl, rfl, ⟨[.slice A3 x.f3.length c3], [.slice A4 x.f4.length c4], rfl, ⟨A3, c3, rfl, l3, g3⟩, ⟨A4, c4, rfl, l4, r4⟩⟩⟩⟩⟩⟩
def rd_T49 (xs : List S49) (i : Int) : S49 := xs.getD i.toNat z49
theorem at_T49 {w : World} {A : Option Addr} {n : Nat} {xs : List S49} (h : Kd.C k49 w A n xs) (i : Int) (h0 : 0 ≤ i) (h1 : i < n) : ∃ ad A3 c3 A4 c4, A = some ad ∧ w.cell? (ad.add (i.toNat * 5)) = some (.string (rd_T49 xs i).f0) ∧ w.cell? ⟨(ad.add (i.toNat * 5)).block, (ad.add (i.toNat * 5)).off + 1, none⟩ = some (.string (rd_T49 xs i).f1) ∧ w.cell? ⟨(ad.add (i.toNat * 5)).block, (ad.add (i.toNat * 5)).off + 2, none⟩ = some (.string (rd_T49 xs i).f2) ∧ w.cell? ⟨(ad.add (i.toNat * 5)).block, (ad.add (i.toNat * 5)).off + 3, none⟩ = some (.slice A3 (rd_T49 xs i).f3.length c3) ∧ w.cell? ⟨(ad.add (i.toNat * 5)).block, (ad.add (i.toNat * 5)).off + 4, none⟩ = some (.slice A4 (rd_T49 xs i).f4.length c4) ∧ (rd_T49 xs i).f3.length ≤ c3 ∧ k98.C w A3 (rd_T49 xs i).f3.length (rd_T49 xs i).f3 ∧ (rd_T49 xs i).f4.length ≤ c4 ∧ k49.C w A4 (rd_T49 xs i).f4.length (rd_T49 xs i).f4 := by
  obtain ⟨ad, c, e, _, hK, hc0⟩ := Kd.C_get h z49 i h0 h1
  have hc : ∀ j u, c[j]? = some u → w.cell? (ad.add (i.toNat * 5 + j)) = some u := hc0
  obtain ⟨A3, c3, A4, c4, rfl, l3, g3, l4, g4⟩ := k49_open hK
  exact ⟨ad, A3, c3, A4, c4, e, hc 0 _ rfl, by rw [← add_field _ _ 1 (by omega)]; exact hc 1 _ rfl, by rw [← add_field _ _ 2 (by omega)]; exact hc 2 _ rfl, by rw [← add_field _ _ 3 (by omega)]; exact hc 3 _ rfl, by rw [← add_field _ _ 4 (by omega)]; exact hc 4 _ rfl, l3, g3, l4, g4⟩

end Go.Proofs.YtpanmmpkdbhofaaDoor.P12r

namespace Go.Proofs.YtpanmmpkdbhofaaDoorE
open Go Go.RowKit Go.WideMaps Go.Maps Go.Proofs.YtpanmmpkdbhofaaDoorW.PrintWords Go.Proofs.YtpanmmpkdbhofaaDoorX Go.Proofs.YtpanmmpkdbhofaaDoor.P12r
set_option linter.unusedVariables false
theorem lawS : Keyed Tryd.prog 9 := string_keyed Tryd.underlying9
theorem zeroI (w : World) : (zeroValue 3).run Tryd.prog w = .ok (.int .i64 0) w := by kernel_rfl
/-- How many of the first j have the tag t and no key. -/
def cntL (l : List S49) (j : Nat) (t : ByteArray) : Nat := (l.take j).countP fun x => decide (x.f1.size = 0) && decide (x.f0 = t)
def labL (l : List S49) (j : Nat) (x : S49) : S56 := ⟨x.f0, x.f1, if x.f1.size = 0 then (cntL l (j + 1) x.f0 : Int) else 0⟩
/-- The labels of the first j. -/
def labsL (l : List S49) (j : Nat) : List S56 := (List.range j).map fun i : Nat => labL l i (rd_T49 l i)
theorem labsL_succ (l : List S49) (j : Nat) : labsL l (j + 1) = labsL l j ++ [labL l j (rd_T49 l j)] := by unfold labsL; rw [List.range_succ, List.map_append]; rfl
theorem labsL_len (l : List S49) (j : Nat) : (labsL l j).length = j := by unfold labsL; rw [List.length_map, List.length_range]
def keyL (s : ByteArray) : Lit := .string s.data.toList
def mapL (l : List S49) : Nat → DataW Unit
  | 0 => .map []
  | j + 1 => if (rd_T49 l j).f1.size = 0 then (mapL l j).put (keyL (rd_T49 l j).f0) (.lit (.int .i64 (cntL l (j + 1) (rd_T49 l j).f0))) else mapL l j
theorem mapL_is (l : List S49) : ∀ j, IsMap (mapL l j)
  | 0 => ⟨[], rfl⟩
  | j + 1 => by
    unfold mapL
    split
    · exact IsMap.put (mapL_is l j) _ _
    · exact mapL_is l j
theorem cntL_succ (l : List S49) (j : Nat) (h : j < l.length) (t : ByteArray) : cntL l (j + 1) t = cntL l j t + if (rd_T49 l j).f1.size = 0 ∧ (rd_T49 l j).f0 = t then 1 else 0 := by
  unfold cntL rd_T49
  rw [List.take_succ_eq_append_getElem h, List.countP_append]
  simp [List.countP_cons, List.getD, List.getElem?_eq_getElem h]
theorem keyL_inj {a b : ByteArray} (h : keyL a = keyL b) : a = b := by
  cases a; cases b
  unfold keyL at h
  injection h with h
  congr 1
  exact Array.toList_inj.1 h
theorem mapL_at (l : List S49) : ∀ j, j ≤ l.length → ∀ t : ByteArray, (mapL l j).atKey (keyL t) (.lit (.int .i64 0)) = .lit (.int .i64 (cntL l j t))
  | 0, _, t => rfl
  | j + 1, h, t => by
    have ih := mapL_at l j (by omega) t
    rw [cntL_succ l j (by omega)]
    unfold mapL
    by_cases hk : (rd_T49 l j).f1.size = 0
    · rw [if_pos hk]
      by_cases ht : (rd_T49 l j).f0 = t
      · subst ht
        rw [atKey_put_same (mapL_is l j) (show WideAt.IsKeyLit (keyL _) from trivial), cntL_succ l j (by omega)]
      · rw [atKey_put_other (fun e => ht (keyL_inj e).symm), ih, if_neg (fun h => ht h.2)]
        rfl
    · rw [if_neg hk, ih, if_neg (fun h => hk h.1)]
      rfl
theorem cntL_le (l : List S49) (j : Nat) (t : ByteArray) : cntL l j t ≤ j := by
  unfold cntL
  have h1 := List.countP_le_length (p := fun x : S49 => decide (x.f1.size = 0) && decide (x.f0 = t)) (l := l.take j)
  rw [List.length_take] at h1
  omega
theorem wf_i {a : Int} (h0 : -9223372036854775808 ≤ a) (h1 : a ≤ 9223372036854775807) : (Lit.int .i64 a).wf = true := by
  simp [Lit.wf, IntKind.min, IntKind.max, IntKind.bits, IntKind.signed]
  omega
theorem two_old (w : World) (a b : Obj) : ((w.alloc a).alloc b).heap[w.heap.size]? = some a := by
  rw [(below_alloc (Below.refl (w.alloc a).heap.size (w.alloc a)) b).block _ (by simp)]
  exact heap_alloc_new w a
theorem two_new (w : World) (a b : Obj) : ((w.alloc a).alloc b).heap[w.heap.size + 1]? = some b := by
  have := heap_alloc_new (w.alloc a) b
  simpa using this
theorem map_beside {w : World} {a1 a2 : Obj} {b k : Nat} {D : DataW Unit} (hm : w.ownsMap Tryd.prog 9 (plainElem (H := Unit) Tryd.prog 3) b k D) : ∃ es clock, ((w.alloc a1).alloc a2).heap[b]? = some (.map es clock) := by
  obtain ⟨es, clock, hb, -⟩ := (hm.alloc a1).alloc a2
  exact ⟨es, clock, hb⟩
theorem below_map {w wr w2 : World} {a1 a2 : Obj} {b : Nat} (h : Below w.heap.size w wr) (hb : w.heap.size ≤ b) (hg : ((wr.alloc a1).alloc a2).grownBy w2 (some b)) : Below w.heap.size w w2 :=
  ⟨hg.os.trans h.os, hg.tape.trans h.tape, hg.output.trans h.output, Nat.le_trans (Nat.le_trans h.size (by simp; omega)) hg.size, fun k hk => (hg.block k (Nat.lt_of_lt_of_le hk (Nat.le_trans h.size (by simp; omega))) (by simp; omega)).trans (((below_alloc (below_alloc (Below.refl wr.heap.size wr) a1) a2).block k (Nat.lt_of_lt_of_le hk h.size)).trans (h.block k hk))⟩
theorem below_put {w w2 : World} {p : Addr} (h : Below w.heap.size w w2) (hp : w.heap.size ≤ p.block) (u : Value) : Below w.heap.size w (w2.setCell p u) := h.setCell hp u
theorem k56_set {w : World} {B p : Nat} {v : Value} {l : List S56} (h : Kd.R k56 56 w B (fun _ => True) v l) (hne : some p ≠ v.ownBlock) (j : Nat) (u : Value) : Kd.R k56 56 (w.setCell ⟨p, j, none⟩ u) B (fun _ => True) v l :=
  Kd.R_mono (Kd.R_far (Kd.R_far1 h rfl hne) (fun k hk => hk.2) u) (fun _ _ => trivial)
theorem map_set {w : World} {b p k : Nat} {D : DataW Unit} (h : w.ownsMap Tryd.prog 9 (plainElem (H := Unit) Tryd.prog 3) b k D) (hne : b ≠ p) (j : Nat) (u : Value) : (w.setCell ⟨p, j, none⟩ u).ownsMap Tryd.prog 9 (plainElem (H := Unit) Tryd.prog 3) b k D := by
  obtain ⟨es, clock, hb, hr⟩ := h
  exact ⟨es, clock, (Below.heap_setCell w ⟨p, j, none⟩ u b hne).trans hb, hr⟩
theorem own_beside {w w1 : World} {B b : Nat} {v : Value} {l : List S56} (h : Kd.R k56 56 w B (fun _ => True) v l) (hm : ∃ es clock, w.heap[b]? = some (.map es clock)) (hg : w.grownBy w1 (some b)) : Kd.R k56 56 w1 B (fun _ => True) v l := by
  obtain ⟨es, clock, hm⟩ := hm
  refine Kd.R_grown1 h rfl hg (fun e => ?_)
  obtain ⟨inner, ho⟩ := Kd.R_own h
  obtain ⟨cells, hc⟩ := own_typed ho b e.symm
  rw [hm] at hc
  cases hc
theorem map_ne {w : World} {B b k : Nat} {D : DataW Unit} {v : Value} {l : List S56} (hm : w.ownsMap Tryd.prog 9 (plainElem (H := Unit) Tryd.prog 3) b k D) (h : Kd.R k56 56 w B (fun _ => True) v l) : some b ≠ v.ownBlock := by
  intro e
  obtain ⟨es, clock, hb, -⟩ := hm
  obtain ⟨inner, ho⟩ := Kd.R_own h
  obtain ⟨cells, hc⟩ := own_typed ho b e.symm
  rw [hb] at hc
  cases hc
theorem dlenA (s : ByteArray) : s.data.toList.length = s.size := by rw [Array.length_toList]; rfl
theorem cell_blk {w : World} {b j : Nat} {cs : Array Value} {T : TypeId} {fz : Nat × Nat} {v : Value} (h : w.heap[b]? = some (.cells cs T fz)) (hv : cs[j]? = some v) : w.cell? ⟨b, j, none⟩ = some v := by
  rw [Lib.cell_of_heap h]; exact hv
set_option maxHeartbeats 2000000 in
set_option maxRecDepth 100000 in
theorem label_Of_c (A0 : Option Addr) (c0 : Nat) (l0 : List S49) (w : World) (hr0 : Kd.C k49 w A0 l0.length l0) (hc0 : l0.length ≤ c0) (hn : l0.length ≤ 1000000) (hs : ∀ i : Nat, i < l0.length → (rd_T49 l0 i).f0.size ≤ maxLen) :
    Calls Tryd.prog 39 #[.slice A0 l0.length c0] w fun e w' => ∃ v, e = .returned v ∧ Kd.R k56 56 w' w.heap.size (fun _ => True) v (labsL l0 l0.length) ∧ Below w.heap.size w w' := by
  have HR0 := Aside0.mk hr0
  have HS := Aside0.mk hs
  clear hr0 hs
  have hmm := @run_makeMap Tryd.prog
  go_enter Tryd.func39, Tryd.ntmps39
  go_wp2_with (with_reducible refine gate_dst (N := 10) rfl ?_; refine R_make0 (w0 := w) k56 w.heap.size 56 rfl (N := 10) rfl 51 _ _ rfl (l0.length : Int) rfl rfl Tryd.underlying51 _ 40 info56 rfl (by decide) (by omega) (ok := fun _ => True) (okp := fun _ => False) trivial (by omega) ?_ (Below.refl _ _) (Nat.le_refl _) ?_)
  · simp; omega
  intro v0 w1 hO hb hg q hq1 hq2
  have HO := Aside0.mk hO
  have HB := Aside0.mk hb
  clear hO hb hg hq1 hq2
  go_wp2_with fail
  obtain ⟨mb, hmb⟩ : ∃ b, b = w1.heap.size := ⟨_, rfl⟩
  rw [← hmb]
  have HM := Aside0.mk (show (w1.alloc (.map #[] 0)).ownsMap Tryd.prog 9 (plainElem (H := Unit) Tryd.prog 3) mb 0 (.map []) by rw [hmb]; exact World.ownsMap_made _ _ _ _)
  have HO1 := Aside0.mk (Kd.R_alloc HO.out (.map #[] 0))
  have HB1 := Aside0.mk (show Below w.heap.size w (w1.alloc (.map #[] 0)) from below_alloc HB.out _)
  have hmw : w.heap.size ≤ mb := by rw [hmb]; exact HB.out.size
  clear HO HB hmb
  go_loopw [3, 14] (fun v i wr => ∃ k : Nat, k ≤ l0.length ∧ i = .int .i64 k ∧ wr.ownsMap Tryd.prog 9 (plainElem (H := Unit) Tryd.prog 3) mb k (mapL l0 k) ∧ Kd.R k56 56 wr w.heap.size (fun _ => True) v (labsL l0 k) ∧ Below w.heap.size w wr) (fun _ i _ => l0.length - (intOf i).toNat)
  case atStart => exact ⟨0, Nat.zero_le _, rfl, HM.out, HO1.out, HB1.out⟩
  case round =>
    obtain ⟨k, hk, rfl, hown, hO, hb⟩ := hrel
    clear HM HO1 HB1
    have HM := Aside0.mk hown
    have HO := Aside0.mk hO
    have HB := Aside0.mk hb
    clear hown hO hb
    by_cases hlt : k < l0.length
    · obtain ⟨ad, A3, c3, A4, c4, rfl, e0, e1, e2, e3, e4, -, -, -, -⟩ := at_T49 HR0.out (k : Int) (by omega) (by omega)
      rw [Int.toNat_natCast] at e0 e1 e2 e3 e4
      have d0 := pw_cell_below HB.out e0
      have d1 := pw_cell_below HB.out e1
      have d2 := pw_cell_below HB.out e2
      have d3 := pw_cell_below HB.out e3
      have d4 := pw_cell_below HB.out e4
      clear e0 e1 e2 e3 e4
      obtain ⟨T, hT⟩ : ∃ T, T = (rd_T49 l0 k).f0 := ⟨_, rfl⟩
      obtain ⟨Ky, hKy⟩ : ∃ T, T = (rd_T49 l0 k).f1 := ⟨_, rfl⟩
      rw [← hT] at d0
      rw [← hKy] at d1
      have HT := Aside0.mk hT
      have HK := Aside0.mk hKy
      clear hT hKy
      have hkey : keyOf Tryd.prog 9 (.string T) = some (keyL T) := keyOf_string_mk Tryd.underlying9 (by rw [HT.out]; exact HS.out k hlt)
      by_cases hKe : Ky.size = 0
      · have hemp : Ky.toList.isEmpty = true := by rw [toList_data]; rw [List.isEmpty_iff]; exact List.eq_nil_of_length_eq_zero (by rw [dlenA]; exact hKe)
        go_wp2_with (at_lookup; refine wpList_lookup_own_int _ rfl _ _ 84 rfl 9 3 .i64 lawS Tryd.underlying84 Tryd.underlying3 (zeroI _) mb k (mapL l0 k) rfl ((HM.out.alloc _).alloc _) _ (keyL T) rfl hkey ?_)
        intro c hat hwc
        rw [mapL_at l0 k (by omega) T] at hat
        have hce : c = (cntL l0 k T : Int) := by injection hat with hat; injection hat with _ hat; exact hat.symm
        subst hce
        clear hat hwc
        have hcl : cntL l0 k T ≤ k := cntL_le l0 k T
        have hcs : cntL l0 (k + 1) T = cntL l0 k T + 1 := by rw [cntL_succ l0 k hlt, if_pos ⟨by rw [← HK.out]; exact hKe, HT.out.symm⟩]
        have hmap : mapL l0 (k + 1) = (mapL l0 k).put (keyL T) (.lit (.int .i64 ((cntL l0 k T : Int) + 1))) := by
          show (if (rd_T49 l0 k).f1.size = 0 then _ else _) = _
          rw [if_pos (by rw [← HK.out]; exact hKe), ← HT.out, hcs]
          rfl
        have HMAP := Aside0.mk hmap
        have HCS := Aside0.mk hcs
        clear hmap hcs
        go_wp2_with (at_mapUpdate; refine wpList_mapUpdate_own _ rfl _ _ _ 84 rfl 9 3 lawS Tryd.underlying84 _ mb k (mapL l0 k) rfl ((HM.out.alloc _).alloc _) (by unfold maxLen; omega) _ _ _ rfl rfl hkey _ [] (plainElem_int Tryd.underlying3 (wf_i (a := (cntL l0 k T : Int) + 1) (by omega) (by omega))) ?_)
        intro w2 hown2 hg2
        rw [← HMAP.out] at hown2
        have hmbl : mb < wr.heap.size := HM.out.lt
        have b6 := (hg2.block wr.heap.size (by simp; omega) (by simp; omega)).trans (show _ = some (Obj.cells #[.string T, .string Ky, .string (rd_T49 l0 k).f2, .slice A3 (rd_T49 l0 k).f3.length c3, .slice A4 (rd_T49 l0 k).f4.length c4] 49 (0, 0)) from two_old _ _ _)
        have b7 := (hg2.block (wr.heap.size + 1) (by simp) (by simp; omega)).trans (show _ = some (Obj.cells #[.string T, .string Ky, .int .i64 0] 56 (0, 0)) from two_new _ _ _)
        have x60 : w2.cell? ⟨wr.heap.size, 0, none⟩ = some (.string T) := cell_blk b6 rfl
        have x70 : w2.cell? ⟨wr.heap.size + 1, 0, none⟩ = some (.string T) := cell_blk b7 rfl
        have x71 : w2.cell? ⟨wr.heap.size + 1, 1, none⟩ = some (.string Ky) := cell_blk b7 rfl
        have x72 : w2.cell? ⟨wr.heap.size + 1, 2, none⟩ = some (.int .i64 0) := cell_blk b7 rfl
        have f72 : w2.frozen? ⟨wr.heap.size + 1, 2, none⟩ = false := Lib.frozen_of_heap b7 2
        have HM2 := Aside0.mk hown2
        have HO2 := Aside0.mk (own_beside (Kd.R_alloc (Kd.R_alloc HO.out _) _) (map_beside HM.out) hg2)
        have HG2 := Aside0.mk hg2
        clear hown2 hg2
        go_wp2_with (at_lookup; refine wpList_lookup_own_int _ rfl _ _ 84 rfl 9 3 .i64 lawS Tryd.underlying84 Tryd.underlying3 (zeroI _) mb (k + 1) (mapL l0 (k + 1)) rfl HM2.out _ (keyL T) rfl hkey ?_)
        intro c hat hwc
        rw [mapL_at l0 (k + 1) (by omega) T, HCS.out] at hat
        have hce : c = ((cntL l0 k T + 1 : Nat) : Int) := by injection hat with hat; injection hat with _ hat; exact hat.symm
        subst hce
        clear hat hwc
        have hmbs : mb ≠ wr.heap.size + 1 := by omega
        have hvl : some (wr.heap.size + 1) ≠ (u3 : Value).ownBlock := fun e => by have := Kd.R_lt HO.out _ e.symm; omega
        have BB := Aside0.mk (show Below w.heap.size w (w2.setCell ⟨wr.heap.size + 1, 2, none⟩ (.int .i64 ((cntL l0 k T : Int) + 1))) from below_put (below_map HB.out hmw HG2.out) (by have := HB.out.size; show w.heap.size ≤ wr.heap.size + 1; omega) _)
        have HO4 := Aside0.mk (k56_set HO2.out hvl 2 (.int .i64 ((cntL l0 k T : Int) + 1)))
        have HM4 := Aside0.mk (map_set HM2.out hmbs 2 (.int .i64 ((cntL l0 k T : Int) + 1)))
        have HNE := Aside0.mk (map_ne HM4.out HO4.out)
        go_wp2_with (at_builtin; go_loud (refine Kd.R_append k56 (w0 := w) w.heap.size rfl _ _ 51 56 _ 40 rfl Tryd.underlying51 info56 rfl (by decide) (by omega) _ (labsL l0 k) (⟨T, Ky, (cntL l0 k T : Int) + 1⟩ : S56) [.string T, .string Ky, .int .i64 ((cntL l0 k T : Int) + 1)] (fun _ => True) (fun _ => False) rfl ?hx (k56_mkM _ _ _ (⟨T, Ky, (cntL l0 k T : Int) + 1⟩ : S56)) (fun _ hk => hk.elim) (fun _ _ => trivial) HO4.out BB.out (below_size BB.out) ?_ ?_); (case hx => go_loud (show Value.slice (some ⟨w2.heap.size, 0, none⟩) 1 1 = _; simp)))
        · rw [labsL_len]; omega
        intro v3 w3 hO3 hb3 hg3 hat3
        have hlab : labL l0 k (rd_T49 l0 k) = ⟨T, Ky, (cntL l0 k T : Int) + 1⟩ := by unfold labL; rw [← HT.out, ← HK.out, if_pos hKe, HCS.out]; rfl
        rw [← hlab, ← labsL_succ] at hO3
        have HO3 := Aside0.mk hO3
        have HB3 := Aside0.mk hb3
        have HM3 := Aside0.mk (show w3.ownsMap Tryd.prog 9 (plainElem (H := Unit) Tryd.prog 3) mb (k + 1) (mapL l0 (k + 1)) from HM4.out.kept hg3 HNE.out)
        clear hO3 hb3 hg3 hat3 hlab
        go_wp2_with fail
        go_roundw
        case rel => exact ⟨k + 1, by omega, by go_num, HM3.out, HO3.out, HB3.out⟩
        case measure => simp [intOf]; omega
      · have hemp : Ky.toList.isEmpty = false := by
          rw [toList_data, Bool.eq_false_iff]
          intro h
          rw [List.isEmpty_iff] at h
          have := dlenA Ky
          rw [h] at this
          exact hKe this.symm
        have hmap : mapL l0 (k + 1) = mapL l0 k := by
          show (if (rd_T49 l0 k).f1.size = 0 then _ else _) = _
          rw [if_neg (by rw [← HK.out]; exact hKe)]
        have HNE := Aside0.mk (show some mb ≠ (u3 : Value).ownBlock from map_ne HM.out HO.out)
        go_wp2_with (at_builtin; go_loud (refine Kd.R_append k56 (w0 := w) w.heap.size rfl _ _ 51 56 _ 40 rfl Tryd.underlying51 info56 rfl (by decide) (by omega) _ (labsL l0 k) (⟨T, Ky, 0⟩ : S56) [.string T, .string Ky, .int .i64 0] (fun _ => True) (fun _ => False) rfl ?hx (k56_mkM _ _ _ (⟨T, Ky, 0⟩ : S56)) (fun _ hk => hk.elim) (fun _ _ => trivial) (Kd.R_alloc (Kd.R_alloc HO.out _) _) (below_alloc (below_alloc HB.out _) _) (below_size (below_alloc (below_alloc HB.out _) _)) ?_ ?_); (case hx => go_loud (show Value.slice (some ⟨wr.heap.size + 1 + 1, 0, none⟩) 1 1 = _; simp)))
        · rw [labsL_len]; omega
        intro v3 w3 hO3 hb3 hg3 hat3
        have hlab : labL l0 k (rd_T49 l0 k) = ⟨T, Ky, 0⟩ := by unfold labL; rw [← HT.out, ← HK.out, if_neg hKe]
        rw [← hlab, ← labsL_succ] at hO3
        have HO3 := Aside0.mk hO3
        have HB3 := Aside0.mk hb3
        have HM3 := Aside0.mk (show w3.ownsMap Tryd.prog 9 (plainElem (H := Unit) Tryd.prog 3) mb (k + 1) (mapL l0 (k + 1)) from by rw [hmap]; exact ((((HM.out.alloc _).alloc _).kept hg3 HNE.out).mono (Nat.le_succ _)))
        clear hO3 hb3 hg3 hat3 hlab
        go_wp2_with fail
        go_roundw
        case rel => exact ⟨k + 1, by omega, by go_num, HM3.out, HO3.out, HB3.out⟩
        case measure => simp [intOf]; omega
    · obtain rfl : k = l0.length := by omega
      go_wp2_with fail
      go_ret
      exact ⟨_, rfl, HO.out, HB.out⟩
end Go.Proofs.YtpanmmpkdbhofaaDoorE

namespace Go.Proofs.YtpanmmpkdbhofaaDoorE
open Go Go.RowKit Go.Proofs.YtpanmmpkdbhofaaDoorW.PrintWords Go.Proofs.YtpanmmpkdbhofaaDoorX Go.Proofs.YtpanmmpkdbhofaaDoor.P12r
set_option linter.unusedVariables false
set_option linter.unusedSimpArgs false
structure It where
  n : S49
  dep : Int
  up : Int
def cutIt (w0 : World) (x : It) (cs : List Value) : Prop := ∃ A3 c3 A4 c4, cs = [.string x.n.f0, .string x.n.f1, .string x.n.f2, .slice A3 x.n.f3.length c3, .slice A4 x.n.f4.length c4, .int .i64 x.dep, .int .i64 x.up] ∧ x.n.f3.length ≤ c3 ∧ k98.C w0 A3 x.n.f3.length x.n.f3 ∧ x.n.f4.length ≤ c4 ∧ k49.C w0 A4 x.n.f4.length x.n.f4
/-- An item whose rows lie in the elder world. -/
def kIt (w0 : World) : Kd It where
  sz := 7
  E := []
  K := fun _ x cs => cutIt w0 x cs
  M := fun _ _ _ x cs => cutIt w0 x cs
  K_len := fun h => by obtain ⟨_, _, _, _, rfl, -⟩ := h; rfl
  K_one := fun h u hu => by
    obtain ⟨_, _, _, _, rfl, -⟩ := h
    simp at hu
    rcases hu with rfl | rfl | rfl | rfl | rfl | rfl | rfl <;> rfl
  K_below := fun _ h => h
  K_of_M := fun h => h
  M_mono := fun _ h => h
  M_bound := fun h => h
  M_move := fun _ h => h
  M_lower := fun _ h => h
/-- All nodes of a tree behind those of l (11.1); m: how many steps down are left. -/
def belowS : Nat → List It → S49 → Int → Int → List It
  | 0, l, _, _, _ => l
  | m + 1, l, x, dep, up => if l.length > 4096 then l else if dep > 64 then l ++ [⟨x, dep, up⟩] else x.f4.foldl (fun a y => belowS m a y (dep + 1) (l.length : Int)) (l ++ [⟨x, dep, up⟩])
theorem belowS_eq (m : Nat) (l : List It) (x : S49) (dep up : Int) : belowS (m + 1) l x dep up = if l.length > 4096 then l else if dep > 64 then l ++ [⟨x, dep, up⟩] else x.f4.foldl (fun a y => belowS m a y (dep + 1) (l.length : Int)) (l ++ [⟨x, dep, up⟩]) := rfl
theorem belowS_stop (m : Nat) (l : List It) (x : S49) (dep up : Int) (h : l.length > 4096) : belowS m l x dep up = l := by
  cases m with
  | zero => rfl
  | succ m => rw [belowS_eq, if_pos h]
theorem fold_stop (m : Nat) (l : List It) (dep up : Int) (h : l.length > 4096) : ∀ ks : List S49, ks.foldl (fun a y => belowS m a y dep up) l = l
  | [] => rfl
  | y :: ks => by rw [List.foldl_cons, belowS_stop m l y dep up h]; exact fold_stop m l dep up h ks
theorem belowS_len (m : Nat) : ∀ (l : List It) (x : S49) (dep up : Int), l.length ≤ 4097 → (belowS m l x dep up).length ≤ 4097 := by
  induction m with
  | zero => exact fun l x dep up h => h
  | succ m ih =>
    intro l x dep up h
    rw [belowS_eq]
    split
    · exact h
    · have h1 : (l ++ [(⟨x, dep, up⟩ : It)]).length ≤ 4097 := by rw [List.length_append, List.length_singleton]; omega
      split
      · exact h1
      · generalize l ++ [(⟨x, dep, up⟩ : It)] = a at h1
        generalize (l.length : Int) = q
        revert a
        induction x.f4 with
        | nil => exact fun a ha => ha
        | cons y ks ih2 => exact fun a ha => ih2 _ (ih a y (dep + 1) q ha)
/-- The items when the first j kids are through. -/
def stepS (m : Nat) (l1 : List It) (ks : List S49) (dep at_ : Int) (j : Nat) : List It := (ks.take j).foldl (fun a y => belowS m a y dep at_) l1
theorem stepS_succ (m : Nat) (l1 : List It) (ks : List S49) (dep at_ : Int) (j : Nat) (h : j < ks.length) : stepS m l1 ks dep at_ (j + 1) = belowS m (stepS m l1 ks dep at_ j) (rd_T49 ks j) dep at_ := by
  unfold stepS rd_T49
  rw [List.take_succ_eq_append_getElem h, List.foldl_append, Int.toNat_natCast, List.getD_eq_getElem?_getD, List.getElem?_eq_getElem h]
  rfl
theorem stepS_stop (m : Nat) (l1 : List It) (ks : List S49) (dep at_ : Int) (j : Nat) (h : (stepS m l1 ks dep at_ j).length > 4096) : ks.foldl (fun a y => belowS m a y dep at_) l1 = stepS m l1 ks dep at_ j := by
  have e : ks = ks.take j ++ ks.drop j := (List.take_append_drop j ks).symm
  rw [e, List.foldl_append]
  have := fold_stop m (stepS m l1 ks dep at_ j) dep at_ h (ks.drop j)
  unfold stepS at this ⊢
  rw [this, ← e]
theorem stepS_len (m : Nat) (l1 : List It) (ks : List S49) (dep at_ : Int) (h : l1.length ≤ 4097) : ∀ j, j ≤ ks.length → (stepS m l1 ks dep at_ j).length ≤ 4097
  | 0, _ => h
  | j + 1, hj => by rw [stepS_succ m l1 ks dep at_ j (by omega)]; exact belowS_len m _ _ _ _ (stepS_len m l1 ks dep at_ h j (by omega))
theorem infoIt : (Tryd.prog.info? 102).map (fun i => (i.zero, i.size, i.bytes)) = some (some (.agg #[.string ⟨#[]⟩, .string ⟨#[]⟩, .string ⟨#[]⟩, .slice none 0 0, .slice none 0 0, .int .i64 0, .int .i64 0]), 7, 112) := by kernel_rfl
theorem grow_trans {w w1 w2 : World} {r r1 : Option Nat} (h : w.grownBy w1 r) (h2 : w1.grownBy w2 r1) (hr : r1 = r ∨ ∃ b, r1 = some b ∧ w.heap.size ≤ b) : w.grownBy w2 r :=
  ⟨h2.os.trans h.os, h2.tape.trans h.tape, h2.output.trans h.output, Nat.le_trans h.size h2.size, fun k hk hne => (h2.block k (Nat.lt_of_lt_of_le hk h.size) (by
    rcases hr with rfl | ⟨b, rfl, hb⟩
    · exact hne
    · intro e; injection e with e; omega)).trans (h.block k hk hne)⟩
theorem grow_alloc (w : World) (o : Obj) (r : Option Nat) : w.grownBy (w.alloc o) r := grown_of_below (below_alloc (Below.refl _ _) o) r
/-- Where a row may be: the same block, or a new one. -/
def hat (W : World) (v v' : Value) : Prop := v'.ownBlock = v.ownBlock ∨ ∃ b, v'.ownBlock = some b ∧ W.heap.size ≤ b
theorem hat_trans {W W1 : World} {v v1 v2 : Value} (h : hat W v v1) (hs : W.heap.size ≤ W1.heap.size) (h2 : hat W1 v1 v2) : hat W v v2 := by
  rcases h2 with h2 | ⟨b, h2, h3⟩
  · rcases h with h | ⟨b, h, h3⟩
    · exact .inl (h2.trans h)
    · exact .inr ⟨b, h2.trans h, h3⟩
  · exact .inr ⟨b, h2, by omega⟩
set_option maxHeartbeats 4000000 in
set_option maxRecDepth 100000 in
theorem below_c (w0 : World) : ∀ (m : Nat) (x : S49) (dep : Int) (up : Int) (v : Value) (l : List It) (w : World) (A3 : Option Addr) (c3 : Nat) (A4 : Option Addr) (c4 : Nat),
    Below w0.heap.size w0 w → Kd.R (kIt w0) 102 w w0.heap.size (fun _ => True) v l → x.f3.length ≤ c3 → k98.C w0 A3 x.f3.length x.f3 → x.f4.length ≤ c4 → k49.C w0 A4 x.f4.length x.f4 → 66 ≤ dep + m → 1 ≤ dep → dep ≤ 65 → l.length ≤ 4097 →
    Calls Tryd.prog 95 #[v, .agg #[.string x.f0, .string x.f1, .string x.f2, .slice A3 x.f3.length c3, .slice A4 x.f4.length c4], .int .i64 dep, .int .i64 up] w fun e w' => ∃ v', e = .returned v' ∧ Kd.R (kIt w0) 102 w' w0.heap.size (fun _ => True) v' (belowS m l x dep up) ∧ Below w0.heap.size w0 w' ∧ w.grownBy w' v.ownBlock ∧ hat w v v' := by
  intro m
  induction m with
  | zero => intro x dep up v l w A3 c3 A4 c4 hb hr h3 g3 h4 g4 hm hd1 hd hl; omega
  | succ m ih =>
    intro x dep up v l w A3 c3 A4 c4 hb hr h3 g3 h4 g4 hm hd1 hd hl
    obtain ⟨A, c, rfl⟩ := Kd.R_slice hr
    have HR := Aside0.mk hr
    have HB := Aside0.mk hb
    have HG3 := Aside0.mk g3
    have HG4 := Aside0.mk g4
    have IH := Aside0.mk ih
    clear hr hb g3 g4 ih
    have hx4 : x.f4.length ≤ 9223372036854775807 := HG4.out.2.1
    by_cases hbig : 4096 < l.length
    · go_enter Tryd.func95, Tryd.ntmps95
      go_wp2_with fail
      go_ret
      refine ⟨_, rfl, ?_, below_alloc HB.out _, grow_alloc _ _ _, .inl rfl⟩
      rw [belowS_stop _ _ _ _ _ hbig]
      exact Kd.R_alloc HR.out _
    · by_cases hdeep : 64 < dep
      · go_enter Tryd.func95, Tryd.ntmps95
        go_wp2_with (at_builtin; go_loud (refine Kd.R_append (kIt w0) (w0 := w0) w0.heap.size rfl _ _ 99 102 _ 112 rfl Tryd.underlying99 infoIt rfl (show 0 < 7 by decide) (by omega) _ l (⟨x, dep, up⟩ : It) [.string x.f0, .string x.f1, .string x.f2, .slice A3 x.f3.length c3, .slice A4 x.f4.length c4, .int .i64 dep, .int .i64 up] (fun _ => True) (fun _ => False) rfl ?hx ⟨A3, c3, A4, c4, rfl, h3, HG3.out, h4, HG4.out⟩ (fun _ hk => hk.elim) (fun _ _ => trivial) (Kd.R_alloc HR.out _) (below_alloc HB.out _) (below_size (below_alloc HB.out _)) ?_ ?_); (case hx => go_loud (show Value.slice (some ⟨w.heap.size + 1, 0, none⟩) 1 1 = _; simp)))
        · omega
        intro v3 w3 hO3 hb3 hg3 hat3
        have HO3 := Aside0.mk hO3
        have HB3 := Aside0.mk hb3
        have HG := Aside0.mk (And.intro hg3 hat3)
        clear hO3 hb3 hg3 hat3
        go_wp2_with fail
        go_ret
        refine ⟨_, rfl, ?_, HB3.out, grow_trans (grow_alloc _ _ _) HG.out.1 (.inl rfl), ?_⟩
        · rw [belowS_eq, if_neg hbig, if_pos hdeep]
          exact HO3.out
        · rcases HG.out.2 with h | ⟨b, h, hb⟩
          · exact .inl h
          · exact .inr ⟨b, h, by first | omega | (simp at hb; omega)⟩
      · go_enter Tryd.func95, Tryd.ntmps95
        go_wp2_with (at_builtin; go_loud (refine Kd.R_append (kIt w0) (w0 := w0) w0.heap.size rfl _ _ 99 102 _ 112 rfl Tryd.underlying99 infoIt rfl (show 0 < 7 by decide) (by omega) _ l (⟨x, dep, up⟩ : It) [.string x.f0, .string x.f1, .string x.f2, .slice A3 x.f3.length c3, .slice A4 x.f4.length c4, .int .i64 dep, .int .i64 up] (fun _ => True) (fun _ => False) rfl ?hx ⟨A3, c3, A4, c4, rfl, h3, HG3.out, h4, HG4.out⟩ (fun _ hk => hk.elim) (fun _ _ => trivial) (Kd.R_alloc HR.out _) (below_alloc HB.out _) (below_size (below_alloc HB.out _)) ?_ ?_); (case hx => go_loud (show Value.slice (some ⟨w.heap.size + 1, 0, none⟩) 1 1 = _; simp)))
        · omega
        intro v3 w3 hO3 hb3 hg3 hat3
        have hvl : ∀ k, (Value.slice A l.length c).ownBlock = some k → k < w.heap.size := fun k hk => Kd.R_lt HR.out k hk
        have hbs : w.heap.size + 1 ≤ w3.heap.size := by have := hg3.size; simp at this; omega
        have hv3 : some w.heap.size ≠ v3.ownBlock := by
          rcases hat3 with h | ⟨b, h, hb⟩
          · rw [h]; intro e; have := hvl _ e.symm; omega
          · rw [h]; intro e; injection e with e; first | omega | (simp at hb; omega)
        have hbx : w3.heap[w.heap.size]? = some (.cells #[.string x.f0, .string x.f1, .string x.f2, .slice A3 x.f3.length c3, .slice A4 x.f4.length c4] 49 (0, 0)) := by
          rw [hg3.block w.heap.size (by simp) (by intro e; have := hvl _ e.symm; omega)]
          exact heap_alloc_new w _
        have HG := Aside0.mk (show w.grownBy w3 (Value.slice A l.length c).ownBlock ∧ hat w (Value.slice A l.length c) v3 from ⟨grow_trans (grow_alloc _ _ _) hg3 (.inl rfl), by
          rcases hat3 with h | ⟨b, h, hb⟩
          · exact .inl h
          · exact .inr ⟨b, h, by first | omega | (simp at hb; omega)⟩⟩)
        have HO3 := Aside0.mk hO3
        have HB3 := Aside0.mk hb3
        have HBX := Aside0.mk hbx
        have HV3 := Aside0.mk hv3
        have x4 : w3.cell? ⟨w.heap.size, 4, none⟩ = some (.slice A4 x.f4.length c4) := cell_blk hbx rfl
        clear hO3 hb3 hg3 hat3 hbx hv3 hvl
        go_wp2_with fail
        clear x4
        have hl1 : (l ++ [(⟨x, dep, up⟩ : It)]).length ≤ 4097 := by rw [List.length_append, List.length_singleton]; omega
        go_loopw [0, 30] (fun v i wr => ∃ k : Nat, k ≤ x.f4.length ∧ i = .int .i64 k ∧ Kd.R (kIt w0) 102 wr w0.heap.size (fun _ => True) v (stepS m (l ++ [⟨x, dep, up⟩]) x.f4 (dep + 1) (l.length : Int) k) ∧ Below w0.heap.size w0 wr ∧ w3.grownBy wr v3.ownBlock ∧ hat w3 v3 v) (fun _ i _ => x.f4.length - (intOf i).toNat)
        case atStart => exact ⟨0, Nat.zero_le _, rfl, HO3.out, HB3.out, grown_of_below (Below.refl _ _) _, .inl rfl⟩
        case round =>
          obtain ⟨k, hk, rfl, hO, hb, hg, hh⟩ := hrel
          obtain ⟨Av, cv, rfl⟩ := Kd.R_slice hO
          have hlen := stepS_len m (l ++ [(⟨x, dep, up⟩ : It)]) x.f4 (dep + 1) (l.length : Int) hl1 k hk
          have y4 : wr.cell? ⟨w.heap.size, 4, none⟩ = some (.slice A4 x.f4.length c4) := cell_blk ((hg.block _ (by omega) HV3.out).trans HBX.out) rfl
          have HB := Aside0.mk hb
          have HH0 := Aside0.mk (And.intro hg hh)
          have HO0 := Aside0.mk hO
          clear hO hb hg hh HO3 HB3
          obtain ⟨L, hL⟩ : ∃ L, L = stepS m (l ++ [(⟨x, dep, up⟩ : It)]) x.f4 (dep + 1) (l.length : Int) k := ⟨_, rfl⟩
          rw [← hL] at hlen
          have HO := Aside0.mk (show Kd.R (kIt w0) 102 wr w0.heap.size (fun _ => True) (.slice Av L.length cv) L by rw [hL]; exact HO0.out)
          have HH := Aside0.mk (show w3.grownBy wr v3.ownBlock ∧ hat w3 v3 (.slice Av L.length cv) by rw [hL]; exact HH0.out)
          clear HH0 HO0
          rw [← hL]
          have HL := Aside0.mk hL
          clear hL
          by_cases hlt : k < x.f4.length
          · by_cases hover : 4096 < L.length
            · go_wp2_with fail
              go_ret
              refine ⟨_, rfl, ?_, HB.out, grow_trans HG.out.1 HH.out.1 HG.out.2, hat_trans HG.out.2 HG.out.1.size HH.out.2⟩
              rw [belowS_eq, if_neg hbig, if_neg (show ¬ dep > 64 by omega), stepS_stop m _ x.f4 (dep + 1) (l.length : Int) k (by rw [← HL.out]; exact hover), ← HL.out]
              exact HO.out
            · obtain ⟨ad, B3, d3, B4, d4, rfl, e0, e1, e2, e3, e4, q3, C3, q4, C4⟩ := at_T49 HG4.out (k : Int) (by omega) (by omega)
              rw [Int.toNat_natCast] at e0 e1 e2 e3 e4
              have f0 := pw_cell_below HB.out e0
              have f1 := pw_cell_below HB.out e1
              have f2 := pw_cell_below HB.out e2
              have f3 := pw_cell_below HB.out e3
              have f4 := pw_cell_below HB.out e4
              clear e0 e1 e2 e3 e4
              have hsuc := stepS_succ m (l ++ [(⟨x, dep, up⟩ : It)]) x.f4 (dep + 1) (l.length : Int) k hlt
              rw [← HL.out] at hsuc
              have HSUC := Aside0.mk hsuc
              have HK := Aside0.mk (And.intro q3 (And.intro C3 (And.intro q4 C4)))
              clear hsuc q3 C3 q4 C4
              have hd1' : dep + 1 ≤ 65 := by omega
              have hm' : 66 ≤ dep + 1 + (m : Int) := by omega
              have hL1 : L.length ≤ 4097 := by omega
              go_wp2_with (go_at_call 95; go_loud (refine (IH.out (rd_T49 x.f4 (k : Int)) (dep + 1) (l.length : Int) (.slice Av L.length cv) L wr B3 d3 B4 d4 HB.out HO.out HK.out.1 HK.out.2.1 HK.out.2.2.1 HK.out.2.2.2 hm' (by omega) hd1' hL1).mono ?_); rintro e w' ⟨v', rfl, hR', hB', hG', hh'⟩; have HR' := Aside0.mk hR'; have HB' := Aside0.mk hB'; have HG' := Aside0.mk (And.intro hG' hh'); clear hR' hB' hG' hh')
              go_roundw
              case rel =>
                refine ⟨k + 1, by omega, by go_num, ?_, HB'.out, grow_trans HH.out.1 HG'.out.1 HH.out.2, hat_trans HH.out.2 HH.out.1.size HG'.out.2⟩
                rw [HSUC.out]
                exact HR'.out
              case measure => simp [intOf]; omega
          · obtain rfl : k = x.f4.length := by omega
            go_wp2_with fail
            go_ret
            refine ⟨_, rfl, ?_, HB.out, grow_trans HG.out.1 HH.out.1 HG.out.2, hat_trans HG.out.2 HG.out.1.size HH.out.2⟩
            rw [belowS_eq, if_neg hbig, if_neg (show ¬ dep > 64 by omega)]
            have : (x.f4.foldl (fun a y => belowS m a y (dep + 1) (l.length : Int)) (l ++ [(⟨x, dep, up⟩ : It)])) = L := by rw [HL.out]; unfold stepS; rw [List.take_length]
            rw [this]
            exact HO.out
theorem Items_c (x : S49) (w : World) (A3 : Option Addr) (c3 : Nat) (A4 : Option Addr) (c4 : Nat) (h3 : x.f3.length ≤ c3) (g3 : k98.C w A3 x.f3.length x.f3) (h4 : x.f4.length ≤ c4) (g4 : k49.C w A4 x.f4.length x.f4) :
    Calls Tryd.prog 81 #[.agg #[.string x.f0, .string x.f1, .string x.f2, .slice A3 x.f3.length c3, .slice A4 x.f4.length c4]] w fun e w' => ∃ v', e = .returned v' ∧ Kd.R (kIt w) 102 w' w.heap.size (fun _ => True) v' (belowS 66 [] x 1 (-1)) ∧ Below w.heap.size w w' := by
  have HK := Aside0.mk (And.intro g3 g4)
  clear g3 g4
  go_enter Tryd.func81, Tryd.ntmps81
  go_wp2_with (go_at_call 95; go_loud (refine (below_c w 66 x 1 (-1) (.slice none 0 0) [] _ A3 c3 A4 c4 (below_alloc (Below.refl _ _) _) (Kd.R_nil _ _ _ _ _) h3 HK.out.1 h4 HK.out.2 (by omega) (by omega) (by omega) (by simp)).mono ?_); rintro e w' ⟨v', rfl, hR', hB', -, -⟩; have HR' := Aside0.mk hR'; have HB' := Aside0.mk hB'; clear hR' hB')
  go_ret
  exact ⟨_, rfl, HR'.out, HB'.out⟩
end Go.Proofs.YtpanmmpkdbhofaaDoorE
