/- Merged by this claim's own program (merge.py) out of the texts XGL, Laid, Shelf, E1, X26x0, EOP, X26x1, X26x2, E20, E21, E22, E23, E24, E25, E26, X26x4, K02; the W texts among them began as the kit's print. -/
import Derived.Test.YtgdemingopcgaaaDoorOB1
import Derived.Lib.LaidTab
import Derived.Lib.ItoaMem
import Derived.WalkSmall
import Derived.Sort.Grow
import Derived.Test.YtgdemingopcgaaaDoorProg
import Derived.Test.YtgdemingopcgaaaDoorRows
import Derived.LaidMore
import Derived.MakeChecks
import Derived.Stop.LaidErr
import Derived.Stop.Joined
import Derived.KernelRfl
import Derived.RowKitTokens
import Derived.Shelf.Strings.Builder1
import Derived.Shelf.Small.Strs
import Derived.Shelf.Strings.BuilderF
import Derived.Shelf.Strings.BuilderK
import Derived.Shelf.Strconv.Atoi
import Derived.Shelf.Strconv.Itoa0
import Derived.Shelf.Strconv.Itoa1
import Derived.Shelf.LaysM
import Derived.Shelf.Strconv.Itoa2
import Derived.Shelf.Strconv.Itoa3
import Derived.Shelf.Strconv.AtoiErrFast
import Derived.Shelf.Strconv.ParseIntEmpty
import Derived.Shelf.Strconv.AtoiFail
import Derived.Shelf.Strconv.Clone
import Derived.Shelf.Strconv.SyntaxError
import Derived.Shelf.LaysC
import Derived.Shelf.Strconv.ToError
import Derived.Shelf.Strconv.Lower
import Derived.Shelf.Strconv.ParseUint10
import Derived.Shelf.Strconv.ParseUint10Empty
import Derived.Shelf.Strconv.ParseUint10Any
import Derived.Shelf.Strconv.ParseInt10
import Derived.Shelf.Strconv.AtoiLong
import Derived.Shelf.Strconv.AtoiInnerAll
import Derived.Shelf.Strconv.RangeError
import Derived.Shelf.Strconv.ToErrorRange
import Derived.Shelf.Strconv.AtoiAll
import Derived.Shelf.Strconv.ErrVarAll
import Derived.Shelf.Strings.Search1
import Derived.Shelf.Strings.Prefix
import Derived.Shelf.Strings.BuilderCap
import Derived.WalkKit
import Derived.OwnWalk
import Derived.Tactics
import Derived.Deep.QuietTactic
import Derived.BigQuiet
import Derived.WideLaws
import Derived.Outline
import Derived.Deep.CutBlock
import Derived.Deep.DeepFit
import Derived.WalkLawsBesides
import Derived.Below
import Derived.Deep.Draws
import Derived.Deep.AppendLies
import Derived.Maps.AppendAt
import Derived.Laws.BytesArg
import Derived.Laws.MakeOwn
import Derived.Laws.OwnMore
import Derived.Deep.OwnRows
import Derived.Lib.ConvBytes
import Derived.Laws.Slices
import Derived.RowKit3
import Derived.Deep.LoopGhost
import Derived.Deep.DeepCutAuto
import Derived.Deep.RegionHeld3
import Derived.Laws.Rows
import Derived.Lib.AppendStr
import Derived.ArgAppend
import Derived.Laws.IdiomCopy
import Derived.OrdersHeld
import Derived.Laws.BitsLemmas
import Derived.RowKit
import Derived.ChangeArms
import Derived.DataReads
import Derived.SizedLaws
import Derived.Deep.Slices
import Derived.Deep.RegionWith
import Derived.Laws.Tables
import Derived.Laws.CopyOwn
import Derived.Lib.EndianMore
import Derived.DeepKeys4
import Derived.Lib.ItoaLen
import Derived.Lib.AtoiAll

namespace Go.Proofs.YtgdemingopcgaaaDoorX
open Go Go.RowKit Go.Sort Go.Proofs.YtgdemingopcgaaaDoorW.PrintWords
theorem var_below {P : Program} {w W : World} {n : String} {cs : Array Value} (h : Below w.heap.size w W) (hv : w.var? P n = some cs) : W.var? P n = some cs := by
  unfold World.var? at hv ⊢
  cases hg : P.globalNamed n with
  | none => rw [hg] at hv; cases hv
  | some g =>
    rw [hg] at hv
    simp only [Option.bind_some] at hv ⊢
    have hlt : g < w.heap.size := by
      rcases Nat.lt_or_ge g w.heap.size with h1 | h1
      · exact h1
      · rw [Array.getElem?_eq_none h1] at hv; cases hv
    rw [h.block g hlt]
    exact hv
def GL (w : World) : Prop := Lib.TabIs Tryd.prog w "internal/strconv.uint64pow10" .u64 Lib.pow10Tab ∧ (∃ tp p, w.var? Tryd.prog "strconv.ErrSyntax" = some #[.iface tp p]) ∧ (∃ tp p, w.var? Tryd.prog "strconv.ErrRange" = some #[.iface tp p])
theorem GL.below {w W : World} (h : GL w) (hb : Below w.heap.size w W) : GL W := by
  obtain ⟨h1, ⟨t2, p2, h2⟩, t3, p3, h3⟩ := h
  exact ⟨var_below hb h1, ⟨t2, p2, var_below hb h2⟩, t3, p3, var_below hb h3⟩
theorem GL.drewN {w : World} (h : GL w) (n : Nat) : GL (w.drewN n) := h.below (pw_below_drewN (Below.refl _ _) n)
theorem GL.drew {w : World} (h : GL w) : GL w.drew := h.below (below_drew1 (Below.refl _ _))
theorem below_grow (w : World) (k : Nat) (os : Array Obj) : Below w.heap.size w (grow (w.drewN k) os) :=
  ⟨rfl, rfl, rfl, by simp [grow, World.drewN], fun b hb => by simp [grow, World.drewN, Array.getElem?_append_left hb]⟩
end Go.Proofs.YtgdemingopcgaaaDoorX

namespace Go.Proofs.YtgdemingopcgaaaDoorX
open Go Go.RowKit
theorem gTab : Tryd.prog.globalNamed "internal/strconv.uint64pow10" = some 4 := by kernel_rfl
theorem tTab : (Tryd.prog.globals[4]?).map (·.type) = some 125 := by kernel_rfl
theorem cTab : Tryd.prog.cellsOf 125 = 20 := by kernel_rfl
theorem cU64 : Tryd.prog.cellsOf 111 = 1 := by kernel_rfl
theorem tab_of {W : World} {r : List (String × DataW Unit)} (h : laidMet Tryd.prog (("internal/strconv.uint64pow10", Go.Proofs.YtgdemingopcgaaaDoor.Rows.laid_internal_strconv_uint64pow10) :: r) W) : Lib.TabIs Tryd.prog W "internal/strconv.uint64pow10" .u64 Lib.pow10Tab :=
  Lib.tabIs_of_head (zs := Lib.pow10Tab) (k := .u64) gTab tTab Tryd.underlying125 Tryd.underlying111 cU64 cTab h
theorem gE0 : Tryd.prog.globalNamed "strconv.ErrRange" = some 3 := by kernel_rfl
theorem gT0 : (Tryd.prog.globals[3]?).map (·.type) = some 91 := by kernel_rfl
theorem gE1 : Tryd.prog.globalNamed "strconv.ErrSyntax" = some 2 := by kernel_rfl
theorem gT1 : (Tryd.prog.globals[2]?).map (·.type) = some 91 := by kernel_rfl
theorem cES : Tryd.prog.cellsOf 131 = 1 := by kernel_rfl
theorem cStr : Tryd.prog.cellsOf 9 = 1 := by kernel_rfl
theorem star : "*" ++ "errors.errorString" = "*errors.errorString" := by decide
theorem rowES (u : TypeId) (h : Tryd.prog.typeName? 3 u = some "*errors.errorString") : u = 129 := by
  exact typeName_ptr_named (nm := "errors.errorString") (by rw [star]; kernel_rfl) (by kernel_rfl) (by decide) u (by rw [star]; exact h)
theorem range_of {W : World} {r : List (String × DataW Unit)} (h : laidMet Tryd.prog (("strconv.ErrRange", Go.Proofs.YtgdemingopcgaaaDoor.Rows.laid_strconv_ErrRange) :: r) W) : ∃ tp p, W.var? Tryd.prog "strconv.ErrRange" = some #[.iface tp p] := by
  obtain ⟨a, s, hv, _⟩ := laid_sentinel h gE0 gT0 Tryd.underlying91 rowES Tryd.underlying129 Tryd.underlying131 rfl rfl Tryd.underlying9 cES cStr
  exact ⟨_, _, hv⟩
theorem syntax_of {W : World} {r : List (String × DataW Unit)} (h : laidMet Tryd.prog (("strconv.ErrSyntax", Go.Proofs.YtgdemingopcgaaaDoor.Rows.laid_strconv_ErrSyntax) :: r) W) : ∃ tp p, W.var? Tryd.prog "strconv.ErrSyntax" = some #[.iface tp p] := by
  obtain ⟨a, s, hv, _⟩ := laid_sentinel h gE1 gT1 Tryd.underlying91 rowES Tryd.underlying129 Tryd.underlying131 rfl rfl Tryd.underlying9 cES cStr
  exact ⟨_, _, hv⟩
theorem gl_of {W : World} {r : List (String × DataW Unit)} (h : laidMet Tryd.prog (("math/bits.deBruijn32tab", Go.Proofs.YtgdemingopcgaaaDoor.Rows.laid_math_bits_deBruijn32tab) :: ("math/bits.deBruijn64tab", Go.Proofs.YtgdemingopcgaaaDoor.Rows.laid_math_bits_deBruijn64tab) :: ("internal/strconv.uint64pow10", Go.Proofs.YtgdemingopcgaaaDoor.Rows.laid_internal_strconv_uint64pow10) :: ("strconv.ErrRange", Go.Proofs.YtgdemingopcgaaaDoor.Rows.laid_strconv_ErrRange) :: ("strconv.ErrSyntax", Go.Proofs.YtgdemingopcgaaaDoor.Rows.laid_strconv_ErrSyntax) :: r) W) : GL W :=
  ⟨tab_of h.tail.tail, syntax_of h.tail.tail.tail.tail, range_of h.tail.tail.tail⟩
end Go.Proofs.YtgdemingopcgaaaDoorX

namespace Go.Proofs
open Go.Shelf
def Tryd.lays169_ren : Go.Shelf.Ren := ⟨fun | 169 => 59 | n => n, fun | 70 => 83 | 9 => 9 | 0 => 0 | 72 => 86 | 37 => 84 | 127 => 97 | 3 => 3 | 5 => 5 | n => n, fun | n => n⟩
theorem Tryd.lays169 : Go.Proofs.Lays.n169 Tryd.prog Tryd.lays169_ren := {
  mixed := by kernel_rfl
  f169 := Tryd.func59.trans (congrArg some (by kernel_rfl))
  t0 := Tryd.underlying0
  a0 := Tryd.isAgg0
  z0 := Tryd.sizeOf0
  v0 := Tryd.zeroValue0
  t3 := Tryd.underlying3
  a3 := Tryd.isAgg3
  z3 := Tryd.sizeOf3
  v3 := Tryd.zeroValue3
  t9 := Tryd.underlying9
  a9 := Tryd.isAgg9
  z9 := Tryd.sizeOf9
  v9 := Tryd.zeroValue9
  t37 := Tryd.underlying84
  a37 := Tryd.isAgg84
  z37 := Tryd.sizeOf84
  v37 := Tryd.zeroValue84
  t70 := Tryd.underlying83
  a70 := Tryd.isAgg83
  z70 := Tryd.sizeOf83
  v70 := Tryd.zeroValue83
  t72 := Tryd.underlying86
  a72 := Tryd.isAgg86
  z72 := Tryd.sizeOf86
  v72 := Tryd.zeroValue86
  t127 := Tryd.underlying97
  a127 := Tryd.isAgg97
  z127 := Tryd.sizeOf97
  v127 := Tryd.zeroValue97 }
theorem Tryd.Builder_Extra_169 : Builder.Extra Tryd.prog Tryd.lays169_ren := {
  sizeBuilder := by kernel_rfl
  liesBuilder := by kernel_rfl
  t5 := Tryd.underlying5
  a5 := Tryd.isAgg5
  z5 := Tryd.sizeOf5
  v5 := Tryd.zeroValue5
  infoByte := by kernel_rfl
  cellsByte := by kernel_rfl
  sizeByte := by kernel_rfl
  neB5 := by decide }
def Tryd.lays137_ren : Go.Shelf.Ren := ⟨fun | 137 => 65 | 217 => 74 | 266 => 89 | n => n, fun | 9 => 9 | 5 => 5 | 3 => 3 | n => n, fun | n => n⟩
theorem Tryd.lays137 : Go.Proofs.Lays.n137 Tryd.prog Tryd.lays137_ren := {
  mixed := by kernel_rfl
  f137 := Tryd.func65.trans (congrArg some (by kernel_rfl))
  f217 := Tryd.func74.trans (congrArg some (by kernel_rfl))
  f266 := Tryd.func89.trans (congrArg some (by kernel_rfl))
  t3 := Tryd.underlying3
  a3 := Tryd.isAgg3
  z3 := Tryd.sizeOf3
  v3 := Tryd.zeroValue3
  t5 := Tryd.underlying5
  a5 := Tryd.isAgg5
  z5 := Tryd.sizeOf5
  v5 := Tryd.zeroValue5
  t9 := Tryd.underlying9
  a9 := Tryd.isAgg9
  z9 := Tryd.sizeOf9
  v9 := Tryd.zeroValue9 }
open Go.RowKit in
/-- strings.IndexByte: "IndexByte returns the index of the first instance of c in s, or -1 if c is not present in s.": IT RETURNS 'Lib.indexByte s c'; the world is as it was. (LAID: no walk: one application.) -/
theorem Tryd.strings_IndexByte (s : ByteArray) (c : Int) (w : World) :
    Calls Tryd.prog 65 #[.string s, .int .u8 c] w fun e w' => e = .returned (.int .i64 (Lib.indexByte s.data.toList c.toNat.toUInt8)) ∧ w' = w := Any.strings_IndexByte Tryd.lays137 s c w
open Go.RowKit in
/-- (*strings.Builder).String: "String returns the accumulated string.": WHATEVER THE BUILDER HOLDS; THE FORM '_f': OF A BUILDER THAT MAY HAVE BEEN READ BEFORE; AND IT IS A BUILDER STILL, holding the same bytes: it can be written on. (LAID: no walk: one application.) -/
theorem Tryd.Builder_String_any_f (B b : Nat) (l : List UInt8) (w : World) (h : Lib.IsBuilderF 86 5 B b (Lib.byteCells l) w) (hBw : B ≤ w.heap.size) :
    Calls Tryd.prog 59 #[.pointer (some ⟨b, 0, none⟩)] w fun e w' => e = .returned (.string ⟨l.toArray⟩) ∧ (Lib.IsBuilderF 86 5 B b (Lib.byteCells l) w' ∧ Below B w w') := Any.Builder_String_any_f Tryd.lays169 Tryd.Builder_Extra_169 B b l w h hBw
def Tryd.lays172_ren : Go.Shelf.Ren := ⟨fun | 172 => 61 | 244 => 71 | 245 => 72 | 247 => 80 | 279 => 81 | 280 => 82 | 281 => 83 | 282 => 84 | 287 => 91 | 316 => 92 | 171 => 53 | 205 => 93 | 321 => 99 | 322 => 100 | 243 => 63 | 246 => 73 | 283 => 85 | 284 => 86 | 285 => 87 | 286 => 88 | 129 => 95 | 317 => 94 | 318 => 96 | 319 => 97 | 320 => 98 | 337 => 101 | 338 => 102 | n => n, fun | 9 => 9 | 3 => 3 | 75 => 91 | 76 => 93 | 4 => 4 | 5 => 5 | 167 => 104 | 37 => 84 | 0 => 0 | 85 => 105 | 2 => 2 | 168 => 107 | 53 => 111 | 175 => 119 | 46 => 103 | 210 => 122 | 127 => 97 | 145 => 131 | 143 => 129 | 21 => 21 | 171 => 110 | 173 => 114 | 212 => 125 | 51 => 116 | 20 => 20 | 213 => 126 | 232 => 133 | 233 => 134 | 80 => 62 | n => n, fun | 15 => 2 | 16 => 3 | 17 => 4 | 18 => 5 | 19 => 6 | n => n⟩
theorem Tryd.lays172 : Go.Proofs.Lays.n172 Tryd.prog Tryd.lays172_ren := {
  mixed := by kernel_rfl
  f129 := Tryd.func95.trans (congrArg some (by kernel_rfl))
  f171 := Tryd.func53.trans (congrArg some (by kernel_rfl))
  f172 := Tryd.func61.trans (congrArg some (by kernel_rfl))
  f205 := Tryd.func93.trans (congrArg some (by kernel_rfl))
  f243 := Tryd.func63.trans (congrArg some (by kernel_rfl))
  f244 := Tryd.func71.trans (congrArg some (by kernel_rfl))
  f245 := Tryd.func72.trans (congrArg some (by kernel_rfl))
  f246 := Tryd.func73.trans (congrArg some (by kernel_rfl))
  f247 := Tryd.func80.trans (congrArg some (by kernel_rfl))
  f279 := Tryd.func81.trans (congrArg some (by kernel_rfl))
  f280 := Tryd.func82.trans (congrArg some (by kernel_rfl))
  f281 := Tryd.func83.trans (congrArg some (by kernel_rfl))
  f282 := Tryd.func84.trans (congrArg some (by kernel_rfl))
  f283 := Tryd.func85.trans (congrArg some (by kernel_rfl))
  f284 := Tryd.func86.trans (congrArg some (by kernel_rfl))
  f285 := Tryd.func87.trans (congrArg some (by kernel_rfl))
  f286 := Tryd.func88.trans (congrArg some (by kernel_rfl))
  f287 := Tryd.func91.trans (congrArg some (by kernel_rfl))
  f316 := Tryd.func92.trans (congrArg some (by kernel_rfl))
  f317 := Tryd.func94.trans (congrArg some (by kernel_rfl))
  f318 := Tryd.func96.trans (congrArg some (by kernel_rfl))
  f319 := Tryd.func97.trans (congrArg some (by kernel_rfl))
  f320 := Tryd.func98.trans (congrArg some (by kernel_rfl))
  f321 := Tryd.func99.trans (congrArg some (by kernel_rfl))
  f322 := Tryd.func100.trans (congrArg some (by kernel_rfl))
  f337 := Tryd.func101.trans (congrArg some (by kernel_rfl))
  f338 := Tryd.func102.trans (congrArg some (by kernel_rfl))
  t0 := Tryd.underlying0
  a0 := Tryd.isAgg0
  z0 := Tryd.sizeOf0
  v0 := Tryd.zeroValue0
  t2 := Tryd.underlying2
  a2 := Tryd.isAgg2
  z2 := Tryd.sizeOf2
  v2 := Tryd.zeroValue2
  t3 := Tryd.underlying3
  a3 := Tryd.isAgg3
  z3 := Tryd.sizeOf3
  v3 := Tryd.zeroValue3
  t4 := Tryd.underlying4
  a4 := Tryd.isAgg4
  z4 := Tryd.sizeOf4
  v4 := Tryd.zeroValue4
  t5 := Tryd.underlying5
  a5 := Tryd.isAgg5
  z5 := Tryd.sizeOf5
  v5 := Tryd.zeroValue5
  t9 := Tryd.underlying9
  a9 := Tryd.isAgg9
  z9 := Tryd.sizeOf9
  v9 := Tryd.zeroValue9
  t20 := Tryd.underlying20
  a20 := Tryd.isAgg20
  z20 := Tryd.sizeOf20
  v20 := Tryd.zeroValue20
  t21 := Tryd.underlying21
  a21 := Tryd.isAgg21
  z21 := Tryd.sizeOf21
  v21 := Tryd.zeroValue21
  t37 := Tryd.underlying84
  a37 := Tryd.isAgg84
  z37 := Tryd.sizeOf84
  v37 := Tryd.zeroValue84
  t46 := Tryd.underlying103
  a46 := Tryd.isAgg103
  z46 := Tryd.sizeOf103
  v46 := Tryd.zeroValue103
  t51 := Tryd.underlying116
  a51 := Tryd.isAgg116
  z51 := Tryd.sizeOf116
  v51 := Tryd.zeroValue116
  t53 := Tryd.underlying111
  a53 := Tryd.isAgg111
  z53 := Tryd.sizeOf111
  v53 := Tryd.zeroValue111
  t75 := Tryd.underlying91
  a75 := Tryd.isAgg91
  z75 := Tryd.sizeOf91
  v75 := Tryd.zeroValue91
  t76 := Tryd.underlying93
  a76 := Tryd.isAgg93
  z76 := Tryd.sizeOf93
  v76 := Tryd.zeroValue93
  t85 := Tryd.underlying105
  a85 := Tryd.isAgg105
  z85 := Tryd.sizeOf105
  v85 := Tryd.zeroValue105
  t127 := Tryd.underlying97
  a127 := Tryd.isAgg97
  z127 := Tryd.sizeOf97
  v127 := Tryd.zeroValue97
  t143 := Tryd.underlying129
  a143 := Tryd.isAgg129
  z143 := Tryd.sizeOf129
  v143 := Tryd.zeroValue129
  t145 := Tryd.underlying131
  a145 := Tryd.isAgg131
  z145 := Tryd.sizeOf131
  v145 := Tryd.zeroValue131
  t167 := Tryd.underlying104
  a167 := Tryd.isAgg104
  z167 := Tryd.sizeOf104
  v167 := Tryd.zeroValue104
  t168 := Tryd.underlying107
  a168 := Tryd.isAgg107
  z168 := Tryd.sizeOf107
  v168 := Tryd.zeroValue107
  t171 := Tryd.underlying110
  a171 := Tryd.isAgg110
  z171 := Tryd.sizeOf110
  v171 := Tryd.zeroValue110
  t173 := Tryd.underlying114
  a173 := Tryd.isAgg114
  z173 := Tryd.sizeOf114
  v173 := Tryd.zeroValue114
  t175 := Tryd.underlying119
  a175 := Tryd.isAgg119
  z175 := Tryd.sizeOf119
  v175 := Tryd.zeroValue119
  t210 := Tryd.underlying122
  a210 := Tryd.isAgg122
  z210 := Tryd.sizeOf122
  v210 := Tryd.zeroValue122
  t212 := Tryd.underlying125
  a212 := Tryd.isAgg125
  z212 := Tryd.sizeOf125
  v212 := Tryd.zeroValue125
  t213 := Tryd.underlying126
  a213 := Tryd.isAgg126
  z213 := Tryd.sizeOf126
  t232 := Tryd.underlying133
  a232 := Tryd.isAgg133
  z232 := Tryd.sizeOf133
  v232 := Tryd.zeroValue133
  t233 := Tryd.underlying134
  a233 := Tryd.isAgg134
  z233 := Tryd.sizeOf134
  v233 := Tryd.zeroValue134
  g15 := by kernel_rfl
  g16 := by kernel_rfl
  g17 := by kernel_rfl
  g18 := by kernel_rfl
  g19 := by kernel_rfl }
open Go.RowKit in
/-- strconv.Atoi: "Atoi is equivalent to ParseInt(s, 10, 0), converted to type int.": AT A DECIMAL NUMERAL OF AT MOST 18 BYTES: its value, and a nil error. The world behind the call: the one new row that the library's '[]byte(s)' lays. (LAID: no walk: one application.) -/
theorem Tryd.strconv_Atoi (s : ByteArray) (n : Int) (hl : s.size ≤ 18) (h : Lib.atoi s.data.toList = some n) (w : World) :
    Calls Tryd.prog 61 #[.string s] w fun e w' => e = .returned (.tuple #[.int .i64 n, .nilIface]) ∧ ∃ t, w' = Lib.bytesWorld w 5 t := Any.strconv_Atoi Tryd.lays172 s n hl h w
def Tryd.laysM171_ren : Go.Shelf.Ren := ⟨fun | 171 => 53 | 243 => 63 | 246 => 73 | 283 => 85 | 284 => 86 | 285 => 87 | 286 => 88 | 129 => 95 | 317 => 94 | 318 => 96 | 319 => 97 | 320 => 98 | 337 => 101 | 338 => 102 | n => n, fun | 3 => 3 | 9 => 9 | 2 => 2 | 4 => 4 | 171 => 110 | 0 => 0 | 53 => 111 | 37 => 84 | 5 => 5 | 173 => 114 | 212 => 125 | 51 => 116 | 20 => 20 | 213 => 126 | 46 => 103 | 232 => 133 | 233 => 134 | n => n, fun | 17 => 4 | 18 => 5 | 19 => 6 | n => n⟩
theorem Tryd.laysM171 : Go.Proofs.LaysM.n171 Tryd.prog Tryd.laysM171_ren := {
  mixed := by kernel_rfl
  f129 := Tryd.func95.trans (congrArg some (by kernel_rfl))
  f171 := Tryd.func53.trans (congrArg some (by kernel_rfl))
  f243 := Tryd.func63.trans (congrArg some (by kernel_rfl))
  f246 := Tryd.func73.trans (congrArg some (by kernel_rfl))
  f283 := Tryd.func85.trans (congrArg some (by kernel_rfl))
  f284 := Tryd.func86.trans (congrArg some (by kernel_rfl))
  f285 := Tryd.func87.trans (congrArg some (by kernel_rfl))
  f286 := Tryd.func88.trans (congrArg some (by kernel_rfl))
  f317 := Tryd.func94.trans (congrArg some (by kernel_rfl))
  f318 := Tryd.func96.trans (congrArg some (by kernel_rfl))
  f319 := Tryd.func97.trans (congrArg some (by kernel_rfl))
  f320 := Tryd.func98.trans (congrArg some (by kernel_rfl))
  f337 := Tryd.func101.trans (congrArg some (by kernel_rfl))
  f338 := Tryd.func102.trans (congrArg some (by kernel_rfl))
  t0 := Tryd.underlying0
  a0 := Tryd.isAgg0
  z0 := Tryd.sizeOf0
  v0 := Tryd.zeroValue0
  t2 := Tryd.underlying2
  a2 := Tryd.isAgg2
  z2 := Tryd.sizeOf2
  v2 := Tryd.zeroValue2
  t3 := Tryd.underlying3
  a3 := Tryd.isAgg3
  z3 := Tryd.sizeOf3
  v3 := Tryd.zeroValue3
  t4 := Tryd.underlying4
  a4 := Tryd.isAgg4
  z4 := Tryd.sizeOf4
  v4 := Tryd.zeroValue4
  t5 := Tryd.underlying5
  a5 := Tryd.isAgg5
  z5 := Tryd.sizeOf5
  v5 := Tryd.zeroValue5
  t9 := Tryd.underlying9
  a9 := Tryd.isAgg9
  z9 := Tryd.sizeOf9
  v9 := Tryd.zeroValue9
  t20 := Tryd.underlying20
  a20 := Tryd.isAgg20
  z20 := Tryd.sizeOf20
  v20 := Tryd.zeroValue20
  t37 := Tryd.underlying84
  a37 := Tryd.isAgg84
  z37 := Tryd.sizeOf84
  v37 := Tryd.zeroValue84
  t46 := Tryd.underlying103
  a46 := Tryd.isAgg103
  z46 := Tryd.sizeOf103
  v46 := Tryd.zeroValue103
  t51 := Tryd.underlying116
  a51 := Tryd.isAgg116
  z51 := Tryd.sizeOf116
  v51 := Tryd.zeroValue116
  t53 := Tryd.underlying111
  a53 := Tryd.isAgg111
  z53 := Tryd.sizeOf111
  v53 := Tryd.zeroValue111
  t171 := Tryd.underlying110
  a171 := Tryd.isAgg110
  z171 := Tryd.sizeOf110
  v171 := Tryd.zeroValue110
  t173 := Tryd.underlying114
  a173 := Tryd.isAgg114
  z173 := Tryd.sizeOf114
  v173 := Tryd.zeroValue114
  t212 := Tryd.underlying125
  a212 := Tryd.isAgg125
  z212 := Tryd.sizeOf125
  v212 := Tryd.zeroValue125
  t213 := Tryd.underlying126
  a213 := Tryd.isAgg126
  z213 := Tryd.sizeOf126
  t232 := Tryd.underlying133
  a232 := Tryd.isAgg133
  z232 := Tryd.sizeOf133
  v232 := Tryd.zeroValue133
  t233 := Tryd.underlying134
  a233 := Tryd.isAgg134
  z233 := Tryd.sizeOf134
  v233 := Tryd.zeroValue134
  g17 := by kernel_rfl
  g18 := by kernel_rfl
  g19 := by kernel_rfl
  i0 := by kernel_rfl
  i2 := by kernel_rfl
  i3 := by kernel_rfl
  i4 := by kernel_rfl
  i5 := by kernel_rfl
  i9 := by kernel_rfl
  i20 := by kernel_rfl
  i37 := by kernel_rfl
  i46 := by kernel_rfl
  i51 := by kernel_rfl
  i53 := by kernel_rfl
  i171 := by kernel_rfl
  i173 := by kernel_rfl
  i212 := by kernel_rfl
  i232 := by kernel_rfl
  i233 := by kernel_rfl
  m17 := by kernel_rfl
  m18 := by kernel_rfl
  m19 := by kernel_rfl }
open Go.RowKit Go.Sort Go.Lib in
/-- strconv.Itoa: "Itoa is equivalent to FormatInt(int64(i), 10).": i's DECIMAL NUMERAL ('Lib.itoa': a '-' where i is negative, then the digits), FOR EVERY int. The world behind the call: the world before it, new blocks behind the heap (the library's 'var a [24]byte'), draws. (LAID: no walk: one application.) -/
theorem Tryd.strconv_Itoa (n : Int) (h0 : -9223372036854775808 ≤ n) (h1 : n ≤ 9223372036854775807) (w : World) (htab : Lib.TabIs Tryd.prog w "internal/strconv.uint64pow10" .u64 Lib.pow10Tab) :
    Calls Tryd.prog 53 #[.int .i64 n] w fun e w' => e = .returned (.string ⟨(Lib.itoa n).toArray⟩) ∧ ∃ k os, w' = grow (w.drewN k) os := Any.strconv_Itoa Tryd.laysM171 n h0 h1 w htab
def Tryd.laysC172_ren : Go.Shelf.Ren := ⟨fun | 172 => 61 | 244 => 71 | 245 => 72 | 247 => 80 | 279 => 81 | 280 => 82 | 281 => 83 | 282 => 84 | 287 => 91 | 316 => 92 | 171 => 53 | 205 => 93 | 321 => 99 | 322 => 100 | 243 => 63 | 246 => 73 | 283 => 85 | 284 => 86 | 285 => 87 | 286 => 88 | 129 => 95 | 317 => 94 | 318 => 96 | 319 => 97 | 320 => 98 | 337 => 101 | 338 => 102 | n => n, fun | 9 => 9 | 3 => 3 | 75 => 91 | 76 => 93 | 4 => 4 | 5 => 5 | 167 => 104 | 37 => 84 | 0 => 0 | 85 => 105 | 2 => 2 | 168 => 107 | 53 => 111 | 175 => 119 | 46 => 103 | 210 => 122 | 127 => 97 | 145 => 131 | 143 => 129 | 21 => 21 | 171 => 110 | 173 => 114 | 212 => 125 | 51 => 116 | 20 => 20 | 213 => 126 | 232 => 133 | 233 => 134 | 80 => 62 | n => n, fun | 15 => 2 | 16 => 3 | 17 => 4 | 18 => 5 | 19 => 6 | n => n⟩
theorem Tryd.laysC172 : Go.Proofs.LaysC.n172 Tryd.prog Tryd.laysC172_ren := {
  mixed := by kernel_rfl
  f129 := Tryd.func95.trans (congrArg some (by kernel_rfl))
  f171 := Tryd.func53.trans (congrArg some (by kernel_rfl))
  f172 := Tryd.func61.trans (congrArg some (by kernel_rfl))
  f205 := Tryd.func93.trans (congrArg some (by kernel_rfl))
  f243 := Tryd.func63.trans (congrArg some (by kernel_rfl))
  f244 := Tryd.func71.trans (congrArg some (by kernel_rfl))
  f245 := Tryd.func72.trans (congrArg some (by kernel_rfl))
  f246 := Tryd.func73.trans (congrArg some (by kernel_rfl))
  f247 := Tryd.func80.trans (congrArg some (by kernel_rfl))
  f279 := Tryd.func81.trans (congrArg some (by kernel_rfl))
  f280 := Tryd.func82.trans (congrArg some (by kernel_rfl))
  f281 := Tryd.func83.trans (congrArg some (by kernel_rfl))
  f282 := Tryd.func84.trans (congrArg some (by kernel_rfl))
  f283 := Tryd.func85.trans (congrArg some (by kernel_rfl))
  f284 := Tryd.func86.trans (congrArg some (by kernel_rfl))
  f285 := Tryd.func87.trans (congrArg some (by kernel_rfl))
  f286 := Tryd.func88.trans (congrArg some (by kernel_rfl))
  f287 := Tryd.func91.trans (congrArg some (by kernel_rfl))
  f316 := Tryd.func92.trans (congrArg some (by kernel_rfl))
  f317 := Tryd.func94.trans (congrArg some (by kernel_rfl))
  f318 := Tryd.func96.trans (congrArg some (by kernel_rfl))
  f319 := Tryd.func97.trans (congrArg some (by kernel_rfl))
  f320 := Tryd.func98.trans (congrArg some (by kernel_rfl))
  f321 := Tryd.func99.trans (congrArg some (by kernel_rfl))
  f322 := Tryd.func100.trans (congrArg some (by kernel_rfl))
  f337 := Tryd.func101.trans (congrArg some (by kernel_rfl))
  f338 := Tryd.func102.trans (congrArg some (by kernel_rfl))
  t0 := Tryd.underlying0
  a0 := Tryd.isAgg0
  z0 := Tryd.sizeOf0
  v0 := Tryd.zeroValue0
  t2 := Tryd.underlying2
  a2 := Tryd.isAgg2
  z2 := Tryd.sizeOf2
  v2 := Tryd.zeroValue2
  t3 := Tryd.underlying3
  a3 := Tryd.isAgg3
  z3 := Tryd.sizeOf3
  v3 := Tryd.zeroValue3
  t4 := Tryd.underlying4
  a4 := Tryd.isAgg4
  z4 := Tryd.sizeOf4
  v4 := Tryd.zeroValue4
  t5 := Tryd.underlying5
  a5 := Tryd.isAgg5
  z5 := Tryd.sizeOf5
  v5 := Tryd.zeroValue5
  t9 := Tryd.underlying9
  a9 := Tryd.isAgg9
  z9 := Tryd.sizeOf9
  v9 := Tryd.zeroValue9
  t20 := Tryd.underlying20
  a20 := Tryd.isAgg20
  z20 := Tryd.sizeOf20
  v20 := Tryd.zeroValue20
  t21 := Tryd.underlying21
  a21 := Tryd.isAgg21
  z21 := Tryd.sizeOf21
  v21 := Tryd.zeroValue21
  t37 := Tryd.underlying84
  a37 := Tryd.isAgg84
  z37 := Tryd.sizeOf84
  v37 := Tryd.zeroValue84
  t46 := Tryd.underlying103
  a46 := Tryd.isAgg103
  z46 := Tryd.sizeOf103
  v46 := Tryd.zeroValue103
  t51 := Tryd.underlying116
  a51 := Tryd.isAgg116
  z51 := Tryd.sizeOf116
  v51 := Tryd.zeroValue116
  t53 := Tryd.underlying111
  a53 := Tryd.isAgg111
  z53 := Tryd.sizeOf111
  v53 := Tryd.zeroValue111
  t75 := Tryd.underlying91
  a75 := Tryd.isAgg91
  z75 := Tryd.sizeOf91
  v75 := Tryd.zeroValue91
  t76 := Tryd.underlying93
  a76 := Tryd.isAgg93
  z76 := Tryd.sizeOf93
  v76 := Tryd.zeroValue93
  t85 := Tryd.underlying105
  a85 := Tryd.isAgg105
  z85 := Tryd.sizeOf105
  v85 := Tryd.zeroValue105
  t127 := Tryd.underlying97
  a127 := Tryd.isAgg97
  z127 := Tryd.sizeOf97
  v127 := Tryd.zeroValue97
  t143 := Tryd.underlying129
  a143 := Tryd.isAgg129
  z143 := Tryd.sizeOf129
  v143 := Tryd.zeroValue129
  t145 := Tryd.underlying131
  a145 := Tryd.isAgg131
  z145 := Tryd.sizeOf131
  v145 := Tryd.zeroValue131
  t167 := Tryd.underlying104
  a167 := Tryd.isAgg104
  z167 := Tryd.sizeOf104
  v167 := Tryd.zeroValue104
  t168 := Tryd.underlying107
  a168 := Tryd.isAgg107
  z168 := Tryd.sizeOf107
  v168 := Tryd.zeroValue107
  t171 := Tryd.underlying110
  a171 := Tryd.isAgg110
  z171 := Tryd.sizeOf110
  v171 := Tryd.zeroValue110
  t173 := Tryd.underlying114
  a173 := Tryd.isAgg114
  z173 := Tryd.sizeOf114
  v173 := Tryd.zeroValue114
  t175 := Tryd.underlying119
  a175 := Tryd.isAgg119
  z175 := Tryd.sizeOf119
  v175 := Tryd.zeroValue119
  t210 := Tryd.underlying122
  a210 := Tryd.isAgg122
  z210 := Tryd.sizeOf122
  v210 := Tryd.zeroValue122
  t212 := Tryd.underlying125
  a212 := Tryd.isAgg125
  z212 := Tryd.sizeOf125
  v212 := Tryd.zeroValue125
  t213 := Tryd.underlying126
  a213 := Tryd.isAgg126
  z213 := Tryd.sizeOf126
  t232 := Tryd.underlying133
  a232 := Tryd.isAgg133
  z232 := Tryd.sizeOf133
  v232 := Tryd.zeroValue133
  t233 := Tryd.underlying134
  a233 := Tryd.isAgg134
  z233 := Tryd.sizeOf134
  v233 := Tryd.zeroValue134
  g15 := by kernel_rfl
  g16 := by kernel_rfl
  g17 := by kernel_rfl
  g18 := by kernel_rfl
  g19 := by kernel_rfl
  t80 := Tryd.underlying62
  a80 := Tryd.isAgg62
  z80 := Tryd.sizeOf62
  v80 := Tryd.zeroValue62
  i0 := by kernel_rfl
  i2 := by kernel_rfl
  i3 := by kernel_rfl
  i4 := by kernel_rfl
  i5 := by kernel_rfl
  i9 := by kernel_rfl
  i20 := by kernel_rfl
  i21 := by kernel_rfl
  i37 := by kernel_rfl
  i46 := by kernel_rfl
  i51 := by kernel_rfl
  i53 := by kernel_rfl
  i75 := by kernel_rfl
  i76 := by kernel_rfl
  i80 := by kernel_rfl
  i85 := by kernel_rfl
  i127 := by kernel_rfl
  i143 := by kernel_rfl
  i145 := by kernel_rfl
  i167 := by kernel_rfl
  i168 := by kernel_rfl
  i171 := by kernel_rfl
  i173 := by kernel_rfl
  i175 := by kernel_rfl
  i210 := by kernel_rfl
  i212 := by kernel_rfl
  i232 := by kernel_rfl
  i233 := by kernel_rfl
  m15 := by kernel_rfl
  m16 := by kernel_rfl
  m17 := by kernel_rfl
  m18 := by kernel_rfl
  m19 := by kernel_rfl
  c0 := by kernel_rfl
  c2 := by kernel_rfl
  c3 := by kernel_rfl
  c4 := by kernel_rfl
  c5 := by kernel_rfl
  c9 := by kernel_rfl
  c20 := by kernel_rfl
  c21 := by kernel_rfl
  c37 := by kernel_rfl
  c46 := by kernel_rfl
  c51 := by kernel_rfl
  c53 := by kernel_rfl
  c75 := by kernel_rfl
  c76 := by kernel_rfl
  c80 := by kernel_rfl
  c85 := by kernel_rfl
  c127 := by kernel_rfl
  c143 := by kernel_rfl
  c145 := by kernel_rfl
  c167 := by kernel_rfl
  c168 := by kernel_rfl
  c171 := by kernel_rfl
  c173 := by kernel_rfl
  c175 := by kernel_rfl
  c210 := by kernel_rfl
  c212 := by kernel_rfl
  c213 := by kernel_rfl
  c232 := by kernel_rfl
  c233 := by kernel_rfl }
open Go.RowKit in
/-- strconv.Atoi, AT EVERY STRING THAT SPELLS AN int ('Lib.atoiAll .. = .ok v'; of whatever length: leading zeros count): v, AND NO ERROR. The world: as it was, or with the one new row that '[]byte(..)' lays. (LAID: no walk: one application.) -/
theorem Tryd.strconv_Atoi_ok (s : ByteArray) (hmax : s.size ≤ 9223372036854775806) (v : Int) (h : Lib.atoiAll s.data.toList = .ok v) (w : World) :
    Calls Tryd.prog 61 #[.string s] w fun e w' => e = .returned (.tuple #[.int .i64 v, .nilIface]) ∧ (w' = w ∨ ∃ t, w' = Lib.bytesWorld w 5 t) := Any.strconv_Atoi_ok Tryd.laysC172 s hmax v h w
open Go.RowKit in
theorem Tryd.strconv_Atoi_syntax_var (s : ByteArray) (hlim : s.size ≤ 281474976710656) (h : Lib.atoiAll s.data.toList = Lib.atoiAll []) (tp : TypeId) (p : Value) (w : World) (hvar : w.var? Tryd.prog "strconv.ErrSyntax" = some #[.iface tp p]) :
    Calls Tryd.prog 61 #[.string s] w fun e w' => ∃ N, e = .returned (.tuple #[.int .i64 0, .iface 107 (.pointer (some ⟨N, 0, none⟩))]) ∧ w.heap.size ≤ N ∧ w'.heap[N]? = some (.cells #[.string ⟨#[65, 116, 111, 105]⟩, .string s, .iface tp p] 122 (0, 0)) ∧ Below w.heap.size w w' := Any.strconv_Atoi_syntax_var Tryd.laysC172 s hlim h tp p w hvar
open Go.RowKit in
theorem Tryd.strconv_Atoi_range_var (s : ByteArray) (hlim : s.size ≤ 281474976710656) (h : Lib.atoiAll s.data.toList = .range) (tp : TypeId) (p : Value) (w : World) (hvar : w.var? Tryd.prog "strconv.ErrRange" = some #[.iface tp p]) :
    Calls Tryd.prog 61 #[.string s] w fun e w' => ∃ N, e = .returned (.tuple #[.int .i64 (Lib.atoiSat s.data.toList), .iface 107 (.pointer (some ⟨N, 0, none⟩))]) ∧ w.heap.size ≤ N ∧ w'.heap[N]? = some (.cells #[.string ⟨#[65, 116, 111, 105]⟩, .string s, .iface tp p] 122 (0, 0)) ∧ Below w.heap.size w w' := Any.strconv_Atoi_range_var Tryd.laysC172 s hlim h tp p w hvar
def Tryd.lays217_ren : Go.Shelf.Ren := ⟨fun | 217 => 74 | 266 => 89 | n => n, fun | 9 => 9 | 5 => 5 | 3 => 3 | n => n, fun | n => n⟩
theorem Tryd.lays217 : Go.Proofs.Lays.n217 Tryd.prog Tryd.lays217_ren := {
  mixed := by kernel_rfl
  f217 := Tryd.func74.trans (congrArg some (by kernel_rfl))
  f266 := Tryd.func89.trans (congrArg some (by kernel_rfl))
  t3 := Tryd.underlying3
  a3 := Tryd.isAgg3
  z3 := Tryd.sizeOf3
  v3 := Tryd.zeroValue3
  t5 := Tryd.underlying5
  a5 := Tryd.isAgg5
  z5 := Tryd.sizeOf5
  v5 := Tryd.zeroValue5
  t9 := Tryd.underlying9
  a9 := Tryd.isAgg9
  z9 := Tryd.sizeOf9
  v9 := Tryd.zeroValue9 }
open Go.RowKit Go.Lib in
/-- internal/stringslite.IndexByte (what strings.IndexByte calls): IT RETURNS 'Lib.indexByte s c'; the world is as it was. (LAID: no walk: one application.) -/
theorem Tryd.stringslite_IndexByte (s : ByteArray) (c : Int) (w : World) :
    Calls Tryd.prog 74 #[.string s, .int .u8 c] w fun e w' => e = .returned (.int .i64 (Lib.indexByte s.data.toList c.toNat.toUInt8)) ∧ w' = w := Any.stringslite_IndexByte Tryd.lays217 s c w
def Tryd.lays206_ren : Go.Shelf.Ren := ⟨fun | 206 => 75 | n => n, fun | 9 => 9 | 4 => 4 | 3 => 3 | n => n, fun | n => n⟩
theorem Tryd.lays206 : Go.Proofs.Lays.n206 Tryd.prog Tryd.lays206_ren := {
  mixed := by kernel_rfl
  f206 := Tryd.func75.trans (congrArg some (by kernel_rfl))
  t3 := Tryd.underlying3
  a3 := Tryd.isAgg3
  z3 := Tryd.sizeOf3
  v3 := Tryd.zeroValue3
  t4 := Tryd.underlying4
  a4 := Tryd.isAgg4
  z4 := Tryd.sizeOf4
  v4 := Tryd.zeroValue4
  t9 := Tryd.underlying9
  a9 := Tryd.isAgg9
  z9 := Tryd.sizeOf9
  v9 := Tryd.zeroValue9 }
open Go.RowKit Go.Lib in
/-- internal/stringslite.HasPrefix (what strings.HasPrefix calls). (LAID: no walk: one application.) -/
theorem Tryd.stringslite_HasPrefix (s p : ByteArray) (w : World) :
    Calls Tryd.prog 75 #[.string s, .string p] w fun e w' => e = .returned (.bool (Lib.hasPrefix s.data.toList p.data.toList)) ∧ w' = w := Any.stringslite_HasPrefix Tryd.lays206 s p w
def Tryd.lays99_ren : Go.Shelf.Ren := ⟨fun | 99 => 67 | 206 => 75 | n => n, fun | 9 => 9 | 4 => 4 | 3 => 3 | n => n, fun | n => n⟩
theorem Tryd.lays99 : Go.Proofs.Lays.n99 Tryd.prog Tryd.lays99_ren := {
  mixed := by kernel_rfl
  f99 := Tryd.func67.trans (congrArg some (by kernel_rfl))
  f206 := Tryd.func75.trans (congrArg some (by kernel_rfl))
  t3 := Tryd.underlying3
  a3 := Tryd.isAgg3
  z3 := Tryd.sizeOf3
  v3 := Tryd.zeroValue3
  t4 := Tryd.underlying4
  a4 := Tryd.isAgg4
  z4 := Tryd.sizeOf4
  v4 := Tryd.zeroValue4
  t9 := Tryd.underlying9
  a9 := Tryd.isAgg9
  z9 := Tryd.sizeOf9
  v9 := Tryd.zeroValue9 }
open Go.RowKit Go.Lib in
/-- strings.HasPrefix: "HasPrefix reports whether the string s begins with prefix.": IT RETURNS 'Lib.hasPrefix s prefix'; the world is as it was. (LAID: no walk: one application.) -/
theorem Tryd.strings_HasPrefix (s p : ByteArray) (w : World) :
    Calls Tryd.prog 67 #[.string s, .string p] w fun e w' => e = .returned (.bool (Lib.hasPrefix s.data.toList p.data.toList)) ∧ w' = w := Any.strings_HasPrefix Tryd.lays99 s p w
end Go.Proofs

namespace Go.Proofs.YtgdemingopcgaaaDoorE
open Go Go.RowKit Go.Proofs.YtgdemingopcgaaaDoorW.PrintWords Go.Proofs.YtgdemingopcgaaaDoorX
set_option linter.unusedVariables false
def strconv_Itoa.f (a0 : Int) : Option ByteArray := if -9223372036854775808 ≤ a0 ∧ a0 ≤ 9223372036854775807 then some ⟨(Lib.itoa a0).toArray⟩ else none
theorem strconv_Itoa.calls (a0 : Int) (r : ByteArray) (w : World) (hgl : GL w) (h : strconv_Itoa.f a0 = some r) :
    Calls Tryd.prog 53 #[.int .i64 a0] w fun e w' => e = .returned (.string r) ∧ Below w.heap.size w w' := by
  unfold strconv_Itoa.f at h
  by_cases hr : -9223372036854775808 ≤ a0 ∧ a0 ≤ 9223372036854775807
  · rw [if_pos hr] at h
    cases h
    refine (Tryd.strconv_Itoa a0 hr.1 hr.2 w (by first | exact hgl | exact hgl.1)).mono ?_
    rintro e w' ⟨he, k, os, rfl⟩
    exact ⟨he, below_grow w k os⟩
  · rw [if_neg hr] at h; cases h
def strings_IndexByte.f (a0 : ByteArray) (a1 : Int) : Option Int := some (Lib.indexByte a0.data.toList a1.toNat.toUInt8)
theorem strings_IndexByte.calls (a0 : ByteArray) (a1 : Int) (r : Int) (w : World) (hgl : GL w) (h : strings_IndexByte.f a0 a1 = some r) :
    Calls Tryd.prog 65 #[.string a0, .int .u8 a1] w fun e w' => e = .returned (.int .i64 r) ∧ Drawn0 w w' := by
  cases h
  refine (Tryd.strings_IndexByte a0 a1 w).mono ?_
  rintro e w' ⟨he, rfl⟩
  exact ⟨he, Drawn0.refl _⟩
theorem toList_data (s : ByteArray) : s.toList = s.data.toList := ByteArray.toList_eq s
/-- What chars.Whole answers. -/
def wholeS (l : List UInt8) : Int × Bool := match Lib.atoiAll l with
  | .ok n => if Lib.itoa n = l then (n, true) else (0, false)
  | _ => (0, false)
def chars_Whole.f (a0 : ByteArray) : Option (Int × Bool) := if a0.size ≤ 281474976710656 then some (wholeS a0.data.toList) else none
theorem atoi_range {l : List UInt8} {n : Int} (h : Lib.atoiAll l = .ok n) : -9223372036854775808 ≤ n ∧ n ≤ 9223372036854775807 := by
  unfold Lib.atoiAll at h
  split at h
  · cases h
  · simp only at h
    split at h
    · cases h
    · cases h
    · split at h
      · cases h
      · split at h
        · cases h
        · rename_i h1 h2
          injection h with h
          rw [← h]
          split
          · rename_i hn
            have : ¬ 9223372036854775808 < _ := fun hc => h2 ⟨hn, hc⟩
            omega
          · rename_i hn
            have : ¬ 9223372036854775808 ≤ _ := fun hc => h1 ⟨hn, hc⟩
            omega
theorem chars_Whole.calls (a0 : ByteArray) (r1 : Int) (r2 : Bool) (w : World) (hgl : GL w) (h : chars_Whole.f a0 = some (r1, r2)) :
    Calls Tryd.prog 48 #[.string a0] w fun e w' => e = .returned (.tuple #[.int .i64 r1, .bool r2]) ∧ Below w.heap.size w w' := by
  have HGL := Aside0.mk hgl
  unfold chars_Whole.f at h
  by_cases hs : a0.size ≤ 281474976710656
  rotate_left
  · rw [if_neg hs] at h; cases h
  rw [if_pos hs] at h
  have hsA := Aside0.mk hs
  clear hs hgl
  injection h with h
  cases ha : Lib.atoiAll a0.data.toList with
  | ok n =>
    have hn := atoi_range ha
    have HA := Aside0.mk ha
    unfold wholeS at h
    rw [ha] at h
    clear ha
    simp only at h
    have atoi : ∀ W, Calls Tryd.prog 61 #[.string a0] W fun e w' => e = .returned (.tuple #[.int .i64 n, .nilIface]) ∧ Below W.heap.size W w' := fun W => by
      refine (Tryd.strconv_Atoi_ok a0 (by have := hsA.out; omega) n HA.out W).mono ?_
      rintro e w' ⟨he, rfl | ⟨t, rfl⟩⟩
      · exact ⟨he, Below.refl _ _⟩
      · exact ⟨he, bytes_below (Below.refl _ _) (Nat.le_refl _) _ _⟩
    have itoa : ∀ W, GL W → Calls Tryd.prog 53 #[.int .i64 n] W fun e w' => e = .returned (.string ⟨(Lib.itoa n).toArray⟩) ∧ Below W.heap.size W w' := fun W hW =>
      strconv_Itoa.calls n _ W hW (by unfold strconv_Itoa.f; rw [if_pos hn])
    by_cases he : Lib.itoa n = a0.data.toList
    · rw [if_pos he] at h
      injection h with h1 h2
      subst h1; subst h2
      have hb0 : (!(Lib.itoa n == a0.toList)) = false := by rw [toList_data, he]; simp
      clear he
      go_enter Tryd.func48, Tryd.ntmps48
      go_wp2_with fail
      refine (atoi _).mono ?_
      rintro e w1 ⟨rfl, hb⟩
      have HB := Aside0.mk hb; clear hb
      go_wp2_with fail
      refine (itoa _ (HGL.out.below HB.out)).mono ?_
      rintro e w2 ⟨rfl, hb⟩
      have HB2 := Aside0.mk (below_step HB.out hb); clear hb
      go_wp2_with fail
      go_ret2
      exact ⟨rfl, HB2.out⟩
    · rw [if_neg he] at h
      injection h with h1 h2
      subst h1; subst h2
      have hb0 : (!(Lib.itoa n == a0.toList)) = true := by rw [toList_data]; simpa using he
      clear he
      go_enter Tryd.func48, Tryd.ntmps48
      go_wp2_with fail
      refine (atoi _).mono ?_
      rintro e w1 ⟨rfl, hb⟩
      have HB := Aside0.mk hb; clear hb
      go_wp2_with fail
      refine (itoa _ (HGL.out.below HB.out)).mono ?_
      rintro e w2 ⟨rfl, hb⟩
      have HB2 := Aside0.mk (below_step HB.out hb); clear hb
      go_wp2_with fail
      go_ret2
      exact ⟨rfl, HB2.out⟩
  | range =>
    have HA := Aside0.mk ha
    unfold wholeS at h
    rw [ha] at h
    clear ha
    injection h with h1 h2
    subst h1; subst h2
    have atoi : ∀ W, GL W → Calls Tryd.prog 61 #[.string a0] W fun e w' => ∃ N, ∃ v : Int, e = .returned (.tuple #[.int .i64 v, .iface 107 (.pointer (some ⟨N, 0, none⟩))]) ∧ Below W.heap.size W w' := fun W hW => by
      obtain ⟨_, _, ⟨tp, p, hv⟩⟩ := hW
      refine (Tryd.strconv_Atoi_range_var a0 hsA.out HA.out tp p W hv).mono ?_
      rintro e w' ⟨N, he, _, _, hb⟩
      exact ⟨N, _, he, hb⟩
    go_enter Tryd.func48, Tryd.ntmps48
    go_wp2_with fail
    refine (atoi _ HGL.out).mono ?_
    rintro e w1 ⟨N, v, rfl, hb⟩
    have HB := Aside0.mk hb; clear hb
    go_wp2_with fail
    go_ret2
    exact ⟨rfl, HB.out⟩
  | _ =>
    have HA := Aside0.mk ha
    unfold wholeS at h
    rw [ha] at h
    clear ha
    injection h with h1 h2
    subst h1; subst h2
    have atoi : ∀ W, GL W → Calls Tryd.prog 61 #[.string a0] W fun e w' => ∃ N, e = .returned (.tuple #[.int .i64 0, .iface 107 (.pointer (some ⟨N, 0, none⟩))]) ∧ Below W.heap.size W w' := fun W hW => by
      obtain ⟨_, ⟨tp, p, hv⟩, _⟩ := hW
      refine (Tryd.strconv_Atoi_syntax_var a0 hsA.out HA.out tp p W hv).mono ?_
      rintro e w' ⟨N, he, _, _, hb⟩
      exact ⟨N, he, hb⟩
    go_enter Tryd.func48, Tryd.ntmps48
    go_wp2_with fail
    refine (atoi _ HGL.out).mono ?_
    rintro e w1 ⟨N, rfl, hb⟩
    have HB := Aside0.mk hb; clear hb
    go_wp2_with fail
    go_ret2
    exact ⟨rfl, HB.out⟩
theorem emp_bne (l : List UInt8) : l.isEmpty = !(l != []) := by cases l <;> rfl
theorem emp_bne' (l : List UInt8) : (!l.isEmpty) = (l != []) := by cases l <;> rfl
end Go.Proofs.YtgdemingopcgaaaDoorE

namespace Go.Proofs.YtgdemingopcgaaaDoor.P26
open Go.RowKit Go.Proofs.YtgdemingopcgaaaDoorE Go.Proofs.YtgdemingopcgaaaDoorW.PrintWords Go.Proofs.YtgdemingopcgaaaDoorW.PrintLast Go.Proofs.YtgdemingopcgaaaDoorW.PrintMore
attribute [local go_sem] max2_int min2_int max_two min_two max_three min_three max_four min_four   -- for this text's walks alone
set_option linter.unusedVariables false
set_option linter.unusedSimpArgs false

def errW : Option Int → Value
  | none => .nilIface
  | some c => .iface 0 (.int .i64 c)
theorem errW_none : errW none = .nilIface := rfl
theorem errW_some (c : Int) : errW (some c) = .iface 0 (.int .i64 c) := rfl

structure S51 where
  f0 : ByteArray
  f1 : ByteArray
def z51 : S51 := ⟨(⟨#[]⟩ : ByteArray), (⟨#[]⟩ : ByteArray)⟩
def k51 : Kd S51 := Kd.iso (Kd.pair Kd.string Kd.string) (fun x : S51 => (x.f0, x.f1))
theorem k51_open {w : World} {x : S51} {cs : List Value} (h : k51.K w x cs) : cs = [.string x.f0, .string x.f1] := by
  obtain ⟨_, _, rfl, rfl, rfl⟩ := h
  exact rfl
theorem k51_mk (w : World) (x : S51)  : k51.K w x [.string x.f0, .string x.f1] := ⟨[.string x.f0], [.string x.f1], rfl, rfl, rfl⟩
theorem k51_mkM (w : World) (base : Nat) (ok : Nat → Prop) (x : S51)  : k51.M w base ok x [.string x.f0, .string x.f1] := ⟨[.string x.f0], [.string x.f1], rfl, rfl, rfl⟩
def rd_T51 (xs : List S51) (i : Int) : S51 := xs.getD i.toNat z51
theorem at_T51 {w : World} {A : Option Addr} {n : Nat} {xs : List S51} (h : Kd.C k51 w A n xs) (i : Int) (h0 : 0 ≤ i) (h1 : i < n) : ∃ ad , A = some ad ∧ w.cell? (ad.add (i.toNat * 2)) = some (.string (rd_T51 xs i).f0) ∧ w.cell? ⟨(ad.add (i.toNat * 2)).block, (ad.add (i.toNat * 2)).off + 1, none⟩ = some (.string (rd_T51 xs i).f1) := by
  obtain ⟨ad, c, e, _, hK, hc0⟩ := Kd.C_get h z51 i h0 h1
  have hc : ∀ j u, c[j]? = some u → w.cell? (ad.add (i.toNat * 2 + j)) = some u := hc0
  obtain rfl := k51_open hK
  exact ⟨ad, e, hc 0 _ rfl, by rw [← add_field _ _ 1 (by omega)]; exact hc 1 _ rfl⟩

structure S24 where
  f0 : Int
  f1 : Int
  f2 : Int
  f3 : Int
  f4 : ByteArray
  f5 : ByteArray
  f6 : ByteArray
  f7 : ByteArray
  f8 : (List S51)
def z24 : S24 := ⟨(0 : Int), (0 : Int), (0 : Int), (0 : Int), (⟨#[]⟩ : ByteArray), (⟨#[]⟩ : ByteArray), (⟨#[]⟩ : ByteArray), (⟨#[]⟩ : ByteArray), ([] : List S51)⟩
def k24 : Kd S24 := Kd.iso (Kd.pair (Kd.int .i64) (Kd.pair (Kd.int .i64) (Kd.pair (Kd.int .i64) (Kd.pair (Kd.int .i64) (Kd.pair Kd.string (Kd.pair Kd.string (Kd.pair Kd.string (Kd.pair Kd.string (Kd.slice 51 k51))))))))) (fun x : S24 => (x.f0, x.f1, x.f2, x.f3, x.f4, x.f5, x.f6, x.f7, x.f8))
theorem k24_open {w : World} {x : S24} {cs : List Value} (h : k24.K w x cs) : ∃ A8 c8, cs = [.int .i64 x.f0, .int .i64 x.f1, .int .i64 x.f2, .int .i64 x.f3, .string x.f4, .string x.f5, .string x.f6, .string x.f7, .slice A8 x.f8.length c8] ∧ x.f8.length ≤ c8 ∧ k51.C w A8 x.f8.length x.f8 := by
  obtain ⟨_, _, rfl, rfl, ⟨_, _, rfl, rfl, ⟨_, _, rfl, rfl, ⟨_, _, rfl, rfl, ⟨_, _, rfl, rfl, ⟨_, _, rfl, rfl, ⟨_, _, rfl, rfl, ⟨_, _, rfl, rfl, ⟨A8, c8, rfl, l8, g8⟩⟩⟩⟩⟩⟩⟩⟩⟩ := h
  exact ⟨A8, c8, rfl, l8, g8⟩
theorem k24_mk (w : World) (x : S24) {A8 : Option Addr} {c8 : Nat} (l8 : x.f8.length ≤ c8) (g8 : k51.C w A8 x.f8.length x.f8) : k24.K w x [.int .i64 x.f0, .int .i64 x.f1, .int .i64 x.f2, .int .i64 x.f3, .string x.f4, .string x.f5, .string x.f6, .string x.f7, .slice A8 x.f8.length c8] := ⟨[.int .i64 x.f0], [.int .i64 x.f1, .int .i64 x.f2, .int .i64 x.f3, .string x.f4, .string x.f5, .string x.f6, .string x.f7, .slice A8 x.f8.length c8], rfl, rfl, ⟨[.int .i64 x.f1], [.int .i64 x.f2, .int .i64 x.f3, .string x.f4, .string x.f5, .string x.f6, .string x.f7, .slice A8 x.f8.length c8], rfl, rfl, ⟨[.int .i64 x.f2], [.int .i64 x.f3, .string x.f4, .string x.f5, .string x.f6, .string x.f7, .slice A8 x.f8.length c8], rfl, rfl, ⟨[.int .i64 x.f3], [.string x.f4, .string x.f5, .string x.f6, .string x.f7, .slice A8 x.f8.length c8], rfl, rfl, ⟨[.string x.f4], [.string x.f5, .string x.f6, .string x.f7, .slice A8 x.f8.length c8], rfl, rfl, ⟨[.string x.f5], [.string x.f6, .string x.f7, .slice A8 x.f8.length c8], rfl, rfl, ⟨[.string x.f6], [.string x.f7, .slice A8 x.f8.length c8], rfl, rfl, ⟨[.string x.f7], [.slice A8 x.f8.length c8], rfl, rfl, ⟨A8, c8, rfl, l8, g8⟩⟩⟩⟩⟩⟩⟩⟩⟩
def rd_T24 (xs : List S24) (i : Int) : S24 := xs.getD i.toNat z24
theorem at_T24 {w : World} {A : Option Addr} {n : Nat} {xs : List S24} (h : Kd.C k24 w A n xs) (i : Int) (h0 : 0 ≤ i) (h1 : i < n) : ∃ ad A8 c8, A = some ad ∧ w.cell? (ad.add (i.toNat * 9)) = some (.int .i64 (rd_T24 xs i).f0) ∧ w.cell? ⟨(ad.add (i.toNat * 9)).block, (ad.add (i.toNat * 9)).off + 1, none⟩ = some (.int .i64 (rd_T24 xs i).f1) ∧ w.cell? ⟨(ad.add (i.toNat * 9)).block, (ad.add (i.toNat * 9)).off + 2, none⟩ = some (.int .i64 (rd_T24 xs i).f2) ∧ w.cell? ⟨(ad.add (i.toNat * 9)).block, (ad.add (i.toNat * 9)).off + 3, none⟩ = some (.int .i64 (rd_T24 xs i).f3) ∧ w.cell? ⟨(ad.add (i.toNat * 9)).block, (ad.add (i.toNat * 9)).off + 4, none⟩ = some (.string (rd_T24 xs i).f4) ∧ w.cell? ⟨(ad.add (i.toNat * 9)).block, (ad.add (i.toNat * 9)).off + 5, none⟩ = some (.string (rd_T24 xs i).f5) ∧ w.cell? ⟨(ad.add (i.toNat * 9)).block, (ad.add (i.toNat * 9)).off + 6, none⟩ = some (.string (rd_T24 xs i).f6) ∧ w.cell? ⟨(ad.add (i.toNat * 9)).block, (ad.add (i.toNat * 9)).off + 7, none⟩ = some (.string (rd_T24 xs i).f7) ∧ w.cell? ⟨(ad.add (i.toNat * 9)).block, (ad.add (i.toNat * 9)).off + 8, none⟩ = some (.slice A8 (rd_T24 xs i).f8.length c8) ∧ (rd_T24 xs i).f8.length ≤ c8 ∧ k51.C w A8 (rd_T24 xs i).f8.length (rd_T24 xs i).f8 := by
  obtain ⟨ad, c, e, _, hK, hc0⟩ := Kd.C_get h z24 i h0 h1
  have hc : ∀ j u, c[j]? = some u → w.cell? (ad.add (i.toNat * 9 + j)) = some u := hc0
  obtain ⟨A8, c8, rfl, l8, g8⟩ := k24_open hK
  exact ⟨ad, A8, c8, e, hc 0 _ rfl, by rw [← add_field _ _ 1 (by omega)]; exact hc 1 _ rfl, by rw [← add_field _ _ 2 (by omega)]; exact hc 2 _ rfl, by rw [← add_field _ _ 3 (by omega)]; exact hc 3 _ rfl, by rw [← add_field _ _ 4 (by omega)]; exact hc 4 _ rfl, by rw [← add_field _ _ 5 (by omega)]; exact hc 5 _ rfl, by rw [← add_field _ _ 6 (by omega)]; exact hc 6 _ rfl, by rw [← add_field _ _ 7 (by omega)]; exact hc 7 _ rfl, by rw [← add_field _ _ 8 (by omega)]; exact hc 8 _ rfl, l8, g8⟩

end Go.Proofs.YtgdemingopcgaaaDoor.P26

namespace Go.Proofs.YtgdemingopcgaaaDoorE
open Go Go.RowKit Go.ChangeShapes Go.WideShapes Go.Proofs.YtgdemingopcgaaaDoorW.PrintWords
set_option linter.unusedVariables false
set_option linter.unusedSimpArgs false
namespace Op
/-- The weights of a piece of data are in reach. -/
def Sz {H : Type} (P : Program) (t : TypeId) (d : DataW H) : Prop := ∀ n ∈ d.weights P t, n ≤ 140737488351232
def SzEach {H : Type} (P : Program) (ts : List TypeId) (ds : List (DataW H)) : Prop := ∀ n ∈ DataW.weightsEach P ts ds, n ≤ 140737488351232
/-- What reads at type t with so much fuel is a value of kind d, of which ok holds. -/
def At {α : Type} (P : Program) (fuel : Nat) (t : TypeId) (d : Kd α) (ok : α → Prop) : Prop :=
  ∀ (H : Type) (enc : TypeId × Value → H) (w : World) (base : Nat) (spare : Nat → Bool) (held : Bool) (cs : List Value) (x : DataW H × List MemPlace), DataW.trod enc P w base spare held fuel t cs = some x → Sz P t x.1 → ∃ a, d.K w a cs ∧ ok a
/-- Fields one behind the other. -/
def Fields {β : Type} (P : Program) (fuel : Nat) (ts : List TypeId) (d : Kd β) (ok : β → Prop) : Prop :=
  ∀ (H : Type) (enc : TypeId × Value → H) (w : World) (base : Nat) (spare : Nat → Bool) (held : Bool) (cs : List Value) (xs : List (DataW H × List MemPlace)), cs.length = (ts.map P.cellsOf).sum → xs.length = ts.length →
    (∀ (i : Nat) (t : TypeId), ts[i]? = some t → DataW.trod enc P w base spare held fuel t ((cs.drop ((ts.take i).map P.cellsOf).sum).take (P.cellsOf t)) = xs[i]?) → SzEach P ts (xs.map (·.1)) → ∃ a, d.K w a cs ∧ ok a
theorem string {P : Program} {fuel : Nat} {t : TypeId} (hu : P.underlying t = some .string) : At P fuel t Kd.string (fun s => s.size ≤ 140737488351232) := by
  intro H enc w base spare held cs x h hs
  obtain ⟨s, h1, rfl, -⟩ : ∃ s : ByteArray, x = (.lit (.string s.data.toList), []) ∧ cs = [.string s] ∧ True := by
    cases fuel with
    | zero => simp [DataW.trod] at h
    | succ n =>
      unfold DataW.trod at h
      rw [hu] at h
      split at h <;> simp_all
  subst h1
  refine ⟨s, rfl, ?_⟩
  have := hs s.data.toList.length (by simp [DataW.weights])
  rw [Array.length_toList] at this
  exact this
theorem int {P : Program} {fuel : Nat} {t : TypeId} {k : IntKind} (hu : P.underlying t = some (.int k)) : At P fuel t (Kd.int k) (fun a => (Lit.int k a).wf = true) := by
  intro H enc w base spare held cs x h hs
  obtain ⟨a, rfl, h1⟩ : ∃ a : Int, cs = [.int k a] ∧ (Lit.int k a).wf = true := by
    cases fuel with
    | zero => simp [DataW.trod] at h
    | succ n =>
      unfold DataW.trod at h
      rw [hu] at h
      split at h <;> simp_all
  exact ⟨a, rfl, h1⟩
theorem zero {α : Type} {P : Program} {t : TypeId} {d : Kd α} {ok : α → Prop} : At P 0 t d ok := by
  intro H enc w base spare held cs x h hs
  simp [DataW.trod] at h
theorem one {α : Type} {P : Program} {fuel : Nat} {t : TypeId} {d : Kd α} {ok : α → Prop} (h : At P fuel t d ok) : Fields P fuel [t] d ok := by
  intro H enc w base spare held cs xs hl hx hr hs
  have h0 := hr 0 t rfl
  simp only [List.map_cons, List.map_nil, List.sum_cons, List.sum_nil, Nat.add_zero] at hl
  simp only [List.take_zero, List.map_nil, List.sum_nil, List.drop_zero] at h0
  rw [← hl, List.take_length] at h0
  cases xs with
  | nil => simp at hx
  | cons x xs =>
    refine h H enc w base spare held cs x (by rw [h0]; rfl) (fun n hn => hs n ?_)
    simp [DataW.weightsEach]
    exact hn
theorem cons {α β : Type} {P : Program} {fuel : Nat} {t : TypeId} {ts : List TypeId} {d : Kd α} {ok : α → Prop} {d' : Kd β} {ok' : β → Prop} (h : At P fuel t d ok) (h' : Fields P fuel ts d' ok') :
    Fields P fuel (t :: ts) (Kd.pair d d') (fun x => ok x.1 ∧ ok' x.2) := by
  intro H enc w base spare held cs xs hl hx hr hs
  have h0 := hr 0 t rfl
  simp only [List.map_cons, List.sum_cons] at hl
  simp only [List.take_zero, List.map_nil, List.sum_nil, List.drop_zero] at h0
  cases xs with
  | nil => simp at hx
  | cons x xs =>
    obtain ⟨a, ha, oa⟩ := h H enc w base spare held (cs.take (P.cellsOf t)) x (by rw [h0]; rfl) (fun n hn => hs n (by simp [DataW.weightsEach]; exact Or.inl hn))
    obtain ⟨b, hb, ob⟩ := h' H enc w base spare held (cs.drop (P.cellsOf t)) xs (by rw [List.length_drop]; omega) (by simpa using hx) (fun i t' ht => by
      have := hr (i + 1) t' (by simpa using ht)
      rw [List.take_succ_cons, List.map_cons, List.sum_cons, ← List.drop_drop] at this
      rw [this]
      rfl) (fun n hn => hs n (by simp [DataW.weightsEach]; exact Or.inr hn))
    exact ⟨(a, b), ⟨_, _, (List.take_append_drop _ _).symm, ha, hb⟩, oa, ob⟩
theorem iso {α β : Type} {P : Program} {fuel : Nat} {ts : List TypeId} {d : Kd α} {ok : α → Prop} (f : β → α) (g : α → β) (hg : ∀ a, f (g a) = a) (h : Fields P fuel ts d ok) : Fields P fuel ts (Kd.iso d f) (fun b => ok (f b)) := by
  intro H enc w base spare held cs xs hl hx hr hs
  obtain ⟨a, ha, oa⟩ := h H enc w base spare held cs xs hl hx hr hs
  exact ⟨g a, show d.K w (f (g a)) cs by rw [hg]; exact ha, show ok (f (g a)) by rw [hg]; exact oa⟩
theorem struct {β : Type} {P : Program} {fuel : Nat} {t : TypeId} {fs : Array Field} {d : Kd β} {ok : β → Prop} (hu : P.underlying t = some (.struct fs)) (hc : P.cellsOf t = ((fs.toList.map (·.type)).map P.cellsOf).sum)
    (ho : ∀ i : Nat, ∀ f, fs[i]? = some f → f.offset = (((fs.toList.map (·.type)).take i).map P.cellsOf).sum) (h : Fields P fuel (fs.toList.map (·.type)) d ok) : At P (fuel + 1) t d ok := by
  intro H enc w base spare held cs x hr hs
  obtain ⟨xs, n, hn, rfl, hl, hx, hf⟩ := DataW.trod_struct hu hr
  obtain rfl : fuel = n := by omega
  refine h H enc w base spare held cs xs (by rw [hl, hc]) (by rw [hx, List.length_map, Array.length_toList]) (fun i t' ht => ?_) (fun n hn => hs n ?_)
  · rw [List.getElem?_map] at ht
    obtain ⟨f, hf1, rfl⟩ := Option.map_eq_some_iff.1 ht
    rw [Array.getElem?_toList] at hf1
    rw [← hf i f hf1, ho i f hf1]
  · show n ∈ DataW.weights P t (.agg (xs.map (·.1)))
    unfold DataW.weights
    simp only [hu]
    exact hn
theorem weightsAll_mem {H : Type} {P : Program} {e : TypeId} : ∀ {l : List (DataW H)} {d : DataW H}, d ∈ l → ∀ n ∈ d.weights P e, n ∈ DataW.weightsAll P e l
  | _ :: _, _, hd, n, hn => by
    rcases List.mem_cons.1 hd with rfl | hd
    · simp [DataW.weightsAll]; exact Or.inl hn
    · simp [DataW.weightsAll]; exact Or.inr (weightsAll_mem hd n hn)
theorem slice {α : Type} {P : Program} {fuel : Nat} {t e : TypeId} {d : Kd α} {ok : α → Prop} (hu : P.underlying t = some (.slice e)) (hz : d.sz = P.cellsOf e) (h : At P fuel e d ok) :
    At P (fuel + 1) t (Kd.slice e d) (fun xs => xs.length * P.bytesOf e ≤ 140737488351232 ∧ xs.length ≤ maxLen ∧ ∀ x ∈ xs, ok x) := by
  intro H enc w base spare held cs x hr hs
  rcases DataW.trod_slice hu hr with ⟨rfl, rfl⟩ | ⟨a, len, cap, elems, rest, n, hn, rfl, rfl, hb, hl, hm, hlen, hel, -, -⟩
  · exact ⟨[], ⟨none, 0, rfl, Nat.le_refl _, Kd.C_nil d w⟩, by simp, by simp, fun x hx => by cases hx⟩
  · obtain rfl : fuel = n := by omega
    have key : ∀ i, i < len → ∃ c y, w.cells? base (a.add (i * P.cellsOf e)) (P.cellsOf e) = some c ∧ d.K w y c ∧ ok y := by
      intro i hi
      have h1 := hel i hi
      rw [List.getElem?_eq_getElem (by omega)] at h1
      obtain ⟨c, hc1, hc2⟩ := Option.bind_eq_some_iff.1 h1
      obtain ⟨y, hy1, hy2⟩ := h H enc w base spare held c _ hc2 (fun n hn => hs n (by
        show n ∈ DataW.weights P t (.slice (elems.map (·.1)) (rest.map (·.1)))
        unfold DataW.weights
        simp only [hu]
        exact List.mem_cons_of_mem _ (List.mem_append.2 (Or.inl (weightsAll_mem (List.mem_map_of_mem (List.getElem_mem (by omega))) n hn)))))
      exact ⟨c, y, hc1, hy1, hy2⟩
    have build : ∀ m, m ≤ len → ∃ xs : List α, xs.length = m ∧ ∀ i y, xs[i]? = some y → ok y ∧ ∃ c, w.cells? base (a.add (i * P.cellsOf e)) (P.cellsOf e) = some c ∧ d.K w y c := by
      intro m
      induction m with
      | zero => exact fun _ => ⟨[], rfl, fun i y hy => by simp at hy⟩
      | succ m ih =>
        intro hm
        obtain ⟨xs, hx1, hx2⟩ := ih (by omega)
        obtain ⟨c, y, h1, h2, h3⟩ := key m (by omega)
        refine ⟨xs ++ [y], by simp [hx1], fun i z hz => ?_⟩
        rcases Nat.lt_or_ge i xs.length with hlt | hge
        · rw [List.getElem?_append_left hlt] at hz
          exact hx2 i z hz
        · have hi : i = m := by
            have := (List.getElem?_eq_some_iff.1 hz).1
            simp at this; omega
          subst hi
          rw [List.getElem?_append_right hge, hx1, Nat.sub_self] at hz
          obtain rfl : y = z := by simpa using hz
          exact ⟨h3, c, h1, h2⟩
    obtain ⟨xs, hx1, hx2⟩ := build len (Nat.le_refl _)
    have hw := hs ((elems.length + rest.length) * P.bytesOf e) (by
      show _ ∈ DataW.weights P t (.slice (elems.map (·.1)) (rest.map (·.1)))
      unfold DataW.weights
      simp only [hu]
      rw [List.length_map, List.length_map]
      exact List.mem_cons_self)
    refine ⟨xs, ⟨some a, cap, by rw [hx1], by omega, hx1.symm ▸ rfl, by unfold maxLen at hm; omega, fun _ => ⟨a, rfl, fun j p hp => ?_⟩⟩, ?_, by omega, fun x hx => ?_⟩
    · obtain ⟨-, c, hc1, hc2⟩ := hx2 j p hp
      obtain ⟨-, hcl, hcc⟩ := World.cells?_some hc1
      refine ⟨c, by rw [hcl, hz], hc2, fun i u hu2 => ?_⟩
      have hi := (List.getElem?_eq_some_iff.1 hu2).1
      have := hcc i (by omega)
      rw [hu2, add_add] at this
      rw [hz]
      exact this
    · exact Nat.le_trans (Nat.mul_le_mul_right _ (by omega)) hw
    · obtain ⟨i, hi, rfl⟩ := List.getElem_of_mem hx
      exact (hx2 i _ (List.getElem?_eq_getElem hi)).1
theorem mono {α : Type} {P : Program} {fuel : Nat} {t : TypeId} {d d' : Kd α} {ok ok' : α → Prop} (h : At P fuel t d ok) (hk : ∀ w a cs, d.K w a cs → d'.K w a cs) (ho : ∀ a, ok a → ok' a) : At P fuel t d' ok' := by
  intro H enc w base spare held cs x hr hs
  obtain ⟨a, ha, oa⟩ := h H enc w base spare held cs x hr hs
  exact ⟨a, hk _ _ _ ha, ho a oa⟩
end Op
end Go.Proofs.YtgdemingopcgaaaDoorE

namespace Go.Proofs.YtgdemingopcgaaaDoor.P26
open Go.RowKit Go.Proofs.YtgdemingopcgaaaDoorE Go.Proofs.YtgdemingopcgaaaDoorW.PrintWords Go.Proofs.YtgdemingopcgaaaDoorW.PrintLast Go.Proofs.YtgdemingopcgaaaDoorW.PrintMore
attribute [local go_sem] max2_int min2_int max_two min_two max_three min_three max_four min_four   -- for this text's walks alone
set_option linter.unusedVariables false
set_option linter.unusedSimpArgs false

theorem eqA51 (d : Nat) (w : World) (x0 y0 : ByteArray) (x1 y1 : ByteArray) :
    (Op.equalIn (d + 2) 51 (.agg #[.string x0, .string x1]) (.agg #[.string y0, .string y1])).run Tryd.prog w = .ok (x0.toList == y0.toList && (x1.toList == y1.toList)) w := by
  refine eqA_of Tryd.underlying51 (by kernel_rfl) ?_
  refine eqf_cons (by rfl) (by go_simp; rfl) (by go_simp; rfl) (by go_simp) ?_
  exact eqf_last (by rfl) (by go_simp; rfl) (by go_simp; rfl) (by go_simp)
end Go.Proofs.YtgdemingopcgaaaDoor.P26

namespace Go.Proofs.YtgdemingopcgaaaDoor.P26
open Go.RowKit Go.Proofs.YtgdemingopcgaaaDoorE Go.Proofs.YtgdemingopcgaaaDoorW.PrintWords Go.Proofs.YtgdemingopcgaaaDoorW.PrintLast Go.Proofs.YtgdemingopcgaaaDoorW.PrintMore
attribute [local go_sem] max2_int min2_int max_two min_two max_three min_three max_four min_four   -- for this text's walks alone
set_option linter.unusedVariables false
set_option linter.unusedSimpArgs false

attribute [local go_sem high] eqA51

def api_Attr.l0 : Nat → List (S51) → List (S51) → Int → Int → Option (Bool)
  | 0, _, _, _, _ => none
  | k + 1, x0, x1, x12, x13 => if x13 < x12 then (if 0 ≤ x13 then (if x13 < (x0.length : Int) then (if x13 < (x1.length : Int) then (if (!((((rd_T51 x0 x13).f0).toList) == (((rd_T51 x1 x13).f0).toList)) || (!((((rd_T51 x0 x13).f1).toList) == (((rd_T51 x1 x13).f1).toList)))) = true then (some false) else (api_Attr.l0 k x0 x1 x12 (wrap64 (x13 + 1)))) else (none)) else (none)) else (none)) else (some true)
def api_Attr.f (k : Nat) (l0 : List (S51)) (l1 : List (S51)) : Option (Bool) := if (l0.length : Int) = (l1.length : Int) then (api_Attr.l0 k l0 l1 (l0.length : Int) 0) else (some false)
theorem api_Attr.mono_l : ∀ k, (∀ y0 y1 y2 y3, LeO (api_Attr.l0 k y0 y1 y2 y3) (api_Attr.l0 (k + 1) y0 y1 y2 y3))
  | 0 => fun _ _ _ _ r h => by simp [api_Attr.l0] at h
  | k + 1 => by
    have ih0 := api_Attr.mono_l k
    · intro y0 y1 y2 y3
      unfold api_Attr.l0
      repeat' first
      | (with_reducible exact ih0 _ _ _ _)
      | (with_reducible exact LeO.refl _)
      | (with_reducible exact LeO.none _)
      | (with_reducible refine LeO.ite ?_ ?_)
      | (with_reducible refine LeO.bind ?_ (fun _ => ?_))
      | exact ih0 _ _ _ _
      | exact LeO.none _
      | refine LeO.ite ?_ ?_
      | refine LeO.bind ?_ (fun _ => ?_)
theorem api_Attr.mono : ∀ a0 a1 k, LeO (api_Attr.f k a0 a1) (api_Attr.f (k + 1) a0 a1) := by
  intro a0 a1 k
  have ih0 := api_Attr.mono_l k
  unfold api_Attr.f
  repeat' first
      | (with_reducible exact ih0 _ _ _ _)
      | (with_reducible exact LeO.refl _)
      | (with_reducible exact LeO.none _)
      | (with_reducible refine LeO.ite ?_ ?_)
      | (with_reducible refine LeO.bind ?_ (fun _ => ?_))
      | exact ih0 _ _ _ _
      | exact LeO.none _
      | refine LeO.ite ?_ ?_
      | refine LeO.bind ?_ (fun _ => ?_)
set_option maxHeartbeats 8000000 in
set_option maxRecDepth 100000 in
theorem api_Attr.calls (k : Nat) (A0 : Option Addr) (c0 : Nat) (l0 : List (S51)) (A1 : Option Addr) (c1 : Nat) (l1 : List (S51)) (r : Bool) (w : World) (hgl : Go.Proofs.YtgdemingopcgaaaDoorX.GL w) (hr0 : Kd.C k51 w A0 l0.length l0) (hc0 : l0.length ≤ c0) (hr1 : Kd.C k51 w A1 l1.length l1) (hc1 : l1.length ≤ c1) (h : api_Attr.f k l0 l1 = some r) :
    Calls Tryd.prog 51 #[.slice A0 l0.length c0, .slice A1 l1.length c1] w fun e w' => e = .returned (.bool r) ∧ Drawn0 w w' := by
  have hu51 := Tryd.underlying51
  have HR0 := Aside0.mk hr0
  have HC0 := Aside0.mk hc0
  clear hr0 hc0
  have HR1 := Aside0.mk hr1
  have HC1 := Aside0.mk hc1
  clear hr1 hc1
  have HGL := Aside0.mk hgl
  clear hgl
  have H : (if (l0.length : Int) = (l1.length : Int) then (api_Attr.l0 k l0 l1 (l0.length : Int) 0) else (some false)) = some r := h
  clear h
  by_cases c3 : (l0.length : Int) = (l1.length : Int)
  · rw [if_pos c3] at H
    have c3b0 : ((l0.length : Int) == (l1.length : Int)) = true := beq_iff_eq.mpr c3
    have c3b1 : ((l0.length : Int) != (l1.length : Int)) = false := bne_eq_false_iff_eq.mpr c3
    have c3b2 : (l0.length == l1.length) = true := by first | simpa using c3 | (simp at c3 ⊢; omega)
    clear c3
    have H' := Aside0.mk H
    clear H
    go_enter Tryd.func51, Tryd.ntmps51
    go_wp2
    repeat (go_quiet (fail); try go_wp2)
    go_loopg [13] k (fun kq v13 w' => ∃ (x13_1 : Int), v13 = .int .i64 x13_1 ∧ Aside0 (api_Attr.l0 kq l0 l1 (l0.length : Int) x13_1 = some r) ∧ Aside0 (kq ≤ k) ∧ Drawn0 w w')
    case atStart => exact ⟨(0), (by first | rfl | (simp; done) | (simp [*]; done)), H', ⟨Nat.le_refl _⟩, by repeat (first | exact Drawn0.refl _ | apply Drawn0.step)⟩
    case round =>
      clear H'
      try clear c1
      try clear p2
      try clear c3
      try clear c3b0
      try clear c3b1
      try clear c3b2
      obtain ⟨x13_1, rfl, HA, HK1, ⟨m1, rfl⟩⟩ := hrel
      cases gk with
      | zero => exact absurd HA.out (by simp [api_Attr.l0])
      | succ k1 =>
        have H := HA.out
        clear HA
        simp only [api_Attr.l0] at H
        by_cases c4 : x13_1 < (l0.length : Int)
        · rw [if_pos c4] at H
          have c4b0 : decide (x13_1 < (l0.length : Int)) = true := decide_eq_true c4
          clear c4
          by_cases c5 : 0 ≤ x13_1
          · rw [if_pos c5] at H
            have c5b0 : decide (0 ≤ x13_1) = true := decide_eq_true c5
            clear c5
            by_cases c6 : x13_1 < (l0.length : Int)
            · rw [if_pos c6] at H
              have c6b0 : decide (x13_1 < (l0.length : Int)) = true := decide_eq_true c6
              clear c6
              by_cases c7 : x13_1 < (l1.length : Int)
              · rw [if_pos c7] at H
                have c7b0 : decide (x13_1 < (l1.length : Int)) = true := decide_eq_true c7
                clear c7
                by_cases c8 : (!((((rd_T51 l0 x13_1).f0).toList) == (((rd_T51 l1 x13_1).f0).toList)) || (!((((rd_T51 l0 x13_1).f1).toList) == (((rd_T51 l1 x13_1).f1).toList)))) = true
                · rw [if_pos c8] at H
                  have c8b0 : (!((((rd_T51 l0 x13_1).f0).toList) == (((rd_T51 l1 x13_1).f0).toList)) || (!((((rd_T51 l0 x13_1).f1).toList) == (((rd_T51 l1 x13_1).f1).toList)))) = true := c8
                  clear c8
                  obtain rfl := Option.some.inj H
                  have p101 : 0 ≤ (x13_1 : Int) := of_decide_eq_true (by first | (with_reducible assumption) | assumption)
                  have q101 : x13_1 < (l0.length : Int) := of_decide_eq_true (by first | (with_reducible assumption) | assumption)
                  obtain ⟨ad101, e101, hx101_0, hx101_1⟩ := at_T51 HR0.out x13_1 p101 q101
                  cases e101
                  replace p101 := eq_true p101
                  replace q101 := eq_true q101
                  have p102 : 0 ≤ (x13_1 : Int) := of_decide_eq_true (by first | (with_reducible assumption) | assumption)
                  have q102 : x13_1 < (l1.length : Int) := of_decide_eq_true (by first | (with_reducible assumption) | assumption)
                  obtain ⟨ad102, e102, hx102_0, hx102_1⟩ := at_T51 HR1.out x13_1 p102 q102
                  cases e102
                  replace p102 := eq_true p102
                  replace q102 := eq_true q102
                  go_wp2
                  repeat (go_quiet (fail); try go_wp2)
                  go_ret
                  exact ⟨by first | rfl | (simp; done) | (simp [*]; done), by repeat (first | exact Drawn0.refl _ | apply Drawn0.step)⟩
                · rw [if_neg c8] at H
                  have c8b0 : (!((((rd_T51 l0 x13_1).f0).toList) == (((rd_T51 l1 x13_1).f0).toList)) || (!((((rd_T51 l0 x13_1).f1).toList) == (((rd_T51 l1 x13_1).f1).toList)))) = false := by simpa using c8
                  clear c8
                  have H' := Aside0.mk H
                  clear H
                  have p101 : 0 ≤ (x13_1 : Int) := of_decide_eq_true (by first | (with_reducible assumption) | assumption)
                  have q101 : x13_1 < (l0.length : Int) := of_decide_eq_true (by first | (with_reducible assumption) | assumption)
                  obtain ⟨ad101, e101, hx101_0, hx101_1⟩ := at_T51 HR0.out x13_1 p101 q101
                  cases e101
                  replace p101 := eq_true p101
                  replace q101 := eq_true q101
                  have p102 : 0 ≤ (x13_1 : Int) := of_decide_eq_true (by first | (with_reducible assumption) | assumption)
                  have q102 : x13_1 < (l1.length : Int) := of_decide_eq_true (by first | (with_reducible assumption) | assumption)
                  obtain ⟨ad102, e102, hx102_0, hx102_1⟩ := at_T51 HR1.out x13_1 p102 q102
                  cases e102
                  replace p102 := eq_true p102
                  replace q102 := eq_true q102
                  go_wp2
                  repeat (go_quiet (fail); try go_wp2)
                  go_roundg k1
                  case measure => have := HK1.out; omega
                  case rel => exact ⟨(wrap64 (x13_1 + 1)), (by first | rfl | (simp; done) | (simp [*]; done)), H', ⟨by have := HK1.out; omega⟩, by repeat (first | exact Drawn0.refl _ | apply Drawn0.step)⟩
              · rw [if_neg c7] at H
                exact absurd H (by simp)
            · rw [if_neg c6] at H
              exact absurd H (by simp)
          · rw [if_neg c5] at H
            exact absurd H (by simp)
        · rw [if_neg c4] at H
          have c4b0 : decide (x13_1 < (l0.length : Int)) = false := decide_eq_false c4
          clear c4
          obtain rfl := Option.some.inj H
          go_wp2
          repeat (go_quiet (fail); try go_wp2)
          go_ret
          exact ⟨by first | rfl | (simp; done) | (simp [*]; done), by repeat (first | exact Drawn0.refl _ | apply Drawn0.step)⟩
  · rw [if_neg c3] at H
    have c3b0 : ((l0.length : Int) == (l1.length : Int)) = false := beq_eq_false_iff_ne.mpr c3
    have c3b1 : ((l0.length : Int) != (l1.length : Int)) = true := bne_iff_ne.mpr c3
    have c3b2 : (l0.length == l1.length) = false := by first | simpa using c3 | (simp at c3 ⊢; omega)
    obtain rfl := Option.some.inj H
    go_enter Tryd.func51, Tryd.ntmps51
    go_wp2
    repeat (go_quiet (fail); try go_wp2)
    go_ret
    exact ⟨by first | rfl | (simp; done) | (simp [*]; done), by repeat (first | exact Drawn0.refl _ | apply Drawn0.step)⟩

def chars_small.f (a0 : Int) : Option (Bool) := if a0 ≥ 97 then (some (decide (a0 ≤ 122))) else (some false)
set_option maxHeartbeats 8000000 in
set_option maxRecDepth 100000 in
theorem chars_small.calls (a0 : Int) (r : Bool) (w : World) (hgl : Go.Proofs.YtgdemingopcgaaaDoorX.GL w) (h : chars_small.f a0 = some r) :
    Calls Tryd.prog 64 #[.int .u8 a0] w fun e w' => e = .returned (.bool r) ∧ Drawn0 w w' := by
  have HGL := Aside0.mk hgl
  clear hgl
  have H : (if a0 ≥ 97 then (some (decide (a0 ≤ 122))) else (some false)) = some r := h
  clear h
  by_cases c2 : a0 ≥ 97
  · rw [if_pos c2] at H
    have c2b0 : decide (97 ≤ a0) = true := decide_eq_true c2
    clear c2
    obtain rfl := Option.some.inj H
    go_enter Tryd.func64, Tryd.ntmps64
    go_wp2
    go_ret
    exact ⟨by first | rfl | (simp; done) | (simp [*]; done), by repeat (first | exact Drawn0.refl _ | apply Drawn0.step)⟩
  · rw [if_neg c2] at H
    have c2b0 : decide (97 ≤ a0) = false := decide_eq_false c2
    clear c2
    obtain rfl := Option.some.inj H
    go_enter Tryd.func64, Tryd.ntmps64
    go_wp2
    go_ret
    exact ⟨by first | rfl | (simp; done) | (simp [*]; done), by repeat (first | exact Drawn0.refl _ | apply Drawn0.step)⟩

mutual
def chars_named.j0 : Nat → ByteArray → ByteArray → Bool → Option (Bool)
  | 0, _, _, _ => none
  | k + 1, x0, x1, x19 => if x19 = true then (some false) else (chars_named.l0 k x0 x1 (x0.size : Int) 0)
def chars_named.l0 : Nat → ByteArray → ByteArray → Int → Int → Option (Bool)
  | 0, _, _, _, _ => none
  | k + 1, x0, x1, x21, x22 => if x22 < x21 then (if 0 ≤ x22 then (if x22 < (x0.size : Int) then ((chars_small.f (bt x0 x22)).bind fun t104 => (if t104 = true then (chars_named.l0 k x0 x1 x21 (wrap64 (x22 + 1))) else (if (bt x0 x22) < 48 then ((strings_IndexByte.f x1 (bt x0 x22)).bind fun t105 => (if t105 < 0 then (some false) else (chars_named.l0 k x0 x1 x21 (wrap64 (x22 + 1))))) else (if (bt x0 x22) > 57 then ((strings_IndexByte.f x1 (bt x0 x22)).bind fun t106 => (if t106 < 0 then (some false) else (chars_named.l0 k x0 x1 x21 (wrap64 (x22 + 1))))) else (chars_named.l0 k x0 x1 x21 (wrap64 (x22 + 1))))))) else (none)) else (none)) else (some true)
end
def chars_named.f (k : Nat) (a0 : ByteArray) (a1 : ByteArray) : Option (Bool) := if a0.toList = ([] : List UInt8) then (chars_named.j0 k a0 a1 true) else (if (a0.size : Int) > 32 then (chars_named.j0 k a0 a1 true) else (if 0 < (a0.size : Int) then ((chars_small.f (bt a0 0)).bind fun t103 => (chars_named.j0 k a0 a1 (!t103))) else (none)))
theorem chars_named.mono_l : ∀ k, (∀ y0 y1 y2, LeO (chars_named.j0 k y0 y1 y2) (chars_named.j0 (k + 1) y0 y1 y2)) ∧ (∀ y0 y1 y2 y3, LeO (chars_named.l0 k y0 y1 y2 y3) (chars_named.l0 (k + 1) y0 y1 y2 y3))
  | 0 => ⟨fun _ _ _ r h => by simp [chars_named.j0] at h, fun _ _ _ _ r h => by simp [chars_named.l0] at h⟩
  | k + 1 => by
    obtain ⟨ih0, ih1⟩ := chars_named.mono_l k
    refine ⟨?_, ?_⟩
    · intro y0 y1 y2
      unfold chars_named.j0
      repeat' first
      | (with_reducible exact ih0 _ _ _)
      | (with_reducible exact ih1 _ _ _ _)
      | (with_reducible exact LeO.refl _)
      | (with_reducible exact LeO.none _)
      | (with_reducible refine LeO.ite ?_ ?_)
      | (with_reducible refine LeO.bind ?_ (fun _ => ?_))
      | exact ih0 _ _ _
      | exact ih1 _ _ _ _
      | exact LeO.none _
      | refine LeO.ite ?_ ?_
      | refine LeO.bind ?_ (fun _ => ?_)
    · intro y0 y1 y2 y3
      unfold chars_named.l0
      repeat' first
      | (with_reducible exact ih0 _ _ _)
      | (with_reducible exact ih1 _ _ _ _)
      | (with_reducible exact LeO.refl _)
      | (with_reducible exact LeO.none _)
      | (with_reducible refine LeO.ite ?_ ?_)
      | (with_reducible refine LeO.bind ?_ (fun _ => ?_))
      | exact ih0 _ _ _
      | exact ih1 _ _ _ _
      | exact LeO.none _
      | refine LeO.ite ?_ ?_
      | refine LeO.bind ?_ (fun _ => ?_)
theorem chars_named.mono : ∀ a0 a1 k, LeO (chars_named.f k a0 a1) (chars_named.f (k + 1) a0 a1) := by
  intro a0 a1 k
  obtain ⟨ih0, ih1⟩ := chars_named.mono_l k
  unfold chars_named.f
  repeat' first
      | (with_reducible exact ih0 _ _ _)
      | (with_reducible exact ih1 _ _ _ _)
      | (with_reducible exact LeO.refl _)
      | (with_reducible exact LeO.none _)
      | (with_reducible refine LeO.ite ?_ ?_)
      | (with_reducible refine LeO.bind ?_ (fun _ => ?_))
      | exact ih0 _ _ _
      | exact ih1 _ _ _ _
      | exact LeO.none _
      | refine LeO.ite ?_ ?_
      | refine LeO.bind ?_ (fun _ => ?_)
set_option maxHeartbeats 8000000 in
set_option maxRecDepth 100000 in
theorem chars_named.calls (k : Nat) (a0 : ByteArray) (a1 : ByteArray) (r : Bool) (w : World) (hgl : Go.Proofs.YtgdemingopcgaaaDoorX.GL w) (h : chars_named.f k a0 a1 = some r) :
    Calls Tryd.prog 54 #[.string a0, .string a1] w fun e w' => e = .returned (.bool r) ∧ Drawn0 w w' := by
  have HGL := Aside0.mk hgl
  clear hgl
  have H : (if a0.toList = ([] : List UInt8) then (chars_named.j0 k a0 a1 true) else (if (a0.size : Int) > 32 then (chars_named.j0 k a0 a1 true) else (if 0 < (a0.size : Int) then ((chars_small.f (bt a0 0)).bind fun t103 => (chars_named.j0 k a0 a1 (!t103))) else (none)))) = some r := h
  clear h
  have HC3 := Aside0.mk H
  clear H
  go_enter Tryd.func54, Tryd.ntmps54
  go_upto_region 1 with (fail)
  go_cut [19] (fun v19 wc => ∃ (kq : Nat) (x19_2 : Bool), v19 = .bool x19_2 ∧ Aside0 (chars_named.j0 kq a0 a1 x19_2 = some r) ∧ Aside0 (kq ≤ k) ∧ Drawn0 w wc)
  case first =>
    have H := HC3.out
    clear HC3
    by_cases c4 : a0.toList = ([] : List UInt8)
    · rw [if_pos c4] at H
      have c4b0 : (a0.toList == ([] : List UInt8)) = true := beq_iff_eq.mpr c4
      have c4b1 : (a0.toList != ([] : List UInt8)) = false := bne_eq_false_iff_eq.mpr c4
      clear c4
      (first | rw [c4b0] | (simp only [i64_w, i32_w]; rw [c4b0]) | skip)
      have H' := Aside0.mk H
      clear H
      go_wp2
      go_meet
      case rel => exact ⟨_, (true), (by first | rfl | (simp; done) | (simp [*]; done)), H', ⟨by first | omega | exact Nat.le_refl _⟩, by repeat (first | exact Drawn0.refl _ | apply Drawn0.step)⟩
    · rw [if_neg c4] at H
      have c4b0 : (a0.toList == ([] : List UInt8)) = false := beq_eq_false_iff_ne.mpr c4
      have c4b1 : (a0.toList != ([] : List UInt8)) = true := bne_iff_ne.mpr c4
      (first | rw [c4b0] | (simp only [i64_w, i32_w]; rw [c4b0]) | skip)
      by_cases c5 : (a0.size : Int) > 32
      · rw [if_pos c5] at H
        have c5b0 : decide (32 < (a0.size : Int)) = true := decide_eq_true c5
        have c5b1 : decide (32 < a0.size) = true := decide_eq_true (by omega)
        clear c5
        have H' := Aside0.mk H
        clear H
        go_wp2
        go_meet
        case rel => exact ⟨_, (true), (by first | rfl | (simp; done) | (simp [*]; done)), H', ⟨by first | omega | exact Nat.le_refl _⟩, by repeat (first | exact Drawn0.refl _ | apply Drawn0.step)⟩
      · rw [if_neg c5] at H
        have c5b0 : decide (32 < (a0.size : Int)) = false := decide_eq_false c5
        have c5b1 : decide (32 < a0.size) = false := decide_eq_false (by omega)
        clear c5
        by_cases c6 : 0 < (a0.size : Int)
        · rw [if_pos c6] at H
          have c6b0 : decide (0 < (a0.size : Int)) = true := decide_eq_true c6
          have c6b1 : decide (0 < a0.size) = true := decide_eq_true (by omega)
          clear c6
          replace H := Option.bind_eq_some_iff.mp H
          obtain ⟨t103, A80, H⟩ := H
          replace H : (chars_named.j0 k a0 a1 (!t103)) = some r := H
          have A8 := Aside0.mk A80
          clear A80
          have H' := Aside0.mk H
          clear H
          have p7 : 0 ≤ (0 : Int) := (by omega)
          have q7 : 0 < a0.size := (by have : (0 : Int) < (a0.size : Int) := of_decide_eq_true (by first | (with_reducible assumption) | assumption); omega)
          have hx7 : ∀ h : 0 < a0.size, ((a0[0]'h).toNat : Int) = bt a0 0 := bt_at a0 0
          clear p7
          have qi7 : (0 < (a0.size : Int)) = True := eq_true (of_decide_eq_true (by first | (with_reducible assumption) | assumption))
          replace q7 := eq_true q7
          go_wp2_with (first | (go_at_call 64; (with_reducible refine (chars_small.calls (bt a0 0) t103 _ ?side1 A8.out).mono ?_); (case side1 => first | exact HGL.out | (repeat (first | exact HGL.out | (with_reducible refine Go.Proofs.YtgdemingopcgaaaDoorX.GL.drewN ?_ _) | (with_reducible refine Go.Proofs.YtgdemingopcgaaaDoorX.GL.drew ?_)))); rintro e w' ⟨rfl, ⟨nd, rfl⟩⟩))
          go_meet
          case rel => exact ⟨_, (!t103), (by first | rfl | (simp; done) | (simp [*]; done)), H', ⟨by first | omega | exact Nat.le_refl _⟩, by repeat (first | exact Drawn0.refl _ | apply Drawn0.step)⟩
        · rw [if_neg c6] at H
          exact absurd H (by simp)
  case rest =>
    clear HC3
    try clear p2
    try clear c4
    try clear c4b0
    try clear c4b1
    try clear c5
    try clear c5b0
    try clear c5b1
    try clear c6
    try clear c6b0
    try clear c6b1
    try clear p7
    try clear q7
    try clear hx7
    try clear qi7
    try clear p7
    try clear q7
    obtain ⟨kq, x19_2, rfl, HA, HJ2, ⟨mc2, rfl⟩⟩ := hcut
    cases kq with
    | zero => exact absurd HA.out (by simp [chars_named.j0])
    | succ kj2 =>
      have H := HA.out
      clear HA
      simp only [chars_named.j0] at H
      by_cases c9 : x19_2 = true
      · subst c9
        have H1 : (some false) = some r := by rw [if_pos rfl] at H; exact H
        clear H
        have H := H1
        clear H1
        obtain rfl := Option.some.inj H
        go_wp2
        go_ret
        exact ⟨by first | rfl | (simp; done) | (simp [*]; done), by repeat (first | exact Drawn0.refl _ | apply Drawn0.step)⟩
      · replace c9 := Bool.eq_false_iff.mpr c9
        subst c9
        have H1 : (chars_named.l0 kj2 a0 a1 (a0.size : Int) 0) = some r := by rw [if_neg (show ¬ (false = true) by decide)] at H; exact H
        clear H
        have H := H1
        clear H1
        have H' := Aside0.mk H
        clear H
        go_wp2
        go_loopg [22] kj2 (fun kq v22 w' => ∃ (x22_2 : Int), v22 = .int .i64 x22_2 ∧ Aside0 (chars_named.l0 kq a0 a1 (a0.size : Int) x22_2 = some r) ∧ Aside0 (kq ≤ kj2) ∧ Drawn0 w w')
        case atStart => exact ⟨(0), (by first | rfl | (simp; done) | (simp [*]; done)), H', ⟨Nat.le_refl _⟩, by repeat (first | exact Drawn0.refl _ | apply Drawn0.step)⟩
        case round =>
          clear H'
          try clear c2
          try clear p2
          try clear c4
          try clear c4b0
          try clear c4b1
          try clear c5
          try clear c5b0
          try clear c5b1
          try clear c6
          try clear c6b0
          try clear c6b1
          try clear p7
          try clear q7
          try clear hx7
          try clear qi7
          try clear c9
          try clear p2
          try clear p7
          try clear q7
          obtain ⟨x22_2, rfl, HA, HK2, ⟨m2, rfl⟩⟩ := hrel
          cases gk with
          | zero => exact absurd HA.out (by simp [chars_named.l0])
          | succ k2 =>
            have H := HA.out
            clear HA
            simp only [chars_named.l0] at H
            by_cases c10 : x22_2 < (a0.size : Int)
            · rw [if_pos c10] at H
              have c10b0 : decide (x22_2 < (a0.size : Int)) = true := decide_eq_true c10
              clear c10
              by_cases c11 : 0 ≤ x22_2
              · rw [if_pos c11] at H
                have c11b0 : decide (0 ≤ x22_2) = true := decide_eq_true c11
                clear c11
                by_cases c12 : x22_2 < (a0.size : Int)
                · rw [if_pos c12] at H
                  have c12b0 : decide (x22_2 < (a0.size : Int)) = true := decide_eq_true c12
                  clear c12
                  replace H := Option.bind_eq_some_iff.mp H
                  obtain ⟨t104, A140, H⟩ := H
                  replace H : (if t104 = true then (chars_named.l0 k2 a0 a1 (a0.size : Int) (wrap64 (x22_2 + 1))) else (if (bt a0 x22_2) < 48 then ((strings_IndexByte.f a1 (bt a0 x22_2)).bind fun t105 => (if t105 < 0 then (some false) else (chars_named.l0 k2 a0 a1 (a0.size : Int) (wrap64 (x22_2 + 1))))) else (if (bt a0 x22_2) > 57 then ((strings_IndexByte.f a1 (bt a0 x22_2)).bind fun t106 => (if t106 < 0 then (some false) else (chars_named.l0 k2 a0 a1 (a0.size : Int) (wrap64 (x22_2 + 1))))) else (chars_named.l0 k2 a0 a1 (a0.size : Int) (wrap64 (x22_2 + 1)))))) = some r := H
                  have A14 := Aside0.mk A140
                  clear A140
                  by_cases c15 : t104 = true
                  · subst c15
                    have H1 : (chars_named.l0 k2 a0 a1 (a0.size : Int) (wrap64 (x22_2 + 1))) = some r := by rw [if_pos rfl] at H; exact H
                    clear H
                    have H := H1
                    clear H1
                    have H' := Aside0.mk H
                    clear H
                    have p13 : 0 ≤ (x22_2 : Int) := of_decide_eq_true (by first | (with_reducible assumption) | assumption)
                    have q13 : x22_2 < (a0.size : Int) := of_decide_eq_true (by first | (with_reducible assumption) | assumption)
                    have hx13 := bt_at a0 x22_2
                    replace p13 := eq_true p13
                    replace q13 := eq_true q13
                    go_wp2_with (first | ((with_reducible refine gate_callee (f := 64) rfl ?_); refine goesL_ (some 29) rfl rfl Tryd.func64 (by kernel_rfl) rfl #[.int .u8 (bt a0 x22_2)] rfl (by (try simp only [List.map_toArray, List.map_cons, List.map_nil]); first | done | rfl | (simp only [List.length_drop, List.length_take]; rfl)) ?_; (with_reducible refine (chars_small.calls (bt a0 x22_2) true _ ?side1 A14.out).mono ?_); (case side1 => first | exact HGL.out | (repeat (first | exact HGL.out | (with_reducible refine Go.Proofs.YtgdemingopcgaaaDoorX.GL.drewN ?_ _) | (with_reducible refine Go.Proofs.YtgdemingopcgaaaDoorX.GL.drew ?_)))); rintro e w' ⟨rfl, ⟨nd, rfl⟩⟩; refine ⟨_, rfl, ?_⟩))
                    go_roundg k2
                    case measure => have := HJ2.out; have := HK2.out; omega
                    case rel => exact ⟨(wrap64 (x22_2 + 1)), (by first | rfl | (simp; done) | (simp [*]; done)), H', ⟨by have := HJ2.out; have := HK2.out; omega⟩, by repeat (first | exact Drawn0.refl _ | apply Drawn0.step)⟩
                  · replace c15 := Bool.eq_false_iff.mpr c15
                    subst c15
                    have H1 : (if (bt a0 x22_2) < 48 then ((strings_IndexByte.f a1 (bt a0 x22_2)).bind fun t105 => (if t105 < 0 then (some false) else (chars_named.l0 k2 a0 a1 (a0.size : Int) (wrap64 (x22_2 + 1))))) else (if (bt a0 x22_2) > 57 then ((strings_IndexByte.f a1 (bt a0 x22_2)).bind fun t106 => (if t106 < 0 then (some false) else (chars_named.l0 k2 a0 a1 (a0.size : Int) (wrap64 (x22_2 + 1))))) else (chars_named.l0 k2 a0 a1 (a0.size : Int) (wrap64 (x22_2 + 1))))) = some r := by rw [if_neg (show ¬ (false = true) by decide)] at H; exact H
                    clear H
                    have H := H1
                    clear H1
                    by_cases c16 : (bt a0 x22_2) < 48
                    · rw [if_pos c16] at H
                      have c16b0 : decide ((bt a0 x22_2) < 48) = true := decide_eq_true c16
                      clear c16
                      replace H := Option.bind_eq_some_iff.mp H
                      obtain ⟨t105, A170, H⟩ := H
                      replace H : (if t105 < 0 then (some false) else (chars_named.l0 k2 a0 a1 (a0.size : Int) (wrap64 (x22_2 + 1)))) = some r := H
                      have A17 := Aside0.mk A170
                      clear A170
                      by_cases c18 : t105 < 0
                      · rw [if_pos c18] at H
                        have c18b0 : decide (t105 < 0) = true := decide_eq_true c18
                        clear c18
                        obtain rfl := Option.some.inj H
                        have p13 : 0 ≤ (x22_2 : Int) := of_decide_eq_true (by first | (with_reducible assumption) | assumption)
                        have q13 : x22_2 < (a0.size : Int) := of_decide_eq_true (by first | (with_reducible assumption) | assumption)
                        have hx13 := bt_at a0 x22_2
                        replace p13 := eq_true p13
                        replace q13 := eq_true q13
                        go_wp2_with (first | ((with_reducible refine gate_callee (f := 64) rfl ?_); refine goesL_ (some 29) rfl rfl Tryd.func64 (by kernel_rfl) rfl #[.int .u8 (bt a0 x22_2)] rfl (by (try simp only [List.map_toArray, List.map_cons, List.map_nil]); first | done | rfl | (simp only [List.length_drop, List.length_take]; rfl)) ?_; (with_reducible refine (chars_small.calls (bt a0 x22_2) false _ ?side1 A14.out).mono ?_); (case side1 => first | exact HGL.out | (repeat (first | exact HGL.out | (with_reducible refine Go.Proofs.YtgdemingopcgaaaDoorX.GL.drewN ?_ _) | (with_reducible refine Go.Proofs.YtgdemingopcgaaaDoorX.GL.drew ?_)))); rintro e w' ⟨rfl, ⟨nd, rfl⟩⟩; refine ⟨_, rfl, ?_⟩) | (go_at_call 65; (with_reducible refine (strings_IndexByte.calls a1 (bt a0 x22_2) t105 _ ?side1 A17.out).mono ?_); (case side1 => first | exact HGL.out | (repeat (first | exact HGL.out | (with_reducible refine Go.Proofs.YtgdemingopcgaaaDoorX.GL.drewN ?_ _) | (with_reducible refine Go.Proofs.YtgdemingopcgaaaDoorX.GL.drew ?_)))); rintro e w' ⟨rfl, ⟨nd, rfl⟩⟩))
                        go_ret
                        exact ⟨by first | rfl | (simp; done) | (simp [*]; done), by repeat (first | exact Drawn0.refl _ | apply Drawn0.step)⟩
                      · rw [if_neg c18] at H
                        have c18b0 : decide (t105 < 0) = false := decide_eq_false c18
                        clear c18
                        have H' := Aside0.mk H
                        clear H
                        have p13 : 0 ≤ (x22_2 : Int) := of_decide_eq_true (by first | (with_reducible assumption) | assumption)
                        have q13 : x22_2 < (a0.size : Int) := of_decide_eq_true (by first | (with_reducible assumption) | assumption)
                        have hx13 := bt_at a0 x22_2
                        replace p13 := eq_true p13
                        replace q13 := eq_true q13
                        go_wp2_with (first | ((with_reducible refine gate_callee (f := 64) rfl ?_); refine goesL_ (some 29) rfl rfl Tryd.func64 (by kernel_rfl) rfl #[.int .u8 (bt a0 x22_2)] rfl (by (try simp only [List.map_toArray, List.map_cons, List.map_nil]); first | done | rfl | (simp only [List.length_drop, List.length_take]; rfl)) ?_; (with_reducible refine (chars_small.calls (bt a0 x22_2) false _ ?side1 A14.out).mono ?_); (case side1 => first | exact HGL.out | (repeat (first | exact HGL.out | (with_reducible refine Go.Proofs.YtgdemingopcgaaaDoorX.GL.drewN ?_ _) | (with_reducible refine Go.Proofs.YtgdemingopcgaaaDoorX.GL.drew ?_)))); rintro e w' ⟨rfl, ⟨nd, rfl⟩⟩; refine ⟨_, rfl, ?_⟩) | (go_at_call 65; (with_reducible refine (strings_IndexByte.calls a1 (bt a0 x22_2) t105 _ ?side1 A17.out).mono ?_); (case side1 => first | exact HGL.out | (repeat (first | exact HGL.out | (with_reducible refine Go.Proofs.YtgdemingopcgaaaDoorX.GL.drewN ?_ _) | (with_reducible refine Go.Proofs.YtgdemingopcgaaaDoorX.GL.drew ?_)))); rintro e w' ⟨rfl, ⟨nd, rfl⟩⟩))
                        go_roundg k2
                        case measure => have := HJ2.out; have := HK2.out; omega
                        case rel => exact ⟨(wrap64 (x22_2 + 1)), (by first | rfl | (simp; done) | (simp [*]; done)), H', ⟨by have := HJ2.out; have := HK2.out; omega⟩, by repeat (first | exact Drawn0.refl _ | apply Drawn0.step)⟩
                    · rw [if_neg c16] at H
                      have c16b0 : decide ((bt a0 x22_2) < 48) = false := decide_eq_false c16
                      clear c16
                      by_cases c19 : (bt a0 x22_2) > 57
                      · rw [if_pos c19] at H
                        have c19b0 : decide (57 < (bt a0 x22_2)) = true := decide_eq_true c19
                        clear c19
                        replace H := Option.bind_eq_some_iff.mp H
                        obtain ⟨t106, A200, H⟩ := H
                        replace H : (if t106 < 0 then (some false) else (chars_named.l0 k2 a0 a1 (a0.size : Int) (wrap64 (x22_2 + 1)))) = some r := H
                        have A20 := Aside0.mk A200
                        clear A200
                        by_cases c21 : t106 < 0
                        · rw [if_pos c21] at H
                          have c21b0 : decide (t106 < 0) = true := decide_eq_true c21
                          clear c21
                          obtain rfl := Option.some.inj H
                          have p13 : 0 ≤ (x22_2 : Int) := of_decide_eq_true (by first | (with_reducible assumption) | assumption)
                          have q13 : x22_2 < (a0.size : Int) := of_decide_eq_true (by first | (with_reducible assumption) | assumption)
                          have hx13 := bt_at a0 x22_2
                          replace p13 := eq_true p13
                          replace q13 := eq_true q13
                          go_wp2_with (first | ((with_reducible refine gate_callee (f := 64) rfl ?_); refine goesL_ (some 29) rfl rfl Tryd.func64 (by kernel_rfl) rfl #[.int .u8 (bt a0 x22_2)] rfl (by (try simp only [List.map_toArray, List.map_cons, List.map_nil]); first | done | rfl | (simp only [List.length_drop, List.length_take]; rfl)) ?_; (with_reducible refine (chars_small.calls (bt a0 x22_2) false _ ?side1 A14.out).mono ?_); (case side1 => first | exact HGL.out | (repeat (first | exact HGL.out | (with_reducible refine Go.Proofs.YtgdemingopcgaaaDoorX.GL.drewN ?_ _) | (with_reducible refine Go.Proofs.YtgdemingopcgaaaDoorX.GL.drew ?_)))); rintro e w' ⟨rfl, ⟨nd, rfl⟩⟩; refine ⟨_, rfl, ?_⟩) | (go_at_call 65; (with_reducible refine (strings_IndexByte.calls a1 (bt a0 x22_2) t106 _ ?side1 A20.out).mono ?_); (case side1 => first | exact HGL.out | (repeat (first | exact HGL.out | (with_reducible refine Go.Proofs.YtgdemingopcgaaaDoorX.GL.drewN ?_ _) | (with_reducible refine Go.Proofs.YtgdemingopcgaaaDoorX.GL.drew ?_)))); rintro e w' ⟨rfl, ⟨nd, rfl⟩⟩))
                          go_ret
                          exact ⟨by first | rfl | (simp; done) | (simp [*]; done), by repeat (first | exact Drawn0.refl _ | apply Drawn0.step)⟩
                        · rw [if_neg c21] at H
                          have c21b0 : decide (t106 < 0) = false := decide_eq_false c21
                          clear c21
                          have H' := Aside0.mk H
                          clear H
                          have p13 : 0 ≤ (x22_2 : Int) := of_decide_eq_true (by first | (with_reducible assumption) | assumption)
                          have q13 : x22_2 < (a0.size : Int) := of_decide_eq_true (by first | (with_reducible assumption) | assumption)
                          have hx13 := bt_at a0 x22_2
                          replace p13 := eq_true p13
                          replace q13 := eq_true q13
                          go_wp2_with (first | ((with_reducible refine gate_callee (f := 64) rfl ?_); refine goesL_ (some 29) rfl rfl Tryd.func64 (by kernel_rfl) rfl #[.int .u8 (bt a0 x22_2)] rfl (by (try simp only [List.map_toArray, List.map_cons, List.map_nil]); first | done | rfl | (simp only [List.length_drop, List.length_take]; rfl)) ?_; (with_reducible refine (chars_small.calls (bt a0 x22_2) false _ ?side1 A14.out).mono ?_); (case side1 => first | exact HGL.out | (repeat (first | exact HGL.out | (with_reducible refine Go.Proofs.YtgdemingopcgaaaDoorX.GL.drewN ?_ _) | (with_reducible refine Go.Proofs.YtgdemingopcgaaaDoorX.GL.drew ?_)))); rintro e w' ⟨rfl, ⟨nd, rfl⟩⟩; refine ⟨_, rfl, ?_⟩) | (go_at_call 65; (with_reducible refine (strings_IndexByte.calls a1 (bt a0 x22_2) t106 _ ?side1 A20.out).mono ?_); (case side1 => first | exact HGL.out | (repeat (first | exact HGL.out | (with_reducible refine Go.Proofs.YtgdemingopcgaaaDoorX.GL.drewN ?_ _) | (with_reducible refine Go.Proofs.YtgdemingopcgaaaDoorX.GL.drew ?_)))); rintro e w' ⟨rfl, ⟨nd, rfl⟩⟩))
                          go_roundg k2
                          case measure => have := HJ2.out; have := HK2.out; omega
                          case rel => exact ⟨(wrap64 (x22_2 + 1)), (by first | rfl | (simp; done) | (simp [*]; done)), H', ⟨by have := HJ2.out; have := HK2.out; omega⟩, by repeat (first | exact Drawn0.refl _ | apply Drawn0.step)⟩
                      · rw [if_neg c19] at H
                        have c19b0 : decide (57 < (bt a0 x22_2)) = false := decide_eq_false c19
                        clear c19
                        have H' := Aside0.mk H
                        clear H
                        have p13 : 0 ≤ (x22_2 : Int) := of_decide_eq_true (by first | (with_reducible assumption) | assumption)
                        have q13 : x22_2 < (a0.size : Int) := of_decide_eq_true (by first | (with_reducible assumption) | assumption)
                        have hx13 := bt_at a0 x22_2
                        replace p13 := eq_true p13
                        replace q13 := eq_true q13
                        go_wp2_with (first | ((with_reducible refine gate_callee (f := 64) rfl ?_); refine goesL_ (some 29) rfl rfl Tryd.func64 (by kernel_rfl) rfl #[.int .u8 (bt a0 x22_2)] rfl (by (try simp only [List.map_toArray, List.map_cons, List.map_nil]); first | done | rfl | (simp only [List.length_drop, List.length_take]; rfl)) ?_; (with_reducible refine (chars_small.calls (bt a0 x22_2) false _ ?side1 A14.out).mono ?_); (case side1 => first | exact HGL.out | (repeat (first | exact HGL.out | (with_reducible refine Go.Proofs.YtgdemingopcgaaaDoorX.GL.drewN ?_ _) | (with_reducible refine Go.Proofs.YtgdemingopcgaaaDoorX.GL.drew ?_)))); rintro e w' ⟨rfl, ⟨nd, rfl⟩⟩; refine ⟨_, rfl, ?_⟩))
                        go_roundg k2
                        case measure => have := HJ2.out; have := HK2.out; omega
                        case rel => exact ⟨(wrap64 (x22_2 + 1)), (by first | rfl | (simp; done) | (simp [*]; done)), H', ⟨by have := HJ2.out; have := HK2.out; omega⟩, by repeat (first | exact Drawn0.refl _ | apply Drawn0.step)⟩
                · rw [if_neg c12] at H
                  exact absurd H (by simp)
              · rw [if_neg c11] at H
                exact absurd H (by simp)
            · rw [if_neg c10] at H
              have c10b0 : decide (x22_2 < (a0.size : Int)) = false := decide_eq_false c10
              clear c10
              obtain rfl := Option.some.inj H
              go_wp2
              go_ret
              exact ⟨by first | rfl | (simp; done) | (simp [*]; done), by repeat (first | exact Drawn0.refl _ | apply Drawn0.step)⟩

def chars_Tag.f (k : Nat) (a0 : ByteArray) : Option (Bool) := (chars_named.f k a0 (⟨#[45]⟩ : ByteArray)).bind fun t107 => (some t107)
theorem chars_Tag.mono : ∀ a0 k, LeO (chars_Tag.f k a0) (chars_Tag.f (k + 1) a0) := by
  intro a0 k
  unfold chars_Tag.f
  repeat' first
      | (with_reducible exact chars_named.mono _ _ _)
      | (with_reducible exact LeO.refl _)
      | (with_reducible exact LeO.none _)
      | (with_reducible refine LeO.ite ?_ ?_)
      | (with_reducible refine LeO.bind ?_ (fun _ => ?_))
      | exact chars_named.mono _ _ _
      | exact LeO.none _
      | refine LeO.ite ?_ ?_
      | refine LeO.bind ?_ (fun _ => ?_)
set_option maxHeartbeats 8000000 in
set_option maxRecDepth 100000 in
theorem chars_Tag.calls (k : Nat) (a0 : ByteArray) (r : Bool) (w : World) (hgl : Go.Proofs.YtgdemingopcgaaaDoorX.GL w) (h : chars_Tag.f k a0 = some r) :
    Calls Tryd.prog 37 #[.string a0] w fun e w' => e = .returned (.bool r) ∧ Drawn0 w w' := by
  have HGL := Aside0.mk hgl
  clear hgl
  have H : ((chars_named.f k a0 (⟨#[45]⟩ : ByteArray)).bind fun t107 => (some t107)) = some r := h
  clear h
  replace H := Option.bind_eq_some_iff.mp H
  obtain ⟨t107, A20, H⟩ := H
  replace H : (some t107) = some r := H
  have A2 := Aside0.mk A20
  clear A20
  obtain rfl := Option.some.inj H
  go_enter Tryd.func37, Tryd.ntmps37
  go_wp2_with (first | ((with_reducible refine gate_callee (f := 54) rfl ?_); refine goesL_ (some 4) rfl rfl Tryd.func54 (by kernel_rfl) rfl #[.string a0, .string (⟨#[45]⟩ : ByteArray)] rfl (by (try simp only [List.map_toArray, List.map_cons, List.map_nil]); first | done | rfl | (simp only [List.length_drop, List.length_take]; rfl)) ?_; (with_reducible refine (chars_named.calls k a0 (⟨#[45]⟩ : ByteArray) t107 _ ?side1 A2.out).mono ?_); (case side1 => first | exact HGL.out | (repeat (first | exact HGL.out | (with_reducible refine Go.Proofs.YtgdemingopcgaaaDoorX.GL.drewN ?_ _) | (with_reducible refine Go.Proofs.YtgdemingopcgaaaDoorX.GL.drew ?_)))); rintro e w' ⟨rfl, ⟨nd, rfl⟩⟩; refine ⟨_, rfl, ?_⟩))
  go_ret
  exact ⟨by first | rfl | (simp; done) | (simp [*]; done), by repeat (first | exact Drawn0.refl _ | apply Drawn0.step)⟩

def chars_Name.f (k : Nat) (a0 : ByteArray) : Option (Bool) := (chars_named.f k a0 (⟨#[45, 58, 46]⟩ : ByteArray)).bind fun t108 => (some t108)
theorem chars_Name.mono : ∀ a0 k, LeO (chars_Name.f k a0) (chars_Name.f (k + 1) a0) := by
  intro a0 k
  unfold chars_Name.f
  repeat' first
      | (with_reducible exact chars_named.mono _ _ _)
      | (with_reducible exact LeO.refl _)
      | (with_reducible exact LeO.none _)
      | (with_reducible refine LeO.ite ?_ ?_)
      | (with_reducible refine LeO.bind ?_ (fun _ => ?_))
      | exact chars_named.mono _ _ _
      | exact LeO.none _
      | refine LeO.ite ?_ ?_
      | refine LeO.bind ?_ (fun _ => ?_)
set_option maxHeartbeats 8000000 in
set_option maxRecDepth 100000 in
theorem chars_Name.calls (k : Nat) (a0 : ByteArray) (r : Bool) (w : World) (hgl : Go.Proofs.YtgdemingopcgaaaDoorX.GL w) (h : chars_Name.f k a0 = some r) :
    Calls Tryd.prog 38 #[.string a0] w fun e w' => e = .returned (.bool r) ∧ Drawn0 w w' := by
  have HGL := Aside0.mk hgl
  clear hgl
  have H : ((chars_named.f k a0 (⟨#[45, 58, 46]⟩ : ByteArray)).bind fun t108 => (some t108)) = some r := h
  clear h
  replace H := Option.bind_eq_some_iff.mp H
  obtain ⟨t108, A20, H⟩ := H
  replace H : (some t108) = some r := H
  have A2 := Aside0.mk A20
  clear A20
  obtain rfl := Option.some.inj H
  go_enter Tryd.func38, Tryd.ntmps38
  go_wp2_with (first | ((with_reducible refine gate_callee (f := 54) rfl ?_); refine goesL_ (some 4) rfl rfl Tryd.func54 (by kernel_rfl) rfl #[.string a0, .string (⟨#[45, 58, 46]⟩ : ByteArray)] rfl (by (try simp only [List.map_toArray, List.map_cons, List.map_nil]); first | done | rfl | (simp only [List.length_drop, List.length_take]; rfl)) ?_; (with_reducible refine (chars_named.calls k a0 (⟨#[45, 58, 46]⟩ : ByteArray) t108 _ ?side1 A2.out).mono ?_); (case side1 => first | exact HGL.out | (repeat (first | exact HGL.out | (with_reducible refine Go.Proofs.YtgdemingopcgaaaDoorX.GL.drewN ?_ _) | (with_reducible refine Go.Proofs.YtgdemingopcgaaaDoorX.GL.drew ?_)))); rintro e w' ⟨rfl, ⟨nd, rfl⟩⟩; refine ⟨_, rfl, ?_⟩))
  go_ret
  exact ⟨by first | rfl | (simp; done) | (simp [*]; done), by repeat (first | exact Drawn0.refl _ | apply Drawn0.step)⟩

def chars_Fits.f (a0 : ByteArray) : Option (Bool) := some (decide ((a0.size : Int) ≤ 65536))
set_option maxHeartbeats 8000000 in
set_option maxRecDepth 100000 in
theorem chars_Fits.calls (a0 : ByteArray) (r : Bool) (w : World) (hgl : Go.Proofs.YtgdemingopcgaaaDoorX.GL w) (h : chars_Fits.f a0 = some r) :
    Calls Tryd.prog 39 #[.string a0] w fun e w' => e = .returned (.bool r) ∧ Drawn0 w w' := by
  have HGL := Aside0.mk hgl
  clear hgl
  have H : (some (decide ((a0.size : Int) ≤ 65536))) = some r := h
  clear h
  obtain rfl := Option.some.inj H
  go_enter Tryd.func39, Tryd.ntmps39
  go_wp2
  go_ret
  exact ⟨by first | rfl | (simp; done) | (simp [*]; done), by repeat (first | exact Drawn0.refl _ | apply Drawn0.step)⟩

def ops_handle.f (a0 : Int) : Option (Bool) := if a0 ≥ 0 then (some (decide (a0 ≤ 4294967295))) else (some false)
set_option maxHeartbeats 8000000 in
set_option maxRecDepth 100000 in
theorem ops_handle.calls (a0 : Int) (r : Bool) (w : World) (hgl : Go.Proofs.YtgdemingopcgaaaDoorX.GL w) (h : ops_handle.f a0 = some r) :
    Calls Tryd.prog 34 #[.int .i64 a0] w fun e w' => e = .returned (.bool r) ∧ Drawn0 w w' := by
  have HGL := Aside0.mk hgl
  clear hgl
  have H : (if a0 ≥ 0 then (some (decide (a0 ≤ 4294967295))) else (some false)) = some r := h
  clear h
  by_cases c2 : a0 ≥ 0
  · rw [if_pos c2] at H
    have c2b0 : decide (0 ≤ a0) = true := decide_eq_true c2
    clear c2
    obtain rfl := Option.some.inj H
    go_enter Tryd.func34, Tryd.ntmps34
    go_wp2
    go_ret
    exact ⟨by first | rfl | (simp; done) | (simp [*]; done), by repeat (first | exact Drawn0.refl _ | apply Drawn0.step)⟩
  · rw [if_neg c2] at H
    have c2b0 : decide (0 ≤ a0) = false := decide_eq_false c2
    clear c2
    obtain rfl := Option.some.inj H
    go_enter Tryd.func34, Tryd.ntmps34
    go_wp2
    go_ret
    exact ⟨by first | rfl | (simp; done) | (simp [*]; done), by repeat (first | exact Drawn0.refl _ | apply Drawn0.step)⟩

def tendrilref25_over.f (a0 : Int) : Option (Bool) := if a0 < 0 then (some true) else (some (decide (a0 > 4294967295)))
set_option maxHeartbeats 8000000 in
set_option maxRecDepth 100000 in
theorem tendrilref25_over.calls (a0 : Int) (r : Bool) (w : World) (hgl : Go.Proofs.YtgdemingopcgaaaDoorX.GL w) (h : tendrilref25_over.f a0 = some r) :
    Calls Tryd.prog 21 #[.int .i64 a0] w fun e w' => e = .returned (.bool r) ∧ Drawn0 w w' := by
  have HGL := Aside0.mk hgl
  clear hgl
  have H : (if a0 < 0 then (some true) else (some (decide (a0 > 4294967295)))) = some r := h
  clear h
  by_cases c2 : a0 < 0
  · rw [if_pos c2] at H
    have c2b0 : decide (a0 < 0) = true := decide_eq_true c2
    clear c2
    obtain rfl := Option.some.inj H
    go_enter Tryd.func21, Tryd.ntmps21
    go_wp2
    go_ret
    exact ⟨by first | rfl | (simp; done) | (simp [*]; done), by repeat (first | exact Drawn0.refl _ | apply Drawn0.step)⟩
  · rw [if_neg c2] at H
    have c2b0 : decide (a0 < 0) = false := decide_eq_false c2
    clear c2
    obtain rfl := Option.some.inj H
    go_enter Tryd.func21, Tryd.ntmps21
    go_wp2
    go_ret
    exact ⟨by first | rfl | (simp; done) | (simp [*]; done), by repeat (first | exact Drawn0.refl _ | apply Drawn0.step)⟩

end Go.Proofs.YtgdemingopcgaaaDoor.P26

namespace Go.Proofs.YtgdemingopcgaaaDoorE
open Go Go.RowKit Go.Proofs.YtgdemingopcgaaaDoorW.PrintWords Go.Proofs.YtgdemingopcgaaaDoorX Go.Proofs.YtgdemingopcgaaaDoor.P26
set_option linter.unusedVariables false
set_option linter.unusedSimpArgs false
def i64 (a : Int) : Prop := -9223372036854775808 ≤ a ∧ a ≤ 9223372036854775807
def itoaS (a : Int) : ByteArray := ⟨(Lib.itoa a).toArray⟩
def oneV (a0 a1 a2 a3 : Int) (b0 b1 b2 b3 : ByteArray) : Value := .agg #[.string (itoaS a0), .string (itoaS a1), .string (itoaS a2), .string (itoaS a3), .string b0, .string b1, .string b2, .string b3, .string ⟨#[]⟩]
theorem itoa_c (a : Int) (h : i64 a) (w : World) (hgl : GL w) : Calls Tryd.prog 53 #[.int .i64 a] w fun e w' => e = .returned (.string (itoaS a)) ∧ Below w.heap.size w w' :=
  strconv_Itoa.calls a (itoaS a) w hgl (by unfold strconv_Itoa.f; rw [if_pos (show -9223372036854775808 ≤ a ∧ a ≤ 9223372036854775807 from h)]; rfl)
theorem cell_blk {w : World} {b j : Nat} {cs : Array Value} {T : TypeId} {fz : Nat × Nat} {v : Value} (h : w.heap[b]? = some (.cells cs T fz)) (hv : cs[j]? = some v) : w.cell? ⟨b, j, none⟩ = some v := by
  rw [Lib.cell_of_heap h]; exact hv
theorem two_old_ (w : World) (a b : Obj) : ((w.alloc a).alloc b).heap[w.heap.size]? = some a := by
  rw [(below_alloc (Below.refl (w.alloc a).heap.size (w.alloc a)) b).block _ (by simp)]
  exact heap_alloc_new w a
theorem two_new_ (w : World) (a b : Obj) : ((w.alloc a).alloc b).heap[w.heap.size + 1]? = some b := by
  have := heap_alloc_new (w.alloc a) b
  simpa using this
theorem set_at_ {w : World} {p : Nat} {cs : Array Value} {T : TypeId} {fz : Nat × Nat} (h : w.heap[p]? = some (.cells cs T fz)) (i : Nat) (v : Value) : (w.setCell ⟨p, i, none⟩ v).heap[p]? = some (.cells (cs.setIfInBounds i v) T fz) := by
  simp [World.setCell, Array.getElem?_modify, h]
theorem then_w {w w1 w2 : World} (h : Below w.heap.size w w1) (k : Below w1.heap.size w1 w2) : Below w.heap.size w w2 := below_then h h.size k
theorem cell_drew {w : World} {a : Addr} {v : Value} (h : w.cell? a = some v) : w.drew.cell? a = some v := h
theorem there_of {w : World} {g : Nat} {cs : Array Value} {T : TypeId} (h : w.heap[g]? = some (.cells cs T (0, 0))) : w.there g 0 cs.size := fun j hj => by
  rw [Nat.zero_add]
  refine ⟨?_, Lib.frozen_of_heap h j⟩
  rw [Lib.cell_of_heap h]
  simp [hj]
theorem there_below {w w1 : World} {g n : Nat} (h : w.there g 0 n) (k : Below w.heap.size w w1) : w1.there g 0 n := fun j hj => by
  obtain ⟨h1, h2⟩ := h j hj
  obtain ⟨v, hv⟩ := Option.isSome_iff_exists.1 h1
  have hlt := World.block_lt_of_cell? w _ hv
  exact ⟨by rw [k.cell hlt, hv]; rfl, (k.frozen (p := ⟨g, 0 + j, none⟩) hlt).trans h2⟩
theorem some_back (w : World) (a x : Addr) (v : Value) (h : ((w.setCell a v).cell? x).isSome = true) : (w.cell? x).isSome = true := by
  unfold World.cell? World.setCell at *
  simp only [Array.getElem?_modify] at h
  by_cases hb : a.block = x.block
  · rw [if_pos hb] at h
    cases hw : w.heap[x.block]? with
    | none => rw [hw] at h; simp at h
    | some o =>
      rw [hw] at h
      cases o with
      | cells c e f =>
        simp only [Option.map_some] at h ⊢
        revert h
        by_cases h1 : x.spot.isSome = true
        · simp [h1]
        · by_cases h2 : a.spot.isSome = true
          · simp [h1, h2]
          · simp only [h1, h2, if_false, Bool.false_eq_true]
            intro h
            rw [Option.isSome_iff_exists] at h ⊢
            obtain ⟨u, hu⟩ := h
            have hlt := (Array.getElem?_eq_some_iff.1 hu).1
            simp at hlt
            exact ⟨_, Array.getElem?_eq_getElem hlt⟩
      | _ => simp_all
  · rw [if_neg hb] at h
    exact h
theorem frozen_set (w : World) (a x : Addr) (v : Value) : (w.setCell a v).frozen? x = w.frozen? x := by
  unfold World.frozen? World.setCell
  simp only [Array.getElem?_modify]
  by_cases hb : a.block = x.block
  · rw [if_pos hb]
    cases hw : w.heap[x.block]? with
    | none => rfl
    | some o => cases o <;> rfl
  · rw [if_neg hb]
theorem there_back (b : Nat) : ∀ (vs : List Value) (o : Nat) (w : World) (g n : Nat), (w.setCells b o vs).there g 0 n → w.there g 0 n
  | [], _, _, _, _, h => h
  | v :: r, o, w, g, n, h => fun j hj => by
    obtain ⟨h1, h2⟩ := there_back b r (o + 1) _ g n h j hj
    exact ⟨some_back _ _ _ _ h1, by rw [← h2]; exact (frozen_set _ _ _ _).symm⟩
theorem info9 : (Tryd.prog.info? 80).map (·.size) = some 9 := by kernel_rfl
set_option maxHeartbeats 4000000 in
set_option maxRecDepth 100000 in
theorem one_c (a0 a1 a2 a3 : Int) (b0 b1 b2 b3 : ByteArray) (v8 : Value) (hv8 : v8.oneCell' = true) (h0 : i64 a0) (h1 : i64 a1) (h2 : i64 a2) (h3 : i64 a3) (w : World) (hgl : GL w) :
    Calls Tryd.prog 52 #[.agg #[.int .i64 a0, .int .i64 a1, .int .i64 a2, .int .i64 a3, .string b0, .string b1, .string b2, .string b3, v8]] w fun e w' => e = .returned (oneV a0 a1 a2 a3 b0 b1 b2 b3) ∧ Below w.heap.size w w' := by
  have HGL := Aside0.mk hgl
  have H0 := Aside0.mk h0
  have H1 := Aside0.mk h1
  have H2 := Aside0.mk h2
  have H3 := Aside0.mk h3
  clear hgl h0 h1 h2 h3
  go_enter Tryd.func52, Tryd.ntmps52
  go_wp2_with fail
  have HBX := two_old_ w (.cells #[.int .i64 a0, .int .i64 a1, .int .i64 a2, .int .i64 a3, .string b0, .string b1, .string b2, .string b3, v8] 24) (.cells #[.string ⟨#[]⟩, .string ⟨#[]⟩, .string ⟨#[]⟩, .string ⟨#[]⟩, .string ⟨#[]⟩, .string ⟨#[]⟩, .string ⟨#[]⟩, .string ⟨#[]⟩, .string ⟨#[]⟩] 80)
  have HBA := two_new_ w (.cells #[.int .i64 a0, .int .i64 a1, .int .i64 a2, .int .i64 a3, .string b0, .string b1, .string b2, .string b3, v8] 24) (.cells #[.string ⟨#[]⟩, .string ⟨#[]⟩, .string ⟨#[]⟩, .string ⟨#[]⟩, .string ⟨#[]⟩, .string ⟨#[]⟩, .string ⟨#[]⟩, .string ⟨#[]⟩, .string ⟨#[]⟩] 80)
  have y0 := cell_blk (j := 0) HBX rfl
  have y1 := cell_blk (j := 1) HBX rfl
  have y2 := cell_blk (j := 2) HBX rfl
  have y3 := cell_blk (j := 3) HBX rfl
  have y4 := cell_blk (j := 4) HBX rfl
  have y5 := cell_blk (j := 5) HBX rfl
  have y6 := cell_blk (j := 6) HBX rfl
  have y7 := cell_blk (j := 7) HBX rfl
  have HARR := Aside0.mk (show World.there _ (w.heap.size + 1) 0 9 from there_of HBA)
  have HBW := Aside0.mk (show Below w.heap.size w ((w.alloc (.cells #[.int .i64 a0, .int .i64 a1, .int .i64 a2, .int .i64 a3, .string b0, .string b1, .string b2, .string b3, v8] 24)).alloc (.cells #[.string ⟨#[]⟩, .string ⟨#[]⟩, .string ⟨#[]⟩, .string ⟨#[]⟩, .string ⟨#[]⟩, .string ⟨#[]⟩, .string ⟨#[]⟩, .string ⟨#[]⟩, .string ⟨#[]⟩] 80)) from below_alloc (below_alloc (Below.refl _ _) _) _)
  have hone : ∀ v ∈ [Value.string (itoaS a0), Value.string (itoaS a1), Value.string (itoaS a2), Value.string (itoaS a3), Value.string b0, Value.string b1, Value.string b2, Value.string b3, Value.string ⟨#[]⟩], v.oneCell' = true := by
    intro v hv
    simp at hv
    rcases hv with rfl | rfl | rfl | rfl | rfl | rfl | rfl | rfl | rfl <;> rfl
  have hinf : Option.map (fun x => x.size) (Tryd.prog.info? 80) = some [Value.string (itoaS a0), Value.string (itoaS a1), Value.string (itoaS a2), Value.string (itoaS a3), Value.string b0, Value.string b1, Value.string b2, Value.string b3, Value.string ⟨#[]⟩].length := info9
  clear HBX HBA
  have HS :  ((((w.alloc (.cells #[.int .i64 a0, .int .i64 a1, .int .i64 a2, .int .i64 a3, .string b0, .string b1, .string b2, .string b3, v8] 24)).alloc (.cells #[.string ⟨#[]⟩, .string ⟨#[]⟩, .string ⟨#[]⟩, .string ⟨#[]⟩, .string ⟨#[]⟩, .string ⟨#[]⟩, .string ⟨#[]⟩, .string ⟨#[]⟩, .string ⟨#[]⟩] 80)).drew).cell? ⟨w.heap.size, 0, none⟩ = some (.int .i64 a0) ∧ (((w.alloc (.cells #[.int .i64 a0, .int .i64 a1, .int .i64 a2, .int .i64 a3, .string b0, .string b1, .string b2, .string b3, v8] 24)).alloc (.cells #[.string ⟨#[]⟩, .string ⟨#[]⟩, .string ⟨#[]⟩, .string ⟨#[]⟩, .string ⟨#[]⟩, .string ⟨#[]⟩, .string ⟨#[]⟩, .string ⟨#[]⟩, .string ⟨#[]⟩] 80)).drew).cell? ⟨w.heap.size, 1, none⟩ = some (.int .i64 a1) ∧ (((w.alloc (.cells #[.int .i64 a0, .int .i64 a1, .int .i64 a2, .int .i64 a3, .string b0, .string b1, .string b2, .string b3, v8] 24)).alloc (.cells #[.string ⟨#[]⟩, .string ⟨#[]⟩, .string ⟨#[]⟩, .string ⟨#[]⟩, .string ⟨#[]⟩, .string ⟨#[]⟩, .string ⟨#[]⟩, .string ⟨#[]⟩, .string ⟨#[]⟩] 80)).drew).cell? ⟨w.heap.size, 2, none⟩ = some (.int .i64 a2) ∧ (((w.alloc (.cells #[.int .i64 a0, .int .i64 a1, .int .i64 a2, .int .i64 a3, .string b0, .string b1, .string b2, .string b3, v8] 24)).alloc (.cells #[.string ⟨#[]⟩, .string ⟨#[]⟩, .string ⟨#[]⟩, .string ⟨#[]⟩, .string ⟨#[]⟩, .string ⟨#[]⟩, .string ⟨#[]⟩, .string ⟨#[]⟩, .string ⟨#[]⟩] 80)).drew).cell? ⟨w.heap.size, 3, none⟩ = some (.int .i64 a3) ∧ (((w.alloc (.cells #[.int .i64 a0, .int .i64 a1, .int .i64 a2, .int .i64 a3, .string b0, .string b1, .string b2, .string b3, v8] 24)).alloc (.cells #[.string ⟨#[]⟩, .string ⟨#[]⟩, .string ⟨#[]⟩, .string ⟨#[]⟩, .string ⟨#[]⟩, .string ⟨#[]⟩, .string ⟨#[]⟩, .string ⟨#[]⟩, .string ⟨#[]⟩] 80)).drew).cell? ⟨w.heap.size, 4, none⟩ = some (.string b0) ∧ (((w.alloc (.cells #[.int .i64 a0, .int .i64 a1, .int .i64 a2, .int .i64 a3, .string b0, .string b1, .string b2, .string b3, v8] 24)).alloc (.cells #[.string ⟨#[]⟩, .string ⟨#[]⟩, .string ⟨#[]⟩, .string ⟨#[]⟩, .string ⟨#[]⟩, .string ⟨#[]⟩, .string ⟨#[]⟩, .string ⟨#[]⟩, .string ⟨#[]⟩] 80)).drew).cell? ⟨w.heap.size, 5, none⟩ = some (.string b1) ∧ (((w.alloc (.cells #[.int .i64 a0, .int .i64 a1, .int .i64 a2, .int .i64 a3, .string b0, .string b1, .string b2, .string b3, v8] 24)).alloc (.cells #[.string ⟨#[]⟩, .string ⟨#[]⟩, .string ⟨#[]⟩, .string ⟨#[]⟩, .string ⟨#[]⟩, .string ⟨#[]⟩, .string ⟨#[]⟩, .string ⟨#[]⟩, .string ⟨#[]⟩] 80)).drew).cell? ⟨w.heap.size, 6, none⟩ = some (.string b2) ∧ (((w.alloc (.cells #[.int .i64 a0, .int .i64 a1, .int .i64 a2, .int .i64 a3, .string b0, .string b1, .string b2, .string b3, v8] 24)).alloc (.cells #[.string ⟨#[]⟩, .string ⟨#[]⟩, .string ⟨#[]⟩, .string ⟨#[]⟩, .string ⟨#[]⟩, .string ⟨#[]⟩, .string ⟨#[]⟩, .string ⟨#[]⟩, .string ⟨#[]⟩] 80)).drew).cell? ⟨w.heap.size, 7, none⟩ = some (.string b3)) ∧ (((w.alloc (.cells #[.int .i64 a0, .int .i64 a1, .int .i64 a2, .int .i64 a3, .string b0, .string b1, .string b2, .string b3, v8] 24)).alloc (.cells #[.string ⟨#[]⟩, .string ⟨#[]⟩, .string ⟨#[]⟩, .string ⟨#[]⟩, .string ⟨#[]⟩, .string ⟨#[]⟩, .string ⟨#[]⟩, .string ⟨#[]⟩, .string ⟨#[]⟩] 80)).drew).there (w.heap.size + 1) 0 9 ∧ Below w.heap.size w (((w.alloc (.cells #[.int .i64 a0, .int .i64 a1, .int .i64 a2, .int .i64 a3, .string b0, .string b1, .string b2, .string b3, v8] 24)).alloc (.cells #[.string ⟨#[]⟩, .string ⟨#[]⟩, .string ⟨#[]⟩, .string ⟨#[]⟩, .string ⟨#[]⟩, .string ⟨#[]⟩, .string ⟨#[]⟩, .string ⟨#[]⟩, .string ⟨#[]⟩] 80)).drew) := ⟨⟨cell_drew y0, cell_drew y1, cell_drew y2, cell_drew y3, cell_drew y4, cell_drew y5, cell_drew y6, cell_drew y7⟩, (World.there_drew _ _ _ _).2 HARR.out, below_drew HBW.out⟩
  clear y0 y1 y2 y3 y4 y5 y6 y7
  go_region_held3 (fun w' => (w'.cell? ⟨w.heap.size, 0, none⟩ = some (.int .i64 a0) ∧ w'.cell? ⟨w.heap.size, 1, none⟩ = some (.int .i64 a1) ∧ w'.cell? ⟨w.heap.size, 2, none⟩ = some (.int .i64 a2) ∧ w'.cell? ⟨w.heap.size, 3, none⟩ = some (.int .i64 a3) ∧ w'.cell? ⟨w.heap.size, 4, none⟩ = some (.string b0) ∧ w'.cell? ⟨w.heap.size, 5, none⟩ = some (.string b1) ∧ w'.cell? ⟨w.heap.size, 6, none⟩ = some (.string b2) ∧ w'.cell? ⟨w.heap.size, 7, none⟩ = some (.string b3)) ∧ w'.there (w.heap.size + 1) 0 9 ∧ Below w.heap.size w w')
    (first
      | with_reducible exact HS
      | (go_split_ands
         with_reducible exact ⟨⟨pw_cell_below hbf (by with_reducible assumption), pw_cell_below hbf (by with_reducible assumption), pw_cell_below hbf (by with_reducible assumption), pw_cell_below hbf (by with_reducible assumption), pw_cell_below hbf (by with_reducible assumption), pw_cell_below hbf (by with_reducible assumption), pw_cell_below hbf (by with_reducible assumption), pw_cell_below hbf (by with_reducible assumption)⟩, there_below (by with_reducible assumption) hbf, then_w (by with_reducible assumption) hbf⟩)
      | (go_split_ands
         with_reducible exact ⟨⟨((World.cell?_setCells_out _ _ _ _ _ (fun h => absurd h (show w.heap.size ≠ w.heap.size + 1 by omega))).trans (by with_reducible assumption)), ((World.cell?_setCells_out _ _ _ _ _ (fun h => absurd h (show w.heap.size ≠ w.heap.size + 1 by omega))).trans (by with_reducible assumption)), ((World.cell?_setCells_out _ _ _ _ _ (fun h => absurd h (show w.heap.size ≠ w.heap.size + 1 by omega))).trans (by with_reducible assumption)), ((World.cell?_setCells_out _ _ _ _ _ (fun h => absurd h (show w.heap.size ≠ w.heap.size + 1 by omega))).trans (by with_reducible assumption)), ((World.cell?_setCells_out _ _ _ _ _ (fun h => absurd h (show w.heap.size ≠ w.heap.size + 1 by omega))).trans (by with_reducible assumption)), ((World.cell?_setCells_out _ _ _ _ _ (fun h => absurd h (show w.heap.size ≠ w.heap.size + 1 by omega))).trans (by with_reducible assumption)), ((World.cell?_setCells_out _ _ _ _ _ (fun h => absurd h (show w.heap.size ≠ w.heap.size + 1 by omega))).trans (by with_reducible assumption)), ((World.cell?_setCells_out _ _ _ _ _ (fun h => absurd h (show w.heap.size ≠ w.heap.size + 1 by omega))).trans (by with_reducible assumption))⟩, World.there_setCells (by with_reducible assumption) _ _ _, Below.trans (by with_reducible assumption) (Lib.below_setCells_w (Nat.le_succ _) _ _ _)⟩))
    (first
      | (go_at_call 53
         go_loud (
         with_reducible refine (itoa_c _ ?hi _ ?hg).mono ?_
         case hi => first | exact H0.out | exact H1.out | exact H2.out | exact H3.out
         case hg => exact HGL.out.below (by first | assumption | (go_split_ands; assumption))
         rintro e w5 ⟨rfl, hbf⟩)))
  go_split_ands
  have hrg := World.rangeAt_setCells_same w5 (w.heap.size + 1) 0 [Value.string (itoaS a0), Value.string (itoaS a1), Value.string (itoaS a2), Value.string (itoaS a3), Value.string b0, Value.string b1, Value.string b2, Value.string b3, Value.string ⟨#[]⟩] (show w5.there (w.heap.size + 1) 0 9 from there_back (w.heap.size + 1) [Value.string (itoaS a0), Value.string (itoaS a1), Value.string (itoaS a2), Value.string (itoaS a3), Value.string b0, Value.string b1, Value.string b2, Value.string b3, Value.string ⟨#[]⟩] 0 w5 (w.heap.size + 1) 9 (by with_reducible assumption))
  have z0 := hrg 0 _ rfl
  have z1 := hrg 1 _ rfl
  have z2 := hrg 2 _ rfl
  have z3 := hrg 3 _ rfl
  have z4 := hrg 4 _ rfl
  have z5 := hrg 5 _ rfl
  have z6 := hrg 6 _ rfl
  have z7 := hrg 7 _ rfl
  have z8 := hrg 8 _ rfl
  have HBF := Aside0.mk (show Below w.heap.size w (w5.setCells (w.heap.size + 1) 0 [Value.string (itoaS a0), Value.string (itoaS a1), Value.string (itoaS a2), Value.string (itoaS a3), Value.string b0, Value.string b1, Value.string b2, Value.string b3, Value.string ⟨#[]⟩]) by assumption)
  clear hrg
  go_wp2_with fail
  refine bodyPost_ret (v := oneV a0 a1 a2 a3 b0 b1 b2 b3) (by unfold oneV; simp [results, Tryd.results52, go_sem, z0, z1, z2, z3, z4, z5, z6, z7, z8]) rfl ⟨rfl, HBF.out⟩
end Go.Proofs.YtgdemingopcgaaaDoorE

namespace Go.Proofs.YtgdemingopcgaaaDoorE
open Go Go.RowKit Go.Proofs.YtgdemingopcgaaaDoorW.PrintWords Go.Proofs.YtgdemingopcgaaaDoorX Go.Proofs.YtgdemingopcgaaaDoor.P26
set_option linter.unusedVariables false
set_option linter.unusedSimpArgs false
def opV (a0 a1 a2 a3 : Int) (b0 b1 b2 b3 : ByteArray) (v8 : Value) : Value := .agg #[.int .i64 a0, .int .i64 a1, .int .i64 a2, .int .i64 a3, .string b0, .string b1, .string b2, .string b3, v8]
abbrev em : ByteArray := ⟨#[]⟩
set_option maxHeartbeats 400000 in
set_option maxRecDepth 100000 in
theorem used_1 (a1 a2 a3 : Int) (b0 b1 b2 b3 : ByteArray) (A : Option Addr) (n c : Nat) (w : World) :
    Calls Tryd.prog 36 #[opV 1 a1 a2 a3 b0 b1 b2 b3 (.slice A n c)] w fun e w' => e = .returned (opV 1 0 0 0 b0 b1 em b3 (.slice A n c)) ∧ Below w.heap.size w w' := by
  unfold opV
  go_enter Tryd.func36, Tryd.ntmps36
  go_wp2_with fail
  go_region
  go_wp2_with fail
  refine bodyPost_ret (v := opV 1 0 0 0 b0 b1 em b3 (.slice A n c)) (by unfold opV; simp [results, Tryd.results36, go_sem]) rfl ⟨rfl, ?_⟩
  repeat (first | exact Below.refl _ _ | apply below_alloc | apply below_drew | apply pw_below_drewN | (refine Below.setCell ?_ (by simp) _))
set_option maxHeartbeats 400000 in
set_option maxRecDepth 100000 in
theorem used_2 (a1 a2 a3 : Int) (b0 b1 b2 b3 : ByteArray) (A : Option Addr) (n c : Nat) (w : World) :
    Calls Tryd.prog 36 #[opV 2 a1 a2 a3 b0 b1 b2 b3 (.slice A n c)] w fun e w' => e = .returned (opV 2 a1 a2 a3 em em em em (.slice none 0 0)) ∧ Below w.heap.size w w' := by
  unfold opV
  go_enter Tryd.func36, Tryd.ntmps36
  go_wp2_with fail
  refine bodyPost_ret (v := opV 2 a1 a2 a3 em em em em (.slice none 0 0)) (by unfold opV; simp [results, Tryd.results36, go_sem]) rfl ⟨rfl, ?_⟩
  repeat (first | exact Below.refl _ _ | apply below_alloc | apply below_drew | apply pw_below_drewN | (refine Below.setCell ?_ (by simp) _))
set_option maxHeartbeats 400000 in
set_option maxRecDepth 100000 in
theorem used_3 (a1 a2 a3 : Int) (b0 b1 b2 b3 : ByteArray) (A : Option Addr) (n c : Nat) (w : World) :
    Calls Tryd.prog 36 #[opV 3 a1 a2 a3 b0 b1 b2 b3 (.slice A n c)] w fun e w' => e = .returned (opV 3 a1 0 a3 em em em em (.slice none 0 0)) ∧ Below w.heap.size w w' := by
  unfold opV
  go_enter Tryd.func36, Tryd.ntmps36
  go_wp2_with fail
  refine bodyPost_ret (v := opV 3 a1 0 a3 em em em em (.slice none 0 0)) (by unfold opV; simp [results, Tryd.results36, go_sem]) rfl ⟨rfl, ?_⟩
  repeat (first | exact Below.refl _ _ | apply below_alloc | apply below_drew | apply pw_below_drewN | (refine Below.setCell ?_ (by simp) _))
set_option maxHeartbeats 400000 in
set_option maxRecDepth 100000 in
theorem used_5 (a1 a2 a3 : Int) (b0 b1 b2 b3 : ByteArray) (A : Option Addr) (n c : Nat) (w : World) :
    Calls Tryd.prog 36 #[opV 5 a1 a2 a3 b0 b1 b2 b3 (.slice A n c)] w fun e w' => e = .returned (opV 5 a1 0 0 em em b2 b3 (.slice none 0 0)) ∧ Below w.heap.size w w' := by
  unfold opV
  go_enter Tryd.func36, Tryd.ntmps36
  go_wp2_with fail
  refine bodyPost_ret (v := opV 5 a1 0 0 em em b2 b3 (.slice none 0 0)) (by unfold opV; simp [results, Tryd.results36, go_sem]) rfl ⟨rfl, ?_⟩
  repeat (first | exact Below.refl _ _ | apply below_alloc | apply below_drew | apply pw_below_drewN | (refine Below.setCell ?_ (by simp) _))
set_option maxHeartbeats 400000 in
set_option maxRecDepth 100000 in
theorem used_7 (a1 a2 a3 : Int) (b0 b1 b2 b3 : ByteArray) (A : Option Addr) (n c : Nat) (w : World) :
    Calls Tryd.prog 36 #[opV 7 a1 a2 a3 b0 b1 b2 b3 (.slice A n c)] w fun e w' => e = .returned (opV 7 a1 0 0 em em em b3 (.slice none 0 0)) ∧ Below w.heap.size w w' := by
  unfold opV
  go_enter Tryd.func36, Tryd.ntmps36
  go_wp2_with fail
  refine bodyPost_ret (v := opV 7 a1 0 0 em em em b3 (.slice none 0 0)) (by unfold opV; simp [results, Tryd.results36, go_sem]) rfl ⟨rfl, ?_⟩
  repeat (first | exact Below.refl _ _ | apply below_alloc | apply below_drew | apply pw_below_drewN | (refine Below.setCell ?_ (by simp) _))
set_option maxHeartbeats 400000 in
set_option maxRecDepth 100000 in
theorem used_6 (a1 a2 a3 : Int) (b0 b1 b2 b3 : ByteArray) (A : Option Addr) (n c : Nat) (w : World) :
    Calls Tryd.prog 36 #[opV 6 a1 a2 a3 b0 b1 b2 b3 (.slice A n c)] w fun e w' => e = .returned (opV 6 a1 0 0 em em b2 em (.slice none 0 0)) ∧ Below w.heap.size w w' := by
  unfold opV
  go_enter Tryd.func36, Tryd.ntmps36
  go_wp2_with fail
  refine bodyPost_ret (v := opV 6 a1 0 0 em em b2 em (.slice none 0 0)) (by unfold opV; simp [results, Tryd.results36, go_sem]) rfl ⟨rfl, ?_⟩
  repeat (first | exact Below.refl _ _ | apply below_alloc | apply below_drew | apply pw_below_drewN | (refine Below.setCell ?_ (by simp) _))
set_option maxHeartbeats 400000 in
set_option maxRecDepth 100000 in
theorem used_4 (a1 a2 a3 : Int) (b0 b1 b2 b3 : ByteArray) (A : Option Addr) (n c : Nat) (w : World) :
    Calls Tryd.prog 36 #[opV 4 a1 a2 a3 b0 b1 b2 b3 (.slice A n c)] w fun e w' => e = .returned (opV 4 a1 0 0 em em em em (.slice none 0 0)) ∧ Below w.heap.size w w' := by
  unfold opV
  go_enter Tryd.func36, Tryd.ntmps36
  go_wp2_with fail
  refine bodyPost_ret (v := opV 4 a1 0 0 em em em em (.slice none 0 0)) (by unfold opV; simp [results, Tryd.results36, go_sem]) rfl ⟨rfl, ?_⟩
  repeat (first | exact Below.refl _ _ | apply below_alloc | apply below_drew | apply pw_below_drewN | (refine Below.setCell ?_ (by simp) _))
end Go.Proofs.YtgdemingopcgaaaDoorE

namespace Go.Proofs.YtgdemingopcgaaaDoorE
open Go Go.RowKit Go.Proofs.YtgdemingopcgaaaDoorW.PrintWords Go.Proofs.YtgdemingopcgaaaDoorX Go.Proofs.YtgdemingopcgaaaDoor.P26
set_option linter.unusedVariables false
set_option linter.unusedSimpArgs false
def lits9 (x0 x1 x2 x3 x4 x5 x6 x7 x8 : ByteArray) : List Lit := [.string x0.data.toList, .string x1.data.toList, .string x2.data.toList, .string x3.data.toList, .string x4.data.toList, .string x5.data.toList, .string x6.data.toList, .string x7.data.toList, .string x8.data.toList]
def val9 (x0 x1 x2 x3 x4 x5 x6 x7 x8 : ByteArray) : Value := .agg #[.string x0, .string x1, .string x2, .string x3, .string x4, .string x5, .string x6, .string x7, .string x8]
theorem cells9 : Tryd.prog.cellsOf 80 = 9 := by kernel_rfl
theorem cellsS : Tryd.prog.cellsOf 9 = 1 := by kernel_rfl
theorem keyT9 : Tryd.prog.keyTypeAt 3 80 = true := by kernel_rfl
theorem keyLits9 (x0 x1 x2 x3 x4 x5 x6 x7 x8 : ByteArray) (h0 : x0.size ≤ maxLen) (h1 : x1.size ≤ maxLen) (h2 : x2.size ≤ maxLen) (h3 : x3.size ≤ maxLen) (h4 : x4.size ≤ maxLen) (h5 : x5.size ≤ maxLen) (h6 : x6.size ≤ maxLen) (h7 : x7.size ≤ maxLen) (h8 : x8.size ≤ maxLen) :
    Tryd.prog.keyLits 3 80 (val9 x0 x1 x2 x3 x4 x5 x6 x7 x8).cells.toList = some (lits9 x0 x1 x2 x3 x4 x5 x6 x7 x8) := by
  unfold Program.keyLits val9 lits9
  simp only [Tryd.underlying80, Value.cells]
  rw [if_pos (by rw [cells9]; rfl), show List.range 9 = [0, 1, 2, 3, 4, 5, 6, 7, 8] from rfl, cellsS]
  simp [Program.keyLits, Tryd.underlying9, h0, h1, h2, h3, h4, h5, h6, h7, h8]
theorem formed9 (x0 x1 x2 x3 x4 x5 x6 x7 x8 : ByteArray) : (val9 x0 x1 x2 x3 x4 x5 x6 x7 x8).formed Tryd.prog 80 = true := by
  simp [val9, Value.formed, Tryd.underlying80, cells9]
def eqB9 (x0 x1 x2 x3 x4 x5 x6 x7 x8 y0 y1 y2 y3 y4 y5 y6 y7 y8 : ByteArray) : Bool := decide (x0 = y0 ∧ x1 = y1 ∧ x2 = y2 ∧ x3 = y3 ∧ x4 = y4 ∧ x5 = y5 ∧ x6 = y6 ∧ x7 = y7 ∧ x8 = y8)
theorem ba_inj {s t : ByteArray} (h : s.data.toList = t.data.toList) : s = t := by
  cases s; cases t
  congr 1
  exact Array.toList_inj.1 h
theorem eqB9_iff (x0 x1 x2 x3 x4 x5 x6 x7 x8 y0 y1 y2 y3 y4 y5 y6 y7 y8 : ByteArray) : eqB9 x0 x1 x2 x3 x4 x5 x6 x7 x8 y0 y1 y2 y3 y4 y5 y6 y7 y8 = true ↔ lits9 x0 x1 x2 x3 x4 x5 x6 x7 x8 = lits9 y0 y1 y2 y3 y4 y5 y6 y7 y8 := by
  unfold eqB9 lits9
  rw [decide_eq_true_iff]
  constructor
  · rintro ⟨rfl, rfl, rfl, rfl, rfl, rfl, rfl, rfl, rfl⟩; rfl
  · intro h
    simp only [List.cons.injEq, Lit.string.injEq, and_true] at h
    obtain ⟨h0, h1, h2, h3, h4, h5, h6, h7, h8⟩ := h
    exact ⟨ba_inj h0, ba_inj h1, ba_inj h2, ba_inj h3, ba_inj h4, ba_inj h5, ba_inj h6, ba_inj h7, ba_inj h8⟩
set_option maxRecDepth 100000 in
theorem eq9 (d : Nat) (w : World) (x0 x1 x2 x3 x4 x5 x6 x7 x8 y0 y1 y2 y3 y4 y5 y6 y7 y8 : ByteArray) (h0 : x0.size ≤ maxLen) (h1 : x1.size ≤ maxLen) (h2 : x2.size ≤ maxLen) (h3 : x3.size ≤ maxLen) (h4 : x4.size ≤ maxLen) (h5 : x5.size ≤ maxLen) (h6 : x6.size ≤ maxLen) (h7 : x7.size ≤ maxLen) (h8 : x8.size ≤ maxLen)
    (g0 : y0.size ≤ maxLen) (g1 : y1.size ≤ maxLen) (g2 : y2.size ≤ maxLen) (g3 : y3.size ≤ maxLen) (g4 : y4.size ≤ maxLen) (g5 : y5.size ≤ maxLen) (g6 : y6.size ≤ maxLen) (g7 : y7.size ≤ maxLen) (g8 : y8.size ≤ maxLen) :
    (Op.equalIn (d + 3) 80 (val9 x0 x1 x2 x3 x4 x5 x6 x7 x8) (val9 y0 y1 y2 y3 y4 y5 y6 y7 y8)).run Tryd.prog w = .ok (eqB9 x0 x1 x2 x3 x4 x5 x6 x7 x8 y0 y1 y2 y3 y4 y5 y6 y7 y8) w := by
  obtain ⟨r, hr, hi⟩ := run_equalIn_deep d 3 80 keyT9 w 3 3 _ _ _ _ (formed9 x0 x1 x2 x3 x4 x5 x6 x7 x8) (formed9 y0 y1 y2 y3 y4 y5 y6 y7 y8) (keyLits9 x0 x1 x2 x3 x4 x5 x6 x7 x8 h0 h1 h2 h3 h4 h5 h6 h7 h8) (keyLits9 y0 y1 y2 y3 y4 y5 y6 y7 y8 g0 g1 g2 g3 g4 g5 g6 g7 g8)
  rw [hr]
  congr 1
  rw [Bool.eq_iff_iff, hi, eqB9_iff]
theorem itoaS_size (a : Int) (h : i64 a) : (itoaS a).size ≤ maxLen := by
  have := Lib.itoa_length_le a h.1 h.2
  show (Lib.itoa a).toArray.size ≤ _
  rw [List.size_toArray]
  unfold maxLen
  omega
/-- What ops.same answers. -/
def sameB (t : Bool) (a0 a1 a2 a3 : Int) (b0 b1 b2 b3 : ByteArray) (c0 c1 c2 c3 : Int) (d0 d1 d2 d3 : ByteArray) : Bool :=
  t && eqB9 (itoaS a0) (itoaS a1) (itoaS a2) (itoaS a3) b0 b1 b2 b3 ⟨#[]⟩ (itoaS c0) (itoaS c1) (itoaS c2) (itoaS c3) d0 d1 d2 d3 ⟨#[]⟩
set_option maxHeartbeats 1000000 in
set_option maxRecDepth 100000 in
theorem same_c (k : Nat) (t : Bool) (a0 a1 a2 a3 : Int) (b0 b1 b2 b3 : ByteArray) (A : Option Addr) (cA : Nat) (l : List S51) (c0 c1 c2 c3 : Int) (d0 d1 d2 d3 : ByteArray) (A' : Option Addr) (cA' : Nat) (m : List S51)
    (ha0 : i64 a0) (ha1 : i64 a1) (ha2 : i64 a2) (ha3 : i64 a3) (hb0 : b0.size ≤ maxLen) (hb1 : b1.size ≤ maxLen) (hb2 : b2.size ≤ maxLen) (hb3 : b3.size ≤ maxLen)
    (hc0 : i64 c0) (hc1 : i64 c1) (hc2 : i64 c2) (hc3 : i64 c3) (hd0 : d0.size ≤ maxLen) (hd1 : d1.size ≤ maxLen) (hd2 : d2.size ≤ maxLen) (hd3 : d3.size ≤ maxLen)
    (w : World) (hgl : GL w) (hl : Kd.C k51 w A l.length l) (hlc : l.length ≤ cA) (hm : Kd.C k51 w A' m.length m) (hmc : m.length ≤ cA') (ht : api_Attr.f k l m = some t) :
    Calls Tryd.prog 35 #[opV a0 a1 a2 a3 b0 b1 b2 b3 (.slice A l.length cA), opV c0 c1 c2 c3 d0 d1 d2 d3 (.slice A' m.length cA')] w fun e w' => e = .returned (.bool (sameB t a0 a1 a2 a3 b0 b1 b2 b3 c0 c1 c2 c3 d0 d1 d2 d3)) ∧ Below w.heap.size w w' := by
  have he : (⟨#[]⟩ : ByteArray).size ≤ maxLen := by unfold maxLen; show 0 ≤ _; omega
  have HE := Aside0.mk (fun (d : Nat) (w : World) => eq9 d w (itoaS a0) (itoaS a1) (itoaS a2) (itoaS a3) b0 b1 b2 b3 ⟨#[]⟩ (itoaS c0) (itoaS c1) (itoaS c2) (itoaS c3) d0 d1 d2 d3 ⟨#[]⟩ (itoaS_size _ ha0) (itoaS_size _ ha1) (itoaS_size _ ha2) (itoaS_size _ ha3) hb0 hb1 hb2 hb3 he (itoaS_size _ hc0) (itoaS_size _ hc1) (itoaS_size _ hc2) (itoaS_size _ hc3) hd0 hd1 hd2 hd3 he)
  have HGL := Aside0.mk hgl
  have HL := Aside0.mk hl
  have HM := Aside0.mk hm
  have HT := Aside0.mk ht
  have HI := Aside0.mk (And.intro ha0 (And.intro ha1 (And.intro ha2 (And.intro ha3 (And.intro hc0 (And.intro hc1 (And.intro hc2 hc3)))))))
  clear hgl hl hm ht ha0 ha1 ha2 ha3 hc0 hc1 hc2 hc3 hb0 hb1 hb2 hb3 hd0 hd1 hd2 hd3 he
  unfold opV
  cases t with
  | false =>
    go_enter Tryd.func35, Tryd.ntmps35
    go_wp2_with (go_at_call 51; go_loud (refine (api_Attr.calls k A cA l A' cA' m false _ (HGL.out.below (below_alloc (below_alloc (Below.refl _ _) _) _)) (Kd.C_alloc (Kd.C_alloc HL.out _) _) hlc (Kd.C_alloc (Kd.C_alloc HM.out _) _) hmc HT.out).mono ?_); rintro e w1 ⟨rfl, hd⟩; have hb := hd.below; have HB1 := Aside0.mk (below_then (below_alloc (below_alloc (Below.refl w.heap.size w) _) _) (by simp; omega) hb); clear hd hb)
    go_ret
    exact ⟨by simp [sameB], HB1.out⟩
  | true =>
    have hX := two_old_ w (.cells #[.int .i64 a0, .int .i64 a1, .int .i64 a2, .int .i64 a3, .string b0, .string b1, .string b2, .string b3, .slice A l.length cA] 24) (.cells #[.int .i64 c0, .int .i64 c1, .int .i64 c2, .int .i64 c3, .string d0, .string d1, .string d2, .string d3, .slice A' m.length cA'] 24)
    have hY := two_new_ w (.cells #[.int .i64 a0, .int .i64 a1, .int .i64 a2, .int .i64 a3, .string b0, .string b1, .string b2, .string b3, .slice A l.length cA] 24) (.cells #[.int .i64 c0, .int .i64 c1, .int .i64 c2, .int .i64 c3, .string d0, .string d1, .string d2, .string d3, .slice A' m.length cA'] 24)
    go_enter Tryd.func35, Tryd.ntmps35
    go_wp2_with (go_at_call 51; go_loud (refine (api_Attr.calls k A cA l A' cA' m true _ (HGL.out.below (below_alloc (below_alloc (Below.refl _ _) _) _)) (Kd.C_alloc (Kd.C_alloc HL.out _) _) hlc (Kd.C_alloc (Kd.C_alloc HM.out _) _) hmc HT.out).mono ?_); rintro e w1 ⟨rfl, hd⟩; have hb := hd.below; have HB1 := Aside0.mk (below_then (below_alloc (below_alloc (Below.refl w.heap.size w) _) _) (by simp; omega) hb); have HX := Aside0.mk ((hb.block _ (blk_lt hX)).trans hX); have HY := Aside0.mk ((hb.block _ (blk_lt hY)).trans hY); clear hd hb)
    clear hX hY
    have HS : (w1.drew.cell? ⟨w.heap.size, 0, none⟩ = some (.int .i64 a0) ∧ w1.drew.cell? ⟨w.heap.size, 1, none⟩ = some (.int .i64 a1) ∧ w1.drew.cell? ⟨w.heap.size, 2, none⟩ = some (.int .i64 a2) ∧ w1.drew.cell? ⟨w.heap.size, 3, none⟩ = some (.int .i64 a3) ∧ w1.drew.cell? ⟨w.heap.size, 4, none⟩ = some (.string b0) ∧ w1.drew.cell? ⟨w.heap.size, 5, none⟩ = some (.string b1) ∧ w1.drew.cell? ⟨w.heap.size, 6, none⟩ = some (.string b2) ∧ w1.drew.cell? ⟨w.heap.size, 7, none⟩ = some (.string b3) ∧ w1.drew.cell? ⟨w.heap.size, 8, none⟩ = some (.slice A l.length cA)) ∧ (w1.drew.cell? ⟨w.heap.size + 1, 0, none⟩ = some (.int .i64 c0) ∧ w1.drew.cell? ⟨w.heap.size + 1, 1, none⟩ = some (.int .i64 c1) ∧ w1.drew.cell? ⟨w.heap.size + 1, 2, none⟩ = some (.int .i64 c2) ∧ w1.drew.cell? ⟨w.heap.size + 1, 3, none⟩ = some (.int .i64 c3) ∧ w1.drew.cell? ⟨w.heap.size + 1, 4, none⟩ = some (.string d0) ∧ w1.drew.cell? ⟨w.heap.size + 1, 5, none⟩ = some (.string d1) ∧ w1.drew.cell? ⟨w.heap.size + 1, 6, none⟩ = some (.string d2) ∧ w1.drew.cell? ⟨w.heap.size + 1, 7, none⟩ = some (.string d3) ∧ w1.drew.cell? ⟨w.heap.size + 1, 8, none⟩ = some (.slice A' m.length cA')) ∧ Below w.heap.size w w1.drew := ⟨⟨cell_drew (cell_blk (j := 0) HX.out rfl), cell_drew (cell_blk (j := 1) HX.out rfl), cell_drew (cell_blk (j := 2) HX.out rfl), cell_drew (cell_blk (j := 3) HX.out rfl), cell_drew (cell_blk (j := 4) HX.out rfl), cell_drew (cell_blk (j := 5) HX.out rfl), cell_drew (cell_blk (j := 6) HX.out rfl), cell_drew (cell_blk (j := 7) HX.out rfl), cell_drew (cell_blk (j := 8) HX.out rfl)⟩, ⟨cell_drew (cell_blk (j := 0) HY.out rfl), cell_drew (cell_blk (j := 1) HY.out rfl), cell_drew (cell_blk (j := 2) HY.out rfl), cell_drew (cell_blk (j := 3) HY.out rfl), cell_drew (cell_blk (j := 4) HY.out rfl), cell_drew (cell_blk (j := 5) HY.out rfl), cell_drew (cell_blk (j := 6) HY.out rfl), cell_drew (cell_blk (j := 7) HY.out rfl), cell_drew (cell_blk (j := 8) HY.out rfl)⟩, below_drew HB1.out⟩
    have heq := HE.out
    unfold val9 at heq
    go_wp2_with fail
    go_region_held3 (fun w' => (w'.cell? ⟨w.heap.size, 0, none⟩ = some (.int .i64 a0) ∧ w'.cell? ⟨w.heap.size, 1, none⟩ = some (.int .i64 a1) ∧ w'.cell? ⟨w.heap.size, 2, none⟩ = some (.int .i64 a2) ∧ w'.cell? ⟨w.heap.size, 3, none⟩ = some (.int .i64 a3) ∧ w'.cell? ⟨w.heap.size, 4, none⟩ = some (.string b0) ∧ w'.cell? ⟨w.heap.size, 5, none⟩ = some (.string b1) ∧ w'.cell? ⟨w.heap.size, 6, none⟩ = some (.string b2) ∧ w'.cell? ⟨w.heap.size, 7, none⟩ = some (.string b3) ∧ w'.cell? ⟨w.heap.size, 8, none⟩ = some (.slice A l.length cA)) ∧ (w'.cell? ⟨w.heap.size + 1, 0, none⟩ = some (.int .i64 c0) ∧ w'.cell? ⟨w.heap.size + 1, 1, none⟩ = some (.int .i64 c1) ∧ w'.cell? ⟨w.heap.size + 1, 2, none⟩ = some (.int .i64 c2) ∧ w'.cell? ⟨w.heap.size + 1, 3, none⟩ = some (.int .i64 c3) ∧ w'.cell? ⟨w.heap.size + 1, 4, none⟩ = some (.string d0) ∧ w'.cell? ⟨w.heap.size + 1, 5, none⟩ = some (.string d1) ∧ w'.cell? ⟨w.heap.size + 1, 6, none⟩ = some (.string d2) ∧ w'.cell? ⟨w.heap.size + 1, 7, none⟩ = some (.string d3) ∧ w'.cell? ⟨w.heap.size + 1, 8, none⟩ = some (.slice A' m.length cA')) ∧ Below w.heap.size w w')
      (first
        | with_reducible exact HS
        | (go_split_ands
           with_reducible exact ⟨⟨pw_cell_below hbf (by with_reducible assumption), pw_cell_below hbf (by with_reducible assumption), pw_cell_below hbf (by with_reducible assumption), pw_cell_below hbf (by with_reducible assumption), pw_cell_below hbf (by with_reducible assumption), pw_cell_below hbf (by with_reducible assumption), pw_cell_below hbf (by with_reducible assumption), pw_cell_below hbf (by with_reducible assumption), pw_cell_below hbf (by with_reducible assumption)⟩, ⟨pw_cell_below hbf (by with_reducible assumption), pw_cell_below hbf (by with_reducible assumption), pw_cell_below hbf (by with_reducible assumption), pw_cell_below hbf (by with_reducible assumption), pw_cell_below hbf (by with_reducible assumption), pw_cell_below hbf (by with_reducible assumption), pw_cell_below hbf (by with_reducible assumption), pw_cell_below hbf (by with_reducible assumption), pw_cell_below hbf (by with_reducible assumption)⟩, then_w (by with_reducible assumption) hbf⟩))
      (first
        | (go_at_call 52
           go_loud (
           with_reducible refine (one_c _ _ _ _ _ _ _ _ _ rfl ?h0 ?h1 ?h2 ?h3 _ ?hg).mono ?_
           case h0 => first | exact HI.out.1 | exact HI.out.2.2.2.2.1
           case h1 => first | exact HI.out.2.1 | exact HI.out.2.2.2.2.2.1
           case h2 => first | exact HI.out.2.2.1 | exact HI.out.2.2.2.2.2.2.1
           case h3 => first | exact HI.out.2.2.2.1 | exact HI.out.2.2.2.2.2.2.2
           case hg => exact HGL.out.below (by first | with_reducible assumption | (go_split_ands; with_reducible assumption))
           rintro e w5 ⟨rfl, hbf⟩
           unfold oneV)))
    go_split_ands
    have HBF := Aside0.mk (show Below w.heap.size w w5 by with_reducible assumption)
    clear heq
    go_wp2_with fail
    go_ret
    exact ⟨by simp [sameB], HBF.out⟩
end Go.Proofs.YtgdemingopcgaaaDoorE

namespace Go.Proofs.YtgdemingopcgaaaDoorE
open Go Go.RowKit Go.Proofs.YtgdemingopcgaaaDoorW.PrintWords Go.Proofs.YtgdemingopcgaaaDoorX Go.Proofs.YtgdemingopcgaaaDoor.P26
set_option linter.unusedVariables false
set_option linter.unusedSimpArgs false
/-- attrs.Check from the i-th on, d to go; nm: which names may be. -/
def attrsN (l : List S51) (nm : Nat → Bool) : Nat → Nat → Int × Int
  | 0, _ => (0, 0)
  | d + 1, i =>
    if i = 64 then ((i : Int), 12)
    else if nm i = true then
      (if (rd_T51 l i).f1.size > 65536 then ((i : Int), 3)
       else if i > 0 ∧ (rd_T51 l (i - 1 : Nat)).f0 = (rd_T51 l i).f0 then ((i : Int), 10)
       else if i > 0 ∧ Op.bytesLess (rd_T51 l (i - 1 : Nat)).f0.toList (rd_T51 l i).f0.toList = false then ((i : Int), 9)
       else attrsN l nm d (i + 1))
    else ((i : Int), 8)
theorem str_ne {s t : ByteArray} (h : s ≠ t) : (s.toList == t.toList) = false := by
  rw [beq_eq_false_iff_ne]
  intro e
  rw [ByteArray.toList_eq, ByteArray.toList_eq] at e
  exact h (ba_inj e)
set_option maxHeartbeats 1000000 in
set_option maxRecDepth 100000 in
theorem attrs_Check_c (A : Option Addr) (c : Nat) (l : List S51) (nm : Nat → Bool) (w : World) (hgl : GL w) (hl : Kd.C k51 w A l.length l) (hc : l.length ≤ c) (hn : ∀ i : Nat, i < l.length → ∃ k, chars_Name.f k (rd_T51 l i).f0 = some (nm i)) :
    Calls Tryd.prog 40 #[.slice A l.length c] w fun e w' => e = .returned (.tuple #[.int .i64 (attrsN l nm l.length 0).1, .int .i64 (attrsN l nm l.length 0).2]) ∧ Below w.heap.size w w' := by
  have HGL := Aside0.mk hgl
  have HL := Aside0.mk hl
  have HN := Aside0.mk hn
  have hmax := hl.2.1
  clear hgl hl hn
  obtain ⟨R, hR⟩ : ∃ R, R = attrsN l nm l.length 0 := ⟨_, rfl⟩
  rw [← hR]
  have HR := Aside0.mk hR
  clear hR
  go_enter Tryd.func40, Tryd.ntmps40
  go_wp2_with fail
  go_loopw [9] (fun i wr => ∃ k : Nat, k ≤ l.length ∧ i = .int .i64 k ∧ Below w.heap.size w wr ∧ attrsN l nm (l.length - k) k = R ∧ k ≤ 64) (fun i _ => l.length - (intOf i).toNat)
  case atStart => exact ⟨0, Nat.zero_le _, rfl, Below.refl _ _, by rw [HR.out]; rfl, by omega⟩
  case round =>
    obtain ⟨k, hk, rfl, hb, hr, hk64⟩ := hrel
    have HB := Aside0.mk hb
    have HRR := Aside0.mk hr
    clear hb hr
    by_cases hlt : k < l.length
    · obtain ⟨ad, rfl, e0, e1⟩ := at_T51 HL.out (k : Int) (by omega) (by omega)
      rw [Int.toNat_natCast] at e0 e1
      have d0 := pw_cell_below HB.out e0
      have d1 := pw_cell_below HB.out e1
      clear e0 e1
      obtain ⟨X, hX⟩ : ∃ X, X = rd_T51 l (k : Int) := ⟨_, rfl⟩
      rw [← hX] at d0 d1
      obtain ⟨d, hd⟩ : ∃ d, l.length - k = d + 1 := ⟨l.length - k - 1, by omega⟩
      have hun : R = if k = 64 then ((k : Int), 12) else if nm k = true then (if X.f1.size > 65536 then ((k : Int), 3) else if k > 0 ∧ (rd_T51 l (k - 1 : Nat)).f0 = X.f0 then ((k : Int), 10) else if k > 0 ∧ Op.bytesLess (rd_T51 l (k - 1 : Nat)).f0.toList X.f0.toList = false then ((k : Int), 9) else attrsN l nm d (k + 1)) else ((k : Int), 8) := by
        rw [← HRR.out, hd, hX]; rfl
      have HU := Aside0.mk hun
      have HX := Aside0.mk hX
      have HD := Aside0.mk hd
      clear hun hX hd
      by_cases h64 : k = 64
      · have hm : ((k : Int) == 64) = true := by simp; omega
        have HE : Aside0 (R = ((k : Int), 12)) := ⟨by rw [HU.out, if_pos h64]⟩
        clear h64
        go_wp2_with fail
        go_ret2
        exact ⟨by rw [HE.out]; rfl, below_alloc HB.out _⟩
      · have hm : ((k : Int) == 64) = false := by simp; omega
        obtain ⟨kq, hkq⟩ := HN.out k hlt
        rw [← HX.out] at hkq
        have HQ := Aside0.mk hkq
        have hs0 : (X.f1.size : Int) < 9223372036854775808 ∨ True := Or.inr trivial
        clear hkq hs0
        cases hnm : nm k with
        | false =>
          have HE : Aside0 (R = ((k : Int), 8)) := ⟨by rw [HU.out, if_neg h64, hnm, if_neg (by decide)]⟩
          rw [hnm] at HQ
          clear hnm h64
          go_wp2_with (go_at_call 38; go_loud (refine (chars_Name.calls kq _ false _ (HGL.out.below (below_alloc HB.out _)) HQ.out).mono ?_); rintro e w1 ⟨rfl, hd⟩; have HB1 := Aside0.mk (below_then (below_alloc HB.out _) (below_alloc HB.out _).size hd.below); clear hd)
          go_ret2
          exact ⟨by rw [HE.out]; rfl, HB1.out⟩
        | true =>
          rw [hnm] at HQ
          have HU1 : Aside0 (R = if X.f1.size > 65536 then ((k : Int), 3) else if k > 0 ∧ (rd_T51 l (k - 1 : Nat)).f0 = X.f0 then ((k : Int), 10) else if k > 0 ∧ Op.bytesLess (rd_T51 l (k - 1 : Nat)).f0.toList X.f0.toList = false then ((k : Int), 9) else attrsN l nm d (k + 1)) := ⟨by rw [HU.out, if_neg h64, hnm, if_pos rfl]⟩
          clear hnm HU
          have H64 := Aside0.mk h64
          clear h64
          have hbx := heap_alloc_new wr (.cells #[.string X.f0, .string X.f1] 51)
          by_cases hbig : X.f1.size > 65536
          · have HE : Aside0 (R = ((k : Int), 3)) := ⟨by rw [HU1.out, if_pos hbig]⟩
            go_wp2_with (first
              | (go_at_call 38; go_loud (refine (chars_Name.calls kq _ true _ (HGL.out.below (below_alloc HB.out _)) HQ.out).mono ?_); rintro e w1 ⟨rfl, hd⟩; have hb := hd.below; have HB1 := Aside0.mk (below_then (below_alloc HB.out _) (below_alloc HB.out _).size hb); have HX1 := Aside0.mk ((hb.block _ (blk_lt hbx)).trans hbx); have q0 := cell_blk (j := 0) HX1.out rfl; have q1 := cell_blk (j := 1) HX1.out rfl; clear hd hb)
              | (go_at_call 39; go_loud (refine (chars_Fits.calls _ false _ (HGL.out.below HB1.out) (by unfold chars_Fits.f; rw [decide_eq_false (by omega)])).mono ?_); rintro e w2 ⟨rfl, hd⟩; have HB2 := Aside0.mk (below_then HB1.out HB1.out.size hd.below); clear hd))
            go_ret2
            exact ⟨by rw [HE.out]; rfl, HB2.out⟩
          · have HU2 : Aside0 (R = if k > 0 ∧ (rd_T51 l (k - 1 : Nat)).f0 = X.f0 then ((k : Int), 10) else if k > 0 ∧ Op.bytesLess (rd_T51 l (k - 1 : Nat)).f0.toList X.f0.toList = false then ((k : Int), 9) else attrsN l nm d (k + 1)) := ⟨by rw [HU1.out, if_neg hbig]⟩
            clear HU1
            by_cases hk0 : 0 < k
            · obtain ⟨ad', had, e0, -⟩ := at_T51 HL.out ((k - 1 : Nat) : Int) (by omega) (by omega)
              injection had with had
              subst had
              rw [Int.toNat_natCast] at e0
              have d2 := pw_cell_below HB.out e0
              obtain ⟨Pv, hP⟩ : ∃ Pv, Pv = (rd_T51 l ((k - 1 : Nat) : Int)).f0 := ⟨_, rfl⟩
              rw [← hP] at d2 HU2
              have hkm : IntKind.i64.wrap ((k : Int) - 1) = ((k - 1 : Nat) : Int) := by rw [IntWalk.i64_in _ (by omega)]; omega
              clear hP e0
              go_wp2_with (first
              | (go_at_call 38; go_loud (refine (chars_Name.calls kq _ true _ (HGL.out.below (below_alloc HB.out _)) HQ.out).mono ?_); rintro e w1 ⟨rfl, hd⟩; have hb := hd.below; have HB1 := Aside0.mk (below_then (below_alloc HB.out _) (below_alloc HB.out _).size hb); have HX1 := Aside0.mk ((hb.block _ (blk_lt hbx)).trans hbx); have q0 := cell_blk (j := 0) HX1.out rfl; have q1 := cell_blk (j := 1) HX1.out rfl; have HBD1 := Aside0.mk (below_then (below_alloc (Below.refl wr.heap.size wr) _) (by simp) hb); clear hd hb)
              | (go_at_call 39; go_loud (refine (chars_Fits.calls _ true _ (HGL.out.below HB1.out) (by unfold chars_Fits.f; rw [decide_eq_true (by omega)])).mono ?_); rintro e w2 ⟨rfl, hd⟩; have hb := hd.below; have HB2 := Aside0.mk (below_then HB1.out HB1.out.size hb); have HX2 := Aside0.mk ((hb.block _ (blk_lt HX1.out)).trans HX1.out); have r0 := cell_blk (j := 0) HX2.out rfl; have r1 := cell_blk (j := 1) HX2.out rfl; have HBD2 := Aside0.mk (below_then HBD1.out HBD1.out.size hb); clear hd hb q0 q1))
              have s2 := pw_cell_below HBD2.out d2
              have hb1 : ((k - 1 : Nat) : Int) < (l.length : Int) := by omega
              have hb0 : (0 : Int) ≤ ((k - 1 : Nat) : Int) := by omega
              have hkp : (0 : Int) < (k : Int) := by omega
              by_cases heq : Pv = X.f0
              · have HE : Aside0 (R = ((k : Int), 10)) := ⟨by rw [HU2.out, if_pos ⟨hk0, heq⟩]⟩
                subst heq
                go_quiet (fail)
                go_wp2_with fail
                go_ret2
                exact ⟨by rw [HE.out]; rfl, pw_below_drewN HB2.out _⟩
              · have hne := str_ne heq
                have HU3 : Aside0 (R = if k > 0 ∧ Op.bytesLess Pv.toList X.f0.toList = false then ((k : Int), 9) else attrsN l nm d (k + 1)) := ⟨by rw [HU2.out, if_neg (fun h => heq h.2)]⟩
                clear heq HU2
                go_quiet (fail)
                go_wp2_with fail
                cases hlss : Op.bytesLess Pv.toList X.f0.toList with
                | false =>
                  have HE : Aside0 (R = ((k : Int), 9)) := ⟨by rw [HU3.out, if_pos ⟨hk0, hlss⟩]⟩
                  clear HU3
                  go_quiet (fail)
                  go_wp2_with fail
                  go_ret2
                  exact ⟨by rw [HE.out]; rfl, pw_below_drewN HB2.out _⟩
                | true =>
                  have HN3 : Aside0 (attrsN l nm d (k + 1) = R) := ⟨by rw [HU3.out, if_neg (fun h => by rw [hlss] at h; exact absurd h.2 (by decide))]⟩
                  clear HU3
                  go_quiet (fail)
                  go_wp2_with fail
                  go_roundw
                  case rel => exact ⟨k + 1, by omega, by go_num, pw_below_drewN HB2.out _, by rw [show l.length - (k + 1) = d by have := HD.out; omega]; exact HN3.out, by have := H64.out; omega⟩
                  case measure => simp [intOf]; omega
            · have hk1 : ¬ ((0 : Int) < (k : Int)) := by omega
              have hgt : decide ((0 : Int) < (k : Int)) = false := by simpa using hk1
              have HN3 : Aside0 (attrsN l nm d (k + 1) = R) := ⟨by rw [HU2.out, if_neg (fun h => hk0 h.1), if_neg (fun h => hk0 h.1)]⟩
              clear HU2
              go_wp2_with (first
              | (go_at_call 38; go_loud (refine (chars_Name.calls kq _ true _ (HGL.out.below (below_alloc HB.out _)) HQ.out).mono ?_); rintro e w1 ⟨rfl, hd⟩; have hb := hd.below; have HB1 := Aside0.mk (below_then (below_alloc HB.out _) (below_alloc HB.out _).size hb); have HX1 := Aside0.mk ((hb.block _ (blk_lt hbx)).trans hbx); have q0 := cell_blk (j := 0) HX1.out rfl; have q1 := cell_blk (j := 1) HX1.out rfl; have HBD1 := Aside0.mk (below_then (below_alloc (Below.refl wr.heap.size wr) _) (by simp) hb); clear hd hb)
              | (go_at_call 39; go_loud (refine (chars_Fits.calls _ true _ (HGL.out.below HB1.out) (by unfold chars_Fits.f; rw [decide_eq_true (by omega)])).mono ?_); rintro e w2 ⟨rfl, hd⟩; have hb := hd.below; have HB2 := Aside0.mk (below_then HB1.out HB1.out.size hb); have HX2 := Aside0.mk ((hb.block _ (blk_lt HX1.out)).trans HX1.out); have r0 := cell_blk (j := 0) HX2.out rfl; have r1 := cell_blk (j := 1) HX2.out rfl; have HBD2 := Aside0.mk (below_then HBD1.out HBD1.out.size hb); clear hd hb q0 q1))
              go_quiet (fail)
              go_wp2_with fail
              go_quiet (fail)
              go_wp2_with fail
              go_roundw
              case rel => exact ⟨k + 1, by omega, by go_num, pw_below_drewN HB2.out _, by rw [show l.length - (k + 1) = d by have := HD.out; omega]; exact HN3.out, by have := H64.out; omega⟩
              case measure => simp [intOf]; omega
    · obtain rfl : k = l.length := by omega
      have HE : Aside0 (R = (0, 0)) := ⟨by rw [← HRR.out]; simp [attrsN]⟩
      go_wp2_with fail
      go_ret2
      exact ⟨by rw [HE.out]; rfl, HB.out⟩
end Go.Proofs.YtgdemingopcgaaaDoorE

namespace Go.Proofs.YtgdemingopcgaaaDoorE
open Go Go.RowKit Go.Proofs.YtgdemingopcgaaaDoorW.PrintWords Go.Proofs.YtgdemingopcgaaaDoorX Go.Proofs.YtgdemingopcgaaaDoor.P26
set_option linter.unusedVariables false
set_option linter.unusedSimpArgs false
/-- Is a field that a kind does not use not zero? -/
def noneO (x : S24) : Bool :=
  (decide (x.f0 ≠ 1) && (decide (x.f4.size ≠ 0) || decide (x.f5.size ≠ 0) || decide (x.f8 ≠ []))) ||
  (decide (x.f0 = 1) && decide (x.f1 ≠ 0) || decide (x.f0 ≠ 2) && decide (x.f2 ≠ 0) || decide (x.f0 ≠ 2) && decide (x.f0 ≠ 3) && decide (x.f3 ≠ 0)) ||
  (decide (x.f0 ≠ 5) && decide (x.f0 ≠ 6) && decide (x.f6.size ≠ 0) || decide (x.f0 ≠ 1) && decide (x.f0 ≠ 5) && decide (x.f0 ≠ 7) && decide (x.f7.size ≠ 0))
def okO (x : S24) : Prop := i64 x.f0 ∧ i64 x.f1 ∧ i64 x.f2 ∧ i64 x.f3 ∧ x.f4.size ≤ maxLen ∧ x.f5.size ≤ maxLen ∧ x.f6.size ≤ maxLen ∧ x.f7.size ≤ maxLen
def overO (n : Int) : Bool := decide (n < 0) || decide (n > 4294967295)
/-- What ops.Check answers; tg, nm: whether the Tag and the Name may be; na: the attributes' names. -/
def checkO (x : S24) (tg nm : Bool) (na : Nat → Bool) : Int :=
  if x.f0 < 1 ∨ x.f0 > 7 then 6
  else if overO x.f1 = true ∨ overO x.f2 = true ∨ overO x.f3 = true then 5
  else if noneO x = true then 2
  else if x.f0 = 1 ∧ tg = false then 7
  else if (x.f0 = 5 ∨ x.f0 = 6) ∧ nm = false then 8
  else if x.f5.size > 65536 ∨ x.f7.size > 65536 then 3
  else (attrsN x.f8 na x.f8.length 0).2
namespace Dec
theorem dd_lt {m : Nat} (h : m < 10) : Lib.decDigits m = [UInt8.ofNat (48 + m)] := by rw [Lib.decDigits, dif_pos h]
theorem dd_ge {m : Nat} (h : 10 ≤ m) : Lib.decDigits m = Lib.decDigits (m / 10) ++ [UInt8.ofNat (48 + m % 10)] := by rw [Lib.decDigits, dif_neg (by omega)]
theorem dig_nat {d : Nat} (h : d < 10) : (UInt8.ofNat (48 + d)).toNat = 48 + d := by simp; omega
theorem dd_digit : ∀ (m : Nat), ∀ c ∈ Lib.decDigits m, 48 ≤ c.toNat ∧ c.toNat ≤ 57 := by
  intro m
  induction m using Nat.strongRecOn with
  | _ m ih =>
    intro c hc
    by_cases h : m < 10
    · rw [dd_lt h, List.mem_singleton] at hc
      rw [hc, dig_nat h]; omega
    · rw [dd_ge (by omega)] at hc
      rcases List.mem_append.1 hc with h1 | h1
      · exact ih (m / 10) (by omega) c h1
      · rw [List.mem_singleton] at h1
        rw [h1, dig_nat (by omega)]; omega
theorem dd_ne (m : Nat) : Lib.decDigits m ≠ [] := by
  by_cases h : m < 10
  · rw [dd_lt h]; simp
  · rw [dd_ge (by omega)]; simp
theorem parse_dd (m : Nat) : ∀ (rest : List UInt8), m < 18446744073709551616 → Lib.parseUint10 0 (Lib.decDigits m ++ rest) = Lib.parseUint10 m rest := by
  induction m using Nat.strongRecOn with
  | _ m ih =>
    intro rest hm
    by_cases h : m < 10
    · rw [dd_lt h, List.singleton_append]
      simp only [Lib.parseUint10, dig_nat h]
      rw [if_pos (by omega), if_neg (by omega), if_neg (by omega)]
      congr 1; omega
    · rw [dd_ge (by omega), List.append_assoc, ih (m / 10) (by omega) _ (by omega), List.singleton_append]
      simp only [Lib.parseUint10, dig_nat (show m % 10 < 10 by omega)]
      rw [if_pos (by omega), if_neg (by omega), if_neg (by omega)]
      congr 1; omega
theorem atoi_itoa {n : Int} (h0 : -9223372036854775808 ≤ n) (h1 : n ≤ 9223372036854775807) : Lib.atoiAll (Lib.itoa n) = .ok n := by
  have pm : ∀ m : Nat, m < 18446744073709551616 → Lib.parseMag (Lib.decDigits m) = .ok m := by
    intro m hm
    unfold Lib.parseMag
    rw [if_neg (dd_ne m)]
    have := parse_dd m [] hm
    rw [List.append_nil] at this
    rw [this]; rfl
  unfold Lib.itoa
  by_cases hn : n < 0
  · rw [if_pos hn]
    unfold Lib.atoiAll
    simp only
    rw [if_pos (by decide), pm n.natAbs (by omega)]
    simp only
    have h45 : (45 : UInt8).toNat = 45 := rfl
    rw [if_neg (by rw [h45]; simp), if_neg (by omega), if_pos (by rw [h45])]
    congr 1; omega
  · rw [if_neg hn]
    obtain ⟨c, r, e⟩ := List.exists_cons_of_ne_nil (dd_ne n.toNat)
    have hc := dd_digit n.toNat c (by rw [e]; exact List.mem_cons_self ..)
    have hp := pm n.toNat (by omega)
    rw [e] at hp ⊢
    unfold Lib.atoiAll
    simp only
    rw [if_neg (by omega), hp]
    simp only
    rw [if_neg (by omega), if_neg (by omega), if_neg (by omega)]
    congr 1; omega
end Dec
theorem itoa_inj {a b : Int} (ha : i64 a) (hb : i64 b) (h : itoaS a = itoaS b) : a = b := by
  have h1 : Lib.itoa a = Lib.itoa b := by
    have : (itoaS a).data.toList = (itoaS b).data.toList := by rw [h]
    exact this
  have h2 := Dec.atoi_itoa ha.1 ha.2
  rw [h1, Dec.atoi_itoa hb.1 hb.2] at h2
  injection h2 with h2
  exact h2.symm
theorem itoa_iff {a b : Int} (ha : i64 a) (hb : i64 b) : itoaS a = itoaS b ↔ a = b := ⟨itoa_inj ha hb, fun h => by rw [h]⟩
def usd (x : S24) : S24 := ⟨x.f0, if x.f0 = 1 then 0 else x.f1, if x.f0 = 2 then x.f2 else 0, if x.f0 = 2 ∨ x.f0 = 3 then x.f3 else 0, if x.f0 = 1 then x.f4 else em, if x.f0 = 1 then x.f5 else em, if x.f0 = 5 ∨ x.f0 = 6 then x.f6 else em, if x.f0 = 1 ∨ x.f0 = 5 ∨ x.f0 = 7 then x.f7 else em, if x.f0 = 1 then x.f8 else []⟩
def opOf (x : S24) (A : Option Addr) (c : Nat) : Value := opV x.f0 x.f1 x.f2 x.f3 x.f4 x.f5 x.f6 x.f7 (.slice A x.f8.length c)
theorem used_c (x : S24) (A : Option Addr) (c : Nat) (w : World) (hk : 1 ≤ x.f0 ∧ x.f0 ≤ 7) :
    Calls Tryd.prog 36 #[opOf x A c] w fun e w' => e = .returned (opOf (usd x) (if x.f0 = 1 then A else none) (if x.f0 = 1 then c else 0)) ∧ Below w.heap.size w w' := by
  obtain ⟨f0, f1, f2, f3, f4, f5, f6, f7, f8⟩ := x
  simp only at hk
  have h7 : f0 = 1 ∨ f0 = 2 ∨ f0 = 3 ∨ f0 = 4 ∨ f0 = 5 ∨ f0 = 6 ∨ f0 = 7 := by omega
  rcases h7 with rfl | rfl | rfl | rfl | rfl | rfl | rfl
  · exact used_1 f1 f2 f3 f4 f5 f6 f7 A f8.length c w
  · exact used_2 f1 f2 f3 f4 f5 f6 f7 A f8.length c w
  · exact used_3 f1 f2 f3 f4 f5 f6 f7 A f8.length c w
  · exact used_4 f1 f2 f3 f4 f5 f6 f7 A f8.length c w
  · exact used_5 f1 f2 f3 f4 f5 f6 f7 A f8.length c w
  · exact used_6 f1 f2 f3 f4 f5 f6 f7 A f8.length c w
  · exact used_7 f1 f2 f3 f4 f5 f6 f7 A f8.length c w
theorem em_iff (s : ByteArray) : s = em ↔ s.size = 0 := by
  constructor
  · rintro rfl; rfl
  · intro h
    cases s with
    | mk d =>
      have : d = #[] := Array.eq_empty_of_size_eq_zero h
      rw [this]
theorem same_none (x : S24) (hx : okO x) (hk : 1 ≤ x.f0 ∧ x.f0 ≤ 7) : sameB (decide (x.f0 = 1 ∨ x.f8 = [])) x.f0 x.f1 x.f2 x.f3 x.f4 x.f5 x.f6 x.f7 (usd x).f0 (usd x).f1 (usd x).f2 (usd x).f3 (usd x).f4 (usd x).f5 (usd x).f6 (usd x).f7 = !noneO x := by
  obtain ⟨f0, f1, f2, f3, f4, f5, f6, f7, f8⟩ := x
  obtain ⟨h0, h1, h2, h3, -⟩ := hx
  simp only at hk h0 h1 h2 h3
  have hz : i64 0 := by unfold i64; omega
  have i1 := itoa_iff h1 hz
  have i2 := itoa_iff h2 hz
  have i3 := itoa_iff h3 hz
  have e4 := em_iff f4
  have e5 := em_iff f5
  have e6 := em_iff f6
  have e7 := em_iff f7
  have h7 : f0 = 1 ∨ f0 = 2 ∨ f0 = 3 ∨ f0 = 4 ∨ f0 = 5 ∨ f0 = 6 ∨ f0 = 7 := by omega
  rw [Bool.eq_iff_iff]
  rcases h7 with rfl | rfl | rfl | rfl | rfl | rfl | rfl <;> simp [sameB, eqB9, noneO, usd, i1, i2, i3, e4, e5, e6, e7] <;> (try constructor) <;> (try intro h) <;> simp_all
end Go.Proofs.YtgdemingopcgaaaDoorE

namespace Go.Proofs.YtgdemingopcgaaaDoorE
open Go Go.RowKit Go.Proofs.YtgdemingopcgaaaDoorW.PrintWords Go.Proofs.YtgdemingopcgaaaDoorX Go.Proofs.YtgdemingopcgaaaDoor.P26
set_option linter.unusedVariables false
set_option linter.unusedSimpArgs false
theorem blk_new (w : World) (a : Obj) : w.heap.size < (w.alloc a).heap.size := by simp
theorem one_new_ (w : World) (a : Obj) : (w.alloc a).heap[w.heap.size]? = some a := by
  have h := two_old_ w a a
  exact (Below.block (below_alloc (Below.refl (w.alloc a).heap.size (w.alloc a)) a) w.heap.size (blk_new w a)).symm.trans h
theorem cell_drewN_ {w : World} {a : Addr} {v : Value} {n : Nat} (h : w.cell? a = some v) : (w.drewN n).cell? a = some v := h
theorem api_self (l : List S51) (hn : l.length ≤ 9223372036854775807) : ∀ d i : Nat, i + d = l.length → ∃ k, api_Attr.l0 k l l (l.length : Int) (i : Int) = some true := by
  intro d
  induction d with
  | zero =>
    intro i hi
    refine ⟨1, ?_⟩
    simp only [api_Attr.l0]
    rw [if_neg (by omega)]
  | succ d ih =>
    intro i hi
    obtain ⟨k, hk⟩ := ih (i + 1) (by omega)
    refine ⟨k + 1, ?_⟩
    have ei : wrap64 ((i : Int) + 1) = ((i + 1 : Nat) : Int) := by unfold wrap64; omega
    simp only [api_Attr.l0]
    rw [if_pos (by omega), if_pos (by omega), if_pos (by omega), if_pos (by omega), if_neg (by simp), ei, hk]
theorem api_used (x : S24) (hn : x.f8.length ≤ 9223372036854775807) : ∃ k, api_Attr.f k x.f8 (usd x).f8 = some (decide (x.f0 = 1 ∨ x.f8 = [])) := by
  unfold usd
  by_cases h : x.f0 = 1
  · obtain ⟨k, hk⟩ := api_self x.f8 hn x.f8.length 0 (by omega)
    refine ⟨k, ?_⟩
    simp only [if_pos h, decide_eq_true (show x.f0 = 1 ∨ x.f8 = [] from Or.inl h)]
    unfold api_Attr.f
    rw [if_pos rfl]
    exact hk
  · simp only [if_neg h]
    unfold api_Attr.f
    by_cases h2 : x.f8 = []
    · rw [h2]
      exact ⟨1, by simp [api_Attr.l0]⟩
    · refine ⟨0, ?_⟩
      have : x.f8.length ≠ 0 := fun e => h2 (List.eq_nil_of_length_eq_zero e)
      rw [if_neg (by simp; exact h2)]
      simp [h, h2]
theorem handle_f (a : Int) : ops_handle.f a = some (!overO a) := by
  unfold ops_handle.f overO
  by_cases h : a ≥ 0
  · rw [if_pos h]
    by_cases h2 : a ≤ 4294967295
    · simp [h2, show ¬ a < 0 by omega, show ¬ 4294967295 < a by omega]
    · simp [h2, show 4294967295 < a by omega]
  · rw [if_neg h]; simp [show a < 0 by omega]
theorem handle_c (a : Int) (b : Bool) (h : overO a = b) (w : World) (hgl : GL w) : Calls Tryd.prog 34 #[.int .i64 a] w fun e w' => e = .returned (.bool (!b)) ∧ ∃ n, w' = w.drewN n :=
  (ops_handle.calls a (!b) w hgl (by rw [handle_f, h])).mono fun e w' ⟨he, hd⟩ => ⟨he, hd.out⟩
theorem tag_c (k : Nat) (s : ByteArray) (b : Bool) (h : chars_Tag.f k s = some b) (w : World) (hgl : GL w) : Calls Tryd.prog 37 #[.string s] w fun e w' => e = .returned (.bool b) ∧ Below w.heap.size w w' :=
  (chars_Tag.calls k s b w hgl h).mono fun e w' ⟨he, hd⟩ => ⟨he, hd.below⟩
theorem name_c (k : Nat) (s : ByteArray) (b : Bool) (h : chars_Name.f k s = some b) (w : World) (hgl : GL w) : Calls Tryd.prog 38 #[.string s] w fun e w' => e = .returned (.bool b) ∧ Below w.heap.size w w' :=
  (chars_Name.calls k s b w hgl h).mono fun e w' ⟨he, hd⟩ => ⟨he, hd.below⟩
theorem fits_c (s : ByteArray) (b : Bool) (h : decide (s.size > 65536) = b) (w : World) (hgl : GL w) : Calls Tryd.prog 39 #[.string s] w fun e w' => e = .returned (.bool (!b)) ∧ Below w.heap.size w w' :=
  (chars_Fits.calls s (!b) w hgl (by unfold chars_Fits.f; rw [← h]; congr 1; rw [Bool.eq_iff_iff]; simp; omega)).mono fun e w' ⟨he, hd⟩ => ⟨he, hd.below⟩
theorem usd_i64 (x : S24) (hx : okO x) : okO (usd x) := by
  obtain ⟨h0, h1, h2, h3, h4, h5, h6, h7⟩ := hx
  have hz : i64 0 := by unfold i64; omega
  have he : em.size ≤ maxLen := by unfold maxLen; show 0 ≤ _; omega
  unfold usd okO
  refine ⟨h0, ?_, ?_, ?_, ?_, ?_, ?_, ?_⟩ <;> dsimp only <;> split <;> assumption
theorem same_u (x : S24) (A : Option Addr) (c : Nat) (w : World) (hgl : GL w) (hx : okO x) (hk : 1 ≤ x.f0 ∧ x.f0 ≤ 7) (hl : Kd.C k51 w A x.f8.length x.f8) (hc : x.f8.length ≤ c) (hlen : x.f8.length ≤ 9223372036854775807) :
    Calls Tryd.prog 35 #[opOf x A c, opOf (usd x) (if x.f0 = 1 then A else none) (if x.f0 = 1 then c else 0)] w fun e w' => e = .returned (.bool (!noneO x)) ∧ Below w.heap.size w w' := by
  obtain ⟨k, hap⟩ := api_used x hlen
  have hy := usd_i64 x hx
  have hs := same_none x hx hk
  obtain ⟨h0, h1, h2, h3, h4, h5, h6, h7⟩ := hx
  obtain ⟨g0, g1, g2, g3, g4, g5, g6, g7⟩ := hy
  have hm : Kd.C k51 w (if x.f0 = 1 then A else none) (usd x).f8.length (usd x).f8 := by
    by_cases h : x.f0 = 1
    · rw [if_pos h]; show Kd.C k51 w A (if x.f0 = 1 then x.f8 else []).length (if x.f0 = 1 then x.f8 else []); rw [if_pos h]; exact hl
    · rw [if_neg h]; show Kd.C k51 w none (if x.f0 = 1 then x.f8 else []).length (if x.f0 = 1 then x.f8 else []); rw [if_neg h]; exact Kd.C_nil k51 w
  have hmc : (usd x).f8.length ≤ if x.f0 = 1 then c else 0 := by
    by_cases h : x.f0 = 1
    · rw [if_pos h]; show (if x.f0 = 1 then x.f8 else []).length ≤ c; rw [if_pos h]; exact hc
    · rw [if_neg h]; show (if x.f0 = 1 then x.f8 else []).length ≤ 0; rw [if_neg h]; exact Nat.le_refl 0
  have hh := same_c k _ x.f0 x.f1 x.f2 x.f3 x.f4 x.f5 x.f6 x.f7 A c x.f8 (usd x).f0 (usd x).f1 (usd x).f2 (usd x).f3 (usd x).f4 (usd x).f5 (usd x).f6 (usd x).f7 _ _ (usd x).f8 h0 h1 h2 h3 h4 h5 h6 h7 g0 g1 g2 g3 g4 g5 g6 g7 w hgl hl hc hm hmc hap
  rw [hs] at hh
  exact hh
set_option maxHeartbeats 1000000 in
set_option maxRecDepth 100000 in
theorem Check_c (x : S24) (A : Option Addr) (c : Nat) (tg nm : Bool) (na : Nat → Bool) (w : World) (hgl : GL w) (hx : okO x) (hl : Kd.C k51 w A x.f8.length x.f8) (hc : x.f8.length ≤ c) (hlen : x.f8.length ≤ 9223372036854775807)
    (htg : ∃ k, chars_Tag.f k x.f4 = some tg) (hnm : ∃ k, chars_Name.f k x.f6 = some nm) (hna : ∀ i : Nat, i < x.f8.length → ∃ k, chars_Name.f k (rd_T51 x.f8 i).f0 = some (na i)) :
    Calls Tryd.prog 13 #[opOf x A c] w fun e w' => e = .returned (.int .i64 (checkO x tg nm na)) ∧ Below w.heap.size w w' := by
  have HGL := Aside0.mk hgl
  have HL := Aside0.mk hl
  have HX := Aside0.mk hx
  have HT := Aside0.mk htg
  have HN := Aside0.mk hnm
  have HA := Aside0.mk hna
  obtain ⟨U, hU⟩ : ∃ U, U = opOf (usd x) (if x.f0 = 1 then A else none) (if x.f0 = 1 then c else 0) := ⟨_, rfl⟩
  have HUS := Aside0.mk (fun w hk => used_c x A c w hk)
  have HSM := Aside0.mk (fun w hgl hk hl => same_u x A c w hgl hx hk hl hc hlen)
  rw [← hU] at HUS HSM
  clear hU
  clear hgl hl hx htg hnm hna
  obtain ⟨R, hR⟩ : ∃ R, R = checkO x tg nm na := ⟨_, rfl⟩
  rw [← hR]
  unfold checkO at hR
  have HR := Aside0.mk hR
  clear hR
  unfold opOf opV
  by_cases h1 : x.f0 < 1
  · have HE : Aside0 (R = 6) := ⟨by rw [HR.out, if_pos (Or.inl h1)]⟩
    go_enter Tryd.func13, Tryd.ntmps13
    go_wp2_with fail
    go_ret
    exact ⟨by rw [HE.out]; rfl, below_alloc (Below.refl _ _) _⟩
  · have h1' : decide (x.f0 < 1) = false := by simpa using h1
    by_cases h2 : 7 < x.f0
    · have HE : Aside0 (R = 6) := ⟨by rw [HR.out, if_pos (Or.inr h2)]⟩
      go_enter Tryd.func13, Tryd.ntmps13
      go_wp2_with fail
      go_ret
      exact ⟨by rw [HE.out]; rfl, below_alloc (Below.refl _ _) _⟩
    · have h2' : decide (7 < x.f0) = false := by simpa using h2
      have HR1 : Aside0 (R = if overO x.f1 = true ∨ overO x.f2 = true ∨ overO x.f3 = true then 5 else if noneO x = true then 2 else if x.f0 = 1 ∧ tg = false then 7 else if (x.f0 = 5 ∨ x.f0 = 6) ∧ nm = false then 8 else if x.f5.size > 65536 ∨ x.f7.size > 65536 then 3 else (attrsN x.f8 na x.f8.length 0).2) := ⟨by rw [HR.out, if_neg (by omega)]⟩
      clear HR
      have hg0 : 1 ≤ x.f0 := by omega
      have hg7 : x.f0 ≤ 7 := by omega
      cases ho1 : overO x.f1 with
      | true =>
        have HE : Aside0 (R = 5) := ⟨by rw [HR1.out, if_pos (Or.inl ho1)]⟩
        go_enter Tryd.func13, Tryd.ntmps13
        go_wp2_with (go_at_call 34; with_reducible refine (handle_c x.f1 true ho1 _ ?hg).mono ?_; (case hg => exact HGL.out.below (by repeat (first | exact Below.refl _ _ | apply below_alloc | apply below_drew | apply pw_below_drewN))); rintro e w1 ⟨rfl, n1, rfl⟩)
        go_ret
        exact ⟨by rw [HE.out]; rfl, by repeat (first | exact Below.refl _ _ | apply below_alloc | apply below_drew | apply pw_below_drewN)⟩
      | false =>
        cases ho2 : overO x.f2 with
        | true =>
          have HE : Aside0 (R = 5) := ⟨by rw [HR1.out, if_pos (Or.inr (Or.inl ho2))]⟩
          go_enter Tryd.func13, Tryd.ntmps13
          go_wp2_with (first | (go_at_call 34; with_reducible refine (handle_c x.f1 false ho1 _ ?hg).mono ?_; (case hg => exact HGL.out.below (by repeat (first | exact Below.refl _ _ | apply below_alloc | apply below_drew | apply pw_below_drewN))); rintro e w1 ⟨rfl, n1, rfl⟩) | (go_at_call 34; with_reducible refine (handle_c x.f2 true ho2 _ ?hg).mono ?_; (case hg => exact HGL.out.below (by repeat (first | exact Below.refl _ _ | apply below_alloc | apply below_drew | apply pw_below_drewN))); rintro e w2 ⟨rfl, n2, rfl⟩))
          go_ret
          exact ⟨by rw [HE.out]; rfl, by repeat (first | exact Below.refl _ _ | apply below_alloc | apply below_drew | apply pw_below_drewN)⟩
        | false =>
          cases ho3 : overO x.f3 with
          | true =>
            have HE : Aside0 (R = 5) := ⟨by rw [HR1.out, if_pos (Or.inr (Or.inr ho3))]⟩
            go_enter Tryd.func13, Tryd.ntmps13
            go_wp2_with (first | (go_at_call 34; with_reducible refine (handle_c x.f1 false ho1 _ ?hg).mono ?_; (case hg => exact HGL.out.below (by repeat (first | exact Below.refl _ _ | apply below_alloc | apply below_drew | apply pw_below_drewN))); rintro e w1 ⟨rfl, n1, rfl⟩) | (go_at_call 34; with_reducible refine (handle_c x.f2 false ho2 _ ?hg).mono ?_; (case hg => exact HGL.out.below (by repeat (first | exact Below.refl _ _ | apply below_alloc | apply below_drew | apply pw_below_drewN))); rintro e w2 ⟨rfl, n2, rfl⟩) | (go_at_call 34; with_reducible refine (handle_c x.f3 true ho3 _ ?hg).mono ?_; (case hg => exact HGL.out.below (by repeat (first | exact Below.refl _ _ | apply below_alloc | apply below_drew | apply pw_below_drewN))); rintro e w3 ⟨rfl, n3, rfl⟩))
            go_ret
            exact ⟨by rw [HE.out]; rfl, by repeat (first | exact Below.refl _ _ | apply below_alloc | apply below_drew | apply pw_below_drewN)⟩
          | false =>
            have HR2 : Aside0 (R = if noneO x = true then 2 else if x.f0 = 1 ∧ tg = false then 7 else if (x.f0 = 5 ∨ x.f0 = 6) ∧ nm = false then 8 else if x.f5.size > 65536 ∨ x.f7.size > 65536 then 3 else (attrsN x.f8 na x.f8.length 0).2) := ⟨by rw [HR1.out, if_neg (by rw [ho1, ho2, ho3]; simp)]⟩
            clear HR1
            go_enter Tryd.func13, Tryd.ntmps13
            go_wp2_with (first | (go_at_call 34; with_reducible refine (handle_c x.f1 false ho1 _ ?hg).mono ?_; (case hg => exact HGL.out.below (by repeat (first | exact Below.refl _ _ | apply below_alloc | apply below_drew | apply pw_below_drewN))); rintro e w1 ⟨rfl, n1, rfl⟩) | (go_at_call 34; with_reducible refine (handle_c x.f2 false ho2 _ ?hg).mono ?_; (case hg => exact HGL.out.below (by repeat (first | exact Below.refl _ _ | apply below_alloc | apply below_drew | apply pw_below_drewN))); rintro e w2 ⟨rfl, n2, rfl⟩) | (go_at_call 34; with_reducible refine (handle_c x.f3 false ho3 _ ?hg).mono ?_; (case hg => exact HGL.out.below (by repeat (first | exact Below.refl _ _ | apply below_alloc | apply below_drew | apply pw_below_drewN))); rintro e w3 ⟨rfl, n3, rfl⟩))
            have hX := one_new_ w (.cells #[.int .i64 x.f0, .int .i64 x.f1, .int .i64 x.f2, .int .i64 x.f3, .string x.f4, .string x.f5, .string x.f6, .string x.f7, .slice A x.f8.length c] 24)
            have HS : ∀ n, (((w.alloc (.cells #[.int .i64 x.f0, .int .i64 x.f1, .int .i64 x.f2, .int .i64 x.f3, .string x.f4, .string x.f5, .string x.f6, .string x.f7, .slice A x.f8.length c] 24)).drewN n).drew.cell? ⟨w.heap.size, 0, none⟩ = some (.int .i64 x.f0) ∧ ((w.alloc (.cells #[.int .i64 x.f0, .int .i64 x.f1, .int .i64 x.f2, .int .i64 x.f3, .string x.f4, .string x.f5, .string x.f6, .string x.f7, .slice A x.f8.length c] 24)).drewN n).drew.cell? ⟨w.heap.size, 1, none⟩ = some (.int .i64 x.f1) ∧ ((w.alloc (.cells #[.int .i64 x.f0, .int .i64 x.f1, .int .i64 x.f2, .int .i64 x.f3, .string x.f4, .string x.f5, .string x.f6, .string x.f7, .slice A x.f8.length c] 24)).drewN n).drew.cell? ⟨w.heap.size, 2, none⟩ = some (.int .i64 x.f2) ∧ ((w.alloc (.cells #[.int .i64 x.f0, .int .i64 x.f1, .int .i64 x.f2, .int .i64 x.f3, .string x.f4, .string x.f5, .string x.f6, .string x.f7, .slice A x.f8.length c] 24)).drewN n).drew.cell? ⟨w.heap.size, 3, none⟩ = some (.int .i64 x.f3) ∧ ((w.alloc (.cells #[.int .i64 x.f0, .int .i64 x.f1, .int .i64 x.f2, .int .i64 x.f3, .string x.f4, .string x.f5, .string x.f6, .string x.f7, .slice A x.f8.length c] 24)).drewN n).drew.cell? ⟨w.heap.size, 4, none⟩ = some (.string x.f4) ∧ ((w.alloc (.cells #[.int .i64 x.f0, .int .i64 x.f1, .int .i64 x.f2, .int .i64 x.f3, .string x.f4, .string x.f5, .string x.f6, .string x.f7, .slice A x.f8.length c] 24)).drewN n).drew.cell? ⟨w.heap.size, 5, none⟩ = some (.string x.f5) ∧ ((w.alloc (.cells #[.int .i64 x.f0, .int .i64 x.f1, .int .i64 x.f2, .int .i64 x.f3, .string x.f4, .string x.f5, .string x.f6, .string x.f7, .slice A x.f8.length c] 24)).drewN n).drew.cell? ⟨w.heap.size, 6, none⟩ = some (.string x.f6) ∧ ((w.alloc (.cells #[.int .i64 x.f0, .int .i64 x.f1, .int .i64 x.f2, .int .i64 x.f3, .string x.f4, .string x.f5, .string x.f6, .string x.f7, .slice A x.f8.length c] 24)).drewN n).drew.cell? ⟨w.heap.size, 7, none⟩ = some (.string x.f7) ∧ ((w.alloc (.cells #[.int .i64 x.f0, .int .i64 x.f1, .int .i64 x.f2, .int .i64 x.f3, .string x.f4, .string x.f5, .string x.f6, .string x.f7, .slice A x.f8.length c] 24)).drewN n).drew.cell? ⟨w.heap.size, 8, none⟩ = some (.slice A x.f8.length c)) ∧ Below w.heap.size w (((w.alloc (.cells #[.int .i64 x.f0, .int .i64 x.f1, .int .i64 x.f2, .int .i64 x.f3, .string x.f4, .string x.f5, .string x.f6, .string x.f7, .slice A x.f8.length c] 24)).drewN n).drew) := fun n => ⟨⟨cell_drew (cell_drewN_ (cell_blk (j := 0) hX rfl)), cell_drew (cell_drewN_ (cell_blk (j := 1) hX rfl)), cell_drew (cell_drewN_ (cell_blk (j := 2) hX rfl)), cell_drew (cell_drewN_ (cell_blk (j := 3) hX rfl)), cell_drew (cell_drewN_ (cell_blk (j := 4) hX rfl)), cell_drew (cell_drewN_ (cell_blk (j := 5) hX rfl)), cell_drew (cell_drewN_ (cell_blk (j := 6) hX rfl)), cell_drew (cell_drewN_ (cell_blk (j := 7) hX rfl)), cell_drew (cell_drewN_ (cell_blk (j := 8) hX rfl))⟩, below_drew (pw_below_drewN (below_alloc (Below.refl _ _) _) _)⟩
            have HXX := Aside0.mk hX
            clear hX
            unfold opOf opV at HUS HSM
            go_region_held3 (fun w' => (w'.cell? ⟨w.heap.size, 0, none⟩ = some (.int .i64 x.f0) ∧ w'.cell? ⟨w.heap.size, 1, none⟩ = some (.int .i64 x.f1) ∧ w'.cell? ⟨w.heap.size, 2, none⟩ = some (.int .i64 x.f2) ∧ w'.cell? ⟨w.heap.size, 3, none⟩ = some (.int .i64 x.f3) ∧ w'.cell? ⟨w.heap.size, 4, none⟩ = some (.string x.f4) ∧ w'.cell? ⟨w.heap.size, 5, none⟩ = some (.string x.f5) ∧ w'.cell? ⟨w.heap.size, 6, none⟩ = some (.string x.f6) ∧ w'.cell? ⟨w.heap.size, 7, none⟩ = some (.string x.f7) ∧ w'.cell? ⟨w.heap.size, 8, none⟩ = some (.slice A x.f8.length c)) ∧ Below w.heap.size w w')
              (first
                | with_reducible exact HS _
                | (go_split_ands
                   with_reducible exact ⟨⟨pw_cell_below hbf (by first | with_reducible assumption | exact cell_drewN_ (cell_blk (j := 0) HXX.out rfl)), pw_cell_below hbf (by first | with_reducible assumption | exact cell_drewN_ (cell_blk (j := 1) HXX.out rfl)), pw_cell_below hbf (by first | with_reducible assumption | exact cell_drewN_ (cell_blk (j := 2) HXX.out rfl)), pw_cell_below hbf (by first | with_reducible assumption | exact cell_drewN_ (cell_blk (j := 3) HXX.out rfl)), pw_cell_below hbf (by first | with_reducible assumption | exact cell_drewN_ (cell_blk (j := 4) HXX.out rfl)), pw_cell_below hbf (by first | with_reducible assumption | exact cell_drewN_ (cell_blk (j := 5) HXX.out rfl)), pw_cell_below hbf (by first | with_reducible assumption | exact cell_drewN_ (cell_blk (j := 6) HXX.out rfl)), pw_cell_below hbf (by first | with_reducible assumption | exact cell_drewN_ (cell_blk (j := 7) HXX.out rfl)), pw_cell_below hbf (by first | with_reducible assumption | exact cell_drewN_ (cell_blk (j := 8) HXX.out rfl))⟩, then_w (by first | with_reducible assumption | exact pw_below_drewN (below_alloc (Below.refl _ _) _) _) hbf⟩))
              (first
                | (go_at_call 36
                   go_loud (
                   with_reducible refine (HUS.out _ ⟨hg0, hg7⟩).mono ?_
                   rintro e w5 ⟨rfl, hbf⟩))
                | (go_at_call 35
                   go_loud (
                   with_reducible refine (HSM.out _ ?hg ⟨hg0, hg7⟩ ?hl).mono ?_
                   case hg => exact HGL.out.below (by first | with_reducible assumption | exact pw_below_drewN (below_alloc (Below.refl _ _) _) _ | (go_split_ands; with_reducible assumption))
                   case hl => exact Kd.C_below HL.out (by first | with_reducible assumption | exact pw_below_drewN (below_alloc (Below.refl _ _) _) _ | (go_split_ands; with_reducible assumption))
                   rintro e w5 ⟨rfl, hbf⟩)))
            -- TAIL
            go_split_ands
            cases hno : noneO x with
            | true =>
              have HE : Aside0 (R = 2) := ⟨by rw [HR2.out, if_pos hno]⟩
              go_wp2_with fail
              go_ret
              exact ⟨by rw [HE.out]; rfl, by with_reducible assumption⟩
            | false =>
              cases hq1 : (x.f0 == 1) with
              | true =>
                have he1 : x.f0 = 1 := by simpa using hq1
                have hq5 : (x.f0 == 5) = false := by simp [he1]
                have hq6 : (x.f0 == 6) = false := by simp [he1]
                have HQ := Aside0.mk he1
                clear he1
                cases tg with
                | false =>
                  have HE : Aside0 (R = 7) := ⟨by rw [HR2.out, if_neg (by rw [hno]; simp), if_pos ⟨HQ.out, rfl⟩]⟩
                  go_wp2_with (first | (go_at_call 37; with_reducible refine (tag_c _ x.f4 false HT.out.choose_spec _ ?hg).mono ?_; (case hg => exact HGL.out.below (by with_reducible assumption)); rintro e w6 ⟨rfl, hb⟩; have HCw6 : w6.cell? ⟨w.heap.size, 0, none⟩ = some (.int .i64 x.f0) ∧ w6.cell? ⟨w.heap.size, 1, none⟩ = some (.int .i64 x.f1) ∧ w6.cell? ⟨w.heap.size, 2, none⟩ = some (.int .i64 x.f2) ∧ w6.cell? ⟨w.heap.size, 3, none⟩ = some (.int .i64 x.f3) ∧ w6.cell? ⟨w.heap.size, 4, none⟩ = some (.string x.f4) ∧ w6.cell? ⟨w.heap.size, 5, none⟩ = some (.string x.f5) ∧ w6.cell? ⟨w.heap.size, 6, none⟩ = some (.string x.f6) ∧ w6.cell? ⟨w.heap.size, 7, none⟩ = some (.string x.f7) ∧ w6.cell? ⟨w.heap.size, 8, none⟩ = some (.slice A x.f8.length c) := ⟨pw_cell_below hb (by with_reducible assumption), pw_cell_below hb (by with_reducible assumption), pw_cell_below hb (by with_reducible assumption), pw_cell_below hb (by with_reducible assumption), pw_cell_below hb (by with_reducible assumption), pw_cell_below hb (by with_reducible assumption), pw_cell_below hb (by with_reducible assumption), pw_cell_below hb (by with_reducible assumption), pw_cell_below hb (by with_reducible assumption)⟩; have HBw6 : Below w.heap.size w w6 := then_w (by with_reducible assumption) hb; clear hb; go_split_ands))
                  go_ret
                  exact ⟨by rw [HE.out]; rfl, by with_reducible assumption⟩
                | true =>
                  cases hs5 : decide (x.f5.size > 65536) with
                  | true =>
                    have HE : Aside0 (R = 3) := ⟨by rw [HR2.out, if_neg (by rw [hno]; simp), if_neg (by simp), if_neg (by rw [HQ.out]; simp), if_pos (Or.inl (of_decide_eq_true hs5))]⟩
                    go_wp2_with (first | (go_at_call 37; with_reducible refine (tag_c _ x.f4 true HT.out.choose_spec _ ?hg).mono ?_; (case hg => exact HGL.out.below (by with_reducible assumption)); rintro e w6 ⟨rfl, hb⟩; have HCw6 : w6.cell? ⟨w.heap.size, 0, none⟩ = some (.int .i64 x.f0) ∧ w6.cell? ⟨w.heap.size, 1, none⟩ = some (.int .i64 x.f1) ∧ w6.cell? ⟨w.heap.size, 2, none⟩ = some (.int .i64 x.f2) ∧ w6.cell? ⟨w.heap.size, 3, none⟩ = some (.int .i64 x.f3) ∧ w6.cell? ⟨w.heap.size, 4, none⟩ = some (.string x.f4) ∧ w6.cell? ⟨w.heap.size, 5, none⟩ = some (.string x.f5) ∧ w6.cell? ⟨w.heap.size, 6, none⟩ = some (.string x.f6) ∧ w6.cell? ⟨w.heap.size, 7, none⟩ = some (.string x.f7) ∧ w6.cell? ⟨w.heap.size, 8, none⟩ = some (.slice A x.f8.length c) := ⟨pw_cell_below hb (by with_reducible assumption), pw_cell_below hb (by with_reducible assumption), pw_cell_below hb (by with_reducible assumption), pw_cell_below hb (by with_reducible assumption), pw_cell_below hb (by with_reducible assumption), pw_cell_below hb (by with_reducible assumption), pw_cell_below hb (by with_reducible assumption), pw_cell_below hb (by with_reducible assumption), pw_cell_below hb (by with_reducible assumption)⟩; have HBw6 : Below w.heap.size w w6 := then_w (by with_reducible assumption) hb; clear hb; go_split_ands) | (go_at_call 39; with_reducible refine (fits_c x.f5 true hs5 _ ?hg).mono ?_; (case hg => exact HGL.out.below (by with_reducible assumption)); rintro e w7 ⟨rfl, hb⟩; have HCw7 : w7.cell? ⟨w.heap.size, 0, none⟩ = some (.int .i64 x.f0) ∧ w7.cell? ⟨w.heap.size, 1, none⟩ = some (.int .i64 x.f1) ∧ w7.cell? ⟨w.heap.size, 2, none⟩ = some (.int .i64 x.f2) ∧ w7.cell? ⟨w.heap.size, 3, none⟩ = some (.int .i64 x.f3) ∧ w7.cell? ⟨w.heap.size, 4, none⟩ = some (.string x.f4) ∧ w7.cell? ⟨w.heap.size, 5, none⟩ = some (.string x.f5) ∧ w7.cell? ⟨w.heap.size, 6, none⟩ = some (.string x.f6) ∧ w7.cell? ⟨w.heap.size, 7, none⟩ = some (.string x.f7) ∧ w7.cell? ⟨w.heap.size, 8, none⟩ = some (.slice A x.f8.length c) := ⟨pw_cell_below hb (by with_reducible assumption), pw_cell_below hb (by with_reducible assumption), pw_cell_below hb (by with_reducible assumption), pw_cell_below hb (by with_reducible assumption), pw_cell_below hb (by with_reducible assumption), pw_cell_below hb (by with_reducible assumption), pw_cell_below hb (by with_reducible assumption), pw_cell_below hb (by with_reducible assumption), pw_cell_below hb (by with_reducible assumption)⟩; have HBw7 : Below w.heap.size w w7 := then_w (by with_reducible assumption) hb; clear hb; go_split_ands))
                    go_ret
                    exact ⟨by rw [HE.out]; rfl, by with_reducible assumption⟩
                  | false =>
                    cases hs7 : decide (x.f7.size > 65536) with
                    | true =>
                      have HE : Aside0 (R = 3) := ⟨by rw [HR2.out, if_neg (by rw [hno]; simp), if_neg (by simp), if_neg (by rw [HQ.out]; simp), if_pos (Or.inr (of_decide_eq_true hs7))]⟩
                      go_wp2_with (first | (go_at_call 37; with_reducible refine (tag_c _ x.f4 true HT.out.choose_spec _ ?hg).mono ?_; (case hg => exact HGL.out.below (by with_reducible assumption)); rintro e w6 ⟨rfl, hb⟩; have HCw6 : w6.cell? ⟨w.heap.size, 0, none⟩ = some (.int .i64 x.f0) ∧ w6.cell? ⟨w.heap.size, 1, none⟩ = some (.int .i64 x.f1) ∧ w6.cell? ⟨w.heap.size, 2, none⟩ = some (.int .i64 x.f2) ∧ w6.cell? ⟨w.heap.size, 3, none⟩ = some (.int .i64 x.f3) ∧ w6.cell? ⟨w.heap.size, 4, none⟩ = some (.string x.f4) ∧ w6.cell? ⟨w.heap.size, 5, none⟩ = some (.string x.f5) ∧ w6.cell? ⟨w.heap.size, 6, none⟩ = some (.string x.f6) ∧ w6.cell? ⟨w.heap.size, 7, none⟩ = some (.string x.f7) ∧ w6.cell? ⟨w.heap.size, 8, none⟩ = some (.slice A x.f8.length c) := ⟨pw_cell_below hb (by with_reducible assumption), pw_cell_below hb (by with_reducible assumption), pw_cell_below hb (by with_reducible assumption), pw_cell_below hb (by with_reducible assumption), pw_cell_below hb (by with_reducible assumption), pw_cell_below hb (by with_reducible assumption), pw_cell_below hb (by with_reducible assumption), pw_cell_below hb (by with_reducible assumption), pw_cell_below hb (by with_reducible assumption)⟩; have HBw6 : Below w.heap.size w w6 := then_w (by with_reducible assumption) hb; clear hb; go_split_ands) | (go_at_call 39; with_reducible refine (fits_c x.f5 false hs5 _ ?hg).mono ?_; (case hg => exact HGL.out.below (by with_reducible assumption)); rintro e w7 ⟨rfl, hb⟩; have HCw7 : w7.cell? ⟨w.heap.size, 0, none⟩ = some (.int .i64 x.f0) ∧ w7.cell? ⟨w.heap.size, 1, none⟩ = some (.int .i64 x.f1) ∧ w7.cell? ⟨w.heap.size, 2, none⟩ = some (.int .i64 x.f2) ∧ w7.cell? ⟨w.heap.size, 3, none⟩ = some (.int .i64 x.f3) ∧ w7.cell? ⟨w.heap.size, 4, none⟩ = some (.string x.f4) ∧ w7.cell? ⟨w.heap.size, 5, none⟩ = some (.string x.f5) ∧ w7.cell? ⟨w.heap.size, 6, none⟩ = some (.string x.f6) ∧ w7.cell? ⟨w.heap.size, 7, none⟩ = some (.string x.f7) ∧ w7.cell? ⟨w.heap.size, 8, none⟩ = some (.slice A x.f8.length c) := ⟨pw_cell_below hb (by with_reducible assumption), pw_cell_below hb (by with_reducible assumption), pw_cell_below hb (by with_reducible assumption), pw_cell_below hb (by with_reducible assumption), pw_cell_below hb (by with_reducible assumption), pw_cell_below hb (by with_reducible assumption), pw_cell_below hb (by with_reducible assumption), pw_cell_below hb (by with_reducible assumption), pw_cell_below hb (by with_reducible assumption)⟩; have HBw7 : Below w.heap.size w w7 := then_w (by with_reducible assumption) hb; clear hb; go_split_ands) | (go_at_call 39; with_reducible refine (fits_c x.f7 true hs7 _ ?hg).mono ?_; (case hg => exact HGL.out.below (by with_reducible assumption)); rintro e w8 ⟨rfl, hb⟩; have HCw8 : w8.cell? ⟨w.heap.size, 0, none⟩ = some (.int .i64 x.f0) ∧ w8.cell? ⟨w.heap.size, 1, none⟩ = some (.int .i64 x.f1) ∧ w8.cell? ⟨w.heap.size, 2, none⟩ = some (.int .i64 x.f2) ∧ w8.cell? ⟨w.heap.size, 3, none⟩ = some (.int .i64 x.f3) ∧ w8.cell? ⟨w.heap.size, 4, none⟩ = some (.string x.f4) ∧ w8.cell? ⟨w.heap.size, 5, none⟩ = some (.string x.f5) ∧ w8.cell? ⟨w.heap.size, 6, none⟩ = some (.string x.f6) ∧ w8.cell? ⟨w.heap.size, 7, none⟩ = some (.string x.f7) ∧ w8.cell? ⟨w.heap.size, 8, none⟩ = some (.slice A x.f8.length c) := ⟨pw_cell_below hb (by with_reducible assumption), pw_cell_below hb (by with_reducible assumption), pw_cell_below hb (by with_reducible assumption), pw_cell_below hb (by with_reducible assumption), pw_cell_below hb (by with_reducible assumption), pw_cell_below hb (by with_reducible assumption), pw_cell_below hb (by with_reducible assumption), pw_cell_below hb (by with_reducible assumption), pw_cell_below hb (by with_reducible assumption)⟩; have HBw8 : Below w.heap.size w w8 := then_w (by with_reducible assumption) hb; clear hb; go_split_ands))
                      go_ret
                      exact ⟨by rw [HE.out]; rfl, by with_reducible assumption⟩
                    | false =>
                      have HE : Aside0 (R = (attrsN x.f8 na x.f8.length 0).2) := ⟨by rw [HR2.out, if_neg (by rw [hno]; simp), if_neg (by simp), if_neg (by rw [HQ.out]; simp), if_neg (fun h => h.elim (of_decide_eq_false hs5) (of_decide_eq_false hs7))]⟩
                      go_wp2_with (first | (go_at_call 37; with_reducible refine (tag_c _ x.f4 true HT.out.choose_spec _ ?hg).mono ?_; (case hg => exact HGL.out.below (by with_reducible assumption)); rintro e w6 ⟨rfl, hb⟩; have HCw6 : w6.cell? ⟨w.heap.size, 0, none⟩ = some (.int .i64 x.f0) ∧ w6.cell? ⟨w.heap.size, 1, none⟩ = some (.int .i64 x.f1) ∧ w6.cell? ⟨w.heap.size, 2, none⟩ = some (.int .i64 x.f2) ∧ w6.cell? ⟨w.heap.size, 3, none⟩ = some (.int .i64 x.f3) ∧ w6.cell? ⟨w.heap.size, 4, none⟩ = some (.string x.f4) ∧ w6.cell? ⟨w.heap.size, 5, none⟩ = some (.string x.f5) ∧ w6.cell? ⟨w.heap.size, 6, none⟩ = some (.string x.f6) ∧ w6.cell? ⟨w.heap.size, 7, none⟩ = some (.string x.f7) ∧ w6.cell? ⟨w.heap.size, 8, none⟩ = some (.slice A x.f8.length c) := ⟨pw_cell_below hb (by with_reducible assumption), pw_cell_below hb (by with_reducible assumption), pw_cell_below hb (by with_reducible assumption), pw_cell_below hb (by with_reducible assumption), pw_cell_below hb (by with_reducible assumption), pw_cell_below hb (by with_reducible assumption), pw_cell_below hb (by with_reducible assumption), pw_cell_below hb (by with_reducible assumption), pw_cell_below hb (by with_reducible assumption)⟩; have HBw6 : Below w.heap.size w w6 := then_w (by with_reducible assumption) hb; clear hb; go_split_ands) | (go_at_call 39; with_reducible refine (fits_c x.f5 false hs5 _ ?hg).mono ?_; (case hg => exact HGL.out.below (by with_reducible assumption)); rintro e w7 ⟨rfl, hb⟩; have HCw7 : w7.cell? ⟨w.heap.size, 0, none⟩ = some (.int .i64 x.f0) ∧ w7.cell? ⟨w.heap.size, 1, none⟩ = some (.int .i64 x.f1) ∧ w7.cell? ⟨w.heap.size, 2, none⟩ = some (.int .i64 x.f2) ∧ w7.cell? ⟨w.heap.size, 3, none⟩ = some (.int .i64 x.f3) ∧ w7.cell? ⟨w.heap.size, 4, none⟩ = some (.string x.f4) ∧ w7.cell? ⟨w.heap.size, 5, none⟩ = some (.string x.f5) ∧ w7.cell? ⟨w.heap.size, 6, none⟩ = some (.string x.f6) ∧ w7.cell? ⟨w.heap.size, 7, none⟩ = some (.string x.f7) ∧ w7.cell? ⟨w.heap.size, 8, none⟩ = some (.slice A x.f8.length c) := ⟨pw_cell_below hb (by with_reducible assumption), pw_cell_below hb (by with_reducible assumption), pw_cell_below hb (by with_reducible assumption), pw_cell_below hb (by with_reducible assumption), pw_cell_below hb (by with_reducible assumption), pw_cell_below hb (by with_reducible assumption), pw_cell_below hb (by with_reducible assumption), pw_cell_below hb (by with_reducible assumption), pw_cell_below hb (by with_reducible assumption)⟩; have HBw7 : Below w.heap.size w w7 := then_w (by with_reducible assumption) hb; clear hb; go_split_ands) | (go_at_call 39; with_reducible refine (fits_c x.f7 false hs7 _ ?hg).mono ?_; (case hg => exact HGL.out.below (by with_reducible assumption)); rintro e w8 ⟨rfl, hb⟩; have HCw8 : w8.cell? ⟨w.heap.size, 0, none⟩ = some (.int .i64 x.f0) ∧ w8.cell? ⟨w.heap.size, 1, none⟩ = some (.int .i64 x.f1) ∧ w8.cell? ⟨w.heap.size, 2, none⟩ = some (.int .i64 x.f2) ∧ w8.cell? ⟨w.heap.size, 3, none⟩ = some (.int .i64 x.f3) ∧ w8.cell? ⟨w.heap.size, 4, none⟩ = some (.string x.f4) ∧ w8.cell? ⟨w.heap.size, 5, none⟩ = some (.string x.f5) ∧ w8.cell? ⟨w.heap.size, 6, none⟩ = some (.string x.f6) ∧ w8.cell? ⟨w.heap.size, 7, none⟩ = some (.string x.f7) ∧ w8.cell? ⟨w.heap.size, 8, none⟩ = some (.slice A x.f8.length c) := ⟨pw_cell_below hb (by with_reducible assumption), pw_cell_below hb (by with_reducible assumption), pw_cell_below hb (by with_reducible assumption), pw_cell_below hb (by with_reducible assumption), pw_cell_below hb (by with_reducible assumption), pw_cell_below hb (by with_reducible assumption), pw_cell_below hb (by with_reducible assumption), pw_cell_below hb (by with_reducible assumption), pw_cell_below hb (by with_reducible assumption)⟩; have HBw8 : Below w.heap.size w w8 := then_w (by with_reducible assumption) hb; clear hb; go_split_ands) | (go_at_call 40; with_reducible refine (attrs_Check_c A c x.f8 na _ ?hg ?hl hc HA.out).mono ?_; (case hg => exact HGL.out.below (by with_reducible assumption)); (case hl => exact Kd.C_below HL.out (by with_reducible assumption)); rintro e w9 ⟨rfl, hb⟩; have HBw9 : Below w.heap.size w w9 := then_w (by with_reducible assumption) hb; clear hb))
                      go_ret
                      exact ⟨by rw [HE.out]; rfl, by with_reducible assumption⟩
              | false =>
                have HQ : Aside0 (¬ x.f0 = 1) := ⟨by simpa using hq1⟩
                cases hq5 : (x.f0 == 5) with
                | true =>
                  have HQ5 : Aside0 (x.f0 = 5) := ⟨by simpa using hq5⟩
                  cases nm with
                  | false =>
                    have HE : Aside0 (R = 8) := ⟨by rw [HR2.out, if_neg (by rw [hno]; simp), if_neg (fun h => HQ.out h.1), if_pos ⟨Or.inl HQ5.out, rfl⟩]⟩
                    go_wp2_with (first | (go_at_call 38; with_reducible refine (name_c _ x.f6 false HN.out.choose_spec _ ?hg).mono ?_; (case hg => exact HGL.out.below (by with_reducible assumption)); rintro e w6 ⟨rfl, hb⟩; have HCw6 : w6.cell? ⟨w.heap.size, 0, none⟩ = some (.int .i64 x.f0) ∧ w6.cell? ⟨w.heap.size, 1, none⟩ = some (.int .i64 x.f1) ∧ w6.cell? ⟨w.heap.size, 2, none⟩ = some (.int .i64 x.f2) ∧ w6.cell? ⟨w.heap.size, 3, none⟩ = some (.int .i64 x.f3) ∧ w6.cell? ⟨w.heap.size, 4, none⟩ = some (.string x.f4) ∧ w6.cell? ⟨w.heap.size, 5, none⟩ = some (.string x.f5) ∧ w6.cell? ⟨w.heap.size, 6, none⟩ = some (.string x.f6) ∧ w6.cell? ⟨w.heap.size, 7, none⟩ = some (.string x.f7) ∧ w6.cell? ⟨w.heap.size, 8, none⟩ = some (.slice A x.f8.length c) := ⟨pw_cell_below hb (by with_reducible assumption), pw_cell_below hb (by with_reducible assumption), pw_cell_below hb (by with_reducible assumption), pw_cell_below hb (by with_reducible assumption), pw_cell_below hb (by with_reducible assumption), pw_cell_below hb (by with_reducible assumption), pw_cell_below hb (by with_reducible assumption), pw_cell_below hb (by with_reducible assumption), pw_cell_below hb (by with_reducible assumption)⟩; have HBw6 : Below w.heap.size w w6 := then_w (by with_reducible assumption) hb; clear hb; go_split_ands))
                    go_ret
                    exact ⟨by rw [HE.out]; rfl, by with_reducible assumption⟩
                  | true =>
                    cases hs5 : decide (x.f5.size > 65536) with
                    | true =>
                      have HE : Aside0 (R = 3) := ⟨by rw [HR2.out, if_neg (by rw [hno]; simp), if_neg (fun h => HQ.out h.1), if_neg (by simp), if_pos (Or.inl (of_decide_eq_true hs5))]⟩
                      go_wp2_with (first | (go_at_call 38; with_reducible refine (name_c _ x.f6 true HN.out.choose_spec _ ?hg).mono ?_; (case hg => exact HGL.out.below (by with_reducible assumption)); rintro e w6 ⟨rfl, hb⟩; have HCw6 : w6.cell? ⟨w.heap.size, 0, none⟩ = some (.int .i64 x.f0) ∧ w6.cell? ⟨w.heap.size, 1, none⟩ = some (.int .i64 x.f1) ∧ w6.cell? ⟨w.heap.size, 2, none⟩ = some (.int .i64 x.f2) ∧ w6.cell? ⟨w.heap.size, 3, none⟩ = some (.int .i64 x.f3) ∧ w6.cell? ⟨w.heap.size, 4, none⟩ = some (.string x.f4) ∧ w6.cell? ⟨w.heap.size, 5, none⟩ = some (.string x.f5) ∧ w6.cell? ⟨w.heap.size, 6, none⟩ = some (.string x.f6) ∧ w6.cell? ⟨w.heap.size, 7, none⟩ = some (.string x.f7) ∧ w6.cell? ⟨w.heap.size, 8, none⟩ = some (.slice A x.f8.length c) := ⟨pw_cell_below hb (by with_reducible assumption), pw_cell_below hb (by with_reducible assumption), pw_cell_below hb (by with_reducible assumption), pw_cell_below hb (by with_reducible assumption), pw_cell_below hb (by with_reducible assumption), pw_cell_below hb (by with_reducible assumption), pw_cell_below hb (by with_reducible assumption), pw_cell_below hb (by with_reducible assumption), pw_cell_below hb (by with_reducible assumption)⟩; have HBw6 : Below w.heap.size w w6 := then_w (by with_reducible assumption) hb; clear hb; go_split_ands) | (go_at_call 39; with_reducible refine (fits_c x.f5 true hs5 _ ?hg).mono ?_; (case hg => exact HGL.out.below (by with_reducible assumption)); rintro e w7 ⟨rfl, hb⟩; have HCw7 : w7.cell? ⟨w.heap.size, 0, none⟩ = some (.int .i64 x.f0) ∧ w7.cell? ⟨w.heap.size, 1, none⟩ = some (.int .i64 x.f1) ∧ w7.cell? ⟨w.heap.size, 2, none⟩ = some (.int .i64 x.f2) ∧ w7.cell? ⟨w.heap.size, 3, none⟩ = some (.int .i64 x.f3) ∧ w7.cell? ⟨w.heap.size, 4, none⟩ = some (.string x.f4) ∧ w7.cell? ⟨w.heap.size, 5, none⟩ = some (.string x.f5) ∧ w7.cell? ⟨w.heap.size, 6, none⟩ = some (.string x.f6) ∧ w7.cell? ⟨w.heap.size, 7, none⟩ = some (.string x.f7) ∧ w7.cell? ⟨w.heap.size, 8, none⟩ = some (.slice A x.f8.length c) := ⟨pw_cell_below hb (by with_reducible assumption), pw_cell_below hb (by with_reducible assumption), pw_cell_below hb (by with_reducible assumption), pw_cell_below hb (by with_reducible assumption), pw_cell_below hb (by with_reducible assumption), pw_cell_below hb (by with_reducible assumption), pw_cell_below hb (by with_reducible assumption), pw_cell_below hb (by with_reducible assumption), pw_cell_below hb (by with_reducible assumption)⟩; have HBw7 : Below w.heap.size w w7 := then_w (by with_reducible assumption) hb; clear hb; go_split_ands))
                      go_ret
                      exact ⟨by rw [HE.out]; rfl, by with_reducible assumption⟩
                    | false =>
                      cases hs7 : decide (x.f7.size > 65536) with
                      | true =>
                        have HE : Aside0 (R = 3) := ⟨by rw [HR2.out, if_neg (by rw [hno]; simp), if_neg (fun h => HQ.out h.1), if_neg (by simp), if_pos (Or.inr (of_decide_eq_true hs7))]⟩
                        go_wp2_with (first | (go_at_call 38; with_reducible refine (name_c _ x.f6 true HN.out.choose_spec _ ?hg).mono ?_; (case hg => exact HGL.out.below (by with_reducible assumption)); rintro e w6 ⟨rfl, hb⟩; have HCw6 : w6.cell? ⟨w.heap.size, 0, none⟩ = some (.int .i64 x.f0) ∧ w6.cell? ⟨w.heap.size, 1, none⟩ = some (.int .i64 x.f1) ∧ w6.cell? ⟨w.heap.size, 2, none⟩ = some (.int .i64 x.f2) ∧ w6.cell? ⟨w.heap.size, 3, none⟩ = some (.int .i64 x.f3) ∧ w6.cell? ⟨w.heap.size, 4, none⟩ = some (.string x.f4) ∧ w6.cell? ⟨w.heap.size, 5, none⟩ = some (.string x.f5) ∧ w6.cell? ⟨w.heap.size, 6, none⟩ = some (.string x.f6) ∧ w6.cell? ⟨w.heap.size, 7, none⟩ = some (.string x.f7) ∧ w6.cell? ⟨w.heap.size, 8, none⟩ = some (.slice A x.f8.length c) := ⟨pw_cell_below hb (by with_reducible assumption), pw_cell_below hb (by with_reducible assumption), pw_cell_below hb (by with_reducible assumption), pw_cell_below hb (by with_reducible assumption), pw_cell_below hb (by with_reducible assumption), pw_cell_below hb (by with_reducible assumption), pw_cell_below hb (by with_reducible assumption), pw_cell_below hb (by with_reducible assumption), pw_cell_below hb (by with_reducible assumption)⟩; have HBw6 : Below w.heap.size w w6 := then_w (by with_reducible assumption) hb; clear hb; go_split_ands) | (go_at_call 39; with_reducible refine (fits_c x.f5 false hs5 _ ?hg).mono ?_; (case hg => exact HGL.out.below (by with_reducible assumption)); rintro e w7 ⟨rfl, hb⟩; have HCw7 : w7.cell? ⟨w.heap.size, 0, none⟩ = some (.int .i64 x.f0) ∧ w7.cell? ⟨w.heap.size, 1, none⟩ = some (.int .i64 x.f1) ∧ w7.cell? ⟨w.heap.size, 2, none⟩ = some (.int .i64 x.f2) ∧ w7.cell? ⟨w.heap.size, 3, none⟩ = some (.int .i64 x.f3) ∧ w7.cell? ⟨w.heap.size, 4, none⟩ = some (.string x.f4) ∧ w7.cell? ⟨w.heap.size, 5, none⟩ = some (.string x.f5) ∧ w7.cell? ⟨w.heap.size, 6, none⟩ = some (.string x.f6) ∧ w7.cell? ⟨w.heap.size, 7, none⟩ = some (.string x.f7) ∧ w7.cell? ⟨w.heap.size, 8, none⟩ = some (.slice A x.f8.length c) := ⟨pw_cell_below hb (by with_reducible assumption), pw_cell_below hb (by with_reducible assumption), pw_cell_below hb (by with_reducible assumption), pw_cell_below hb (by with_reducible assumption), pw_cell_below hb (by with_reducible assumption), pw_cell_below hb (by with_reducible assumption), pw_cell_below hb (by with_reducible assumption), pw_cell_below hb (by with_reducible assumption), pw_cell_below hb (by with_reducible assumption)⟩; have HBw7 : Below w.heap.size w w7 := then_w (by with_reducible assumption) hb; clear hb; go_split_ands) | (go_at_call 39; with_reducible refine (fits_c x.f7 true hs7 _ ?hg).mono ?_; (case hg => exact HGL.out.below (by with_reducible assumption)); rintro e w8 ⟨rfl, hb⟩; have HCw8 : w8.cell? ⟨w.heap.size, 0, none⟩ = some (.int .i64 x.f0) ∧ w8.cell? ⟨w.heap.size, 1, none⟩ = some (.int .i64 x.f1) ∧ w8.cell? ⟨w.heap.size, 2, none⟩ = some (.int .i64 x.f2) ∧ w8.cell? ⟨w.heap.size, 3, none⟩ = some (.int .i64 x.f3) ∧ w8.cell? ⟨w.heap.size, 4, none⟩ = some (.string x.f4) ∧ w8.cell? ⟨w.heap.size, 5, none⟩ = some (.string x.f5) ∧ w8.cell? ⟨w.heap.size, 6, none⟩ = some (.string x.f6) ∧ w8.cell? ⟨w.heap.size, 7, none⟩ = some (.string x.f7) ∧ w8.cell? ⟨w.heap.size, 8, none⟩ = some (.slice A x.f8.length c) := ⟨pw_cell_below hb (by with_reducible assumption), pw_cell_below hb (by with_reducible assumption), pw_cell_below hb (by with_reducible assumption), pw_cell_below hb (by with_reducible assumption), pw_cell_below hb (by with_reducible assumption), pw_cell_below hb (by with_reducible assumption), pw_cell_below hb (by with_reducible assumption), pw_cell_below hb (by with_reducible assumption), pw_cell_below hb (by with_reducible assumption)⟩; have HBw8 : Below w.heap.size w w8 := then_w (by with_reducible assumption) hb; clear hb; go_split_ands))
                        go_ret
                        exact ⟨by rw [HE.out]; rfl, by with_reducible assumption⟩
                      | false =>
                        have HE : Aside0 (R = (attrsN x.f8 na x.f8.length 0).2) := ⟨by rw [HR2.out, if_neg (by rw [hno]; simp), if_neg (fun h => HQ.out h.1), if_neg (by simp), if_neg (fun h => h.elim (of_decide_eq_false hs5) (of_decide_eq_false hs7))]⟩
                        go_wp2_with (first | (go_at_call 38; with_reducible refine (name_c _ x.f6 true HN.out.choose_spec _ ?hg).mono ?_; (case hg => exact HGL.out.below (by with_reducible assumption)); rintro e w6 ⟨rfl, hb⟩; have HCw6 : w6.cell? ⟨w.heap.size, 0, none⟩ = some (.int .i64 x.f0) ∧ w6.cell? ⟨w.heap.size, 1, none⟩ = some (.int .i64 x.f1) ∧ w6.cell? ⟨w.heap.size, 2, none⟩ = some (.int .i64 x.f2) ∧ w6.cell? ⟨w.heap.size, 3, none⟩ = some (.int .i64 x.f3) ∧ w6.cell? ⟨w.heap.size, 4, none⟩ = some (.string x.f4) ∧ w6.cell? ⟨w.heap.size, 5, none⟩ = some (.string x.f5) ∧ w6.cell? ⟨w.heap.size, 6, none⟩ = some (.string x.f6) ∧ w6.cell? ⟨w.heap.size, 7, none⟩ = some (.string x.f7) ∧ w6.cell? ⟨w.heap.size, 8, none⟩ = some (.slice A x.f8.length c) := ⟨pw_cell_below hb (by with_reducible assumption), pw_cell_below hb (by with_reducible assumption), pw_cell_below hb (by with_reducible assumption), pw_cell_below hb (by with_reducible assumption), pw_cell_below hb (by with_reducible assumption), pw_cell_below hb (by with_reducible assumption), pw_cell_below hb (by with_reducible assumption), pw_cell_below hb (by with_reducible assumption), pw_cell_below hb (by with_reducible assumption)⟩; have HBw6 : Below w.heap.size w w6 := then_w (by with_reducible assumption) hb; clear hb; go_split_ands) | (go_at_call 39; with_reducible refine (fits_c x.f5 false hs5 _ ?hg).mono ?_; (case hg => exact HGL.out.below (by with_reducible assumption)); rintro e w7 ⟨rfl, hb⟩; have HCw7 : w7.cell? ⟨w.heap.size, 0, none⟩ = some (.int .i64 x.f0) ∧ w7.cell? ⟨w.heap.size, 1, none⟩ = some (.int .i64 x.f1) ∧ w7.cell? ⟨w.heap.size, 2, none⟩ = some (.int .i64 x.f2) ∧ w7.cell? ⟨w.heap.size, 3, none⟩ = some (.int .i64 x.f3) ∧ w7.cell? ⟨w.heap.size, 4, none⟩ = some (.string x.f4) ∧ w7.cell? ⟨w.heap.size, 5, none⟩ = some (.string x.f5) ∧ w7.cell? ⟨w.heap.size, 6, none⟩ = some (.string x.f6) ∧ w7.cell? ⟨w.heap.size, 7, none⟩ = some (.string x.f7) ∧ w7.cell? ⟨w.heap.size, 8, none⟩ = some (.slice A x.f8.length c) := ⟨pw_cell_below hb (by with_reducible assumption), pw_cell_below hb (by with_reducible assumption), pw_cell_below hb (by with_reducible assumption), pw_cell_below hb (by with_reducible assumption), pw_cell_below hb (by with_reducible assumption), pw_cell_below hb (by with_reducible assumption), pw_cell_below hb (by with_reducible assumption), pw_cell_below hb (by with_reducible assumption), pw_cell_below hb (by with_reducible assumption)⟩; have HBw7 : Below w.heap.size w w7 := then_w (by with_reducible assumption) hb; clear hb; go_split_ands) | (go_at_call 39; with_reducible refine (fits_c x.f7 false hs7 _ ?hg).mono ?_; (case hg => exact HGL.out.below (by with_reducible assumption)); rintro e w8 ⟨rfl, hb⟩; have HCw8 : w8.cell? ⟨w.heap.size, 0, none⟩ = some (.int .i64 x.f0) ∧ w8.cell? ⟨w.heap.size, 1, none⟩ = some (.int .i64 x.f1) ∧ w8.cell? ⟨w.heap.size, 2, none⟩ = some (.int .i64 x.f2) ∧ w8.cell? ⟨w.heap.size, 3, none⟩ = some (.int .i64 x.f3) ∧ w8.cell? ⟨w.heap.size, 4, none⟩ = some (.string x.f4) ∧ w8.cell? ⟨w.heap.size, 5, none⟩ = some (.string x.f5) ∧ w8.cell? ⟨w.heap.size, 6, none⟩ = some (.string x.f6) ∧ w8.cell? ⟨w.heap.size, 7, none⟩ = some (.string x.f7) ∧ w8.cell? ⟨w.heap.size, 8, none⟩ = some (.slice A x.f8.length c) := ⟨pw_cell_below hb (by with_reducible assumption), pw_cell_below hb (by with_reducible assumption), pw_cell_below hb (by with_reducible assumption), pw_cell_below hb (by with_reducible assumption), pw_cell_below hb (by with_reducible assumption), pw_cell_below hb (by with_reducible assumption), pw_cell_below hb (by with_reducible assumption), pw_cell_below hb (by with_reducible assumption), pw_cell_below hb (by with_reducible assumption)⟩; have HBw8 : Below w.heap.size w w8 := then_w (by with_reducible assumption) hb; clear hb; go_split_ands) | (go_at_call 40; with_reducible refine (attrs_Check_c A c x.f8 na _ ?hg ?hl hc HA.out).mono ?_; (case hg => exact HGL.out.below (by with_reducible assumption)); (case hl => exact Kd.C_below HL.out (by with_reducible assumption)); rintro e w9 ⟨rfl, hb⟩; have HBw9 : Below w.heap.size w w9 := then_w (by with_reducible assumption) hb; clear hb))
                        go_ret
                        exact ⟨by rw [HE.out]; rfl, by with_reducible assumption⟩
                | false =>
                  have HQ5 : Aside0 (¬ x.f0 = 5) := ⟨by simpa using hq5⟩
                  cases hq6 : (x.f0 == 6) with
                  | true =>
                    have HQ6 : Aside0 (x.f0 = 6) := ⟨by simpa using hq6⟩
                    cases nm with
                    | false =>
                      have HE : Aside0 (R = 8) := ⟨by rw [HR2.out, if_neg (by rw [hno]; simp), if_neg (fun h => HQ.out h.1), if_pos ⟨Or.inr HQ6.out, rfl⟩]⟩
                      go_wp2_with (first | (go_at_call 38; with_reducible refine (name_c _ x.f6 false HN.out.choose_spec _ ?hg).mono ?_; (case hg => exact HGL.out.below (by with_reducible assumption)); rintro e w6 ⟨rfl, hb⟩; have HCw6 : w6.cell? ⟨w.heap.size, 0, none⟩ = some (.int .i64 x.f0) ∧ w6.cell? ⟨w.heap.size, 1, none⟩ = some (.int .i64 x.f1) ∧ w6.cell? ⟨w.heap.size, 2, none⟩ = some (.int .i64 x.f2) ∧ w6.cell? ⟨w.heap.size, 3, none⟩ = some (.int .i64 x.f3) ∧ w6.cell? ⟨w.heap.size, 4, none⟩ = some (.string x.f4) ∧ w6.cell? ⟨w.heap.size, 5, none⟩ = some (.string x.f5) ∧ w6.cell? ⟨w.heap.size, 6, none⟩ = some (.string x.f6) ∧ w6.cell? ⟨w.heap.size, 7, none⟩ = some (.string x.f7) ∧ w6.cell? ⟨w.heap.size, 8, none⟩ = some (.slice A x.f8.length c) := ⟨pw_cell_below hb (by with_reducible assumption), pw_cell_below hb (by with_reducible assumption), pw_cell_below hb (by with_reducible assumption), pw_cell_below hb (by with_reducible assumption), pw_cell_below hb (by with_reducible assumption), pw_cell_below hb (by with_reducible assumption), pw_cell_below hb (by with_reducible assumption), pw_cell_below hb (by with_reducible assumption), pw_cell_below hb (by with_reducible assumption)⟩; have HBw6 : Below w.heap.size w w6 := then_w (by with_reducible assumption) hb; clear hb; go_split_ands))
                      go_ret
                      exact ⟨by rw [HE.out]; rfl, by with_reducible assumption⟩
                    | true =>
                      cases hs5 : decide (x.f5.size > 65536) with
                      | true =>
                        have HE : Aside0 (R = 3) := ⟨by rw [HR2.out, if_neg (by rw [hno]; simp), if_neg (fun h => HQ.out h.1), if_neg (by simp), if_pos (Or.inl (of_decide_eq_true hs5))]⟩
                        go_wp2_with (first | (go_at_call 38; with_reducible refine (name_c _ x.f6 true HN.out.choose_spec _ ?hg).mono ?_; (case hg => exact HGL.out.below (by with_reducible assumption)); rintro e w6 ⟨rfl, hb⟩; have HCw6 : w6.cell? ⟨w.heap.size, 0, none⟩ = some (.int .i64 x.f0) ∧ w6.cell? ⟨w.heap.size, 1, none⟩ = some (.int .i64 x.f1) ∧ w6.cell? ⟨w.heap.size, 2, none⟩ = some (.int .i64 x.f2) ∧ w6.cell? ⟨w.heap.size, 3, none⟩ = some (.int .i64 x.f3) ∧ w6.cell? ⟨w.heap.size, 4, none⟩ = some (.string x.f4) ∧ w6.cell? ⟨w.heap.size, 5, none⟩ = some (.string x.f5) ∧ w6.cell? ⟨w.heap.size, 6, none⟩ = some (.string x.f6) ∧ w6.cell? ⟨w.heap.size, 7, none⟩ = some (.string x.f7) ∧ w6.cell? ⟨w.heap.size, 8, none⟩ = some (.slice A x.f8.length c) := ⟨pw_cell_below hb (by with_reducible assumption), pw_cell_below hb (by with_reducible assumption), pw_cell_below hb (by with_reducible assumption), pw_cell_below hb (by with_reducible assumption), pw_cell_below hb (by with_reducible assumption), pw_cell_below hb (by with_reducible assumption), pw_cell_below hb (by with_reducible assumption), pw_cell_below hb (by with_reducible assumption), pw_cell_below hb (by with_reducible assumption)⟩; have HBw6 : Below w.heap.size w w6 := then_w (by with_reducible assumption) hb; clear hb; go_split_ands) | (go_at_call 39; with_reducible refine (fits_c x.f5 true hs5 _ ?hg).mono ?_; (case hg => exact HGL.out.below (by with_reducible assumption)); rintro e w7 ⟨rfl, hb⟩; have HCw7 : w7.cell? ⟨w.heap.size, 0, none⟩ = some (.int .i64 x.f0) ∧ w7.cell? ⟨w.heap.size, 1, none⟩ = some (.int .i64 x.f1) ∧ w7.cell? ⟨w.heap.size, 2, none⟩ = some (.int .i64 x.f2) ∧ w7.cell? ⟨w.heap.size, 3, none⟩ = some (.int .i64 x.f3) ∧ w7.cell? ⟨w.heap.size, 4, none⟩ = some (.string x.f4) ∧ w7.cell? ⟨w.heap.size, 5, none⟩ = some (.string x.f5) ∧ w7.cell? ⟨w.heap.size, 6, none⟩ = some (.string x.f6) ∧ w7.cell? ⟨w.heap.size, 7, none⟩ = some (.string x.f7) ∧ w7.cell? ⟨w.heap.size, 8, none⟩ = some (.slice A x.f8.length c) := ⟨pw_cell_below hb (by with_reducible assumption), pw_cell_below hb (by with_reducible assumption), pw_cell_below hb (by with_reducible assumption), pw_cell_below hb (by with_reducible assumption), pw_cell_below hb (by with_reducible assumption), pw_cell_below hb (by with_reducible assumption), pw_cell_below hb (by with_reducible assumption), pw_cell_below hb (by with_reducible assumption), pw_cell_below hb (by with_reducible assumption)⟩; have HBw7 : Below w.heap.size w w7 := then_w (by with_reducible assumption) hb; clear hb; go_split_ands))
                        go_ret
                        exact ⟨by rw [HE.out]; rfl, by with_reducible assumption⟩
                      | false =>
                        cases hs7 : decide (x.f7.size > 65536) with
                        | true =>
                          have HE : Aside0 (R = 3) := ⟨by rw [HR2.out, if_neg (by rw [hno]; simp), if_neg (fun h => HQ.out h.1), if_neg (by simp), if_pos (Or.inr (of_decide_eq_true hs7))]⟩
                          go_wp2_with (first | (go_at_call 38; with_reducible refine (name_c _ x.f6 true HN.out.choose_spec _ ?hg).mono ?_; (case hg => exact HGL.out.below (by with_reducible assumption)); rintro e w6 ⟨rfl, hb⟩; have HCw6 : w6.cell? ⟨w.heap.size, 0, none⟩ = some (.int .i64 x.f0) ∧ w6.cell? ⟨w.heap.size, 1, none⟩ = some (.int .i64 x.f1) ∧ w6.cell? ⟨w.heap.size, 2, none⟩ = some (.int .i64 x.f2) ∧ w6.cell? ⟨w.heap.size, 3, none⟩ = some (.int .i64 x.f3) ∧ w6.cell? ⟨w.heap.size, 4, none⟩ = some (.string x.f4) ∧ w6.cell? ⟨w.heap.size, 5, none⟩ = some (.string x.f5) ∧ w6.cell? ⟨w.heap.size, 6, none⟩ = some (.string x.f6) ∧ w6.cell? ⟨w.heap.size, 7, none⟩ = some (.string x.f7) ∧ w6.cell? ⟨w.heap.size, 8, none⟩ = some (.slice A x.f8.length c) := ⟨pw_cell_below hb (by with_reducible assumption), pw_cell_below hb (by with_reducible assumption), pw_cell_below hb (by with_reducible assumption), pw_cell_below hb (by with_reducible assumption), pw_cell_below hb (by with_reducible assumption), pw_cell_below hb (by with_reducible assumption), pw_cell_below hb (by with_reducible assumption), pw_cell_below hb (by with_reducible assumption), pw_cell_below hb (by with_reducible assumption)⟩; have HBw6 : Below w.heap.size w w6 := then_w (by with_reducible assumption) hb; clear hb; go_split_ands) | (go_at_call 39; with_reducible refine (fits_c x.f5 false hs5 _ ?hg).mono ?_; (case hg => exact HGL.out.below (by with_reducible assumption)); rintro e w7 ⟨rfl, hb⟩; have HCw7 : w7.cell? ⟨w.heap.size, 0, none⟩ = some (.int .i64 x.f0) ∧ w7.cell? ⟨w.heap.size, 1, none⟩ = some (.int .i64 x.f1) ∧ w7.cell? ⟨w.heap.size, 2, none⟩ = some (.int .i64 x.f2) ∧ w7.cell? ⟨w.heap.size, 3, none⟩ = some (.int .i64 x.f3) ∧ w7.cell? ⟨w.heap.size, 4, none⟩ = some (.string x.f4) ∧ w7.cell? ⟨w.heap.size, 5, none⟩ = some (.string x.f5) ∧ w7.cell? ⟨w.heap.size, 6, none⟩ = some (.string x.f6) ∧ w7.cell? ⟨w.heap.size, 7, none⟩ = some (.string x.f7) ∧ w7.cell? ⟨w.heap.size, 8, none⟩ = some (.slice A x.f8.length c) := ⟨pw_cell_below hb (by with_reducible assumption), pw_cell_below hb (by with_reducible assumption), pw_cell_below hb (by with_reducible assumption), pw_cell_below hb (by with_reducible assumption), pw_cell_below hb (by with_reducible assumption), pw_cell_below hb (by with_reducible assumption), pw_cell_below hb (by with_reducible assumption), pw_cell_below hb (by with_reducible assumption), pw_cell_below hb (by with_reducible assumption)⟩; have HBw7 : Below w.heap.size w w7 := then_w (by with_reducible assumption) hb; clear hb; go_split_ands) | (go_at_call 39; with_reducible refine (fits_c x.f7 true hs7 _ ?hg).mono ?_; (case hg => exact HGL.out.below (by with_reducible assumption)); rintro e w8 ⟨rfl, hb⟩; have HCw8 : w8.cell? ⟨w.heap.size, 0, none⟩ = some (.int .i64 x.f0) ∧ w8.cell? ⟨w.heap.size, 1, none⟩ = some (.int .i64 x.f1) ∧ w8.cell? ⟨w.heap.size, 2, none⟩ = some (.int .i64 x.f2) ∧ w8.cell? ⟨w.heap.size, 3, none⟩ = some (.int .i64 x.f3) ∧ w8.cell? ⟨w.heap.size, 4, none⟩ = some (.string x.f4) ∧ w8.cell? ⟨w.heap.size, 5, none⟩ = some (.string x.f5) ∧ w8.cell? ⟨w.heap.size, 6, none⟩ = some (.string x.f6) ∧ w8.cell? ⟨w.heap.size, 7, none⟩ = some (.string x.f7) ∧ w8.cell? ⟨w.heap.size, 8, none⟩ = some (.slice A x.f8.length c) := ⟨pw_cell_below hb (by with_reducible assumption), pw_cell_below hb (by with_reducible assumption), pw_cell_below hb (by with_reducible assumption), pw_cell_below hb (by with_reducible assumption), pw_cell_below hb (by with_reducible assumption), pw_cell_below hb (by with_reducible assumption), pw_cell_below hb (by with_reducible assumption), pw_cell_below hb (by with_reducible assumption), pw_cell_below hb (by with_reducible assumption)⟩; have HBw8 : Below w.heap.size w w8 := then_w (by with_reducible assumption) hb; clear hb; go_split_ands))
                          go_ret
                          exact ⟨by rw [HE.out]; rfl, by with_reducible assumption⟩
                        | false =>
                          have HE : Aside0 (R = (attrsN x.f8 na x.f8.length 0).2) := ⟨by rw [HR2.out, if_neg (by rw [hno]; simp), if_neg (fun h => HQ.out h.1), if_neg (by simp), if_neg (fun h => h.elim (of_decide_eq_false hs5) (of_decide_eq_false hs7))]⟩
                          go_wp2_with (first | (go_at_call 38; with_reducible refine (name_c _ x.f6 true HN.out.choose_spec _ ?hg).mono ?_; (case hg => exact HGL.out.below (by with_reducible assumption)); rintro e w6 ⟨rfl, hb⟩; have HCw6 : w6.cell? ⟨w.heap.size, 0, none⟩ = some (.int .i64 x.f0) ∧ w6.cell? ⟨w.heap.size, 1, none⟩ = some (.int .i64 x.f1) ∧ w6.cell? ⟨w.heap.size, 2, none⟩ = some (.int .i64 x.f2) ∧ w6.cell? ⟨w.heap.size, 3, none⟩ = some (.int .i64 x.f3) ∧ w6.cell? ⟨w.heap.size, 4, none⟩ = some (.string x.f4) ∧ w6.cell? ⟨w.heap.size, 5, none⟩ = some (.string x.f5) ∧ w6.cell? ⟨w.heap.size, 6, none⟩ = some (.string x.f6) ∧ w6.cell? ⟨w.heap.size, 7, none⟩ = some (.string x.f7) ∧ w6.cell? ⟨w.heap.size, 8, none⟩ = some (.slice A x.f8.length c) := ⟨pw_cell_below hb (by with_reducible assumption), pw_cell_below hb (by with_reducible assumption), pw_cell_below hb (by with_reducible assumption), pw_cell_below hb (by with_reducible assumption), pw_cell_below hb (by with_reducible assumption), pw_cell_below hb (by with_reducible assumption), pw_cell_below hb (by with_reducible assumption), pw_cell_below hb (by with_reducible assumption), pw_cell_below hb (by with_reducible assumption)⟩; have HBw6 : Below w.heap.size w w6 := then_w (by with_reducible assumption) hb; clear hb; go_split_ands) | (go_at_call 39; with_reducible refine (fits_c x.f5 false hs5 _ ?hg).mono ?_; (case hg => exact HGL.out.below (by with_reducible assumption)); rintro e w7 ⟨rfl, hb⟩; have HCw7 : w7.cell? ⟨w.heap.size, 0, none⟩ = some (.int .i64 x.f0) ∧ w7.cell? ⟨w.heap.size, 1, none⟩ = some (.int .i64 x.f1) ∧ w7.cell? ⟨w.heap.size, 2, none⟩ = some (.int .i64 x.f2) ∧ w7.cell? ⟨w.heap.size, 3, none⟩ = some (.int .i64 x.f3) ∧ w7.cell? ⟨w.heap.size, 4, none⟩ = some (.string x.f4) ∧ w7.cell? ⟨w.heap.size, 5, none⟩ = some (.string x.f5) ∧ w7.cell? ⟨w.heap.size, 6, none⟩ = some (.string x.f6) ∧ w7.cell? ⟨w.heap.size, 7, none⟩ = some (.string x.f7) ∧ w7.cell? ⟨w.heap.size, 8, none⟩ = some (.slice A x.f8.length c) := ⟨pw_cell_below hb (by with_reducible assumption), pw_cell_below hb (by with_reducible assumption), pw_cell_below hb (by with_reducible assumption), pw_cell_below hb (by with_reducible assumption), pw_cell_below hb (by with_reducible assumption), pw_cell_below hb (by with_reducible assumption), pw_cell_below hb (by with_reducible assumption), pw_cell_below hb (by with_reducible assumption), pw_cell_below hb (by with_reducible assumption)⟩; have HBw7 : Below w.heap.size w w7 := then_w (by with_reducible assumption) hb; clear hb; go_split_ands) | (go_at_call 39; with_reducible refine (fits_c x.f7 false hs7 _ ?hg).mono ?_; (case hg => exact HGL.out.below (by with_reducible assumption)); rintro e w8 ⟨rfl, hb⟩; have HCw8 : w8.cell? ⟨w.heap.size, 0, none⟩ = some (.int .i64 x.f0) ∧ w8.cell? ⟨w.heap.size, 1, none⟩ = some (.int .i64 x.f1) ∧ w8.cell? ⟨w.heap.size, 2, none⟩ = some (.int .i64 x.f2) ∧ w8.cell? ⟨w.heap.size, 3, none⟩ = some (.int .i64 x.f3) ∧ w8.cell? ⟨w.heap.size, 4, none⟩ = some (.string x.f4) ∧ w8.cell? ⟨w.heap.size, 5, none⟩ = some (.string x.f5) ∧ w8.cell? ⟨w.heap.size, 6, none⟩ = some (.string x.f6) ∧ w8.cell? ⟨w.heap.size, 7, none⟩ = some (.string x.f7) ∧ w8.cell? ⟨w.heap.size, 8, none⟩ = some (.slice A x.f8.length c) := ⟨pw_cell_below hb (by with_reducible assumption), pw_cell_below hb (by with_reducible assumption), pw_cell_below hb (by with_reducible assumption), pw_cell_below hb (by with_reducible assumption), pw_cell_below hb (by with_reducible assumption), pw_cell_below hb (by with_reducible assumption), pw_cell_below hb (by with_reducible assumption), pw_cell_below hb (by with_reducible assumption), pw_cell_below hb (by with_reducible assumption)⟩; have HBw8 : Below w.heap.size w w8 := then_w (by with_reducible assumption) hb; clear hb; go_split_ands) | (go_at_call 40; with_reducible refine (attrs_Check_c A c x.f8 na _ ?hg ?hl hc HA.out).mono ?_; (case hg => exact HGL.out.below (by with_reducible assumption)); (case hl => exact Kd.C_below HL.out (by with_reducible assumption)); rintro e w9 ⟨rfl, hb⟩; have HBw9 : Below w.heap.size w w9 := then_w (by with_reducible assumption) hb; clear hb))
                          go_ret
                          exact ⟨by rw [HE.out]; rfl, by with_reducible assumption⟩
                  | false =>
                    have HQ6 : Aside0 (¬ x.f0 = 6) := ⟨by simpa using hq6⟩
                    cases hs5 : decide (x.f5.size > 65536) with
                    | true =>
                      have HE : Aside0 (R = 3) := ⟨by rw [HR2.out, if_neg (by rw [hno]; simp), if_neg (fun h => HQ.out h.1), if_neg (fun h => h.1.elim HQ5.out HQ6.out), if_pos (Or.inl (of_decide_eq_true hs5))]⟩
                      go_wp2_with (first | (go_at_call 39; with_reducible refine (fits_c x.f5 true hs5 _ ?hg).mono ?_; (case hg => exact HGL.out.below (by with_reducible assumption)); rintro e w7 ⟨rfl, hb⟩; have HCw7 : w7.cell? ⟨w.heap.size, 0, none⟩ = some (.int .i64 x.f0) ∧ w7.cell? ⟨w.heap.size, 1, none⟩ = some (.int .i64 x.f1) ∧ w7.cell? ⟨w.heap.size, 2, none⟩ = some (.int .i64 x.f2) ∧ w7.cell? ⟨w.heap.size, 3, none⟩ = some (.int .i64 x.f3) ∧ w7.cell? ⟨w.heap.size, 4, none⟩ = some (.string x.f4) ∧ w7.cell? ⟨w.heap.size, 5, none⟩ = some (.string x.f5) ∧ w7.cell? ⟨w.heap.size, 6, none⟩ = some (.string x.f6) ∧ w7.cell? ⟨w.heap.size, 7, none⟩ = some (.string x.f7) ∧ w7.cell? ⟨w.heap.size, 8, none⟩ = some (.slice A x.f8.length c) := ⟨pw_cell_below hb (by with_reducible assumption), pw_cell_below hb (by with_reducible assumption), pw_cell_below hb (by with_reducible assumption), pw_cell_below hb (by with_reducible assumption), pw_cell_below hb (by with_reducible assumption), pw_cell_below hb (by with_reducible assumption), pw_cell_below hb (by with_reducible assumption), pw_cell_below hb (by with_reducible assumption), pw_cell_below hb (by with_reducible assumption)⟩; have HBw7 : Below w.heap.size w w7 := then_w (by with_reducible assumption) hb; clear hb; go_split_ands))
                      go_ret
                      exact ⟨by rw [HE.out]; rfl, by with_reducible assumption⟩
                    | false =>
                      cases hs7 : decide (x.f7.size > 65536) with
                      | true =>
                        have HE : Aside0 (R = 3) := ⟨by rw [HR2.out, if_neg (by rw [hno]; simp), if_neg (fun h => HQ.out h.1), if_neg (fun h => h.1.elim HQ5.out HQ6.out), if_pos (Or.inr (of_decide_eq_true hs7))]⟩
                        go_wp2_with (first | (go_at_call 39; with_reducible refine (fits_c x.f5 false hs5 _ ?hg).mono ?_; (case hg => exact HGL.out.below (by with_reducible assumption)); rintro e w7 ⟨rfl, hb⟩; have HCw7 : w7.cell? ⟨w.heap.size, 0, none⟩ = some (.int .i64 x.f0) ∧ w7.cell? ⟨w.heap.size, 1, none⟩ = some (.int .i64 x.f1) ∧ w7.cell? ⟨w.heap.size, 2, none⟩ = some (.int .i64 x.f2) ∧ w7.cell? ⟨w.heap.size, 3, none⟩ = some (.int .i64 x.f3) ∧ w7.cell? ⟨w.heap.size, 4, none⟩ = some (.string x.f4) ∧ w7.cell? ⟨w.heap.size, 5, none⟩ = some (.string x.f5) ∧ w7.cell? ⟨w.heap.size, 6, none⟩ = some (.string x.f6) ∧ w7.cell? ⟨w.heap.size, 7, none⟩ = some (.string x.f7) ∧ w7.cell? ⟨w.heap.size, 8, none⟩ = some (.slice A x.f8.length c) := ⟨pw_cell_below hb (by with_reducible assumption), pw_cell_below hb (by with_reducible assumption), pw_cell_below hb (by with_reducible assumption), pw_cell_below hb (by with_reducible assumption), pw_cell_below hb (by with_reducible assumption), pw_cell_below hb (by with_reducible assumption), pw_cell_below hb (by with_reducible assumption), pw_cell_below hb (by with_reducible assumption), pw_cell_below hb (by with_reducible assumption)⟩; have HBw7 : Below w.heap.size w w7 := then_w (by with_reducible assumption) hb; clear hb; go_split_ands) | (go_at_call 39; with_reducible refine (fits_c x.f7 true hs7 _ ?hg).mono ?_; (case hg => exact HGL.out.below (by with_reducible assumption)); rintro e w8 ⟨rfl, hb⟩; have HCw8 : w8.cell? ⟨w.heap.size, 0, none⟩ = some (.int .i64 x.f0) ∧ w8.cell? ⟨w.heap.size, 1, none⟩ = some (.int .i64 x.f1) ∧ w8.cell? ⟨w.heap.size, 2, none⟩ = some (.int .i64 x.f2) ∧ w8.cell? ⟨w.heap.size, 3, none⟩ = some (.int .i64 x.f3) ∧ w8.cell? ⟨w.heap.size, 4, none⟩ = some (.string x.f4) ∧ w8.cell? ⟨w.heap.size, 5, none⟩ = some (.string x.f5) ∧ w8.cell? ⟨w.heap.size, 6, none⟩ = some (.string x.f6) ∧ w8.cell? ⟨w.heap.size, 7, none⟩ = some (.string x.f7) ∧ w8.cell? ⟨w.heap.size, 8, none⟩ = some (.slice A x.f8.length c) := ⟨pw_cell_below hb (by with_reducible assumption), pw_cell_below hb (by with_reducible assumption), pw_cell_below hb (by with_reducible assumption), pw_cell_below hb (by with_reducible assumption), pw_cell_below hb (by with_reducible assumption), pw_cell_below hb (by with_reducible assumption), pw_cell_below hb (by with_reducible assumption), pw_cell_below hb (by with_reducible assumption), pw_cell_below hb (by with_reducible assumption)⟩; have HBw8 : Below w.heap.size w w8 := then_w (by with_reducible assumption) hb; clear hb; go_split_ands))
                        go_ret
                        exact ⟨by rw [HE.out]; rfl, by with_reducible assumption⟩
                      | false =>
                        have HE : Aside0 (R = (attrsN x.f8 na x.f8.length 0).2) := ⟨by rw [HR2.out, if_neg (by rw [hno]; simp), if_neg (fun h => HQ.out h.1), if_neg (fun h => h.1.elim HQ5.out HQ6.out), if_neg (fun h => h.elim (of_decide_eq_false hs5) (of_decide_eq_false hs7))]⟩
                        go_wp2_with (first | (go_at_call 39; with_reducible refine (fits_c x.f5 false hs5 _ ?hg).mono ?_; (case hg => exact HGL.out.below (by with_reducible assumption)); rintro e w7 ⟨rfl, hb⟩; have HCw7 : w7.cell? ⟨w.heap.size, 0, none⟩ = some (.int .i64 x.f0) ∧ w7.cell? ⟨w.heap.size, 1, none⟩ = some (.int .i64 x.f1) ∧ w7.cell? ⟨w.heap.size, 2, none⟩ = some (.int .i64 x.f2) ∧ w7.cell? ⟨w.heap.size, 3, none⟩ = some (.int .i64 x.f3) ∧ w7.cell? ⟨w.heap.size, 4, none⟩ = some (.string x.f4) ∧ w7.cell? ⟨w.heap.size, 5, none⟩ = some (.string x.f5) ∧ w7.cell? ⟨w.heap.size, 6, none⟩ = some (.string x.f6) ∧ w7.cell? ⟨w.heap.size, 7, none⟩ = some (.string x.f7) ∧ w7.cell? ⟨w.heap.size, 8, none⟩ = some (.slice A x.f8.length c) := ⟨pw_cell_below hb (by with_reducible assumption), pw_cell_below hb (by with_reducible assumption), pw_cell_below hb (by with_reducible assumption), pw_cell_below hb (by with_reducible assumption), pw_cell_below hb (by with_reducible assumption), pw_cell_below hb (by with_reducible assumption), pw_cell_below hb (by with_reducible assumption), pw_cell_below hb (by with_reducible assumption), pw_cell_below hb (by with_reducible assumption)⟩; have HBw7 : Below w.heap.size w w7 := then_w (by with_reducible assumption) hb; clear hb; go_split_ands) | (go_at_call 39; with_reducible refine (fits_c x.f7 false hs7 _ ?hg).mono ?_; (case hg => exact HGL.out.below (by with_reducible assumption)); rintro e w8 ⟨rfl, hb⟩; have HCw8 : w8.cell? ⟨w.heap.size, 0, none⟩ = some (.int .i64 x.f0) ∧ w8.cell? ⟨w.heap.size, 1, none⟩ = some (.int .i64 x.f1) ∧ w8.cell? ⟨w.heap.size, 2, none⟩ = some (.int .i64 x.f2) ∧ w8.cell? ⟨w.heap.size, 3, none⟩ = some (.int .i64 x.f3) ∧ w8.cell? ⟨w.heap.size, 4, none⟩ = some (.string x.f4) ∧ w8.cell? ⟨w.heap.size, 5, none⟩ = some (.string x.f5) ∧ w8.cell? ⟨w.heap.size, 6, none⟩ = some (.string x.f6) ∧ w8.cell? ⟨w.heap.size, 7, none⟩ = some (.string x.f7) ∧ w8.cell? ⟨w.heap.size, 8, none⟩ = some (.slice A x.f8.length c) := ⟨pw_cell_below hb (by with_reducible assumption), pw_cell_below hb (by with_reducible assumption), pw_cell_below hb (by with_reducible assumption), pw_cell_below hb (by with_reducible assumption), pw_cell_below hb (by with_reducible assumption), pw_cell_below hb (by with_reducible assumption), pw_cell_below hb (by with_reducible assumption), pw_cell_below hb (by with_reducible assumption), pw_cell_below hb (by with_reducible assumption)⟩; have HBw8 : Below w.heap.size w w8 := then_w (by with_reducible assumption) hb; clear hb; go_split_ands) | (go_at_call 40; with_reducible refine (attrs_Check_c A c x.f8 na _ ?hg ?hl hc HA.out).mono ?_; (case hg => exact HGL.out.below (by with_reducible assumption)); (case hl => exact Kd.C_below HL.out (by with_reducible assumption)); rintro e w9 ⟨rfl, hb⟩; have HBw9 : Below w.heap.size w w9 := then_w (by with_reducible assumption) hb; clear hb))
                        go_ret
                        exact ⟨by rw [HE.out]; rfl, by with_reducible assumption⟩
            -- TAIL END
end Go.Proofs.YtgdemingopcgaaaDoorE

namespace Go.Proofs.YtgdemingopcgaaaDoorE
open Go Go.RowKit Go.Proofs.YtgdemingopcgaaaDoorW.PrintWords Go.Proofs.YtgdemingopcgaaaDoorX Go.Proofs.YtgdemingopcgaaaDoor.P26
set_option linter.unusedVariables false
set_option linter.unusedSimpArgs false
/-- r is what ops.Check answers to x. -/
def CkO (x : S24) (r : Int) : Prop := okO x ∧ ∃ (tg nm : Bool) (na : Nat → Bool), (∃ k, chars_Tag.f k x.f4 = some tg) ∧ (∃ k, chars_Name.f k x.f6 = some nm) ∧ (∀ i : Nat, i < x.f8.length → ∃ k, chars_Name.f k (rd_T51 x.f8 i).f0 = some (na i)) ∧ r = checkO x tg nm na
theorem Check_o (x : S24) (r : Int) (A : Option Addr) (c : Nat) (w : World) (hgl : GL w) (hl : Kd.C k51 w A x.f8.length x.f8) (hc : x.f8.length ≤ c) (h : CkO x r) :
    Calls Tryd.prog 13 #[opOf x A c] w fun e w' => e = .returned (.int .i64 r) ∧ Below w.heap.size w w' := by
  obtain ⟨hx, tg, nm, na, h1, h2, h3, rfl⟩ := h
  exact Check_c x A c tg nm na w hgl hx hl hc hl.2.1 h1 h2 h3
end Go.Proofs.YtgdemingopcgaaaDoorE

namespace Go.Proofs.YtgdemingopcgaaaDoor.P26
open Go.RowKit Go.Proofs.YtgdemingopcgaaaDoorE Go.Proofs.YtgdemingopcgaaaDoorW.PrintWords Go.Proofs.YtgdemingopcgaaaDoorW.PrintLast Go.Proofs.YtgdemingopcgaaaDoorW.PrintMore
attribute [local go_sem] max2_int min2_int max_two min_two max_three min_three max_four min_four   -- for this text's walks alone
set_option linter.unusedVariables false
set_option linter.unusedSimpArgs false

def tendrilref02_inner.f (a0 : Int) (a1 : Bool) : Option (Bool) := if a0 ≥ 97 then (if a0 ≤ 122 then (some true) else (if a0 ≥ 48 then (if a0 ≤ 57 then (some true) else (if a0 = 45 then (some true) else (if a1 = true then (if a0 = 58 then (some true) else (some (a0 == 46))) else (some false)))) else (if a0 = 45 then (some true) else (if a1 = true then (if a0 = 58 then (some true) else (some (a0 == 46))) else (some false))))) else (if a0 ≥ 48 then (if a0 ≤ 57 then (some true) else (if a0 = 45 then (some true) else (if a1 = true then (if a0 = 58 then (some true) else (some (a0 == 46))) else (some false)))) else (if a0 = 45 then (some true) else (if a1 = true then (if a0 = 58 then (some true) else (some (a0 == 46))) else (some false))))
set_option maxHeartbeats 8000000 in
set_option maxRecDepth 100000 in
theorem tendrilref02_inner.calls (a0 : Int) (a1 : Bool) (r : Bool) (w : World) (hgl : Go.Proofs.YtgdemingopcgaaaDoorX.GL w) (h : tendrilref02_inner.f a0 a1 = some r) :
    Calls Tryd.prog 44 #[.int .u8 a0, .bool a1] w fun e w' => e = .returned (.bool r) ∧ Drawn0 w w' := by
  have HGL := Aside0.mk hgl
  clear hgl
  have H : (if a0 ≥ 97 then (if a0 ≤ 122 then (some true) else (if a0 ≥ 48 then (if a0 ≤ 57 then (some true) else (if a0 = 45 then (some true) else (if a1 = true then (if a0 = 58 then (some true) else (some (a0 == 46))) else (some false)))) else (if a0 = 45 then (some true) else (if a1 = true then (if a0 = 58 then (some true) else (some (a0 == 46))) else (some false))))) else (if a0 ≥ 48 then (if a0 ≤ 57 then (some true) else (if a0 = 45 then (some true) else (if a1 = true then (if a0 = 58 then (some true) else (some (a0 == 46))) else (some false)))) else (if a0 = 45 then (some true) else (if a1 = true then (if a0 = 58 then (some true) else (some (a0 == 46))) else (some false))))) = some r := h
  clear h
  by_cases c3 : a0 ≥ 97
  · rw [if_pos c3] at H
    have c3b0 : decide (97 ≤ a0) = true := decide_eq_true c3
    clear c3
    by_cases c4 : a0 ≤ 122
    · rw [if_pos c4] at H
      have c4b0 : decide (a0 ≤ 122) = true := decide_eq_true c4
      clear c4
      obtain rfl := Option.some.inj H
      go_enter Tryd.func44, Tryd.ntmps44
      go_wp2
      go_ret
      exact ⟨by first | rfl | (simp; done) | (simp [*]; done), by repeat (first | exact Drawn0.refl _ | apply Drawn0.step)⟩
    · rw [if_neg c4] at H
      have c4b0 : decide (a0 ≤ 122) = false := decide_eq_false c4
      clear c4
      by_cases c5 : a0 ≥ 48
      · rw [if_pos c5] at H
        have c5b0 : decide (48 ≤ a0) = true := decide_eq_true c5
        clear c5
        by_cases c6 : a0 ≤ 57
        · rw [if_pos c6] at H
          have c6b0 : decide (a0 ≤ 57) = true := decide_eq_true c6
          clear c6
          obtain rfl := Option.some.inj H
          go_enter Tryd.func44, Tryd.ntmps44
          go_wp2
          go_ret
          exact ⟨by first | rfl | (simp; done) | (simp [*]; done), by repeat (first | exact Drawn0.refl _ | apply Drawn0.step)⟩
        · rw [if_neg c6] at H
          have c6b0 : decide (a0 ≤ 57) = false := decide_eq_false c6
          clear c6
          by_cases c7 : a0 = 45
          · rw [if_pos c7] at H
            have c7b0 : (a0 == 45) = true := beq_iff_eq.mpr c7
            have c7b1 : (a0 != 45) = false := bne_eq_false_iff_eq.mpr c7
            clear c7
            obtain rfl := Option.some.inj H
            go_enter Tryd.func44, Tryd.ntmps44
            go_wp2
            go_ret
            exact ⟨by first | rfl | (simp; done) | (simp [*]; done), by repeat (first | exact Drawn0.refl _ | apply Drawn0.step)⟩
          · rw [if_neg c7] at H
            have c7b0 : (a0 == 45) = false := beq_eq_false_iff_ne.mpr c7
            have c7b1 : (a0 != 45) = true := bne_iff_ne.mpr c7
            by_cases c8 : a1 = true
            · subst c8
              have H1 : (if a0 = 58 then (some true) else (some (a0 == 46))) = some r := by rw [if_pos rfl] at H; exact H
              clear H
              have H := H1
              clear H1
              by_cases c9 : a0 = 58
              · rw [if_pos c9] at H
                have c9b0 : (a0 == 58) = true := beq_iff_eq.mpr c9
                have c9b1 : (a0 != 58) = false := bne_eq_false_iff_eq.mpr c9
                clear c9
                obtain rfl := Option.some.inj H
                go_enter Tryd.func44, Tryd.ntmps44
                go_wp2
                go_ret
                exact ⟨by first | rfl | (simp; done) | (simp [*]; done), by repeat (first | exact Drawn0.refl _ | apply Drawn0.step)⟩
              · rw [if_neg c9] at H
                have c9b0 : (a0 == 58) = false := beq_eq_false_iff_ne.mpr c9
                have c9b1 : (a0 != 58) = true := bne_iff_ne.mpr c9
                obtain rfl := Option.some.inj H
                go_enter Tryd.func44, Tryd.ntmps44
                go_wp2
                go_ret
                exact ⟨by first | rfl | (simp; done) | (simp [*]; done), by repeat (first | exact Drawn0.refl _ | apply Drawn0.step)⟩
            · replace c8 := Bool.eq_false_iff.mpr c8
              subst c8
              have H1 : (some false) = some r := by rw [if_neg (show ¬ (false = true) by decide)] at H; exact H
              clear H
              have H := H1
              clear H1
              obtain rfl := Option.some.inj H
              go_enter Tryd.func44, Tryd.ntmps44
              go_wp2
              go_ret
              exact ⟨by first | rfl | (simp; done) | (simp [*]; done), by repeat (first | exact Drawn0.refl _ | apply Drawn0.step)⟩
      · rw [if_neg c5] at H
        have c5b0 : decide (48 ≤ a0) = false := decide_eq_false c5
        clear c5
        by_cases c10 : a0 = 45
        · rw [if_pos c10] at H
          have c10b0 : (a0 == 45) = true := beq_iff_eq.mpr c10
          have c10b1 : (a0 != 45) = false := bne_eq_false_iff_eq.mpr c10
          clear c10
          obtain rfl := Option.some.inj H
          go_enter Tryd.func44, Tryd.ntmps44
          go_wp2
          go_ret
          exact ⟨by first | rfl | (simp; done) | (simp [*]; done), by repeat (first | exact Drawn0.refl _ | apply Drawn0.step)⟩
        · rw [if_neg c10] at H
          have c10b0 : (a0 == 45) = false := beq_eq_false_iff_ne.mpr c10
          have c10b1 : (a0 != 45) = true := bne_iff_ne.mpr c10
          by_cases c11 : a1 = true
          · subst c11
            have H1 : (if a0 = 58 then (some true) else (some (a0 == 46))) = some r := by rw [if_pos rfl] at H; exact H
            clear H
            have H := H1
            clear H1
            by_cases c12 : a0 = 58
            · rw [if_pos c12] at H
              have c12b0 : (a0 == 58) = true := beq_iff_eq.mpr c12
              have c12b1 : (a0 != 58) = false := bne_eq_false_iff_eq.mpr c12
              clear c12
              obtain rfl := Option.some.inj H
              go_enter Tryd.func44, Tryd.ntmps44
              go_wp2
              go_ret
              exact ⟨by first | rfl | (simp; done) | (simp [*]; done), by repeat (first | exact Drawn0.refl _ | apply Drawn0.step)⟩
            · rw [if_neg c12] at H
              have c12b0 : (a0 == 58) = false := beq_eq_false_iff_ne.mpr c12
              have c12b1 : (a0 != 58) = true := bne_iff_ne.mpr c12
              obtain rfl := Option.some.inj H
              go_enter Tryd.func44, Tryd.ntmps44
              go_wp2
              go_ret
              exact ⟨by first | rfl | (simp; done) | (simp [*]; done), by repeat (first | exact Drawn0.refl _ | apply Drawn0.step)⟩
          · replace c11 := Bool.eq_false_iff.mpr c11
            subst c11
            have H1 : (some false) = some r := by rw [if_neg (show ¬ (false = true) by decide)] at H; exact H
            clear H
            have H := H1
            clear H1
            obtain rfl := Option.some.inj H
            go_enter Tryd.func44, Tryd.ntmps44
            go_wp2
            go_ret
            exact ⟨by first | rfl | (simp; done) | (simp [*]; done), by repeat (first | exact Drawn0.refl _ | apply Drawn0.step)⟩
  · rw [if_neg c3] at H
    have c3b0 : decide (97 ≤ a0) = false := decide_eq_false c3
    clear c3
    by_cases c13 : a0 ≥ 48
    · rw [if_pos c13] at H
      have c13b0 : decide (48 ≤ a0) = true := decide_eq_true c13
      clear c13
      by_cases c14 : a0 ≤ 57
      · rw [if_pos c14] at H
        have c14b0 : decide (a0 ≤ 57) = true := decide_eq_true c14
        clear c14
        obtain rfl := Option.some.inj H
        go_enter Tryd.func44, Tryd.ntmps44
        go_wp2
        go_ret
        exact ⟨by first | rfl | (simp; done) | (simp [*]; done), by repeat (first | exact Drawn0.refl _ | apply Drawn0.step)⟩
      · rw [if_neg c14] at H
        have c14b0 : decide (a0 ≤ 57) = false := decide_eq_false c14
        clear c14
        by_cases c15 : a0 = 45
        · rw [if_pos c15] at H
          have c15b0 : (a0 == 45) = true := beq_iff_eq.mpr c15
          have c15b1 : (a0 != 45) = false := bne_eq_false_iff_eq.mpr c15
          clear c15
          obtain rfl := Option.some.inj H
          go_enter Tryd.func44, Tryd.ntmps44
          go_wp2
          go_ret
          exact ⟨by first | rfl | (simp; done) | (simp [*]; done), by repeat (first | exact Drawn0.refl _ | apply Drawn0.step)⟩
        · rw [if_neg c15] at H
          have c15b0 : (a0 == 45) = false := beq_eq_false_iff_ne.mpr c15
          have c15b1 : (a0 != 45) = true := bne_iff_ne.mpr c15
          by_cases c16 : a1 = true
          · subst c16
            have H1 : (if a0 = 58 then (some true) else (some (a0 == 46))) = some r := by rw [if_pos rfl] at H; exact H
            clear H
            have H := H1
            clear H1
            by_cases c17 : a0 = 58
            · rw [if_pos c17] at H
              have c17b0 : (a0 == 58) = true := beq_iff_eq.mpr c17
              have c17b1 : (a0 != 58) = false := bne_eq_false_iff_eq.mpr c17
              clear c17
              obtain rfl := Option.some.inj H
              go_enter Tryd.func44, Tryd.ntmps44
              go_wp2
              go_ret
              exact ⟨by first | rfl | (simp; done) | (simp [*]; done), by repeat (first | exact Drawn0.refl _ | apply Drawn0.step)⟩
            · rw [if_neg c17] at H
              have c17b0 : (a0 == 58) = false := beq_eq_false_iff_ne.mpr c17
              have c17b1 : (a0 != 58) = true := bne_iff_ne.mpr c17
              obtain rfl := Option.some.inj H
              go_enter Tryd.func44, Tryd.ntmps44
              go_wp2
              go_ret
              exact ⟨by first | rfl | (simp; done) | (simp [*]; done), by repeat (first | exact Drawn0.refl _ | apply Drawn0.step)⟩
          · replace c16 := Bool.eq_false_iff.mpr c16
            subst c16
            have H1 : (some false) = some r := by rw [if_neg (show ¬ (false = true) by decide)] at H; exact H
            clear H
            have H := H1
            clear H1
            obtain rfl := Option.some.inj H
            go_enter Tryd.func44, Tryd.ntmps44
            go_wp2
            go_ret
            exact ⟨by first | rfl | (simp; done) | (simp [*]; done), by repeat (first | exact Drawn0.refl _ | apply Drawn0.step)⟩
    · rw [if_neg c13] at H
      have c13b0 : decide (48 ≤ a0) = false := decide_eq_false c13
      clear c13
      by_cases c18 : a0 = 45
      · rw [if_pos c18] at H
        have c18b0 : (a0 == 45) = true := beq_iff_eq.mpr c18
        have c18b1 : (a0 != 45) = false := bne_eq_false_iff_eq.mpr c18
        clear c18
        obtain rfl := Option.some.inj H
        go_enter Tryd.func44, Tryd.ntmps44
        go_wp2
        go_ret
        exact ⟨by first | rfl | (simp; done) | (simp [*]; done), by repeat (first | exact Drawn0.refl _ | apply Drawn0.step)⟩
      · rw [if_neg c18] at H
        have c18b0 : (a0 == 45) = false := beq_eq_false_iff_ne.mpr c18
        have c18b1 : (a0 != 45) = true := bne_iff_ne.mpr c18
        by_cases c19 : a1 = true
        · subst c19
          have H1 : (if a0 = 58 then (some true) else (some (a0 == 46))) = some r := by rw [if_pos rfl] at H; exact H
          clear H
          have H := H1
          clear H1
          by_cases c20 : a0 = 58
          · rw [if_pos c20] at H
            have c20b0 : (a0 == 58) = true := beq_iff_eq.mpr c20
            have c20b1 : (a0 != 58) = false := bne_eq_false_iff_eq.mpr c20
            clear c20
            obtain rfl := Option.some.inj H
            go_enter Tryd.func44, Tryd.ntmps44
            go_wp2
            go_ret
            exact ⟨by first | rfl | (simp; done) | (simp [*]; done), by repeat (first | exact Drawn0.refl _ | apply Drawn0.step)⟩
          · rw [if_neg c20] at H
            have c20b0 : (a0 == 58) = false := beq_eq_false_iff_ne.mpr c20
            have c20b1 : (a0 != 58) = true := bne_iff_ne.mpr c20
            obtain rfl := Option.some.inj H
            go_enter Tryd.func44, Tryd.ntmps44
            go_wp2
            go_ret
            exact ⟨by first | rfl | (simp; done) | (simp [*]; done), by repeat (first | exact Drawn0.refl _ | apply Drawn0.step)⟩
        · replace c19 := Bool.eq_false_iff.mpr c19
          subst c19
          have H1 : (some false) = some r := by rw [if_neg (show ¬ (false = true) by decide)] at H; exact H
          clear H
          have H := H1
          clear H1
          obtain rfl := Option.some.inj H
          go_enter Tryd.func44, Tryd.ntmps44
          go_wp2
          go_ret
          exact ⟨by first | rfl | (simp; done) | (simp [*]; done), by repeat (first | exact Drawn0.refl _ | apply Drawn0.step)⟩

mutual
def tendrilref02_Named.j0 : Nat → ByteArray → Bool → Bool → Option (Bool)
  | 0, _, _, _ => none
  | k + 1, x0, x1, x23 => if x23 = true then (some false) else (tendrilref02_Named.l0 k x0 x1 1)
def tendrilref02_Named.l0 : Nat → ByteArray → Bool → Int → Option (Bool)
  | 0, _, _, _ => none
  | k + 1, x0, x1, x5 => if x5 < (x0.size : Int) then (if 0 ≤ x5 then ((tendrilref02_inner.f (bt x0 x5) x1).bind fun t110 => (if t110 = true then (tendrilref02_Named.l0 k x0 x1 (wrap64 (x5 + 1))) else (some false))) else (none)) else (some true)
end
def tendrilref02_Named.f (k : Nat) (a0 : ByteArray) (a1 : Bool) : Option (Bool) := if (a0.size : Int) < 1 then (tendrilref02_Named.j0 k a0 a1 true) else (if (a0.size : Int) > 32 then (tendrilref02_Named.j0 k a0 a1 true) else (if 0 < (a0.size : Int) then (if (bt a0 0) < 97 then (tendrilref02_Named.j0 k a0 a1 true) else (tendrilref02_Named.j0 k a0 a1 (decide ((bt a0 0) > 122)))) else (none)))
theorem tendrilref02_Named.mono_l : ∀ k, (∀ y0 y1 y2, LeO (tendrilref02_Named.j0 k y0 y1 y2) (tendrilref02_Named.j0 (k + 1) y0 y1 y2)) ∧ (∀ y0 y1 y2, LeO (tendrilref02_Named.l0 k y0 y1 y2) (tendrilref02_Named.l0 (k + 1) y0 y1 y2))
  | 0 => ⟨fun _ _ _ r h => by simp [tendrilref02_Named.j0] at h, fun _ _ _ r h => by simp [tendrilref02_Named.l0] at h⟩
  | k + 1 => by
    obtain ⟨ih0, ih1⟩ := tendrilref02_Named.mono_l k
    refine ⟨?_, ?_⟩
    · intro y0 y1 y2
      unfold tendrilref02_Named.j0
      repeat' first
      | (with_reducible exact ih0 _ _ _)
      | (with_reducible exact ih1 _ _ _)
      | (with_reducible exact LeO.refl _)
      | (with_reducible exact LeO.none _)
      | (with_reducible refine LeO.ite ?_ ?_)
      | (with_reducible refine LeO.bind ?_ (fun _ => ?_))
      | exact ih0 _ _ _
      | exact ih1 _ _ _
      | exact LeO.none _
      | refine LeO.ite ?_ ?_
      | refine LeO.bind ?_ (fun _ => ?_)
    · intro y0 y1 y2
      unfold tendrilref02_Named.l0
      repeat' first
      | (with_reducible exact ih0 _ _ _)
      | (with_reducible exact ih1 _ _ _)
      | (with_reducible exact LeO.refl _)
      | (with_reducible exact LeO.none _)
      | (with_reducible refine LeO.ite ?_ ?_)
      | (with_reducible refine LeO.bind ?_ (fun _ => ?_))
      | exact ih0 _ _ _
      | exact ih1 _ _ _
      | exact LeO.none _
      | refine LeO.ite ?_ ?_
      | refine LeO.bind ?_ (fun _ => ?_)
theorem tendrilref02_Named.mono : ∀ a0 a1 k, LeO (tendrilref02_Named.f k a0 a1) (tendrilref02_Named.f (k + 1) a0 a1) := by
  intro a0 a1 k
  obtain ⟨ih0, ih1⟩ := tendrilref02_Named.mono_l k
  unfold tendrilref02_Named.f
  repeat' first
      | (with_reducible exact ih0 _ _ _)
      | (with_reducible exact ih1 _ _ _)
      | (with_reducible exact LeO.refl _)
      | (with_reducible exact LeO.none _)
      | (with_reducible refine LeO.ite ?_ ?_)
      | (with_reducible refine LeO.bind ?_ (fun _ => ?_))
      | exact ih0 _ _ _
      | exact ih1 _ _ _
      | exact LeO.none _
      | refine LeO.ite ?_ ?_
      | refine LeO.bind ?_ (fun _ => ?_)
set_option maxHeartbeats 8000000 in
set_option maxRecDepth 100000 in
theorem tendrilref02_Named.calls (k : Nat) (a0 : ByteArray) (a1 : Bool) (r : Bool) (w : World) (hgl : Go.Proofs.YtgdemingopcgaaaDoorX.GL w) (h : tendrilref02_Named.f k a0 a1 = some r) :
    Calls Tryd.prog 23 #[.string a0, .bool a1] w fun e w' => e = .returned (.bool r) ∧ Drawn0 w w' := by
  have HGL := Aside0.mk hgl
  clear hgl
  have H : (if (a0.size : Int) < 1 then (tendrilref02_Named.j0 k a0 a1 true) else (if (a0.size : Int) > 32 then (tendrilref02_Named.j0 k a0 a1 true) else (if 0 < (a0.size : Int) then (if (bt a0 0) < 97 then (tendrilref02_Named.j0 k a0 a1 true) else (tendrilref02_Named.j0 k a0 a1 (decide ((bt a0 0) > 122)))) else (none)))) = some r := h
  clear h
  have HC3 := Aside0.mk H
  clear H
  go_enter Tryd.func23, Tryd.ntmps23
  go_upto_region 1 with (fail)
  go_cut [23] (fun v23 wc => ∃ (kq : Nat) (x23_2 : Bool), v23 = .bool x23_2 ∧ Aside0 (tendrilref02_Named.j0 kq a0 a1 x23_2 = some r) ∧ Aside0 (kq ≤ k) ∧ Drawn0 w wc)
  case first =>
    have H := HC3.out
    clear HC3
    by_cases c4 : (a0.size : Int) < 1
    · rw [if_pos c4] at H
      have c4b0 : decide ((a0.size : Int) < 1) = true := decide_eq_true c4
      have c4b1 : decide (a0.size < 1) = true := decide_eq_true (by omega)
      clear c4
      (first | rw [c4b0] | (simp only [i64_w, i32_w]; rw [c4b0]) | skip)
      have H' := Aside0.mk H
      clear H
      go_wp2
      go_meet
      case rel => exact ⟨_, (true), (by first | rfl | (simp; done) | (simp [*]; done)), H', ⟨by first | omega | exact Nat.le_refl _⟩, by repeat (first | exact Drawn0.refl _ | apply Drawn0.step)⟩
    · rw [if_neg c4] at H
      have c4b0 : decide ((a0.size : Int) < 1) = false := decide_eq_false c4
      have c4b1 : decide (a0.size < 1) = false := decide_eq_false (by omega)
      clear c4
      (first | rw [c4b0] | (simp only [i64_w, i32_w]; rw [c4b0]) | skip)
      by_cases c5 : (a0.size : Int) > 32
      · rw [if_pos c5] at H
        have c5b0 : decide (32 < (a0.size : Int)) = true := decide_eq_true c5
        have c5b1 : decide (32 < a0.size) = true := decide_eq_true (by omega)
        clear c5
        have H' := Aside0.mk H
        clear H
        go_wp2
        go_meet
        case rel => exact ⟨_, (true), (by first | rfl | (simp; done) | (simp [*]; done)), H', ⟨by first | omega | exact Nat.le_refl _⟩, by repeat (first | exact Drawn0.refl _ | apply Drawn0.step)⟩
      · rw [if_neg c5] at H
        have c5b0 : decide (32 < (a0.size : Int)) = false := decide_eq_false c5
        have c5b1 : decide (32 < a0.size) = false := decide_eq_false (by omega)
        clear c5
        by_cases c6 : 0 < (a0.size : Int)
        · rw [if_pos c6] at H
          have c6b0 : decide (0 < (a0.size : Int)) = true := decide_eq_true c6
          have c6b1 : decide (0 < a0.size) = true := decide_eq_true (by omega)
          clear c6
          by_cases c8 : (bt a0 0) < 97
          · rw [if_pos c8] at H
            have c8b0 : decide ((bt a0 0) < 97) = true := decide_eq_true c8
            clear c8
            have H' := Aside0.mk H
            clear H
            have p7 : 0 ≤ (0 : Int) := (by omega)
            have q7 : 0 < a0.size := (by have : (0 : Int) < (a0.size : Int) := of_decide_eq_true (by first | (with_reducible assumption) | assumption); omega)
            have hx7 : ∀ h : 0 < a0.size, ((a0[0]'h).toNat : Int) = bt a0 0 := bt_at a0 0
            clear p7
            have qi7 : (0 < (a0.size : Int)) = True := eq_true (of_decide_eq_true (by first | (with_reducible assumption) | assumption))
            replace q7 := eq_true q7
            go_wp2
            go_meet
            case rel => exact ⟨_, (true), (by first | rfl | (simp; done) | (simp [*]; done)), H', ⟨by first | omega | exact Nat.le_refl _⟩, by repeat (first | exact Drawn0.refl _ | apply Drawn0.step)⟩
          · rw [if_neg c8] at H
            have c8b0 : decide ((bt a0 0) < 97) = false := decide_eq_false c8
            clear c8
            have H' := Aside0.mk H
            clear H
            have p7 : 0 ≤ (0 : Int) := (by omega)
            have q7 : 0 < a0.size := (by have : (0 : Int) < (a0.size : Int) := of_decide_eq_true (by first | (with_reducible assumption) | assumption); omega)
            have hx7 : ∀ h : 0 < a0.size, ((a0[0]'h).toNat : Int) = bt a0 0 := bt_at a0 0
            clear p7
            have qi7 : (0 < (a0.size : Int)) = True := eq_true (of_decide_eq_true (by first | (with_reducible assumption) | assumption))
            replace q7 := eq_true q7
            have p9 : 0 ≤ (0 : Int) := (by omega)
            have q9 : 0 < a0.size := (by have : (0 : Int) < (a0.size : Int) := of_decide_eq_true (by first | (with_reducible assumption) | assumption); omega)
            have hx9 : ∀ h : 0 < a0.size, ((a0[0]'h).toNat : Int) = bt a0 0 := bt_at a0 0
            clear p9
            have qi9 : (0 < (a0.size : Int)) = True := eq_true (of_decide_eq_true (by first | (with_reducible assumption) | assumption))
            replace q9 := eq_true q9
            go_wp2
            go_meet
            case rel => exact ⟨_, (decide ((bt a0 0) > 122)), (by first | rfl | (simp; done) | (simp [*]; done)), H', ⟨by first | omega | exact Nat.le_refl _⟩, by repeat (first | exact Drawn0.refl _ | apply Drawn0.step)⟩
        · rw [if_neg c6] at H
          exact absurd H (by simp)
  case rest =>
    clear HC3
    try clear c2
    try clear p2
    try clear c4
    try clear c4b0
    try clear c4b1
    try clear c5
    try clear c5b0
    try clear c5b1
    try clear c6
    try clear c6b0
    try clear c6b1
    try clear p7
    try clear q7
    try clear hx7
    try clear qi7
    try clear c8
    try clear c8b0
    try clear p9
    try clear q9
    try clear hx9
    try clear qi9
    try clear p7
    try clear p9
    try clear q7
    try clear q9
    obtain ⟨kq, x23_2, rfl, HA, HJ2, ⟨mc2, rfl⟩⟩ := hcut
    cases kq with
    | zero => exact absurd HA.out (by simp [tendrilref02_Named.j0])
    | succ kj2 =>
      have H := HA.out
      clear HA
      simp only [tendrilref02_Named.j0] at H
      by_cases c10 : x23_2 = true
      · subst c10
        have H1 : (some false) = some r := by rw [if_pos rfl] at H; exact H
        clear H
        have H := H1
        clear H1
        obtain rfl := Option.some.inj H
        go_wp2
        go_ret
        exact ⟨by first | rfl | (simp; done) | (simp [*]; done), by repeat (first | exact Drawn0.refl _ | apply Drawn0.step)⟩
      · replace c10 := Bool.eq_false_iff.mpr c10
        subst c10
        have H1 : (tendrilref02_Named.l0 kj2 a0 a1 1) = some r := by rw [if_neg (show ¬ (false = true) by decide)] at H; exact H
        clear H
        have H := H1
        clear H1
        have H' := Aside0.mk H
        clear H
        go_wp2
        go_loopg [5] kj2 (fun kq v5 w' => ∃ (x5_2 : Int), v5 = .int .i64 x5_2 ∧ Aside0 (tendrilref02_Named.l0 kq a0 a1 x5_2 = some r) ∧ Aside0 (kq ≤ kj2) ∧ Drawn0 w w')
        case atStart => exact ⟨(1), (by first | rfl | (simp; done) | (simp [*]; done)), H', ⟨Nat.le_refl _⟩, by repeat (first | exact Drawn0.refl _ | apply Drawn0.step)⟩
        case round =>
          clear H'
          try clear c1
          try clear c2
          try clear p2
          try clear c4
          try clear c4b0
          try clear c4b1
          try clear c5
          try clear c5b0
          try clear c5b1
          try clear c6
          try clear c6b0
          try clear c6b1
          try clear p7
          try clear q7
          try clear hx7
          try clear qi7
          try clear c8
          try clear c8b0
          try clear p9
          try clear q9
          try clear hx9
          try clear qi9
          try clear c10
          try clear p2
          try clear p7
          try clear p9
          try clear q7
          try clear q9
          obtain ⟨x5_2, rfl, HA, HK2, ⟨m2, rfl⟩⟩ := hrel
          cases gk with
          | zero => exact absurd HA.out (by simp [tendrilref02_Named.l0])
          | succ k2 =>
            have H := HA.out
            clear HA
            simp only [tendrilref02_Named.l0] at H
            by_cases c11 : x5_2 < (a0.size : Int)
            · rw [if_pos c11] at H
              have c11b0 : decide (x5_2 < (a0.size : Int)) = true := decide_eq_true c11
              clear c11
              by_cases c12 : 0 ≤ x5_2
              · rw [if_pos c12] at H
                have c12b0 : decide (0 ≤ x5_2) = true := decide_eq_true c12
                clear c12
                replace H := Option.bind_eq_some_iff.mp H
                obtain ⟨t110, A140, H⟩ := H
                replace H : (if t110 = true then (tendrilref02_Named.l0 k2 a0 a1 (wrap64 (x5_2 + 1))) else (some false)) = some r := H
                have A14 := Aside0.mk A140
                clear A140
                by_cases c15 : t110 = true
                · subst c15
                  have H1 : (tendrilref02_Named.l0 k2 a0 a1 (wrap64 (x5_2 + 1))) = some r := by rw [if_pos rfl] at H; exact H
                  clear H
                  have H := H1
                  clear H1
                  have H' := Aside0.mk H
                  clear H
                  have p13 : 0 ≤ (x5_2 : Int) := of_decide_eq_true (by first | (with_reducible assumption) | assumption)
                  have q13 : x5_2 < (a0.size : Int) := of_decide_eq_true (by first | (with_reducible assumption) | assumption)
                  have hx13 := bt_at a0 x5_2
                  replace p13 := eq_true p13
                  replace q13 := eq_true q13
                  go_wp2_with (first | ((with_reducible refine gate_callee (f := 44) rfl ?_); refine goesL_ (some 34) rfl rfl Tryd.func44 (by kernel_rfl) rfl #[.int .u8 (bt a0 x5_2), .bool a1] rfl (by (try simp only [List.map_toArray, List.map_cons, List.map_nil]); first | done | rfl | (simp only [List.length_drop, List.length_take]; rfl)) ?_; (with_reducible refine (tendrilref02_inner.calls (bt a0 x5_2) a1 true _ ?side1 A14.out).mono ?_); (case side1 => first | exact HGL.out | (repeat (first | exact HGL.out | (with_reducible refine Go.Proofs.YtgdemingopcgaaaDoorX.GL.drewN ?_ _) | (with_reducible refine Go.Proofs.YtgdemingopcgaaaDoorX.GL.drew ?_)))); rintro e w' ⟨rfl, ⟨nd, rfl⟩⟩; refine ⟨_, rfl, ?_⟩))
                  go_roundg k2
                  case measure => have := HJ2.out; have := HK2.out; omega
                  case rel => exact ⟨(wrap64 (x5_2 + 1)), (by first | rfl | (simp; done) | (simp [*]; done)), H', ⟨by have := HJ2.out; have := HK2.out; omega⟩, by repeat (first | exact Drawn0.refl _ | apply Drawn0.step)⟩
                · replace c15 := Bool.eq_false_iff.mpr c15
                  subst c15
                  have H1 : (some false) = some r := by rw [if_neg (show ¬ (false = true) by decide)] at H; exact H
                  clear H
                  have H := H1
                  clear H1
                  obtain rfl := Option.some.inj H
                  have p13 : 0 ≤ (x5_2 : Int) := of_decide_eq_true (by first | (with_reducible assumption) | assumption)
                  have q13 : x5_2 < (a0.size : Int) := of_decide_eq_true (by first | (with_reducible assumption) | assumption)
                  have hx13 := bt_at a0 x5_2
                  replace p13 := eq_true p13
                  replace q13 := eq_true q13
                  go_wp2_with (first | ((with_reducible refine gate_callee (f := 44) rfl ?_); refine goesL_ (some 34) rfl rfl Tryd.func44 (by kernel_rfl) rfl #[.int .u8 (bt a0 x5_2), .bool a1] rfl (by (try simp only [List.map_toArray, List.map_cons, List.map_nil]); first | done | rfl | (simp only [List.length_drop, List.length_take]; rfl)) ?_; (with_reducible refine (tendrilref02_inner.calls (bt a0 x5_2) a1 false _ ?side1 A14.out).mono ?_); (case side1 => first | exact HGL.out | (repeat (first | exact HGL.out | (with_reducible refine Go.Proofs.YtgdemingopcgaaaDoorX.GL.drewN ?_ _) | (with_reducible refine Go.Proofs.YtgdemingopcgaaaDoorX.GL.drew ?_)))); rintro e w' ⟨rfl, ⟨nd, rfl⟩⟩; refine ⟨_, rfl, ?_⟩))
                  go_ret
                  exact ⟨by first | rfl | (simp; done) | (simp [*]; done), by repeat (first | exact Drawn0.refl _ | apply Drawn0.step)⟩
              · rw [if_neg c12] at H
                exact absurd H (by simp)
            · rw [if_neg c11] at H
              have c11b0 : decide (x5_2 < (a0.size : Int)) = false := decide_eq_false c11
              clear c11
              obtain rfl := Option.some.inj H
              go_wp2
              go_ret
              exact ⟨by first | rfl | (simp; done) | (simp [*]; done), by repeat (first | exact Drawn0.refl _ | apply Drawn0.step)⟩

mutual
def tendrilref02_Compare.l0 : Nat → ByteArray → ByteArray → Int → Option (Int)
  | 0, _, _, _ => none
  | k + 1, x0, x1, x5 => if x5 < (x0.size : Int) then (tendrilref02_Compare.j1 k x0 x1 x5 (decide (x5 < (x1.size : Int)))) else (tendrilref02_Compare.j1 k x0 x1 x5 false)
def tendrilref02_Compare.j1 : Nat → ByteArray → ByteArray → Int → Bool → Option (Int)
  | 0, _, _, _, _ => none
  | k + 1, x0, x1, x5, x15 => if x15 = true then (if 0 ≤ x5 then (if x5 < (x0.size : Int) then (if x5 < (x1.size : Int) then (if (bt x0 x5) < (bt x1 x5) then (some (-1)) else (if (bt x0 x5) > (bt x1 x5) then (some 1) else (tendrilref02_Compare.l0 k x0 x1 (wrap64 (x5 + 1))))) else (none)) else (none)) else (none)) else (if (x0.size : Int) < (x1.size : Int) then (some (-1)) else (if (x0.size : Int) > (x1.size : Int) then (some 1) else (some 0)))
end
def tendrilref02_Compare.f (k : Nat) (a0 : ByteArray) (a1 : ByteArray) : Option (Int) := tendrilref02_Compare.l0 k a0 a1 0
theorem tendrilref02_Compare.mono_l : ∀ k, (∀ y0 y1 y2, LeO (tendrilref02_Compare.l0 k y0 y1 y2) (tendrilref02_Compare.l0 (k + 1) y0 y1 y2)) ∧ (∀ y0 y1 y2 y3, LeO (tendrilref02_Compare.j1 k y0 y1 y2 y3) (tendrilref02_Compare.j1 (k + 1) y0 y1 y2 y3))
  | 0 => ⟨fun _ _ _ r h => by simp [tendrilref02_Compare.l0] at h, fun _ _ _ _ r h => by simp [tendrilref02_Compare.j1] at h⟩
  | k + 1 => by
    obtain ⟨ih0, ih1⟩ := tendrilref02_Compare.mono_l k
    refine ⟨?_, ?_⟩
    · intro y0 y1 y2
      unfold tendrilref02_Compare.l0
      repeat' first
      | (with_reducible exact ih0 _ _ _)
      | (with_reducible exact ih1 _ _ _ _)
      | (with_reducible exact LeO.refl _)
      | (with_reducible exact LeO.none _)
      | (with_reducible refine LeO.ite ?_ ?_)
      | (with_reducible refine LeO.bind ?_ (fun _ => ?_))
      | exact ih0 _ _ _
      | exact ih1 _ _ _ _
      | exact LeO.none _
      | refine LeO.ite ?_ ?_
      | refine LeO.bind ?_ (fun _ => ?_)
    · intro y0 y1 y2 y3
      unfold tendrilref02_Compare.j1
      repeat' first
      | (with_reducible exact ih0 _ _ _)
      | (with_reducible exact ih1 _ _ _ _)
      | (with_reducible exact LeO.refl _)
      | (with_reducible exact LeO.none _)
      | (with_reducible refine LeO.ite ?_ ?_)
      | (with_reducible refine LeO.bind ?_ (fun _ => ?_))
      | exact ih0 _ _ _
      | exact ih1 _ _ _ _
      | exact LeO.none _
      | refine LeO.ite ?_ ?_
      | refine LeO.bind ?_ (fun _ => ?_)
theorem tendrilref02_Compare.mono : ∀ a0 a1 k, LeO (tendrilref02_Compare.f k a0 a1) (tendrilref02_Compare.f (k + 1) a0 a1) := by
  intro a0 a1 k
  obtain ⟨ih0, ih1⟩ := tendrilref02_Compare.mono_l k
  unfold tendrilref02_Compare.f
  repeat' first
      | (with_reducible exact ih0 _ _ _)
      | (with_reducible exact ih1 _ _ _ _)
      | (with_reducible exact LeO.refl _)
      | (with_reducible exact LeO.none _)
      | (with_reducible refine LeO.ite ?_ ?_)
      | (with_reducible refine LeO.bind ?_ (fun _ => ?_))
      | exact ih0 _ _ _
      | exact ih1 _ _ _ _
      | exact LeO.none _
      | refine LeO.ite ?_ ?_
      | refine LeO.bind ?_ (fun _ => ?_)
set_option maxHeartbeats 8000000 in
set_option maxRecDepth 100000 in
theorem tendrilref02_Compare.calls (k : Nat) (a0 : ByteArray) (a1 : ByteArray) (r : Int) (w : World) (hgl : Go.Proofs.YtgdemingopcgaaaDoorX.GL w) (h : tendrilref02_Compare.f k a0 a1 = some r) :
    Calls Tryd.prog 45 #[.string a0, .string a1] w fun e w' => e = .returned (.int .i64 r) ∧ Drawn0 w w' := by
  have HGL := Aside0.mk hgl
  clear hgl
  have H : (tendrilref02_Compare.l0 k a0 a1 0) = some r := h
  clear h
  have H' := Aside0.mk H
  clear H
  go_enter Tryd.func45, Tryd.ntmps45
  go_wp2
  repeat (go_quiet (fail); try go_wp2)
  go_loopg [5] k (fun kq v5 w' => ∃ (x5_1 : Int), v5 = .int .i64 x5_1 ∧ Aside0 (tendrilref02_Compare.l0 kq a0 a1 x5_1 = some r) ∧ Aside0 (kq ≤ k) ∧ Drawn0 w w')
  case atStart => exact ⟨(0), (by first | rfl | (simp; done) | (simp [*]; done)), H', ⟨Nat.le_refl _⟩, by repeat (first | exact Drawn0.refl _ | apply Drawn0.step)⟩
  case round =>
    clear H'
    try clear p2
    obtain ⟨x5_1, rfl, HA, HK1, ⟨m1, rfl⟩⟩ := hrel
    cases gk with
    | zero => exact absurd HA.out (by simp [tendrilref02_Compare.l0])
    | succ k1 =>
      have H := HA.out
      clear HA
      simp only [tendrilref02_Compare.l0] at H
      have HC3 := Aside0.mk H
      clear H
      go_upto_region 2 with (fail)
      repeat (go_quiet (fail); go_upto_region 2 with (fail))
      go_cut [15] (fun v15 wc => ∃ (kq : Nat) (x15_2 : Bool), v15 = .bool x15_2 ∧ Aside0 (tendrilref02_Compare.j1 kq a0 a1 x5_1 x15_2 = some r) ∧ Aside0 (kq ≤ k1) ∧ Drawn0 w wc)
      case first =>
        have H := HC3.out
        clear HC3
        by_cases c4 : x5_1 < (a0.size : Int)
        · rw [if_pos c4] at H
          have c4b0 : decide (x5_1 < (a0.size : Int)) = true := decide_eq_true c4
          clear c4
          (first | rw [c4b0] | (simp only [i64_w, i32_w]; rw [c4b0]) | skip)
          have H' := Aside0.mk H
          clear H
          go_wp2
          repeat (go_quiet (fail); try go_wp2)
          go_meet
          case rel => exact ⟨_, (decide (x5_1 < (a1.size : Int))), (by first | rfl | (simp; done) | (simp [*]; done)), H', ⟨by have := HK1.out; first | omega | exact Nat.le_refl _⟩, by repeat (first | exact Drawn0.refl _ | apply Drawn0.step)⟩
        · rw [if_neg c4] at H
          have c4b0 : decide (x5_1 < (a0.size : Int)) = false := decide_eq_false c4
          clear c4
          (first | rw [c4b0] | (simp only [i64_w, i32_w]; rw [c4b0]) | skip)
          have H' := Aside0.mk H
          clear H
          go_wp2
          repeat (go_quiet (fail); try go_wp2)
          go_meet
          case rel => exact ⟨_, (false), (by first | rfl | (simp; done) | (simp [*]; done)), H', ⟨by have := HK1.out; first | omega | exact Nat.le_refl _⟩, by repeat (first | exact Drawn0.refl _ | apply Drawn0.step)⟩
      case rest =>
        clear HC3
        try clear p2
        try clear c4
        try clear c4b0
        try clear p2
        obtain ⟨kq, x15_2, rfl, HA, HJ2, ⟨mc2, rfl⟩⟩ := hcut
        cases kq with
        | zero => exact absurd HA.out (by simp [tendrilref02_Compare.j1])
        | succ kj2 =>
          have H := HA.out
          clear HA
          simp only [tendrilref02_Compare.j1] at H
          by_cases c5 : x15_2 = true
          · subst c5
            have H1 : (if 0 ≤ x5_1 then (if x5_1 < (a0.size : Int) then (if x5_1 < (a1.size : Int) then (if (bt a0 x5_1) < (bt a1 x5_1) then (some (-1)) else (if (bt a0 x5_1) > (bt a1 x5_1) then (some 1) else (tendrilref02_Compare.l0 kj2 a0 a1 (wrap64 (x5_1 + 1))))) else (none)) else (none)) else (none)) = some r := by rw [if_pos rfl] at H; exact H
            clear H
            have H := H1
            clear H1
            by_cases c6 : 0 ≤ x5_1
            · rw [if_pos c6] at H
              have c6b0 : decide (0 ≤ x5_1) = true := decide_eq_true c6
              clear c6
              by_cases c7 : x5_1 < (a0.size : Int)
              · rw [if_pos c7] at H
                have c7b0 : decide (x5_1 < (a0.size : Int)) = true := decide_eq_true c7
                clear c7
                by_cases c9 : x5_1 < (a1.size : Int)
                · rw [if_pos c9] at H
                  have c9b0 : decide (x5_1 < (a1.size : Int)) = true := decide_eq_true c9
                  clear c9
                  by_cases c11 : (bt a0 x5_1) < (bt a1 x5_1)
                  · rw [if_pos c11] at H
                    have c11b0 : decide ((bt a0 x5_1) < (bt a1 x5_1)) = true := decide_eq_true c11
                    clear c11
                    obtain rfl := Option.some.inj H
                    have p8 : 0 ≤ (x5_1 : Int) := of_decide_eq_true (by first | (with_reducible assumption) | assumption)
                    have q8 : x5_1 < (a0.size : Int) := of_decide_eq_true (by first | (with_reducible assumption) | assumption)
                    have hx8 := bt_at a0 x5_1
                    replace p8 := eq_true p8
                    replace q8 := eq_true q8
                    have p10 : 0 ≤ (x5_1 : Int) := of_decide_eq_true (by first | (with_reducible assumption) | assumption)
                    have q10 : x5_1 < (a1.size : Int) := of_decide_eq_true (by first | (with_reducible assumption) | assumption)
                    have hx10 := bt_at a1 x5_1
                    replace p10 := eq_true p10
                    replace q10 := eq_true q10
                    go_wp2
                    repeat (go_quiet (fail); try go_wp2)
                    go_ret
                    exact ⟨by first | rfl | (simp; done) | (simp [*]; done), by repeat (first | exact Drawn0.refl _ | apply Drawn0.step)⟩
                  · rw [if_neg c11] at H
                    have c11b0 : decide ((bt a0 x5_1) < (bt a1 x5_1)) = false := decide_eq_false c11
                    clear c11
                    by_cases c14 : (bt a0 x5_1) > (bt a1 x5_1)
                    · rw [if_pos c14] at H
                      have c14b0 : decide ((bt a1 x5_1) < (bt a0 x5_1)) = true := decide_eq_true c14
                      clear c14
                      obtain rfl := Option.some.inj H
                      have p8 : 0 ≤ (x5_1 : Int) := of_decide_eq_true (by first | (with_reducible assumption) | assumption)
                      have q8 : x5_1 < (a0.size : Int) := of_decide_eq_true (by first | (with_reducible assumption) | assumption)
                      have hx8 := bt_at a0 x5_1
                      replace p8 := eq_true p8
                      replace q8 := eq_true q8
                      have p10 : 0 ≤ (x5_1 : Int) := of_decide_eq_true (by first | (with_reducible assumption) | assumption)
                      have q10 : x5_1 < (a1.size : Int) := of_decide_eq_true (by first | (with_reducible assumption) | assumption)
                      have hx10 := bt_at a1 x5_1
                      replace p10 := eq_true p10
                      replace q10 := eq_true q10
                      have p12 : 0 ≤ (x5_1 : Int) := of_decide_eq_true (by first | (with_reducible assumption) | assumption)
                      have q12 : x5_1 < (a0.size : Int) := of_decide_eq_true (by first | (with_reducible assumption) | assumption)
                      have hx12 := bt_at a0 x5_1
                      replace p12 := eq_true p12
                      replace q12 := eq_true q12
                      have p13 : 0 ≤ (x5_1 : Int) := of_decide_eq_true (by first | (with_reducible assumption) | assumption)
                      have q13 : x5_1 < (a1.size : Int) := of_decide_eq_true (by first | (with_reducible assumption) | assumption)
                      have hx13 := bt_at a1 x5_1
                      replace p13 := eq_true p13
                      replace q13 := eq_true q13
                      go_wp2
                      repeat (go_quiet (fail); try go_wp2)
                      go_ret
                      exact ⟨by first | rfl | (simp; done) | (simp [*]; done), by repeat (first | exact Drawn0.refl _ | apply Drawn0.step)⟩
                    · rw [if_neg c14] at H
                      have c14b0 : decide ((bt a1 x5_1) < (bt a0 x5_1)) = false := decide_eq_false c14
                      clear c14
                      have H' := Aside0.mk H
                      clear H
                      have p8 : 0 ≤ (x5_1 : Int) := of_decide_eq_true (by first | (with_reducible assumption) | assumption)
                      have q8 : x5_1 < (a0.size : Int) := of_decide_eq_true (by first | (with_reducible assumption) | assumption)
                      have hx8 := bt_at a0 x5_1
                      replace p8 := eq_true p8
                      replace q8 := eq_true q8
                      have p10 : 0 ≤ (x5_1 : Int) := of_decide_eq_true (by first | (with_reducible assumption) | assumption)
                      have q10 : x5_1 < (a1.size : Int) := of_decide_eq_true (by first | (with_reducible assumption) | assumption)
                      have hx10 := bt_at a1 x5_1
                      replace p10 := eq_true p10
                      replace q10 := eq_true q10
                      have p12 : 0 ≤ (x5_1 : Int) := of_decide_eq_true (by first | (with_reducible assumption) | assumption)
                      have q12 : x5_1 < (a0.size : Int) := of_decide_eq_true (by first | (with_reducible assumption) | assumption)
                      have hx12 := bt_at a0 x5_1
                      replace p12 := eq_true p12
                      replace q12 := eq_true q12
                      have p13 : 0 ≤ (x5_1 : Int) := of_decide_eq_true (by first | (with_reducible assumption) | assumption)
                      have q13 : x5_1 < (a1.size : Int) := of_decide_eq_true (by first | (with_reducible assumption) | assumption)
                      have hx13 := bt_at a1 x5_1
                      replace p13 := eq_true p13
                      replace q13 := eq_true q13
                      go_wp2
                      repeat (go_quiet (fail); try go_wp2)
                      go_roundg kj2
                      case measure => have := HK1.out; have := HJ2.out; omega
                      case rel => exact ⟨(wrap64 (x5_1 + 1)), (by first | rfl | (simp; done) | (simp [*]; done)), H', ⟨by have := HK1.out; have := HJ2.out; omega⟩, by repeat (first | exact Drawn0.refl _ | apply Drawn0.step)⟩
                · rw [if_neg c9] at H
                  exact absurd H (by simp)
              · rw [if_neg c7] at H
                exact absurd H (by simp)
            · rw [if_neg c6] at H
              exact absurd H (by simp)
          · replace c5 := Bool.eq_false_iff.mpr c5
            subst c5
            have H1 : (if (a0.size : Int) < (a1.size : Int) then (some (-1)) else (if (a0.size : Int) > (a1.size : Int) then (some 1) else (some 0))) = some r := by rw [if_neg (show ¬ (false = true) by decide)] at H; exact H
            clear H
            have H := H1
            clear H1
            by_cases c15 : (a0.size : Int) < (a1.size : Int)
            · rw [if_pos c15] at H
              have c15b0 : decide ((a0.size : Int) < (a1.size : Int)) = true := decide_eq_true c15
              have c15b1 : decide (a0.size < a1.size) = true := decide_eq_true (Int.ofNat_lt.mp c15)
              clear c15
              obtain rfl := Option.some.inj H
              go_wp2
              repeat (go_quiet (fail); try go_wp2)
              go_ret
              exact ⟨by first | rfl | (simp; done) | (simp [*]; done), by repeat (first | exact Drawn0.refl _ | apply Drawn0.step)⟩
            · rw [if_neg c15] at H
              have c15b0 : decide ((a0.size : Int) < (a1.size : Int)) = false := decide_eq_false c15
              have c15b1 : decide (a0.size < a1.size) = false := decide_eq_false (fun h => c15 (Int.ofNat_lt.mpr h))
              clear c15
              by_cases c16 : (a0.size : Int) > (a1.size : Int)
              · rw [if_pos c16] at H
                have c16b0 : decide ((a1.size : Int) < (a0.size : Int)) = true := decide_eq_true c16
                have c16b1 : decide (a1.size < a0.size) = true := decide_eq_true (Int.ofNat_lt.mp c16)
                clear c16
                obtain rfl := Option.some.inj H
                go_wp2
                repeat (go_quiet (fail); try go_wp2)
                go_ret
                exact ⟨by first | rfl | (simp; done) | (simp [*]; done), by repeat (first | exact Drawn0.refl _ | apply Drawn0.step)⟩
              · rw [if_neg c16] at H
                have c16b0 : decide ((a1.size : Int) < (a0.size : Int)) = false := decide_eq_false c16
                have c16b1 : decide (a1.size < a0.size) = false := decide_eq_false (fun h => c16 (Int.ofNat_lt.mpr h))
                clear c16
                obtain rfl := Option.some.inj H
                go_wp2
                repeat (go_quiet (fail); try go_wp2)
                go_ret
                exact ⟨by first | rfl | (simp; done) | (simp [*]; done), by repeat (first | exact Drawn0.refl _ | apply Drawn0.step)⟩

end Go.Proofs.YtgdemingopcgaaaDoor.P26

namespace Go.Proofs.YtgdemingopcgaaaDoor.M02
open Go Go.RowKit Go.Proofs.YtgdemingopcgaaaDoor.P26 Go.Proofs.YtgdemingopcgaaaDoorE Go.Proofs.YtgdemingopcgaaaDoorW.PrintWords Go.Proofs.YtgdemingopcgaaaDoorW.PrintLast Go.Proofs.YtgdemingopcgaaaDoorW.PrintMore

theorem w64 {n : Int} (h0 : -9223372036854775808 ≤ n) (h1 : n ≤ 9223372036854775807) : wrap64 n = n := by unfold wrap64; omega
/-- A string's bytes. -/
abbrev B (s : ByteArray) : List UInt8 := s.data.toList
theorem B_len (s : ByteArray) : (B s).length = s.size := data_length s
theorem toList_B (s : ByteArray) : s.toList = B s := ByteArray.toList_eq s
theorem B_inj {s t : ByteArray} (h : B s = B t) : s = t := by
  cases s; cases t; congr 1; exact Array.toList_inj.1 h
theorem bt_nat {s : ByteArray} {i : Nat} (h : i < (B s).length) : bt s (i : Int) = ((B s)[i].toNat : Int) := by
  have hs : i < s.size := by rw [← B_len]; exact h
  unfold bt
  rw [dif_pos (by simpa using hs)]
  simp only [Int.toNat_natCast]
  rfl
theorem u8_lt (c : UInt8) : c.toNat < 256 := c.toNat_lt
theorem toUInt8_toNat (c : UInt8) : ((c.toNat : Int).toNat.toUInt8) = c := by simp

def okb (more : Bool) (c : UInt8) : Bool := decide (97 ≤ c.toNat ∧ c.toNat ≤ 122) || decide (48 ≤ c.toNat ∧ c.toNat ≤ 57) || decide (c.toNat = 45) || (more && (decide (c.toNat = 58) || decide (c.toNat = 46)))
def small (c : UInt8) : Bool := decide (97 ≤ c.toNat ∧ c.toNat ≤ 122)
/-- A tag, or, with more, a name. -/
def namedS (more : Bool) (l : List UInt8) : Bool := match l with
  | [] => false
  | c :: t => decide (t.length < 32) && small c && (c :: t).all (okb more)
theorem namedS_cons (more : Bool) (c : UInt8) (t : List UInt8) : namedS more (c :: t) = (decide (t.length < 32) && small c && (c :: t).all (okb more)) := rfl
theorem small_ok (more : Bool) (c : UInt8) (h : small c = true) : okb more c = true := by
  unfold small at h; unfold okb; rw [h]; rfl
theorem small_f (c : UInt8) : chars_small.f (c.toNat : Int) = some (small c) := by
  unfold chars_small.f small
  by_cases h : (c.toNat : Int) ≥ 97
  · rw [if_pos h]; congr 1; rw [decide_eq_decide]; omega
  · rw [if_neg h]; congr 1; symm; rw [decide_eq_false_iff_not]; omega
theorem inner_f (c : UInt8) (more : Bool) : tendrilref02_inner.f (c.toNat : Int) more = some (okb more c) := by
  have hc := u8_lt c
  have key : ∀ n : Fin 256, ∀ more : Bool, tendrilref02_inner.f (n.val : Int) more = some (decide (97 ≤ n.val ∧ n.val ≤ 122) || decide (48 ≤ n.val ∧ n.val ≤ 57) || decide (n.val = 45) || (more && (decide (n.val = 58) || decide (n.val = 46)))) := by decide +kernel
  exact key ⟨c.toNat, hc⟩ more
/-- The bytes that a name may have besides. -/
def others (more : Bool) : ByteArray := if more then ⟨#[45, 58, 46]⟩ else ⟨#[45]⟩
theorem index_others (c : UInt8) (more : Bool) : (Lib.indexByte (B (others more)) c < 0) ↔ ¬ (c.toNat = 45 ∨ (more = true ∧ (c.toNat = 58 ∨ c.toNat = 46))) := by
  have key : ∀ n : Fin 256, ∀ more : Bool, (Lib.indexByte (B (others more)) n.val.toUInt8 < 0) ↔ ¬ (n.val = 45 ∨ (more = true ∧ (n.val = 58 ∨ n.val = 46))) := by decide +kernel
  have := key ⟨c.toNat, u8_lt c⟩ more
  simpa using this
theorem named_l0 (s : ByteArray) (more : Bool) (hs : s.size ≤ 1000) (d : Nat) : ∀ i : Nat, i + d = s.size →
    Ev (fun k => chars_named.l0 k s (others more) (s.size : Int) (i : Int)) (((B s).drop i).all (okb more)) := by
  induction d with
  | zero =>
    intro i hi
    rw [List.drop_eq_nil_of_le (by rw [B_len]; omega)]
    refine Ev.step (f := fun _ => some true) (fun k => ?_) (Ev.now _)
    simp only [chars_named.l0]; rw [if_neg (by omega)]
  | succ d ih =>
    intro i hi
    have hlt : i < (B s).length := by rw [B_len]; omega
    have hn := ih (i + 1) (by omega)
    rw [List.drop_eq_getElem_cons hlt, List.all_cons]
    have e2 : wrap64 ((i : Int) + 1) = ((i + 1 : Nat) : Int) := by rw [w64 (by omega) (by omega)]; omega
    have hsm := small_f (B s)[i]
    have hix := index_others (B s)[i] more
    refine Ev.step (f := fun k => if okb more (B s)[i] = true then chars_named.l0 k s (others more) (s.size : Int) ((i + 1 : Nat) : Int) else some false) (fun k => ?_) ?_
    · simp only [chars_named.l0]
      rw [if_pos (by omega), if_pos (by omega), if_pos (by omega), bt_nat hlt, hsm, Option.bind_some, e2]
      by_cases h1 : small (B s)[i] = true
      · rw [if_pos h1, if_pos (small_ok more _ h1)]
      · rw [if_neg h1]
        have h1' : ¬ (97 ≤ (B s)[i].toNat ∧ (B s)[i].toNat ≤ 122) := by simpa [small] using h1
        have hrest : ((strings_IndexByte.f (others more) ((B s)[i].toNat : Int)).bind fun t => if t < 0 then some false else chars_named.l0 k s (others more) (s.size : Int) ((i + 1 : Nat) : Int)) = if ((B s)[i].toNat = 45 ∨ (more = true ∧ ((B s)[i].toNat = 58 ∨ (B s)[i].toNat = 46))) then chars_named.l0 k s (others more) (s.size : Int) ((i + 1 : Nat) : Int) else some false := by
          unfold strings_IndexByte.f
          rw [Option.bind_some, toUInt8_toNat]
          by_cases h2 : ((B s)[i].toNat = 45 ∨ (more = true ∧ ((B s)[i].toNat = 58 ∨ (B s)[i].toNat = 46)))
          · rw [if_neg (fun h => (hix.1 h) h2), if_pos h2]
          · rw [if_pos (hix.2 h2), if_neg h2]
        have hok : okb more (B s)[i] = true ↔ (48 ≤ (B s)[i].toNat ∧ (B s)[i].toNat ≤ 57) ∨ ((B s)[i].toNat = 45 ∨ (more = true ∧ ((B s)[i].toNat = 58 ∨ (B s)[i].toNat = 46))) := by
          have hq : ¬ (97 ≤ (B s)[i].toNat ∧ (B s)[i].toNat ≤ 122) := h1'
          unfold okb
          rw [decide_eq_false hq]
          generalize (B s)[i].toNat = q at *
          cases more <;> simp <;> omega
        by_cases h3 : ((B s)[i].toNat : Int) < 48
        · rw [if_pos h3, hrest]
          by_cases h2 : ((B s)[i].toNat = 45 ∨ (more = true ∧ ((B s)[i].toNat = 58 ∨ (B s)[i].toNat = 46)))
          · rw [if_pos h2, if_pos (hok.2 (.inr h2))]
          · rw [if_neg h2, if_neg (fun h => (hok.1 h).elim (fun h => by omega) h2)]
        · rw [if_neg h3]
          by_cases h4 : ((B s)[i].toNat : Int) > 57
          · rw [if_pos h4, hrest]
            by_cases h2 : ((B s)[i].toNat = 45 ∨ (more = true ∧ ((B s)[i].toNat = 58 ∨ (B s)[i].toNat = 46)))
            · rw [if_pos h2, if_pos (hok.2 (.inr h2))]
            · rw [if_neg h2, if_neg (fun h => (hok.1 h).elim (fun h => by omega) h2)]
          · rw [if_neg h4, if_pos (hok.2 (.inl (by omega)))]
    · by_cases h : okb more (B s)[i] = true
      · rw [h, Bool.true_and]; exact Ev.congr (fun k => by rw [if_pos rfl]) hn
      · rw [Bool.eq_false_iff.2 h, Bool.false_and]; exact Ev.congr (fun k => by rw [if_neg (by decide)]) (Ev.now _)
theorem named_ev (s : ByteArray) (more : Bool) (hs : s.size ≤ 140737488351232) : Ev (fun k => chars_named.f k s (others more)) (namedS more (B s)) := by
  have bad : Ev (fun k => chars_named.j0 k s (others more) true) false := Ev.step (f := fun _ => some false) (fun k => by simp only [chars_named.j0]; rw [if_pos trivial]) (Ev.now _)
  unfold chars_named.f
  rw [toList_B]
  by_cases h0 : B s = []
  · exact Ev.congr (f := fun k => chars_named.j0 k s (others more) true) (fun k => by rw [if_pos h0]) (by rw [h0]; exact bad)
  · obtain ⟨c, t, e⟩ := List.exists_cons_of_ne_nil h0
    have hl : s.size = t.length + 1 := by rw [← B_len, e]; rfl
    have hb0 : bt s 0 = (c.toNat : Int) := by
      have := bt_nat (s := s) (i := 0) (by rw [e]; simp)
      simp only [e] at this
      simpa using this
    by_cases h1 : (s.size : Int) > 32
    · have : namedS more (B s) = false := by rw [e]; rw [namedS_cons]; simp; omega
      rw [this]
      exact Ev.congr (f := fun k => chars_named.j0 k s (others more) true) (fun k => by rw [if_neg h0, if_pos h1]) bad
    · have hall := named_l0 s more (by omega) s.size 0 (by omega)
      rw [List.drop_zero] at hall
      refine Ev.congr (f := fun k => chars_named.j0 k s (others more) (!small c)) (fun k => by rw [if_neg h0, if_neg h1, if_pos (by omega), hb0, small_f, Option.bind_some]) ?_
      by_cases h2 : small c = true
      · have : namedS more (B s) = (B s).all (okb more) := by rw [e]; rw [namedS_cons, h2, decide_eq_true (by omega)]; simp
        rw [this, h2]
        refine Ev.step (fun k => ?_) hall
        simp only [chars_named.j0]; rw [if_neg (by decide)]; rfl
      · have : namedS more (B s) = false := by rw [e]; rw [namedS_cons, Bool.eq_false_iff.2 h2]; simp
        rw [this, Bool.eq_false_iff.2 h2]; exact bad
theorem rnamed_l0 (s : ByteArray) (more : Bool) (hs : s.size ≤ 1000) (d : Nat) : ∀ i : Nat, i + d = s.size →
    Ev (fun k => tendrilref02_Named.l0 k s more (i : Int)) (((B s).drop i).all (okb more)) := by
  induction d with
  | zero =>
    intro i hi
    rw [List.drop_eq_nil_of_le (by rw [B_len]; omega)]
    refine Ev.step (f := fun _ => some true) (fun k => ?_) (Ev.now _)
    simp only [tendrilref02_Named.l0]; rw [if_neg (by omega)]
  | succ d ih =>
    intro i hi
    have hlt : i < (B s).length := by rw [B_len]; omega
    have hn := ih (i + 1) (by omega)
    rw [List.drop_eq_getElem_cons hlt, List.all_cons]
    have e2 : wrap64 ((i : Int) + 1) = ((i + 1 : Nat) : Int) := by rw [w64 (by omega) (by omega)]; omega
    refine Ev.step (f := fun k => if okb more (B s)[i] = true then tendrilref02_Named.l0 k s more ((i + 1 : Nat) : Int) else some false) (fun k => ?_) ?_
    · simp only [tendrilref02_Named.l0]
      rw [if_pos (by omega), if_pos (by omega), bt_nat hlt, inner_f, Option.bind_some, e2]
    · by_cases h : okb more (B s)[i] = true
      · rw [h, Bool.true_and]; exact Ev.congr (fun k => by rw [if_pos rfl]) hn
      · rw [Bool.eq_false_iff.2 h, Bool.false_and]; exact Ev.congr (fun k => by rw [if_neg (by decide)]) (Ev.now _)
theorem rnamed_ev (s : ByteArray) (more : Bool) (hs : s.size ≤ 140737488351232) : Ev (fun k => tendrilref02_Named.f k s more) (namedS more (B s)) := by
  have bad : Ev (fun k => tendrilref02_Named.j0 k s more true) false := Ev.step (f := fun _ => some false) (fun k => by simp only [tendrilref02_Named.j0]; rw [if_pos trivial]) (Ev.now _)
  unfold tendrilref02_Named.f
  by_cases h0 : (s.size : Int) < 1
  · have e : B s = [] := List.eq_nil_of_length_eq_zero (by rw [B_len]; omega)
    exact Ev.congr (f := fun k => tendrilref02_Named.j0 k s more true) (fun k => by rw [if_pos h0]) (by rw [e]; exact bad)
  · obtain ⟨c, t, e⟩ := List.exists_cons_of_ne_nil (l := B s) (by intro h; have := B_len s; rw [h] at this; simp at this; omega)
    have hl : s.size = t.length + 1 := by rw [← B_len, e]; rfl
    have hb0 : bt s 0 = (c.toNat : Int) := by
      have := bt_nat (s := s) (i := 0) (by rw [e]; simp)
      simp only [e] at this
      simpa using this
    by_cases h1 : (s.size : Int) > 32
    · have : namedS more (B s) = false := by rw [e]; rw [namedS_cons]; simp; omega
      rw [this]
      exact Ev.congr (f := fun k => tendrilref02_Named.j0 k s more true) (fun k => by rw [if_neg h0, if_pos h1]) bad
    · have hall := rnamed_l0 s more (by omega) t.length 1 (by omega)
      rw [e, List.drop_succ_cons, List.drop_zero] at hall
      have gd : small c = true → Ev (fun k => tendrilref02_Named.j0 k s more false) (namedS more (B s)) := by
        intro h2
        have : namedS more (B s) = t.all (okb more) := by rw [e]; rw [namedS_cons, h2, decide_eq_true (by omega), List.all_cons, small_ok more c h2]; simp
        rw [this]
        refine Ev.step (fun k => ?_) hall
        simp only [tendrilref02_Named.j0]; rw [if_neg (by decide)]; rfl
      have bd : small c = false → namedS more (B s) = false := by intro h2; rw [e]; rw [namedS_cons, h2]; simp
      by_cases h2 : (c.toNat : Int) < 97
      · rw [bd (by unfold small; rw [decide_eq_false_iff_not]; omega)]
        exact Ev.congr (f := fun k => tendrilref02_Named.j0 k s more true) (fun k => by rw [if_neg h0, if_neg h1, if_pos (by omega), hb0, if_pos h2]) bad
      · refine Ev.congr (f := fun k => tendrilref02_Named.j0 k s more (decide ((c.toNat : Int) > 122))) (fun k => by rw [if_neg h0, if_neg h1, if_pos (by omega), hb0, if_neg h2]) ?_
        by_cases h3 : (c.toNat : Int) > 122
        · rw [bd (by unfold small; rw [decide_eq_false_iff_not]; omega), decide_eq_true h3]; exact bad
        · rw [decide_eq_false h3]; exact gd (by unfold small; rw [decide_eq_true_eq]; omega)
theorem tag_ev (s : ByteArray) (hs : s.size ≤ 140737488351232) : Ev (fun k => chars_Tag.f k s) (namedS false (B s)) := Ev.bind (named_ev s false hs) (Ev.now _)
theorem name_ev (s : ByteArray) (hs : s.size ≤ 140737488351232) : Ev (fun k => chars_Name.f k s) (namedS true (B s)) := Ev.bind (named_ev s true hs) (Ev.now _)
end Go.Proofs.YtgdemingopcgaaaDoor.M02
