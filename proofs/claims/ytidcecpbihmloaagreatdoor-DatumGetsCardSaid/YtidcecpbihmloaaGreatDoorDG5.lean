/- The row and the card of DatumGets: whatever the input, the law returns true. -/
import Derived.Test.YtidcecpbihmloaaGreatDoorDG4
import Derived.Deep.QuietTactic
import Derived.BigQuiet
import Derived.ChangeArms
import Derived.DataReads
import Derived.SizedLaws
import Derived.Deep.Slices
import Derived.Test.YtidcecpbihmloaaGreatDoorRows
import Derived.Test.YtidcecpbihmloaaGreatDoorCards
import Derived.Test.YtidcecpbihmloaaGreatDoorTie
import Derived.WalkKit
import Derived.ProofKit
import Derived.OpenShut
import Derived.ShutString
import Derived.ChangeOld
import Derived.Below
import Derived.LaidMore
import Derived.Stop.Joined
import Derived.SevenTiedAt
import Derived.MakeChecks
import Derived.Handed
import Derived.Lib.SmallJoins
import Derived.Carry

namespace Go.Proofs.YtidcecpbihmloaaGreatDoorE
open Go Go.RowKit Go.Proofs.YtidcecpbihmloaaGreatDoorW.PrintWords Go.Proofs.YtidcecpbihmloaaGreatDoorW.PrintMore Go.Proofs.YtidcecpbihmloaaGreatDoorW.PrintLast Go.Proofs.YtidcecpbihmloaaGreatDoorX Go.Proofs.YtidcecpbihmloaaGreatDoor.P16 Go.Proofs.YtidcecpbihmloaaGreatDoor.M02
set_option linter.unusedVariables false
set_option linter.unusedSimpArgs false
set_option maxRecDepth 100000
theorem ta_nil_word (w : World) : (Instr.typeAssert .nilIface 86 88 true).run Tryz.prog w = .ok (.tuple #[.string ⟨#[]⟩, .bool false]) w := rfl
theorem ta_word_word (v : Value) (w : World) : (Instr.typeAssert (.iface 88 v) 86 88 true).run Tryz.prog w = .ok (.tuple #[v, .bool true]) w := rfl
theorem ta_digits_word (v : Value) (w : World) : (Instr.typeAssert (.iface 90 v) 86 88 true).run Tryz.prog w = .ok (.tuple #[.string ⟨#[]⟩, .bool false]) w := rfl
theorem ta_quote_word (v : Value) (w : World) : (Instr.typeAssert (.iface 93 v) 86 88 true).run Tryz.prog w = .ok (.tuple #[.string ⟨#[]⟩, .bool false]) w := rfl
theorem ta_open_word (v : Value) (w : World) : (Instr.typeAssert (.iface 94 v) 86 88 true).run Tryz.prog w = .ok (.tuple #[.string ⟨#[]⟩, .bool false]) w := rfl
theorem ta_nil_digits (w : World) : (Instr.typeAssert .nilIface 86 90 true).run Tryz.prog w = .ok (.tuple #[.string ⟨#[]⟩, .bool false]) w := rfl
theorem ta_word_digits (v : Value) (w : World) : (Instr.typeAssert (.iface 88 v) 86 90 true).run Tryz.prog w = .ok (.tuple #[.string ⟨#[]⟩, .bool false]) w := rfl
theorem ta_digits_digits (v : Value) (w : World) : (Instr.typeAssert (.iface 90 v) 86 90 true).run Tryz.prog w = .ok (.tuple #[v, .bool true]) w := rfl
theorem ta_quote_digits (v : Value) (w : World) : (Instr.typeAssert (.iface 93 v) 86 90 true).run Tryz.prog w = .ok (.tuple #[.string ⟨#[]⟩, .bool false]) w := rfl
theorem ta_open_digits (v : Value) (w : World) : (Instr.typeAssert (.iface 94 v) 86 90 true).run Tryz.prog w = .ok (.tuple #[.string ⟨#[]⟩, .bool false]) w := rfl
theorem ta_nil_quote (w : World) : (Instr.typeAssert .nilIface 86 93 true).run Tryz.prog w = .ok (.tuple #[.agg #[], .bool false]) w := rfl
theorem ta_word_quote (v : Value) (w : World) : (Instr.typeAssert (.iface 88 v) 86 93 true).run Tryz.prog w = .ok (.tuple #[.agg #[], .bool false]) w := rfl
theorem ta_digits_quote (v : Value) (w : World) : (Instr.typeAssert (.iface 90 v) 86 93 true).run Tryz.prog w = .ok (.tuple #[.agg #[], .bool false]) w := rfl
theorem ta_quote_quote (v : Value) (w : World) : (Instr.typeAssert (.iface 93 v) 86 93 true).run Tryz.prog w = .ok (.tuple #[v, .bool true]) w := rfl
theorem ta_open_quote (v : Value) (w : World) : (Instr.typeAssert (.iface 94 v) 86 93 true).run Tryz.prog w = .ok (.tuple #[.agg #[], .bool false]) w := rfl
theorem ta_nil_open (w : World) : (Instr.typeAssert .nilIface 86 94 true).run Tryz.prog w = .ok (.tuple #[.int .u8 0, .bool false]) w := rfl
theorem ta_word_open (v : Value) (w : World) : (Instr.typeAssert (.iface 88 v) 86 94 true).run Tryz.prog w = .ok (.tuple #[.int .u8 0, .bool false]) w := rfl
theorem ta_digits_open (v : Value) (w : World) : (Instr.typeAssert (.iface 90 v) 86 94 true).run Tryz.prog w = .ok (.tuple #[.int .u8 0, .bool false]) w := rfl
theorem ta_quote_open (v : Value) (w : World) : (Instr.typeAssert (.iface 93 v) 86 94 true).run Tryz.prog w = .ok (.tuple #[.int .u8 0, .bool false]) w := rfl
theorem ta_open_open (v : Value) (w : World) : (Instr.typeAssert (.iface 94 v) 86 94 true).run Tryz.prog w = .ok (.tuple #[v, .bool true]) w := rfl
set_option maxHeartbeats 4000000 in
theorem qp_end (s : ByteArray) (hs : s.size ≤ 1000000000) (a deep : Nat) (ha : a ≤ s.size) (hd : deep ≤ 16) (n : Nat) (hl : s.size ≤ a) (g : Nat) (w0 w : World) (hgl : GL w0) (hI : IsS61 w0 w g s (a : Int) (deep : Int) 0) (hB : Below w0.heap.size w0 w) :
  Calls Tryz.prog 29 #[.pointer (some ⟨g, 0, none⟩)] w (pieceQ w0 w g s (deep : Int) (pieceS (n + 1) ((B s).drop a) a deep)) := by
 obtain ⟨R, hR⟩ : ∃ R : Res DT, R = pieceS (n + 1) ((B s).drop a) a deep := ⟨_, rfl⟩
 rw [← hR]
 have HRR := Aside0.mk (hR.trans (pieceS_end n s a deep hl))
 have HG := Aside0.mk hgl
 have hgw : g < w.heap.size := blk_lt hI.1
 have hg0 : w0.heap.size ≤ g := hI.2
 have hww : w0.heap.size ≤ w.heap.size := hB.size
 have HI1 := Aside0.mk (hI.alloc (.cells zCells 25))
 have HB1 := Aside0.mk (below_alloc hB (.cells zCells 25))
 have HK1 := Aside0.mk (KeepBut.of_below (below_alloc (Below.refl _ w) (.cells zCells 25)) g none)
 have HR1 := Aside0.mk (heap_alloc_new w (.cells zCells 25))
 clear hR hgl hI hB
 go_enter Tryz.func29, Tryz.ntmps29
 go_upto_region 1 with fail
 generalize hW : w.alloc (.cells zCells 25) = W1 at HI1 HB1 HK1 HR1 ⊢
 clear hW
 have q1 : W1.cell? ⟨g, 1, none⟩ = some (.int .i64 (a : Int)) := (blk_cell HI1.out.1 1).trans rfl
 have HF : Aside0 (∀ W, IsS61 w0 W g s ((a : Int)) (deep : Int) 0 → Below w0.heap.size w0 W → Calls Tryz.prog 30 #[.pointer (some ⟨g, 0, none⟩), .int .i64 (a : Int), .int .i64 2] W fun e w' => e = .returned (.tuple #[]) ∧ IsS61 w0 w' g s (a : Int) (deep : Int) 2 ∧ Below w0.heap.size w0 w' ∧ KeepBut W w' g none) := ⟨fun W h hb => datum_reader_fail.calls g s _ _ 0 (a : Int) 2 _ _ _ _ w0 W HG.out h hb (dfail_0 s _ _ _ 2)⟩
 have ta_word := ta_nil_word
 have ta_digits := ta_nil_digits
 have ta_quote := ta_nil_quote
 have ta_open := ta_nil_open
 have HNX := Aside0.mk (dn_end s hs a ha hl (deep : Int) 0 g w0 W1 HI1.out HB1.out)
 go_wp2_with (first | (go_at_call 52; go_loud (with_reducible refine HNX.out.mono ?_); rintro e w3 ⟨rfl, hi, hb, hk⟩; have HI3 := Aside0.mk hi; have HB3 := Aside0.mk hb; have HK3 := Aside0.mk (HK1.out.trans hk (.inl rfl)); have HR3 := Aside0.mk (hk.blk HR1.out (by omega) (by simp)); have hy := Lib.cell_of_heap HR3.out; have hz := Lib.frozen_of_heap HR3.out; clear hi hb hk) | (go_at_call 30; go_loud (with_reducible refine (HF.out _ HI3.out HB3.out).mono ?_); rintro e w6 ⟨rfl, hi, hb, hk⟩; have HI9 := Aside0.mk hi; have HB9 := Aside0.mk hb; have HK9 := Aside0.mk (HK3.out.trans hk (.inl rfl)); have HR9 := Aside0.mk (hk.blk HR3.out (by omega) (by simp)); have hy := Lib.cell_of_heap HR9.out; have hz := Lib.frozen_of_heap HR9.out; clear hi hb hk))
 refine bodyPost_ret (results_cell_row rfl _ _ w.heap.size 25 _ (0, 0) _ rfl (set_blk (j := 4) (set_blk (j := 3) (set_blk (j := 2) (set_blk (j := 1) (set_blk (j := 0) HR9.out _) _) _) _) _) Tryz.underlying25 rfl (by kernel_rfl)) rfl ?_
 refine finQ (x := ⟨0, 0, em, [], []⟩) (v3 := .slice none 0 0) (v4 := .slice none 0 0) (ok := fun k => w.heap.size < k) HB9.out hww HK9.out hgw (k25_mkM _ w.heap.size _ ⟨0, 0, em, [], []⟩ (Kd.R_nil _ _ _ _ _) (Kd.R_nil _ _ _ _ _)) (fun k hk => by omega) ?_
 rw [HRR.out]
 exact ⟨_, HI9.out⟩
set_option maxHeartbeats 4000000 in
theorem qp_bad (s : ByteArray) (hs : s.size ≤ 1000000000) (a deep : Nat) (ha : a ≤ s.size) (hd : deep ≤ 16) (n : Nat) (c : UInt8) (hl : a < s.size) (hc : (B s)[a]'(at_lt hl) = c) (h0 : isLet c = false) (h1 : isDig c = false) (h34 : c ≠ 34) (h91 : c ≠ 91) (h123 : c ≠ 123) (g : Nat) (w0 w : World) (hgl : GL w0) (hI : IsS61 w0 w g s (a : Int) (deep : Int) 0) (hB : Below w0.heap.size w0 w) :
  Calls Tryz.prog 29 #[.pointer (some ⟨g, 0, none⟩)] w (pieceQ w0 w g s (deep : Int) (pieceS (n + 1) ((B s).drop a) a deep)) := by
 obtain ⟨R, hR⟩ : ∃ R : Res DT, R = pieceS (n + 1) ((B s).drop a) a deep := ⟨_, rfl⟩
 rw [← hR]
 have HRR := Aside0.mk (hR.trans (pieceS_bad n s a deep hl (by rw [hc]; exact h0) (by rw [hc]; exact h1) (by rw [hc]; exact h34) (by rw [hc]; exact h91) (by rw [hc]; exact h123)))
 have HG := Aside0.mk hgl
 have hgw : g < w.heap.size := blk_lt hI.1
 have hg0 : w0.heap.size ≤ g := hI.2
 have hww : w0.heap.size ≤ w.heap.size := hB.size
 have HI1 := Aside0.mk (hI.alloc (.cells zCells 25))
 have HB1 := Aside0.mk (below_alloc hB (.cells zCells 25))
 have HK1 := Aside0.mk (KeepBut.of_below (below_alloc (Below.refl _ w) (.cells zCells 25)) g none)
 have HR1 := Aside0.mk (heap_alloc_new w (.cells zCells 25))
 clear hR hgl hI hB
 go_enter Tryz.func29, Tryz.ntmps29
 go_upto_region 1 with fail
 generalize hW : w.alloc (.cells zCells 25) = W1 at HI1 HB1 HK1 HR1 ⊢
 clear hW
 have q1 : W1.cell? ⟨g, 1, none⟩ = some (.int .i64 (a : Int)) := (blk_cell HI1.out.1 1).trans rfl
 have HF : Aside0 (∀ W, IsS61 w0 W g s ((a : Int)) (deep : Int) 0 → Below w0.heap.size w0 W → Calls Tryz.prog 30 #[.pointer (some ⟨g, 0, none⟩), .int .i64 (a : Int), .int .i64 2] W fun e w' => e = .returned (.tuple #[]) ∧ IsS61 w0 w' g s (a : Int) (deep : Int) 2 ∧ Below w0.heap.size w0 w' ∧ KeepBut W w' g none) := ⟨fun W h hb => datum_reader_fail.calls g s _ _ 0 (a : Int) 2 _ _ _ _ w0 W HG.out h hb (dfail_0 s _ _ _ 2)⟩
 have ta_word := ta_nil_word
 have ta_digits := ta_nil_digits
 have ta_quote := ta_nil_quote
 have ta_open := ta_nil_open
 have HNX := Aside0.mk (dn_bad s hs a ha c hl hc h0 h1 h34 h91 h123 (deep : Int) 0 g w0 W1 HI1.out HB1.out)
 clear hc h0 h1 h34 h91 h123
 go_wp2_with (first | (go_at_call 52; go_loud (with_reducible refine HNX.out.mono ?_); rintro e w3 ⟨rfl, hi, hb, hk⟩; have HI3 := Aside0.mk hi; have HB3 := Aside0.mk hb; have HK3 := Aside0.mk (HK1.out.trans hk (.inl rfl)); have HR3 := Aside0.mk (hk.blk HR1.out (by omega) (by simp)); have hy := Lib.cell_of_heap HR3.out; have hz := Lib.frozen_of_heap HR3.out; clear hi hb hk) | (go_at_call 30; go_loud (with_reducible refine (HF.out _ HI3.out HB3.out).mono ?_); rintro e w6 ⟨rfl, hi, hb, hk⟩; have HI9 := Aside0.mk hi; have HB9 := Aside0.mk hb; have HK9 := Aside0.mk (HK3.out.trans hk (.inl rfl)); have HR9 := Aside0.mk (hk.blk HR3.out (by omega) (by simp)); have hy := Lib.cell_of_heap HR9.out; have hz := Lib.frozen_of_heap HR9.out; clear hi hb hk))
 refine bodyPost_ret (results_cell_row rfl _ _ w.heap.size 25 _ (0, 0) _ rfl (set_blk (j := 4) (set_blk (j := 3) (set_blk (j := 2) (set_blk (j := 1) (set_blk (j := 0) HR9.out _) _) _) _) _) Tryz.underlying25 rfl (by kernel_rfl)) rfl ?_
 refine finQ (x := ⟨0, 0, em, [], []⟩) (v3 := .slice none 0 0) (v4 := .slice none 0 0) (ok := fun k => w.heap.size < k) HB9.out hww HK9.out hgw (k25_mkM _ w.heap.size _ ⟨0, 0, em, [], []⟩ (Kd.R_nil _ _ _ _ _) (Kd.R_nil _ _ _ _ _)) (fun k hk => by omega) ?_
 rw [HRR.out]
 exact ⟨_, HI9.out⟩
theorem named_made {w' W : World} {b : Nat} {A3 : Option Addr} {c3 : Nat} {A4 : Option Addr} {c4 : Nat} {k n : Int} {tx : ByteArray} (h3 : Kd.R Kd.string 9 w' W.heap.size (fun _ => True) (.slice A3 ([] : List ByteArray).length c3) []) (h4 : Kd.R k25 25 w' W.heap.size (fun k_ => some k_ ≠ (Value.slice A3 ([] : List ByteArray).length c3).ownBlock) (.slice A4 ([] : List DT).length c4) []) (hb : b ≤ W.heap.size) : k25.M w' b (fun k => W.heap.size ≤ k) ⟨k, n, tx, [], []⟩ (dCells ⟨k, n, tx, [], []⟩ (.slice A3 0 c3) (.slice A4 0 c4)) :=
 made_of (k25_mkM w' W.heap.size (fun _ => True) ⟨k, n, tx, [], []⟩ h3 (Kd.R_mono h4 (fun _ _ => trivial))) hb
set_option maxHeartbeats 4000000 in
theorem qp_num (s : ByteArray) (hs : s.size ≤ 1000000000) (a deep : Nat) (ha : a ≤ s.size) (hd : deep ≤ 16) (n : Nat) (c : UInt8) (hl : a < s.size) (hc : (B s)[a]'(at_lt hl) = c) (h0 : isLet c = false) (h1 : isDig c = true) (g : Nat) (w0 w : World) (hgl : GL w0) (hI : IsS61 w0 w g s (a : Int) (deep : Int) 0) (hB : Below w0.heap.size w0 w) :
  Calls Tryz.prog 29 #[.pointer (some ⟨g, 0, none⟩)] w (pieceQ w0 w g s (deep : Int) (pieceS (n + 1) ((B s).drop a) a deep)) := by
 obtain ⟨R, hR⟩ : ∃ R : Res DT, R = pieceS (n + 1) ((B s).drop a) a deep := ⟨_, rfl⟩
 rw [← hR]
 have HRR := Aside0.mk (hR.trans (pieceS_dig n s a deep hl (by rw [hc]; exact h0) (by rw [hc]; exact h1)))
 have HG := Aside0.mk hgl
 have hgw : g < w.heap.size := blk_lt hI.1
 have hg0 : w0.heap.size ≤ g := hI.2
 have hww : w0.heap.size ≤ w.heap.size := hB.size
 have HI1 := Aside0.mk (hI.alloc (.cells zCells 25))
 have HB1 := Aside0.mk (below_alloc hB (.cells zCells 25))
 have HK1 := Aside0.mk (KeepBut.of_below (below_alloc (Below.refl _ w) (.cells zCells 25)) g none)
 have HR1 := Aside0.mk (heap_alloc_new w (.cells zCells 25))
 clear hR hgl hI hB
 go_enter Tryz.func29, Tryz.ntmps29
 go_upto_region 1 with fail
 generalize hW : w.alloc (.cells zCells 25) = W1 at HI1 HB1 HK1 HR1 ⊢
 clear hW
 have q1 : W1.cell? ⟨g, 1, none⟩ = some (.int .i64 (a : Int)) := (blk_cell HI1.out.1 1).trans rfl
 have ta_word := ta_digits_word
 have ta_digits := ta_digits_digits
 have ta_quote := ta_digits_quote
 have ta_open := ta_digits_open
 have HNX := Aside0.mk (dn_dig s hs a ha c hl hc h0 h1 (deep : Int) 0 g w0 W1 HI1.out HB1.out)
 obtain ⟨T, hT⟩ : ∃ T, T = ((B s).drop a).takeWhile isDig := ⟨_, rfl⟩
 have hTl : a + T.length ≤ s.size := by
  have h := tw_le isDig ((B s).drop a)
  rw [← hT, List.length_drop, B_len] at h
  omega
 rw [← hT] at HRR HNX
 have HWH : Aside0 (∀ W, GL W → Calls Tryz.prog 54 #[.string (mkB T)] W fun e w' => e = .returned (.tuple #[.int .i64 (wholeS T).1, .bool (wholeS T).2]) ∧ Below W.heap.size W w') := ⟨fun W h => chars_Whole.calls (mkB T) _ _ W h (by unfold chars_Whole.f; rw [if_pos (by rw [mkB_size]; omega)]; rfl)⟩
 obtain ⟨V, hV⟩ : ∃ V, V = wholeS T := ⟨_, rfl⟩
 rw [← hV] at HRR HWH
 obtain ⟨vn, vb⟩ := V
 clear hT hV hc h0 h1
 have HF : Aside0 (∀ W, IsS61 w0 W g s (((a + T.length : Nat) : Int)) (deep : Int) 0 → Below w0.heap.size w0 W → Calls Tryz.prog 30 #[.pointer (some ⟨g, 0, none⟩), .int .i64 (a : Int), .int .i64 2] W fun e w' => e = .returned (.tuple #[]) ∧ IsS61 w0 w' g s (a : Int) (deep : Int) 2 ∧ Below w0.heap.size w0 w' ∧ KeepBut W w' g none) := ⟨fun W h hb => datum_reader_fail.calls g s _ _ 0 (a : Int) 2 _ _ _ _ w0 W HG.out h hb (dfail_0 s _ _ _ 2)⟩
 cases vb with
 | false =>
  have HRV := Aside0.mk (HRR.out.trans (if_neg (by simp)))
  go_wp2_with (first | (go_at_call 52; go_loud (with_reducible refine HNX.out.mono ?_); rintro e w3 ⟨rfl, hi, hb, hk⟩; have HI3 := Aside0.mk hi; have HB3 := Aside0.mk hb; have HK3 := Aside0.mk (HK1.out.trans hk (.inl rfl)); have HR3 := Aside0.mk (hk.blk HR1.out (by omega) (by simp)); have hy := Lib.cell_of_heap HR3.out; have hz := Lib.frozen_of_heap HR3.out; clear hi hb hk) | (go_at_call 54; go_loud (with_reducible refine (HWH.out _ (HG.out.below HB3.out)).mono ?_); rintro e w7 ⟨rfl, hd⟩; have HI6 := Aside0.mk (HI3.out.below hd); have HB6 := Aside0.mk (below_then HB3.out HB3.out.size hd); have HK6 := Aside0.mk (HK3.out.trans (KeepBut.of_below hd g none) (.inl rfl)); have HR6 := Aside0.mk ((hd.block _ (blk_lt HR3.out)).trans HR3.out); have hy := Lib.cell_of_heap HR6.out; have hz := Lib.frozen_of_heap HR6.out; clear hd) | (go_at_call 30; go_loud (with_reducible refine (HF.out _ HI6.out HB6.out).mono ?_); rintro e w8 ⟨rfl, hi, hb, hk⟩; have HI9 := Aside0.mk hi; have HB9 := Aside0.mk hb; have HK9 := Aside0.mk (HK6.out.trans hk (.inl rfl)); have HR9 := Aside0.mk (hk.blk HR6.out (by omega) (by simp)); have hy := Lib.cell_of_heap HR9.out; have hz := Lib.frozen_of_heap HR9.out; clear hi hb hk))
  refine bodyPost_ret (results_cell_row rfl _ _ w.heap.size 25 _ (0, 0) _ rfl (set_blk (j := 4) (set_blk (j := 3) (set_blk (j := 2) (set_blk (j := 1) (set_blk (j := 0) HR9.out _) _) _) _) _) Tryz.underlying25 rfl (by kernel_rfl)) rfl ?_
  refine finQ (x := ⟨2, vn, em, [], []⟩) (v3 := .slice none 0 0) (v4 := .slice none 0 0) (ok := fun k => w.heap.size < k) HB9.out hww HK9.out hgw (k25_mkM _ w.heap.size _ ⟨2, vn, em, [], []⟩ (Kd.R_nil _ _ _ _ _) (Kd.R_nil _ _ _ _ _)) (fun k hk => by omega) ?_
  rw [HRV.out]
  exact ⟨_, HI9.out⟩
 | true =>
  have HRV := Aside0.mk (HRR.out.trans (if_pos rfl))
  go_wp2_with (first | (go_at_call 52; go_loud (with_reducible refine HNX.out.mono ?_); rintro e w3 ⟨rfl, hi, hb, hk⟩; have HI3 := Aside0.mk hi; have HB3 := Aside0.mk hb; have HK3 := Aside0.mk (HK1.out.trans hk (.inl rfl)); have HR3 := Aside0.mk (hk.blk HR1.out (by omega) (by simp)); have hy := Lib.cell_of_heap HR3.out; have hz := Lib.frozen_of_heap HR3.out; clear hi hb hk) | (go_at_call 54; go_loud (with_reducible refine (HWH.out _ (HG.out.below HB3.out)).mono ?_); rintro e w7 ⟨rfl, hd⟩; have HI9 := Aside0.mk (HI3.out.below hd); have HB9 := Aside0.mk (below_then HB3.out HB3.out.size hd); have HK9 := Aside0.mk (HK3.out.trans (KeepBut.of_below hd g none) (.inl rfl)); have HR9 := Aside0.mk ((hd.block _ (blk_lt HR3.out)).trans HR3.out); have hy := Lib.cell_of_heap HR9.out; have hz := Lib.frozen_of_heap HR9.out; clear hd))
  refine bodyPost_ret (results_cell_row rfl _ _ w.heap.size 25 _ (0, 0) _ rfl (set_blk (j := 4) (set_blk (j := 3) (set_blk (j := 2) (set_blk (j := 1) (set_blk (j := 0) HR9.out _) _) _) _) _) Tryz.underlying25 rfl (by kernel_rfl)) rfl ?_
  refine finQ (x := ⟨2, vn, em, [], []⟩) (v3 := .slice none 0 0) (v4 := .slice none 0 0) (ok := fun k => w.heap.size < k) HB9.out hww HK9.out hgw (k25_mkM _ w.heap.size _ ⟨2, vn, em, [], []⟩ (Kd.R_nil _ _ _ _ _) (Kd.R_nil _ _ _ _ _)) (fun k hk => by omega) ?_
  rw [HRV.out]
  exact ⟨rfl, HI9.out⟩
set_option maxHeartbeats 4000000 in
theorem qp_word (s : ByteArray) (hs : s.size ≤ 1000000000) (a deep : Nat) (ha : a ≤ s.size) (hd : deep ≤ 16) (n : Nat) (c : UInt8) (hl : a < s.size) (hc : (B s)[a]'(at_lt hl) = c) (h0 : isLet c = true) (g : Nat) (w0 w : World) (hgl : GL w0) (hI : IsS61 w0 w g s (a : Int) (deep : Int) 0) (hB : Below w0.heap.size w0 w) :
  Calls Tryz.prog 29 #[.pointer (some ⟨g, 0, none⟩)] w (pieceQ w0 w g s (deep : Int) (pieceS (n + 1) ((B s).drop a) a deep)) := by
 obtain ⟨R, hR⟩ : ∃ R : Res DT, R = pieceS (n + 1) ((B s).drop a) a deep := ⟨_, rfl⟩
 rw [← hR]
 have HRR := Aside0.mk (hR.trans (pieceS_let n s a deep hl (by rw [hc]; exact h0)))
 have HG := Aside0.mk hgl
 have hgw : g < w.heap.size := blk_lt hI.1
 have hg0 : w0.heap.size ≤ g := hI.2
 have hww : w0.heap.size ≤ w.heap.size := hB.size
 have HI1 := Aside0.mk (hI.alloc (.cells zCells 25))
 have HB1 := Aside0.mk (below_alloc hB (.cells zCells 25))
 have HK1 := Aside0.mk (KeepBut.of_below (below_alloc (Below.refl _ w) (.cells zCells 25)) g none)
 have HR1 := Aside0.mk (heap_alloc_new w (.cells zCells 25))
 clear hR hgl hI hB
 go_enter Tryz.func29, Tryz.ntmps29
 go_upto_region 1 with fail
 generalize hW : w.alloc (.cells zCells 25) = W1 at HI1 HB1 HK1 HR1 ⊢
 clear hW
 have q1 : W1.cell? ⟨g, 1, none⟩ = some (.int .i64 (a : Int)) := (blk_cell HI1.out.1 1).trans rfl
 have ta_word := ta_word_word
 have ta_digits := ta_word_digits
 have ta_quote := ta_word_quote
 have ta_open := ta_word_open
 have HNX := Aside0.mk (dn_let s hs a ha c hl hc h0 (deep : Int) 0 g w0 W1 HI1.out HB1.out)
 obtain ⟨T, hT⟩ : ∃ T, T = ((B s).drop a).takeWhile isLet := ⟨_, rfl⟩
 have hTl : a + T.length ≤ s.size := by
  have h := tw_le isLet ((B s).drop a)
  rw [← hT, List.length_drop, B_len] at h
  omega
 rw [← hT] at HRR HNX
 have hTL : (mkB T).toList = T := by rw [toList_B]; rfl
 have HF : Aside0 (∀ W, IsS61 w0 W g s (((a + T.length : Nat) : Int)) (deep : Int) 0 → Below w0.heap.size w0 W → Calls Tryz.prog 30 #[.pointer (some ⟨g, 0, none⟩), .int .i64 (a : Int), .int .i64 2] W fun e w' => e = .returned (.tuple #[]) ∧ IsS61 w0 w' g s (a : Int) (deep : Int) 2 ∧ Below w0.heap.size w0 w' ∧ KeepBut W w' g none) := ⟨fun W h hb => datum_reader_fail.calls g s _ _ 0 (a : Int) 2 _ _ _ _ w0 W HG.out h hb (dfail_0 s _ _ _ 2)⟩
 clear hT hc h0
 by_cases hnone : T = [110, 111, 110, 101]
 ·have HV := Aside0.mk (show datum_named.f (mkB T) = some (0, 0, em, [], [], true) by unfold datum_named.f; rw [hTL, hnone]; rfl)
  have HRV := Aside0.mk (show R = .ok (⟨0, 0, em, [], []⟩ : DT) (a + T.length) ((B s).drop (a + T.length)) by have h := HRR.out; rw [show wordD T = some (⟨0, 0, em, [], []⟩ : DT) by rw [hnone]; rfl] at h; exact h)
  clear hTL hnone
  have HNM : Aside0 (∀ W, GL W → Calls Tryz.prog 53 #[.string (mkB T)] W fun e w' => ∃ v3_ v4_ : Value, e = .returned (.tuple #[.agg #[.int .i64 0, .int .i64 0, .string em, v3_, v4_], .bool true]) ∧ Kd.R Kd.string 9 w' W.heap.size (fun _ => True) v3_ [] ∧ Kd.R k25 25 w' W.heap.size (fun k_ => some k_ ≠ (v3_ : Value).ownBlock) v4_ [] ∧ Below W.heap.size W w') := ⟨fun W h => datum_named.calls (mkB T) _ _ _ _ _ _ W h HV.out⟩
  go_upto_region 6 with (first | (go_at_call 52; go_loud (with_reducible refine HNX.out.mono ?_); rintro e w3 ⟨rfl, hi, hb, hk⟩; have HI3 := Aside0.mk hi; have HB3 := Aside0.mk hb; have HK3 := Aside0.mk (HK1.out.trans hk (.inl rfl)); have HR3 := Aside0.mk (hk.blk HR1.out (by omega) (by simp)); have hy := Lib.cell_of_heap HR3.out; have hz := Lib.frozen_of_heap HR3.out; clear hi hb hk) | (go_at_call 53; go_loud (with_reducible refine (HNM.out _ (HG.out.below HB3.out)).mono ?_); rintro e w7 ⟨v3, v4, rfl, h3, h4, hd⟩; obtain ⟨A3, c3, rfl⟩ := Kd.R_slice h3; obtain ⟨A4, c4, rfl⟩ := Kd.R_slice h4; have HI7 := Aside0.mk (HI3.out.below hd); have HB7 := Aside0.mk (below_then HB3.out HB3.out.size hd); have HK7 := Aside0.mk (HK3.out.trans (KeepBut.of_below hd g none) (.inl rfl)); have HR7 := Aside0.mk ((hd.block _ (blk_lt HR3.out)).trans HR3.out); have HM7 := Aside0.mk (named_made (k := 0) (n := 0) (tx := em) h3 h4 (Nat.le_of_lt (blk_lt HR3.out))); have HWZ := Aside0.mk (blk_lt HR3.out); clear h3 h4 hd))
  have HI8 := Aside0.mk (HI7.out.alloc (.cells #[.int .i64 0, .int .i64 0, .string ⟨#[]⟩, .slice A3 0 c3, .slice A4 0 c4] 25))
  have HB8 := Aside0.mk (below_alloc HB7.out (.cells #[.int .i64 0, .int .i64 0, .string ⟨#[]⟩, .slice A3 0 c3, .slice A4 0 c4] 25))
  have HK8 := Aside0.mk (HK7.out.trans (KeepBut.of_below (below_alloc (Below.refl _ w7) (.cells #[.int .i64 0, .int .i64 0, .string ⟨#[]⟩, .slice A3 0 c3, .slice A4 0 c4] 25)) g none) (.inl rfl))
  have HR8 := Aside0.mk (((below_alloc (Below.refl _ w7) (.cells #[.int .i64 0, .int .i64 0, .string ⟨#[]⟩, .slice A3 0 c3, .slice A4 0 c4] 25)).block _ (blk_lt HR7.out)).trans HR7.out)
  have HM8 := Aside0.mk (Kd.M_below HM7.out (below_alloc (Below.refl _ w7) (.cells #[.int .i64 0, .int .i64 0, .string ⟨#[]⟩, .slice A3 0 c3, .slice A4 0 c4] 25)))
  have HD8 := Aside0.mk (heap_alloc_new w7 (.cells #[.int .i64 0, .int .i64 0, .string ⟨#[]⟩, .slice A3 0 c3, .slice A4 0 c4] 25))
  have hw7 : w.heap.size < w7.heap.size := blk_lt HR7.out
  generalize hW : w7.alloc (.cells #[.int .i64 0, .int .i64 0, .string ⟨#[]⟩, .slice A3 0 c3, .slice A4 0 c4] 25) = W8 at HI8 HB8 HK8 HR8 HM8 HD8 ⊢
  clear hW hy hz
  have d0 := (blk_cell HD8.out 0).trans rfl
  have d1 := (blk_cell HD8.out 1).trans rfl
  have d2 := (blk_cell HD8.out 2).trans rfl
  have d3 := (blk_cell HD8.out 3).trans rfl
  have d4 := (blk_cell HD8.out 4).trans rfl
  have hy := Lib.cell_of_heap HR8.out
  have hz := Lib.frozen_of_heap HR8.out
  go_wp2_with fail
  refine bodyPost_ret (results_cell_row rfl _ _ w.heap.size 25 _ (0, 0) _ rfl (set_blk (j := 4) (set_blk (j := 3) (set_blk (j := 2) (set_blk (j := 1) (set_blk (j := 0) HR8.out _) _) _) _) _) Tryz.underlying25 rfl (by kernel_rfl)) rfl ?_
  refine finQ (x := ⟨0, 0, em, [], []⟩) (v3 := .slice A3 0 c3) (v4 := .slice A4 0 c4) HB8.out hww HK8.out hgw HM8.out (fun k hk => by have := HWZ.out; omega) ?_
  rw [HRV.out]
  exact ⟨rfl, HI8.out⟩
 by_cases hno : T = [110, 111]
 ·have HV := Aside0.mk (show datum_named.f (mkB T) = some (1, 0, em, [], [], true) by unfold datum_named.f; rw [hTL, hno]; rfl)
  have HRV := Aside0.mk (show R = .ok (⟨1, 0, em, [], []⟩ : DT) (a + T.length) ((B s).drop (a + T.length)) by have h := HRR.out; rw [show wordD T = some (⟨1, 0, em, [], []⟩ : DT) by rw [hno]; rfl] at h; exact h)
  clear hTL hno hnone
  have HNM : Aside0 (∀ W, GL W → Calls Tryz.prog 53 #[.string (mkB T)] W fun e w' => ∃ v3_ v4_ : Value, e = .returned (.tuple #[.agg #[.int .i64 1, .int .i64 0, .string em, v3_, v4_], .bool true]) ∧ Kd.R Kd.string 9 w' W.heap.size (fun _ => True) v3_ [] ∧ Kd.R k25 25 w' W.heap.size (fun k_ => some k_ ≠ (v3_ : Value).ownBlock) v4_ [] ∧ Below W.heap.size W w') := ⟨fun W h => datum_named.calls (mkB T) _ _ _ _ _ _ W h HV.out⟩
  go_upto_region 6 with (first | (go_at_call 52; go_loud (with_reducible refine HNX.out.mono ?_); rintro e w3 ⟨rfl, hi, hb, hk⟩; have HI3 := Aside0.mk hi; have HB3 := Aside0.mk hb; have HK3 := Aside0.mk (HK1.out.trans hk (.inl rfl)); have HR3 := Aside0.mk (hk.blk HR1.out (by omega) (by simp)); have hy := Lib.cell_of_heap HR3.out; have hz := Lib.frozen_of_heap HR3.out; clear hi hb hk) | (go_at_call 53; go_loud (with_reducible refine (HNM.out _ (HG.out.below HB3.out)).mono ?_); rintro e w7 ⟨v3, v4, rfl, h3, h4, hd⟩; obtain ⟨A3, c3, rfl⟩ := Kd.R_slice h3; obtain ⟨A4, c4, rfl⟩ := Kd.R_slice h4; have HI7 := Aside0.mk (HI3.out.below hd); have HB7 := Aside0.mk (below_then HB3.out HB3.out.size hd); have HK7 := Aside0.mk (HK3.out.trans (KeepBut.of_below hd g none) (.inl rfl)); have HR7 := Aside0.mk ((hd.block _ (blk_lt HR3.out)).trans HR3.out); have HM7 := Aside0.mk (named_made (k := 1) (n := 0) (tx := em) h3 h4 (Nat.le_of_lt (blk_lt HR3.out))); have HWZ := Aside0.mk (blk_lt HR3.out); clear h3 h4 hd))
  have HI8 := Aside0.mk (HI7.out.alloc (.cells #[.int .i64 1, .int .i64 0, .string ⟨#[]⟩, .slice A3 0 c3, .slice A4 0 c4] 25))
  have HB8 := Aside0.mk (below_alloc HB7.out (.cells #[.int .i64 1, .int .i64 0, .string ⟨#[]⟩, .slice A3 0 c3, .slice A4 0 c4] 25))
  have HK8 := Aside0.mk (HK7.out.trans (KeepBut.of_below (below_alloc (Below.refl _ w7) (.cells #[.int .i64 1, .int .i64 0, .string ⟨#[]⟩, .slice A3 0 c3, .slice A4 0 c4] 25)) g none) (.inl rfl))
  have HR8 := Aside0.mk (((below_alloc (Below.refl _ w7) (.cells #[.int .i64 1, .int .i64 0, .string ⟨#[]⟩, .slice A3 0 c3, .slice A4 0 c4] 25)).block _ (blk_lt HR7.out)).trans HR7.out)
  have HM8 := Aside0.mk (Kd.M_below HM7.out (below_alloc (Below.refl _ w7) (.cells #[.int .i64 1, .int .i64 0, .string ⟨#[]⟩, .slice A3 0 c3, .slice A4 0 c4] 25)))
  have HD8 := Aside0.mk (heap_alloc_new w7 (.cells #[.int .i64 1, .int .i64 0, .string ⟨#[]⟩, .slice A3 0 c3, .slice A4 0 c4] 25))
  have hw7 : w.heap.size < w7.heap.size := blk_lt HR7.out
  generalize hW : w7.alloc (.cells #[.int .i64 1, .int .i64 0, .string ⟨#[]⟩, .slice A3 0 c3, .slice A4 0 c4] 25) = W8 at HI8 HB8 HK8 HR8 HM8 HD8 ⊢
  clear hW hy hz
  have d0 := (blk_cell HD8.out 0).trans rfl
  have d1 := (blk_cell HD8.out 1).trans rfl
  have d2 := (blk_cell HD8.out 2).trans rfl
  have d3 := (blk_cell HD8.out 3).trans rfl
  have d4 := (blk_cell HD8.out 4).trans rfl
  have hy := Lib.cell_of_heap HR8.out
  have hz := Lib.frozen_of_heap HR8.out
  go_wp2_with fail
  refine bodyPost_ret (results_cell_row rfl _ _ w.heap.size 25 _ (0, 0) _ rfl (set_blk (j := 4) (set_blk (j := 3) (set_blk (j := 2) (set_blk (j := 1) (set_blk (j := 0) HR8.out _) _) _) _) _) Tryz.underlying25 rfl (by kernel_rfl)) rfl ?_
  refine finQ (x := ⟨1, 0, em, [], []⟩) (v3 := .slice A3 0 c3) (v4 := .slice A4 0 c4) HB8.out hww HK8.out hgw HM8.out (fun k hk => by have := HWZ.out; omega) ?_
  rw [HRV.out]
  exact ⟨rfl, HI8.out⟩
 by_cases hyes : T = [121, 101, 115]
 ·have HV := Aside0.mk (show datum_named.f (mkB T) = some (1, 1, em, [], [], true) by unfold datum_named.f; rw [hTL, hyes]; rfl)
  have HRV := Aside0.mk (show R = .ok (⟨1, 1, em, [], []⟩ : DT) (a + T.length) ((B s).drop (a + T.length)) by have h := HRR.out; rw [show wordD T = some (⟨1, 1, em, [], []⟩ : DT) by rw [hyes]; rfl] at h; exact h)
  clear hTL hyes hnone hno
  have HNM : Aside0 (∀ W, GL W → Calls Tryz.prog 53 #[.string (mkB T)] W fun e w' => ∃ v3_ v4_ : Value, e = .returned (.tuple #[.agg #[.int .i64 1, .int .i64 1, .string em, v3_, v4_], .bool true]) ∧ Kd.R Kd.string 9 w' W.heap.size (fun _ => True) v3_ [] ∧ Kd.R k25 25 w' W.heap.size (fun k_ => some k_ ≠ (v3_ : Value).ownBlock) v4_ [] ∧ Below W.heap.size W w') := ⟨fun W h => datum_named.calls (mkB T) _ _ _ _ _ _ W h HV.out⟩
  go_upto_region 6 with (first | (go_at_call 52; go_loud (with_reducible refine HNX.out.mono ?_); rintro e w3 ⟨rfl, hi, hb, hk⟩; have HI3 := Aside0.mk hi; have HB3 := Aside0.mk hb; have HK3 := Aside0.mk (HK1.out.trans hk (.inl rfl)); have HR3 := Aside0.mk (hk.blk HR1.out (by omega) (by simp)); have hy := Lib.cell_of_heap HR3.out; have hz := Lib.frozen_of_heap HR3.out; clear hi hb hk) | (go_at_call 53; go_loud (with_reducible refine (HNM.out _ (HG.out.below HB3.out)).mono ?_); rintro e w7 ⟨v3, v4, rfl, h3, h4, hd⟩; obtain ⟨A3, c3, rfl⟩ := Kd.R_slice h3; obtain ⟨A4, c4, rfl⟩ := Kd.R_slice h4; have HI7 := Aside0.mk (HI3.out.below hd); have HB7 := Aside0.mk (below_then HB3.out HB3.out.size hd); have HK7 := Aside0.mk (HK3.out.trans (KeepBut.of_below hd g none) (.inl rfl)); have HR7 := Aside0.mk ((hd.block _ (blk_lt HR3.out)).trans HR3.out); have HM7 := Aside0.mk (named_made (k := 1) (n := 1) (tx := em) h3 h4 (Nat.le_of_lt (blk_lt HR3.out))); have HWZ := Aside0.mk (blk_lt HR3.out); clear h3 h4 hd))
  have HI8 := Aside0.mk (HI7.out.alloc (.cells #[.int .i64 1, .int .i64 1, .string ⟨#[]⟩, .slice A3 0 c3, .slice A4 0 c4] 25))
  have HB8 := Aside0.mk (below_alloc HB7.out (.cells #[.int .i64 1, .int .i64 1, .string ⟨#[]⟩, .slice A3 0 c3, .slice A4 0 c4] 25))
  have HK8 := Aside0.mk (HK7.out.trans (KeepBut.of_below (below_alloc (Below.refl _ w7) (.cells #[.int .i64 1, .int .i64 1, .string ⟨#[]⟩, .slice A3 0 c3, .slice A4 0 c4] 25)) g none) (.inl rfl))
  have HR8 := Aside0.mk (((below_alloc (Below.refl _ w7) (.cells #[.int .i64 1, .int .i64 1, .string ⟨#[]⟩, .slice A3 0 c3, .slice A4 0 c4] 25)).block _ (blk_lt HR7.out)).trans HR7.out)
  have HM8 := Aside0.mk (Kd.M_below HM7.out (below_alloc (Below.refl _ w7) (.cells #[.int .i64 1, .int .i64 1, .string ⟨#[]⟩, .slice A3 0 c3, .slice A4 0 c4] 25)))
  have HD8 := Aside0.mk (heap_alloc_new w7 (.cells #[.int .i64 1, .int .i64 1, .string ⟨#[]⟩, .slice A3 0 c3, .slice A4 0 c4] 25))
  have hw7 : w.heap.size < w7.heap.size := blk_lt HR7.out
  generalize hW : w7.alloc (.cells #[.int .i64 1, .int .i64 1, .string ⟨#[]⟩, .slice A3 0 c3, .slice A4 0 c4] 25) = W8 at HI8 HB8 HK8 HR8 HM8 HD8 ⊢
  clear hW hy hz
  have d0 := (blk_cell HD8.out 0).trans rfl
  have d1 := (blk_cell HD8.out 1).trans rfl
  have d2 := (blk_cell HD8.out 2).trans rfl
  have d3 := (blk_cell HD8.out 3).trans rfl
  have d4 := (blk_cell HD8.out 4).trans rfl
  have hy := Lib.cell_of_heap HR8.out
  have hz := Lib.frozen_of_heap HR8.out
  go_wp2_with fail
  refine bodyPost_ret (results_cell_row rfl _ _ w.heap.size 25 _ (0, 0) _ rfl (set_blk (j := 4) (set_blk (j := 3) (set_blk (j := 2) (set_blk (j := 1) (set_blk (j := 0) HR8.out _) _) _) _) _) Tryz.underlying25 rfl (by kernel_rfl)) rfl ?_
  refine finQ (x := ⟨1, 1, em, [], []⟩) (v3 := .slice A3 0 c3) (v4 := .slice A4 0 c4) HB8.out hww HK8.out hgw HM8.out (fun k hk => by have := HWZ.out; omega) ?_
  rw [HRV.out]
  exact ⟨rfl, HI8.out⟩
 have HV := Aside0.mk (show datum_named.f (mkB T) = some (0, 0, em, [], [], false) by unfold datum_named.f; rw [hTL, if_neg hnone, if_neg hno, if_neg hyes])
 have HRV := Aside0.mk (show R = .err a 2 by have h := HRR.out; rw [show (wordD T : Option DT) = none by unfold wordD; rw [if_neg hnone, if_neg hno, if_neg hyes]] at h; exact h)
 clear hTL hnone hno hyes
 have HNM : Aside0 (∀ W, GL W → Calls Tryz.prog 53 #[.string (mkB T)] W fun e w' => ∃ v3_ v4_ : Value, e = .returned (.tuple #[.agg #[.int .i64 0, .int .i64 0, .string em, v3_, v4_], .bool false]) ∧ Kd.R Kd.string 9 w' W.heap.size (fun _ => True) v3_ [] ∧ Kd.R k25 25 w' W.heap.size (fun k_ => some k_ ≠ (v3_ : Value).ownBlock) v4_ [] ∧ Below W.heap.size W w') := ⟨fun W h => datum_named.calls (mkB T) _ _ _ _ _ _ W h HV.out⟩
 go_upto_region 6 with (first | (go_at_call 52; go_loud (with_reducible refine HNX.out.mono ?_); rintro e w3 ⟨rfl, hi, hb, hk⟩; have HI3 := Aside0.mk hi; have HB3 := Aside0.mk hb; have HK3 := Aside0.mk (HK1.out.trans hk (.inl rfl)); have HR3 := Aside0.mk (hk.blk HR1.out (by omega) (by simp)); have hy := Lib.cell_of_heap HR3.out; have hz := Lib.frozen_of_heap HR3.out; clear hi hb hk) | (go_at_call 53; go_loud (with_reducible refine (HNM.out _ (HG.out.below HB3.out)).mono ?_); rintro e w7 ⟨v3, v4, rfl, h3, h4, hd⟩; obtain ⟨A3, c3, rfl⟩ := Kd.R_slice h3; obtain ⟨A4, c4, rfl⟩ := Kd.R_slice h4; have HI7 := Aside0.mk (HI3.out.below hd); have HB7 := Aside0.mk (below_then HB3.out HB3.out.size hd); have HK7 := Aside0.mk (HK3.out.trans (KeepBut.of_below hd g none) (.inl rfl)); have HR7 := Aside0.mk ((hd.block _ (blk_lt HR3.out)).trans HR3.out); have HM7 := Aside0.mk (named_made (k := 0) (n := 0) (tx := em) h3 h4 (Nat.le_of_lt (blk_lt HR3.out))); have HWZ := Aside0.mk (blk_lt HR3.out); clear h3 h4 hd))
 have HI8 := Aside0.mk (HI7.out.alloc (.cells #[.int .i64 0, .int .i64 0, .string ⟨#[]⟩, .slice A3 0 c3, .slice A4 0 c4] 25))
 have HB8 := Aside0.mk (below_alloc HB7.out (.cells #[.int .i64 0, .int .i64 0, .string ⟨#[]⟩, .slice A3 0 c3, .slice A4 0 c4] 25))
 have HK8 := Aside0.mk (HK7.out.trans (KeepBut.of_below (below_alloc (Below.refl _ w7) (.cells #[.int .i64 0, .int .i64 0, .string ⟨#[]⟩, .slice A3 0 c3, .slice A4 0 c4] 25)) g none) (.inl rfl))
 have HR8 := Aside0.mk (((below_alloc (Below.refl _ w7) (.cells #[.int .i64 0, .int .i64 0, .string ⟨#[]⟩, .slice A3 0 c3, .slice A4 0 c4] 25)).block _ (blk_lt HR7.out)).trans HR7.out)
 have HM8 := Aside0.mk (Kd.M_below HM7.out (below_alloc (Below.refl _ w7) (.cells #[.int .i64 0, .int .i64 0, .string ⟨#[]⟩, .slice A3 0 c3, .slice A4 0 c4] 25)))
 have HD8 := Aside0.mk (heap_alloc_new w7 (.cells #[.int .i64 0, .int .i64 0, .string ⟨#[]⟩, .slice A3 0 c3, .slice A4 0 c4] 25))
 have hw7 : w.heap.size < w7.heap.size := blk_lt HR7.out
 generalize hW : w7.alloc (.cells #[.int .i64 0, .int .i64 0, .string ⟨#[]⟩, .slice A3 0 c3, .slice A4 0 c4] 25) = W8 at HI8 HB8 HK8 HR8 HM8 HD8 ⊢
 clear hW hy hz
 go_wp2_with (go_at_call 30; go_loud (with_reducible refine (HF.out _ HI8.out HB8.out).mono ?_); rintro e w9 ⟨rfl, hi, hb, hk⟩; have HI9 := Aside0.mk hi; have HB9 := Aside0.mk hb; have HK9 := Aside0.mk (HK8.out.trans hk (.inl rfl)); have HR9 := Aside0.mk (hk.blk HR8.out (by omega) (by simp)); have HM9 := Aside0.mk (Kd.M_keep HM8.out hk (fun k hk => by have := HWZ.out; omega)); have HD9 := hk.blk HD8.out (by omega) (by simp); have d0 := (blk_cell HD9 0).trans rfl; have d1 := (blk_cell HD9 1).trans rfl; have d2 := (blk_cell HD9 2).trans rfl; have d3 := (blk_cell HD9 3).trans rfl; have d4 := (blk_cell HD9 4).trans rfl; have hy := Lib.cell_of_heap HR9.out; have hz := Lib.frozen_of_heap HR9.out; clear hi hb hk HD9)
 refine bodyPost_ret (results_cell_row rfl _ _ w.heap.size 25 _ (0, 0) _ rfl (set_blk (j := 4) (set_blk (j := 3) (set_blk (j := 2) (set_blk (j := 1) (set_blk (j := 0) HR9.out _) _) _) _) _) Tryz.underlying25 rfl (by kernel_rfl)) rfl ?_
 refine finQ (x := ⟨0, 0, em, [], []⟩) (v3 := .slice A3 0 c3) (v4 := .slice A4 0 c4) HB9.out hww HK9.out hgw HM9.out (fun k hk => by have := HWZ.out; omega) ?_
 rw [HRV.out]
 exact ⟨_, HI9.out⟩
set_option maxHeartbeats 4000000 in
theorem qp_quo (s : ByteArray) (hs : s.size ≤ 1000000000) (a deep : Nat) (ha : a ≤ s.size) (hd : deep ≤ 16) (n : Nat) (hl : a < s.size) (hc : (B s)[a]'(at_lt hl) = 34)  (g : Nat) (w0 w : World) (hgl : GL w0) (hI : IsS61 w0 w g s (a : Int) (deep : Int) 0) (hB : Below w0.heap.size w0 w) :
  Calls Tryz.prog 29 #[.pointer (some ⟨g, 0, none⟩)] w (pieceQ w0 w g s (deep : Int) (pieceS (n + 1) ((B s).drop a) a deep)) := by
 obtain ⟨R, hR⟩ : ∃ R : Res DT, R = pieceS (n + 1) ((B s).drop a) a deep := ⟨_, rfl⟩
 rw [← hR]
 have HRR := Aside0.mk (hR.trans (pieceS_quo n s a deep hl hc))
 have HG := Aside0.mk hgl
 have hgw : g < w.heap.size := blk_lt hI.1
 have hg0 : w0.heap.size ≤ g := hI.2
 have hww : w0.heap.size ≤ w.heap.size := hB.size
 have HI1 := Aside0.mk (hI.alloc (.cells zCells 25))
 have HB1 := Aside0.mk (below_alloc hB (.cells zCells 25))
 have HK1 := Aside0.mk (KeepBut.of_below (below_alloc (Below.refl _ w) (.cells zCells 25)) g none)
 have HR1 := Aside0.mk (heap_alloc_new w (.cells zCells 25))
 clear hR hgl hI hB
 go_enter Tryz.func29, Tryz.ntmps29
 go_upto_region 1 with fail
 generalize hW : w.alloc (.cells zCells 25) = W1 at HI1 HB1 HK1 HR1 ⊢
 clear hW
 have q1 : W1.cell? ⟨g, 1, none⟩ = some (.int .i64 (a : Int)) := (blk_cell HI1.out.1 1).trans rfl
 have ta_word := ta_quote_word
 have ta_digits := ta_quote_digits
 have ta_quote := ta_quote_quote
 have ta_open := ta_quote_open
 have HNX := Aside0.mk (dn_quo s hs a ha hl hc (deep : Int) 0 g w0 W1 HI1.out HB1.out)
 clear hc
 go_upto_region 17 with (go_at_call 52; go_loud (with_reducible refine HNX.out.mono ?_); rintro e w3 ⟨rfl, hi, hb, hk⟩; have HI3 := Aside0.mk hi; have HB3 := Aside0.mk hb; have HK3 := Aside0.mk (HK1.out.trans hk (.inl rfl)); have HR3 := Aside0.mk (hk.blk HR1.out (by omega) (by simp)); have hy := Lib.cell_of_heap HR3.out; have hz := Lib.frozen_of_heap HR3.out; clear hi hb hk)
 have HI5 := Aside0.mk (HI3.out.alloc (.cells #[] 93))
 have HB5 := Aside0.mk (below_alloc HB3.out (.cells #[] 93))
 have HK5 := Aside0.mk (HK3.out.trans (KeepBut.of_below (below_alloc (Below.refl _ w3) (.cells #[] 93)) g none) (.inl rfl))
 have HR5 := Aside0.mk (((below_alloc (Below.refl _ w3) (.cells #[] 93)).block _ (blk_lt HR3.out)).trans HR3.out)
 generalize hW : w3.alloc (.cells #[] 93) = W5 at HI5 HB5 HK5 HR5 ⊢
 clear hW hy hz
 have HX := Aside0.mk (qtext_c s hs (a + 1) (by omega) (deep : Int) g w0 W5 HG.out HI5.out HB5.out)
 go_wp2_with (go_at_call 55; go_loud (with_reducible refine HX.out.mono ?_); rintro e w6 ⟨hb, hk, x, v3, v4, rfl, hm, hst⟩; obtain ⟨A3, c3, A4, c4, rfl, rfl⟩ := made_slices hm; have HB9 := Aside0.mk hb; have HK9 := Aside0.mk (HK5.out.trans hk (.inl rfl)); have HR9 := Aside0.mk (hk.blk HR5.out (by omega) (by simp)); have hy := Lib.cell_of_heap HR9.out; have hz := Lib.frozen_of_heap HR9.out; have HM9 := Aside0.mk (made_of hm (Nat.le_of_lt (blk_lt HR5.out))); have HS9 := Aside0.mk hst; have HW9 := Aside0.mk (blk_lt HR5.out); clear hb hk hm hst)
 refine bodyPost_ret (results_cell_row rfl _ _ w.heap.size 25 _ (0, 0) _ rfl (set_blk (j := 4) (set_blk (j := 3) (set_blk (j := 2) (set_blk (j := 1) (set_blk (j := 0) HR9.out _) _) _) _) _) Tryz.underlying25 rfl (by kernel_rfl)) rfl ?_
 exact finQ HB9.out hww HK9.out hgw HM9.out (fun k hk => by have := HW9.out; omega) (by rw [HRR.out]; exact HS9.out)
set_option maxHeartbeats 4000000 in
theorem qp_list16 (s : ByteArray) (hs : s.size ≤ 1000000000) (a deep : Nat) (ha : a ≤ s.size) (hd : deep ≤ 16) (n : Nat) (hl : a < s.size) (hc : (B s)[a]'(at_lt hl) = 91) (h16 : deep = 16) (g : Nat) (w0 w : World) (hgl : GL w0) (hI : IsS61 w0 w g s (a : Int) (deep : Int) 0) (hB : Below w0.heap.size w0 w) :
  Calls Tryz.prog 29 #[.pointer (some ⟨g, 0, none⟩)] w (pieceQ w0 w g s (deep : Int) (pieceS (n + 1) ((B s).drop a) a deep)) := by
 obtain ⟨R, hR⟩ : ∃ R : Res DT, R = pieceS (n + 1) ((B s).drop a) a deep := ⟨_, rfl⟩
 rw [← hR]
 have HRR := Aside0.mk (hR.trans ((pieceS_open n s a deep hl false (by rw [hc]; rfl)).trans (if_pos (by omega))))
 have HG := Aside0.mk hgl
 have hgw : g < w.heap.size := blk_lt hI.1
 have hg0 : w0.heap.size ≤ g := hI.2
 have hww : w0.heap.size ≤ w.heap.size := hB.size
 have HI1 := Aside0.mk (hI.alloc (.cells zCells 25))
 have HB1 := Aside0.mk (below_alloc hB (.cells zCells 25))
 have HK1 := Aside0.mk (KeepBut.of_below (below_alloc (Below.refl _ w) (.cells zCells 25)) g none)
 have HR1 := Aside0.mk (heap_alloc_new w (.cells zCells 25))
 clear hR hgl hI hB
 go_enter Tryz.func29, Tryz.ntmps29
 go_upto_region 1 with fail
 generalize hW : w.alloc (.cells zCells 25) = W1 at HI1 HB1 HK1 HR1 ⊢
 clear hW
 have q1 : W1.cell? ⟨g, 1, none⟩ = some (.int .i64 (a : Int)) := (blk_cell HI1.out.1 1).trans rfl
 have ta_word := ta_open_word
 have ta_digits := ta_open_digits
 have ta_quote := ta_open_quote
 have ta_open := ta_open_open
 subst h16
 have HNX := Aside0.mk (dn_list s hs a ha hl hc ((16 : Nat) : Int) 0 g w0 W1 HI1.out HB1.out)
 rw [show ((16 : Nat) : Int) = 16 from rfl] at HNX
 clear hc
 have HF : Aside0 (∀ W, IsS61 w0 W g s ((a + 1 : Nat) : Int) 17 0 → Below w0.heap.size w0 W → Calls Tryz.prog 30 #[.pointer (some ⟨g, 0, none⟩), .int .i64 (a : Int), .int .i64 11] W fun e w' => e = .returned (.tuple #[]) ∧ IsS61 w0 w' g s (a : Int) 17 11 ∧ Below w0.heap.size w0 w' ∧ KeepBut W w' g none) := ⟨fun W h hb => datum_reader_fail.calls g s _ _ 0 (a : Int) 11 _ _ _ _ w0 W HG.out h hb (dfail_0 s _ _ _ 11)⟩
 go_wp2_with (first | (go_at_call 52; go_loud (with_reducible refine HNX.out.mono ?_); rintro e w3 ⟨rfl, hi, hb, hk⟩; have HI3 := Aside0.mk hi; have HB3 := Aside0.mk hb; have HK3 := Aside0.mk (HK1.out.trans hk (.inl rfl)); have HR3 := Aside0.mk (hk.blk HR1.out (by omega) (by simp)); have hy := Lib.cell_of_heap HR3.out; have hz := Lib.frozen_of_heap HR3.out; have q32 := (blk_cell HI3.out.1 2).trans (show _ = some (.int .i64 16) from rfl); have f32 := blk_frozen HI3.out.1 2; have HI5 := Aside0.mk (HI3.out.set_2 17); have HB5 := Aside0.mk (HB3.out.setCell (p := ⟨g, 2, none⟩) hg0 (.int .i64 17)); have HK5 := Aside0.mk (HK3.out.set_ 2 (.int .i64 17)); have HR5 := Aside0.mk (blk_far HR3.out (p := ⟨g, 2, none⟩) (by show w.heap.size ≠ g; omega) (.int .i64 17)); clear hi hb hk) | (go_at_call 30; go_loud (with_reducible refine (HF.out _ HI5.out HB5.out).mono ?_); rintro e w6 ⟨rfl, hi, hb, hk⟩; have HI9 := Aside0.mk hi; have HB9 := Aside0.mk hb; have HK9 := Aside0.mk (HK5.out.trans hk (.inl rfl)); have HR9 := Aside0.mk (hk.blk HR5.out (by omega) (by simp)); have hy := Lib.cell_of_heap HR9.out; have hz := Lib.frozen_of_heap HR9.out; clear hi hb hk))
 refine bodyPost_ret (results_cell_row rfl _ _ w.heap.size 25 _ (0, 0) _ rfl (set_blk (j := 4) (set_blk (j := 3) (set_blk (j := 2) (set_blk (j := 1) (set_blk (j := 0) HR9.out _) _) _) _) _) Tryz.underlying25 rfl (by kernel_rfl)) rfl ?_
 refine finQ (x := ⟨0, 0, em, [], []⟩) (v3 := .slice none 0 0) (v4 := .slice none 0 0) (ok := fun k => w.heap.size < k) HB9.out hww HK9.out hgw (k25_mkM _ w.heap.size _ ⟨0, 0, em, [], []⟩ (Kd.R_nil _ _ _ _ _) (Kd.R_nil _ _ _ _ _)) (fun k hk => by omega) ?_
 rw [HRR.out]
 exact ⟨_, HI9.out⟩
set_option maxHeartbeats 4000000 in
theorem qp_list (s : ByteArray) (hs : s.size ≤ 1000000000) (a deep : Nat) (ha : a ≤ s.size) (hd : deep ≤ 16) (n : Nat) (hl : a < s.size) (hc : (B s)[a]'(at_lt hl) = 91) (h16 : deep < 16) (hf : 3 * (s.size - a) ≤ n) (ih : ∀ k, k < n → PieceQ s k) (g : Nat) (w0 w : World) (hgl : GL w0) (hI : IsS61 w0 w g s (a : Int) (deep : Int) 0) (hB : Below w0.heap.size w0 w) :
  Calls Tryz.prog 29 #[.pointer (some ⟨g, 0, none⟩)] w (pieceQ w0 w g s (deep : Int) (pieceS (n + 1) ((B s).drop a) a deep)) := by
 obtain ⟨R, hR⟩ : ∃ R : Res DT, R = pieceS (n + 1) ((B s).drop a) a deep := ⟨_, rfl⟩
 rw [← hR]
 have HRR := Aside0.mk (hR.trans ((pieceS_open n s a deep hl false (by rw [hc]; rfl)).trans (if_neg (by omega))))
 have HG := Aside0.mk hgl
 have hgw : g < w.heap.size := blk_lt hI.1
 have hg0 : w0.heap.size ≤ g := hI.2
 have hww : w0.heap.size ≤ w.heap.size := hB.size
 have HI1 := Aside0.mk (hI.alloc (.cells zCells 25))
 have HB1 := Aside0.mk (below_alloc hB (.cells zCells 25))
 have HK1 := Aside0.mk (KeepBut.of_below (below_alloc (Below.refl _ w) (.cells zCells 25)) g none)
 have HR1 := Aside0.mk (heap_alloc_new w (.cells zCells 25))
 clear hR hgl hI hB
 go_enter Tryz.func29, Tryz.ntmps29
 go_upto_region 1 with fail
 generalize hW : w.alloc (.cells zCells 25) = W1 at HI1 HB1 HK1 HR1 ⊢
 clear hW
 have q1 : W1.cell? ⟨g, 1, none⟩ = some (.int .i64 (a : Int)) := (blk_cell HI1.out.1 1).trans rfl
 have ta_word := ta_open_word
 have ta_digits := ta_open_digits
 have ta_quote := ta_open_quote
 have ta_open := ta_open_open
 have HNX := Aside0.mk (dn_list s hs a ha hl hc (deep : Int) 0 g w0 W1 HI1.out HB1.out)
 have HX : Aside0 (∀ W, IsS61 w0 W g s ((a + 1 : Nat) : Int) ((deep : Int) + 1) 0 → Below w0.heap.size w0 W → Calls Tryz.prog 56 #[.pointer (some ⟨g, 0, none⟩), .bool false] W (pieceQ w0 W g s ((deep + 1 : Nat) : Int) (allS n s (a + 1) deep false))) := ⟨fun W h hb => qall_list s hs (a + 1) (by omega) deep h16 n (by omega) ih g w0 W HG.out (by rw [show ((deep + 1 : Nat) : Int) = (deep : Int) + 1 by omega]; exact h) hb⟩
 obtain ⟨R1, hR1⟩ : ∃ R1 : Res DT, R1 = allS n s (a + 1) deep false := ⟨_, rfl⟩
 rw [← hR1] at HX HRR
 clear hc ih hR1
 go_upto_region 24 with (go_at_call 52; go_loud (with_reducible refine HNX.out.mono ?_); rintro e w3 ⟨rfl, hi, hb, hk⟩; have HI3 := Aside0.mk hi; have HB3 := Aside0.mk hb; have HK3 := Aside0.mk (HK1.out.trans hk (.inl rfl)); have HR3 := Aside0.mk (hk.blk HR1.out (by omega) (by simp)); have hy := Lib.cell_of_heap HR3.out; have hz := Lib.frozen_of_heap HR3.out; have q32 := (blk_cell HI3.out.1 2).trans (show _ = some (.int .i64 (deep : Int)) from rfl); have f32 := blk_frozen HI3.out.1 2; have HI5 := Aside0.mk (HI3.out.set_2 ((deep : Int) + 1)); have HB5 := Aside0.mk (HB3.out.setCell (p := ⟨g, 2, none⟩) hg0 (.int .i64 ((deep : Int) + 1))); have HK5 := Aside0.mk (HK3.out.set_ 2 (.int .i64 ((deep : Int) + 1))); have HR5 := Aside0.mk (blk_far HR3.out (p := ⟨g, 2, none⟩) (by show w.heap.size ≠ g; omega) (.int .i64 ((deep : Int) + 1))); clear hi hb hk)
 go_upto_region 25 with (go_at_call 56; go_loud (with_reducible refine (HX.out _ HI5.out HB5.out).mono ?_); rintro e w6 ⟨hb, hk, x, v3, v4, rfl, hm, hst⟩; obtain ⟨A3, c3, A4, c4, rfl, rfl⟩ := made_slices hm; have HB9 := Aside0.mk hb; have HK9 := Aside0.mk (HK5.out.trans hk (.inl rfl)); have HR9 := Aside0.mk (hk.blk HR5.out (by omega) (by simp)); have hy := Lib.cell_of_heap HR9.out; have hz := Lib.frozen_of_heap HR9.out; have HM9 := Aside0.mk (made_of hm (Nat.le_of_lt (blk_lt HR5.out))); have HS9 := Aside0.mk hst; have HW9 := Aside0.mk (blk_lt HR5.out); clear hb hk hm hst)
 have hw6 : w.heap.size < w6.heap.size := blk_lt HR9.out
 have HB7 := Aside0.mk (below_alloc HB9.out (.cells #[.int .i64 x.f0, .int .i64 x.f1, .string x.f2, .slice A3 x.f3.length c3, .slice A4 x.f4.length c4] 25))
 have HK7 := Aside0.mk (HK9.out.trans (KeepBut.of_below (below_alloc (Below.refl _ w6) (.cells #[.int .i64 x.f0, .int .i64 x.f1, .string x.f2, .slice A3 x.f3.length c3, .slice A4 x.f4.length c4] 25)) g none) (.inl rfl))
 have HR7 := Aside0.mk (((below_alloc (Below.refl _ w6) (.cells #[.int .i64 x.f0, .int .i64 x.f1, .string x.f2, .slice A3 x.f3.length c3, .slice A4 x.f4.length c4] 25)).block _ (blk_lt HR9.out)).trans HR9.out)
 have HM7 := Aside0.mk (Kd.M_below HM9.out (below_alloc (Below.refl _ w6) (.cells #[.int .i64 x.f0, .int .i64 x.f1, .string x.f2, .slice A3 x.f3.length c3, .slice A4 x.f4.length c4] 25)))
 have HD7 := Aside0.mk (heap_alloc_new w6 (.cells #[.int .i64 x.f0, .int .i64 x.f1, .string x.f2, .slice A3 x.f3.length c3, .slice A4 x.f4.length c4] 25))
 have HZ7 := Aside0.mk (below_alloc (Below.refl _ w6) (.cells #[.int .i64 x.f0, .int .i64 x.f1, .string x.f2, .slice A3 x.f3.length c3, .slice A4 x.f4.length c4] 25))
 generalize hW : w6.alloc (.cells #[.int .i64 x.f0, .int .i64 x.f1, .string x.f2, .slice A3 x.f3.length c3, .slice A4 x.f4.length c4] 25) = W7 at HB7 HK7 HR7 HM7 HD7 HZ7 ⊢
 clear hW hy hz
 cases R1 with
 | err p c =>
  obtain ⟨op', hi⟩ := HS9.out
  have HI7 := Aside0.mk (hi.below HZ7.out)
  clear hi HS9
  have q2 := (blk_cell HI7.out.1 2).trans rfl
  have f2 := blk_frozen HI7.out.1 2
  have HI8 := Aside0.mk (HI7.out.set_2 (wrap64 (op' - 1)))
  have HB8 := Aside0.mk (HB7.out.setCell (p := ⟨g, 2, none⟩) hg0 (.int .i64 (wrap64 (op' - 1))))
  have HK8 := Aside0.mk (HK7.out.set_ 2 (.int .i64 (wrap64 (op' - 1))))
  have HR8 := Aside0.mk (blk_far HR7.out (p := ⟨g, 2, none⟩) (by show w.heap.size ≠ g; omega) (.int .i64 (wrap64 (op' - 1))))
  have HD8 := Aside0.mk (blk_far HD7.out (p := ⟨g, 2, none⟩) (by show w6.heap.size ≠ g; omega) (.int .i64 (wrap64 (op' - 1))))
  have HM8 := Aside0.mk (Kd.M_far HM7.out (p := ⟨g, 2, none⟩) (fun k hk => by have := HW9.out; show k ≠ g; omega) (.int .i64 (wrap64 (op' - 1))))
  have d0 := (blk_cell HD8.out 0).trans rfl
  have d1 := (blk_cell HD8.out 1).trans rfl
  have d2 := (blk_cell HD8.out 2).trans rfl
  have d3 := (blk_cell HD8.out 3).trans rfl
  have d4 := (blk_cell HD8.out 4).trans rfl
  have hy := Lib.cell_of_heap HR8.out
  have hz := Lib.frozen_of_heap HR8.out
  go_wp2_with fail
  refine bodyPost_ret (results_cell_row rfl _ _ w.heap.size 25 _ (0, 0) _ rfl (set_blk (j := 4) (set_blk (j := 3) (set_blk (j := 2) (set_blk (j := 1) (set_blk (j := 0) HR8.out _) _) _) _) _) Tryz.underlying25 rfl (by kernel_rfl)) rfl ?_
  exact finQ (x := x) HB8.out hww HK8.out hgw HM8.out (fun k hk => by have := HW9.out; omega) (by rw [HRR.out]; exact ⟨_, HI8.out⟩)
 | ok d a2 r =>
  obtain ⟨rfl, hi⟩ := HS9.out
  have HI7 := Aside0.mk (hi.below HZ7.out)
  rw [show ((deep + 1 : Nat) : Int) = (deep : Int) + 1 by omega] at HI7
  clear hi HS9
  have q2 := (blk_cell HI7.out.1 2).trans rfl
  have f2 := blk_frozen HI7.out.1 2
  have HI8 := Aside0.mk (HI7.out.set_2 (deep : Int))
  have HB8 := Aside0.mk (HB7.out.setCell (p := ⟨g, 2, none⟩) hg0 (.int .i64 (deep : Int)))
  have HK8 := Aside0.mk (HK7.out.set_ 2 (.int .i64 (deep : Int)))
  have HR8 := Aside0.mk (blk_far HR7.out (p := ⟨g, 2, none⟩) (by show w.heap.size ≠ g; omega) (.int .i64 (deep : Int)))
  have HD8 := Aside0.mk (blk_far HD7.out (p := ⟨g, 2, none⟩) (by show w6.heap.size ≠ g; omega) (.int .i64 (deep : Int)))
  have HM8 := Aside0.mk (Kd.M_far HM7.out (p := ⟨g, 2, none⟩) (fun k hk => by have := HW9.out; show k ≠ g; omega) (.int .i64 (deep : Int)))
  have d0 := (blk_cell HD8.out 0).trans rfl
  have d1 := (blk_cell HD8.out 1).trans rfl
  have d2 := (blk_cell HD8.out 2).trans rfl
  have d3 := (blk_cell HD8.out 3).trans rfl
  have d4 := (blk_cell HD8.out 4).trans rfl
  have hy := Lib.cell_of_heap HR8.out
  have hz := Lib.frozen_of_heap HR8.out
  go_wp2_with fail
  refine bodyPost_ret (results_cell_row rfl _ _ w.heap.size 25 _ (0, 0) _ rfl (set_blk (j := 4) (set_blk (j := 3) (set_blk (j := 2) (set_blk (j := 1) (set_blk (j := 0) HR8.out _) _) _) _) _) Tryz.underlying25 rfl (by kernel_rfl)) rfl ?_
  exact finQ (x := x) HB8.out hww HK8.out hgw HM8.out (fun k hk => by have := HW9.out; omega) (by rw [HRR.out]; exact ⟨rfl, HI8.out⟩)
set_option maxHeartbeats 4000000 in
theorem qp_rec16 (s : ByteArray) (hs : s.size ≤ 1000000000) (a deep : Nat) (ha : a ≤ s.size) (hd : deep ≤ 16) (n : Nat) (hl : a < s.size) (hc : (B s)[a]'(at_lt hl) = 123) (h16 : deep = 16) (g : Nat) (w0 w : World) (hgl : GL w0) (hI : IsS61 w0 w g s (a : Int) (deep : Int) 0) (hB : Below w0.heap.size w0 w) :
  Calls Tryz.prog 29 #[.pointer (some ⟨g, 0, none⟩)] w (pieceQ w0 w g s (deep : Int) (pieceS (n + 1) ((B s).drop a) a deep)) := by
 obtain ⟨R, hR⟩ : ∃ R : Res DT, R = pieceS (n + 1) ((B s).drop a) a deep := ⟨_, rfl⟩
 rw [← hR]
 have HRR := Aside0.mk (hR.trans ((pieceS_open n s a deep hl true (by rw [hc]; rfl)).trans (if_pos (by omega))))
 have HG := Aside0.mk hgl
 have hgw : g < w.heap.size := blk_lt hI.1
 have hg0 : w0.heap.size ≤ g := hI.2
 have hww : w0.heap.size ≤ w.heap.size := hB.size
 have HI1 := Aside0.mk (hI.alloc (.cells zCells 25))
 have HB1 := Aside0.mk (below_alloc hB (.cells zCells 25))
 have HK1 := Aside0.mk (KeepBut.of_below (below_alloc (Below.refl _ w) (.cells zCells 25)) g none)
 have HR1 := Aside0.mk (heap_alloc_new w (.cells zCells 25))
 clear hR hgl hI hB
 go_enter Tryz.func29, Tryz.ntmps29
 go_upto_region 1 with fail
 generalize hW : w.alloc (.cells zCells 25) = W1 at HI1 HB1 HK1 HR1 ⊢
 clear hW
 have q1 : W1.cell? ⟨g, 1, none⟩ = some (.int .i64 (a : Int)) := (blk_cell HI1.out.1 1).trans rfl
 have ta_word := ta_open_word
 have ta_digits := ta_open_digits
 have ta_quote := ta_open_quote
 have ta_open := ta_open_open
 subst h16
 have HNX := Aside0.mk (dn_rec s hs a ha hl hc ((16 : Nat) : Int) 0 g w0 W1 HI1.out HB1.out)
 rw [show ((16 : Nat) : Int) = 16 from rfl] at HNX
 clear hc
 have HF : Aside0 (∀ W, IsS61 w0 W g s ((a + 1 : Nat) : Int) 17 0 → Below w0.heap.size w0 W → Calls Tryz.prog 30 #[.pointer (some ⟨g, 0, none⟩), .int .i64 (a : Int), .int .i64 11] W fun e w' => e = .returned (.tuple #[]) ∧ IsS61 w0 w' g s (a : Int) 17 11 ∧ Below w0.heap.size w0 w' ∧ KeepBut W w' g none) := ⟨fun W h hb => datum_reader_fail.calls g s _ _ 0 (a : Int) 11 _ _ _ _ w0 W HG.out h hb (dfail_0 s _ _ _ 11)⟩
 go_wp2_with (first | (go_at_call 52; go_loud (with_reducible refine HNX.out.mono ?_); rintro e w3 ⟨rfl, hi, hb, hk⟩; have HI3 := Aside0.mk hi; have HB3 := Aside0.mk hb; have HK3 := Aside0.mk (HK1.out.trans hk (.inl rfl)); have HR3 := Aside0.mk (hk.blk HR1.out (by omega) (by simp)); have hy := Lib.cell_of_heap HR3.out; have hz := Lib.frozen_of_heap HR3.out; have q32 := (blk_cell HI3.out.1 2).trans (show _ = some (.int .i64 16) from rfl); have f32 := blk_frozen HI3.out.1 2; have HI5 := Aside0.mk (HI3.out.set_2 17); have HB5 := Aside0.mk (HB3.out.setCell (p := ⟨g, 2, none⟩) hg0 (.int .i64 17)); have HK5 := Aside0.mk (HK3.out.set_ 2 (.int .i64 17)); have HR5 := Aside0.mk (blk_far HR3.out (p := ⟨g, 2, none⟩) (by show w.heap.size ≠ g; omega) (.int .i64 17)); clear hi hb hk) | (go_at_call 30; go_loud (with_reducible refine (HF.out _ HI5.out HB5.out).mono ?_); rintro e w6 ⟨rfl, hi, hb, hk⟩; have HI9 := Aside0.mk hi; have HB9 := Aside0.mk hb; have HK9 := Aside0.mk (HK5.out.trans hk (.inl rfl)); have HR9 := Aside0.mk (hk.blk HR5.out (by omega) (by simp)); have hy := Lib.cell_of_heap HR9.out; have hz := Lib.frozen_of_heap HR9.out; clear hi hb hk))
 refine bodyPost_ret (results_cell_row rfl _ _ w.heap.size 25 _ (0, 0) _ rfl (set_blk (j := 4) (set_blk (j := 3) (set_blk (j := 2) (set_blk (j := 1) (set_blk (j := 0) HR9.out _) _) _) _) _) Tryz.underlying25 rfl (by kernel_rfl)) rfl ?_
 refine finQ (x := ⟨0, 0, em, [], []⟩) (v3 := .slice none 0 0) (v4 := .slice none 0 0) (ok := fun k => w.heap.size < k) HB9.out hww HK9.out hgw (k25_mkM _ w.heap.size _ ⟨0, 0, em, [], []⟩ (Kd.R_nil _ _ _ _ _) (Kd.R_nil _ _ _ _ _)) (fun k hk => by omega) ?_
 rw [HRR.out]
 exact ⟨_, HI9.out⟩
set_option maxHeartbeats 4000000 in
theorem qp_rec (s : ByteArray) (hs : s.size ≤ 1000000000) (a deep : Nat) (ha : a ≤ s.size) (hd : deep ≤ 16) (n : Nat) (hl : a < s.size) (hc : (B s)[a]'(at_lt hl) = 123) (h16 : deep < 16) (hf : 3 * (s.size - a) ≤ n) (ih : ∀ k, k < n → PieceQ s k) (g : Nat) (w0 w : World) (hgl : GL w0) (hI : IsS61 w0 w g s (a : Int) (deep : Int) 0) (hB : Below w0.heap.size w0 w) :
  Calls Tryz.prog 29 #[.pointer (some ⟨g, 0, none⟩)] w (pieceQ w0 w g s (deep : Int) (pieceS (n + 1) ((B s).drop a) a deep)) := by
 obtain ⟨R, hR⟩ : ∃ R : Res DT, R = pieceS (n + 1) ((B s).drop a) a deep := ⟨_, rfl⟩
 rw [← hR]
 have HRR := Aside0.mk (hR.trans ((pieceS_open n s a deep hl true (by rw [hc]; rfl)).trans (if_neg (by omega))))
 have HG := Aside0.mk hgl
 have hgw : g < w.heap.size := blk_lt hI.1
 have hg0 : w0.heap.size ≤ g := hI.2
 have hww : w0.heap.size ≤ w.heap.size := hB.size
 have HI1 := Aside0.mk (hI.alloc (.cells zCells 25))
 have HB1 := Aside0.mk (below_alloc hB (.cells zCells 25))
 have HK1 := Aside0.mk (KeepBut.of_below (below_alloc (Below.refl _ w) (.cells zCells 25)) g none)
 have HR1 := Aside0.mk (heap_alloc_new w (.cells zCells 25))
 clear hR hgl hI hB
 go_enter Tryz.func29, Tryz.ntmps29
 go_upto_region 1 with fail
 generalize hW : w.alloc (.cells zCells 25) = W1 at HI1 HB1 HK1 HR1 ⊢
 clear hW
 have q1 : W1.cell? ⟨g, 1, none⟩ = some (.int .i64 (a : Int)) := (blk_cell HI1.out.1 1).trans rfl
 have ta_word := ta_open_word
 have ta_digits := ta_open_digits
 have ta_quote := ta_open_quote
 have ta_open := ta_open_open
 have HNX := Aside0.mk (dn_rec s hs a ha hl hc (deep : Int) 0 g w0 W1 HI1.out HB1.out)
 have HX : Aside0 (∀ W, IsS61 w0 W g s ((a + 1 : Nat) : Int) ((deep : Int) + 1) 0 → Below w0.heap.size w0 W → Calls Tryz.prog 56 #[.pointer (some ⟨g, 0, none⟩), .bool true] W (pieceQ w0 W g s ((deep + 1 : Nat) : Int) (allS n s (a + 1) deep true))) := ⟨fun W h hb => qall_rec s hs (a + 1) (by omega) deep h16 n (by omega) ih g w0 W HG.out (by rw [show ((deep + 1 : Nat) : Int) = (deep : Int) + 1 by omega]; exact h) hb⟩
 obtain ⟨R1, hR1⟩ : ∃ R1 : Res DT, R1 = allS n s (a + 1) deep true := ⟨_, rfl⟩
 rw [← hR1] at HX HRR
 clear hc ih hR1
 go_upto_region 24 with (go_at_call 52; go_loud (with_reducible refine HNX.out.mono ?_); rintro e w3 ⟨rfl, hi, hb, hk⟩; have HI3 := Aside0.mk hi; have HB3 := Aside0.mk hb; have HK3 := Aside0.mk (HK1.out.trans hk (.inl rfl)); have HR3 := Aside0.mk (hk.blk HR1.out (by omega) (by simp)); have hy := Lib.cell_of_heap HR3.out; have hz := Lib.frozen_of_heap HR3.out; have q32 := (blk_cell HI3.out.1 2).trans (show _ = some (.int .i64 (deep : Int)) from rfl); have f32 := blk_frozen HI3.out.1 2; have HI5 := Aside0.mk (HI3.out.set_2 ((deep : Int) + 1)); have HB5 := Aside0.mk (HB3.out.setCell (p := ⟨g, 2, none⟩) hg0 (.int .i64 ((deep : Int) + 1))); have HK5 := Aside0.mk (HK3.out.set_ 2 (.int .i64 ((deep : Int) + 1))); have HR5 := Aside0.mk (blk_far HR3.out (p := ⟨g, 2, none⟩) (by show w.heap.size ≠ g; omega) (.int .i64 ((deep : Int) + 1))); clear hi hb hk)
 go_upto_region 25 with (go_at_call 56; go_loud (with_reducible refine (HX.out _ HI5.out HB5.out).mono ?_); rintro e w6 ⟨hb, hk, x, v3, v4, rfl, hm, hst⟩; obtain ⟨A3, c3, A4, c4, rfl, rfl⟩ := made_slices hm; have HB9 := Aside0.mk hb; have HK9 := Aside0.mk (HK5.out.trans hk (.inl rfl)); have HR9 := Aside0.mk (hk.blk HR5.out (by omega) (by simp)); have hy := Lib.cell_of_heap HR9.out; have hz := Lib.frozen_of_heap HR9.out; have HM9 := Aside0.mk (made_of hm (Nat.le_of_lt (blk_lt HR5.out))); have HS9 := Aside0.mk hst; have HW9 := Aside0.mk (blk_lt HR5.out); clear hb hk hm hst)
 have hw6 : w.heap.size < w6.heap.size := blk_lt HR9.out
 have HB7 := Aside0.mk (below_alloc HB9.out (.cells #[.int .i64 x.f0, .int .i64 x.f1, .string x.f2, .slice A3 x.f3.length c3, .slice A4 x.f4.length c4] 25))
 have HK7 := Aside0.mk (HK9.out.trans (KeepBut.of_below (below_alloc (Below.refl _ w6) (.cells #[.int .i64 x.f0, .int .i64 x.f1, .string x.f2, .slice A3 x.f3.length c3, .slice A4 x.f4.length c4] 25)) g none) (.inl rfl))
 have HR7 := Aside0.mk (((below_alloc (Below.refl _ w6) (.cells #[.int .i64 x.f0, .int .i64 x.f1, .string x.f2, .slice A3 x.f3.length c3, .slice A4 x.f4.length c4] 25)).block _ (blk_lt HR9.out)).trans HR9.out)
 have HM7 := Aside0.mk (Kd.M_below HM9.out (below_alloc (Below.refl _ w6) (.cells #[.int .i64 x.f0, .int .i64 x.f1, .string x.f2, .slice A3 x.f3.length c3, .slice A4 x.f4.length c4] 25)))
 have HD7 := Aside0.mk (heap_alloc_new w6 (.cells #[.int .i64 x.f0, .int .i64 x.f1, .string x.f2, .slice A3 x.f3.length c3, .slice A4 x.f4.length c4] 25))
 have HZ7 := Aside0.mk (below_alloc (Below.refl _ w6) (.cells #[.int .i64 x.f0, .int .i64 x.f1, .string x.f2, .slice A3 x.f3.length c3, .slice A4 x.f4.length c4] 25))
 generalize hW : w6.alloc (.cells #[.int .i64 x.f0, .int .i64 x.f1, .string x.f2, .slice A3 x.f3.length c3, .slice A4 x.f4.length c4] 25) = W7 at HB7 HK7 HR7 HM7 HD7 HZ7 ⊢
 clear hW hy hz
 cases R1 with
 | err p c =>
  obtain ⟨op', hi⟩ := HS9.out
  have HI7 := Aside0.mk (hi.below HZ7.out)
  clear hi HS9
  have q2 := (blk_cell HI7.out.1 2).trans rfl
  have f2 := blk_frozen HI7.out.1 2
  have HI8 := Aside0.mk (HI7.out.set_2 (wrap64 (op' - 1)))
  have HB8 := Aside0.mk (HB7.out.setCell (p := ⟨g, 2, none⟩) hg0 (.int .i64 (wrap64 (op' - 1))))
  have HK8 := Aside0.mk (HK7.out.set_ 2 (.int .i64 (wrap64 (op' - 1))))
  have HR8 := Aside0.mk (blk_far HR7.out (p := ⟨g, 2, none⟩) (by show w.heap.size ≠ g; omega) (.int .i64 (wrap64 (op' - 1))))
  have HD8 := Aside0.mk (blk_far HD7.out (p := ⟨g, 2, none⟩) (by show w6.heap.size ≠ g; omega) (.int .i64 (wrap64 (op' - 1))))
  have HM8 := Aside0.mk (Kd.M_far HM7.out (p := ⟨g, 2, none⟩) (fun k hk => by have := HW9.out; show k ≠ g; omega) (.int .i64 (wrap64 (op' - 1))))
  have d0 := (blk_cell HD8.out 0).trans rfl
  have d1 := (blk_cell HD8.out 1).trans rfl
  have d2 := (blk_cell HD8.out 2).trans rfl
  have d3 := (blk_cell HD8.out 3).trans rfl
  have d4 := (blk_cell HD8.out 4).trans rfl
  have hy := Lib.cell_of_heap HR8.out
  have hz := Lib.frozen_of_heap HR8.out
  go_wp2_with fail
  refine bodyPost_ret (results_cell_row rfl _ _ w.heap.size 25 _ (0, 0) _ rfl (set_blk (j := 4) (set_blk (j := 3) (set_blk (j := 2) (set_blk (j := 1) (set_blk (j := 0) HR8.out _) _) _) _) _) Tryz.underlying25 rfl (by kernel_rfl)) rfl ?_
  exact finQ (x := x) HB8.out hww HK8.out hgw HM8.out (fun k hk => by have := HW9.out; omega) (by rw [HRR.out]; exact ⟨_, HI8.out⟩)
 | ok d a2 r =>
  obtain ⟨rfl, hi⟩ := HS9.out
  have HI7 := Aside0.mk (hi.below HZ7.out)
  rw [show ((deep + 1 : Nat) : Int) = (deep : Int) + 1 by omega] at HI7
  clear hi HS9
  have q2 := (blk_cell HI7.out.1 2).trans rfl
  have f2 := blk_frozen HI7.out.1 2
  have HI8 := Aside0.mk (HI7.out.set_2 (deep : Int))
  have HB8 := Aside0.mk (HB7.out.setCell (p := ⟨g, 2, none⟩) hg0 (.int .i64 (deep : Int)))
  have HK8 := Aside0.mk (HK7.out.set_ 2 (.int .i64 (deep : Int)))
  have HR8 := Aside0.mk (blk_far HR7.out (p := ⟨g, 2, none⟩) (by show w.heap.size ≠ g; omega) (.int .i64 (deep : Int)))
  have HD8 := Aside0.mk (blk_far HD7.out (p := ⟨g, 2, none⟩) (by show w6.heap.size ≠ g; omega) (.int .i64 (deep : Int)))
  have HM8 := Aside0.mk (Kd.M_far HM7.out (p := ⟨g, 2, none⟩) (fun k hk => by have := HW9.out; show k ≠ g; omega) (.int .i64 (deep : Int)))
  have d0 := (blk_cell HD8.out 0).trans rfl
  have d1 := (blk_cell HD8.out 1).trans rfl
  have d2 := (blk_cell HD8.out 2).trans rfl
  have d3 := (blk_cell HD8.out 3).trans rfl
  have d4 := (blk_cell HD8.out 4).trans rfl
  have hy := Lib.cell_of_heap HR8.out
  have hz := Lib.frozen_of_heap HR8.out
  go_wp2_with fail
  refine bodyPost_ret (results_cell_row rfl _ _ w.heap.size 25 _ (0, 0) _ rfl (set_blk (j := 4) (set_blk (j := 3) (set_blk (j := 2) (set_blk (j := 1) (set_blk (j := 0) HR8.out _) _) _) _) _) Tryz.underlying25 rfl (by kernel_rfl)) rfl ?_
  exact finQ (x := x) HB8.out hww HK8.out hgw HM8.out (fun k hk => by have := HW9.out; omega) (by rw [HRR.out]; exact ⟨rfl, HI8.out⟩)
/-- The reader's piece. -/
theorem qpiece_c (s : ByteArray) (hs : s.size ≤ 1000000000) (n : Nat) : PieceQ s n := by
 induction n using Nat.strongRecOn with
 | _ n ih =>
  intro a deep ha hd hf g w0 w hgl hI hB
  obtain ⟨n, rfl⟩ : ∃ k, n = k + 1 := ⟨n - 1, by omega⟩
  by_cases hl : a < s.size
  rotate_left
  ·exact qp_end s hs a deep ha hd n (by omega) g w0 w hgl hI hB
  obtain ⟨c, hc⟩ : ∃ c, (B s)[a]'(at_lt hl) = c := ⟨_, rfl⟩
  by_cases h0 : isLet c = true
  ·exact qp_word s hs a deep ha hd n c hl hc h0 g w0 w hgl hI hB
  have h0' : isLet c = false := by simpa using h0
  by_cases h1 : isDig c = true
  ·exact qp_num s hs a deep ha hd n c hl hc h0' h1 g w0 w hgl hI hB
  have h1' : isDig c = false := by simpa using h1
  by_cases h34 : c = 34
  ·exact qp_quo s hs a deep ha hd n hl (by rw [hc, h34]) g w0 w hgl hI hB
  by_cases h91 : c = 91
  ·by_cases h16 : deep = 16
   ·exact qp_list16 s hs a deep ha hd n hl (by rw [hc, h91]) h16 g w0 w hgl hI hB
   ·exact qp_list s hs a deep ha hd n hl (by rw [hc, h91]) (by omega) (by omega) (fun k hk => ih k (by omega)) g w0 w hgl hI hB
  by_cases h123 : c = 123
  ·by_cases h16 : deep = 16
   ·exact qp_rec16 s hs a deep ha hd n hl (by rw [hc, h123]) h16 g w0 w hgl hI hB
   ·exact qp_rec s hs a deep ha hd n hl (by rw [hc, h123]) (by omega) (by omega) (fun k hk => ih k (by omega)) g w0 w hgl hI hB
  exact qp_bad s hs a deep ha hd n c hl hc h0' h1' h34 h91 h123 g w0 w hgl hI hB
end Go.Proofs.YtidcecpbihmloaaGreatDoorE

namespace Go.Proofs.YtidcecpbihmloaaGreatDoorE
open Go Go.RowKit Go.Proofs.YtidcecpbihmloaaGreatDoorW.PrintWords Go.Proofs.YtidcecpbihmloaaGreatDoorW.PrintMore Go.Proofs.YtidcecpbihmloaaGreatDoorW.PrintLast Go.Proofs.YtidcecpbihmloaaGreatDoorX Go.Proofs.YtidcecpbihmloaaGreatDoor.P16 Go.Proofs.YtidcecpbihmloaaGreatDoor.M02
set_option linter.unusedVariables false
set_option linter.unusedSimpArgs false
set_option maxRecDepth 100000
set_option maxHeartbeats 8000000 in
theorem qParse_c (s : ByteArray) (hs : s.size ≤ 1000000000) (w : World) (hgl : GL w) :
  Calls Tryz.prog 16 #[.string s] w (parseP w (parseS (B s))) := by
 have HG := Aside0.mk hgl
 have HI1 := Aside0.mk (IsS61.new w (w.alloc (.cells zCells 25)) s 0 0 0 (below_alloc (Below.refl _ _) _))
 have HB1 := Aside0.mk (below_alloc (below_alloc (Below.refl w.heap.size w) (.cells zCells 25)) (.cells #[.string s, .int .i64 0, .int .i64 0, .int .i64 0] 61))
 have HR1 := Aside0.mk (two_old_ w (.cells zCells 25) (.cells #[.string s, .int .i64 0, .int .i64 0, .int .i64 0] 61))
 rw [show (w.alloc (.cells zCells 25)).heap.size = w.heap.size + 1 by simp] at HI1
 have HP := Aside0.mk (qpiece_c s hs (3 * (B s).length + 1) 0 0 (Nat.zero_le _) (by omega) (by rw [B_len]; omega) (w.heap.size + 1) w _ hgl HI1.out HB1.out)
 rw [List.drop_zero, show ((0 : Nat) : Int) = 0 from rfl] at HP
 obtain ⟨R1, hR1⟩ : ∃ R1 : Res DT, R1 = pieceS (3 * (B s).length + 1) (B s) 0 0 := ⟨_, rfl⟩
 obtain ⟨PS, hPS⟩ : ∃ PS : DT × Nat × Int, PS = parseS (B s) := ⟨_, rfl⟩
 have HPS := Aside0.mk (hPS.trans (parseS_of (B s)))
 rw [← hPS]
 rw [← hR1] at HP HPS
 have HR := Aside0.mk hR1
 clear hPS hR1 hgl
 go_enter Tryz.func16, Tryz.ntmps16
 go_upto_region 3 with (go_at_call 29; go_loud (with_reducible refine HP.out.mono ?_); rintro e w3 ⟨hb, hk, x, v3, v4, rfl, hm, hst⟩; obtain ⟨A3, c3, A4, c4, rfl, rfl⟩ := made_slices hm; have HB3 := Aside0.mk hb; have HK3 := Aside0.mk hk; have HM3 := Aside0.mk hm; have HS3 := Aside0.mk hst; clear hb hk hm hst)
 have hsz3 : w.heap.size + 1 < w3.heap.size := by have h := HK3.out.1; simp at h; omega
 have HR4 := Aside0.mk (((below_alloc (Below.refl _ w3) (.cells #[.int .i64 x.f0, .int .i64 x.f1, .string x.f2, .slice A3 x.f3.length c3, .slice A4 x.f4.length c4] 25)).block w.heap.size (by omega)).trans (HK3.out.blk HR1.out (by omega) (by simp)))
 have HD4 := Aside0.mk (heap_alloc_new w3 (.cells #[.int .i64 x.f0, .int .i64 x.f1, .string x.f2, .slice A3 x.f3.length c3, .slice A4 x.f4.length c4] 25))
 have HB4 := Aside0.mk (below_alloc HB3.out (.cells #[.int .i64 x.f0, .int .i64 x.f1, .string x.f2, .slice A3 x.f3.length c3, .slice A4 x.f4.length c4] 25))
 have HM4 := Aside0.mk (Kd.M_below (made_of (b := w.heap.size + 1) HM3.out (by simp)) (below_alloc (Below.refl _ w3) (.cells #[.int .i64 x.f0, .int .i64 x.f1, .string x.f2, .slice A3 x.f3.length c3, .slice A4 x.f4.length c4] 25)))
 have HW4 := Aside0.mk (below_alloc (Below.refl _ w3) (.cells #[.int .i64 x.f0, .int .i64 x.f1, .string x.f2, .slice A3 x.f3.length c3, .slice A4 x.f4.length c4] 25))
 generalize hW : w3.alloc (.cells #[.int .i64 x.f0, .int .i64 x.f1, .string x.f2, .slice A3 x.f3.length c3, .slice A4 x.f4.length c4] 25) = W4 at HR4 HD4 HB4 HM4 HW4 ⊢
 clear hW HI1 HB1 HR1 HP HB3 HK3 HM3
 cases R1 with
 | err p c =>
  obtain ⟨op', hi⟩ := HS3.out
  have HI4 := Aside0.mk (hi.below HW4.out)
  have hc : c ≠ 0 := by rcases (err_code _).1 _ _ _ _ _ HR.out.symm with e | e <;> rw [e] <;> decide
  have hcb : (c != 0) = true := by simpa using hc
  have q1 : W4.cell? ⟨w.heap.size + 1, 1, none⟩ = some (.int .i64 (p : Int)) := (blk_cell HI4.out.1 1).trans rfl
  have HF : Aside0 (Calls Tryz.prog 30 #[.pointer (some ⟨w.heap.size + 1, 0, none⟩), .int .i64 (p : Int), .int .i64 2] W4 fun e w' => e = .returned (.tuple #[]) ∧ IsS61 w w' (w.heap.size + 1) s (p : Int) op' c ∧ Below w.heap.size w w' ∧ KeepBut W4 w' (w.heap.size + 1) none) := ⟨datum_reader_fail.calls (w.heap.size + 1) s (p : Int) op' c (p : Int) 2 _ _ _ _ w W4 HG.out HI4.out HB4.out (dfail_er s (p : Int) op' c _ _ hc)⟩
  clear hi hc HS3
  go_upto_if 18 with fail
  go_cut [] from 18 to 24 (fun wc => Aside0 (IsS61 w wc (w.heap.size + 1) s (p : Int) op' c ∧ Below w.heap.size w wc ∧ wc.heap[w.heap.size]? = some (.cells zCells 25 (0, 0))))
  case first =>
   by_cases hlt : p < s.size
   ·go_wp2_with (go_at_call 30; go_loud (with_reducible refine HF.out.mono ?_); rintro e w6 ⟨rfl, hi6, hb6, hk6⟩; have HI6 := Aside0.mk hi6; have HB6 := Aside0.mk hb6; have HR6 := Aside0.mk (hk6.blk HR4.out (by omega) (by simp)); clear hi6 hb6 hk6)
    go_meet
    exact ⟨HI6.out, HB6.out, HR6.out⟩
   ·have hlt2 : decide (p < s.size) = false := decide_eq_false hlt
    go_wp2_with fail
    go_meet
    exact ⟨HI4.out, HB4.out, HR4.out⟩
  have HI5 := Aside0.mk hcut.out.1
  have HB5 := Aside0.mk hcut.out.2.1
  have HR9 := Aside0.mk hcut.out.2.2
  clear hcut HI4 HB4 HR4 HD4 HM4 HW4 HF q1
  have q1 : wc.cell? ⟨w.heap.size + 1, 1, none⟩ = some (.int .i64 (p : Int)) := (blk_cell HI5.out.1 1).trans rfl
  have q3 : wc.cell? ⟨w.heap.size + 1, 3, none⟩ = some (.int .i64 c) := (blk_cell HI5.out.1 3).trans rfl
  have hy := Lib.cell_of_heap HR9.out
  have hz := Lib.frozen_of_heap HR9.out
  go_wp2_with fail
  go_region
  go_wp2_with fail
  refine bodyPost_ret (results_ctt rfl _ _ w.heap.size 25 _ (0, 0) _ rfl (drew_blk (set_blk (j := 4) (set_blk (j := 3) (set_blk (j := 2) (set_blk (j := 1) (set_blk (j := 0) HR9.out _) _) _) _) _)) Tryz.underlying25 rfl (by kernel_rfl)) rfl ?_
  rw [HPS.out]
  exact finPd (p := (zeroD, p, c)) (ok := fun k => w.heap.size < k) (base := w.heap.size) HB5.out (zeroM _ _ _) (fun k hk => by omega)
 | ok d a r =>
  obtain ⟨rfl, hi⟩ := HS3.out
  have hx := okD_piece (a := 0) (by omega) (show pieceS _ ((B s).drop 0) 0 0 = .ok x a r by rw [List.drop_zero]; exact HR.out.symm)
  obtain ⟨k, hk1, hk2, hk3⟩ := piece_at HR.out.symm
  rw [B_len] at hk1
  rw [Nat.zero_add] at hk2
  subst hk2
  have HI4 := Aside0.mk (hi.below HW4.out)
  have q1 : W4.cell? ⟨w.heap.size + 1, 1, none⟩ = some (.int .i64 (a : Int)) := (blk_cell HI4.out.1 1).trans rfl
  have HX := Aside0.mk hx
  have HK3 := Aside0.mk hk3
  clear hi hx HS3 hk3
  by_cases hlt : a < s.size
  ·have HF : Aside0 (Calls Tryz.prog 30 #[.pointer (some ⟨w.heap.size + 1, 0, none⟩), .int .i64 (a : Int), .int .i64 2] W4 fun e w' => e = .returned (.tuple #[]) ∧ IsS61 w w' (w.heap.size + 1) s (a : Int) 0 2 ∧ Below w.heap.size w w' ∧ KeepBut W4 w' (w.heap.size + 1) none) := ⟨datum_reader_fail.calls (w.heap.size + 1) s _ 0 0 (a : Int) 2 _ _ _ _ w W4 HG.out HI4.out HB4.out (dfail_0 s _ 0 _ 2)⟩
   have HV := Aside0.mk (show PS = (zeroD, a, 2) from HPS.out.trans (if_pos (by
    rw [HK3.out]
    intro e
    have := congrArg List.length e
    rw [List.length_drop, B_len, List.length_nil] at this
    omega)))
   go_wp2_with (go_at_call 30; go_loud (with_reducible refine HF.out.mono ?_); rintro e wc ⟨rfl, hi6, hb6, hk6⟩; have HI5 := Aside0.mk hi6; have HB5 := Aside0.mk hb6; have HR9 := Aside0.mk (hk6.blk HR4.out (by omega) (by simp)); have q1' : wc.cell? ⟨w.heap.size + 1, 1, none⟩ = some (.int .i64 (a : Int)) := (blk_cell HI5.out.1 1).trans rfl; have q3 : wc.cell? ⟨w.heap.size + 1, 3, none⟩ = some (.int .i64 2) := (blk_cell HI5.out.1 3).trans rfl; have hy := Lib.cell_of_heap HR9.out; have hz := Lib.frozen_of_heap HR9.out; clear hi6 hb6 hk6)
   go_region
   go_wp2_with fail
   refine bodyPost_ret (results_ctt rfl _ _ w.heap.size 25 _ (0, 0) _ rfl (drew_blk (set_blk (j := 4) (set_blk (j := 3) (set_blk (j := 2) (set_blk (j := 1) (set_blk (j := 0) HR9.out _) _) _) _) _)) Tryz.underlying25 rfl (by kernel_rfl)) rfl ?_
   rw [HV.out]
   exact finPd (p := (zeroD, a, 2)) (ok := fun k => w.heap.size < k) (base := w.heap.size) HB5.out (zeroM _ _ _) (fun k hk => by omega)
  ·have hv : PS = (if rightD x then (x, 0, 0) else (zeroD, 0, 24)) := HPS.out.trans (if_neg (by
    rw [HK3.out, List.drop_of_length_le (by rw [B_len]; omega)]
    exact fun h => h rfl))
   have q3 : W4.cell? ⟨w.heap.size + 1, 3, none⟩ = some (.int .i64 0) := (blk_cell HI4.out.1 3).trans rfl
   have d0 : W4.cell? ⟨w3.heap.size, 0, none⟩ = some (.int .i64 x.f0) := (blk_cell HD4.out 0).trans rfl
   have d1 : W4.cell? ⟨w3.heap.size, 1, none⟩ = some (.int .i64 x.f1) := (blk_cell HD4.out 1).trans rfl
   have d2 : W4.cell? ⟨w3.heap.size, 2, none⟩ = some (.string x.f2) := (blk_cell HD4.out 2).trans rfl
   have d3 : W4.cell? ⟨w3.heap.size, 3, none⟩ = some (.slice A3 x.f3.length c3) := (blk_cell HD4.out 3).trans rfl
   have d4 : W4.cell? ⟨w3.heap.size, 4, none⟩ = some (.slice A4 x.f4.length c4) := (blk_cell HD4.out 4).trans rfl
   obtain ⟨l3, g3, l4, g4⟩ := made_open HM4.out
   have HRT := Aside0.mk (Right_c x HX.out W4 (HG.out.below HB4.out) A3 c3 A4 c4 l3 g3 l4 g4)
   clear l3 g3 l4 g4
   have hlt2 : decide (a < s.size) = false := decide_eq_false hlt
   cases hr : rightD x with
   | true =>
    rw [hr] at HRT hv
    have HV := Aside0.mk (show PS = (x, 0, 0) from hv)
    clear hr hv
    go_wp2_with (go_at_call 15; go_loud (with_reducible refine HRT.out.mono ?_); rintro e wc ⟨rfl, hb6⟩; have HB5 := Aside0.mk (then_w HB4.out hb6); have HM5 := Aside0.mk (Kd.M_below HM4.out hb6); have HD5 := (hb6.block _ (blk_lt HD4.out)).trans HD4.out; have e0 := (blk_cell HD5 0).trans rfl; have e1 := (blk_cell HD5 1).trans rfl; have e2 := (blk_cell HD5 2).trans rfl; have e3 := (blk_cell HD5 3).trans rfl; have e4 := (blk_cell HD5 4).trans rfl; have HR9 := Aside0.mk ((hb6.block _ (blk_lt HR4.out)).trans HR4.out); have hy := Lib.cell_of_heap HR9.out; have hz := Lib.frozen_of_heap HR9.out; clear hb6 HD5)
    refine bodyPost_ret (results_ctt rfl _ _ w.heap.size 25 _ (0, 0) _ rfl (set_blk (j := 4) (set_blk (j := 3) (set_blk (j := 2) (set_blk (j := 1) (set_blk (j := 0) HR9.out _) _) _) _) _) Tryz.underlying25 rfl (by kernel_rfl)) rfl ?_
    rw [HV.out]
    exact finP (p := (x, 0, 0)) HB5.out HM5.out (fun k hk => by simp at hk; omega)
   | false =>
    rw [hr] at HRT hv
    have HV := Aside0.mk (show PS = (zeroD, 0, 24) from hv)
    clear hr hv
    go_wp2_with (go_at_call 15; go_loud (with_reducible refine HRT.out.mono ?_); rintro e wc ⟨rfl, hb6⟩; have HB5 := Aside0.mk (then_w HB4.out hb6); have HR9 := Aside0.mk ((hb6.block _ (blk_lt HR4.out)).trans HR4.out); have hy := Lib.cell_of_heap HR9.out; have hz := Lib.frozen_of_heap HR9.out; clear hb6)
    refine bodyPost_ret (results_ctt rfl _ _ w.heap.size 25 _ (0, 0) _ rfl (set_blk (j := 4) (set_blk (j := 3) (set_blk (j := 2) (set_blk (j := 1) (set_blk (j := 0) HR9.out _) _) _) _) _) Tryz.underlying25 rfl (by kernel_rfl)) rfl ?_
    rw [HV.out]
    exact finP (p := (zeroD, 0, 24)) (ok := fun k => w.heap.size < k) (base := w.heap.size) HB5.out (zeroM _ _ _) (fun k hk => by omega)
end Go.Proofs.YtidcecpbihmloaaGreatDoorE

namespace Go.Proofs.YtidcecpbihmloaaGreatDoorE
open Go Go.RowKit Go.Proofs.YtidcecpbihmloaaGreatDoorW.PrintWords Go.Proofs.YtidcecpbihmloaaGreatDoorW.PrintMore Go.Proofs.YtidcecpbihmloaaGreatDoorW.PrintLast Go.Proofs.YtidcecpbihmloaaGreatDoorX Go.Proofs.YtidcecpbihmloaaGreatDoor.P16 Go.Proofs.YtidcecpbihmloaaGreatDoor.M02
set_option linter.unusedVariables false
set_option linter.unusedSimpArgs false
set_option maxRecDepth 100000
def s0 : ByteArray := ⟨#[123, 97, 61, 49, 44, 98, 61, 91, 121, 101, 115, 44, 34, 120, 34, 93, 125]⟩
def s1 : ByteArray := ⟨#[91, 49, 44, 93]⟩
def d1 : DT := ⟨2, 1, em, [], []⟩
def d0 : DT := ⟨5, 0, em, [⟨#[97]⟩, ⟨#[98]⟩], [d1, ⟨4, 0, em, [], [⟨1, 1, em, [], []⟩, ⟨3, 0, ⟨#[120]⟩, [], []⟩]⟩]⟩
theorem d0_right : rightD d0 = true := by kernel_rfl
theorem d0_print : printD d0 = B s0 := by kernel_rfl
theorem d0_parse : parseS (B s0) = (d0, 0, 0) := by kernel_rfl
theorem s1_parse : parseS (B s1) = (zeroD, 3, 2) := by kernel_rfl
theorem d0_get : getS d0 ⟨#[97]⟩ = (d1, true) := by kernel_rfl
theorem d1_right : rightD d1 = true := by kernel_rfl
theorem okD_lf (k n : Int) (t : ByteArray) (h0 : -9223372036854775808 ≤ k ∧ k ≤ 9223372036854775807) (h1 : -9223372036854775808 ≤ n ∧ n ≤ 9223372036854775807) (h2 : t.size ≤ 140737488351232) : OkD (⟨k, n, t, [], []⟩ : DT) :=
 .mk _ h0 h1 h2 (Nat.zero_le _) (fun s hs => by cases hs) (Nat.zero_le _) (fun y hy => by cases hy)
theorem okD_zero : OkD zeroD := okD_lf 0 0 em (by decide) (by decide) (by decide)
theorem okD_d1 : OkD d1 := okD_lf 2 1 em (by decide) (by decide) (by decide)
theorem okD_d0 : OkD d0 := by
 refine .mk d0 (by decide) (by decide) (by decide) (by decide) (fun s hs => ?_) (by decide) (fun y hy => ?_)
 ·have hs : s ∈ [(⟨#[97]⟩ : ByteArray), ⟨#[98]⟩] := hs
  simp only [List.mem_cons, List.not_mem_nil, or_false] at hs
  rcases hs with rfl | rfl <;> decide
 ·have hy : y ∈ [d1, ⟨4, 0, em, [], [⟨1, 1, em, [], []⟩, ⟨3, 0, ⟨#[120]⟩, [], []⟩]⟩] := hy
  simp only [List.mem_cons, List.not_mem_nil, or_false] at hy
  rcases hy with rfl | rfl
  ·exact okD_d1
  ·refine .mk _ (by decide) (by decide) (by decide) (by decide) (fun s hs => by cases hs) (by decide) (fun y hy => ?_)
   have hy : y ∈ [(⟨1, 1, em, [], []⟩ : DT), ⟨3, 0, ⟨#[120]⟩, [], []⟩] := hy
   simp only [List.mem_cons, List.not_mem_nil, or_false] at hy
   rcases hy with rfl | rfl
   ·exact okD_lf 1 1 em (by decide) (by decide) (by decide)
   ·exact okD_lf 3 0 ⟨#[120]⟩ (by decide) (by decide) (by decide)
theorem mkB_B (s : ByteArray) : mkB (B s) = s := by
 rcases s with ⟨a⟩
 simp [mkB, B]
set_option maxHeartbeats 8000000 in
theorem same_c (w : World) (hgl : GL w) : Calls Tryz.prog 8 #[] w fun e w' => e = .returned (.bool true) ∧ Below w.heap.size w w' := by
 have HG := Aside0.mk hgl
 have HP0 := Aside0.mk (qParse_c s0 (by decide) w hgl)
 rw [d0_parse] at HP0
 have HP1 : Aside0 (∀ W, GL W → Calls Tryz.prog 16 #[.string s1] W (parseP W (zeroD, 3, 2))) := ⟨fun W h => s1_parse ▸ qParse_c s1 (by decide) W h⟩
 obtain ⟨x, hx⟩ : ∃ x, x = d0 := ⟨_, rfl⟩
 obtain ⟨y, hy⟩ : ∃ y, y = d1 := ⟨_, rfl⟩
 have HPR : Aside0 (∀ (w : World), GL w → ∀ (A3 : Option Addr) (c3 : Nat) (A4 : Option Addr) (c4 : Nat), x.f3.length ≤ c3 → Kd.string.C w A3 x.f3.length x.f3 → x.f4.length ≤ c4 → k25.C w A4 x.f4.length x.f4 → Calls Tryz.prog 14 #[aggD x A3 c3 A4 c4] w fun e w' => e = .returned (.tuple #[.string s0, .int .i64 0]) ∧ Below w.heap.size w w') := ⟨fun w hgl A3 c3 A4 c4 l3 g3 l4 g4 => by
  subst hx
  have h := Print_c d0 okD_d0 w hgl A3 c3 A4 c4 l3 g3 l4 g4
  unfold printP at h
  rw [if_pos d0_right, d0_print, mkB_B] at h
  exact h⟩
 have HGE : Aside0 (∀ (w : World), GL w → ∀ (A3 : Option Addr) (c3 : Nat) (A4 : Option Addr) (c4 : Nat), x.f3.length ≤ c3 → Kd.string.C w A3 x.f3.length x.f3 → x.f4.length ≤ c4 → k25.C w A4 x.f4.length x.f4 → Calls Tryz.prog 9 #[aggD x A3 c3 A4 c4, .string ⟨#[97]⟩] w (getP w (y, true))) := ⟨fun w hgl A3 c3 A4 c4 l3 g3 l4 g4 => by
  subst hx
  subst hy
  exact d0_get ▸ Get_c d0 okD_d0 ⟨#[97]⟩ w hgl A3 c3 A4 c4 l3 g3 l4 g4⟩
 have HRI : Aside0 (∀ (w : World), GL w → ∀ (A3 : Option Addr) (c3 : Nat) (A4 : Option Addr) (c4 : Nat), y.f3.length ≤ c3 → Kd.string.C w A3 y.f3.length y.f3 → y.f4.length ≤ c4 → k25.C w A4 y.f4.length y.f4 → Calls Tryz.prog 15 #[aggD y A3 c3 A4 c4] w fun e w' => e = .returned (.bool true) ∧ Below w.heap.size w w') := ⟨fun w hgl A3 c3 A4 c4 l3 g3 l4 g4 => by
  subst hy
  exact d1_right ▸ Right_c d1 okD_d1 w hgl A3 c3 A4 c4 l3 g3 l4 g4⟩
 have y1 : (y.f1 == 1) = true := by rw [hy]; rfl
 have ss : (s0.toList == [123, 97, 61, 49, 44, 98, 61, 91, 121, 101, 115, 44, 34, 120, 34, 93, 125]) = true := by kernel_rfl
 rw [← hx] at HP0
 clear hx hy hgl
 unfold s0 s1 at *
 go_enter Tryz.func8, Tryz.ntmps8
 go_upto_region 2 with (go_at_call 16; go_loud (with_reducible refine HP0.out.mono ?_); rintro e w1 ⟨hb, A3, c3, A4, c4, rfl, m1, m2, m3, m4⟩; have HB1 := Aside0.mk hb; have HM1 := Aside0.mk (And.intro (And.intro m1 m2) (And.intro m3 m4)); clear hb m1 m2 m3 m4)
 have HX1 := Aside0.mk (heap_alloc_new w1 (dBox x A3 c3 A4 c4))
 have HA1 := Aside0.mk (below_alloc (Below.refl w1.heap.size w1) (dBox x A3 c3 A4 c4))
 have HB2 := Aside0.mk (below_then HB1.out HB1.out.size HA1.out)
 have p0 := (blk_cell HX1.out 0).trans rfl
 have p1 := (blk_cell HX1.out 1).trans rfl
 have p2 := (blk_cell HX1.out 2).trans rfl
 have p3 := (blk_cell HX1.out 3).trans rfl
 have p4 := (blk_cell HX1.out 4).trans rfl
 go_upto_region 3 with (go_at_call 14; go_loud (with_reducible refine (HPR.out _ (HG.out.below HB2.out) A3 c3 A4 c4 HM1.out.1.1 (Kd.string.C_below HM1.out.1.2 HA1.out) HM1.out.2.1 (k25.C_below HM1.out.2.2 HA1.out)).mono ?_); rintro e w3 ⟨rfl, hb⟩; have HB3 := Aside0.mk (below_then HA1.out HA1.out.size hb); have hx3 := (hb.block w1.heap.size (by simp)).trans HX1.out; have HX3 := Aside0.mk hx3; clear hb hx3)
 clear p0 p1 p2 p3 p4
 have p0 := (blk_cell HX3.out 0).trans rfl
 have p1 := (blk_cell HX3.out 1).trans rfl
 have p2 := (blk_cell HX3.out 2).trans rfl
 have p3 := (blk_cell HX3.out 3).trans rfl
 have p4 := (blk_cell HX3.out 4).trans rfl
 have HB4 := Aside0.mk (below_then HB1.out HB1.out.size HB3.out)
 go_upto_region 4 with (go_at_call 9; go_loud (with_reducible refine (HGE.out w3 (HG.out.below HB4.out) A3 c3 A4 c4 HM1.out.1.1 (Kd.string.C_below HM1.out.1.2 HB3.out) HM1.out.2.1 (k25.C_below HM1.out.2.2 HB3.out)).mono ?_); rintro e w5 ⟨hb, A3y, c3y, A4y, c4y, rfl, m1, m2, m3, m4⟩; have HB5 := Aside0.mk (below_then HB4.out HB4.out.size hb); have HM5 := Aside0.mk (And.intro (And.intro m1 m2) (And.intro m3 m4)); clear hb m1 m2 m3 m4)
 clear p0 p1 p2 p3 p4
 have HX6 := Aside0.mk (heap_alloc_new w5 (dBox y A3y c3y A4y c4y))
 have HA6 := Aside0.mk (below_alloc (Below.refl w5.heap.size w5) (dBox y A3y c3y A4y c4y))
 have HB6 := Aside0.mk (below_then HB5.out HB5.out.size HA6.out)
 go_upto_region 5 with (go_at_call 16; go_loud (with_reducible refine (HP1.out _ (HG.out.below HB6.out)).mono ?_); rintro e w7 ⟨hb, A3z, c3z, A4z, c4z, rfl, -, -, -, -⟩; have HB7 := Aside0.mk (below_then HA6.out HA6.out.size hb); have hx7 := (hb.block w5.heap.size (by simp)).trans HX6.out; have HX7 := Aside0.mk hx7; clear hb hx7)
 have HA8 := Aside0.mk (below_alloc (Below.refl w7.heap.size w7) (dBox zeroD A3z c3z A4z c4z))
 have HX8 := Aside0.mk ((HA8.out.block w5.heap.size (blk_lt HX7.out)).trans HX7.out)
 have HB8 := Aside0.mk (below_then HB7.out HB7.out.size HA8.out)
 have HB9 := Aside0.mk (below_then HB5.out HB5.out.size HB8.out)
 have p0 := (blk_cell HX8.out 0).trans rfl
 have p1 := (blk_cell HX8.out 1).trans rfl
 have p2 := (blk_cell HX8.out 2).trans rfl
 have p3 := (blk_cell HX8.out 3).trans rfl
 have p4 := (blk_cell HX8.out 4).trans rfl
 go_wp2_with (go_at_call 15; go_loud (with_reducible refine (HRI.out _ (HG.out.below HB9.out) A3y c3y A4y c4y HM5.out.1.1 (Kd.string.C_below HM5.out.1.2 HB8.out) HM5.out.2.1 (k25.C_below HM5.out.2.2 HB8.out)).mono ?_); rintro e w9 ⟨rfl, hb⟩; have HBT := Aside0.mk (below_then HB9.out HB9.out.size hb); clear hb)
 go_ret
 exact ⟨rfl, HBT.out⟩
end Go.Proofs.YtidcecpbihmloaaGreatDoorE

namespace Go.Proofs.YtidcecpbihmloaaGreatDoorE
open Go Go.RowKit Go.Proofs.YtidcecpbihmloaaGreatDoorW.PrintWords Go.Proofs.YtidcecpbihmloaaGreatDoorW.PrintMore Go.Proofs.YtidcecpbihmloaaGreatDoorW.PrintLast Go.Proofs.YtidcecpbihmloaaGreatDoorX Go.Proofs.YtidcecpbihmloaaGreatDoor.P16 Go.Proofs.YtidcecpbihmloaaGreatDoor.M02
set_option linter.unusedVariables false
set_option linter.unusedSimpArgs false
set_option maxRecDepth 100000
theorem toList_iff (a b : ByteArray) : a.toList = b.toList ↔ a = b := by
 rw [toList_data, toList_data]
 exact ⟨fun h => B_inj h, fun h => by rw [h]⟩
theorem names_eq {ns ns' : List ByteArray} (hl : ns.length = ns'.length) (h : ∀ j, j < ns.length → ns.getD j em = ns'.getD j em) : ns = ns' := by
 refine List.ext_getElem hl (fun j h1 h2 => ?_)
 have := h j h1
 rw [List.getD_eq_getElem?_getD, List.getD_eq_getElem?_getD, List.getElem?_eq_getElem h1, List.getElem?_eq_getElem h2] at this
 exact this
abbrev zBox (a b : Int) (c : ByteArray) (ns : List ByteArray) (l : List DT) (A3 : Option Addr) (c3 : Nat) (A4 : Option Addr) (c4 : Nat) : Obj := .cells #[.int .i64 a, .int .i64 b, .string c, .slice A3 ns.length c3, .slice A4 l.length c4] 25
/-- What Same says of a piece and any other. -/
def sameC (x : DT) : Prop := ∀ (y : DT) (w : World) (A3 : Option Addr) (c3 : Nat) (A4 : Option Addr) (c4 : Nat) (B3 : Option Addr) (d3 : Nat) (B4 : Option Addr) (d4 : Nat), x.f3.length ≤ c3 → Kd.string.C w A3 x.f3.length x.f3 → x.f4.length ≤ c4 → k25.C w A4 x.f4.length x.f4 → y.f3.length ≤ d3 → Kd.string.C w B3 y.f3.length y.f3 → y.f4.length ≤ d4 → k25.C w B4 y.f4.length y.f4 →
 Calls Tryz.prog 11 #[aggD x A3 c3 A4 c4, aggD y B3 d3 B4 d4] w fun e w' => (∃ q : Bool, e = .returned (.bool q) ∧ (q = true ↔ x = y)) ∧ Below w.heap.size w w'
theorem rd_getElem (l : List DT) (k : Nat) (h : k < l.length) : rd_T25 l (k : Int) = l[k] := by
 unfold rd_T25
 rw [Int.toNat_natCast, List.getD_eq_getElem?_getD, List.getElem?_eq_getElem h]
 rfl
set_option maxHeartbeats 16000000 in
theorem same_step (a b : Int) (c : ByteArray) (ns : List ByteArray) (l : List DT) (hn3 : ns.length ≤ 140737488351232) (hn4 : l.length ≤ 140737488351232) (ih : ∀ z ∈ l, sameC z) (ns' : List ByteArray) (l' : List DT) (h3 : ns'.length = ns.length) (h4 : l'.length = l.length) (w : World) (A3 : Option Addr) (c3 : Nat) (A4 : Option Addr) (c4 : Nat) (B3 : Option Addr) (d3 : Nat) (B4 : Option Addr) (d4 : Nat) (lA3 : ns.length ≤ c3) (gA3 : Kd.string.C w A3 ns.length ns) (lA4 : l.length ≤ c4) (gA4 : k25.C w A4 l.length l) (lB3 : ns.length ≤ d3) (gB3 : Kd.string.C w B3 ns.length ns') (lB4 : l.length ≤ d4) (gB4 : k25.C w B4 l.length l') :
  Calls Tryz.prog 11 #[.agg #[.int .i64 a, .int .i64 b, .string c, .slice A3 ns.length c3, .slice A4 l.length c4], .agg #[.int .i64 a, .int .i64 b, .string c, .slice B3 ns.length d3, .slice B4 l.length d4]] w fun e w' => (∃ q : Bool, e = .returned (.bool q) ∧ (q = true ↔ (ns = ns' ∧ l = l'))) ∧ Below w.heap.size w w' := by
 have HB := Aside0.mk (below_alloc (below_alloc (Below.refl w.heap.size w) (zBox a b c ns l A3 c3 A4 c4)) (.cells #[.int .i64 a, .int .i64 b, .string c, .slice B3 ns.length d3, .slice B4 l.length d4] 25))
 have HX := Aside0.mk (two_old_ w (zBox a b c ns l A3 c3 A4 c4) (.cells #[.int .i64 a, .int .i64 b, .string c, .slice B3 ns.length d3, .slice B4 l.length d4] 25))
 have HY := Aside0.mk (two_new_ w (zBox a b c ns l A3 c3 A4 c4) (.cells #[.int .i64 a, .int .i64 b, .string c, .slice B3 ns.length d3, .slice B4 l.length d4] 25))
 have HA3 := Aside0.mk gA3
 have HA4 := Aside0.mk gA4
 have HB3 := Aside0.mk gB3
 have HB4 := Aside0.mk gB4
 have IH := Aside0.mk ih
 have H3 := Aside0.mk h3
 have H4 := Aside0.mk h4
 have hsz : ((w.alloc (zBox a b c ns l A3 c3 A4 c4)).alloc (.cells #[.int .i64 a, .int .i64 b, .string c, .slice B3 ns.length d3, .slice B4 l.length d4] 25)).heap.size = w.heap.size + 2 := by simp
 have HSZ := Aside0.mk hsz
 clear gA3 gA4 gB3 gB4 ih h3 h4 hsz
 go_enter Tryz.func11, Tryz.ntmps11
 go_upto_region 3 with fail
 generalize hW : ((w.alloc (.cells #[.int .i64 a, .int .i64 b, .string c, .slice A3 ns.length c3, .slice A4 l.length c4] 25)).alloc (.cells #[.int .i64 a, .int .i64 b, .string c, .slice B3 ns.length d3, .slice B4 l.length d4] 25)) = W2 at HB HX HY HSZ ⊢
 clear hW
 have p3 := (blk_cell HX.out 3).trans rfl
 have p4 := (blk_cell HX.out 4).trans rfl
 have r3 := (blk_cell HY.out 3).trans rfl
 have r4 := (blk_cell HY.out 4).trans rfl
 go_wp2_with fail
 go_loopg [47] ns.length (fun gk i wr => ∃ k : Nat, k ≤ ns.length ∧ i = .int .i64 k ∧ Aside0 (k + gk = ns.length ∧ Below W2.heap.size W2 wr ∧ ∀ j, j < k → ns.getD j em = ns'.getD j em))
 case atStart => exact ⟨0, by omega, rfl, ⟨by omega, Below.refl _ _, fun j hj => by omega⟩⟩
 case round =>
  clear p3 p4 r3 r4
  obtain ⟨k, hk, rfl, HV⟩ := hrel
  obtain ⟨hkg, hb, he⟩ := HV.out
  have HBW := Aside0.mk hb
  have HN := Aside0.mk hkg
  have HE := Aside0.mk he
  have HXr := Aside0.mk ((hb.block w.heap.size (by have := HSZ.out; omega)).trans HX.out)
  have HYr := Aside0.mk ((hb.block (w.heap.size + 1) (by have := HSZ.out; omega)).trans HY.out)
  have HBr := Aside0.mk (below_then HB.out HB.out.size hb)
  clear HV hkg hb he
  have p3 := (blk_cell HXr.out 3).trans rfl
  have p4 := (blk_cell HXr.out 4).trans rfl
  have r3 := (blk_cell HYr.out 3).trans rfl
  have r4 := (blk_cell HYr.out 4).trans rfl
  by_cases hlt : k < ns.length
  ·obtain ⟨ad, hade, n1⟩ := Kd.at_string (Kd.C_below HA3.out HBr.out) (k : Int) (by omega) (by omega)
   obtain ⟨bd, hbde, n2⟩ := Kd.at_string (Kd.C_below HB3.out HBr.out) (k : Int) (by omega) (by omega)
   rw [Int.toNat_natCast, get_rdOf] at n1 n2
   obtain ⟨s, hs⟩ : ∃ s, s = ns.getD k em := ⟨_, rfl⟩
   obtain ⟨s', hs'⟩ : ∃ s, s = ns'.getD k em := ⟨_, rfl⟩
   rw [← hs] at n1
   rw [← hs'] at n2
   have HS := Aside0.mk (And.intro hs hs')
   subst hade
   subst hbde
   clear hs hs'
   by_cases hq : s = s'
   ·subst hq
    go_upto_region 6 with fail
    go_quiet (fail)
    go_wp2_with fail
    go_roundg (gk - 1)
    case measure => have := HN.out; omega
    case rel => exact ⟨k + 1, by omega, by go_num, ⟨by have := HN.out; omega, pw_below_drewN HBW.out _, fun j hj => by
     by_cases hjk : j = k
     ·rw [hjk, ← HS.out.1, ← HS.out.2]
     ·exact HE.out j (by omega)⟩⟩
   ·have hne : (s.toList == s'.toList) = false := by
     rw [beq_eq_false_iff_ne]
     exact fun h => hq ((toList_iff _ _).1 h)
    have HNE := Aside0.mk hq
    clear hq
    go_upto_region 6 with fail
    go_quiet (fail)
    go_wp2_with fail
    go_ret
    refine ⟨⟨false, rfl, ⟨fun h => absurd h (by decide), fun h => ?_⟩⟩, below_then HB.out HB.out.size (pw_below_drewN HBW.out _)⟩
    exact absurd (HS.out.1.trans ((congrArg (fun z => z.getD k em) h.1).trans HS.out.2.symm)) HNE.out
  ·have HNS := Aside0.mk (names_eq H3.out.symm (fun j hj => HE.out j (by omega)))
   clear HN HE
   go_wp2_with fail
   generalize hW3 : wr = W3 at HBW HXr HYr HBr p3 p4 r3 r4 ⊢
   clear hW3
   go_loopg [65] l.length (fun gk i wq => ∃ k : Nat, k ≤ l.length ∧ i = .int .i64 k ∧ Aside0 (k + gk = l.length ∧ Below W3.heap.size W3 wq ∧ ∀ j, j < k → l[j]? = l'[j]?))
   case atStart => exact ⟨0, by omega, rfl, ⟨by omega, Below.refl _ _, fun j hj => by omega⟩⟩
   case round =>
    clear p3 p4 r3 r4
    obtain ⟨k, hk, rfl, HV⟩ := hrel
    obtain ⟨hkg, hb, he⟩ := HV.out
    have HBQ := Aside0.mk hb
    have HN := Aside0.mk hkg
    have HE := Aside0.mk he
    have HXq := Aside0.mk ((hb.block w.heap.size (blk_lt HXr.out)).trans HXr.out)
    have HYq := Aside0.mk ((hb.block (w.heap.size + 1) (blk_lt HYr.out)).trans HYr.out)
    have HBt := Aside0.mk (below_then HBr.out HBr.out.size hb)
    clear HV hkg hb he
    have p3 := (blk_cell HXq.out 3).trans rfl
    have p4 := (blk_cell HXq.out 4).trans rfl
    have r3 := (blk_cell HYq.out 3).trans rfl
    have r4 := (blk_cell HYq.out 4).trans rfl
    by_cases hlq : k < l.length
    ·obtain ⟨ad, A3q, c3q, A4q, c4q, hA, a0, a1, a2, a3, a4, hl3, hC3, hl4, hC4⟩ := at_T25 HA4.out (k : Int) (by omega) (by omega)
     obtain ⟨bd, B3q, d3q, B4q, d4q, hB, b0, b1, b2, b3, b4, ml3, mC3, ml4, mC4⟩ := at_T25 HB4.out (k : Int) (by omega) (by omega)
     have hk4 : k < l'.length := by have := H4.out; omega
     rw [rd_getElem l k hlq, Int.toNat_natCast] at *
     rw [rd_getElem l' k hk4] at *
     obtain ⟨y, hy⟩ : ∃ y, y = l[k] := ⟨_, rfl⟩
     obtain ⟨z, hz⟩ : ∃ z, z = l'[k] := ⟨_, rfl⟩
     have HYM := Aside0.mk (show y ∈ l from hy ▸ List.getElem_mem hlq)
     have HYZ := Aside0.mk (And.intro (show l[k]? = some y by rw [List.getElem?_eq_getElem hlq, hy]) (show l'[k]? = some z by rw [List.getElem?_eq_getElem hk4, hz]))
     rw [← hy] at a0 a1 a2 a3 a4 hl3 hC3 hl4 hC4
     rw [← hz] at b0 b1 b2 b3 b4 ml3 mC3 ml4 mC4
     subst hA
     subst hB
     clear hy hz
     replace a0 := pw_cell_below HBt.out a0
     replace a1 := pw_cell_below HBt.out a1
     replace a2 := pw_cell_below HBt.out a2
     replace a3 := pw_cell_below HBt.out a3
     replace a4 := pw_cell_below HBt.out a4
     replace b0 := pw_cell_below HBt.out b0
     replace b1 := pw_cell_below HBt.out b1
     replace b2 := pw_cell_below HBt.out b2
     replace b3 := pw_cell_below HBt.out b3
     replace b4 := pw_cell_below HBt.out b4
     have HCS := Aside0.mk (IH.out y HYM.out z wr.drew A3q c3q A4q c4q B3q d3q B4q d4q hl3 (Kd.string.C_below hC3 HBt.out.drew) hl4 (k25.C_below hC4 HBt.out.drew) ml3 (Kd.string.C_below mC3 HBt.out.drew) ml4 (k25.C_below mC4 HBt.out.drew))
     have hlt2 : (k : Int) < (l.length : Int) := by omega
     clear hl3 hC3 hl4 hC4 ml3 mC3 ml4 mC4 hk4
     go_upto_region 12 with fail
     refine start_ (n := 12) (S := fun w' => w'.cell? ⟨w.heap.size, 4, none⟩ = some (.slice (some ad) l.length c4) ∧ w'.cell? ⟨w.heap.size + 1, 4, none⟩ = some (.slice (some bd) l.length d4) ∧ w'.cell? (ad.add (k * 5)) = some (.int .i64 y.f0) ∧ w'.cell? ⟨(ad.add (k * 5)).block, (ad.add (k * 5)).off + 1, none⟩ = some (.int .i64 y.f1) ∧ w'.cell? ⟨(ad.add (k * 5)).block, (ad.add (k * 5)).off + 2, none⟩ = some (.string y.f2) ∧ w'.cell? ⟨(ad.add (k * 5)).block, (ad.add (k * 5)).off + 3, none⟩ = some (.slice A3q y.f3.length c3q) ∧ w'.cell? ⟨(ad.add (k * 5)).block, (ad.add (k * 5)).off + 4, none⟩ = some (.slice A4q y.f4.length c4q) ∧ w'.cell? (bd.add (k * 5)) = some (.int .i64 z.f0) ∧ w'.cell? ⟨(bd.add (k * 5)).block, (bd.add (k * 5)).off + 1, none⟩ = some (.int .i64 z.f1) ∧ w'.cell? ⟨(bd.add (k * 5)).block, (bd.add (k * 5)).off + 2, none⟩ = some (.string z.f2) ∧ w'.cell? ⟨(bd.add (k * 5)).block, (bd.add (k * 5)).off + 3, none⟩ = some (.slice B3q z.f3.length d3q) ∧ w'.cell? ⟨(bd.add (k * 5)).block, (bd.add (k * 5)).off + 4, none⟩ = some (.slice B4q z.f4.length d4q)) (ds := []) #[false, false, false, false, false, false, false, false, false, false, false, false] (by kernel_rfl) rfl rfl ⟨cell_drew p4, cell_drew r4, cell_drew a0, cell_drew a1, cell_drew a2, cell_drew a3, cell_drew a4, cell_drew b0, cell_drew b1, cell_drew b2, cell_drew b3, cell_drew b4⟩ (fun hHeld => ?_)
     refine pure_ (i := 0) (N := some 68) (v := ?_) (a' := ?_) #[true, false, false, false, false, false, false, false, false, false, false, false] rfl rfl (by kernel_rfl) (fun _ _ _ h => h) (Or.inl ⟨by rfl, ?_⟩) ?_ ?_
     rotate_left
     ·intro w'
      go_simp
      with_reducible rfl
     rotate_left
     ·simp only [Act.put, List.setIfInBounds_toArray, List.set_cons_zero, List.set_cons_succ, i64_w, i32_w]
      rfl
     refine pure_ (i := 2) (N := some 70) (v := ?_) (a' := ?_) #[true, false, true, false, false, false, false, false, false, false, false, false] rfl rfl (by kernel_rfl) (fun _ _ _ h => h) (Or.inl ⟨by rfl, ?_⟩) ?_ ?_
     rotate_left
     ·intro w'
      go_simp
      with_reducible rfl
     rotate_left
     ·simp only [Act.put, List.setIfInBounds_toArray, List.set_cons_zero, List.set_cons_succ, i64_w, i32_w]
      rfl
     refine pure_ (i := 5) (N := some 73) (v := ?_) (a' := ?_) #[true, false, true, false, false, true, false, false, false, false, false, false] rfl rfl (by kernel_rfl) (fun _ _ _ h => h) (Or.inl ⟨by rfl, ?_⟩) ?_ ?_
     rotate_left
     ·intro w'
      go_simp
      with_reducible rfl
     rotate_left
     ·simp only [Act.put, List.setIfInBounds_toArray, List.set_cons_zero, List.set_cons_succ, i64_w, i32_w]
      rfl
     refine pure_ (i := 7) (N := some 75) (v := ?_) (a' := ?_) #[true, false, true, false, false, true, false, true, false, false, false, false] rfl rfl (by kernel_rfl) (fun _ _ _ h => h) (Or.inl ⟨by rfl, ?_⟩) ?_ ?_
     rotate_left
     ·intro w'
      go_simp
      with_reducible rfl
     rotate_left
     ·simp only [Act.put, List.setIfInBounds_toArray, List.set_cons_zero, List.set_cons_succ, i64_w, i32_w]
      rfl
     refine take_ (i := 1) (N := some 69) (v := ?_) (a' := ?_) #[true, true, true, false, false, true, false, true, false, false, false, false] rfl rfl (by kernel_rfl) (fun _ _ _ h => h) (Or.inl ⟨by rfl, ?_⟩) hHeld ?_ ?_
     rotate_left
     ·intro w' s0
      go_split_ands
      go_simp
      with_reducible rfl
     rotate_left
     ·simp only [Act.put, List.setIfInBounds_toArray, List.set_cons_zero, List.set_cons_succ, i64_w, i32_w]
      rfl
     refine pure_ (i := 3) (N := some 71) (v := ?_) (a' := ?_) #[true, true, true, true, false, true, false, true, false, false, false, false] rfl rfl (by kernel_rfl) (fun _ _ _ h => h) (Or.inl ⟨by rfl, ?_⟩) ?_ ?_
     rotate_left
     ·intro w'
      go_simp
      with_reducible rfl
     rotate_left
     ·simp only [Act.put, List.setIfInBounds_toArray, List.set_cons_zero, List.set_cons_succ, i64_w, i32_w]
      rfl
     refine take_ (i := 4) (N := some 72) (v := ?_) (a' := ?_) #[true, true, true, true, true, true, false, true, false, false, false, false] rfl rfl (by kernel_rfl) (fun _ _ _ h => h) (Or.inl ⟨by rfl, ?_⟩) hHeld ?_ ?_
     rotate_left
     ·intro w' s0
      go_split_ands
      go_simp
      with_reducible rfl
     rotate_left
     ·simp only [Act.put, List.setIfInBounds_toArray, List.set_cons_zero, List.set_cons_succ, i64_w, i32_w]
      rfl
     refine take_ (i := 6) (N := some 74) (v := ?_) (a' := ?_) #[true, true, true, true, true, true, true, true, false, false, false, false] rfl rfl (by kernel_rfl) (fun _ _ _ h => h) (Or.inl ⟨by rfl, ?_⟩) hHeld ?_ ?_
     rotate_left
     ·intro w' s0
      go_split_ands
      go_simp
      with_reducible rfl
     rotate_left
     ·simp only [Act.put, List.setIfInBounds_toArray, List.set_cons_zero, List.set_cons_succ, i64_w, i32_w]
      rfl
     refine pure_ (i := 8) (N := some 76) (v := ?_) (a' := ?_) #[true, true, true, true, true, true, true, true, true, false, false, false] rfl rfl (by kernel_rfl) (fun _ _ _ h => h) (Or.inl ⟨by rfl, ?_⟩) ?_ ?_
     rotate_left
     ·intro w'
      go_simp
      with_reducible rfl
     rotate_left
     ·simp only [Act.put, List.setIfInBounds_toArray, List.set_cons_zero, List.set_cons_succ, i64_w, i32_w]
      rfl
     refine take_ (i := 9) (N := some 77) (v := ?_) (a' := ?_) #[true, true, true, true, true, true, true, true, true, true, false, false] rfl rfl (by kernel_rfl) (fun _ _ _ h => h) (Or.inl ⟨by rfl, ?_⟩) hHeld ?_ ?_
     rotate_left
     ·intro w' s0
      go_split_ands
      go_simp
      with_reducible rfl
     rotate_left
     ·simp only [Act.put, List.setIfInBounds_toArray, List.set_cons_zero, List.set_cons_succ, i64_w, i32_w]
      rfl
     refine one_ (i := 10) (N := some 78) #[true, true, true, true, true, true, true, true, true, true, true, false] rfl rfl (by kernel_rfl) (by decide) (fun K hK => ?_)
     refine goes_ Tryz.func11 (by kernel_rfl) rfl #[aggD y A3q c3q A4q c4q, aggD z B3q d3q B4q d4q] (by rfl) rfl rfl (by (try simp only [List.map_toArray, List.map_cons, List.map_nil]); first | done | rfl) ?_
     refine HCS.out.mono ?_
     rintro e w' ⟨⟨q, rfl, hq⟩, hb5⟩
     have HQ := Aside0.mk hq
     have HB5 := Aside0.mk hb5
     refine ⟨_, rfl, ?_⟩
     refine hK.out _ _ ⟨pw_cell_below hb5 (cell_drew p4), pw_cell_below hb5 (cell_drew r4), pw_cell_below hb5 (cell_drew a0), pw_cell_below hb5 (cell_drew a1), pw_cell_below hb5 (cell_drew a2), pw_cell_below hb5 (cell_drew a3), pw_cell_below hb5 (cell_drew a4), pw_cell_below hb5 (cell_drew b0), pw_cell_below hb5 (cell_drew b1), pw_cell_below hb5 (cell_drew b2), pw_cell_below hb5 (cell_drew b3), pw_cell_below hb5 (cell_drew b4)⟩ (fun hHeld => ?_)
     clear hK K hq hb5
     refine norm_ (a' := ?_) ?_ ?_
     rotate_left
     ·show Act.put _ (some 78) _ = _
      simp only [Act.put, List.setIfInBounds_toArray, List.set_cons_zero, List.set_cons_succ, i64_w, i32_w]
      rfl
     refine pure_ (i := 11) (N := some 79) (v := ?_) (a' := ?_) #[true, true, true, true, true, true, true, true, true, true, true, true] rfl rfl (by kernel_rfl) (fun _ _ _ h => h) (Or.inl ⟨by rfl, ?_⟩) ?_ ?_
     rotate_left
     ·intro w'
      go_simp
      with_reducible rfl
     rotate_left
     ·simp only [Act.put, List.setIfInBounds_toArray, List.set_cons_zero, List.set_cons_succ, i64_w, i32_w]
      rfl
     refine done_ (by kernel_rfl) ?_
     cases q with
     | false =>
      go_wp2_with fail
      go_ret
      refine ⟨⟨false, rfl, ⟨fun h => absurd h (by decide), fun h => ?_⟩⟩, below_then HBt.out.drew HBt.out.size HB5.out⟩
      have h2 := HYZ.out.1
      rw [h.2, HYZ.out.2] at h2
      injection h2 with h2
      exact HQ.out.2 h2.symm
     | true =>
      go_wp2_with fail
      go_roundg (gk - 1)
      case measure => have := HN.out; omega
      case rel => exact ⟨k + 1, by omega, by go_num, ⟨by have := HN.out; omega, below_then HBQ.out.drew HBQ.out.size HB5.out, fun j hj => by
       by_cases hjk : j = k
       ·rw [hjk, HYZ.out.1, HYZ.out.2, HQ.out.1 (by first | rfl | trivial)]
       ·exact HE.out j (by omega)⟩⟩
    ·have HLL := Aside0.mk (List.ext_getElem? (l₁ := l) (l₂ := l') (fun j => by
      rcases Nat.lt_or_ge j k with hj | hj
      ·exact HE.out j hj
      ·rw [List.getElem?_eq_none (by omega), List.getElem?_eq_none (by have := H4.out; omega)]))
     go_wp2_with fail
     go_ret
     exact ⟨⟨true, rfl, ⟨fun _ => ⟨HNS.out, HLL.out⟩, fun _ => rfl⟩⟩, HBt.out⟩
set_option maxHeartbeats 8000000 in
theorem same_c1 (x : DT) (hx : OkD x) : sameC x := by
 induction hx with
 | mk x h0 h1 h2 n3 h3 n4 h4 ih =>
  intro y w A3 c3 A4 c4 B3 d3 B4 d4 lA3 gA3 lA4 gA4 lB3 gB3 lB4 gB4
  rcases x with ⟨a, b, c, ns, l⟩
  rcases y with ⟨a', b', c', ns', l'⟩
  simp only at n3 n4 ih lA3 gA3 lA4 gA4 lB3 gB3 lB4 gB4
  simp only [aggD]
  by_cases h : a = a' ∧ b = b' ∧ c = c' ∧ ns'.length = ns.length ∧ l'.length = l.length
  ·obtain ⟨rfl, rfl, rfl, e3, e4⟩ := h
   rw [e3] at lB3 gB3 ⊢
   rw [e4] at lB4 gB4 ⊢
   refine (same_step a b c ns l n3 n4 ih ns' l' e3 e4 w A3 c3 A4 c4 B3 d3 B4 d4 lA3 gA3 lA4 gA4 lB3 gB3 lB4 gB4).mono ?_
   rintro e w' ⟨⟨q, rfl, hq⟩, hb⟩
   refine ⟨⟨q, rfl, hq.trans ⟨fun h => by rw [h.1, h.2], fun h => by injection h with _ _ _ h5 h6; exact ⟨h5, h6⟩⟩⟩, hb⟩
  ·have HN := Aside0.mk h
   have hc := toList_iff c c'
   have HC := Aside0.mk hc
   have HB := Aside0.mk (below_alloc (below_alloc (Below.refl w.heap.size w) (zBox a b c ns l A3 c3 A4 c4)) (zBox a' b' c' ns' l' B3 d3 B4 d4))
   have HX := Aside0.mk (two_old_ w (zBox a b c ns l A3 c3 A4 c4) (zBox a' b' c' ns' l' B3 d3 B4 d4))
   have HY := Aside0.mk (two_new_ w (zBox a b c ns l A3 c3 A4 c4) (zBox a' b' c' ns' l' B3 d3 B4 d4))
   clear h hc gA3 gA4 gB3 gB4 ih
   have HF : Calls Tryz.prog 11 #[.agg #[.int .i64 a, .int .i64 b, .string c, .slice A3 ns.length c3, .slice A4 l.length c4], .agg #[.int .i64 a', .int .i64 b', .string c', .slice B3 ns'.length d3, .slice B4 l'.length d4]] w fun e w' => e = .returned (.bool false) ∧ Below w.heap.size w w' := by
    go_enter Tryz.func11, Tryz.ntmps11
    go_upto_region 1 with fail
    go_wp2_with fail
    all_goals (try (go_ret; exact ⟨rfl, below_alloc (below_alloc (Below.refl _ _) _) _⟩; done))
    all_goals exfalso
    all_goals have e4 : (ns.length : Int) = (ns'.length : Int) := by assumption
    all_goals have e5 : ((l.length : Int) != (l'.length : Int)) = false := by assumption
    all_goals have e6 : (l.length : Int) = (l'.length : Int) := by simpa using e5
    all_goals exact HN.out ⟨by assumption, by assumption, HC.out.1 (by assumption), by omega, by omega⟩
   refine HF.mono ?_
   rintro e w' ⟨rfl, hb⟩
   refine ⟨⟨false, rfl, ⟨fun h => absurd h (by decide), fun h => ?_⟩⟩, hb⟩
   injection h with h1 h2 h3 h4 h5
   exact absurd ⟨h1, h2, h3, by rw [h4], by rw [h5]⟩ HN.out
end Go.Proofs.YtidcecpbihmloaaGreatDoorE

namespace Go.Proofs.YtidcecpbihmloaaGreatDoorE
open Go Go.RowKit Go.Proofs.YtidcecpbihmloaaGreatDoorW.PrintWords Go.Proofs.YtidcecpbihmloaaGreatDoorW.PrintMore Go.Proofs.YtidcecpbihmloaaGreatDoorW.PrintLast Go.Proofs.YtidcecpbihmloaaGreatDoorX Go.Proofs.YtidcecpbihmloaaGreatDoor.P16 Go.Proofs.YtidcecpbihmloaaGreatDoor.M02
set_option linter.unusedVariables false
set_option linter.unusedSimpArgs false
set_option maxRecDepth 100000
/-- Two pieces that lie in memory, compared. -/
theorem Same_c (x y : DT) (hx : OkD x) (q : Bool) (hq : q = true ↔ x = y) (w : World) (hgl : GL w) (A3 : Option Addr) (c3 : Nat) (A4 : Option Addr) (c4 : Nat) (l3 : x.f3.length ≤ c3) (g3 : Kd.string.C w A3 x.f3.length x.f3) (l4 : x.f4.length ≤ c4) (g4 : k25.C w A4 x.f4.length x.f4) (B3 : Option Addr) (e3 : Nat) (B4 : Option Addr) (e4 : Nat) (m3 : y.f3.length ≤ e3) (i3 : Kd.string.C w B3 y.f3.length y.f3) (m4 : y.f4.length ≤ e4) (i4 : k25.C w B4 y.f4.length y.f4) :
  Calls Tryz.prog 11 #[aggD x A3 c3 A4 c4, aggD y B3 e3 B4 e4] w fun e w' => e = .returned (.bool q) ∧ Below w.heap.size w w' := by
 refine (same_c1 x hx y w A3 c3 A4 c4 B3 e3 B4 e4 l3 g3 l4 g4 m3 i3 m4 i4).mono ?_
 rintro e w' ⟨⟨p, rfl, hp⟩, hb⟩
 obtain rfl : p = q := by
  cases p <;> cases q
  ·rfl
  ·exact absurd (hp.2 (hq.1 rfl)) (by decide)
  ·exact absurd (hq.2 (hp.1 rfl)) (by decide)
  ·rfl
 exact ⟨rfl, hb⟩
end Go.Proofs.YtidcecpbihmloaaGreatDoorE

namespace Go.Proofs.YtidcecpbihmloaaGreatDoorE
open Go Go.RowKit Go.Proofs.YtidcecpbihmloaaGreatDoorW.PrintWords Go.Proofs.YtidcecpbihmloaaGreatDoorW.PrintMore Go.Proofs.YtidcecpbihmloaaGreatDoorW.PrintLast Go.Proofs.YtidcecpbihmloaaGreatDoorX Go.Proofs.YtidcecpbihmloaaGreatDoor.P16 Go.Proofs.YtidcecpbihmloaaGreatDoor.M02
set_option linter.unusedVariables false
set_option linter.unusedSimpArgs false
set_option maxRecDepth 100000
def fewC (x : DT) : Prop := ∀ (L op : Int) (w : World) (A3 : Option Addr) (c3 : Nat) (A4 : Option Addr) (c4 : Nat), x.f4.length ≤ c4 → k25.C w A4 x.f4.length x.f4 →
 Calls Tryz.prog 19 #[aggD x A3 c3 A4 c4, .int .i64 L, .int .i64 op] w fun e w' => (∃ r : Int, e = .returned (.int .i64 r)) ∧ Below w.heap.size w w'
set_option maxHeartbeats 8000000 in
theorem few_step (x : DT) (n4 : x.f4.length ≤ 140737488351232) (ih : ∀ y ∈ x.f4, fewC y) : fewC x := by
 intro L op w A3 c3 A4 c4 l4 g4
 have HB := Aside0.mk (below_alloc (Below.refl w.heap.size w) (xBox x A3 c3 A4 c4))
 have HX := Aside0.mk (heap_alloc_new w (xBox x A3 c3 A4 c4))
 have H4 := Aside0.mk g4
 have IH := Aside0.mk ih
 have hn4 := n4
 clear g4 ih n4
 go_enter Tryz.func19, Tryz.ntmps19
 go_upto_region 1 with fail
 generalize hW : w.alloc (.cells #[.int .i64 x.f0, .int .i64 x.f1, .string x.f2, .slice A3 x.f3.length c3, .slice A4 x.f4.length c4] 25) = W at HB HX ⊢
 clear hW
 have p2 := (blk_cell HX.out 2).trans rfl
 have p3 := (blk_cell HX.out 3).trans rfl
 have p4 := (blk_cell HX.out 4).trans rfl
 go_wp2_with fail
 all_goals first | (go_ret; exact ⟨⟨_, rfl⟩, HB.out⟩) | skip
 go_loopg [1, 28] x.f4.length (fun gq v1 i wq => ∃ (q : Nat) (r : Int), q ≤ x.f4.length ∧ v1 = .int .i64 r ∧ i = .int .i64 q ∧ Aside0 (q + gq = x.f4.length ∧ Below W.heap.size W wq))
 case atStart => exact ⟨0, _, by omega, rfl, rfl, ⟨by omega, Below.refl _ _⟩⟩
 case round =>
  clear p2 p3 p4
  obtain ⟨q, r, hq, rfl, rfl, HQ⟩ := hrel
  obtain ⟨hqn, hb⟩ := HQ.out
  have HN := Aside0.mk hqn
  have HBQ := Aside0.mk hb
  have HBT := Aside0.mk (below_then HB.out HB.out.size hb)
  have HXq := Aside0.mk ((hb.block w.heap.size (blk_lt HX.out)).trans HX.out)
  have p4 := (blk_cell HXq.out 4).trans rfl
  clear HQ hqn hb
  by_cases hqlt : q < x.f4.length
  ·obtain ⟨ad, A3q, c3q, A4q, c4q, hA, a0, a1, a2, a3, a4, hl3, hC3, hl4, hC4⟩ := at_T25 H4.out (q : Int) (by omega) (by omega)
   subst hA
   rw [Int.toNat_natCast] at a0 a1 a2 a3 a4
   replace a0 := pw_cell_below HBT.out a0
   replace a1 := pw_cell_below HBT.out a1
   replace a2 := pw_cell_below HBT.out a2
   replace a3 := pw_cell_below HBT.out a3
   replace a4 := pw_cell_below HBT.out a4
   obtain ⟨y, hy⟩ : ∃ y, y = rd_T25 x.f4 (q : Int) := ⟨_, rfl⟩
   rw [← hy] at a0 a1 a2 a3 a4 hl3 hC3 hl4 hC4
   have HY := Aside0.mk (rd_take x.f4 q hqlt)
   rw [← hy] at HY
   clear hy
   have CY := Aside0.mk (IH.out y HY.out.1 r (wrap64 (op + 1)) wr A3q c3q A4q c4q hl4 (k25.C_below hC4 HBT.out))
   clear hl3 hC3 hl4 hC4
   go_wp2_with (go_at_call 19; go_loud (with_reducible refine CY.out.mono ?_); rintro e w4 ⟨⟨r', rfl⟩, hb4⟩; have HBZ := Aside0.mk hb4; clear hb4)
   all_goals first | (go_ret; exact ⟨⟨_, rfl⟩, below_then HBT.out HBT.out.size HBZ.out⟩) | skip
   go_roundg (gk - 1)
   case measure => have := HN.out; omega
   case rel => exact ⟨q + 1, _, by omega, rfl, by go_num, ⟨by have := HN.out; omega, below_then HBQ.out HBQ.out.size HBZ.out⟩⟩
  ·go_wp2_with fail
   go_ret
   exact ⟨⟨_, rfl⟩, HBT.out⟩
theorem few_c (x : DT) (hx : OkD x) : fewC x := by
 induction hx with
 | mk x h0 h1 h2 n3 h3 n4 h4 ih => exact few_step x n4 ih
set_option maxHeartbeats 4000000 in
theorem Few_c (x : DT) (hx : OkD x) (m : Int) (w : World) (A3 : Option Addr) (c3 : Nat) (A4 : Option Addr) (c4 : Nat) (l4 : x.f4.length ≤ c4) (g4 : k25.C w A4 x.f4.length x.f4) :
  Calls Tryz.prog 7 #[aggD x A3 c3 A4 c4, .int .i64 m] w fun e w' => (∃ q : Bool, e = .returned (.bool q)) ∧ Below w.heap.size w w' := by
 have HB := Aside0.mk (below_alloc (Below.refl w.heap.size w) (xBox x A3 c3 A4 c4))
 have CW := Aside0.mk (few_c x hx m 0 _ A3 c3 A4 c4 l4 (k25.C_below g4 HB.out))
 clear g4 hx
 go_enter Tryz.func7, Tryz.ntmps7
 go_wp2_with (go_at_call 19; go_loud (with_reducible refine CW.out.mono ?_); rintro e w1 ⟨⟨r, rfl⟩, hb⟩; have HB1 := Aside0.mk (below_then HB.out HB.out.size hb); clear hb)
 go_ret
 exact ⟨⟨_, rfl⟩, HB1.out⟩
end Go.Proofs.YtidcecpbihmloaaGreatDoorE

namespace Go.Proofs.YtidcecpbihmloaaGreatDoorE
open Go Go.RowKit Go.Proofs.YtidcecpbihmloaaGreatDoorW.PrintWords Go.Proofs.YtidcecpbihmloaaGreatDoorW.PrintMore Go.Proofs.YtidcecpbihmloaaGreatDoorW.PrintLast Go.Proofs.YtidcecpbihmloaaGreatDoorX Go.Proofs.YtidcecpbihmloaaGreatDoor.P16 Go.Proofs.YtidcecpbihmloaaGreatDoor.M02
set_option linter.unusedVariables false
set_option linter.unusedSimpArgs false
set_option maxRecDepth 100000
theorem okD_get (x : DT) (hx : OkD x) (name : ByteArray) : OkD (getS x name).1 := by
 unfold getS
 split
 ·split
  ·rename_i i h
   rw [List.getD_eq_getElem?_getD]
   by_cases hi : i < x.f4.length
   ·rw [List.getElem?_eq_getElem hi]
    exact hx.out.2.2.2.2.2.2 _ (List.getElem_mem hi)
   ·rw [List.getElem?_eq_none (by omega)]
    exact okD_zero
  ·exact okD_zero
 ·exact okD_zero
theorem getS_at (x : DT) (name : ByteArray) (h5 : x.f0 = 5) (hr : rightD x = true) (k : Nat) (hk : k < x.f3.length) (he : x.f3.getD k em = name) : getS x name = (rd_T25 x.f4 (k : Int), true) ∧ k < x.f4.length := by
 obtain ⟨r, hwr⟩ := Option.isSome_iff_exists.1 hr
 obtain ⟨hL, hp, -, hnm, hwl⟩ := weigh_plain hwr
 have hn34 : x.f3.length = x.f4.length := by
  have hpl : plainD ⟨x.f0, x.f1, x.f2, x.f3, x.f4⟩ = true := hp
  rcases plain_cases hpl with ⟨e0, _⟩ | ⟨e0, _⟩ | ⟨e0, _⟩ | ⟨e0, _⟩ | ⟨e0, _⟩ | ⟨_, _, _, h3⟩
  all_goals first | exact h3 | (rw [h5] at e0; cases e0)
 refine ⟨?_, by omega⟩
 rw [getS_in x name h5 hr k hk he hnm]
 unfold rd_T25
 rw [Int.toNat_natCast, List.getD_eq_getElem?_getD, List.getD_eq_getElem?_getD, List.getElem?_eq_getElem (by omega : k < x.f4.length)]
 rfl
set_option maxHeartbeats 16000000 in
theorem DatumGets_c (x : DT) (hx : OkD x) (name : ByteArray) (w : World) (hgl : GL w) (A3 : Option Addr) (c3 : Nat) (A4 : Option Addr) (c4 : Nat) (l3 : x.f3.length ≤ c3) (g3 : Kd.string.C w A3 x.f3.length x.f3) (l4 : x.f4.length ≤ c4) (g4 : k25.C w A4 x.f4.length x.f4) : Calls Tryz.prog 3 #[aggD x A3 c3 A4 c4, .string name] w fun e w' => e = .returned (.bool true) ∧ Below w.heap.size w w' := by
 have HS : Aside0 (∀ W, GL W → Calls Tryz.prog 8 #[] W fun e w' => e = .returned (.bool true) ∧ Below W.heap.size W w') := ⟨same_c⟩
 have HG := Aside0.mk hgl
 have HB := Aside0.mk (below_alloc (Below.refl w.heap.size w) (xBox x A3 c3 A4 c4))
 have HX := Aside0.mk (heap_alloc_new w (xBox x A3 c3 A4 c4))
 have H3 := Aside0.mk g3
 have H4 := Aside0.mk g4
 have HXO := Aside0.mk hx
 have hn3 : x.f3.length ≤ 140737488351232 := hx.out.2.2.2.1
 have hn4 : x.f4.length ≤ 140737488351232 := hx.out.2.2.2.2.2.1
 have HF := Aside0.mk (Few_c x hx 300 _ A3 c3 A4 c4 l4 (k25.C_below g4 HB.out))
 obtain ⟨P, hP⟩ : ∃ P, P = getS x name := ⟨_, rfl⟩
 obtain ⟨z, b⟩ := P
 have HP := Aside0.mk hP
 have HZO := Aside0.mk (show OkD z from by have := okD_get x hx name; rw [← hP] at this; exact this)
 have HGE : Aside0 (∀ W, GL W → Below w.heap.size w W → Calls Tryz.prog 9 #[aggD x A3 c3 A4 c4, .string name] W (getP W (z, b))) := ⟨fun W h hb => hP ▸ Get_c x hx name W h A3 c3 A4 c4 l3 (Kd.string.C_below g3 hb) l4 (k25.C_below g4 hb)⟩
 obtain ⟨rv, hrv⟩ : ∃ v, rightD x = v := ⟨_, rfl⟩
 have HRX : Aside0 (∀ W, GL W → Below w.heap.size w W → Calls Tryz.prog 10 #[aggD x A3 c3 A4 c4] W fun e w' => e = .returned (.bool rv) ∧ Below W.heap.size W w') := ⟨fun W h hb => hrv ▸ rRight_c x hx W h A3 c3 A4 c4 l3 (Kd.string.C_below g3 hb) l4 (k25.C_below g4 hb)⟩
 have HRV := Aside0.mk hrv
 have hl3 := l3
 have hl4 := l4
 clear hgl g3 g4 hx hP hrv
 go_enter Tryz.func3, Tryz.ntmps3
 go_upto_region 1 with fail
 generalize hW : w.alloc (.cells #[.int .i64 x.f0, .int .i64 x.f1, .string x.f2, .slice A3 x.f3.length c3, .slice A4 x.f4.length c4] 25) = W at HB HX HF ⊢
 clear hW
 have p0 := (blk_cell HX.out 0).trans rfl
 have p1 := (blk_cell HX.out 1).trans rfl
 have p2 := (blk_cell HX.out 2).trans rfl
 have p3 := (blk_cell HX.out 3).trans rfl
 have p4 := (blk_cell HX.out 4).trans rfl
 go_upto_region 3 with (first | (go_at_call 7; go_loud (with_reducible refine HF.out.mono ?_); rintro e w1 ⟨⟨q, rfl⟩, hb⟩; have HB1 := Aside0.mk (below_then HB.out HB.out.size hb); have HX1 := Aside0.mk ((hb.block w.heap.size (blk_lt HX.out)).trans HX.out); clear hb) | (go_at_call 8; go_loud (with_reducible refine (HS.out _ (HG.out.below HB1.out)).mono ?_); rintro e w2 ⟨rfl, hb⟩; have HB2 := Aside0.mk (below_then HB1.out HB1.out.size hb); clear hb))
 all_goals first | (go_ret; exact ⟨rfl, HB2.out⟩) | skip
 clear p0 p1 p2 p3 p4
 have p0 := (blk_cell HX1.out 0).trans rfl
 have p1 := (blk_cell HX1.out 1).trans rfl
 have p2 := (blk_cell HX1.out 2).trans rfl
 have p3 := (blk_cell HX1.out 3).trans rfl
 have p4 := (blk_cell HX1.out 4).trans rfl
 go_upto_region 4 with (go_at_call 9; go_loud (with_reducible refine (HGE.out _ (HG.out.below HB1.out) HB1.out).mono ?_); rintro e w2 ⟨hb, A3z, c3z, A4z, c4z, rfl, m1, m2, m3, m4⟩; have HB2 := Aside0.mk (below_then HB1.out HB1.out.size hb); have HX2 := Aside0.mk ((hb.block w.heap.size (blk_lt HX1.out)).trans HX1.out); have HM2 := Aside0.mk (And.intro (And.intro m1 m2) (And.intro m3 m4)); clear hb m1 m2 m3 m4)
 have HA2 := Aside0.mk (below_alloc (Below.refl w2.heap.size w2) (xBox z A3z c3z A4z c4z))
 have HZ3 := Aside0.mk (heap_alloc_new w2 (xBox z A3z c3z A4z c4z))
 generalize hW : w2.alloc (.cells #[.int .i64 z.f0, .int .i64 z.f1, .string z.f2, .slice A3z z.f3.length c3z, .slice A4z z.f4.length c4z] 25) = w3 at HA2 HZ3 ⊢
 clear hW p0 p1 p2 p3 p4
 have HB3 := Aside0.mk (below_then HB2.out HB2.out.size HA2.out)
 have HX3 := Aside0.mk ((HA2.out.block w.heap.size (blk_lt HX2.out)).trans HX2.out)
 have HM3 := Aside0.mk (And.intro (And.intro HM2.out.1.1 (Kd.string.C_below HM2.out.1.2 HA2.out)) (And.intro HM2.out.2.1 (k25.C_below HM2.out.2.2 HA2.out)))
 obtain ⟨gz, hgz⟩ : ∃ g, g = w2.heap.size := ⟨_, rfl⟩
 rw [← hgz] at HZ3 ⊢
 have HGZ := Aside0.mk (show w.heap.size ≤ gz by rw [hgz]; exact HB2.out.size)
 clear hgz HA2 HX2 HB2 HM2 HX1 HB1
 by_cases h5 : x.f0 = 5 ∧ rv = true
 ·obtain ⟨h5, rfl⟩ := h5
  have HR5 := Aside0.mk (And.intro h5 HRV.out)
  have k5 : (x.f0 == 5) = true := by rw [h5]; rfl
  clear h5
  have p0 := (blk_cell HX3.out 0).trans rfl
  have p1 := (blk_cell HX3.out 1).trans rfl
  have p2 := (blk_cell HX3.out 2).trans rfl
  have p3 := (blk_cell HX3.out 3).trans rfl
  have p4 := (blk_cell HX3.out 4).trans rfl
  go_upto_region 5 with (go_at_call 10; go_loud (with_reducible refine (HRX.out _ (HG.out.below HB3.out) HB3.out).mono ?_); rintro e w4 ⟨rfl, hb⟩; have hx4 := (hb.block w.heap.size (blk_lt HX3.out)).trans HX3.out; have HX4 := Aside0.mk hx4; have HZ4 := Aside0.mk ((hb.block gz (blk_lt HZ3.out)).trans HZ3.out); have H34 := Aside0.mk hb; have q0 := (blk_cell hx4 0).trans rfl; clear hb hx4)
  clear p0 p1 p2 p3 p4 k5 q0
  have p3 := (blk_cell HX4.out 3).trans rfl
  go_wp2_with fail
  go_loopg [33] x.f3.length (fun gk i wr => ∃ k : Nat, k ≤ x.f3.length ∧ i = .int .i64 k ∧ Aside0 (k + gk = x.f3.length ∧ Below w3.heap.size w3 wr ∧ ∀ j, j < k → x.f3.getD j em ≠ name))
  case atStart => exact ⟨0, by omega, rfl, ⟨by omega, H34.out, fun j hj => by omega⟩⟩
  case round =>
   clear p3
   obtain ⟨k, hk, rfl, HV⟩ := hrel
   obtain ⟨hkg, hb, he⟩ := HV.out
   have HB3r := Aside0.mk hb
   have HN := Aside0.mk hkg
   have HE := Aside0.mk he
   have HBr := Aside0.mk (below_then HB3.out HB3.out.size hb)
   have HXr := Aside0.mk ((hb.block w.heap.size (blk_lt HX3.out)).trans HX3.out)
   have HZr := Aside0.mk ((hb.block gz (blk_lt HZ3.out)).trans HZ3.out)
   clear HV hkg hb he
   have p3 := (blk_cell HXr.out 3).trans rfl
   have p4 := (blk_cell HXr.out 4).trans rfl
   by_cases hlt : k < x.f3.length
   ·obtain ⟨ad, hade, n1⟩ := Kd.at_string (Kd.C_below H3.out HBr.out) (k : Int) (by omega) (by omega)
    rw [Int.toNat_natCast, get_rdOf] at n1
    subst hade
    obtain ⟨s, hs⟩ : ∃ s, s = x.f3.getD k em := ⟨_, rfl⟩
    rw [← hs] at n1
    have HSS := Aside0.mk hs
    clear hs
    by_cases hq : s = name
    ·subst hq
     have hseq : (s.toList == s.toList) = true := by simp
     have HAT := Aside0.mk (getS_at x s HR5.out.1 HR5.out.2 k hlt HSS.out.symm)
     have hk4 : k < x.f4.length := HAT.out.2
     obtain ⟨ad4, A3q, c3q, A4q, c4q, hA, a0, a1, a2, a3, a4, hl3q, hC3, hl4q, hC4⟩ := at_T25 H4.out (k : Int) (by omega) (by omega)
     have hzb := HP.out.trans HAT.out.1
     injection hzb with hz hbt
     subst hbt
     rw [← hz] at a0 a1 a2 a3 a4 hl3q hC3 hl4q hC4
     clear hz
     rw [Int.toNat_natCast] at a0 a1 a2 a3 a4
     subst hA
     replace a0 := pw_cell_below HBr.out a0
     replace a1 := pw_cell_below HBr.out a1
     replace a2 := pw_cell_below HBr.out a2
     replace a3 := pw_cell_below HBr.out a3
     replace a4 := pw_cell_below HBr.out a4
     have z0 := (blk_cell HZr.out 0).trans rfl
     have z1 := (blk_cell HZr.out 1).trans rfl
     have z2 := (blk_cell HZr.out 2).trans rfl
     have z3 := (blk_cell HZr.out 3).trans rfl
     have z4 := (blk_cell HZr.out 4).trans rfl
     have HSQ : Aside0 (∀ W, Below wr.heap.size wr W → Calls Tryz.prog 11 #[aggD z A3z c3z A4z c4z, aggD z A3q c3q A4q c4q] W fun e w' => e = .returned (.bool true) ∧ Below W.heap.size W w') := ⟨fun W hb => Same_c z z HZO.out true (Iff.intro (fun _ => rfl) (fun _ => rfl)) W (HG.out.below (below_then HBr.out HBr.out.size hb)) A3z c3z A4z c4z HM3.out.1.1 (Kd.string.C_below HM3.out.1.2 (below_then HB3r.out HB3r.out.size hb)) HM3.out.2.1 (k25.C_below HM3.out.2.2 (below_then HB3r.out HB3r.out.size hb)) A3q c3q A4q c4q hl3q (Kd.string.C_below hC3 (below_then HBr.out HBr.out.size hb)) hl4q (k25.C_below hC4 (below_then HBr.out HBr.out.size hb))⟩
     have HSM : Aside0 (∀ W, Below wr.heap.size wr W → Calls Tryz.prog 8 #[] W fun e w' => e = .returned (.bool true) ∧ Below W.heap.size W w') := ⟨fun W hb => HS.out W (HG.out.below (below_then HBr.out HBr.out.size hb))⟩
     clear hl3q hC3 hl4q hC4
     go_upto_region 9 with fail
     have HSS : (wr.drew.cell? ⟨w.heap.size, 4, none⟩ = some (.slice (some ad4) x.f4.length c4) ∧ wr.drew.cell? ⟨gz, 0, none⟩ = some (.int .i64 z.f0) ∧ wr.drew.cell? ⟨gz, 1, none⟩ = some (.int .i64 z.f1) ∧ wr.drew.cell? ⟨gz, 2, none⟩ = some (.string z.f2) ∧ wr.drew.cell? ⟨gz, 3, none⟩ = some (.slice A3z z.f3.length c3z) ∧ wr.drew.cell? ⟨gz, 4, none⟩ = some (.slice A4z z.f4.length c4z) ∧ wr.drew.cell? (ad4.add (k * 5)) = some (.int .i64 z.f0) ∧ wr.drew.cell? ⟨(ad4.add (k * 5)).block, (ad4.add (k * 5)).off + 1, none⟩ = some (.int .i64 z.f1) ∧ wr.drew.cell? ⟨(ad4.add (k * 5)).block, (ad4.add (k * 5)).off + 2, none⟩ = some (.string z.f2) ∧ wr.drew.cell? ⟨(ad4.add (k * 5)).block, (ad4.add (k * 5)).off + 3, none⟩ = some (.slice A3q z.f3.length c3q) ∧ wr.drew.cell? ⟨(ad4.add (k * 5)).block, (ad4.add (k * 5)).off + 4, none⟩ = some (.slice A4q z.f4.length c4q)) ∧ Below wr.heap.size wr wr.drew := ⟨⟨cell_drew p4, cell_drew z0, cell_drew z1, cell_drew z2, cell_drew z3, cell_drew z4, cell_drew a0, cell_drew a1, cell_drew a2, cell_drew a3, cell_drew a4⟩, below_drew (Below.refl _ _)⟩
     clear p3 p4 a0 a1 a2 a3 a4 z0 z1 z2 z3 z4
     go_region_held3 (fun w' => (w'.cell? ⟨w.heap.size, 4, none⟩ = some (.slice (some ad4) x.f4.length c4) ∧ w'.cell? ⟨gz, 0, none⟩ = some (.int .i64 z.f0) ∧ w'.cell? ⟨gz, 1, none⟩ = some (.int .i64 z.f1) ∧ w'.cell? ⟨gz, 2, none⟩ = some (.string z.f2) ∧ w'.cell? ⟨gz, 3, none⟩ = some (.slice A3z z.f3.length c3z) ∧ w'.cell? ⟨gz, 4, none⟩ = some (.slice A4z z.f4.length c4z) ∧ w'.cell? (ad4.add (k * 5)) = some (.int .i64 z.f0) ∧ w'.cell? ⟨(ad4.add (k * 5)).block, (ad4.add (k * 5)).off + 1, none⟩ = some (.int .i64 z.f1) ∧ w'.cell? ⟨(ad4.add (k * 5)).block, (ad4.add (k * 5)).off + 2, none⟩ = some (.string z.f2) ∧ w'.cell? ⟨(ad4.add (k * 5)).block, (ad4.add (k * 5)).off + 3, none⟩ = some (.slice A3q z.f3.length c3q) ∧ w'.cell? ⟨(ad4.add (k * 5)).block, (ad4.add (k * 5)).off + 4, none⟩ = some (.slice A4q z.f4.length c4q)) ∧ Below wr.heap.size wr w')
      (first
       | with_reducible exact HSS
       |(go_split_ands
         with_reducible exact ⟨⟨pw_cell_below hbf (by with_reducible assumption), pw_cell_below hbf (by with_reducible assumption), pw_cell_below hbf (by with_reducible assumption), pw_cell_below hbf (by with_reducible assumption), pw_cell_below hbf (by with_reducible assumption), pw_cell_below hbf (by with_reducible assumption), pw_cell_below hbf (by with_reducible assumption), pw_cell_below hbf (by with_reducible assumption), pw_cell_below hbf (by with_reducible assumption), pw_cell_below hbf (by with_reducible assumption), pw_cell_below hbf (by with_reducible assumption)⟩, then_w (by with_reducible assumption) hbf⟩))
      (first
       |(go_at_call 11
         go_loud (
         refine (HSQ.out _ ?hb).mono ?_
         case hb => first | with_reducible assumption | (go_split_ands; with_reducible assumption)
         rintro e w5 ⟨rfl, hbf⟩))
       |(go_at_call 8
         go_loud (
         refine (HSM.out _ ?hb).mono ?_
         case hb => first | with_reducible assumption | (go_split_ands; with_reducible assumption)
         rintro e w6 ⟨rfl, hbf⟩)))
     go_split_ands
     have HB6 := Aside0.mk (show Below wr.heap.size wr w6 by with_reducible assumption)
     go_wp2_with fail
     go_ret
     exact ⟨rfl, below_then HBr.out HBr.out.size HB6.out⟩
    ·have hne : (s.toList == name.toList) = false := by
      rw [beq_eq_false_iff_ne]
      exact fun h => hq ((toList_iff _ _).1 h)
     have HNE := Aside0.mk hq
     clear hq
     go_wp2_with fail
     go_roundg (gk - 1)
     case measure => have := HN.out; omega
     case rel => exact ⟨k + 1, by omega, by go_num, ⟨by have := HN.out; omega, HB3r.out, fun j hj => by
      by_cases hjk : j = k
      ·rw [hjk, ← HSS.out]; exact HNE.out
      ·exact HE.out j (by omega)⟩⟩
   ·have HZQ := Aside0.mk (show z = zeroD ∧ b = false from by
     have h := HP.out
     rw [getS_out x name (fun hm => by
      obtain ⟨i, hi, he⟩ := List.getElem_of_mem hm
      have h2 := HE.out i (by omega)
      rw [List.getD_eq_getElem?_getD, List.getElem?_eq_getElem hi] at h2
      exact h2 he)] at h
     injection h with h1 h2
     exact ⟨h1, h2⟩)
    clear HE HN
    have HSZ : Aside0 (∀ W, GL W → Below w3.heap.size w3 W → Calls Tryz.prog 11 #[aggD z A3z c3z A4z c4z, .agg zCells] W fun e w' => e = .returned (.bool true) ∧ Below W.heap.size W w') := ⟨fun W h hb => Same_c z zeroD HZO.out true (Iff.intro (fun _ => HZQ.out.1) (fun _ => rfl)) W h A3z c3z A4z c4z HM3.out.1.1 (Kd.string.C_below HM3.out.1.2 hb) HM3.out.2.1 (k25.C_below HM3.out.2.2 hb) none 0 none 0 (Nat.le_refl _) (Kd.C_nil _ _) (Nat.le_refl _) (Kd.C_nil _ _)⟩
    obtain ⟨-, rfl⟩ := HZQ.out
    have z0 := (blk_cell HZr.out 0).trans rfl
    have z1 := (blk_cell HZr.out 1).trans rfl
    have z2 := (blk_cell HZr.out 2).trans rfl
    have z3 := (blk_cell HZr.out 3).trans rfl
    have z4 := (blk_cell HZr.out 4).trans rfl
    go_wp2_with (first | (go_at_call 11; go_loud (refine (HSZ.out _ (HG.out.below HBr.out) HB3r.out).mono ?_); rintro e w5 ⟨rfl, hb⟩; have HB5 := Aside0.mk (below_then HBr.out HBr.out.size hb); clear hb) | (go_at_call 8; go_loud (with_reducible refine (HS.out _ (HG.out.below HB5.out)).mono ?_); rintro e w6 ⟨rfl, hb⟩; have HB6 := Aside0.mk (below_then HB5.out HB5.out.size hb); clear hb))
    go_ret
    exact ⟨rfl, HB6.out⟩
 ·have HZQ := Aside0.mk (show z = zeroD ∧ b = false from by
   have h := HP.out
   rw [getS_none x name (fun hm => h5 ⟨hm.1, HRV.out.symm.trans hm.2⟩)] at h
   injection h with h1 h2
   exact ⟨h1, h2⟩)
  have p0 := (blk_cell HX3.out 0).trans rfl
  have p1 := (blk_cell HX3.out 1).trans rfl
  have p2 := (blk_cell HX3.out 2).trans rfl
  have p3 := (blk_cell HX3.out 3).trans rfl
  have p4 := (blk_cell HX3.out 4).trans rfl
  cases rv with
  | false =>
   have HSZ : Aside0 (∀ W, GL W → Below w3.heap.size w3 W → Calls Tryz.prog 11 #[aggD z A3z c3z A4z c4z, .agg zCells] W fun e w' => e = .returned (.bool true) ∧ Below W.heap.size W w') := ⟨fun W h hb => Same_c z zeroD HZO.out true (Iff.intro (fun _ => HZQ.out.1) (fun _ => rfl)) W h A3z c3z A4z c4z HM3.out.1.1 (Kd.string.C_below HM3.out.1.2 hb) HM3.out.2.1 (k25.C_below HM3.out.2.2 hb) none 0 none 0 (Nat.le_refl _) (Kd.C_nil _ _) (Nat.le_refl _) (Kd.C_nil _ _)⟩
   obtain ⟨-, rfl⟩ := HZQ.out
   clear h5
   go_wp2_with (first | (go_at_call 10; go_loud (with_reducible refine (HRX.out _ (HG.out.below HB3.out) HB3.out).mono ?_); rintro e w4 ⟨rfl, hb⟩; have hx4 := (hb.block w.heap.size (blk_lt HX3.out)).trans HX3.out; have hz4 := (hb.block gz (blk_lt HZ3.out)).trans HZ3.out; have H34 := Aside0.mk hb; have HB4 := Aside0.mk (below_then HB3.out HB3.out.size hb); have q0 := (blk_cell hx4 0).trans rfl; have z0 := (blk_cell hz4 0).trans rfl; have z1 := (blk_cell hz4 1).trans rfl; have z2 := (blk_cell hz4 2).trans rfl; have z3 := (blk_cell hz4 3).trans rfl; have z4 := (blk_cell hz4 4).trans rfl; clear hb hx4 hz4) | (go_at_call 11; go_loud (refine (HSZ.out _ (HG.out.below HB4.out) H34.out).mono ?_); rintro e w5 ⟨rfl, hb⟩; have HB5 := Aside0.mk (below_then HB4.out HB4.out.size hb); clear hb) | (go_at_call 8; go_loud (with_reducible refine (HS.out _ (HG.out.below HB5.out)).mono ?_); rintro e w6 ⟨rfl, hb⟩; have HB6 := Aside0.mk (below_then HB5.out HB5.out.size hb); clear hb))
   go_ret
   exact ⟨rfl, HB6.out⟩
  | true =>
   have k5 : (x.f0 == 5) = false := by rw [beq_eq_false_iff_ne]; exact fun h => h5 ⟨h, rfl⟩
   have HSZ : Aside0 (∀ W, GL W → Below w3.heap.size w3 W → Calls Tryz.prog 11 #[aggD z A3z c3z A4z c4z, .agg zCells] W fun e w' => e = .returned (.bool true) ∧ Below W.heap.size W w') := ⟨fun W h hb => Same_c z zeroD HZO.out true (Iff.intro (fun _ => HZQ.out.1) (fun _ => rfl)) W h A3z c3z A4z c4z HM3.out.1.1 (Kd.string.C_below HM3.out.1.2 hb) HM3.out.2.1 (k25.C_below HM3.out.2.2 hb) none 0 none 0 (Nat.le_refl _) (Kd.C_nil _ _) (Nat.le_refl _) (Kd.C_nil _ _)⟩
   obtain ⟨-, rfl⟩ := HZQ.out
   clear h5
   go_wp2_with (first | (go_at_call 10; go_loud (with_reducible refine (HRX.out _ (HG.out.below HB3.out) HB3.out).mono ?_); rintro e w4 ⟨rfl, hb⟩; have hx4 := (hb.block w.heap.size (blk_lt HX3.out)).trans HX3.out; have hz4 := (hb.block gz (blk_lt HZ3.out)).trans HZ3.out; have H34 := Aside0.mk hb; have HB4 := Aside0.mk (below_then HB3.out HB3.out.size hb); have q0 := (blk_cell hx4 0).trans rfl; have z0 := (blk_cell hz4 0).trans rfl; have z1 := (blk_cell hz4 1).trans rfl; have z2 := (blk_cell hz4 2).trans rfl; have z3 := (blk_cell hz4 3).trans rfl; have z4 := (blk_cell hz4 4).trans rfl; clear hb hx4 hz4) | (go_at_call 11; go_loud (refine (HSZ.out _ (HG.out.below HB4.out) H34.out).mono ?_); rintro e w5 ⟨rfl, hb⟩; have HB5 := Aside0.mk (below_then HB4.out HB4.out.size hb); clear hb) | (go_at_call 8; go_loud (with_reducible refine (HS.out _ (HG.out.below HB5.out)).mono ?_); rintro e w6 ⟨rfl, hb⟩; have HB6 := Aside0.mk (below_then HB5.out HB5.out.size hb); clear hb))
   go_ret
   exact ⟨rfl, HB6.out⟩
end Go.Proofs.YtidcecpbihmloaaGreatDoorE

namespace Go.Proofs.YtidcecpbihmloaaGreatDoorE
open Go Go.RowKit Go.ChangeShapes Go.WideShapes Go.Proofs.YtidcecpbihmloaaGreatDoorW.PrintWords
set_option linter.unusedVariables false
set_option linter.unusedSimpArgs false
namespace Op
/-- The weights of a piece of data are in reach. -/
def Sz {H : Type} (P : Program) (t : TypeId) (d : DataW H) : Prop := ∀ n ∈ d.weights P t, n ≤ 140737488351232
def SzEach {H : Type} (P : Program) (ts : List TypeId) (ds : List (DataW H)) : Prop := ∀ n ∈ DataW.weightsEach P ts ds, n ≤ 140737488351232
/-- What reads at type t with so much fuel is a value of kind d, of which ok holds. -/
def At {α : Type} (P : Program) (fuel : Nat) (t : TypeId) (d : Kd α) (ok : α → Prop) : Prop :=
 ∀ (H : Type) (enc : TypeId × Value → H) (w : World) (base : Nat) (spare : Nat → Bool) (held : Bool) (cs : List Value) (x : DataW H × List MemPlace), DataW.trod enc P w base spare held fuel t cs = some x → Sz P t x.1 → ∃ a, d.K w a cs ∧ ok a
/-- Fields one behind the other. -/
def Fields {β : Type} (P : Program) (fuel : Nat) (ts : List TypeId) (d : Kd β) (ok : β → Prop) : Prop :=
 ∀ (H : Type) (enc : TypeId × Value → H) (w : World) (base : Nat) (spare : Nat → Bool) (held : Bool) (cs : List Value) (xs : List (DataW H × List MemPlace)), cs.length = (ts.map P.cellsOf).sum → xs.length = ts.length →
  (∀ (i : Nat) (t : TypeId), ts[i]? = some t → DataW.trod enc P w base spare held fuel t ((cs.drop ((ts.take i).map P.cellsOf).sum).take (P.cellsOf t)) = xs[i]?) → SzEach P ts (xs.map (·.1)) → ∃ a, d.K w a cs ∧ ok a
theorem string {P : Program} {fuel : Nat} {t : TypeId} (hu : P.underlying t = some .string) : At P fuel t Kd.string (fun s => s.size ≤ 140737488351232) := by
 intro H enc w base spare held cs x h hs
 obtain ⟨s, h1, rfl, -⟩ : ∃ s : ByteArray, x = (.lit (.string s.data.toList), []) ∧ cs = [.string s] ∧ True := by
  cases fuel with
  | zero => simp [DataW.trod] at h
  | succ n =>
   unfold DataW.trod at h
   rw [hu] at h
   split at h <;> simp_all
 subst h1
 refine ⟨s, rfl, ?_⟩
 have := hs s.data.toList.length (by simp [DataW.weights])
 rw [Array.length_toList] at this
 exact this
theorem int {P : Program} {fuel : Nat} {t : TypeId} {k : IntKind} (hu : P.underlying t = some (.int k)) : At P fuel t (Kd.int k) (fun a => (Lit.int k a).wf = true) := by
 intro H enc w base spare held cs x h hs
 obtain ⟨a, rfl, h1⟩ : ∃ a : Int, cs = [.int k a] ∧ (Lit.int k a).wf = true := by
  cases fuel with
  | zero => simp [DataW.trod] at h
  | succ n =>
   unfold DataW.trod at h
   rw [hu] at h
   split at h <;> simp_all
 exact ⟨a, rfl, h1⟩
theorem zero {α : Type} {P : Program} {t : TypeId} {d : Kd α} {ok : α → Prop} : At P 0 t d ok := by
 intro H enc w base spare held cs x h hs
 simp [DataW.trod] at h
theorem one {α : Type} {P : Program} {fuel : Nat} {t : TypeId} {d : Kd α} {ok : α → Prop} (h : At P fuel t d ok) : Fields P fuel [t] d ok := by
 intro H enc w base spare held cs xs hl hx hr hs
 have h0 := hr 0 t rfl
 simp only [List.map_cons, List.map_nil, List.sum_cons, List.sum_nil, Nat.add_zero] at hl
 simp only [List.take_zero, List.map_nil, List.sum_nil, List.drop_zero] at h0
 rw [← hl, List.take_length] at h0
 cases xs with
 | nil => simp at hx
 | cons x xs =>
  refine h H enc w base spare held cs x (by rw [h0]; rfl) (fun n hn => hs n ?_)
  simp [DataW.weightsEach]
  exact hn
theorem cons {α β : Type} {P : Program} {fuel : Nat} {t : TypeId} {ts : List TypeId} {d : Kd α} {ok : α → Prop} {d' : Kd β} {ok' : β → Prop} (h : At P fuel t d ok) (h' : Fields P fuel ts d' ok') :
  Fields P fuel (t :: ts) (Kd.pair d d') (fun x => ok x.1 ∧ ok' x.2) := by
 intro H enc w base spare held cs xs hl hx hr hs
 have h0 := hr 0 t rfl
 simp only [List.map_cons, List.sum_cons] at hl
 simp only [List.take_zero, List.map_nil, List.sum_nil, List.drop_zero] at h0
 cases xs with
 | nil => simp at hx
 | cons x xs =>
  obtain ⟨a, ha, oa⟩ := h H enc w base spare held (cs.take (P.cellsOf t)) x (by rw [h0]; rfl) (fun n hn => hs n (by simp [DataW.weightsEach]; exact Or.inl hn))
  obtain ⟨b, hb, ob⟩ := h' H enc w base spare held (cs.drop (P.cellsOf t)) xs (by rw [List.length_drop]; omega) (by simpa using hx) (fun i t' ht => by
   have := hr (i + 1) t' (by simpa using ht)
   rw [List.take_succ_cons, List.map_cons, List.sum_cons, ← List.drop_drop] at this
   rw [this]
   rfl) (fun n hn => hs n (by simp [DataW.weightsEach]; exact Or.inr hn))
  exact ⟨(a, b), ⟨_, _, (List.take_append_drop _ _).symm, ha, hb⟩, oa, ob⟩
theorem iso {α β : Type} {P : Program} {fuel : Nat} {ts : List TypeId} {d : Kd α} {ok : α → Prop} (f : β → α) (g : α → β) (hg : ∀ a, f (g a) = a) (h : Fields P fuel ts d ok) : Fields P fuel ts (Kd.iso d f) (fun b => ok (f b)) := by
 intro H enc w base spare held cs xs hl hx hr hs
 obtain ⟨a, ha, oa⟩ := h H enc w base spare held cs xs hl hx hr hs
 exact ⟨g a, show d.K w (f (g a)) cs by rw [hg]; exact ha, show ok (f (g a)) by rw [hg]; exact oa⟩
theorem struct {β : Type} {P : Program} {fuel : Nat} {t : TypeId} {fs : Array Field} {d : Kd β} {ok : β → Prop} (hu : P.underlying t = some (.struct fs)) (hc : P.cellsOf t = ((fs.toList.map (·.type)).map P.cellsOf).sum)
  (ho : ∀ i : Nat, ∀ f, fs[i]? = some f → f.offset = (((fs.toList.map (·.type)).take i).map P.cellsOf).sum) (h : Fields P fuel (fs.toList.map (·.type)) d ok) : At P (fuel + 1) t d ok := by
 intro H enc w base spare held cs x hr hs
 obtain ⟨xs, n, hn, rfl, hl, hx, hf⟩ := DataW.trod_struct hu hr
 obtain rfl : fuel = n := by omega
 refine h H enc w base spare held cs xs (by rw [hl, hc]) (by rw [hx, List.length_map, Array.length_toList]) (fun i t' ht => ?_) (fun n hn => hs n ?_)
 ·rw [List.getElem?_map] at ht
  obtain ⟨f, hf1, rfl⟩ := Option.map_eq_some_iff.1 ht
  rw [Array.getElem?_toList] at hf1
  rw [← hf i f hf1, ho i f hf1]
 ·show n ∈ DataW.weights P t (.agg (xs.map (·.1)))
  unfold DataW.weights
  simp only [hu]
  exact hn
theorem weightsAll_mem {H : Type} {P : Program} {e : TypeId} : ∀ {l : List (DataW H)} {d : DataW H}, d ∈ l → ∀ n ∈ d.weights P e, n ∈ DataW.weightsAll P e l
 | _ :: _, _, hd, n, hn => by
  rcases List.mem_cons.1 hd with rfl | hd
  ·simp [DataW.weightsAll]; exact Or.inl hn
  ·simp [DataW.weightsAll]; exact Or.inr (weightsAll_mem hd n hn)
theorem slice {α : Type} {P : Program} {fuel : Nat} {t e : TypeId} {d : Kd α} {ok : α → Prop} (hu : P.underlying t = some (.slice e)) (hz : d.sz = P.cellsOf e) (h : At P fuel e d ok) :
  At P (fuel + 1) t (Kd.slice e d) (fun xs => xs.length * P.bytesOf e ≤ 140737488351232 ∧ xs.length ≤ maxLen ∧ ∀ x ∈ xs, ok x) := by
 intro H enc w base spare held cs x hr hs
 rcases DataW.trod_slice hu hr with ⟨rfl, rfl⟩ | ⟨a, len, cap, elems, rest, n, hn, rfl, rfl, hb, hl, hm, hlen, hel, -, -⟩
 ·exact ⟨[], ⟨none, 0, rfl, Nat.le_refl _, Kd.C_nil d w⟩, by simp, by simp, fun x hx => by cases hx⟩
 ·obtain rfl : fuel = n := by omega
  have key : ∀ i, i < len → ∃ c y, w.cells? base (a.add (i * P.cellsOf e)) (P.cellsOf e) = some c ∧ d.K w y c ∧ ok y := by
   intro i hi
   have h1 := hel i hi
   rw [List.getElem?_eq_getElem (by omega)] at h1
   obtain ⟨c, hc1, hc2⟩ := Option.bind_eq_some_iff.1 h1
   obtain ⟨y, hy1, hy2⟩ := h H enc w base spare held c _ hc2 (fun n hn => hs n (by
    show n ∈ DataW.weights P t (.slice (elems.map (·.1)) (rest.map (·.1)))
    unfold DataW.weights
    simp only [hu]
    exact List.mem_cons_of_mem _ (List.mem_append.2 (Or.inl (weightsAll_mem (List.mem_map_of_mem (List.getElem_mem (by omega))) n hn)))))
   exact ⟨c, y, hc1, hy1, hy2⟩
  have build : ∀ m, m ≤ len → ∃ xs : List α, xs.length = m ∧ ∀ i y, xs[i]? = some y → ok y ∧ ∃ c, w.cells? base (a.add (i * P.cellsOf e)) (P.cellsOf e) = some c ∧ d.K w y c := by
   intro m
   induction m with
   | zero => exact fun _ => ⟨[], rfl, fun i y hy => by simp at hy⟩
   | succ m ih =>
    intro hm
    obtain ⟨xs, hx1, hx2⟩ := ih (by omega)
    obtain ⟨c, y, h1, h2, h3⟩ := key m (by omega)
    refine ⟨xs ++ [y], by simp [hx1], fun i z hz => ?_⟩
    rcases Nat.lt_or_ge i xs.length with hlt | hge
    ·rw [List.getElem?_append_left hlt] at hz
     exact hx2 i z hz
    ·have hi : i = m := by
      have := (List.getElem?_eq_some_iff.1 hz).1
      simp at this; omega
     subst hi
     rw [List.getElem?_append_right hge, hx1, Nat.sub_self] at hz
     obtain rfl : y = z := by simpa using hz
     exact ⟨h3, c, h1, h2⟩
  obtain ⟨xs, hx1, hx2⟩ := build len (Nat.le_refl _)
  have hw := hs ((elems.length + rest.length) * P.bytesOf e) (by
   show _ ∈ DataW.weights P t (.slice (elems.map (·.1)) (rest.map (·.1)))
   unfold DataW.weights
   simp only [hu]
   rw [List.length_map, List.length_map]
   exact List.mem_cons_self)
  refine ⟨xs, ⟨some a, cap, by rw [hx1], by omega, hx1.symm ▸ rfl, by unfold maxLen at hm; omega, fun _ => ⟨a, rfl, fun j p hp => ?_⟩⟩, ?_, by omega, fun x hx => ?_⟩
  ·obtain ⟨-, c, hc1, hc2⟩ := hx2 j p hp
   obtain ⟨-, hcl, hcc⟩ := World.cells?_some hc1
   refine ⟨c, by rw [hcl, hz], hc2, fun i u hu2 => ?_⟩
   have hi := (List.getElem?_eq_some_iff.1 hu2).1
   have := hcc i (by omega)
   rw [hu2, add_add] at this
   rw [hz]
   exact this
  ·exact Nat.le_trans (Nat.mul_le_mul_right _ (by omega)) hw
  ·obtain ⟨i, hi, rfl⟩ := List.getElem_of_mem hx
   exact (hx2 i _ (List.getElem?_eq_getElem hi)).1
theorem mono {α : Type} {P : Program} {fuel : Nat} {t : TypeId} {d d' : Kd α} {ok ok' : α → Prop} (h : At P fuel t d ok) (hk : ∀ w a cs, d.K w a cs → d'.K w a cs) (ho : ∀ a, ok a → ok' a) : At P fuel t d' ok' := by
 intro H enc w base spare held cs x hr hs
 obtain ⟨a, ha, oa⟩ := h H enc w base spare held cs x hr hs
 exact ⟨a, hk _ _ _ ha, ho a oa⟩
/-- A slice that came in, opened. -/
theorem arg {α : Type} {P : Program} {fuel : Nat} {t e : TypeId} {d : Kd α} {ok : List α → Prop} (h : At P fuel t (Kd.slice e d) ok) {H : Type} {enc : TypeId × Value → H} {w : World} {base : Nat} {spare : Nat → Bool} {held : Bool} {A : Option Addr} {n c : Nat} {x : DataW H × List MemPlace}
  (hr : DataW.trod enc P w base spare held fuel t (Value.slice A n c).cells.toList = some x) (hs : Sz P t x.1) : ∃ l : List α, n = l.length ∧ n ≤ c ∧ d.C w A l.length l ∧ ok l := by
 obtain ⟨l, ⟨A', c', he, hl, hC⟩, ho⟩ := h H enc w base spare held _ x hr hs
 have he' : [Value.slice A n c] = [Value.slice A' l.length c'] := he
 injection he' with he' _
 injection he' with h1 h2 h3
 subst h1 h3
 exact ⟨l, h2, by omega, hC, ho⟩
end Op
end Go.Proofs.YtidcecpbihmloaaGreatDoorE

namespace Go.Proofs.YtidcecpbihmloaaGreatDoorE
open Go Go.RowKit Go.ChangeShapes Go.WideShapes Go.Proofs.YtidcecpbihmloaaGreatDoorW.PrintWords Go.Proofs.YtidcecpbihmloaaGreatDoor.P16
set_option linter.unusedVariables false
set_option linter.unusedSimpArgs false
set_option maxRecDepth 100000
theorem wf_i64' {x : Int} (h : (Lit.int .i64 x).wf = true) : -9223372036854775808 ≤ x ∧ x ≤ 9223372036854775807 := by
 simp [Lit.wf, IntKind.min, IntKind.max, IntKind.bits, IntKind.signed] at h
 omega
theorem Op.slice_ {α : Type} {P : Program} {fuel : Nat} {t e : TypeId} {d : Kd α} {ok : α → Prop} (hu : P.underlying t = some (.slice e)) (hz : d.sz = P.cellsOf e) (hb : 0 < P.bytesOf e) (h : ∀ m, m + 1 = fuel → Op.At P m e d ok) :
  Op.At P fuel t (Kd.slice e d) (fun xs => xs.length ≤ 140737488351232 ∧ ∀ x ∈ xs, ok x) := by
 cases fuel with
 | zero => exact Op.zero
 | succ f => exact Op.mono (Op.slice hu hz (h f rfl)) (fun _ _ _ h => h) (fun a h => ⟨Nat.le_trans (Nat.le_mul_of_pos_right _ hb) h.1, h.2.2⟩)
theorem cellsO0 : Tryz.prog.cellsOf 9 = 1 := by kernel_rfl
theorem cellsO1 : Tryz.prog.cellsOf 3 = 1 := by kernel_rfl
theorem cellsO2 : Tryz.prog.cellsOf 22 = 1 := by kernel_rfl
theorem cellsO3 : Tryz.prog.cellsOf 23 = 1 := by kernel_rfl
theorem open_upto : ∀ n m : Nat, m ≤ n → Op.At Tryz.prog m 25 (Kd.upto F25 5 [9, 25] n) OkD
 | 0, m, h => by
  obtain rfl : m = 0 := by omega
  exact Op.zero
 | n + 1, 0, h => Op.zero
 | n + 1, m + 1, h => by
  have sS := Op.slice_ (fuel := m) Tryz.underlying22 (d := Kd.string) (ok := fun s => s.size ≤ 140737488351232) (by kernel_rfl) (of_decide_eq_true (by kernel_rfl)) (fun f _ => Op.string Tryz.underlying9)
  have sN := Op.slice_ (fuel := m) Tryz.underlying23 (d := Kd.upto F25 5 [9, 25] n) (ok := OkD) (by rw [sz25 n]; kernel_rfl) (of_decide_eq_true (by kernel_rfl)) (fun f hf => open_upto n f (by omega))
  refine Op.mono (d' := F25 (Kd.upto F25 5 [9, 25] n)) (Op.struct Tryz.underlying25 (by kernel_rfl) (fun i f hf => ?_) (Op.iso (fun x : DT => (x.f0, x.f1, x.f2, x.f3, x.f4)) (fun a => ⟨a.1, a.2.1, a.2.2.1, a.2.2.2.1, a.2.2.2.2⟩) (fun a => rfl) (Op.cons (Op.int Tryz.underlying3) (Op.cons (Op.int Tryz.underlying3) (Op.cons (Op.string Tryz.underlying9) (Op.cons sS (Op.one sN))))))) (fun w a cs h => h) (fun a h => OkD.mk a (wf_i64' h.1) (wf_i64' h.2.1) h.2.2.1 h.2.2.2.1.1 h.2.2.2.1.2 h.2.2.2.2.1 h.2.2.2.2.2)
  rcases i with _ | _ | _ | _ | _ | i <;> simp at hf <;> (subst hf; simp [cellsO0, cellsO1, cellsO2, cellsO3])
theorem open_datum (fuel : Nat) : Op.At Tryz.prog fuel 25 k25 OkD :=
 Op.mono (open_upto fuel fuel (Nat.le_refl _)) (fun w a cs h => (⟨fuel, h⟩ : ∃ n, (Kd.upto F25 5 [9, 25] n).K w a cs)) (fun _ h => h)
def openDatT (W : World) (v : Value) : Prop := ∃ (x : DT) (A3 : Option Addr) (c3 : Nat) (A4 : Option Addr) (c4 : Nat), v = aggD x A3 c3 A4 c4 ∧ OkD x ∧ x.f3.length ≤ c3 ∧ Kd.string.C W A3 x.f3.length x.f3 ∧ x.f4.length ≤ c4 ∧ k25.C W A4 x.f4.length x.f4
theorem openDat {H : Type} {enc : TypeId × Value → H} {W : World} {base : Nat} {spare : Nat → Bool} {held : Bool} {v : Value} {r : Reach} {b0 fuel : Nat} {d : DataW H} {ps : List MemPlace} (hv : Value.okWide Tryz.prog W r b0 25 v)
  (hf : DataW.trod enc Tryz.prog W base spare held fuel 25 v.cells.toList = some (d, ps)) (hs : ∀ m ∈ d.weights Tryz.prog 25, m ≤ 140737488351232) : openDatT W v := by
 obtain ⟨cs, rfl, hsz⟩ := okWide_struct Tryz.underlying25 hv
 obtain ⟨x, hK, hx⟩ := open_datum fuel H enc W base spare held _ _ hf hs
 obtain ⟨A3, c3, A4, c4, he, l3, g3, l4, g4⟩ := k25_open hK
 refine ⟨x, A3, c3, A4, c4, ?_, hx, l3, g3, l4, g4⟩
 congr 1
 apply Array.toList_inj.1
 exact he
end Go.Proofs.YtidcecpbihmloaaGreatDoorE

namespace Go.Proofs.YtidcecpbihmloaaGreatDoorE
open Go Go.RowKit Go.Proofs.YtidcecpbihmloaaGreatDoorX
set_option linter.unusedVariables false in
theorem datumGets_h (v : Value) (s : ByteArray) (W : World) (hg : GL W) (h : openDatT W v) (hs : s.size ≤ 140737488351232) : Calls Tryz.prog 3 #[v, .string s] W fun e w' => e = .returned (.bool true) ∧ Below W.heap.size W w' := by
 obtain ⟨x, A3, c3, A4, c4, rfl, hx, l3, g3, l4, g4⟩ := h
 exact DatumGets_c x hx s W hg A3 c3 A4 c4 l3 g3 l4 g4
end Go.Proofs.YtidcecpbihmloaaGreatDoorE

namespace Go.Proofs.YtidcecpbihmloaaGreatDoor.datumGets
open Go.ChangeShapes Go.WideShapes Go.ChangeAt Go.RowKit
open Go.ChangeMaps (open_string shut_string)
set_option linter.unusedVariables false
theorem own : ownKnob Tryz.prog.godebug = none := by kernel_rfl
theorem door_met (os : Os) (args : Array Value) : laidMetH Tryz.prog Rows.datumGetsRow.laid ((World.doorLaid Tryz.prog 63 os).forCall (fun _ _ => 0) ⟨#[], args, []⟩).memory :=
 laidMetH_of_parts3 (fuel := 8) (laidMet_of_run' 8 (by kernel_rfl) (by kernel_rfl)) (by kernel_rfl) (by kernel_rfl)
theorem gl {W : World} (h : laidMetH Tryz.prog Rows.datumGetsRow.laid W) : Go.Proofs.YtidcecpbihmloaaGreatDoorX.GL W := by
 rw [MakeChecks.laidMetH_plain _ _ _ (by kernel_rfl)] at h
 exact Go.Proofs.YtidcecpbihmloaaGreatDoorX.gl_of h
theorem laidOut : laidOutB Tryz.prog = true := by kernel_rfl
set_option maxRecDepth 100000 in
theorem lifted (os : Os) (started : os.Started) (H : Type) (enc : TypeId × Value → H) :
  ReturnsInHanded {} Tryz.checked os 3 .any (fun w args => (Rows.datumGetsSpec.pre enc Tryz.prog Tryz.f3 [] false w args ∧ laidMetH Tryz.prog Rows.datumGetsRow.laid w) ∧ sizedMet enc Tryz.prog Tryz.f3 (OpenSpec.ofChange Rows.datumGetsSpec) false w args) (Rows.datumGetsSpec.post enc Tryz.prog Tryz.f3 false true false false) := by
 refine returnsInHanded_of_change_and (C := Tryz.checked) (X := fun w _ => laidMetH Tryz.prog Rows.datumGetsRow.laid w) (fun _ _ _ hh h => h.of_heap hh) own started (by kernel_rfl) Tryz.func3
  (ChangeSpec.witness_shaped (enc := enc) (C := Tryz.checked) (os := os) (X := fun w _ => laidMetH Tryz.prog Rows.datumGetsRow.laid w) false (World.doorLaid Tryz.prog 63 os) #[.agg #[.int .i64 0, .int .i64 0, .string ByteArray.empty, .slice none 0 0, .slice none 0 0], .string ByteArray.empty] 8 rfl (World.shaped_of_RefB (by kernel_rfl) (by kernel_rfl)) (by kernel_rfl) (by kernel_rfl) (by kernel_rfl) (door_met os _)) ?_
 intro W base args ds gs before hval0 hW _ hsz0 hL _
 have hgl := gl hL
 have hsz : (DataW.weightsEach Tryz.prog (Tryz.f3.params.toList ++ Rows.datumGetsSpec.plain.varTypes Tryz.prog) (ds ++ gs)).all (· ≤ reachBytes) = true := hsz0
 have hval : ∀ (j : Nat) t v, Tryz.f3.params[j]? = some t → args[j]? = some v → Value.okWide Tryz.prog W .any base t v := hval0
 have hW' := hW
 obtain ⟨p, q, hA0, hV, rfl, hfz, hnd⟩ := hW
 have hA : DataW.TrodAll enc Tryz.prog W 0 (fun _ => true) true Tryz.f3.params.toList args.toList ds p := hA0
 rw [Tryz.params3] at hA hval hsz
 obtain ⟨v0, vs0, d0, ds0, p0, q0, hargs, rfl, rfl, h0, r0⟩ := trodAll_cons hA
 obtain ⟨v1, vs1, d1, ds1, p1, q1, rfl, rfl, rfl, h1, r1⟩ := trodAll_cons r0
 obtain ⟨rfl, rfl, rfl⟩ := trodAll_nil r1
 obtain rfl : args = #[v0, v1] := by cases args; simp_all
 obtain ⟨rfl, rfl⟩ := trodVars_none hV
 have k0 := h0
 have lt0 : ∀ x ∈ p0, x.block < W.heap.size := by obtain ⟨m, hm⟩ := k0; exact DataW.trod_lt m _ _ _ hm
 have w0 : Go.Proofs.YtidcecpbihmloaaGreatDoorE.openDatT W v0 := (by
  obtain ⟨fuel, hf⟩ := h0
  exact Go.Proofs.YtidcecpbihmloaaGreatDoorE.openDat (hval 0 25 v0 rfl rfl) hf (fun n hn => of_decide_eq_true (List.all_eq_true.1 hsz n (DataW.weights_mem_each (j := 0) (t := 25) rfl rfl n hn))))
 obtain ⟨a1, rfl, rfl, rfl, y1⟩ := open_string Tryz.underlying9 (hval 1 9 v1 rfl rfl) h1
 have w1 : a1.size ≤ 140737488351232 := by
  have z := sized_string hsz (j := 1) (t := 9) rfl rfl
  rw [Array.length_toList] at z
  exact z
 clear hA0 hval0 hsz0 hsz hL
 refine (Go.Proofs.YtidcecpbihmloaaGreatDoorE.datumGets_h v0 a1 W hgl w0 w1).mono fun e W' ⟨he, bel⟩ => ?_
 subst he
 exact ⟨_, rfl, _, _, _, [], _, [], hW', trodAll_mk1 (shut_bool Tryz.underlying4 _), (trodAll_cons_mk (Below.trod laidOut (by kernel_rfl) (of_decide_eq_true (by kernel_rfl)) k0 bel lt0) (trodAll_cons_mk (shut_string Tryz.underlying9 y1) trodAll_mk0)), rfl, bel.frame _, fun h => by cases h⟩
theorem over : Rows.datumGetsRow.holds Tryz.pinned (OpenSpec.ofChange Rows.datumGetsSpec) :=
 OpenClaim.holds_of_wide 3 Tryz.f3 rfl rfl rfl rfl rfl rfl rfl ⟨rfl, rfl, rfl, rfl, rfl⟩ rfl rfl rfl rfl rfl (by kernel_rfl) Tryz.func3 (by kernel_rfl)
  (of_decide_eq_true (by kernel_rfl)) (by unfold Func.isWrapper; first | (rw [if_pos (by decide +kernel)]; kernel_rfl) | (rw [if_neg (by decide +kernel)]; exact ⟨rfl, rfl⟩))
  (fun os started H enc _ => lifted os started H enc)
theorem wants : ∀ (j : Nat) (t : TypeId), Tryz.f3.params[j]? = some t → Tryz.prog.wantsStandIn t = false := by
 intro j t ht
 rw [Tryz.params3] at ht
 rcases j with _ | j
 ·have h3 : t = 25 := by simpa using ht.symm
  subst h3
  exact (show Tryz.prog.wantsStandIn 25 = false by kernel_rfl)
 rcases j with _ | j
 ·have h3 : t = 9 := by simpa using ht.symm
  subst h3
  exact (show Tryz.prog.wantsStandIn 9 = false by kernel_rfl)
 simp at ht
theorem proved : Rows.DatumGetsCardSaid :=
 Claim7.holds_tied_plain_at .later [] [.data, .data, .data, .sentinel, .sentinel] true (true, "34bec7812849d10c57c46621dab0c97b719c285dbe913136db37cec4159ff9e8") true
  over (fun _ h => by cases h) (by kernel_rfl) (fun _ h => by cases h) datumGets_row_tie rfl ⟨rfl, rfl⟩ (by kernel_rfl) rfl
  (fun f fn hf hfn => by
   obtain rfl : f = 3 := Option.some.inj ((show Tryz.prog.funcNamed "tendril/tendrillaw16.DatumGets" = some 3 by kernel_rfl).symm.trans hf) |>.symm
   obtain rfl : fn = Tryz.f3 := (Option.some.inj (Tryz.func3.symm.trans hfn)).symm
   exact ⟨by kernel_rfl, wants⟩)
  (by kernel_rfl)
end Go.Proofs.YtidcecpbihmloaaGreatDoor.datumGets
namespace Go.Proofs.YtidcecpbihmloaaGreatDoor
/-- The card, under a short name, for the claim. -/
theorem datumGets_holds : Rows.DatumGetsCardSaid := datumGets.proved
end Go.Proofs.YtidcecpbihmloaaGreatDoor
