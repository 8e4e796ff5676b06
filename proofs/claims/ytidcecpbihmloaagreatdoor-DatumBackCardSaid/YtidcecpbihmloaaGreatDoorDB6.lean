/- The row and the card of DatumBack: whatever the input, the law returns true. -/
import Derived.Test.YtidcecpbihmloaaGreatDoorDB5
import Derived.Test.YtidcecpbihmloaaGreatDoorRows
import Derived.Test.YtidcecpbihmloaaGreatDoorCards
import Derived.Test.YtidcecpbihmloaaGreatDoorTie
import Derived.WalkKit
import Derived.ProofKit
import Derived.OpenShut
import Derived.ShutString
import Derived.ChangeOld
import Derived.Below
import Derived.SizedLaws
import Derived.LaidMore
import Derived.Stop.Joined
import Derived.SevenTiedAt
import Derived.MakeChecks
import Derived.Handed
import Derived.Lib.SmallJoins
import Derived.Carry

namespace Go.Proofs.YtidcecpbihmloaaGreatDoorE
open Go Go.RowKit Go.ChangeShapes Go.WideShapes Go.Proofs.YtidcecpbihmloaaGreatDoorW.PrintWords Go.Proofs.YtidcecpbihmloaaGreatDoor.P16
set_option linter.unusedVariables false
set_option linter.unusedSimpArgs false
set_option maxRecDepth 100000
theorem wf_i64' {x : Int} (h : (Lit.int .i64 x).wf = true) : -9223372036854775808 ≤ x ∧ x ≤ 9223372036854775807 := by
 simp [Lit.wf, IntKind.min, IntKind.max, IntKind.bits, IntKind.signed] at h
 omega
theorem Op.slice_ {α : Type} {P : Program} {fuel : Nat} {t e : TypeId} {d : Kd α} {ok : α → Prop} (hu : P.underlying t = some (.slice e)) (hz : d.sz = P.cellsOf e) (hb : 0 < P.bytesOf e) (h : ∀ m, m + 1 = fuel → Op.At P m e d ok) :
  Op.At P fuel t (Kd.slice e d) (fun xs => xs.length ≤ 140737488351232 ∧ ∀ x ∈ xs, ok x) := by
 cases fuel with
 | zero => exact Op.zero
 | succ f => exact Op.mono (Op.slice hu hz (h f rfl)) (fun _ _ _ h => h) (fun a h => ⟨Nat.le_trans (Nat.le_mul_of_pos_right _ hb) h.1, h.2.2⟩)
theorem cellsO0 : Tryz.prog.cellsOf 9 = 1 := by kernel_rfl
theorem cellsO1 : Tryz.prog.cellsOf 3 = 1 := by kernel_rfl
theorem cellsO2 : Tryz.prog.cellsOf 22 = 1 := by kernel_rfl
theorem cellsO3 : Tryz.prog.cellsOf 23 = 1 := by kernel_rfl
theorem open_upto : ∀ n m : Nat, m ≤ n → Op.At Tryz.prog m 25 (Kd.upto F25 5 [9, 25] n) OkD
 | 0, m, h => by
  obtain rfl : m = 0 := by omega
  exact Op.zero
 | n + 1, 0, h => Op.zero
 | n + 1, m + 1, h => by
  have sS := Op.slice_ (fuel := m) Tryz.underlying22 (d := Kd.string) (ok := fun s => s.size ≤ 140737488351232) (by kernel_rfl) (of_decide_eq_true (by kernel_rfl)) (fun f _ => Op.string Tryz.underlying9)
  have sN := Op.slice_ (fuel := m) Tryz.underlying23 (d := Kd.upto F25 5 [9, 25] n) (ok := OkD) (by rw [sz25 n]; kernel_rfl) (of_decide_eq_true (by kernel_rfl)) (fun f hf => open_upto n f (by omega))
  refine Op.mono (d' := F25 (Kd.upto F25 5 [9, 25] n)) (Op.struct Tryz.underlying25 (by kernel_rfl) (fun i f hf => ?_) (Op.iso (fun x : DT => (x.f0, x.f1, x.f2, x.f3, x.f4)) (fun a => ⟨a.1, a.2.1, a.2.2.1, a.2.2.2.1, a.2.2.2.2⟩) (fun a => rfl) (Op.cons (Op.int Tryz.underlying3) (Op.cons (Op.int Tryz.underlying3) (Op.cons (Op.string Tryz.underlying9) (Op.cons sS (Op.one sN))))))) (fun w a cs h => h) (fun a h => OkD.mk a (wf_i64' h.1) (wf_i64' h.2.1) h.2.2.1 h.2.2.2.1.1 h.2.2.2.1.2 h.2.2.2.2.1 h.2.2.2.2.2)
  rcases i with _ | _ | _ | _ | _ | i <;> simp at hf <;> (subst hf; simp [cellsO0, cellsO1, cellsO2, cellsO3])
theorem open_datum (fuel : Nat) : Op.At Tryz.prog fuel 25 k25 OkD :=
 Op.mono (open_upto fuel fuel (Nat.le_refl _)) (fun w a cs h => (⟨fuel, h⟩ : ∃ n, (Kd.upto F25 5 [9, 25] n).K w a cs)) (fun _ h => h)
def openDatT (W : World) (v : Value) : Prop := ∃ (x : DT) (A3 : Option Addr) (c3 : Nat) (A4 : Option Addr) (c4 : Nat), v = aggD x A3 c3 A4 c4 ∧ OkD x ∧ x.f3.length ≤ c3 ∧ Kd.string.C W A3 x.f3.length x.f3 ∧ x.f4.length ≤ c4 ∧ k25.C W A4 x.f4.length x.f4
theorem openDat {H : Type} {enc : TypeId × Value → H} {W : World} {base : Nat} {spare : Nat → Bool} {held : Bool} {v : Value} {r : Reach} {b0 fuel : Nat} {d : DataW H} {ps : List MemPlace} (hv : Value.okWide Tryz.prog W r b0 25 v)
  (hf : DataW.trod enc Tryz.prog W base spare held fuel 25 v.cells.toList = some (d, ps)) (hs : ∀ m ∈ d.weights Tryz.prog 25, m ≤ 140737488351232) : openDatT W v := by
 obtain ⟨cs, rfl, hsz⟩ := okWide_struct Tryz.underlying25 hv
 obtain ⟨x, hK, hx⟩ := open_datum fuel H enc W base spare held _ _ hf hs
 obtain ⟨A3, c3, A4, c4, he, l3, g3, l4, g4⟩ := k25_open hK
 refine ⟨x, A3, c3, A4, c4, ?_, hx, l3, g3, l4, g4⟩
 congr 1
 apply Array.toList_inj.1
 exact he
end Go.Proofs.YtidcecpbihmloaaGreatDoorE

namespace Go.Proofs.YtidcecpbihmloaaGreatDoorE
open Go Go.RowKit Go.Proofs.YtidcecpbihmloaaGreatDoorW.PrintWords Go.Proofs.YtidcecpbihmloaaGreatDoorW.PrintMore Go.Proofs.YtidcecpbihmloaaGreatDoorW.PrintLast Go.Proofs.YtidcecpbihmloaaGreatDoorX Go.Proofs.YtidcecpbihmloaaGreatDoor.P16 Go.Proofs.YtidcecpbihmloaaGreatDoor.M02
set_option linter.unusedVariables false
set_option linter.unusedSimpArgs false
set_option maxRecDepth 100000
set_option maxHeartbeats 16000000 in
theorem back_false (x : DT) (hx : OkD x) (hr : rightD x = false) (w : World) (hgl : GL w) (A3 : Option Addr) (c3 : Nat) (A4 : Option Addr) (c4 : Nat) (l3 : x.f3.length ≤ c3) (g3 : Kd.string.C w A3 x.f3.length x.f3) (l4 : x.f4.length ≤ c4) (g4 : k25.C w A4 x.f4.length x.f4) : Calls Tryz.prog 5 #[aggD x A3 c3 A4 c4] w fun e w' => e = .returned (.bool true) ∧ Below w.heap.size w w' := by
 have HS : Aside0 (∀ W, GL W → Calls Tryz.prog 8 #[] W fun e w' => e = .returned (.bool true) ∧ Below W.heap.size W w') := ⟨same_c⟩
 have HG := Aside0.mk hgl
 have HB := Aside0.mk (below_alloc (Below.refl w.heap.size w) (xBox x A3 c3 A4 c4))
 have HX := Aside0.mk (heap_alloc_new w (xBox x A3 c3 A4 c4))
 have HF := Aside0.mk (Few_c x hx 3000 _ A3 c3 A4 c4 l4 (k25.C_below g4 HB.out))
 have HQR : Aside0 (∀ W, Below w.heap.size w W → Calls Tryz.prog 15 #[aggD x A3 c3 A4 c4] W fun e w' => e = .returned (.bool false) ∧ Below W.heap.size W w') := ⟨fun W hb => hr ▸ Right_c x hx W (hgl.below hb) A3 c3 A4 c4 l3 (Kd.string.C_below g3 hb) l4 (k25.C_below g4 hb)⟩
 have HRR : Aside0 (∀ W, Below w.heap.size w W → Calls Tryz.prog 10 #[aggD x A3 c3 A4 c4] W fun e w' => e = .returned (.bool false) ∧ Below W.heap.size W w') := ⟨fun W hb => hr ▸ rRight_c x hx W (hgl.below hb) A3 c3 A4 c4 l3 (Kd.string.C_below g3 hb) l4 (k25.C_below g4 hb)⟩
 have HPR : Aside0 (∀ W, Below w.heap.size w W → Calls Tryz.prog 14 #[aggD x A3 c3 A4 c4] W fun e w' => e = .returned (.tuple #[.string ⟨#[]⟩, .int .i64 24]) ∧ Below W.heap.size W w') := ⟨fun W hb => by
  have h := Print_c x hx W (hgl.below hb) A3 c3 A4 c4 l3 (Kd.string.C_below g3 hb) l4 (k25.C_below g4 hb)
  unfold printP at h
  rw [if_neg (by rw [hr]; decide)] at h
  exact h⟩
 clear hgl g3 g4 hx hr
 go_enter Tryz.func5, Tryz.ntmps5
 go_upto_region 1 with fail
 generalize hW : w.alloc (.cells #[.int .i64 x.f0, .int .i64 x.f1, .string x.f2, .slice A3 x.f3.length c3, .slice A4 x.f4.length c4] 25) = W at HB HX HF ⊢
 clear hW
 have p0 := (blk_cell HX.out 0).trans rfl
 have p1 := (blk_cell HX.out 1).trans rfl
 have p2 := (blk_cell HX.out 2).trans rfl
 have p3 := (blk_cell HX.out 3).trans rfl
 have p4 := (blk_cell HX.out 4).trans rfl
 go_upto_region 3 with (first | (go_at_call 7; go_loud (with_reducible refine HF.out.mono ?_); rintro e w1 ⟨⟨q, rfl⟩, hb⟩; have HB1 := Aside0.mk (below_then HB.out HB.out.size hb); have HX1 := Aside0.mk ((hb.block w.heap.size (blk_lt HX.out)).trans HX.out); clear hb) | (go_at_call 8; go_loud (with_reducible refine (HS.out _ (HG.out.below HB1.out)).mono ?_); rintro e w2 ⟨rfl, hb⟩; have HB2 := Aside0.mk (below_then HB1.out HB1.out.size hb); clear hb))
 all_goals first | (go_ret; exact ⟨rfl, HB2.out⟩) | skip
 clear p0 p1 p2 p3 p4
 have p0 := (blk_cell HX1.out 0).trans rfl
 have p1 := (blk_cell HX1.out 1).trans rfl
 have p2 := (blk_cell HX1.out 2).trans rfl
 have p3 := (blk_cell HX1.out 3).trans rfl
 have p4 := (blk_cell HX1.out 4).trans rfl
 go_upto_region 4 with (go_at_call 14; go_loud (with_reducible refine (HPR.out _ HB1.out).mono ?_); rintro e w2 ⟨rfl, hb⟩; have HB2 := Aside0.mk (below_then HB1.out HB1.out.size hb); have HX2 := Aside0.mk ((hb.block w.heap.size (blk_lt HX1.out)).trans HX1.out); clear hb)
 clear p0 p1 p2 p3 p4 HB HX HF HB1 HX1
 have HSS : (w2.drew.cell? ⟨w.heap.size, 0, none⟩ = some (.int .i64 x.f0) ∧ w2.drew.cell? ⟨w.heap.size, 1, none⟩ = some (.int .i64 x.f1) ∧ w2.drew.cell? ⟨w.heap.size, 2, none⟩ = some (.string x.f2) ∧ w2.drew.cell? ⟨w.heap.size, 3, none⟩ = some (.slice A3 x.f3.length c3) ∧ w2.drew.cell? ⟨w.heap.size, 4, none⟩ = some (.slice A4 x.f4.length c4)) ∧ Below w.heap.size w w2.drew := ⟨⟨(cell_drew ((blk_cell HX2.out 0).trans rfl)), (cell_drew ((blk_cell HX2.out 1).trans rfl)), (cell_drew ((blk_cell HX2.out 2).trans rfl)), (cell_drew ((blk_cell HX2.out 3).trans rfl)), (cell_drew ((blk_cell HX2.out 4).trans rfl))⟩, HB2.out.drew⟩
 go_region_held3 (fun w' => (w'.cell? ⟨w.heap.size, 0, none⟩ = some (.int .i64 x.f0) ∧ w'.cell? ⟨w.heap.size, 1, none⟩ = some (.int .i64 x.f1) ∧ w'.cell? ⟨w.heap.size, 2, none⟩ = some (.string x.f2) ∧ w'.cell? ⟨w.heap.size, 3, none⟩ = some (.slice A3 x.f3.length c3) ∧ w'.cell? ⟨w.heap.size, 4, none⟩ = some (.slice A4 x.f4.length c4)) ∧ Below w.heap.size w w')
  (first
   | with_reducible exact HSS
   |(go_split_ands
     with_reducible exact ⟨⟨pw_cell_below hbf (by with_reducible assumption), pw_cell_below hbf (by with_reducible assumption), pw_cell_below hbf (by with_reducible assumption), pw_cell_below hbf (by with_reducible assumption), pw_cell_below hbf (by with_reducible assumption)⟩, then_w (by with_reducible assumption) hbf⟩))
  (first
   |(go_at_call 15
     go_loud (
     refine (HQR.out _ ?hb).mono ?_
     case hb => first | with_reducible assumption | (go_split_ands; with_reducible assumption)
     rintro e w5 ⟨rfl, hbf⟩))
   |(go_at_call 10
     go_loud (
     refine (HRR.out _ ?hb).mono ?_
     case hb => first | with_reducible assumption | (go_split_ands; with_reducible assumption)
     rintro e w6 ⟨rfl, hbf⟩)))
 go_split_ands
 have HB6 := Aside0.mk (show Below w.heap.size w w6 by with_reducible assumption)
 have p0 := (show w6.cell? ⟨w.heap.size, 0, none⟩ = some (.int .i64 x.f0) by with_reducible assumption)
 have p1 := (show w6.cell? ⟨w.heap.size, 1, none⟩ = some (.int .i64 x.f1) by with_reducible assumption)
 have p2 := (show w6.cell? ⟨w.heap.size, 2, none⟩ = some (.string x.f2) by with_reducible assumption)
 have p3 := (show w6.cell? ⟨w.heap.size, 3, none⟩ = some (.slice A3 x.f3.length c3) by with_reducible assumption)
 have p4 := (show w6.cell? ⟨w.heap.size, 4, none⟩ = some (.slice A4 x.f4.length c4) by with_reducible assumption)
 go_wp2_with (first | (go_at_call 10; go_loud (with_reducible refine (HRR.out _ HB6.out).mono ?_); rintro e w7 ⟨rfl, hb⟩; have HB7 := Aside0.mk (below_then HB6.out HB6.out.size hb); clear hb) | (go_at_call 8; go_loud (with_reducible refine (HS.out _ (HG.out.below HB7.out)).mono ?_); rintro e w8 ⟨rfl, hb⟩; have HB8 := Aside0.mk (below_then HB7.out HB7.out.size hb); clear hb))
 go_ret
 exact ⟨rfl, HB8.out⟩
set_option maxHeartbeats 16000000 in
theorem back_true (x : DT) (hx : OkD x) (hr : rightD x = true) (w : World) (hgl : GL w) (A3 : Option Addr) (c3 : Nat) (A4 : Option Addr) (c4 : Nat) (l3 : x.f3.length ≤ c3) (g3 : Kd.string.C w A3 x.f3.length x.f3) (l4 : x.f4.length ≤ c4) (g4 : k25.C w A4 x.f4.length x.f4) : Calls Tryz.prog 5 #[aggD x A3 c3 A4 c4] w fun e w' => e = .returned (.bool true) ∧ Below w.heap.size w w' := by
 have HS : Aside0 (∀ W, GL W → Calls Tryz.prog 8 #[] W fun e w' => e = .returned (.bool true) ∧ Below W.heap.size W w') := ⟨same_c⟩
 have HG := Aside0.mk hgl
 have HB := Aside0.mk (below_alloc (Below.refl w.heap.size w) (xBox x A3 c3 A4 c4))
 have HX := Aside0.mk (heap_alloc_new w (xBox x A3 c3 A4 c4))
 have HF := Aside0.mk (Few_c x hx 3000 _ A3 c3 A4 c4 l4 (k25.C_below g4 HB.out))
 have HQR : Aside0 (∀ W, Below w.heap.size w W → Calls Tryz.prog 15 #[aggD x A3 c3 A4 c4] W fun e w' => e = .returned (.bool true) ∧ Below W.heap.size W w') := ⟨fun W hb => hr ▸ Right_c x hx W (hgl.below hb) A3 c3 A4 c4 l3 (Kd.string.C_below g3 hb) l4 (k25.C_below g4 hb)⟩
 have HRR : Aside0 (∀ W, Below w.heap.size w W → Calls Tryz.prog 10 #[aggD x A3 c3 A4 c4] W fun e w' => e = .returned (.bool true) ∧ Below W.heap.size W w') := ⟨fun W hb => hr ▸ rRight_c x hx W (hgl.below hb) A3 c3 A4 c4 l3 (Kd.string.C_below g3 hb) l4 (k25.C_below g4 hb)⟩
 obtain ⟨s, hs⟩ : ∃ s, s = mkB (printD x) := ⟨_, rfl⟩
 have hsz : s.size ≤ 1000000000 := by rw [hs, mkB_size]; have := right_len (okD_nums x hx) hr; omega
 have hps : parseS (B s) = (x, 0, 0) := by rw [hs]; exact parse_print x (okD_nums x hx) hr
 have HPR : Aside0 (∀ W, Below w.heap.size w W → Calls Tryz.prog 14 #[aggD x A3 c3 A4 c4] W fun e w' => e = .returned (.tuple #[.string s, .int .i64 0]) ∧ Below W.heap.size W w') := ⟨fun W hb => by
  have h := Print_c x hx W (hgl.below hb) A3 c3 A4 c4 l3 (Kd.string.C_below g3 hb) l4 (k25.C_below g4 hb)
  unfold printP at h
  rw [if_pos hr, ← hs] at h
  exact h⟩
 have HRP : Aside0 (∀ W, Below w.heap.size w W → Calls Tryz.prog 17 #[aggD x A3 c3 A4 c4] W fun e w' => e = .returned (.string s) ∧ Below W.heap.size W w') := ⟨fun W hb => hs ▸ rprint_c x hx hr W (hgl.below hb) A3 c3 A4 c4 l3 (Kd.string.C_below g3 hb) l4 (k25.C_below g4 hb)⟩
 have HPA : Aside0 (∀ W, Below w.heap.size w W → Calls Tryz.prog 16 #[.string s] W (parseP W (x, 0, 0))) := ⟨fun W hb => hps ▸ qParse_c s hsz W (hgl.below hb)⟩
 have HSA : Aside0 (∀ (W : World) (B3 : Option Addr) (e3 : Nat) (B4 : Option Addr) (e4 : Nat), Below w.heap.size w W → x.f3.length ≤ e3 → Kd.string.C W B3 x.f3.length x.f3 → x.f4.length ≤ e4 → k25.C W B4 x.f4.length x.f4 → Calls Tryz.prog 11 #[aggD x B3 e3 B4 e4, aggD x A3 c3 A4 c4] W fun e w' => e = .returned (.bool true) ∧ Below W.heap.size W w') := ⟨fun W B3 e3 B4 e4 hb m3 k3 m4 k4 => Same_c x x hx true (Iff.intro (fun _ => rfl) (fun _ => rfl)) W (hgl.below hb) B3 e3 B4 e4 m3 k3 m4 k4 A3 c3 A4 c4 l3 (Kd.string.C_below g3 hb) l4 (k25.C_below g4 hb)⟩
 clear hs hsz hps
 clear hgl g3 g4 hx hr
 go_enter Tryz.func5, Tryz.ntmps5
 go_upto_region 1 with fail
 generalize hW : w.alloc (.cells #[.int .i64 x.f0, .int .i64 x.f1, .string x.f2, .slice A3 x.f3.length c3, .slice A4 x.f4.length c4] 25) = W at HB HX HF ⊢
 clear hW
 have p0 := (blk_cell HX.out 0).trans rfl
 have p1 := (blk_cell HX.out 1).trans rfl
 have p2 := (blk_cell HX.out 2).trans rfl
 have p3 := (blk_cell HX.out 3).trans rfl
 have p4 := (blk_cell HX.out 4).trans rfl
 go_upto_region 3 with (first | (go_at_call 7; go_loud (with_reducible refine HF.out.mono ?_); rintro e w1 ⟨⟨q, rfl⟩, hb⟩; have HB1 := Aside0.mk (below_then HB.out HB.out.size hb); have HX1 := Aside0.mk ((hb.block w.heap.size (blk_lt HX.out)).trans HX.out); clear hb) | (go_at_call 8; go_loud (with_reducible refine (HS.out _ (HG.out.below HB1.out)).mono ?_); rintro e w2 ⟨rfl, hb⟩; have HB2 := Aside0.mk (below_then HB1.out HB1.out.size hb); clear hb))
 all_goals first | (go_ret; exact ⟨rfl, HB2.out⟩) | skip
 clear p0 p1 p2 p3 p4
 have p0 := (blk_cell HX1.out 0).trans rfl
 have p1 := (blk_cell HX1.out 1).trans rfl
 have p2 := (blk_cell HX1.out 2).trans rfl
 have p3 := (blk_cell HX1.out 3).trans rfl
 have p4 := (blk_cell HX1.out 4).trans rfl
 go_upto_region 4 with (go_at_call 14; go_loud (with_reducible refine (HPR.out _ HB1.out).mono ?_); rintro e w2 ⟨rfl, hb⟩; have HB2 := Aside0.mk (below_then HB1.out HB1.out.size hb); have HX2 := Aside0.mk ((hb.block w.heap.size (blk_lt HX1.out)).trans HX1.out); clear hb)
 clear p0 p1 p2 p3 p4 HB HX HF HB1 HX1
 have HSS : (w2.drew.cell? ⟨w.heap.size, 0, none⟩ = some (.int .i64 x.f0) ∧ w2.drew.cell? ⟨w.heap.size, 1, none⟩ = some (.int .i64 x.f1) ∧ w2.drew.cell? ⟨w.heap.size, 2, none⟩ = some (.string x.f2) ∧ w2.drew.cell? ⟨w.heap.size, 3, none⟩ = some (.slice A3 x.f3.length c3) ∧ w2.drew.cell? ⟨w.heap.size, 4, none⟩ = some (.slice A4 x.f4.length c4)) ∧ Below w.heap.size w w2.drew := ⟨⟨(cell_drew ((blk_cell HX2.out 0).trans rfl)), (cell_drew ((blk_cell HX2.out 1).trans rfl)), (cell_drew ((blk_cell HX2.out 2).trans rfl)), (cell_drew ((blk_cell HX2.out 3).trans rfl)), (cell_drew ((blk_cell HX2.out 4).trans rfl))⟩, HB2.out.drew⟩
 go_region_held3 (fun w' => (w'.cell? ⟨w.heap.size, 0, none⟩ = some (.int .i64 x.f0) ∧ w'.cell? ⟨w.heap.size, 1, none⟩ = some (.int .i64 x.f1) ∧ w'.cell? ⟨w.heap.size, 2, none⟩ = some (.string x.f2) ∧ w'.cell? ⟨w.heap.size, 3, none⟩ = some (.slice A3 x.f3.length c3) ∧ w'.cell? ⟨w.heap.size, 4, none⟩ = some (.slice A4 x.f4.length c4)) ∧ Below w.heap.size w w')
  (first
   | with_reducible exact HSS
   |(go_split_ands
     with_reducible exact ⟨⟨pw_cell_below hbf (by with_reducible assumption), pw_cell_below hbf (by with_reducible assumption), pw_cell_below hbf (by with_reducible assumption), pw_cell_below hbf (by with_reducible assumption), pw_cell_below hbf (by with_reducible assumption)⟩, then_w (by with_reducible assumption) hbf⟩))
  (first
   |(go_at_call 15
     go_loud (
     refine (HQR.out _ ?hb).mono ?_
     case hb => first | with_reducible assumption | (go_split_ands; with_reducible assumption)
     rintro e w5 ⟨rfl, hbf⟩))
   |(go_at_call 10
     go_loud (
     refine (HRR.out _ ?hb).mono ?_
     case hb => first | with_reducible assumption | (go_split_ands; with_reducible assumption)
     rintro e w6 ⟨rfl, hbf⟩)))
 go_split_ands
 have HB6 := Aside0.mk (show Below w.heap.size w w6 by with_reducible assumption)
 have p0 := (show w6.cell? ⟨w.heap.size, 0, none⟩ = some (.int .i64 x.f0) by with_reducible assumption)
 have p1 := (show w6.cell? ⟨w.heap.size, 1, none⟩ = some (.int .i64 x.f1) by with_reducible assumption)
 have p2 := (show w6.cell? ⟨w.heap.size, 2, none⟩ = some (.string x.f2) by with_reducible assumption)
 have p3 := (show w6.cell? ⟨w.heap.size, 3, none⟩ = some (.slice A3 x.f3.length c3) by with_reducible assumption)
 have p4 := (show w6.cell? ⟨w.heap.size, 4, none⟩ = some (.slice A4 x.f4.length c4) by with_reducible assumption)
 go_upto_region 8 with (go_at_call 10; go_loud (with_reducible refine (HRR.out _ HB6.out).mono ?_); rintro e w7 ⟨rfl, hb⟩; have HB7 := Aside0.mk (below_then HB6.out HB6.out.size hb); have q0 := pw_cell_below hb p0; have q1 := pw_cell_below hb p1; have q2 := pw_cell_below hb p2; have q3 := pw_cell_below hb p3; have q4 := pw_cell_below hb p4; clear hb)
 go_upto_region 9 with (go_at_call 16; go_loud (with_reducible refine (HPA.out _ HB7.out).mono ?_); rintro e w8 ⟨hb, B3, e3, B4, e4, rfl, m1, m2, m3, m4⟩; have HB8 := Aside0.mk (below_then HB7.out HB7.out.size hb); have HM8 := Aside0.mk (And.intro (And.intro m1 m2) (And.intro m3 m4)); have r0 := pw_cell_below hb q0; have r1 := pw_cell_below hb q1; have r2 := pw_cell_below hb q2; have r3 := pw_cell_below hb q3; have r4 := pw_cell_below hb q4; clear hb m1 m2 m3 m4)
 have HA8 := Aside0.mk (below_alloc (Below.refl w8.heap.size w8) (xBox x B3 e3 B4 e4))
 have HZ9 := Aside0.mk (heap_alloc_new w8 (xBox x B3 e3 B4 e4))
 generalize hW : w8.alloc (.cells #[.int .i64 x.f0, .int .i64 x.f1, .string x.f2, .slice B3 x.f3.length e3, .slice B4 x.f4.length e4] 25) = w9 at HA8 HZ9 ⊢
 clear hW p0 p1 p2 p3 p4 q0 q1 q2 q3 q4
 have HB9 := Aside0.mk (below_then HB8.out HB8.out.size HA8.out)
 have s0 := pw_cell_below HA8.out r0
 have s1 := pw_cell_below HA8.out r1
 have s2 := pw_cell_below HA8.out r2
 have s3 := pw_cell_below HA8.out r3
 have s4 := pw_cell_below HA8.out r4
 have HM9 := Aside0.mk (And.intro (Kd.string.C_below HM8.out.1.2 HA8.out) (k25.C_below HM8.out.2.2 HA8.out))
 clear r0 r1 r2 r3 r4
 go_wp2_with (first | (go_at_call 17; go_loud (with_reducible refine (HRP.out _ HB9.out).mono ?_); rintro e wa ⟨rfl, hb⟩; have HBA := Aside0.mk (below_then HB9.out HB9.out.size hb); have HAA := Aside0.mk hb; have hza := (hb.block w8.heap.size (blk_lt HZ9.out)).trans HZ9.out; have t0 := pw_cell_below hb s0; have t1 := pw_cell_below hb s1; have t2 := pw_cell_below hb s2; have t3 := pw_cell_below hb s3; have t4 := pw_cell_below hb s4; have z0 := (blk_cell hza 0).trans rfl; have z1 := (blk_cell hza 1).trans rfl; have z2 := (blk_cell hza 2).trans rfl; have z3 := (blk_cell hza 3).trans rfl; have z4 := (blk_cell hza 4).trans rfl; clear hb hza) | (go_at_call 11; go_loud (with_reducible refine (HSA.out _ B3 e3 B4 e4 HBA.out HM8.out.1.1 (Kd.string.C_below HM9.out.1 HAA.out) HM8.out.2.1 (k25.C_below HM9.out.2 HAA.out)).mono ?_); rintro e wb ⟨rfl, hb⟩; have HBB := Aside0.mk (below_then HBA.out HBA.out.size hb); clear hb) | (go_at_call 8; go_loud (with_reducible refine (HS.out _ (HG.out.below HBB.out)).mono ?_); rintro e wc ⟨rfl, hb⟩; have HBC := Aside0.mk (below_then HBB.out HBB.out.size hb); clear hb))
 go_ret
 exact ⟨rfl, HBC.out⟩
theorem datumBack_h (v : Value) (W : World) (hg : GL W) (h : openDatT W v) : Calls Tryz.prog 5 #[v] W fun e w' => e = .returned (.bool true) ∧ Below W.heap.size W w' := by
 obtain ⟨x, A3, c3, A4, c4, rfl, hx, l3, g3, l4, g4⟩ := h
 cases hr : rightD x with
 | true => exact back_true x hx hr W hg A3 c3 A4 c4 l3 g3 l4 g4
 | false => exact back_false x hx hr W hg A3 c3 A4 c4 l3 g3 l4 g4
end Go.Proofs.YtidcecpbihmloaaGreatDoorE

namespace Go.Proofs.YtidcecpbihmloaaGreatDoor.datumBack
open Go.ChangeShapes Go.WideShapes Go.ChangeAt Go.RowKit
open Go.ChangeMaps (open_string shut_string)
set_option linter.unusedVariables false
theorem own : ownKnob Tryz.prog.godebug = none := by kernel_rfl
theorem door_met (os : Os) (args : Array Value) : laidMetH Tryz.prog Rows.datumBackRow.laid ((World.doorLaid Tryz.prog 63 os).forCall (fun _ _ => 0) ⟨#[], args, []⟩).memory :=
 laidMetH_of_parts3 (fuel := 8) (laidMet_of_run' 8 (by kernel_rfl) (by kernel_rfl)) (by kernel_rfl) (by kernel_rfl)
theorem gl {W : World} (h : laidMetH Tryz.prog Rows.datumBackRow.laid W) : Go.Proofs.YtidcecpbihmloaaGreatDoorX.GL W := by
 rw [MakeChecks.laidMetH_plain _ _ _ (by kernel_rfl)] at h
 exact Go.Proofs.YtidcecpbihmloaaGreatDoorX.gl_of h
theorem laidOut : laidOutB Tryz.prog = true := by kernel_rfl
set_option maxRecDepth 100000 in
theorem lifted (os : Os) (started : os.Started) (H : Type) (enc : TypeId × Value → H) :
  ReturnsInHanded {} Tryz.checked os 5 .any (fun w args => (Rows.datumBackSpec.pre enc Tryz.prog Tryz.f5 [] false w args ∧ laidMetH Tryz.prog Rows.datumBackRow.laid w) ∧ sizedMet enc Tryz.prog Tryz.f5 (OpenSpec.ofChange Rows.datumBackSpec) false w args) (Rows.datumBackSpec.post enc Tryz.prog Tryz.f5 false true false false) := by
 refine returnsInHanded_of_change_and (C := Tryz.checked) (X := fun w _ => laidMetH Tryz.prog Rows.datumBackRow.laid w) (fun _ _ _ hh h => h.of_heap hh) own started (by kernel_rfl) Tryz.func5
  (ChangeSpec.witness_shaped (enc := enc) (C := Tryz.checked) (os := os) (X := fun w _ => laidMetH Tryz.prog Rows.datumBackRow.laid w) false (World.doorLaid Tryz.prog 63 os) #[.agg #[.int .i64 0, .int .i64 0, .string ByteArray.empty, .slice none 0 0, .slice none 0 0]] 8 rfl (World.shaped_of_RefB (by kernel_rfl) (by kernel_rfl)) (by kernel_rfl) (by kernel_rfl) (by kernel_rfl) (door_met os _)) ?_
 intro W base args ds gs before hval0 hW _ hsz0 hL _
 have hgl := gl hL
 have hsz : (DataW.weightsEach Tryz.prog (Tryz.f5.params.toList ++ Rows.datumBackSpec.plain.varTypes Tryz.prog) (ds ++ gs)).all (· ≤ reachBytes) = true := hsz0
 have hval : ∀ (j : Nat) t v, Tryz.f5.params[j]? = some t → args[j]? = some v → Value.okWide Tryz.prog W .any base t v := hval0
 have hW' := hW
 obtain ⟨p, q, hA0, hV, rfl, hfz, hnd⟩ := hW
 have hA : DataW.TrodAll enc Tryz.prog W 0 (fun _ => true) true Tryz.f5.params.toList args.toList ds p := hA0
 rw [Tryz.params5] at hA hval hsz
 obtain ⟨v0, vs0, d0, ds0, p0, q0, hargs, rfl, rfl, h0, r0⟩ := trodAll_cons hA
 obtain ⟨rfl, rfl, rfl⟩ := trodAll_nil r0
 obtain rfl : args = #[v0] := by cases args; simp_all
 obtain ⟨rfl, rfl⟩ := trodVars_none hV
 have k0 := h0
 have lt0 : ∀ x ∈ p0, x.block < W.heap.size := by obtain ⟨m, hm⟩ := k0; exact DataW.trod_lt m _ _ _ hm
 have w0 : Go.Proofs.YtidcecpbihmloaaGreatDoorE.openDatT W v0 := (by
  obtain ⟨fuel, hf⟩ := h0
  exact Go.Proofs.YtidcecpbihmloaaGreatDoorE.openDat (hval 0 25 v0 rfl rfl) hf (fun n hn => of_decide_eq_true (List.all_eq_true.1 hsz n (DataW.weights_mem_each (j := 0) (t := 25) rfl rfl n hn))))
 clear hA0 hval0 hsz0 hsz hL
 refine (Go.Proofs.YtidcecpbihmloaaGreatDoorE.datumBack_h v0 W hgl w0).mono fun e W' ⟨he, bel⟩ => ?_
 subst he
 exact ⟨_, rfl, _, _, _, [], _, [], hW', trodAll_mk1 (shut_bool Tryz.underlying4 _), (trodAll_cons_mk (Below.trod laidOut (by kernel_rfl) (of_decide_eq_true (by kernel_rfl)) k0 bel lt0) trodAll_mk0), rfl, bel.frame _, fun h => by cases h⟩
theorem over : Rows.datumBackRow.holds Tryz.pinned (OpenSpec.ofChange Rows.datumBackSpec) :=
 OpenClaim.holds_of_wide 5 Tryz.f5 rfl rfl rfl rfl rfl rfl rfl ⟨rfl, rfl, rfl, rfl, rfl⟩ rfl rfl rfl rfl rfl (by kernel_rfl) Tryz.func5 (by kernel_rfl)
  (of_decide_eq_true (by kernel_rfl)) (by unfold Func.isWrapper; first | (rw [if_pos (by decide +kernel)]; kernel_rfl) | (rw [if_neg (by decide +kernel)]; exact ⟨rfl, rfl⟩))
  (fun os started H enc _ => lifted os started H enc)
theorem wants : ∀ (j : Nat) (t : TypeId), Tryz.f5.params[j]? = some t → Tryz.prog.wantsStandIn t = false := by
 intro j t ht
 rw [Tryz.params5] at ht
 rcases j with _ | j
 ·have h3 : t = 25 := by simpa using ht.symm
  subst h3
  exact (show Tryz.prog.wantsStandIn 25 = false by kernel_rfl)
 simp at ht
theorem proved : Rows.DatumBackCardSaid :=
 Claim7.holds_tied_plain_at .later [] [.data, .data, .data, .sentinel, .sentinel] true (true, "34bec7812849d10c57c46621dab0c97b719c285dbe913136db37cec4159ff9e8") true
  over (fun _ h => by cases h) (by kernel_rfl) (fun _ h => by cases h) datumBack_row_tie rfl ⟨rfl, rfl⟩ (by kernel_rfl) rfl
  (fun f fn hf hfn => by
   obtain rfl : f = 5 := Option.some.inj ((show Tryz.prog.funcNamed "tendril/tendrillaw16.DatumBack" = some 5 by kernel_rfl).symm.trans hf) |>.symm
   obtain rfl : fn = Tryz.f5 := (Option.some.inj (Tryz.func5.symm.trans hfn)).symm
   exact ⟨by kernel_rfl, wants⟩)
  (by kernel_rfl)
end Go.Proofs.YtidcecpbihmloaaGreatDoor.datumBack
namespace Go.Proofs.YtidcecpbihmloaaGreatDoor
/-- The card, under a short name, for the claim. -/
theorem datumBack_holds : Rows.DatumBackCardSaid := datumBack.proved
end Go.Proofs.YtidcecpbihmloaaGreatDoor
