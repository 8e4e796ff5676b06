/- The row and the card of OpsChecks: whatever the input, the law returns true. -/
import Derived.Test.YtgdemingopcgaaaDoorOC5
import Derived.OwnWalk
import Derived.Deep.RegionHeld3
import Derived.Test.YtgdemingopcgaaaDoorRows
import Derived.Test.YtgdemingopcgaaaDoorCards
import Derived.Test.YtgdemingopcgaaaDoorTie
import Derived.WalkKit
import Derived.ProofKit
import Derived.OpenShut
import Derived.ShutString
import Derived.ChangeOld
import Derived.Below
import Derived.SizedLaws
import Derived.LaidMore
import Derived.Stop.Joined
import Derived.SevenTiedAt
import Derived.MakeChecks
import Derived.Handed
import Derived.Lib.SmallJoins
import Derived.Carry

namespace Go.Proofs.YtgdemingopcgaaaDoorE
open Go Go.RowKit Go.Proofs.YtgdemingopcgaaaDoorW.PrintWords Go.Proofs.YtgdemingopcgaaaDoorW.PrintMore Go.Proofs.YtgdemingopcgaaaDoorX Go.Proofs.YtgdemingopcgaaaDoor.P26
set_option linter.unusedVariables false
set_option linter.unusedSimpArgs false
set_option maxRecDepth 100000
theorem w64_succ (i : Nat) (h : i < 9223372036854775807) : wrap64 ((i : Int) + 1) = ((i + 1 : Nat) : Int) := by unfold wrap64; omega
theorem few_l1 (l : List S24) (n : Int) (i : Int) (y0 y1 y2 y3 : Int) (y4 y5 y6 y7 : ByteArray) (f8 : List S51) (hf : f8.length ≤ 9223372036854775807) (h : ∀ x5, ∃ b, Ev (fun k => tendrilplain_FewOps.l0 k l x5 n (wrap64 (i + 1))) b) : ∀ d j : Nat, j + d = f8.length → ∀ x5, ∃ b, Ev (fun k => tendrilplain_FewOps.l1 k l x5 n i (f8.length : Int) (j : Int) y0 y1 y2 y3 y4 y5 y6 y7 f8) b := by
  intro d
  induction d with
  | zero =>
    intro j hj x5
    obtain ⟨b, hb⟩ := h x5
    refine ⟨b, Ev.step (fun k => ?_) hb⟩
    simp only [tendrilplain_FewOps.l1]
    rw [if_neg (by omega)]
  | succ d ih =>
    intro j hj x5
    obtain ⟨b, hb⟩ := ih (j + 1) (by omega) (wrap64 (x5 - (wrap64 (Int.tdiv (wrap64 ((((rd_T51 f8 j).f1).size : Int) + (((rd_T51 f8 j).f0).size : Int))) 4096))))
    refine ⟨b, Ev.step (fun k => ?_) hb⟩
    simp only [tendrilplain_FewOps.l1]
    rw [if_pos (by omega), if_pos (by omega), if_pos (by omega), w64_succ j (by omega)]
theorem few_l0 (l : List S24) (hn : l.length ≤ 9223372036854775807) (hf : ∀ i : Nat, i < l.length → (rd_T24 l i).f8.length ≤ 9223372036854775807) : ∀ d i : Nat, i + d = l.length → ∀ x5, ∃ b, Ev (fun k => tendrilplain_FewOps.l0 k l x5 (l.length : Int) (i : Int)) b := by
  intro d
  induction d with
  | zero =>
    intro i hi x5
    refine ⟨decide (0 ≤ x5), Ev.step (f := fun _ => some (decide (0 ≤ x5))) (fun k => ?_) (Ev.now _)⟩
    simp only [tendrilplain_FewOps.l0]
    rw [if_neg (by omega)]
  | succ d ih =>
    intro i hi x5
    obtain ⟨v, hv⟩ : ∃ v, v = (wrap64 ((wrap64 ((wrap64 (x5 - 1)) - (((rd_T24 l i).f8).length : Int))) - (wrap64 (Int.tdiv (wrap64 ((wrap64 ((wrap64 ((((rd_T24 l i).f7).size : Int) + (((rd_T24 l i).f5).size : Int))) + (((rd_T24 l i).f4).size : Int))) + (((rd_T24 l i).f6).size : Int))) 4096)))) := ⟨_, rfl⟩
    by_cases hlt : v < 0
    · refine ⟨false, Ev.step (f := fun _ => some false) (fun k => ?_) (Ev.now _)⟩
      simp only [tendrilplain_FewOps.l0]
      rw [if_pos (by omega), if_pos (by omega), if_pos (by omega), ← hv, if_pos hlt]
    · obtain ⟨b, hb⟩ := few_l1 l (l.length : Int) (i : Int) (rd_T24 l i).f0 (rd_T24 l i).f1 (rd_T24 l i).f2 (rd_T24 l i).f3 (rd_T24 l i).f4 (rd_T24 l i).f5 (rd_T24 l i).f6 (rd_T24 l i).f7 (rd_T24 l i).f8 (hf i (by omega)) (fun x5 => by
        have := ih (i + 1) (by omega) x5
        rw [w64_succ i (by omega)]
        exact this) (rd_T24 l i).f8.length 0 (by omega) v
      refine ⟨b, Ev.step (fun k => ?_) hb⟩
      simp only [tendrilplain_FewOps.l0]
      rw [if_pos (by omega), if_pos (by omega), if_pos (by omega), ← hv, if_neg hlt]
      rfl
theorem few_c (A : Option Addr) (c : Nat) (l : List S24) (most : Int) (w : World) (hgl : GL w) (hl : Kd.C k24 w A l.length l) (hc : l.length ≤ c) (hn : l.length ≤ 9223372036854775807) (hf : ∀ i : Nat, i < l.length → (rd_T24 l i).f8.length ≤ 9223372036854775807) :
    Calls Tryd.prog 6 #[.slice A l.length c, .int .i64 most] w fun e w' => (∃ b : Bool, e = .returned (.bool b)) ∧ Below w.heap.size w w' := by
  obtain ⟨b, k, hk⟩ := few_l0 l hn hf l.length 0 (by omega) most
  exact (tendrilplain_FewOps.calls k A c l most b w hgl hl hc (hk k (Nat.le_refl _))).mono fun e w' h => ⟨⟨b, h.1⟩, h.2⟩
theorem attrs_self (l : List S51) (hn : l.length ≤ 9223372036854775807) : ∀ d i : Nat, i + d = l.length → Ev (fun k => tendrilplain_Attrs.l0 k l l (l.length : Int) (i : Int)) true := by
  intro d
  induction d with
  | zero =>
    intro i hi
    refine Ev.step (f := fun _ => some true) (fun k => ?_) (Ev.now _)
    simp only [tendrilplain_Attrs.l0]
    rw [if_neg (by omega)]
  | succ d ih =>
    intro i hi
    refine Ev.step (fun k => ?_) (ih (i + 1) (by omega))
    simp only [tendrilplain_Attrs.l0]
    rw [if_pos (by omega), if_pos (by omega), if_pos (by omega), if_pos (by omega), if_neg (by simp), w64_succ i (by omega)]
theorem op_self (x : S24) (hn : x.f8.length ≤ 9223372036854775807) : Ev (fun k => tendrilplain_Op.f k x.f0 x.f1 x.f2 x.f3 x.f4 x.f5 x.f6 x.f7 x.f8 x.f0 x.f1 x.f2 x.f3 x.f4 x.f5 x.f6 x.f7 x.f8) true := by
  obtain ⟨k0, h0⟩ := attrs_self x.f8 hn x.f8.length 0 (by omega)
  refine ⟨k0, fun k hk => ?_⟩
  unfold tendrilplain_Op.f
  simp only [if_true]
  unfold tendrilplain_Attrs.f
  rw [if_pos rfl]
  have := h0 k hk
  simp only at this
  rw [show ((0 : Nat) : Int) = 0 from rfl] at this
  rw [this]
  rfl
theorem op_c (x : S24) (A A' : Option Addr) (c c' : Nat) (w : World) (hgl : GL w) (hl : Kd.C k51 w A x.f8.length x.f8) (hc : x.f8.length ≤ c) (hl' : Kd.C k51 w A' x.f8.length x.f8) (hc' : x.f8.length ≤ c') :
    Calls Tryd.prog 12 #[opOf x A c, opOf x A' c'] w fun e w' => e = .returned (.bool true) ∧ Below w.heap.size w w' := by
  obtain ⟨k, hk⟩ := op_self x hl.2.1
  exact tendrilplain_Op.calls k _ _ _ _ _ _ _ _ A c _ _ _ _ _ _ _ _ _ A' c' _ true w hgl hl hc hl' hc' (hk k (Nat.le_refl _))
theorem times_l0 (l : List S24) (kd : Int) (hn : l.length ≤ 9223372036854775807) : ∀ d i : Nat, i + d = l.length → Ev (fun k => tendrilref25_Times.l0 k l kd (cntK (l.take i) kd : Int) (l.length : Int) (i : Int)) (cntK l kd : Int) := by
  intro d
  induction d with
  | zero =>
    intro i hi
    refine Ev.step (f := fun _ => some (cntK (l.take i) kd : Int)) (fun k => ?_) (Ev.is (by rw [List.take_of_length_le (by omega)]))
    simp only [tendrilref25_Times.l0]
    rw [if_neg (by omega)]
  | succ d ih =>
    intro i hi
    have h1 := ih (i + 1) (by omega)
    rw [take_snoc24 l i (by omega), cntK_snoc] at h1
    have hle := cntK_le (l.take i) kd
    rw [List.length_take] at hle
    refine Ev.step (fun k => by simp only [tendrilref25_Times.l0]; rfl) ?_
    refine Ev.pos (by omega) (Ev.pos (by omega) (Ev.pos (by omega) ?_))
    by_cases he : (rd_T24 l (i : Int)).f0 = kd
    · rw [if_pos he] at h1
      refine Ev.pos he (Ev.congr (fun k => ?_) h1)
      rw [w64_succ i (by omega), w64_succ (cntK (l.take i) kd) (by omega)]
    · rw [if_neg he] at h1
      refine Ev.neg he (Ev.congr (fun k => ?_) h1)
      rw [w64_succ i (by omega)]
      rfl
theorem Times_c (A : Option Addr) (c : Nat) (l : List S24) (kd : Int) (w : World) (hgl : GL w) (hl : Kd.C k24 w A l.length l) (hc : l.length ≤ c) :
    Calls Tryd.prog 17 #[.slice A l.length c, .int .i64 kd] w fun e w' => e = .returned (.int .i64 (cntK l kd)) ∧ Below w.heap.size w w' := by
  obtain ⟨k, hk⟩ := times_l0 l kd hl.2.1 l.length 0 (by omega)
  refine (tendrilref25_Times.calls k A c l kd (cntK l kd : Int) w hgl hl hc (hk k (Nat.le_refl _))).mono ?_
  rintro e w' ⟨he, hd⟩
  exact ⟨he, hd.below⟩
end Go.Proofs.YtgdemingopcgaaaDoorE

namespace Go.Proofs.YtgdemingopcgaaaDoorE
open Go Go.RowKit Go.Proofs.YtgdemingopcgaaaDoorW.PrintWords Go.Proofs.YtgdemingopcgaaaDoorW.PrintMore Go.Proofs.YtgdemingopcgaaaDoorX Go.Proofs.YtgdemingopcgaaaDoor.P26
set_option linter.unusedVariables false
set_option linter.unusedSimpArgs false
set_option maxRecDepth 100000
theorem rcheck_c (x : S24) (A : Option Addr) (c : Nat) (w : World) (hgl : GL w) (hl : Kd.C k51 w A x.f8.length x.f8) (hc : x.f8.length ≤ c) (hx : okX x) :
    Calls Tryd.prog 9 #[opOf x A c] w fun e w' => e = .returned (.int .i64 (chk x)) ∧ Below w.heap.size w w' := by
  obtain ⟨k, hk⟩ := rcheck_ev x hx
  exact tendrilref25_Check.calls k _ _ _ _ _ _ _ _ A c _ _ w hgl hl hc (hk k (Nat.le_refl _))
theorem rfirst_c (A : Option Addr) (c : Nat) (l : List S24) (w : World) (hgl : GL w) (hl : Kd.C k24 w A l.length l) (hc : l.length ≤ c) (hx : ∀ i : Nat, i < l.length → okX (rd_T24 l i)) :
    Calls Tryd.prog 15 #[.slice A l.length c] w fun e w' => e = .returned (.tuple #[.int .i64 (firstS l).1, .int .i64 (firstS l).2]) ∧ Below w.heap.size w w' := by
  obtain ⟨k, hk⟩ := rfirst_ev l hl.2.1 hx
  exact tendrilref25_First.calls k A c l _ _ w hgl hl hc (hk k (Nat.le_refl _))
def lineO (x : S24) : ByteArray := if chk x = 0 then lineB x else em
theorem Line_any (x : S24) (A : Option Addr) (c : Nat) (w : World) (hgl : GL w) (hwd : WD w) (hx : okX x) (hc : x.f8.length ≤ c) (hca : Kd.C k51 w A x.f8.length x.f8) :
    Calls Tryd.prog 8 #[opOf x A c] w fun e w' => e = .returned (.tuple #[.string (lineO x), .int .i64 (chk x)]) ∧ Below w.heap.size w w' := by
  unfold lineO
  by_cases hk : chk x = 0
  · rw [if_pos hk]
    obtain ⟨h17, hz⟩ := chk_ok x hk
    refine (Line_ok x A c w hgl hx hc hca hwd hk h17 hz).mono ?_
    rintro e w' ⟨rfl, hb⟩
    exact ⟨by rw [hk], hb⟩
  · rw [if_neg hk]
    exact Line_bad x A c w hgl hx hc hca hk
set_option maxHeartbeats 4000000 in
theorem rCount_c (A : Option Addr) (c : Nat) (l : List S24) (w : World) (hgl : GL w) (hl : Kd.C k24 w A l.length l) (hc : l.length ≤ c) :
    Calls Tryd.prog 18 #[.slice A l.length c] w fun e w' => e = .returned (costV l) ∧ Below w.heap.size w w' := by
  have HB0 := Aside0.mk (below_alloc (Below.refl w.heap.size w) (.cells #[.int .i64 0, .int .i64 0, .int .i64 0, .int .i64 0, .int .i64 0, .int .i64 0, .int .i64 0] 44))
  have HK0 := Aside0.mk (heap_alloc_new w (.cells #[.int .i64 0, .int .i64 0, .int .i64 0, .int .i64 0, .int .i64 0, .int .i64 0, .int .i64 0] 44))
  have HT : Aside0 (∀ W kd, Below w.heap.size w W → Calls Tryd.prog 17 #[.slice A l.length c, .int .i64 kd] W fun e w' => e = .returned (.int .i64 (cntK l kd)) ∧ Below W.heap.size W w') := ⟨fun W kd hW => Times_c A c l kd W (hgl.below hW) (Kd.C_below hl hW) hc⟩
  clear hgl hl
  unfold costV
  go_enter Tryd.func18, Tryd.ntmps18
  go_wp2_with fail
  refine (HT.out _ 1 HB0.out).mono ?_
  rintro e w1 ⟨rfl, hb⟩
  have HB1 := Aside0.mk (below_step HB0.out hb)
  have HK1 := Aside0.mk ((hb.block _ (by simp)).trans HK0.out)
  clear hb
  go_wp2_with fail
  refine (HT.out _ 2 HB1.out).mono ?_
  rintro e w2 ⟨rfl, hb⟩
  have HB2 := Aside0.mk (below_step HB1.out hb)
  have HK2 := Aside0.mk ((hb.block _ (blk_lt' HK1.out)).trans HK1.out)
  clear hb
  go_wp2_with fail
  refine (HT.out _ 3 HB2.out).mono ?_
  rintro e w3 ⟨rfl, hb⟩
  have HB3 := Aside0.mk (below_step HB2.out hb)
  have HK3 := Aside0.mk ((hb.block _ (blk_lt' HK2.out)).trans HK2.out)
  clear hb
  go_wp2_with fail
  refine (HT.out _ 4 HB3.out).mono ?_
  rintro e w4 ⟨rfl, hb⟩
  have HB4 := Aside0.mk (below_step HB3.out hb)
  have HK4 := Aside0.mk ((hb.block _ (blk_lt' HK3.out)).trans HK3.out)
  clear hb
  go_wp2_with fail
  refine (HT.out _ 5 HB4.out).mono ?_
  rintro e w5 ⟨rfl, hb⟩
  have HB5 := Aside0.mk (below_step HB4.out hb)
  have HK5 := Aside0.mk ((hb.block _ (blk_lt' HK4.out)).trans HK4.out)
  clear hb
  go_wp2_with fail
  refine (HT.out _ 6 HB5.out).mono ?_
  rintro e w6 ⟨rfl, hb⟩
  have HB6 := Aside0.mk (below_step HB5.out hb)
  have HK6 := Aside0.mk ((hb.block _ (blk_lt' HK5.out)).trans HK5.out)
  clear hb
  go_wp2_with fail
  refine (HT.out _ 7 HB6.out).mono ?_
  rintro e w7 ⟨rfl, hb⟩
  have HB7 := Aside0.mk (below_step HB6.out hb)
  have HK7 := Aside0.mk ((hb.block _ (blk_lt' HK6.out)).trans HK6.out)
  have hy := Lib.cell_of_heap HK7.out
  have hz := Lib.frozen_of_heap HK7.out
  clear hb
  go_wp2_with fail
  have hg := Nat.le_refl w.heap.size
  refine bodyPost_ret (results_cell_row rfl _ _ w.heap.size 44 _ (0, 0) _ rfl (set_blk (j := 6) (set_blk (j := 5) (set_blk (j := 4) (set_blk (j := 3) (set_blk (j := 2) (set_blk (j := 1) (set_blk (j := 0) HK7.out _) _) _) _) _) _) _) Tryd.underlying44 rfl (by kernel_rfl)) rfl ⟨rfl, ?_⟩
  exact (((((((HB7.out.setCell hg _).setCell hg _).setCell hg _).setCell hg _).setCell hg _).setCell hg _).setCell hg _)

theorem cells7 : Tryd.prog.cellsOf 44 = 7 := by kernel_rfl
theorem cellsI : Tryd.prog.cellsOf 3 = 1 := by kernel_rfl
theorem keyT7 : Tryd.prog.keyTypeAt 3 44 = true := by kernel_rfl
def lits7 (a b c d e f g : Nat) : List Lit := [.int .i64 a, .int .i64 b, .int .i64 c, .int .i64 d, .int .i64 e, .int .i64 f, .int .i64 g]
def val7 (a b c d e f g : Nat) : Value := .agg #[.int .i64 a, .int .i64 b, .int .i64 c, .int .i64 d, .int .i64 e, .int .i64 f, .int .i64 g]
theorem keyLits7 (a b c d e f g : Nat) (h : a + b + c + d + e + f + g ≤ 9223372036854775807) :
    Tryd.prog.keyLits 3 44 (val7 a b c d e f g).cells.toList = some (lits7 a b c d e f g) := by
  unfold Program.keyLits val7 lits7
  simp only [Tryd.underlying44, Value.cells]
  have wf : ∀ n : Nat, n ≤ 9223372036854775807 → (Lit.int .i64 (n : Int)).wf = true := fun n hn => by
    unfold Lit.wf
    rw [Bool.and_eq_true, decide_eq_true_iff, decide_eq_true_iff]
    exact ⟨by show (-9223372036854775808 : Int) ≤ n; omega, by show (n : Int) ≤ 9223372036854775807; omega⟩
  rw [if_pos ⟨by rw [cells7]; rfl, by decide +kernel⟩]
  simp [Program.keyLits, Tryd.underlying3, cellsI, wf a (by omega), wf b (by omega), wf c (by omega), wf d (by omega), wf e (by omega), wf f (by omega), wf g (by omega)]
theorem formed7 (a b c d e f g : Nat) : (val7 a b c d e f g).formed Tryd.prog 44 = true := by
  simp [val7, Value.formed, Tryd.underlying44, cells7]
theorem eq7 (k : Nat) (w : World) (a b c d e f g : Nat) (h : a + b + c + d + e + f + g ≤ 9223372036854775807) :
    (Op.equalIn (k + 3) 44 (val7 a b c d e f g) (val7 a b c d e f g)).run Tryd.prog w = .ok true w := by
  obtain ⟨r, hr, hi⟩ := run_equalIn_deep k 3 44 keyT7 w 3 3 _ _ _ _ (formed7 a b c d e f g) (formed7 a b c d e f g) (keyLits7 a b c d e f g h) (keyLits7 a b c d e f g h)
  rw [hr]
  congr 1
  exact hi.2 rfl
theorem cost7 (l : List S24) : costV l = val7 (cntK l 1) (cntK l 2) (cntK l 3) (cntK l 4) (cntK l 5) (cntK l 6) (cntK l 7) := rfl
end Go.Proofs.YtgdemingopcgaaaDoorE

namespace Go.Proofs.YtgdemingopcgaaaDoorE
open Go Go.RowKit Go.Proofs.YtgdemingopcgaaaDoorW.PrintWords Go.Proofs.YtgdemingopcgaaaDoorW.PrintMore Go.Proofs.YtgdemingopcgaaaDoorX Go.Proofs.YtgdemingopcgaaaDoor.P26 Go.Proofs.YtgdemingopcgaaaDoor.M02
set_option linter.unusedVariables false
set_option linter.unusedSimpArgs false
set_option maxRecDepth 100000
def X1 : S24 := ⟨1, 0, 0, 0, ⟨#[108, 105]⟩, ⟨#[107]⟩, ⟨#[]⟩, ⟨#[]⟩, [⟨⟨#[97]⟩, ⟨#[49]⟩⟩]⟩
def Y1 : S24 := ⟨2, 3, 1, 0, ⟨#[]⟩, ⟨#[]⟩, ⟨#[]⟩, ⟨#[]⟩, []⟩
def Z1 : S24 := ⟨4, 0, 1, 0, ⟨#[]⟩, ⟨#[]⟩, ⟨#[]⟩, ⟨#[]⟩, []⟩
theorem chkX1 : chk X1 = 0 := by decide +kernel
theorem chkY1 : chk Y1 = 0 := by decide +kernel
theorem chkZ1 : chk Z1 = 2 := by decide +kernel
theorem okX1 : okX X1 := ⟨i64_sm (by simp [X1]), i64_sm (by simp [X1]), i64_sm (by simp [X1]), i64_sm (by simp [X1]), by decide, by decide, by decide, by decide, by decide, fun i hi => by
  have : i = 0 := by simp [X1] at hi; omega
  subst this
  exact ⟨by decide, by decide⟩⟩
theorem okY1 : okX Y1 := ⟨i64_sm (by simp [Y1]), i64_sm (by simp [Y1]), i64_sm (by simp [Y1]), i64_sm (by simp [Y1]), by decide, by decide, by decide, by decide, by decide, fun i hi => absurd hi (Nat.not_lt_zero i)⟩
theorem okZ1 : okX Z1 := ⟨i64_sm (by simp [Z1]), i64_sm (by simp [Z1]), i64_sm (by simp [Z1]), i64_sm (by simp [Z1]), by decide, by decide, by decide, by decide, by decide, fun i hi => absurd hi (Nat.not_lt_zero i)⟩
def sX1 : ByteArray := ⟨#[99, 114, 101, 97, 116, 101, 32, 108, 105, 32, 34, 107, 34, 32, 34, 34, 32, 97, 61, 34, 49, 34]⟩
def sY1 : ByteArray := ⟨#[105, 110, 115, 101, 114, 116, 32, 51, 32, 49, 32, 48]⟩
theorem lineX1 : lineB X1 = sX1 := ba_inj (by decide +kernel)
theorem itoa_dig (n : Nat) (h : n < 10) : itoaS (n : Int) = ⟨#[UInt8.ofNat (48 + n)]⟩ := by
  apply ba_inj
  show Lib.itoa (n : Int) = _
  unfold Lib.itoa
  rw [if_neg (by omega), Int.toNat_natCast, dd_lt h]
theorem lineY1 : lineB Y1 = sY1 := by
  have h : lineB Y1 = putS (⟨#[105, 110, 115, 101, 114, 116]⟩ : ByteArray) [itoaS ((3 : Nat) : Int), itoaS ((1 : Nat) : Int), itoaS ((0 : Nat) : Int)] := rfl
  rw [h, itoa_dig 3 (by omega), itoa_dig 1 (by omega), itoa_dig 0 (by omega)]
  exact ba_inj (by decide +kernel)
theorem readY1 : readS sY1 = (Y1, 0) := by rw [← lineY1]; exact read_line Y1 okY1 chkY1
theorem C51_1 {W : World} {b T : Nat} (h : W.heap[b]? = some (.cells #[.string ⟨#[97]⟩, .string ⟨#[49]⟩] T (0, 0))) : Kd.C k51 W (some ⟨b, 0, none⟩) 1 X1.f8 := by
  refine ⟨rfl, by omega, fun _ => ⟨_, rfl, ?_⟩⟩
  intro j p hp
  match j, hp with
  | 0, hp =>
    simp [X1] at hp
    subst hp
    refine ⟨[.string ⟨#[97]⟩, .string ⟨#[49]⟩], rfl, k51_mk W ⟨⟨#[97]⟩, ⟨#[49]⟩⟩, ?_⟩
    intro i u hu
    show W.cell? ((⟨b, 0, none⟩ : Addr).add (0 * 2 + i)) = _
    rw [add_plain, Lib.cell_of_heap h]
    rw [Nat.zero_mul, Nat.zero_add]
    simpa using hu
theorem C51_0 (W : World) (A : Option Addr) : Kd.C k51 W A 0 [] := ⟨rfl, by omega, fun h => absurd h (Nat.lt_irrefl 0)⟩
theorem C24_3 {W : World} {A AY : Option Addr} {cY : Nat} (hA : Kd.C k51 W A 1 X1.f8) : Kd.C k24 (W.alloc (.cells #[.int .i64 1, .int .i64 0, .int .i64 0, .int .i64 0, .string ⟨#[108, 105]⟩, .string ⟨#[107]⟩, .string ⟨#[]⟩, .string ⟨#[]⟩, .slice A 1 1, .int .i64 2, .int .i64 3, .int .i64 1, .int .i64 0, .string ⟨#[]⟩, .string ⟨#[]⟩, .string ⟨#[]⟩, .string ⟨#[]⟩, .slice AY 0 cY, .int .i64 2, .int .i64 3, .int .i64 1, .int .i64 0, .string ⟨#[]⟩, .string ⟨#[]⟩, .string ⟨#[]⟩, .string ⟨#[]⟩, .slice AY 0 cY] 24 (0, 0))) (some ⟨W.heap.size, 0, none⟩) 3 [X1, Y1, Y1] := by
  have h := heap_alloc_new W (.cells #[.int .i64 1, .int .i64 0, .int .i64 0, .int .i64 0, .string ⟨#[108, 105]⟩, .string ⟨#[107]⟩, .string ⟨#[]⟩, .string ⟨#[]⟩, .slice A 1 1, .int .i64 2, .int .i64 3, .int .i64 1, .int .i64 0, .string ⟨#[]⟩, .string ⟨#[]⟩, .string ⟨#[]⟩, .string ⟨#[]⟩, .slice AY 0 cY, .int .i64 2, .int .i64 3, .int .i64 1, .int .i64 0, .string ⟨#[]⟩, .string ⟨#[]⟩, .string ⟨#[]⟩, .string ⟨#[]⟩, .slice AY 0 cY] 24 (0, 0))
  have hA' := Kd.C_below hA (below_alloc (Below.refl _ _) (.cells #[.int .i64 1, .int .i64 0, .int .i64 0, .int .i64 0, .string ⟨#[108, 105]⟩, .string ⟨#[107]⟩, .string ⟨#[]⟩, .string ⟨#[]⟩, .slice A 1 1, .int .i64 2, .int .i64 3, .int .i64 1, .int .i64 0, .string ⟨#[]⟩, .string ⟨#[]⟩, .string ⟨#[]⟩, .string ⟨#[]⟩, .slice AY 0 cY, .int .i64 2, .int .i64 3, .int .i64 1, .int .i64 0, .string ⟨#[]⟩, .string ⟨#[]⟩, .string ⟨#[]⟩, .string ⟨#[]⟩, .slice AY 0 cY] 24 (0, 0)))
  generalize W.alloc _ = W2 at h hA' ⊢
  refine ⟨rfl, by omega, fun _ => ⟨_, rfl, ?_⟩⟩
  intro j p hp
  match j, hp with
  | 0, hp =>
    simp at hp
    subst hp
    refine ⟨[.int .i64 1, .int .i64 0, .int .i64 0, .int .i64 0, .string ⟨#[108, 105]⟩, .string ⟨#[107]⟩, .string ⟨#[]⟩, .string ⟨#[]⟩, .slice A 1 1], rfl, k24_mk W2 X1 (A8 := A) (c8 := 1) (Nat.le_refl 1) hA', ?_⟩
    intro i u hu
    show W2.cell? ((⟨W.heap.size, 0, none⟩ : Addr).add (0 * 9 + i)) = _
    rw [add_plain, Lib.cell_of_heap h]
    match i, hu with
    | 0, hu | 1, hu | 2, hu | 3, hu | 4, hu | 5, hu | 6, hu | 7, hu | 8, hu => exact hu
  | 1, hp =>
    simp at hp
    subst hp
    refine ⟨[.int .i64 2, .int .i64 3, .int .i64 1, .int .i64 0, .string ⟨#[]⟩, .string ⟨#[]⟩, .string ⟨#[]⟩, .string ⟨#[]⟩, .slice AY 0 cY], rfl, k24_mk W2 Y1 (A8 := AY) (c8 := cY) (Nat.zero_le _) (C51_0 W2 AY), ?_⟩
    intro i u hu
    show W2.cell? ((⟨W.heap.size, 0, none⟩ : Addr).add (1 * 9 + i)) = _
    rw [add_plain, Lib.cell_of_heap h]
    match i, hu with
    | 0, hu | 1, hu | 2, hu | 3, hu | 4, hu | 5, hu | 6, hu | 7, hu | 8, hu => exact hu
  | 2, hp =>
    simp at hp
    subst hp
    refine ⟨[.int .i64 2, .int .i64 3, .int .i64 1, .int .i64 0, .string ⟨#[]⟩, .string ⟨#[]⟩, .string ⟨#[]⟩, .string ⟨#[]⟩, .slice AY 0 cY], rfl, k24_mk W2 Y1 (A8 := AY) (c8 := cY) (Nat.zero_le _) (C51_0 W2 AY), ?_⟩
    intro i u hu
    show W2.cell? ((⟨W.heap.size, 0, none⟩ : Addr).add (2 * 9 + i)) = _
    rw [add_plain, Lib.cell_of_heap h]
    match i, hu with
    | 0, hu | 1, hu | 2, hu | 3, hu | 4, hu | 5, hu | 6, hu | 7, hu | 8, hu => exact hu
theorem costXYY : costV [X1, Y1, Y1] = val7 1 2 0 0 0 0 0 := by
  have h : (cntK [X1, Y1, Y1] 1 = 1 ∧ cntK [X1, Y1, Y1] 2 = 2 ∧ cntK [X1, Y1, Y1] 3 = 0 ∧ cntK [X1, Y1, Y1] 4 = 0) ∧ cntK [X1, Y1, Y1] 5 = 0 ∧ cntK [X1, Y1, Y1] 6 = 0 ∧ cntK [X1, Y1, Y1] 7 = 0 := by decide +kernel
  rw [cost7, h.1.1, h.1.2.1, h.1.2.2.1, h.1.2.2.2, h.2.1, h.2.2.1, h.2.2.2]
/-- The contracts that same asks, at its literals. -/
theorem s_line (w : World) (A : Option Addr) (hgl : GL w) (hwd : WD w) (hA : Kd.C k51 w A 1 X1.f8) :
    Calls Tryd.prog 8 #[.agg #[.int .i64 1, .int .i64 0, .int .i64 0, .int .i64 0, .string ⟨#[108, 105]⟩, .string ⟨#[107]⟩, .string ⟨#[]⟩, .string ⟨#[]⟩, .slice A 1 1]] w fun e w' => e = .returned (.tuple #[.string ⟨#[99, 114, 101, 97, 116, 101, 32, 108, 105, 32, 34, 107, 34, 32, 34, 34, 32, 97, 61, 34, 49, 34]⟩, .int .i64 0]) ∧ Below w.heap.size w w' := by
  have h := Line_any X1 A 1 w hgl hwd okX1 (Nat.le_refl 1) hA
  unfold lineO at h
  rw [chkX1, if_pos rfl, lineX1] at h
  exact h
theorem s_read (w : World) (hgl : GL w) (hwd : WD w) :
    Calls Tryd.prog 10 #[.string ⟨#[105, 110, 115, 101, 114, 116, 32, 51, 32, 49, 32, 48]⟩] w fun e w' => (∃ A c, e = .returned (.tuple #[.agg #[.int .i64 2, .int .i64 3, .int .i64 1, .int .i64 0, .string ⟨#[]⟩, .string ⟨#[]⟩, .string ⟨#[]⟩, .string ⟨#[]⟩, .slice A 0 c], .int .i64 0])) ∧ Below w.heap.size w w' := by
  refine (Read_c sY1 (by decide) w hgl hwd).mono ?_
  rintro e w' ⟨⟨A, c, rfl, -, -⟩, hb⟩
  rw [readY1]
  exact ⟨⟨A, c, rfl⟩, hb⟩
theorem s_count (w : World) (g : Nat) (h : Kd.C k24 w (some ⟨g, 0, none⟩) 3 [X1, Y1, Y1]) :
    Calls Tryd.prog 16 #[.slice (some ⟨g, 0, none⟩) 3 3] w fun e w' => e = .returned (.agg #[.int .i64 1, .int .i64 2, .int .i64 0, .int .i64 0, .int .i64 0, .int .i64 0, .int .i64 0]) ∧ Below w.heap.size w w' := by
  have := Count_c (some ⟨g, 0, none⟩) 3 [X1, Y1, Y1] w h (Nat.le_refl 3)
  rw [costXYY] at this
  exact this
theorem s_op (w : World) (A : Option Addr) (c : Nat) (hgl : GL w) :
    Calls Tryd.prog 12 #[.agg #[.int .i64 2, .int .i64 3, .int .i64 1, .int .i64 0, .string ⟨#[]⟩, .string ⟨#[]⟩, .string ⟨#[]⟩, .string ⟨#[]⟩, .slice A 0 c], .agg #[.int .i64 2, .int .i64 3, .int .i64 1, .int .i64 0, .string ⟨#[]⟩, .string ⟨#[]⟩, .string ⟨#[]⟩, .string ⟨#[]⟩, .slice none 0 0]] w fun e w' => e = .returned (.bool true) ∧ Below w.heap.size w w' :=
  op_c Y1 A none c 0 w hgl (C51_0 w A) (Nat.zero_le _) (C51_0 w none) (Nat.zero_le _)
theorem s_total (w : World) : Calls Tryd.prog 19 #[.agg #[.int .i64 1, .int .i64 2, .int .i64 0, .int .i64 0, .int .i64 0, .int .i64 0, .int .i64 0]] w fun e w' => e = .returned (.int .i64 3) ∧ Below w.heap.size w w' := Total_C 1 2 0 0 0 0 0 w (by omega)
theorem s_check (w : World) (hgl : GL w) : Calls Tryd.prog 13 #[.agg #[.int .i64 4, .int .i64 0, .int .i64 1, .int .i64 0, .string ⟨#[]⟩, .string ⟨#[]⟩, .string ⟨#[]⟩, .string ⟨#[]⟩, .slice none 0 0]] w fun e w' => e = .returned (.int .i64 2) ∧ Below w.heap.size w w' := by
  have h := Check_x Z1 none 0 w hgl (C51_0 w none) (Nat.zero_le _) okZ1
  rw [chkZ1] at h
  exact h
set_option maxHeartbeats 4000000 in
theorem lsame_c (w : World) (hgl : GL w) (hwd : WD w) : Calls Tryd.prog 7 #[] w fun e w' => e = .returned (.bool true) ∧ Below w.heap.size w w' := by
  have heq : ∀ d W, (Op.equalIn (d + 3) 44 (.agg #[.int .i64 1, .int .i64 2, .int .i64 0, .int .i64 0, .int .i64 0, .int .i64 0, .int .i64 0]) (.agg #[.int .i64 1, .int .i64 2, .int .i64 0, .int .i64 0, .int .i64 0, .int .i64 0, .int .i64 0])).run Tryd.prog W = .ok true W := fun d W => eq7 d W 1 2 0 0 0 0 0 (by omega)
  have HG := Aside0.mk (fun W (h : Below w.heap.size w W) => hgl.below h)
  have HW := Aside0.mk (fun W (h : Below w.heap.size w W) => hwd.below h)
  have HEQ := Aside0.mk heq
  have hb0 : Below w.heap.size w ((w.alloc (.cells #[.string ⟨#[97]⟩, .string ⟨#[49]⟩] 51)).alloc (.cells #[.int .i64 1, .int .i64 0, .int .i64 0, .int .i64 0, .string ⟨#[108, 105]⟩, .string ⟨#[107]⟩, .string ⟨#[]⟩, .string ⟨#[]⟩, .slice (some ⟨w.heap.size, 0, none⟩) 1 1] 24)) := below_alloc (below_alloc (Below.refl _ _) _) _
  have HB0 := Aside0.mk hb0
  have HA0 := Aside0.mk (two_old_ w (.cells #[.string ⟨#[97]⟩, .string ⟨#[49]⟩] 51) (.cells #[.int .i64 1, .int .i64 0, .int .i64 0, .int .i64 0, .string ⟨#[108, 105]⟩, .string ⟨#[107]⟩, .string ⟨#[]⟩, .string ⟨#[]⟩, .slice (some ⟨w.heap.size, 0, none⟩) 1 1] 24))
  have HX0 := Aside0.mk (two_new_ w (.cells #[.string ⟨#[97]⟩, .string ⟨#[49]⟩] 51) (.cells #[.int .i64 1, .int .i64 0, .int .i64 0, .int .i64 0, .string ⟨#[108, 105]⟩, .string ⟨#[107]⟩, .string ⟨#[]⟩, .string ⟨#[]⟩, .slice (some ⟨w.heap.size, 0, none⟩) 1 1] 24))
  clear hgl hwd heq hb0
  go_enter Tryd.func7, Tryd.ntmps7
  go_wp2_with fail
  refine (s_line _ _ (HG.out _ HB0.out) (HW.out _ HB0.out) (C51_1 HA0.out)).mono ?_
  rintro e w3 ⟨rfl, hb⟩
  have HB3 := Aside0.mk (below_step HB0.out hb)
  have HA3 := Aside0.mk ((hb.block _ (blk_lt' HA0.out)).trans HA0.out)
  have HX3 := Aside0.mk ((hb.block _ (blk_lt' HX0.out)).trans HX0.out)
  clear hb
  go_wp2_with fail
  refine (s_read _ (HG.out _ HB3.out) (HW.out _ HB3.out)).mono ?_
  rintro e w4 ⟨⟨A, c, rfl⟩, hb⟩
  have HB4 := Aside0.mk (below_step HB3.out hb)
  have HA4 := Aside0.mk ((hb.block _ (blk_lt' HA3.out)).trans HA3.out)
  have HX4 := Aside0.mk ((hb.block _ (blk_lt' HX3.out)).trans HX3.out)
  have HB5 := Aside0.mk (below_alloc HB4.out (.cells #[.int .i64 2, .int .i64 3, .int .i64 1, .int .i64 0, .string ⟨#[]⟩, .string ⟨#[]⟩, .string ⟨#[]⟩, .string ⟨#[]⟩, .slice A 0 c] 24))
  have HA5 := Aside0.mk (((below_alloc (Below.refl _ _) (.cells #[.int .i64 2, .int .i64 3, .int .i64 1, .int .i64 0, .string ⟨#[]⟩, .string ⟨#[]⟩, .string ⟨#[]⟩, .string ⟨#[]⟩, .slice A 0 c] 24)).block _ (blk_lt' HA4.out)).trans HA4.out)
  have HX5 := Aside0.mk (((below_alloc (Below.refl _ _) (.cells #[.int .i64 2, .int .i64 3, .int .i64 1, .int .i64 0, .string ⟨#[]⟩, .string ⟨#[]⟩, .string ⟨#[]⟩, .string ⟨#[]⟩, .slice A 0 c] 24)).block _ (blk_lt' HX4.out)).trans HX4.out)
  have HY5 := Aside0.mk (heap_alloc_new w4 (.cells #[.int .i64 2, .int .i64 3, .int .i64 1, .int .i64 0, .string ⟨#[]⟩, .string ⟨#[]⟩, .string ⟨#[]⟩, .string ⟨#[]⟩, .slice A 0 c] 24))
  have hx5 := Lib.cell_of_heap HX5.out
  clear hb
  go_wp2_with fail
  clear hx5
  have hC3 := C24_3 (AY := A) (cY := c) (C51_1 HA5.out)
  rw [show (w4.alloc (.cells #[.int .i64 2, .int .i64 3, .int .i64 1, .int .i64 0, .string ⟨#[]⟩, .string ⟨#[]⟩, .string ⟨#[]⟩, .string ⟨#[]⟩, .slice A 0 c] 24)).heap.size = w4.heap.size + 1 by simp] at hC3
  have HC3 := Aside0.mk hC3
  clear hC3
  with_reducible refine (s_count _ _ HC3.out).mono ?_
  rintro e w7 ⟨rfl, hb⟩
  have HB6 := Aside0.mk (below_step (below_alloc HB5.out _) hb)
  have HY6 := Aside0.mk ((hb.block _ (by simp; omega)).trans (((below_alloc (Below.refl _ _) _).block _ (blk_lt' HY5.out)).trans HY5.out))
  have HB7 := Aside0.mk (below_alloc HB6.out (.cells #[.int .i64 1, .int .i64 2, .int .i64 0, .int .i64 0, .int .i64 0, .int .i64 0, .int .i64 0] 44))
  have HY7 := Aside0.mk (((below_alloc (Below.refl _ _) (.cells #[.int .i64 1, .int .i64 2, .int .i64 0, .int .i64 0, .int .i64 0, .int .i64 0, .int .i64 0] 44)).block _ (blk_lt' HY6.out)).trans HY6.out)
  have HC7 := Aside0.mk (heap_alloc_new w7 (.cells #[.int .i64 1, .int .i64 2, .int .i64 0, .int .i64 0, .int .i64 0, .int .i64 0, .int .i64 0] 44))
  have hy7 := Lib.cell_of_heap HY7.out
  clear hb
  go_wp2_with fail
  clear hy7
  refine (s_op _ A c (HG.out _ HB7.out)).mono ?_
  rintro e w8 ⟨rfl, hb⟩
  have HB8 := Aside0.mk (below_step HB7.out hb)
  have HC8 := Aside0.mk ((hb.block _ (blk_lt' HC7.out)).trans HC7.out)
  have hc8 := Lib.cell_of_heap HC8.out
  have heq := HEQ.out
  clear hb
  go_wp2_with fail
  clear hc8 heq
  refine (s_total _).mono ?_
  rintro e w9 ⟨rfl, hb⟩
  have HB9 := Aside0.mk (below_step HB8.out hb)
  clear hb
  go_wp2_with fail
  refine (s_check _ (HG.out _ HB9.out)).mono ?_
  rintro e w10 ⟨rfl, hb⟩
  have HB10 := Aside0.mk (below_step HB9.out hb)
  clear hb
  go_wp2_with fail
  go_ret
  exact ⟨rfl, HB10.out⟩
end Go.Proofs.YtgdemingopcgaaaDoorE

namespace Go.Proofs.YtgdemingopcgaaaDoorE
open Go Go.RowKit Go.Proofs.YtgdemingopcgaaaDoorW.PrintWords Go.Proofs.YtgdemingopcgaaaDoorW.PrintMore Go.Proofs.YtgdemingopcgaaaDoorX Go.Proofs.YtgdemingopcgaaaDoor.P26
set_option linter.unusedVariables false
set_option linter.unusedSimpArgs false
set_option maxRecDepth 100000
def sumK (l : List S24) : Nat → Nat
  | 0 => 0
  | j + 1 => sumK l j + cntK l ((j + 1 : Nat) : Int)
theorem sumK_7 (l : List S24) : sumK l 7 = cntK l 1 + cntK l 2 + cntK l 3 + cntK l 4 + cntK l 5 + cntK l 6 + cntK l 7 := by
  simp only [sumK]
  simp
theorem sumK_le (l : List S24) : ∀ d j : Nat, j + d = 7 → sumK l j ≤ sumK l 7
  | 0, j, h => by
    obtain rfl : j = 7 := by omega
    exact Nat.le_refl _
  | d + 1, j, h => by
    have h1 := sumK_le l d (j + 1) (by omega)
    have h2 : sumK l (j + 1) = sumK l j + cntK l ((j + 1 : Nat) : Int) := rfl
    omega
/-- In the midst of the sum. -/
def InvS (w : World) (g : Nat) (l : List S24) (wr : World) : Prop :=
  Below w.heap.size w wr ∧ wr.heap[g]? = some (.cells #[.int .i64 (cntK l 1), .int .i64 (cntK l 2), .int .i64 (cntK l 3), .int .i64 (cntK l 4), .int .i64 (cntK l 5), .int .i64 (cntK l 6), .int .i64 (cntK l 7)] 44 (0, 0))
set_option maxHeartbeats 20000000 in
theorem opsChecks_w (A : Option Addr) (c : Nat) (l : List S24) (w : World) (hgl : GL w) (hwd : WD w) (hx : ∀ i : Nat, i < l.length → okX (rd_T24 l i)) (hc : l.length ≤ c) (hC : Kd.C k24 w A l.length l) :
    Calls Tryd.prog 5 #[.slice A l.length c] w fun e w' => e = .returned (.bool true) ∧ Below w.heap.size w w' := by
  have HG := Aside0.mk (fun W (h : Below w.heap.size w W) => hgl.below h)
  have HW := Aside0.mk (fun W (h : Below w.heap.size w W) => hwd.below h)
  have HL := Aside0.mk hC
  have HXX := Aside0.mk hx
  have hmax := hC.2.1
  have HF := Aside0.mk (few_c A c l 300 w hgl hC hc hC.2.1 (fun i hi => by
    obtain ⟨ad, A8, c8, _, _, _, _, _, _, _, _, _, _, _, hi8⟩ := at_T24 hC (i : Int) (by omega) (by omega)
    exact hi8.2.1))
  have HFI := Aside0.mk (fun W (h : Below w.heap.size w W) => First_o A c l W (hgl.below h) (Kd.C_below hC h) hc hx)
  have HRF := Aside0.mk (fun W (h : Below w.heap.size w W) => rfirst_c A c l W (hgl.below h) (Kd.C_below hC h) hc hx)
  have HCO := Aside0.mk (fun W (h : Below w.heap.size w W) => Count_c A c l W (Kd.C_below hC h) hc)
  have HRO := Aside0.mk (fun W (h : Below w.heap.size w W) => rCount_c A c l W (hgl.below h) (Kd.C_below hC h) hc)
  have HTI := Aside0.mk (fun W kd (h : Below w.heap.size w W) => Times_c A c l kd W (hgl.below h) (Kd.C_below hC h) hc)
  have h7 := cnt7 l
  have HTO := Aside0.mk (fun W => Total_C (cntK l 1) (cntK l 2) (cntK l 3) (cntK l 4) (cntK l 5) (cntK l 6) (cntK l 7) W (by omega))
  have HEQ := Aside0.mk (fun d W => eq7 d W (cntK l 1) (cntK l 2) (cntK l 3) (cntK l 4) (cntK l 5) (cntK l 6) (cntK l 7) (by omega))
  unfold costV at HCO HRO
  unfold val7 at HEQ
  clear hgl hwd hx hC h7
  go_enter Tryd.func5, Tryd.ntmps5
  go_wp2_with fail
  refine HF.out.mono ?_
  rintro e w3 ⟨⟨b, rfl⟩, hb⟩
  have HB3 := Aside0.mk hb
  clear hb
  cases b with
  | false =>
    go_wp2_with fail
    refine (lsame_c _ (HG.out _ HB3.out) (HW.out _ HB3.out)).mono ?_
    rintro e w5 ⟨rfl, hb⟩
    have HB5 := Aside0.mk (below_step HB3.out hb)
    clear hb
    go_wp2_with fail
    go_ret
    exact ⟨rfl, HB5.out⟩
  | true =>
    go_wp2_with fail
    go_loopw [17] (fun i wr => ∃ k : Nat, k ≤ l.length ∧ i = .int .i64 k ∧ Aside0 (Below w.heap.size w wr)) (fun i _ => l.length - (intOf i).toNat)
    case atStart => exact ⟨0, Nat.zero_le _, rfl, HB3⟩
    case round =>
      obtain ⟨k, hk, rfl, HB⟩ := hrel
      by_cases hlt : k < l.length
      · obtain ⟨ad, A8, c8, rfl, e0, e1, e2, e3, e4, e5, e6, e7, e8, hl8, hi8⟩ := at_T24 HL.out (k : Int) (by omega) (by omega)
        rw [Int.toNat_natCast] at e0 e1 e2 e3 e4 e5 e6 e7 e8
        have hox := HXX.out k hlt
        obtain ⟨X, hX⟩ : ∃ X, X = rd_T24 l (k : Int) := ⟨_, rfl⟩
        rw [← hX] at e0 e1 e2 e3 e4 e5 e6 e7 e8 hl8 hi8 hox
        have d0 := pw_cell_below HB.out e0
        have d1 := pw_cell_below HB.out e1
        have d2 := pw_cell_below HB.out e2
        have d3 := pw_cell_below HB.out e3
        have d4 := pw_cell_below HB.out e4
        have d5 := pw_cell_below HB.out e5
        have d6 := pw_cell_below HB.out e6
        have d7 := pw_cell_below HB.out e7
        have d8 := pw_cell_below HB.out e8
        have HCK : Aside0 (∀ W, Below w.heap.size w W → Calls Tryd.prog 13 #[opOf X A8 c8] W fun e w' => e = .returned (.int .i64 (chk X)) ∧ Below W.heap.size W w') := ⟨fun W h => Check_x X A8 c8 W (HG.out W h) (Kd.C_below hi8 h) hl8 hox⟩
        have HRC : Aside0 (∀ W, Below w.heap.size w W → Calls Tryd.prog 9 #[opOf X A8 c8] W fun e w' => e = .returned (.int .i64 (chk X)) ∧ Below W.heap.size W w') := ⟨fun W h => rcheck_c X A8 c8 W (HG.out W h) (Kd.C_below hi8 h) hl8 hox⟩
        unfold opOf opV at HCK HRC
        obtain ⟨R, hR⟩ : ∃ R, R = chk X := ⟨_, rfl⟩
        rw [← hR] at HCK HRC
        clear e0 e1 e2 e3 e4 e5 e6 e7 e8 hl8 hi8 hX hox hR
        --R6
        have HS : (wr.drew.cell? (ad.add (k * 9)) = some (.int .i64 X.f0) ∧ wr.drew.cell? ⟨(ad.add (k * 9)).block, (ad.add (k * 9)).off + 1, none⟩ = some (.int .i64 X.f1) ∧ wr.drew.cell? ⟨(ad.add (k * 9)).block, (ad.add (k * 9)).off + 2, none⟩ = some (.int .i64 X.f2) ∧ wr.drew.cell? ⟨(ad.add (k * 9)).block, (ad.add (k * 9)).off + 3, none⟩ = some (.int .i64 X.f3) ∧ wr.drew.cell? ⟨(ad.add (k * 9)).block, (ad.add (k * 9)).off + 4, none⟩ = some (.string X.f4) ∧ wr.drew.cell? ⟨(ad.add (k * 9)).block, (ad.add (k * 9)).off + 5, none⟩ = some (.string X.f5) ∧ wr.drew.cell? ⟨(ad.add (k * 9)).block, (ad.add (k * 9)).off + 6, none⟩ = some (.string X.f6) ∧ wr.drew.cell? ⟨(ad.add (k * 9)).block, (ad.add (k * 9)).off + 7, none⟩ = some (.string X.f7) ∧ wr.drew.cell? ⟨(ad.add (k * 9)).block, (ad.add (k * 9)).off + 8, none⟩ = some (.slice A8 X.f8.length c8)) ∧ Below w.heap.size w wr.drew := ⟨⟨cell_drew d0, cell_drew d1, cell_drew d2, cell_drew d3, cell_drew d4, cell_drew d5, cell_drew d6, cell_drew d7, cell_drew d8⟩, below_drew HB.out⟩
        clear d0 d1 d2 d3 d4 d5 d6 d7 d8
        go_wp2_with fail
        go_region_held3 (fun w' => (w'.cell? (ad.add (k * 9)) = some (.int .i64 X.f0) ∧ w'.cell? ⟨(ad.add (k * 9)).block, (ad.add (k * 9)).off + 1, none⟩ = some (.int .i64 X.f1) ∧ w'.cell? ⟨(ad.add (k * 9)).block, (ad.add (k * 9)).off + 2, none⟩ = some (.int .i64 X.f2) ∧ w'.cell? ⟨(ad.add (k * 9)).block, (ad.add (k * 9)).off + 3, none⟩ = some (.int .i64 X.f3) ∧ w'.cell? ⟨(ad.add (k * 9)).block, (ad.add (k * 9)).off + 4, none⟩ = some (.string X.f4) ∧ w'.cell? ⟨(ad.add (k * 9)).block, (ad.add (k * 9)).off + 5, none⟩ = some (.string X.f5) ∧ w'.cell? ⟨(ad.add (k * 9)).block, (ad.add (k * 9)).off + 6, none⟩ = some (.string X.f6) ∧ w'.cell? ⟨(ad.add (k * 9)).block, (ad.add (k * 9)).off + 7, none⟩ = some (.string X.f7) ∧ w'.cell? ⟨(ad.add (k * 9)).block, (ad.add (k * 9)).off + 8, none⟩ = some (.slice A8 X.f8.length c8)) ∧ Below w.heap.size w w')
          (first
            | with_reducible exact HS
            | (go_split_ands
               with_reducible exact ⟨⟨pw_cell_below hbf (by with_reducible assumption), pw_cell_below hbf (by with_reducible assumption), pw_cell_below hbf (by with_reducible assumption), pw_cell_below hbf (by with_reducible assumption), pw_cell_below hbf (by with_reducible assumption), pw_cell_below hbf (by with_reducible assumption), pw_cell_below hbf (by with_reducible assumption), pw_cell_below hbf (by with_reducible assumption), pw_cell_below hbf (by with_reducible assumption)⟩, then_w (by with_reducible assumption) hbf⟩))
          (first
            | (go_at_call 13
               refine (HCK.out _ ?hb).mono ?_
               case hb => first | with_reducible assumption | (go_split_ands; with_reducible assumption)
               rintro e w5 ⟨rfl, hbf⟩)
            | (go_at_call 9
               refine (HRC.out _ ?hb).mono ?_
               case hb => first | with_reducible assumption | (go_split_ands; with_reducible assumption)
               rintro e w6 ⟨rfl, hbf⟩))
        go_split_ands
        have HBF := Aside0.mk (show Below w.heap.size w w6 by with_reducible assumption)
        go_wp2_with fail
        exact ⟨⟨k + 1, by omega, by simp, HBF⟩, by simp [intOf]; omega⟩
        --END R6
      · obtain rfl : k = l.length := by omega
        go_wp2_with fail
        --R17
        refine (HFI.out _ HB.out).mono ?_
        rintro e w5 ⟨rfl, hb⟩
        have HB5 := Aside0.mk (below_step HB.out hb)
        clear hb
        go_wp2_with fail
        refine (HRF.out _ HB5.out).mono ?_
        rintro e w6 ⟨rfl, hb⟩
        have HB6 := Aside0.mk (below_step HB5.out hb)
        clear hb
        go_wp2_with fail
        refine (HCO.out _ HB6.out).mono ?_
        rintro e w7 ⟨rfl, hb⟩
        have HB7 := Aside0.mk (below_step HB6.out hb)
        clear hb
        have HB8 := Aside0.mk (below_alloc HB7.out (.cells #[.int .i64 (cntK l 1), .int .i64 (cntK l 2), .int .i64 (cntK l 3), .int .i64 (cntK l 4), .int .i64 (cntK l 5), .int .i64 (cntK l 6), .int .i64 (cntK l 7)] 44))
        have HC8 := Aside0.mk (heap_alloc_new w7 (.cells #[.int .i64 (cntK l 1), .int .i64 (cntK l 2), .int .i64 (cntK l 3), .int .i64 (cntK l 4), .int .i64 (cntK l 5), .int .i64 (cntK l 6), .int .i64 (cntK l 7)] 44))
        have HZ0 : Aside0 (InvS w w7.heap.size l (w7.alloc (.cells #[.int .i64 (cntK l 1), .int .i64 (cntK l 2), .int .i64 (cntK l 3), .int .i64 (cntK l 4), .int .i64 (cntK l 5), .int .i64 (cntK l 6), .int .i64 (cntK l 7)] 44))) := ⟨HB8.out, HC8.out⟩
        go_wp2_with fail
        go_loopw [9, 10] (fun v9 v10 wr => ∃ (j : Nat) (K : Int), K = (j : Int) + 1 ∧ j ≤ 7 ∧ v10 = .int .i64 K ∧ v9 = .int .i64 (sumK l j) ∧ Aside0 (InvS w w7.heap.size l wr)) (fun _ v10 _ => 8 - (intOf v10).toNat)
        case atStart => exact ⟨0, 1, rfl, by omega, rfl, rfl, HZ0⟩
        case round =>
          obtain ⟨j, K, hK, hj, rfl, rfl, HI⟩ := hrel
          by_cases hj7 : j < 7
          · have hK8 : K < 8 := by omega
            have hle := sumK_le l (7 - (j + 1)) (j + 1) (by omega)
            have hs1 : sumK l (j + 1) = sumK l j + cntK l K := by rw [hK]; rfl
            have hc7 := cnt7 l
            have hs7 := sumK_7 l
            have hw1 : wrap64 ((sumK l j : Int) + (cntK l K : Int)) = (sumK l (j + 1) : Int) := by unfold wrap64; omega
            have hw2 : wrap64 (K + 1) = K + 1 := by unfold wrap64; omega
            have HT := Aside0.mk (HTI.out wr K HI.out.1)
            clear hle hs1 hc7 hs7
            have HK := Aside0.mk hK
            clear hK
            go_wp2_with fail
            refine HT.out.mono ?_
            rintro e w9 ⟨rfl, hb⟩
            have HI9 : Aside0 (InvS w w7.heap.size l w9) := ⟨below_step HI.out.1 hb, (hb.block _ (blk_lt' HI.out.2)).trans HI.out.2⟩
            clear hb
            go_wp2_with fail
            exact ⟨⟨j + 1, K + 1, by have := HK.out; omega, by omega, congrArg (Value.int IntKind.i64) hw2, congrArg (Value.int IntKind.i64) hw1, HI9⟩, by have := HK.out; rw [hw2]; simp [intOf]; omega⟩
          · obtain rfl : j = 7 := by omega
            obtain rfl : K = 8 := by omega
            have hs7 := sumK_7 l
            rw [hs7]
            have heq := HEQ.out
            have d0 := cell_blk (j := 0) (v := .int .i64 (cntK l 1)) HI.out.2 rfl
            have d1 := cell_blk (j := 1) (v := .int .i64 (cntK l 2)) HI.out.2 rfl
            have d2 := cell_blk (j := 2) (v := .int .i64 (cntK l 3)) HI.out.2 rfl
            have d3 := cell_blk (j := 3) (v := .int .i64 (cntK l 4)) HI.out.2 rfl
            have d4 := cell_blk (j := 4) (v := .int .i64 (cntK l 5)) HI.out.2 rfl
            have d5 := cell_blk (j := 5) (v := .int .i64 (cntK l 6)) HI.out.2 rfl
            have d6 := cell_blk (j := 6) (v := .int .i64 (cntK l 7)) HI.out.2 rfl
            have HBR := Aside0.mk HI.out.1
            clear HI hs7 hK hj hj7
            generalize cntK l 1 = n1 at *
            generalize cntK l 2 = n2 at *
            generalize cntK l 3 = n3 at *
            generalize cntK l 4 = n4 at *
            generalize cntK l 5 = n5 at *
            generalize cntK l 6 = n6 at *
            generalize cntK l 7 = n7 at *
            have HS : (wr.drew.cell? ⟨w7.heap.size, 0, none⟩ = some (.int .i64 n1) ∧ wr.drew.cell? ⟨w7.heap.size, 1, none⟩ = some (.int .i64 n2) ∧ wr.drew.cell? ⟨w7.heap.size, 2, none⟩ = some (.int .i64 n3) ∧ wr.drew.cell? ⟨w7.heap.size, 3, none⟩ = some (.int .i64 n4) ∧ wr.drew.cell? ⟨w7.heap.size, 4, none⟩ = some (.int .i64 n5) ∧ wr.drew.cell? ⟨w7.heap.size, 5, none⟩ = some (.int .i64 n6) ∧ wr.drew.cell? ⟨w7.heap.size, 6, none⟩ = some (.int .i64 n7)) ∧ Below w.heap.size w wr.drew := ⟨⟨cell_drew d0, cell_drew d1, cell_drew d2, cell_drew d3, cell_drew d4, cell_drew d5, cell_drew d6⟩, below_drew HBR.out⟩
            clear d0 d1 d2 d3 d4 d5 d6
            go_wp2_with fail
            go_region_held3 (fun w' => (w'.cell? ⟨w7.heap.size, 0, none⟩ = some (.int .i64 n1) ∧ w'.cell? ⟨w7.heap.size, 1, none⟩ = some (.int .i64 n2) ∧ w'.cell? ⟨w7.heap.size, 2, none⟩ = some (.int .i64 n3) ∧ w'.cell? ⟨w7.heap.size, 3, none⟩ = some (.int .i64 n4) ∧ w'.cell? ⟨w7.heap.size, 4, none⟩ = some (.int .i64 n5) ∧ w'.cell? ⟨w7.heap.size, 5, none⟩ = some (.int .i64 n6) ∧ w'.cell? ⟨w7.heap.size, 6, none⟩ = some (.int .i64 n7)) ∧ Below w.heap.size w w')
              (first
                | with_reducible exact HS
                | (go_split_ands
                   with_reducible exact ⟨⟨pw_cell_below hbf (by with_reducible assumption), pw_cell_below hbf (by with_reducible assumption), pw_cell_below hbf (by with_reducible assumption), pw_cell_below hbf (by with_reducible assumption), pw_cell_below hbf (by with_reducible assumption), pw_cell_below hbf (by with_reducible assumption), pw_cell_below hbf (by with_reducible assumption)⟩, then_w (by with_reducible assumption) hbf⟩))
              (first
                | (go_at_call 18
                   refine (HRO.out _ ?hb).mono ?_
                   case hb => first | with_reducible assumption | (go_split_ands; with_reducible assumption)
                   rintro e w5 ⟨rfl, hbf⟩)
                | (go_at_call 19
                   refine (HTO.out _).mono ?_
                   rintro e w6 ⟨rfl, hbf⟩)
                | (go_at_call 7
                   refine (lsame_c _ (HG.out _ ?hb) (HW.out _ ?hb2)).mono ?_
                   case hb => first | with_reducible assumption | (go_split_ands; with_reducible assumption)
                   case hb2 => first | with_reducible assumption | (go_split_ands; with_reducible assumption)
                   rintro e wf ⟨rfl, hbf⟩))
            go_split_ands
            have HBF := Aside0.mk (show Below w.heap.size w wf by with_reducible assumption)
            go_wp2_with fail
            go_ret
            exact ⟨rfl, HBF.out⟩
        --END R17
end Go.Proofs.YtgdemingopcgaaaDoorE

namespace Go.Proofs.YtgdemingopcgaaaDoorE
open Go Go.RowKit Go.ChangeShapes Go.WideShapes Go.Proofs.YtgdemingopcgaaaDoorW.PrintWords Go.Proofs.YtgdemingopcgaaaDoor.P26 Go.Proofs.YtgdemingopcgaaaDoor.M02
set_option linter.unusedVariables false
set_option linter.unusedSimpArgs false
set_option maxRecDepth 100000
theorem cells_of_strs {H : Type} {enc : TypeId × Value → H} {P : Program} {w : World} {base : Nat} {sp : Nat → Bool} {held : Bool} {fuel : Nat} {t e : TypeId} {n : Nat} {cs : List Value} {zs : List ByteArray} {p : List MemPlace}
    (ht : P.underlying t = some (.array n e)) (he : P.underlying e = some .string) (hce : P.cellsOf e = 1) (hct : P.cellsOf t = n)
    (h : DataW.trod enc P w base sp held fuel t cs = some (.agg (zs.map fun z => .lit (.string z.data.toList)), p)) : cs = zs.map Value.string := by
  cases fuel with
  | zero => simp [DataW.trod] at h
  | succ fuel =>
    simp only [DataW.trod, ht, hce, hct, Nat.mul_one] at h
    split at h
    · rename_i hl
      obtain ⟨xs, hm, hx⟩ := Option.map_eq_some_iff.1 h
      have hxs : xs.map (·.1) = zs.map fun z => (DataW.lit (.string z.data.toList) : DataW H) := by
        have := congrArg Prod.fst hx
        simpa using this
      have hxl : xs.length = n := by simpa using Lib.mapM_length hm
      have hzl : zs.length = n := by
        have := congrArg List.length hxs
        simp at this
        omega
      apply List.ext_getElem?
      intro i
      by_cases hi : i < n
      · obtain ⟨b, hb, hf⟩ := Lib.mapM_at hm i i (by simp [hi])
        obtain ⟨z, hc, rfl, _⟩ := DataW.trod_string he hf
        have h1 : cs[i]? = some (.string z) := by
          have := congrArg (·[0]?) hc
          simpa [List.getElem?_take, List.getElem?_drop] using this
        have h2 : (xs.map (·.1))[i]? = some (DataW.lit (.string z.data.toList) : DataW H) := by simp [hb]
        rw [hxs] at h2
        simp only [List.getElem?_map, Option.map_eq_some_iff, DataW.lit.injEq, Lit.string.injEq] at h2
        obtain ⟨z', hz', he'⟩ := h2
        rw [h1, List.getElem?_map, hz', ba_inj he']
        rfl
      · rw [List.getElem?_eq_none (by omega), List.getElem?_eq_none (by simp; omega)]
    · cases h
theorem gW : (Tryd.prog.globals[0]?).map (·.type) = some 61 := by kernel_rfl
theorem cW : Tryd.prog.cellsOf 61 = 8 := by kernel_rfl
theorem wd_of {W : World} {r : List (String × DataW Unit)} (h : laidMet Tryd.prog (("math/bits.deBruijn32tab", Go.Proofs.YtgdemingopcgaaaDoor.Rows.laid_math_bits_deBruijn32tab) :: ("math/bits.deBruijn64tab", Go.Proofs.YtgdemingopcgaaaDoor.Rows.laid_math_bits_deBruijn64tab) :: ("internal/strconv.uint64pow10", Go.Proofs.YtgdemingopcgaaaDoor.Rows.laid_internal_strconv_uint64pow10) :: ("strconv.ErrRange", Go.Proofs.YtgdemingopcgaaaDoor.Rows.laid_strconv_ErrRange) :: ("strconv.ErrSyntax", Go.Proofs.YtgdemingopcgaaaDoor.Rows.laid_strconv_ErrSyntax) :: ("tendril/ops.words", Go.Proofs.YtgdemingopcgaaaDoor.Rows.laid_tendril_ops_words) :: r) W) : WD W := by
  have h5 := h.tail.tail.tail.tail.tail
  obtain ⟨ps, ⟨g', t', cs, fuel, p, q, hg', ht', hvar, hd, _, _⟩, _⟩ := h5
  obtain rfl := Option.some.inj (gWd.symm.trans hg')
  obtain rfl := Option.some.inj (gW.symm.trans ht')
  unfold WD
  rw [hvar]
  congr 1
  apply Array.toList_inj.1
  rw [cells_of_strs (zs := wordL) Tryd.underlying61 Tryd.underlying9 (by kernel_rfl) cW hd]
theorem wf_i64' {x : Int} (h : (Lit.int .i64 x).wf = true) : -9223372036854775808 ≤ x ∧ x ≤ 9223372036854775807 := by
  simp [Lit.wf, IntKind.min, IntKind.max, IntKind.bits, IntKind.signed] at h
  omega
theorem cellsO0 : Tryd.prog.cellsOf 9 = 1 := by kernel_rfl
theorem cellsO1 : Tryd.prog.cellsOf 3 = 1 := by kernel_rfl
theorem cellsO2 : Tryd.prog.cellsOf 51 = 2 := by kernel_rfl
theorem cellsO3 : Tryd.prog.cellsOf 24 = 9 := by kernel_rfl
theorem open_attr (fuel : Nat) : Op.At Tryd.prog fuel 51 k51 okA := by
  cases fuel with
  | zero => exact Op.zero
  | succ n =>
    refine Op.mono (Op.struct Tryd.underlying51 (by kernel_rfl) (fun i f hf => ?_) (Op.iso (fun x : S51 => (x.f0, x.f1)) (fun a => ⟨a.1, a.2⟩) (fun a => rfl) (Op.cons (Op.string Tryd.underlying9) (Op.one (Op.string Tryd.underlying9))))) (fun w a cs h => h) (fun a h => ⟨h.1, h.2⟩)
    rcases i with _ | _ | i <;> simp at hf <;> (subst hf; simp [cellsO0])
theorem okA_at {l : List S51} (h : ∀ x ∈ l, okA x) : ∀ i : Nat, i < l.length → okA (rd_T51 l i) := by
  intro i hi
  unfold rd_T51
  rw [Int.toNat_natCast, List.getD_eq_getElem?_getD, List.getElem?_eq_getElem hi]
  exact h _ (List.getElem_mem hi)
theorem open_op (fuel : Nat) : Op.At Tryd.prog fuel 24 k24 okX := by
  cases fuel with
  | zero => exact Op.zero
  | succ n =>
    cases n with
    | zero =>
      intro H enc w base spare held cs x h hs
      obtain ⟨xs, n, hn, rfl, hl, hx, hf⟩ := DataW.trod_struct Tryd.underlying24 h
      obtain rfl : n = 0 := by omega
      have := hf 0 _ rfl
      have hx0 : 0 < xs.length := by rw [hx]; decide
      rw [List.getElem?_eq_getElem hx0] at this
      simp [DataW.trod] at this
    | succ n =>
      refine Op.mono (Op.struct Tryd.underlying24 (by kernel_rfl) (fun i f hf => ?_) (Op.iso (fun x : S24 => (x.f0, x.f1, x.f2, x.f3, x.f4, x.f5, x.f6, x.f7, x.f8)) (fun a => ⟨a.1, a.2.1, a.2.2.1, a.2.2.2.1, a.2.2.2.2.1, a.2.2.2.2.2.1, a.2.2.2.2.2.2.1, a.2.2.2.2.2.2.2.1, a.2.2.2.2.2.2.2.2⟩) (fun a => rfl)
        (Op.cons (Op.int Tryd.underlying3) (Op.cons (Op.int Tryd.underlying3) (Op.cons (Op.int Tryd.underlying3) (Op.cons (Op.int Tryd.underlying3) (Op.cons (Op.string Tryd.underlying9) (Op.cons (Op.string Tryd.underlying9) (Op.cons (Op.string Tryd.underlying9) (Op.cons (Op.string Tryd.underlying9) (Op.one (Op.slice Tryd.underlying22 cellsO2.symm (open_attr n))))))))))))) (fun w a cs h => h) (fun a h => ?_)
      · rcases i with _ | _ | _ | _ | _ | _ | _ | _ | _ | i <;> simp at hf <;> (subst hf; simp [cellsO0, cellsO1])
      · obtain ⟨h0, h1, h2, h3, h4, h5, h6, h7, h8, -, h9⟩ := h
        exact ⟨wf_i64' h0, wf_i64' h1, wf_i64' h2, wf_i64' h3, h4, h5, h6, h7, Nat.le_trans (Nat.le_mul_of_pos_right _ (of_decide_eq_true (by kernel_rfl))) h8, okA_at h9⟩
def openOpsT (W : World) (A : Option Addr) (n c : Nat) : Prop := ∃ l : List S24, n = l.length ∧ n ≤ c ∧ Kd.C k24 W A l.length l ∧ l.length ≤ 140737488351232 ∧ ∀ i : Nat, i < l.length → okX (rd_T24 l i)
theorem openOps {H : Type} {enc : TypeId × Value → H} {W : World} {base : Nat} {spare : Nat → Bool} {held : Bool} {A : Option Addr} {n c fuel : Nat} {d : DataW H} {ps : List MemPlace}
    (hf : DataW.trod enc Tryd.prog W base spare held fuel 26 (Value.slice A n c).cells.toList = some (d, ps)) (hs : ∀ m ∈ d.weights Tryd.prog 26, m ≤ 140737488351232) : openOpsT W A n c := by
  cases fuel with
  | zero => simp [DataW.trod] at hf
  | succ f =>
    obtain ⟨l, h1, h2, h3, h4, -, h5⟩ := Op.arg (Op.slice Tryd.underlying26 cellsO3.symm (open_op f)) hf hs
    refine ⟨l, h1, h2, h3, Nat.le_trans (Nat.le_mul_of_pos_right _ (of_decide_eq_true (by kernel_rfl))) h4, fun i hi => ?_⟩
    unfold rd_T24
    rw [Int.toNat_natCast, List.getD_eq_getElem?_getD, List.getElem?_eq_getElem hi]
    exact h5 _ (List.getElem_mem hi)
theorem opsChecks_h (A : Option Addr) (n c : Nat) (l : List S24) (W : World) (hg : Go.Proofs.YtgdemingopcgaaaDoorX.GL W ∧ WD W) (h : n = l.length ∧ n ≤ c ∧ Kd.C k24 W A l.length l ∧ l.length ≤ 140737488351232 ∧ ∀ i : Nat, i < l.length → okX (rd_T24 l i)) : Calls Tryd.prog 5 #[.slice A n c] W fun e w' => e = .returned (.bool true) ∧ Below W.heap.size W w' := by
  obtain ⟨rfl, hc, hC, -, hx⟩ := h
  exact opsChecks_w A c l W hg.1 hg.2 hx hc hC
end Go.Proofs.YtgdemingopcgaaaDoorE

namespace Go.Proofs.YtgdemingopcgaaaDoor.opsChecks
open Go.ChangeShapes Go.WideShapes Go.ChangeAt Go.RowKit
open Go.ChangeMaps (open_string shut_string)
set_option linter.unusedVariables false
theorem own : ownKnob Tryd.prog.godebug = none := by kernel_rfl
theorem door_met (os : Os) (args : Array Value) : laidMetH Tryd.prog Rows.opsChecksRow.laid ((World.doorLaid Tryd.prog 65 os).forCall (fun _ _ => 0) ⟨#[], args, []⟩).memory :=
  laidMetH_of_parts3 (fuel := 8) (laidMet_of_run' 8 (by kernel_rfl) (by kernel_rfl)) (by kernel_rfl) (by kernel_rfl)
theorem gl {W : World} (h : laidMetH Tryd.prog Rows.opsChecksRow.laid W) : Go.Proofs.YtgdemingopcgaaaDoorX.GL W ∧ Go.Proofs.YtgdemingopcgaaaDoorE.WD W := by
  rw [MakeChecks.laidMetH_plain _ _ _ (by kernel_rfl)] at h
  exact ⟨Go.Proofs.YtgdemingopcgaaaDoorX.gl_of h, Go.Proofs.YtgdemingopcgaaaDoorE.wd_of h⟩
theorem laidOut : laidOutB Tryd.prog = true := by kernel_rfl
set_option maxRecDepth 100000 in
theorem lifted (os : Os) (started : os.Started) (H : Type) (enc : TypeId × Value → H) :
    ReturnsInHanded {} Tryd.checked os 5 .any (fun w args => (Rows.opsChecksSpec.pre enc Tryd.prog Tryd.f5 [] false w args ∧ laidMetH Tryd.prog Rows.opsChecksRow.laid w) ∧ sizedMet enc Tryd.prog Tryd.f5 (OpenSpec.ofChange Rows.opsChecksSpec) false w args) (Rows.opsChecksSpec.post enc Tryd.prog Tryd.f5 false true false false) := by
  refine returnsInHanded_of_change_and (C := Tryd.checked) (X := fun w _ => laidMetH Tryd.prog Rows.opsChecksRow.laid w) (fun _ _ _ hh h => h.of_heap hh) own started (by kernel_rfl) Tryd.func5
    (ChangeSpec.witness_shaped (enc := enc) (C := Tryd.checked) (os := os) (X := fun w _ => laidMetH Tryd.prog Rows.opsChecksRow.laid w) false (World.doorLaid Tryd.prog 65 os) #[.slice none 0 0] 8 rfl (World.shaped_of_RefB (by kernel_rfl) (by kernel_rfl)) (by kernel_rfl) (by kernel_rfl) (by kernel_rfl) (door_met os _)) ?_
  intro W base args ds gs before hval0 hW _ hsz0 hL _
  have hgl := gl hL
  have hsz : (DataW.weightsEach Tryd.prog (Tryd.f5.params.toList ++ Rows.opsChecksSpec.plain.varTypes Tryd.prog) (ds ++ gs)).all (· ≤ reachBytes) = true := hsz0
  have hval : ∀ (j : Nat) t v, Tryd.f5.params[j]? = some t → args[j]? = some v → Value.okWide Tryd.prog W .any base t v := hval0
  have hW' := hW
  obtain ⟨p, q, hA0, hV, rfl, hfz, hnd⟩ := hW
  have hA : DataW.TrodAll enc Tryd.prog W 0 (fun _ => true) true Tryd.f5.params.toList args.toList ds p := hA0
  rw [Tryd.params5] at hA hval hsz
  obtain ⟨v0, vs0, d0, ds0, p0, q0, hargs, rfl, rfl, h0, r0⟩ := trodAll_cons hA
  obtain ⟨rfl, rfl, rfl⟩ := trodAll_nil r0
  obtain rfl : args = #[v0] := by cases args; simp_all
  obtain ⟨rfl, rfl⟩ := trodVars_none hV
  have k0 := h0
  have lt0 : ∀ x ∈ p0, x.block < W.heap.size := by obtain ⟨m, hm⟩ := k0; exact DataW.trod_lt m _ _ _ hm
  obtain ⟨a0, len0, cap0, rfl⟩ := okWide_slice Tryd.underlying26 (hval 0 26 v0 rfl rfl)
  obtain ⟨b0, w0⟩ := (by
    obtain ⟨fuel, hf⟩ := h0
    exact Go.Proofs.YtgdemingopcgaaaDoorE.openOps hf (fun n hn => of_decide_eq_true (List.all_eq_true.1 hsz n (DataW.weights_mem_each (j := 0) (t := 26) rfl rfl n hn))) : Go.Proofs.YtgdemingopcgaaaDoorE.openOpsT W a0 len0 cap0)
  clear hA0 hval0 hsz0 hsz hL
  refine (Go.Proofs.YtgdemingopcgaaaDoorE.opsChecks_h a0 len0 cap0 b0 W hgl w0).mono fun e W' ⟨he, bel⟩ => ?_
  subst he
  exact ⟨_, rfl, _, _, _, [], _, [], hW', trodAll_mk1 (shut_bool Tryd.underlying4 _), (trodAll_cons_mk (Below.trod laidOut (by kernel_rfl) (of_decide_eq_true (by kernel_rfl)) k0 bel lt0) trodAll_mk0), rfl, bel.frame _, fun h => by cases h⟩
theorem over : Rows.opsChecksRow.holds Tryd.pinned (OpenSpec.ofChange Rows.opsChecksSpec) :=
  OpenClaim.holds_of_wide 5 Tryd.f5 rfl rfl rfl rfl rfl rfl rfl ⟨rfl, rfl, rfl, rfl, rfl⟩ rfl rfl rfl rfl rfl (by kernel_rfl) Tryd.func5 (by kernel_rfl)
    (of_decide_eq_true (by kernel_rfl)) (by unfold Func.isWrapper; first | (rw [if_pos (by decide +kernel)]; kernel_rfl) | (rw [if_neg (by decide +kernel)]; exact ⟨rfl, rfl⟩))
    (fun os started H enc _ => lifted os started H enc)
theorem wants : ∀ (j : Nat) (t : TypeId), Tryd.f5.params[j]? = some t → Tryd.prog.wantsStandIn t = false := by
  intro j t ht
  rw [Tryd.params5] at ht
  rcases j with _ | j
  · have h3 : t = 26 := by simpa using ht.symm
    subst h3
    exact (show Tryd.prog.wantsStandIn 26 = false by kernel_rfl)
  simp at ht
theorem proved : Rows.OpsChecksCardSaid :=
  Claim7.holds_tied_plain_at .later [] [.data, .data, .data, .sentinel, .sentinel, .widerDeep] true (true, "42f0e876574351ba2eaad250de890cb96006ddaed74d1005af392a94fdb30365") true
    over (fun _ h => by cases h) (by kernel_rfl) (fun _ h => by cases h) opsChecks_row_tie rfl ⟨rfl, rfl⟩ (by kernel_rfl) rfl
    (fun f fn hf hfn => by
      obtain rfl : f = 5 := Option.some.inj ((show Tryd.prog.funcNamed "tendril/tendrillaw25.OpsChecks" = some 5 by kernel_rfl).symm.trans hf) |>.symm
      obtain rfl : fn = Tryd.f5 := (Option.some.inj (Tryd.func5.symm.trans hfn)).symm
      exact ⟨by kernel_rfl, wants⟩)
    (by kernel_rfl)
end Go.Proofs.YtgdemingopcgaaaDoor.opsChecks
namespace Go.Proofs.YtgdemingopcgaaaDoor
/-- The card, under a short name, for the claim. -/
theorem opsChecks_holds : Rows.OpsChecksCardSaid := opsChecks.proved
end Go.Proofs.YtgdemingopcgaaaDoor
