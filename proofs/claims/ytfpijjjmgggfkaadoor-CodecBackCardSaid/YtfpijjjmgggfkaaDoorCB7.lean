/- The row and the card of CodecBack: whatever the input, the law returns true. -/
import Derived.Test.YtfpijjjmgggfkaaDoorCB6
import Derived.OwnWalk
import Derived.Test.YtfpijjjmgggfkaaDoorRows
import Derived.Test.YtfpijjjmgggfkaaDoorCards
import Derived.Test.YtfpijjjmgggfkaaDoorTie
import Derived.WalkKit
import Derived.ProofKit
import Derived.OpenShut
import Derived.ShutString
import Derived.ChangeOld
import Derived.Below
import Derived.SizedLaws
import Derived.LaidMore
import Derived.Stop.Joined
import Derived.SevenTiedAt
import Derived.MakeChecks
import Derived.Handed
import Derived.Lib.SmallJoins
import Derived.Carry

namespace Go.Proofs.YtfpijjjmgggfkaaDoorE
open Go Go.RowKit Go.Proofs.YtfpijjjmgggfkaaDoorW.PrintWords Go.Proofs.YtfpijjjmgggfkaaDoorW.PrintMore Go.Proofs.YtfpijjjmgggfkaaDoorX Go.Proofs.YtfpijjjmgggfkaaDoor.P26 Go.Proofs.YtfpijjjmgggfkaaDoor.L01
set_option linter.unusedVariables false
set_option linter.unusedSimpArgs false
set_option maxRecDepth 100000
theorem w64_succ (i : Nat) (h : i < 9223372036854775807) : wrap64 ((i : Int) + 1) = ((i + 1 : Nat) : Int) := by unfold wrap64; omega
theorem few_l1 (l : List S42) (n : Int) (i : Int) (y0 y1 y2 y3 : Int) (y4 y5 y6 y7 : ByteArray) (f8 : List S44) (hf : f8.length ≤ 9223372036854775807) (h : ∀ x5, ∃ b, Ev (fun k => tendrilplain_FewOps.l0 k l x5 n (wrap64 (i + 1))) b) : ∀ d j : Nat, j + d = f8.length → ∀ x5, ∃ b, Ev (fun k => tendrilplain_FewOps.l1 k l x5 n i (f8.length : Int) (j : Int) y0 y1 y2 y3 y4 y5 y6 y7 f8) b := by
  intro d
  induction d with
  | zero =>
    intro j hj x5
    obtain ⟨b, hb⟩ := h x5
    refine ⟨b, Ev.step (fun k => ?_) hb⟩
    simp only [tendrilplain_FewOps.l1]
    rw [if_neg (by omega)]
  | succ d ih =>
    intro j hj x5
    obtain ⟨b, hb⟩ := ih (j + 1) (by omega) (wrap64 (x5 - (wrap64 (Int.tdiv (wrap64 ((((rd_T44 f8 j).f1).size : Int) + (((rd_T44 f8 j).f0).size : Int))) 4096))))
    refine ⟨b, Ev.step (fun k => ?_) hb⟩
    simp only [tendrilplain_FewOps.l1]
    rw [if_pos (by omega), if_pos (by omega), if_pos (by omega), w64_succ j (by omega)]
theorem few_l0 (l : List S42) (hn : l.length ≤ 9223372036854775807) (hf : ∀ i : Nat, i < l.length → (rd_T42 l i).f8.length ≤ 9223372036854775807) : ∀ d i : Nat, i + d = l.length → ∀ x5, ∃ b, Ev (fun k => tendrilplain_FewOps.l0 k l x5 (l.length : Int) (i : Int)) b := by
  intro d
  induction d with
  | zero =>
    intro i hi x5
    refine ⟨decide (0 ≤ x5), Ev.step (f := fun _ => some (decide (0 ≤ x5))) (fun k => ?_) (Ev.now _)⟩
    simp only [tendrilplain_FewOps.l0]
    rw [if_neg (by omega)]
  | succ d ih =>
    intro i hi x5
    obtain ⟨v, hv⟩ : ∃ v, v = (wrap64 ((wrap64 ((wrap64 (x5 - 1)) - (((rd_T42 l i).f8).length : Int))) - (wrap64 (Int.tdiv (wrap64 ((wrap64 ((wrap64 ((((rd_T42 l i).f7).size : Int) + (((rd_T42 l i).f5).size : Int))) + (((rd_T42 l i).f4).size : Int))) + (((rd_T42 l i).f6).size : Int))) 4096)))) := ⟨_, rfl⟩
    by_cases hlt : v < 0
    · refine ⟨false, Ev.step (f := fun _ => some false) (fun k => ?_) (Ev.now _)⟩
      simp only [tendrilplain_FewOps.l0]
      rw [if_pos (by omega), if_pos (by omega), if_pos (by omega), ← hv, if_pos hlt]
    · obtain ⟨b, hb⟩ := few_l1 l (l.length : Int) (i : Int) (rd_T42 l i).f0 (rd_T42 l i).f1 (rd_T42 l i).f2 (rd_T42 l i).f3 (rd_T42 l i).f4 (rd_T42 l i).f5 (rd_T42 l i).f6 (rd_T42 l i).f7 (rd_T42 l i).f8 (hf i (by omega)) (fun x5 => by
        have := ih (i + 1) (by omega) x5
        rw [w64_succ i (by omega)]
        exact this) (rd_T42 l i).f8.length 0 (by omega) v
      refine ⟨b, Ev.step (fun k => ?_) hb⟩
      simp only [tendrilplain_FewOps.l0]
      rw [if_pos (by omega), if_pos (by omega), if_pos (by omega), ← hv, if_neg hlt]
      rfl
theorem attrs_self (l : List S44) (hn : l.length ≤ 9223372036854775807) : ∀ d i : Nat, i + d = l.length → Ev (fun k => tendrilplain_Attrs.l0 k l l (l.length : Int) (i : Int)) true := by
  intro d
  induction d with
  | zero =>
    intro i hi
    refine Ev.step (f := fun _ => some true) (fun k => ?_) (Ev.now _)
    simp only [tendrilplain_Attrs.l0]
    rw [if_neg (by omega)]
  | succ d ih =>
    intro i hi
    refine Ev.step (fun k => ?_) (ih (i + 1) (by omega))
    simp only [tendrilplain_Attrs.l0]
    rw [if_pos (by omega), if_pos (by omega), if_pos (by omega), if_pos (by omega), if_neg (by simp), w64_succ i (by omega)]
theorem op_self (x : S42) (hn : x.f8.length ≤ 9223372036854775807) : Ev (fun k => tendrilplain_Op.f k x.f0 x.f1 x.f2 x.f3 x.f4 x.f5 x.f6 x.f7 x.f8 x.f0 x.f1 x.f2 x.f3 x.f4 x.f5 x.f6 x.f7 x.f8) true := by
  obtain ⟨k0, h0⟩ := attrs_self x.f8 hn x.f8.length 0 (by omega)
  refine ⟨k0, fun k hk => ?_⟩
  unfold tendrilplain_Op.f
  simp only [if_true]
  unfold tendrilplain_Attrs.f
  rw [if_pos rfl]
  have := h0 k hk
  simp only at this
  rw [show ((0 : Nat) : Int) = 0 from rfl] at this
  rw [this]
  rfl
theorem ops_self (l : List S42) (hn : l.length ≤ 9223372036854775807) (hf : ∀ i : Nat, i < l.length → (rd_T42 l i).f8.length ≤ 9223372036854775807) : ∀ d i : Nat, i + d = l.length → Ev (fun k => tendrilplain_Ops.l0 k l l (l.length : Int) (i : Int)) true := by
  intro d
  induction d with
  | zero =>
    intro i hi
    refine Ev.step (f := fun _ => some true) (fun k => ?_) (Ev.now _)
    simp only [tendrilplain_Ops.l0]
    rw [if_neg (by omega)]
  | succ d ih =>
    intro i hi
    obtain ⟨k1, h1⟩ := op_self (rd_T42 l i) (hf i (by omega))
    obtain ⟨k2, h2⟩ := ih (i + 1) (by omega)
    refine ⟨k1 + k2 + 1, fun k hk => ?_⟩
    obtain ⟨m, rfl⟩ : ∃ m, k = m + 1 := ⟨k - 1, by omega⟩
    have h3 := h1 m (by omega)
    simp only at h3
    simp only [tendrilplain_Ops.l0]
    rw [if_pos (by omega), if_pos (by omega), if_pos (by omega), if_pos (by omega), h3]
    simp only [Option.bind_some, if_true]
    rw [w64_succ i (by omega)]
    exact h2 m (by omega)
theorem ops_c (A A' : Option Addr) (c c' : Nat) (l : List S42) (w : World) (hgl : GL w) (hl : Kd.C k42 w A l.length l) (hc : l.length ≤ c) (hl' : Kd.C k42 w A' l.length l) (hc' : l.length ≤ c') (hn : l.length ≤ 9223372036854775807) (hf : ∀ i : Nat, i < l.length → (rd_T42 l i).f8.length ≤ 9223372036854775807) :
    Calls Tryd.prog 13 #[.slice A l.length c, .slice A' l.length c'] w fun e w' => e = .returned (.bool true) ∧ Below w.heap.size w w' := by
  obtain ⟨k, hk⟩ := ops_self l hn hf l.length 0 (by omega)
  refine tendrilplain_Ops.calls k A c l A' c' l true w hgl hl hc hl' hc' ?_
  unfold tendrilplain_Ops.f
  rw [if_pos rfl]
  exact hk k (Nat.le_refl _)

def X43 : S42 := ⟨4, 3, 0, 0, em, em, em, em, []⟩
theorem chk43 : chk X43 = 0 := by
  unfold chk checkO X43
  simp [overO, noneO, attrsN]
  decide
theorem enc_small (n : Nat) (h : n < 128) : enc n = [(n : Int)] := enc_lt h
theorem encB43 : encB [X43] = [1, 4, 3] := by
  unfold encB opsB
  simp only [List.flatMap_cons, List.flatMap_nil, List.append_nil]
  rw [oneB_body]
  simp [X43, Go.Proofs.YtfpijjjmgggfkaaDoor.L01.encs, enc_small]
theorem decS43 : decS [1, 4, 3] = ([X43], 0, 0) := by
  have h := readR_put [X43] (by decide) (by intro x hx; obtain rfl := List.mem_singleton.1 hx; exact chk43) []
  rw [List.append_nil, encB43] at h
  rw [decS_ok (by rw [h]; rfl), h]
theorem bytes14 : Bytes [1, 4] := by intro x hx; simp at hx; omega
theorem decS14 : decS [1, 4] = ([], 0, 4) := by
  have h1 : nS ([1, 4], 0) 1048576 = ((1, 0), ([4], 0)) := by
    have := nS_put 1 1048576 (by omega) (by omega) [4]
    rw [enc_small 1 (by omega)] at this
    exact this
  have h2 : nS ([4], 0) 7 = ((4, 0), ([], 0)) := by
    have := nS_put 4 7 (by omega) (by omega) []
    rw [enc_small 4 (by omega)] at this
    exact this
  have h3 : (opR ([4], 0)).1.2 = 4 := by
    refine opR_bad ([4], 0) (s1 := ([], 0)) (by rw [h2]) 4 4 (by rw [h2]) (by decide) ?_ (by decide)
    simp [bodyR]
    rfl
  have hr : readR [1, 4] = ([], 4) := readR_2 [1, 4] (n := 1) (s1 := ([4], 0)) (by rw [h1]; rfl) (by rw [h1]) rfl (l := []) (e := 4) (s' := (opR ([4], 0)).2) (by rw [opsR_stop 0 ([4], 0) (by rw [h3]; decide), h3]) (by decide)
  rw [decS_bad (by rw [hr]; decide), hr]
  rfl
theorem firstS43 : (firstS [X43]).2 = 0 := by
  unfold firstS
  simp [firstN, rd_T42, chk43]
end Go.Proofs.YtfpijjjmgggfkaaDoorE

namespace Go.Proofs.YtfpijjjmgggfkaaDoorE
open Go Go.RowKit Go.Proofs.YtfpijjjmgggfkaaDoorW.PrintWords Go.Proofs.YtfpijjjmgggfkaaDoorW.PrintMore Go.Proofs.YtfpijjjmgggfkaaDoorX Go.Proofs.YtfpijjjmgggfkaaDoor.P26 Go.Proofs.YtfpijjjmgggfkaaDoor.L01
set_option linter.unusedVariables false
set_option linter.unusedSimpArgs false
set_option maxRecDepth 100000
theorem box8_C {W : World} {b T : Nat} {xs : List Int} (h : W.heap[b]? = some (.cells (xs.map (Value.int .u8)).toArray T (0, 0))) (hx : xs.length ≤ 9223372036854775807) : Kd.C (Kd.int .u8) W (some ⟨b, 0, none⟩) xs.length xs := by
  refine ⟨rfl, hx, fun _ => ⟨_, rfl, ?_⟩⟩
  intro j p hp
  refine ⟨[.int .u8 p], rfl, rfl, ?_⟩
  intro i u hu
  match i, hu with
  | 0, hu =>
    simp at hu
    subst hu
    show W.cell? ((⟨b, 0, none⟩ : Addr).add (j * 1 + 0)) = _
    rw [add_plain, Lib.cell_of_heap h]
    simp [hp]
theorem box43_C {W : World} {b T : Nat} (h : W.heap[b]? = some (.cells #[.int .i64 4, .int .i64 3, .int .i64 0, .int .i64 0, .string ⟨#[]⟩, .string ⟨#[]⟩, .string ⟨#[]⟩, .string ⟨#[]⟩, .slice none 0 0] T (0, 0))) : Kd.C k42 W (some ⟨b, 0, none⟩) [X43].length [X43] := by
  refine ⟨rfl, by show 1 ≤ _; omega, fun _ => ⟨_, rfl, ?_⟩⟩
  intro j p hp
  match j, hp with
  | 0, hp =>
    simp at hp
    subst hp
    refine ⟨[.int .i64 4, .int .i64 3, .int .i64 0, .int .i64 0, .string ⟨#[]⟩, .string ⟨#[]⟩, .string ⟨#[]⟩, .string ⟨#[]⟩, .slice none 0 0], rfl, k42_mk W X43 (A8 := none) (c8 := 0) (Nat.le_refl 0) (Kd.C_nil k44 W), ?_⟩
    intro i u hu
    show W.cell? ((⟨b, 0, none⟩ : Addr).add (0 * 9 + i)) = _
    rw [add_plain, Lib.cell_of_heap h]
    rw [Nat.zero_mul, Nat.zero_add]
    simpa using hu
theorem enc43_c (b : Nat) (W : World) (hgl : GL W) (h : W.heap[b]? = some (.cells #[.int .i64 4, .int .i64 3, .int .i64 0, .int .i64 0, .string ⟨#[]⟩, .string ⟨#[]⟩, .string ⟨#[]⟩, .string ⟨#[]⟩, .slice none 0 0] 42)) : Calls Tryd.prog 9 #[.slice (some ⟨b, 0, none⟩) 1 1] W fun e w' => (∃ A c, e = .returned (.tuple #[.slice A 3 c, .int .i64 0, .int .i64 0]) ∧ Kd.C (Kd.int .u8) w' A 3 [1, 4, 3]) ∧ Below W.heap.size W w' := by
  refine (Encode_c (some ⟨b, 0, none⟩) 1 [X43] W hgl (box43_C h) (Nat.le_refl 1) (fun i hi => by
    have : i = 0 := by simp at hi; omega
    subst this
    exact ⟨i64_k 4 (by omega), i64_k 3 (by omega), i64_k 0 (by omega), i64_k 0 (by omega), Nat.zero_le _, Nat.zero_le _, Nat.zero_le _, Nat.zero_le _, Nat.zero_le _, fun i hi => absurd hi (Nat.not_lt_zero i)⟩) firstS43).mono ?_
  rintro e w1 ⟨⟨v, B, rfl, hB, hO⟩, hb⟩
  rw [encB43] at hO
  obtain ⟨A1, c1, rfl, hc1, hC1⟩ := own8_reads hO
  exact ⟨⟨A1, c1, rfl, hC1⟩, hb⟩
theorem dec143_c (b : Nat) (W : World) (hgl : GL W) (h : W.heap[b]? = some (.cells #[.int .u8 1, .int .u8 4, .int .u8 3] 5)) : Calls Tryd.prog 11 #[.slice (some ⟨b, 0, none⟩) 3 3] W fun e w' => (∃ A c, e = .returned (.tuple #[.slice A 1 c, .int .i64 0, .int .i64 0]) ∧ Kd.C k42 w' A 1 [X43]) ∧ Below W.heap.size W w' := by
  refine (Decode_c (some ⟨b, 0, none⟩) 3 [1, 4, 3] W hgl (box8_C h (by show 3 ≤ _; omega)) (Nat.le_refl 3) (by intro x hx; simp at hx; omega) (by show 3 ≤ _; omega)).mono ?_
  rintro e w1 ⟨⟨v, rfl, hR⟩, hb⟩
  rw [decS43] at hR ⊢
  obtain ⟨A1, c1, rfl, hc1, hC1⟩ := Kd.R_reads hR
  exact ⟨⟨A1, c1, rfl, hC1⟩, hb⟩
theorem dec14_c (b : Nat) (W : World) (hgl : GL W) (h : W.heap[b]? = some (.cells #[.int .u8 1, .int .u8 4] 5)) : Calls Tryd.prog 11 #[.slice (some ⟨b, 0, none⟩) 2 2] W fun e w' => (∃ v, e = .returned (.tuple #[v, .int .i64 0, .int .i64 4])) ∧ Below W.heap.size W w' := by
  refine (Decode_c (some ⟨b, 0, none⟩) 2 [1, 4] W hgl (box8_C h (by show 2 ≤ _; omega)) (Nat.le_refl 2) bytes14 (by show 2 ≤ _; omega)).mono ?_
  rintro e w1 ⟨⟨v, rfl, hR⟩, hb⟩
  rw [decS14]
  exact ⟨⟨v, rfl⟩, hb⟩
set_option maxHeartbeats 2000000 in
theorem lsame_c (w : World) (hgl : GL w) : Calls Tryd.prog 8 #[] w fun e w' => e = .returned (.bool true) ∧ Below w.heap.size w w' := by
  have hb0 : Below w.heap.size w (w.alloc (.cells #[.int .i64 4, .int .i64 3, .int .i64 0, .int .i64 0, .string ⟨#[]⟩, .string ⟨#[]⟩, .string ⟨#[]⟩, .string ⟨#[]⟩, .slice none 0 0] 42)) := below_alloc (Below.refl _ _) _
  have HE := Aside0.mk (enc43_c w.heap.size _ (hgl.below hb0) (one_new_ w _))
  have HG := Aside0.mk hgl
  have HB0 := Aside0.mk hb0
  have hs0 : strOfNums [1, 4, 3] = (⟨#[1, 4, 3]⟩ : ByteArray) := rfl
  have HS0 := Aside0.mk hs0
  clear hgl hb0 hs0
  go_enter Tryd.func8, Tryd.ntmps8
  go_wp2_with (first
    | (go_at_call 9; (with_reducible refine (HE.out).mono ?_); rintro e w1 ⟨⟨A1, c1, rfl, hC1⟩, hb⟩; have HC1 := Aside0.mk hC1; have HB1 := Aside0.mk (below_then HB0.out HB0.out.size hb); clear hb hC1)
    | (go_at_call 11; (with_reducible refine (dec143_c w1.heap.size _ (HG.out.below (below_alloc HB1.out _)) (one_new_ w1 _)).mono ?_); rintro e w2 ⟨⟨A2, c2, rfl, hC2⟩, hb⟩; have HC2 := Aside0.mk hC2; have HB2 := Aside0.mk (below_then (below_alloc HB1.out _) (by have := HB1.out.size; simp; omega) hb); have HC1' := Aside0.mk (Kd.C_below HC1.out (below_then (below_alloc (Below.refl _ w1) _) (by simp) hb)); clear hb hC2)
    | (go_at_call 11; (with_reducible refine (dec14_c w2.heap.size _ (HG.out.below (below_alloc HB2.out _)) (one_new_ w2 _)).mono ?_); rintro e w3 ⟨⟨v3, rfl⟩, hb⟩; have HB3 := Aside0.mk (below_then (below_alloc HB2.out _) (by have := HB2.out.size; simp; omega) hb); have hw23 := below_then (below_alloc (Below.refl _ w2) (.cells #[.int .u8 1, .int .u8 4] 5)) (by simp) hb; have hs1 := Kd.C_string (dst := 9) (c := c1) Tryd.underlying25 Tryd.underlying5 Tryd.underlying9 (Kd.C_below HC1'.out hw23); rw [HS0.out] at hs1; obtain ⟨ad, A8, c8, rfl, e0, e1, e2, e3, e4, e5, e6, e7, e8, -, -⟩ := at_T42 (Kd.C_below HC2.out hw23) 0 (by omega) (by omega); have e1' : w3.cell? ⟨ad.block, ad.off + 1, none⟩ = some (.int .i64 3) := e1; clear hb hw23 e0 e2 e3 e4 e5 e6 e7 e8))
  go_ret
  exact ⟨rfl, HB3.out⟩
end Go.Proofs.YtfpijjjmgggfkaaDoorE

namespace Go.Proofs.YtfpijjjmgggfkaaDoorE
open Go Go.RowKit Go.Proofs.YtfpijjjmgggfkaaDoorW.PrintWords Go.Proofs.YtfpijjjmgggfkaaDoorW.PrintMore Go.Proofs.YtfpijjjmgggfkaaDoorX Go.Proofs.YtfpijjjmgggfkaaDoor.P26 Go.Proofs.YtfpijjjmgggfkaaDoor.L01
set_option linter.unusedVariables false
set_option linter.unusedSimpArgs false
set_option maxRecDepth 100000
theorem C42_len {w : World} {A : Option Addr} {l : List S42} (h : Kd.C k42 w A l.length l) : l.length ≤ 9223372036854775807 ∧ ∀ i : Nat, i < l.length → (rd_T42 l i).f8.length ≤ 9223372036854775807 := by
  refine ⟨h.2.1, fun i hi => ?_⟩
  obtain ⟨ad, A8, c8, rfl, -, -, -, -, -, -, -, -, -, -, hi8⟩ := at_T42 h (i : Int) (by omega) (by omega)
  exact hi8.2.1
theorem ops_R {base base' : Nat} {ok ok' : Nat → Prop} {A A' : Option Addr} {c c' : Nat} {l : List S42} (w : World) (hgl : GL w) (hl : Kd.C k42 w A l.length l) (hc : l.length ≤ c) (hl' : Kd.C k42 w A' l.length l) (hc' : l.length ≤ c') :
    Calls Tryd.prog 13 #[.slice A l.length c, .slice A' l.length c'] w fun e w' => e = .returned (.bool true) ∧ Below w.heap.size w w' :=
  ops_c A A' c c' l w hgl hl hc hl' hc' (C42_len hl).1 (C42_len hl).2
theorem dec_c (A : Option Addr) (c : Nat) (bs : List Int) (w : World) (hgl : GL w) (hC : Kd.C (Kd.int .u8) w A bs.length bs) (hc : bs.length ≤ c) (hB : Bytes bs) (hlen : bs.length ≤ 140737488355328) :
    Calls Tryd.prog 11 #[.slice A bs.length c] w fun e w' => (∃ A1 c1, e = .returned (.tuple #[.slice A1 (decS bs).1.length c1, .int .i64 (decS bs).2.1, .int .i64 (decS bs).2.2]) ∧ (decS bs).1.length ≤ c1 ∧ Kd.C k42 w' A1 (decS bs).1.length (decS bs).1) ∧ Below w.heap.size w w' := by
  refine (Decode_c A c bs w hgl hC hc hB hlen).mono ?_
  rintro e w1 ⟨⟨v, rfl, hR⟩, hb⟩
  obtain ⟨A1, c1, rfl, hc1, hC1⟩ := Kd.R_reads hR
  exact ⟨⟨A1, c1, rfl, hc1, hC1⟩, hb⟩
theorem okX_of {x : S42} (h : okW x) : okX x := by
  obtain ⟨hk, h1, h2, h3, h4, h5, h6, h7, h8, h9⟩ := h
  exact ⟨⟨by omega, by omega⟩, i64_32 h1, i64_32 h2, i64_32 h3, size_up h4, size_up h5, size_up h6, size_up h7, by omega, fun i hi => ⟨size_up (h9 i hi).1, size_up (h9 i hi).2⟩⟩
theorem rd_mem (l : List S42) (i : Nat) (hi : i < l.length) : rd_T42 l (i : Int) ∈ l := by
  unfold rd_T42
  rw [Int.toNat_natCast, List.getD_eq_getElem?_getD, List.getElem?_eq_getElem hi]
  exact List.getElem_mem hi
theorem firstS_all (l : List S42) (hn : l.length ≤ 1048576) (h : ∀ x ∈ l, chk x = 0) : (firstS l).2 = 0 := by
  unfold firstS
  rw [firstN_no _ l.length 0 (by omega) (fun j _ hj => h _ (rd_mem l j (by omega)))]
theorem enc_c (A : Option Addr) (c : Nat) (l : List S42) (w : World) (hgl : GL w) (hl : Kd.C k42 w A l.length l) (hc : l.length ≤ c) (hn : l.length ≤ 1048576) (h : ∀ x ∈ l, chk x = 0) :
    Calls Tryd.prog 9 #[.slice A l.length c] w fun e w' => (∃ A1 c1, e = .returned (.tuple #[.slice A1 (encB l).length c1, .int .i64 0, .int .i64 0]) ∧ (encB l).length ≤ c1 ∧ Kd.C (Kd.int .u8) w' A1 (encB l).length (encB l)) ∧ Below w.heap.size w w' := by
  refine (Encode_c A c l w hgl hl hc (fun i hi => okX_of (chk_okW _ (h _ (rd_mem l i hi)))) (firstS_all l hn h)).mono ?_
  rintro e w1 ⟨⟨v, B, rfl, hB, hO⟩, hb⟩
  obtain ⟨A1, c1, rfl, hc1, hC1⟩ := own8_reads hO
  exact ⟨⟨A1, c1, rfl, hc1, hC1⟩, hb⟩
end Go.Proofs.YtfpijjjmgggfkaaDoorE

namespace Go.Proofs.YtfpijjjmgggfkaaDoorE
open Go Go.RowKit Go.ChangeShapes Go.WideShapes Go.Proofs.YtfpijjjmgggfkaaDoorW.PrintWords Go.Proofs.YtfpijjjmgggfkaaDoor.P26 Go.Proofs.YtfpijjjmgggfkaaDoor.L01 Go.Proofs.YtfpijjjmgggfkaaDoor.M02
set_option linter.unusedVariables false
set_option linter.unusedSimpArgs false
theorem wf_i64' {x : Int} (h : (Lit.int .i64 x).wf = true) : -9223372036854775808 ≤ x ∧ x ≤ 9223372036854775807 := by
  simp [Lit.wf, IntKind.min, IntKind.max, IntKind.bits, IntKind.signed] at h
  omega
theorem cellsO0 : Tryd.prog.cellsOf 9 = 1 := by kernel_rfl
theorem cellsO1 : Tryd.prog.cellsOf 3 = 1 := by kernel_rfl
theorem cellsO2 : Tryd.prog.cellsOf 44 = 2 := by kernel_rfl
theorem cellsO3 : Tryd.prog.cellsOf 42 = 9 := by kernel_rfl
theorem open_attr (fuel : Nat) : Op.At Tryd.prog fuel 44 k44 okA := by
  cases fuel with
  | zero => exact Op.zero
  | succ n =>
    refine Op.mono (Op.struct Tryd.underlying44 (by kernel_rfl) (fun i f hf => ?_) (Op.iso (fun x : S44 => (x.f0, x.f1)) (fun a => ⟨a.1, a.2⟩) (fun a => rfl) (Op.cons (Op.string Tryd.underlying9) (Op.one (Op.string Tryd.underlying9))))) (fun w a cs h => h) (fun a h => ⟨h.1, h.2⟩)
    rcases i with _ | _ | i <;> simp at hf <;> (subst hf; simp [cellsO0])
theorem okA_at {l : List S44} (h : ∀ x ∈ l, okA x) : ∀ i : Nat, i < l.length → okA (rd_T44 l i) := by
  intro i hi
  unfold rd_T44
  rw [Int.toNat_natCast, List.getD_eq_getElem?_getD, List.getElem?_eq_getElem hi]
  exact h _ (List.getElem_mem hi)
theorem open_op (fuel : Nat) : Op.At Tryd.prog fuel 42 k42 okX := by
  cases fuel with
  | zero => exact Op.zero
  | succ n =>
    cases n with
    | zero =>
      intro H enc w base spare held cs x h hs
      obtain ⟨xs, n, hn, rfl, hl, hx, hf⟩ := DataW.trod_struct Tryd.underlying42 h
      obtain rfl : n = 0 := by omega
      have := hf 0 _ rfl
      have hx0 : 0 < xs.length := by rw [hx]; decide
      rw [List.getElem?_eq_getElem hx0] at this
      simp [DataW.trod] at this
    | succ n =>
      refine Op.mono (Op.struct Tryd.underlying42 (by kernel_rfl) (fun i f hf => ?_) (Op.iso (fun x : S42 => (x.f0, x.f1, x.f2, x.f3, x.f4, x.f5, x.f6, x.f7, x.f8)) (fun a => ⟨a.1, a.2.1, a.2.2.1, a.2.2.2.1, a.2.2.2.2.1, a.2.2.2.2.2.1, a.2.2.2.2.2.2.1, a.2.2.2.2.2.2.2.1, a.2.2.2.2.2.2.2.2⟩) (fun a => rfl)
        (Op.cons (Op.int Tryd.underlying3) (Op.cons (Op.int Tryd.underlying3) (Op.cons (Op.int Tryd.underlying3) (Op.cons (Op.int Tryd.underlying3) (Op.cons (Op.string Tryd.underlying9) (Op.cons (Op.string Tryd.underlying9) (Op.cons (Op.string Tryd.underlying9) (Op.cons (Op.string Tryd.underlying9) (Op.one (Op.slice Tryd.underlying40 cellsO2.symm (open_attr n))))))))))))) (fun w a cs h => h) (fun a h => ?_)
      · rcases i with _ | _ | _ | _ | _ | _ | _ | _ | _ | i <;> simp at hf <;> (subst hf; simp [cellsO0, cellsO1])
      · obtain ⟨h0, h1, h2, h3, h4, h5, h6, h7, h8, -, h9⟩ := h
        exact ⟨wf_i64' h0, wf_i64' h1, wf_i64' h2, wf_i64' h3, h4, h5, h6, h7, Nat.le_trans (Nat.le_mul_of_pos_right _ (of_decide_eq_true (by kernel_rfl))) h8, okA_at h9⟩
def openOpsT (W : World) (A : Option Addr) (n c : Nat) : Prop := ∃ l : List S42, n = l.length ∧ n ≤ c ∧ Kd.C k42 W A l.length l ∧ l.length ≤ 140737488351232 ∧ ∀ i : Nat, i < l.length → okX (rd_T42 l i)
theorem openOps {H : Type} {enc : TypeId × Value → H} {W : World} {base : Nat} {spare : Nat → Bool} {held : Bool} {A : Option Addr} {n c fuel : Nat} {d : DataW H} {ps : List MemPlace}
    (hf : DataW.trod enc Tryd.prog W base spare held fuel 22 (Value.slice A n c).cells.toList = some (d, ps)) (hs : ∀ m ∈ d.weights Tryd.prog 22, m ≤ 140737488351232) : openOpsT W A n c := by
  cases fuel with
  | zero => simp [DataW.trod] at hf
  | succ f =>
    obtain ⟨l, h1, h2, h3, h4, -, h5⟩ := Op.arg (Op.slice Tryd.underlying22 cellsO3.symm (open_op f)) hf hs
    refine ⟨l, h1, h2, h3, Nat.le_trans (Nat.le_mul_of_pos_right _ (of_decide_eq_true (by kernel_rfl))) h4, fun i hi => ?_⟩
    unfold rd_T42
    rw [Int.toNat_natCast, List.getD_eq_getElem?_getD, List.getElem?_eq_getElem hi]
    exact h5 _ (List.getElem_mem hi)
end Go.Proofs.YtfpijjjmgggfkaaDoorE

namespace Go.Proofs.YtfpijjjmgggfkaaDoorE
open Go Go.RowKit Go.Proofs.YtfpijjjmgggfkaaDoorW.PrintWords Go.Proofs.YtfpijjjmgggfkaaDoorW.PrintMore Go.Proofs.YtfpijjjmgggfkaaDoorX Go.Proofs.YtfpijjjmgggfkaaDoor.P26 Go.Proofs.YtfpijjjmgggfkaaDoor.L01
set_option linter.unusedVariables false
set_option linter.unusedSimpArgs false
set_option maxRecDepth 100000
theorem bytes_app {a b : List Int} (h : Bytes a) (h' : Bytes b) : Bytes (a ++ b) := fun x hx => (List.mem_append.1 hx).elim (h x) (h' x)
theorem encT_bytes (s : ByteArray) : Bytes (encT s) := bytes_app (enc_bytes _) (bytesI_bytes s)
theorem attrB_bytes (l : List S44) : Bytes (attrB l) := by
  intro x hx
  unfold attrB at hx
  obtain ⟨a, -, ha⟩ := List.mem_flatMap.1 hx
  unfold encTs at ha
  obtain ⟨s, -, hs⟩ := List.mem_flatMap.1 ha
  exact encT_bytes s x hs
theorem oneB_bytes (x : S42) : Bytes (oneB x) := by
  rw [oneB_body]
  refine bytes_app (enc_bytes _) ?_
  repeat' split
  · exact bytes_app (encT_bytes _) (bytes_app (encT_bytes _) (bytes_app (encT_bytes _) (bytes_app (enc_bytes _) (attrB_bytes _))))
  · exact bytes_app (enc_bytes _) (bytes_app (enc_bytes _) (enc_bytes _))
  · exact bytes_app (enc_bytes _) (enc_bytes _)
  · exact enc_bytes _
  · exact bytes_app (enc_bytes _) (bytes_app (encT_bytes _) (encT_bytes _))
  · exact bytes_app (enc_bytes _) (encT_bytes _)
  · exact bytes_app (enc_bytes _) (encT_bytes _)
theorem encB_bytes (l : List S42) : Bytes (encB l) := by
  unfold encB
  refine bytes_app (encs_bytes _) ?_
  intro x hx
  unfold opsB at hx
  obtain ⟨a, -, ha⟩ := List.mem_flatMap.1 hx
  exact oneB_bytes a x ha
theorem encB_len (l : List S42) (hn : l.length ≤ 1048576) (h : ∀ x ∈ l, chk x = 0) : (encB l).length ≤ 9961472000010 := by
  have h1 := opsB_le l (fun i hi => chk_okW _ (h _ (rd_mem l i hi))) l.length (Nat.le_refl _)
  rw [List.take_length] at h1
  have h2 := encs_le (l.length : Int) (by omega)
  unfold encB
  rw [List.length_append]
  omega
theorem all_of_first (l : List S42) (h : (firstS l).2 = 0) : l.length ≤ 1048576 ∧ ∀ x ∈ l, chk x = 0 := by
  obtain ⟨h1, h2⟩ := firstS_ok l h
  refine ⟨h1, fun x hx => ?_⟩
  obtain ⟨i, hi, rfl⟩ := List.getElem_of_mem hx
  have := h2 i hi
  unfold rd_T42 at this
  rwa [Int.toNat_natCast, List.getD_eq_getElem?_getD, List.getElem?_eq_getElem hi] at this
theorem dec_same (l : List S42) (hn : l.length ≤ 1048576) (h : ∀ x ∈ l, chk x = 0) : decS (encB l) = (l, 0, 0) := by
  have p := readR_put l hn h []
  rw [List.append_nil, if_pos rfl] at p
  rw [decS_ok (by rw [p]), p]
end Go.Proofs.YtfpijjjmgggfkaaDoorE

namespace Go.Proofs.YtfpijjjmgggfkaaDoorE
open Go Go.RowKit Go.Proofs.YtfpijjjmgggfkaaDoorW.PrintWords Go.Proofs.YtfpijjjmgggfkaaDoorW.PrintMore Go.Proofs.YtfpijjjmgggfkaaDoorW.PrintLast Go.Proofs.YtfpijjjmgggfkaaDoorX Go.Proofs.YtfpijjjmgggfkaaDoor.P26 Go.Proofs.YtfpijjjmgggfkaaDoor.L01
set_option linter.unusedVariables false
set_option linter.unusedSimpArgs false
set_option maxRecDepth 100000
theorem rfirst_c (A : Option Addr) (c : Nat) (l : List S42) (w : World) (hgl : GL w) (hl : Kd.C k42 w A l.length l) (hc : l.length ≤ c) (hn : l.length ≤ 9223372036854775807) (hx : ∀ i : Nat, i < l.length → okX (rd_T42 l i)) :
    Calls Tryd.prog 10 #[.slice A l.length c] w fun e w' => e = .returned (.tuple #[.int .i64 (firstS l).1, .int .i64 (firstS l).2]) ∧ Below w.heap.size w w' := by
  obtain ⟨k, hk⟩ := rfirst_ev l hn hx
  exact tendrilref25_First.calls k A c l _ _ w hgl hl hc (hk k (Nat.le_refl _))
theorem renc_c (A : Option Addr) (c : Nat) (l : List S42) (w : World) (hl : Kd.C k42 w A l.length l) (hc : l.length ≤ c) (hn : l.length ≤ 1048576) (h : ∀ x ∈ l, chk x = 0) :
    Calls Tryd.prog 12 #[.slice A l.length c] w fun e w' => (∃ A1 c1, e = .returned (.slice A1 (encB l).length c1) ∧ Kd.C (Kd.int .u8) w' A1 (encB l).length (encB l)) ∧ Below w.heap.size w w' := by
  refine (rEncode_c A c l w hl hc (fun i hi => chk_okW _ (h _ (rd_mem l i hi))) hn).mono ?_
  rintro e w1 ⟨⟨v, rfl, hO⟩, hb⟩
  obtain ⟨A1, c1, rfl, hc1, hC1⟩ := own8_reads hO
  exact ⟨⟨A1, c1, rfl, hC1⟩, hb⟩
set_option maxHeartbeats 2000000 in
theorem back_few (A : Option Addr) (n c : Nat) (l : List S42) (w : World) (hgl : GL w) (h0 : n = l.length ∧ n ≤ c ∧ Kd.C k42 w A l.length l ∧ l.length ≤ 140737488351232 ∧ ∀ i : Nat, i < l.length → okX (rd_T42 l i)) (hfw : Calls Tryd.prog 7 #[.slice A l.length c, .int .i64 200] w fun e w' => e = .returned (.bool false) ∧ Below w.heap.size w w') :
    Calls Tryd.prog 3 #[.slice A n c] w fun e w' => e = .returned (.bool true) ∧ Below w.heap.size w w' := by
  obtain ⟨rfl, hc, hC, hlen, hX⟩ := h0
  have HG := Aside0.mk hgl
  have HFW : Aside0 (Calls Tryd.prog 7 #[.slice A l.length c, .int .i64 200] w fun e w' => e = .returned (.bool false) ∧ Below w.heap.size w w') := ⟨hfw⟩
  clear hgl hC hX hfw
  go_enter Tryd.func3, Tryd.ntmps3
  go_wp2_with (first
    | (go_at_call 7; (with_reducible refine (HFW.out).mono ?_); rintro e w1 ⟨rfl, hb⟩; have HB1 := Aside0.mk hb; clear hb)
    | (go_at_call 8; (with_reducible refine (lsame_c _ (HG.out.below HB1.out)).mono ?_); rintro e w3 ⟨rfl, hb⟩; have HB3 := Aside0.mk (below_then HB1.out HB1.out.size hb); clear hb))
  go_ret
  exact ⟨rfl, HB3.out⟩
set_option maxHeartbeats 2000000 in
theorem back_enc (A : Option Addr) (n c : Nat) (l : List S42) (w : World) (hgl : GL w) (h0 : n = l.length ∧ n ≤ c ∧ Kd.C k42 w A l.length l ∧ l.length ≤ 140737488351232 ∧ ∀ i : Nat, i < l.length → okX (rd_T42 l i)) (hfw : Calls Tryd.prog 7 #[.slice A l.length c, .int .i64 200] w fun e w' => e = .returned (.bool true) ∧ Below w.heap.size w w') (he : (firstS l).2 ≠ 0) :
    Calls Tryd.prog 3 #[.slice A n c] w fun e w' => e = .returned (.bool true) ∧ Below w.heap.size w w' := by
  obtain ⟨rfl, hc, hC, hlen, hX⟩ := h0
  have HG := Aside0.mk hgl
  have HFW : Aside0 (Calls Tryd.prog 7 #[.slice A l.length c, .int .i64 200] w fun e w' => e = .returned (.bool true) ∧ Below w.heap.size w w') := ⟨hfw⟩
  have HENC : Aside0 (∀ W, Below w.heap.size w W → Calls Tryd.prog 9 #[.slice A l.length c] W fun e w' => e = .returned (.tuple #[.slice none 0 0, .int .i64 (firstS l).1, .int .i64 (firstS l).2]) ∧ Below W.heap.size W w') := ⟨fun W hW => Encode_err A c l W (hgl.below hW) (Kd.C_below hC hW) hc hX he⟩
  have HRF : Aside0 (∀ W, Below w.heap.size w W → Calls Tryd.prog 10 #[.slice A l.length c] W fun e w' => e = .returned (.tuple #[.int .i64 (firstS l).1, .int .i64 (firstS l).2]) ∧ Below W.heap.size W w') := ⟨fun W hW => rfirst_c A c l W (hgl.below hW) (Kd.C_below hC hW) hc (by omega) hX⟩
  obtain ⟨E, hE⟩ : ∃ E, E = firstS l := ⟨_, rfl⟩
  rw [← hE] at HENC HRF he
  have h1 : (E.2 == 0) = false := by simpa using he
  have h2 : (E.2 != 0) = true := by simpa using he
  clear hgl hC hX hfw hE
  go_enter Tryd.func3, Tryd.ntmps3
  go_wp2_with (first
    | (go_at_call 7; (with_reducible refine (HFW.out).mono ?_); rintro e w1 ⟨rfl, hb⟩; have HB1 := Aside0.mk hb; clear hb)
    | (go_at_call 9; (with_reducible refine (HENC.out _ HB1.out).mono ?_); rintro e w2 ⟨rfl, hb⟩; have HB2 := Aside0.mk (below_then HB1.out HB1.out.size hb); clear hb)
    | (go_at_call 10; (with_reducible refine (HRF.out _ HB2.out).mono ?_); rintro e w3 ⟨rfl, hb⟩; have HB3 := Aside0.mk (below_then HB2.out HB2.out.size hb); clear hb)
    | (go_at_call 8; (with_reducible refine (lsame_c _ (HG.out.below HB3.out)).mono ?_); rintro e w4 ⟨rfl, hb⟩; have HB4 := Aside0.mk (below_then HB3.out HB3.out.size hb); clear hb))
  go_ret
  exact ⟨rfl, HB4.out⟩
set_option maxHeartbeats 4000000 in
theorem back_ok (A : Option Addr) (n c : Nat) (l : List S42) (w : World) (hgl : GL w) (h0 : n = l.length ∧ n ≤ c ∧ Kd.C k42 w A l.length l ∧ l.length ≤ 140737488351232 ∧ ∀ i : Nat, i < l.length → okX (rd_T42 l i)) (hfw : Calls Tryd.prog 7 #[.slice A l.length c, .int .i64 200] w fun e w' => e = .returned (.bool true) ∧ Below w.heap.size w w') (he : (firstS l).2 = 0) :
    Calls Tryd.prog 3 #[.slice A n c] w fun e w' => e = .returned (.bool true) ∧ Below w.heap.size w w' := by
  obtain ⟨rfl, hc, hC, hlen, hX⟩ := h0
  have HG := Aside0.mk hgl
  have HFW : Aside0 (Calls Tryd.prog 7 #[.slice A l.length c, .int .i64 200] w fun e w' => e = .returned (.bool true) ∧ Below w.heap.size w w') := ⟨hfw⟩
  have hf0 := firstS_eq l he
  obtain ⟨q1, q2⟩ := all_of_first l he
  have hbl := encB_len l q1 q2
  have HENC : Aside0 (∀ W, Below w.heap.size w W → Calls Tryd.prog 9 #[.slice A l.length c] W fun e w' => (∃ A1 c1, e = .returned (.tuple #[.slice A1 (encB l).length c1, .int .i64 0, .int .i64 0]) ∧ (encB l).length ≤ c1 ∧ Kd.C (Kd.int .u8) w' A1 (encB l).length (encB l)) ∧ Below W.heap.size W w') := ⟨fun W hW => enc_c A c l W (hgl.below hW) (Kd.C_below hC hW) hc q1 q2⟩
  have HREN : Aside0 (∀ W, Below w.heap.size w W → Calls Tryd.prog 12 #[.slice A l.length c] W fun e w' => (∃ A1 c1, e = .returned (.slice A1 (encB l).length c1) ∧ Kd.C (Kd.int .u8) w' A1 (encB l).length (encB l)) ∧ Below W.heap.size W w') := ⟨fun W hW => renc_c A c l W (Kd.C_below hC hW) hc q1 q2⟩
  have HRF : Aside0 (∀ W, Below w.heap.size w W → Calls Tryd.prog 10 #[.slice A l.length c] W fun e w' => e = .returned (.tuple #[.int .i64 0, .int .i64 0]) ∧ Below W.heap.size W w') := ⟨fun W hW => by
    have := rfirst_c A c l W (hgl.below hW) (Kd.C_below hC hW) hc (by omega) hX
    rw [hf0] at this
    exact this⟩
  have HDC : Aside0 (∀ W A1 c1, Below w.heap.size w W → (encB l).length ≤ c1 → Kd.C (Kd.int .u8) W A1 (encB l).length (encB l) → Calls Tryd.prog 11 #[.slice A1 (encB l).length c1] W fun e w' => (∃ A1 c1, e = .returned (.tuple #[.slice A1 l.length c1, .int .i64 0, .int .i64 0]) ∧ l.length ≤ c1 ∧ Kd.C k42 w' A1 l.length l) ∧ Below W.heap.size W w') := ⟨fun W A1 c1 hW hc1 hC1 => by
    have := dec_c A1 c1 (encB l) W (hgl.below hW) hC1 hc1 (encB_bytes l) (by omega)
    rw [dec_same l q1 q2] at this
    exact this⟩
  obtain ⟨bs, hbs⟩ : ∃ bs, bs = encB l := ⟨_, rfl⟩
  rw [← hbs] at HENC HDC HREN hbl
  have HCL := Aside0.mk hC
  have HCC := Aside0.mk hc
  clear hgl hC hX hfw hbs q1 q2 he hf0
  go_enter Tryd.func3, Tryd.ntmps3
  go_wp2_with (first
    | (go_at_call 7; (with_reducible refine (HFW.out).mono ?_); rintro e w1 ⟨rfl, hb⟩; have HB1 := Aside0.mk hb; clear hb)
    | (go_at_call 9; (with_reducible refine (HENC.out _ HB1.out).mono ?_); rintro e w2 ⟨⟨A1, c1, rfl, hc1, hC1⟩, hb⟩; have HB2 := Aside0.mk (below_then HB1.out HB1.out.size hb); have HC1 := Aside0.mk hC1; have HL1 := Aside0.mk hc1; clear hb hC1 hc1)
    | (go_at_call 10; (with_reducible refine (HRF.out _ HB2.out).mono ?_); rintro e w3 ⟨rfl, hb⟩; have HB3 := Aside0.mk (below_then HB2.out HB2.out.size hb); have HC3 := Aside0.mk (Kd.C_below HC1.out hb); clear hb)
    | (go_at_call 11; (with_reducible refine (HDC.out _ A1 c1 HB3.out HL1.out HC3.out).mono ?_); rintro e w4 ⟨⟨A4, c4, rfl, hc4, hC4⟩, hb⟩; have HB4 := Aside0.mk (below_then HB3.out HB3.out.size hb); have HC4 := Aside0.mk hC4; have HL4 := Aside0.mk hc4; have HC5 := Aside0.mk (Kd.C_below HC3.out hb); clear hb hC4 hc4))
  have HB5 := Aside0.mk (below_drew HB4.out)
  have HD5 := Aside0.mk (Kd.C_below HC5.out (below_drew (Below.refl _ _)))
  have HM5 := Aside0.mk (Kd.C_below HC4.out (below_drew (Below.refl _ _)))
  have hcv := Kd.C_string (dst := 9) (c := c1) Tryd.underlying25 Tryd.underlying5 Tryd.underlying9 (HD5.out)
  refine start_ (n := 23) (S := fun w' => (convert 25 9 (.slice A1 bs.length c1)).run Tryd.prog w' = .ok (.string (strOfNums bs)) w') (ds := []) #[false, false, false, false, false, false, false, false, false, false, false, false, false, false, false, false, false, false, false, false, false, false, false] (by kernel_rfl) rfl rfl hcv (fun hHeld => ?_)
  refine pure_ (i := 0) (N := some 48) (v := ?_) (a' := ?_) #[true, false, false, false, false, false, false, false, false, false, false, false, false, false, false, false, false, false, false, false, false, false, false] rfl rfl (by kernel_rfl) (fun _ _ _ h => h) (Or.inl ⟨by rfl, ?_⟩) ?_ ?_
  rotate_left
  · intro w'
    go_simp
    with_reducible rfl
  rotate_left
  · simp only [Act.put, List.setIfInBounds_toArray, List.set_cons_zero, List.set_cons_succ, i64_w, i32_w]
    rfl
  refine take_ (i := 1) (N := some 49) (v := ?_) (a' := ?_) #[true, true, false, false, false, false, false, false, false, false, false, false, false, false, false, false, false, false, false, false, false, false, false] rfl rfl (by kernel_rfl) (fun _ _ _ h => h) (Or.inl ⟨by rfl, ?_⟩) hHeld ?_ ?_
  rotate_left
  · intro w' s0
    go_split_ands
    go_simp
    with_reducible rfl
  rotate_left
  · simp only [Act.put, List.setIfInBounds_toArray, List.set_cons_zero, List.set_cons_succ, i64_w, i32_w]
    rfl
  refine pure_ (i := 2) (N := some 50) (v := ?_) (a' := ?_) #[true, true, true, false, false, false, false, false, false, false, false, false, false, false, false, false, false, false, false, false, false, false, false] rfl rfl (by kernel_rfl) (fun _ _ _ h => h) (Or.inl ⟨by rfl, ?_⟩) ?_ ?_
  rotate_left
  · intro w'
    go_simp
    with_reducible rfl
  rotate_left
  · simp only [Act.put, List.setIfInBounds_toArray, List.set_cons_zero, List.set_cons_succ, i64_w, i32_w]
    rfl
  refine one_ (i := 3) (N := some 51) #[true, true, true, true, false, false, false, false, false, false, false, false, false, false, false, false, false, false, false, false, false, false, false] rfl rfl (by kernel_rfl) (by decide) (fun K hK => ?_)
  refine goes_ Tryd.func12 (by kernel_rfl) rfl #[.slice A l.length c] (by rfl) rfl rfl (by (try simp only [List.map_toArray, List.map_cons, List.map_nil]); first | done | rfl) ?_
  refine (HREN.out _ HB5.out).mono ?_
  rintro e w' ⟨⟨A6, c6, rfl, hC6⟩, hb⟩
  refine ⟨_, rfl, ?_⟩
  have HB6 := Aside0.mk (below_then HB5.out HB5.out.size hb)
  have HD6 := Aside0.mk (Kd.C_below HD5.out hb)
  have HM6 := Aside0.mk (Kd.C_below HM5.out hb)
  have hcv6 := Kd.C_string (dst := 9) (c := c1) Tryd.underlying25 Tryd.underlying5 Tryd.underlying9 (HD6.out)
  have hcw6 := Kd.C_string (dst := 9) (c := c6) Tryd.underlying25 Tryd.underlying5 Tryd.underlying9 (hC6)
  clear hb hC6
  refine hK.out _ _ hcv6 (fun hHeld => ?_)
  clear hK K
  refine norm_ (a' := ?_) ?_ ?_
  rotate_left
  · show Act.put _ (some 51) _ = _
    simp only [Act.put, List.setIfInBounds_toArray, List.set_cons_zero, List.set_cons_succ, i64_w, i32_w]
    rfl
  refine one_ (i := 4) (N := some 52) #[true, true, true, true, true, false, false, false, false, false, false, false, false, false, false, false, false, false, false, false, false, false, false] rfl rfl (by kernel_rfl) (by decide) (fun K hK => ?_)
  refine value_ (w1 := w') (v := .string (strOfNums bs)) (by rfl) rfl ?_ ?_
  · go_simp
  refine hK.out _ _ hcv6 (fun hHeld => ?_)
  clear hK K
  refine norm_ (a' := ?_) ?_ ?_
  rotate_left
  · show Act.put _ (some 52) _ = _
    simp only [Act.put, List.setIfInBounds_toArray, List.set_cons_zero, List.set_cons_succ, i64_w, i32_w]
    rfl
  refine pure_ (i := 5) (N := some 53) (v := ?_) (a' := ?_) #[true, true, true, true, true, true, false, false, false, false, false, false, false, false, false, false, false, false, false, false, false, false, false] rfl rfl (by kernel_rfl) (fun _ _ _ h => h) (Or.inl ⟨by rfl, ?_⟩) ?_ ?_
  rotate_left
  · intro w'
    go_simp
    with_reducible rfl
  rotate_left
  · simp only [Act.put, List.setIfInBounds_toArray, List.set_cons_zero, List.set_cons_succ, i64_w, i32_w]
    rfl
  refine pure_ (i := 6) (N := some 54) (v := ?_) (a' := ?_) #[true, true, true, true, true, true, true, false, false, false, false, false, false, false, false, false, false, false, false, false, false, false, false] rfl rfl (by kernel_rfl) (fun _ _ _ h => h) (Or.inl ⟨by rfl, ?_⟩) ?_ ?_
  rotate_left
  · intro w'
    go_simp
    with_reducible rfl
  rotate_left
  · simp only [Act.put, List.setIfInBounds_toArray, List.set_cons_zero, List.set_cons_succ, i64_w, i32_w]
    rfl
  refine pure_ (i := 7) (N := some 55) (v := ?_) (a' := ?_) #[true, true, true, true, true, true, true, true, false, false, false, false, false, false, false, false, false, false, false, false, false, false, false] rfl rfl (by kernel_rfl) (fun _ _ _ h => h) (Or.inl ⟨by rfl, ?_⟩) ?_ ?_
  rotate_left
  · intro w'
    go_simp
    with_reducible rfl
  rotate_left
  · simp only [Act.put, List.setIfInBounds_toArray, List.set_cons_zero, List.set_cons_succ, i64_w, i32_w]
    rfl
  refine pure_ (i := 8) (N := some 56) (v := ?_) (a' := ?_) #[true, true, true, true, true, true, true, true, true, false, false, false, false, false, false, false, false, false, false, false, false, false, false] rfl rfl (by kernel_rfl) (fun _ _ _ h => h) (Or.inl ⟨by rfl, ?_⟩) ?_ ?_
  rotate_left
  · intro w'
    go_simp
    with_reducible rfl
  rotate_left
  · simp only [Act.put, List.setIfInBounds_toArray, List.set_cons_zero, List.set_cons_succ, i64_w, i32_w]
    rfl
  refine pure_ (i := 9) (N := some 57) (v := ?_) (a' := ?_) #[true, true, true, true, true, true, true, true, true, true, false, false, false, false, false, false, false, false, false, false, false, false, false] rfl rfl (by kernel_rfl) (fun _ _ _ h => h) (Or.inl ⟨by rfl, ?_⟩) ?_ ?_
  rotate_left
  · intro w'
    go_simp
    with_reducible rfl
  rotate_left
  · simp only [Act.put, List.setIfInBounds_toArray, List.set_cons_zero, List.set_cons_succ, i64_w, i32_w]
    rfl
  refine pure_ (i := 10) (N := some 58) (v := ?_) (a' := ?_) #[true, true, true, true, true, true, true, true, true, true, true, false, false, false, false, false, false, false, false, false, false, false, false] rfl rfl (by kernel_rfl) (fun _ _ _ h => h) (Or.inl ⟨by rfl, ?_⟩) ?_ ?_
  rotate_left
  · intro w'
    go_simp
    with_reducible rfl
  rotate_left
  · simp only [Act.put, List.setIfInBounds_toArray, List.set_cons_zero, List.set_cons_succ, i64_w, i32_w]
    rfl
  refine pure_ (i := 11) (N := some 59) (v := ?_) (a' := ?_) #[true, true, true, true, true, true, true, true, true, true, true, true, false, false, false, false, false, false, false, false, false, false, false] rfl rfl (by kernel_rfl) (fun _ _ _ h => h) (Or.inl ⟨by rfl, ?_⟩) ?_ ?_
  rotate_left
  · intro w'
    go_simp
    with_reducible rfl
  rotate_left
  · simp only [Act.put, List.setIfInBounds_toArray, List.set_cons_zero, List.set_cons_succ, i64_w, i32_w]
    rfl
  refine pure_ (i := 12) (N := some 60) (v := ?_) (a' := ?_) #[true, true, true, true, true, true, true, true, true, true, true, true, true, false, false, false, false, false, false, false, false, false, false] rfl rfl (by kernel_rfl) (fun _ _ _ h => h) (Or.inl ⟨by rfl, ?_⟩) ?_ ?_
  rotate_left
  · intro w'
    go_simp
    with_reducible rfl
  rotate_left
  · simp only [Act.put, List.setIfInBounds_toArray, List.set_cons_zero, List.set_cons_succ, i64_w, i32_w]
    rfl
  refine pure_ (i := 13) (N := some 61) (v := ?_) (a' := ?_) #[true, true, true, true, true, true, true, true, true, true, true, true, true, true, false, false, false, false, false, false, false, false, false] rfl rfl (by kernel_rfl) (fun _ _ _ h => h) (Or.inl ⟨by rfl, ?_⟩) ?_ ?_
  rotate_left
  · intro w'
    go_simp
    with_reducible rfl
  rotate_left
  · simp only [Act.put, List.setIfInBounds_toArray, List.set_cons_zero, List.set_cons_succ, i64_w, i32_w]
    rfl
  refine pure_ (i := 14) (N := some 62) (v := ?_) (a' := ?_) #[true, true, true, true, true, true, true, true, true, true, true, true, true, true, true, false, false, false, false, false, false, false, false] rfl rfl (by kernel_rfl) (fun _ _ _ h => h) (Or.inl ⟨by rfl, ?_⟩) ?_ ?_
  rotate_left
  · intro w'
    go_simp
    with_reducible rfl
  rotate_left
  · simp only [Act.put, List.setIfInBounds_toArray, List.set_cons_zero, List.set_cons_succ, i64_w, i32_w]
    rfl
  refine pure_ (i := 15) (N := some 63) (v := ?_) (a' := ?_) #[true, true, true, true, true, true, true, true, true, true, true, true, true, true, true, true, false, false, false, false, false, false, false] rfl rfl (by kernel_rfl) (fun _ _ _ h => h) (Or.inl ⟨by rfl, ?_⟩) ?_ ?_
  rotate_left
  · intro w'
    go_simp
    with_reducible rfl
  rotate_left
  · simp only [Act.put, List.setIfInBounds_toArray, List.set_cons_zero, List.set_cons_succ, i64_w, i32_w]
    rfl
  refine pure_ (i := 16) (N := some 64) (v := ?_) (a' := ?_) #[true, true, true, true, true, true, true, true, true, true, true, true, true, true, true, true, true, false, false, false, false, false, false] rfl rfl (by kernel_rfl) (fun _ _ _ h => h) (Or.inl ⟨by rfl, ?_⟩) ?_ ?_
  rotate_left
  · intro w'
    go_simp
    with_reducible rfl
  rotate_left
  · simp only [Act.put, List.setIfInBounds_toArray, List.set_cons_zero, List.set_cons_succ, i64_w, i32_w]
    rfl
  refine one_ (i := 17) (N := some 65) #[true, true, true, true, true, true, true, true, true, true, true, true, true, true, true, true, true, true, false, false, false, false, false] rfl rfl (by kernel_rfl) (by decide) (fun K hK => ?_)
  refine goes_ Tryd.func13 (by kernel_rfl) rfl #[.slice A4 l.length c4, .slice A l.length c] (by rfl) rfl rfl (by (try simp only [List.map_toArray, List.map_cons, List.map_nil]); first | done | rfl) ?_
  refine (ops_R (base := 0) (base' := 0) (ok := fun _ => True) (ok' := fun _ => True) _ (HG.out.below HB6.out) HM6.out HL4.out (Kd.C_below HCL.out HB6.out) HCC.out).mono ?_
  rintro e w' ⟨rfl, hb⟩
  refine ⟨_, rfl, ?_⟩
  have HB7 := Aside0.mk (below_then HB6.out HB6.out.size hb)
  have HD7 := Aside0.mk (Kd.C_below HD6.out hb)
  have hcv7 := Kd.C_string (dst := 9) (c := c1) Tryd.underlying25 Tryd.underlying5 Tryd.underlying9 (HD7.out)
  clear hb
  refine hK.out _ _ hcv7 (fun hHeld => ?_)
  clear hK K
  refine norm_ (a' := ?_) ?_ ?_
  rotate_left
  · show Act.put _ (some 65) _ = _
    simp only [Act.put, List.setIfInBounds_toArray, List.set_cons_zero, List.set_cons_succ, i64_w, i32_w]
    rfl
  refine pure_ (i := 18) (N := some 66) (v := ?_) (a' := ?_) #[true, true, true, true, true, true, true, true, true, true, true, true, true, true, true, true, true, true, true, false, false, false, false] rfl rfl (by kernel_rfl) (fun _ _ _ h => h) (Or.inl ⟨by rfl, ?_⟩) ?_ ?_
  rotate_left
  · intro w'
    go_simp
    with_reducible rfl
  rotate_left
  · simp only [Act.put, List.setIfInBounds_toArray, List.set_cons_zero, List.set_cons_succ, i64_w, i32_w]
    rfl
  refine pure_ (i := 19) (N := some 67) (v := ?_) (a' := ?_) #[true, true, true, true, true, true, true, true, true, true, true, true, true, true, true, true, true, true, true, true, false, false, false] rfl rfl (by kernel_rfl) (fun _ _ _ h => h) (Or.inl ⟨by rfl, ?_⟩) ?_ ?_
  rotate_left
  · intro w'
    go_simp
    with_reducible rfl
  rotate_left
  · simp only [Act.put, List.setIfInBounds_toArray, List.set_cons_zero, List.set_cons_succ, i64_w, i32_w]
    rfl
  refine one_ (i := 20) (N := some 68) #[true, true, true, true, true, true, true, true, true, true, true, true, true, true, true, true, true, true, true, true, true, false, false] rfl rfl (by kernel_rfl) (by decide) (fun K hK => ?_)
  refine goes_ Tryd.func8 (by kernel_rfl) rfl #[] (by rfl) rfl rfl (by (try simp only [List.map_toArray, List.map_cons, List.map_nil]); first | done | rfl) ?_
  refine (lsame_c _ (HG.out.below HB7.out)).mono ?_
  rintro e w' ⟨rfl, hb⟩
  refine ⟨_, rfl, ?_⟩
  have HB8 := Aside0.mk (below_then HB7.out HB7.out.size hb)
  have HD8 := Aside0.mk (Kd.C_below HD7.out hb)
  have hcv8 := Kd.C_string (dst := 9) (c := c1) Tryd.underlying25 Tryd.underlying5 Tryd.underlying9 (HD8.out)
  clear hb
  refine hK.out _ _ hcv8 (fun hHeld => ?_)
  clear hK K
  refine norm_ (a' := ?_) ?_ ?_
  rotate_left
  · show Act.put _ (some 68) _ = _
    simp only [Act.put, List.setIfInBounds_toArray, List.set_cons_zero, List.set_cons_succ, i64_w, i32_w]
    rfl
  refine pure_ (i := 21) (N := some 69) (v := ?_) (a' := ?_) #[true, true, true, true, true, true, true, true, true, true, true, true, true, true, true, true, true, true, true, true, true, true, false] rfl rfl (by kernel_rfl) (fun _ _ _ h => h) (Or.inl ⟨by rfl, ?_⟩) ?_ ?_
  rotate_left
  · intro w'
    go_simp
    with_reducible rfl
  rotate_left
  · simp only [Act.put, List.setIfInBounds_toArray, List.set_cons_zero, List.set_cons_succ, i64_w, i32_w]
    rfl
  refine pure_ (i := 22) (N := some 2) (v := ?_) (a' := ?_) #[true, true, true, true, true, true, true, true, true, true, true, true, true, true, true, true, true, true, true, true, true, true, true] rfl rfl (by kernel_rfl) (fun _ _ _ h => h) (Or.inl ⟨by rfl, ?_⟩) ?_ ?_
  rotate_left
  · intro w'
    go_simp
    with_reducible rfl
  rotate_left
  · simp only [Act.put, List.setIfInBounds_toArray, List.set_cons_zero, List.set_cons_succ, i64_w, i32_w]
    rfl
  refine done_ (by kernel_rfl) ?_
  go_wp2_with fail
  go_ret
  exact ⟨rfl, HB8.out⟩
theorem codecBack_w (A : Option Addr) (n c : Nat) (l : List S42) (w : World) (hgl : GL w) (h0 : n = l.length ∧ n ≤ c ∧ Kd.C k42 w A l.length l ∧ l.length ≤ 140737488351232 ∧ ∀ i : Nat, i < l.length → okX (rd_T42 l i)) :
    Calls Tryd.prog 3 #[.slice A n c] w fun e w' => e = .returned (.bool true) ∧ Below w.heap.size w w' := by
  have h0' := h0
  obtain ⟨rfl, hc, hC, hlen, hX⟩ := h0'
  have hn : l.length ≤ 9223372036854775807 := by omega
  have hf : ∀ i : Nat, i < l.length → (rd_T42 l i).f8.length ≤ 9223372036854775807 := fun i hi => by have := (hX i hi).2.2.2.2.2.2.2.2.1; omega
  obtain ⟨b, k, hk⟩ := few_l0 l hn hf l.length 0 (by omega) 200
  have hfw : Calls Tryd.prog 7 #[.slice A l.length c, .int .i64 200] w fun e w' => e = .returned (.bool b) ∧ Below w.heap.size w w' := tendrilplain_FewOps.calls k A c l 200 b w hgl hC hc (hk k (Nat.le_refl _))
  cases b with
  | false => exact back_few A _ c l w hgl h0 hfw
  | true =>
    by_cases he : (firstS l).2 = 0
    · exact back_ok A _ c l w hgl h0 hfw he
    · exact back_enc A _ c l w hgl h0 hfw he
end Go.Proofs.YtfpijjjmgggfkaaDoorE

namespace Go.Proofs.YtfpijjjmgggfkaaDoor.codecBack
open Go.ChangeShapes Go.WideShapes Go.ChangeAt Go.RowKit
open Go.ChangeMaps (open_string shut_string)
set_option linter.unusedVariables false
theorem own : ownKnob Tryd.prog.godebug = none := by kernel_rfl
theorem door_met (os : Os) (args : Array Value) : laidMetH Tryd.prog Rows.codecBackRow.laid ((World.doorLaid Tryd.prog 62 os).forCall (fun _ _ => 0) ⟨#[], args, []⟩).memory :=
  laidMetH_of_parts3 (fuel := 8) (laidMet_of_run' 8 (by kernel_rfl) (by kernel_rfl)) (by kernel_rfl) (by kernel_rfl)
theorem gl {W : World} (h : laidMetH Tryd.prog Rows.codecBackRow.laid W) : Go.Proofs.YtfpijjjmgggfkaaDoorX.GL W := by
  rw [MakeChecks.laidMetH_plain _ _ _ (by kernel_rfl)] at h
  exact Go.Proofs.YtfpijjjmgggfkaaDoorX.gl_of h
theorem laidOut : laidOutB Tryd.prog = true := by kernel_rfl
set_option maxRecDepth 100000 in
theorem lifted (os : Os) (started : os.Started) (H : Type) (enc : TypeId × Value → H) :
    ReturnsInHanded {} Tryd.checked os 3 .any (fun w args => (Rows.codecBackSpec.pre enc Tryd.prog Tryd.f3 [] false w args ∧ laidMetH Tryd.prog Rows.codecBackRow.laid w) ∧ sizedMet enc Tryd.prog Tryd.f3 (OpenSpec.ofChange Rows.codecBackSpec) false w args) (Rows.codecBackSpec.post enc Tryd.prog Tryd.f3 false true false false) := by
  refine returnsInHanded_of_change_and (C := Tryd.checked) (X := fun w _ => laidMetH Tryd.prog Rows.codecBackRow.laid w) (fun _ _ _ hh h => h.of_heap hh) own started (by kernel_rfl) Tryd.func3
    (ChangeSpec.witness_shaped (enc := enc) (C := Tryd.checked) (os := os) (X := fun w _ => laidMetH Tryd.prog Rows.codecBackRow.laid w) false (World.doorLaid Tryd.prog 62 os) #[.slice none 0 0] 8 rfl (World.shaped_of_RefB (by kernel_rfl) (by kernel_rfl)) (by kernel_rfl) (by kernel_rfl) (by kernel_rfl) (door_met os _)) ?_
  intro W base args ds gs before hval0 hW _ hsz0 hL _
  have hgl := gl hL
  have hsz : (DataW.weightsEach Tryd.prog (Tryd.f3.params.toList ++ Rows.codecBackSpec.plain.varTypes Tryd.prog) (ds ++ gs)).all (· ≤ reachBytes) = true := hsz0
  have hval : ∀ (j : Nat) t v, Tryd.f3.params[j]? = some t → args[j]? = some v → Value.okWide Tryd.prog W .any base t v := hval0
  have hW' := hW
  obtain ⟨p, q, hA0, hV, rfl, hfz, hnd⟩ := hW
  have hA : DataW.TrodAll enc Tryd.prog W 0 (fun _ => true) true Tryd.f3.params.toList args.toList ds p := hA0
  rw [Tryd.params3] at hA hval hsz
  obtain ⟨v0, vs0, d0, ds0, p0, q0, hargs, rfl, rfl, h0, r0⟩ := trodAll_cons hA
  obtain ⟨rfl, rfl, rfl⟩ := trodAll_nil r0
  obtain rfl : args = #[v0] := by cases args; simp_all
  obtain ⟨rfl, rfl⟩ := trodVars_none hV
  have k0 := h0
  have lt0 : ∀ x ∈ p0, x.block < W.heap.size := by obtain ⟨m, hm⟩ := k0; exact DataW.trod_lt m _ _ _ hm
  obtain ⟨a0, len0, cap0, rfl⟩ := okWide_slice Tryd.underlying22 (hval 0 22 v0 rfl rfl)
  obtain ⟨b0, w0⟩ := (by
    obtain ⟨fuel, hf⟩ := h0
    exact Go.Proofs.YtfpijjjmgggfkaaDoorE.openOps hf (fun n hn => of_decide_eq_true (List.all_eq_true.1 hsz n (DataW.weights_mem_each (j := 0) (t := 22) rfl rfl n hn))) : Go.Proofs.YtfpijjjmgggfkaaDoorE.openOpsT W a0 len0 cap0)
  clear hA0 hval0 hsz0 hsz hL
  refine (Go.Proofs.YtfpijjjmgggfkaaDoorE.codecBack_w a0 len0 cap0 b0 W hgl w0).mono fun e W' ⟨he, bel⟩ => ?_
  subst he
  exact ⟨_, rfl, _, _, _, [], _, [], hW', trodAll_mk1 (shut_bool Tryd.underlying4 _), (trodAll_cons_mk (Below.trod laidOut (by kernel_rfl) (of_decide_eq_true (by kernel_rfl)) k0 bel lt0) trodAll_mk0), rfl, bel.frame _, fun h => by cases h⟩
theorem over : Rows.codecBackRow.holds Tryd.pinned (OpenSpec.ofChange Rows.codecBackSpec) :=
  OpenClaim.holds_of_wide 3 Tryd.f3 rfl rfl rfl rfl rfl rfl rfl ⟨rfl, rfl, rfl, rfl, rfl⟩ rfl rfl rfl rfl rfl (by kernel_rfl) Tryd.func3 (by kernel_rfl)
    (of_decide_eq_true (by kernel_rfl)) (by unfold Func.isWrapper; first | (rw [if_pos (by decide +kernel)]; kernel_rfl) | (rw [if_neg (by decide +kernel)]; exact ⟨rfl, rfl⟩))
    (fun os started H enc _ => lifted os started H enc)
theorem wants : ∀ (j : Nat) (t : TypeId), Tryd.f3.params[j]? = some t → Tryd.prog.wantsStandIn t = false := by
  intro j t ht
  rw [Tryd.params3] at ht
  rcases j with _ | j
  · have h3 : t = 22 := by simpa using ht.symm
    subst h3
    exact (show Tryd.prog.wantsStandIn 22 = false by kernel_rfl)
  simp at ht
theorem proved : Rows.CodecBackCardSaid :=
  Claim7.holds_tied_plain_at .later [] [.data, .data, .data] true (true, "e651c56637a872e7731d1c4fd1cb8e9780fa61b54909fcf8245d51d4264785a9") true
    over (fun _ h => by cases h) (by kernel_rfl) (fun _ h => by cases h) codecBack_row_tie rfl ⟨rfl, rfl⟩ (by kernel_rfl) rfl
    (fun f fn hf hfn => by
      obtain rfl : f = 3 := Option.some.inj ((show Tryd.prog.funcNamed "tendril/tendrillaw26.CodecBack" = some 3 by kernel_rfl).symm.trans hf) |>.symm
      obtain rfl : fn = Tryd.f3 := (Option.some.inj (Tryd.func3.symm.trans hfn)).symm
      exact ⟨by kernel_rfl, wants⟩)
    (by kernel_rfl)
end Go.Proofs.YtfpijjjmgggfkaaDoor.codecBack
namespace Go.Proofs.YtfpijjjmgggfkaaDoor
/-- The card, under a short name, for the claim. -/
theorem codecBack_holds : Rows.CodecBackCardSaid := codecBack.proved
end Go.Proofs.YtfpijjjmgggfkaaDoor
